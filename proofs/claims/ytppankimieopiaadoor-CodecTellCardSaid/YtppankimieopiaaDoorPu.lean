/-
  Closed runs whose slots lie in a tree: they answer what those with lists do. Conditions: as typed.
-/
import Derived.Test.YtppankimieopiaaDoorPt
namespace Go.Ep
open Go.RowKit
set_option linter.unusedVariables false
set_option linter.unusedSimpArgs false
def evG (g : Nat → AV) : Operand → AV
  | .tmp n => g n
  | .const v => ofV v
  | .func f => .one (.raw (.func (.func f) #[] #[]))
  | .global n => .one (.raw (.pointer (some ⟨n, 0, none⟩)))
def evsG (g : Nat → AV) : List Operand → List AV
  | [] => []
  | x :: xs => evG g x :: evsG g xs
def evpG (g : Nat → AV) : List (Nat × Operand) → List (Nat × AV)
  | [] => []
  | (i, x) :: xs => (i, evG g x) :: evpG g xs
def capsG (g : Nat → AV) : List Operand → Option (List (Nat × Nat))
  | [] => some []
  | x :: xs => match evG g x with
    | .one (.ptr i o) => match capsG g xs with
      | some r => some ((i, o) :: r)
      | none => none
    | _ => none
def boundG (g : Nat → AV) (x : Option Operand) (d : Nat) : Option (Cond × Nat) := match x with
  | none => some (.t, d)
  | some x => match constIx x with
    | some k => some (.t, k)
    | none => match evG g x with
      | .one l => ixL l
      | _ => none
def rq_alloc (P : Program) (gg : Nat → AV) (T : TypeId) : Option (Cond × Req) := match P.info? T with
    | some i => match i.zero with
      | some z => match (ofV z).ls with
        | some ls => some (.t, .new (.cells T (norm P 8 T ls)) .p)
        | none => none
      | none => none
    | none => none
def rq_makeMap (P : Program) (gg : Nat → AV) (T : TypeId) (r : Option Operand) : Option (Cond × Req) := match r with
    | some _ => none
    | none => match P.underlying T with
      | some (.map k e) => match isI64 P k with
        | true => match isI64 P e with
          | true => some (.t, .new (.imap []) .m)
          | false => none
        | false => none
      | _ => none
def rq_mapUpdate (P : Program) (gg : Nat → AV) (T : TypeId) (x : Operand) (k : Operand) (v : Operand) : Option (Cond × Req) := match evG gg x with
    | .one (.imap i) => match P.underlying T with
      | some (.map kt et) => match isI64 P kt, isI64 P et with
        | true, true => match evG gg k, evG gg v with
          | .one (.b64 true a), .one (.b64 true b) => some (.t, .wr i fun
            | .imap es => some (.t, .imap (mput es a b))
            | _ => none)
          | _, _ => none
        | _, _ => none
      | _ => none
    | _ => none
def rq_box (P : Program) (gg : Nat → AV) (T : TypeId) (x : Operand) : Option (Cond × Req) := match (evG gg x).ls with
    | some ls => some (.t, .new (.cells T ls) .p)
    | none => none
def rq_build (P : Program) (gg : Nat → AV) (T : TypeId) (parts : Array (Nat × Operand)) : Option (Cond × Req) := match P.info? T with
    | some i => match i.zero with
      | some z => match (ofV z).ls with
        | some zs => match P.underlying T with
          | some (.struct fs) => match placesOf P fs.toList with
            | some pl => match fillLs (nth pl) (match parts.toList with | [] => norm P 8 T zs | _ :: _ => zs) (evpG gg parts.toList) with
              | some ls => some (.t, .val (.agg ls))
              | none => none
            | none => none
          | some (.array _ e) => match P.info? e with
            | some inf => match fillLs (fun i => some (i * inf.size, inf.size)) (match parts.toList with | [] => norm P 8 T zs | _ :: _ => zs) (evpG gg parts.toList) with
              | some ls => some (.t, .val (.agg ls))
              | none => none
            | none => none
          | _ => none
        | none => none
      | none => none
    | none => none
def rq_buildSlice (P : Program) (gg : Nat → AV) (T : TypeId) (len : Nat) (parts : Array (Nat × Operand)) : Option (Cond × Req) := match P.underlying T with
    | some (.slice e) => match P.info? e with
      | some inf => match inf.zero with
        | some z => match (ofV z).ls with
          | some zs => match Nat.beq zs.length inf.size, Nat.ble (len * inf.size) 16777216, fillLs (fun i => some (i * inf.size, inf.size)) (zfill zs (len * inf.size) 0) (evpG gg parts.toList) with
            | true, true, some ls => match Nat.beq (len * inf.size) 0 with
              | false => some (.t, slcReq e inf.size len ls)
              | true => none
            | _, _, _ => none
          | none => none
        | none => none
      | none => none
    | _ => none
def rq_load (P : Program) (gg : Nat → AV) (T : TypeId) (a : Operand) : Option (Cond × Req) := match evG gg a with
    | .one (.ptr i off) => match P.info? T with
      | some inf => match isAggT P T with
         | some true => some (.t, .rd i fun b => match b.rdL with
            | some ls => match takeL (dropL ls off) inf.size with
              | some r => some (.t, .agg r)
              | none => none
            | none => none)
         | some false => some (.t, .rd i fun b => match b.rdL with
            | some ls => match headL (dropL ls off) with
              | some l => some (.t, .one l)
              | none => none
            | none => none)
         | none => none
      | none => none
    | .one (.raw (.pointer (some p))) => match p.spot with
      | none => some (.t, .glob T p.block p.off)
      | some _ => none
    | .one (.eptr i off n k) => match P.info? T with
      | some inf => match isAggT P T with
         | some false => some (.p (k < n), .rd i fun b => match b.rdL with
            | some ls => match takeL (dropL ls off) n with
              | some r => match selL r k with
                | some l => some (.t, .one l)
                | none => none
              | none => none
            | none => none)
         | _ => none
      | none => none
    | .one (.rptr i o z k p) => match P.info? T with
      | some inf => match isAggT P T with
        | some true => some (.t, .rd i fun b => match b.rdL with
          | some ls => match rdR ls o z k p inf.size with
            | some (c, r) => some (c, .agg r)
            | none => none
          | none => none)
        | some false => some (.t, .rd i fun b => match b.rdL with
          | some ls => match rdR ls o z k p 1 with
            | some (c, r) => match headL r with
              | some l => some (c, .one l)
              | none => none
            | none => none
          | none => none)
        | none => none
      | none => none
    | _ => none
def rq_lookup (P : Program) (gg : Nat → AV) (T : TypeId) (x : Operand) (i : Operand) (ok : Bool) : Option (Cond × Req) := match evG gg x with
    | .one (.gmap g b) => some (.t, .look T ok g b (evG gg i))
    | .one (.imap j) => match P.underlying T with
      | some (.map kt et) => match isI64 P kt, isI64 P et, P.info? et with
        | true, true, some inf => match inf.zero with
          | some (.int .i64 0) => match evG gg i with
            | .one (.b64 true a) => some (.t, .rd j fun
              | .imap es => some (.t, match ok with
                | true => .tup [(false, [.b64 true (mval es a)]), (false, [.bool (mhas es a)])]
                | false => .one (.b64 true (mval es a)))
              | .romap es => some (.t, match ok with
                | true => .tup [(false, [.b64 true (mval es a)]), (false, [.bool (mhas es a)])]
                | false => .one (.b64 true (mval es a)))
              | _ => none)
            | _ => none
          | _ => none
        | _, _, _ => none
      | _ => none
    | .one (.raw (.map none)) => match P.underlying T with
      | some (.map kt et) => match isI64 P kt, isI64 P et, P.info? et with
        | true, true, some inf => match inf.zero with
          | some (.int .i64 0) => match evG gg i with
            | .one (.b64 true _) => some (.t, .val (match ok with
                | true => .tup [(false, [.b64 true 0#64]), (false, [.bool false])]
                | false => .one (.b64 true 0#64)))
            | _ => none
          | _ => none
        | _, _, _ => none
      | _ => none
    | _ => none
def rq_store (P : Program) (gg : Nat → AV) (T : TypeId) (a : Operand) (x : Operand) : Option (Cond × Req) := match evG gg a with
    | .one (.ptr i off) => match (evG gg x).ls with
      | some vs => match okLs vs, Nat.beq (wids vs) (P.cellsOf T), P.info? T with
        | true, true, some _ => some (.t, .wr i fun
          | .cells T ls => match setLs ls off vs with
            | some ls => some (.t, .cells T ls)
            | none => none
          | _ => none)
        | _, _, _ => none
      | none => none
    | .one (.rptr i o z k p) => match (evG gg x).ls with
      | some vs => match okLs vs, Nat.beq (wids vs) (P.cellsOf T), P.info? T with
        | true, true, some _ => some (.t, .wr i fun
          | .cells T ls => match wrR z k p vs ls o with
            | some (c, ls) => some (c, .cells T ls)
            | none => none
          | .row T z' n f => match Nat.beq o 0 with
            | true => match Nat.beq z z' with
              | true => match toPLs vs with
                | some ps => match Nat.ble (p + ps.length) z with
                  | true => some (.p (k < n), .row T z' n (updF f k p ps))
                  | false => none
                | none => none
              | false => none
            | false => none
          | _ => none)
        | _, _, _ => none
      | none => none
    | .one (.eptr i off n k) => match evG gg x with
      | .one (.b64 s v) => match Nat.beq 1 (P.cellsOf T), P.info? T with
        | true, some _ => some (.p (k < n), .wr i fun
          | .cells T ls => match takeL (dropL ls off) n with
            | some r => match updL s v k 0 r with
              | some r' => match setLs ls off r' with
                | some ls => some (.t, .cells T ls)
                | none => none
              | none => none
            | none => none
          | _ => none)
        | _, _ => none
      | _ => none
    | _ => none
def rq_nilCheck (P : Program) (gg : Nat → AV) (x : Operand) : Option (Cond × Req) := match evG gg x with
    | .one (.ptr i off) => some (.t, .val (.one (.ptr i off)))
    | .one (.rptr i o z k p) => some (.t, .val (.one (.rptr i o z k p)))
    | _ => none
def rq_fieldAddr (P : Program) (gg : Nat → AV) (T : TypeId) (x : Operand) (f : Nat) : Option (Cond × Req) := match evG gg x with
    | .one (.ptr i off) => match P.underlying T with
      | some (.struct fs) => match nth fs.toList f with
        | some fd => match P.info? fd.type with
          | some inf => match Nat.beq inf.size 0 with
            | false => some (.t, .val (.one (.ptr i (off + fd.offset))))
            | true => none
          | none => none
        | none => none
      | _ => none
    | .one (.rptr i o z k p) => match P.underlying T with
      | some (.struct fs) => match nth fs.toList f with
        | some fd => match P.info? fd.type with
          | some inf => match Nat.beq inf.size 0 with
            | false => some (.t, .val (.one (.rptr i o z k (p + fd.offset))))
            | true => none
          | none => none
        | none => none
      | _ => none
    | .one (.raw (.pointer (some p))) => match p.spot with
      | none => match P.underlying T with
        | some (.struct fs) => match nth fs.toList f with
          | some fd => match P.info? fd.type with
            | some inf => match Nat.beq inf.size 0 with
              | false => some (.t, .val (.one (.raw (.pointer (some ⟨p.block, p.off + fd.offset, none⟩)))))
              | true => none
            | none => none
          | none => none
        | _ => none
      | some _ => none
    | _ => none
def rq_field (P : Program) (gg : Nat → AV) (T : TypeId) (x : Operand) (f : Nat) : Option (Cond × Req) := match evG gg x with
    | .agg ls => match P.underlying T with
      | some (.struct fs) => match nth fs.toList f with
        | some fd => match P.info? fd.type with
          | some inf => match isAggT P fd.type with
            | some true => match takeL (dropL ls fd.offset) inf.size with
              | some r => some (.t, .val (.agg r))
              | none => none
            | some false => match headL (dropL ls fd.offset) with
              | some l => some (.t, .val (.one l))
              | none => none
            | none => none
          | none => none
        | none => none
      | _ => none
    | _ => none
def rq_indexAddr (P : Program) (gg : Nat → AV) (T : TypeId) (x : Operand) (i : Operand) : Option (Cond × Req) := match evG gg x with
    | .one (.ptr b off) => match P.underlying T with
      | some (.array n e) => match P.info? e with
        | some inf => match constIx i with
          | some k => match Nat.blt k n with
            | true => some (.t, .val (.one (.ptr b (off + k * inf.size))))
            | false => none
          | none => match evG gg i with
            | .one l => match ixL l with
              | some (c, k) => match Nat.beq n 16, Nat.beq inf.size 1 with
                | true, true => some (andC c (k < n), .val (.one (.eptr b off n k)))
                | _, _ => match bigA n inf.size with
                  | true => some (andC c (k < n), .val (.one (.rptr b off inf.size k 0)))
                  | false => some (andC c (k < n), .val (.one (.ptr b (off + k * inf.size))))
              | none => none
            | _ => none
        | none => none
      | _ => none
    | .one (.slc b off len _) => match P.underlying T with
      | some (.slice e) => match P.info? e with
        | some inf => match evG gg i with
          | .one l => match ixL l with
            | some (c, k) => some (andC c (k < len), .val (.one (.rptr b off inf.size k 0)))
            | none => none
          | _ => none
        | none => none
      | _ => none
    | .one (.rsl b len) => match P.underlying T with
      | some (.slice e) => match P.info? e with
        | some inf => match evG gg i with
          | .one l => match ixL l with
            | some (c, k) => some (andC c (k < len), .val (.one (.rptr b 0 inf.size k 0)))
            | none => none
          | _ => none
        | none => none
      | _ => none
    | .one (.rsc b z frm len) => match P.underlying T with
      | some (.slice e) => match P.info? e with
        | some inf => match evG gg i with
          | .one l => match ixL l with
            | some (c, k) => some (andC c (k < len), .rd b fun
              | .row _ _ n' _ => match Nat.beq z inf.size with
                | true => some (.p (frm + len ≤ n'), .one (.rptr b 0 inf.size (frm + k) 0))
                | false => none
              | _ => none)
            | none => none
          | _ => none
        | none => none
      | _ => none
    | .one (.raw (.pointer (some p))) => match p.spot with
      | none => match P.underlying T with
        | some (.array n e) => match P.info? e with
          | some inf => match evG gg i with
            | .one l => match ixL l with
              | some (c, k) => some (andC c (k < n), .val (.one (.raw (.pointer (some ⟨p.block, p.off + k * inf.size, none⟩)))))
              | none => none
            | _ => none
          | none => none
        | _ => none
      | some _ => none
    | .one (.rptr b o z k p) => match P.underlying T with
      | some (.array n e) => match P.info? e with
        | some inf => match constIx i with
          | some j => match Nat.blt j n with
            | true => some (.t, .val (.one (.rptr b o z k (p + j * inf.size))))
            | false => none
          | none => match evG gg i with
            | .one l => match ixL l with
              | some (c, j) => some (andC c (j < n), .val (.one (.rptr b o z k (p + j * inf.size))))
              | none => none
            | _ => none
        | none => none
      | _ => none
    | _ => none
def rq_index (P : Program) (gg : Nat → AV) (T : TypeId) (x : Operand) (i : Operand) : Option (Cond × Req) := match evG gg x with
    | .agg ls => match P.underlying T with
      | some (.array n e) => match P.info? e, (match constIx i with
          | some k => match Nat.blt k n with
            | true => some (Cond.t, k)
            | false => none
          | none => match evG gg i with
            | .one l => match ixL l with
              | some (c, k) => some (andC c (k < n), k)
              | none => none
            | _ => none) with
        | some inf, some (c, k) => match isAggT P e with
          | some true => match rdR ls 0 inf.size k 0 inf.size with
            | some (d, r) => some (bothC c d, .val (.agg r))
            | none => none
          | some false => match Nat.beq inf.size 1 with
            | true => match (match constIx i with
                | some _ => none
                | none => selL ls k) with
              | some l => some (bothC c (.p (k < ls.length)), .val (.one l))
              | none => match rdR ls 0 1 k 0 1 with
                | some (d, r) => match headL r with
                  | some l => some (bothC c d, .val (.one l))
                  | none => none
                | none => none
            | false => none
          | none => none
        | _, _ => none
      | _ => none
    | .one (.str s) => match P.underlying T with
      | some .string => match (match constIx i with
          | some k => some (Cond.t, k)
          | none => match evG gg i with
            | .one l => ixL l
            | _ => none) with
        | some (c, k) => some (andC c (k < s.size), .val (.one (.b8 false (byteAt s k))))
        | none => none
      | _ => none
    | _ => none
def rq_slice (P : Program) (gg : Nat → AV) (T : TypeId) (x : Operand) (lo : Option Operand) (hi : Option Operand) (mx : Option Operand) : Option (Cond × Req) := match mx with
    | some mx => match evG gg x with
      | .one (.rsl i n) => match P.underlying T with
        | some (.slice e) => match P.info? e, lo, hi, boundG gg hi n, boundG gg (some mx) 0 with
          | some inf, none, some _, some (c, u), some (d, m) => some (bothC (bothC c d) (.p (u ≤ m)), .rd i fun
            | .row _ z n' _ => match Nat.beq z inf.size with
              | true => some (.p (m ≤ n'), .one (.slc i 0 u m))
              | false => none
            | _ => none)
          | _, _, _, _, _ => none
        | _ => none
      | _ => none
    | none => match evG gg x with
      | .one (.str s) => match P.underlying T with
        | some .string => match boundG gg lo 0, boundG gg hi s.size with
          | some (c, l), some (d, h) => some (bothC (bothC c d) (.p (l ≤ h ∧ h ≤ s.size)), .val (.one (.str (exB s l h))))
          | _, _ => none
        | _ => none
      | .one (.ptr i off) => match P.underlying T with
        | some (.array n e) => match P.info? e, boundG gg lo 0, boundG gg hi n with
          | some _, some (c, l), some (d, h) => match Nat.beq l 0 with
            | true => some (bothC (bothC c d) (.p (h ≤ n)), .val (.one (.slc i off h n)))
            | false => none
          | _, _, _ => none
        | _ => none
      | .one (.rsl i n) => match P.underlying T with
        | some (.slice e) => match P.info? e, boundG gg lo 0, hi with
          | some inf, some (c, l), none => some (bothC c (.p (l ≤ n)), .rd i fun
            | .row _ z n' _ => match Nat.beq z inf.size with
              | true => some (.p (n ≤ n'), .one (.rsc i z l (n - l)))
              | false => none
            | _ => none)
          | _, _, _ => none
        | _ => none
      | .one (.rsc i z k n) => match P.underlying T with
        | some (.slice e) => match P.info? e, boundG gg lo 0, hi with
          | some inf, some (c, l), none => some (bothC c (.p (l < n)), .rd i fun
            | .row _ _ n' _ => match Nat.beq z inf.size with
              | true => some (.p (k + n ≤ n'), .one (.rsc i z (k + l) (n - l)))
              | false => none
            | _ => none)
          | _, _, _ => none
        | _ => none
      | .one (.slc i off n cap) => match P.underlying T with
        | some (.slice e) => match P.info? e, boundG gg lo 0, hi with
          | some inf, some (c, l), none => some (bothC c (.p (l ≤ n ∧ n ≤ cap)), .val (.one (.slc i (off + (match Nat.beq l cap with | true => 0 | false => inf.size * l)) (n - l) (cap - l))))
          | _, _, _ => none
        | _ => none
      | _ => none
def rq_makeSlice (P : Program) (gg : Nat → AV) (T : TypeId) (l : Operand) (c : Operand) : Option (Cond × Req) := match P.underlying T with
    | some (.slice e) => match P.info? e with
      | some inf => match inf.zero with
        | some z => match (ofV z).ls with
          | some zs => match evG gg l, evG gg c with
            | .one (.b64 true x), .one (.b64 true y) => match toPLs zs with
              | some ps => match Nat.beq ps.length inf.size, Nat.ble inf.bytes 4096, Nat.ble 1 inf.size with
                | true, true, true => some (.p (x = y ∧ x.toNat < 65536), .new (.row e inf.size x.toNat (fun _ => ps)) (.r x.toNat))
                | _, _, _ => none
              | none => none
            | _, _ => none
          | none => none
        | none => none
      | none => none
    | _ => none
def rq_extract (P : Program) (gg : Nat → AV) (x : Operand) (k : Nat) : Option (Cond × Req) := match evG gg x with
    | .tup vs => match nth vs k with
      | some (true, ls) => some (.t, .val (.agg ls))
      | some (false, [l]) => some (.t, .val (.one l))
      | _ => none
    | _ => none
def rq_binOp (P : Program) (gg : Nat → AV) (op : BinOp) (T : TypeId) (x : Operand) (y : Operand) (u4 : TypeId) : Option (Cond × Req) := match evG gg x with
    | .one x => match evG gg y with
      | .one y => match binL op x y with
        | some (p, v) => some (p, .val (.one v))
        | none => match op, x, y, P.underlying T with
          | .eql, .bool a, .bool b, some .bool => some (.t, .val (.one (.bool (a == b))))
          | .neq, .bool a, .bool b, some .bool => some (.t, .val (.one (.bool (!(a == b)))))
          | .add, .str a, .str b, _ => some (.p (a.size + b.size < 9223372036854775808), .val (.one (.str (catB a b))))
          | .eql, .str a, .str b, _ => some (.t, .val (.one (.bool (decide (a = b)))))
          | .neq, .str a, .str b, _ => some (.t, .val (.one (.bool (!(decide (a = b))))))
          | .eql, .imap _, .raw (.map none), some (.map _ _) => some (.t, .val (.one (.bool false)))
          | .neq, .imap _, .raw (.map none), some (.map _ _) => some (.t, .val (.one (.bool true)))
          | .eql, .raw (.map none), .raw (.map none), some (.map _ _) => some (.t, .val (.one (.bool true)))
          | .neq, .raw (.map none), .raw (.map none), some (.map _ _) => some (.t, .val (.one (.bool false)))
          | _, _, _, _ => none
      | _ => none
    | .agg xs => match evG gg y with
      | .agg ys => match isAggT P T, eqT P 8 T xs ys, op with
        | some true, some b, .eql => some (.p ((P.eqGuardType P.depth T || blank P 8 T) = false), .val (.one (.bool b)))
        | some true, some b, .neq => some (.p ((P.eqGuardType P.depth T || blank P 8 T) = false), .val (.one (.bool (!b))))
        | _, _, _ => none
      | _ => none
    | _ => none
def rq_unOp (P : Program) (gg : Nat → AV) (op : UnOp) (u1 : TypeId) (x : Operand) : Option (Cond × Req) := match evG gg x with
    | .one l => match un op l with
      | some v => some (.t, .val (.one v))
      | none => none
    | _ => none
def rq_convert (P : Program) (gg : Nat → AV) (src : TypeId) (dst : TypeId) (x : Operand) : Option (Cond × Req) := match evG gg x with
    | .one (.slc i off n _) => match P.underlying src, P.underlying dst with
      | some (.slice e), some .string => match P.underlying e with
        | some (.int .u8) => some (.t, .rd i fun b => match b.rdL with
          | some ls => match takeL (dropL ls off) n with
            | some r => match bytesL r with
              | some bs => some (.t, .one (.str ⟨⟨bs⟩⟩))
              | none => none
            | none => none
          | none => none)
        | _ => none
      | _, _ => none
    | .one (.rsl i n) => match P.underlying src, P.underlying dst with
      | some (.slice e), some .string => match P.underlying e with
        | some (.int .u8) => some (.t, .rd i fun b => match b.rdL with
          | some ls => match ls with
            | [.seg z n' f] => match Nat.beq z 1 with
              | true => some (.p (n ≤ n' ∧ ∀ k, k < n → isB8 (f k) = true), .one (.str (rowStr n f)))
              | false => none
            | _ => none
          | none => none)
        | _ => none
      | _, _ => none
    | .one (.raw (.slice none 0 0)) => match P.underlying src, P.underlying dst with
      | some (.slice e), some .string => match P.underlying e with
        | some (.int .u8) => some (.t, .val (.one (.str ⟨⟨[]⟩⟩)))
        | _ => none
      | _, _ => none
    | .one l => match P.underlying src, P.underlying dst with
      | some _, some (.int k) => match conv k l with
        | some v => some (.t, .val (.one v))
        | none => none
      | _, _ => none
    | _ => none
def rq_makeFunc (P : Program) (gg : Nat → AV) (fn : Fn) (fst : Array Operand) (cap : Array Operand) : Option (Cond × Req) := match fn, fst.toList with
    | .func f, [] => match capsG gg cap.toList with
      | some r => some (.t, .val (.one (.clo f r)))
      | none => none
    | _, _ => none
def rq_len (P : Program) (gg : Nat → AV) (c : Call) : Option (Cond × Req) := match c.argTypes.toList, evsG gg c.args.toList with
      | [T], [.one (.slc _ _ n _)] => match P.underlying T with
        | some (.slice _) => some (.p (n < 9223372036854775808), .val (.one (.b64 true (BitVec.ofNat 64 n))))
        | _ => none
      | [T], [.one (.str s)] => match P.underlying T with
        | some .string => some (.p (s.size < 9223372036854775808), .val (.one (.b64 true (BitVec.ofNat 64 s.size))))
        | _ => none
      | [T], [.one (.rsl _ n)] => match P.underlying T with
        | some (.slice _) => some (.p (n < 9223372036854775808), .val (.one (.b64 true (BitVec.ofNat 64 n))))
        | _ => none
      | [T], [.one (.rsc _ _ _ n)] => match P.underlying T with
        | some (.slice _) => some (.p (n < 9223372036854775808), .val (.one (.b64 true (BitVec.ofNat 64 n))))
        | _ => none
      | [T], [.one (.raw (.slice _ 0 _))] => match P.underlying T with
        | some (.slice _) => some (.t, .val (.one (.b64 true 0#64)))
        | _ => none
      | [T], [.one (.imap i)] => match P.underlying T with
        | some (.map _ _) => some (.t, .rd i fun
          | .imap es => some (.p (es.length < 9223372036854775808), .one (.b64 true (BitVec.ofNat 64 es.length)))
          | .romap es => some (.p (es.length < 9223372036854775808), .one (.b64 true (BitVec.ofNat 64 es.length)))
          | _ => none)
        | _ => none
      | _, _ => none
def rq_append (P : Program) (gg : Nat → AV) (c : Call) : Option (Cond × Req) := match c.argTypes.toList, evsG gg c.args.toList with
      | [T, T'], [.one x, .one y] => match P.underlying T with
        | some (.slice e) => match P.info? e with
          | some inf => match (match x with
              | .raw (.slice none 0 0) => some (none : Option (Nat × Nat))
              | .rsl i n => some (some (i, n))
              | _ => none), inf.zero with
            | some base, some z => match Nat.ble inf.bytes 4096, Nat.ble 1 inf.size, Nat.beq z.cells.size inf.size with
              | true, true, true => match Nat.beq T T' with
                | true => match y with
                  | .slc j off m _ => some (.p ((match base with | some (_, n) => n | none => 0) + m < 65536), .app base e inf.size m (.mem j fun b => match b.rdL with
                      | some ls => srcF ls off inf.size m
                      | none => none))
                  | .rsl j m => some (.p ((match base with | some (_, n) => n | none => 0) + m < 65536), .app base e inf.size m (.mem j fun b => match b.rdL with
                      | some ls => srcF ls 0 inf.size m
                      | none => none))
                  | .raw (.slice _ 0 _) => some (.p ((match base with | some (_, n) => n | none => 0) + 0 < 65536), .app base e inf.size 0 (.here fun _ => falsesP inf.size))
                  | _ => none
                | false => match y with
                  | .str s => match P.underlying T', Nat.beq inf.size 1 with
                    | some .string, true => some (.p ((match base with | some (_, n) => n | none => 0) + s.size < 65536), .app base e inf.size s.size (.here fun k => [.b8 false (byteAt s k)]))
                    | _, _ => none
                  | _ => none
              | _, _, _ => none
            | _, _ => none
          | none => none
        | _ => none
      | _, _ => none
def rq_min (P : Program) (gg : Nat → AV) (c : Call) : Option (Cond × Req) := match evsG gg c.args.toList with
      | [.one x, .one y] => match min2 x y with
        | some v => some (.t, .val (.one v))
        | none => none
      | [.one x, .one y, .one z] => match min2 x y with
        | some v => match min2 v z with
          | some u => some (.t, .val (.one u))
          | none => none
        | none => none
      | _ => none
def rq_max (P : Program) (gg : Nat → AV) (c : Call) : Option (Cond × Req) := match evsG gg c.args.toList with
      | [.one x, .one y] => match max2 x y with
        | some v => some (.t, .val (.one v))
        | none => none
      | [.one x, .one y, .one z] => match max2 x y with
        | some v => match max2 v z with
          | some u => some (.t, .val (.one u))
          | none => none
        | none => none
      | _ => none
def rq_call (P : Program) (gg : Nat → AV) (c : Call) : Option (Cond × Req) := match c.callee with
    | .value (.func f) => some (.t, .call f (evsG gg c.args.toList))
    | .value (.tmp n) => match gg n with
      | .one (.raw (.func (.func f) fst cap)) => match fst.toList, cap.toList with
        | [], [] => some (.t, .call f (evsG gg c.args.toList))
        | _, _ => none
      | .one (.clo f caps) => some (.t, .call f (evsG gg c.args.toList ++ capVs caps))
      | _ => none
    | .builtin .len => rq_len P gg c
    | .builtin .append => rq_append P gg c
    | .builtin .min => rq_min P gg c
    | .builtin .max => rq_max P gg c
    | _ => none
def reqG (P : Program) (o : Op) (gg : Nat → AV) : Option (Cond × Req) := match o with
  | .move x | .assign x => some (.t, .val (evG gg x))
  | .pick c a b => match evG gg c with
    | .one (.bool p) => some (.t, .pick p (evG gg a) (evG gg b))
    | _ => none
  | .alloc T => rq_alloc P gg T
  | .makeMap T r => rq_makeMap P gg T r
  | .mapUpdate T x k v => rq_mapUpdate P gg T x k v
  | .box T x => rq_box P gg T x
  | .build T parts => rq_build P gg T parts
  | .buildSlice T len parts => rq_buildSlice P gg T len parts
  | .load T a => rq_load P gg T a
  | .lookup T x i ok => rq_lookup P gg T x i ok
  | .store T a x => rq_store P gg T a x
  | .nilCheck x => rq_nilCheck P gg x
  | .fieldAddr T x f => rq_fieldAddr P gg T x f
  | .field T x f => rq_field P gg T x f
  | .indexAddr T x i => rq_indexAddr P gg T x i
  | .index T x i => rq_index P gg T x i
  | .slice T x lo hi mx => rq_slice P gg T x lo hi mx
  | .makeSlice T l c => rq_makeSlice P gg T l c
  | .extract x k => rq_extract P gg x k
  | .binOp op T x y u4 => rq_binOp P gg op T x y u4
  | .unOp op u1 x => rq_unOp P gg op u1 x
  | .convert src dst x => rq_convert P gg src dst x
  | .makeFunc fn fst cap => rq_makeFunc P gg fn fst cap
  | .call c => rq_call P gg c
  | _ => none

theorem ev_G (t : List AV) (x : Operand) : ev t x = evG (getT t) x := by cases x <;> rfl
theorem evs_G (t : List AV) : ∀ l : List Operand, evs t l = evsG (getT t) l
  | [] => rfl
  | x :: l => by simp only [evs, evsG, ev_G, evs_G t l]
theorem evp_G (t : List AV) : ∀ l : List (Nat × Operand), evp t l = evpG (getT t) l
  | [] => rfl
  | (i, x) :: l => by simp only [evp, evpG, ev_G, evp_G t l]
theorem caps_G (t : List AV) : ∀ l : List Operand, capsOf t l = capsG (getT t) l
  | [] => rfl
  | x :: l => by simp only [capsOf, capsG, ev_G, caps_G t l]; rfl
theorem bound_G (t : List AV) (x : Option Operand) (d : Nat) : boundK t x d = boundG (getT t) x d := by
  cases x with
  | none => rfl
  | some x => simp only [boundK, boundG, ev_G]; rfl
theorem req_G (P : Program) (o : Op) (t : List AV) : req P o t = reqG P o (getT t) := by
  cases o <;> first | rfl | (simp only [req, reqG, rq_alloc, rq_makeMap, rq_mapUpdate, rq_box, rq_build, rq_buildSlice, rq_load, rq_lookup, rq_store, rq_nilCheck, rq_fieldAddr, rq_field, rq_indexAddr, rq_index, rq_slice, rq_makeSlice, rq_extract, rq_binOp, rq_unOp, rq_convert, rq_makeFunc, rq_len, rq_append, rq_min, rq_max, rq_call, ev_G, evs_G, evp_G, caps_G, bound_G]; done) | (simp only [req, reqG, rq_alloc, rq_makeMap, rq_mapUpdate, rq_box, rq_build, rq_buildSlice, rq_load, rq_lookup, rq_store, rq_nilCheck, rq_fieldAddr, rq_field, rq_indexAddr, rq_index, rq_slice, rq_makeSlice, rq_extract, rq_binOp, rq_unOp, rq_convert, rq_makeFunc, rq_len, rq_append, rq_min, rq_max, rq_call, ev_G, evs_G, evp_G, caps_G, bound_G]; rfl)

/-! The tree: element 0 at the root, the odd ones to the left, the even ones to the right. -/
inductive Tr
  | e
  | n (x : AV) (l r : Tr)
noncomputable def Tr.get (t : Tr) : Nat → AV :=
  Tr.rec (motive := fun _ => Nat → AV) (fun _ => .one .junk)
    (fun x _ _ il ir n => match n with
      | 0 => x
      | m + 1 => match Nat.beq (m % 2) 0 with
        | true => il (m / 2)
        | false => ir (m / 2)) t
theorem get_e (n : Nat) : Tr.e.get n = .one .junk := rfl
theorem get_0 (x : AV) (l r : Tr) : (Tr.n x l r).get 0 = x := rfl
theorem get_s (x : AV) (l r : Tr) (m : Nat) : (Tr.n x l r).get (m + 1) = (match Nat.beq (m % 2) 0 with
        | true => l.get (m / 2)
        | false => r.get (m / 2)) := rfl
section
variable {α : Sort _}
/-- One element alone. -/
noncomputable def pathK (v : AV) (f : Nat) : Nat → (Tr → α) → α :=
  Nat.rec (motive := fun _ => Nat → (Tr → α) → α) (fun _ k => k .e)
    (fun _ ih n k => match n with
      | 0 => k (.n v .e .e)
      | m + 1 => match Nat.beq (m % 2) 0 with
        | true => ih (m / 2) fun l => k (.n (.one .junk) l .e)
        | false => ih (m / 2) fun r => k (.n (.one .junk) .e r)) f
noncomputable def setTK (t : Tr) : Nat → AV → (Tr → α) → α :=
  Tr.rec (motive := fun _ => Nat → AV → (Tr → α) → α) (fun n v k => pathK v (n + 1) n k)
    (fun x l r il ir n v k => match n with
      | 0 => k (.n v l r)
      | m + 1 => match Nat.beq (m % 2) 0 with
        | true => il (m / 2) v fun l' => k (.n x l' r)
        | false => ir (m / 2) v fun r' => k (.n x l r')) t
noncomputable def mapTK (f : AV → AV) (t : Tr) : (Tr → α) → α :=
  Tr.rec (motive := fun _ => (Tr → α) → α) (fun k => k .e)
    (fun x _ _ il ir k => zA (f x) fun x => il fun l => ir fun r => k (.n x l r)) t
end
def pathT (v : AV) : Nat → Nat → Tr
  | 0, _ => .e
  | _ + 1, 0 => .n v .e .e
  | f + 1, m + 1 => match Nat.beq (m % 2) 0 with
    | true => .n (.one .junk) (pathT v f (m / 2)) .e
    | false => .n (.one .junk) .e (pathT v f (m / 2))
theorem pathK_s {α : Sort _} (v : AV) (f m : Nat) (k : Tr → α) : pathK v (f + 1) (m + 1) k = (match Nat.beq (m % 2) 0 with
        | true => pathK v f (m / 2) fun l => k (.n (.one .junk) l .e)
        | false => pathK v f (m / 2) fun r => k (.n (.one .junk) .e r)) := rfl
theorem pathK_eq {α : Sort _} (v : AV) : ∀ (f n : Nat) (k : Tr → α), pathK v f n k = k (pathT v f n)
  | 0, n, k => rfl
  | f + 1, 0, k => rfl
  | f + 1, m + 1, k => by
    rw [pathK_s, pathT]
    cases Nat.beq (m % 2) 0 <;> dsimp only
    · exact pathK_eq v f (m / 2) _
    · exact pathK_eq v f (m / 2) _
theorem half_lt (m : Nat) : m / 2 < m + 1 := by omega
theorem parity {m j : Nat} (h : m / 2 = j / 2) (hb : Nat.beq (m % 2) 0 = Nat.beq (j % 2) 0) : m = j := by
  have e1 : ∀ x : Nat, Nat.beq (x % 2) 0 = decide (x % 2 = 0) := fun x => by
    cases hx : Nat.beq (x % 2) 0 with
    | true => simpa using Nat.eq_of_beq_eq_true hx
    | false => simpa using Nat.ne_of_beq_eq_false hx
  rw [e1, e1] at hb
  by_cases h0 : m % 2 = 0 <;> by_cases h1 : j % 2 = 0 <;> simp [h0, h1] at hb <;> omega
theorem get_path (v : AV) : ∀ (f n : Nat), n < f → ∀ i, (pathT v f n).get i = if i = n then v else .one .junk
  | 0, n, h, i => absurd h (by omega)
  | f + 1, 0, h, i => by
    cases i with
    | zero => rfl
    | succ j =>
      show (Tr.n v .e .e).get (j + 1) = _
      rw [get_s, if_neg (by omega)]
      cases Nat.beq (j % 2) 0 <;> rfl
  | f + 1, m + 1, h, i => by
    have ih := get_path v f (m / 2) (by omega)
    rw [pathT]
    cases i with
    | zero => rw [if_neg (by omega)]; cases Nat.beq (m % 2) 0 <;> rfl
    | succ j =>
      cases hm : Nat.beq (m % 2) 0 with
      | true =>
        dsimp only
        rw [get_s]
        cases hj : Nat.beq (j % 2) 0 with
        | true =>
          dsimp only
          rw [ih]
          by_cases hh : j / 2 = m / 2
          · rw [if_pos hh, if_pos (by rw [parity hh (by rw [hm, hj])])]
          · rw [if_neg hh, if_neg (by omega)]
        | false =>
          dsimp only
          rw [get_e, if_neg]
          intro hc; rw [show j = m by omega, hm] at hj; cases hj
      | false =>
        dsimp only
        rw [get_s]
        cases hj : Nat.beq (j % 2) 0 with
        | true =>
          dsimp only
          rw [get_e, if_neg]
          intro hc; rw [show j = m by omega, hm] at hj; cases hj
        | false =>
          dsimp only
          rw [ih]
          by_cases hh : j / 2 = m / 2
          · rw [if_pos hh, if_pos (by rw [parity hh (by rw [hm, hj])])]
          · rw [if_neg hh, if_neg (by omega)]
def setT : Tr → Nat → AV → Tr
  | .e, d, v => pathT v (d + 1) d
  | .n _ l r, 0, v => .n v l r
  | .n x l r, m + 1, v => match Nat.beq (m % 2) 0 with
    | true => .n x (setT l (m / 2) v) r
    | false => .n x l (setT r (m / 2) v)
theorem setTK_s {α : Sort _} (x : AV) (l r : Tr) (m : Nat) (v : AV) (k : Tr → α) : setTK (.n x l r) (m + 1) v k = (match Nat.beq (m % 2) 0 with
        | true => setTK l (m / 2) v fun l' => k (.n x l' r)
        | false => setTK r (m / 2) v fun r' => k (.n x l r')) := rfl
theorem setTK_eq {α : Sort _} : ∀ (t : Tr) (d : Nat) (v : AV) (k : Tr → α), setTK t d v k = k (setT t d v)
  | .e, d, v, k => pathK_eq v (d + 1) d k
  | .n x l r, 0, v, k => rfl
  | .n x l r, m + 1, v, k => by
    rw [setTK_s, setT]
    cases Nat.beq (m % 2) 0 <;> dsimp only
    · exact setTK_eq r (m / 2) v _
    · exact setTK_eq l (m / 2) v _
theorem get_setT : ∀ (t : Tr) (d : Nat) (v : AV) (i : Nat), (setT t d v).get i = if i = d then v else t.get i
  | .e, d, v, i => by
    rw [setT, get_path v _ _ (by omega), get_e]
  | .n x l r, 0, v, i => by
    cases i with
    | zero => rfl
    | succ j => rw [if_neg (by omega)]; rfl
  | .n x l r, m + 1, v, i => by
    rw [setT]
    cases i with
    | zero => rw [if_neg (by omega)]; cases Nat.beq (m % 2) 0 <;> rfl
    | succ j =>
      cases hm : Nat.beq (m % 2) 0 with
      | true =>
        dsimp only
        rw [get_s, get_s]
        cases hj : Nat.beq (j % 2) 0 with
        | true =>
          dsimp only
          rw [get_setT l]
          by_cases hh : j / 2 = m / 2
          · rw [if_pos hh, if_pos (by rw [parity hh (by rw [hm, hj])])]
          · rw [if_neg hh, if_neg (by omega)]
        | false =>
          dsimp only
          rw [if_neg]
          intro hc; rw [show j = m by omega, hm] at hj; cases hj
      | false =>
        dsimp only
        rw [get_s, get_s]
        cases hj : Nat.beq (j % 2) 0 with
        | true =>
          dsimp only
          rw [if_neg]
          intro hc; rw [show j = m by omega, hm] at hj; cases hj
        | false =>
          dsimp only
          rw [get_setT r]
          by_cases hh : j / 2 = m / 2
          · rw [if_pos hh, if_pos (by rw [parity hh (by rw [hm, hj])])]
          · rw [if_neg hh, if_neg (by omega)]
def mapT (f : AV → AV) : Tr → Tr
  | .e => .e
  | .n x l r => .n (f x) (mapT f l) (mapT f r)
theorem mapTK_eq {α : Sort _} (f : AV → AV) : ∀ (t : Tr) (k : Tr → α), mapTK f t k = k (mapT f t)
  | .e, k => rfl
  | .n x l r, k => by
    show (zA (f x) fun x => mapTK f l fun l => mapTK f r fun r => k (.n x l r)) = _
    rw [zA_eq, mapTK_eq f l, mapTK_eq f r]; rfl
theorem get_mapT (f : AV → AV) (h : f (.one .junk) = .one .junk) : ∀ (t : Tr) (i : Nat), (mapT f t).get i = f (t.get i)
  | .e, i => by rw [mapT, get_e, h]
  | .n x l r, 0 => rfl
  | .n x l r, m + 1 => by
    rw [mapT, get_s, get_s]
    cases Nat.beq (m % 2) 0 <;> dsimp only
    · exact get_mapT f h r _
    · exact get_mapT f h l _
/-- The slots as a list. -/
noncomputable def toL (t : Tr) (n : Nat) : List AV := (List.range n).map t.get
theorem toL_len (t : Tr) (n : Nat) : (toL t n).length = n := by simp [toL]
theorem getT_q : ∀ (l : List AV) (i : Nat), getT l i = (l[i]?).getD (.one .junk)
  | [], _ => rfl
  | _ :: _, 0 => rfl
  | _ :: l, i + 1 => by rw [getT, getT_q l i]; rfl
theorem list_ext_q {l m : List AV} (hl : l.length = m.length) (h : ∀ i, i < l.length → getT l i = getT m i) : l = m := by
  refine List.ext_getElem hl fun i h1 h2 => ?_
  have := h i h1
  rw [getT_q, getT_q, List.getElem?_eq_getElem h1, List.getElem?_eq_getElem h2] at this
  exact this
theorem getT_toL (t : Tr) (n i : Nat) : getT (toL t n) i = if i < n then t.get i else .one .junk := by
  rw [getT_q, toL, List.getElem?_map]
  by_cases h : i < n
  · rw [List.getElem?_range h, if_pos h]; rfl
  · rw [if_neg h, List.getElem?_eq_none (by simpa using h)]; rfl
structure ZS where
  t : Tr
  n : Nat
  h : List (Nat × Blk)
noncomputable def ZS.abs (s : ZS) : S := ⟨toL s.t s.n, s.h⟩
noncomputable def gT (t : Tr) (n i : Nat) : AV := match Nat.blt i n with
  | true => t.get i
  | false => .one .junk
theorem gT_eq (t : Tr) (n : Nat) : gT t n = getT (toL t n) := by
  funext i
  rw [getT_toL]
  unfold gT
  cases h : Nat.blt i n with
  | true => rw [if_pos (by simpa using h)]
  | false => rw [if_neg fun hc => by rw [show Nat.blt i n = true by simpa using hc] at h; cases h]
noncomputable abbrev ZS.g (s : ZS) : Nat → AV := gT s.t s.n
theorem ZS.g_eq (s : ZS) : s.g = getT s.abs.t := gT_eq s.t s.n
theorem toL_set (t : Tr) (n d : Nat) (v : AV) : toL (setT t d v) n = (toL t n).set d v := by
  refine list_ext_q (by simp [toL_len]) fun i hi => ?_
  rw [toL_len] at hi
  rw [getT_toL, if_pos hi, get_setT, getT_set, toL_len, getT_toL, if_pos hi]
  by_cases h : i = d
  · rw [if_pos h, if_pos ⟨h, by omega⟩]
  · rw [if_neg h, if_neg fun hc => h hc.1]
theorem toL_map (t : Tr) (n d : Nat) : toL (mapT (AV.purge d) t) n = (toL t n).map (AV.purge d) := by
  refine list_ext_q (by simp [toL_len]) fun i hi => ?_
  rw [toL_len] at hi
  rw [getT_toL, if_pos hi, get_mapT _ rfl, getT_map, getT_toL, if_pos hi]
noncomputable def addTK {α : Sort _} (l : List AV) : Nat → Tr → (Tr → α) → α :=
  List.rec (motive := fun _ => Nat → Tr → (Tr → α) → α) (fun _ t k => k t) (fun x _ ih i t k => setTK t i x fun t => zN (i + 1) fun j => ih j t k) l
def addT : List AV → Nat → Tr → Tr
  | [], _, t => t
  | x :: l, i, t => addT l (i + 1) t
theorem addTK_get {α : Sort _} : ∀ (l : List AV) (i : Nat) (t : Tr) (k : Tr → α), ∃ t', addTK l i t k = k t' ∧ ∀ j, t'.get j = if i ≤ j ∧ j < i + l.length then getT l (j - i) else t.get j
  | [], i, t, k => ⟨t, rfl, fun j => by rw [if_neg (by simp only [List.length_nil]; omega)]⟩
  | x :: l, i, t, k => by
    obtain ⟨t', h1, h2⟩ := addTK_get l (i + 1) (setT t i x) k
    refine ⟨t', ?_, fun j => ?_⟩
    · rw [← h1]
      show (setTK t i x fun t => zN (i + 1) fun j => addTK l j t k) = _
      rw [setTK_eq, zN_eq]
    · rw [h2 j, get_setT]
      by_cases hj : j = i
      · subst hj
        rw [if_neg (by omega), if_pos rfl, if_pos (by simp), Nat.sub_self]; rfl
      · by_cases hb : i + 1 ≤ j ∧ j < i + 1 + l.length
        · rw [if_pos hb, if_pos (by simp; omega), show j - i = (j - (i + 1)) + 1 by omega]; rfl
        · rw [if_neg hb, if_neg hj, if_neg (by simp; omega)]
theorem getT_start : ∀ (n : Nat) (l : List AV), l.length ≤ n → (start n l).length = n ∧ ∀ j, getT (start n l) j = if j < l.length then getT l j else .one .junk
  | n, [], h => by
    have hl : ∀ n, (junks n).length = n := fun n => by induction n with | zero => rfl | succ n ih => simp [junks, ih]
    refine ⟨by cases n <;> simp [start, hl], fun j => ?_⟩
    rw [if_neg (by simp)]
    cases n <;> simp only [start] <;> exact getT_junks _ _
  | 0, x :: l, h => absurd h (by simp)
  | n + 1, x :: l, h => by
    obtain ⟨h1, h2⟩ := getT_start n l (by simpa using h)
    refine ⟨by simp [start, h1], fun j => ?_⟩
    cases j with
    | zero => rfl
    | succ j =>
      show getT (start n l) j = _
      rw [h2 j]
      by_cases hj : j < l.length
      · rw [if_pos hj, if_pos (by simpa using hj)]; rfl
      · rw [if_neg hj, if_neg (by simpa using hj)]
theorem addTK_start {α : Sort _} {n : Nat} {l : List AV} (hl : l.length ≤ n) (k : Tr → α) : ∃ t', addTK l 0 .e k = k t' ∧ toL t' n = start n l := by
  obtain ⟨t', h1, h2⟩ := addTK_get l 0 .e k
  obtain ⟨h3, h4⟩ := getT_start n l hl
  refine ⟨t', h1, list_ext_q (by rw [toL_len, h3]) fun i hi => ?_⟩
  rw [toL_len] at hi
  rw [getT_toL, if_pos hi, h2, h4, get_e]
  by_cases hb : i < l.length
  · rw [if_pos ⟨by omega, by omega⟩, if_pos hb, Nat.sub_zero]
  · rw [if_neg (by omega), if_neg hb]

/-! The runs. -/
section
variable {β : Type}
/-- A state's parts, taken out of it. -/
def nxS {α : Sort _} (s : ZS) (k : Tr → Nat → List (Nat × Blk) → α) : α := match s with
  | ⟨t, n, h⟩ => k t n h
theorem nxS_eq {α : Sort _} (s : ZS) (k : Tr → Nat → List (Nat × Blk) → α) : nxS s k = k s.t s.n s.h := rfl
noncomputable def putY (s : ZS) (dst : Option Nat) (v : AV) (k : ZS → Z β) : Z β := match dst with
  | some d => zA v fun v => setTK s.t d v fun t => nxS s fun _ n h => k ⟨t, n, h⟩
  | none => k s
theorem putY_eq {s : ZS} {dst : Option Nat} {v : AV} {k : ZS → Z β} {k' : S → Z β} (hk : ∀ s, k s = k' s.abs) : putY s dst v k = putZ s.abs dst v k' := by
  cases dst with
  | none => exact hk s
  | some d =>
    simp only [putY, putZ, zA_eq, setTK_eq, setK_eq, nxS_eq]
    rw [hk, ZS.abs, toL_set]; rfl
noncomputable def renY (nm tp n : Nat) (l : List Nat) : Nat → AV → Tr → List (Nat × Blk) → (AV → Tr → List (Nat × Blk) → Z β) → Z β :=
  List.rec (motive := fun _ => Nat → AV → Tr → List (Nat × Blk) → (AV → Tr → List (Nat × Blk) → Z β) → Z β) (fun _ v t h k => k v t h)
    (fun i _ ih d v t h k => withName nm d fun j => zN j fun j => match Nat.blt j tp, inNs j v.names with
      | true, false => mapTK (AV.purge j) t fun t => purgeHK j h fun h => renHK i j h fun h => zA (v.ren i j) fun v => ih (d + 1) v t h k
      | _, _ => .error "out") l
theorem renY_eq {nm tp n : Nat} : ∀ {l : List Nat} {d : Nat} {v : AV} {t : Tr} {h : List (Nat × Blk)} {k : AV → Tr → List (Nat × Blk) → Z β} {k' : AV → List AV → List (Nat × Blk) → Z β}, (∀ v t h, k v t h = k' v (toL t n) h) → renY nm tp n l d v t h k = renZ nm tp l d v (toL t n) h k'
  | [], d, v, t, h, k, k', hk => hk _ _ _
  | i :: l, d, v, t, h, k, k', hk => by
    show (withName nm d fun j => zN j fun j => match Nat.blt j tp, inNs j v.names with
      | true, false => mapTK (AV.purge j) t fun t => purgeHK j h fun h => renHK i j h fun h => zA (v.ren i j) fun v => renY nm tp n l (d + 1) v t h k
      | _, _ => .error "out") = (withName nm d fun j => zN j fun j => match Nat.blt j tp, inNs j v.names with
      | true, false => purgeTK j (toL t n) fun t => purgeHK j h fun h => renHK i j h fun h => zA (v.ren i j) fun v => renZ nm tp l (d + 1) v t h k'
      | _, _ => .error "out")
    rw [withName_eq, withName_eq, zN_eq, zN_eq]
    cases Nat.blt (nameOf nm d) tp <;> cases inNs (nameOf nm d) v.names <;> dsimp only
    rw [mapTK_eq, purgeTK_eq, ← toL_map, purgeHK_L, purgeHK_L, renHK_L, renHK_L, zA_eq, zA_eq]
    exact renY_eq hk
noncomputable def outY (nm tp n : Nat) (dst : Option Nat) (v : AV) (t : Tr) (h : List (Nat × Blk)) (k : AV → Tr → List (Nat × Blk) → Z β) : Z β :=
  match newNs tp v.names with
  | [] => k v t h
  | i :: r => match dst with
    | none => .error "out"
    | some d => match scopeLt tp h, Nat.ble nm tp with
      | true, true => renY nm tp n (i :: r) d v t h fun v t h => match allInN h v.names, nsLt tp v.names with
        | true, true => k v t h
        | _, _ => .error "out"
      | _, _ => .error "out"
theorem outY_eq {nm tp n : Nat} {dst : Option Nat} {v : AV} {t : Tr} {h : List (Nat × Blk)} {k : AV → Tr → List (Nat × Blk) → Z β} {k' : AV → List AV → List (Nat × Blk) → Z β} (hk : ∀ v t h, k v t h = k' v (toL t n) h) :
    outY nm tp n dst v t h k = outZ nm tp dst v (toL t n) h k' := by
  unfold outY outZ
  cases newNs tp v.names with
  | nil => exact hk _ _ _
  | cons i r =>
    cases dst with
    | none => rfl
    | some d =>
      dsimp only
      cases scopeLt tp h <;> cases Nat.ble nm tp <;> dsimp only
      refine renY_eq fun v t h => ?_
      cases allInN h v.names <;> cases nsLt tp v.names <;> dsimp only
      exact hk _ _ _
noncomputable def doY (C : ZT) (inl : Inl β) (ap : Ap) (kw : List (Nat × Bool)) (c : Option Nat) (dst : Option Nat) (s : ZS) (r : Req) (k : FP → ZS → Z β) : Z β :=
  match r with
  | .val v => putY s dst v (k (false, []))
  | .rd i f => match look s.h i with
    | some b => match f b with
      | some (p, v) => condZ p (putY s dst v (k (false, [i])))
      | none => .error "rd"
    | none => .error "rd"
  | .wr i f => match dst with
    | some _ => .error "wr"
    | none => match look s.h i with
      | some b => match f b with
        | some (p, b') => condZ p (zB b' fun b' => setB s.h i b' fun h => nxS s fun t n _ => k (true, [i]) ⟨t, n, h⟩)
        | none => .error "wr"
      | none => .error "wr"
  | .new b nv => match dst with
    | some d => withName C.nm d fun i => zN i fun i => match look s.h i with
      | none => match Nat.blt d s.n with
        | true => zB b fun b => zL (nv.at i) fun v => setTK s.t d (.one v) fun t => nxS s fun _ n h => k (true, [i]) ⟨t, n, (i, b) :: h⟩
        | false => .error "new"
      | some _ => .error "new"
    | none => .error "new"
  | .call f args => zAs args fun args => match C.fn f args (blks (look s.h) (anames args)) with
    | some (p, v) => condZ p (forceNs (anames args) fun ns => putY s dst v (k (false, ns)))
    | none => match C.mkr f args (blks (look s.h) (anames args)) with
     | some (p, b, nv) => condZ p (match dst with
       | some d => withName C.nm d fun i => zN i fun i => match look s.h i with
         | none => match Nat.blt d s.n with
           | true => forceNs (anames args) fun ns => zB b fun b => zL (nv.at i) fun v => setTK s.t d (.one v) fun t => nxS s fun _ n h => k (true, i :: ns) ⟨t, n, (i, b) :: h⟩
           | false => .error "new"
         | some _ => .error "new"
       | none => .error "new")
     | none => match allLt C.tp s.h with
      | true => nxS s fun t n h => inl f C.tp args h fun v h => outY C.nm C.tp n dst v t h fun v t h => putY ⟨t, n, h⟩ dst v (k (true, []))
      | false => .error (callE f)
  | .glob T g off => match C.glob T g off with
    | some v => putY s dst v (k (false, []))
    | none => .error "glob"
  | .look T ok g b key => match C.look T ok g b key with
    | some (p, v) => condZ p (putY s dst v (k (false, [])))
    | none => .error "look"
  | .pick b x y => match c.bind (kn kw) with
    | some true => putY s dst x (k (false, []))
    | some false => putY s dst y (k (false, []))
    | none => match b with
      | true => putY s dst x (k (false, []))
      | false => putY s dst y (k (false, []))
  | .app base e z m x => match ap with
    | .clo => match dst with
      | none => .error "app"
      | some d => srcZ x s.h fun c g => condZ c (match base with
        | some (i, n) => match Nat.ble C.nm i with
          | true => match look s.h i with
            | some (.row T z' n' f) => match Nat.beq T e, Nat.beq z' z with
              | true, true => condZ (.p (n = n' ∧ ∀ j, j < m → (g j).length = z))
                (mapTK (AV.purge i) s.t fun t => purgeHK i s.h fun h => zB (.row e z (n + m) (joinI n f g)) fun b => nxS s fun _ n' _ => putY ⟨t, n', (i, b) :: h⟩ (some d) (.one (.rsl i (n + m))) (k (true, [i])))
              | _, _ => .error "app"
            | _ => .error "app"
          | false => .error "app"
        | none => condZ (.p (∀ j, j < m → (g j).length = z)) (match Nat.beq m 0 with
          | true => putY s (some d) (.one (.raw (.slice none 0 0))) (k (true, []))
          | false => withName C.nm d fun i => zN i fun i => mapTK (AV.purge i) s.t fun t => purgeHK i s.h fun h => zB (.row e z m g) fun b => nxS s fun _ n' _ => putY ⟨t, n', (i, b) :: h⟩ (some d) (.one (.rsl i m)) (k (true, [i]))))
    | _ => .error "app"
theorem condZ_congr {c : Cond} {x y : Z β} (h : x = y) : condZ c x = condZ c y := by rw [h]
theorem doY_eq {C : ZT} {inl : Inl β} {ap : Ap} {kw : List (Nat × Bool)} {c dst : Option Nat} {s : ZS} {q : Req} {k : FP → ZS → Z β} {k' : FP → S → Z β} (hk : ∀ fp s, k fp s = k' fp s.abs) :
    doY C inl ap kw c dst s q k = doZ C inl ap kw c dst s.abs q k' := by
  have hp : ∀ {s : ZS} {dst v} (fp : FP), putY s dst v (k fp) = putZ s.abs dst v (k' fp) := fun fp => putY_eq (hk fp)
  have hl : s.abs.t.length = s.n := toL_len _ _
  have hh : s.abs.h = s.h := rfl
  cases q with
  | val v => exact hp _
  | rd j f =>
    simp only [doY, doZ, hh, nxS_eq]
    cases look s.h j with
    | none => rfl
    | some b =>
      dsimp only
      cases f b with
      | none => rfl
      | some x => exact condZ_congr (hp _)
  | wr j f =>
    simp only [doY, doZ, hh, nxS_eq]
    cases dst with
    | some d => rfl
    | none =>
      dsimp only
      cases look s.h j with
      | none => rfl
      | some b =>
        dsimp only
        cases f b with
        | none => rfl
        | some x =>
          refine condZ_congr ?_
          rw [zB_eq, zB_eq, setB_L, setB_L, hk]; rfl
  | new b nv =>
    simp only [doY, doZ, hh, hl, nxS_eq]
    cases dst with
    | none => rfl
    | some d =>
      dsimp only
      rw [withName_eq, withName_eq, zN_eq, zN_eq]
      cases look s.h (nameOf C.nm d) with
      | some b => rfl
      | none =>
        dsimp only
        cases Nat.blt d s.n with
        | false => rfl
        | true =>
          dsimp only
          rw [zB_eq, zB_eq, zL_eq, zL_eq, setTK_eq, setK_eq, hk]
          rw [ZS.abs, toL_set]; rfl
  | call f args =>
    simp only [doY, doZ, zAs_eq, hh, hl, nxS_eq]
    cases C.fn f args (blks (look s.h) (anames args)) with
    | some x =>
      refine condZ_congr ?_
      rw [forceNs_eq, forceNs_eq]; exact hp _
    | none =>
      dsimp only
      cases C.mkr f args (blks (look s.h) (anames args)) with
      | some x =>
        refine condZ_congr ?_
        cases dst with
        | none => rfl
        | some d =>
          dsimp only
          rw [withName_eq, withName_eq, zN_eq, zN_eq]
          cases look s.h (nameOf C.nm d) with
          | some b => rfl
          | none =>
            dsimp only
            cases Nat.blt d s.n with
            | false => rfl
            | true =>
              dsimp only
              rw [forceNs_eq, forceNs_eq, zB_eq, zB_eq, zL_eq, zL_eq, setTK_eq, setK_eq, hk]
              rw [ZS.abs, toL_set]; rfl
      | none =>
        dsimp only
        cases allLt C.tp s.h with
        | false => rfl
        | true =>
          dsimp only
          congr 1
          funext v h
          exact outY_eq fun v t h => putY_eq (hk _)
  | glob T g off =>
    simp only [doY, doZ]
    cases C.glob T g off with
    | none => rfl
    | some v => exact hp _
  | look T ok g b key =>
    simp only [doY, doZ]
    cases C.look T ok g b key with
    | none => rfl
    | some x => exact condZ_congr (hp _)
  | pick b x y =>
    simp only [doY, doZ]
    cases c.bind (kn kw) with
    | none => cases b <;> exact hp _
    | some w => cases w <;> exact hp _
  | app base T z m x =>
    simp only [doY, doZ, hh, nxS_eq]
    cases ap with
    | no => rfl
    | sym => rfl
    | clo =>
      dsimp only
      cases dst with
      | none => rfl
      | some d =>
        dsimp only
        congr 1
        funext c g
        refine condZ_congr ?_
        cases base with
        | some p =>
          dsimp only
          cases Nat.ble C.nm p.1 with
          | false => rfl
          | true =>
            dsimp only
            cases look s.h p.1 with
            | none => rfl
            | some b =>
              cases b with
              | row T' z' n' f =>
                dsimp only
                cases Nat.beq T' T <;> cases Nat.beq z' z <;> dsimp only
                refine condZ_congr ?_
                rw [mapTK_eq, purgeTK_eq, purgeHK_L, purgeHK_L, zB_eq, zB_eq, hp]
                rw [ZS.abs, toL_map]; rfl
              | _ => rfl
        | none =>
          refine condZ_congr ?_
          cases Nat.beq m 0 with
          | true => exact hp _
          | false =>
            dsimp only
            rw [withName_eq, withName_eq, zN_eq, zN_eq, mapTK_eq, purgeTK_eq, purgeHK_L, purgeHK_L, zB_eq, zB_eq, hp]
            rw [ZS.abs, toL_map]; rfl
noncomputable def doYV (C : ZT) (inl : Inl β) (ap : Ap) (kw : List (Nat × Bool)) (c : Option Nat) (dst : Option Nat) (s : ZS) (r : Req) (k : FP → ZS → Z β) : Z β :=
  Req.rec (motive := fun _ => Z β) (fun v => putY s dst v (k (false, []))) (fun i f => doY C inl ap kw c dst s (.rd i f) k) (fun i f => doY C inl ap kw c dst s (.wr i f) k) (fun b v => doY C inl ap kw c dst s (.new b v) k)
    (fun f a => doY C inl ap kw c dst s (.call f a) k) (fun T g o => doY C inl ap kw c dst s (.glob T g o) k) (fun T o g b x => doY C inl ap kw c dst s (.look T o g b x) k) (fun b x y => doY C inl ap kw c dst s (.pick b x y) k) (fun a e z m x => doY C inl ap kw c dst s (.app a e z m x) k) r
theorem doYV_eq {C : ZT} {inl : Inl β} {ap : Ap} {kw : List (Nat × Bool)} {c dst : Option Nat} {s : ZS} {q : Req} {k : FP → ZS → Z β} : doYV C inl ap kw c dst s q k = doY C inl ap kw c dst s q k := by cases q <;> rfl
noncomputable def opY (P : Program) (C : ZT) (inl : Inl β) (ap : Ap) (kw : List (Nat × Bool)) (o : Oper) (s : ZS) (k : FP → ZS → Z β) : Z β :=
  match reqG P o.op s.g with
  | some (p, q) => condZ p (doYV C inl ap kw (pickOf o.op) o.dst s q k)
  | none => .error o.pos
noncomputable def skipY (o : Oper) (s : ZS) (k : FP → ZS → Z β) : Z β := putY s o.dst noV (k (false, []))
theorem opY_eq {P : Program} {C : ZT} {inl : Inl β} {ap : Ap} {kw : List (Nat × Bool)} {o : Oper} {s : ZS} {k : FP → ZS → Z β} {k' : FP → S → Z β} (hk : ∀ fp s, k fp s = k' fp s.abs) : opY P C inl ap kw o s k = opZ P C inl ap kw o s.abs k' := by
  unfold opY opZ
  rw [req_G, ZS.g_eq]
  cases reqG P o.op (getT s.abs.t) with
  | none => rfl
  | some x => exact condZ_congr (doYV_eq.trans (doY_eq hk))
theorem skipY_eq {o : Oper} {s : ZS} {k : FP → ZS → Z β} {k' : FP → S → Z β} (hk : ∀ fp s, k fp s = k' fp s.abs) : skipY o s k = skipZ o s.abs k' := putY_eq (hk _)
noncomputable def nxtY (ih : List (Nat × Bool) → ZS → (List FP → ZS → Z β) → Z β) (kw : List (Nat × Bool)) (o : Oper) (k : List FP → ZS → Z β) (fp : FP) (s : ZS) : Z β := forceK (kmove kw o.op o.dst) fun kw => ih kw s fun fps => k (fp :: fps)
noncomputable def nxtN (ih : List (Nat × Bool) → ZS → (List FP → ZS → Z β) → Z β) (kw : List (Nat × Bool)) (o : Oper) (k : List FP → ZS → Z β) (fp : FP) (s : ZS) : Z β := forceK (kdelO kw o.dst) fun kw => ih kw s fun fps => k (fp :: fps)
noncomputable def grdY (P : Program) (C : ZT) (inl : Inl β) (ap : Ap) (all : List Oper) (o : Oper) (j : Nat) (want : Bool) (ih : List (Nat × Bool) → ZS → (List FP → ZS → Z β) → Z β) (kw : List (Nat × Bool)) (s : ZS) (k : List FP → ZS → Z β) : Z β := match guardTmp all j with
        | none => .error "guard"
        | some d => match s.g d with
          | .one (.bool b) => match kn kw d with
            | some true => match want with
              | true => opY P C inl ap kw o s (nxtY ih kw o k)
              | false => skipY o s (nxtN ih kw o k)
            | some false => match want with
              | false => opY P C inl ap kw o s (nxtY ih kw o k)
              | true => skipY o s (nxtN ih kw o k)
            | none => match want with
              | true => match b with
                | true => opY P C inl ap ((d, true) :: kw) o s (nxtY ih ((d, true) :: kw) o k)
                | false => skipY o s (nxtN ih ((d, false) :: kw) o k)
              | false => match b with
                | true => skipY o s (nxtN ih ((d, true) :: kw) o k)
                | false => opY P C inl ap ((d, false) :: kw) o s (nxtY ih ((d, false) :: kw) o k)
          | .one (.raw v) => match isBoolV v with
            | false => skipY o s (nxtN ih kw o k)
            | true => .error "guard"
          | _ => .error "guard"
noncomputable def runOpsY (P : Program) (C : ZT) (inl : Inl β) (ap : Ap) (all : List Oper) (l : List Oper) : List (Nat × Bool) → ZS → (List FP → ZS → Z β) → Z β :=
  List.rec (motive := fun _ => List (Nat × Bool) → ZS → (List FP → ZS → Z β) → Z β) (fun _ s k => k [] s)
    (fun o _ ih kw s k => match o.guard with
      | none => opY P C inl ap kw o s (nxtY ih kw o k)
      | some (j, want) => grdY P C inl ap all o j want ih kw s k) l
theorem runOpsY_eq {P : Program} {C : ZT} {inl : Inl β} {ap : Ap} {all : List Oper} : ∀ {l : List Oper} {kw : List (Nat × Bool)} {s : ZS} {k : List FP → ZS → Z β} {k' : List FP → S → Z β}, (∀ fp s, k fp s = k' fp s.abs) →
    runOpsY P C inl ap all l kw s k = runOpsZ P C inl ap all l kw s.abs k'
  | [], kw, s, k, k', hk => hk _ _
  | o :: l, kw, s, k, k', hk => by
    have yes : ∀ {kw}, opY P C inl ap kw o s (fun fp s => forceK (kmove kw o.op o.dst) fun kw => runOpsY P C inl ap all l kw s fun fps => k (fp :: fps)) = opZ P C inl ap kw o s.abs (fun fp s => forceK (kmove kw o.op o.dst) fun kw => runOpsZ P C inl ap all l kw s fun fps => k' (fp :: fps)) := fun {kw} =>
      opY_eq fun fp s => by rw [forceK_eq, forceK_eq]; exact runOpsY_eq fun fps s => hk _ _
    have no : ∀ {kw}, skipY o s (fun fp s => forceK (kdelO kw o.dst) fun kw => runOpsY P C inl ap all l kw s fun fps => k (fp :: fps)) = skipZ o s.abs (fun fp s => forceK (kdelO kw o.dst) fun kw => runOpsZ P C inl ap all l kw s fun fps => k' (fp :: fps)) := fun {kw} =>
      skipY_eq fun fp s => by rw [forceK_eq, forceK_eq]; exact runOpsY_eq fun fps s => hk _ _
    show (match o.guard with
      | none => opY P C inl ap kw o s fun fp s => forceK (kmove kw o.op o.dst) fun kw => runOpsY P C inl ap all l kw s fun fps => k (fp :: fps)
      | some (j, want) => match guardTmp all j with
        | none => .error "guard"
        | some d => match s.g d with
          | .one (.bool b) => match kn kw d with
            | some true => match want with
              | true => opY P C inl ap kw o s fun fp s => forceK (kmove kw o.op o.dst) fun kw => runOpsY P C inl ap all l kw s fun fps => k (fp :: fps)
              | false => skipY o s fun fp s => forceK (kdelO kw o.dst) fun kw => runOpsY P C inl ap all l kw s fun fps => k (fp :: fps)
            | some false => match want with
              | false => opY P C inl ap kw o s fun fp s => forceK (kmove kw o.op o.dst) fun kw => runOpsY P C inl ap all l kw s fun fps => k (fp :: fps)
              | true => skipY o s fun fp s => forceK (kdelO kw o.dst) fun kw => runOpsY P C inl ap all l kw s fun fps => k (fp :: fps)
            | none => match want with
              | true => match b with
                | true => opY P C inl ap ((d, true) :: kw) o s fun fp s => forceK (kmove ((d, true) :: kw) o.op o.dst) fun kw => runOpsY P C inl ap all l kw s fun fps => k (fp :: fps)
                | false => skipY o s fun fp s => forceK (kdelO ((d, false) :: kw) o.dst) fun kw => runOpsY P C inl ap all l kw s fun fps => k (fp :: fps)
              | false => match b with
                | true => skipY o s fun fp s => forceK (kdelO ((d, true) :: kw) o.dst) fun kw => runOpsY P C inl ap all l kw s fun fps => k (fp :: fps)
                | false => opY P C inl ap ((d, false) :: kw) o s fun fp s => forceK (kmove ((d, false) :: kw) o.op o.dst) fun kw => runOpsY P C inl ap all l kw s fun fps => k (fp :: fps)
          | .one (.raw v) => match isBoolV v with
            | false => skipY o s fun fp s => forceK (kdelO kw o.dst) fun kw => runOpsY P C inl ap all l kw s fun fps => k (fp :: fps)
            | true => .error "guard"
          | _ => .error "guard") = (match o.guard with
      | none => opZ P C inl ap kw o s.abs fun fp s => forceK (kmove kw o.op o.dst) fun kw => runOpsZ P C inl ap all l kw s fun fps => k' (fp :: fps)
      | some (j, want) => match guardTmp all j with
        | none => .error "guard"
        | some d => match getT s.abs.t d with
          | .one (.bool b) => match kn kw d with
            | some true => match want with
              | true => opZ P C inl ap kw o s.abs fun fp s => forceK (kmove kw o.op o.dst) fun kw => runOpsZ P C inl ap all l kw s fun fps => k' (fp :: fps)
              | false => skipZ o s.abs fun fp s => forceK (kdelO kw o.dst) fun kw => runOpsZ P C inl ap all l kw s fun fps => k' (fp :: fps)
            | some false => match want with
              | false => opZ P C inl ap kw o s.abs fun fp s => forceK (kmove kw o.op o.dst) fun kw => runOpsZ P C inl ap all l kw s fun fps => k' (fp :: fps)
              | true => skipZ o s.abs fun fp s => forceK (kdelO kw o.dst) fun kw => runOpsZ P C inl ap all l kw s fun fps => k' (fp :: fps)
            | none => match want with
              | true => match b with
                | true => opZ P C inl ap ((d, true) :: kw) o s.abs fun fp s => forceK (kmove ((d, true) :: kw) o.op o.dst) fun kw => runOpsZ P C inl ap all l kw s fun fps => k' (fp :: fps)
                | false => skipZ o s.abs fun fp s => forceK (kdelO ((d, false) :: kw) o.dst) fun kw => runOpsZ P C inl ap all l kw s fun fps => k' (fp :: fps)
              | false => match b with
                | true => skipZ o s.abs fun fp s => forceK (kdelO ((d, true) :: kw) o.dst) fun kw => runOpsZ P C inl ap all l kw s fun fps => k' (fp :: fps)
                | false => opZ P C inl ap ((d, false) :: kw) o s.abs fun fp s => forceK (kmove ((d, false) :: kw) o.op o.dst) fun kw => runOpsZ P C inl ap all l kw s fun fps => k' (fp :: fps)
          | .one (.raw v) => match isBoolV v with
            | false => skipZ o s.abs fun fp s => forceK (kdelO kw o.dst) fun kw => runOpsZ P C inl ap all l kw s fun fps => k' (fp :: fps)
            | true => .error "guard"
          | _ => .error "guard")
    rw [ZS.g_eq]
    cases o.guard with
    | none => exact yes
    | some p =>
      obtain ⟨j, want⟩ := p
      dsimp only
      cases guardTmp all j with
      | none => rfl
      | some d =>
        dsimp only
        cases getT s.abs.t d with
        | agg ls => rfl
        | tup vs => rfl
        | one l =>
          cases l with
          | bool b =>
            dsimp only
            cases kn kw d with
            | none => cases want <;> cases b <;> first | exact yes | exact no
            | some w => cases w <;> cases want <;> first | exact yes | exact no
          | raw v =>
            dsimp only
            cases isBoolV v with
            | true => rfl
            | false => exact no
          | _ => rfl
noncomputable def purgeY {α : Sort _} (nm : Nat) (mks : List Nat) (ops : List Oper) : ZS → (ZS → α) → α :=
  List.rec (motive := fun _ => ZS → (ZS → α) → α) (fun s k => k s)
    (fun o _ ih s k => match newNm mks o with
      | none => ih s k
      | some d => withName nm d fun i => match look s.h i with
        | none => ih s k
        | some _ => mapTK (AV.purge i) s.t fun t => purgeHK i s.h fun h => nxS s fun _ n _ => ih ⟨t, n, h⟩ k) ops
theorem purgeY_cons {α : Sort _} (nm : Nat) (mks : List Nat) (o : Oper) (ops : List Oper) (s : ZS) (k : ZS → α) : purgeY nm mks (o :: ops) s k = (match newNm mks o with
      | none => purgeY nm mks ops s k
      | some d => withName nm d fun i => match look s.h i with
        | none => purgeY nm mks ops s k
        | some _ => mapTK (AV.purge i) s.t fun t => purgeHK i s.h fun h => nxS s fun _ n _ => purgeY nm mks ops ⟨t, n, h⟩ k) := rfl
theorem purgeY_eq {α : Sort _} (mks : List Nat) (nm : Nat) : ∀ (ops : List Oper) (s : ZS) (k : ZS → α) (k' : S → α), (∀ s, k s = k' s.abs) → purgeY nm mks ops s k = purgeAll nm mks ops s.abs k'
  | [], s, k, k', hk => hk s
  | o :: ops, s, k, k', hk => by
    rw [purgeAll_cons', purgeY_cons]
    cases newNm mks o with
    | none => exact purgeY_eq mks nm ops s k k' hk
    | some d =>
      dsimp only
      rw [withName_eq, withName_eq, show s.abs.h = s.h from rfl]
      cases look s.h (nameOf nm d) with
      | none => exact purgeY_eq mks nm ops s k k' hk
      | some b =>
        dsimp only
        rw [mapTK_eq, purgeTK_eq, purgeHK_L, purgeHK_L, nxS_eq, purgeY_eq mks nm ops _ k k' hk, ZS.abs, toL_map]; rfl
noncomputable def timesY (body : ZS → (Ex → ZS → Z β) → Z β) (Q : Ex → ZS → Z β) (n : Nat) : ZS → Z β :=
  Nat.rec (motive := fun _ => ZS → Z β) (fun _ => .error "times")
    (fun _ ih s => body s fun e s => match e with
      | .normal => ih s
      | .ret => Q .ret s
      | .exit m => Q (.exit m) s) n
noncomputable def EY (P : Program) (C : ZT) (inl : Inl β) (fuel : Nat) (c : Code) : ZS → (Ex → ZS → Z β) → Z β :=
  Code.rec (motive := fun _ => ZS → (Ex → ZS → Z β) → Z β)
    (fun s Q => Q .normal s)
    (fun _ ops draw s Q => purgeY C.nm C.mks ops.toList s fun s => match draw with
      | false => runOpsY P C inl .clo ops.toList ops.toList [] s fun _ s => Q .normal s
      | true => match headOf C.im ops.toList with
        | none => runOpsY P C.no (fun f _ _ _ _ => .error (callE f)) .no ops.toList ops.toList [] s fun fps s => match okFrom 0 ops.toList fps with
          | true => match Region.lexB .any ops with
            | true => Q .normal s
            | false => .error "lex"
          | false => .error "order"
        | some n => match midT (ops.toList.drop (n + 1)) with
         | false => match Region.tailB ops n with
          | true => runOpsY P C.still (fun f _ _ _ _ => .error (callE f)) .no ops.toList (ops.toList.take n) [] s fun fps s => match stillF fps with
            | true => runOpsY P C inl .clo ops.toList (ops.toList.drop n) [] s fun _ s => Q .normal s
            | false => .error "still"
          | false => .error (posE ops)
         | true => match Region.midB .any ops n with
          | true => runOpsY P C.still (fun f _ _ _ _ => .error (callE f)) .no ops.toList (ops.toList.take n) [] s fun fps s => match stillF fps with
            | true => runOpsY P C inl .clo ops.toList ((ops.toList.drop n).take 1) [] s fun _ s => runOpsY P C.no (fun f _ _ _ _ => .error (callE f)) .no ops.toList (ops.toList.drop (n + 1)) [] s fun fps s => match okFrom (n + 1) (ops.toList.drop (n + 1)) fps with
              | true => Q .normal s
              | false => .error "order2"
            | false => .error "still2"
          | false => .error (posE ops))
    (fun _ _ iha ihb s Q => iha s fun e s => match e with
      | .normal => ihb s Q
      | .ret => Q .ret s
      | .exit n => Q (.exit n) s)
    (fun c _ _ iha ihb s Q => match evG s.g c with
      | .one (.bool p) => match p with
        | true => iha s Q
        | false => ihb s Q
      | _ => .error "cond")
    (fun n _ ih s Q => ih s fun e s => match e with
      | .normal => Q .normal s
      | .ret => Q .ret s
      | .exit m => match Nat.beq m n with
        | true => Q .normal s
        | false => Q (.exit m) s)
    (fun _ ih s Q => timesY ih Q fuel s)
    (fun _ _ _ _ _ _ _ _ => .error "code")
    (fun n s Q => Q (.exit n) s)
    (fun _ _ _ _ => .error "code")
    (fun _ _ _ => .error "code")
    (fun _ _ _ => .error "code")
    (fun s Q => Q .ret s)
    (fun _ _ _ => .error "code") c
theorem timesY_eq {body : ZS → (Ex → ZS → Z β) → Z β} {body' : S → (Ex → S → Z β) → Z β} (hb : ∀ s Q Q', (∀ e s, Q e s = Q' e s.abs) → body s Q = body' s.abs Q')
    {Q : Ex → ZS → Z β} {Q' : Ex → S → Z β} (hQ : ∀ e s, Q e s = Q' e s.abs) : ∀ (n : Nat) (s : ZS), timesY body Q n s = timesZ body' Q' n s.abs
  | 0, s => rfl
  | n + 1, s => hb s _ _ fun x s' => by
      cases x with
      | normal => exact timesY_eq hb hQ n s'
      | ret => exact hQ _ _
      | exit m => exact hQ _ _
theorem EY_eq {P : Program} {C : ZT} {inl : Inl β} {fuel : Nat} : ∀ (c : Code) (s : ZS) (Q : Ex → ZS → Z β) (Q' : Ex → S → Z β), (∀ e s, Q e s = Q' e s.abs) → EY P C inl fuel c s Q = EZ P C inl fuel c s.abs Q'
  | .skip, s, Q, Q', hQ => hQ _ _
  | .exit n, s, Q, Q', hQ => hQ _ _
  | .ret, s, Q, Q', hQ => hQ _ _
  | .region id ops draw, s, Q, Q', hQ => by
    show (purgeY C.nm C.mks ops.toList s fun s => match draw with
      | false => runOpsY P C inl .clo ops.toList ops.toList [] s fun _ s => Q .normal s
      | true => match headOf C.im ops.toList with
        | none => runOpsY P C.no (fun f _ _ _ _ => .error (callE f)) .no ops.toList ops.toList [] s fun fps s => match okFrom 0 ops.toList fps with
          | true => match Region.lexB .any ops with
            | true => Q .normal s
            | false => .error "lex"
          | false => .error "order"
        | some n => match midT (ops.toList.drop (n + 1)) with
         | false => match Region.tailB ops n with
          | true => runOpsY P C.still (fun f _ _ _ _ => .error (callE f)) .no ops.toList (ops.toList.take n) [] s fun fps s => match stillF fps with
            | true => runOpsY P C inl .clo ops.toList (ops.toList.drop n) [] s fun _ s => Q .normal s
            | false => .error "still"
          | false => .error (posE ops)
         | true => match Region.midB .any ops n with
          | true => runOpsY P C.still (fun f _ _ _ _ => .error (callE f)) .no ops.toList (ops.toList.take n) [] s fun fps s => match stillF fps with
            | true => runOpsY P C inl .clo ops.toList ((ops.toList.drop n).take 1) [] s fun _ s => runOpsY P C.no (fun f _ _ _ _ => .error (callE f)) .no ops.toList (ops.toList.drop (n + 1)) [] s fun fps s => match okFrom (n + 1) (ops.toList.drop (n + 1)) fps with
              | true => Q .normal s
              | false => .error "order2"
            | false => .error "still2"
          | false => .error (posE ops)) = (purgeAll C.nm C.mks ops.toList s.abs fun s => match draw with
      | false => runOpsZ P C inl .clo ops.toList ops.toList [] s fun _ s => Q' .normal s
      | true => match headOf C.im ops.toList with
        | none => runOpsZ P C.no (fun f _ _ _ _ => .error (callE f)) .no ops.toList ops.toList [] s fun fps s => match okFrom 0 ops.toList fps with
          | true => match Region.lexB .any ops with
            | true => Q' .normal s
            | false => .error "lex"
          | false => .error "order"
        | some n => match midT (ops.toList.drop (n + 1)) with
         | false => match Region.tailB ops n with
          | true => runOpsZ P C.still (fun f _ _ _ _ => .error (callE f)) .no ops.toList (ops.toList.take n) [] s fun fps s => match stillF fps with
            | true => runOpsZ P C inl .clo ops.toList (ops.toList.drop n) [] s fun _ s => Q' .normal s
            | false => .error "still"
          | false => .error (posE ops)
         | true => match Region.midB .any ops n with
          | true => runOpsZ P C.still (fun f _ _ _ _ => .error (callE f)) .no ops.toList (ops.toList.take n) [] s fun fps s => match stillF fps with
            | true => runOpsZ P C inl .clo ops.toList ((ops.toList.drop n).take 1) [] s fun _ s => runOpsZ P C.no (fun f _ _ _ _ => .error (callE f)) .no ops.toList (ops.toList.drop (n + 1)) [] s fun fps s => match okFrom (n + 1) (ops.toList.drop (n + 1)) fps with
              | true => Q' .normal s
              | false => .error "order2"
            | false => .error "still2"
          | false => .error (posE ops))
    refine purgeY_eq _ _ _ _ _ _ fun s => ?_
    cases draw with
    | false => exact runOpsY_eq fun _ s => hQ _ _
    | true =>
      dsimp only
      cases headOf C.im ops.toList with
      | none =>
        dsimp only
        refine runOpsY_eq fun fps s => ?_
        cases okFrom 0 ops.toList fps <;> cases Region.lexB .any ops <;> dsimp only
        exact hQ _ _
      | some n =>
        dsimp only
        cases midT (ops.toList.drop (n + 1)) with
        | true =>
          dsimp only
          cases Region.midB .any ops n <;> dsimp only
          refine runOpsY_eq fun fps s => ?_
          cases stillF fps <;> dsimp only
          refine runOpsY_eq fun _ s => ?_
          refine runOpsY_eq fun fps s => ?_
          cases okFrom (n + 1) (ops.toList.drop (n + 1)) fps <;> dsimp only
          exact hQ _ _
        | false =>
          dsimp only
          cases Region.tailB ops n <;> dsimp only
          refine runOpsY_eq fun fps s => ?_
          cases stillF fps <;> dsimp only
          exact runOpsY_eq fun _ s => hQ _ _
  | .seq x y, s, Q, Q', hQ => EY_eq x s _ _ fun x s' => by
      cases x with
      | normal => exact EY_eq y s' Q Q' hQ
      | ret => exact hQ _ _
      | exit m => exact hQ _ _
  | .cond c x y, s, Q, Q', hQ => by
    show (match evG s.g c with
      | .one (.bool p) => match p with
        | true => EY P C inl fuel x s Q
        | false => EY P C inl fuel y s Q
      | _ => .error "cond") = (match ev s.abs.t c with
      | .one (.bool p) => match p with
        | true => EZ P C inl fuel x s.abs Q'
        | false => EZ P C inl fuel y s.abs Q'
      | _ => .error "cond")
    rw [ev_G, ZS.g_eq]
    cases evG (getT s.abs.t) c with
    | agg ls => rfl
    | tup vs => rfl
    | one l =>
      cases l with
      | bool p =>
        cases p
        · exact EY_eq y s Q Q' hQ
        · exact EY_eq x s Q Q' hQ
      | _ => rfl
  | .block n x, s, Q, Q', hQ => EY_eq x s _ _ fun x s' => by
      cases x with
      | normal => exact hQ _ _
      | ret => exact hQ _ _
      | exit m =>
        dsimp only
        cases Nat.beq m n
        · exact hQ _ _
        · exact hQ _ _
  | .loop x, s, Q, Q', hQ => timesY_eq (fun s Q Q' hQ => EY_eq x s Q Q' hQ) hQ fuel s
  | .rangeFunc _ _ _ _, s, Q, Q', hQ => rfl
  | .scope _, s, Q, Q', hQ => rfl
  | .label _, s, Q, Q', hQ => rfl
  | .goto _, s, Q, Q', hQ => rfl
  | .refuse _, s, Q, Q', hQ => rfl
def resG (P : Program) (g : Nat → AV) (h : List (Nat × Blk)) : List ResultVar → Option (List (Bool × List L))
  | [] => some []
  | .tmp t :: r => match resG P g h r with
    | some rs => match g t with
      | .one l => some ((false, [l]) :: rs)
      | .agg ls => some ((true, ls) :: rs)
      | _ => none
    | none => none
  | .cell a T :: r => match resG P g h r with
    | some rs => match g a with
      | .one (.ptr i off) => match look h i with
        | some b => match P.info? T with
          | some inf => match isAggT P T with
            | some true => match b.rdL with
              | some ls => match takeL (dropL ls off) inf.size with
                | some r => some ((true, r) :: rs)
                | none => none
              | none => none
            | some false => match b.rdL with
              | some ls => match headL (dropL ls off) with
                | some l => some ((false, [l]) :: rs)
                | none => none
              | none => none
            | none => none
          | none => none
        | none => none
      | _ => none
    | none => none
theorem res_G (P : Program) (s : ZS) : ∀ l, resG P (getT s.abs.t) s.h l = resLs P s.abs l
  | [] => rfl
  | .tmp t :: r => by simp only [resG, resLs, res_G P s r]; rfl
  | .cell a T :: r => by simp only [resG, resLs, res_G P s r, show s.abs.h = s.h from rfl]; rfl
noncomputable def FIY (P : Program) (C : ZT) (inl : Inl β) (fuel : Nat) (f : Func) (tp : Nat) (args : List AV) (h : List (Nat × Blk)) (K : AV → List (Nat × Blk) → Z β) : Z β :=
  match f.body with
  | some c => match Nat.ble args.length f.ntmps with
    | false => .error "args"
    | true => zN (tp + f.ntmps) fun tq => addTK args 0 .e fun t => EY P (C.set tp tq) inl fuel c ⟨t, f.ntmps, h⟩ fun e s => match e with
      | .exit _ => .error "exit"
      | _ => match resG P s.g s.h f.results.toList with
        | some r => zA (resV r) fun v => cutHK tp s.h fun h => outsZ s.h (newNs tp v.names) h fun h' => match allIn h' v.names, scopeH h h with
          | true, true => K v h'
          | _, _ => .error "out"
        | none => .error "res"
  | none => .error "body"
theorem FIY_eq {P : Program} {C : ZT} {inl : Inl β} {fuel : Nat} {f : Func} {tp : Nat} {args : List AV} {h : List (Nat × Blk)} {K : AV → List (Nat × Blk) → Z β} : FIY P C inl fuel f tp args h K = FIZ P C inl fuel f tp args h K := by
  unfold FIY FIZ
  cases f.body with
  | none => rfl
  | some c =>
    dsimp only
    cases hle : Nat.ble args.length f.ntmps with
    | false => rfl
    | true =>
      dsimp only
      rw [zN_eq, zN_eq]
      obtain ⟨t, h1, h2⟩ := addTK_start (n := f.ntmps) (l := args) (Nat.le_of_ble_eq_true hle) fun t => EY P (C.set tp (tp + f.ntmps)) inl fuel c ⟨t, f.ntmps, h⟩ fun e s => match e with
        | .exit _ => .error "exit"
        | _ => match resG P s.g s.h f.results.toList with
          | some r => zA (resV r) fun v => cutHK tp s.h fun h => outsZ s.h (newNs tp v.names) h fun h' => match allIn h' v.names, scopeH h h with
            | true, true => K v h'
            | _, _ => .error "out"
          | none => .error "res"
      rw [h1]
      have e : (⟨start f.ntmps args, h⟩ : S) = ZS.abs ⟨t, f.ntmps, h⟩ := by rw [ZS.abs, h2]
      rw [e]
      refine EY_eq c _ _ _ fun x s => ?_
      cases x with
      | normal => dsimp only; rw [ZS.g_eq, res_G, show s.abs.h = s.h from rfl]; rfl
      | ret => dsimp only; rw [ZS.g_eq, res_G, show s.abs.h = s.h from rfl]; rfl
      | exit n => rfl
end
noncomputable def inlY (P : Program) (C : ZT) (fuel : Nat) (fs : List (Nat × Func)) (n : Nat) : (β : Type) → Inl β :=
  Nat.rec (motive := fun _ => (β : Type) → Inl β) (fun _ _ _ _ _ _ => .error "deep")
    (fun _ ih β f tp args h K => match findF fs f with
      | some fn => FIY P C (ih β) fuel fn tp args h K
      | none => .error (callE f)) n
theorem inlY_eq (P : Program) (C : ZT) (fuel : Nat) (fs : List (Nat × Func)) : ∀ n, inlY P C fuel fs n = inlZ P C fuel fs n
  | 0 => rfl
  | n + 1 => by
    funext β f tp args h K
    show (match findF fs f with
      | some fn => FIY P C (inlY P C fuel fs n β) fuel fn tp args h K
      | none => .error (callE f)) = (match findF fs f with
      | some fn => FIZ P C (inlZ P C fuel fs n β) fuel fn tp args h K
      | none => .error (callE f))
    cases findF fs f with
    | none => rfl
    | some fn => dsimp only; rw [FIY_eq, inlY_eq P C fuel fs n]
noncomputable def mkY (P : Program) (D : VData) (fn : FuncId → List AV → List (Nat × Blk) → Option (Cond × AV)) (im mk : List Nat) (fs : List (Nat × Func)) (fuel n : Nat) (f : FuncId) (args : List AV) (bs : List (Nat × Blk)) : Option (Cond × Blk × NewV) :=
  match inNs f mk with
  | true => match roBs bs with
    | some ro => match allIn ro (anames args), allLt (maxN ro) ro with
      | true, true => match zN (maxN ro) fun tp => inlY P ⟨fn, D.glob, D.look, 0, 0, im, fun _ _ _ => none, []⟩ fuel fs n (Nat × Blk) f tp args ro fun v h => match v with
          | .one (.rsl x l) => match look h x with
            | some (.row T z m g) => zB (.row T z m g) fun b => .ok (l, b)
            | _ => .error "mk"
          | _ => .error "mk" with
        | .ok (l, .row T z m g) => some (.t, .row T z m g, .r l)
        | _ => none
      | _, _ => none
    | none => none
  | false => none
theorem mkY_eq (P : Program) (D : VData) (fn : FuncId → List AV → List (Nat × Blk) → Option (Cond × AV)) (im mk : List Nat) (fs : List (Nat × Func)) (fuel n : Nat) : mkY P D fn im mk fs fuel n = mkZ P D fn im mk fs fuel n := by
  funext f args bs
  unfold mkY mkZ
  simp only [inlY_eq]
  rfl
noncomputable def evY (P : Program) (D : VData) (tb : List (Nat × Sp)) (pu im mk : List Nat) (fs : List (Nat × Func)) (fuel n m : Nat) : FuncId → List AV → List (Nat × Blk) → Option (Cond × AV) :=
  Nat.rec (motive := fun _ => FuncId → List AV → List (Nat × Blk) → Option (Cond × AV)) (fun f args _ => tabF tb f args)
    (fun _ ih f args bs => match tabF tb f args with
      | some x => some x
      | none => match inNs f pu with
        | true => match roBs bs with
          | some ro => match allIn ro (anames args), allLt (maxN ro) ro with
            | true, true => match zN (maxN ro) fun tp => inlY P ⟨ih, D.glob, D.look, 0, 0, im, mkY P D ih im mk fs fuel n, mk⟩ fuel fs n AV f tp args ro fun v _ => .ok v with
              | .ok v => match v.names with
                | [] => some (.t, v)
                | _ => none
              | .error _ => none
            | _, _ => none
          | none => none
        | false => none) m
theorem evY_eq (P : Program) (D : VData) (tb : List (Nat × Sp)) (pu im mk : List Nat) (fs : List (Nat × Func)) (fuel n : Nat) : ∀ m, evY P D tb pu im mk fs fuel n m = evZ P D tb pu im mk fs fuel n m
  | 0 => rfl
  | m + 1 => by
    funext f args bs
    show (match tabF tb f args with
      | some x => some x
      | none => match inNs f pu with
        | true => match roBs bs with
          | some ro => match allIn ro (anames args), allLt (maxN ro) ro with
            | true, true => match zN (maxN ro) fun tp => inlY P ⟨evY P D tb pu im mk fs fuel n m, D.glob, D.look, 0, 0, im, mkY P D (evY P D tb pu im mk fs fuel n m) im mk fs fuel n, mk⟩ fuel fs n AV f tp args ro fun v _ => .ok v with
              | .ok v => match v.names with
                | [] => some (.t, v)
                | _ => none
              | .error _ => none
            | _, _ => none
          | none => none
        | false => none) = _
    rw [evY_eq P D tb pu im mk fs fuel n m, mkY_eq]
    simp only [inlY_eq]
    rfl
noncomputable abbrev ZT.ofY (P : Program) (D : VData) (fn : FuncId → List AV → List (Nat × Blk) → Option (Cond × AV)) (im mk : List Nat) (fs : List (Nat × Func)) (fuel n : Nat) : ZT := ⟨fn, D.glob, D.look, 0, 0, im, mkY P D fn im mk fs fuel n, mk⟩
/-- The answer of a closed run. -/
noncomputable abbrev runY (P : Program) (D : VData) (tb : List (Nat × Sp)) (pu im mk : List Nat) (fs : List (Nat × Func)) (fuel n m : Nat) (f : Nat) (as : List AV) : Z AV :=
  inlY P (ZT.ofY P D (evY P D tb pu im mk fs fuel n m) im mk fs fuel n) fuel fs n AV f 0 as [] (fun v _ => .ok v)
theorem runY_eq (P : Program) (D : VData) (tb : List (Nat × Sp)) (pu im mk : List Nat) (fs : List (Nat × Func)) (fuel n m : Nat) (f : Nat) (as : List AV) : runY P D tb pu im mk fs fuel n m f as =
    inlZ P (ZT.of P D (evZ P D tb pu im mk fs fuel n m) im mk fs fuel n) fuel fs n AV f 0 as [] (fun v _ => .ok v) := by
  unfold runY
  rw [ZT.ofY, ZT.of, evY_eq, mkY_eq, inlY_eq]
section
variable {P : Program} {G : World → Prop} {D : VData}
theorem EntryOK.of_YT {tb : List (Nat × Sp)} (hC : CSound P G (tab D tb)) (hm : P.follows .mixedOrders = true) {pu im mk : List Nat} {fs : List (Nat × Func)} (hfs : FsOK P fs) {fuel n m : Nat} {f : FuncId}
    (h : isT (runY P D tb pu im mk fs fuel n m f []) = true) : EntryOK P G f spT := by
  rw [runY_eq] at h
  exact .of_ZT hC hm hfs h
theorem OneOK.of_Y {tb : List (Nat × Sp)} (hC : CSound P G (tab D tb)) (hm : P.follows .mixedOrders = true) {pu im mk : List Nat} {fs : List (Nat × Func)} (hfs : FsOK P fs) {fuel n m : Nat} {f : FuncId} {as : List AV} {l : L} (ha : closed as = true)
    (h : eqZ1 (runY P D tb pu im mk fs fuel n m f as) l = true) : OneOK P G f as (.one l) := by
  rw [runY_eq] at h
  exact .of_Z hC hm hfs ha h
theorem EntryOK.of_Y8 {tb : List (Nat × Sp)} (hC : CSound P G (tab D tb)) (hm : P.follows .mixedOrders = true) {pu im mk : List Nat} {fs : List (Nat × Func)} (hfs : FsOK P fs) {fuel n m : Nat} {f : FuncId} {N : Nat} {spec : Nat → L} (hN : 0 < N)
    (h : allN (fun k => eqZ1 (runY P D tb pu im mk fs fuel n m f [.one (.b8 false (BitVec.ofNat 8 k))]) (spec k)) N = true) : EntryOK P G f (sp8 N spec) := by
  simp only [runY_eq] at h
  exact .of_Z8 hC hm hfs hN h
theorem EntryOK.of_YI {tb : List (Nat × Sp)} (hC : CSound P G (tab D tb)) (hm : P.follows .mixedOrders = true) {pu im mk : List Nat} {fs : List (Nat × Func)} (hfs : FsOK P fs) {fuel n m : Nat} {f : FuncId} {N : Nat} {spec : Nat → L} (hN : 0 < N)
    (h : allN (fun k => eqZ1 (runY P D tb pu im mk fs fuel n m f [.one (.b64 true (BitVec.ofNat 64 k))]) (spec k)) N = true) : EntryOK P G f (spI N spec) := by
  simp only [runY_eq] at h
  exact .of_ZI hC hm hfs hN h
end
end Go.Ep
