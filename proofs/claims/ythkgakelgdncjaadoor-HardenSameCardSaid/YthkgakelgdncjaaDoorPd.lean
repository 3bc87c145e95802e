/- An evaluator for the model's code over values that bear letters: it goes through a function's code in the order of the text and leaves what is to be shown. Definitions alone; that it is sound is XEvS. Conditions: none. -/
import Derived.Deep.Quiet
import Derived.WalkKit
import Derived.Below
import Derived.KernelRfl
import Derived.StillTail
import Derived.Test.YthkgakelgdncjaaDoorPhT
import Derived.Laws.StructEq
import Derived.Laws.CopyRow
import Derived.Laws.Cells
import Derived.Laws.Rows
import Derived.ChangeKeysEq
namespace Go.Ep
open Go.RowKit
set_option linter.unusedVariables false
set_option linter.unusedSimpArgs false
inductive PL
 | b64 (s:Bool) (x:BitVec 64)
 | b32 (s:Bool) (x:BitVec 32)
 | b16 (s:Bool) (x:BitVec 16)
 | b8 (s:Bool) (x:BitVec 8)
 | bool (b:Bool)
 | str (s:ByteArray)
inductive L
 | b64 (s:Bool) (x:BitVec 64)
 | b32 (s:Bool) (x:BitVec 32)
 | b16 (s:Bool) (x:BitVec 16)
 | b8 (s:Bool) (x:BitVec 8)
 | bool (b:Bool)
 | str (s:ByteArray)
 | ptr (i:Nat) (off:Nat)
 | eptr (i off n k:Nat)
 | slc (i off len cap:Nat)
 | gmap (g b:Nat)
 | clo (f:Nat) (caps:List (Nat×Nat))
 | raw (v:Value)
 | rptr (i o z k p:Nat)
 | rsl (i n:Nat)
 | rsc (i z k s n:Nat)
 | imap (i:Nat)
 | seg (z n:Nat) (f:Nat→List PL)
 | junk
inductive AV
 | one (l:L)
 | agg (ls:List L)
 | tup (vs:List (Bool×List L))
inductive Blk
 | cells (T:TypeId) (ls:List L)
 | ro (T:TypeId) (ls:List L)
 | row (T:TypeId) (z n:Nat) (f:Nat→List PL)
 | imap (es:List (BitVec 64×BitVec 64))
 | romap (es:List (BitVec 64×BitVec 64))
 | vec (T:TypeId) (ls:List L)
def Blk.rdL:Blk→Option (List L)
 | .cells _ ls=>some ls
 | .ro _ ls=>some ls
 | .row _ z n f=>some [.seg z n f]
 | .imap _=>none
 | .romap _=>none
 | .vec _ ls=>some ls
def Blk.own:Blk→Bool
 | .ro _ _=>false
 | .romap _=>false
 | _=>true
structure S where
 t:List AV
 h:List (Nat×Blk)
inductive Both (p q:Prop):Prop
 | mk (a:p) (b:q):Both p q
inductive Given (p q:Prop):Prop
 | mk (h:p→q):Given p q
inductive Ob (p:Prop):Prop
 | mk (a:p):Ob p
inductive Stuck (s:String):Prop
inductive Cond
 | t
 | p (h:Prop) (d:Option (Decidable h):=by first | exact some inferInstance | exact none)
def Cond.holds:Cond→Prop
 | .t=>True
 | .p h _=>h
def withC (c:Cond) (q:Prop):Prop:=match c with
 | .t=>q
 | .p h _=>Both (Ob h) q
def getT:List AV→Nat→AV
 | [],_=> .one .junk
 | x::_,0=>x
 | _::xs,n + 1=>getT xs n
noncomputable def setK {α:Sort _} (l:List AV):Nat→AV→(List AV→α)→α:=
 List.rec (motive:=fun _=>Nat→AV→(List AV→α)→α) (fun _ _ k=>k [])
  (fun x xs ih n v k=>match n with
    | 0=>k (v::xs)
    | m + 1=>ih m v fun ys=>k (x::ys)) l
def forceL {α:Sort _} (l:L) (k:L→α):α:=
 match l with
 | .b64 s x=>k (.b64 s x)
 | .b32 s x=>k (.b32 s x)
 | .b16 s x=>k (.b16 s x)
 | .b8 s x=>k (.b8 s x)
 | .bool b=>k (.bool b)
 | .str s=>k (.str s)
 | .ptr i o=>k (.ptr i o)
 | .eptr i o n j=>k (.eptr i o n j)
 | .slc i o l c=>k (.slc i o l c)
 | .gmap g b=>k (.gmap g b)
 | .clo f c=>k (.clo f c)
 | .raw v=>k (.raw v)
 | .rptr i o z j p=>k (.rptr i o z j p)
 | .rsl i n=>k (.rsl i n)
 | .rsc i z j q n=>k (.rsc i z j q n)
 | .imap i=>k (.imap i)
 | .seg z n f=>k (.seg z n f)
 | .junk=>k .junk
noncomputable def forceLs {α:Sort _} (l:List L):(List L→α)→α:=
 List.rec (motive:=fun _=>(List L→α)→α) (fun k=>k []) (fun l _ ih k=>forceL l fun l=>ih fun ls=>k (l::ls)) l
noncomputable def forceVs {α:Sort _} (l:List (Bool×List L)):(List (Bool×List L)→α)→α:=
 List.rec (motive:=fun _=>(List (Bool×List L)→α)→α) (fun k=>k [])
  (fun p _ ih k=>match p with
    | (true,l)=>forceLs l fun l=>ih fun ls=>k ((true,l)::ls)
    | (false,l)=>forceLs l fun l=>ih fun ls=>k ((false,l)::ls)) l
noncomputable def forceA {α:Sort _} (v:AV) (k:AV→α):α:=
 match v with
 | .one l=>forceL l fun l=>k (.one l)
 | .agg ls=>forceLs ls fun ls=>k (.agg ls)
 | .tup vs=>forceVs vs fun vs=>k (.tup vs)
noncomputable def forceB {α:Sort _} (b:Blk) (k:Blk→α):α:=match b with
 | .cells T ls=>forceLs ls fun ls=>k (.cells T ls)
 | .ro T ls=>forceLs ls fun ls=>k (.ro T ls)
 | .row T z n f=>k (.row T z n f)
 | .imap es=>k (.imap es)
 | .romap es=>k (.romap es)
 | .vec T ls=>forceLs ls fun ls=>k (.vec T ls)
def litW (w:Nat) (s:Bool) (mk:BitVec w→L) (v:Value) (n:Int):L:=
 match n with
 | Int.ofNat m=>match Nat.blt m (2 ^ (match s with | true=>w - 1 | false=>w)) with
   | true=>mk (BitVec.ofNat w (OfNat.ofNat m))
   | false=> .raw v
 | Int.negSucc m=>match s with
   | true=>match Nat.blt m (2 ^ (w - 1)) with
     | true=>mk (BitVec.ofInt w (Int.negSucc m))
     | false=> .raw v
   | false=> .raw v
def ofLeaf (v:Value):L:=
 match v with
 | .int k n=>match k with
   | .u64=>litW 64 false (.b64 false) v n
   | .i64=>litW 64 true (.b64 true) v n
   | .u32=>litW 32 false (.b32 false) v n
   | .i32=>litW 32 true (.b32 true) v n
   | .u16=>litW 16 false (.b16 false) v n
   | .i16=>litW 16 true (.b16 true) v n
   | .u8=>litW 8 false (.b8 false) v n
   | .i8=>litW 8 true (.b8 true) v n
 | .bool b=> .bool b
 | .string s=> .str s
 | v=> .raw v
def mapLeaf:List Value→List L
 | []=>[]
 | v::vs=>ofLeaf v::mapLeaf vs
def ofV (v:Value):AV:=
 match v with
 | .agg cs=> .agg (mapLeaf cs.toList)
 | v=> .one (ofLeaf v)
def ev (t:List AV):Operand→AV
 | .tmp n=>getT t n
 | .const v=>ofV v
 | .func f=> .one (.raw (.func (.func f) #[] #[]))
 | .global g=> .one (.raw (.pointer (some ⟨g,0,none⟩)))
def evs (t:List AV):List Operand→List AV
 | []=>[]
 | x::xs=>ev t x::evs t xs
def evp (t:List AV):List (Nat×Operand)→List (Nat×AV)
 | []=>[]
 | (i,x)::xs=>(i,ev t x)::evp t xs
inductive NewV
 | p
 | s (len:Nat)
 | r (len:Nat)
 | m
def NewV.at:NewV→Nat→L
 | .p,d=> .ptr d 0
 | .s n,d=> .slc d 0 n n
 | .r n,d=> .rsl d n
 | .m,d=> .imap d
inductive Src
 | mem (j:Nat) (k:Blk→Option (Cond×(Nat→List PL)))
 | cell (j off:Nat) (k:Blk→Option (Cond×(Nat→List PL)))
 | here (g:Nat→List PL)
inductive Req
 | val (v:AV)
 | rd (i:Nat) (k:Blk→Option (Cond×AV))
 | wr (i:Nat) (k:Blk→Option (Cond×Blk))
 | new (b:Blk) (v:NewV)
 | call (f:FuncId) (args:List AV)
 | glob (T:TypeId) (g off:Nat)
 | look (T:TypeId) (ok:Bool) (g b:Nat) (key:AV)
 | pick (b:Bool) (x y:AV)
 | app (s:Option (Nat×Nat)) (e:TypeId) (z m:Nat) (x:Src)
def capsOf (t:List AV):List Operand→Option (List (Nat×Nat))
 | []=>some []
 | x::xs=>match ev t x with
   | .one (.ptr i o)=>match capsOf t xs with
     | some r=>some ((i,o)::r)
     | none=>none
   | _=>none
def capVs:List (Nat×Nat)→List AV
 | []=>[]
 | (i,o)::r=> .one (.ptr i o)::capVs r
def isAggT (P:Program) (t:TypeId):Option Bool:=match P.underlying t with
 | some (.struct _) | some (.array _ _)=>some true
 | some _=>some false
 | none=>none
def PL.toL:PL→L
 | .b64 s x=> .b64 s x
 | .b32 s x=> .b32 s x
 | .b16 s x=> .b16 s x
 | .b8 s x=> .b8 s x
 | .bool b=> .bool b
 | .str s=> .str s
def L.pl:L→Option PL
 | .b64 s x=>some (.b64 s x)
 | .b32 s x=>some (.b32 s x)
 | .b16 s x=>some (.b16 s x)
 | .b8 s x=>some (.b8 s x)
 | .bool b=>some (.bool b)
 | .str s=>some (.str s)
 | _=>none
def toLs:List PL→List L
 | []=>[]
 | p::r=>p.toL::toLs r
def toPLs:List L→Option (List PL)
 | []=>some []
 | l::r=>match l.pl with
   | some p=>match toPLs r with
     | some ps=>some (p::ps)
     | none=>none
   | none=>none
def dropP:List PL→Nat→List PL
 | ps,0=>ps
 | [],_ + 1=>[]
 | _::ps,n + 1=>dropP ps n
def takeP:List PL→Nat→Option (List PL)
 | _,0=>some []
 | [],_ + 1=>none
 | p::ps,n + 1=>match takeP ps n with
   | some r=>some (p::r)
   | none=>none
def wid:L→Nat
 | .seg z n _=>z*n
 | _=>1
def wids:List L→Nat
 | []=>0
 | l::ls=>wids ls + wid l
def appL:List L→List L→List L
 | [],ys=>ys
 | x::xs,ys=>x::appL xs ys
def tailS (z m:Nat) (f:Nat→List PL) (k:Nat) (ls:List L):List L:=match Nat.beq k m with
 | true=>ls
 | false=> .seg z (m - k) (fun j=>f (j + k))::ls
def dropL:List L→Nat→List L
 | ls,0=>ls
 | [],_ + 1=>[]
 | l::ls,n + 1=>match l with
   | .seg z m f=>match Nat.ble (z*m) (n + 1) with
     | true=>dropL ls (n + 1 - z*m)
     | false=>appL (toLs (dropP (f ((n + 1) / z)) ((n + 1) % z))) (tailS z m f ((n + 1) / z + 1) ls)
   | _=>dropL ls n
def takeL:List L→Nat→Option (List L)
 | _,0=>some []
 | [],_ + 1=>none
 | l::ls,n + 1=>match l with
   | .seg z m f=>match Nat.ble (z*m) (n + 1) with
     | true=>match takeL ls (n + 1 - z*m) with
       | some r=>some (.seg z m f::r)
       | none=>none
     | false=>match Nat.ble (n + 1) z with
       | true=>match takeP (f 0) (n + 1) with
         | some r=>some (toLs r)
         | none=>none
       | false=>none
   | l=>match takeL ls n with
     | some r=>some (l::r)
     | none=>none
def headL:List L→Option L
 | []=>none
 | l::_=>match l with
   | .seg _ m f=>match m with
     | 0=>none
     | _ + 1=>match f 0 with
       | p::_=>some p.toL
       | []=>none
   | l=>some l
def pickP (c:Prop) [Decidable c] (v x:PL):PL:=match v with
 | .b64 s v=>match x with
   | .b64 s' x=>match s,s' with
     | true,true=> .b64 true (if c then v else x)
     | false,false=> .b64 false (if c then v else x)
     | s,s'=>if c then .b64 s v else .b64 s' x
   | x=>if c then .b64 s v else x
 | .b32 s v=>match x with
   | .b32 s' x=>match s,s' with
     | true,true=> .b32 true (if c then v else x)
     | false,false=> .b32 false (if c then v else x)
     | s,s'=>if c then .b32 s v else .b32 s' x
   | x=>if c then .b32 s v else x
 | .b16 s v=>match x with
   | .b16 s' x=>match s,s' with
     | true,true=> .b16 true (if c then v else x)
     | false,false=> .b16 false (if c then v else x)
     | s,s'=>if c then .b16 s v else .b16 s' x
   | x=>if c then .b16 s v else x
 | .b8 s v=>match x with
   | .b8 s' x=>match s,s' with
     | true,true=> .b8 true (if c then v else x)
     | false,false=> .b8 false (if c then v else x)
     | s,s'=>if c then .b8 s v else .b8 s' x
   | x=>if c then .b8 s v else x
 | .bool v=>match x with
   | .bool x=> .bool (if c then v else x)
   | x=>if c then .bool v else x
 | .str v=>match x with
   | .str x=> .str (if c then v else x)
   | x=>if c then .str v else x
def mergeP (c:Prop) [Decidable c]:Nat→List PL→List PL→List PL
 | _,_,[]=>[]
 | 0,vs,x::xs=>match vs with
   | []=>x::xs
   | v::vs=>pickP c v x::mergeP c 0 vs xs
 | p + 1,vs,x::xs=>x::mergeP c p vs xs
def updF (f:Nat→List PL) (k p:Nat) (vs:List PL):Nat→List PL:=fun j=>mergeP (j=k) p vs (f j)
def joinF (n:Nat) (f g:Nat→List PL):Nat→List PL:=fun j=>mergeP (n≤j) 0 (g (j - n)) (f j)
def joinI (n:Nat) (f g:Nat→List PL):Nat→List PL:=fun j=>match Nat.blt j n with
 | true=>f j
 | false=>g (j - n)
def setLs:List L→Nat→List L→Option (List L)
 | [],n,vs=>match n with
   | 0=>match vs with
     | []=>some []
     | _::_=>none
   | _ + 1=>none
 | l::ls,n,vs=>match l with
   | .seg z m f=>match Nat.ble (z*m) n with
     | true=>match setLs ls (n - z*m) vs with
       | some r=>some (.seg z m f::r)
       | none=>none
     | false=>match toPLs vs with
       | some ps=>match Nat.ble (n % z + ps.length) z with
         | true=>some (.seg z m (updF f (n / z) (n % z) ps)::ls)
         | false=>match n with
           | 0=>match Nat.ble (wids vs) (wids (.seg z m f::ls)) with
             | true=>some (appL vs (dropL (.seg z m f::ls) (wids vs)))
             | false=>none
           | _ + 1=>none
       | none=>match n with
         | 0=>match Nat.ble (wids vs) (wids (.seg z m f::ls)) with
           | true=>some (appL vs (dropL (.seg z m f::ls) (wids vs)))
           | false=>none
         | _ + 1=>none
   | l=>match n with
     | 0=>match Nat.ble (wids vs) (wids (l::ls)) with
       | true=>some (appL vs (dropL (l::ls) (wids vs)))
       | false=>none
     | n + 1=>match setLs ls n vs with
       | some r=>some (l::r)
       | none=>none
def leafV:Value→Bool
 | .agg _ | .tuple _=>false
 | _=>true
def L.ok:L→Bool
 | .junk=>false
 | .seg _ _ _=>false
 | .raw v=>leafV v
 | _=>true
def L.okS:L→Bool
 | .seg _ _ _=>true
 | l=>l.ok
def okLs:List L→Bool
 | []=>true
 | l::ls=>match l.okS with
   | true=>okLs ls
   | false=>false
def AV.ls:AV→Option (List L)
 | .one l=>match l.ok with
   | true=>some [l]
   | false=>none
 | .agg ls=>some ls
 | .tup _=>none
def placesOf (P:Program):List Field→Option (List (Nat×Nat))
 | []=>some []
 | f::fs=>match P.info? f.type,placesOf P fs with
   | some i,some r=>some ((f.offset,i.size)::r)
   | _,_=>none
def nth {α:Type _}:List α→Nat→Option α
 | [],_=>none
 | x::_,0=>some x
 | _::xs,n + 1=>nth xs n
def fillLs (place:Nat→Option (Nat×Nat)) (cs:List L):List (Nat×AV)→Option (List L)
 | []=>some cs
 | (i,v)::r=>match place i with
   | none=>none
   | some (off,size)=>match v.ls with
     | none=>none
     | some ls=>match Nat.beq (wids ls) size with
       | false=>none
       | true=>match setLs cs off ls with
         | none=>none
         | some cs=>fillLs place cs r
def zfill (zs:List L):Nat→Nat→List L
 | 0,_=>[]
 | n + 1,k=>(match nth zs (k % zs.length) with | some l=>l | none=> .junk)::zfill zs n (k + 1)
def eqB (a b:Bool):Bool:=match a,b with
 | true,true | false,false=>true
 | _,_=>false
def eqPL (x y:PL):Bool:=match x,y with
 | .b64 s x,.b64 s' y=>match eqB s s' with | true=>Nat.beq x.toNat y.toNat | false=>false
 | .b32 s x,.b32 s' y=>match eqB s s' with | true=>Nat.beq x.toNat y.toNat | false=>false
 | .b16 s x,.b16 s' y=>match eqB s s' with | true=>Nat.beq x.toNat y.toNat | false=>false
 | .b8 s x,.b8 s' y=>match eqB s s' with | true=>Nat.beq x.toNat y.toNat | false=>false
 | .bool x,.bool y=>eqB x y
 | _,_=>false
def cutPL:List PL→List L→Option (List L)
 | [],ls=>some ls
 | p::ps,l::ls=>match l.pl with
   | some q=>match eqPL p q with
     | true=>cutPL ps ls
     | false=>none
   | none=>none
 | _::_,[]=>none
def repPL (ps:List PL):Nat→List L→Bool
 | 0,[]=>true
 | 0,_::_=>false
 | n + 1,ls=>match cutPL ps ls with
   | some r=>repPL ps n r
   | none=>false
def bigA (n z:Nat):Bool:=match Nat.ble 17 n with
 | true=>true
 | false=>match Nat.ble 8 n with
   | true=>match Nat.beq n 11 with
     | true=>true
     | false=>Nat.ble 2 z
   | false=>false
def normF (P:Program) (nf:TypeId→List L→List L):Nat→List Field→List L→Option (List L)
 | _,[],ls=>match ls with
   | []=>some []
   | _::_=>none
 | o,f::fs,ls=>match P.info? f.type with
   | none=>none
   | some i=>match Nat.beq f.offset o with
     | false=>none
     | true=>match takeL ls i.size with
       | none=>none
       | some a=>match normF P nf (o + i.size) fs (dropL ls i.size) with
         | none=>none
         | some r=>some (appL (nf f.type a) r)
def norm (P:Program):Nat→TypeId→List L→List L
 | 0,_,ls=>ls
 | d + 1,T,ls=>match P.underlying T with
   | some (.struct fs)=>match normF P (norm P d) 0 fs.toList ls with
     | some r=>r
     | none=>ls
   | some (.array n e)=>match P.info? e with
     | some i=>match bigA n i.size with
       | true=>match takeL ls i.size with
         | some a=>match toPLs a with
           | some ps=>match repPL ps n ls with
             | true=>[.seg i.size n (fun _=>ps)]
             | false=>ls
           | none=>ls
         | none=>ls
       | false=>ls
     | none=>ls
   | _=>ls
def ltW {w:Nat} (s:Bool) (x y:BitVec w):Bool:=match s with
 | true=>x.slt y
 | false=>x.ult y
def leW {w:Nat} (s:Bool) (x y:BitVec w):Bool:=match s with
 | true=>x.sle y
 | false=>x.ule y
def quoW {w:Nat} (s:Bool) (x y:BitVec w):BitVec w:=match s with
 | true=>x.sdiv y
 | false=>x / y
def remW {w:Nat} (s:Bool) (x y:BitVec w):BitVec w:=match s with
 | true=>x.srem y
 | false=>x % y
def shrW {w:Nat} (s:Bool) (x:BitVec w) (n:Nat):BitVec w:=match s with
 | true=>x.sshiftRight n
 | false=>x >>> n
def pickS {α:Type _} (s:Bool) (x y:α):Option (Cond×α):=match s with
 | true=>some (.t,x)
 | false=>some (.t,y)
def pickQ {α:Type _} (s:Bool) (c:Prop) [Decidable c] (x y:α):Option (Cond×α):=match s with
 | true=>some (.p c,x)
 | false=>some (.p c,y)
def pickO {α:Type _} (s:Bool) (x y:α):Option α:=match s with
 | true=>some x
 | false=>some y
def binW {w:Nat} (mk:BitVec w→L) (s:Bool) (op:BinOp) (x y:BitVec w):Option (Cond×L):=
 match op with
 | .add=>some (.t,mk (x + y))
 | .sub=>some (.t,mk (x - y))
 | .mul=>some (.t,mk (x*y))
 | .quo=>pickQ s (y≠0#w) (mk (x.sdiv y)) (mk (x / y))
 | .rem=>pickQ s (y≠0#w) (mk (x.srem y)) (mk (x % y))
 | .and=>some (.t,mk (x &&& y))
 | .or=>some (.t,mk (x ||| y))
 | .xor=>some (.t,mk (x ^^^ y))
 | .andNot=>some (.t,mk (x &&& ~~~y))
 | .eql=>some (.t,.bool (x==y))
 | .neq=>some (.t,.bool (x != y))
 | .lss=>pickS s (.bool (x.slt y)) (.bool (x.ult y))
 | .leq=>pickS s (.bool (x.sle y)) (.bool (x.ule y))
 | .gtr=>pickS s (.bool (y.slt x)) (.bool (y.ult x))
 | .geq=>pickS s (.bool (y.sle x)) (.bool (y.ule x))
 | _=>none
def amount:L→Option (Cond×Nat)
 | .b64 s y=>some (match s with | true=> .p (0≤y.toInt) | false=> .t,y.toNat)
 | .b32 s y=>some (match s with | true=> .p (0≤y.toInt) | false=> .t,y.toNat)
 | .b16 s y=>some (match s with | true=> .p (0≤y.toInt) | false=> .t,y.toNat)
 | .b8 s y=>some (match s with | true=> .p (0≤y.toInt) | false=> .t,y.toNat)
 | _=>none
def isShift:BinOp→Bool
 | .shl | .shr=>true
 | _=>false
def shW {w:Nat} (mk:BitVec w→L) (s:Bool) (op:BinOp) (x:BitVec w) (n:Nat):Option L:=
 match op with
 | .shl=>some (mk (x <<< n))
 | .shr=>pickO s (mk (x.sshiftRight n)) (mk (x >>> n))
 | _=>none
def shift (op:BinOp) (x y:L):Option (Cond×L):=
 match amount y with
 | none=>none
 | some (p,n)=>match (match x with
    | .b64 s x=>shW (.b64 s) s op x n
    | .b32 s x=>shW (.b32 s) s op x n
    | .b16 s x=>shW (.b16 s) s op x n
    | .b8 s x=>shW (.b8 s) s op x n
    | _=>none) with
   | some l=>some (p,l)
   | none=>none
def same (s t:Bool) {α:Type _} (x:Option α):Option α:=match s,t with
 | true,true | false,false=>x
 | _,_=>none
def binL (op:BinOp) (x y:L):Option (Cond×L):=
 match isShift op with
 | true=>shift op x y
 | false=>match x,y with
   | .b64 s x,.b64 s' y=>same s s' (binW (.b64 s) s op x y)
   | .b32 s x,.b32 s' y=>same s s' (binW (.b32 s) s op x y)
   | .b16 s x,.b16 s' y=>same s s' (binW (.b16 s) s op x y)
   | .b8 s x,.b8 s' y=>same s s' (binW (.b8 s) s op x y)
   | _,_=>none
def convW {w w':Nat} (s:Bool) (x:BitVec w):BitVec w':=match s with
 | true=>x.signExtend w'
 | false=>x.setWidth w'
def convTo {w:Nat} (k:IntKind) (s:Bool) (x:BitVec w):Option L:=
 match k with
 | .u64=>pickO s (.b64 false (x.signExtend 64)) (.b64 false (x.setWidth 64))
 | .i64=>pickO s (.b64 true (x.signExtend 64)) (.b64 true (x.setWidth 64))
 | .u32=>pickO s (.b32 false (x.signExtend 32)) (.b32 false (x.setWidth 32))
 | .i32=>pickO s (.b32 true (x.signExtend 32)) (.b32 true (x.setWidth 32))
 | .u16=>pickO s (.b16 false (x.signExtend 16)) (.b16 false (x.setWidth 16))
 | .i16=>pickO s (.b16 true (x.signExtend 16)) (.b16 true (x.setWidth 16))
 | .u8=>pickO s (.b8 false (x.signExtend 8)) (.b8 false (x.setWidth 8))
 | .i8=>pickO s (.b8 true (x.signExtend 8)) (.b8 true (x.setWidth 8))
def conv (k:IntKind) (x:L):Option L:=
 match x with
 | .b64 s x=>match k with
   | .u64=>some (.b64 false x)
   | .i64=>some (.b64 true x)
   | k=>convTo k s x
 | .b32 s x=>match k with
   | .u32=>some (.b32 false x)
   | .i32=>some (.b32 true x)
   | k=>convTo k s x
 | .b16 s x=>match k with
   | .u16=>some (.b16 false x)
   | .i16=>some (.b16 true x)
   | k=>convTo k s x
 | .b8 s x=>match k with
   | .u8=>some (.b8 false x)
   | .i8=>some (.b8 true x)
   | k=>convTo k s x
 | _=>none
def un (op:UnOp) (x:L):Option L:=
 match op with
 | .not=>match x with
   | .bool b=>some (.bool (!b))
   | _=>none
 | .neg=>match x with
   | .b64 s x=>some (.b64 s (-x))
   | .b32 s x=>some (.b32 s (-x))
   | .b16 s x=>some (.b16 s (-x))
   | .b8 s x=>some (.b8 s (-x))
   | _=>none
 | .xor=>match x with
   | .b64 s x=>some (.b64 s (~~~x))
   | .b32 s x=>some (.b32 s (~~~x))
   | .b16 s x=>some (.b16 s (~~~x))
   | .b8 s x=>some (.b8 s (~~~x))
   | _=>none
 | _=>none
def min2 (x y:L):Option L:=match x,y with
 | .b64 s x,.b64 s' y=>same s s' (pickO s (.b64 true (if y.slt x then y else x)) (.b64 false (if y.ult x then y else x)))
 | .b32 s x,.b32 s' y=>same s s' (pickO s (.b32 true (if y.slt x then y else x)) (.b32 false (if y.ult x then y else x)))
 | .b16 s x,.b16 s' y=>same s s' (pickO s (.b16 true (if y.slt x then y else x)) (.b16 false (if y.ult x then y else x)))
 | .b8 s x,.b8 s' y=>same s s' (pickO s (.b8 true (if y.slt x then y else x)) (.b8 false (if y.ult x then y else x)))
 | _,_=>none
def max2 (x y:L):Option L:=match x,y with
 | .b64 s x,.b64 s' y=>same s s' (pickO s (.b64 true (if x.slt y then y else x)) (.b64 false (if x.ult y then y else x)))
 | .b32 s x,.b32 s' y=>same s s' (pickO s (.b32 true (if x.slt y then y else x)) (.b32 false (if x.ult y then y else x)))
 | .b16 s x,.b16 s' y=>same s s' (pickO s (.b16 true (if x.slt y then y else x)) (.b16 false (if x.ult y then y else x)))
 | .b8 s x,.b8 s' y=>same s s' (pickO s (.b8 true (if x.slt y then y else x)) (.b8 false (if x.ult y then y else x)))
 | _,_=>none
def eqL (x y:L):Option Bool:=match x,y with
 | .b64 s x,.b64 s' y=>same s s' (some (x==y))
 | .b32 s x,.b32 s' y=>same s s' (some (x==y))
 | .b16 s x,.b16 s' y=>same s s' (some (x==y))
 | .b8 s x,.b8 s' y=>same s s' (some (x==y))
 | .bool x,.bool y=>some (x==y)
 | _,_=>none
def isNum:L→Bool
 | .b64 _ _ | .b32 _ _ | .b16 _ _ | .b8 _ _=>true
 | _=>false
def isBoolL:L→Bool
 | .bool _=>true
 | _=>false
def eqF (P:Program) (eqT:TypeId→List L→List L→Option Bool):List Field→List L→List L→Option Bool
 | [],_,_=>some true
 | f::fs,xs,ys=>match P.info? f.type with
   | none=>none
   | some i=>match takeL (dropL xs f.offset) i.size,takeL (dropL ys f.offset) i.size with
     | some a,some b=>match eqT f.type a b,fs with
       | some p,[]=>some p
       | some p,fs=>match eqF P eqT fs xs ys with
         | some q=>some (p&&q)
         | none=>none
       | none,_=>none
     | _,_=>none
def eqA (eqE:List L→List L→Option Bool) (z:Nat):Nat→List L→List L→Option Bool
 | 0,_,_=>some true
 | n + 1,xs,ys=>match takeL xs z,takeL ys z with
   | some a,some b=>match eqE a b,n with
     | some p,0=>some p
     | some p,_ + 1=>match eqA eqE z n (dropL xs z) (dropL ys z) with
       | some q=>some (p&&q)
       | none=>none
     | none,_=>none
   | _,_=>none
def eqT (P:Program):Nat→TypeId→List L→List L→Option Bool
 | 0,_,_,_=>none
 | d + 1,T,xs,ys=>match P.underlying T with
   | some (.int _)=>match xs,ys with
     | [x],[y]=>match isNum x with
       | true=>eqL x y
       | false=>none
     | _,_=>none
   | some .bool=>match xs,ys with
     | [x],[y]=>match isBoolL x with
       | true=>eqL x y
       | false=>none
     | _,_=>none
   | some (.struct fs)=>eqF P (eqT P d) fs.toList xs ys
   | some (.array n e)=>match P.info? e with
     | some i=>eqA (eqT P d e) i.size n xs ys
     | none=>none
   | _=>none
def blankF (blank:TypeId→Bool):List Field→Bool
 | []=>false
 | f::fs=>f.name== "_"||blank f.type||blankF blank fs
def blank (P:Program):Nat→TypeId→Bool
 | 0,_=>false
 | d + 1,T=>match P.underlying T with
   | some (.struct fs)=>P.stoodInHeld T||blankF (blank P d) fs.toList
   | some (.array _ e)=>blank P d e
   | _=>false
def ixL:L→Option (Cond×Nat)
 | .b64 s x=>some (match s with | true=> .p (0≤x.toInt) | false=> .t,x.toNat)
 | .b32 s x=>some (match s with | true=> .p (0≤x.toInt) | false=> .t,x.toNat)
 | .b16 s x=>some (match s with | true=> .p (0≤x.toInt) | false=> .t,x.toNat)
 | .b8 s x=>some (match s with | true=> .p (0≤x.toInt) | false=> .t,x.toNat)
 | _=>none
def andC (c:Cond) (p:Prop) [Decidable p]:Cond:=match c with
 | .t=> .p p
 | .p q d=> .p (q∧p) (match d with | some _=>some inferInstance | none=>none)
def constIx:Operand→Option Nat
 | .const (.int .i64 (Int.ofNat n))=>some n
 | _=>none
def nthB:List UInt8→Nat→BitVec 8
 | [],_=>0#8
 | x::_,0=>x.toBitVec
 | _::xs,n + 1=>nthB xs n
def byteAt (s:ByteArray) (k:Nat):BitVec 8:=nthB s.data.toList k
def catB (a b:ByteArray):ByteArray:=⟨⟨a.data.toList++b.data.toList⟩⟩
def dropU:List UInt8→Nat→List UInt8
 | xs,0=>xs
 | [],_ + 1=>[]
 | _::xs,n + 1=>dropU xs n
def takeU:List UInt8→Nat→List UInt8
 | _,0=>[]
 | [],_ + 1=>[]
 | x::xs,n + 1=>x::takeU xs n
def exB (s:ByteArray) (l h:Nat):ByteArray:=⟨⟨takeU (dropU s.data.toList l) (h - l)⟩⟩
def boundK (t:List AV) (x:Option Operand) (d:Nat):Option (Cond×Nat):=match x with
 | none=>some (.t,d)
 | some x=>match constIx x with
   | some k=>some (.t,k)
   | none=>match ev t x with
     | .one l=>ixL l
     | _=>none
def bothC (c d:Cond):Cond:=match c with
 | .t=>d
 | .p p i=>match d with
   | .t=> .p p i
   | .p q j=> .p (p∧q) (match i,j with | some _,some _=>some inferInstance | _,_=>none)
def bytesL:List L→Option (List UInt8)
 | []=>some []
 | .b8 false x::ls=>match bytesL ls with
   | some r=>some (UInt8.ofBitVec x::r)
   | none=>none
 | _::_=>none
def nthW {w:Nat}:List (BitVec w)→Nat→BitVec w
 | [],_=>0#w
 | x::_,0=>x
 | _::xs,n + 1=>nthW xs n
def col64 (s:Bool):List L→Option (List (BitVec 64))
 | []=>some []
 | .b64 s' x::r=>match same s s' (some x),col64 s r with
   | some x,some xs=>some (x::xs)
   | _,_=>none
 | _::_=>none
def rdR (ls:List L) (o z k p s:Nat):Option (Cond×List L):=match dropL ls o with
 | []=>none
 | l::r=>match l with
   | .seg z' n f=>match Nat.beq z z' with
     | true=>match takeP (dropP (f k) p) s with
       | some ps=>some (.p (k<n),toLs ps)
       | none=>none
     | false=>none
   | l=>match takeL (dropL (l::r) (z*k + p)) s with
     | some r=>some (.t,r)
     | none=>none
def wrR (z k p:Nat) (vs:List L):List L→Nat→Option (Cond×List L)
 | [],_=>none
 | l::ls,o=>match l with
   | .seg z' n f=>match o with
     | 0=>match Nat.beq z z' with
       | true=>match toPLs vs with
         | some ps=>match Nat.ble (p + ps.length) z with
           | true=>some (.p (k<n),.seg z n (updF f k p ps)::ls)
           | false=>none
         | none=>none
       | false=>none
     | o + 1=>match Nat.ble (z'*n) (o + 1) with
       | true=>match wrR z k p vs ls (o + 1 - z'*n) with
         | some (c,r)=>some (c,.seg z' n f::r)
         | none=>none
       | false=>none
   | l=>match o with
     | 0=>match setLs (l::ls) (z*k + p) vs with
       | some r=>some (.t,r)
       | none=>none
     | o + 1=>match wrR z k p vs ls o with
       | some (c,r)=>some (c,l::r)
       | none=>none
def byteP:List PL→UInt8
 | .b8 _ x::_=>UInt8.ofBitVec x
 | _=>0
def isB8:List PL→Bool
 | [.b8 false _]=>true
 | _=>false
def rowStr (n:Nat) (f:Nat→List PL):ByteArray:=⟨⟨(List.range n).map fun k=>byteP (f k)⟩⟩
def mhas:List (BitVec 64×BitVec 64)→BitVec 64→Bool
 | [],_=>false
 | (x,_)::r,a=>a==x||mhas r a
def mval:List (BitVec 64×BitVec 64)→BitVec 64→BitVec 64
 | [],_=>0#64
 | (x,y)::r,a=>if a=x then y else mval r a
def mput:List (BitVec 64×BitVec 64)→BitVec 64→BitVec 64→List (BitVec 64×BitVec 64)
 | [],a,b=>[(a,b)]
 | (x,y)::r,a,b=>if a=x then (x,b)::r else (x,y)::mput r a b
def bndK (k m:Nat):Nat:=match Nat.ble k m with
 | true=>k
 | false=>m
def falsesP:Nat→List PL
 | 0=>[]
 | n + 1=> .bool false::falsesP n
def srcF (ls:List L) (off z m:Nat):Option (Cond×(Nat→List PL)):=match dropL ls off with
 | []=>none
 | l::r=>match l with
   | .seg z' n f=>match Nat.beq z z' with
     | true=>some (.p (m≤n),f)
     | false=>none
   | l=>match Nat.beq m 1 with
     | true=>match takeL (l::r) z with
       | some a=>match toPLs a with
         | some ps=>some (.t,fun _=>ps)
         | none=>none
       | none=>none
     | false=>match Nat.beq m 0 with
       | true=>some (.t,fun _=>falsesP z)
       | false=>match takeL (l::r) (z*m) with
         | some a=>match toPLs a with
           | some ps=>some (.t,fun k=>match takeP (dropP ps (z*bndK k (m - 1))) z with | some r=>r | none=>[])
           | none=>none
         | none=>none
def isI64 (P:Program) (T:TypeId):Bool:=match P.underlying T with
 | some (.int .i64)=>true
 | _=>false
def selL (ls:List L) (k:Nat):Option L:=match ls with
 | .b64 s x::r=>match col64 s (.b64 s x::r) with
   | some xs=>some (.b64 s (nthW xs k))
   | none=>none
 | _=>none
def updL (s:Bool) (v:BitVec 64) (k:Nat):Nat→List L→Option (List L)
 | _,[]=>some []
 | j,.b64 s' x::r=>match same s s' (some x),updL s v k (j + 1) r with
   | some x,some r=>some (.b64 s (if k=j then v else x)::r)
   | _,_=>none
 | _,_::_=>none
def cutF (z:Nat) (ps:List PL) (k:Nat):List PL:=match takeP (dropP ps (z*k)) z with
 | some r=>r
 | none=>[]
def cutN (len z:Nat) (ps:List PL):Nat→List PL:=match Nat.beq len 1 with
 | true=>fun _=>ps
 | false=>fun k=>cutF z ps (bndK k (len - 1))
def slcReq (e:TypeId) (z len:Nat) (ls:List L):Req:=match Nat.ble 2 z with
 | true=>match toPLs ls with
   | some ps=>match Nat.beq ps.length (z*len) with
     | true=> .new (.row e z len (cutN len z ps)) (.r len)
     | false=> .new (.cells e ls) (.s len)
   | none=> .new (.cells e ls) (.s len)
 | false=> .new (.cells e ls) (.s len)
def req (P:Program) (o:Op) (t:List AV):Option (Cond×Req):=
 match o with
 | .move x | .assign x=>some (.t,.val (ev t x))
 | .pick c a b=>match ev t c with
   | .one (.bool p)=>some (.t,.pick p (ev t a) (ev t b))
   | _=>none
 | .alloc T=>match P.info? T with
   | some i=>match i.zero with
     | some z=>match (ofV z).ls with
       | some ls=>some (.t,.new (.cells T (norm P 8 T ls)) .p)
       | none=>none
     | none=>none
   | none=>none
 | .makeMap T r=>match r with
   | some _=>none
   | none=>match P.underlying T with
     | some (.map k e)=>match isI64 P k with
       | true=>match isI64 P e with
         | true=>some (.t,.new (.imap []) .m)
         | false=>none
       | false=>none
     | _=>none
 | .mapUpdate T x k v=>match ev t x with
   | .one (.imap i)=>match P.underlying T with
     | some (.map kt et)=>match isI64 P kt,isI64 P et with
       | true,true=>match ev t k,ev t v with
         | .one (.b64 true a),.one (.b64 true b)=>some (.t,.wr i fun
           | .imap es=>some (.t,.imap (mput es a b))
           | _=>none)
         | _,_=>none
       | _,_=>none
     | _=>none
   | _=>none
 | .box T x=>match (ev t x).ls with
   | some ls=>some (.t,.new (.cells T ls) .p)
   | none=>none
 | .build T parts=>match P.info? T with
   | some i=>match i.zero with
     | some z=>match (ofV z).ls with
       | some zs=>match P.underlying T with
         | some (.struct fs)=>match placesOf P fs.toList with
           | some pl=>match fillLs (nth pl) (norm P 8 T zs) (evp t parts.toList) with
             | some ls=>some (.t,.val (.agg ls))
             | none=>none
           | none=>none
         | some (.array _ e)=>match P.info? e with
           | some inf=>match fillLs (fun i=>some (i*inf.size,inf.size)) (match parts.toList with | []=>norm P 8 T zs | _::_=>zs) (evp t parts.toList) with
             | some ls=>some (.t,.val (.agg ls))
             | none=>none
           | none=>none
         | _=>none
       | none=>none
     | none=>none
   | none=>none
 | .buildSlice T len parts=>match P.underlying T with
   | some (.slice e)=>match P.info? e with
     | some inf=>match inf.zero with
       | some z=>match (ofV z).ls with
         | some zs=>match Nat.beq zs.length inf.size,Nat.ble (len*inf.size) 16777216,fillLs (fun i=>some (i*inf.size,inf.size)) (zfill zs (len*inf.size) 0) (evp t parts.toList) with
           | true,true,some ls=>match Nat.beq (len*inf.size) 0 with
             | false=>some (.t,slcReq e inf.size len ls)
             | true=>none
           | _,_,_=>none
         | none=>none
       | none=>none
     | none=>none
   | _=>none
 | .load T a=>match ev t a with
   | .one (.ptr i off)=>match P.info? T with
     | some inf=>match isAggT P T with
        | some true=>some (.t,.rd i fun b=>match b.rdL with
           | some ls=>match takeL (dropL ls off) inf.size with
             | some r=>some (.t,.agg r)
             | none=>none
           | none=>none)
        | some false=>some (.t,.rd i fun b=>match b.rdL with
           | some ls=>match headL (dropL ls off) with
             | some l=>some (.t,.one l)
             | none=>none
           | none=>none)
        | none=>none
     | none=>none
   | .one (.raw (.pointer (some p)))=>match p.spot with
     | none=>some (.t,.glob T p.block p.off)
     | some _=>none
   | .one (.eptr i off n k)=>match P.info? T with
     | some inf=>match isAggT P T with
        | some false=>some (.p (k<n),.rd i fun b=>match b.rdL with
           | some ls=>match takeL (dropL ls off) n with
             | some r=>match selL r k with
               | some l=>some (.t,.one l)
               | none=>none
             | none=>none
           | none=>none)
        | _=>none
     | none=>none
   | .one (.rptr i o z k p)=>match P.info? T with
     | some inf=>match isAggT P T with
       | some true=>some (.t,.rd i fun b=>match b.rdL with
         | some ls=>match rdR ls o z k p inf.size with
           | some (c,r)=>some (c,.agg r)
           | none=>none
         | none=>none)
       | some false=>some (.t,.rd i fun b=>match b.rdL with
         | some ls=>match rdR ls o z k p 1 with
           | some (c,r)=>match headL r with
             | some l=>some (c,.one l)
             | none=>none
           | none=>none
         | none=>none)
       | none=>none
     | none=>none
   | _=>none
 | .lookup T x i ok=>match ev t x with
   | .one (.gmap g b)=>some (.t,.look T ok g b (ev t i))
   | .one (.imap j)=>match P.underlying T with
     | some (.map kt et)=>match isI64 P kt,isI64 P et,P.info? et with
       | true,true,some inf=>match inf.zero with
         | some (.int .i64 0)=>match ev t i with
           | .one (.b64 true a)=>some (.t,.rd j fun
             | .imap es=>some (.t,match ok with
               | true=> .tup [(false,[.b64 true (mval es a)]),(false,[.bool (mhas es a)])]
               | false=> .one (.b64 true (mval es a)))
             | .romap es=>some (.t,match ok with
               | true=> .tup [(false,[.b64 true (mval es a)]),(false,[.bool (mhas es a)])]
               | false=> .one (.b64 true (mval es a)))
             | _=>none)
           | _=>none
         | _=>none
       | _,_,_=>none
     | _=>none
   | .one (.raw (.map none))=>match P.underlying T with
     | some (.map kt et)=>match isI64 P kt,isI64 P et,P.info? et with
       | true,true,some inf=>match inf.zero with
         | some (.int .i64 0)=>match ev t i with
           | .one (.b64 true _)=>some (.t,.val (match ok with
              | true=> .tup [(false,[.b64 true 0#64]),(false,[.bool false])]
              | false=> .one (.b64 true 0#64)))
           | _=>none
         | _=>none
       | _,_,_=>none
     | _=>none
   | _=>none
 | .store T a x=>match ev t a with
   | .one (.ptr i off)=>match (ev t x).ls with
     | some vs=>match okLs vs,Nat.beq (wids vs) (P.cellsOf T),P.info? T with
       | true,true,some _=>some (.t,.wr i fun
         | .cells T ls=>match setLs ls off vs with
           | some ls=>some (.t,.cells T ls)
           | none=>none
         | _=>none)
       | _,_,_=>none
     | none=>none
   | .one (.rptr i o z k p)=>match (ev t x).ls with
     | some vs=>match okLs vs,Nat.beq (wids vs) (P.cellsOf T),P.info? T with
       | true,true,some _=>some (.t,.wr i fun
         | .cells T ls=>match wrR z k p vs ls o with
           | some (c,ls)=>some (c,.cells T ls)
           | none=>none
         | .row T z' n f=>match Nat.beq o 0 with
           | true=>match Nat.beq z z' with
             | true=>match toPLs vs with
               | some ps=>match Nat.ble (p + ps.length) z with
                 | true=>some (.p (k<n),.row T z' n (updF f k p ps))
                 | false=>none
               | none=>none
             | false=>none
           | false=>none
         | _=>none)
       | _,_,_=>none
     | none=>none
   | .one (.eptr i off n k)=>match ev t x with
     | .one (.b64 s v)=>match Nat.beq 1 (P.cellsOf T),P.info? T with
       | true,some _=>some (.p (k<n),.wr i fun
         | .cells T ls=>match takeL (dropL ls off) n with
           | some r=>match updL s v k 0 r with
             | some r'=>match setLs ls off r' with
               | some ls=>some (.t,.cells T ls)
               | none=>none
             | none=>none
           | none=>none
         | _=>none)
       | _,_=>none
     | _=>none
   | _=>none
 | .nilCheck x=>match ev t x with
   | .one (.ptr i off)=>some (.t,.val (.one (.ptr i off)))
   | .one (.rptr i o z k p)=>some (.t,.val (.one (.rptr i o z k p)))
   | _=>none
 | .fieldAddr T x f=>match ev t x with
   | .one (.ptr i off)=>match P.underlying T with
     | some (.struct fs)=>match nth fs.toList f with
       | some fd=>match P.info? fd.type with
         | some inf=>match Nat.beq inf.size 0 with
           | false=>some (.t,.val (.one (.ptr i (off + fd.offset))))
           | true=>none
         | none=>none
       | none=>none
     | _=>none
   | .one (.rptr i o z k p)=>match P.underlying T with
     | some (.struct fs)=>match nth fs.toList f with
       | some fd=>match P.info? fd.type with
         | some inf=>match Nat.beq inf.size 0 with
           | false=>some (.t,.val (.one (.rptr i o z k (p + fd.offset))))
           | true=>none
         | none=>none
       | none=>none
     | _=>none
   | .one (.raw (.pointer (some p)))=>match p.spot with
     | none=>match P.underlying T with
       | some (.struct fs)=>match nth fs.toList f with
         | some fd=>match P.info? fd.type with
           | some inf=>match Nat.beq inf.size 0 with
             | false=>some (.t,.val (.one (.raw (.pointer (some ⟨p.block,p.off + fd.offset,none⟩)))))
             | true=>none
           | none=>none
         | none=>none
       | _=>none
     | some _=>none
   | _=>none
 | .field T x f=>match ev t x with
   | .agg ls=>match P.underlying T with
     | some (.struct fs)=>match nth fs.toList f with
       | some fd=>match P.info? fd.type with
         | some inf=>match isAggT P fd.type with
           | some true=>match takeL (dropL ls fd.offset) inf.size with
             | some r=>some (.t,.val (.agg r))
             | none=>none
           | some false=>match headL (dropL ls fd.offset) with
             | some l=>some (.t,.val (.one l))
             | none=>none
           | none=>none
         | none=>none
       | none=>none
     | _=>none
   | _=>none
 | .indexAddr T x i=>match ev t x with
   | .one (.ptr b off)=>match P.underlying T with
     | some (.array n e)=>match P.info? e with
       | some inf=>match constIx i with
         | some k=>match Nat.blt k n with
           | true=>some (.t,.val (.one (.ptr b (off + k*inf.size))))
           | false=>none
         | none=>match ev t i with
           | .one l=>match ixL l with
             | some (c,k)=>match Nat.beq n 16,Nat.beq inf.size 1 with
               | true,true=>some (andC c (k<n),.val (.one (.eptr b off n k)))
               | _,_=>match bigA n inf.size with
                 | true=>some (andC c (k<n),.val (.one (.rptr b off inf.size k 0)))
                 | false=>some (andC c (k<n),.val (.one (.ptr b (off + k*inf.size))))
             | none=>none
           | _=>none
       | none=>none
     | _=>none
   | .one (.slc b off len _)=>match P.underlying T with
     | some (.slice e)=>match P.info? e with
       | some inf=>match ev t i with
         | .one l=>match ixL l with
           | some (c,k)=>some (andC c (k<len),.val (.one (.rptr b off inf.size k 0)))
           | none=>none
         | _=>none
       | none=>none
     | _=>none
   | .one (.rsl b len)=>match P.underlying T with
     | some (.slice e)=>match P.info? e with
       | some inf=>match ev t i with
         | .one l=>match ixL l with
           | some (c,k)=>some (andC c (k<len),.val (.one (.rptr b 0 inf.size k 0)))
           | none=>none
         | _=>none
       | none=>none
     | _=>none
   | .one (.rsc b z frm _ len)=>match P.underlying T with
     | some (.slice e)=>match P.info? e with
       | some inf=>match ev t i with
         | .one l=>match ixL l with
           | some (c,k)=>some (andC c (k<len),.rd b fun
             | .row _ _ n' _=>match Nat.beq z inf.size with
               | true=>some (.p (frm + len≤n'),.one (.rptr b 0 inf.size (frm + k) 0))
               | false=>none
             | _=>none)
           | none=>none
         | _=>none
       | none=>none
     | _=>none
   | .one (.raw (.pointer (some p)))=>match p.spot with
     | none=>match P.underlying T with
       | some (.array n e)=>match P.info? e with
         | some inf=>match ev t i with
           | .one l=>match ixL l with
             | some (c,k)=>some (andC c (k<n),.val (.one (.raw (.pointer (some ⟨p.block,p.off + k*inf.size,none⟩)))))
             | none=>none
           | _=>none
         | none=>none
       | _=>none
     | some _=>none
   | .one (.rptr b o z k p)=>match P.underlying T with
     | some (.array n e)=>match P.info? e with
       | some inf=>match constIx i with
         | some j=>match Nat.blt j n with
           | true=>some (.t,.val (.one (.rptr b o z k (p + j*inf.size))))
           | false=>none
         | none=>match ev t i with
           | .one l=>match ixL l with
             | some (c,j)=>some (andC c (j<n),.val (.one (.rptr b o z k (p + j*inf.size))))
             | none=>none
           | _=>none
       | none=>none
     | _=>none
   | _=>none
 | .index T x i=>match ev t x with
   | .agg ls=>match P.underlying T with
     | some (.array n e)=>match P.info? e,(match constIx i with
        | some k=>match Nat.blt k n with
          | true=>some (Cond.t,k)
          | false=>none
        | none=>match ev t i with
          | .one l=>match ixL l with
            | some (c,k)=>some (andC c (k<n),k)
            | none=>none
          | _=>none) with
       | some inf,some (c,k)=>match isAggT P e with
         | some true=>match rdR ls 0 inf.size k 0 inf.size with
           | some (d,r)=>some (bothC c d,.val (.agg r))
           | none=>none
         | some false=>match Nat.beq inf.size 1 with
           | true=>match (match constIx i with
              | some _=>none
              | none=>selL ls k) with
             | some l=>some (bothC c (.p (k<ls.length)),.val (.one l))
             | none=>match rdR ls 0 1 k 0 1 with
               | some (d,r)=>match headL r with
                 | some l=>some (bothC c d,.val (.one l))
                 | none=>none
               | none=>none
           | false=>none
         | none=>none
       | _,_=>none
     | _=>none
   | .one (.str s)=>match P.underlying T with
     | some .string=>match (match constIx i with
        | some k=>some (Cond.t,k)
        | none=>match ev t i with
          | .one l=>ixL l
          | _=>none) with
       | some (c,k)=>some (andC c (k<s.size),.val (.one (.b8 false (byteAt s k))))
       | none=>none
     | _=>none
   | _=>none
 | .slice T x lo hi mx=>match mx with
   | some mx=>match ev t x with
     | .one (.rsl i n)=>match P.underlying T with
       | some (.slice e)=>match P.info? e,lo,hi,boundK t hi n,boundK t (some mx) 0 with
         | some inf,none,some _,some (c,u),some (d,m)=>some (bothC (bothC c d) (.p (u≤m)),.rd i fun
           | .row _ z n' _=>match Nat.beq z inf.size with
             | true=>some (.p (m≤n'),.one (.slc i 0 u m))
             | false=>none
           | _=>none)
         | _,_,_,_,_=>none
       | _=>none
     | _=>none
   | none=>match ev t x with
     | .one (.str s)=>match P.underlying T with
       | some .string=>match boundK t lo 0,boundK t hi s.size with
         | some (c,l),some (d,h)=>some (bothC (bothC c d) (.p (l≤h∧h≤s.size)),.val (.one (.str (exB s l h))))
         | _,_=>none
       | _=>none
     | .one (.ptr i off)=>match P.underlying T with
       | some (.array n e)=>match P.info? e,boundK t lo 0,boundK t hi n with
         | some _,some (c,l),some (d,h)=>match Nat.beq l 0 with
           | true=>some (bothC (bothC c d) (.p (h≤n)),.val (.one (.slc i off h n)))
           | false=>none
         | _,_,_=>none
       | _=>none
     | .one (.rsl i n)=>match P.underlying T with
       | some (.slice e)=>match P.info? e,boundK t lo 0,hi with
         | some inf,some (c,l),none=>some (bothC c (.p (l≤n)),.rd i fun
           | .row _ z n' _=>match Nat.beq z inf.size with
             | true=>some (.p (n≤n'),.one (.rsc i z l l (n - l)))
             | false=>none
           | _=>none)
         | some inf,some (_,_),some _=>match lo,boundK t hi n with
           | none,some (d,u)=>some (d,.rd i fun
             | .row _ _ n' _=>some (.p (u≤n'),.one (.rsl i u))
             | _=>none)
           | _,_=>none
         | _,_,_=>none
       | _=>none
     | .one (.raw (.slice none 0 0))=>match P.underlying T with
       | some (.slice e)=>match P.info? e,boundK t lo 0,boundK t hi 0 with
         | some _,some (c,l),some (d,u)=>some (bothC (bothC c d) (.p (l=0∧u=0)),.val (.one (.raw (.slice none 0 0))))
         | _,_,_=>none
       | _=>none
     | .one (.rsc i z k _ n)=>match P.underlying T with
       | some (.slice e)=>match P.info? e,boundK t lo 0,hi with
         | some inf,some (c,l),none=>some (bothC c (.p (0<l∧l≤n)),.rd i fun
           | .row _ _ n' _=>match Nat.beq z inf.size with
             | true=>some (.p (k + n≤n'),.one (.rsc i z (k + l) l (n - l)))
             | false=>none
           | _=>none)
         | _,_,_=>none
       | _=>none
     | .one (.slc i off n cap)=>match P.underlying T with
       | some (.slice e)=>match P.info? e,boundK t lo 0,hi with
         | some inf,some (c,l),none=>some (bothC c (.p (l≤n∧n≤cap)),.val (.one (.slc i (off + (match Nat.beq l cap with | true=>0 | false=>inf.size*l)) (n - l) (cap - l))))
         | _,_,_=>none
       | _=>none
     | _=>none
 | .makeSlice T l c=>match P.underlying T with
   | some (.slice e)=>match P.info? e with
     | some inf=>match inf.zero with
       | some z=>match (ofV z).ls with
         | some zs=>match ev t l,ev t c with
           | .one (.b64 true x),.one (.b64 true y)=>match toPLs zs with
             | some ps=>match Nat.beq ps.length inf.size,Nat.ble inf.bytes 4096,Nat.ble 1 inf.size with
               | true,true,true=>some (.p (x=y∧x.toNat<65536),.new (.row e inf.size x.toNat (fun _=>ps)) (.r x.toNat))
               | _,_,_=>none
             | none=>none
           | _,_=>none
         | none=>none
       | none=>none
     | none=>none
   | _=>none
 | .extract x k=>match ev t x with
   | .tup vs=>match nth vs k with
     | some (true,ls)=>some (.t,.val (.agg ls))
     | some (false,[l])=>some (.t,.val (.one l))
     | _=>none
   | _=>none
 | .binOp op T x y _=>match ev t x with
   | .one x=>match ev t y with
     | .one y=>match binL op x y with
       | some (p,v)=>some (p,.val (.one v))
       | none=>match op,x,y,P.underlying T with
         | .eql,.bool a,.bool b,some .bool=>some (.t,.val (.one (.bool (a==b))))
         | .neq,.bool a,.bool b,some .bool=>some (.t,.val (.one (.bool (!(a==b)))))
         | .add,.str a,.str b,_=>some (.p (a.size + b.size<9223372036854775808),.val (.one (.str (catB a b))))
         | .eql,.str a,.str b,_=>some (.t,.val (.one (.bool (decide (a=b)))))
         | .neq,.str a,.str b,_=>some (.t,.val (.one (.bool (!(decide (a=b))))))
         | .eql,.imap _,.raw (.map none),some (.map _ _)=>some (.t,.val (.one (.bool false)))
         | .neq,.imap _,.raw (.map none),some (.map _ _)=>some (.t,.val (.one (.bool true)))
         | .eql,.raw (.map none),.raw (.map none),some (.map _ _)=>some (.t,.val (.one (.bool true)))
         | .neq,.raw (.map none),.raw (.map none),some (.map _ _)=>some (.t,.val (.one (.bool false)))
         | _,_,_,_=>none
     | _=>none
   | .agg xs=>match ev t y with
     | .agg ys=>match isAggT P T,eqT P 8 T xs ys,op with
       | some true,some b,.eql=>some (.p ((P.eqGuardType P.depth T||blank P 8 T)=false),.val (.one (.bool b)))
       | some true,some b,.neq=>some (.p ((P.eqGuardType P.depth T||blank P 8 T)=false),.val (.one (.bool (!b))))
       | _,_,_=>none
     | _=>none
   | _=>none
 | .unOp op _ x=>match ev t x with
   | .one l=>match un op l with
     | some v=>some (.t,.val (.one v))
     | none=>none
   | _=>none
 | .convert src dst x=>match ev t x with
   | .one (.slc i off n _)=>match P.underlying src,P.underlying dst with
     | some (.slice e),some .string=>match P.underlying e with
       | some (.int .u8)=>some (.t,.rd i fun b=>match b.rdL with
         | some ls=>match takeL (dropL ls off) n with
           | some r=>match bytesL r with
             | some bs=>some (.t,.one (.str ⟨⟨bs⟩⟩))
             | none=>none
           | none=>none
         | none=>none)
       | _=>none
     | _,_=>none
   | .one (.rsl i n)=>match P.underlying src,P.underlying dst with
     | some (.slice e),some .string=>match P.underlying e with
       | some (.int .u8)=>some (.t,.rd i fun b=>match b.rdL with
         | some ls=>match ls with
           | [.seg z n' f]=>match Nat.beq z 1 with
             | true=>some (.p (n≤n'∧∀ k,k<n→isB8 (f k)=true),.one (.str (rowStr n f)))
             | false=>none
           | _=>none
         | none=>none)
       | _=>none
     | _,_=>none
   | .one (.raw (.slice none 0 0))=>match P.underlying src,P.underlying dst with
     | some (.slice e),some .string=>match P.underlying e with
       | some (.int .u8)=>some (.t,.val (.one (.str ⟨⟨[]⟩⟩)))
       | _=>none
     | _,_=>none
   | .one l=>match P.underlying src,P.underlying dst with
     | some _,some (.int k)=>match conv k l with
       | some v=>some (.t,.val (.one v))
       | none=>none
     | _,_=>none
   | _=>none
 | .makeFunc fn fst cap=>match fn,fst.toList with
   | .func f,[]=>match capsOf t cap.toList with
     | some r=>some (.t,.val (.one (.clo f r)))
     | none=>none
   | _,_=>none
 | .call c=>match c.callee with
   | .value (.func f)=>some (.t,.call f (evs t c.args.toList))
   | .value (.tmp n)=>match getT t n with
     | .one (.raw (.func (.func f) fst cap))=>match fst.toList,cap.toList with
       | [],[]=>some (.t,.call f (evs t c.args.toList))
       | _,_=>none
     | .one (.clo f caps)=>some (.t,.call f (evs t c.args.toList++capVs caps))
     | _=>none
   | .builtin .len=>match c.argTypes.toList,evs t c.args.toList with
     | [T],[.one (.slc _ _ n _)]=>match P.underlying T with
       | some (.slice _)=>some (.p (n<9223372036854775808),.val (.one (.b64 true (BitVec.ofNat 64 n))))
       | _=>none
     | [T],[.one (.str s)]=>match P.underlying T with
       | some .string=>some (.p (s.size<9223372036854775808),.val (.one (.b64 true (BitVec.ofNat 64 s.size))))
       | _=>none
     | [T],[.one (.rsl _ n)]=>match P.underlying T with
       | some (.slice _)=>some (.p (n<9223372036854775808),.val (.one (.b64 true (BitVec.ofNat 64 n))))
       | _=>none
     | [T],[.one (.rsc _ _ _ _ n)]=>match P.underlying T with
       | some (.slice _)=>some (.p (n<9223372036854775808),.val (.one (.b64 true (BitVec.ofNat 64 n))))
       | _=>none
     | [T],[.one (.raw (.slice _ 0 _))]=>match P.underlying T with
       | some (.slice _)=>some (.t,.val (.one (.b64 true 0#64)))
       | _=>none
     | [T],[.one (.imap i)]=>match P.underlying T with
       | some (.map _ _)=>some (.t,.rd i fun
         | .imap es=>some (.p (es.length<9223372036854775808),.one (.b64 true (BitVec.ofNat 64 es.length)))
         | .romap es=>some (.p (es.length<9223372036854775808),.one (.b64 true (BitVec.ofNat 64 es.length)))
         | _=>none)
       | _=>none
     | _,_=>none
   | .builtin .append=>match c.argTypes.toList,evs t c.args.toList with
     | [T,T'],[.one x,.one y]=>match P.underlying T with
       | some (.slice e)=>match P.info? e with
         | some inf=>match (match x with
            | .raw (.slice none 0 0)=>some (none:Option (Nat×Nat))
            | .rsl i n=>some (some (i,n))
            | _=>none),inf.zero with
           | some base,some z=>match Nat.ble inf.bytes 4096,Nat.ble 1 inf.size,Nat.beq z.cells.size inf.size with
             | true,true,true=>match Nat.beq T T' with
               | true=>match y with
                 | .slc j off m _=>some (.p ((match base with | some (_,n)=>n | none=>0) + m<65536),.app base e inf.size m (.cell j off fun b=>match b.rdL with
                    | some ls=>srcF ls off inf.size m
                    | none=>none))
                 | .rsl j m=>some (.p ((match base with | some (_,n)=>n | none=>0) + m<65536),.app base e inf.size m (.mem j fun b=>match b.rdL with
                    | some ls=>srcF ls 0 inf.size m
                    | none=>none))
                 | .raw (.slice _ 0 _)=>match base with
                   | none=>some (.p (0 + 0<65536),.app none e inf.size 0 (.here fun _=>falsesP inf.size))
                   | some (i,n)=>some (.t,.rd i fun
                     | .row _ _ n' _=>some (.p (n≤n'),.one (.rsl i n))
                     | _=>none)
                 | .rsc j z k _ m=>match Nat.beq m 0 with
                   | true=>match base with
                     | none=>none
                     | some (i,n)=>some (.t,.rd i fun
                       | .row _ _ n' _=>some (.p (n≤n'),.one (.rsl i n))
                       | _=>none)
                   | false=>some (.p ((match base with | some (_,n)=>n | none=>0) + m<65536),.app base e inf.size m (.mem j fun
                     | .row _ z' n' f=>match Nat.beq z inf.size,Nat.beq z' inf.size with
                       | true,true=>some (.p (k + m≤n'∧m≠0),fun q=>f (q + k))
                       | _,_=>none
                     | _=>none))
                 | _=>none
               | false=>match y with
                 | .str s=>match P.underlying T',Nat.beq inf.size 1 with
                   | some .string,true=>some (.p ((match base with | some (_,n)=>n | none=>0) + s.size<65536),.app base e inf.size s.size (.here fun k=>[.b8 false (byteAt s k)]))
                   | _,_=>none
                 | _=>none
             | _,_,_=>none
           | _,_=>none
         | none=>none
       | _=>none
     | _,_=>none
   | .builtin .min=>match evs t c.args.toList with
     | [.one x,.one y]=>match min2 x y with
       | some v=>some (.t,.val (.one v))
       | none=>none
     | [.one x,.one y,.one z]=>match min2 x y with
       | some v=>match min2 v z with
         | some u=>some (.t,.val (.one u))
         | none=>none
       | none=>none
     | _=>none
   | .builtin .max=>match evs t c.args.toList with
     | [.one x,.one y]=>match max2 x y with
       | some v=>some (.t,.val (.one v))
       | none=>none
     | [.one x,.one y,.one z]=>match max2 x y with
       | some v=>match max2 v z with
         | some u=>some (.t,.val (.one u))
         | none=>none
       | none=>none
     | _=>none
   | _=>none
 | _=>none
def look:List (Nat×Blk)→Nat→Option Blk
 | [],_=>none
 | (j,b)::r,i=>match Nat.beq j i with
   | true=>some b
   | false=>look r i
noncomputable def setB {α:Sort _} (l:List (Nat×Blk)):Nat→Blk→(List (Nat×Blk)→α)→α:=
 List.rec (motive:=fun _=>Nat→Blk→(List (Nat×Blk)→α)→α) (fun _ _ k=>k [])
  (fun p r ih i b' k=>match p with
    | (j,b)=>match Nat.beq j i with
      | true=>k ((j,b')::r)
      | false=>ih i b' fun r=>k ((j,b)::r)) l
def kn:List (Nat×Bool)→Nat→Option Bool
 | [],_=>none
 | (j,b)::r,i=>match Nat.beq j i with
   | true=>some b
   | false=>kn r i
def kdel:List (Nat×Bool)→Nat→List (Nat×Bool)
 | [],_=>[]
 | (j,b)::r,i=>match Nat.beq j i with
   | true=>kdel r i
   | false=>(j,b)::kdel r i
def kdelO (kw:List (Nat×Bool)):Option Nat→List (Nat×Bool)
 | none=>kw
 | some d=>kdel kw d
noncomputable def forceK {α:Sort _} (l:List (Nat×Bool)):(List (Nat×Bool)→α)→α:=
 List.rec (motive:=fun _=>(List (Nat×Bool)→α)→α) (fun k=>k [])
  (fun p _ ih k=>match p with
    | (j,true)=>ih fun r=>k ((j,true)::r)
    | (j,false)=>ih fun r=>k ((j,false)::r)) l
abbrev FP:=Bool×List Nat
inductive Ap
 | no
 | sym
 | clo
structure Table where
 fn:FuncId→List AV→List (Nat×Blk)→Option (Cond×AV)
 glob:TypeId→Nat→Nat→Option AV
 look:TypeId→Bool→Nat→Nat→AV→Option (Cond×AV)
 inl:FuncId→Nat→List AV→List (Nat×Blk)→(AV→List (Nat×Blk)→Prop)→Prop
 app:Ap
 nm:Nat
 tp:Nat
 im:List Nat
 mkr:FuncId→List AV→List (Nat×Blk)→Option (Cond×Blk×NewV)
 mks:List Nat
def setNm (C:Table) (nm tp:Nat):Table:=⟨C.fn,C.glob,C.look,C.inl,C.app,nm,tp,C.im,C.mkr,C.mks⟩
def noInl (C:Table):Table:=⟨C.fn,C.glob,C.look,fun _ _ _ _ _=>Stuck "call",.no,C.nm,C.tp,[],C.mkr,C.mks⟩
def stillT (C:Table):Table:=⟨fun _ _ _=>none,C.glob,C.look,fun _ _ _ _ _=>Stuck "call",.no,C.nm,C.tp,[],fun _ _ _=>none,[]⟩
def nameOf (nm d:Nat):Nat:=match nm with
 | 0=>d
 | n + 1=>n + 1 + d
def withName {α:Sort _} (nm d:Nat) (k:Nat→α):α:=match nm with
 | 0=>k d
 | n + 1=>k (n + 1 + d)
def allLt (b:Nat):List (Nat×Blk)→Bool
 | []=>true
 | (i,_)::r=>match Nat.blt i b with
   | true=>allLt b r
   | false=>false
def capN:List (Nat×Nat)→List Nat
 | []=>[]
 | (i,_)::r=>i::capN r
def L.names:L→List Nat
 | .ptr i _=>[i]
 | .eptr i _ _ _=>[i]
 | .slc i _ _ _=>[i]
 | .rptr i _ _ _ _=>[i]
 | .rsl i _=>[i]
 | .rsc i _ _ _ _=>[i]
 | .imap i=>[i]
 | .clo _ caps=>capN caps
 | _=>[]
def lnames:List L→List Nat
 | []=>[]
 | l::ls=>l.names++lnames ls
def vnames:List (Bool×List L)→List Nat
 | []=>[]
 | (_,ls)::r=>lnames ls++vnames r
def AV.names:AV→List Nat
 | .one l=>l.names
 | .agg ls=>lnames ls
 | .tup vs=>vnames vs
def Blk.names:Blk→List Nat
 | .cells _ ls=>lnames ls
 | .ro _ ls=>lnames ls
 | .vec _ ls=>lnames ls
 | _=>[]
def anames:List AV→List Nat
 | []=>[]
 | v::vs=>v.names++anames vs
def blks (h:Nat→Option Blk):List Nat→List (Nat×Blk)
 | []=>[]
 | i::r=>match h i with
   | some b=>(i,b)::blks h r
   | none=>blks h r
def inCaps (d:Nat):List (Nat×Nat)→Bool
 | []=>false
 | (i,_)::r=>match Nat.beq i d with
   | true=>true
   | false=>inCaps d r
def L.purge (d:Nat) (l:L):L:=match l with
 | .ptr i o=>match Nat.beq i d with
   | true=> .junk
   | false=> .ptr i o
 | .eptr i o n k=>match Nat.beq i d with
   | true=> .junk
   | false=> .eptr i o n k
 | .slc i o n c=>match Nat.beq i d with
   | true=> .junk
   | false=> .slc i o n c
 | .rptr i o z k p=>match Nat.beq i d with
   | true=> .junk
   | false=> .rptr i o z k p
 | .rsl i n=>match Nat.beq i d with
   | true=> .junk
   | false=> .rsl i n
 | .rsc i z k q n=>match Nat.beq i d with
   | true=> .junk
   | false=> .rsc i z k q n
 | .imap i=>match Nat.beq i d with
   | true=> .junk
   | false=> .imap i
 | .clo f caps=>match inCaps d caps with
   | true=> .junk
   | false=> .clo f caps
 | l=>l
def purgeLs (d:Nat):List L→List L
 | []=>[]
 | l::ls=>l.purge d::purgeLs d ls
def purgeVs (d:Nat):List (Bool×List L)→List (Bool×List L)
 | []=>[]
 | (b,ls)::r=>(b,purgeLs d ls)::purgeVs d r
def AV.purge (d:Nat) (v:AV):AV:=match v with
 | .one l=> .one (l.purge d)
 | .agg ls=> .agg (purgeLs d ls)
 | .tup vs=> .tup (purgeVs d vs)
def Blk.purge (d:Nat) (b:Blk):Blk:=match b with
 | .cells T ls=> .cells T (purgeLs d ls)
 | .ro T ls=> .ro T (purgeLs d ls)
 | .vec T ls=> .vec T (purgeLs d ls)
 | b=>b
noncomputable def purgeTK {α:Sort _} (d:Nat) (l:List AV):(List AV→α)→α:=
 List.rec (motive:=fun _=>(List AV→α)→α) (fun k=>k []) (fun x _ ih k=>forceA (x.purge d) fun x=>ih fun xs=>k (x::xs)) l
noncomputable def purgeHK {α:Sort _} (d:Nat) (l:List (Nat×Blk)):(List (Nat×Blk)→α)→α:=
 List.rec (motive:=fun _=>(List (Nat×Blk)→α)→α) (fun k=>k [])
  (fun p _ ih k=>match p with
    | (j,b)=>match Nat.beq j d with
      | true=>ih k
      | false=>forceB (b.purge d) fun b=>ih fun r=>k ((j,b)::r)) l
noncomputable def nxK {α:Sort _} (s:S) (k:List AV→List (Nat×Blk)→α):α:=S.rec (motive:=fun _=>α) k s
theorem nxK_eq {α:Sort _} (s:S) (k:List AV→List (Nat×Blk)→α):nxK s k=k s.t s.h:=by cases s;rfl
noncomputable def putK (s:S) (dst:Option Nat) (v:AV) (k:S→Prop):Prop:=
 match dst with
 | some d=>forceA v fun v=>nxK s fun t h=>setK t d v fun t=>k ⟨t,h⟩
 | none=>k s
def srcK (x:Src) (h:List (Nat×Blk)) (k:Cond→(Nat→List PL)→Prop):Prop:=match x with
 | .here g=>k .t g
 | .mem j f=>match look h j with
   | some b=>match f b with
     | some (c,g)=>k c g
     | none=>Stuck "app"
   | none=>Stuck "app"
 | .cell j _ f=>match look h j with
   | some b=>match f b with
     | some (c,g)=>k c g
     | none=>Stuck "app"
   | none=>Stuck "app"
def srcN:Src→List Nat
 | .mem j _=>[j]
 | .cell j _ _=>[j]
 | .here _=>[]
def appName {α:Sort _} (nm d:Nat) (h:List (Nat×Blk)) (k:Nat→α):α:=withName nm d fun i=>match look h i with
 | none=>k i
 | some _=>withName nm (d + 1) k
def vecOf (x:Src) (h:List (Nat×Blk)) (z m:Nat):Option L:=match x with
 | .cell j off _=>match Nat.beq off 0,Nat.beq z 1,Nat.beq m 1 with
   | true,true,true=>match look h j with
     | some (.cells _ [l])=>match l.ok,l.names with
       | true,_::_=>some l
       | _,_=>none
     | _=>none
   | _,_,_=>none
 | _=>none
noncomputable def forceNs {α:Sort _} (l:List Nat):(List Nat→α)→α:=
 List.rec (motive:=fun _=>(List Nat→α)→α) (fun k=>k []) (fun n _ ih k=>ih fun ns=>k (n::ns)) l
theorem forceNs_eq {α:Sort _}:∀ (l:List Nat) (k:List Nat→α),forceNs l k=k l
 | [],_=>rfl
 | n::l,k=>forceNs_eq l fun ns=>k (n::ns)
def inNs (i:Nat):List Nat→Bool
 | []=>false
 | j::r=>match Nat.beq i j with
   | true=>true
   | false=>inNs i r
def reachF (h:Nat→Option Blk):Nat→List Nat→List Nat→List Nat
 | 0,_,acc=>acc
 | _ + 1,[],acc=>acc
 | n + 1,i::r,acc=>match inNs i acc with
   | true=>reachF h n r acc
   | false=>match h i with
     | some b=>reachF h n (r++b.names) (acc++[i])
     | none=>reachF h n r (acc++[i])
def dnames (h:Nat→Option Blk) (args:List AV):List Nat:=reachF h 60 (anames args) []
def newNs (b:Nat):List Nat→List Nat
 | []=>[]
 | i::r=>match Nat.blt i b with
   | true=>newNs b r
   | false=>match inNs i r with
     | true=>newNs b r
     | false=>i::newNs b r
def L.ren (i j:Nat) (l:L):L:=match l with
 | .ptr x o=>match Nat.beq x i with
   | true=> .ptr j o
   | false=> .ptr x o
 | .slc x o n c=>match Nat.beq x i with
   | true=> .slc j o n c
   | false=> .slc x o n c
 | .rsl x n=>match Nat.beq x i with
   | true=> .rsl j n
   | false=> .rsl x n
 | .rsc x z k q n=>match Nat.beq x i with
   | true=> .rsc j z k q n
   | false=> .rsc x z k q n
 | .imap x=>match Nat.beq x i with
   | true=> .imap j
   | false=> .imap x
 | .eptr x o n k=>match Nat.beq x i with
   | true=> .eptr j o n k
   | false=> .eptr x o n k
 | .rptr x o z k p=>match Nat.beq x i with
   | true=> .rptr j o z k p
   | false=> .rptr x o z k p
 | .clo f caps=>match inCaps i caps with
   | true=> .junk
   | false=> .clo f caps
 | l=>l
def renLs (i j:Nat):List L→List L
 | []=>[]
 | l::ls=>l.ren i j::renLs i j ls
def renVs (i j:Nat):List (Bool×List L)→List (Bool×List L)
 | []=>[]
 | (b,ls)::r=>(b,renLs i j ls)::renVs i j r
def AV.ren (i j:Nat) (v:AV):AV:=match v with
 | .one l=> .one (l.ren i j)
 | .agg ls=> .agg (renLs i j ls)
 | .tup vs=> .tup (renVs i j vs)
def Blk.ren (i j:Nat) (b:Blk):Blk:=match b with
 | .cells T ls=> .cells T (renLs i j ls)
 | .ro T ls=> .ro T (renLs i j ls)
 | .vec T ls=> .vec T (renLs i j ls)
 | b=>b
noncomputable def renHK {α:Sort _} (i j:Nat) (l:List (Nat×Blk)):(List (Nat×Blk)→α)→α:=
 List.rec (motive:=fun _=>(List (Nat×Blk)→α)→α) (fun k=>k [])
  (fun p _ ih k=>match p with
    | (x,b)=>match Nat.beq x i with
      | true=>forceB (b.ren i j) fun b=>ih fun r=>k ((j,b)::r)
      | false=>forceB (b.ren i j) fun b=>ih fun r=>k ((x,b)::r)) l
def nsLt (b:Nat):List Nat→Bool
 | []=>true
 | i::r=>match Nat.blt i b with
   | true=>nsLt b r
   | false=>false
noncomputable def renK (nm tp:Nat) (l:List Nat):Nat→AV→List AV→List (Nat×Blk)→(AV→List AV→List (Nat×Blk)→Prop)→Prop:=
 List.rec (motive:=fun _=>Nat→AV→List AV→List (Nat×Blk)→(AV→List AV→List (Nat×Blk)→Prop)→Prop) (fun _ v t h k=>k v t h)
  (fun i _ ih d v t h k=>withName nm d fun j=>match Nat.blt j tp,inNs j v.names with
    | true,false=>purgeTK j t fun t=>purgeHK j h fun h=>renHK i j h fun h=>forceA (v.ren i j) fun v=>ih (d + 1) v t h k
    | _,_=>Stuck "out") l
def allInN (h:List (Nat×Blk)):List Nat→Bool
 | []=>true
 | i::r=>match look h i with
   | some _=>allInN h r
   | none=>false
noncomputable def outK (C:Table) (dst:Option Nat) (v:AV) (t:List AV) (h:List (Nat×Blk)) (k:AV→List AV→List (Nat×Blk)→Prop):Prop:=
 match newNs C.tp (reachF (look h) 200 v.names []) with
 | []=>k v t h
 | i::r=>match dst with
   | none=>Stuck "out"
   | some d=>match Nat.ble C.nm C.tp with
     | true=>renK C.nm C.tp (i::r) d v t h fun v t h=>match allInN h v.names,nsLt C.tp v.names with
       | true,true=>k v t h
       | _,_=>Stuck "out"
     | _=>Stuck "out"
noncomputable def forceAs {α:Sort _} (l:List AV):(List AV→α)→α:=
 List.rec (motive:=fun _=>(List AV→α)→α) (fun k=>k []) (fun v _ ih k=>forceA v fun v=>ih fun r=>k (v::r)) l
noncomputable def doK (C:Table) (kw:List (Nat×Bool)) (c:Option Nat) (dst:Option Nat) (s:S) (r:Req) (k:FP→S→Prop):Prop:=
 match r with
 | .val v=>putK s dst v (k (false,[]))
 | .rd i f=>match look s.h i with
   | some b=>match f b with
     | some (p,v)=>withC p (putK s dst v (k (false,[i])))
     | none=>Stuck "rd"
   | none=>Stuck "rd"
 | .wr i f=>match dst with
   | some _=>Stuck "wr"
   | none=>match look s.h i with
     | some b=>match f b with
       | some (p,b')=>withC p (forceB b' fun b'=>setB s.h i b' fun h=>k (true,[i]) ⟨s.t,h⟩)
       | none=>Stuck "wr"
     | none=>Stuck "wr"
 | .new b nv=>match dst with
   | some d=>appName C.nm d s.h fun i=>match look s.h i with
     | none=>match Nat.blt d s.t.length with
       | true=>forceB b fun b=>forceL (nv.at i) fun v=>setK s.t d (.one v) fun t=>k (true,[i]) ⟨t,(i,b)::s.h⟩
       | false=>Stuck "new"
     | some _=>Stuck "new"
   | none=>Stuck "new"
 | .call f args=>match C.fn f args (blks (look s.h) (dnames (look s.h) args)) with
   | some (p,v)=>withC p (forceNs (dnames (look s.h) args) fun ns=>putK s dst v (k (false,ns)))
   | none=>match C.mkr f args (blks (look s.h) (dnames (look s.h) args)) with
    | some (p,b,nv)=>withC p (match dst with
      | some d=>withName C.nm d fun i=>match look s.h i with
        | none=>match Nat.blt d s.t.length with
          | true=>forceNs (dnames (look s.h) args) fun ns=>forceB b fun b=>forceL (nv.at i) fun v=>setK s.t d (.one v) fun t=>k (true,i::ns) ⟨t,(i,b)::s.h⟩
          | false=>Stuck "new"
        | some _=>Stuck "new"
      | none=>Stuck "new")
    | none=>match allLt C.tp s.h with
     | true=>forceAs args fun args=>C.inl f C.tp args s.h fun v h=>outK C dst v s.t h fun v t h=>putK ⟨t,h⟩ dst v (k (true,[]))
     | false=>Stuck "call"
 | .glob T g off=>match C.glob T g off with
   | some v=>putK s dst v (k (false,[]))
   | none=>Stuck "glob"
 | .look T ok g b key=>match C.look T ok g b key with
   | some (p,v)=>withC p (putK s dst v (k (false,[])))
   | none=>Stuck "look"
 | .pick b x y=>match c.bind (kn kw) with
   | some true=>putK s dst x (k (false,[]))
   | some false=>putK s dst y (k (false,[]))
   | none=>Both (Given (b=true) (putK s dst x (k (false,[])))) (Given (b=false) (putK s dst y (k (false,[]))))
 | .app base e z m x=>match C.app with
   | .no=>match base with
     | some _=>Stuck "app"
     | none=>match dst with
       | none=>Stuck "app"
       | some d=>srcK x s.h fun c g=>withC c (withC (.p (∀ j,(g j).length=z)) (Both (Given (Nat.beq m 0=true) (putK s (some d) (.one (.raw (.slice none 0 0))) (k (false,srcN x))))
         (Given (Nat.beq m 0=false) (appName C.nm d s.h fun i=>match look s.h i with
           | some _=>Stuck "app"
           | none=>match Nat.blt d s.t.length with
             | true=>setK s.t d (.one (.rsl i m)) fun t=>k (true,i::srcN x) ⟨t,(i,.row e z m g)::s.h⟩
             | false=>Stuck "app"))))
   | .clo=>match dst with
     | none=>Stuck "app"
     | some d=>srcK x s.h fun c g=>withC c (match base with
       | some (i,n)=>match Nat.ble C.nm i with
         | true=>match look s.h i with
           | some (.row T z' n' f)=>match Nat.beq T e,Nat.beq z' z with
             | true,true=>withC (.p (n=n'∧∀ j,j<m→(g j).length=z))
               (purgeTK i s.t fun t=>purgeHK i s.h fun h=>putK ⟨t,(i,.row e z (n + m) (joinI n f g))::h⟩ (some d) (.one (.rsl i (n + m))) (k (true,[i])))
             | _,_=>Stuck "app"
           | _=>Stuck "app"
         | false=>Stuck "app"
       | none=>withC (.p (∀ j,j<m→(g j).length=z)) (match Nat.beq m 0 with
         | true=>putK s (some d) (.one (.raw (.slice none 0 0))) (k (true,[]))
         | false=>withName C.nm d fun i=>purgeTK i s.t fun t=>purgeHK i s.h fun h=>putK ⟨t,(i,.row e z m g)::h⟩ (some d) (.one (.rsl i m)) (k (true,[i]))))
   | .sym=>match dst with
     | none=>Stuck "app"
     | some d=>match vecOf x s.h z m with
      | some l=>(match base with
       | none=>withName C.nm d fun i=>match inNs i l.names with
         | true=>Stuck "vec"
         | false=>purgeTK i s.t fun t=>purgeHK i s.h fun h=>putK ⟨t,(i,.vec e [l])::h⟩ (some d) (.one (.rsl i 1)) (k (true,[i]))
       | some (i,n)=>match Nat.ble C.nm i with
         | true=>match look s.h i with
           | some (.vec T ls)=>match Nat.beq T e,Nat.beq ls.length n,inNs i l.names,inNs i (lnames ls) with
             | true,true,false,false=>purgeTK i s.t fun t=>purgeHK i s.h fun h=>putK ⟨t,(i,.vec e (appL ls [l]))::h⟩ (some d) (.one (.rsl i (n + 1))) (k (true,[i]))
             | _,_,_,_=>Stuck "vec"
           | _=>Stuck "vec"
         | false=>Stuck "vec")
      | none=>srcK x s.h fun c g=>withC c (match base with
       | some (i,n)=>match Nat.ble C.nm i with
         | true=>match look s.h i with
           | some (.row T z' n' f)=>match Nat.beq T e,Nat.beq z' z with
             | true,true=>withC (.p (n=n'∧(∀ j,(f j).length=z)∧∀ j,(g j).length=z))
               (purgeTK i s.t fun t=>purgeHK i s.h fun h=>putK ⟨t,(i,.row e z (n + m) (joinF n f g))::h⟩ (some d) (.one (.rsl i (n + m))) (k (true,[i])))
             | _,_=>Stuck "app"
           | _=>Stuck "app"
         | false=>Stuck "app"
       | none=>withC (.p (∀ j,(g j).length=z)) (Both (Given (Nat.beq m 0=true) (putK s (some d) (.one (.raw (.slice none 0 0))) (k (true,[]))))
         (Given (Nat.beq m 0=false)
           (withName C.nm d fun i=>purgeTK i s.t fun t=>purgeHK i s.h fun h=>putK ⟨t,(i,.row e z m g)::h⟩ (some d) (.one (.rsl i m)) (k (true,[i]))))))
def pickOf:Op→Option Nat
 | .pick (.tmp c) _ _=>some c
 | _=>none
def knOp (kw:List (Nat×Bool)):Operand→Option Bool
 | .tmp n=>kn kw n
 | .const (.bool b)=>some b
 | _=>none
def kmove (kw:List (Nat×Bool)) (o:Op) (dst:Option Nat):List (Nat×Bool):=
 match dst with
 | none=>kw
 | some d=>match (match o with
    | .move x=>knOp kw x
    | .assign x=>knOp kw x
    | .pick (.tmp c) x y=>match kn kw c with
      | some true=>knOp kw x
      | some false=>knOp kw y
      | none=>none
    | _=>none) with
   | some true=>(d,true)::kdel kw d
   | some false=>(d,false)::kdel kw d
   | none=>kdel kw d
noncomputable def opK (P:Program) (C:Table) (kw:List (Nat×Bool)) (o:Oper) (s:S) (k:FP→S→Prop):Prop:=
 match req P o.op s.t with
 | some (p,q)=>withC p (doK C kw (pickOf o.op) o.dst s q k)
 | none=>Stuck o.pos
abbrev noV:AV:= .one (.raw undef)
noncomputable def skipK (o:Oper) (s:S) (k:FP→S→Prop):Prop:=putK s o.dst noV (k (false,[]))
def isBoolV:Value→Bool
 | .bool _=>true
 | _=>false
def clear1 (a:FP) (ys:List Nat):Bool:=match a with
 | (true,x::_)=>ys.all fun y=> !(Nat.beq x y)
 | _=>true
def compat (a b:FP):Bool:=match a,b with
 | (false,_),(false,_)=>true
 | (p,xs),(q,ys)=>clear1 (p,xs) ys&&clear1 (q,ys) xs
def edgeTo (k:Nat):List Edge→Bool
 | []=>false
 | e::es=>match Region.binds .any e,Nat.beq e.on k with
   | true,true=>true
   | _,_=>edgeTo k es
def okAgainst (k:Nat) (fp:FP):List Oper→List FP→Bool
 | o::r,fp'::fps=>match compat fp fp' with
   | true=>okAgainst k fp r fps
   | false=>match edgeTo k o.after.toList with
     | true=>okAgainst k fp r fps
     | false=>false
 | _,_=>true
def edgeIn (ds:List Nat):List Edge→Bool
 | []=>false
 | e::es=>match Region.binds .any e,ds.any (Nat.beq e.on) with
   | true,true=>true
   | _,_=>edgeIn ds es
def okAgainst2 (ds:List Nat) (m:Nat) (fp:FP):List Oper→List FP→Bool
 | o::r,fp'::fps=>match edgeIn ds o.after.toList with
   | true=>okAgainst2 (m::ds) (m + 1) fp r fps
   | false=>match compat fp fp' with
     | true=>okAgainst2 ds (m + 1) fp r fps
     | false=>false
 | _,_=>true
def okFrom (k:Nat):List Oper→List FP→Bool
 | _::r,fp::fps=>match fp with
   | (_,[])=>okFrom (k + 1) r fps
   | (false,xs)=>match okAgainst k (false,xs) r fps with
     | true=>okFrom (k + 1) r fps
     | false=>false
   | (true,xs)=>match okAgainst2 [k] (k + 1) (true,xs) r fps with
     | true=>okFrom (k + 1) r fps
     | false=>false
 | _,_=>true
def guardTmp (all:List Oper) (j:Nat):Option Nat:=match nth all j with
 | some o=>o.dst
 | none=>none
noncomputable def runOps (P:Program) (C:Table) (all:List Oper) (l:List Oper):List (Nat×Bool)→S→(List FP→S→Prop)→Prop:=
 List.rec (motive:=fun _=>List (Nat×Bool)→S→(List FP→S→Prop)→Prop) (fun _ s k=>k [] s)
  (fun o _ ih kw s k=>match o.guard with
    | none=>opK P C kw o s fun fp s=>forceK (kmove kw o.op o.dst) fun kw=>ih kw s fun fps=>k (fp::fps)
    | some (j,want)=>match guardTmp all j with
      | none=>Stuck "guard"
      | some d=>match getT s.t d with
        | .one (.bool b)=>match kn kw d with
          | some true=>match want with
            | true=>opK P C kw o s fun fp s=>forceK (kmove kw o.op o.dst) fun kw=>ih kw s fun fps=>k (fp::fps)
            | false=>skipK o s fun fp s=>forceK (kdelO kw o.dst) fun kw=>ih kw s fun fps=>k (fp::fps)
          | some false=>match want with
            | false=>opK P C kw o s fun fp s=>forceK (kmove kw o.op o.dst) fun kw=>ih kw s fun fps=>k (fp::fps)
            | true=>skipK o s fun fp s=>forceK (kdelO kw o.dst) fun kw=>ih kw s fun fps=>k (fp::fps)
          | none=>match want with
            | true=>Both
              (Given (b=true) (opK P C ((d,true)::kw) o s fun fp s=>forceK (kmove ((d,true)::kw) o.op o.dst) fun kw=>ih kw s fun fps=>k (fp::fps)))
              (Given (b=false) (skipK o s fun fp s=>forceK (kdelO ((d,false)::kw) o.dst) fun kw=>ih kw s fun fps=>k (fp::fps)))
            | false=>Both
              (Given (b=true) (skipK o s fun fp s=>forceK (kdelO ((d,true)::kw) o.dst) fun kw=>ih kw s fun fps=>k (fp::fps)))
              (Given (b=false) (opK P C ((d,false)::kw) o s fun fp s=>forceK (kmove ((d,false)::kw) o.op o.dst) fun kw=>ih kw s fun fps=>k (fp::fps)))
        | .one (.raw v)=>match isBoolV v with
          | false=>skipK o s fun fp s=>forceK (kdelO kw o.dst) fun kw=>ih kw s fun fps=>k (fp::fps)
          | true=>Stuck "guard"
        | _=>Stuck "guard") l
def newName (o:Oper):Option Nat:=match o.op with
 | .alloc _ | .box _ _ | .buildSlice _ _ _ | .makeSlice _ _ _ | .makeMap _ _=>o.dst
 | _=>none
def isMk (mks:List Nat) (c:Call):Bool:=match mks with
 | []=>false
 | m::r=>match c.callee with
   | .value (.func f)=>inNs f (m::r)
   | _=>false
def newNm (mks:List Nat) (o:Oper):Option Nat:=match o.op with
 | .call c=>match isMk mks c with
   | true=>o.dst
   | false=>none
 | _=>newName o
def isMakeS (o:Oper):Bool:=match o.op with
 | .makeSlice _ _ _=>true
 | _=>false
noncomputable def purgeAll {α:Sort _} (nm:Nat) (mks:List Nat) (ops:List Oper):S→(S→α)→α:=
 List.rec (motive:=fun _=>S→(S→α)→α) (fun s k=>k s)
  (fun o _ ih s k=>match newNm mks o with
    | none=>ih s k
    | some d=>withName nm d fun i=>match look s.h i with
      | none=>ih s k
      | some _=>match isMakeS o with
        | true=>ih s k
        | false=>purgeTK i s.t fun t=>purgeHK i s.h fun h=>ih ⟨t,h⟩ k) ops
inductive Ex
 | normal
 | ret
 | exit (n:Nat)
noncomputable def leT (l:List AV):List AV→Prop:=
 List.rec (motive:=fun _=>List AV→Prop) (fun l=>match l with | []=>True | _::_=>False)
  (fun x _ ih l=>match l with
    | []=>False
    | y::ys=>match y with
      | .one .junk=>ih ys
      | y=>forceA x fun x=>forceA y fun y=>Both (x=y) (ih ys)) l
noncomputable def leH (h:List (Nat×Blk)) (l:List (Nat×Blk)):Prop:=
 List.rec (motive:=fun _=>Prop) True
  (fun p _ ih=>match p with
    | (i,b)=>match look h i with
      | some c=>forceB b fun b=>Both (c=b) ih
      | none=>Stuck "leH") l
def isSomeB:Option Blk→Bool
 | some _=>true
 | none=>false
def allIn (h:List (Nat×Blk)):List Nat→Bool
 | []=>true
 | i::r=>match isSomeB (look h i) with
   | true=>allIn h r
   | false=>false
def scopeT (h:List (Nat×Blk)):List AV→Bool
 | []=>true
 | v::vs=>match allIn h v.names with
   | true=>scopeT h vs
   | false=>false
def scopeH (h:List (Nat×Blk)):List (Nat×Blk)→Bool
 | []=>true
 | (_,b)::r=>match allIn h b.names with
   | true=>scopeH h r
   | false=>false
def keepH (nm:Nat) (g:List (Nat×Blk)):List (Nat×Blk)→Bool
 | []=>true
 | (i,_)::r=>match Nat.blt i nm with
   | true=>match isSomeB (look g i) with
     | true=>keepH nm g r
     | false=>false
   | false=>keepH nm g r
structure Le (nm:Nat) (s t:S):Prop where
 tmps:leT s.t t.t
 heap:leH s.h t.h
 names:scopeT t.h t.t=true
 namesH:scopeH t.h t.h=true
 keep:keepH nm t.h s.h=true
noncomputable def timesP (body:S→(Ex→S→Prop)→Prop) (Q:Ex→S→Prop) (n:Nat):S→Prop:=
 Nat.rec (motive:=fun _=>S→Prop) (fun _=>Stuck "times")
  (fun _ ih s=>body s fun e s=>match e with
    | .normal=>ih s
    | .ret=>Q .ret s
    | .exit m=>Q (.exit m) s) n
inductive LoopP (nm:Nat) (body:S→(Ex→S→Prop)→Prop) (s:S) (Q:Ex→S→Prop):Prop
 | mk (κ:Type) (ok:κ→Prop) (sh:κ→S) (m:κ→Nat) (start:∃ k,ok k∧Le nm s (sh k))
    (round:∀ k,ok k→body (sh k) (fun e s=>match e with
      | .normal=>∃ k',ok k'∧m k'<m k∧Le nm s (sh k')
      | .ret=>Q .ret s
      | .exit n=>Q (.exit n) s)):LoopP nm body s Q
 | times (n:Nat) (h:timesP body Q n s):LoopP nm body s Q
def memN (d:Nat):List Nat→Bool
 | []=>false
 | c::r=>match Nat.beq d c with
   | true=>true
   | false=>memN d r
def condsOf:Code→List Nat
 | .seq a b=>condsOf a++condsOf b
 | .cond (.tmp n) a b=>n::(condsOf a++condsOf b)
 | _=>[]
def nilArg:List Operand→Bool
 | .const (.slice none _ _)::_=>true
 | _=>false
def nilAppD (o:Oper):Option Nat:=match o.op with
 | .call c=>match c.callee with
   | .builtin .append=>match nilArg c.args.toList with
     | true=>o.dst
     | false=>none
   | _=>none
 | .makeSlice _ _ _=>o.dst
 | _=>none
def refH (i:Nat):List (Nat×Blk)→Bool
 | []=>false
 | (_,b)::r=>match inNs i b.names with
   | true=>true
   | false=>refH i r
noncomputable def freeK {α:Sort _} (i:Nat) (s:S) (k:S→α):α:=match look s.h i with
 | none=>k s
 | some _=>match refH i s.h with
   | true=>k s
   | false=>purgeTK i s.t fun t=>purgeHK i s.h fun h=>k ⟨t,h⟩
noncomputable def purgeApp {α:Sort _} (nm:Nat) (ops:List Oper):S→(S→α)→α:=
 List.rec (motive:=fun _=>S→(S→α)→α) (fun s k=>k s)
  (fun o _ ih s k=>match nilAppD o with
    | none=>ih s k
    | some d=>withName nm d fun i=>withName nm (d + 1) fun j=>freeK i s fun s=>freeK j s fun s=>ih s k) ops
def okDst (mks cs:List Nat) (o:Oper):Bool:=match o.dst with
 | none=>false
 | some d=>match o.op with
   | .assign _=>memN d cs
   | .alloc _ | .box _ _ | .buildSlice _ _ _ | .makeSlice _ _ _ | .makeMap _ _ | .store _ _ _ | .pick _ _ _=>false
   | .call c=>match isMk mks c with
     | true=>false
     | false=>match nilAppD o with
       | some _=>false
       | none=> !(memN d cs)
   | _=> !(memN d cs)
noncomputable def pureOps (P:Program) (C:Table) (cs:List Nat) (l:List Oper):S→(List FP→S→Prop)→Prop→Prop:=
 List.rec (motive:=fun _=>S→(List FP→S→Prop)→Prop→Prop) (fun s k _=>k [] s)
  (fun o _ ih s k no=>match o.guard with
    | some _=>no
    | none=>match okDst C.mks cs o with
      | false=>no
      | true=>match req P o.op s.t with
        | some (.t,.val v)=>putK s o.dst v fun s=>ih s (fun fps=>k ((false,[])::fps)) no
        | some (.t,.rd i f)=>match look s.h i with
          | some b=>match f b with
            | some (.t,v)=>putK s o.dst v fun s=>ih s (fun fps=>k ((false,[i])::fps)) no
            | _=>no
          | none=>no
        | some (.t,.call f args)=>match C.fn f args (blks (look s.h) (dnames (look s.h) args)) with
          | some (.t,v)=>putK s o.dst v fun s=>ih s (fun fps=>k ((false,dnames (look s.h) args)::fps)) no
          | _=>no
        | _=>no) l
def dstsOps:List Oper→List Nat
 | []=>[]
 | o::r=>match o.dst with
   | some d=>d::dstsOps r
   | none=>dstsOps r
def dstsOf:Code→List Nat
 | .region _ ops _=>dstsOps ops.toList
 | .seq a b=>dstsOf a++dstsOf b
 | .cond _ a b=>dstsOf a++dstsOf b
 | _=>[]
noncomputable def junkK (ds:List Nat):List AV→(List AV→Prop)→Prop:=
 List.rec (motive:=fun _=>List AV→(List AV→Prop)→Prop) (fun t k=>k t) (fun d _ ih t k=>setK t d (.one .junk) fun t=>ih t k) ds
noncomputable def joinK (ds:List Nat) (c:Nat) (v:Bool) (s:S) (k:S→Prop):Prop:=junkK ds s.t fun t=>setK t c (.one (.bool v)) fun t=>k ⟨t,s.h⟩
def isSkip:Code→Bool
 | .skip=>true
 | _=>false
def imCall (im:List Nat) (o:Oper):Bool:=match o.op with
 | .call c=>match c.callee with
   | .value (.func f)=>inNs f im
   | .value (.tmp _)=>inNs 0 im
   | _=>false
 | _=>false
def findIm (im:List Nat):List Oper→Nat→Option Nat
 | [],_=>none
 | o::r,n=>match imCall im o with
   | true=>some n
   | false=>findIm im r (n + 1)
def isApp (o:Oper):Bool:=match o.op with
 | .call c=>match c.callee with
   | .builtin .append=>match nilArg c.args.toList with
     | true=>false
     | false=>true
   | _=>false
 | _=>false
def findApp:List Oper→Nat→Option Nat
 | [],_=>none
 | o::r,n=>match isApp o with
   | true=>some n
   | false=>findApp r (n + 1)
def headOf (im:List Nat) (ops:List Oper):Option Nat:=match im with
 | []=>none
 | i::r=>match findIm (i::r) ops 0 with
   | some n=>some n
   | none=>findApp ops 0
def plainT:List Oper→Bool
 | []=>true
 | o::r=>match o.op with
   | .call c=>match c.callee with
     | .value _=>false
     | .builtin .append=>false
     | _=>plainT r
   | .alloc _ | .box _ _ | .buildSlice _ _ _ | .makeSlice _ _ _ | .makeMap _ _ | .store _ _ _=>false
   | _=>plainT r
def stillF:List FP→Bool
 | []=>true
 | (true,_)::_=>false
 | (false,_)::r=>stillF r
noncomputable def pureE (P:Program) (C:Table) (cs:List Nat) (x:Code):S→(S→Prop)→Prop→Prop:=
 Code.rec (motive:=fun _=>S→(S→Prop)→Prop→Prop)
  (fun s k _=>k s)
  (fun _ ops draw s k no=>pureOps P C cs ops.toList s (fun fps s=>match draw with
    | false=>k s
    | true=>match headOf C.im ops.toList with
      | some _=>no
      | none=>match okFrom 0 ops.toList fps with
        | true=>Both (Ob (Region.lexB .any ops=true)) (k s)
        | false=>no) no)
  (fun _ _ iha ihb s k no=>iha s (fun s=>ihb s k no) no)
  (fun c' x y ihx ihy s k no=>match c' with
    | .tmp n=>match memN n cs with
      | true=>match getT s.t n with
        | .one (.bool p)=>match isSkip x with
          | true=>ihy s (fun s'=>match getT s'.t n with
            | .one (.bool q)=>joinK (dstsOf y) n (p||q) s k
            | _=>no) no
          | false=>match isSkip y with
            | true=>ihx s (fun s'=>match getT s'.t n with
              | .one (.bool q)=>joinK (dstsOf x) n (p&&q) s k
              | _=>no) no
            | false=>no
        | _=>no
      | false=>no
    | _=>no)
  (fun _ _ _ _ _ no=>no) (fun _ _ _ _ no=>no) (fun _ _ _ _ _ _ _ _ no=>no) (fun _ _ _ no=>no) (fun _ _ _ _ no=>no) (fun _ _ _ no=>no) (fun _ _ _ no=>no) (fun _ _ no=>no) (fun _ _ _ no=>no) x
def ghostO:Oper:={ dst:=none,op:= .move (.const (.bool true)),type:=0,pos:= "",after:=#[],guard:=none }
def ghostAt:List Oper→Nat→List Oper
 | [],_=>[]
 | _::r,0=>ghostO::r
 | o::r,n + 1=>o::ghostAt r n
def floatsL (l:List Oper) (n:Nat):List Oper:=l.take 1++l.drop (n + 1)
def floatO (o:Oper):Bool:=match o.guard,o.dst with
 | none,some _=>match o.op with
   | .move _=>true
   | .nilCheck _=>true
   | .fieldAddr _ _ _=>true
   | .load _ _=>true
   | .slice _ _ _ _ _=>true
   | _=>false
 | _,_=>false
def half (ops:Array Oper) (x y:Oper):Bool:=match x.dst with
 | some d=> !(y.looksAt ops).contains d&&y.dst != some d
 | none=>true
def innerB (h:List Oper) (n:Nat):Bool:=Region.noSelect h.toArray&&(decide (0<n)&&(decide (n<h.length)&&((h.all fun o=>o.guard.isNone) &&
 (((List.range h.length).all fun i=>match h[i]? with
   | some o=>o.after.all fun e=> !Region.binds .any e||(decide (e.on<i)&&decide (e.on≠n))
   | none=>false) &&
 (((List.range n).all fun i=>decide (i=0)||(List.range (n + 1)).any fun j=>decide (i<j)&&Region.waitsFor .any h.toArray j i) &&
 ((List.range h.length).all fun i=>((decide (0<i)&&decide (i<n))||decide (i=n))||match h[i]?,h[n]? with
   | some o,some x=>floatO o&&(o.apart h.toArray x&&((match o.dst with
     | some d=> !(o.looksAt h.toArray).contains d
     | none=>true)&&(List.range h.length).all fun j=>(decide (j=i)||decide (j=n))||match h[j]? with
       | some y=>(y.after.any fun e=>Region.binds .any e&&Nat.beq e.on i)||half h.toArray o y
       | none=>false))
   | _,_=>false))))))
def isCallF (o:Oper):Bool:=match o.op with
 | .call c=>match c.callee with
   | .value (.func _)=>true
   | _=>false
 | _=>false
def innerOf (ops:List Oper) (n:Nat):Option Nat:=match nth ops n with
 | some o=>match isApp o with
   | true=>match findApp (ops.drop (n + 1)) (n + 1) with
     | some q=>match Nat.beq q (n + 1) with
       | true=>none
       | false=>some q
     | none=>none
   | false=>match isCallF o with
     | true=>match nth ops (n + 1) with
       | some o2=>match isCallF o2 with
         | true=>some (n + 1)
         | false=>none
       | none=>none
     | false=>none
 | none=>none
def exactL:L→Bool
 | .junk=>false
 | .seg _ _ _=>false
 | _=>true
def exactLs:List L→Bool
 | []=>true
 | l::r=>match exactL l with
   | true=>exactLs r
   | false=>false
def exactA:AV→Bool
 | .one l=>exactL l
 | .agg ls=>exactLs ls
 | .tup _=>false
noncomputable def reK (P:Program) (C:Table) (l:List Oper) (s:S) (q:Prop):Prop:=
 List.rec (motive:=fun _=>Prop) q (fun o _ ih=>match o.dst with
  | some d=>match exactA (getT s.t d) with
    | true=>opK P C [] o s fun _ s2=>Both (Ob (s2=s)) ih
    | false=>Stuck "re"
  | none=>Stuck "re") l
def isClo:Ap→Bool
 | .clo=>true
 | _=>false
noncomputable def E (P:Program) (C:Table) (c:Code):S→(Ex→S→Prop)→Prop:=
 Code.rec (motive:=fun _=>S→(Ex→S→Prop)→Prop)
  (fun s Q=>Q .normal s)
  (fun _ ops draw s Q=>purgeAll C.nm C.mks ops.toList s fun s=>purgeApp C.nm ops.toList s fun s=>match draw with
    | false=>runOps P C ops.toList ops.toList [] s fun _ s=>Q .normal s
    | true=>match headOf C.im ops.toList with
      | none=>runOps P (noInl C) ops.toList ops.toList [] s fun fps s=>match okFrom 0 ops.toList fps with
        | true=>Both (Ob (Region.lexB .any ops=true)) (Q .normal s)
        | false=>Stuck "order"
      | some n=>match innerOf ops.toList n with
       | some q=>Both (Ob (Region.preF ops q=true)) (Both (Ob (innerB (ops.toList.take q) n=true)) (Both (Ob (Region.lexB .any (ghostAt (ops.toList.take q) n).toArray=true))
         (runOps P (noInl C) (ghostAt (ops.toList.take q) n) (ghostAt (ops.toList.take q) n) [] s fun fps s=>match okFrom 0 (ghostAt (ops.toList.take q) n) fps with
           | true=>runOps P C ops.toList ((ops.toList.drop n).take 1) [] s fun _ s=>reK P (noInl C) (floatsL (ops.toList.take q) n) s (runOps P C ops.toList (ops.toList.drop q) [] s fun _ s=>Q .normal s)
           | false=>Stuck "order")))
       | none=>match plainT (ops.toList.take n) with
       | false=>Both (Ob (Region.preF ops n=true)) (runOps P (noInl C) (ops.toList.take n) (ops.toList.take n) [] s fun fps s=>match okFrom 0 (ops.toList.take n) fps with
         | true=>runOps P C ops.toList (ops.toList.drop n) [] s fun _ s=>Q .normal s
         | false=>Stuck "order")
       | true=>match midT (ops.toList.drop (n + 1)) with
        | false=>Both (Ob (Region.tailB ops n=true)) (runOps P (stillT C) ops.toList (ops.toList.take n) [] s fun fps s=>match stillF fps with
          | true=>runOps P C ops.toList (ops.toList.drop n) [] s fun _ s=>Q .normal s
          | false=>Stuck "still")
        | true=>Both (Ob (Region.midB .any ops n=true)) (runOps P (stillT C) ops.toList (ops.toList.take n) [] s fun fps s=>match stillF fps with
          | true=>runOps P C ops.toList ((ops.toList.drop n).take 1) [] s fun _ s=>runOps P (noInl C) ops.toList (ops.toList.drop (n + 1)) [] s fun fps s=>match okFrom (n + 1) (ops.toList.drop (n + 1)) fps with
            | true=>Q .normal s
            | false=>Stuck "order"
          | false=>Stuck "still"))
  (fun _ _ iha ihb s Q=>iha s fun e s=>match e with
    | .normal=>ihb s Q
    | .ret=>Q .ret s
    | .exit n=>Q (.exit n) s)
  (fun c x y iha ihb s Q=>match ev s.t c with
    | .one (.bool p)=>match isClo C.app with
     | true=>Both (Given (p=true) (iha s Q)) (Given (p=false) (ihb s Q))
     | false=>match c with
      | .tmp n=>match isSkip x with
        | true=>pureE P C (n::condsOf y) y s (fun s'=>match getT s'.t n with
          | .one (.bool q)=>joinK (dstsOf y) n (p||q) s fun s=>Q .normal s
          | _=>Both (Given (p=true) (iha s Q)) (Given (p=false) (ihb s Q))) (Both (Given (p=true) (iha s Q)) (Given (p=false) (ihb s Q)))
        | false=>match isSkip y with
          | true=>pureE P C (n::condsOf x) x s (fun s'=>match getT s'.t n with
            | .one (.bool q)=>joinK (dstsOf x) n (p&&q) s fun s=>Q .normal s
            | _=>Both (Given (p=true) (iha s Q)) (Given (p=false) (ihb s Q))) (Both (Given (p=true) (iha s Q)) (Given (p=false) (ihb s Q)))
          | false=>Both (Given (p=true) (iha s Q)) (Given (p=false) (ihb s Q))
      | _=>Both (Given (p=true) (iha s Q)) (Given (p=false) (ihb s Q))
    | _=>Stuck "cond")
  (fun n _ ih s Q=>ih s fun e s=>match e with
    | .normal=>Q .normal s
    | .ret=>Q .ret s
    | .exit m=>match Nat.beq m n with
      | true=>Q .normal s
      | false=>Q (.exit m) s)
  (fun _ ih s Q=>LoopP C.nm ih s Q)
  (fun _ _ _ _ _ _ _ _=>Stuck "code")
  (fun n s Q=>Q (.exit n) s)
  (fun _ _ _ _=>Stuck "code")
  (fun _ _ _=>Stuck "code")
  (fun _ _ _=>Stuck "code")
  (fun s Q=>Q .ret s)
  (fun _ _ _=>Stuck "code") c
def junks:Nat→List AV
 | 0=>[]
 | n + 1=> .one .junk::junks n
def start:Nat→List AV→List AV
 | n,[]=>junks n
 | 0,r=>r
 | n + 1,a::r=>a::start n r
noncomputable def junksR (n:Nat):List AV:=Nat.rec (motive:=fun _=>List AV) [] (fun _ ih=> .one .junk::ih) n
noncomputable def startR (n:Nat) (l:List AV):List AV:=
 List.rec (motive:=fun _=>Nat→List AV) (fun n=>junksR n) (fun a r ih n=>match n with
  | 0=>a::r
  | m + 1=>a::ih m) l n
theorem junksR_eq:∀ n,junksR n=junks n
 | 0=>rfl
 | n + 1=>congrArg (AV.one .junk::·) (junksR_eq n)
theorem startR_eq:∀ (n:Nat) (l:List AV),startR n l=start n l
 | n,[]=>by rw [show startR n []=junksR n from rfl,junksR_eq];cases n<;>rfl
 | 0,_::_=>rfl
 | n + 1,a::r=>congrArg (a::·) (startR_eq n r)
def resLs (P:Program) (s:S):List ResultVar→Option (List (Bool×List L))
 | []=>some []
 | .tmp t::r=>match resLs P s r with
   | some rs=>match getT s.t t with
     | .one l=>some ((false,[l])::rs)
     | .agg ls=>some ((true,ls)::rs)
     | _=>none
   | none=>none
 | .cell a T::r=>match resLs P s r with
   | some rs=>match getT s.t a with
     | .one (.ptr i off)=>match look s.h i with
       | some b=>match P.info? T with
         | some inf=>match isAggT P T with
           | some true=>match b.rdL with
             | some ls=>match takeL (dropL ls off) inf.size with
               | some r=>some ((true,r)::rs)
               | none=>none
             | none=>none
           | some false=>match b.rdL with
             | some ls=>match headL (dropL ls off) with
               | some l=>some ((false,[l])::rs)
               | none=>none
             | none=>none
           | none=>none
         | none=>none
       | none=>none
     | _=>none
   | none=>none
def resV:List (Bool×List L)→AV
 | [(false,[l])]=> .one l
 | [(true,ls)]=> .agg ls
 | r=> .tup r
noncomputable def F (P:Program) (C:Table) (f:Func) (args:List AV) (K:AV→Prop):Prop:=
 match f.body with
 | some c=>match Nat.ble args.length f.ntmps with
   | false=>Stuck "args"
   | true=>E P (setNm C 0 f.ntmps) c ⟨startR f.ntmps args,[]⟩ fun e s=>match e with
     | .exit _=>Stuck "exit"
     | _=>match resLs P s f.results.toList with
       | some r=>forceA (resV r) fun v=>Ob (K v)
       | none=>Stuck "res"
 | none=>Stuck "body"
noncomputable def cutHK {α:Sort _} (b:Nat) (l:List (Nat×Blk)):(List (Nat×Blk)→α)→α:=
 List.rec (motive:=fun _=>(List (Nat×Blk)→α)→α) (fun k=>k [])
  (fun p _ ih k=>match p with
    | (j,c)=>match Nat.blt j b with
      | true=>ih fun r=>k ((j,c)::r)
      | false=>ih k) l
noncomputable def outsK (h:List (Nat×Blk)) (l:List Nat):List (Nat×Blk)→(List (Nat×Blk)→Prop)→Prop:=
 List.rec (motive:=fun _=>List (Nat×Blk)→(List (Nat×Blk)→Prop)→Prop) (fun g k=>k g)
  (fun i _ ih g k=>match look h i with
    | some b=>forceB b fun b=>ih ((i,b)::g) k
    | none=>Stuck "out") l
noncomputable def FI (P:Program) (C:Table) (f:Func) (tp:Nat) (args:List AV) (h:List (Nat×Blk)) (K:AV→List (Nat×Blk)→Prop):Prop:=
 match f.body with
 | some c=>match Nat.ble args.length f.ntmps with
   | false=>Stuck "args"
   | true=>E P (setNm C tp (tp + f.ntmps)) c ⟨startR f.ntmps args,h⟩ fun e s=>match e with
     | .exit _=>Stuck "exit"
     | _=>match resLs P s f.results.toList with
       | some r=>forceA (resV r) fun v=>cutHK tp s.h fun h=>outsK s.h (newNs tp (reachF (look s.h) 200 v.names [])) h fun h'=>match allIn h' v.names,scopeH h' h' with
         | true,true=>K v h'
         | _,_=>Stuck "out"
       | none=>Stuck "res"
 | none=>Stuck "body"
def findF:List (Nat×Func)→Nat→Option Func
 | [],_=>none
 | (j,f)::r,i=>match Nat.beq j i with
   | true=>some f
   | false=>findF r i
def withInl (C:Table) (i:FuncId→Nat→List AV→List (Nat×Blk)→(AV→List (Nat×Blk)→Prop)→Prop):Table:=⟨C.fn,C.glob,C.look,i,C.app,C.nm,C.tp,C.im,C.mkr,C.mks⟩
noncomputable def inlN (P:Program) (C:Table) (fs:List (Nat×Func)) (n:Nat):FuncId→Nat→List AV→List (Nat×Blk)→(AV→List (Nat×Blk)→Prop)→Prop:=
 Nat.rec (motive:=fun _=>FuncId→Nat→List AV→List (Nat×Blk)→(AV→List (Nat×Blk)→Prop)→Prop) (fun _ _ _ _ _=>Stuck "deep")
  (fun _ ih f tp args h K=>match findF fs f with
    | some fn=>FI P (withInl C ih) fn tp args h K
    | none=>Stuck "call") n
def vI {w:Nat} (s:Bool) (x:BitVec w):Int:=match s with
 | true=>x.toInt
 | false=>(x.toNat:Int)
theorem ofInt_vI {w:Nat} (s:Bool) (x:BitVec w):BitVec.ofInt w (vI s x)=x:=by
 cases s
 · show BitVec.ofInt w (x.toNat:Int)=x;rw [BitVec.ofInt_natCast];simp
 · exact BitVec.ofInt_toInt
theorem wrap_vI (K:IntKind) (n:Int):K.wrap n=vI K.signed (BitVec.ofInt K.bits n):=by
 cases K<;>simp only [IntKind.wrap,IntKind.bits,IntKind.signed,vI,BitVec.toInt_ofInt,BitVec.toNat_ofInt,Int.bmod_def]<;>simp<;>omega
theorem vI_inj {w:Nat} {s:Bool} {x y:BitVec w} (h:vI s x=vI s y):x=y:=by
 rw [← ofInt_vI s x,h,ofInt_vI]
theorem n_add (K:IntKind) (x y:BitVec K.bits):K.wrap (vI K.signed x + vI K.signed y)=vI K.signed (x + y):=by
 rw [wrap_vI,BitVec.ofInt_add,ofInt_vI,ofInt_vI]
theorem ofInt_sub' {w:Nat} (a b:Int):BitVec.ofInt w (a - b)=BitVec.ofInt w a - BitVec.ofInt w b:=by
 apply BitVec.eq_of_toInt_eq
 simp [BitVec.toInt_ofInt,BitVec.toInt_sub]
theorem n_sub (K:IntKind) (x y:BitVec K.bits):K.wrap (vI K.signed x - vI K.signed y)=vI K.signed (x - y):=by
 rw [wrap_vI,ofInt_sub',ofInt_vI,ofInt_vI]
theorem n_neg (K:IntKind) (x:BitVec K.bits):K.wrap (0 - vI K.signed x)=vI K.signed (-x):=by
 rw [wrap_vI,ofInt_sub',ofInt_vI];simp
theorem n_mul (K:IntKind) (x y:BitVec K.bits):K.wrap (vI K.signed x*vI K.signed y)=vI K.signed (x*y):=by
 rw [wrap_vI,BitVec.ofInt_mul,ofInt_vI,ofInt_vI]
theorem n_back (K:IntKind) (x:BitVec K.bits):K.wrap ((x.toNat:Nat):Int)=vI K.signed x:=by
 rw [wrap_vI,BitVec.ofInt_natCast];simp
theorem n_eql {w:Nat} (s:Bool) (x y:BitVec w):(vI s x==vI s y)=(x==y):=by
 by_cases h:x=y
 · subst h;simp
 · have:vI s x≠vI s y:=fun e=>h (vI_inj e)
   rw [beq_eq_false_iff_ne.2 h,beq_eq_false_iff_ne.2 this]
theorem n_lt {w:Nat} (s:Bool) (x y:BitVec w):decide (vI s x<vI s y)=ltW s x y:=by
 cases s
 · simp [vI,ltW,BitVec.ult]
 · exact decide_eq_decide.2 Iff.rfl
theorem n_le {w:Nat} (s:Bool) (x y:BitVec w):decide (vI s x≤vI s y)=leW s x y:=by
 cases s
 · simp [vI,leW,BitVec.ule]
 · exact decide_eq_decide.2 Iff.rfl
theorem n_zero {w:Nat} (s:Bool) (y:BitVec w) (h:y≠0#w):vI s y≠0:=by
 intro e
 apply h
 rw [← ofInt_vI s y,e]
 rfl
theorem n_quo (K:IntKind) (x y:BitVec K.bits):K.wrap ((vI K.signed x).tdiv (vI K.signed y))=vI K.signed (quoW K.signed x y):=by
 rw [wrap_vI]
 congr 1
 cases hs:K.signed
 · simp only [vI,quoW]
   rw [← Int.ofNat_tdiv,BitVec.ofInt_natCast]
   apply BitVec.eq_of_toNat_eq
   rw [BitVec.toNat_ofNat,BitVec.toNat_udiv]
   exact Nat.mod_eq_of_lt (Nat.lt_of_le_of_lt (Nat.div_le_self _ _) x.isLt)
 · simp only [vI,quoW]
   apply BitVec.eq_of_toInt_eq
   rw [BitVec.toInt_ofInt,BitVec.toInt_sdiv]
theorem n_rem (K:IntKind) (x y:BitVec K.bits):(vI K.signed x).tmod (vI K.signed y)=vI K.signed (remW K.signed x y):=by
 cases hs:K.signed
 · simp only [vI,remW]
   rw [← Int.ofNat_tmod,BitVec.toNat_umod]
 · simp only [vI,remW]
   rw [BitVec.toInt_srem]
theorem n_shl (K:IntKind) (x:BitVec K.bits) (n:Nat):K.wrap (vI K.signed x*2 ^ (min n K.bits))=vI K.signed (x <<< n):=by
 rw [wrap_vI,BitVec.ofInt_mul,ofInt_vI]
 congr 1
 apply BitVec.eq_of_toNat_eq
 have e:BitVec.ofInt K.bits (2 ^ (min n K.bits))=BitVec.ofNat K.bits (2 ^ (min n K.bits)):=by
  have:((2:Int) ^ (min n K.bits))=((2 ^ (min n K.bits):Nat):Int):=by simp
  rw [this,BitVec.ofInt_natCast]
 rw [e,BitVec.toNat_mul,BitVec.toNat_ofNat,BitVec.toNat_shiftLeft,Nat.shiftLeft_eq,Nat.mul_mod_mod]
 rcases Nat.lt_or_ge n K.bits with h | h
 · rw [Nat.min_eq_left (by omega)]
 · rw [Nat.min_eq_right h]
   have h1:2 ^ n=2 ^ K.bits*2 ^ (n - K.bits):=by rw [← Nat.pow_add];congr 1;omega
   rw [h1,Nat.mul_left_comm,Nat.mul_mod_right,Nat.mul_mod_left]
theorem n_shr (K:IntKind) (x:BitVec K.bits) (n:Nat):(vI K.signed x).fdiv (2 ^ (min n K.bits))=vI K.signed (shrW K.signed x n):=by
 have hp:((2:Int) ^ (min n K.bits))=((2 ^ (min n K.bits):Nat):Int):=by simp
 have h0:(0:Int)≤2 ^ (min n K.bits):=by rw [hp];exact Int.natCast_nonneg _
 rw [Int.fdiv_eq_ediv_of_nonneg _ h0]
 cases hs:K.signed
 · simp only [vI,shrW]
   rw [hp,BitVec.toNat_ushiftRight,Nat.shiftRight_eq_div_pow,← Int.natCast_ediv]
   congr 1
   rcases Nat.lt_or_ge n K.bits with h | h
   · rw [Nat.min_eq_left (by omega)]
   · rw [Nat.min_eq_right h]
     have hx:=x.isLt
     rw [Nat.div_eq_of_lt hx,Nat.div_eq_of_lt (Nat.lt_of_lt_of_le hx (Nat.pow_le_pow_right (by omega) h))]
 · simp only [vI,shrW]
   rw [BitVec.toInt_sshiftRight,Int.shiftRight_eq_div_pow]
   rcases Nat.lt_or_ge n K.bits with h | h
   · rw [Nat.min_eq_left (by omega)];simp
   · rw [Nat.min_eq_right h]
     have h1:=BitVec.toInt_lt (x:=x)
     have h2:=BitVec.le_toInt (x:=x)
     have hb:0<K.bits:=by cases K<;>simp [IntKind.bits]
     have hq:(2:Int) ^ (K.bits - 1)≤2 ^ K.bits:=by
      have:=Nat.pow_le_pow_right (n:=2) (by omega) (show K.bits - 1≤K.bits by omega)
      exact_mod_cast this
     have hq2:(2:Int) ^ K.bits≤2 ^ n:=by
      have:=Nat.pow_le_pow_right (n:=2) (by omega) h
      exact_mod_cast this
     rcases Int.lt_or_le x.toInt 0 with hneg | hpos
     · have e1:x.toInt / (2 ^ K.bits:Int)= -1:=by
        apply Int.ediv_eq_neg_one_of_neg_of_le hneg
        omega
       have e2:x.toInt / ((2 ^ n:Nat):Int)= -1:=by
        apply Int.ediv_eq_neg_one_of_neg_of_le hneg
        simp;omega
       rw [e1,e2]
     · rw [Int.ediv_eq_zero_of_lt hpos (by omega),Int.ediv_eq_zero_of_lt hpos (by simp;omega)]
theorem n_conv (K:IntKind) {w:Nat} (s:Bool) (x:BitVec w):K.wrap (vI s x)=vI K.signed (convW s x:BitVec K.bits):=by
 rw [wrap_vI]
 congr 1
 cases s
 · simp only [vI,convW]
   apply BitVec.eq_of_toNat_eq
   simp
 · simp only [vI,convW]
   rfl
theorem n_toNat {w:Nat} (y:BitVec w) (h:0≤y.toInt):y.toInt.toNat=y.toNat:=by
 have:=BitVec.toInt_eq_toNat_cond y
 have h1:=y.isLt
 split at this
 · rw [this];simp
 · exfalso;rw [this] at h
   have:(y.toNat:Int)<((2 ^ w:Nat):Int):=by exact_mod_cast h1
   omega
theorem n_not (K:IntKind) (x:BitVec K.bits):K.wrap (((BitVec.ofInt K.bits (if K.signed then -1 else K.max)) ^^^ (BitVec.ofInt K.bits (vI K.signed x))).toNat:Nat)=vI K.signed (~~~x):=by
 rw [ofInt_vI,n_back]
 congr 1
 have:BitVec.ofInt K.bits (if K.signed then -1 else K.max)=BitVec.allOnes K.bits:=by
  cases K<;>rfl
 rw [this];simp
structure Loc where
 b:Nat
 o:Nat
 c:Nat
def k64:Bool→IntKind
 | true=> .i64
 | false=> .u64
def k32:Bool→IntKind
 | true=> .i32
 | false=> .u32
def k16:Bool→IntKind
 | true=> .i16
 | false=> .u16
def k8:Bool→IntKind
 | true=> .i8
 | false=> .u8
def capVals (ρ:Nat→Loc):List (Nat×Nat)→List Value
 | []=>[]
 | (i,o)::r=> .pointer (some ⟨(ρ i).b,(ρ i).o + o,none⟩)::capVals ρ r
def gP:PL→Value
 | .b64 s x=> .int (k64 s) (vI s x)
 | .b32 s x=> .int (k32 s) (vI s x)
 | .b16 s x=> .int (k16 s) (vI s x)
 | .b8 s x=> .int (k8 s) (vI s x)
 | .bool b=> .bool b
 | .str s=> .string s
def gL (ρ:Nat→Loc):L→Value
 | .b64 s x=> .int (k64 s) (vI s x)
 | .b32 s x=> .int (k32 s) (vI s x)
 | .b16 s x=> .int (k16 s) (vI s x)
 | .b8 s x=> .int (k8 s) (vI s x)
 | .bool b=> .bool b
 | .str s=> .string s
 | .ptr i off=> .pointer (some ⟨(ρ i).b,(ρ i).o + off,none⟩)
 | .eptr i off _ k=> .pointer (some ⟨(ρ i).b,(ρ i).o + (off + k),none⟩)
 | .slc i off len cap=> .slice (some ⟨(ρ i).b,(ρ i).o + off,none⟩) len cap
 | .gmap _ b=> .map (some b)
 | .clo f caps=> .func (.func f) #[] (capVals ρ caps).toArray
 | .raw v=>v
 | .rptr i o z k p=> .pointer (some ⟨(ρ i).b,(ρ i).o + (o + (z*k + p)),none⟩)
 | .rsl i n=> .slice (some ⟨(ρ i).b,(ρ i).o,none⟩) n (ρ i).c
 | .rsc i z k s n=> .slice (some ⟨(ρ i).b,(ρ i).o + (if (ρ i).c=k then z*(k - s) else z*k),none⟩) n ((ρ i).c - k)
 | .imap i=> .map (some (ρ i).b)
 | .seg _ _ _=>undef
 | .junk=>undef
def isSeg:L→Bool
 | .seg _ _ _=>true
 | _=>false
theorem gP_toL (ρ:Nat→Loc) (p:PL):gL ρ p.toL=gP p:=by cases p<;>rfl
theorem toL_seg (p:PL):isSeg p.toL=false:=by cases p<;>rfl
theorem toL_names (p:PL):p.toL.names=[]:=by cases p<;>rfl
theorem toL_junk (p:PL):p.toL≠ .junk:=by cases p<;>simp [PL.toL]
theorem pl_toL {l:L} {p:PL} (h:l.pl=some p):l=p.toL:=by
 cases l<;>simp [L.pl] at h<;>subst h<;>rfl
def RelL (ρ:Nat→Loc) (l:L) (v:Value):Prop:=l≠ .junk→v=gL ρ l
def SegV (z n:Nat) (f:Nat→List PL) (us:List Value):Prop:=us.length=z*n∧∀ k,k<n→(f k).length=z∧∀ j,j<z→us[z*k + j]? =((f k)[j]?).map gP
def RelI (ρ:Nat→Loc) (l:L) (us:List Value):Prop:=match l with
 | .seg z n f=>SegV z n f us
 | l=>∃ v,us=[v]∧RelL ρ l v
def RelLs (ρ:Nat→Loc):List L→List Value→Prop
 | [],vs=>vs=[]
 | l::ls,vs=>∃ us ws,vs=us++ws∧RelI ρ l us∧RelLs ρ ls ws
def RelVs (ρ:Nat→Loc):List (Bool×List L)→List Value→Prop
 | [],[]=>True
 | (true,ls)::r,v::vs=>(∃ cs:Array Value,v= .agg cs∧RelLs ρ ls cs.toList)∧RelVs ρ r vs
 | (false,[l])::r,v::vs=>RelL ρ l v∧RelVs ρ r vs
 | _,_=>False
def RelA (ρ:Nat→Loc):AV→Value→Prop
 | .one l,v=>RelL ρ l v
 | .agg ls,v=>∃ cs:Array Value,v= .agg cs∧RelLs ρ ls cs.toList
 | .tup vs,v=>∃ cs:Array Value,v= .tuple cs∧RelVs ρ vs cs.toList
def RelAs (ρ:Nat→Loc):List AV→List Value→Prop
 | [],[]=>True
 | x::xs,v::vs=>RelA ρ x v∧RelAs ρ xs vs
 | _,_=>False
def entsOf (es:List (BitVec 64×BitVec 64)):List (Value×Value):=es.map fun p=>(.int .i64 p.1.toInt,.int .i64 p.2.toInt)
def RelB (ρ:Nat→Loc) (q:Loc):Blk→Option Obj→Prop
 | .cells T ls,o=>∃ cs:Array Value,o=some (.cells cs T (0,0))∧q.o=0∧RelLs ρ ls cs.toList
 | .ro T ls,o=>∃ (cs:Array Value) (fr:Nat×Nat),o=some (.cells cs T fr)∧∃ us ws,cs.toList.drop q.o=us++ws∧RelLs ρ ls us
 | .row T z n f,o=>∃ cs:Array Value,o=some (.cells cs T (0,0))∧q.o=0∧cs.size=z*q.c∧n≤q.c∧q.c≤maxLen∧SegV z n f (cs.toList.take (z*n))
 | .imap es,o=>∃ (ents:Array MapEntry) (clock:Nat),o=some (.map ents clock)∧ents.toList.map (fun e=>(e.key,e.val))=entsOf es
 | .romap es,o=>∃ (ents:Array MapEntry) (clock:Nat),o=some (.map ents clock)∧ents.toList.map (fun e=>(e.key,e.val))=entsOf es
 | .vec T ls,o=>∃ cs:Array Value,o=some (.cells cs T (0,0))∧q.o=0∧cs.size=q.c∧ls.length≤q.c∧q.c≤maxLen∧RelLs ρ ls (cs.toList.take ls.length)
theorem relI_one {ρ:Nat→Loc} {l:L} {us:List Value} (h:isSeg l=false):RelI ρ l us ↔ ∃ v,us=[v]∧RelL ρ l v:=by
 cases l<;>first | exact Iff.rfl | simp [isSeg] at h
theorem relLs_cons {ρ:Nat→Loc} {l:L} {ls:List L} {vs:List Value} (h:isSeg l=false):RelLs ρ (l::ls) vs ↔ ∃ v ws,vs=v::ws∧RelL ρ l v∧RelLs ρ ls ws:=by
 constructor
 · rintro ⟨us,ws,rfl,h1,h2⟩
   obtain ⟨v,rfl,h3⟩:=(relI_one h).1 h1
   exact ⟨v,ws,rfl,h3,h2⟩
 · rintro ⟨v,ws,rfl,h1,h2⟩
   exact ⟨[v],ws,rfl,(relI_one h).2 ⟨v,rfl,h1⟩,h2⟩
theorem relI_len {ρ:Nat→Loc} {l:L} {us:List Value} (h:RelI ρ l us):wid l=us.length:=by
 cases hs:isSeg l with
 | true=>cases l<;>simp [isSeg] at hs;exact h.1.symm
 | false=>
   obtain ⟨v,rfl,_⟩:=(relI_one hs).1 h
   cases l<;>first | rfl | simp [isSeg] at hs
theorem relLs_len {ρ:Nat→Loc}:∀ {ls:List L} {vs:List Value},RelLs ρ ls vs→wids ls=vs.length
 | [],_,h=>by cases h;rfl
 | l::ls,_,⟨us,ws,e,h1,h2⟩=>by subst e;simp [wids,relI_len h1,relLs_len h2];omega
theorem relLs_app {ρ:Nat→Loc}:∀ {xs ys:List L} {us vs:List Value},RelLs ρ xs us→RelLs ρ ys vs→RelLs ρ (appL xs ys) (us++vs)
 | [],_,_,_,h,h'=>by cases h;exact h'
 | x::xs,ys,_,vs,⟨us,ws,e,h1,h2⟩,h'=>⟨us,ws++vs,by rw [e,List.append_assoc],h1,relLs_app h2 h'⟩
theorem relL_toL {ρ:Nat→Loc} (p:PL):RelL ρ p.toL (gP p):=fun _=>(gP_toL ρ p).symm
theorem relLs_toLs {ρ:Nat→Loc}:∀ ps:List PL,RelLs ρ (toLs ps) (ps.map gP)
 | []=>rfl
 | p::ps=>(relLs_cons (toL_seg p)).2 ⟨gP p,ps.map gP,rfl,relL_toL p,relLs_toLs ps⟩
theorem toPLs_eq:∀ {ls:List L} {ps:List PL},toPLs ls=some ps→ls=toLs ps
 | [],ps,h=>by simp [toPLs] at h;subst h;rfl
 | l::ls,ps,h=>by
   simp only [toPLs] at h
   split at h
   · rename_i p hp
     split at h
     · rename_i r hr
       obtain rfl:=Option.some.inj h
       rw [pl_toL hp,toPLs_eq hr];rfl
     · cases h
   · cases h
theorem relLs_back {ρ:Nat→Loc}:∀ {ps:List PL} {vs:List Value},RelLs ρ (toLs ps) vs→vs=ps.map gP
 | [],_,h=>h
 | p::ps,vs,h=>by
   obtain ⟨v,ws,rfl,h1,h2⟩:=(relLs_cons (toL_seg p)).1 h
   rw [relLs_back h2,h1 (toL_junk p),gP_toL];rfl
theorem toPLs_rel {ρ:Nat→Loc} {ls:List L} {ps:List PL} {vs:List Value} (h:toPLs ls=some ps) (hr:RelLs ρ ls vs):vs=ps.map gP:=by
 rw [toPLs_eq h] at hr;exact relLs_back hr
theorem toLs_names:∀ ps:List PL,lnames (toLs ps)=[]
 | []=>rfl
 | p::ps=>by simp [toLs,lnames,toL_names,toLs_names ps]
theorem bndK_lt {k n:Nat} (h:k<n):bndK k (n - 1)=k:=by
 unfold bndK
 rw [Nat.ble_eq_true_of_le (by omega)]
theorem dropP_eq:∀ (ps:List PL) (n:Nat),dropP ps n=ps.drop n
 | ps,0=>by cases ps<;>rfl
 | [],n + 1=>by simp [dropP]
 | _::ps,n + 1=>by simp [dropP,dropP_eq ps n]
theorem takeP_eq:∀ (ps:List PL) (n:Nat) (r:List PL),takeP ps n=some r→r=ps.take n∧n≤ps.length
 | ps,0,r,h=>by cases ps<;>simp [takeP] at h<;>simp [h]
 | [],n + 1,r,h=>by simp [takeP] at h
 | p::ps,n + 1,r,h=>by
   simp only [takeP] at h
   split at h
   · rename_i r' hr
     obtain rfl:=Option.some.inj h
     obtain ⟨h1,h2⟩:=takeP_eq ps n r' hr
     subst h1
     exact ⟨rfl,by simpa using h2⟩
   · cases h
theorem appL_eq:∀ xs ys:List L,appL xs ys=xs++ys
 | [],_=>rfl
 | x::xs,ys=>by simp [appL,appL_eq xs ys]
theorem SegV.elem {z n:Nat} {f:Nat→List PL} {us:List Value} (h:SegV z n f us) {k:Nat} (hk:k<n):(us.drop (z*k)).take z=(f k).map gP:=by
 obtain ⟨hl,he⟩:=h.2 k hk
 apply List.ext_getElem?
 intro j
 rw [List.getElem?_take,List.getElem?_map]
 split
 · rename_i hj
   rw [List.getElem?_drop,he j hj]
 · rename_i hj
   rw [List.getElem?_eq_none (by omega)];rfl
theorem mul_lt_of {z k m:Nat} (h:k<m):z*k + z≤z*m:=by
 calc z*k + z=z*(k + 1):=by rw [Nat.mul_add,Nat.mul_one]
  _≤z*m:=Nat.mul_le_mul_left z h
theorem SegV.tail {z m:Nat} {f:Nat→List PL} {us:List Value} (h:SegV z m f us) {k:Nat} (hk:k≤m):SegV z (m - k) (fun j=>f (j + k)) (us.drop (z*k)):=by
 refine ⟨by rw [List.length_drop,h.1,Nat.mul_sub],fun j hj=> ?_⟩
 obtain ⟨h1,h2⟩:=h.2 (j + k) (by omega)
 refine ⟨h1,fun i hi=> ?_⟩
 rw [List.getElem?_drop,← h2 i hi]
 congr 1
 rw [Nat.mul_add];omega
theorem SegV.take {z n m:Nat} {f:Nat→List PL} {us:List Value} (h:SegV z n f us) (hm:m≤n):SegV z m f (us.take (z*m)):=by
 have hle:z*m≤z*n:=Nat.mul_le_mul_left z hm
 refine ⟨by rw [List.length_take,h.1];omega,fun k hk=> ?_⟩
 obtain ⟨h1,h2⟩:=h.2 k (by omega)
 have hb:=mul_lt_of (z:=z) hk
 exact ⟨h1,fun j hj=>by rw [List.getElem?_take,if_pos (by omega)];exact h2 j hj⟩
theorem SegV.cut {z m:Nat} {f:Nat→List PL} {us:List Value} (h:SegV z m f us) {k o:Nat} (hk:k<m) (ho:o≤z) :
 us.drop (z*k + o)=((f k).drop o).map gP++us.drop (z*(k + 1)):=by
 have h1:=h.elem hk
 have hl:((f k).map gP).length=z:=by simp [(h.2 k hk).1]
 have h2:us.drop (z*k)=(f k).map gP++us.drop (z*(k + 1)):=by
  rw [← h1,Nat.mul_add,Nat.mul_one,← List.drop_drop]
  exact (List.take_append_drop z _).symm
 rw [← List.drop_drop,h2,List.drop_append_of_le_length (by omega),List.map_drop]
theorem relLs_tailS {ρ:Nat→Loc} {z m:Nat} {f:Nat→List PL} {us ws:List Value} {ls:List L} (h:SegV z m f us) (hw:RelLs ρ ls ws) {k:Nat} (hk:k≤m) :
 RelLs ρ (tailS z m f k ls) (us.drop (z*k)++ws):=by
 unfold tailS
 split
 · rename_i e
   have e':k=m:=by simpa using e
   subst e'
   rw [List.drop_of_length_le (by rw [h.1];exact Nat.le_refl _)]
   exact hw
 · exact ⟨_,_,rfl,h.tail hk,hw⟩
theorem dropL_cons {l:L} {ls:List L} {n:Nat} (h:isSeg l=false):dropL (l::ls) (n + 1)=dropL ls n:=by
 cases l<;>first | rfl | simp [isSeg] at h
theorem takeL_cons {l:L} {ls:List L} {n:Nat} (h:isSeg l=false):takeL (l::ls) (n + 1)=(match takeL ls n with | some r=>some (l::r) | none=>none):=by
 cases l<;>first | rfl | simp [isSeg] at h
theorem relLs_drop {ρ:Nat→Loc}:∀ {ls:List L} {vs:List Value} (n:Nat),RelLs ρ ls vs→RelLs ρ (dropL ls n) (vs.drop n)
 | ls,vs,0,h=>by cases ls<;>simpa [dropL] using h
 | [],_,n + 1,h=>by cases h;simp [dropL,RelLs]
 | l::ls,vs,n + 1,h=>by
   cases hs:isSeg l with
   | false=>
     obtain ⟨v,ws,rfl,_,h2⟩:=(relLs_cons hs).1 h
     rw [dropL_cons hs]
     simpa using relLs_drop n h2
   | true=>
     cases l<;>simp [isSeg] at hs
     rename_i z m f
     obtain ⟨us,ws,rfl,h1,h2⟩:=h
     have h1:SegV z m f us:=h1
     have hl:=h1.1
     simp only [dropL]
     split
     · rename_i hle
       have hle':z*m≤n + 1:=by simpa using hle
       rw [List.drop_append,List.drop_of_length_le (by omega),List.nil_append,hl]
       exact relLs_drop _ h2
     · rename_i hle
       have hlt:n + 1<z*m:=by
        have:¬ z*m≤n + 1:=fun e=>by rw [Nat.ble_eq_true_of_le e] at hle;cases hle
        omega
       have hz:0<z:=Nat.pos_of_ne_zero fun e=>by subst e;simp at hlt
       have hk:(n + 1) / z<m:=Nat.div_lt_of_lt_mul hlt
       have ho:(n + 1) % z<z:=Nat.mod_lt _ hz
       have hn:z*((n + 1) / z) + (n + 1) % z=n + 1:=Nat.div_add_mod _ _
       rw [List.drop_append_of_le_length (by omega)]
       have hc:=h1.cut hk (Nat.le_of_lt ho)
       rw [hn] at hc
       rw [hc,List.append_assoc,dropP_eq]
       exact relLs_app (relLs_toLs _) (relLs_tailS h1 h2 hk)
theorem relLs_take {ρ:Nat→Loc}:∀ {ls:List L} {vs:List Value} (n:Nat) {r:List L},takeL ls n=some r→RelLs ρ ls vs→RelLs ρ r (vs.take n)∧n≤vs.length
 | ls,vs,0,r,h,_=>by
   have:r=[]:=by cases ls<;>simp [takeL] at h<;>exact h
   subst this;simp [RelLs]
 | [],_,n + 1,r,h,_=>by simp [takeL] at h
 | l::ls,vs,n + 1,r,h,h'=>by
   cases hs:isSeg l with
   | false=>
     obtain ⟨v,ws,rfl,h1,h2⟩:=(relLs_cons hs).1 h'
     rw [takeL_cons hs] at h
     split at h
     · rename_i r' hr
       obtain rfl:l::r'=r:=by simpa using h
       have ⟨h3,h4⟩:=relLs_take n hr h2
       exact ⟨(relLs_cons hs).2 ⟨v,_,by simp,h1,h3⟩,by simpa using h4⟩
     · cases h
   | true=>
     cases l<;>simp [isSeg] at hs
     rename_i z m f
     obtain ⟨us,ws,rfl,h1,h2⟩:=h'
     have h1:SegV z m f us:=h1
     have hl:=h1.1
     simp only [takeL] at h
     split at h
     · rename_i hle
       have hle':z*m≤n + 1:=by simpa using hle
       split at h
       · rename_i r' hr
         obtain rfl:=Option.some.inj h
         have ⟨h3,h4⟩:=relLs_take _ hr h2
         refine ⟨⟨us,ws.take (n + 1 - z*m),?_,h1,h3⟩,?_⟩
         · rw [List.take_append,List.take_of_length_le (by omega),hl]
         · simp;omega
       · cases h
     · rename_i hle
       have hlt:n + 1<z*m:=by
        have:¬ z*m≤n + 1:=fun e=>by rw [Nat.ble_eq_true_of_le e] at hle;cases hle
        omega
       split at h
       · rename_i hz
         have hz':n + 1≤z:=by simpa using hz
         split at h
         · rename_i r' hr
           obtain rfl:=Option.some.inj h
           obtain ⟨rfl,hlen⟩:=takeP_eq _ _ _ hr
           have hm:0<m:=Nat.pos_of_ne_zero fun e=>by subst e;simp at hlt
           have he:=h1.elem hm
           rw [Nat.mul_zero,List.drop_zero] at he
           refine ⟨?_,by simp;omega⟩
           rw [List.take_append_of_le_length (by omega)]
           have:us.take (n + 1)=((f 0).take (n + 1)).map gP:=by
            rw [List.map_take,← he,List.take_take,Nat.min_eq_left hz']
           rw [this]
           exact relLs_toLs _
         · cases h
       · cases h
theorem relLs_head {ρ:Nat→Loc} {ls:List L} {vs:List Value} {l:L} (h:RelLs ρ ls vs) (e:headL ls=some l):∃ v,vs.head? =some v∧RelL ρ l v∧isSeg l=false:=by
 cases ls with
 | nil=>simp [headL] at e
 | cons x xs=>
   cases hs:isSeg x with
   | false=>
     obtain ⟨v,ws,rfl,h1,-⟩:=(relLs_cons hs).1 h
     have:x=l:=by cases x<;>first | simpa [headL] using e | simp [isSeg] at hs
     subst this
     exact ⟨v,rfl,h1,hs⟩
   | true=>
     cases x<;>simp [isSeg] at hs
     rename_i z m f
     obtain ⟨us,ws,rfl,h1,h2⟩:=h
     have h1:SegV z m f us:=h1
     simp only [headL] at e
     split at e
     · cases e
     · rename_i m'
       split at e
       · rename_i p r hp
         obtain rfl:=Option.some.inj e
         have he:=h1.elem (k:=0) (by omega)
         rw [hp,Nat.mul_zero,List.drop_zero] at he
         refine ⟨gP p,?_,relL_toL p,toL_seg p⟩
         cases us with
         | nil=>simp at he
         | cons u us=>
           cases z with
           | zero=>simp at he
           | succ z=>simp at he;simp [he.1]
       · cases e
theorem pickP_eq (c:Prop) [Decidable c] (v x:PL):pickP c v x=if c then v else x:=by
 cases v with
 | b64 s v=>cases x with
   | b64 s' x=>cases s<;>cases s'<;>simp only [pickP]<;>split<;>rfl
   | _=>rfl
 | b32 s v=>cases x with
   | b32 s' x=>cases s<;>cases s'<;>simp only [pickP]<;>split<;>rfl
   | _=>rfl
 | b16 s v=>cases x with
   | b16 s' x=>cases s<;>cases s'<;>simp only [pickP]<;>split<;>rfl
   | _=>rfl
 | b8 s v=>cases x with
   | b8 s' x=>cases s<;>cases s'<;>simp only [pickP]<;>split<;>rfl
   | _=>rfl
 | bool v=>cases x with
   | bool x=>simp only [pickP];split<;>rfl
   | _=>rfl
 | str v=>cases x with
   | str x=>simp only [pickP];split<;>rfl
   | _=>rfl
theorem mergeP_len (c:Prop) [Decidable c]:∀ (p:Nat) (vs xs:List PL),(mergeP c p vs xs).length=xs.length
 | _,_,[]=>by simp [mergeP]
 | 0,[],x::xs=>by simp [mergeP]
 | 0,v::vs,x::xs=>by simp [mergeP,mergeP_len c 0 vs xs]
 | p + 1,vs,x::xs=>by simp [mergeP,mergeP_len c p vs xs]
theorem mergeP_get (c:Prop) [Decidable c]:∀ (p:Nat) (vs xs:List PL) (j:Nat),p + vs.length≤xs.length→(mergeP c p vs xs)[j]? =if c∧p≤j∧j<p + vs.length then vs[j - p]? else xs[j]?
 | p,vs,[],j,h=>by
   obtain rfl:vs=[]:=List.eq_nil_of_length_eq_zero (by simp only [List.length_nil] at h;omega)
   simp [mergeP]
 | 0,[],x::xs,j,_=>by simp [mergeP]
 | 0,v::vs,x::xs,0,_=>by
   simp only [mergeP,List.getElem?_cons_zero,pickP_eq]
   by_cases hc:c<;>simp [hc]
 | 0,v::vs,x::xs,j + 1,h=>by
   simp only [mergeP,List.getElem?_cons_succ]
   rw [mergeP_get c 0 vs xs j (by simpa using h)]
   by_cases hc:c<;>simp [hc]
 | p + 1,vs,x::xs,0,_=>by simp [mergeP]
 | p + 1,vs,x::xs,j + 1,h=>by
   simp only [mergeP,List.getElem?_cons_succ]
   rw [mergeP_get c p vs xs j (by simp at h;omega)]
   by_cases hc:c∧p≤j∧j<p + vs.length
   · rw [if_pos hc,if_pos ⟨hc.1,by omega,by omega⟩];congr 1;omega
   · rw [if_neg hc,if_neg fun e=>hc ⟨e.1,by omega,by omega⟩]
theorem SegV.upd {z m:Nat} {f:Nat→List PL} {us:List Value} (h:SegV z m f us) {k o:Nat} {ps:List PL} (hk:k<m) (ho:o + ps.length≤z) :
 SegV z m (updF f k o ps) (us.take (z*k + o)++ps.map gP++us.drop (z*k + o + ps.length)):=by
 have hb:=mul_lt_of (z:=z) hk
 have hl:=h.1
 have hlen:(us.take (z*k + o)++ps.map gP++us.drop (z*k + o + ps.length)).length=z*m:=by
  simp only [List.length_append,List.length_take,List.length_map,List.length_drop];omega
 refine ⟨hlen,fun j hj=> ?_⟩
 obtain ⟨h1,h2⟩:=h.2 j hj
 refine ⟨by rw [updF,mergeP_len];exact h1,fun i hi=> ?_⟩
 have hbj:=mul_lt_of (z:=z) hj
 rw [updF,List.append_assoc]
 by_cases hjk:j=k
 · subst hjk
   rw [mergeP_get _ _ _ _ _ (by omega)]
   by_cases hin:o≤i∧i<o + ps.length
   · rw [if_pos ⟨rfl,hin.1,hin.2⟩,List.getElem?_append_right (by simp;omega),List.getElem?_append_left (by simp;omega),List.getElem?_map]
     congr 2
     simp;omega
   · rw [if_neg fun e=>hin e.2]
     by_cases hlo:i<o
     · rw [List.getElem?_append_left (by simp;omega),List.getElem?_take,if_pos (by omega),h2 i hi]
     · rw [List.getElem?_append_right (by simp;omega),List.getElem?_append_right (by simp;omega),List.getElem?_drop,← h2 i hi]
       congr 1
       simp;omega
 · have hm:mergeP (j=k) o ps (f j)=f j:=by
    apply List.ext_getElem?
    intro i'
    rw [mergeP_get _ _ _ _ _ (by omega),if_neg fun e=>hjk e.1]
   rw [hm,← h2 i hi]
   rcases Nat.lt_or_gt_of_ne hjk with hlt | hgt
   · have:=mul_lt_of (z:=z) hlt
     rw [List.getElem?_append_left (by simp;omega),List.getElem?_take,if_pos (by omega)]
   · have:=mul_lt_of (z:=z) hgt
     rw [List.getElem?_append_right (by simp;omega),List.getElem?_append_right (by simp;omega),List.getElem?_drop]
     congr 1
     simp;omega
theorem whole_set {ρ:Nat→Loc} {ls vs:List L} {cs us:List Value} (h:RelLs ρ ls cs) (h':RelLs ρ vs us):RelLs ρ (appL vs (dropL ls (wids vs))) (cs.take 0++us++cs.drop (0 + us.length)):=by
 rw [relLs_len h',Nat.zero_add]
 simpa using relLs_app h' (relLs_drop us.length h)
theorem relLs_setLs {ρ:Nat→Loc}:∀ {ls vs r:List L} {cs us:List Value} (n:Nat),setLs ls n vs=some r→RelLs ρ ls cs→RelLs ρ vs us →
 RelLs ρ r (cs.take n++us++cs.drop (n + us.length))∧n + us.length≤cs.length
 | [],vs,r,cs,us,n,e,h,h'=>by
   cases h
   simp only [setLs] at e
   split at e
   · split at e
     · obtain rfl:=Option.some.inj e
       cases h'
       simp [RelLs]
     · cases e
   · cases e
 | l::ls,vs,r,cs,us,n,e,h,h'=>by
   have whole:∀ {X:List L},X=l::ls→n=0→(match Nat.ble (wids vs) (wids X) with
    | true=>some (appL vs (dropL X (wids vs)))
    | false=>none)=some r→RelLs ρ r (cs.take n++us++cs.drop (n + us.length))∧n + us.length≤cs.length:=by
    rintro X rfl rfl e
    split at e
    · rename_i hle
      obtain rfl:=Option.some.inj e
      have hle':wids vs≤wids (l::ls):=by simpa using hle
      rw [relLs_len h',relLs_len h] at hle'
      exact ⟨whole_set h h',by omega⟩
    · cases e
   cases hs:isSeg l with
   | false=>
     have e:(match (generalizing:=false) n with
      | 0=>match Nat.ble (wids vs) (wids (l::ls)) with
        | true=>some (appL vs (dropL (l::ls) (wids vs)))
        | false=>none
      | n + 1=>match setLs ls n vs with
        | some r=>some (l::r)
        | none=>none)=some r:=by
      cases l<;>first | exact e | simp [isSeg] at hs
     cases n with
     | zero=>exact whole rfl rfl e
     | succ n=>
       dsimp only at e
       split at e
       · rename_i r' hr
         obtain rfl:=Option.some.inj e
         obtain ⟨v,ws,rfl,h1,h2⟩:=(relLs_cons hs).1 h
         obtain ⟨h3,h4⟩:=relLs_setLs n hr h2 h'
         refine ⟨(relLs_cons hs).2 ⟨v,_,?_,h1,h3⟩,by simp;omega⟩
         rw [show n + 1 + us.length=(n + us.length) + 1 by omega]
         simp
       · cases e
   | true=>
     cases l<;>simp [isSeg] at hs
     rename_i z m f
     obtain ⟨qs,ws,rfl,h1,h2⟩:=h
     have h1:SegV z m f qs:=h1
     have hl:=h1.1
     simp only [setLs] at e
     split at e
     · rename_i hle
       have hle':z*m≤n:=by simpa using hle
       split at e
       · rename_i r' hr
         obtain rfl:=Option.some.inj e
         obtain ⟨h3,h4⟩:=relLs_setLs _ hr h2 h'
         refine ⟨⟨qs,_,?_,h1,h3⟩,by simp;omega⟩
         rw [List.take_append,List.take_of_length_le (by omega),List.drop_append,List.drop_of_length_le (by omega),hl]
         rw [show n - z*m + us.length=n + us.length - z*m by omega]
         simp
       · cases e
     · rename_i hle
       have hlt:n<z*m:=by
        have:¬ z*m≤n:=fun e=>by rw [Nat.ble_eq_true_of_le e] at hle;cases hle
        omega
       split at e
       · rename_i ps hps
         split at e
         · rename_i hfit
           have hfit':n % z + ps.length≤z:=by simpa using hfit
           obtain rfl:=Option.some.inj e
           have hz:0<z:=Nat.pos_of_ne_zero fun e=>by subst e;simp at hlt
           have hk:n / z<m:=Nat.div_lt_of_lt_mul hlt
           have hn:z*(n / z) + n % z=n:=Nat.div_add_mod _ _
           have hu:=toPLs_rel hps h'
           have hul:us.length=ps.length:=by rw [hu];simp
           have hseg:=h1.upd hk hfit'
           rw [hn,← hu] at hseg
           have hb:=mul_lt_of (z:=z) hk
           refine ⟨⟨_,ws,?_,hseg,h2⟩,by simp;omega⟩
           rw [List.take_append_of_le_length (by omega),List.drop_append_of_le_length (by omega),hul]
           simp
         · split at e
           · exact whole rfl rfl e
           · cases e
       · split at e
         · exact whole rfl rfl e
         · cases e
theorem relLs_rdR {ρ:Nat→Loc} {ls:List L} {vs:List Value} {o z k p s:Nat} {c:Cond} {r:List L} (h:RelLs ρ ls vs) (e:rdR ls o z k p s=some (c,r)) (hc:c.holds) :
 RelLs ρ r ((vs.drop (o + (z*k + p))).take s)∧s≤(vs.drop (o + (z*k + p))).length:=by
 have hd:=relLs_drop o h
 unfold rdR at e
 cases hx:dropL ls o with
 | nil=>rw [hx] at e;cases e
 | cons l r0=>
   rw [hx] at e hd
   rw [← List.drop_drop]
   cases hs:isSeg l with
   | false=>
     have e:(match (generalizing:=false) takeL (dropL (l::r0) (z*k + p)) s with
      | some r=>some (Cond.t,r)
      | none=>none)=some (c,r):=by cases l<;>first | exact e | simp [isSeg] at hs
     split at e
     · rename_i r' hr
       simp only [Option.some.injEq,Prod.mk.injEq] at e
       obtain ⟨-,rfl⟩:=e
       exact relLs_take s hr (relLs_drop _ hd)
     · cases e
   | true=>
     cases l<;>simp [isSeg] at hs
     rename_i z' n f
     dsimp only at e
     split at e
     · rename_i hz
       have hz':z=z':=by simpa using hz
       subst hz'
       split at e
       · rename_i ps hps
         simp only [Option.some.injEq,Prod.mk.injEq] at e
         obtain ⟨rfl,rfl⟩:=e
         have hk:k<n:=hc
         obtain ⟨us,ws,h0,h1,h2⟩:=hd
         have h1:SegV z n f us:=h1
         obtain ⟨rfl,hlen⟩:=takeP_eq _ _ _ hps
         rw [dropP_eq] at hlen ⊢
         have hfl:=(h1.2 k hk).1
         simp only [List.length_drop] at hlen
         have hb:=mul_lt_of (z:=z) hk
         have hul:=h1.1
         by_cases hp:p≤z
         · have hcut:=h1.cut hk hp
           rw [h0,List.drop_append_of_le_length (by omega),hcut]
           refine ⟨?_,by simp;omega⟩
           have:(((f k).drop p).map gP++us.drop (z*(k + 1))++ws).take s=(((f k).drop p).take s).map gP:=by
            rw [List.append_assoc,List.take_append_of_le_length (by simp;omega),List.map_take]
           rw [this]
           exact relLs_toLs _
         · obtain rfl:s=0:=by omega
           refine ⟨?_,Nat.zero_le _⟩
           simp [toLs,RelLs]
       · cases e
     · cases e
theorem relLs_wrR {ρ:Nat→Loc} {z k p:Nat} {vs:List L} {us:List Value} (h':RelLs ρ vs us):∀ {ls r:List L} {cs:List Value} (o:Nat) {c:Cond},wrR z k p vs ls o=some (c,r)→c.holds→RelLs ρ ls cs →
 RelLs ρ r (cs.take (o + (z*k + p))++us++cs.drop (o + (z*k + p) + us.length))∧o + (z*k + p) + us.length≤cs.length
 | [],r,cs,o,c,e,_,_=>by simp [wrR] at e
 | l::ls,r,cs,o,c,e,hc,h=>by
   cases hs:isSeg l with
   | false=>
     have e:(match (generalizing:=false) o with
      | 0=>match setLs (l::ls) (z*k + p) vs with
        | some r=>some (Cond.t,r)
        | none=>none
      | o + 1=>match wrR z k p vs ls o with
        | some (c,r)=>some (c,l::r)
        | none=>none)=some (c,r):=by cases l<;>first | exact e | simp [isSeg] at hs
     cases o with
     | zero=>
       dsimp only at e
       split at e
       · rename_i r' hr
         simp only [Option.some.injEq,Prod.mk.injEq] at e
         obtain ⟨-,rfl⟩:=e
         rw [Nat.zero_add]
         exact relLs_setLs _ hr h h'
       · cases e
     | succ o=>
       dsimp only at e
       split at e
       · rename_i c' r' hr
         simp only [Option.some.injEq,Prod.mk.injEq] at e
         obtain ⟨rfl,rfl⟩:=e
         obtain ⟨v,ws,rfl,h1,h2⟩:=(relLs_cons hs).1 h
         obtain ⟨h3,h4⟩:=relLs_wrR h' o hr hc h2
         refine ⟨(relLs_cons hs).2 ⟨v,_,?_,h1,h3⟩,by simp;omega⟩
         rw [show o + 1 + (z*k + p)=(o + (z*k + p)) + 1 by omega,show o + (z*k + p) + 1 + us.length=(o + (z*k + p) + us.length) + 1 by omega]
         simp
       · cases e
   | true=>
     cases l<;>simp [isSeg] at hs
     rename_i z' n f
     obtain ⟨qs,ws,rfl,h1,h2⟩:=h
     have h1:SegV z' n f qs:=h1
     have hl:=h1.1
     simp only [wrR] at e
     split at e
     · split at e
       · rename_i hz
         have hz':z=z':=by simpa using hz
         subst hz'
         split at e
         · rename_i ps hps
           split at e
           · rename_i hfit
             have hfit':p + ps.length≤z:=by simpa using hfit
             simp only [Option.some.injEq,Prod.mk.injEq] at e
             obtain ⟨rfl,rfl⟩:=e
             have hk:k<n:=hc
             have hu:=toPLs_rel hps h'
             have hul:us.length=ps.length:=by rw [hu];simp
             have hseg:=h1.upd hk hfit'
             rw [← hu] at hseg
             have hb:=mul_lt_of (z:=z) hk
             rw [Nat.zero_add]
             refine ⟨⟨_,ws,?_,hseg,h2⟩,by simp;omega⟩
             rw [List.take_append_of_le_length (by omega),List.drop_append_of_le_length (by omega),hul]
             simp
           · cases e
         · cases e
       · cases e
     · rename_i o
       split at e
       · rename_i hle
         have hle':z'*n≤o + 1:=by simpa using hle
         split at e
         · rename_i c' r' hr
           simp only [Option.some.injEq,Prod.mk.injEq] at e
           obtain ⟨rfl,rfl⟩:=e
           obtain ⟨h3,h4⟩:=relLs_wrR h' _ hr hc h2
           refine ⟨⟨qs,_,?_,h1,h3⟩,by simp;omega⟩
           rw [List.take_append,List.take_of_length_le (by omega),List.drop_append,List.drop_of_length_le (by omega),hl]
           rw [show o + 1 - z'*n + (z*k + p)=o + 1 + (z*k + p) - z'*n by omega,show o + 1 + (z*k + p) - z'*n + us.length=o + 1 + (z*k + p) + us.length - z'*n by omega]
           simp
         · cases e
       · cases e
theorem gL_leaf {ρ} {l:L} (h:l.ok=true):leafV (gL ρ l)=true:=by
 cases l<;>simp_all [L.ok,gL,leafV]
theorem cells_leaf {v:Value} (h:leafV v=true):v.cells=#[v]:=by
 cases v<;>simp_all [leafV,Value.cells]
theorem oneCell_leaf {v:Value} (h:leafV v=true):v.oneCell'=true:=by
 cases v<;>simp_all [leafV,Value.oneCell']
theorem relL_ok {ρ} {l:L} {v:Value} (hl:l.ok=true) (h:RelL ρ l v):v=gL ρ l:=h (by intro e;subst e;simp [L.ok] at hl)
theorem ok_seg {l:L} (h:l.ok=true):isSeg l=false:=by cases l<;>first | rfl | simp [L.ok] at h
theorem rel_ls {ρ} {x:AV} {v:Value} {ls:List L} (h:RelA ρ x v) (e:x.ls=some ls):RelLs ρ ls v.cells.toList:=by
 cases x with
 | one l=>
   simp only [AV.ls] at e
   split at e
   · rename_i hl
     obtain rfl:[l]=ls:=by simpa using e
     have hv:=relL_ok hl h
     rw [cells_leaf (by rw [hv];exact gL_leaf hl)]
     exact (relLs_cons (ok_seg hl)).2 ⟨v,[],rfl,h,rfl⟩
   · cases e
 | agg ls'=>
   obtain rfl:ls'=ls:=by simpa [AV.ls] using e
   obtain ⟨cs,rfl,h⟩:=h
   exact h
 | tup vs=>simp [AV.ls] at e
theorem gP_one (p:PL):(gP p).oneCell'=true:=by cases p<;>rfl
theorem SegV.mem {z n:Nat} {f:Nat→List PL} {us:List Value} (h:SegV z n f us) {v:Value} (hv:v∈us):∃ p,v=gP p:=by
 obtain ⟨i,hi⟩:=List.mem_iff_getElem?.1 hv
 have hlt:i<z*n:=by rw [← h.1];exact (List.getElem?_eq_some_iff.1 hi).1
 have hz:0<z:=Nat.pos_of_ne_zero fun e=>by subst e;simp at hlt
 have hk:i / z<n:=Nat.div_lt_of_lt_mul hlt
 have h1:=(h.2 _ hk).2 _ (Nat.mod_lt i hz)
 rw [Nat.div_add_mod,hi] at h1
 cases hp:(f (i / z))[i % z]? with
 | none=>rw [hp] at h1;simp at h1
 | some p=>rw [hp] at h1;exact ⟨p,by simpa using h1⟩
theorem okLs_one {ρ}:∀ {ls:List L} {vs:List Value},RelLs ρ ls vs→okLs ls=true→∀ v∈vs,v.oneCell'=true
 | [],_,h,_=>by cases h;simp
 | l::ls,vs,h,hk=>by
   simp only [okLs] at hk
   split at hk
   · rename_i hl
     obtain ⟨us,ws,rfl,h1,h2⟩:=h
     intro u hu
     rcases List.mem_append.1 hu with hu | hu
     · cases hs:isSeg l with
       | true=>
         cases l<;>simp [isSeg] at hs
         obtain ⟨p,rfl⟩:=SegV.mem h1 hu
         exact gP_one p
       | false=>
         obtain ⟨v,rfl,h3⟩:=(relI_one hs).1 h1
         obtain rfl:u=v:=by simpa using hu
         have hl':l.ok=true:=by cases l<;>first | exact hl | simp [isSeg] at hs
         rw [relL_ok hl' h3];exact oneCell_leaf (gL_leaf hl')
     · exact okLs_one h2 hk u hu
   · cases hk
theorem litW_rel {ρ} (K:IntKind) (mk:BitVec K.bits→L) (hmk:∀ z,gL ρ (mk z)= .int K (vI K.signed z)) (n:Int):RelL ρ (litW K.bits K.signed mk (.int K n) n) (.int K n):=by
 have hr:RelL ρ (L.raw (.int K n)) (.int K n):=fun _=>rfl
 unfold litW
 cases n with
 | ofNat m=>
   dsimp only
   split
   · rename_i h
     intro _
     show .int K (Int.ofNat m)=gL ρ (mk (BitVec.ofNat K.bits m))
     rw [hmk]
     congr 1
     have h':=Nat.le_of_ble_eq_true h
     cases K<;>simp only [IntKind.signed,IntKind.bits,vI,BitVec.toInt_ofNat',BitVec.toNat_ofNat] at h' ⊢<;>simp at h' ⊢<;>(try rw [Int.bmod_eq_of_le])<;>omega
   · exact hr
 | negSucc m=>
   dsimp only
   cases hs:K.signed
   · exact hr
   · dsimp only
     split
     · rename_i h
       intro _
       rw [hmk]
       congr 1
       have h':=Nat.le_of_ble_eq_true h
       cases K<;>simp only [IntKind.signed,IntKind.bits,vI,BitVec.toInt_ofInt,Bool.false_eq_true] at h' hs ⊢<;>(rw [Int.bmod_eq_of_le]<;>simp at h' ⊢<;>omega)
     · exact hr
theorem ofLeaf_rel {ρ} (v:Value):RelL ρ (ofLeaf v) v:=by
 cases v with
 | int k n=>
   cases k
   · exact litW_rel .i8 (L.b8 true) (fun _=>rfl) n
   · exact litW_rel .i16 (L.b16 true) (fun _=>rfl) n
   · exact litW_rel .i32 (L.b32 true) (fun _=>rfl) n
   · exact litW_rel .i64 (L.b64 true) (fun _=>rfl) n
   · exact litW_rel .u8 (L.b8 false) (fun _=>rfl) n
   · exact litW_rel .u16 (L.b16 false) (fun _=>rfl) n
   · exact litW_rel .u32 (L.b32 false) (fun _=>rfl) n
   · exact litW_rel .u64 (L.b64 false) (fun _=>rfl) n
 | _=>exact fun _=>rfl
theorem litW_seg {w:Nat} {s:Bool} {mk:BitVec w→L} (hmk:∀ z,isSeg (mk z)=false) (v:Value) (n:Int):isSeg (litW w s mk v n)=false:=by
 unfold litW
 cases n<;>dsimp only
 · split<;>first | exact hmk _ | rfl
 · cases s<;>dsimp only
   · rfl
   · split<;>first | exact hmk _ | rfl
theorem ofLeaf_seg (v:Value):isSeg (ofLeaf v)=false:=by
 cases v with
 | int k n=>
   cases k
   · exact litW_seg (s:=true) (mk:=L.b8 true) (fun _=>rfl) (.int .i8 n) n
   · exact litW_seg (s:=true) (mk:=L.b16 true) (fun _=>rfl) (.int .i16 n) n
   · exact litW_seg (s:=true) (mk:=L.b32 true) (fun _=>rfl) (.int .i32 n) n
   · exact litW_seg (s:=true) (mk:=L.b64 true) (fun _=>rfl) (.int .i64 n) n
   · exact litW_seg (s:=false) (mk:=L.b8 false) (fun _=>rfl) (.int .u8 n) n
   · exact litW_seg (s:=false) (mk:=L.b16 false) (fun _=>rfl) (.int .u16 n) n
   · exact litW_seg (s:=false) (mk:=L.b32 false) (fun _=>rfl) (.int .u32 n) n
   · exact litW_seg (s:=false) (mk:=L.b64 false) (fun _=>rfl) (.int .u64 n) n
 | _=>rfl
theorem mapLeaf_rel {ρ}:∀ vs:List Value,RelLs ρ (mapLeaf vs) vs
 | []=>rfl
 | v::vs=>(relLs_cons (ofLeaf_seg v)).2 ⟨v,vs,rfl,ofLeaf_rel v,mapLeaf_rel vs⟩
theorem ofV_rel {ρ} (v:Value):RelA ρ (ofV v) v:=by
 cases v with
 | agg cs=>exact ⟨cs,rfl,mapLeaf_rel _⟩
 | _=>exact ofLeaf_rel _
theorem litW_names {w:Nat} {s:Bool} {mk:BitVec w→L} (hmk:∀ z,(mk z).names=[]) (v:Value) (n:Int):(litW w s mk v n).names=[]:=by
 unfold litW
 cases n<;>dsimp only
 · split<;>first | exact hmk _ | rfl
 · cases s<;>dsimp only
   · rfl
   · split<;>first | exact hmk _ | rfl
theorem ofLeaf_names (v:Value):(ofLeaf v).names=[]:=by
 cases v with
 | int k n=>
   cases k
   · exact litW_names (s:=true) (mk:=L.b8 true) (fun _=>rfl) (.int .i8 n) n
   · exact litW_names (s:=true) (mk:=L.b16 true) (fun _=>rfl) (.int .i16 n) n
   · exact litW_names (s:=true) (mk:=L.b32 true) (fun _=>rfl) (.int .i32 n) n
   · exact litW_names (s:=true) (mk:=L.b64 true) (fun _=>rfl) (.int .i64 n) n
   · exact litW_names (s:=false) (mk:=L.b8 false) (fun _=>rfl) (.int .u8 n) n
   · exact litW_names (s:=false) (mk:=L.b16 false) (fun _=>rfl) (.int .u16 n) n
   · exact litW_names (s:=false) (mk:=L.b32 false) (fun _=>rfl) (.int .u32 n) n
   · exact litW_names (s:=false) (mk:=L.b64 false) (fun _=>rfl) (.int .u64 n) n
 | _=>rfl
theorem mapLeaf_names:∀ vs:List Value,lnames (mapLeaf vs)=[]
 | []=>rfl
 | v::vs=>by simp [mapLeaf,lnames,ofLeaf_names,mapLeaf_names vs]
theorem ofV_names (v:Value):(ofV v).names=[]:=by
 cases v with
 | agg cs=>exact mapLeaf_names _
 | _=>simp only [ofV,AV.names,ofLeaf_names]
theorem lnames_mem {n:Nat}:∀ {ls:List L},n∈lnames ls ↔ ∃ l∈ls,n∈l.names
 | []=>by simp [lnames]
 | l::ls=>by simp [lnames,lnames_mem]
theorem appL_names {m:Nat} {xs ys:List L} (h:m∈lnames (appL xs ys)):m∈lnames xs∨m∈lnames ys:=by
 rw [appL_eq,lnames_mem] at h
 obtain ⟨l,hl,hm⟩:=h
 rcases List.mem_append.1 hl with hl | hl
 · exact .inl (lnames_mem.2 ⟨l,hl,hm⟩)
 · exact .inr (lnames_mem.2 ⟨l,hl,hm⟩)
theorem cons_names {m:Nat} {l:L} {ls:List L} (h:m∈lnames ls):m∈lnames (l::ls):=by simp [lnames,h]
theorem dropL_names {m:Nat}:∀ {ls:List L} (n:Nat),m∈lnames (dropL ls n)→m∈lnames ls
 | ls,0,h=>by cases ls<;>simpa [dropL] using h
 | [],n + 1,h=>by simp [dropL,lnames] at h
 | l::ls,n + 1,h=>by
   cases hs:isSeg l with
   | false=>rw [dropL_cons hs] at h;exact cons_names (dropL_names n h)
   | true=>
     cases l<;>simp [isSeg] at hs
     simp only [dropL] at h
     split at h
     · exact cons_names (dropL_names _ h)
     · rcases appL_names h with h | h
       · simp [toLs_names] at h
       · unfold tailS at h
         split at h
         · exact cons_names h
         · simp only [lnames,L.names,List.nil_append] at h;exact cons_names h
theorem takeL_names {m:Nat}:∀ {ls r:List L} (n:Nat),takeL ls n=some r→m∈lnames r→m∈lnames ls
 | ls,r,0,h,hm=>by
   have:r=[]:=by cases ls<;>simp [takeL] at h<;>exact h
   subst this;simp [lnames] at hm
 | [],r,n + 1,h,_=>by simp [takeL] at h
 | l::ls,r,n + 1,h,hm=>by
   cases hs:isSeg l with
   | false=>
     rw [takeL_cons hs] at h
     split at h
     · rename_i r' hr
       obtain rfl:=Option.some.inj h
       simp only [lnames,List.mem_append] at hm ⊢
       exact hm.imp id (takeL_names n hr)
     · cases h
   | true=>
     cases l<;>simp [isSeg] at hs
     simp only [takeL] at h
     split at h
     · split at h
       · rename_i r' hr
         obtain rfl:=Option.some.inj h
         simp only [lnames,L.names,List.nil_append] at hm
         exact cons_names (takeL_names _ hr hm)
       · cases h
     · split at h
       · split at h
         · obtain rfl:=Option.some.inj h
           simp [toLs_names] at hm
         · cases h
       · cases h
theorem headL_names {m:Nat} {ls:List L} {l:L} (h:headL ls=some l) (hm:m∈l.names):m∈lnames ls:=by
 cases ls with
 | nil=>simp [headL] at h
 | cons x xs=>
   cases hs:isSeg x with
   | false=>
     have:x=l:=by cases x<;>first | simpa [headL] using h | simp [isSeg] at hs
     subst this
     simp [lnames,hm]
   | true=>
     cases x<;>simp [isSeg] at hs
     simp only [headL] at h
     split at h
     · cases h
     · split at h
       · obtain rfl:=Option.some.inj h
         simp [toL_names] at hm
       · cases h
theorem sub_names {ls r:List L} {o n m:Nat} (h:takeL (dropL ls o) n=some r) (hm:m∈lnames r):m∈lnames ls:=dropL_names o (takeL_names n h hm)
theorem head_names {ls:List L} {l:L} {o m:Nat} (h:headL (dropL ls o)=some l) (hm:m∈l.names):m∈lnames ls:=dropL_names o (headL_names h hm)
theorem setLs_names {m:Nat} {vs:List L}:∀ {ls r:List L} (n:Nat),setLs ls n vs=some r→m∈lnames r→m∈lnames ls∨m∈lnames vs
 | [],r,n,e,hm=>by
   simp only [setLs] at e
   split at e
   · split at e
     · obtain rfl:=Option.some.inj e;simp [lnames] at hm
     · cases e
   · cases e
 | l::ls,r,n,e,hm=>by
   have whole:∀ {X:List L},X=l::ls→(match Nat.ble (wids vs) (wids X) with
    | true=>some (appL vs (dropL X (wids vs)))
    | false=>none)=some r→m∈lnames (l::ls)∨m∈lnames vs:=by
    rintro X rfl e
    split at e
    · obtain rfl:=Option.some.inj e
      rcases appL_names hm with h | h
      · exact .inr h
      · exact .inl (dropL_names _ h)
    · cases e
   cases hs:isSeg l with
   | false=>
     have e:(match (generalizing:=false) n with
      | 0=>match Nat.ble (wids vs) (wids (l::ls)) with
        | true=>some (appL vs (dropL (l::ls) (wids vs)))
        | false=>none
      | n + 1=>match setLs ls n vs with
        | some r=>some (l::r)
        | none=>none)=some r:=by
      cases l<;>first | exact e | simp [isSeg] at hs
     cases n with
     | zero=>exact whole rfl e
     | succ n=>
       dsimp only at e
       split at e
       · rename_i r' hr
         obtain rfl:=Option.some.inj e
         simp only [lnames,List.mem_append] at hm ⊢
         rcases hm with h | h
         · exact .inl (.inl h)
         · exact (setLs_names n hr h).imp .inr id
       · cases e
   | true=>
     cases l<;>simp [isSeg] at hs
     simp only [setLs] at e
     split at e
     · split at e
       · rename_i r' hr
         obtain rfl:=Option.some.inj e
         simp only [lnames,L.names,List.nil_append] at hm
         exact (setLs_names _ hr hm).imp cons_names id
       · cases e
     · split at e
       · split at e
         · obtain rfl:=Option.some.inj e
           simp only [lnames,L.names,List.nil_append] at hm
           exact .inl (cons_names hm)
         · split at e
           · exact whole rfl e
           · cases e
       · split at e
         · exact whole rfl e
         · cases e
theorem rdR_names {ls r:List L} {o z k p s m:Nat} {c:Cond} (e:rdR ls o z k p s=some (c,r)) (hm:m∈lnames r):m∈lnames ls:=by
 unfold rdR at e
 cases hx:dropL ls o with
 | nil=>rw [hx] at e;cases e
 | cons l r0=>
   rw [hx] at e
   refine dropL_names o ?_
   rw [hx]
   cases hs:isSeg l with
   | false=>
     have e:(match (generalizing:=false) takeL (dropL (l::r0) (z*k + p)) s with
      | some r=>some (Cond.t,r)
      | none=>none)=some (c,r):=by cases l<;>first | exact e | simp [isSeg] at hs
     split at e
     · rename_i r' hr
       simp only [Option.some.injEq,Prod.mk.injEq] at e
       obtain ⟨-,rfl⟩:=e
       exact sub_names hr hm
     · cases e
   | true=>
     cases l<;>simp [isSeg] at hs
     dsimp only at e
     split at e
     · split at e
       · simp only [Option.some.injEq,Prod.mk.injEq] at e
         obtain ⟨-,rfl⟩:=e
         simp [toLs_names] at hm
       · cases e
     · cases e
theorem wrR_names {z k p m:Nat} {vs:List L}:∀ {ls r:List L} (o:Nat) {c:Cond},wrR z k p vs ls o=some (c,r)→m∈lnames r→m∈lnames ls∨m∈lnames vs
 | [],r,o,c,e,_=>by simp [wrR] at e
 | l::ls,r,o,c,e,hm=>by
   cases hs:isSeg l with
   | false=>
     have e:(match (generalizing:=false) o with
      | 0=>match setLs (l::ls) (z*k + p) vs with
        | some r=>some (Cond.t,r)
        | none=>none
      | o + 1=>match wrR z k p vs ls o with
        | some (c,r)=>some (c,l::r)
        | none=>none)=some (c,r):=by cases l<;>first | exact e | simp [isSeg] at hs
     cases o with
     | zero=>
       dsimp only at e
       split at e
       · rename_i r' hr
         simp only [Option.some.injEq,Prod.mk.injEq] at e
         obtain ⟨-,rfl⟩:=e
         exact setLs_names _ hr hm
       · cases e
     | succ o=>
       dsimp only at e
       split at e
       · rename_i c' r' hr
         simp only [Option.some.injEq,Prod.mk.injEq] at e
         obtain ⟨rfl,rfl⟩:=e
         simp only [lnames,List.mem_append] at hm ⊢
         rcases hm with h | h
         · exact .inl (.inl h)
         · exact (wrR_names o hr h).imp .inr id
       · cases e
   | true=>
     cases l<;>simp [isSeg] at hs
     simp only [wrR] at e
     split at e
     · split at e
       · split at e
         · split at e
           · simp only [Option.some.injEq,Prod.mk.injEq] at e
             obtain ⟨rfl,rfl⟩:=e
             simp only [lnames,L.names,List.nil_append] at hm
             exact .inl (cons_names hm)
           · cases e
         · cases e
       · cases e
     · split at e
       · split at e
         · rename_i c' r' hr
           simp only [Option.some.injEq,Prod.mk.injEq] at e
           obtain ⟨rfl,rfl⟩:=e
           simp only [lnames,L.names,List.nil_append] at hm
           exact (wrR_names _ hr hm).imp cons_names id
         · cases e
       · cases e
theorem ls_names {x:AV} {ls:List L} (e:x.ls=some ls):lnames ls=x.names:=by
 cases x with
 | one l=>
   simp only [AV.ls] at e
   split at e
   · obtain rfl:[l]=ls:=by simpa using e
     simp [lnames,AV.names]
   · cases e
 | agg l=>
   obtain rfl:l=ls:=by simpa [AV.ls] using e
   rfl
 | tup vs=>simp [AV.ls] at e
theorem same_and {s t:Bool} {α:Type _} {x:α} {y:α} (h:same s t (some x)=some y):s=t∧x=y:=by
 cases s<;>cases t<;>simp [same] at h<;>exact ⟨rfl,h⟩
theorem col64_eq {s:Bool}:∀ {ls:List L} {xs:List (BitVec 64)},col64 s ls=some xs→ls=xs.map (.b64 s)
 | [],xs,e=>by simp [col64] at e;subst e;rfl
 | l::ls,xs,e=>by
   cases l with
   | b64 s' x=>
     simp only [col64] at e
     split at e
     · rename_i x' xs' h1 h2
       obtain rfl:=Option.some.inj e
       obtain ⟨rfl,rfl⟩:=same_and h1
       rw [col64_eq h2];rfl
     · cases e
   | _=>simp [col64] at e
theorem relLs_b64 {ρ:Nat→Loc} {s:Bool}:∀ {xs:List (BitVec 64)} {vs:List Value},RelLs ρ (xs.map (.b64 s)) vs ↔ vs=xs.map fun x=> .int (k64 s) (vI s x)
 | [],vs=>Iff.rfl
 | x::xs,vs=>by
   rw [List.map_cons,relLs_cons rfl]
   constructor
   · rintro ⟨v,ws,rfl,h1,h2⟩
     rw [relLs_b64.1 h2,h1 (by simp)];rfl
   · rintro rfl
     exact ⟨_,_,rfl,fun _=>rfl,relLs_b64.2 rfl⟩
theorem nthW_eq {w:Nat}:∀ (xs:List (BitVec w)) (k:Nat),k<xs.length→xs[k]? =some (nthW xs k)
 | [],k,h=>by simp at h
 | x::xs,0,_=>rfl
 | x::xs,k + 1,h=>by simp [nthW,nthW_eq xs k (by simpa using h)]
theorem selL_get {ρ:Nat→Loc} {ls:List L} {l:L} {vs:List Value} {k:Nat} (e:selL ls k=some l) (h:RelLs ρ ls vs) (hk:k<vs.length):vs[k]? =some (gL ρ l)∧l.names=[]:=by
 unfold selL at e
 split at e
 · rename_i s x r
   split at e
   · rename_i xs hx
     obtain rfl:=Option.some.inj e
     rw [col64_eq hx] at h
     have hv:=relLs_b64.1 h
     subst hv
     refine ⟨?_,rfl⟩
     rw [List.getElem?_map,nthW_eq xs k (by simpa using hk)];rfl
   · cases e
 · cases e
theorem selL_len {ρ:Nat→Loc} {ls:List L} {l:L} {vs:List Value} {k:Nat} (e:selL ls k=some l) (h:RelLs ρ ls vs):vs.length=ls.length:=by
 unfold selL at e
 split at e
 · rename_i s x r
   split at e
   · rename_i xs hx
     rw [col64_eq hx] at h
     have hv:=relLs_b64.1 h
     rw [hv,col64_eq hx]
     simp
   · cases e
 · cases e
theorem updL_eq {s:Bool} {v:BitVec 64} {k:Nat}:∀ {ls r:List L} {j:Nat},updL s v k j ls=some r→∃ xs:List (BitVec 64),ls=xs.map (.b64 s)∧r=(if j≤k then xs.set (k - j) v else xs).map (.b64 s)
 | [],r,j,e=>by simp [updL] at e;subst e;exact ⟨[],rfl,by split<;>rfl⟩
 | l::ls,r,j,e=>by
   cases l with
   | b64 s' x=>
     simp only [updL] at e
     split at e
     · rename_i x' r' h1 h2
       obtain rfl:=Option.some.inj e
       obtain ⟨rfl,rfl⟩:=same_and h1
       obtain ⟨xs,rfl,rfl⟩:=updL_eq h2
       refine ⟨x::xs,rfl,?_⟩
       rcases Nat.lt_trichotomy k j with hk | hk | hk
       · rw [if_neg (by omega),if_neg (by omega),if_neg (by omega)];rfl
       · subst hk
         rw [if_pos rfl,if_neg (by omega),if_pos (Nat.le_refl _),Nat.sub_self];rfl
       · rw [if_neg (by omega),if_pos (by omega),if_pos (by omega),show k - j=(k - (j + 1)) + 1 by omega];rfl
     · cases e
   | _=>simp [updL] at e
theorem b64_names {s:Bool}:∀ xs:List (BitVec 64),lnames (xs.map (.b64 s))=[]
 | []=>rfl
 | x::xs=>by simp only [List.map_cons,lnames,L.names,b64_names xs,List.nil_append]
theorem updL_names {s:Bool} {v:BitVec 64} {k:Nat} {ls r:List L} {j:Nat} (e:updL s v k j ls=some r):lnames r=[]:=by
 obtain ⟨xs,rfl,rfl⟩:=updL_eq e
 exact b64_names _
theorem updL_rel {ρ:Nat→Loc} {s:Bool} {v:BitVec 64} {k:Nat} {ls r:List L} {vs:List Value} {j:Nat} (e:updL s v k j ls=some r) (h:RelLs ρ ls vs) :
 RelLs ρ r (if j≤k then vs.set (k - j) (.int (k64 s) (vI s v)) else vs):=by
 obtain ⟨xs,rfl,rfl⟩:=updL_eq e
 rw [relLs_b64.1 h]
 refine relLs_b64.2 ?_
 split
 · rw [List.map_set]
 · rfl
theorem capVals_congr {ρ ρ':Nat→Loc}:∀ {caps:List (Nat×Nat)},(∀ m∈capN caps,ρ' m=ρ m)→capVals ρ' caps=capVals ρ caps
 | [],_=>rfl
 | (i,o)::r,h=>by
   simp only [capVals]
   rw [h i (by simp [capN]),capVals_congr fun m hm=>h m (by simp [capN,hm])]
theorem inCaps_spec {d:Nat}:∀ {caps:List (Nat×Nat)},inCaps d caps=false→d ∉ capN caps
 | [],_=>by simp [capN]
 | (i,o)::r,h=>by
   simp only [inCaps] at h
   split at h
   · cases h
   · rename_i hne
     have h1:=Nat.ne_of_beq_eq_false hne
     have h2:=inCaps_spec h
     simp only [capN,List.mem_cons,not_or]
     exact ⟨fun e=>h1 e.symm,h2⟩
theorem relL_agree {ρ ρ':Nat→Loc} {l:L} {v:Value} (h:RelL ρ l v) (he:∀ m∈l.names,ρ' m=ρ m):RelL ρ' l v:=by
 intro hl
 rw [h hl]
 cases l with
 | ptr i o=>simp [gL,he i (by simp [L.names])]
 | eptr i o n k=>simp [gL,he i (by simp [L.names])]
 | slc i o n c=>simp [gL,he i (by simp [L.names])]
 | rptr i o z k p=>simp [gL,he i (by simp [L.names])]
 | rsl i n=>simp [gL,he i (by simp [L.names])]
 | rsc i z k s n=>simp [gL,he i (by simp [L.names])]
 | imap i=>simp [gL,he i (by simp [L.names])]
 | clo f caps=>simp only [gL];rw [capVals_congr fun m hm=>he m (by simpa [L.names] using hm)]
 | _=>rfl
theorem relLs_agree {ρ ρ':Nat→Loc}:∀ {ls:List L} {vs:List Value},RelLs ρ ls vs→(∀ m∈lnames ls,ρ' m=ρ m)→RelLs ρ' ls vs
 | [],_,h,_=>h
 | l::ls,vs,⟨us,ws,e,h1,h2⟩,he=>by
   refine ⟨us,ws,e,?_,relLs_agree h2 fun m hm=>he m (by simp [lnames,hm])⟩
   cases hs:isSeg l with
   | true=>cases l<;>simp [isSeg] at hs;exact h1
   | false=>
     obtain ⟨v,h3,h4⟩:=(relI_one hs).1 h1
     exact (relI_one hs).2 ⟨v,h3,relL_agree h4 fun m hm=>he m (by simp [lnames,hm])⟩
theorem relVs_agree {ρ ρ':Nat→Loc}:∀ {ls:List (Bool×List L)} {vs:List Value},RelVs ρ ls vs→(∀ m∈vnames ls,ρ' m=ρ m)→RelVs ρ' ls vs
 | [],[],_,_=>trivial
 | (true,ls)::r,v::vs,⟨⟨cs,e,h1⟩,h2⟩,he=>⟨⟨cs,e,relLs_agree h1 fun m hm=>he m (by simp [vnames,hm])⟩,relVs_agree h2 fun m hm=>he m (by simp [vnames,hm])⟩
 | (false,[l])::r,v::vs,⟨h1,h2⟩,he=>⟨relL_agree h1 fun m hm=>he m (by simp [vnames,lnames,hm]),relVs_agree h2 fun m hm=>he m (by simp [vnames,hm])⟩
 | [],_::_,h,_=>h.elim
 | (true,_)::_,[],h,_=>h.elim
 | (false,[])::_,[],h,_=>h.elim
 | (false,[])::_,_::_,h,_=>h.elim
 | (false,_::_::_)::_,[],h,_=>h.elim
 | (false,_::_::_)::_,_::_,h,_=>h.elim
 | (false,[_])::_,[],h,_=>h.elim
theorem relA_agree {ρ ρ':Nat→Loc} {v:AV} {u:Value} (h:RelA ρ v u) (he:∀ m∈v.names,ρ' m=ρ m):RelA ρ' v u:=by
 cases v with
 | one l=>exact relL_agree h he
 | agg ls=>obtain ⟨cs,e,h⟩:=h;exact ⟨cs,e,relLs_agree h he⟩
 | tup vs=>obtain ⟨cs,e,h⟩:=h;exact ⟨cs,e,relVs_agree h he⟩
theorem relB_agree {ρ ρ':Nat→Loc} {q:Loc} {b:Blk} {o:Option Obj} (h:RelB ρ q b o) (he:∀ m∈b.names,ρ' m=ρ m):RelB ρ' q b o:=by
 cases b with
 | cells T ls=>obtain ⟨cs,e,h0,h⟩:=h;exact ⟨cs,e,h0,relLs_agree h he⟩
 | ro T ls=>obtain ⟨cs,fr,e,us,ws,h0,h⟩:=h;exact ⟨cs,fr,e,us,ws,h0,relLs_agree h he⟩
 | row T z n f=>exact h
 | imap es=>exact h
 | romap es=>exact h
 | vec T ls=>obtain ⟨cs,e,h0,h1,h2,h3,h⟩:=h;exact ⟨cs,e,h0,h1,h2,h3,relLs_agree h he⟩
theorem relB_get {ρ:Nat→Loc} {q:Loc} {b:Blk} {o:Option Obj} {ls:List L} (h:RelB ρ q b o) (e:b.rdL=some ls) :
 ∃ (T:TypeId) (cs:Array Value) (fr:Nat×Nat),o=some (.cells cs T fr)∧∃ us ws,cs.toList.drop q.o=us++ws∧RelLs ρ ls us:=by
 cases b with
 | cells T ls'=>
   obtain rfl:ls'=ls:=by simpa [Blk.rdL] using e
   obtain ⟨cs,e,h0,h⟩:=h
   exact ⟨T,cs,_,e,cs.toList,[],by rw [h0];simp,h⟩
 | ro T ls'=>
   obtain rfl:ls'=ls:=by simpa [Blk.rdL] using e
   obtain ⟨cs,fr,e,h⟩:=h
   exact ⟨T,cs,fr,e,h⟩
 | row T z n f=>
   obtain rfl:[L.seg z n f]=ls:=by simpa [Blk.rdL] using e
   obtain ⟨cs,e,h0,-,-,-,h⟩:=h
   refine ⟨T,cs,_,e,cs.toList.take (z*n),cs.toList.drop (z*n),by rw [h0];simp,_,[],by simp,h,rfl⟩
 | imap es=>cases e
 | romap es=>cases e
 | vec T ls'=>
   obtain rfl:ls'=ls:=by simpa [Blk.rdL] using e
   obtain ⟨cs,e,h0,-,-,-,h⟩:=h
   exact ⟨T,cs,_,e,cs.toList.take ls'.length,cs.toList.drop ls'.length,by rw [h0];simp,h⟩
theorem names_rdL {b:Blk} {ls:List L} (e:b.rdL=some ls):b.names=lnames ls:=by
 cases b with
 | cells T ls'=>simp [Blk.rdL] at e;subst e;rfl
 | ro T ls'=>simp [Blk.rdL] at e;subst e;rfl
 | row T z n f=>simp [Blk.rdL] at e;subst e;rfl
 | imap es=>cases e
 | romap es=>cases e
 | vec T ls'=>simp [Blk.rdL] at e;subst e;rfl
theorem SegV.cons {z n:Nat} {f:Nat→List PL} {ws:List Value} (h:SegV z n (fun k=>f (k + 1)) ws) (hf:(f 0).length=z):SegV z (n + 1) f ((f 0).map gP++ws):=by
 refine ⟨by simp [h.1,hf,Nat.mul_add];omega,fun k hk=> ?_⟩
 cases k with
 | zero=>
   refine ⟨hf,fun j hj=> ?_⟩
   rw [Nat.mul_zero,Nat.zero_add,List.getElem?_append_left (by simp;omega),List.getElem?_map]
 | succ k=>
   obtain ⟨h1,h2⟩:=h.2 k (by omega)
   refine ⟨h1,fun j hj=> ?_⟩
   rw [List.getElem?_append_right (by simp [Nat.mul_add];omega),← h2 j hj]
   congr 1
   simp [Nat.mul_add];omega
theorem eqB_eq {a b:Bool} (h:eqB a b=true):a=b:=by cases a<;>cases b<;>first | rfl | simp [eqB] at h
theorem eqPL_eq {x y:PL} (h:eqPL x y=true):x=y:=by
 cases x<;>cases y<;>simp only [eqPL,Bool.false_eq_true] at h
 all_goals first
  | (split at h
     · rename_i hs
       have h1:=eqB_eq hs
       have h2:=BitVec.eq_of_toNat_eq (Nat.eq_of_beq_eq_true h)
       rw [h1,h2]
     · cases h)
  | rw [eqB_eq h]
theorem cutPL_rel {ρ:Nat→Loc}:∀ {ps:List PL} {ls r:List L} {vs:List Value},cutPL ps ls=some r→RelLs ρ ls vs→∃ ws,vs=ps.map gP++ws∧RelLs ρ r ws
 | [],ls,r,vs,e,h=>by simp [cutPL] at e;subst e;exact ⟨vs,rfl,h⟩
 | p::ps,[],r,vs,e,_=>by simp [cutPL] at e
 | p::ps,l::ls,r,vs,e,h=>by
   simp only [cutPL] at e
   split at e
   · rename_i q hq
     split at e
     · rename_i hpq
       obtain rfl:=eqPL_eq hpq
       rw [pl_toL hq] at h
       obtain ⟨v,ws,rfl,h1,h2⟩:=(relLs_cons (toL_seg _)).1 h
       obtain ⟨ws',rfl,h3⟩:=cutPL_rel e h2
       exact ⟨ws',by rw [h1 (toL_junk _),gP_toL];rfl,h3⟩
     · cases e
   · cases e
theorem repPL_rel {ρ:Nat→Loc} {ps:List PL}:∀ {n:Nat} {ls:List L} {vs:List Value},repPL ps n ls=true→RelLs ρ ls vs→SegV ps.length n (fun _=>ps) vs
 | 0,[],_,_,h=>by cases h;exact ⟨by simp,fun k hk=>by omega⟩
 | 0,_::_,_,e,_=>by simp [repPL] at e
 | n + 1,ls,vs,e,h=>by
   simp only [repPL] at e
   split at e
   · rename_i r hr
     obtain ⟨ws,rfl,h1⟩:=cutPL_rel hr h
     exact SegV.cons (f:=fun _=>ps) (repPL_rel e h1) rfl
   · cases e
theorem normF_rel {P:Program} {ρ:Nat→Loc} {nf:TypeId→List L→List L} (H:∀ T ls vs,RelLs ρ ls vs→RelLs ρ (nf T ls) vs):∀ (fs:List Field) (o:Nat) (ls r:List L) (vs:List Value),normF P nf o fs ls=some r→RelLs ρ ls vs→RelLs ρ r vs
 | [],o,[],r,vs,e,h=>by simp [normF] at e;subst e;exact h
 | [],o,_::_,r,vs,e,_=>by simp [normF] at e
 | f::fs,o,ls,r,vs,e,h=>by
   simp only [normF] at e
   split at e
   · cases e
   · rename_i i hi
     split at e
     · cases e
     · split at e
       · cases e
       · rename_i a ha
         split at e
         · cases e
         · rename_i r' hr
           obtain rfl:=Option.some.inj e
           have h1:=(relLs_take _ ha h).1
           have h2:=normF_rel H fs _ _ r' _ hr (relLs_drop i.size h)
           have:=relLs_app (H f.type a _ h1) h2
           rwa [List.take_append_drop] at this
theorem norm_rel {P:Program} {ρ:Nat→Loc}:∀ (d:Nat) (T:TypeId) (ls:List L) (vs:List Value),RelLs ρ ls vs→RelLs ρ (norm P d T ls) vs
 | 0,_,_,_,h=>h
 | d + 1,T,ls,vs,h=>by
   simp only [norm]
   split
   · split
     · rename_i r hr
       exact normF_rel (norm_rel d) _ _ _ _ _ hr h
     · exact h
   · split
     · rename_i i hi
       split
       · split
         · rename_i a ha
           split
           · rename_i ps hps
             split
             · rename_i hrep
               obtain ⟨h1,h2⟩:=relLs_take _ ha h
               have h3:=toPLs_rel hps h1
               have h4:ps.length=i.size:=by
                have:=congrArg List.length h3
                simp at this
                omega
               refine ⟨vs,[],by simp,?_,rfl⟩
               have:=repPL_rel hrep h
               rw [h4] at this
               exact this
             · exact h
           · exact h
         · exact h
       · exact h
     · exact h
   · exact h
theorem normF_names {P:Program} {nf:TypeId→List L→List L} {m:Nat} (H:∀ T ls,m∈lnames (nf T ls)→m∈lnames ls):∀ (fs:List Field) (o:Nat) (ls r:List L),normF P nf o fs ls=some r→m∈lnames r→m∈lnames ls
 | [],o,[],r,e,h=>by simp [normF] at e;subst e;exact h
 | [],o,_::_,r,e,_=>by simp [normF] at e
 | f::fs,o,ls,r,e,h=>by
   simp only [normF] at e
   split at e
   · cases e
   · split at e
     · cases e
     · split at e
       · cases e
       · rename_i a ha
         split at e
         · cases e
         · rename_i r' hr
           obtain rfl:=Option.some.inj e
           rcases appL_names h with h | h
           · exact takeL_names _ ha (H _ _ h)
           · exact dropL_names _ (normF_names H fs _ _ r' hr h)
theorem norm_names {P:Program} {m:Nat}:∀ (d:Nat) (T:TypeId) (ls:List L),m∈lnames (norm P d T ls)→m∈lnames ls
 | 0,_,_,h=>h
 | d + 1,T,ls,h=>by
   simp only [norm] at h
   split at h
   · split at h
     · rename_i r hr
       exact normF_names (norm_names d) _ _ _ _ hr h
     · exact h
   · split at h
     · split at h
       · split at h
         · split at h
           · split at h
             · simp [lnames,L.names] at h
             · exact h
           · exact h
         · exact h
       · exact h
     · exact h
   · exact h
theorem srcF_rel {ρ:Nat→Loc} {ls:List L} {vs:List Value} {off z m:Nat} {c:Cond} {g:Nat→List PL} (h:RelLs ρ ls vs) (e:srcF ls off z m=some (c,g)) (hc:c.holds) :
 z*m≤(vs.drop off).length∧((∀ j,j<m→(g j).length=z)→SegV z m g ((vs.drop off).take (z*m))):=by
 have hd:=relLs_drop off h
 unfold srcF at e
 cases hx:dropL ls off with
 | nil=>rw [hx] at e;cases e
 | cons l r0=>
   rw [hx] at e hd
   cases hs:isSeg l with
   | true=>
     cases l<;>simp [isSeg] at hs
     rename_i z' n f
     dsimp only at e
     split at e
     · rename_i hz
       have hz':z=z':=by simpa using hz
       subst hz'
       simp only [Option.some.injEq,Prod.mk.injEq] at e
       obtain ⟨rfl,rfl⟩:=e
       have hm:m≤n:=hc
       obtain ⟨us,ws,h0,h1,h2⟩:=hd
       have h1:SegV z n f us:=h1
       have hle:z*m≤z*n:=Nat.mul_le_mul_left z hm
       have hul:=h1.1
       refine ⟨by rw [h0];simp;omega,fun _=> ?_⟩
       rw [h0,List.take_append_of_le_length (by omega)]
       refine ⟨by simp;omega,fun k hk=> ?_⟩
       obtain ⟨h3,h4⟩:=h1.2 k (by omega)
       have hb:=mul_lt_of (z:=z) hk
       exact ⟨h3,fun j hj=>by rw [List.getElem?_take,if_pos (by omega),h4 j hj]⟩
     · cases e
   | false=>
     replace e:(match (generalizing:=false) Nat.beq m 1 with
      | true=>match takeL (l::r0) z with
        | some a=>match toPLs a with
          | some ps=>some (Cond.t,fun _=>ps)
          | none=>none
        | none=>none
      | false=>match (generalizing:=false) Nat.beq m 0 with
        | true=>some (.t,fun _=>falsesP z)
        | false=>match takeL (l::r0) (z*m) with
          | some a=>match toPLs a with
            | some ps=>some (.t,fun k=>match takeP (dropP ps (z*bndK k (m - 1))) z with | some r=>r | none=>[])
            | none=>none
          | none=>none)=some (c,g):=by cases l<;>first | exact e | simp [isSeg] at hs
     cases hm:Nat.beq m 1 with
     | true=>
       rw [hm] at e
       dsimp only at e
       obtain rfl:m=1:=by simpa using hm
       cases ha:takeL (l::r0) z with
       | none=>rw [ha] at e;cases e
       | some a=>
         rw [ha] at e
         dsimp only at e
         cases hps:toPLs a with
         | none=>rw [hps] at e;cases e
         | some ps=>
           rw [hps] at e
           simp only [Option.some.injEq,Prod.mk.injEq] at e
           obtain ⟨-,rfl⟩:=e
           obtain ⟨h1,h2⟩:=relLs_take _ ha hd
           rw [Nat.mul_one]
           refine ⟨h2,fun hl=> ?_⟩
           rw [toPLs_rel hps h1]
           have hl0:ps.length=z:=hl 0 (by decide)
           have:=SegV.cons (z:=z) (n:=0) (f:=fun _=>ps) (ws:=[]) ⟨by simp,fun k hk=>by omega⟩ hl0
           simpa using this
     | false=>
       rw [hm] at e
       dsimp only at e
       split at e
       · rename_i hm0
         obtain rfl:m=0:=by simpa using hm0
         exact ⟨by simp,fun _=>⟨by simp,fun k hk=>absurd hk (by omega)⟩⟩
       cases ha:takeL (l::r0) (z*m) with
       | none=>rw [ha] at e;cases e
       | some a=>
         rw [ha] at e
         dsimp only at e
         cases hps:toPLs a with
         | none=>rw [hps] at e;cases e
         | some ps=>
           rw [hps] at e
           simp only [Option.some.injEq,Prod.mk.injEq] at e
           obtain ⟨-,rfl⟩:=e
           obtain ⟨h1,h2⟩:=relLs_take _ ha hd
           refine ⟨h2,fun hl=> ?_⟩
           have h3:=toPLs_rel hps h1
           have hpl:ps.length=z*m:=by
            have:=congrArg List.length h3
            rw [List.length_take,Nat.min_eq_left h2,List.length_map] at this
            exact this.symm
           rw [h3]
           refine ⟨by simp [hpl],fun k hk=> ?_⟩
           refine ⟨hl k hk,fun j hj=> ?_⟩
           have hb:=mul_lt_of (z:=z) hk
           have hsome:takeP (dropP ps (z*k)) z=some ((ps.drop (z*k)).take z):=by
            have key:∀ (qs:List PL) (n:Nat),n≤qs.length→takeP qs n=some (qs.take n):=by
             intro qs
             induction qs with
             | nil=>intro n hn;obtain rfl:n=0:=by simpa using hn
                    rfl
             | cons q qs ih=>intro n hn;cases n with
               | zero=>rfl
               | succ n=>simp [takeP,ih n (by simpa using hn)]
            rw [dropP_eq]
            exact key _ _ (by simp;omega)
           dsimp only
           rw [bndK_lt hk,hsome]
           dsimp only
           rw [List.getElem?_map,List.getElem?_take,if_pos hj,List.getElem?_drop]
theorem relAs_append {ρ:Nat→Loc}:∀ {xs ys:List AV} {us vs:List Value},RelAs ρ xs us→RelAs ρ ys vs→RelAs ρ (xs++ys) (us++vs)
 | [],_,[],_,_,h=>h
 | _::_,_,_::_,_,h,h'=>⟨h.1,relAs_append h.2 h'⟩
 | [],_,_::_,_,h,_=>h.elim
 | _::_,_,[],_,h,_=>h.elim
theorem capVs_rel (ρ:Nat→Loc):∀ caps:List (Nat×Nat),RelAs ρ (capVs caps) (capVals ρ caps)
 | []=>trivial
 | (i,o)::r=>⟨fun _=>rfl,capVs_rel ρ r⟩
theorem capVs_names:∀ {caps:List (Nat×Nat)} {v:AV} {m:Nat},v∈capVs caps→m∈v.names→m∈capN caps
 | [],_,_,h,_=>by simp [capVs] at h
 | (i,o)::r,v,m,h,hm=>by
   simp only [capVs,List.mem_cons] at h
   rcases h with rfl | h
   · simp only [AV.names,L.names,List.mem_singleton] at hm;subst hm;simp [capN]
   · simp [capN,capVs_names h hm]
structure Ctx (ρ:Nat→Loc) (t:List AV) (h:Nat→Option Blk) (a:Act) (w:World):Prop where
 tmps:∀ n,RelA ρ (getT t n) (a.tmps.getD n undef)
 heap:∀ i b,h i=some b→RelB ρ (ρ i) b w.heap[(ρ i).b]?
 names:∀ n,∀ m∈(getT t n).names,h m≠none
 namesH:∀ i b,h i=some b→∀ m∈b.names,h m≠none
section
variable {P : Program} {ρ : Nat → Loc} {t : List AV} {h : Nat → Option Blk} {a : Act} {w : World}
theorem ev_rel (C:Ctx ρ t h a w) (x:Operand):RelA ρ (ev t x) (a.eval x):=by
 cases x with
 | tmp n=>exact C.tmps n
 | const v=>exact ofV_rel v
 | global g=>exact fun _=>rfl
 | func f=>exact fun _=>rfl
theorem ev_names (C:Ctx ρ t h a w) (x:Operand):∀ m∈(ev t x).names,h m≠none:=by
 cases x with
 | tmp n=>exact C.names n
 | const v=>simp [ev,ofV_names]
 | global g=>simp [ev,AV.names,L.names]
 | func f=>simp [ev,AV.names,L.names]
theorem ev_eptr (C:Ctx ρ t h a w) {x:Operand} {i off n k:Nat} (e:ev t x= .one (.eptr i off n k)):a.eval x= .pointer (some ⟨(ρ i).b,(ρ i).o + (off + k),none⟩)∧h i≠none:=by
 have h1:=ev_rel C x
 rw [e] at h1
 refine ⟨h1 (by simp),?_⟩
 have h2:=ev_names C x
 rw [e] at h2
 exact h2 i (by simp [AV.names,L.names])
theorem evs_rel (C:Ctx ρ t h a w):∀ xs:List Operand,RelAs ρ (evs t xs) (xs.map a.eval)
 | []=>trivial
 | x::xs=>⟨ev_rel C x,evs_rel C xs⟩
theorem evs_names (C:Ctx ρ t h a w):∀ xs:List Operand,∀ v∈evs t xs,∀ m∈v.names,h m≠none
 | [],v,hv=>by simp [evs] at hv
 | x::xs,v,hv=>by
   simp only [evs,List.mem_cons] at hv
   rcases hv with rfl | hv
   · exact ev_names C x
   · exact evs_names C xs v hv
theorem ev_ptr (C:Ctx ρ t h a w) {x:Operand} {i off:Nat} (e:ev t x= .one (.ptr i off)):a.eval x= .pointer (some ⟨(ρ i).b,(ρ i).o + off,none⟩)∧h i≠none:=by
 have h1:=ev_rel C x
 rw [e] at h1
 refine ⟨h1 (by simp),?_⟩
 have h2:=ev_names C x
 rw [e] at h2
 exact h2 i (by simp [AV.names,L.names])
theorem ev_rptr (C:Ctx ρ t h a w) {x:Operand} {i o z k p:Nat} (e:ev t x= .one (.rptr i o z k p)):a.eval x= .pointer (some ⟨(ρ i).b,(ρ i).o + (o + (z*k + p)),none⟩)∧h i≠none:=by
 have h1:=ev_rel C x
 rw [e] at h1
 refine ⟨h1 (by simp),?_⟩
 have h2:=ev_names C x
 rw [e] at h2
 exact h2 i (by simp [AV.names,L.names])
theorem ev_rsl (C:Ctx ρ t h a w) {x:Operand} {i n:Nat} (e:ev t x= .one (.rsl i n)):a.eval x= .slice (some ⟨(ρ i).b,(ρ i).o,none⟩) n (ρ i).c∧h i≠none:=by
 have h1:=ev_rel C x
 rw [e] at h1
 refine ⟨h1 (by simp),?_⟩
 have h2:=ev_names C x
 rw [e] at h2
 exact h2 i (by simp [AV.names,L.names])
theorem ev_rsc (C:Ctx ρ t h a w) {x:Operand} {i z k q n:Nat} (e:ev t x= .one (.rsc i z k q n)):a.eval x= .slice (some ⟨(ρ i).b,(ρ i).o + (if (ρ i).c=k then z*(k - q) else z*k),none⟩) n ((ρ i).c - k)∧h i≠none:=by
 have h1:=ev_rel C x
 rw [e] at h1
 refine ⟨h1 (by simp),?_⟩
 have h2:=ev_names C x
 rw [e] at h2
 exact h2 i (by simp [AV.names,L.names])
theorem ev_imap (C:Ctx ρ t h a w) {x:Operand} {i:Nat} (e:ev t x= .one (.imap i)):a.eval x= .map (some (ρ i).b)∧h i≠none:=by
 have h1:=ev_rel C x
 rw [e] at h1
 refine ⟨h1 (by simp),?_⟩
 have h2:=ev_names C x
 rw [e] at h2
 exact h2 i (by simp [AV.names,L.names])
structure Turned (w w':World) (k:Nat):Prop where
 os:w'.os=w.os
 tape:w'.tape=w.tape
 output:w'.output=w.output
 size:w'.heap.size=w.heap.size
 other:∀ j,j≠k→w'.heap[j]? =w.heap[j]?
theorem setRow_turned (w:World) (g:Nat) (cs:Array Value):Turned w (w.setRow g cs) g:=⟨rfl,rfl,rfl,by simp,fun _ h=>setRow_other w g _ cs h⟩
def NewV.val:NewV→Nat→Value
 | .p,b=> .pointer (some ⟨b,0,none⟩)
 | .s n,b=> .slice (some ⟨b,0,none⟩) n n
 | .r n,b=> .slice (some ⟨b,0,none⟩) n n
 | .m,b=> .map (some b)
def NewV.cap:NewV→Nat
 | .r n=>n
 | _=>0
def SrcOK (P:Program) (ρ:Nat→Loc) (h:Nat→Option Blk) (w:World) (z m:Nat) (tx:TypeId) (vx:Value):Src→Prop
 | .here g=>∃ news,_root_.Go.Src P z tx vx m news w∧SegV z m g news
 | .mem j k=>h j≠none∧∀ b,h j=some b→∀ c g,k b=some (c,g)→c.holds→(∀ i,i<m→(g i).length=z)→∃ news,_root_.Go.Src P z tx vx m news w∧SegV z m g news
 | .cell j off k=>(h j≠none∧∀ b,h j=some b→∀ c g,k b=some (c,g)→c.holds→(∀ i,i<m→(g i).length=z)→∃ news,_root_.Go.Src P z tx vx m news w∧SegV z m g news) ∧
   ∀ T l,h j=some (.cells T [l])→l.ok=true→off=0→z=1→m=1→∃ v,_root_.Go.Src P z tx vx m [v] w∧RelL ρ l v
def ReqOK (P:Program) (ρ:Nat→Loc) (h:Nat→Option Blk) (a:Act) (w:World) (o:Oper):Req→Prop
 | .val v=>∃ u,(execOp a.eval o).run P w= .ok (.value u) w∧RelA ρ v u∧∀ m∈v.names,h m≠none
 | .rd i k=>h i≠none∧∀ b,h i=some b→∀ c v,k b=some (c,v)→c.holds→∃ u,(execOp a.eval o).run P w= .ok (.value u) w∧RelA ρ v u∧∀ m∈v.names,h m≠none
 | .wr i k=>h i≠none∧∀ b,h i=some b→∀ c b',k b=some (c,b')→c.holds→∃ w',(execOp a.eval o).run P w= .ok .skip w'∧Turned w w' (ρ i).b ∧
    RelB ρ (ρ i) b' w'.heap[(ρ i).b]? ∧(b.own=true∧b'.own=true)∧∀ m∈b'.names,h m≠none
 | .new b nv=>∃ ob,(execOp a.eval o).run P w= .ok (.value (nv.val w.heap.size)) (w.alloc ob)∧RelB ρ ⟨w.heap.size,0,nv.cap⟩ b (some ob)∧b.own=true∧∀ m∈b.names,h m≠none
 | .call f args=>∃ us,RelAs ρ args us∧(execOp a.eval o).run P w=(callFunc f us.toArray).run P w∧∀ v∈args,∀ m∈v.names,h m≠none
 | .glob T g off=>∀ u,(loadVar T ⟨g,off,none⟩).run P w= .ok u w→(execOp a.eval o).run P w= .ok (.value u) w
 | .look T ok _ b key=>∃ u,RelA ρ key u∧∀ r,(Instr.lookup T (.map (some b)) u ok).run P w= .ok r w→(execOp a.eval o).run P w= .ok (.value r) w
 | .pick b x y=>∃ u,(execOp a.eval o).run P w= .ok (.value u) w∧RelA ρ (if b then x else y) u∧∀ m∈(if b then x else y).names,h m≠none
 | .app base e z m x=>∃ T tx inf zv ty vs vx,P.underlying T=some (.slice e)∧P.info? e=some inf∧inf.zero=some zv∧inf.size=z∧zv.cells.size=z∧0<z∧inf.bytes≤4096 ∧
    (match base with | some (_,n)=>n | none=>0) + m<65536 ∧
    (∀ r w',(Builtin.append_ #[T,tx] ty #[vs,vx]).run P w= .ok r w'→(execOp a.eval o).run P w= .ok (.value r) w') ∧
    (match base with | none=>vs= .slice none 0 0 | some (i,n)=>vs= .slice (some ⟨(ρ i).b,(ρ i).o,none⟩) n (ρ i).c∧h i≠none)∧SrcOK P ρ h w z m tx vx x
theorem addr_add (b o n:Nat):(⟨b,o,none⟩:Addr).add n=⟨b,o + n,none⟩:=by unfold Addr.add;split<;>simp_all
theorem isAgg_run {T:TypeId} {b:Bool} (hb:isAggT P T=some b):(isAgg T).run P w= .ok b w:=by
 unfold isAggT at hb
 cases hu:P.underlying T with
 | none=>rw [hu] at hb;cases hb
 | some d=>rw [hu] at hb;cases d<;>simp_all [isAgg,run_underlying hu]
theorem sizeOf_run {T:TypeId} {i:TypeInfo} (hi:P.info? T=some i):(sizeOf T).run P w= .ok i.size w:=by
 simp [sizeOf,run_typeInfo (P:=P) w hi]
theorem cell_of_rel {i:Nat} {T:TypeId} {cs:Array Value} {fr:Nat×Nat} (hc:w.heap[i]? =some (.cells cs T fr)) (j:Nat):w.cell? ⟨i,j,none⟩=cs[j]? :=by
 simp [World.cell?,hc]
theorem load_part {i:Nat} {T':TypeId} {cs:Array Value} {fr:Nat×Nat} (hc:w.heap[i]? =some (.cells cs T' fr)) {T:TypeId} {inf:TypeInfo} (hi:P.info? T=some inf)
 (hA:isAggT P T=some true) (off:Nat) (hl:inf.size≤cs.toList.length - off):(loadVar T ⟨i,off,none⟩).run P w= .ok (.agg ((cs.toList.drop off).take inf.size).toArray) w:=by
 have hlen:((cs.toList.drop off).take inf.size).length=inf.size:=by simp at hl ⊢;omega
 have hl':=run_loadCells_list (P:=P) w ⟨i,off,none⟩ ((cs.toList.drop off).take inf.size) (fun j v hv=>by
  rw [addr_add,cell_of_rel hc]
  rw [List.getElem?_take] at hv
  split at hv
  · rw [List.getElem?_drop] at hv;simpa using hv
  · cases hv)
 rw [hlen] at hl'
 simp [loadVar,isAgg_run hA,sizeOf_run hi,hl']
theorem load_one {i:Nat} {T':TypeId} {cs:Array Value} {fr:Nat×Nat} (hc:w.heap[i]? =some (.cells cs T' fr)) {T:TypeId}
 (hA:isAggT P T=some false) (off:Nat) {v:Value} (hv:(cs.toList.drop off).head? =some v):(loadVar T ⟨i,off,none⟩).run P w= .ok v w:=by
 have:w.cell? ⟨i,off,none⟩=some v:=by
  rw [cell_of_rel hc]
  rw [List.head?_drop] at hv;simpa using hv
 simp [loadVar,isAgg_run hA,this]
theorem rd_get (C:Ctx ρ t h a w) {i:Nat} {b:Blk} {ls:List L} (hb:h i=some b) (e:b.rdL=some ls) :
 ∃ (T:TypeId) (cs:Array Value) (fr:Nat×Nat) (us ws:List Value),w.heap[(ρ i).b]? =some (.cells cs T fr)∧cs.toList.drop (ρ i).o=us++ws∧RelLs ρ ls us∧b.names=lnames ls:=by
 obtain ⟨T,cs,fr,h1,us,ws,h2,h3⟩:=relB_get (C.heap i b hb) e
 exact ⟨T,cs,fr,us,ws,h1,h2,h3,names_rdL e⟩
theorem load_agg {i:Nat} {T':TypeId} {cs:Array Value} {fr:Nat×Nat} (hc:w.heap[i]? =some (.cells cs T' fr)) {T:TypeId} {inf:TypeInfo} (hi:P.info? T=some inf)
 (hA:isAggT P T=some true) {o off:Nat} {us ws:List Value} (hd:cs.toList.drop o=us++ws) {r:List L} (hr:RelLs ρ r ((us.drop off).take inf.size)) (hl:inf.size≤(us.drop off).length) :
 ∃ u,(loadVar T ⟨i,o + off,none⟩).run P w= .ok u w∧RelA ρ (.agg r) u:=by
 have hlen:=congrArg List.length hd
 simp at hlen hl
 have e:(cs.toList.drop (o + off)).take inf.size=(us.drop off).take inf.size:=by
  rw [← List.drop_drop,hd]
  by_cases h0:inf.size=0
  · simp [h0]
  · rw [List.drop_append_of_le_length (by omega),List.take_append_of_le_length (by simp;omega)]
 refine ⟨_,load_part hc hi hA (o + off) (by simp;omega),_,rfl,?_⟩
 rw [e]
 exact hr
theorem load_cell {i:Nat} {T':TypeId} {cs:Array Value} {fr:Nat×Nat} (hc:w.heap[i]? =some (.cells cs T' fr)) {T:TypeId} (hA:isAggT P T=some false) {o off:Nat} {us ws:List Value}
 (hd:cs.toList.drop o=us++ws) {v:Value} (hv:(us.drop off).head? =some v):(loadVar T ⟨i,o + off,none⟩).run P w= .ok v w:=by
 refine load_one hc hA (o + off) ?_
 rw [List.head?_drop] at hv ⊢
 have:(cs.toList.drop o)[off]? =some v:=by
  rw [hd,List.getElem?_append_left (List.getElem?_eq_some_iff.1 hv).1];exact hv
 rwa [List.getElem?_drop] at this
theorem ok_load (C:Ctx ρ t h a w) {dst:Option Tmp} {T:TypeId} {x:Operand} {ty:TypeId} {pos:String} {after:Array Edge} {gu:Option (Nat×Bool)} {c:Cond} {r:Req}
 (e:req P (.load T x) t=some (c,r)) (hcond:c.holds):ReqOK P ρ h a w ⟨dst,.load T x,ty,pos,after,gu⟩ r:=by
 simp only [req] at e
 split at e
 · rename_i i off hx
   obtain ⟨hev,hin⟩:=ev_ptr C hx
   split at e
   · rename_i inf hi
     split at e
     · rename_i hA
       simp only [Option.some.injEq,Prod.mk.injEq] at e
       obtain ⟨-,rfl⟩:=e
       refine ⟨hin,fun b hb c v hv _=> ?_⟩
       dsimp only at hv
       split at hv
       · rename_i ls hls
         obtain ⟨T',cs,fr,us,ws,hc,hd,hr,hn⟩:=rd_get C hb hls
         split at hv
         · rename_i r ht
           simp only [Option.some.injEq,Prod.mk.injEq] at hv
           obtain ⟨-,rfl⟩:=hv
           have ⟨h1,h2⟩:=relLs_take _ ht (relLs_drop off hr)
           obtain ⟨u,hu,hur⟩:=load_agg (P:=P) hc hi hA hd h1 h2
           refine ⟨u,?_,hur,fun m hm=>C.namesH i b hb m (by rw [hn];exact sub_names ht hm)⟩
           simp [execOp,Instr.loadAt,hev,Instr.sureAddr,hu]
         · cases hv
       · cases hv
     · rename_i hA
       simp only [Option.some.injEq,Prod.mk.injEq] at e
       obtain ⟨-,rfl⟩:=e
       refine ⟨hin,fun b hb c v hv _=> ?_⟩
       dsimp only at hv
       split at hv
       · rename_i ls hls
         obtain ⟨T',cs,fr,us,ws,hc,hd,hr,hn⟩:=rd_get C hb hls
         split at hv
         · rename_i l ht
           simp only [Option.some.injEq,Prod.mk.injEq] at hv
           obtain ⟨-,rfl⟩:=hv
           obtain ⟨v,hv,hl,-⟩:=relLs_head (relLs_drop off hr) ht
           refine ⟨v,?_,hl,fun m hm=>C.namesH i b hb m (by rw [hn];exact head_names ht hm)⟩
           simp [execOp,Instr.loadAt,hev,Instr.sureAddr,load_cell (P:=P) hc hA hd hv]
         · cases hv
       · cases hv
     · cases e
   · cases e
 · rename_i p hx
   have h1:=ev_rel C x
   rw [hx] at h1
   have hev:=h1 (by simp)
   simp only [gL] at hev
   split at e
   · rename_i hs
     simp only [Option.some.injEq,Prod.mk.injEq] at e
     obtain ⟨-,rfl⟩:=e
     intro u hu
     have hp:(⟨p.block,p.off,none⟩:Addr)=p:=by rw [← hs]
     rw [hp] at hu
     simp [execOp,Instr.loadAt,hev,Instr.sureAddr,hu]
   · cases e
 · rename_i i off n k hx
   obtain ⟨hev,hin⟩:=ev_eptr C hx
   split at e
   · rename_i inf hi
     split at e
     · rename_i hA
       simp only [Option.some.injEq,Prod.mk.injEq] at e
       obtain ⟨rfl,rfl⟩:=e
       have hk:k<n:=hcond
       refine ⟨hin,fun b hb c v hv _=> ?_⟩
       dsimp only at hv
       split at hv
       · rename_i ls hls
         obtain ⟨T',cs,fr,us,ws,hc,hd,hr,hn⟩:=rd_get C hb hls
         split at hv
         · rename_i r ht
           split at hv
           · rename_i l hl
             simp only [Option.some.injEq,Prod.mk.injEq] at hv
             obtain ⟨-,rfl⟩:=hv
             have ⟨h1,h2⟩:=relLs_take _ ht (relLs_drop off hr)
             obtain ⟨h3,h4⟩:=selL_get hl h1 (by simp at h2 ⊢;omega)
             refine ⟨gL ρ l,?_,fun _=>rfl,by simp [AV.names,h4]⟩
             have hv':(us.drop (off + k)).head? =some (gL ρ l):=by
              rw [List.getElem?_take,if_pos hk,List.getElem?_drop] at h3
              rw [List.head?_drop];exact h3
             simp [execOp,Instr.loadAt,hev,Instr.sureAddr,load_cell (P:=P) hc hA hd hv']
           · cases hv
         · cases hv
       · cases hv
     · cases e
   · cases e
 · rename_i i o z k p hx
   obtain ⟨hev,hin⟩:=ev_rptr C hx
   split at e
   · rename_i inf hi
     split at e
     · rename_i hA
       simp only [Option.some.injEq,Prod.mk.injEq] at e
       obtain ⟨-,rfl⟩:=e
       refine ⟨hin,fun b hb c v hv hcc=> ?_⟩
       dsimp only at hv
       split at hv
       · rename_i ls hls
         obtain ⟨T',cs,fr,us,ws,hc,hd,hr,hn⟩:=rd_get C hb hls
         split at hv
         · rename_i c' r ht
           simp only [Option.some.injEq,Prod.mk.injEq] at hv
           obtain ⟨rfl,rfl⟩:=hv
           have ⟨h1,h2⟩:=relLs_rdR hr ht hcc
           obtain ⟨u,hu,hur⟩:=load_agg (P:=P) hc hi hA hd h1 h2
           refine ⟨u,?_,hur,fun m hm=>C.namesH i b hb m (by rw [hn];exact rdR_names ht hm)⟩
           simp [execOp,Instr.loadAt,hev,Instr.sureAddr,hu]
         · cases hv
       · cases hv
     · rename_i hA
       simp only [Option.some.injEq,Prod.mk.injEq] at e
       obtain ⟨-,rfl⟩:=e
       refine ⟨hin,fun b hb c v hv hcc=> ?_⟩
       dsimp only at hv
       split at hv
       · rename_i ls hls
         obtain ⟨T',cs,fr,us,ws,hc,hd,hr,hn⟩:=rd_get C hb hls
         split at hv
         · rename_i c' r ht
           split at hv
           · rename_i l hl
             simp only [Option.some.injEq,Prod.mk.injEq] at hv
             obtain ⟨rfl,rfl⟩:=hv
             have ⟨h1,h2⟩:=relLs_rdR hr ht hcc
             obtain ⟨v,hv,hl',-⟩:=relLs_head h1 hl
             have hv':(us.drop (o + (z*k + p))).head? =some v:=by
              cases hx:us.drop (o + (z*k + p)) with
              | nil=>rw [hx] at hv;simp at hv
              | cons y ys=>rw [hx] at hv;simpa using hv
             refine ⟨v,?_,hl',fun m hm=>C.namesH i b hb m (by rw [hn];exact rdR_names ht (headL_names hl hm))⟩
             simp [execOp,Instr.loadAt,hev,Instr.sureAddr,load_cell (P:=P) hc hA hd hv']
           · cases hv
         · cases hv
       · cases hv
     · cases e
   · cases e
 · cases e
def mfind:List (BitVec 64×BitVec 64)→BitVec 64→Nat→Option (Nat×Value)
 | [],_,_=>none
 | (x,y)::r,a,i=>if a=x then some (i,.int .i64 y.toInt) else mfind r a (i + 1)
theorem toInt_beq (a x:BitVec 64):(a.toInt==x.toInt)=decide (a=x):=by
 by_cases h:a=x
 · subst h;simp
 · rw [decide_eq_false h,beq_eq_false_iff_ne]
   exact fun e=>h (BitVec.eq_of_toInt_eq e)
theorem findNow_ent:∀ (l:List (BitVec 64×BitVec 64)) (es:List MapEntry) (a:BitVec 64) (i:Nat),es.map (fun e=>(e.key,e.val))=entsOf l→Instr.findNow (.int .i64) (.int .i64 a.toInt) es i=some (mfind l a i)
 | [],es,a,i,h=>by
   obtain rfl:es=[]:=by simpa [entsOf] using h
   rfl
 | (x,y)::l,[],a,i,h=>by simp [entsOf] at h
 | (x,y)::l,e::es,a,i,h=>by
   simp only [List.map_cons,entsOf,List.cons.injEq,Prod.mk.injEq] at h
   obtain ⟨⟨h1,h2⟩,h3⟩:=h
   have ih:=findNow_ent l es a (i + 1) h3
   simp only [Instr.findNow,h1,h2,Instr.sameNow,if_true,toInt_beq]
   by_cases hx:a=x
   · simp [hx,mfind]
   · simp [hx,mfind,ih]
theorem mfind_val:∀ (l:List (BitVec 64×BitVec 64)) (a:BitVec 64) (i:Nat),(mfind l a i=none∧mhas l a=false∧mval l a=0#64)∨∃ j,mfind l a i=some (j,.int .i64 (mval l a).toInt)∧mhas l a=true
 | [],a,i=> .inl ⟨rfl,rfl,rfl⟩
 | (x,y)::l,a,i=>by
   simp only [mfind,mhas,mval]
   by_cases hx:a=x
   · exact .inr ⟨i,by simp [hx],by simp [hx]⟩
   · simp only [if_neg hx]
     have hb:(a==x)=false:=by simpa using hx
     rw [hb,Bool.false_or]
     exact mfind_val l a (i + 1)
theorem mput_find:∀ (l:List (BitVec 64×BitVec 64)) (a b:BitVec 64) (i:Nat),(mfind l a i=none∧entsOf (mput l a b)=entsOf l++[(.int .i64 a.toInt,.int .i64 b.toInt)]) ∨
 ∃ j v u,mfind l a i=some (i + j,v)∧(entsOf l)[j]? =some (.int .i64 a.toInt,u)∧entsOf (mput l a b)=(entsOf l).set j (.int .i64 a.toInt,.int .i64 b.toInt)
 | [],a,b,i=> .inl ⟨rfl,rfl⟩
 | (x,y)::l,a,b,i=>by
   simp only [mfind,mput]
   by_cases hx:a=x
   · subst hx
     exact .inr ⟨0,_,_,by simp;rfl,by simp [entsOf];rfl,by simp [entsOf]⟩
   · simp only [if_neg hx]
     rcases mput_find l a b (i + 1) with ⟨h1,h2⟩ | ⟨j,v,u,h1,h2,h3⟩
     · exact .inl ⟨h1,by simp only [entsOf,List.map_cons,List.cons_append] at h2 ⊢;rw [h2]⟩
     · exact .inr ⟨j + 1,v,u,by rw [h1];congr 2;omega,by simpa [entsOf] using h2,by simp only [entsOf,List.map_cons,List.set_cons_succ] at h3 ⊢;rw [h3]⟩
theorem isI64_eq {T:TypeId} (h:isI64 P T=true):P.underlying T=some (.int .i64):=by
 unfold isI64 at h
 split at h
 · assumption
 · cases h
theorem find_ent {k:TypeId} (hk:P.underlying k=some (.int .i64)) {l:List (BitVec 64×BitVec 64)} {es:Array MapEntry} (h:es.toList.map (fun e=>(e.key,e.val))=entsOf l) (a:BitVec 64) :
 (Instr.findKey k (.int .i64 a.toInt) es.toList).run P w= .ok (mfind l a 0) w:=MapKept.run_findKey hk (findNow_ent l _ a 0 h)
theorem check_int {k:TypeId} (hk:P.underlying k=some (.int .i64)) (e:Bool) (a:BitVec 64):(Instr.checkKey e 10000 k (.int .i64 a.toInt)).run P w= .ok () w:=by
 unfold Instr.checkKey
 simp only [Sem.run_bind,run_underlying hk,Result.andThen]
 rfl
theorem look_ent {T k e:TypeId} {inf:TypeInfo} (hT:P.underlying T=some (.map k e)) (hk:P.underlying k=some (.int .i64)) (hi:P.info? e=some inf) (hz:inf.zero=some (.int .i64 0))
 {b clock:Nat} {l:List (BitVec 64×BitVec 64)} {es:Array MapEntry} (hb:w.heap[b]? =some (.map es clock)) (h:es.toList.map (fun e=>(e.key,e.val))=entsOf l) (a:BitVec 64) (ok:Bool) :
 (Instr.lookup T (.map (some b)) (.int .i64 a.toInt) ok).run P w= .ok (if ok then .tuple #[.int .i64 (mval l a).toInt,.bool (mhas l a)] else .int .i64 (mval l a).toInt) w:=by
 have hzero:(zeroValue e).run P w= .ok (.int .i64 0) w:=by simp [zeroValue,run_typeInfo (P:=P) w hi,hz]
 rcases mfind_val l a 0 with ⟨h1,h2,h3⟩ | ⟨j,h1,h2⟩
 · simp [Instr.lookup,run_underlying hT,MapKept.run_getObj_map hb,check_int hk,find_ent hk h,h1,h2,h3,hzero,Result.andThen]
 · simp [Instr.lookup,run_underlying hT,MapKept.run_getObj_map hb,check_int hk,find_ent hk h,h1,h2,Result.andThen]
theorem put_ent {T k e:TypeId} (hT:P.underlying T=some (.map k e)) (hk:P.underlying k=some (.int .i64))
 {b clock:Nat} {l:List (BitVec 64×BitVec 64)} {es:Array MapEntry} (hb:w.heap[b]? =some (.map es clock)) (h:es.toList.map (fun e=>(e.key,e.val))=entsOf l) (a c:BitVec 64) :
 ∃ w',(Instr.mapUpdate T (.map (some b)) (.int .i64 a.toInt) (.int .i64 c.toInt)).run P w= .ok () w'∧Turned w w' b∧∃ es' clock',w'.heap[b]? =some (.map es' clock')∧es'.toList.map (fun e=>(e.key,e.val))=entsOf (mput l a c):=by
 have hlt:b<w.heap.size:=(Array.getElem?_eq_some_iff.1 hb).1
 have turn:∀ o:Obj,Turned w { w with heap:=w.heap.setIfInBounds b o } b:=fun o=>
  ⟨rfl,rfl,rfl,by simp,fun j hj=>by simp [Array.getElem?_setIfInBounds,Ne.symm hj]⟩
 have there:∀ o:Obj,({ w with heap:=w.heap.setIfInBounds b o }:World).heap[b]? =some o:=fun o=>by simp [hlt]
 rcases mput_find l a c 0 with ⟨h1,h2⟩ | ⟨j,v,u,h1,h2,h3⟩
 · refine ⟨_,?_,turn (.map (es.push { key:= .int .i64 a.toInt,val:= .int .i64 c.toInt,born:=clock }) (clock + 1)),_,_,there _,?_⟩
   · simp [Instr.mapUpdate,run_underlying hT,MapKept.run_getObj_map hb,check_int hk,find_ent hk h,h1,MapKept.run_setObj_map _ hb,Result.andThen]
   · rw [h2,Array.toList_push,List.map_append,h];rfl
 · rw [Nat.zero_add] at h1
   rw [← h,List.getElem?_map] at h2
   have hst:(Instr.keyThatStays (.int .i64 a.toInt) (.int .i64 a.toInt)).run P w= .ok (.int .i64 a.toInt) w:=by
    simp [Instr.keyThatStays,Instr.sameBits]
   cases hj:es.toList[j]? with
   | none=>rw [hj] at h2;simp at h2
   | some e0=>
     rw [hj] at h2
     simp only [Option.map_some,Option.some.injEq,Prod.mk.injEq] at h2
     have hj':es[j]? =some e0:=by simpa using hj
     refine ⟨_,?_,turn (.map (es.modify j fun e=>{ e with key:= .int .i64 a.toInt,val:= .int .i64 c.toInt }) clock),_,_,there _,?_⟩
     · simp [Instr.mapUpdate,run_underlying hT,MapKept.run_getObj_map hb,check_int hk,find_ent hk h,h1,hj',h2.1,hst,MapKept.run_setObj_map _ hb,Result.andThen]
     · rw [h3,← h,Array.toList_modify]
       apply List.ext_getElem?
       intro i
       simp only [List.getElem?_map,List.getElem?_modify,List.getElem?_set]
       by_cases hij:j=i
       · subst hij
         rw [hj]
         have:j<es.size:=by simpa using (List.getElem?_eq_some_iff.1 hj).1
         simp [this]
       · simp [hij]
theorem ev_i64 (C:Ctx ρ t h a w) {x:Operand} {y:BitVec 64} (e:ev t x= .one (.b64 true y)):a.eval x= .int .i64 y.toInt:=by
 have h1:=ev_rel C x
 rw [e] at h1
 exact h1 (by simp)
theorem ok_lookup (C:Ctx ρ t h a w) {dst:Option Tmp} {T:TypeId} {x i:Operand} {ok:Bool} {ty:TypeId} {pos:String} {after:Array Edge} {gu:Option (Nat×Bool)} {c:Cond} {r:Req}
 (e:req P (.lookup T x i ok) t=some (c,r)):ReqOK P ρ h a w ⟨dst,.lookup T x i ok,ty,pos,after,gu⟩ r:=by
 simp only [req] at e
 split at e
 · rename_i g b hx
   have h1:=ev_rel C x
   rw [hx] at h1
   have hev:=h1 (by simp)
   simp only [gL] at hev
   simp only [Option.some.injEq,Prod.mk.injEq] at e
   obtain ⟨-,rfl⟩:=e
   refine ⟨a.eval i,ev_rel C i,fun r hr=> ?_⟩
   simp [execOp,hev,hr]
 · rename_i j hx
   obtain ⟨hev,hin⟩:=ev_imap C hx
   split at e
   · rename_i kt et hT
     split at e
     · rename_i inf hk he hi
       split at e
       · rename_i hz
         split at e
         · rename_i y hy
           simp only [Option.some.injEq,Prod.mk.injEq] at e
           obtain ⟨-,rfl⟩:=e
           refine ⟨hin,fun b hb c v hv _=> ?_⟩
           cases b with
           | imap es=>
             simp only [Option.some.injEq,Prod.mk.injEq] at hv
             obtain ⟨-,rfl⟩:=hv
             obtain ⟨ents,clock,hw,hes⟩:=C.heap j _ hb
             have hl:=look_ent (P:=P) hT (isI64_eq hk) hi hz hw hes y ok
             refine ⟨_,by simp [execOp,hev,ev_i64 C hy,hl];rfl,?_,?_⟩
             · cases ok
               · exact fun _=>rfl
               · exact ⟨_,rfl,fun _=>rfl,fun _=>rfl,trivial⟩
             · cases ok<;>simp [AV.names,L.names,vnames,lnames]
           | romap es=>
             simp only [Option.some.injEq,Prod.mk.injEq] at hv
             obtain ⟨-,rfl⟩:=hv
             obtain ⟨ents,clock,hw,hes⟩:=C.heap j _ hb
             have hl:=look_ent (P:=P) hT (isI64_eq hk) hi hz hw hes y ok
             refine ⟨_,by simp [execOp,hev,ev_i64 C hy,hl];rfl,?_,?_⟩
             · cases ok
               · exact fun _=>rfl
               · exact ⟨_,rfl,fun _=>rfl,fun _=>rfl,trivial⟩
             · cases ok<;>simp [AV.names,L.names,vnames,lnames]
           | _=>simp at hv
         · cases e
       · cases e
     · cases e
   · cases e
 · rename_i hx
   have h1:=ev_rel C x
   rw [hx] at h1
   have hev:=h1 (by simp)
   simp only [gL] at hev
   split at e
   · rename_i kt et hT
     split at e
     · rename_i inf hk he hi
       split at e
       · rename_i hz
         split at e
         · rename_i y hy
           simp only [Option.some.injEq,Prod.mk.injEq] at e
           obtain ⟨-,rfl⟩:=e
           have hzero:(zeroValue et).run P w= .ok (.int .i64 0) w:=by simp [zeroValue,run_typeInfo (P:=P) w hi,hz]
           have hf:(Instr.findKey kt (.int .i64 y.toInt) []).run P w= .ok none w:=MapKept.run_findKey (isI64_eq hk) rfl
           have hl:(Instr.lookup T (.map none) (.int .i64 y.toInt) ok).run P w= .ok (if ok then .tuple #[.int .i64 0,.bool false] else .int .i64 0) w:=by
            simp [Instr.lookup,run_underlying hT,check_int (isI64_eq hk),hf,hzero,Result.andThen]
           refine ⟨_,by simp [execOp,hev,ev_i64 C hy,hl];rfl,?_,?_⟩
           · cases ok
             · exact fun _=>rfl
             · exact ⟨_,rfl,fun _=>rfl,fun _=>rfl,trivial⟩
           · cases ok<;>simp [AV.names,L.names,vnames,lnames]
         · cases e
       · cases e
     · cases e
   · cases e
 · cases e
theorem ok_mapUpdate (C:Ctx ρ t h a w) {dst:Option Tmp} {T:TypeId} {x k v:Operand} {ty:TypeId} {pos:String} {after:Array Edge} {gu:Option (Nat×Bool)} {c:Cond} {r:Req}
 (e:req P (.mapUpdate T x k v) t=some (c,r)):ReqOK P ρ h a w ⟨dst,.mapUpdate T x k v,ty,pos,after,gu⟩ r:=by
 simp only [req] at e
 split at e
 · rename_i j hx
   obtain ⟨hev,hin⟩:=ev_imap C hx
   split at e
   · rename_i kt et hT
     split at e
     · rename_i hk he
       split at e
       · rename_i y y' hy hy'
         simp only [Option.some.injEq,Prod.mk.injEq] at e
         obtain ⟨-,rfl⟩:=e
         refine ⟨hin,fun b hb c b' hb' _=> ?_⟩
         cases b with
         | imap es=>
           simp only [Option.some.injEq,Prod.mk.injEq] at hb'
           obtain ⟨-,rfl⟩:=hb'
           obtain ⟨ents,clock,hw,hes⟩:=C.heap j _ hb
           obtain ⟨w',hrun,htu,es',clock',hw',hes'⟩:=put_ent (P:=P) hT (isI64_eq hk) hw hes y y'
           exact ⟨w',by simp [execOp,hev,ev_i64 C hy,ev_i64 C hy',hrun],htu,⟨es',clock',hw',hes'⟩,⟨rfl,rfl⟩,by simp [Blk.names]⟩
         | _=>simp at hb'
       · cases e
     · cases e
   · cases e
 · cases e
theorem ok_makeMap {dst:Option Tmp} {T:TypeId} {rs:Option Operand} {ty:TypeId} {pos:String} {after:Array Edge} {gu:Option (Nat×Bool)} {c:Cond} {r:Req}
 (e:req P (.makeMap T rs) t=some (c,r)):ReqOK P ρ h a w ⟨dst,.makeMap T rs,ty,pos,after,gu⟩ r:=by
 simp only [req] at e
 split at e
 · cases e
 · split at e
   · split at e
     · split at e
       · simp only [Option.some.injEq,Prod.mk.injEq] at e
         obtain ⟨-,rfl⟩:=e
         exact ⟨.map #[] 0,by simp [execOp,Instr.makeMap,NewV.val],⟨#[],0,rfl,rfl⟩,rfl,by simp [Blk.names]⟩
       · cases e
     · cases e
   · cases e
theorem ok_move (C:Ctx ρ t h a w) {dst:Option Tmp} {x:Operand} {ty:TypeId} {pos:String} {after:Array Edge} {gu:Option (Nat×Bool)}:ReqOK P ρ h a w ⟨dst,.move x,ty,pos,after,gu⟩ (.val (ev t x)):=
 ⟨a.eval x,by simp [execOp],ev_rel C x,ev_names C x⟩
theorem ok_assign (C:Ctx ρ t h a w) {dst:Option Tmp} {x:Operand} {ty:TypeId} {pos:String} {after:Array Edge} {gu:Option (Nat×Bool)}:ReqOK P ρ h a w ⟨dst,.assign x,ty,pos,after,gu⟩ (.val (ev t x)):=
 ⟨a.eval x,by simp [execOp],ev_rel C x,ev_names C x⟩
theorem ev_bool (C:Ctx ρ t h a w) {x:Operand} {b:Bool} (e:ev t x= .one (.bool b)):a.eval x= .bool b:=by
 have h1:=ev_rel C x
 rw [e] at h1
 exact h1 (by simp)
theorem ok_pick (C:Ctx ρ t h a w) {dst:Option Tmp} {c x y:Operand} {ty:TypeId} {pos:String} {after:Array Edge} {gu:Option (Nat×Bool)} {b:Bool} (e:ev t c= .one (.bool b)) :
 ReqOK P ρ h a w ⟨dst,.pick c x y,ty,pos,after,gu⟩ (.pick b (ev t x) (ev t y)):=by
 refine ⟨if b then a.eval x else a.eval y,?_,?_,?_⟩
 · simp [execOp,ev_bool C e,asBool]
 · cases b
   · exact ev_rel C y
   · exact ev_rel C x
 · cases b
   · exact ev_names C y
   · exact ev_names C x
theorem ok_box (C:Ctx ρ t h a w) {dst:Option Tmp} {T:TypeId} {x:Operand} {ty:TypeId} {pos:String} {after:Array Edge} {gu:Option (Nat×Bool)} {ls:List L} (e:(ev t x).ls=some ls) :
 ReqOK P ρ h a w ⟨dst,.box T x,ty,pos,after,gu⟩ (.new (.cells T ls) .p):=by
 refine ⟨.cells (a.eval x).cells T,?_,⟨_,rfl,rfl,rel_ls (ev_rel C x) e⟩,rfl,?_⟩
 · simp [execOp,Instr.box,newVar,newRow,NewV.val]
 · simp only [Blk.names,ls_names e];exact ev_names C x
theorem ok_alloc {dst:Option Tmp} {T:TypeId} {ty:TypeId} {pos:String} {after:Array Edge} {gu:Option (Nat×Bool)} {i:TypeInfo} {z:Value} {ls:List L}
 (hi:P.info? T=some i) (hz:i.zero=some z) (e:(ofV z).ls=some ls):ReqOK P ρ h a w ⟨dst,.alloc T,ty,pos,after,gu⟩ (.new (.cells T (norm P 8 T ls)) .p):=by
 refine ⟨.cells z.cells T,?_,⟨_,rfl,rfl,norm_rel _ _ _ _ (rel_ls (ofV_rel z) e)⟩,rfl,fun m hm=> ?_⟩
 · simp [execOp,Instr.alloc,zeroValue,run_typeInfo (P:=P) w hi,hz,newVar,newRow,NewV.val]
 · have:=norm_names _ _ _ (show m∈lnames (norm P 8 T ls) from hm)
   simp [ls_names e,ofV_names] at this
theorem caps_rel (C:Ctx ρ t h a w):∀ {xs:List Operand} {r:List (Nat×Nat)},capsOf t xs=some r→xs.map a.eval=capVals ρ r∧∀ m∈capN r,h m≠none
 | [],r,e=>by simp [capsOf] at e;subst e;exact ⟨rfl,by simp [capN]⟩
 | x::xs,r,e=>by
   simp only [capsOf] at e
   split at e
   · rename_i i o hx
     split at e
     · rename_i r' hr
       obtain rfl:(i,o)::r'=r:=by simpa using e
       obtain ⟨h1,h2⟩:=ev_ptr C hx
       obtain ⟨h3,h4⟩:=caps_rel C hr
       refine ⟨by simp [capVals,h1,h3],fun m hm=> ?_⟩
       simp only [capN,List.mem_cons] at hm
       rcases hm with rfl | hm
       · exact h2
       · exact h4 m hm
     · cases e
   · cases e
theorem ok_makeFunc (C:Ctx ρ t h a w) {dst:Option Tmp} {fn:Fn} {fst cap:Array Operand} {ty:TypeId} {pos:String} {after:Array Edge} {gu:Option (Nat×Bool)} {c:Cond} {r:Req}
 (e:req P (.makeFunc fn fst cap) t=some (c,r)):ReqOK P ρ h a w ⟨dst,.makeFunc fn fst cap,ty,pos,after,gu⟩ r:=by
 simp only [req] at e
 split at e
 · rename_i f hf
   split at e
   · rename_i r' hr
     simp only [Option.some.injEq,Prod.mk.injEq] at e
     obtain ⟨-,rfl⟩:=e
     obtain ⟨h1,h2⟩:=caps_rel C hr
     obtain rfl:fst=#[]:=by cases fst;simp_all
     refine ⟨_,?_,fun _=>rfl,by simpa [AV.names,L.names] using h2⟩
     simp only [execOp,Instr.makeFunc,gL]
     have:cap.map a.eval=(capVals ρ r').toArray:=by rw [← h1,← Array.toList_map,Array.toArray_toList]
     simp [this]
   · cases e
 · cases e
theorem ok_nilCheck (C:Ctx ρ t h a w) {dst:Option Tmp} {x:Operand} {ty:TypeId} {pos:String} {after:Array Edge} {gu:Option (Nat×Bool)} {c:Cond} {r:Req} (e:req P (.nilCheck x) t=some (c,r)) :
 ReqOK P ρ h a w ⟨dst,.nilCheck x,ty,pos,after,gu⟩ r:=by
 simp only [req] at e
 split at e
 · rename_i i off hx
   simp only [Option.some.injEq,Prod.mk.injEq] at e
   obtain ⟨-,rfl⟩:=e
   obtain ⟨hev,hin⟩:=ev_ptr C hx
   exact ⟨_,by simp only [execOp,hev];rfl,fun _=>rfl,by simpa [AV.names,L.names] using hin⟩
 · rename_i i o z k p hx
   simp only [Option.some.injEq,Prod.mk.injEq] at e
   obtain ⟨-,rfl⟩:=e
   obtain ⟨hev,hin⟩:=ev_rptr C hx
   exact ⟨_,by simp only [execOp,hev];rfl,fun _=>rfl,by simpa [AV.names,L.names] using hin⟩
 · cases e
theorem nth_eq {α:Type _}:∀ (l:List α) (n:Nat),nth l n=l[n]?
 | [],n=>by simp [nth]
 | x::l,0=>by simp [nth]
 | x::l,n + 1=>by simp [nth,nth_eq l n]
theorem ok_fieldAddr (C:Ctx ρ t h a w) {dst:Option Tmp} {T:TypeId} {x:Operand} {f:Nat} {ty:TypeId} {pos:String} {after:Array Edge} {gu:Option (Nat×Bool)} {c:Cond} {r:Req}
 (e:req P (.fieldAddr T x f) t=some (c,r)):ReqOK P ρ h a w ⟨dst,.fieldAddr T x f,ty,pos,after,gu⟩ r:=by
 simp only [req] at e
 split at e
 · rename_i i off hx
   obtain ⟨hev,hin⟩:=ev_ptr C hx
   split at e
   · rename_i fs hu
     split at e
     · rename_i fd hf
       rw [nth_eq] at hf
       split at e
       · rename_i inf hi
         split at e
         · rename_i hz
           simp only [Option.some.injEq,Prod.mk.injEq] at e
           obtain ⟨-,rfl⟩:=e
           have hz':¬ inf.size=0:=Nat.ne_of_beq_eq_false hz
           refine ⟨_,?_,fun _=>rfl,by simpa [AV.names,L.names] using hin⟩
           have hf':fs[f]? =some fd:=by simpa using hf
           simp [execOp,Instr.fieldAt,run_underlying hu,hf',hev,Instr.sureAddr,fieldPlace,sizeOf_run hi,hz',addr_add,gL,Nat.add_assoc]
         · cases e
       · cases e
     · cases e
   · cases e
 · rename_i i o z k p hx
   obtain ⟨hev,hin⟩:=ev_rptr C hx
   split at e
   · rename_i fs hu
     split at e
     · rename_i fd hf
       rw [nth_eq] at hf
       split at e
       · rename_i inf hi
         split at e
         · rename_i hz
           simp only [Option.some.injEq,Prod.mk.injEq] at e
           obtain ⟨-,rfl⟩:=e
           have hz':¬ inf.size=0:=Nat.ne_of_beq_eq_false hz
           refine ⟨_,?_,fun _=>rfl,by simpa [AV.names,L.names] using hin⟩
           have hf':fs[f]? =some fd:=by simpa using hf
           simp [execOp,Instr.fieldAt,run_underlying hu,hf',hev,Instr.sureAddr,fieldPlace,sizeOf_run hi,hz',addr_add,gL,Nat.add_assoc]
         · cases e
       · cases e
     · cases e
   · cases e
 · rename_i p hx
   have h1:=ev_rel C x
   rw [hx] at h1
   have hev:=h1 (by simp)
   simp only [gL] at hev
   split at e
   · rename_i hsp
     have hp:p=⟨p.block,p.off,none⟩:=by rw [← hsp]
     split at e
     · rename_i fs hu
       split at e
       · rename_i fd hf
         rw [nth_eq] at hf
         split at e
         · rename_i inf hi
           split at e
           · rename_i hz
             simp only [Option.some.injEq,Prod.mk.injEq] at e
             obtain ⟨-,rfl⟩:=e
             have hz':¬ inf.size=0:=Nat.ne_of_beq_eq_false hz
             refine ⟨_,?_,fun _=>rfl,by simp [AV.names,L.names]⟩
             have hf':fs[f]? =some fd:=by simpa using hf
             rw [hp] at hev
             simp [execOp,Instr.fieldAt,run_underlying hu,hf',hev,Instr.sureAddr,fieldPlace,sizeOf_run hi,hz',addr_add,gL,Nat.add_assoc]
           · cases e
         · cases e
       · cases e
     · cases e
   · cases e
 · cases e
theorem part_run {cs:Array Value} {ls:List L} (hr:RelLs ρ ls cs.toList) {T:TypeId} {inf:TypeInfo} (hi:P.info? T=some inf) (hA:isAggT P T=some true) (off:Nat) {r:List L}
 (ht:takeL (dropL ls off) inf.size=some r):∃ u,(part T cs off).run P w= .ok u w∧RelA ρ (.agg r) u:=by
 have ⟨h1,h2⟩:=relLs_take _ ht (relLs_drop off hr)
 refine ⟨.agg (cs.extract off (off + inf.size)),by simp [part,isAgg_run hA,sizeOf_run hi],_,rfl,?_⟩
 rw [Array.toList_extract,List.extract_eq_take_drop]
 rw [show off + inf.size - off=inf.size by omega]
 exact h1
theorem part_one {cs:Array Value} {ls:List L} (hr:RelLs ρ ls cs.toList) {T:TypeId} (hA:isAggT P T=some false) (off:Nat) {l:L}
 (ht:headL (dropL ls off)=some l):∃ u,(part T cs off).run P w= .ok u w∧RelL ρ l u:=by
 obtain ⟨v,hv,hl,-⟩:=relLs_head (relLs_drop off hr) ht
 refine ⟨v,?_,hl⟩
 have:cs[off]? =some v:=by rw [List.head?_drop] at hv;simpa using hv
 simp [part,isAgg_run hA,this]
theorem ok_field (C:Ctx ρ t h a w) {dst:Option Tmp} {T:TypeId} {x:Operand} {f:Nat} {ty:TypeId} {pos:String} {after:Array Edge} {gu:Option (Nat×Bool)} {c:Cond} {r:Req}
 (e:req P (.field T x f) t=some (c,r)):ReqOK P ρ h a w ⟨dst,.field T x f,ty,pos,after,gu⟩ r:=by
 simp only [req] at e
 split at e
 · rename_i ls hx
   have h1:=ev_rel C x
   have h2:=ev_names C x
   rw [hx] at h1 h2
   obtain ⟨cs,hev,hr⟩:=h1
   split at e
   · rename_i fs hu
     split at e
     · rename_i fd hf
       rw [nth_eq] at hf
       have hf':fs[f]? =some fd:=by simpa using hf
       split at e
       · rename_i inf hi
         split at e
         · rename_i hA
           split at e
           · rename_i r' ht
             simp only [Option.some.injEq,Prod.mk.injEq] at e
             obtain ⟨-,rfl⟩:=e
             obtain ⟨u,hu',hr'⟩:=part_run (P:=P) (w:=w) hr hi hA _ ht
             exact ⟨u,by simp [execOp,Instr.field,run_underlying hu,hf',hev,asAgg,hu'],hr',fun m hm=>h2 m (sub_names ht hm)⟩
           · cases e
         · rename_i hA
           split at e
           · rename_i l ht
             simp only [Option.some.injEq,Prod.mk.injEq] at e
             obtain ⟨-,rfl⟩:=e
             obtain ⟨u,hu',hr'⟩:=part_one (P:=P) (w:=w) hr hA _ ht
             exact ⟨u,by simp [execOp,Instr.field,run_underlying hu,hf',hev,asAgg,hu'],hr',fun m hm=>h2 m (head_names ht hm)⟩
           · cases e
         · cases e
       · cases e
     · cases e
   · cases e
 · cases e
theorem bothC_holds {c d:Cond} (h:(bothC c d).holds):c.holds∧d.holds:=by
 cases c with
 | t=>exact ⟨trivial,h⟩
 | p p i=>cases d with
   | t=>exact ⟨h,trivial⟩
   | p q j=>exact h
theorem constIx_eval {x:Operand} {n:Nat} (hx:constIx x=some n):a.eval x= .int .i64 n:=by
 cases x with
 | const v=>
   cases v with
   | int k m=>
     cases k<;>cases m<;>simp [constIx] at hx
     subst hx;rfl
   | _=>simp [constIx] at hx
 | _=>simp [constIx] at hx
theorem andC_holds {c:Cond} {p:Prop} [Decidable p] (h:(andC c p).holds):c.holds∧p:=by
 cases c with
 | t=>exact ⟨trivial,h⟩
 | p q i=>exact h
theorem ix_run {y:L} {c:Cond} {n:Nat} (e:ixL y=some (c,n)) (hc:c.holds) {v:Value} (hv:RelL ρ y v):∃ k m,v= .int k m∧0≤m∧m.toNat=n:=by
 cases y with
 | b64 s x=>
   obtain rfl:=hv (by simp)
   cases s<;>simp only [ixL,Option.some.injEq,Prod.mk.injEq] at e<;>obtain ⟨rfl,rfl⟩:=e
   · exact ⟨_,_,rfl,by simp [vI],by simp [vI]⟩
   · exact ⟨_,_,rfl,hc,n_toNat x hc⟩
 | b32 s x=>
   obtain rfl:=hv (by simp)
   cases s<;>simp only [ixL,Option.some.injEq,Prod.mk.injEq] at e<;>obtain ⟨rfl,rfl⟩:=e
   · exact ⟨_,_,rfl,by simp [vI],by simp [vI]⟩
   · exact ⟨_,_,rfl,hc,n_toNat x hc⟩
 | b16 s x=>
   obtain rfl:=hv (by simp)
   cases s<;>simp only [ixL,Option.some.injEq,Prod.mk.injEq] at e<;>obtain ⟨rfl,rfl⟩:=e
   · exact ⟨_,_,rfl,by simp [vI],by simp [vI]⟩
   · exact ⟨_,_,rfl,hc,n_toNat x hc⟩
 | b8 s x=>
   obtain rfl:=hv (by simp)
   cases s<;>simp only [ixL,Option.some.injEq,Prod.mk.injEq] at e<;>obtain ⟨rfl,rfl⟩:=e
   · exact ⟨_,_,rfl,by simp [vI],by simp [vI]⟩
   · exact ⟨_,_,rfl,hc,n_toNat x hc⟩
 | _=>simp [ixL] at e
theorem ev_slc (C:Ctx ρ t h a w) {x:Operand} {i off n c:Nat} (e:ev t x= .one (.slc i off n c)):a.eval x= .slice (some ⟨(ρ i).b,(ρ i).o + off,none⟩) n c∧h i≠none:=by
 have h1:=ev_rel C x
 rw [e] at h1
 refine ⟨h1 (by simp),?_⟩
 have h2:=ev_names C x
 rw [e] at h2
 exact h2 i (by simp [AV.names,L.names])
theorem ok_indexAddr (C:Ctx ρ t h a w) {dst:Option Tmp} {T:TypeId} {x i:Operand} {ty:TypeId} {pos:String} {after:Array Edge} {gu:Option (Nat×Bool)} {c:Cond} {r:Req}
 (e:req P (.indexAddr T x i) t=some (c,r)) (hc:c.holds):ReqOK P ρ h a w ⟨dst,.indexAddr T x i,ty,pos,after,gu⟩ r:=by
 simp only [req] at e
 split at e
 · rename_i b off hx
   obtain ⟨hev,hin⟩:=ev_ptr C hx
   split at e
   · rename_i n el hu
     split at e
     · rename_i inf hi
       split at e
       · rename_i k hk
         split at e
         · rename_i hlt
           simp only [Option.some.injEq,Prod.mk.injEq] at e
           obtain ⟨-,rfl⟩:=e
           have hlt':k<n:=by simpa using hlt
           refine ⟨_,?_,fun _=>rfl,by simpa [AV.names,L.names] using hin⟩
           have hk':=constIx_eval (a:=a) hk
           simp [execOp,Instr.indexAt,hk',asIntOf,run_underlying hu,hev,Instr.sureAddr,sizeOf_run hi,hlt',addr_add,gL,Nat.add_assoc]
         · cases e
       · split at e
         · rename_i l hl
           split at e
           · rename_i c' k hk
             split at e
             · rename_i h16 hs1
               simp only [Option.some.injEq,Prod.mk.injEq] at e
               obtain ⟨rfl,rfl⟩:=e
               obtain ⟨h1,hlt⟩:=andC_holds hc
               have hrl:=ev_rel C i
               rw [hl] at hrl
               obtain ⟨ki,m,hv,h0,rfl⟩:=ix_run hk h1 hrl
               have hlt':m<(n:Int):=by omega
               have hsz:inf.size=1:=by simpa using hs1
               refine ⟨_,?_,fun _=>rfl,by simpa [AV.names,L.names] using hin⟩
               simp [execOp,Instr.indexAt,hv,asIntOf,run_underlying hu,hev,Instr.sureAddr,sizeOf_run hi,h0,hlt',addr_add,gL,hsz,Nat.add_assoc]
             · have key:c'.holds→k<n→(execOp a.eval ⟨dst,.indexAddr T x i,ty,pos,after,gu⟩).run P w= .ok (.value (.pointer (some ⟨(ρ b).b,(ρ b).o + (off + k*inf.size),none⟩))) w:=by
                intro h1 hlt
                have hrl:=ev_rel C i
                rw [hl] at hrl
                obtain ⟨ki,m,hv,h0,rfl⟩:=ix_run hk h1 hrl
                have hlt':m<(n:Int):=by omega
                simp [execOp,Instr.indexAt,hv,asIntOf,run_underlying hu,hev,Instr.sureAddr,sizeOf_run hi,h0,hlt',addr_add,Nat.add_assoc]
               split at e
               · simp only [Option.some.injEq,Prod.mk.injEq] at e
                 obtain ⟨rfl,rfl⟩:=e
                 obtain ⟨h1,hlt⟩:=andC_holds hc
                 exact ⟨_,key h1 hlt,fun _=>by simp [gL,Nat.mul_comm],by simpa [AV.names,L.names] using hin⟩
               · simp only [Option.some.injEq,Prod.mk.injEq] at e
                 obtain ⟨rfl,rfl⟩:=e
                 obtain ⟨h1,hlt⟩:=andC_holds hc
                 exact ⟨_,key h1 hlt,fun _=>rfl,by simpa [AV.names,L.names] using hin⟩
           · cases e
         · cases e
     · cases e
   · cases e
 · rename_i b off len cp hx
   obtain ⟨hev,hin⟩:=ev_slc C hx
   split at e
   · rename_i el hu
     split at e
     · rename_i inf hi
       split at e
       · rename_i l hl
         split at e
         · rename_i c' k hk
           simp only [Option.some.injEq,Prod.mk.injEq] at e
           obtain ⟨rfl,rfl⟩:=e
           obtain ⟨h1,hlt⟩:=andC_holds hc
           have hrl:=ev_rel C i
           rw [hl] at hrl
           obtain ⟨ki,m,hv,h0,rfl⟩:=ix_run hk h1 hrl
           have hlt':m<(len:Int):=by omega
           refine ⟨_,?_,fun _=>rfl,by simpa [AV.names,L.names] using hin⟩
           simp [execOp,Instr.indexAt,hv,asIntOf,run_underlying hu,hev,sizeOf_run hi,h0,hlt',addr_add,gL,Nat.add_assoc,Nat.mul_comm]
         · cases e
       · cases e
     · cases e
   · cases e
 · rename_i b len hx
   obtain ⟨hev,hin⟩:=ev_rsl C hx
   split at e
   · rename_i el hu
     split at e
     · rename_i inf hi
       split at e
       · rename_i l hl
         split at e
         · rename_i c' k hk
           simp only [Option.some.injEq,Prod.mk.injEq] at e
           obtain ⟨rfl,rfl⟩:=e
           obtain ⟨h1,hlt⟩:=andC_holds hc
           have hrl:=ev_rel C i
           rw [hl] at hrl
           obtain ⟨ki,m,hv,h0,rfl⟩:=ix_run hk h1 hrl
           have hlt':m<(len:Int):=by omega
           refine ⟨_,?_,fun _=>rfl,by simpa [AV.names,L.names] using hin⟩
           simp [execOp,Instr.indexAt,hv,asIntOf,run_underlying hu,hev,sizeOf_run hi,h0,hlt',addr_add,gL,Nat.mul_comm]
         · cases e
       · cases e
     · cases e
   · cases e
 · rename_i b z frm _ len hx
   obtain ⟨hev,hin⟩:=ev_rsc C hx
   split at e
   · rename_i el hu
     split at e
     · rename_i inf hi
       split at e
       · rename_i l hl
         split at e
         · rename_i c' k hk
           simp only [Option.some.injEq,Prod.mk.injEq] at e
           obtain ⟨rfl,rfl⟩:=e
           obtain ⟨h1,hlt⟩:=andC_holds hc
           have hrl:=ev_rel C i
           rw [hl] at hrl
           obtain ⟨ki,m,hv,h0,rfl⟩:=ix_run hk h1 hrl
           have hlt':m<(len:Int):=by omega
           refine ⟨hin,fun blk hb c v hbv hcc=> ?_⟩
           cases blk with
           | row T' z' n' f=>
             dsimp only at hbv
             split at hbv
             · rename_i hz
               simp only [Option.some.injEq,Prod.mk.injEq] at hbv
               obtain ⟨rfl,rfl⟩:=hbv
               obtain rfl:z=inf.size:=by simpa using hz
               have hle:frm + len≤n':=hcc
               obtain ⟨cs,hw,hq,hsz,hnc,-,hseg⟩:=C.heap b _ hb
               have hne:¬ (ρ b).c=frm:=by omega
               rw [if_neg hne] at hev
               refine ⟨_,?_,fun _=>rfl,by simpa [AV.names,L.names] using hin⟩
               simp [execOp,Instr.indexAt,hv,asIntOf,run_underlying hu,hev,sizeOf_run hi,h0,hlt',addr_add,gL,Nat.mul_add,Nat.add_assoc,Nat.mul_comm]
             · cases hbv
           | _=>simp at hbv
         · cases e
       · cases e
     · cases e
   · cases e
 · rename_i p hx
   have h1:=ev_rel C x
   rw [hx] at h1
   have hev:=h1 (by simp)
   simp only [gL] at hev
   split at e
   · rename_i hsp
     have hp:p=⟨p.block,p.off,none⟩:=by rw [← hsp]
     split at e
     · rename_i n el hu
       split at e
       · rename_i inf hi
         split at e
         · rename_i l hl
           split at e
           · rename_i c' k hk
             simp only [Option.some.injEq,Prod.mk.injEq] at e
             obtain ⟨rfl,rfl⟩:=e
             obtain ⟨h1,hlt⟩:=andC_holds hc
             have hrl:=ev_rel C i
             rw [hl] at hrl
             obtain ⟨ki,m,hv,h0,rfl⟩:=ix_run hk h1 hrl
             have hlt':m<(n:Int):=by omega
             refine ⟨_,?_,fun _=>rfl,by simp [AV.names,L.names]⟩
             rw [hp] at hev
             simp [execOp,Instr.indexAt,hv,asIntOf,run_underlying hu,hev,Instr.sureAddr,sizeOf_run hi,h0,hlt',addr_add,gL]
           · cases e
         · cases e
       · cases e
     · cases e
   · cases e
 · rename_i b o z k p hx
   obtain ⟨hev,hin⟩:=ev_rptr C hx
   split at e
   · rename_i n el hu
     split at e
     · rename_i inf hi
       split at e
       · rename_i j hk
         split at e
         · rename_i hlt
           simp only [Option.some.injEq,Prod.mk.injEq] at e
           obtain ⟨-,rfl⟩:=e
           have hlt':j<n:=by simpa using hlt
           refine ⟨_,?_,fun _=>rfl,by simpa [AV.names,L.names] using hin⟩
           have hk':=constIx_eval (a:=a) hk
           simp [execOp,Instr.indexAt,hk',asIntOf,run_underlying hu,hev,Instr.sureAddr,sizeOf_run hi,hlt',addr_add,gL,Nat.add_assoc]
         · cases e
       · split at e
         · rename_i l hl
           split at e
           · rename_i c' j hk
             simp only [Option.some.injEq,Prod.mk.injEq] at e
             obtain ⟨rfl,rfl⟩:=e
             obtain ⟨h1,hlt⟩:=andC_holds hc
             have hrl:=ev_rel C i
             rw [hl] at hrl
             obtain ⟨ki,m,hv,h0,rfl⟩:=ix_run hk h1 hrl
             have hlt':m<(n:Int):=by omega
             refine ⟨_,?_,fun _=>rfl,by simpa [AV.names,L.names] using hin⟩
             simp [execOp,Instr.indexAt,hv,asIntOf,run_underlying hu,hev,Instr.sureAddr,sizeOf_run hi,h0,hlt',addr_add,gL,Nat.add_assoc]
           · cases e
         · cases e
     · cases e
   · cases e
 · cases e
theorem part_rd {cs:Array Value} {ls:List L} (hr:RelLs ρ ls cs.toList) {T:TypeId} {inf:TypeInfo} (hi:P.info? T=some inf) (hA:isAggT P T=some true) {z k:Nat} {r:List L} {c:Cond}
 (ht:rdR ls 0 z k 0 inf.size=some (c,r)) (hc:c.holds):∃ u,(part T cs (k*z)).run P w= .ok u w∧RelA ρ (.agg r) u:=by
 have ⟨h1,h2⟩:=relLs_rdR hr ht hc
 rw [Nat.zero_add,Nat.add_zero,Nat.mul_comm z k] at h1
 refine ⟨.agg (cs.extract (k*z) (k*z + inf.size)),by simp [part,isAgg_run hA,sizeOf_run hi],_,rfl,?_⟩
 rw [Array.toList_extract,List.extract_eq_take_drop]
 rw [show k*z + inf.size - k*z=inf.size by omega]
 exact h1
theorem part_rd1 {cs:Array Value} {ls:List L} (hr:RelLs ρ ls cs.toList) {T:TypeId} (hA:isAggT P T=some false) {k:Nat} {r:List L} {c:Cond} {l:L}
 (ht:rdR ls 0 1 k 0 1=some (c,r)) (hl:headL r=some l) (hc:c.holds):∃ u,(part T cs k).run P w= .ok u w∧RelL ρ l u:=by
 have ⟨h1,h2⟩:=relLs_rdR hr ht hc
 rw [Nat.zero_add,Nat.add_zero,Nat.one_mul] at h1
 obtain ⟨v,hv,hl',-⟩:=relLs_head h1 hl
 refine ⟨v,?_,hl'⟩
 have:cs[k]? =some v:=by
  rw [List.head?_take,if_neg (by omega),List.head?_drop] at hv
  simpa using hv
 simp [part,isAgg_run hA,this]
theorem nthB_eq:∀ (xs:List UInt8) (n:Nat),nthB xs n=(xs[n]?.getD 0).toBitVec
 | [],n=>by simp [nthB]
 | x::xs,0=>by simp [nthB]
 | x::xs,n + 1=>by simp [nthB,nthB_eq xs n]
theorem ixO_run (C:Ctx ρ t h a w) {i:Operand} {c:Cond} {k:Nat} (e:(match constIx i with | some k=>some (Cond.t,k) | none=>match ev t i with | .one l=>ixL l | _=>none)=some (c,k)) (hc:c.holds) :
 ∃ ki m,a.eval i= .int ki m∧0≤m∧m.toNat=k:=by
 split at e
 · rename_i k' hk'
   simp only [Option.some.injEq,Prod.mk.injEq] at e
   obtain ⟨-,rfl⟩:=e
   exact ⟨_,_,constIx_eval (a:=a) hk',by omega,by simp⟩
 · split at e
   · rename_i l hl
     have hrl:=ev_rel C i
     rw [hl] at hrl
     exact ix_run e hc hrl
   · cases e
theorem ok_index (C:Ctx ρ t h a w) {dst:Option Tmp} {T:TypeId} {x i:Operand} {ty:TypeId} {pos:String} {after:Array Edge} {gu:Option (Nat×Bool)} {c:Cond} {r:Req}
 (e:req P (.index T x i) t=some (c,r)) (hc:c.holds):ReqOK P ρ h a w ⟨dst,.index T x i,ty,pos,after,gu⟩ r:=by
 simp only [req] at e
 split at e
 · rename_i ls hx
   have h1:=ev_rel C x
   have h2:=ev_names C x
   rw [hx] at h1 h2
   obtain ⟨cs,hev,hr⟩:=h1
   split at e
   · rename_i n el hu
     split at e
     · rename_i inf c' k hi hk
       have key:c'.holds→∃ ki m,a.eval i= .int ki m∧0≤m∧m<(n:Int)∧m.toNat=k:=by
        intro hc'
        split at hk
        · rename_i k' hk'
          split at hk
          · rename_i hlt
            simp only [Option.some.injEq,Prod.mk.injEq] at hk
            obtain ⟨-,rfl⟩:=hk
            have hlt':k'<n:=by simpa using hlt
            exact ⟨_,_,constIx_eval (a:=a) hk',by omega,by omega,by simp⟩
          · cases hk
        · split at hk
          · rename_i l hl
            split at hk
            · rename_i c2 k2 hk2
              simp only [Option.some.injEq,Prod.mk.injEq] at hk
              obtain ⟨rfl,rfl⟩:=hk
              obtain ⟨h3,hlt⟩:=andC_holds hc'
              have hrl:=ev_rel C i
              rw [hl] at hrl
              obtain ⟨ki,m,hv,h0,hm⟩:=ix_run hk2 h3 hrl
              exact ⟨ki,m,hv,h0,by omega,hm⟩
            · cases hk
          · cases hk
       split at e
       · rename_i hA
         split at e
         · rename_i d r' ht
           simp only [Option.some.injEq,Prod.mk.injEq] at e
           obtain ⟨rfl,rfl⟩:=e
           obtain ⟨hc1,hc2⟩:=bothC_holds hc
           obtain ⟨ki,m,hv,h0,hlt,rfl⟩:=key hc1
           obtain ⟨u,hu',hr'⟩:=part_rd (P:=P) (w:=w) hr hi hA ht hc2
           exact ⟨u,by simp [execOp,Instr.index,hv,asIntOf,run_underlying hu,hev,sizeOf_run hi,h0,hlt,hu'],hr',fun m hm=>h2 m (rdR_names ht hm)⟩
         · cases e
       · rename_i hA
         split at e
         · rename_i hs1
           have hs1':inf.size=1:=by simpa using hs1
           split at e
           · rename_i l hsel
             simp only [Option.some.injEq,Prod.mk.injEq] at e
             obtain ⟨rfl,rfl⟩:=e
             obtain ⟨hc1,hc2⟩:=bothC_holds hc
             obtain ⟨ki,m,hv,h0,hlt,rfl⟩:=key hc1
             have hsel':selL ls m.toNat=some l:=by
              split at hsel
              · cases hsel
              · exact hsel
             have hlen:=selL_len hsel' hr
             obtain ⟨g1,g2⟩:=selL_get hsel' hr (by rw [hlen];exact hc2)
             have hu':(part el cs m.toNat).run P w= .ok (gL ρ l) w:=by
              have:cs[m.toNat]? =some (gL ρ l):=by simpa using g1
              simp [part,isAgg_run hA,this]
             exact ⟨gL ρ l,by simp [execOp,Instr.index,hv,asIntOf,run_underlying hu,hev,sizeOf_run hi,h0,hlt,hs1',hu'],fun _=>rfl,fun m hm=>by simp only [AV.names] at hm;rw [g2] at hm;cases hm⟩
           · split at e
             · rename_i d r' ht
               split at e
               · rename_i l hl
                 simp only [Option.some.injEq,Prod.mk.injEq] at e
                 obtain ⟨rfl,rfl⟩:=e
                 obtain ⟨hc1,hc2⟩:=bothC_holds hc
                 obtain ⟨ki,m,hv,h0,hlt,rfl⟩:=key hc1
                 obtain ⟨u,hu',hr'⟩:=part_rd1 (P:=P) (w:=w) hr hA ht hl hc2
                 exact ⟨u,by simp [execOp,Instr.index,hv,asIntOf,run_underlying hu,hev,sizeOf_run hi,h0,hlt,hs1',hu'],hr',fun m hm=>h2 m (rdR_names ht (headL_names hl hm))⟩
               · cases e
             · cases e
         · cases e
       · cases e
     · cases e
   · cases e
 · rename_i s hx
   have h1:=ev_rel C x
   rw [hx] at h1
   have hev:=h1 (by simp)
   simp only [gL] at hev
   split at e
   · rename_i hu
     split at e
     · rename_i c' k hk
       simp only [Option.some.injEq,Prod.mk.injEq] at e
       obtain ⟨rfl,rfl⟩:=e
       obtain ⟨hc',hlt⟩:=andC_holds hc
       obtain ⟨ki,m,hv,h0,rfl⟩:=ixO_run C hk hc'
       have hb:s[m.toNat]? =some s.data[m.toNat]:=by
        rw [getElem?_def,dif_pos hlt];rfl
       have hd:s.data[m.toNat]? =some s.data[m.toNat]:=by simp
       refine ⟨.int .u8 (s.data[m.toNat].toNat:Int),?_,fun _=> ?_,by simp [AV.names,L.names]⟩
       · simp [execOp,Instr.index,hv,asIntOf,run_underlying hu,hev,h0,hb]
       · simp only [gL,byteAt,nthB_eq];rw [← Array.getElem?_toList] at hd;rw [hd];rfl
     · cases e
   · cases e
 · cases e
theorem dropU_eq:∀ (xs:List UInt8) (n:Nat),dropU xs n=xs.drop n
 | xs,0=>by cases xs<;>rfl
 | [],n + 1=>by simp [dropU]
 | _::xs,n + 1=>by simp [dropU,dropU_eq xs n]
theorem takeU_eq:∀ (xs:List UInt8) (n:Nat),takeU xs n=xs.take n
 | xs,0=>by cases xs<;>rfl
 | [],n + 1=>by simp [takeU]
 | _::xs,n + 1=>by simp [takeU,takeU_eq xs n]
theorem exB_eq (s:ByteArray) (l h:Nat):s.extract l h=exB s l h:=by
 apply ByteArray.ext
 rw [ByteArray.data_extract]
 apply Array.ext'
 rw [Array.toList_extract,List.extract_eq_take_drop]
 simp only [exB,takeU_eq,dropU_eq]
theorem boundK_run (C:Ctx ρ t h a w) {x:Option Operand} {d k:Nat} {c:Cond} (e:boundK t x d=some (c,k)) (hc:c.holds) :
 (x.map a.eval=none∧k=d)∨∃ ki m,x.map a.eval=some (.int ki m)∧0≤m∧m.toNat=k:=by
 unfold boundK at e
 split at e
 · simp only [Option.some.injEq,Prod.mk.injEq] at e
   obtain ⟨-,rfl⟩:=e
   exact .inl ⟨rfl,rfl⟩
 · rename_i x
   obtain ⟨ki,m,hv,h0,hm⟩:=ixO_run C (i:=x) (c:=c) (k:=k) e hc
   exact .inr ⟨ki,m,by simp [hv],h0,hm⟩
theorem bounds_run (b:Bool) (len cap:Nat) {lo hi:Option Value} {l u:Nat} (hlo:(lo=none∧l=0)∨∃ k m,lo=some (.int k m)∧0≤m∧m.toNat=l)
 (hhi:(hi=none∧u=len)∨∃ k m,hi=some (.int k m)∧0≤m∧m.toNat=u) (h1:l≤u) (h2:u≤cap):(Instr.sliceBounds b len cap lo hi none).run P w= .ok (l,u,cap) w:=by
 have hb:∀ (k:IntKind) (m:Int) (y:Nat) (code:BoundsCode),0≤m→m.toNat≤y→(Instr.sliceBound (.int k m) y code).run P w= .ok m.toNat w:=by
  intro k m y code h0 h1
  simp [Instr.sliceBound,asIntOf,h0,show m≤(y:Int) by omega]
 rcases hlo with ⟨rfl,rfl⟩ | ⟨k,m,rfl,h3,rfl⟩<;>rcases hhi with ⟨rfl,rfl⟩ | ⟨k',m',rfl,h4,rfl⟩
 · simp [Instr.sliceBounds]
 · simp [Instr.sliceBounds,hb _ _ _ _ h4 h2]
 · simp [Instr.sliceBounds,hb _ _ _ _ h3 h1]
 · simp [Instr.sliceBounds,hb _ _ _ _ h4 h2,hb _ _ _ _ h3 h1]
theorem bounds_run3 (b:Bool) (len cap:Nat) {u m:Nat} {vh vm:Value}
 (hhi:∃ k n,vh= .int k n∧0≤n∧n.toNat=u) (hm:∃ k n,vm= .int k n∧0≤n∧n.toNat=m) (h2:u≤m) (h3:m≤cap):(Instr.sliceBounds b len cap none (some vh) (some vm)).run P w= .ok (0,u,m) w:=by
 have hb:∀ (k:IntKind) (m:Int) (y:Nat) (code:BoundsCode),0≤m→m.toNat≤y→(Instr.sliceBound (.int k m) y code).run P w= .ok m.toNat w:=by
  intro k m y code h0 h1
  simp [Instr.sliceBound,asIntOf,h0,show m≤(y:Int) by omega]
 obtain ⟨k,n,rfl,h0,rfl⟩:=hm
 obtain ⟨k',m',rfl,h4,rfl⟩:=hhi
 simp [Instr.sliceBounds,hb _ _ _ _ h0 h3,hb _ _ _ _ h4 h2]
theorem ok_slice (C:Ctx ρ t h a w) {dst:Option Tmp} {T:TypeId} {x:Operand} {lo hi mx:Option Operand} {ty:TypeId} {pos:String} {after:Array Edge} {gu:Option (Nat×Bool)} {c:Cond} {r:Req}
 (e:req P (.slice T x lo hi mx) t=some (c,r)) (hc:c.holds):ReqOK P ρ h a w ⟨dst,.slice T x lo hi mx,ty,pos,after,gu⟩ r:=by
 simp only [req] at e
 split at e
 · rename_i mo
   split at e
   · rename_i i n hx
     obtain ⟨hev,hin⟩:=ev_rsl C hx
     split at e
     · rename_i el hu
       split at e
       · rename_i inf ho c1 u c2 m hi' hh hm
         simp only [Option.some.injEq,Prod.mk.injEq] at e
         obtain ⟨rfl,rfl⟩:=e
         obtain ⟨hc3,hle⟩:=bothC_holds hc
         obtain ⟨hc1,hc2⟩:=bothC_holds hc3
         refine ⟨hin,fun b hb c v hv hcc=> ?_⟩
         cases b with
         | row T' z n' f=>
           dsimp only at hv
           split at hv
           · rename_i hz
             simp only [Option.some.injEq,Prod.mk.injEq] at hv
             obtain ⟨rfl,rfl⟩:=hv
             have hmn:m≤n':=hcc
             obtain ⟨cs,hw,h0,hsz,hnc,-,hseg⟩:=C.heap i _ hb
             have hm':∃ k q,a.eval mo= .int k q∧0≤q∧q.toNat=m:=by
              rcases boundK_run C (k:=m) (x:=some mo) (by assumption) (by assumption) with ⟨h,-⟩ | ⟨k,q,h,h0,h1⟩
              · simp at h
              · exact ⟨k,q,by simpa using h,h0,h1⟩
             have hh':∃ k q,a.eval ho= .int k q∧0≤q∧q.toNat=u:=by
              rcases boundK_run C (k:=u) (x:=some ho) (by assumption) (by assumption) with ⟨h,-⟩ | ⟨k,q,h,h0,h1⟩
              · simp at h
              · exact ⟨k,q,by simpa using h,h0,h1⟩
             have hbd:=bounds_run3 (P:=P) (w:=w) true n (ρ i).c hh' hm' hle (Nat.le_trans hmn hnc)
             refine ⟨.slice (some ⟨(ρ i).b,(ρ i).o,none⟩) u m,?_,fun _=>by simp [gL],by simpa [AV.names,L.names] using hin⟩
             simp [execOp,Instr.sliceAt,Instr.slice,run_underlying hu,hev,hbd,sizeOf_run hi',addr_add]
           · cases hv
         | _=>simp at hv
       · cases e
     · cases e
   · cases e
 · split at e
   · rename_i s hx
     have h1:=ev_rel C x
     rw [hx] at h1
     have hev:=h1 (by simp)
     simp only [gL] at hev
     split at e
     · rename_i hu
       split at e
       · rename_i c1 l c2 u hl hh
         simp only [Option.some.injEq,Prod.mk.injEq] at e
         obtain ⟨rfl,rfl⟩:=e
         obtain ⟨hc3,hle⟩:=bothC_holds hc
         obtain ⟨hc1,hc2⟩:=bothC_holds hc3
         have hb:=bounds_run (P:=P) (w:=w) false s.size s.size (boundK_run C hl hc1) (boundK_run C hh hc2) hle.1 hle.2
         refine ⟨.string (exB s l u),?_,fun _=>rfl,by simp [AV.names,L.names]⟩
         simp [exB_eq,execOp,Instr.sliceAt,Instr.slice,run_underlying hu,hev,hb]
       · cases e
     · cases e
   · rename_i i off hx
     obtain ⟨hev,hin⟩:=ev_ptr C hx
     split at e
     · rename_i n el hu
       split at e
       · rename_i inf c1 l c2 u hi' hl hh
         split at e
         · rename_i hl0
           simp only [Option.some.injEq,Prod.mk.injEq] at e
           obtain ⟨rfl,rfl⟩:=e
           obtain ⟨hc3,hle⟩:=bothC_holds hc
           obtain ⟨hc1,hc2⟩:=bothC_holds hc3
           obtain rfl:l=0:=by simpa using hl0
           have hb:=bounds_run (P:=P) (w:=w) false n n (boundK_run C hl hc1) (boundK_run C hh hc2) (Nat.zero_le _) hle
           refine ⟨.slice (some ⟨(ρ i).b,(ρ i).o + off,none⟩) u n,?_,fun _=>rfl,by simpa [AV.names,L.names] using hin⟩
           simp [execOp,Instr.sliceAt,Instr.sureAddr,run_underlying hu,hev,hb,sizeOf_run hi',addr_add]
         · cases e
       · cases e
     · cases e
   · rename_i i n hx
     obtain ⟨hev,hin⟩:=ev_rsl C hx
     split at e
     · rename_i el hu
       split at e
       · rename_i inf c1 l hi' hl
         simp only [Option.some.injEq,Prod.mk.injEq] at e
         obtain ⟨rfl,rfl⟩:=e
         obtain ⟨hc1,hle⟩:=bothC_holds hc
         replace hle:l≤n:=hle
         refine ⟨hin,fun blk hb c v hbv hcc=> ?_⟩
         cases blk with
         | row T' z' n' f=>
           dsimp only at hbv
           split at hbv
           · rename_i hz
             simp only [Option.some.injEq,Prod.mk.injEq] at hbv
             obtain ⟨rfl,rfl⟩:=hbv
             obtain rfl:z'=inf.size:=by simpa using hz
             have hln:n≤n':=hcc
             obtain ⟨cs,hw,hq,hsz,hnc,-,hseg⟩:=C.heap i _ hb
             have hbd:=bounds_run (P:=P) (w:=w) true n (ρ i).c (boundK_run C hl hc1) (Or.inl ⟨rfl,rfl⟩) hle (Nat.le_trans hln hnc)
             refine ⟨_,?_,fun _=>rfl,by simpa [AV.names,L.names] using hin⟩
             by_cases hcl:(ρ i).c=l
             · rw [hcl] at hev hbd
               simp [execOp,Instr.sliceAt,Instr.slice,run_underlying hu,hev,hbd,sizeOf_run hi',addr_add,gL,hcl]
             · simp [execOp,Instr.sliceAt,Instr.slice,run_underlying hu,hev,hbd,sizeOf_run hi',addr_add,gL,hcl,Nat.mul_comm]
           · cases hbv
         | _=>simp at hbv
       · rename_i inf _ _ h1 hi' _
         split at e
         · rename_i d u hh _
           simp only [Option.some.injEq,Prod.mk.injEq] at e
           obtain ⟨rfl,rfl⟩:=e
           refine ⟨hin,fun blk hb c v hbv hcc=> ?_⟩
           cases blk with
           | row T' z' n' f=>
             simp only [Option.some.injEq,Prod.mk.injEq] at hbv
             obtain ⟨rfl,rfl⟩:=hbv
             have hun:u≤n':=hcc
             obtain ⟨cs,hw,hq,hsz,hnc,-,hseg⟩:=C.heap i _ hb
             have hbd:=bounds_run (P:=P) (w:=w) true n (ρ i).c (lo:=none) (l:=0) (Or.inl ⟨rfl,rfl⟩) (boundK_run C hh hc) (Nat.zero_le _) (Nat.le_trans hun hnc)
             simp only [Option.map_some] at hbd
             refine ⟨_,?_,fun _=>rfl,by simpa [AV.names,L.names] using hin⟩
             simp [execOp,Instr.sliceAt,Instr.slice,run_underlying hu,hev,hbd,sizeOf_run hi',addr_add,gL]
           | _=>simp at hbv
         · cases e
       · cases e
     · cases e
   · rename_i hx
     have hev:=ev_rel C x
     rw [hx] at hev
     have hev:=hev (by simp)
     simp only [gL] at hev
     split at e
     · rename_i el hu
       split at e
       · rename_i inf c1 l c2 u hi' hl hh
         simp only [Option.some.injEq,Prod.mk.injEq] at e
         obtain ⟨rfl,rfl⟩:=e
         obtain ⟨hc3,hle⟩:=bothC_holds hc
         obtain ⟨hc1,hc2⟩:=bothC_holds hc3
         obtain ⟨rfl,rfl⟩:l=0∧u=0:=hle
         have hbd:=bounds_run (P:=P) (w:=w) true 0 0 (boundK_run C hl hc1) (boundK_run C hh hc2) (Nat.le_refl _) (Nat.le_refl _)
         refine ⟨.slice none 0 0,?_,fun _=>rfl,by simp [AV.names,L.names]⟩
         simp [execOp,Instr.sliceAt,Instr.slice,run_underlying hu,hev,hbd,sizeOf_run hi']
       · cases e
     · cases e
   · rename_i i z k _ n hx
     obtain ⟨hev,hin⟩:=ev_rsc C hx
     split at e
     · rename_i el hu
       split at e
       · rename_i inf c1 l hi' hl
         simp only [Option.some.injEq,Prod.mk.injEq] at e
         obtain ⟨rfl,rfl⟩:=e
         obtain ⟨hc1,hle⟩:=bothC_holds hc
         replace hle:0<l∧l≤n:=hle
         refine ⟨hin,fun blk hb c v hbv hcc=> ?_⟩
         cases blk with
         | row T' z' n' f=>
           dsimp only at hbv
           split at hbv
           · rename_i hz
             simp only [Option.some.injEq,Prod.mk.injEq] at hbv
             obtain ⟨rfl,rfl⟩:=hbv
             obtain rfl:z=inf.size:=by simpa using hz
             have hln:k + n≤n':=hcc
             obtain ⟨cs,hw,hq,hsz,hnc,-,hseg⟩:=C.heap i _ hb
             have hbd:=bounds_run (P:=P) (w:=w) true n ((ρ i).c - k) (boundK_run C hl hc1) (Or.inl ⟨rfl,rfl⟩) hle.2 (by omega)
             refine ⟨_,?_,fun _=>rfl,by simpa [AV.names,L.names] using hin⟩
             have h1:¬ (ρ i).c=k:=by omega
             rw [if_neg h1] at hev
             by_cases h4:(ρ i).c=k + l
             · rw [h4] at hev hbd
               rw [show k + l - k=l by omega] at hev hbd
               simp [execOp,Instr.sliceAt,Instr.slice,run_underlying hu,hev,hbd,sizeOf_run hi',addr_add,gL,h4]
             · have h2:¬ (ρ i).c - k=l:=by omega
               simp [execOp,Instr.sliceAt,Instr.slice,run_underlying hu,hev,hbd,sizeOf_run hi',addr_add,gL,h2,h4,Nat.mul_add,Nat.add_assoc,Nat.mul_comm,Nat.sub_sub]
           · cases hbv
         | _=>simp at hbv
       · cases e
     · cases e
   · rename_i i off n cap hx
     obtain ⟨hev,hin⟩:=ev_slc C hx
     split at e
     · rename_i el hu
       split at e
       · rename_i inf c1 l hi' hl
         simp only [Option.some.injEq,Prod.mk.injEq] at e
         obtain ⟨rfl,rfl⟩:=e
         obtain ⟨hc1,hle⟩:=bothC_holds hc
         have hbd:=bounds_run (P:=P) (w:=w) true n cap (boundK_run C hl hc1) (Or.inl ⟨rfl,rfl⟩) hle.1 hle.2
         refine ⟨_,?_,fun _=>rfl,by simpa [AV.names,L.names] using hin⟩
         cases hb:Nat.beq l cap with
         | true=>
           obtain rfl:l=cap:=Nat.eq_of_beq_eq_true hb
           simp [execOp,Instr.sliceAt,Instr.slice,run_underlying hu,hev,hbd,sizeOf_run hi',addr_add,gL]
         | false=>
           have h2:¬ cap=l:=fun h=>by rw [h,Nat.beq_refl] at hb;cases hb
           simp [execOp,Instr.sliceAt,Instr.slice,run_underlying hu,hev,hbd,sizeOf_run hi',addr_add,gL,h2,Nat.add_assoc,Nat.mul_comm]
       · cases e
     · cases e
   · cases e
theorem relVs_nth:∀ {vs:List (Bool×List L)} {us:List Value} (k:Nat),RelVs ρ vs us →
 (∀ ls,vs[k]? =some (true,ls)→∃ u,us[k]? =some u∧RelA ρ (.agg ls) u)∧(∀ l,vs[k]? =some (false,[l])→∃ u,us[k]? =some u∧RelL ρ l u)
 | [],[],k,_=>by simp
 | (true,ls)::r,u::us,0,hr=>⟨fun ls' e=>by simp at e;subst e;exact ⟨u,rfl,hr.1⟩,fun l e=>by simp at e⟩
 | (true,ls)::r,u::us,k + 1,hr=>by simpa using relVs_nth k hr.2
 | (false,[l])::r,u::us,0,hr=>⟨fun ls' e=>by simp at e,fun l e=>by simp at e;subst e;exact ⟨u,rfl,hr.1⟩⟩
 | (false,[l])::r,u::us,k + 1,hr=>by simpa using relVs_nth k hr.2
 | [],_::_,_,hr=>hr.elim
 | (true,_)::_,[],_,hr=>hr.elim
 | (false,[])::_,_,_,hr=>by cases ‹List Value›<;>exact hr.elim
 | (false,_::_::_)::_,_,_,hr=>by cases ‹List Value›<;>exact hr.elim
 | (false,[_])::_,[],_,hr=>hr.elim
theorem vnames_mem {m:Nat}:∀ {vs:List (Bool×List L)} {k:Nat} {b:Bool} {ls:List L},vs[k]? =some (b,ls)→m∈lnames ls→m∈vnames vs
 | [],k,_,_,e,_=>by simp at e
 | (b',ls')::r,0,b,ls,e,hm=>by simp at e;obtain ⟨rfl,rfl⟩:=e;simp [vnames,hm]
 | (b',ls')::r,k + 1,b,ls,e,hm=>by simp at e;simp [vnames,vnames_mem e hm]
theorem ok_extract (C:Ctx ρ t h a w) {dst:Option Tmp} {x:Operand} {k:Nat} {ty:TypeId} {pos:String} {after:Array Edge} {gu:Option (Nat×Bool)} {c:Cond} {r:Req}
 (e:req P (.extract x k) t=some (c,r)):ReqOK P ρ h a w ⟨dst,.extract x k,ty,pos,after,gu⟩ r:=by
 simp only [req] at e
 split at e
 · rename_i vs hx
   have h1:=ev_rel C x
   have h2:=ev_names C x
   rw [hx] at h1 h2
   obtain ⟨cs,hev,hr⟩:=h1
   have hn:=relVs_nth k hr
   split at e
   · rename_i ls hk
     rw [nth_eq] at hk
     simp only [Option.some.injEq,Prod.mk.injEq] at e
     obtain ⟨-,rfl⟩:=e
     obtain ⟨u,hu,hu'⟩:=hn.1 ls hk
     have hu2:cs[k]? =some u:=by simpa using hu
     exact ⟨u,by simp [execOp,Instr.extract,hev,hu2],hu',fun m hm=>h2 m (vnames_mem hk hm)⟩
   · rename_i l hk
     rw [nth_eq] at hk
     simp only [Option.some.injEq,Prod.mk.injEq] at e
     obtain ⟨-,rfl⟩:=e
     obtain ⟨u,hu,hu'⟩:=hn.2 l hk
     have hu2:cs[k]? =some u:=by simpa using hu
     exact ⟨u,by simp [execOp,Instr.extract,hev,hu2],hu',fun m hm=>h2 m (vnames_mem hk (by simpa [lnames,AV.names] using hm))⟩
   · cases e
 · cases e
theorem store_cells {g:Nat} {T':TypeId} {cs:Array Value} (hc:w.heap[g]? =some (.cells cs T' (0,0))) {T:TypeId} {inf:TypeInfo} (hi:P.info? T=some inf) {v:Value} (hs:v.cells.size=inf.size)
 (h1:∀ u∈v.cells.toList,u.oneCell'=true) {off:Nat} (hle:off + v.cells.size≤cs.size) :
 ∃ cs':Array Value,(storeVar T ⟨g,off,none⟩ v).run P w= .ok () (w.setRow g cs')∧cs'.toList=cs.toList.take off++v.cells.toList++cs.toList.drop (off + v.cells.toList.length):=by
 refine ⟨(cs.toList.take off++v.cells.toList++cs.toList.drop (off + v.cells.size)).toArray,?_,by simp⟩
 have hrow:=run_storeCells_at (P:=P) g off T' v.cells.toList 0 cs w hc (by simpa using hle) h1
 have hn:¬ v.cells.size≠inf.size:=by simpa using hs
 simp only [storeVar]
 simp only [Sem.run_bind,Sem.run_pure,Result.andThen_ok,sizeOf_run hi]
 rw [if_neg hn]
 simpa using hrow
theorem ok_store (C:Ctx ρ t h a w) {dst:Option Tmp} {T:TypeId} {x y:Operand} {ty:TypeId} {pos:String} {after:Array Edge} {gu:Option (Nat×Bool)} {c:Cond} {r:Req}
 (e:req P (.store T x y) t=some (c,r)) (hcond:c.holds):ReqOK P ρ h a w ⟨dst,.store T x y,ty,pos,after,gu⟩ r:=by
 simp only [req] at e
 split at e
 · rename_i i off hx
   obtain ⟨hev,hin⟩:=ev_ptr C hx
   split at e
   · rename_i vs hvs
     have hrv:=rel_ls (ev_rel C y) hvs
     split at e
     · rename_i inf hok hsz hi
       simp only [Option.some.injEq,Prod.mk.injEq] at e
       obtain ⟨-,rfl⟩:=e
       refine ⟨hin,fun b hb c' b' hb' _=> ?_⟩
       cases b with
       | cells T' ls=>
         obtain ⟨cs,hc,h0,hr⟩:=C.heap i _ hb
         dsimp only at hb'
         split at hb'
         · rename_i ls' hset
           simp only [Option.some.injEq,Prod.mk.injEq] at hb'
           obtain ⟨-,rfl⟩:=hb'
           have hlv:=relLs_len hrv
           obtain ⟨h3,h4⟩:=relLs_setLs off hset hr hrv
           have hsz':wids vs=P.cellsOf T:=by simpa using hsz
           have hcl:(a.eval y).cells.size=inf.size:=by
            have:P.cellsOf T=inf.size:=by simp [Program.cellsOf,hi]
            simp at hlv;omega
           obtain ⟨cs',hrow,hcs'⟩:=store_cells (P:=P) hc hi hcl (okLs_one hrv hok) (off:=off) (by simpa using h4)
           refine ⟨w.setRow (ρ i).b cs',?_,setRow_turned _ _ _,⟨cs',setRow_heap _ _ _ _ _ _ hc,h0,?_⟩,⟨rfl,rfl⟩,?_⟩
           · simp only [execOp,Instr.storeAt,hev,Instr.sureAddr,h0,Nat.zero_add]
             simp only [Sem.run_bind,Sem.run_pure,Result.andThen_ok,hrow]
           · rw [hcs'];exact h3
           · intro m hm
             rcases setLs_names off hset hm with hm | hm
             · exact C.namesH i _ hb m hm
             · rw [ls_names hvs] at hm;exact ev_names C y m hm
         · cases hb'
       | _=>simp at hb'
     · cases e
   · cases e
 · rename_i i o z k p hx
   obtain ⟨hev,hin⟩:=ev_rptr C hx
   split at e
   · rename_i vs hvs
     have hrv:=rel_ls (ev_rel C y) hvs
     split at e
     · rename_i inf hok hsz hi
       simp only [Option.some.injEq,Prod.mk.injEq] at e
       obtain ⟨-,rfl⟩:=e
       have hlv:=relLs_len hrv
       have hsz':wids vs=P.cellsOf T:=by simpa using hsz
       have hcl:(a.eval y).cells.size=inf.size:=by
        have:P.cellsOf T=inf.size:=by simp [Program.cellsOf,hi]
        simp at hlv;omega
       refine ⟨hin,fun b hb c' b' hb' hcc=> ?_⟩
       cases b with
       | cells T' ls=>
         obtain ⟨cs,hc,h0,hr⟩:=C.heap i _ hb
         dsimp only at hb'
         split at hb'
         · rename_i d ls' hset
           simp only [Option.some.injEq,Prod.mk.injEq] at hb'
           obtain ⟨rfl,rfl⟩:=hb'
           obtain ⟨h3,h4⟩:=relLs_wrR hrv o hset hcc hr
           obtain ⟨cs',hrow,hcs'⟩:=store_cells (P:=P) hc hi hcl (okLs_one hrv hok) (off:=o + (z*k + p)) (by simpa using h4)
           refine ⟨w.setRow (ρ i).b cs',?_,setRow_turned _ _ _,⟨cs',setRow_heap _ _ _ _ _ _ hc,h0,?_⟩,⟨rfl,rfl⟩,?_⟩
           · simp only [execOp,Instr.storeAt,hev,Instr.sureAddr,h0,Nat.zero_add]
             simp only [Sem.run_bind,Sem.run_pure,Result.andThen_ok,hrow]
           · rw [hcs'];exact h3
           · intro m hm
             rcases wrR_names o hset hm with hm | hm
             · exact C.namesH i _ hb m hm
             · rw [ls_names hvs] at hm;exact ev_names C y m hm
         · cases hb'
       | row T' z' n f=>
         obtain ⟨cs,hc,h0,hcs,hnc,hcm,hseg⟩:=C.heap i _ hb
         dsimp only at hb'
         split at hb'
         · rename_i ho
           have ho':o=0:=by simpa using ho
           subst ho'
           split at hb'
           · rename_i hzz
             have hzz':z=z':=by simpa using hzz
             subst hzz'
             split at hb'
             · rename_i ps hps
               split at hb'
               · rename_i hfit
                 have hfit':p + ps.length≤z:=by simpa using hfit
                 simp only [Option.some.injEq,Prod.mk.injEq] at hb'
                 obtain ⟨rfl,rfl⟩:=hb'
                 have hk:k<n:=hcc
                 have hu:=toPLs_rel hps hrv
                 have hul:(a.eval y).cells.size=ps.length:=by
                  have:=congrArg List.length hu
                  simpa using this
                 have hb1:=mul_lt_of (z:=z) hk
                 have hb2:z*n≤z*(ρ i).c:=Nat.mul_le_mul_left z hnc
                 obtain ⟨cs',hrow,hcs'⟩:=store_cells (P:=P) hc hi hcl (okLs_one hrv hok) (off:=z*k + p) (by omega)
                 have hup:=hseg.upd hk hfit'
                 rw [← hu,List.take_take,Nat.min_eq_left (by omega),List.drop_take] at hup
                 refine ⟨w.setRow (ρ i).b cs',?_,setRow_turned _ _ _,⟨cs',setRow_heap _ _ _ _ _ _ hc,h0,?_,hnc,hcm,?_⟩,⟨rfl,rfl⟩,by simp [Blk.names]⟩
                 · simp only [execOp,Instr.storeAt,hev,Instr.sureAddr,h0,Nat.zero_add]
                   simp only [Sem.run_bind,Sem.run_pure,Result.andThen_ok,hrow]
                 · have:=congrArg List.length hcs'
                   simp at this;omega
                 · have e2:cs'.toList.take (z*n) =
                    cs.toList.take (z*k + p)++(a.eval y).cells.toList++(cs.toList.drop (z*k + p + ps.length)).take (z*n - (z*k + p + ps.length)):=by
                    rw [hcs',Array.length_toList,hul,List.take_append,List.take_of_length_le (by simp;omega)]
                    congr 2
                    simp;omega
                   rw [e2]
                   exact hup
               · cases hb'
             · cases hb'
           · cases hb'
         · cases hb'
       | _=>simp at hb'
     · cases e
   · cases e
 · rename_i i off n k hx
   obtain ⟨hev,hin⟩:=ev_eptr C hx
   split at e
   · rename_i s v hy
     have hyv:=ev_rel C y
     rw [hy] at hyv
     have hyv:=hyv (by simp)
     split at e
     · rename_i inf hsz hi
       simp only [Option.some.injEq,Prod.mk.injEq] at e
       obtain ⟨rfl,rfl⟩:=e
       have hk:k<n:=hcond
       refine ⟨hin,fun b hb c' b' hb' _=> ?_⟩
       cases b with
       | cells T' ls=>
         obtain ⟨cs,hc,h0,hr⟩:=C.heap i _ hb
         dsimp only at hb'
         split at hb'
         · rename_i r ht
           split at hb'
           · rename_i r' hu
             split at hb'
             · rename_i ls' hset
               simp only [Option.some.injEq,Prod.mk.injEq] at hb'
               obtain ⟨-,rfl⟩:=hb'
               have ⟨h1,h2⟩:=relLs_take _ ht (relLs_drop off hr)
               have h3:=updL_rel hu h1
               rw [if_pos (Nat.zero_le _),Nat.sub_zero] at h3
               obtain ⟨h4,h5⟩:=relLs_setLs off hset hr h3
               have hV:(a.eval y).cells=#[a.eval y]:=by rw [hyv];rfl
               have hone:∀ u∈(a.eval y).cells.toList,u.oneCell'=true:=by
                intro u hu
                rw [hV] at hu
                obtain rfl:=List.mem_singleton.1 hu
                rw [hyv];rfl
               simp only [List.length_set,List.length_take,List.length_drop] at h2 h5
               have hcl:(a.eval y).cells.size=inf.size:=by
                have:P.cellsOf T=inf.size:=by simp [Program.cellsOf,hi]
                have hs':1=P.cellsOf T:=by simpa using hsz
                rw [hV];simp;omega
               obtain ⟨cs',hrow,hcs'⟩:=store_cells (P:=P) hc hi hcl hone (off:=off + k) (by rw [hV];simp at h2 ⊢;omega)
               have hlist:cs'.toList =
                cs.toList.take off++((cs.toList.drop off).take n).set k (.int (k64 s) (vI s v))++cs.toList.drop (off + (((cs.toList.drop off).take n).set k (.int (k64 s) (vI s v))).length):=by
                have hy':a.eval y= .int (k64 s) (vI s v):=hyv
                rw [hcs',hV,hy']
                generalize Value.int (k64 s) (vI s v)=V
                have hoff:off + n≤cs.toList.length:=by simp at h2 ⊢;omega
                generalize cs.toList=l at hoff
                have hA:(l.take off).length=off:=by simp;omega
                have hB:((l.drop off).take n).length=n:=by simp;omega
                have hsplit:l=l.take off++((l.drop off).take n++l.drop (off + n)):=by
                 rw [← List.drop_drop,List.take_append_drop,List.take_append_drop]
                have e1:l.set (off + k) V=l.take off++(((l.drop off).take n).set k V++l.drop (off + n)):=by
                 conv=>lhs;rw [hsplit]
                 rw [List.set_append_right _ _ (by rw [hA];omega),hA,show off + k - off=k by omega,List.set_append_left _ _ (by rw [hB];exact hk)]
                have e2:l.set (off + k) V=l.take (off + k)++V::l.drop (off + k + 1):=by
                 rw [List.set_eq_take_append_cons_drop,if_pos (by omega)]
                rw [List.length_set,hB,List.append_assoc,List.append_assoc,← e1,e2]
                rfl
               refine ⟨w.setRow (ρ i).b cs',?_,setRow_turned _ _ _,⟨cs',setRow_heap _ _ _ _ _ _ hc,h0,?_⟩,⟨rfl,rfl⟩,?_⟩
               · simp only [execOp,Instr.storeAt,hev,Instr.sureAddr,h0,Nat.zero_add]
                 simp only [Sem.run_bind,Sem.run_pure,Result.andThen_ok,hrow]
               · rw [hlist]
                 exact h4
               · intro m hm
                 rcases setLs_names off hset hm with hm | hm
                 · exact C.namesH i _ hb m hm
                 · rw [updL_names hu] at hm;simp at hm
             · cases hb'
           · cases hb'
         · cases hb'
       | _=>simp at hb'
     · cases e
   · cases e
 · cases e
end
end Go.Ep
