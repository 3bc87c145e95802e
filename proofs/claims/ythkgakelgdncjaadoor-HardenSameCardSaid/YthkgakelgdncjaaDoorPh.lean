/- What each operation asks for is what the model's operation does: arithmetic, comparisons, conversions, calls, values built. Conditions: as typed. -/
import Derived.Test.YthkgakelgdncjaaDoorPd
import Derived.Laws.Tables
import Derived.Laws.BytesArg
import Derived.Laws.Concat
import Derived.Laws.MakeOwn
import Derived.Laws.Strings
import Derived.Laws.Cover3
import Derived.Maps.AppendAt
namespace Go.Ep
open Go.RowKit
set_option linter.unusedVariables false
set_option linter.unusedSimpArgs false
section
variable {P : Program} {ρ : Nat → Loc} {t : List AV} {h : Nat → Option Blk} {a : Act} {w : World}
structure Mk (ρ:Nat→Loc) (K:IntKind) (mk:BitVec K.bits→L):Prop where
 val:∀ z,gL ρ (mk z)= .int K (vI K.signed z)
 ok:∀ z,mk z≠ .junk
 names:∀ z,(mk z).names=[]
theorem pickQ_quo {w:Nat} (s:Bool) (c:Prop) [Decidable c] (mk:BitVec w→L) (x y:BitVec w):pickQ s c (mk (x.sdiv y)) (mk (x / y))=some (.p c,mk (quoW s x y)):=by cases s<;>rfl
theorem pickQ_rem {w:Nat} (s:Bool) (c:Prop) [Decidable c] (mk:BitVec w→L) (x y:BitVec w):pickQ s c (mk (x.srem y)) (mk (x % y))=some (.p c,mk (remW s x y)):=by cases s<;>rfl
theorem pickS_lt {w:Nat} (s:Bool) (x y:BitVec w):pickS s (L.bool (x.slt y)) (.bool (x.ult y))=some (.t,.bool (ltW s x y)):=by cases s<;>rfl
theorem pickS_le {w:Nat} (s:Bool) (x y:BitVec w):pickS s (L.bool (x.sle y)) (.bool (x.ule y))=some (.t,.bool (leW s x y)):=by cases s<;>rfl
theorem pickO_shr {w:Nat} (s:Bool) (mk:BitVec w→L) (x:BitVec w) (n:Nat):pickO s (mk (x.sshiftRight n)) (mk (x >>> n))=some (mk (shrW s x n)):=by cases s<;>rfl
theorem bin_run {K:IntKind} {mk:BitVec K.bits→L} (M:Mk ρ K mk) {op:BinOp} {x y:BitVec K.bits} {c:Cond} {l:L} (e:binW mk K.signed op x y=some (c,l)) (hc:c.holds) (T:TypeId) :
 (binOp op T (.int K (vI K.signed x)) (.int K (vI K.signed y))).run P w= .ok (gL ρ l) w∧l≠ .junk∧l.names=[]:=by
 cases op<;>simp only [binW,pickQ_quo,pickQ_rem,pickS_lt,pickS_le,Option.some.injEq,Prod.mk.injEq,reduceCtorEq] at e<;>obtain ⟨rfl,rfl⟩:=e
 · refine ⟨?_,M.ok _,M.names _⟩;simp [binOp,Op.intArith,M.val,n_add]
 · refine ⟨?_,M.ok _,M.names _⟩;simp [binOp,Op.intArith,M.val,n_sub]
 · refine ⟨?_,M.ok _,M.names _⟩;simp [binOp,Op.intArith,M.val,n_mul]
 · refine ⟨?_,M.ok _,M.names _⟩;simp [binOp,Op.intDiv,n_zero K.signed y hc,M.val,n_quo]
 · refine ⟨?_,M.ok _,M.names _⟩;simp [binOp,Op.intDiv,n_zero K.signed y hc,M.val,n_rem]
 · refine ⟨?_,M.ok _,M.names _⟩;simp only [binOp,Op.intBits,ofInt_vI,M.val,ne_eq,not_true_eq_false,↓reduceIte,n_back];rfl
 · refine ⟨?_,M.ok _,M.names _⟩;simp only [binOp,Op.intBits,ofInt_vI,M.val,ne_eq,not_true_eq_false,↓reduceIte,n_back];rfl
 · refine ⟨?_,M.ok _,M.names _⟩;simp only [binOp,Op.intBits,ofInt_vI,M.val,ne_eq,not_true_eq_false,↓reduceIte,n_back];rfl
 · refine ⟨?_,M.ok _,M.names _⟩;simp only [binOp,Op.intBits,ofInt_vI,M.val,ne_eq,not_true_eq_false,↓reduceIte,n_back];rfl
 · refine ⟨?_,by simp,rfl⟩;simp [binOp,Op.intCmp,gL,n_eql]
 · refine ⟨?_,by simp,rfl⟩;simp [binOp,Op.intCmp,gL,bne,n_eql]
 · refine ⟨?_,by simp,rfl⟩;simp [binOp,Op.intCmp,gL,n_lt]
 · refine ⟨?_,by simp,rfl⟩;simp [binOp,Op.intCmp,gL,n_le]
 · refine ⟨?_,by simp,rfl⟩;simp [binOp,Op.intCmp,gL,n_lt]
 · refine ⟨?_,by simp,rfl⟩;simp [binOp,Op.intCmp,gL,n_le]
theorem M64u:Mk ρ .u64 (L.b64 false):=⟨fun _=>rfl,fun _=>by simp,fun _=>rfl⟩
theorem M64i:Mk ρ .i64 (L.b64 true):=⟨fun _=>rfl,fun _=>by simp,fun _=>rfl⟩
theorem M32u:Mk ρ .u32 (L.b32 false):=⟨fun _=>rfl,fun _=>by simp,fun _=>rfl⟩
theorem M32i:Mk ρ .i32 (L.b32 true):=⟨fun _=>rfl,fun _=>by simp,fun _=>rfl⟩
theorem M16u:Mk ρ .u16 (L.b16 false):=⟨fun _=>rfl,fun _=>by simp,fun _=>rfl⟩
theorem M16i:Mk ρ .i16 (L.b16 true):=⟨fun _=>rfl,fun _=>by simp,fun _=>rfl⟩
theorem M8u:Mk ρ .u8 (L.b8 false):=⟨fun _=>rfl,fun _=>by simp,fun _=>rfl⟩
theorem M8i:Mk ρ .i8 (L.b8 true):=⟨fun _=>rfl,fun _=>by simp,fun _=>rfl⟩
theorem same_some {α:Type _} {s s':Bool} {x:Option α} {y:α} (e:same s s' x=some y):s=s'∧x=some y:=by
 cases s<;>cases s'<;>simp [same] at e<;>exact ⟨rfl,e⟩
theorem shift_run {K:IntKind} {mk:BitVec K.bits→L} (M:Mk ρ K mk) {op:BinOp} {x:BitVec K.bits} {n:Nat} {l:L} (e:shW mk K.signed op x n=some l) (yk:IntKind) (y:Int)
 (h0:0≤y) (hn:y.toNat=n) (T:TypeId) :
 (binOp op T (.int K (vI K.signed x)) (.int yk y)).run P w= .ok (gL ρ l) w∧l≠ .junk∧l.names=[]:=by
 have hlt:¬ y<0:=by omega
 cases op<;>simp only [shW,pickO_shr,Option.some.injEq,reduceCtorEq] at e<;>subst e
 · refine ⟨?_,M.ok _,M.names _⟩
   simp only [binOp,Op.shift,if_neg hlt,hn,M.val,n_shl];rfl
 · refine ⟨?_,M.ok _,M.names _⟩
   simp only [binOp,Op.shift,if_neg hlt,hn,M.val,n_shr];rfl
theorem amount_run {y:L} {c:Cond} {n:Nat} (e:amount y=some (c,n)) (hc:c.holds) {v:Value} (hv:RelL ρ y v):∃ k m,v= .int k m∧0≤m∧m.toNat=n:=by
 cases y with
 | b64 s x=>
   obtain rfl:=hv (by simp)
   cases s<;>simp only [amount,Option.some.injEq,Prod.mk.injEq] at e<;>obtain ⟨rfl,rfl⟩:=e
   · exact ⟨_,_,rfl,by simp [vI],by simp [vI]⟩
   · exact ⟨_,_,rfl,hc,n_toNat x hc⟩
 | b32 s x=>
   obtain rfl:=hv (by simp)
   cases s<;>simp only [amount,Option.some.injEq,Prod.mk.injEq] at e<;>obtain ⟨rfl,rfl⟩:=e
   · exact ⟨_,_,rfl,by simp [vI],by simp [vI]⟩
   · exact ⟨_,_,rfl,hc,n_toNat x hc⟩
 | b16 s x=>
   obtain rfl:=hv (by simp)
   cases s<;>simp only [amount,Option.some.injEq,Prod.mk.injEq] at e<;>obtain ⟨rfl,rfl⟩:=e
   · exact ⟨_,_,rfl,by simp [vI],by simp [vI]⟩
   · exact ⟨_,_,rfl,hc,n_toNat x hc⟩
 | b8 s x=>
   obtain rfl:=hv (by simp)
   cases s<;>simp only [amount,Option.some.injEq,Prod.mk.injEq] at e<;>obtain ⟨rfl,rfl⟩:=e
   · exact ⟨_,_,rfl,by simp [vI],by simp [vI]⟩
   · exact ⟨_,_,rfl,hc,n_toNat x hc⟩
 | _=>simp [amount] at e
theorem binL_run {op:BinOp} {x y:L} {c:Cond} {l:L} (e:binL op x y=some (c,l)) (hc:c.holds) (T:TypeId) {u v:Value} (hx:RelL ρ x u) (hy:RelL ρ y v) :
 (binOp op T u v).run P w= .ok (gL ρ l) w∧l≠ .junk∧l.names=[]∧∃ k m,u= .int k m:=by
 simp only [binL] at e
 split at e
 · simp only [shift] at e
   split at e
   · cases e
   · rename_i p n hn
     split at e
     · rename_i l' hl
       simp only [Option.some.injEq,Prod.mk.injEq] at e
       obtain ⟨rfl,rfl⟩:=e
       obtain ⟨k,m,rfl,h0,hm⟩:=amount_run hn hc hy
       split at hl
       · obtain rfl:=hx (by simp)
         rename_i s x
         cases s
         · have:=shift_run (P:=P) (w:=w) (M64u (ρ:=ρ)) hl k m h0 hm T;exact ⟨this.1,this.2.1,this.2.2,_,_,rfl⟩
         · have:=shift_run (P:=P) (w:=w) (M64i (ρ:=ρ)) hl k m h0 hm T;exact ⟨this.1,this.2.1,this.2.2,_,_,rfl⟩
       · obtain rfl:=hx (by simp)
         rename_i s x
         cases s
         · have:=shift_run (P:=P) (w:=w) (M32u (ρ:=ρ)) hl k m h0 hm T;exact ⟨this.1,this.2.1,this.2.2,_,_,rfl⟩
         · have:=shift_run (P:=P) (w:=w) (M32i (ρ:=ρ)) hl k m h0 hm T;exact ⟨this.1,this.2.1,this.2.2,_,_,rfl⟩
       · obtain rfl:=hx (by simp)
         rename_i s x
         cases s
         · have:=shift_run (P:=P) (w:=w) (M16u (ρ:=ρ)) hl k m h0 hm T;exact ⟨this.1,this.2.1,this.2.2,_,_,rfl⟩
         · have:=shift_run (P:=P) (w:=w) (M16i (ρ:=ρ)) hl k m h0 hm T;exact ⟨this.1,this.2.1,this.2.2,_,_,rfl⟩
       · obtain rfl:=hx (by simp)
         rename_i s x
         cases s
         · have:=shift_run (P:=P) (w:=w) (M8u (ρ:=ρ)) hl k m h0 hm T;exact ⟨this.1,this.2.1,this.2.2,_,_,rfl⟩
         · have:=shift_run (P:=P) (w:=w) (M8i (ρ:=ρ)) hl k m h0 hm T;exact ⟨this.1,this.2.1,this.2.2,_,_,rfl⟩
       · cases hl
     · cases e
 · split at e
   · rename_i s x s' y
     obtain ⟨hs,e2⟩:=same_some e
     subst hs
     obtain rfl:=hx (by simp)
     obtain rfl:=hy (by simp)
     cases s
     · have:=bin_run (P:=P) (w:=w) (M64u (ρ:=ρ)) e2 hc T;exact ⟨this.1,this.2.1,this.2.2,_,_,rfl⟩
     · have:=bin_run (P:=P) (w:=w) (M64i (ρ:=ρ)) e2 hc T;exact ⟨this.1,this.2.1,this.2.2,_,_,rfl⟩
   · rename_i s x s' y
     obtain ⟨hs,e2⟩:=same_some e
     subst hs
     obtain rfl:=hx (by simp)
     obtain rfl:=hy (by simp)
     cases s
     · have:=bin_run (P:=P) (w:=w) (M32u (ρ:=ρ)) e2 hc T;exact ⟨this.1,this.2.1,this.2.2,_,_,rfl⟩
     · have:=bin_run (P:=P) (w:=w) (M32i (ρ:=ρ)) e2 hc T;exact ⟨this.1,this.2.1,this.2.2,_,_,rfl⟩
   · rename_i s x s' y
     obtain ⟨hs,e2⟩:=same_some e
     subst hs
     obtain rfl:=hx (by simp)
     obtain rfl:=hy (by simp)
     cases s
     · have:=bin_run (P:=P) (w:=w) (M16u (ρ:=ρ)) e2 hc T;exact ⟨this.1,this.2.1,this.2.2,_,_,rfl⟩
     · have:=bin_run (P:=P) (w:=w) (M16i (ρ:=ρ)) e2 hc T;exact ⟨this.1,this.2.1,this.2.2,_,_,rfl⟩
   · rename_i s x s' y
     obtain ⟨hs,e2⟩:=same_some e
     subst hs
     obtain rfl:=hx (by simp)
     obtain rfl:=hy (by simp)
     cases s
     · have:=bin_run (P:=P) (w:=w) (M8u (ρ:=ρ)) e2 hc T;exact ⟨this.1,this.2.1,this.2.2,_,_,rfl⟩
     · have:=bin_run (P:=P) (w:=w) (M8i (ρ:=ρ)) e2 hc T;exact ⟨this.1,this.2.1,this.2.2,_,_,rfl⟩
   · cases e
theorem eqL_run {x y:L} {b:Bool} (e:eqL x y=some b) {u v:Value} (hx:RelL ρ x u) (hy:RelL ρ y v) (d:Nat) (T:TypeId)
 (hT:(∃ k,P.underlying T=some (.int k))∧(∃ k m,u= .int k m)∨P.underlying T=some .bool∧∃ b,u= .bool b):(Op.equalIn (d + 1) T u v).run P w= .ok b w:=by
 cases x with
 | b64 s x=>
   cases y<;>simp only [eqL,reduceCtorEq] at e
   obtain ⟨hs,e2⟩:=same_some e
   subst hs
   obtain rfl:=hx (by simp)
   obtain rfl:=hy (by simp)
   rcases hT with ⟨⟨k,hT⟩,-⟩ | ⟨hT,b,hb⟩
   · obtain rfl:=Option.some.inj e2;simp [Op.equalIn,run_underlying hT,gL,n_eql]
   · simp [gL] at hb
 | b32 s x=>
   cases y<;>simp only [eqL,reduceCtorEq] at e
   obtain ⟨hs,e2⟩:=same_some e
   subst hs
   obtain rfl:=hx (by simp)
   obtain rfl:=hy (by simp)
   rcases hT with ⟨⟨k,hT⟩,-⟩ | ⟨hT,b,hb⟩
   · obtain rfl:=Option.some.inj e2;simp [Op.equalIn,run_underlying hT,gL,n_eql]
   · simp [gL] at hb
 | b16 s x=>
   cases y<;>simp only [eqL,reduceCtorEq] at e
   obtain ⟨hs,e2⟩:=same_some e
   subst hs
   obtain rfl:=hx (by simp)
   obtain rfl:=hy (by simp)
   rcases hT with ⟨⟨k,hT⟩,-⟩ | ⟨hT,b,hb⟩
   · obtain rfl:=Option.some.inj e2;simp [Op.equalIn,run_underlying hT,gL,n_eql]
   · simp [gL] at hb
 | b8 s x=>
   cases y<;>simp only [eqL,reduceCtorEq] at e
   obtain ⟨hs,e2⟩:=same_some e
   subst hs
   obtain rfl:=hx (by simp)
   obtain rfl:=hy (by simp)
   rcases hT with ⟨⟨k,hT⟩,-⟩ | ⟨hT,b,hb⟩
   · obtain rfl:=Option.some.inj e2;simp [Op.equalIn,run_underlying hT,gL,n_eql]
   · simp [gL] at hb
 | bool x=>
   cases y<;>simp only [eqL,reduceCtorEq,Option.some.injEq] at e
   subst e
   obtain rfl:=hx (by simp)
   obtain rfl:=hy (by simp)
   rcases hT with ⟨⟨k,hT⟩,k',m,hb⟩ | ⟨hT,b,hb⟩
   · simp [gL] at hb
   · simp [Op.equalIn,run_underlying hT,gL]
 | _=>simp [eqL] at e
end
section
variable {P : Program} {ρ : Nat → Loc} {t : List AV} {h : Nat → Option Blk} {a : Act} {w : World}
def RelT (P:Program) (ρ:Nat→Loc) (T:TypeId) (xs:List L) (u:Value):Prop:=
 (isAggT P T=some true∧RelA ρ (.agg xs) u)∨(isAggT P T=some false∧∃ x,xs=[x]∧RelL ρ x u)
theorem part_relT {cs:Array Value} {ls:List L} (hr:RelLs ρ ls cs.toList) {T:TypeId} {inf:TypeInfo} (hi:P.info? T=some inf) {b:Bool} (hA:isAggT P T=some b) (off:Nat) {r:List L}
 (hs:b=false→inf.size=1) (hn:b=false→∃ x,r=[x]∧isSeg x=false) (ht:takeL (dropL ls off) inf.size=some r):∃ u,(part T cs off).run P w= .ok u w∧RelT P ρ T r u:=by
 cases b with
 | true=>
   obtain ⟨u,h1,h2⟩:=part_run (P:=P) (w:=w) hr hi hA off ht
   exact ⟨u,h1,.inl ⟨hA,h2⟩⟩
 | false=>
   have hs1:=hs rfl
   obtain ⟨x,rfl,hx⟩:=hn rfl
   rw [hs1] at ht
   have ⟨h1,h2⟩:=relLs_take 1 ht (relLs_drop off hr)
   obtain ⟨v,ws,h3,h4,h5⟩:=(relLs_cons hx).1 h1
   have hv:cs[off]? =some v:=by
    have:((cs.toList.drop off).take 1)[0]? =some v:=by rw [h3];rfl
    rw [List.getElem?_take,if_pos (by omega),List.getElem?_drop] at this
    simpa using this
   exact ⟨v,by simp [part,isAgg_run hA,hv],.inr ⟨hA,x,rfl,h4⟩⟩
theorem isAggT_leaf {T:TypeId} {k:IntKind} (h:P.underlying T=some (.int k)):isAggT P T=some false:=by simp [isAggT,h]
theorem isAggT_bool {T:TypeId} (h:P.underlying T=some .bool):isAggT P T=some false:=by simp [isAggT,h]
theorem isAggT_struct {T:TypeId} {fs:Array Field} (h:P.underlying T=some (.struct fs)):isAggT P T=some true:=by simp [isAggT,h]
theorem isAggT_array {T e:TypeId} {n:Nat} (h:P.underlying T=some (.array n e)):isAggT P T=some true:=by simp [isAggT,h]
theorem isNum_seg {x:L} (hx:isNum x=true):isSeg x=false:=by cases x<;>first | rfl | simp [isNum] at hx
theorem isBoolL_seg {x:L} (hx:isBoolL x=true):isSeg x=false:=by cases x<;>first | rfl | simp [isBoolL] at hx
theorem isNum_int {x:L} {u:Value} (hx:isNum x=true) (hr:RelL ρ x u):∃ k m,u= .int k m:=by
 cases x<;>simp [isNum] at hx<;>exact ⟨_,_,hr (by simp)⟩
theorem isBool_bool {x:L} {u:Value} (hx:isBoolL x=true) (hr:RelL ρ x u):∃ b,u= .bool b:=by
 cases x<;>simp [isBoolL] at hx<;>exact ⟨_,hr (by simp)⟩
theorem relT_agg {T:TypeId} {fs:Array Field} (hu:P.underlying T=some (.struct fs)) {xs:List L} {u:Value} (h:RelT P ρ T xs u):∃ cs:Array Value,u= .agg cs∧RelLs ρ xs cs.toList:=by
 rcases h with ⟨_,h⟩ | ⟨h,_⟩
 · exact h
 · rw [isAggT_struct hu] at h;cases h
theorem one_size {inf:TypeInfo} {ls r:List L} {vs:List Value} (hr:RelLs ρ ls vs) {n off:Nat} (ht:takeL (dropL ls off) n=some r) (h:∃ x,r=[x]∧isSeg x=false):n=1:=by
 obtain ⟨x,rfl,hx⟩:=h
 have ⟨h1,h2⟩:=relLs_take n ht (relLs_drop off hr)
 have h3:=relLs_len h1
 rw [List.length_take,Nat.min_eq_left h2] at h3
 have:wid x=1:=by cases x<;>first | rfl | simp [isSeg] at hx
 simp [wids,this] at h3
 exact h3.symm
theorem eqT_size {d:Nat} {T:TypeId} {xs ys:List L} {b:Bool} (e:eqT P d T xs ys=some b):∃ b',isAggT P T=some b'∧(b'=false→(∃ x,xs=[x]∧isSeg x=false)∧∃ y,ys=[y]∧isSeg y=false):=by
 cases d with
 | zero=>simp [eqT] at e
 | succ d=>
   simp only [eqT] at e
   split at e
   · rename_i k hu
     refine ⟨false,isAggT_leaf hu,fun _=> ?_⟩
     split at e
     · rename_i x y
       split at e
       · rename_i hn
         refine ⟨⟨x,rfl,isNum_seg hn⟩,y,rfl,?_⟩
         cases x<;>cases y<;>first | rfl | simp [eqL] at e
       · cases e
     · cases e
   · rename_i hu
     refine ⟨false,isAggT_bool hu,fun _=> ?_⟩
     split at e
     · rename_i x y
       split at e
       · rename_i hn
         refine ⟨⟨x,rfl,isBoolL_seg hn⟩,y,rfl,?_⟩
         cases x<;>cases y<;>first | rfl | simp [eqL] at e
       · cases e
     · cases e
   · rename_i fs hu
     exact ⟨true,isAggT_struct hu,fun h=>by cases h⟩
   · rename_i n e' hu
     exact ⟨true,isAggT_array hu,fun h=>by cases h⟩
   · cases e
theorem eqF_run (d:Nat) (H:∀ (T:TypeId) (xs ys:List L) (b:Bool),eqT P d T xs ys=some b→blank P d T=false→∀ (D:Nat),d≤D→∀ u v,RelT P ρ T xs u→RelT P ρ T ys v →
 (Op.equalIn D T u v).run P w= .ok b w):∀ (fs:List Field) (xs ys:List L) (b:Bool),eqF P (eqT P d) fs xs ys=some b→blankF (blank P d) fs=false→∀ (D:Nat),d≤D→∀ (cx cy:Array Value),
 RelLs ρ xs cx.toList→RelLs ρ ys cy.toList→(Op.eqFields D cx cy fs).run P w= .ok b w
 | [],xs,ys,b,e,_,D,_,cx,cy,_,_=>by
   simp only [eqF,Option.some.injEq] at e
   subst e
   simp [Op.eqFields]
 | f::fs,xs,ys,b,e,hb,D,hD,cx,cy,rx,ry=>by
   simp only [blankF,Bool.or_eq_false_iff] at hb
   obtain ⟨⟨hn,hbf⟩,hbr⟩:=hb
   have hn':f.name≠ "_":=by simpa using hn
   simp only [eqF] at e
   split at e
   · cases e
   · rename_i inf hi
     split at e
     · rename_i xa ya hxa hya
       have key:∀ p,eqT P d f.type xa ya=some p→∃ u v,(part f.type cx f.offset).run P w= .ok u w∧(part f.type cy f.offset).run P w= .ok v w∧(Op.equalIn D f.type u v).run P w= .ok p w:=by
        intro p hp
        obtain ⟨b',hA,hsz⟩:=eqT_size hp
        obtain ⟨u,hu,ru⟩:=part_relT (P:=P) (w:=w) rx hi hA _ (fun h=>one_size (inf:=inf) rx hxa (hsz h).1) (fun h=>(hsz h).1) hxa
        obtain ⟨v,hv,rv⟩:=part_relT (P:=P) (w:=w) ry hi hA _ (fun h=>one_size (inf:=inf) ry hya (hsz h).2) (fun h=>(hsz h).2) hya
        exact ⟨u,v,hu,hv,H f.type xa ya p hp hbf D hD u v ru rv⟩
       split at e
       · rename_i p hp
         obtain ⟨u,v,hu,hv,hq⟩:=key p hp
         obtain rfl:=Option.some.inj e
         cases p<;>simp [Op.eqFields,hn',hu,hv,hq]
       · rename_i p hp _
         obtain ⟨u,v,hu,hv,hq⟩:=key p hp
         split at e
         · rename_i q hqr
           have e':=Option.some.inj e
           subst e'
           have ih:=eqF_run d H _ xs ys q hqr hbr D hD cx cy rx ry
           cases p<;>simp [Op.eqFields,hn',hu,hv,hq,ih]
         · cases e
       · cases e
     · cases e
theorem part_at {cs:Array Value} {ls:List L} {off:Nat} (hr:RelLs ρ ls (cs.toList.drop off)) {T:TypeId} {inf:TypeInfo} (hi:P.info? T=some inf) {b:Bool} (hA:isAggT P T=some b) {r:List L}
 (hn:b=false→∃ x,r=[x]∧isSeg x=false) (ht:takeL ls inf.size=some r):∃ u,(part T cs off).run P w= .ok u w∧RelT P ρ T r u:=by
 have ⟨h1,h2⟩:=relLs_take _ ht hr
 cases b with
 | true=>
   refine ⟨.agg (cs.extract off (off + inf.size)),by simp [part,isAgg_run hA,sizeOf_run hi],.inl ⟨hA,_,rfl,?_⟩⟩
   rw [Array.toList_extract,List.extract_eq_take_drop,show off + inf.size - off=inf.size by omega]
   exact h1
 | false=>
   obtain ⟨x,rfl,hx⟩:=hn rfl
   obtain ⟨v,ws,h3,h4,h5⟩:=(relLs_cons hx).1 h1
   cases h5
   have hv:cs[off]? =some v:=by
    have h6:((cs.toList.drop off).take inf.size)[0]? =some v:=by rw [h3];rfl
    have h7:0<inf.size:=Nat.pos_of_ne_zero fun e=>by rw [e] at h3;simp at h3
    rw [List.getElem?_take,if_pos h7,List.getElem?_drop] at h6
    simpa using h6
   exact ⟨v,by simp [part,isAgg_run hA,hv],.inr ⟨hA,x,rfl,h4⟩⟩
theorem eqA_run (d:Nat) {e:TypeId} {inf:TypeInfo} (hi:P.info? e=some inf) (hbl:blank P d e=false) (H:∀ (T:TypeId) (xs ys:List L) (b:Bool),eqT P d T xs ys=some b→blank P d T=false→∀ (D:Nat),d≤D→∀ u v,RelT P ρ T xs u→RelT P ρ T ys v →
 (Op.equalIn D T u v).run P w= .ok b w) (D:Nat) (hD:d≤D) {cx cy:Array Value} :
 ∀ (n j:Nat) (XS YS:List L) (b:Bool),RelLs ρ XS (cx.toList.drop (j*inf.size))→RelLs ρ YS (cy.toList.drop (j*inf.size))→eqA (eqT P d e) inf.size n XS YS=some b→(Op.eqItems D e inf.size cx cy (List.range' j n)).run P w= .ok b w
 | 0,j,XS,YS,b,_,_,h=>by
   simp only [eqA,Option.some.injEq] at h
   subst h
   simp [Op.eqItems]
 | n + 1,j,XS,YS,b,rx,ry,h=>by
   simp only [eqA] at h
   split at h
   · rename_i xa ya hxa hya
     have key:∀ p,eqT P d e xa ya=some p→∃ u v,(part e cx (j*inf.size)).run P w= .ok u w∧(part e cy (j*inf.size)).run P w= .ok v w∧(Op.equalIn D e u v).run P w= .ok p w:=by
      intro p hp
      obtain ⟨b',hA,hsz⟩:=eqT_size hp
      obtain ⟨u,hu,ru⟩:=part_at (P:=P) (w:=w) rx hi hA (fun h=>(hsz h).1) hxa
      obtain ⟨v,hv,rv⟩:=part_at (P:=P) (w:=w) ry hi hA (fun h=>(hsz h).2) hya
      exact ⟨u,v,hu,hv,H e xa ya p hp hbl D hD u v ru rv⟩
     have next:∀ {X:List L} {c:Array Value},RelLs ρ X (c.toList.drop (j*inf.size))→RelLs ρ (dropL X inf.size) (c.toList.drop ((j + 1)*inf.size)):=fun h=>by
      have:=relLs_drop inf.size h
      rwa [List.drop_drop,show j*inf.size + inf.size=(j + 1)*inf.size by rw [Nat.add_mul,Nat.one_mul]] at this
     split at h
     · rename_i p hp
       obtain ⟨u,v,hu,hv,hq⟩:=key p hp
       obtain rfl:=Option.some.inj h
       cases p<;>simp [Op.eqItems,hu,hv,hq]
     · rename_i p m hp
       obtain ⟨u,v,hu,hv,hq⟩:=key p hp
       split at h
       · rename_i q hqr
         have e':=Option.some.inj h
         subst e'
         have ih:=eqA_run d hi hbl H D hD (m + 1) (j + 1) _ _ q (next rx) (next ry) hqr
         rw [List.range'_succ]
         simp only [Op.eqItems,Sem.run_bind,hu,hv,hq,Result.andThen_ok]
         cases p
         · simp
         · simpa using ih
       · cases h
     · cases h
   · cases h
theorem eqT_run:∀ (d:Nat) (T:TypeId) (xs ys:List L) (b:Bool),eqT P d T xs ys=some b→blank P d T=false→∀ (D:Nat),d≤D→∀ u v,RelT P ρ T xs u→RelT P ρ T ys v →
 (Op.equalIn D T u v).run P w= .ok b w
 | 0,T,xs,ys,b,e,_,_,_,_,_,_,_=>by simp [eqT] at e
 | d + 1,T,xs,ys,b,e,hb,D,hD,u,v,hx,hy=>by
   obtain ⟨D,rfl⟩:∃ D',D=D' + 1:=⟨D - 1,by omega⟩
   simp only [eqT] at e
   split at e
   · rename_i k hu
     split at e
     · rename_i x y
       split at e
       · rename_i hn
         rcases hx with ⟨hx,_⟩ | ⟨_,x',hx,rx⟩
         · rw [isAggT_leaf hu] at hx;cases hx
         rcases hy with ⟨hy,_⟩ | ⟨_,y',hy,ry⟩
         · rw [isAggT_leaf hu] at hy;cases hy
         obtain rfl:x=x':=by simpa using hx
         obtain rfl:y=y':=by simpa using hy
         exact eqL_run e rx ry D T (.inl ⟨⟨k,hu⟩,isNum_int hn rx⟩)
       · cases e
     · cases e
   · rename_i hu
     split at e
     · rename_i x y
       split at e
       · rename_i hn
         rcases hx with ⟨hx,_⟩ | ⟨_,x',hx,rx⟩
         · rw [isAggT_bool hu] at hx;cases hx
         rcases hy with ⟨hy,_⟩ | ⟨_,y',hy,ry⟩
         · rw [isAggT_bool hu] at hy;cases hy
         obtain rfl:x=x':=by simpa using hx
         obtain rfl:y=y':=by simpa using hy
         exact eqL_run e rx ry D T (.inr ⟨hu,isBool_bool hn rx⟩)
       · cases e
     · cases e
   · rename_i fs hu
     obtain ⟨cx,rfl,rx⟩:=relT_agg hu hx
     obtain ⟨cy,rfl,ry⟩:=relT_agg hu hy
     have hfs:P.fieldsOf T=fs:=by simp [Program.fieldsOf,hu]
     simp only [blank,hu,Bool.or_eq_false_iff] at hb
     rw [run_equalIn_struct w D T cx cy (by rw [hfs];exact hu) hb.1,hfs]
     exact eqF_run d (eqT_run d) fs.toList xs ys b e hb.2 D (by omega) cx cy rx ry
   · rename_i n e' hu
     split at e
     · rename_i inf hi
       have hagg:∀ {xs:List L} {u:Value},RelT P ρ T xs u→∃ cs:Array Value,u= .agg cs∧RelLs ρ xs cs.toList:=by
        intro xs u h
        rcases h with ⟨_,h⟩ | ⟨h,_⟩
        · exact h
        · rw [isAggT_array hu] at h;cases h
       obtain ⟨cx,rfl,rx⟩:=hagg hx
       obtain ⟨cy,rfl,ry⟩:=hagg hy
       simp only [blank,hu] at hb
       have hc:P.cellsOf e'=inf.size:=by simp [Program.cellsOf,hi]
       rw [run_equalIn_array w D cx cy hu hi,hc,List.range_eq_range']
       exact eqA_run d hi hb (eqT_run d) D (by omega) n 0 xs ys b (by simpa using rx) (by simpa using ry) e
     · cases e
   · cases e
theorem guard_int (op:BinOp) (T:TypeId) (x y:Operand) (k:IntKind) (m:Int) (v:Value):(eqGuard op T x y (.int k m) v).run P w= .ok () w:=by
 cases op<;>simp [eqGuard]
theorem guard_map (op:BinOp) (T:TypeId) (x y:Operand) (b:Option Nat) (v:Value):(eqGuard op T x y (.map b) v).run P w= .ok () w:=by
 cases op<;>simp [eqGuard]
theorem guard_bool (op:BinOp) (T:TypeId) (x y:Operand) (b:Bool) (v:Value):(eqGuard op T x y (.bool b) v).run P w= .ok () w:=by
 cases op<;>simp [eqGuard]
theorem catB_eq (a b:ByteArray):a++b=catB a b:=by
 apply ByteArray.ext
 rw [ByteArray.data_append]
 apply Array.ext'
 simp [catB]
theorem guard_str (op:BinOp) (T:TypeId) (x y:Operand) (b:ByteArray) (v:Value):(eqGuard op T x y (.string b) v).run P w= .ok () w:=by
 cases op<;>simp [eqGuard]
theorem str_eq (a b:ByteArray):(a.toList==b.toList)=decide (a=b):=by
 rw [ByteArray.toList_eq,ByteArray.toList_eq]
 by_cases h:a=b
 · subst h;simp
 · rw [decide_eq_false h,beq_eq_false_iff_ne]
   intro e
   apply h
   have:a.data=b.data:=by
    cases ha:a.data;cases hb:b.data;simp_all
   cases a;cases b;simp_all
theorem ok_binOp (C:Ctx ρ t h a w) {dst:Option Tmp} {op:BinOp} {T:TypeId} {x y:Operand} {yT:TypeId} {ty:TypeId} {pos:String} {after:Array Edge} {gu:Option (Nat×Bool)} {c:Cond} {r:Req}
 (e:req P (.binOp op T x y yT) t=some (c,r)) (hc:c.holds):ReqOK P ρ h a w ⟨dst,.binOp op T x y yT,ty,pos,after,gu⟩ r:=by
 simp only [req] at e
 split at e
 · rename_i lx hx
   have rx:=ev_rel C x
   rw [hx] at rx
   split at e
   · rename_i ly hy
     have ry:=ev_rel C y
     rw [hy] at ry
     split at e
     · rename_i p v hv
       simp only [Option.some.injEq,Prod.mk.injEq] at e
       obtain ⟨rfl,rfl⟩:=e
       obtain ⟨h1,h2,h3,k,m,hk⟩:=binL_run (P:=P) (w:=w) hv hc T rx ry
       rw [hk] at h1
       refine ⟨_,?_,fun _=>rfl,by simp [AV.names,h3]⟩
       simp only [execOp,hk,Sem.run_bind,guard_int,Result.andThen_ok,h1,Sem.run_pure]
     · split at e
       · rename_i b1 b2 hu _
         simp only [Option.some.injEq,Prod.mk.injEq] at e
         obtain ⟨-,rfl⟩:=e
         have e1:=rx (by simp)
         have e2:=ry (by simp)
         refine ⟨_,?_,fun _=>rfl,by simp [AV.names,L.names]⟩
         simp only [execOp,e1,e2,gL,Sem.run_bind,guard_bool,Result.andThen_ok]
         simp [binOp,Op.equal,Op.maxDepth,run_equalIn_bool' w _ T b1 b2 hu]
       · rename_i b1 b2 hu _
         simp only [Option.some.injEq,Prod.mk.injEq] at e
         obtain ⟨-,rfl⟩:=e
         have e1:=rx (by simp)
         have e2:=ry (by simp)
         refine ⟨_,?_,fun _=>rfl,by simp [AV.names,L.names]⟩
         simp only [execOp,e1,e2,gL,Sem.run_bind,guard_bool,Result.andThen_ok]
         simp [binOp,Op.equal,Op.maxDepth,run_equalIn_bool' w _ T b1 b2 hu]
       · rename_i s1 s2 _
         simp only [Option.some.injEq,Prod.mk.injEq] at e
         obtain ⟨rfl,rfl⟩:=e
         have e1:=rx (by simp)
         have e2:=ry (by simp)
         have hc:s1.size + s2.size<9223372036854775808:=hc
         refine ⟨.string (catB s1 s2),?_,fun _=>rfl,by simp [AV.names,L.names]⟩
         simp only [execOp,e1,e2,gL,Sem.run_bind,guard_str,Result.andThen_ok,binOp_string_add]
         have hr:=run_string_add_sum (P:=P) (w:=w) s1 s2 (by omega)
         rw [hr,catB_eq]
         simp
       · rename_i s1 s2 _
         simp only [Option.some.injEq,Prod.mk.injEq] at e
         obtain ⟨-,rfl⟩:=e
         have e1:=rx (by simp)
         have e2:=ry (by simp)
         refine ⟨_,?_,fun _=>rfl,by simp [AV.names,L.names]⟩
         simp only [execOp,e1,e2,gL,Sem.run_bind,guard_str,Result.andThen_ok,binOp_string_eql,str_eq]
         simp
       · rename_i s1 s2 _
         simp only [Option.some.injEq,Prod.mk.injEq] at e
         obtain ⟨-,rfl⟩:=e
         have e1:=rx (by simp)
         have e2:=ry (by simp)
         refine ⟨_,?_,fun _=>rfl,by simp [AV.names,L.names]⟩
         simp only [execOp,e1,e2,gL,Sem.run_bind,guard_str,Result.andThen_ok,binOp_string_neq,str_eq]
         simp
       · rename_i hu _
         simp only [Option.some.injEq,Prod.mk.injEq] at e
         obtain ⟨-,rfl⟩:=e
         have e1:=rx (by simp)
         have e2:=ry (by simp)
         refine ⟨_,?_,fun _=>rfl,by simp [AV.names,L.names]⟩
         simp only [execOp,e1,e2,gL,Sem.run_bind,guard_map,Result.andThen_ok]
         simp [binOp,Op.equal,Op.maxDepth,run_equalIn_map_nil w _ T _ _ _ hu]
       · rename_i hu _
         simp only [Option.some.injEq,Prod.mk.injEq] at e
         obtain ⟨-,rfl⟩:=e
         have e1:=rx (by simp)
         have e2:=ry (by simp)
         refine ⟨_,?_,fun _=>rfl,by simp [AV.names,L.names]⟩
         simp only [execOp,e1,e2,gL,Sem.run_bind,guard_map,Result.andThen_ok]
         simp [binOp,Op.equal,Op.maxDepth,run_equalIn_map_nil w _ T _ _ _ hu]
       · rename_i hu _
         simp only [Option.some.injEq,Prod.mk.injEq] at e
         obtain ⟨-,rfl⟩:=e
         have e1:=rx (by simp)
         have e2:=ry (by simp)
         refine ⟨_,?_,fun _=>rfl,by simp [AV.names,L.names]⟩
         simp only [execOp,e1,e2,gL,Sem.run_bind,guard_map,Result.andThen_ok]
         simp [binOp,Op.equal,Op.maxDepth,run_equalIn_map_nil w _ T _ _ _ hu]
       · rename_i hu _
         simp only [Option.some.injEq,Prod.mk.injEq] at e
         obtain ⟨-,rfl⟩:=e
         have e1:=rx (by simp)
         have e2:=ry (by simp)
         refine ⟨_,?_,fun _=>rfl,by simp [AV.names,L.names]⟩
         simp only [execOp,e1,e2,gL,Sem.run_bind,guard_map,Result.andThen_ok]
         simp [binOp,Op.equal,Op.maxDepth,run_equalIn_map_nil w _ T _ _ _ hu]
       · cases e
   · cases e
 · rename_i xs hx
   have rx:=ev_rel C x
   rw [hx] at rx
   split at e
   · rename_i ys hy
     have ry:=ev_rel C y
     rw [hy] at ry
     split at e
     · rename_i b hA he
       simp only [Option.some.injEq,Prod.mk.injEq] at e
       obtain ⟨rfl,rfl⟩:=e
       obtain ⟨cx,ex,rx'⟩:=id rx
       obtain ⟨cy,ey,ry'⟩:=id ry
       obtain ⟨hg,hbl⟩:=Bool.or_eq_false_iff.1 hc
       have hq:=eqT_run (w:=w) 8 T xs ys b he hbl 10000 (by omega) _ _ (.inl ⟨hA,rx⟩) (.inl ⟨hA,ry⟩)
       rw [ex,ey] at hq
       refine ⟨_,?_,fun _=>rfl,by simp [AV.names,L.names]⟩
       simp only [execOp,ex,ey,Sem.run_bind,run_eqGuard_agg (w:=w) _ T x y cx cy hg,Result.andThen_ok,run_eql_struct,hq,Sem.run_pure,gL]
     · rename_i b hA he
       simp only [Option.some.injEq,Prod.mk.injEq] at e
       obtain ⟨rfl,rfl⟩:=e
       obtain ⟨cx,ex,rx'⟩:=id rx
       obtain ⟨cy,ey,ry'⟩:=id ry
       obtain ⟨hg,hbl⟩:=Bool.or_eq_false_iff.1 hc
       have hq:=eqT_run (w:=w) 8 T xs ys b he hbl 10000 (by omega) _ _ (.inl ⟨hA,rx⟩) (.inl ⟨hA,ry⟩)
       rw [ex,ey] at hq
       refine ⟨_,?_,fun _=>rfl,by simp [AV.names,L.names]⟩
       simp only [execOp,ex,ey,Sem.run_bind,run_eqGuard_agg (w:=w) _ T x y cx cy hg,Result.andThen_ok,run_neq_struct,hq,Sem.run_pure,gL]
     · cases e
   · cases e
 · cases e
theorem neg_run {K:IntKind} {mk:BitVec K.bits→L} (M:Mk ρ K mk) (x:BitVec K.bits):(Op.unary .neg (.int K (vI K.signed x))).run P w= .ok (gL ρ (mk (-x))) w:=by
 simp only [Op.unary,Op.intArith,n_neg,M.val];rfl
theorem not_run {K:IntKind} {mk:BitVec K.bits→L} (M:Mk ρ K mk) (x:BitVec K.bits):(Op.unary .xor (.int K (vI K.signed x))).run P w= .ok (gL ρ (mk (~~~x))) w:=by
 simp only [Op.unary,Op.intBits,n_not,M.val];rfl
theorem un_run {op:UnOp} {x l:L} (e:un op x=some l) {u:Value} (hx:RelL ρ x u):(Op.unary op u).run P w= .ok (gL ρ l) w∧l.names=[]:=by
 cases op
 case not=>
  cases x<;>simp only [un,reduceCtorEq,Option.some.injEq] at e
  subst e
  rw [hx (by simp)]
  exact ⟨by simp [Op.unary,gL],rfl⟩
 case neg=>
  cases x<;>simp only [un,reduceCtorEq,Option.some.injEq] at e<;>subst e<;>rw [hx (by simp)]<;>refine ⟨?_,rfl⟩<;>rename_i s x<;>cases s
  · exact neg_run M64u x
  · exact neg_run M64i x
  · exact neg_run M32u x
  · exact neg_run M32i x
  · exact neg_run M16u x
  · exact neg_run M16i x
  · exact neg_run M8u x
  · exact neg_run M8i x
 case xor=>
  cases x<;>simp only [un,reduceCtorEq,Option.some.injEq] at e<;>subst e<;>rw [hx (by simp)]<;>refine ⟨?_,rfl⟩<;>rename_i s x<;>cases s
  · exact not_run M64u x
  · exact not_run M64i x
  · exact not_run M32u x
  · exact not_run M32i x
  · exact not_run M16u x
  · exact not_run M16i x
  · exact not_run M8u x
  · exact not_run M8i x
 all_goals simp [un] at e
theorem ok_unOp (C:Ctx ρ t h a w) {dst:Option Tmp} {op:UnOp} {T:TypeId} {x:Operand} {ty:TypeId} {pos:String} {after:Array Edge} {gu:Option (Nat×Bool)} {c:Cond} {r:Req}
 (e:req P (.unOp op T x) t=some (c,r)):ReqOK P ρ h a w ⟨dst,.unOp op T x,ty,pos,after,gu⟩ r:=by
 simp only [req] at e
 split at e
 · rename_i lx hx
   have rx:=ev_rel C x
   rw [hx] at rx
   split at e
   · rename_i v hv
     simp only [Option.some.injEq,Prod.mk.injEq] at e
     obtain ⟨-,rfl⟩:=e
     obtain ⟨h1,h2⟩:=un_run (P:=P) (w:=w) hv rx
     exact ⟨_,by simp [execOp,h1],fun _=>rfl,by simp [AV.names,h2]⟩
   · cases e
 · cases e
theorem convTo_run {w':Nat} {K:IntKind} {s:Bool} {x:BitVec w'} {l:L} (e:convTo K s x=some l):gL ρ l= .int K (K.wrap (vI s x))∧l.names=[]:=by
 rw [n_conv]
 cases K<;>cases s<;>simp only [convTo,pickO,Option.some.injEq] at e<;>subst e<;>exact ⟨rfl,rfl⟩
theorem wrap_twice (K:IntKind) (s:Bool) (x:BitVec K.bits):K.wrap (vI s x)=vI K.signed x:=by
 rw [wrap_vI,ofInt_vI]
theorem conv_run {K:IntKind} {x l:L} (e:conv K x=some l) {u:Value} (hx:RelL ρ x u):∃ k m,u= .int k m∧gL ρ l= .int K (K.wrap m)∧l.names=[]:=by
 cases x with
 | b64 s x=>
   refine ⟨_,_,hx (by simp),?_⟩
   cases K<;>simp only [conv] at e<;>first | exact convTo_run e | (obtain rfl:=Option.some.inj e;first | exact ⟨congrArg (Value.int .u64) (wrap_twice .u64 s x).symm,rfl⟩ | exact ⟨congrArg (Value.int .i64) (wrap_twice .i64 s x).symm,rfl⟩ | exact ⟨congrArg (Value.int .u32) (wrap_twice .u32 s x).symm,rfl⟩ | exact ⟨congrArg (Value.int .i32) (wrap_twice .i32 s x).symm,rfl⟩ | exact ⟨congrArg (Value.int .u16) (wrap_twice .u16 s x).symm,rfl⟩ | exact ⟨congrArg (Value.int .i16) (wrap_twice .i16 s x).symm,rfl⟩ | exact ⟨congrArg (Value.int .u8) (wrap_twice .u8 s x).symm,rfl⟩ | exact ⟨congrArg (Value.int .i8) (wrap_twice .i8 s x).symm,rfl⟩)
 | b32 s x=>
   refine ⟨_,_,hx (by simp),?_⟩
   cases K<;>simp only [conv] at e<;>first | exact convTo_run e | (obtain rfl:=Option.some.inj e;first | exact ⟨congrArg (Value.int .u64) (wrap_twice .u64 s x).symm,rfl⟩ | exact ⟨congrArg (Value.int .i64) (wrap_twice .i64 s x).symm,rfl⟩ | exact ⟨congrArg (Value.int .u32) (wrap_twice .u32 s x).symm,rfl⟩ | exact ⟨congrArg (Value.int .i32) (wrap_twice .i32 s x).symm,rfl⟩ | exact ⟨congrArg (Value.int .u16) (wrap_twice .u16 s x).symm,rfl⟩ | exact ⟨congrArg (Value.int .i16) (wrap_twice .i16 s x).symm,rfl⟩ | exact ⟨congrArg (Value.int .u8) (wrap_twice .u8 s x).symm,rfl⟩ | exact ⟨congrArg (Value.int .i8) (wrap_twice .i8 s x).symm,rfl⟩)
 | b16 s x=>
   refine ⟨_,_,hx (by simp),?_⟩
   cases K<;>simp only [conv] at e<;>first | exact convTo_run e | (obtain rfl:=Option.some.inj e;first | exact ⟨congrArg (Value.int .u64) (wrap_twice .u64 s x).symm,rfl⟩ | exact ⟨congrArg (Value.int .i64) (wrap_twice .i64 s x).symm,rfl⟩ | exact ⟨congrArg (Value.int .u32) (wrap_twice .u32 s x).symm,rfl⟩ | exact ⟨congrArg (Value.int .i32) (wrap_twice .i32 s x).symm,rfl⟩ | exact ⟨congrArg (Value.int .u16) (wrap_twice .u16 s x).symm,rfl⟩ | exact ⟨congrArg (Value.int .i16) (wrap_twice .i16 s x).symm,rfl⟩ | exact ⟨congrArg (Value.int .u8) (wrap_twice .u8 s x).symm,rfl⟩ | exact ⟨congrArg (Value.int .i8) (wrap_twice .i8 s x).symm,rfl⟩)
 | b8 s x=>
   refine ⟨_,_,hx (by simp),?_⟩
   cases K<;>simp only [conv] at e<;>first | exact convTo_run e | (obtain rfl:=Option.some.inj e;first | exact ⟨congrArg (Value.int .u64) (wrap_twice .u64 s x).symm,rfl⟩ | exact ⟨congrArg (Value.int .i64) (wrap_twice .i64 s x).symm,rfl⟩ | exact ⟨congrArg (Value.int .u32) (wrap_twice .u32 s x).symm,rfl⟩ | exact ⟨congrArg (Value.int .i32) (wrap_twice .i32 s x).symm,rfl⟩ | exact ⟨congrArg (Value.int .u16) (wrap_twice .u16 s x).symm,rfl⟩ | exact ⟨congrArg (Value.int .i16) (wrap_twice .i16 s x).symm,rfl⟩ | exact ⟨congrArg (Value.int .u8) (wrap_twice .u8 s x).symm,rfl⟩ | exact ⟨congrArg (Value.int .i8) (wrap_twice .i8 s x).symm,rfl⟩)
 | _=>simp [conv] at e
theorem bytes_rel:∀ {ls:List L} {vs:List Value} {bs:List UInt8},bytesL ls=some bs→RelLs ρ ls vs→vs=bs.map fun b=> .int .u8 (b.toNat:Int)
 | [],vs,bs,e,h=>by cases h;simp [bytesL] at e;subst e;rfl
 | l::ls,vs,bs,e,h=>by
   cases l with
   | b8 s x=>
     cases s with
     | true=>simp [bytesL] at e
     | false=>
       simp only [bytesL] at e
       split at e
       · rename_i r hr
         obtain rfl:=Option.some.inj e
         obtain ⟨v,ws,rfl,h1,h2⟩:=(relLs_cons rfl).1 h
         rw [bytes_rel hr h2,h1 (by simp)]
         simp only [List.map_cons]
         rfl
       · cases e
   | _=>simp [bytesL] at e
theorem nums_back (bs:List UInt8):strOfNums (bs.map fun b=>(b.toNat:Int))=⟨⟨bs⟩⟩:=by
 simp only [strOfNums,List.map_map]
 have:(fun n:Int=>UInt8.ofNat n.toNat) ∘ (fun b:UInt8=>(b.toNat:Int))=id:=by
  funext b
  simp
 rw [this]
 simp
theorem conv_bytes {src d el:TypeId} (hs:P.underlying src=some (.slice el)) (he:P.underlying el=some (.int .u8)) (hd:P.underlying d=some .string) {x:Operand} {g o off n cp:Nat}
 (hev:a.eval x= .slice (some ⟨g,o + off,none⟩) n cp) {T':TypeId} {cs:Array Value} {fr:Nat×Nat} (hcell:w.heap[g]? =some (.cells cs T' fr)) {us ws:List Value} (hd':cs.toList.drop o=us++ws)
 {bs:List UInt8} (hxs:(us.drop off).take n=bs.map fun b=>Value.int .u8 (b.toNat:Int)) (h2:n≤us.length - off) {B:ByteArray} (hB:B=⟨⟨bs⟩⟩) {dst:Option Tmp} {ty:TypeId} {pos:String} {after:Array Edge} {gu:Option (Nat×Bool)} :
 ∃ u,(execOp a.eval ⟨dst,.convert src d x,ty,pos,after,gu⟩).run P w= .ok (.value u) w∧RelA ρ (.one (.str B)) u∧∀ m∈(AV.one (.str B)).names,h m≠none:=by
 subst hB
 have hlen:bs.length=n:=by
  have:=congrArg List.length hxs
  simp at this;omega
 refine ⟨.string ⟨⟨bs⟩⟩,?_,fun _=>rfl,by simp [AV.names,L.names]⟩
 have hrun:=run_convert_bytes_arg (P:=P) w src el hs he g (o + off) n cp (bs.map fun b=>(b.toNat:Int)) (by simpa using hlen) (fun j hj=>by
  rw [cell_of_rel hcell]
  have hj':=congrArg (fun l=>l[j]?) hxs
  simp only [List.getElem?_take,List.getElem?_drop,List.getElem?_map,if_pos hj] at hj'
  have hjb:j<bs.length:=by omega
  rw [List.getElem?_eq_getElem hjb] at hj'
  simp only [Option.map_some] at hj'
  have h3:(cs.toList.drop o)[off + j]? =us[off + j]? :=by rw [hd',List.getElem?_append_left (by omega)]
  rw [List.getElem?_drop,hj',← Nat.add_assoc] at h3
  rw [← Array.getElem?_toList,h3]
  simp [List.getD,List.getElem?_eq_getElem hjb]) d hd
 rw [nums_back] at hrun
 simp [execOp,hev,hrun]
theorem isB8_eq {ps:List PL} (h:isB8 ps=true):∃ x,ps=[.b8 false x]:=by
 unfold isB8 at h
 split at h
 · exact ⟨_,rfl⟩
 · cases h
theorem ok_convert (C:Ctx ρ t h a w) {dst:Option Tmp} {src d:TypeId} {x:Operand} {ty:TypeId} {pos:String} {after:Array Edge} {gu:Option (Nat×Bool)} {c:Cond} {r:Req}
 (e:req P (.convert src d x) t=some (c,r)):ReqOK P ρ h a w ⟨dst,.convert src d x,ty,pos,after,gu⟩ r:=by
 simp only [req] at e
 split at e
 · rename_i i off n cp hx
   obtain ⟨hev,hin⟩:=ev_slc C hx
   split at e
   · rename_i el hs hd
     split at e
     · rename_i he
       simp only [Option.some.injEq,Prod.mk.injEq] at e
       obtain ⟨-,rfl⟩:=e
       refine ⟨hin,fun b hb c v hv _=> ?_⟩
       dsimp only at hv
       split at hv
       · rename_i ls hls
         obtain ⟨T',cs,fr,us,ws,hcell,hd',hr,-⟩:=rd_get C hb hls
         split at hv
         · rename_i r ht
           split at hv
           · rename_i bs hbs
             simp only [Option.some.injEq,Prod.mk.injEq] at hv
             obtain ⟨-,rfl⟩:=hv
             have ⟨h1,h2⟩:=relLs_take _ ht (relLs_drop off hr)
             have hxs:=bytes_rel hbs h1
             exact conv_bytes hs he hd hev hcell hd' hxs (by simpa using h2) rfl
           · cases hv
         · cases hv
       · cases hv
     · cases e
   · cases e
 · rename_i i n hx
   obtain ⟨hev,hin⟩:=ev_rsl C hx
   split at e
   · rename_i el hs hd
     split at e
     · rename_i he
       simp only [Option.some.injEq,Prod.mk.injEq] at e
       obtain ⟨-,rfl⟩:=e
       refine ⟨hin,fun b hb c v hv hcc=> ?_⟩
       dsimp only at hv
       split at hv
       · rename_i ls hls
         split at hv
         · rename_i z n' f
           obtain ⟨T',cs,fr,us,ws,hcell,hd',hr,-⟩:=rd_get C hb hls
           split at hv
           · rename_i hz
             have hz':z=1:=by simpa using hz
             subst hz'
             simp only [Option.some.injEq,Prod.mk.injEq] at hv
             obtain ⟨rfl,rfl⟩:=hv
             obtain ⟨hnn,hf0⟩:n≤n'∧∀ k,k<n→isB8 (f k)=true:=hcc
             have hf:∀ k,k<n→∃ x,f k=[.b8 false x]:=fun k hk=>isB8_eq (hf0 k hk)
             obtain ⟨us',ws',rfl,hseg,hw'⟩:=hr
             cases hw'
             have hseg:SegV 1 n' f us':=hseg
             have hxs:((us'++[]).drop 0).take n=((List.range n).map fun k=>byteP (f k)).map fun b=>Value.int .u8 (b.toNat:Int):=by
              rw [List.drop_zero,List.append_nil]
              apply List.ext_getElem?
              intro j
              rw [List.getElem?_take]
              split
              · rename_i hj
                obtain ⟨x,hx⟩:=hf j hj
                have:=(hseg.2 j (by omega)).2 0 (by omega)
                rw [Nat.one_mul,Nat.add_zero,hx] at this
                rw [this,List.getElem?_map,List.getElem?_map,List.getElem?_range hj]
                simp only [Option.map_some,hx,byteP]
                rfl
              · rename_i hj
                rw [List.getElem?_eq_none (by simp;omega)]
             have hl:=hseg.1
             exact conv_bytes hs he hd (off:=0) (by simpa using hev) hcell hd' hxs (by simp;omega) rfl
           · cases hv
         · cases hv
       · cases hv
     · cases e
   · cases e
 · rename_i hx
   have rx:=ev_rel C x
   rw [hx] at rx
   have hev:=rx (by simp)
   simp only [gL] at hev
   split at e
   · rename_i el hs hd
     split at e
     · rename_i he
       simp only [Option.some.injEq,Prod.mk.injEq] at e
       obtain ⟨-,rfl⟩:=e
       refine ⟨.string ⟨⟨[]⟩⟩,?_,fun _=>rfl,by simp [AV.names,L.names]⟩
       have hrun:=run_convert_bytes_nil (P:=P) w src el hs he 0 0 d hd
       simp only [execOp,Sem.run_bind,hev,hrun,Result.andThen_ok]
       rfl
     · cases e
   · cases e
 · rename_i lx _ _ hx
   have rx:=ev_rel C x
   rw [hx] at rx
   split at e
   · rename_i ds k hs hd
     split at e
     · rename_i v hv
       simp only [Option.some.injEq,Prod.mk.injEq] at e
       obtain ⟨-,rfl⟩:=e
       obtain ⟨k',m,hk,h1,h2⟩:=conv_run hv rx
       refine ⟨_,?_,fun _=>rfl,by simp [AV.names,h2]⟩
       rw [h1]
       simp [execOp,convert,hk,run_underlying hs,run_underlying hd,Conv.intToInt]
     · cases e
   · cases e
 · cases e
theorem min2_run {x y l:L} (e:min2 x y=some l) {u v:Value} (hx:RelL ρ x u) (hy:RelL ρ y v):(Builtin.min2 u v).run P w= .ok (gL ρ l) w∧l.names=[]:=by
 cases x with
 | b64 s x=>
   cases y<;>simp only [min2,reduceCtorEq] at e
   obtain ⟨hs,e2⟩:=same_some e
   subst hs
   rw [hx (by simp),hy (by simp)]
   cases s<;>obtain rfl:=Option.some.inj e2<;>refine ⟨?_,rfl⟩
   · simp only [gL,Builtin.min2,show ∀ p q:BitVec _,p.ult q=ltW false p q from fun _ _=>rfl,← n_lt,decide_eq_true_eq]
     split<;>rfl
   · simp only [gL,Builtin.min2,show ∀ p q:BitVec _,p.slt q=ltW true p q from fun _ _=>rfl,← n_lt,decide_eq_true_eq]
     split<;>rfl
 | b32 s x=>
   cases y<;>simp only [min2,reduceCtorEq] at e
   obtain ⟨hs,e2⟩:=same_some e
   subst hs
   rw [hx (by simp),hy (by simp)]
   cases s<;>obtain rfl:=Option.some.inj e2<;>refine ⟨?_,rfl⟩
   · simp only [gL,Builtin.min2,show ∀ p q:BitVec _,p.ult q=ltW false p q from fun _ _=>rfl,← n_lt,decide_eq_true_eq]
     split<;>rfl
   · simp only [gL,Builtin.min2,show ∀ p q:BitVec _,p.slt q=ltW true p q from fun _ _=>rfl,← n_lt,decide_eq_true_eq]
     split<;>rfl
 | b16 s x=>
   cases y<;>simp only [min2,reduceCtorEq] at e
   obtain ⟨hs,e2⟩:=same_some e
   subst hs
   rw [hx (by simp),hy (by simp)]
   cases s<;>obtain rfl:=Option.some.inj e2<;>refine ⟨?_,rfl⟩
   · simp only [gL,Builtin.min2,show ∀ p q:BitVec _,p.ult q=ltW false p q from fun _ _=>rfl,← n_lt,decide_eq_true_eq]
     split<;>rfl
   · simp only [gL,Builtin.min2,show ∀ p q:BitVec _,p.slt q=ltW true p q from fun _ _=>rfl,← n_lt,decide_eq_true_eq]
     split<;>rfl
 | b8 s x=>
   cases y<;>simp only [min2,reduceCtorEq] at e
   obtain ⟨hs,e2⟩:=same_some e
   subst hs
   rw [hx (by simp),hy (by simp)]
   cases s<;>obtain rfl:=Option.some.inj e2<;>refine ⟨?_,rfl⟩
   · simp only [gL,Builtin.min2,show ∀ p q:BitVec _,p.ult q=ltW false p q from fun _ _=>rfl,← n_lt,decide_eq_true_eq]
     split<;>rfl
   · simp only [gL,Builtin.min2,show ∀ p q:BitVec _,p.slt q=ltW true p q from fun _ _=>rfl,← n_lt,decide_eq_true_eq]
     split<;>rfl
 | _=>cases y<;>simp [min2] at e
theorem max2_run {x y l:L} (e:max2 x y=some l) {u v:Value} (hx:RelL ρ x u) (hy:RelL ρ y v):(Builtin.max2 u v).run P w= .ok (gL ρ l) w∧l.names=[]:=by
 cases x with
 | b64 s x=>
   cases y<;>simp only [max2,reduceCtorEq] at e
   obtain ⟨hs,e2⟩:=same_some e
   subst hs
   rw [hx (by simp),hy (by simp)]
   cases s<;>obtain rfl:=Option.some.inj e2<;>refine ⟨?_,rfl⟩
   · simp only [gL,Builtin.max2,show ∀ p q:BitVec _,p.ult q=ltW false p q from fun _ _=>rfl,← n_lt,decide_eq_true_eq]
     split<;>rfl
   · simp only [gL,Builtin.max2,show ∀ p q:BitVec _,p.slt q=ltW true p q from fun _ _=>rfl,← n_lt,decide_eq_true_eq]
     split<;>rfl
 | b32 s x=>
   cases y<;>simp only [max2,reduceCtorEq] at e
   obtain ⟨hs,e2⟩:=same_some e
   subst hs
   rw [hx (by simp),hy (by simp)]
   cases s<;>obtain rfl:=Option.some.inj e2<;>refine ⟨?_,rfl⟩
   · simp only [gL,Builtin.max2,show ∀ p q:BitVec _,p.ult q=ltW false p q from fun _ _=>rfl,← n_lt,decide_eq_true_eq]
     split<;>rfl
   · simp only [gL,Builtin.max2,show ∀ p q:BitVec _,p.slt q=ltW true p q from fun _ _=>rfl,← n_lt,decide_eq_true_eq]
     split<;>rfl
 | b16 s x=>
   cases y<;>simp only [max2,reduceCtorEq] at e
   obtain ⟨hs,e2⟩:=same_some e
   subst hs
   rw [hx (by simp),hy (by simp)]
   cases s<;>obtain rfl:=Option.some.inj e2<;>refine ⟨?_,rfl⟩
   · simp only [gL,Builtin.max2,show ∀ p q:BitVec _,p.ult q=ltW false p q from fun _ _=>rfl,← n_lt,decide_eq_true_eq]
     split<;>rfl
   · simp only [gL,Builtin.max2,show ∀ p q:BitVec _,p.slt q=ltW true p q from fun _ _=>rfl,← n_lt,decide_eq_true_eq]
     split<;>rfl
 | b8 s x=>
   cases y<;>simp only [max2,reduceCtorEq] at e
   obtain ⟨hs,e2⟩:=same_some e
   subst hs
   rw [hx (by simp),hy (by simp)]
   cases s<;>obtain rfl:=Option.some.inj e2<;>refine ⟨?_,rfl⟩
   · simp only [gL,Builtin.max2,show ∀ p q:BitVec _,p.ult q=ltW false p q from fun _ _=>rfl,← n_lt,decide_eq_true_eq]
     split<;>rfl
   · simp only [gL,Builtin.max2,show ∀ p q:BitVec _,p.slt q=ltW true p q from fun _ _=>rfl,← n_lt,decide_eq_true_eq]
     split<;>rfl
 | _=>cases y<;>simp [max2] at e
theorem evs_two {xs:List Operand} {x y:L} (C:Ctx ρ t h a w) (e:evs t xs=[.one x,.one y]):∃ u v,xs.map a.eval=[u,v]∧RelL ρ x u∧RelL ρ y v:=by
 have hr:=evs_rel C xs
 rw [e] at hr
 generalize xs.map a.eval=us at *
 match us,hr with
 | [u,v],⟨h1,h2,_⟩=>exact ⟨u,v,rfl,h1,h2⟩
theorem evs_three {xs:List Operand} {x y z:L} (C:Ctx ρ t h a w) (e:evs t xs=[.one x,.one y,.one z]):∃ u v q,xs.map a.eval=[u,v,q]∧RelL ρ x u∧RelL ρ y v∧RelL ρ z q:=by
 have hr:=evs_rel C xs
 rw [e] at hr
 generalize xs.map a.eval=us at *
 match us,hr with
 | [u,v,q],⟨h1,h2,h3,_⟩=>exact ⟨u,v,q,rfl,h1,h2,h3⟩
theorem evs_one {xs:List Operand} {x:L} (C:Ctx ρ t h a w) (e:evs t xs=[.one x]):∃ u,xs.map a.eval=[u]∧RelL ρ x u:=by
 have hr:=evs_rel C xs
 rw [e] at hr
 generalize xs.map a.eval=us at *
 match us,hr with
 | [u],⟨h1,_⟩=>exact ⟨u,rfl,h1⟩
theorem vI_len {n:Nat} (h:n<9223372036854775808):vI true (BitVec.ofNat 64 n)=(n:Int):=by
 simp only [vI,BitVec.toInt_ofNat']
 rw [Int.bmod_eq_of_le]<;>omega
theorem src_there {g o off m cp z:Nat} {T T' e:TypeId} (hT:P.underlying T=some (.slice e)) {cs:Array Value} {fr:Nat×Nat} (hcell:w.heap[g]? =some (.cells cs T' fr)) {us ws:List Value} (hd:cs.toList.drop o=us++ws) {v:Value}
 (hv:v= .slice (some ⟨g,o + off,none⟩) m cp) {f:Nat→List PL} (h1:z*m≤(us.drop off).length) (h2:(∀ j,j<m→(f j).length=z)→SegV z m f ((us.drop off).take (z*m))) (hz:∀ j,j<m→(f j).length=z) :
 ∃ news,_root_.Go.Src P z T v m news w∧SegV z m f news:=by
 subst hv
 refine ⟨(us.drop off).take (z*m),.ofSlice w hT _ _ _ _ ?_ (fun i u hu=> ?_) (fun u hu=> ?_),h2 hz⟩
 · rw [List.length_take,Nat.min_eq_left h1,Nat.mul_comm]
 · rw [addr_add,cell_of_rel hcell]
   rw [List.getElem?_take] at hu
   split at hu
   · rw [List.getElem?_drop] at hu
     have h3:(cs.toList.drop o)[off + i]? =some u:=by rw [hd,List.getElem?_append_left (List.getElem?_eq_some_iff.1 hu).1];exact hu
     rw [List.getElem?_drop,← Nat.add_assoc] at h3
     simpa using h3
   · cases hu
 · obtain ⟨p,rfl⟩:=(h2 hz).mem hu
   exact gP_one p
theorem byteAt_get (s:ByteArray) (k:Nat) (hk:k<s.size):(byteCells s)[k]? =some (gP (.b8 false (byteAt s k))):=by
 have h:∀ (l:List UInt8) (k:Nat),k<l.length→(l.map fun b=>Value.int .u8 b.toNat)[k]? =some (gP (.b8 false (nthB l k))):=by
  intro l
  induction l with
  | nil=>intro k hk;simp at hk
  | cons x l ih=>
    intro k hk
    cases k with
    | zero=>simp [nthB,gP,vI];rfl
    | succ k=>simpa [nthB] using ih k (by simpa using hk)
 exact h s.data.toList k (by simpa using hk)
theorem seg_str (s:ByteArray):SegV 1 s.size (fun k=>[.b8 false (byteAt s k)]) (byteCells s):=by
 refine ⟨by rw [byteCells_length,Nat.one_mul],fun k hk=>⟨rfl,fun j hj=> ?_⟩⟩
 obtain rfl:j=0:=by omega
 rw [Nat.one_mul,Nat.add_zero,byteAt_get s k hk]
 rfl
theorem app_nothing (C:Ctx ρ t h a w) {o:Oper} {T e:TypeId} {inf:TypeInfo} {ty:TypeId} {i n:Nat} {u v:Value} (hu:P.underlying T=some (.slice e)) (hi:P.info? e=some inf) (hs:_root_.Go.Src P inf.size T v 0 [] w)
 (hbs:u= .slice (some ⟨(ρ i).b,(ρ i).o,none⟩) n (ρ i).c∧h i≠none) (hrun:∀ r w',(Builtin.append_ #[T,T] ty #[u,v]).run P w= .ok r w'→(execOp a.eval o).run P w= .ok (.value r) w') :
 ReqOK P ρ h a w o (.rd i fun
  | .row _ _ n' _=>some (.p (n≤n'),.one (.rsl i n))
  | _=>none):=by
 refine ⟨hbs.2,fun b hb c v' hv' hcc=> ?_⟩
 cases b with
 | row T2 z2 n2 f=>
   simp only [Option.some.injEq,Prod.mk.injEq] at hv'
   obtain ⟨rfl,rfl⟩:=hv'
   have hle:n≤n2:=hcc
   obtain ⟨cs,hcell,h0,hsz,hnc,-,hseg⟩:=C.heap i _ hb
   refine ⟨_,hrun _ _ ?_,fun _=>rfl,by simpa [AV.names,L.names] using hbs.2⟩
   have hnc':n≤(ρ i).c:=Nat.le_trans hle hnc
   have hc0:=hs.cells
   rcases hs.kind with ⟨e',hk⟩ | hk
   · rw [hu] at hk
     simp [Builtin.append_,hbs.1,run_underlying hu,sizeOf,typeInfo,hi,hs.len,hc0,storeCells,hnc',gL]
   · rw [hu] at hk;cases hk
 | _=>simp at hv'
theorem ok_call (C:Ctx ρ t h a w) {dst:Option Tmp} {cl:Call} {ty:TypeId} {pos:String} {after:Array Edge} {gu:Option (Nat×Bool)} {c:Cond} {r:Req}
 (e:req P (.call cl) t=some (c,r)) (hc:c.holds):ReqOK P ρ h a w ⟨dst,.call cl,ty,pos,after,gu⟩ r:=by
 obtain ⟨callee,args,ats⟩:=cl
 simp only [req] at e
 split at e
 · rename_i f
   simp only [Option.some.injEq,Prod.mk.injEq] at e
   obtain ⟨-,rfl⟩:=e
   refine ⟨args.toList.map a.eval,evs_rel C _,?_,evs_names C _⟩
   simp [execOp,resolve,Act.eval,Deferred.ofValue,invoke]
   rw [← Array.toList_map,Array.toArray_toList]
 · rename_i n
   split at e
   · rename_i f fst cap hx
     split at e
     · rename_i hf hcap
       simp only [Option.some.injEq,Prod.mk.injEq] at e
       obtain ⟨-,rfl⟩:=e
       obtain rfl:fst=#[]:=by cases fst;simp_all
       obtain rfl:cap=#[]:=by cases cap;simp_all
       have hev:a.eval (.tmp n)= .func (.func f) #[] #[]:=by
        have hr:=ev_rel C (.tmp n)
        rw [show ev t (.tmp n)=getT t n from rfl,hx] at hr
        exact hr (by simp)
       refine ⟨args.toList.map a.eval,evs_rel C _,?_,evs_names C _⟩
       simp only [execOp,resolve,hev]
       simp [Deferred.ofValue,invoke]
       rw [← Array.toList_map,Array.toArray_toList]
     · cases e
   · rename_i f caps hx
     simp only [Option.some.injEq,Prod.mk.injEq] at e
     obtain ⟨-,rfl⟩:=e
     have hr:=ev_rel C (.tmp n)
     have hnm:=ev_names C (.tmp n)
     rw [show ev t (.tmp n)=getT t n from rfl,hx] at hr hnm
     have hev:a.eval (.tmp n)= .func (.func f) #[] (capVals ρ caps).toArray:=hr (by simp)
     refine ⟨args.toList.map a.eval++capVals ρ caps,relAs_append (evs_rel C _) (capVs_rel ρ caps),?_,?_⟩
     · have e1:(args.toList.map a.eval++capVals ρ caps).toArray=args.map a.eval++(capVals ρ caps).toArray:=by
        apply Array.toList_inj.1
        simp
       simp only [execOp,resolve,hev]
       rw [e1]
       simp [Deferred.ofValue,invoke]
     · intro v hv m hm
       rcases List.mem_append.1 hv with hv | hv
       · exact evs_names C _ v hv m hm
       · exact hnm m (by simpa [AV.names,L.names] using capVs_names hv hm)
   · cases e
 · split at e
   · rename_i T i off n cp hT hx
     obtain ⟨u,hm,hu⟩:=evs_one C hx
     split at e
     · rename_i el hT'
       simp only [Option.some.injEq,Prod.mk.injEq] at e
       obtain ⟨rfl,rfl⟩:=e
       have hv:=hu (by simp)
       have ha:ats=#[T]:=by cases ats;simp_all
       refine ⟨_,?_,fun _=>rfl,by simp [AV.names,L.names]⟩
       have hm':args.map a.eval=#[u]:=by
        have:(args.map a.eval).toList=[u]:=by rw [Array.toList_map];exact hm
        cases h:args.map a.eval;simp_all
       simp only [execOp,resolve,hm',invoke,builtin,Builtin.len_,ha]
       simp [run_underlying hT',hv,gL,goInt,vI_len hc,k64]
     · cases e
   · rename_i T str hT hx
     obtain ⟨u,hm,hu⟩:=evs_one C hx
     split at e
     · rename_i hT'
       simp only [Option.some.injEq,Prod.mk.injEq] at e
       obtain ⟨rfl,rfl⟩:=e
       have hv:=hu (by simp)
       have ha:ats=#[T]:=by cases ats;simp_all
       refine ⟨_,?_,fun _=>rfl,by simp [AV.names,L.names]⟩
       have hm':args.map a.eval=#[u]:=by
        have:(args.map a.eval).toList=[u]:=by rw [Array.toList_map];exact hm
        cases h:args.map a.eval;simp_all
       simp only [execOp,resolve,hm',invoke,builtin,Builtin.len_,ha]
       simp [run_underlying hT',hv,gL,goInt,vI_len hc,k64]
     · cases e
   · rename_i T i n hT hx
     obtain ⟨u,hm,hu⟩:=evs_one C hx
     split at e
     · rename_i el hT'
       simp only [Option.some.injEq,Prod.mk.injEq] at e
       obtain ⟨rfl,rfl⟩:=e
       have hv:=hu (by simp)
       have ha:ats=#[T]:=by cases ats;simp_all
       refine ⟨_,?_,fun _=>rfl,by simp [AV.names,L.names]⟩
       have hm':args.map a.eval=#[u]:=by
        have:(args.map a.eval).toList=[u]:=by rw [Array.toList_map];exact hm
        cases h:args.map a.eval;simp_all
       simp only [execOp,resolve,hm',invoke,builtin,Builtin.len_,ha]
       simp [run_underlying hT',hv,gL,goInt,vI_len hc,k64]
     · cases e
   · rename_i T i z k _ n hT hx
     obtain ⟨u,hm,hu⟩:=evs_one C hx
     split at e
     · rename_i el hT'
       simp only [Option.some.injEq,Prod.mk.injEq] at e
       obtain ⟨rfl,rfl⟩:=e
       have hv:=hu (by simp)
       have ha:ats=#[T]:=by cases ats;simp_all
       refine ⟨_,?_,fun _=>rfl,by simp [AV.names,L.names]⟩
       have hm':args.map a.eval=#[u]:=by
        have:(args.map a.eval).toList=[u]:=by rw [Array.toList_map];exact hm
        cases h:args.map a.eval;simp_all
       simp only [execOp,resolve,hm',invoke,builtin,Builtin.len_,ha]
       simp [run_underlying hT',hv,gL,goInt,vI_len hc,k64]
     · cases e
   · rename_i T ad cp hT hx
     obtain ⟨u,hm,hu⟩:=evs_one C hx
     split at e
     · rename_i el hT'
       simp only [Option.some.injEq,Prod.mk.injEq] at e
       obtain ⟨rfl,rfl⟩:=e
       have hv:=hu (by simp)
       have ha:ats=#[T]:=by cases ats;simp_all
       refine ⟨_,?_,fun _=>rfl,by simp [AV.names,L.names]⟩
       have hm':args.map a.eval=#[u]:=by
        have:(args.map a.eval).toList=[u]:=by rw [Array.toList_map];exact hm
        cases h:args.map a.eval;simp_all
       simp only [execOp,resolve,hm',invoke,builtin,Builtin.len_,ha]
       simp [run_underlying hT',hv,gL,goInt,k64,vI]
     · cases e
   · rename_i T i hT hx
     obtain ⟨u,hm,hu⟩:=evs_one C hx
     have hin:h i≠none:=evs_names C args.toList (.one (.imap i)) (by rw [hx];simp) i (by simp [AV.names,L.names])
     split at e
     · rename_i kt et hT'
       simp only [Option.some.injEq,Prod.mk.injEq] at e
       obtain ⟨-,rfl⟩:=e
       have hv:=hu (by simp)
       have ha:ats=#[T]:=by cases ats;simp_all
       refine ⟨hin,fun b hb c v hbv hcc=> ?_⟩
       cases b with
       | imap es=>
         simp only [Option.some.injEq,Prod.mk.injEq] at hbv
         obtain ⟨rfl,rfl⟩:=hbv
         have hlen:es.length<9223372036854775808:=hcc
         obtain ⟨ents,clock,hw,hes⟩:=C.heap i _ hb
         have hsz:ents.size=es.length:=by
          have:=congrArg List.length hes
          simpa [entsOf] using this
         refine ⟨_,?_,fun _=>rfl,by simp [AV.names,L.names]⟩
         have hm':args.map a.eval=#[u]:=by
          have:(args.map a.eval).toList=[u]:=by rw [Array.toList_map];exact hm
          cases h:args.map a.eval;simp_all
         simp only [execOp,resolve,hm',invoke,builtin,Builtin.len_,ha]
         simp [run_underlying hT',hv,gL,goInt,vI_len hlen,k64,MapKept.run_getObj_map hw,hsz]
       | romap es=>
         simp only [Option.some.injEq,Prod.mk.injEq] at hbv
         obtain ⟨rfl,rfl⟩:=hbv
         have hlen:es.length<9223372036854775808:=hcc
         obtain ⟨ents,clock,hw,hes⟩:=C.heap i _ hb
         have hsz:ents.size=es.length:=by
          have:=congrArg List.length hes
          simpa [entsOf] using this
         refine ⟨_,?_,fun _=>rfl,by simp [AV.names,L.names]⟩
         have hm':args.map a.eval=#[u]:=by
          have:(args.map a.eval).toList=[u]:=by rw [Array.toList_map];exact hm
          cases h:args.map a.eval;simp_all
         simp only [execOp,resolve,hm',invoke,builtin,Builtin.len_,ha]
         simp [run_underlying hT',hv,gL,goInt,vI_len hlen,k64,MapKept.run_getObj_map hw,hsz]
       | _=>simp at hbv
     · cases e
   · cases e
 · split at e
   · rename_i T T' x y hT hxy
     obtain ⟨u,v,hm,hx,hy⟩:=evs_two C hxy
     split at e
     · rename_i el hu
       split at e
       · rename_i inf hi
         split at e
         · rename_i base zv hbase hz
           split at e
           · rename_i h1 h2 h3
             have ha:ats=#[T,T']:=by cases ats;simp_all
             have hm':args.map a.eval=#[u,v]:=by
              have:(args.map a.eval).toList=[u,v]:=by rw [Array.toList_map];exact hm
              cases h:args.map a.eval;simp_all
             have hrun:∀ r w',(Builtin.append_ #[T,T'] ty #[u,v]).run P w= .ok r w'→(execOp a.eval ⟨dst,.call ⟨.builtin .append,args,ats⟩,ty,pos,after,gu⟩).run P w= .ok (.value r) w':=by
              intro r w' h
              simp only [execOp,resolve,hm',invoke,builtin,ha,Sem.run_bind,Sem.run_pure,Result.andThen_ok,h]
             have hbs:match (generalizing:=false) base with | none=>u= .slice none 0 0 | some (i,n)=>u= .slice (some ⟨(ρ i).b,(ρ i).o,none⟩) n (ρ i).c∧h i≠none:=by
              split at hbase
              · obtain rfl:=Option.some.inj hbase
                exact hx (by simp)
              · rename_i i n
                obtain rfl:=Option.some.inj hbase
                exact ⟨hx (by simp),evs_names C args.toList (.one (.rsl i n)) (by rw [hxy];simp) i (by simp [AV.names,L.names])⟩
              · cases hbase
             have h2':0<inf.size:=Nat.le_of_ble_eq_true h2
             have h1':inf.bytes≤4096:=by simpa using h1
             have h3':zv.cells.size=inf.size:=by simpa using h3
             split at e
             · rename_i hTT
               have hTT':T=T':=by simpa using hTT
               subst hTT'
               split at e
               · rename_i j off m cp
                 simp only [Option.some.injEq,Prod.mk.injEq] at e
                 obtain ⟨rfl,rfl⟩:=e
                 refine ⟨T,T,inf,zv,ty,u,v,hu,hi,hz,rfl,h3',h2',h1',hc,hrun,hbs,⟨evs_names C args.toList (.one (.slc j off m cp)) (by rw [hxy];simp) j (by simp [AV.names,L.names]),fun b hb c g hg hcc=> ?_⟩,fun T0 l hb hok ho hz1 hm1=> ?_⟩
                 · dsimp only at hg
                   split at hg
                   · rename_i ls hls
                     obtain ⟨T',cs,fr,us,ws,hcell,hd',hr,-⟩:=rd_get C hb hls
                     obtain ⟨q1,q2⟩:=srcF_rel hr hg hcc
                     exact src_there hu hcell hd' (hy (by simp)) q1 q2
                   · cases hg
                 · obtain ⟨cs,hcell,h0,hr⟩:=C.heap j _ hb
                   obtain ⟨v0,ws,e1,hr1,hr2⟩:=(relLs_cons (ok_seg hok)).1 hr
                   have hv:v= .slice (some ⟨(ρ j).b,(ρ j).o + off,none⟩) m cp:=hy (by simp)
                   subst hm1
                   refine ⟨v0,?_,hr1⟩
                   rw [hv,ho,h0,hz1]
                   refine .ofSlice w hu _ _ _ _ (by simp) (fun i u hi=> ?_) (fun u hi=> ?_)
                   · cases i with
                     | zero=>
                       obtain rfl:v0=u:=by simpa using hi
                       rw [addr_add,cell_of_rel hcell,← Array.getElem?_toList,e1]
                       rfl
                     | succ i=>simp at hi
                   · obtain rfl:u=v0:=by simpa using hi
                     rw [relL_ok hok hr1];exact oneCell_leaf (gL_leaf hok)
               · rename_i j m
                 simp only [Option.some.injEq,Prod.mk.injEq] at e
                 obtain ⟨rfl,rfl⟩:=e
                 refine ⟨T,T,inf,zv,ty,u,v,hu,hi,hz,rfl,h3',h2',h1',hc,hrun,hbs,evs_names C args.toList (.one (.rsl j m)) (by rw [hxy];simp) j (by simp [AV.names,L.names]),fun b hb c g hg hcc=> ?_⟩
                 dsimp only at hg
                 split at hg
                 · rename_i ls hls
                   obtain ⟨T',cs,fr,us,ws,hcell,hd',hr,-⟩:=rd_get C hb hls
                   obtain ⟨q1,q2⟩:=srcF_rel hr hg hcc
                   exact src_there hu hcell hd' (off:=0) (by simpa [gL] using hy (by simp)) q1 q2
                 · cases hg
               · rename_i ad cp
                 have hv:v= .slice ad 0 cp:=by simpa [gL] using hy (by simp)
                 have hS:_root_.Go.Src P inf.size T v 0 [] w:=by
                  rw [hv]
                  cases ad with
                  | none=>exact .ofNil w hu cp
                  | some ad=>exact .ofSlice w hu ad 0 cp [] (by simp) (by simp) (by simp)
                 split at e
                 · simp only [Option.some.injEq,Prod.mk.injEq] at e
                   obtain ⟨rfl,rfl⟩:=e
                   exact ⟨T,T,inf,zv,ty,u,v,hu,hi,hz,rfl,h3',h2',h1',hc,hrun,hbs,[],hS,by simp,fun k hk=>absurd hk (by omega)⟩
                 · rename_i i n
                   simp only [Option.some.injEq,Prod.mk.injEq] at e
                   obtain ⟨rfl,rfl⟩:=e
                   exact app_nothing C hu hi hS hbs hrun
               · rename_i j z k q0 m
                 split at e
                 · rename_i hm0
                   obtain rfl:m=0:=by simpa using hm0
                   split at e
                   · cases e
                   · rename_i i n
                     simp only [Option.some.injEq,Prod.mk.injEq] at e
                     obtain ⟨rfl,rfl⟩:=e
                     refine app_nothing C hu hi ?_ hbs hrun
                     rw [hy (by simp)]
                     exact .ofSlice w hu _ 0 _ [] (by simp) (by simp) (by simp)
                 · simp only [Option.some.injEq,Prod.mk.injEq] at e
                   obtain ⟨rfl,rfl⟩:=e
                   refine ⟨T,T,inf,zv,ty,u,v,hu,hi,hz,rfl,h3',h2',h1',hc,hrun,hbs,evs_names C args.toList (.one (.rsc j z k q0 m)) (by rw [hxy];simp) j (by simp [AV.names,L.names]),fun b hb c g hg hcc=> ?_⟩
                   cases b with
                   | row T2 z2 n2 f=>
                     dsimp only at hg
                     split at hg
                     · rename_i hz1 hz2
                       simp only [Option.some.injEq,Prod.mk.injEq] at hg
                       obtain ⟨rfl,rfl⟩:=hg
                       obtain rfl:z=inf.size:=by simpa using hz1
                       obtain rfl:z2=inf.size:=by simpa using hz2
                       obtain ⟨hkm,hm0⟩:k + m≤n2∧m≠0:=hcc
                       obtain ⟨cs,hcell,h0,hsz,hnc,-,hseg⟩:=C.heap j _ hb
                       have hv:v= .slice (some ⟨(ρ j).b,(ρ j).o + (if (ρ j).c=k then inf.size*(k - q0) else inf.size*k),none⟩) m ((ρ j).c - k):=hy (by simp)
                       rw [if_neg (by omega)] at hv
                       have hmul:inf.size*k + inf.size*m≤inf.size*n2:=by rw [← Nat.mul_add];exact Nat.mul_le_mul_left _ hkm
                       have hl:=hseg.1
                       exact src_there (us:=cs.toList.take (inf.size*n2)) (ws:=cs.toList.drop (inf.size*n2)) hu hcell (by rw [h0];simp) hv (by rw [List.length_drop,hl];omega) (fun _=>SegV.take (SegV.tail hseg (by omega)) (by omega))
                     · cases hg
                   | _=>simp at hg
               · cases e
             · split at e
               · rename_i s
                 split at e
                 · rename_i hstr hs1
                   simp only [Option.some.injEq,Prod.mk.injEq] at e
                   obtain ⟨rfl,rfl⟩:=e
                   have hv:v= .string s:=by simpa [gL] using hy (by simp)
                   have hs1':inf.size=1:=by simpa using hs1
                   refine ⟨T,T',inf,zv,ty,u,v,hu,hi,hz,rfl,h3',h2',h1',hc,hrun,hbs,byteCells s,?_,?_⟩
                   · rw [hv,hs1'];exact .ofString w hstr s
                   · rw [hs1'];exact seg_str s
                 · cases e
               · cases e
           · cases e
         · cases e
       · cases e
     · cases e
   · cases e
 · split at e
   · rename_i x y hxy
     obtain ⟨u,v,hm,hx,hy⟩:=evs_two C hxy
     split at e
     · rename_i l hl
       simp only [Option.some.injEq,Prod.mk.injEq] at e
       obtain ⟨-,rfl⟩:=e
       obtain ⟨h1,h2⟩:=min2_run (P:=P) (w:=w) hl hx hy
       refine ⟨_,?_,fun _=>rfl,by simp [AV.names,h2]⟩
       simp [execOp,resolve,invoke,builtin,Builtin.min_,hm,h1]
     · cases e
   · rename_i x y z hxy
     obtain ⟨u,v,q,hm,hx,hy,hz⟩:=evs_three C hxy
     split at e
     · rename_i l hl
       split at e
       · rename_i l' hl'
         simp only [Option.some.injEq,Prod.mk.injEq] at e
         obtain ⟨-,rfl⟩:=e
         obtain ⟨h1,h2⟩:=min2_run (P:=P) (w:=w) hl hx hy
         obtain ⟨h3,h4⟩:=min2_run (P:=P) (w:=w) (ρ:=ρ) hl' (u:=gL ρ l) (fun _=>rfl) hz
         refine ⟨_,?_,fun _=>rfl,by simp [AV.names,h4]⟩
         simp [execOp,resolve,invoke,builtin,Builtin.min_,hm,h1,h3]
       · cases e
     · cases e
   · cases e
 · split at e
   · rename_i x y hxy
     obtain ⟨u,v,hm,hx,hy⟩:=evs_two C hxy
     split at e
     · rename_i l hl
       simp only [Option.some.injEq,Prod.mk.injEq] at e
       obtain ⟨-,rfl⟩:=e
       obtain ⟨h1,h2⟩:=max2_run (P:=P) (w:=w) hl hx hy
       refine ⟨_,?_,fun _=>rfl,by simp [AV.names,h2]⟩
       simp [execOp,resolve,invoke,builtin,Builtin.max_,hm,h1]
     · cases e
   · rename_i x y z hxy
     obtain ⟨u,v,q,hm,hx,hy,hz⟩:=evs_three C hxy
     split at e
     · rename_i l hl
       split at e
       · rename_i l' hl'
         simp only [Option.some.injEq,Prod.mk.injEq] at e
         obtain ⟨-,rfl⟩:=e
         obtain ⟨h1,h2⟩:=max2_run (P:=P) (w:=w) hl hx hy
         obtain ⟨h3,h4⟩:=max2_run (P:=P) (w:=w) (ρ:=ρ) hl' (u:=gL ρ l) (fun _=>rfl) hz
         refine ⟨_,?_,fun _=>rfl,by simp [AV.names,h4]⟩
         simp [execOp,resolve,invoke,builtin,Builtin.max_,hm,h1,h3]
       · cases e
     · cases e
   · cases e
 · cases e
theorem fold_list (off:Nat):∀ {us:List Value} (k:Nat) {cs:Array Value},off + k + us.length≤cs.size →
 ((us.zipIdx k).foldl (fun cs (c,j)=>cs.setIfInBounds (off + j) c) cs).toList=cs.toList.take (off + k)++us++cs.toList.drop (off + k + us.length)
 | [],k,cs,_=>by simp
 | u::us,k,cs,hl=>by
   simp only [List.length_cons] at hl
   simp only [List.zipIdx_cons,List.foldl_cons]
   rw [fold_list off (k + 1) (cs:=cs.setIfInBounds (off + k) u) (by simp;omega),Array.toList_setIfInBounds]
   have h1:(cs.toList.set (off + k) u).take (off + (k + 1))=cs.toList.take (off + k)++[u]:=by
    rw [← Nat.add_assoc,List.take_succ_eq_append_getElem (by simp;omega)]
    simp [List.take_set_of_le]
   rw [h1,List.drop_set_of_lt (by omega),List.length_cons,show off + (k + 1) + us.length=off + k + (us.length + 1) by omega]
   simp
def RelP (ρ:Nat→Loc):List (Nat×AV)→List (Nat×Value)→Prop
 | [],[]=>True
 | (i,x)::r,(j,v)::s=>i=j∧RelA ρ x v∧RelP ρ r s
 | _,_=>False
theorem evp_rel (C:Ctx ρ t h a w):∀ ps:List (Nat×Operand),RelP ρ (evp t ps) (ps.map fun p=>(p.1,a.eval p.2))
 | []=>trivial
 | (_,x)::ps=>⟨rfl,ev_rel C x,evp_rel C ps⟩
theorem fill_run (place:Nat→Option (Nat×Nat)):∀ {ps:List (Nat×AV)} {us:List (Nat×Value)} {ls r:List L} {cs:Array Value},fillLs place ls ps=some r→RelP ρ ps us→RelLs ρ ls cs.toList →
 ∃ cs',Instr.fill place cs us=some cs'∧RelLs ρ r cs'.toList
 | [],[],ls,r,cs,e,_,hr=>by
   obtain rfl:ls=r:=by simpa [fillLs] using e
   exact ⟨cs,rfl,hr⟩
 | (_,x)::ps,(j,v)::us,ls,r,cs,e,hp,hr=>by
   obtain ⟨rfl,hx,hp⟩:=hp
   simp only [fillLs] at e
   split at e
   · cases e
   · rename_i off size hpl
     split at e
     · cases e
     · rename_i xs hxs
       split at e
       · cases e
       · rename_i hsz
         split at e
         · cases e
         · rename_i ls' hset
           have rx:=rel_ls hx hxs
           have hl1:=relLs_len rx
           obtain ⟨h0,hle⟩:=relLs_setLs off hset hr rx
           have hsz':wids xs=size:=by simpa using hsz
           have hn:(decide (v.cells.size≠size)||decide (off + v.cells.size>cs.size))=false:=by
            simp at hl1 hle ⊢;omega
           have h1:=fold_list off 0 (us:=v.cells.toList) (cs:=cs) (by simpa using hle)
           rw [Nat.add_zero] at h1
           rw [← h1] at h0
           obtain ⟨cs',h2,h3⟩:=fill_run place e hp h0
           refine ⟨cs',?_,h3⟩
           simp only [Instr.fill,hpl,hn,Bool.false_eq_true,if_false]
           rw [← h2]
           congr 1
           rw [← Array.foldl_toList,Array.toList_zipIdx]
 | [],_::_,_,_,_,_,hp,_=>hp.elim
 | _::_,[],_,_,_,_,hp,_=>hp.elim
theorem fill_names {m:Nat} (place:Nat→Option (Nat×Nat)):∀ {ps:List (Nat×AV)} {ls r:List L},fillLs place ls ps=some r→m∈lnames r→m∈lnames ls∨∃ p∈ps,m∈p.2.names
 | [],ls,r,e,hm=>by
   obtain rfl:ls=r:=by simpa [fillLs] using e
   exact .inl hm
 | (i,x)::ps,ls,r,e,hm=>by
   simp only [fillLs] at e
   split at e
   · cases e
   · split at e
     · cases e
     · rename_i xs hxs
       split at e
       · cases e
       · split at e
         · cases e
         · rename_i ls' hset
           rcases fill_names place e hm with h1 | ⟨p,hp,h1⟩
           · rcases setLs_names _ hset h1 with h1 | h1
             · exact .inl h1
             · rw [ls_names hxs] at h1;exact .inr ⟨(i,x),by simp,h1⟩
           · exact .inr ⟨p,by simp [hp],h1⟩
theorem evp_names (C:Ctx ρ t h a w):∀ (ps:List (Nat×Operand)),∀ p∈evp t ps,∀ m∈p.2.names,h m≠none
 | [],p,hp,_,_=>by simp [evp] at hp
 | (i,x)::ps,p,hp,m,hm=>by
   rcases List.mem_cons.1 hp with rfl | hp
   · exact ev_names C x m hm
   · exact evp_names C ps p hp m hm
theorem placesOf_eq:∀ (fs:List Field) (pl:List (Nat×Nat)),placesOf P fs=some pl→fs.mapM (fun f=>(P.info? f.type).map fun i=>(f.offset,i.size))=some pl
 | [],pl,e=>by simp [placesOf] at e;simp [e]
 | f::fs,pl,e=>by
   simp only [placesOf] at e
   split at e
   · rename_i i r hi hr
     obtain rfl:=Option.some.inj e
     simp [List.mapM_cons,hi,placesOf_eq fs r hr]
   · cases e
theorem ok_build (C:Ctx ρ t h a w) {dst:Option Tmp} {T:TypeId} {ps:Array (Nat×Operand)} {ty:TypeId} {pos:String} {after:Array Edge} {gu:Option (Nat×Bool)} {c:Cond} {r:Req}
 (e:req P (.build T ps) t=some (c,r)):ReqOK P ρ h a w ⟨dst,.build T ps,ty,pos,after,gu⟩ r:=by
 simp only [req] at e
 split at e
 · rename_i inf hi
   split at e
   · rename_i z hz
     split at e
     · rename_i zs hzs
       have rz:=rel_ls (ofV_rel (ρ:=ρ) z) hzs
       have rz':RelLs ρ (match ps.toList with | []=>norm P 8 T zs | _::_=>zs) z.cells.toList:=by
        split
        · exact norm_rel _ _ _ _ rz
        · exact rz
       have nz':∀ m,m∈lnames (match ps.toList with | []=>norm P 8 T zs | _::_=>zs)→m∈lnames zs:=by
        intro m hm
        split at hm
        · exact norm_names _ _ _ hm
        · exact hm
       split at e
       · rename_i fs hu
         split at e
         · rename_i pl hpl
           split at e
           · rename_i ls hf
             simp only [Option.some.injEq,Prod.mk.injEq] at e
             obtain ⟨-,rfl⟩:=e
             obtain ⟨cs',h1,h2⟩:=fill_run _ hf (evp_rel C ps.toList) (norm_rel 8 T _ _ rz)
             refine ⟨.agg cs',?_,⟨_,rfl,h2⟩,fun m hm=> ?_⟩
             · have hpl':(fun i=>pl[i]?)=nth pl:=by funext i;rw [nth_eq]
               simp [execOp,Instr.build,run_underlying hu,run_typeInfo (P:=P) w hi,zeroValue,hz,Array.mapM_eq_mapM_toList,run_places w _ _ (placesOf_eq _ _ hpl)]
               rw [hpl',h1];simp
             · rcases fill_names _ hf hm with h | ⟨p,hp,h⟩
               · have h:=norm_names _ _ _ h
                 rw [ls_names hzs,ofV_names] at h;cases h
               · exact evp_names C _ p hp m h
           · cases e
         · cases e
       · rename_i n el hu
         split at e
         · rename_i inf' hi'
           split at e
           · rename_i ls hf
             simp only [Option.some.injEq,Prod.mk.injEq] at e
             obtain ⟨-,rfl⟩:=e
             obtain ⟨cs',h1,h2⟩:=fill_run _ hf (evp_rel C ps.toList) rz'
             refine ⟨.agg cs',?_,⟨_,rfl,h2⟩,fun m hm=> ?_⟩
             · simp [execOp,Instr.build,run_underlying hu,run_typeInfo (P:=P) w hi,zeroValue,hz,sizeOf_run hi',h1]
             · rcases fill_names _ hf hm with h | ⟨p,hp,h⟩
               · have h:=nz' m h
                 rw [ls_names hzs,ofV_names] at h;cases h
               · exact evp_names C _ p hp m h
           · cases e
         · cases e
       · cases e
     · cases e
   · cases e
 · cases e
theorem mapLeaf_seg:∀ (vs:List Value),∀ l∈mapLeaf vs,isSeg l=false
 | [],l,h=>by simp [mapLeaf] at h
 | v::vs,l,h=>by
   rcases List.mem_cons.1 h with rfl | h
   · exact ofLeaf_seg v
   · exact mapLeaf_seg vs l h
theorem ofV_seg {v:Value} {ls:List L} (e:(ofV v).ls=some ls):∀ l∈ls,isSeg l=false:=by
 have one:∀ x:L,(AV.one x).ls=some ls→∀ l∈ls,isSeg l=false:=by
  intro x e l hl
  simp only [AV.ls] at e
  split at e
  · rename_i hx
    obtain rfl:=Option.some.inj e
    obtain rfl:=List.mem_singleton.1 hl
    exact ok_seg hx
  · cases e
 cases v with
 | agg cs=>
   obtain rfl:mapLeaf cs.toList=ls:=by simpa [ofV,AV.ls] using e
   exact mapLeaf_seg _
 | _=>exact one _ e
theorem relLs_get {ls:List L} {vs:List Value} (hn:∀ l∈ls,isSeg l=false) (i:Nat) {l:L} (h:RelLs ρ ls vs) (hi:ls[i]? =some l):∃ v,vs[i]? =some v∧RelL ρ l v:=by
 induction ls generalizing vs i with
 | nil=>simp at hi
 | cons x ls ih=>
   obtain ⟨v,ws,rfl,h1,h2⟩:=(relLs_cons (hn x (by simp))).1 h
   cases i with
   | zero=>simp at hi;subst hi;exact ⟨v,rfl,h1⟩
   | succ i=>simpa using ih (fun l hl=>hn l (by simp [hl])) i h2 (by simpa using hi)
theorem wids_len {ls:List L} (hn:∀ l∈ls,isSeg l=false):wids ls=ls.length:=by
 induction ls with
 | nil=>rfl
 | cons x ls ih=>
   have h1:wid x=1:=by
    have:=hn x (by simp)
    cases x<;>first | rfl | simp [isSeg] at this
   simp [wids,h1,ih fun l hl=>hn l (by simp [hl])]
theorem zfill_rel {zs:List L} {z:Array Value} (hn:∀ l∈zs,isSeg l=false) (hz:RelLs ρ zs z.toList):∀ (n k:Nat),RelLs ρ (zfill zs n k) (((List.range' k n).map fun i=>z[i % z.size]!))
 | 0,k=>by simp [zfill,RelLs]
 | n + 1,k=>by
   simp only [zfill,List.range'_succ,List.map_cons]
   have hl:zs.length=z.size:=by rw [← wids_len hn,relLs_len hz];simp
   refine (relLs_cons ?_).2 ⟨_,_,rfl,?_,zfill_rel hn hz n (k + 1)⟩
   · split
     · rename_i l hl
       rw [nth_eq] at hl
       exact hn l (List.mem_of_getElem? hl)
     · rfl
   · split
     · rename_i l hl'
       rw [nth_eq,hl] at hl'
       obtain ⟨v,hv,hr⟩:=relLs_get hn _ hz hl'
       have hv':z[k % z.size]? =some v:=by simpa using hv
       rw [show z[k % z.size]! =v by simp [getElem!_def,hv']]
       exact hr
     · exact fun h=>absurd rfl h
theorem zfill_names {zs:List L} (hz:lnames zs=[]):∀ (n k:Nat),lnames (zfill zs n k)=[]
 | 0,k=>rfl
 | n + 1,k=>by
   simp only [zfill,lnames,zfill_names hz n (k + 1),List.append_nil]
   split
   · rename_i l hn
     rw [nth_eq] at hn
     have hm:=List.mem_of_getElem? hn
     cases h:l.names with
     | nil=>rfl
     | cons m ms=>
       have:m∈lnames zs:=lnames_mem.2 ⟨l,hm,by rw [h];simp⟩
       rw [hz] at this;cases this
   · rfl
theorem cutF_seg {z n:Nat} {ps:List PL} (hl:ps.length=z*n):SegV z n (cutF z ps) (ps.map gP):=by
 refine ⟨by simp [hl],fun k hk=> ?_⟩
 have hb:z*k + z≤z*n:=by
  have:=Nat.mul_le_mul_left z hk
  rwa [Nat.mul_succ] at this
 have hsome:takeP (dropP ps (z*k)) z=some ((ps.drop (z*k)).take z):=by
  have key:∀ (qs:List PL) (n:Nat),n≤qs.length→takeP qs n=some (qs.take n):=by
   intro qs
   induction qs with
   | nil=>intro n hn;obtain rfl:n=0:=by simpa using hn
          rfl
   | cons q qs ih=>intro n hn;cases n with
     | zero=>rfl
     | succ n=>simp [takeP,ih n (by simpa using hn)]
  rw [dropP_eq]
  exact key _ _ (by simp;omega)
 unfold cutF
 rw [hsome]
 dsimp only
 exact ⟨by simp;omega,fun j hj=>by rw [List.getElem?_map,List.getElem?_take,if_pos hj,List.getElem?_drop]⟩
theorem cutN_seg {z n:Nat} {ps:List PL} (hl:ps.length=z*n):SegV z n (cutN n z ps) (ps.map gP):=by
 unfold cutN
 cases h:Nat.beq n 1 with
 | false=>
   obtain ⟨h1,h2⟩:=cutF_seg hl
   exact ⟨h1,fun k hk=>by
    have:=h2 k hk
    dsimp only
    rw [bndK_lt hk];exact this⟩
 | true=>
   obtain rfl:n=1:=by simpa using h
   dsimp only
   have:=SegV.cons (z:=z) (n:=0) (f:=fun _=>ps) (ws:=[]) ⟨by simp,fun k hk=>by omega⟩ (by simpa using hl)
   simpa using this
theorem ok_buildSlice (C:Ctx ρ t h a w) {dst:Option Tmp} {T:TypeId} {len:Nat} {ps:Array (Nat×Operand)} {ty:TypeId} {pos:String} {after:Array Edge} {gu:Option (Nat×Bool)} {c:Cond} {r:Req}
 (e:req P (.buildSlice T len ps) t=some (c,r)):ReqOK P ρ h a w ⟨dst,.buildSlice T len ps,ty,pos,after,gu⟩ r:=by
 simp only [req] at e
 split at e
 · rename_i el hu
   split at e
   · rename_i inf hi
     split at e
     · rename_i z hz
       split at e
       · rename_i zs hzs
         have rz:=rel_ls (ofV_rel (ρ:=ρ) z) hzs
         split at e
         · rename_i ls hsz hle hf
           split at e
           · rename_i hne
             simp only [Option.some.injEq,Prod.mk.injEq] at e
             obtain ⟨-,rfl⟩:=e
             have hne':¬ len*inf.size=0:=Nat.ne_of_beq_eq_false hne
             have hle':¬ len*inf.size>2 ^ 24:=by have:len*inf.size≤16777216:=by simpa using hle
                                                 omega
             have hrange:RelLs ρ (zfill zs (len*inf.size) 0) ((Array.range (len*inf.size)).map fun i=>z.cells[i % z.cells.size]!).toList:=by
              have:=zfill_rel (ofV_seg hzs) rz (len*inf.size) 0
              rw [← List.range_eq_range'] at this
              simpa using this
             obtain ⟨cs',h1,h2⟩:=fill_run _ hf (evp_rel C ps.toList) hrange
             have hrun:∀ nv:NewV,nv.val w.heap.size= .slice (some ⟨w.heap.size,0,none⟩) len len→(execOp a.eval ⟨dst,.buildSlice T len ps,ty,pos,after,gu⟩).run P w= .ok (.value (nv.val w.heap.size)) (w.alloc (.cells cs' el (0,0))):=by
              intro nv hnv
              rw [hnv]
              simp only [execOp,Instr.buildSlice,Sem.run_bind,run_underlying hu,Result.andThen_ok,sizeOf_run hi]
              rw [if_neg hle']
              simp [zeroValue,run_typeInfo (P:=P) w hi,hz,hne',h1,newRow]
             have hold:ReqOK P ρ h a w ⟨dst,.buildSlice T len ps,ty,pos,after,gu⟩ (.new (.cells el ls) (.s len)):=by
              refine ⟨.cells cs' el (0,0),hrun (.s len) rfl,⟨_,rfl,rfl,h2⟩,rfl,fun m hm=> ?_⟩
              rcases fill_names _ hf hm with h | ⟨p,hp,h⟩
              · rw [zfill_names (by rw [ls_names hzs,ofV_names])] at h;cases h
              · exact evp_names C _ p hp m h
             unfold slcReq
             split
             · rename_i h2z
               split
               · rename_i qs hqs
                 split
                 · rename_i hlq
                   have hlq':qs.length=inf.size*len:=by simpa using hlq
                   have h3:=toPLs_rel hqs h2
                   have hcl:cs'.size=inf.size*len:=by
                    have:=congrArg List.length h3
                    simpa [hlq'] using this
                   refine ⟨.cells cs' el (0,0),hrun (.r len) rfl,⟨_,rfl,rfl,hcl,Nat.le_refl _,?_,?_⟩,rfl,by simp [Blk.names]⟩
                   · have:len*inf.size≤16777216:=by simpa using hle
                     have h2z':2≤inf.size:=Nat.le_of_ble_eq_true h2z
                     have h5:len*1≤len*inf.size:=Nat.mul_le_mul_left _ (by omega)
                     simp only [NewV.cap,maxLen];omega
                   · rw [List.take_of_length_le (by rw [Array.length_toList,hcl];exact Nat.le_refl _),h3]
                     exact cutN_seg hlq'
                 · exact hold
               · exact hold
             · exact hold
           · cases e
         · cases e
       · cases e
     · cases e
   · cases e
 · cases e
theorem ok_makeSlice (C:Ctx ρ t h a w) {dst:Option Tmp} {T:TypeId} {l c':Operand} {ty:TypeId} {pos:String} {after:Array Edge} {gu:Option (Nat×Bool)} {c:Cond} {r:Req}
 (e:req P (.makeSlice T l c') t=some (c,r)) (hc:c.holds):ReqOK P ρ h a w ⟨dst,.makeSlice T l c',ty,pos,after,gu⟩ r:=by
 simp only [req] at e
 split at e
 · rename_i el hu
   split at e
   · rename_i inf hi
     split at e
     · rename_i z hz
       split at e
       · rename_i zs hzs
         have rz:=rel_ls (ofV_rel (ρ:=ρ) z) hzs
         split at e
         · rename_i x y hx hy
           split at e
           · rename_i ps hps
             split at e
             · rename_i h1 h2 h3
               simp only [Option.some.injEq,Prod.mk.injEq] at e
               obtain ⟨rfl,rfl⟩:=e
               obtain ⟨rfl,h2'⟩:x=y∧x.toNat<65536:=hc
               have h1':ps.length=inf.size:=by simpa using h1
               have h4':inf.bytes≤4096:=by simpa using h2
               have hxv:=ev_rel C l
               rw [hx] at hxv
               have hyv:=ev_rel C c'
               rw [hy] at hyv
               have ex:=hxv (by simp)
               have ey:=hyv (by simp)
               simp only [gL,k64,vI] at ex ey
               have ix:x.toInt=(x.toNat:Int):=by rw [BitVec.toInt_eq_toNat_cond,if_pos (by omega)]
               rw [ix] at ex
               rw [ix] at ey
               have hb:inf.bytes*x.toNat≤4096*65536:=Nat.mul_le_mul h4' (Nat.le_of_lt h2')
               have hb':(inf.bytes:Int)*(x.toNat:Int)≤281474976710656:=by
                have:((inf.bytes*x.toNat:Nat):Int)≤281474976710656:=by omega
                simpa using this
               have hrun:=run_make (P:=P) w T el inf z hu hi hz .i64 .i64 (x.toNat:Int) (x.toNat:Int) (by omega) (by omega) hb' (by omega)
               simp only [Int.toNat_natCast] at hrun
               have hzc:=toPLs_rel hps rz
               have hzs':z.cells.size=inf.size:=by
                have:=congrArg List.length hzc
                simp at this;omega
               have hpos:0<inf.size:=Nat.le_of_ble_eq_true h3
               have hmade:(madeCells z.cells (x.toNat*inf.size)).toList=(List.range (inf.size*x.toNat)).map fun i=>z.cells[i % inf.size]! :=by
                simp [madeCells,hzs',Nat.mul_comm]
               refine ⟨.cells (madeCells z.cells (x.toNat*inf.size)) el,?_,⟨_,rfl,rfl,?_,Nat.le_refl _,?_,?_⟩,rfl,by simp [Blk.names]⟩
               · simp only [execOp,ex,ey,Sem.run_bind,hrun,Result.andThen_ok,NewV.val]
                 simp
               · have:=congrArg List.length hmade
                 simpa [NewV.cap] using this
               · simp only [NewV.cap,maxLen];omega
               · rw [hmade,List.take_of_length_le (by simp)]
                 refine ⟨by simp,fun k hk=>⟨h1',fun j hj=> ?_⟩⟩
                 have hlt:inf.size*k + j<inf.size*x.toNat:=by have:=mul_lt_of (z:=inf.size) hk;omega
                 rw [List.getElem?_map,List.getElem?_range hlt,Option.map_some,Nat.mul_add_mod,Nat.mod_eq_of_lt hj]
                 have hz2:z.cells[j]? =(ps[j]?).map gP:=by
                  have:=congrArg (fun l=>l[j]?) hzc
                  simpa using this
                 have hpj:ps[j]? =some ps[j]:=List.getElem?_eq_getElem (by omega)
                 rw [hpj,Option.map_some] at hz2
                 rw [hpj,Option.map_some,getElem!_def,hz2]
             · cases e
           · cases e
         · cases e
       · cases e
     · cases e
   · cases e
 · cases e
end
theorem req_ok {P:Program} {ρ:Nat→Loc} {t:List AV} {h:Nat→Option Blk} {a:Act} {w:World} (C:Ctx ρ t h a w) {o:Oper} {c:Cond} {r:Req}
 (e:req P o.op t=some (c,r)) (hc:c.holds):ReqOK P ρ h a w o r:=by
 obtain ⟨dst,op,ty,pos,after,gu⟩:=o
 cases op
 case move x=>simp only [req,Option.some.injEq,Prod.mk.injEq] at e;obtain ⟨-,rfl⟩:=e;exact ok_move C
 case assign x=>simp only [req,Option.some.injEq,Prod.mk.injEq] at e;obtain ⟨-,rfl⟩:=e;exact ok_assign C
 case pick c x y=>
  simp only [req] at e
  split at e
  · rename_i b hb
    simp only [Option.some.injEq,Prod.mk.injEq] at e;obtain ⟨-,rfl⟩:=e;exact ok_pick C hb
  · cases e
 case alloc T=>
  simp only [req] at e
  split at e
  · rename_i i hi
    split at e
    · rename_i z hz
      split at e
      · rename_i ls hl
        simp only [Option.some.injEq,Prod.mk.injEq] at e;obtain ⟨-,rfl⟩:=e;exact ok_alloc hi hz hl
      · cases e
    · cases e
  · cases e
 case box T x=>
  simp only [req] at e
  split at e
  · rename_i ls hl
    simp only [Option.some.injEq,Prod.mk.injEq] at e;obtain ⟨-,rfl⟩:=e;exact ok_box C hl
  · cases e
 case nilCheck x=>exact ok_nilCheck C e
 case makeMap T rs=>exact ok_makeMap e
 case mapUpdate T x k v=>exact ok_mapUpdate C e
 case build T ps=>exact ok_build C e
 case load T x=>exact ok_load C e hc
 case store T x y=>exact ok_store C e hc
 case fieldAddr T x f=>exact ok_fieldAddr C e
 case field T x f=>exact ok_field C e
 case indexAddr T x i=>exact ok_indexAddr C e hc
 case buildSlice T n ps=>exact ok_buildSlice C e
 case index T x i=>exact ok_index C e hc
 case slice T x lo hi mx=>exact ok_slice C e hc
 case lookup T x i ok=>exact ok_lookup C e
 case makeSlice T l c'=>exact ok_makeSlice C e hc
 case extract x k=>exact ok_extract C e
 case binOp op T x y yT=>exact ok_binOp C e hc
 case unOp op T x=>exact ok_unOp C e
 case convert s d x=>exact ok_convert C e
 case call cl=>exact ok_call C e hc
 case makeFunc fn fst cap=>exact ok_makeFunc C e
 all_goals simp [req] at e
structure AS where
 t:List AV
 h:Nat→Option Blk
def upd (h:Nat→Option Blk) (i:Nat) (b:Blk):Nat→Option Blk:=fun j=>if j=i then some b else h j
def AS.put (s:AS) (dst:Option Nat) (v:AV):AS:=match dst with
 | some d=>⟨s.t.set d v,s.h⟩
 | none=>s
structure Bs where
 b:Nat
 nm:Nat
 ρ0:Nat→Loc
 dom:Nat→Prop
 w1:World
 far:Nat→Prop
structure FarOK (bs:Bs) (ρ:Nat→Loc) (h:Nat→Option Blk) (w:World):Prop where
 grown:bs.w1.heap.size≤w.heap.size
 keeps:∀ k,k<bs.w1.heap.size→bs.far k→w.heap[k]? =bs.w1.heap[k]?
 apart:∀ i c,h i=some c→c.own=true→(ρ i).b<bs.w1.heap.size→¬ bs.far (ρ i).b
theorem FarOK.to {bs:Bs} {ρ ρ':Nat→Loc} {h h':Nat→Option Blk} {w w':World} (f:FarOK bs ρ h w) (hg:w.heap.size≤w'.heap.size) (hk:∀ k,k<bs.w1.heap.size→bs.far k→w'.heap[k]? =w.heap[k]?)
 (ha:∀ i c,h' i=some c→c.own=true→bs.w1.heap.size≤(ρ' i).b∨∃ j d,h j=some d∧d.own=true∧(ρ' i).b=(ρ j).b):FarOK bs ρ' h' w':=
 ⟨Nat.le_trans f.grown hg,fun k h1 h2=>(hk k h1 h2).trans (f.keeps k h1 h2),fun i c h1 h2 h3=>by
   rcases ha i c h1 h2 with h4 | ⟨j,d,h4,h5,h6⟩
   · omega
   · rw [h6] at h3 ⊢;exact f.apart j d h4 h5 h3⟩
theorem nameOf_le (nm d:Nat):nm≤nameOf nm d:=by
 unfold nameOf;split<;>omega
structure RelH (b:Nat) (w0:World) (ρ:Nat→Loc) (h:Nat→Option Blk) (w:World):Prop where
 heap:∀ i b,h i=some b→RelB ρ (ρ i) b w.heap[(ρ i).b]?
 namesH:∀ i b,h i=some b→∀ m∈b.names,h m≠none
 low:∀ i c,h i=some c→(c.own=true→b≤(ρ i).b)∧(c.own=false→(ρ i).b<b)
 inj:∀ i j c d,h i=some c→h j=some d→c.own=true→(ρ i).b=(ρ j).b→i=j
 below:Below b w0 w
 base:b≤w.heap.size
structure RelS (bs:Bs) (w0:World) (ρ:Nat→Loc) (s:AS) (a:Act) (w:World):Prop where
 defers:a.defers=[]
 size:a.tmps.size=s.t.length
 ctx:Ctx ρ s.t s.h a w
 low:∀ i c,s.h i=some c→(c.own=true→bs.b≤(ρ i).b)∧(c.own=false→(ρ i).b<bs.b)
 inj:∀ i j c d,s.h i=some c→s.h j=some d→c.own=true→(ρ i).b=(ρ j).b→i=j
 below:Below bs.b w0 w
 base:bs.b≤w.heap.size
 frame:∀ m,bs.dom m→m<bs.nm∧s.h m≠none∧ρ m=bs.ρ0 m
 far:FarOK bs ρ s.h w
theorem getT_set:∀ (t:List AV) (d:Nat) (v:AV) (n:Nat),getT (t.set d v) n=if n=d∧d<t.length then v else getT t n
 | [],d,v,n=>by simp [getT]
 | x::t,0,v,0=>by simp [getT]
 | x::t,0,v,n + 1=>by simp [getT]
 | x::t,d + 1,v,0=>by simp [getT]
 | x::t,d + 1,v,n + 1=>by
   have:=getT_set t d v n
   simp only [List.set_cons_succ,getT,this,List.length_cons,Nat.add_right_cancel_iff,Nat.add_lt_add_iff_right]
theorem putA_getD (a:Act) (d:Nat) (u:Value) (n:Nat):(a.put (some d) u).tmps.getD n undef=if n=d∧d<a.tmps.size then u else a.tmps.getD n undef:=by
 simp only [Act.put,Array.getD_eq_getD_getElem?,Array.getElem?_setIfInBounds]
 by_cases h:d=n
 · subst h
   by_cases h2:d<a.tmps.size
   · simp [h2]
   · simp [h2]
 · have h':¬ n=d:=fun e=>h e.symm
   simp [h,h']
section
variable {P : Program} {base : Bs} {w0 : World} {ρ : Nat → Loc} {s : AS} {a : Act} {w : World}
theorem RelS.put (R:RelS base w0 ρ s a w) (dst:Option Nat) {v:AV} {u:Value} (hv:RelA ρ v u) (hn:∀ m∈v.names,s.h m≠none):RelS base w0 ρ (s.put dst v) (a.put dst u) w:=by
 cases dst with
 | none=>exact R
 | some d=>
   refine ⟨R.defers,by simp [AS.put,Act.put,R.size],⟨fun n=> ?_,R.ctx.heap,fun n=> ?_,R.ctx.namesH⟩,R.low,R.inj,R.below,R.base,R.frame,R.far⟩
   · rw [putA_getD]
     simp only [AS.put,getT_set,R.size]
     split
     · exact hv
     · exact R.ctx.tmps n
   · simp only [AS.put,getT_set]
     split
     · exact hn
     · exact R.ctx.names n
theorem upd_agree {d:Nat} {x:Loc} {l:List Nat} (hd:d ∉ l):∀ m∈l,(fun j=>if j=d then x else ρ j) m=ρ m:=fun m hm=>by
 have:m≠d:=fun e=>hd (e ▸ hm)
 simp [this]
theorem relA_upd {v:AV} {u:Value} {d:Nat} {x:Loc} (h:RelA ρ v u) (hd:d ∉ v.names):RelA (fun j=>if j=d then x else ρ j) v u:=relA_agree h (upd_agree hd)
theorem relB_upd {b:Blk} {q:Loc} {o:Option Obj} {d:Nat} {x:Loc} (h:RelB ρ q b o) (hd:d ∉ b.names):RelB (fun j=>if j=d then x else ρ j) q b o:=relB_agree h (upd_agree hd)
theorem relB_some {b:Blk} {q:Loc} {o:Option Obj} (h:RelB ρ q b o):o≠none:=by
 cases b with
 | cells T ls=>obtain ⟨cs,e,-⟩:=h;rw [e];simp
 | ro T ls=>obtain ⟨cs,fr,e,-⟩:=h;rw [e];simp
 | row T z n f=>obtain ⟨cs,e,-⟩:=h;rw [e];simp
 | imap es=>obtain ⟨cs,fr,e,-⟩:=h;rw [e];simp
 | romap es=>obtain ⟨cs,fr,e,-⟩:=h;rw [e];simp
 | vec T ls=>obtain ⟨cs,e,-⟩:=h;rw [e];simp
theorem RelS.lt (R:RelS base w0 ρ s a w) {i:Nat} (hi:s.h i≠none):(ρ i).b<w.heap.size:=by
 cases hb:s.h i with
 | none=>exact absurd hb hi
 | some b=>
   have:=relB_some (R.ctx.heap i b hb)
   cases ho:w.heap[(ρ i).b]? with
   | none=>exact absurd ho this
   | some o=>exact (Array.getElem?_eq_some_iff.1 ho).1
theorem RelS.new (R:RelS base w0 ρ s a w) {e d:Nat} {b:Blk} {ob:Obj} (nv:NewV) (hnm:base.nm≤d) (hd:s.h d=none) (hlt:e<s.t.length) (hb:RelB ρ ⟨w.heap.size,0,nv.cap⟩ b (some ob)) (hown:b.own=true) (hn:∀ m∈b.names,s.h m≠none) :
 RelS base w0 (fun j=>if j=d then ⟨w.heap.size,0,nv.cap⟩ else ρ j) ⟨s.t.set e (.one (nv.at d)),upd s.h d b⟩ (a.put (some e) (nv.val w.heap.size)) (w.alloc ob):=by
 have hdn:∀ {l:List Nat},(∀ m∈l,s.h m≠none)→d ∉ l:=fun hl hm=>hl d hm hd
 have hsome:∀ m,s.h m≠none→upd s.h d b m≠none:=fun m hm=>by
  unfold upd;split
  · simp
  · exact hm
 refine ⟨R.defers,by simp [Act.put,R.size],⟨fun n=> ?_,fun i b' hi=> ?_,fun n m hm=> ?_,fun i b' hi m hm=> ?_⟩,fun i c hi=> ?_,fun i j c c' hi hj ho ee=> ?_,R.below.alloc R.base _,?_,fun m hm=> ?_,R.far.to (by show w.heap.size≤(w.heap.push ob).size;simp) (fun k h1 h2=>Below.heap_alloc _ _ _ (Nat.lt_of_lt_of_le h1 R.far.grown)) fun i c h1 h2=> ?_⟩
 · rw [putA_getD,getT_set,R.size]
   split
   · intro _
     cases nv<;>simp [gL,NewV.at,NewV.val,NewV.cap]
   · exact relA_upd (R.ctx.tmps n) (hdn (R.ctx.names n))
 · simp only [upd] at hi
   by_cases hid:i=d
   · rw [if_pos hid] at hi
     obtain rfl:=Option.some.inj hi
     rw [if_pos hid]
     have:(w.alloc ob).heap[w.heap.size]? =some ob:=by show (w.heap.push ob)[w.heap.size]? =_;simp
     rw [this]
     exact relB_upd hb (hdn hn)
   · rw [if_neg hid] at hi
     rw [if_neg hid,Below.heap_alloc _ _ _ (R.lt (by rw [hi];simp))]
     exact relB_upd (R.ctx.heap i b' hi) (hdn (R.ctx.namesH i b' hi))
 · rw [getT_set] at hm
   split at hm
   · have hm':m=d:=by cases nv<;>simpa [AV.names,L.names,NewV.at] using hm
     subst hm'
     simp [upd]
   · exact hsome _ (R.ctx.names n m hm)
 · simp only [upd] at hi
   split at hi
   · obtain rfl:=Option.some.inj hi
     exact hsome _ (hn m hm)
   · exact hsome _ (R.ctx.namesH i b' hi m hm)
 · by_cases h1:i=d
   · rw [if_pos h1]
     have hc:c=b:=by simp [upd,h1] at hi;exact hi.symm
     subst hc
     exact ⟨fun _=>R.base,fun e=>by rw [hown] at e;cases e⟩
   · rw [if_neg h1]
     exact R.low i c (by simpa [upd,h1] using hi)
 · by_cases h1:i=d<;>by_cases h2:j=d
   · rw [h1,h2]
   · rw [if_pos h1,if_neg h2] at ee
     dsimp only at ee
     have:=R.lt (i:=j) (by have:s.h j=some c':=by simpa [upd,h2] using hj
                           rw [this];simp)
     omega
   · rw [if_neg h1,if_pos h2] at ee
     dsimp only at ee
     have:=R.lt (i:=i) (by have:s.h i=some c:=by simpa [upd,h1] using hi
                           rw [this];simp)
     omega
   · rw [if_neg h1,if_neg h2] at ee
     exact R.inj i j c c' (by simpa [upd,h1] using hi) (by simpa [upd,h2] using hj) ho ee
 · have:=R.base
   show base.b≤(w.heap.push ob).size
   simp;omega
 · obtain ⟨h1,h2,h3⟩:=R.frame m hm
   have hmd:m≠d:=by omega
   exact ⟨h1,hsome _ h2,by simp [hmd,h3]⟩
 · dsimp only at h1 ⊢
   unfold upd at h1
   by_cases e:i=d
   · rw [if_pos e];exact .inl R.far.grown
   · rw [if_neg e] at h1 ⊢;exact .inr ⟨i,c,h1,h2,rfl⟩
theorem RelS.write (R:RelS base w0 ρ s a w) {i:Nat} {b0 b':Blk} {w':World} (hi0:s.h i=some b0) (ho0:b0.own=true) (ho':b'.own=true) (htu:Turned w w' (ρ i).b) (hb:RelB ρ (ρ i) b' w'.heap[(ρ i).b]?) (hn:∀ m∈b'.names,s.h m≠none) :
 RelS base w0 ρ ⟨s.t,upd s.h i b'⟩ a w':=by
 have hi:s.h i≠none:=by rw [hi0];simp
 have hfind:∀ m c,upd s.h i b' m=some c→∃ c0,s.h m=some c0∧c0.own=c.own:=fun m c hm=>by
  unfold upd at hm;split at hm
  · rename_i e;subst e;obtain rfl:=Option.some.inj hm;exact ⟨b0,hi0,by rw [ho0,ho']⟩
  · exact ⟨c,hm,rfl⟩
 have hsome:∀ m,s.h m≠none→upd s.h i b' m≠none:=fun m hm=>by
  unfold upd;split
  · simp
  · exact hm
 have hback:∀ m,upd s.h i b' m≠none→s.h m≠none:=fun m hm=>by
  unfold upd at hm;split at hm
  · rename_i e;rw [e];exact hi
  · exact hm
 have hother:∀ k,k≠(ρ i).b→w'.heap[k]? =w.heap[k]? :=htu.other
 refine ⟨R.defers,R.size,⟨R.ctx.tmps,fun j b hj=> ?_,fun n m hm=>hsome _ (R.ctx.names n m hm),fun j b hj m hm=> ?_⟩,fun j c hj=>by obtain ⟨c0,h1,h2⟩:=hfind j c hj;rw [← h2];exact R.low j c0 h1,fun j k c d hj hk ho e=>by obtain ⟨c0,h1,h2⟩:=hfind j c hj;obtain ⟨d0,h3,_⟩:=hfind k d hk;exact R.inj j k c0 d0 h1 h3 (by rw [h2];exact ho) e,?_,?_,fun m hm=>⟨(R.frame m hm).1,hsome _ (R.frame m hm).2.1,(R.frame m hm).2.2⟩,R.far.to (by rw [htu.size];exact Nat.le_refl _) (fun k h1 h2=>hother k fun e=>by subst e;exact R.far.apart i b0 hi0 ho0 h1 h2) fun m c h1 h2=>by obtain ⟨c0,h3,h4⟩:=hfind m c h1;exact .inr ⟨m,c0,h3,h4.trans h2,rfl⟩⟩
 · simp only [upd] at hj
   split at hj
   · rename_i e
     obtain rfl:=Option.some.inj hj
     rw [e];exact hb
   · rename_i hne
     rw [hother _ (fun e=>hne (R.inj i j b0 b hi0 hj ho0 e.symm).symm)]
     exact R.ctx.heap j b hj
 · simp only [upd] at hj
   split at hj
   · obtain rfl:=Option.some.inj hj
     exact hsome _ (hn m hm)
   · exact hsome _ (R.ctx.namesH j b hj m hm)
 · refine R.below.trans ⟨htu.os,htu.tape,htu.output,by rw [htu.size];exact Nat.le_refl _,fun k hk=>hother k ?_⟩
   have:=(R.low i b0 hi0).1 ho0
   omega
 · rw [htu.size];exact R.base
theorem RelS.later (R:RelS base w0 ρ s a w) {w':World} (hb:Below w.heap.size w w'):RelS base w0 ρ s a w':=
 ⟨R.defers,R.size,⟨R.ctx.tmps,fun i b hi=>by rw [hb.block _ (R.lt (by rw [hi];simp))];exact R.ctx.heap i b hi,R.ctx.names,R.ctx.namesH⟩,R.low,R.inj,
   R.below.trans (hb.mono R.base),Nat.le_trans R.base hb.size,R.frame,R.far.to hb.size (fun k h1 _=>hb.block k (Nat.lt_of_lt_of_le h1 R.far.grown)) fun i c h1 h2=> .inr ⟨i,c,h1,h2,rfl⟩⟩
theorem RelS.adoptN {ρ:Nat→Loc} {s:AS} {a:Act} {w w':World} (R:RelS base w0 ρ s a w) {i:Nat} (hd:s.h i=none) (hnm:base.nm≤i) {q:Loc} {b:Blk}
 (hkeep:∀ j c,s.h j=some c→w'.heap[(ρ j).b]? =w.heap[(ρ j).b]? ∧(ρ j).b≠q.b) (hbel:Below base.b w0 w') (hbase:base.b≤w'.heap.size)
 (hb:RelB ρ q b w'.heap[q.b]?) (hown:b.own=true) (hlow:base.b≤q.b) (hn:∀ m∈b.names,s.h m≠none) (hgr:w.heap.size≤w'.heap.size) (hfk:∀ k,k<base.w1.heap.size→base.far k→w'.heap[k]? =w.heap[k]?) (hfq:q.b<base.w1.heap.size→¬ base.far q.b) :
 RelS base w0 (fun j=>if j=i then q else ρ j) ⟨s.t,upd s.h i b⟩ a w':=by
 have hdn:∀ {l:List Nat},(∀ m∈l,s.h m≠none)→i ∉ l:=fun hl hm=>hl i hm hd
 have hsome:∀ m,s.h m≠none→upd s.h i b m≠none:=fun m hm=>by
  unfold upd;split
  · simp
  · exact hm
 refine ⟨R.defers,R.size,⟨fun n=>relA_upd (R.ctx.tmps n) (hdn (R.ctx.names n)),fun j c hj=> ?_,fun n m hm=>hsome _ (R.ctx.names n m hm),fun j c hj m hm=> ?_⟩,fun j c hj=> ?_,fun j k c d hj hk ho e=> ?_,hbel,hbase,fun m hm=> ?_,⟨Nat.le_trans R.far.grown hgr,fun k h1 h2=>(hfk k h1 h2).trans (R.far.keeps k h1 h2),fun j c h1 h2 h3=> ?_⟩⟩
 · have hj:upd s.h i b j=some c:=hj
   unfold upd at hj
   split at hj
   · rename_i e
     obtain rfl:=Option.some.inj hj
     subst e
     rw [if_pos rfl]
     exact relB_upd hb (hdn hn)
   · rename_i e
     rw [if_neg e,(hkeep j c hj).1]
     exact relB_upd (R.ctx.heap j c hj) (hdn (R.ctx.namesH j c hj))
 · have hj:upd s.h i b j=some c:=hj
   unfold upd at hj
   split at hj
   · obtain rfl:=Option.some.inj hj
     exact hsome _ (hn m hm)
   · exact hsome _ (R.ctx.namesH j c hj m hm)
 · have hj:upd s.h i b j=some c:=hj
   unfold upd at hj
   split at hj
   · rename_i e
     obtain rfl:=Option.some.inj hj
     rw [if_pos e]
     exact ⟨fun _=>hlow,fun e=>by rw [hown] at e;cases e⟩
   · rename_i e
     rw [if_neg e]
     exact R.low j c hj
 · have hj:upd s.h i b j=some c:=hj
   have hk:upd s.h i b k=some d:=hk
   unfold upd at hj hk
   by_cases h1:j=i<;>by_cases h2:k=i
   · rw [h1,h2]
   · rw [if_neg h2] at hk
     rw [if_pos h1,if_neg h2] at e
     exact absurd e.symm (hkeep k d hk).2
   · rw [if_neg h1] at hj
     rw [if_neg h1,if_pos h2] at e
     exact absurd e (hkeep j c hj).2
   · rw [if_neg h1] at hj
     rw [if_neg h2] at hk
     rw [if_neg h1,if_neg h2] at e
     exact R.inj j k c d hj hk ho e
 · obtain ⟨h1,h2,h3⟩:=R.frame m hm
   have hmi:m≠i:=by omega
   exact ⟨h1,hsome _ h2,by rw [if_neg hmi];exact h3⟩
 · have h1:upd s.h i b j=some c:=h1
   unfold upd at h1
   by_cases e:j=i
   · rw [if_pos e] at h3 ⊢;exact hfq h3
   · rw [if_neg e] at h1 h3 ⊢;exact R.far.apart j c h1 h2 h3
theorem RelS.adopt {ρ:Nat→Loc} {s:AS} {a:Act} {w w':World} (R:RelS base w0 ρ s a w) {i:Nat} (hd:s.h i=none) (hnm:base.nm≤i) {q:Loc} {b:Blk}
 (hkeep:∀ j c,s.h j=some c→w'.heap[(ρ j).b]? =w.heap[(ρ j).b]? ∧(ρ j).b≠q.b) (hbel:Below base.b w0 w') (hbase:base.b≤w'.heap.size)
 (hb:RelB ρ q b w'.heap[q.b]?) (hown:b.own=true) (hlow:base.b≤q.b) (hn:b.names=[]) (hgr:w.heap.size≤w'.heap.size) (hfk:∀ k,k<base.w1.heap.size→base.far k→w'.heap[k]? =w.heap[k]?) (hfq:q.b<base.w1.heap.size→¬ base.far q.b) :
 RelS base w0 (fun j=>if j=i then q else ρ j) ⟨s.t,upd s.h i b⟩ a w':=by
 have hdn:∀ {l:List Nat},(∀ m∈l,s.h m≠none)→i ∉ l:=fun hl hm=>hl i hm hd
 have hsome:∀ m,s.h m≠none→upd s.h i b m≠none:=fun m hm=>by
  unfold upd;split
  · simp
  · exact hm
 refine ⟨R.defers,R.size,⟨fun n=>relA_upd (R.ctx.tmps n) (hdn (R.ctx.names n)),fun j c hj=> ?_,fun n m hm=>hsome _ (R.ctx.names n m hm),fun j c hj m hm=> ?_⟩,fun j c hj=> ?_,fun j k c d hj hk ho e=> ?_,hbel,hbase,fun m hm=> ?_,⟨Nat.le_trans R.far.grown hgr,fun k h1 h2=>(hfk k h1 h2).trans (R.far.keeps k h1 h2),fun j c h1 h2 h3=> ?_⟩⟩
 · have hj:upd s.h i b j=some c:=hj
   unfold upd at hj
   split at hj
   · rename_i e
     obtain rfl:=Option.some.inj hj
     subst e
     rw [if_pos rfl]
     exact relB_upd hb (by rw [hn];simp)
   · rename_i e
     rw [if_neg e,(hkeep j c hj).1]
     exact relB_upd (R.ctx.heap j c hj) (hdn (R.ctx.namesH j c hj))
 · have hj:upd s.h i b j=some c:=hj
   unfold upd at hj
   split at hj
   · obtain rfl:=Option.some.inj hj
     rw [hn] at hm;simp at hm
   · exact hsome _ (R.ctx.namesH j c hj m hm)
 · have hj:upd s.h i b j=some c:=hj
   unfold upd at hj
   split at hj
   · rename_i e
     obtain rfl:=Option.some.inj hj
     rw [if_pos e]
     exact ⟨fun _=>hlow,fun e=>by rw [hown] at e;cases e⟩
   · rename_i e
     rw [if_neg e]
     exact R.low j c hj
 · have hj:upd s.h i b j=some c:=hj
   have hk:upd s.h i b k=some d:=hk
   unfold upd at hj hk
   by_cases h1:j=i<;>by_cases h2:k=i
   · rw [h1,h2]
   · rw [if_neg h2] at hk
     rw [if_pos h1,if_neg h2] at e
     exact absurd e.symm (hkeep k d hk).2
   · rw [if_neg h1] at hj
     rw [if_neg h1,if_pos h2] at e
     exact absurd e (hkeep j c hj).2
   · rw [if_neg h1] at hj
     rw [if_neg h2] at hk
     rw [if_neg h1,if_neg h2] at e
     exact R.inj j k c d hj hk ho e
 · obtain ⟨h1,h2,h3⟩:=R.frame m hm
   have hmi:m≠i:=by omega
   exact ⟨h1,hsome _ h2,by rw [if_neg hmi];exact h3⟩
 · have h1:upd s.h i b j=some c:=h1
   unfold upd at h1
   by_cases e:j=i
   · rw [if_pos e] at h3 ⊢;exact hfq h3
   · rw [if_neg e] at h1 h3 ⊢;exact R.far.apart j c h1 h2 h3
theorem RelS.toH (R:RelS base w0 ρ s a w):RelH base.b w0 ρ s.h w:=⟨R.ctx.heap,R.ctx.namesH,R.low,R.inj,R.below,R.base⟩
theorem RelS.back (R:RelS base w0 ρ s a w) {ρ':Nat→Loc} {h':Nat→Option Blk} {w':World} (H:RelH base.b w0 ρ' h' w') (hk:∀ m,s.h m≠none→h' m≠none∧ρ' m=ρ m)
 (hgr:w.heap.size≤w'.heap.size) (hfk:∀ k,k<w.heap.size→(∀ m c,s.h m=some c→c.own=true→(ρ m).b≠k)→w'.heap[k]? =w.heap[k]?) (hnew:∀ m c,h' m=some c→c.own=true→s.h m=none→w.heap.size≤(ρ' m).b) :
 RelS base w0 ρ' ⟨s.t,h'⟩ a w':=
 ⟨R.defers,R.size,⟨fun n=>relA_agree (R.ctx.tmps n) fun m hm=>(hk m (R.ctx.names n m hm)).2,H.heap,fun n m hm=>(hk m (R.ctx.names n m hm)).1,H.namesH⟩,H.low,H.inj,H.below,H.base,
   fun m hm=>⟨(R.frame m hm).1,(hk m (R.frame m hm).2.1).1,(hk m (R.frame m hm).2.1).2.trans (R.frame m hm).2.2⟩,
   R.far.to hgr (fun k h1 h2=>hfk k (Nat.lt_of_lt_of_le h1 R.far.grown) fun m c h3 h4 e=>by subst e;exact R.far.apart m c h3 h4 h1 h2) fun m c h1 h2=>by
    cases hm:s.h m with
    | none=>exact .inl (Nat.le_trans R.far.grown (hnew m c h1 h2 hm))
    | some d=>
      have e:=(hk m (by rw [hm];simp)).2
      refine .inr ⟨m,d,hm,?_,by rw [e]⟩
      have h3:=(H.low m c h1).1 h2
      cases hd:d.own with
      | true=>rfl
      | false=>have:=(R.low m d hm).2 hd;rw [e] at h3;omega⟩
end
def InlOK (P:Program) (G:World→Prop) (i:FuncId→Nat→List AV→List (Nat×Blk)→(AV→List (Nat×Blk)→Prop)→Prop):Prop:=
 ∀ f tp args h K,i f tp args h K→(∀ m,look h m≠none→m<tp)→(∀ v∈args,∀ m∈v.names,look h m≠none) →
   (∃ fn,P.funcs[f]? =some fn∧(fn.name== "runtime.NumGoroutine")=false∧fn.body.isNone=false) ∧
   ∀ (b:Nat) (w0:World) (ρ:Nat→Loc) (us:List Value) (w:World),G w0→b=w0.heap.size→RelAs ρ args us→RelH b w0 ρ (look h) w →
     Calls P f us.toArray w (fun e w'=>∃ v h' u ρ',K v h'∧e= .returned u∧RelA ρ' v u∧(∀ m∈v.names,look h' m≠none)∧RelH b w0 ρ' (look h') w' ∧
      (∀ m,look h m≠none→look h' m≠none∧ρ' m=ρ m)∧w.heap.size≤w'.heap.size∧(∀ k,k<w.heap.size→(∀ m c,look h m=some c→c.own=true→(ρ m).b≠k)→w'.heap[k]? =w.heap[k]?) ∧
      ∀ m c,look h' m=some c→c.own=true→look h m=none→w.heap.size≤(ρ' m).b)
theorem InlOK.none (P:Program) (G:World→Prop):InlOK P G (fun _ _ _ _ _=>Stuck "call"):=fun _ _ _ _ _ h=>by cases h
def RelBs (ρ:Nat→Loc) (bs:List (Nat×Blk)) (w:World):Prop:=∀ p∈bs,RelB ρ (ρ p.1) p.2 w.heap[(ρ p.1).b]?
theorem blks_mem {h:Nat→Option Blk}:∀ {ns:List Nat} {p:Nat×Blk},p∈blks h ns→p.1∈ns∧h p.1=some p.2
 | [],p,hp=>by simp [blks] at hp
 | i::r,p,hp=>by
   simp only [blks] at hp
   split at hp
   · rename_i b hb
     rcases List.mem_cons.1 hp with rfl | hp
     · exact ⟨by simp,hb⟩
     · exact ⟨List.mem_cons_of_mem _ (blks_mem hp).1,(blks_mem hp).2⟩
   · exact ⟨List.mem_cons_of_mem _ (blks_mem hp).1,(blks_mem hp).2⟩
theorem reachF_acc {h:Nat→Option Blk}:∀ (n:Nat) (l acc:List Nat),∀ i∈acc,i∈reachF h n l acc
 | 0,_,_,i,hi=>hi
 | _ + 1,[],_,i,hi=>hi
 | n + 1,j::r,acc,i,hi=>by
   simp only [reachF]
   split
   · exact reachF_acc n r acc i hi
   · split
     · exact reachF_acc n _ _ i (by simp [hi])
     · exact reachF_acc n _ _ i (by simp [hi])
theorem reachF_congr {h h':Nat→Option Blk}:∀ (n:Nat) (l acc:List Nat),(∀ i∈reachF h n l acc,h i=h' i)→reachF h n l acc=reachF h' n l acc
 | 0,_,_,_=>rfl
 | _ + 1,[],_,_=>rfl
 | n + 1,j::r,acc,hh=>by
   simp only [reachF] at hh ⊢
   cases hj:inNs j acc with
   | true=>rw [hj] at hh;exact reachF_congr n r acc hh
   | false=>
     rw [hj] at hh
     dsimp only at hh ⊢
     have e:h j=h' j:=by
      cases hb:h j with
      | some b=>rw [hb] at hh;rw [← hh j (reachF_acc n _ _ j (by simp)),hb]
      | none=>rw [hb] at hh;rw [← hh j (reachF_acc n _ _ j (by simp)),hb]
     rw [← e]
     cases hb:h j with
     | some b=>rw [hb] at hh;exact reachF_congr n _ _ hh
     | none=>rw [hb] at hh;exact reachF_congr n _ _ hh
theorem dnames_congr {h h':Nat→Option Blk} {args:List AV} (hh:∀ i∈dnames h args,h i=h' i):dnames h args=dnames h' args:=reachF_congr 60 _ _ hh
theorem blks_congr {h h':Nat→Option Blk}:∀ {ns:List Nat},(∀ i∈ns,h i=h' i)→blks h ns=blks h' ns
 | [],_=>rfl
 | i::r,hh=>by
   simp only [blks]
   rw [hh i (by simp),blks_congr fun j hj=>hh j (by simp [hj])]
theorem anames_mem {m:Nat}:∀ {vs:List AV},m∈anames vs ↔ ∃ v∈vs,m∈v.names
 | []=>by simp [anames]
 | v::vs=>by simp [anames,anames_mem (vs:=vs)]
def MkOK (P:Program) (G:World→Prop) (mk:FuncId→List AV→List (Nat×Blk)→Option (Cond×Blk×NewV)):Prop:=∀ f args bs c b nv,mk f args bs=some (c,b,nv)→c.holds→b.own=true∧b.names=[] ∧
 (∃ fn,P.funcs[f]? =some fn∧(fn.name== "runtime.NumGoroutine")=false∧fn.body.isNone=false) ∧
   ∀ us ρ,RelAs ρ args us→∀ w,G w→RelBs ρ bs w→(∀ p∈bs,(ρ p.1).b<w.heap.size)→Calls P f us.toArray w (fun e w'=>∃ u q,e= .returned u∧RelL (fun _=>q) (nv.at 0) u∧RelB ρ q b w'.heap[q.b]? ∧w.heap.size≤q.b∧Below w.heap.size w w')
theorem MkOK.none (P:Program) (G:World→Prop):MkOK P G (fun _ _ _=>none):=fun _ _ _ _ _ _ h=>by cases h
theorem nv_at {ρ:Nat→Loc} {nv:NewV} {q:Loc} {u:Value} {d:Nat} (h:RelL (fun _=>q) (nv.at 0) u) (hd:ρ d=q):RelL ρ (nv.at d) u:=by
 intro _
 have:=h (by cases nv<;>simp [NewV.at])
 rw [this]
 cases nv<;>simp [NewV.at,gL,hd]
structure CSound (P:Program) (G:World→Prop) (C:Table):Prop where
 stable:∀ w w',G w→Below w.heap.size w w'→G w'
 globs:∀ T g off v,C.glob T g off=some v→v.names=[]∧∀ w,G w→∃ u,(loadVar T ⟨g,off,none⟩).run P w= .ok u w∧∀ ρ,RelA ρ v u
 looks:∀ T ok g b key c v,C.look T ok g b key=some (c,v)→c.holds→v.names=[]∧∀ w,G w→∀ ρ k,RelA ρ key k→∃ u,(Instr.lookup T (.map (some b)) k ok).run P w= .ok u w∧RelA ρ v u
 calls:∀ f args bs c v,C.fn f args bs=some (c,v)→c.holds→v.names=[] ∧
  (((∃ fn,P.funcs[f]? =some fn∧(fn.name== "runtime.NumGoroutine")=false∧fn.body.isNone=false) ∧
    ∀ us ρ,RelAs ρ args us→∀ w,G w→RelBs ρ bs w→(∀ p∈bs,(ρ p.1).b<w.heap.size)→Calls P f us.toArray w (fun e w'=>∃ u,e= .returned u∧RelA ρ v u∧Below w.heap.size w w')) ∨
  (∀ us ρ,RelAs ρ args us→∀ w,G w→RelBs ρ bs w→∃ u w',(callFunc f us.toArray).run P w= .ok (.value u) w'∧RelA ρ v u∧Below w.heap.size w w'))
 inl:InlOK P G C.inl
 mkr:MkOK P G C.mkr
theorem CSound.inl' {P:Program} {G:World→Prop} {C:Table} (h:CSound P G C) {i:FuncId→Nat→List AV→List (Nat×Blk)→(AV→List (Nat×Blk)→Prop)→Prop} (hi:InlOK P G i) (ap:Ap) (nm tp:Nat) (im mks:List Nat) :
 CSound P G ⟨C.fn,C.glob,C.look,i,ap,nm,tp,im,C.mkr,mks⟩:=⟨h.stable,h.globs,h.looks,h.calls,hi,h.mkr⟩
def AS.eff (s:AS) (dst:Option Nat) (v:AV) (hw:Option (Nat×Blk)):AS:=⟨(s.put dst v).t,match hw with
 | none=>s.h
 | some (i,b)=>upd s.h i b⟩
def srcR (h:Nat→Option Blk) (x:Src) (c:Cond) (g:Nat→List PL):Prop:=match x with
 | .here g'=>c= .t∧g=g'
 | .mem j f=>∃ b,h j=some b∧f b=some (c,g)
 | .cell j _ f=>∃ b,h j=some b∧f b=some (c,g)
theorem srcR_congr {h h':Nat→Option Blk} {x:Src} {c:Cond} {g:Nat→List PL} (hh:∀ i∈srcN x,h i=h' i) (hs:srcR h x c g):srcR h' x c g:=by
 cases x with
 | here g'=>exact hs
 | mem j f=>obtain ⟨b,h1,h2⟩:=hs;exact ⟨b,by rw [← hh j (by simp [srcN])];exact h1,h2⟩
 | cell j o f=>obtain ⟨b,h1,h2⟩:=hs;exact ⟨b,by rw [← hh j (by simp [srcN])];exact h1,h2⟩
theorem srcR_ok {P:Program} {ρ:Nat→Loc} {h:Nat→Option Blk} {w:World} {z m:Nat} {tx:TypeId} {vx:Value} {x:Src} {c:Cond} {g:Nat→List PL} (hx:SrcOK P ρ h w z m tx vx x) (hs:srcR h x c g) (hc:c.holds) (hl:∀ j,(g j).length=z) :
 ∃ news,_root_.Go.Src P z tx vx m news w∧SegV z m g news:=by
 cases x with
 | here g'=>obtain ⟨rfl,rfl⟩:=hs;exact hx
 | mem j f=>obtain ⟨b,h1,h2⟩:=hs;exact hx.2 b h1 c g h2 hc (fun i _=>hl i)
 | cell j o f=>obtain ⟨b,h1,h2⟩:=hs;exact hx.1.2 b h1 c g h2 hc (fun i _=>hl i)
def YieldsR (C:Table) (dst:Option Nat) (fp:FP) (s:AS) (dv:AV) (hw:Option (Nat×Blk)):Req→Prop
 | .val v=>fp=(false,[])∧hw=none∧dv=v
 | .rd i f=>fp=(false,[i])∧hw=none∧∃ b c,s.h i=some b∧f b=some (c,dv)∧c.holds
 | .wr i f=>fp=(true,[i])∧dst=none∧∃ b c b',s.h i=some b∧f b=some (c,b')∧c.holds∧hw=some (i,b')
 | .new b nv=>∃ d i,C.nm≤i∧dst=some d∧fp=(true,[i])∧s.h i=none∧d<s.t.length∧dv= .one (nv.at i)∧hw=some (i,b)
 | .call f args=>(fp=(false,dnames s.h args)∧hw=none∧∃ c,C.fn f args (blks s.h (dnames s.h args))=some (c,dv)∧c.holds) ∨
   (∃ d c b nv,dst=some d∧fp=(true,nameOf C.nm d::dnames s.h args)∧C.mkr f args (blks s.h (dnames s.h args))=some (c,b,nv)∧c.holds∧s.h (nameOf C.nm d)=none∧d<s.t.length∧dv= .one (nv.at (nameOf C.nm d))∧hw=some (nameOf C.nm d,b))
 | .glob T g off=>fp=(false,[])∧hw=none∧C.glob T g off=some dv
 | .look T ok g b key=>fp=(false,[])∧hw=none∧∃ c,C.look T ok g b key=some (c,dv)∧c.holds
 | .pick b x y=>fp=(false,[])∧hw=none∧dv=if b then x else y
 | .app bs e z m x=>bs=none∧∃ d c g,dst=some d∧srcR s.h x c g∧c.holds∧(∀ j,(g j).length=z) ∧
   ((m=0∧fp=(false,srcN x)∧hw=none∧dv= .one (.raw (.slice none 0 0))) ∨
    (m≠0∧∃ i,C.nm≤i∧fp=(true,i::srcN x)∧s.h i=none∧d<s.t.length∧dv= .one (.rsl i m)∧hw=some (i,.row e z m g)))
def wantA (all:List Oper) (o:Oper) (t:List AV):Option Bool:=match o.guard with
 | none=>some true
 | some (j,want)=>match guardTmp all j with
   | none=>none
   | some d=>match getT t d with
     | .one (.bool b)=>some (b==want)
     | .one (.raw v)=>match isBoolV v with
       | false=>some false
       | true=>none
     | _=>none
def Yields (P:Program) (C:Table) (all:List Oper) (o:Oper) (fp:FP) (s:AS) (dv:AV) (hw:Option (Nat×Blk)):Prop:=
 match wantA all o s.t with
 | none=>False
 | some true=>∃ c r,req P o.op s.t=some (c,r)∧c.holds∧YieldsR C o.dst fp s dv hw r
 | some false=>fp=(false,[])∧hw=none∧dv=noV
def Step (P:Program) (C:Table) (all:List Oper) (o:Oper) (fp:FP) (s s':AS):Prop:=∃ dv hw,Yields P C all o fp s dv hw∧s'=s.eff o.dst dv hw
theorem eff_none (s:AS) (dst:Option Nat) (v:AV):s.eff dst v none=s.put dst v:=by cases dst<;>rfl
section
variable {P : Program} {G : World → Prop} {C : Table} {base : Bs} {w0 : World} {ρ : Nat → Loc} {s s' : AS} {a : Act} {w : World}
theorem wanted_of {ops:Array Oper} {o:Oper} {b:Bool} (R:RelS base w0 ρ s a w) (hw:wantA ops.toList o s.t=some b):Region.wanted o (yielded ops a.tmps)=b:=by
 unfold wantA at hw
 unfold Region.wanted
 cases hg:o.guard with
 | none=>rw [hg] at hw;simpa using hw
 | some g=>
   obtain ⟨j,want⟩:=g
   rw [hg] at hw
   dsimp only at hw ⊢
   split at hw
   · cases hw
   · rename_i d hd
     split at hw
     · rename_i b' hb'
       have hr:=R.ctx.tmps d
       rw [hb'] at hr
       have hv:=hr (by simp)
       have hd':(ops[j]?).bind (·.dst)=some d:=by
        unfold guardTmp at hd
        rw [nth_eq] at hd
        cases ho:ops[j]? with
        | none=>simp [ho] at hd
        | some o'=>simpa [ho] using hd
       have ht:a.tmps[d]? =some (.bool b'):=by
        rw [Array.getD_eq_getD_getElem?] at hv
        cases hx:a.tmps[d]? with
        | none=>rw [hx] at hv;simp [gL,undef] at hv
        | some x=>rw [hx] at hv;simpa [gL] using hv
       have:yielded ops a.tmps j=some b':=by
        unfold yielded
        rw [hd']
        simp [ht]
       rw [this]
       obtain rfl:=Option.some.inj hw
       cases b'<;>cases want<;>rfl
     · rename_i v hv'
       have hr:=R.ctx.tmps d
       rw [hv'] at hr
       have hv:=hr (by simp)
       simp only [gL] at hv
       split at hw
       · rename_i hnb
         obtain rfl:=Option.some.inj hw
         have hd':(ops[j]?).bind (·.dst)=some d:=by
          unfold guardTmp at hd
          rw [nth_eq] at hd
          cases ho:ops[j]? with
          | none=>simp [ho] at hd
          | some o'=>simpa [ho] using hd
         have:yielded ops a.tmps j=none:=by
          unfold yielded
          rw [hd']
          rw [Array.getD_eq_getD_getElem?] at hv
          cases hx:a.tmps[d]? with
          | none=>simp [hx]
          | some x=>
            rw [hx] at hv
            simp only [Option.getD_some] at hv
            subst hv
            cases x<;>simp_all [isBoolV]
         rw [this]
         rfl
       · cases hw
     · cases hw
theorem app_zero {w:World} {T tx e:TypeId} {inf:TypeInfo} {ty:TypeId} (hT:P.underlying T=some (.slice e)) (hi:P.info? e=some inf) {vx:Value} {news:List Value} (hs:_root_.Go.Src P inf.size tx vx 0 news w) :
 (Builtin.append_ #[T,tx] ty #[.slice none 0 0,vx]).run P w= .ok (.slice none 0 0) w:=by
 obtain rfl:news=[]:=List.eq_nil_of_length_eq_zero (by simpa using hs.newsLen)
 rcases hs.kind with ⟨e',hk⟩ | hk<;>simp [Builtin.append_,run_underlying hT,run_underlying hk,sizeOf,typeInfo,hi,hs.len,hs.cells,storeCells]
theorem app_new (R:RelS base w0 ρ s a w) {T e:TypeId} {inf:TypeInfo} {zv:Value} {ty:TypeId} (hT:P.underlying T=some (.slice e)) (hi:P.info? e=some inf) (hz:inf.zero=some zv)
 (hzs:zv.cells.size=inf.size) (h0:0<inf.size) (hby:inf.bytes≤4096) {i m:Nat} {g:Nat→List PL} (hsm:m<65536) (hnm:base.nm≤i)
 {tx:TypeId} {vx:Value} {news:List Value} (hs:_root_.Go.Src P inf.size tx vx m news w) (hseg:SegV inf.size m g news) (hd:s.h i=none) (hm:m≠0) :
 ∃ v' w' ρ',(Builtin.append_ #[T,tx] ty #[.slice none 0 0,vx]).run P w= .ok v' w'∧RelS base w0 ρ' ⟨s.t,upd s.h i (.row e inf.size m g)⟩ a w'∧RelL ρ' (.rsl i m) v':=by
 have hown:w.ownsRow base.b e inf.size (.slice none 0 0) 0 []:=⟨by simp,.inl ⟨rfl,rfl⟩⟩
 have hbytes:(0 + m)*inf.bytes≤140737488355328:=by
  rw [Nat.zero_add];exact Nat.le_trans (Nat.mul_le_mul (Nat.le_of_lt hsm) hby) (by omega)
 obtain ⟨v',w',hrun,hown',hgr,hnil,hat⟩:=run_append_own_src (P:=P) w base.b T tx ty e inf zv inf.size inf.bytes hT hi hz rfl rfl hzs h0 _ 0 _ hown vx m news hs (by simp only [maxLen];omega) hbytes R.base
 rcases hown'.2 with ⟨e1,e2⟩ | ⟨g',cap',cur',hv',hg',hw',hnc',hcm',hcs',htake⟩
 · omega
 rw [Nat.zero_add] at hv' hnc' htake
 have hlt:∀ j c,s.h j=some c→(ρ j).b<w.heap.size:=fun j c hj=>R.lt (by rw [hj];simp)
 have hob:v'.ownBlock=some g':=by rw [hv'];rfl
 have hgs:g'=w.heap.size:=by
  rcases hat with e | e
  · rw [hob] at e;simp [Value.ownBlock] at e
  · rw [hob] at e;simpa using e
 refine ⟨v',w',_,hrun,R.adopt (q:=⟨g',0,cap'⟩) hd hnm (fun j c hj=>⟨hgr.block _ (hlt j c hj) (by simp [Value.ownBlock]),?_⟩) ?_ (Nat.le_trans R.base hgr.size) ?_ rfl hg' rfl hgr.size (fun k h1 _=>hgr.block k (Nat.lt_of_lt_of_le h1 R.far.grown) (by simp [Value.ownBlock])) (fun h1 _=> ?_),?_⟩
 · have h3:=hlt j c hj
   show (ρ j).b≠g'
   omega
 · exact R.below.trans ⟨hgr.os,hgr.tape,hgr.output,hgr.size,fun k hk=>hgr.block k (by have:=R.base;omega) (by simp [Value.ownBlock])⟩
 · refine ⟨cur',hw',rfl,by rw [hcs',Nat.mul_comm],hnc',hcm',?_⟩
   rw [Nat.mul_comm,htake,List.nil_append]
   exact hseg
 · have h3:=R.far.grown
   have h1:g'<base.w1.heap.size:=h1
   omega
 · intro _
   rw [hv'];simp [gL]
theorem sim_step {ops:Array Oper} {o:Oper} {fp:FP} (hC:CSound P G C) (hG:G w0) (hb0:base.b=w0.heap.size) (hnm:base.nm=C.nm) (hst:Step P C ops.toList o fp s s') (R:RelS base w0 ρ s a w)
 {Q:Exit→Act→World→Prop} {K:Act→World→Prop} (hK:∀ ρ' a' w',RelS base w0 ρ' s' a' w'→K a' w') :
 if Region.wanted o (yielded ops a.tmps) then o.wp P a w K Q else K (a.put o.dst undef) w:=by
 obtain ⟨dv,hw,hst,hs'⟩:=hst
 unfold Yields at hst
 split at hst
 · exact hst.elim
 · rename_i hw'
   rw [wanted_of R hw']
   simp only [if_true]
   obtain ⟨c,r,hr,hc,hd⟩:=hst
   have hq:=req_ok R.ctx hr hc
   unfold Oper.wp
   cases r with
   | val v=>
     obtain ⟨u,hrun,hrel,hn⟩:=hq
     obtain ⟨-,rfl,rfl⟩:=hd
     rw [eff_none] at hs';subst hs'
     rw [hrun]
     exact hK _ _ _ (R.put _ hrel hn)
   | rd i k=>
     obtain ⟨-,rfl,b,c',hb,hk,hcc⟩:=hd
     rw [eff_none] at hs';subst hs'
     obtain ⟨u,hrun,hrel,hn⟩:=hq.2 b hb c' dv hk hcc
     rw [hrun]
     exact hK _ _ _ (R.put _ hrel hn)
   | wr i k=>
     obtain ⟨-,hdst,b,c',b',hb,hk,hcc,rfl⟩:=hd
     rw [hdst] at hs'
     subst hs'
     obtain ⟨w',hrun,htu,hrel,⟨ho0,ho'⟩,hn⟩:=hq.2 b hb c' b' hk hcc
     rw [hrun]
     rw [Oper.upon_skip,hdst]
     exact hK _ _ _ (R.write hb ho0 ho' htu hrel hn)
   | new b nv=>
     obtain ⟨d,i,hle,hdst,-,hd0,hlt,rfl,rfl⟩:=hd
     rw [hdst] at hs'
     subst hs'
     obtain ⟨ob,hrun,hrel,hown,hn⟩:=hq
     rw [hrun]
     rw [Oper.upon_value,hdst]
     exact hK _ _ _ (R.new nv (by rw [hnm];exact hle) hd0 hlt hrel hown hn)
   | call f args=>
    rcases hd with hd | hd
    · obtain ⟨-,rfl,c',hcv,hc'⟩:=hd
      rw [eff_none] at hs';subst hs'
      obtain ⟨us,hargs,hrun,-⟩:=hq
      obtain ⟨hvn,hcall⟩:=hC.calls f args _ c' dv hcv hc'
      have hGw:G w:=hC.stable w0 w hG (hb0 ▸ R.below)
      have hbs:RelBs ρ (blks s.h (dnames s.h args)) w:=fun p hp=>R.ctx.heap _ _ (blks_mem hp).2
      have hbl:∀ p∈blks s.h (dnames s.h args),(ρ p.1).b<w.heap.size:=fun p hp=>R.lt (by rw [(blks_mem hp).2];simp)
      rcases hcall with ⟨⟨fn,hf,hname,hbody⟩,hcall⟩ | hcall
      · have hn':fn.name≠ "runtime.NumGoroutine":=by simpa using hname
        have hb':fn.body≠none:=by intro e;simp [e] at hbody
        have h2:(callFunc f us.toArray).run P w= .ok (.enter f us.toArray) w:=by
         simp [callFunc,hf,hn',hb']
        rw [hrun,h2,Oper.upon_enter]
        refine (hcall us ρ hargs w hGw hbs hbl).mono ?_
        rintro e w' ⟨u,rfl,hu,hbel⟩
        exact hK _ _ _ ((R.later hbel).put _ hu (by rw [hvn];simp))
      · obtain ⟨u,w',h2,hu,hbel⟩:=hcall us ρ hargs w hGw hbs
        rw [hrun,h2,Oper.upon_value]
        exact hK _ _ _ ((R.later hbel).put _ hu (by rw [hvn];simp))
    · obtain ⟨d,c',b,nv,hdst,-,hcv,hc',hd0,hlt,rfl,rfl⟩:=hd
      rw [hdst] at hs'
      subst hs'
      obtain ⟨us,hargs,hrun,-⟩:=hq
      obtain ⟨hown,hbn,⟨fn,hf,hname,hbody⟩,hcall⟩:=hC.mkr f args _ c' b nv hcv hc'
      have hGw:G w:=hC.stable w0 w hG (hb0 ▸ R.below)
      have hbs:RelBs ρ (blks s.h (dnames s.h args)) w:=fun p hp=>R.ctx.heap _ _ (blks_mem hp).2
      have hbl:∀ p∈blks s.h (dnames s.h args),(ρ p.1).b<w.heap.size:=fun p hp=>R.lt (by rw [(blks_mem hp).2];simp)
      have hn':fn.name≠ "runtime.NumGoroutine":=by simpa using hname
      have hb':fn.body≠none:=by intro e;simp [e] at hbody
      have h2:(callFunc f us.toArray).run P w= .ok (.enter f us.toArray) w:=by
       simp [callFunc,hf,hn',hb']
      rw [hrun,h2,Oper.upon_enter]
      refine (hcall us ρ hargs w hGw hbs hbl).mono ?_
      rintro e w' ⟨u,q,rfl,hu,hB,hq,hbel⟩
      have R':=RelS.adopt (w':=w') R (i:=nameOf C.nm d) (q:=q) (b:=b) hd0 (hnm ▸ nameOf_le _ _) (fun j c hj=>⟨hbel.block _ (R.lt (by rw [hj];simp)),by
       have:=R.lt (i:=j) (by rw [hj];simp)
       omega⟩) (R.below.trans (hbel.mono R.base)) (Nat.le_trans R.base hbel.size) hB hown (Nat.le_trans R.base hq) hbn hbel.size (fun k h1 _=>hbel.block k (Nat.lt_of_lt_of_le h1 R.far.grown)) (fun h1=>by have:=R.far.grown;omega)
      have:=R'.put (some d) (v:= .one (nv.at (nameOf C.nm d))) (u:=u) (nv_at hu (if_pos rfl)) (fun m hm=>by
       obtain rfl:m=nameOf C.nm d:=by cases nv<;>simpa [AV.names,L.names,NewV.at] using hm
       simp [upd])
      rw [hdst]
      exact hK _ _ _ this
   | glob T g off=>
     obtain ⟨-,rfl,hv⟩:=hd
     rw [eff_none] at hs';subst hs'
     have hGw:G w:=hC.stable w0 w hG (hb0 ▸ R.below)
     obtain ⟨hvn,hl⟩:=hC.globs T g off dv hv
     obtain ⟨u,hu,hrel⟩:=hl w hGw
     rw [hq u hu]
     exact hK _ _ _ (R.put _ (hrel ρ) (by rw [hvn];simp))
   | look T ok g b key=>
     obtain ⟨-,rfl,c',hv,hc'⟩:=hd
     rw [eff_none] at hs';subst hs'
     have hGw:G w:=hC.stable w0 w hG (hb0 ▸ R.below)
     obtain ⟨hvn,hl⟩:=hC.looks T ok g b key c' dv hv hc'
     obtain ⟨k,hk,hrun⟩:=hq
     obtain ⟨u,hu,hrel⟩:=hl w hGw ρ k hk
     rw [hrun u hu]
     exact hK _ _ _ (R.put _ hrel (by rw [hvn];simp))
   | pick b x y=>
     obtain ⟨-,rfl,rfl⟩:=hd
     rw [eff_none] at hs';subst hs'
     obtain ⟨u,hrun,hrel,hn⟩:=hq
     rw [hrun]
     exact hK _ _ _ (R.put _ hrel hn)
   | app bs e z m x=>
     obtain ⟨rfl,d,c',g,hdst,hsr0,hcc,hgl,hd⟩:=hd
     obtain ⟨T,tx,inf,zv,ty,vs,vx,hT,hi,hz,hsz,hzs,h0,hby,hsm,hrun,hvs,hsrc⟩:=hq
     subst hsz
     have hvs:vs= .slice none 0 0:=hvs
     subst hvs
     obtain ⟨news,hsr,hseg⟩:=srcR_ok hsrc hsr0 hcc hgl
     rcases hd with ⟨rfl,-,rfl,rfl⟩ | ⟨hm0,i,hnmi,-,hd0,hlt,rfl,rfl⟩
     · rw [eff_none] at hs';subst hs'
       rw [hrun _ _ (app_zero hT hi hsr),Oper.upon_value]
       exact hK _ _ _ (R.put _ (fun _=>rfl) (by simp [AV.names,L.names]))
     · rw [hdst] at hs'
       subst hs'
       obtain ⟨v',w',ρ',hr1,hR1,hrel⟩:=app_new (P:=P) R hT hi hz hzs h0 hby (ty:=ty) (by simpa using hsm) (i:=i) (by rw [hnm];exact hnmi) hsr hseg hd0 hm0
       rw [hrun v' w' hr1,Oper.upon_value,hdst]
       exact hK _ _ _ (hR1.put (some d) (v:= .one (.rsl i m)) hrel (fun n hn=>by
        obtain rfl:n=i:=by simpa [AV.names,L.names] using hn
        simp [upd]))
 · rename_i hw'
   rw [wanted_of R hw']
   simp only [Bool.false_eq_true,if_false]
   obtain ⟨-,rfl,rfl⟩:=hst
   rw [eff_none] at hs';subst hs'
   exact hK _ _ _ (R.put _ (fun _=>rfl) (by simp [AV.names,L.names]))
end
theorem req_congr (P:Program) {t t':List AV} (o:Op) (hx:∀ x∈o.operands,ev t x=ev t' x):req P o t=req P o t':=by
 have hs:∀ xs:List Operand,(∀ x∈xs,ev t x=ev t' x)→evs t xs=evs t' xs:=fun xs=>by
  induction xs with
  | nil=>intro _;rfl
  | cons x xs ih=>intro h;simp only [evs];rw [h x (by simp),ih fun y hy=>h y (by simp [hy])]
 have hp:∀ ps:List (Nat×Operand),(∀ p∈ps,ev t p.2=ev t' p.2)→evp t ps=evp t' ps:=fun ps=>by
  induction ps with
  | nil=>intro _;rfl
  | cons p ps ih=>intro h;obtain ⟨i,x⟩:=p;simp only [evp];rw [h (i,x) (by simp),ih fun y hy=>h y (by simp [hy])]
 cases o<;>simp only [req]
 case move x=>rw [hx x (by simp [Op.operands])]
 case assign x=>rw [hx x (by simp [Op.operands])]
 case pick c x y=>rw [hx c (by simp [Op.operands]),hx x (by simp [Op.operands]),hx y (by simp [Op.operands])]
 case box T x=>rw [hx x (by simp [Op.operands])]
 case nilCheck x=>rw [hx x (by simp [Op.operands])]
 case buildSlice T n ps=>rw [hp ps.toList fun p hpm=>hx p.2 (by simp [Op.operands];exact ⟨p.1,by simpa using hpm⟩)]
 case build T ps=>rw [hp ps.toList fun p hpm=>hx p.2 (by simp [Op.operands];exact ⟨p.1,by simpa using hpm⟩)]
 case load T x=>rw [hx x (by simp [Op.operands])]
 case store T x y=>rw [hx x (by simp [Op.operands]),hx y (by simp [Op.operands])]
 case fieldAddr T x f=>rw [hx x (by simp [Op.operands])]
 case field T x f=>rw [hx x (by simp [Op.operands])]
 case indexAddr T x i=>rw [hx x (by simp [Op.operands]),hx i (by simp [Op.operands])]
 case index T x i=>rw [hx x (by simp [Op.operands]),hx i (by simp [Op.operands])]
 case lookup T x i ok=>rw [hx x (by simp [Op.operands]),hx i (by simp [Op.operands])]
 case makeSlice T l c=>rw [hx l (by simp [Op.operands]),hx c (by simp [Op.operands])]
 case mapUpdate T x k v=>rw [hx x (by simp [Op.operands]),hx k (by simp [Op.operands]),hx v (by simp [Op.operands])]
 case makeFunc fn fst cap=>
  have hc:∀ xs:List Operand,(∀ x∈xs,ev t x=ev t' x)→capsOf t xs=capsOf t' xs:=fun xs=>by
   induction xs with
   | nil=>intro _;rfl
   | cons x xs ih=>intro h;simp only [capsOf];rw [h x (by simp),ih fun y hy=>h y (by simp [hy])]
  rw [hc cap.toList fun x hxm=>hx x (by simp only [Op.operands,Array.mem_append];exact .inr (by simpa using hxm))]
 case slice T x lo hi mx=>
  have hbnd:∀ (y:Option Operand) (d:Nat),(∀ z,y=some z→z∈(Op.slice T x lo hi mx).operands)→boundK t y d=boundK t' y d:=fun y d hy=>by
   cases y with
   | none=>rfl
   | some z=>simp only [boundK];rw [hx z (hy z rfl)]
  have e1:boundK t lo=boundK t' lo:=funext fun d=>hbnd lo d fun z hz=>by subst hz;simp [Op.operands]
  have e2:boundK t hi=boundK t' hi:=funext fun d=>hbnd hi d fun z hz=>by subst hz;simp [Op.operands]
  have e3:∀ m,mx=some m→boundK t (some m)=boundK t' (some m):=fun m hm=>funext fun d=>hbnd (some m) d fun z hz=>by cases hz;subst hm;simp [Op.operands]
  cases mx with
  | none=>dsimp only;rw [hx x (by simp [Op.operands]),e1,e2]
  | some m=>dsimp only;rw [hx x (by simp [Op.operands]),e2,e3 m rfl]
 case extract x k=>rw [hx x (by simp [Op.operands])]
 case binOp op T x y yT=>rw [hx x (by simp [Op.operands]),hx y (by simp [Op.operands])]
 case unOp op T x=>rw [hx x (by simp [Op.operands])]
 case convert s d x=>rw [hx x (by simp [Op.operands])]
 case call cl=>
  rw [hs cl.args.toList fun x hxm=>hx x (by simp [Op.operands,Call.operands];exact .inr (by simpa using hxm))]
  have hcal:∀ n,cl.callee= .value (.tmp n)→getT t n=getT t' n:=fun n hn=>hx (.tmp n) (by simp [Op.operands,Call.operands,hn])
  generalize cl.callee=ca at hcal
  cases ca with
  | value f=>cases f with
    | tmp n=>simp only [hcal n rfl]
    | _=>rfl
  | builtin b=>cases b<;>rfl
  | invoke r m=>rfl
section
variable {P : Program} {C : Table} {ops : Array Oper}
theorem getT_put (s:AS) (dst:Option Nat) (v:AV) (n:Nat) (h:dst≠some n):getT (s.put dst v).t n=getT s.t n:=by
 cases dst with
 | none=>rfl
 | some d=>
   simp only [AS.put,getT_set]
   rw [if_neg]
   rintro ⟨rfl,_⟩
   exact h rfl
theorem len_put (s:AS) (dst:Option Nat) (v:AV):(s.put dst v).t.length=s.t.length:=by cases dst<;>simp [AS.put]
theorem put_comm (s:AS) (d e:Option Nat) (v u:AV) (h:∀ x,d=some x→e≠some x):((s.put d v).put e u).t=((s.put e u).put d v).t:=by
 cases d with
 | none=>rfl
 | some d=>
   cases e with
   | none=>rfl
   | some e=>
     have hne:d≠e:=fun he=>h d rfl (by rw [he])
     simp only [AS.put]
     exact List.set_comm _ _ hne
theorem Yields.wrote {o:Oper} {fp:FP} {s:AS} {dv:AV} {i:Nat} {b:Blk} (h:Yields P C ops.toList o fp s dv (some (i,b))):fp.1=true∧∃ r,fp.2=i::r:=by
 unfold Yields at h
 split at h
 · exact h.elim
 · obtain ⟨c,r,_,_,h⟩:=h
   cases r with
   | val v=>obtain ⟨_,h,_⟩:=h;cases h
   | rd i k=>obtain ⟨_,h,_⟩:=h;cases h
   | wr i k=>obtain ⟨h1,_,_,_,_,_,_,_,h⟩:=h;cases h;subst h1;exact ⟨rfl,_,rfl⟩
   | new b nv=>obtain ⟨d,i',_,_,h1,_,_,_,h⟩:=h;cases h;subst h1;exact ⟨rfl,_,rfl⟩
   | call f args=>
     rcases h with h | h
     · obtain ⟨_,h,_⟩:=h;cases h
     · obtain ⟨d,c',b',nv,_,h1,_,_,_,_,_,h⟩:=h;cases h;subst h1;exact ⟨rfl,_,rfl⟩
   | glob T g off=>obtain ⟨_,h,_⟩:=h;cases h
   | look T ok g b key=>obtain ⟨_,h,_⟩:=h;cases h
   | pick b x y=>obtain ⟨_,h,_⟩:=h;cases h
   | app _ _ _ _ _=>
     obtain ⟨_,d,c',g,_,_,_,_,⟨_,_,h,_⟩ | ⟨_,i',_,h1,_,_,_,h⟩⟩:=h
     · cases h
     · cases h;subst h1;exact ⟨rfl,_,rfl⟩
 · obtain ⟨_,h,_⟩:=h;cases h
theorem Yields.congr {o:Oper} {fp:FP} {s s':AS} {dv:AV} {hw:Option (Nat×Blk)} (h:Yields P C ops.toList o fp s dv hw) (ht:∀ d∈o.looksAt ops,getT s.t d=getT s'.t d)
 (hh:∀ i∈fp.2,s.h i=s'.h i) (hl:s.t.length=s'.t.length):Yields P C ops.toList o fp s' dv hw:=by
 have hw':wantA ops.toList o s'.t=wantA ops.toList o s.t:=by
  unfold wantA
  cases hg:o.guard with
  | none=>rfl
  | some g=>
    obtain ⟨j,want⟩:=g
    dsimp only
    cases hgt:guardTmp ops.toList j with
    | none=>rfl
    | some d=>
      dsimp only
      rw [ht d]
      unfold Oper.looksAt
      refine List.mem_append_right _ ?_
      rw [hg]
      unfold guardTmp at hgt
      rw [nth_eq] at hgt
      cases ho:ops[j]? with
      | none=>simp [ho] at hgt
      | some o'=>simp [ho] at hgt;simp [ho,hgt]
 have hr:req P o.op s'.t=req P o.op s.t:=by
  refine req_congr P o.op fun x hx=> ?_
  cases x with
  | tmp d=>
    simp only [ev]
    rw [ht d]
    unfold Oper.looksAt
    exact List.mem_append_left _ (List.mem_filterMap.2 ⟨.tmp d,by simpa using hx,rfl⟩)
  | _=>rfl
 unfold Yields at h ⊢
 rw [hw',hr]
 split
 · rename_i e;rw [e] at h;exact h
 · rename_i e
   rw [e] at h
   obtain ⟨c,r,h1,h2,h3⟩:=h
   refine ⟨c,r,h1,h2,?_⟩
   cases r with
   | val v=>exact h3
   | rd i k=>obtain ⟨h4,h5,b,c',h6,h7⟩:=h3;exact ⟨h4,h5,b,c',by rw [← hh i (by rw [h4];simp)];exact h6,h7⟩
   | wr i k=>obtain ⟨h4,h5,b,c',b',h6,h7⟩:=h3;exact ⟨h4,h5,b,c',b',by rw [← hh i (by rw [h4];simp)];exact h6,h7⟩
   | new b nv=>obtain ⟨d,i',h0,h4,h5,h6,h7,h8⟩:=h3;exact ⟨d,i',h0,h4,h5,by rw [← hh i' (by rw [h5];simp)];exact h6,by rw [← hl];exact h7,h8⟩
   | call f args=>
     rcases h3 with h3 | h3
     · obtain ⟨h4,h5,c',h6,h7⟩:=h3;have hd:=dnames_congr (args:=args) fun i hi=>hh i (by rw [h4];exact hi);exact .inl ⟨by rw [← hd];exact h4,h5,c',by rw [← hd,← blks_congr fun i hi=>hh i (by rw [h4];exact hi)];exact h6,h7⟩
     · obtain ⟨d,c',b',nv,h4,h5,h6,h7,h8,h9,h10⟩:=h3
       have hd:=dnames_congr (args:=args) fun i hi=>hh i (by rw [h5];simp [hi])
       exact .inr ⟨d,c',b',nv,h4,by rw [← hd];exact h5,by rw [← hd,← blks_congr fun i hi=>hh i (by rw [h5];simp [hi])];exact h6,h7,by rw [← hh (nameOf C.nm d) (by rw [h5];simp)];exact h8,by rw [← hl];exact h9,h10⟩
   | glob T g off=>exact h3
   | look T ok g b key=>exact h3
   | pick b x y=>exact h3
   | app _ _ _ _ _=>
     obtain ⟨h0,d,c',g,h4,h5,h6,h7,⟨h8,h9,h10⟩ | ⟨h8,i',h9,h10,h11,h12,h13⟩⟩:=h3
     · exact ⟨h0,d,c',g,h4,srcR_congr (fun i hi=>hh i (by rw [h9];exact hi)) h5,h6,h7,.inl ⟨h8,h9,h10⟩⟩
     · exact ⟨h0,d,c',g,h4,srcR_congr (fun i hi=>hh i (by rw [h10];simp [hi])) h5,h6,h7,.inr ⟨h8,i',h9,h10,by rw [← hh i' (by rw [h10];simp)];exact h11,by rw [← hl];exact h12,h13⟩⟩
 · rename_i e;rw [e] at h;exact h
theorem clear1_spec {a:FP} {ys:List Nat} {x:Nat} (h:clear1 a ys=true) (ha:a.1=true∧∃ r,a.2=x::r):∀ y∈ys,x≠y:=by
 obtain ⟨a1,a2⟩:=a
 obtain ⟨h1,r,h2⟩:=ha
 simp only at h1 h2
 subst h1 h2
 intro y hy e
 subst e
 have:=List.all_eq_true.1 h x hy
 simp at this
theorem compat_spec {a b:FP} {x:Nat} (h:compat a b=true) (ha:a.1=true∧∃ r,a.2=x::r):∀ y∈b.2,x≠y:=by
 obtain ⟨a1,a2⟩:=a
 obtain ⟨b1,b2⟩:=b
 obtain rfl:a1=true:=ha.1
 have key:clear1 (true,a2) b2=true:=by
  cases b1<;>simp only [compat,Bool.and_eq_true] at h<;>exact h.1
 exact clear1_spec key ha
theorem compat_spec' {a b:FP} {x:Nat} (h:compat a b=true) (hb:b.1=true∧∃ r,b.2=x::r):∀ y∈a.2,x≠y:=by
 obtain ⟨a1,a2⟩:=a
 obtain ⟨b1,b2⟩:=b
 obtain rfl:b1=true:=hb.1
 have key:clear1 (true,b2) a2=true:=by
  cases a1<;>simp only [compat,Bool.and_eq_true] at h<;>exact h.2
 exact clear1_spec key hb
theorem Yields.heap {o:Oper} {fp fp':FP} {s:AS} {dv:AV} {hw:Option (Nat×Blk)} {dst:Option Nat} (h:Yields P C ops.toList o fp s dv hw) (hc:compat fp fp'=true∨compat fp' fp=true) :
 ∀ i∈fp'.2,(s.eff dst dv hw).h i=s.h i:=by
 intro i hi
 cases hw with
 | none=>rfl
 | some p=>
   obtain ⟨k,b⟩:=p
   have hf:=h.wrote
   show upd s.h k b i=s.h i
   unfold upd
   rw [if_neg]
   rcases hc with hc | hc
   · exact fun e=>compat_spec hc hf i hi e.symm
   · exact fun e=>compat_spec' hc hf i hi e.symm
theorem Step.comm {oi oj:Oper} {fi fj:FP} {s s1 s2:AS} (hap:oi.apart ops oj=true) (h1:Step P C ops.toList oi fi s s1) (h2:Step P C ops.toList oj fj s1 s2)
 (hc:compat fi fj=true∨compat fj fi=true):∃ s1',Step P C ops.toList oj fj s s1'∧Step P C ops.toList oi fi s1' s2:=by
 obtain ⟨a1,a2,a3⟩:=Oper.apart_spec hap
 obtain ⟨vi,hwi,yi,rfl⟩:=h1
 obtain ⟨vj,hwj,yj,rfl⟩:=h2
 have yj':Yields P C ops.toList oj fj s vj hwj:=by
  refine yj.congr (fun d hd=> ?_) (yi.heap hc) (len_put _ _ _)
  exact getT_put _ _ _ _ fun e=>a1 d e hd
 have yi':Yields P C ops.toList oi fi (s.eff oj.dst vj hwj) vi hwi:=by
  refine yi.congr (fun d hd=> ?_) (fun i hi=>(yj'.heap hc.symm i hi).symm) (len_put _ _ _).symm
  exact (getT_put _ _ _ _ fun e=>a3 d e hd).symm
 refine ⟨_,⟨vj,hwj,yj',rfl⟩,vi,hwi,yi',?_⟩
 have e1:((s.eff oi.dst vi hwi).eff oj.dst vj hwj).t=((s.eff oj.dst vj hwj).eff oi.dst vi hwi).t:=by
  have e:=put_comm s oi.dst oj.dst vi vj a2
  cases hoi:oi.dst<;>cases hoj:oj.dst<;>first | rfl | simpa [AS.eff,AS.put,hoi,hoj] using e
 have e2:((s.eff oi.dst vi hwi).eff oj.dst vj hwj).h=((s.eff oj.dst vj hwj).eff oi.dst vi hwi).h:=by
  cases hwi with
  | none=>cases hwj<;>rfl
  | some p=>
    cases hwj with
    | none=>rfl
    | some q=>
      obtain ⟨k,b⟩:=p
      obtain ⟨k',b'⟩:=q
      have f1:=yi.wrote
      have f2:=yj.wrote
      have hne:k≠k':=by
       rcases hc with hc | hc
       · exact compat_spec hc f1 k' (by obtain ⟨_,r,e⟩:=f2;rw [e];simp)
       · exact compat_spec' hc f1 k' (by obtain ⟨_,r,e⟩:=f2;rw [e];simp)
      funext x
      show upd (upd s.h k b) k' b' x=upd (upd s.h k' b') k b x
      unfold upd
      by_cases h3:x=k<;>by_cases h4:x=k'
      · exact absurd (h3.symm.trans h4) hne
      · simp [h3,hne]
      · simp [h4,Ne.symm hne]
      · simp [h3,h4]
 generalize (s.eff oi.dst vi hwi).eff oj.dst vj hwj=A at e1 e2
 generalize (s.eff oj.dst vj hwj).eff oi.dst vi hwi=B at e1 e2
 cases A;cases B
 simp only at e1 e2
 rw [e1,e2]
def AnyA (P:Program) (C:Table) (ops:Array Oper) (FT:Nat→FP) (K:AS→Prop):Nat→Array Bool→AS→Prop
 | 0,listed,s=>Region.ready .any ops listed=[]∧K s
 | fuel + 1,listed,s=>(Region.ready .any ops listed=[]→K s) ∧
   ∀ i∈Region.ready .any ops listed,∀ o,ops[i]? =some o→∃ s',Step P C ops.toList o (FT i) s s'∧AnyA P C ops FT K fuel (listed.setIfInBounds i true) s'
theorem any_sound {FT:Nat→FP} {K:AS→Prop} {G:World→Prop} {base:Bs} {w0:World} {Q:Exit→Act→World→Prop} (hC:CSound P G C) (hG:G w0) (hb0:base.b=w0.heap.size) (hnm:base.nm=C.nm)
 (hK:∀ s ρ a w,K s→RelS base w0 ρ s a w→Q .normal a w):∀ (fuel:Nat) (listed:Array Bool) (s:AS) (ρ:Nat→Loc) (a:Act) (w:World),AnyA P C ops FT K fuel listed s →
 RelS base w0 ρ s a w→wpAny P .any ops Q fuel listed a w
 | 0,_,s,ρ,a,w,h,R=>⟨h.1,hK s ρ a w h.2 R⟩
 | fuel + 1,listed,s,ρ,a,w,h,R=>⟨fun e=>hK s ρ a w (h.1 e) R,fun i hi=>by
   unfold wpOp
   split
   · rename_i ho
     exfalso
     obtain ⟨_,o,ho',_⟩:=mem_ready.1 hi
     rw [ho] at ho';cases ho'
   · rename_i o ho
     obtain ⟨s',hst,hany⟩:=h.2 i hi o ho
     have:=sim_step (Q:=Q) (K:=wpAny P .any ops Q fuel (listed.setIfInBounds i true)) hC hG hb0 hnm hst R (fun ρ' a' w' R'=>any_sound hC hG hb0 hnm hK fuel _ s' ρ' a' w' hany R')
     split
     · rename_i hw;rw [if_pos hw] at this;exact .inl this
     · rename_i hw;rw [if_neg hw] at this;exact this⟩
inductive Dep (ops:Array Oper) (k:Nat):Nat→Prop
 | one {j:Nat} {oj:Oper} {e:Edge}:ops[j]? =some oj→e∈oj.after→Region.binds .any e=true→e.on=k→Dep ops k j
 | more {j:Nat} {oj:Oper} {e:Edge}:ops[j]? =some oj→e∈oj.after→Region.binds .any e=true→Dep ops k e.on→Dep ops k j
def ClosedL (ops:Array Oper) (listed:Array Bool):Prop:=∀ j oj,ops[j]? =some oj→listed.getD j true=true→∀ e∈oj.after,Region.binds .any e=true→listed.getD e.on false=true
theorem getD_tt {l:Array Bool} {i:Nat} (h:l.getD i false=true):l.getD i true=true:=by
 rcases Nat.lt_or_ge i l.size with h' | h'
 · simp [h'] at h ⊢;exact h
 · simp [Array.getElem?_eq_none h'] at h
theorem dep_un {listed:Array Bool} (hc:ClosedL ops listed) {i:Nat} (hi:listed.getD i true=false):∀ {j:Nat},Dep ops i j→listed.getD j true=false:=by
 intro j h
 induction h with
 | one hj he hb hon=>
   cases hl:listed.getD _ true with
   | false=>rfl
   | true=>
     have:=hc _ _ hj hl _ he hb
     rw [hon] at this
     rw [getD_tt this] at hi;cases hi
 | more hj he hb _ ih=>
   cases hl:listed.getD _ true with
   | false=>rfl
   | true=>
     have:=hc _ _ hj hl _ he hb
     rw [getD_tt this] at ih;cases ih
theorem ready_dep {listed:Array Bool} (hc:ClosedL ops listed) {i j:Nat} (hi:listed.getD i true=false) (hj:j∈Region.ready .any ops listed):¬ Dep ops i j:=fun h=>by
 obtain ⟨hu,oj,hoj,hall⟩:=mem_ready.1 hj
 cases h with
 | one hj' he hb hon=>
   obtain rfl:=Option.some.inj (hj'.symm.trans hoj)
   have:=hall _ he hb
   rw [hon] at this
   rw [getD_tt this] at hi;cases hi
 | more hj' he hb hd=>
   obtain rfl:=Option.some.inj (hj'.symm.trans hoj)
   have h1:=hall _ he hb
   have h2:=dep_un hc hi hd
   rw [getD_tt h1] at h2;cases h2
theorem ClosedL.set {listed:Array Bool} (hc:ClosedL ops listed) {j:Nat} (hj:j∈Region.ready .any ops listed):ClosedL ops (listed.setIfInBounds j true):=by
 obtain ⟨hu,oj,hoj,hall⟩:=mem_ready.1 hj
 intro m om hm hl e he hb
 by_cases h:j=m
 · subst h
   obtain rfl:=Option.some.inj (hm.symm.trans hoj)
   exact getD_set_true (hall e he hb)
 · rw [getD_set_ne true h] at hl
   exact getD_set_true (hc m om hm hl e he hb)
theorem ClosedL.start:ClosedL ops (Array.replicate ops.size false):=fun j oj hj hl=>by
 have:j<ops.size:=(Array.getElem?_eq_some_iff.1 hj).1
 simp [this] at hl
theorem any_first {FT:Nat→FP} {K:AS→Prop} {i:Nat} {oi:Oper} (hi:ops[i]? =some oi) :
 ∀ (fuel:Nat) (listed:Array Bool) (s s1:AS),ClosedL ops listed →
   (∀ j oj,ops[j]? =some oj→j≠i→listed.getD j true=false→¬ Dep ops i j→oi.apart ops oj=true∧(compat (FT i) (FT j)=true∨compat (FT j) (FT i)=true)) →
   i∈Region.ready .any ops listed→Step P C ops.toList oi (FT i) s s1 →
   AnyA P C ops FT K fuel (listed.setIfInBounds i true) s1→AnyA P C ops FT K (fuel + 1) listed s:=by
 intro fuel
 induction fuel with
 | zero=>
   intro listed s s1 hcl _ hr hy H
   refine ⟨fun h=>(by rw [h] at hr;cases hr),fun j hj oj hoj=> ?_⟩
   by_cases hji:j=i
   · subst hji
     obtain rfl:oj=oi:=Option.some.inj (hoj.symm.trans hi)
     exact ⟨s1,hy,H⟩
   · have:=ready_mono hj hji
     rw [H.1] at this
     cases this
 | succ fuel ih=>
   intro listed s s1 hcl hfree hr hy H
   refine ⟨fun h=>(by rw [h] at hr;cases hr),fun j hj oj hoj=> ?_⟩
   by_cases hji:j=i
   · subst hji
     obtain rfl:oj=oi:=Option.some.inj (hoj.symm.trans hi)
     exact ⟨s1,hy,H⟩
   · obtain ⟨s2,h1,h2⟩:=H.2 j (ready_mono hj hji) oj hoj
     obtain ⟨hjun,oj',hoj',hall⟩:=mem_ready.1 hj
     obtain rfl:oj=oj':=Option.some.inj (hoj.symm.trans hoj')
     have hnot:¬ Dep ops i j:=ready_dep hcl (mem_ready.1 hr).1 hj
     have hap:=hfree j oj hoj hji hjun hnot
     obtain ⟨s1',h3,h4⟩:=hy.comm hap.1 h1 hap.2
     have hfree':∀ k ok,ops[k]? =some ok→k≠i→(listed.setIfInBounds j true).getD k true=false →
      ¬ Dep ops i k→oi.apart ops ok=true∧(compat (FT i) (FT k)=true∨compat (FT k) (FT i)=true):=fun k ok hk hki hun hno=>by
      refine hfree k ok hk hki ?_ hno
      by_cases hjk:j=k
      · subst hjk;exact hjun
      · rw [getD_set_ne true hjk] at hun;exact hun
     refine ⟨s1',h3,ih (listed.setIfInBounds j true) s1' s2 (hcl.set hj) hfree' (ready_mono hr (Ne.symm hji)) h4 ?_⟩
     rw [Array.setIfInBounds_comm _ _ hji]
     exact h2
def LexRun (P:Program) (C:Table) (all:List Oper):List Oper→List FP→AS→AS→Prop
 | [],[],s,s'=>s'=s
 | o::r,fp::fps,s,s'=>∃ s1,Step P C all o fp s s1∧LexRun P C all r fps s1 s'
 | _,_,_,_=>False
theorem edgeTo_spec {k:Nat}:∀ {es:List Edge},edgeTo k es=true→∃ e∈es,Region.binds .any e=true∧e.on=k
 | [],h=>by simp [edgeTo] at h
 | e::es,h=>by
   simp only [edgeTo] at h
   split at h
   · rename_i h1 h2
     exact ⟨e,by simp,h1,by simpa using h2⟩
   · obtain ⟨e',h1,h2⟩:=edgeTo_spec h
     exact ⟨e',by simp [h1],h2⟩
theorem okAgainst_spec {k:Nat} {fp:FP}:∀ {r:List Oper} {fps:List FP},okAgainst k fp r fps=true→∀ (j:Nat) (o:Oper) (fp':FP),r[j]? =some o→fps[j]? =some fp' →
 compat fp fp'=true∨∃ e∈o.after,Region.binds .any e=true∧e.on=k
 | [],fps,_,j,o,fp',h,_=>by simp at h
 | o::r,[],_,j,o',fp',_,h=>by simp at h
 | o::r,fp1::fps,hk,0,o',fp',h1,h2=>by
   simp at h1 h2
   subst h1 h2
   simp only [okAgainst] at hk
   split at hk
   · rename_i h;exact .inl h
   · split at hk
     · rename_i h
       obtain ⟨e,h1,h2⟩:=edgeTo_spec h
       exact .inr ⟨e,by simpa using h1,h2⟩
     · cases hk
 | o::r,fp1::fps,hk,j + 1,o',fp',h1,h2=>by
   simp only [List.getElem?_cons_succ] at h1 h2
   simp only [okAgainst] at hk
   split at hk
   · exact okAgainst_spec hk j o' fp' h1 h2
   · split at hk
     · exact okAgainst_spec hk j o' fp' h1 h2
     · cases hk
theorem edgeIn_spec {ds:List Nat}:∀ {es:List Edge},edgeIn ds es=true→∃ e∈es,Region.binds .any e=true∧e.on∈ds
 | [],h=>by simp [edgeIn] at h
 | e::es,h=>by
   simp only [edgeIn] at h
   split at h
   · rename_i h1 h2
     obtain ⟨d,hd,he⟩:=List.any_eq_true.1 h2
     have:e.on=d:=by simpa using he
     exact ⟨e,by simp,h1,by rw [this];exact hd⟩
   · obtain ⟨e',h1,h2⟩:=edgeIn_spec h
     exact ⟨e',by simp [h1],h2⟩
theorem okAgainst2_spec {ops:Array Oper} {k:Nat} {fp:FP}:∀ {r:List Oper} {fps:List FP} {ds:List Nat} {m:Nat},okAgainst2 ds m fp r fps=true→(∀ d∈ds,d=k∨Dep ops k d)→(∀ j,j<r.length→r[j]? =ops[m + j]?) →
 ∀ (j:Nat) (o:Oper) (fp':FP),r[j]? =some o→fps[j]? =some fp'→compat fp fp'=true∨Dep ops k (m + j)
 | [],fps,_,_,_,_,_,j,o,fp',h,_=>by simp at h
 | o::r,[],_,_,_,_,_,j,o',fp',_,h=>by simp at h
 | o::r,fp1::fps,ds,m,hk,hds,hops,j,o',fp',h1,h2=>by
   have hm:ops[m]? =some o:=by have:=hops 0 (by simp);simpa using this.symm
   have hops':∀ j,j<r.length→r[j]? =ops[m + 1 + j]? :=fun j hj=>by
    have:=hops (j + 1) (by simp;omega)
    simpa [Nat.add_assoc,Nat.add_comm 1 j] using this
   simp only [okAgainst2] at hk
   split at hk
   · rename_i he
     obtain ⟨e,he1,hb,hon⟩:=edgeIn_spec he
     have hd:Dep ops k m:=by
      rcases hds _ hon with h | h
      · exact .one hm (by simpa using he1) hb h
      · exact .more hm (by simpa using he1) hb h
     cases j with
     | zero=>exact .inr (by simpa using hd)
     | succ j=>
       simp only [List.getElem?_cons_succ] at h1 h2
       have:=okAgainst2_spec hk (fun d hd'=>by
        rcases List.mem_cons.1 hd' with rfl | h
        · exact .inr hd
        · exact hds d h) hops' j o' fp' h1 h2
       rwa [show m + 1 + j=m + (j + 1) by omega] at this
   · split at hk
     · rename_i hcp
       cases j with
       | zero=>
         simp at h2
         subst h2
         exact .inl hcp
       | succ j=>
         simp only [List.getElem?_cons_succ] at h1 h2
         have:=okAgainst2_spec hk hds hops' j o' fp' h1 h2
         rwa [show m + 1 + j=m + (j + 1) by omega] at this
     · cases hk
theorem okFrom_cons {ops:Array Oper} {k:Nat} {o:Oper} {r:List Oper} {fp:FP} {fps:List FP} (hops:∀ j,j<r.length→r[j]? =ops[k + 1 + j]?) (h:okFrom k (o::r) (fp::fps)=true) :
 okFrom (k + 1) r fps=true∧∀ (j:Nat) (o':Oper) (fp':FP),r[j]? =some o'→fps[j]? =some fp'→compat fp fp'=true∨Dep ops k (k + 1 + j):=by
 simp only [okFrom] at h
 split at h
 · rename_i b
   refine ⟨h,fun j o' fp' _ _=> .inl ?_⟩
   obtain ⟨b',l⟩:=fp'
   cases b<;>cases b'<;>cases l<;>simp [compat,clear1]
 · split at h
   · rename_i ha
     refine ⟨h,fun j o' fp' h1 h2=> ?_⟩
     rcases okAgainst_spec ha j o' fp' h1 h2 with h3 | ⟨e,he,hb,hon⟩
     · exact .inl h3
     · have hj:j<r.length:=(List.getElem?_eq_some_iff.1 h1).1
       exact .inr (.one ((hops j hj).symm.trans h1) he hb hon)
   · cases h
 · split at h
   · rename_i ha
     exact ⟨h,fun j o' fp' h1 h2=>okAgainst2_spec ha (fun d hd=> .inl (by simpa using hd)) hops j o' fp' h1 h2⟩
   · cases h
theorem any_lex {FT:Nat→FP} {K:AS→Prop}:∀ (l:List Oper) (fps:List FP) (k:Nat) (listed:Array Bool) (s s':AS),(∀ j,l[j]? =ops[k + j]?)→(∀ j,j<l.length→fps[j]? =some (FT (k + j))) →
 (∀ j,k≤j→j<ops.size→listed.getD j true=false)→(∀ j,j<k→listed.getD j true=true)→ClosedL ops listed →
 Region.lexFrom .any ops l.length k listed=true→okFrom k l fps=true→LexRun P C ops.toList l fps s s'→K s'→AnyA P C ops FT K l.length listed s
 | [],[],k,listed,s,s',_,_,_,_,_,hB,_,h,hK=>⟨by simpa [Region.lexFrom] using hB,by obtain rfl:s'=s:=h;exact hK⟩
 | o::l,fp::fps,k,listed,s,s',hl,hf,hun,hdone,hcl,hB,hok,h,hK=>by
   have h0:ops[k]? =some o:=by simpa using (hl 0).symm
   have hfp:fp=FT k:=by have:=hf 0 (by simp);simpa using this
   subst hfp
   simp only [List.length_cons,Region.lexFrom,Bool.and_eq_true] at hB
   obtain ⟨⟨hr,hfree⟩,hB'⟩:=hB
   obtain ⟨s1,hst,hrest⟩:=h
   obtain ⟨hok',hpair⟩:=okFrom_cons (ops:=ops) (fun j _=>by have:=hl (j + 1);simpa [Nat.add_assoc,Nat.add_comm 1 j] using this) hok
   have hks:k<ops.size:=(Array.getElem?_eq_some_iff.1 h0).1
   refine any_first h0 l.length listed s s1 hcl (fun j oj hj hne hunj hno=> ?_) (by simpa using hr) hst ?_
   · refine ⟨Region.free_spec h0 hfree j oj hj hne hunj (fun e he hb heq=>hno (.one hj he hb heq)),?_⟩
     have hjk:k<j:=by
      rcases Nat.lt_trichotomy j k with h | h | h
      · rw [hdone j h] at hunj;cases hunj
      · exact absurd h hne
      · exact h
     have e1:l[j - (k + 1)]? =some oj:=by
      have:=hl (j - (k + 1) + 1)
      simp only [List.getElem?_cons_succ] at this
      rw [this,show k + (j - (k + 1) + 1)=j by omega]
      exact hj
     have hlt:j - (k + 1)<l.length:=(List.getElem?_eq_some_iff.1 e1).1
     have e2:fps[j - (k + 1)]? =some (FT j):=by
      have:=hf (j - (k + 1) + 1) (by simp;omega)
      simp only [List.getElem?_cons_succ] at this
      rw [this,show k + (j - (k + 1) + 1)=j by omega]
     rcases hpair _ _ _ e1 e2 with h | h
     · exact .inl h
     · rw [show k + 1 + (j - (k + 1))=j by omega] at h
       exact absurd h hno
   · refine any_lex l fps (k + 1) _ s1 s' (fun j=>by have:=hl (j + 1);simpa [Nat.add_assoc,Nat.add_comm 1 j] using this)
      (fun j hj=>by have:=hf (j + 1) (by simp;omega);simpa [Nat.add_assoc,Nat.add_comm 1 j] using this) (fun j hj hjs=> ?_) (fun j hj=> ?_) (hcl.set (by simpa using hr)) hB' hok' hrest hK
     · rw [getD_set_ne true (by omega)];exact hun j (by omega) hjs
     · by_cases e:j=k
       · subst e
         have hin:=(mem_ready.1 (show j∈Region.ready .any ops listed by simpa using hr)).1
         rcases Nat.lt_or_ge j listed.size with h' | h'
         · simp [h']
         · simp [Array.getElem?_eq_none h'] at hin
       · rw [getD_set_ne true (fun h=>e h.symm)];exact hdone j (by omega)
 | [],_::_,_,_,_,_,_,_,_,_,_,_,_,h,_=>h.elim
 | _::_,[],_,_,_,_,_,_,_,_,_,_,_,h,_=>h.elim
end
def S.abs (s:S):AS:=⟨s.t,look s.h⟩
theorem withName_eq {α:Sort _} (nm d:Nat) (k:Nat→α):withName nm d k=k (nameOf nm d):=by cases nm<;>rfl
theorem setK_eq {α:Sort _} (l:List AV):∀ (n:Nat) (v:AV) (k:List AV→α),setK l n v k=k (l.set n v):=by
 induction l with
 | nil=>intro n v k;rfl
 | cons x l ih=>
   intro n v k
   cases n with
   | zero=>rfl
   | succ n=>exact ih n v fun ys=>k (x::ys)
theorem forceL_eq {α:Sort _} (l:L) (k:L→α):forceL l k=k l:=by cases l<;>rfl
theorem forceLs_eq {α:Sort _} (l:List L):∀ (k:List L→α),forceLs l k=k l:=by
 induction l with
 | nil=>intro k;rfl
 | cons x l ih=>
   intro k
   show forceL x (fun x=>forceLs l fun ls=>k (x::ls))=_
   rw [forceL_eq];exact ih _
theorem forceVs_eq {α:Sort _} (l:List (Bool×List L)):∀ (k:List (Bool×List L)→α),forceVs l k=k l:=by
 induction l with
 | nil=>intro k;rfl
 | cons p l ih=>
   intro k
   obtain ⟨b,x⟩:=p
   cases b
   · show forceLs x (fun x=>forceVs l fun ls=>k ((false,x)::ls))=_
     rw [forceLs_eq];exact ih _
   · show forceLs x (fun x=>forceVs l fun ls=>k ((true,x)::ls))=_
     rw [forceLs_eq];exact ih _
theorem forceK_eq {α:Sort _} (l:List (Nat×Bool)):∀ (k:List (Nat×Bool)→α),forceK l k=k l:=by
 induction l with
 | nil=>intro k;rfl
 | cons p l ih=>
   intro k
   obtain ⟨j,b⟩:=p
   cases b
   · exact ih fun r=>k ((j,false)::r)
   · exact ih fun r=>k ((j,true)::r)
theorem forceA_eq {α:Sort _} (v:AV) (k:AV→α):forceA v k=k v:=by
 cases v
 · simp [forceA,forceL_eq]
 · simp [forceA,forceLs_eq]
 · simp [forceA,forceVs_eq]
theorem forceB_eq {α:Sort _} (b:Blk) (k:Blk→α):forceB b k=k b:=by cases b<;>simp [forceB,forceLs_eq]
theorem look_eq_beq {r:List (Nat×Blk)} {j i:Nat} {b:Blk}:look ((j,b)::r) i=if j=i then some b else look r i:=by
 simp only [look]
 split
 · rename_i h;rw [if_pos (by simpa using h)]
 · rename_i h;rw [if_neg (Nat.ne_of_beq_eq_false h)]
theorem setB_cons {α:Sort _} (j:Nat) (b:Blk) (r:List (Nat×Blk)) (i:Nat) (b':Blk) (k:List (Nat×Blk)→α):setB ((j,b)::r) i b' k=(match Nat.beq j i with
 | true=>k ((j,b')::r)
 | false=>setB r i b' fun r=>k ((j,b)::r)):=rfl
theorem setB_eq {α:Sort _}:∀ (l:List (Nat×Blk)) (i:Nat) (b':Blk) (k:List (Nat×Blk)→α) ,look l i≠none→∃ l',setB l i b' k=k l'∧look l'=upd (look l) i b'
 | [],i,b',k,h=>absurd rfl h
 | (j,b)::r,i,b',k,h=>by
   rw [setB_cons]
   split
   · rename_i he
     have he':j=i:=by simpa using he
     subst he'
     refine ⟨_,rfl,?_⟩
     funext x
     simp only [look_eq_beq,upd]
     by_cases hx:x=j
     · simp [hx]
     · simp [hx,Ne.symm hx]
   · rename_i he
     have he':=Nat.ne_of_beq_eq_false he
     rw [look_eq_beq,if_neg he'] at h
     obtain ⟨l',h1,h2⟩:=setB_eq r i b' (fun r=>k ((j,b)::r)) h
     refine ⟨_,h1,?_⟩
     funext x
     rw [look_eq_beq,h2]
     simp only [upd,look_eq_beq]
     by_cases hx:x=i
     · subst hx;simp [he']
     · simp [hx]
theorem look_cons (l:List (Nat×Blk)) (d:Nat) (b:Blk):look ((d,b)::l)=upd (look l) d b:=by
 funext x
 rw [look_eq_beq]
 unfold upd
 by_cases h:x=d
 · simp [h]
 · simp [h,Ne.symm h]
theorem purgeTK_eq {α:Sort _} (d:Nat) (l:List AV):∀ (k:List AV→α),purgeTK d l k=k (l.map (AV.purge d)):=by
 induction l with
 | nil=>intro k;rfl
 | cons x l ih=>
   intro k
   show forceA (x.purge d) (fun x=>purgeTK d l fun xs=>k (x::xs))=_
   rw [forceA_eq];exact ih _
theorem purgeHK_eq {α:Sort _} (d:Nat):∀ (l:List (Nat×Blk)) (k:List (Nat×Blk)→α),∃ l',purgeHK d l k=k l'∧∀ i,look l' i=if i=d then none else (look l i).map (Blk.purge d)
 | [],k=>⟨[],rfl,fun i=>by simp [look]⟩
 | (j,b)::r,k=>by
   have e:purgeHK d ((j,b)::r) k=(match Nat.beq j d with
    | true=>purgeHK d r k
    | false=>forceB (b.purge d) fun b=>purgeHK d r fun r=>k ((j,b)::r)):=rfl
   rw [e]
   split
   · rename_i hj
     have hj':j=d:=by simpa using hj
     subst hj'
     obtain ⟨l',h1,h2⟩:=purgeHK_eq j r k
     refine ⟨l',h1,fun i=> ?_⟩
     rw [h2,look_eq_beq]
     by_cases hi:i=j
     · simp [hi]
     · simp [hi,Ne.symm hi]
   · rename_i hj
     have hj':=Nat.ne_of_beq_eq_false hj
     rw [forceB_eq]
     obtain ⟨l',h1,h2⟩:=purgeHK_eq d r fun r=>k ((j,b.purge d)::r)
     refine ⟨_,h1,fun i=> ?_⟩
     rw [look_eq_beq,look_eq_beq,h2]
     by_cases hi:j=i
     · subst hi;simp [hj']
     · simp [hi]
def KnOK (kw:List (Nat×Bool)) (t:List AV):Prop:=∀ d b,kn kw d=some b→∀ p,getT t d= .one (.bool p)→p=b
theorem kn_cons {j d:Nat} {b:Bool} {r:List (Nat×Bool)}:kn ((j,b)::r) d=if j=d then some b else kn r d:=by
 simp only [kn]
 split
 · rename_i h;rw [if_pos (by simpa using h)]
 · rename_i h;rw [if_neg (Nat.ne_of_beq_eq_false h)]
theorem kn_del:∀ (kw:List (Nat×Bool)) (x d:Nat),kn (kdel kw x) d=if x=d then none else kn kw d
 | [],x,d=>by simp [kdel,kn]
 | (j,b)::r,x,d=>by
   simp only [kdel]
   split
   · rename_i h
     have h':j=x:=by simpa using h
     rw [kn_del r x d,kn_cons]
     by_cases hx:x=d
     · simp [hx]
     · simp [hx,h']
   · rename_i h
     have h':=Nat.ne_of_beq_eq_false h
     rw [kn_cons,kn_cons,kn_del r x d]
     by_cases hx:x=d
     · subst hx;simp [h']
     · simp [hx]
theorem KnOK.nil (t:List AV):KnOK [] t:=fun d b h=>by simp [kn] at h
theorem KnOK.cons {kw:List (Nat×Bool)} {t:List AV} (h:KnOK kw t) {d:Nat} {b:Bool} (hd:getT t d= .one (.bool b)):KnOK ((d,b)::kw) t:=by
 intro d' b' h1 p hp
 rw [kn_cons] at h1
 split at h1
 · rename_i e
   subst e
   obtain rfl:=Option.some.inj h1
   rw [hd] at hp
   simpa using hp.symm
 · exact h d' b' h1 p hp
theorem KnOK.put {kw:List (Nat×Bool)} {s:AS} (h:KnOK kw s.t) (dst:Option Nat) (v:AV):KnOK (kdelO kw dst) (s.put dst v).t:=by
 cases dst with
 | none=>exact h
 | some d=>
   intro d' b' h1 p hp
   simp only [kdelO,kn_del] at h1
   split at h1
   · cases h1
   · rename_i hne
     rw [getT_put s (some d) v d' (by simpa using hne)] at hp
     exact h d' b' h1 p hp
theorem knOp_ok {kw:List (Nat×Bool)} {t:List AV} (h:KnOK kw t) {x:Operand} {b:Bool} (hx:knOp kw x=some b):∀ p,ev t x= .one (.bool p)→p=b:=by
 cases x with
 | tmp n=>exact h n b hx
 | const v=>
   cases v<;>simp [knOp] at hx
   subst hx
   intro p hp
   simpa [ev,ofV,ofLeaf] using hp.symm
 | _=>simp [knOp] at hx
theorem KnOK.both {kw:List (Nat×Bool)} {s:AS} (h:KnOK kw s.t) {d:Nat} {v:AV} {b:Bool} (hv:∀ p,v= .one (.bool p)→p=b):KnOK ((d,b)::kdel kw d) (s.put (some d) v).t:=by
 intro d' b' h1 p hp
 rw [kn_cons] at h1
 split at h1
 · rename_i e
   subst e
   obtain rfl:=Option.some.inj h1
   simp only [AS.put,getT_set] at hp
   split at hp
   · exact hv p hp
   · rename_i hlt
     have:∀ (t:List AV) (n:Nat),t.length≤n→getT t n= .one .junk:=by
      intro t
      induction t with
      | nil=>intro n _;rfl
      | cons x t ih=>intro n hn;cases n with
        | zero=>simp at hn
        | succ n=>exact ih n (by simpa using hn)
     rw [this _ _ (by simp at hlt;exact hlt)] at hp
     simp at hp
 · exact h.put (some d) v d' b' h1 p hp
section
variable {P : Program} {C : Table} {ops : List Oper}
theorem putK_eq {s:S} {dst:Option Nat} {v:AV} {k:S→Prop} (h:putK s dst v k):∃ s1,s1.abs=s.abs.put dst v∧k s1:=by
 cases dst with
 | none=>exact ⟨s,rfl,h⟩
 | some d=>
   simp only [putK,nxK_eq,forceA_eq,setK_eq] at h
   exact ⟨_,rfl,h⟩
theorem withC_eq {c:Cond} {q:Prop} (h:withC c q):c.holds∧q:=by
 cases c with
 | t=>exact ⟨trivial,h⟩
 | p x i=>obtain ⟨⟨h1⟩,h2⟩:=h;exact ⟨h1,h2⟩
theorem kmove_ok {kw:List (Nat×Bool)} {o:Op} {s:AS} {dst:Option Nat} {v:AV} (h:KnOK kw s.t)
 (hv:∀ x,(o= .move x∨o= .assign x)→v=ev s.t x)
 (hp:∀ c x y,o= .pick c x y→∃ b,ev s.t c= .one (.bool b)∧v=if b then ev s.t x else ev s.t y):KnOK (kmove kw o dst) (s.put dst v).t:=by
 cases dst with
 | none=>exact h
 | some d=>
   have hdel:KnOK (kdel kw d) (s.put (some d) v).t:=h.put (some d) v
   have key:∀ q:Option Bool,(∀ b,q=some b→∀ p,v= .one (.bool p)→p=b) →
    KnOK (match q with | some true=>(d,true)::kdel kw d | some false=>(d,false)::kdel kw d | none=>kdel kw d) (s.put (some d) v).t:=by
    intro q hq
    match q,hq with
    | none,_=>exact hdel
    | some true,hq=>exact h.both (hq true rfl)
    | some false,hq=>exact h.both (hq false rfl)
   unfold kmove
   dsimp only
   apply key
   intro b hb p hpv
   cases o with
   | move x=>rw [hv x (.inl rfl)] at hpv;exact knOp_ok h hb p hpv
   | assign x=>rw [hv x (.inr rfl)] at hpv;exact knOp_ok h hb p hpv
   | pick c x y=>
     obtain ⟨b',hc,hvv⟩:=hp c x y rfl
     cases c with
     | tmp c=>
       dsimp only at hb
       split at hb
       · rename_i hk
         obtain rfl:=h c true hk b' hc
         rw [hvv] at hpv
         exact knOp_ok h hb p (by simpa using hpv)
       · rename_i hk
         obtain rfl:=h c false hk b' hc
         rw [hvv] at hpv
         exact knOp_ok h hb p (by simpa using hpv)
       · cases hb
     | _=>simp at hb
   | _=>simp at hb
theorem kmove_other {kw:List (Nat×Bool)} {o:Op} {s:AS} {dst:Option Nat} {v:AV} (h:KnOK kw s.t) (h1:∀ x,o≠ .move x) (h2:∀ x,o≠ .assign x) (h3:∀ c x y,o≠ .pick c x y) :
 KnOK (kmove kw o dst) (s.put dst v).t:=
 kmove_ok h (fun x hx=>by rcases hx with hx | hx;exact absurd hx (h1 x);exact absurd hx (h2 x)) (fun c x y e=>absurd e (h3 c x y))
theorem forceAs_eq {α:Sort _}:∀ (l:List AV) (k:List AV→α),forceAs l k=k l
 | [],_=>rfl
 | v::l,k=>by
   show forceA v (fun v=>forceAs l fun r=>k (v::r))=_
   rw [forceA_eq,forceAs_eq l]
theorem srcK_rel {x:Src} {h:List (Nat×Blk)} {k:Cond→(Nat→List PL)→Prop} (hk:srcK x h k):∃ c g,srcR (look h) x c g∧k c g:=by
 cases x with
 | here g=>exact ⟨.t,g,⟨rfl,rfl⟩,hk⟩
 | mem j f=>
   simp only [srcK] at hk
   split at hk
   · rename_i b hb
     split at hk
     · rename_i c g hg;exact ⟨c,g,⟨b,hb,hg⟩,hk⟩
     · cases hk
   · cases hk
 | cell j o f=>
   simp only [srcK] at hk
   split at hk
   · rename_i b hb
     split at hk
     · rename_i c g hg;exact ⟨c,g,⟨b,hb,hg⟩,hk⟩
     · cases hk
   · cases hk
theorem appName_eq {nm d:Nat} {l:List (Nat×Blk)} {k:Nat→Prop} (h:appName nm d l k):∃ i,nm≤i∧k i:=by
 unfold appName at h
 rw [withName_eq] at h
 split at h
 · exact ⟨_,nameOf_le _ _,h⟩
 · rw [withName_eq] at h;exact ⟨_,nameOf_le _ _,h⟩
theorem opK_eq {kw:List (Nat×Bool)} {o:Oper} {s:S} {k:FP→S→Prop} (hw:wantA ops o s.t=some true) (hk:KnOK kw s.t) (hni:∀ c f args,req P o.op s.t=some (c,.call f args)→C.fn f args (blks (look s.h) (dnames (look s.h) args))=none→C.mkr f args (blks (look s.h) (dnames (look s.h) args))=none→∀ K,¬ C.inl f C.tp args s.h K)
 (hna:∀ c b e z m x,req P o.op s.t=some (c,.app b e z m x)→C.app= .no) (h:opK P C kw o s k) :
 ∃ fp s1,Step P C ops o fp s.abs s1.abs∧KnOK (kmove kw o.op o.dst) s1.t∧k fp s1:=by
 unfold opK at h
 split at h
 · rename_i c r hr
   obtain ⟨hc,h⟩:=withC_eq h
   have mk:∀ {fp:FP} {dv:AV} {hwr:Option (Nat×Blk)},YieldsR C o.dst fp s.abs dv hwr r→Yields P C ops o fp s.abs dv hwr:=fun hy=>by
    unfold Yields
    rw [show wantA ops o s.abs.t=some true from hw]
    exact ⟨c,r,hr,hc,hy⟩
   have hmv:∀ x,(o.op= .move x∨o.op= .assign x)→r= .val (ev s.t x):=fun x hx=>by
    rcases hx with hx | hx<;>rw [hx] at hr<;>simp [req] at hr<;>exact hr.2.symm
   have hpk:∀ c x y,o.op= .pick c x y→∃ b,ev s.t c= .one (.bool b)∧r= .pick b (ev s.t x) (ev s.t y):=fun c x y hx=>by
    rw [hx] at hr
    simp only [req] at hr
    split at hr
    · rename_i b hb
      simp only [Option.some.injEq,Prod.mk.injEq] at hr
      exact ⟨b,hb,hr.2.symm⟩
    · cases hr
   cases r with
   | val v=>
     obtain ⟨s1,e,h⟩:=putK_eq h
     refine ⟨_,s1,⟨v,none,mk ⟨rfl,rfl,rfl⟩,by rw [eff_none];exact e⟩,?_,h⟩
     rw [show s1.t=(s.abs.put o.dst v).t by rw [← e];rfl]
     exact kmove_ok hk (fun x hx=>by have:=hmv x hx;simp at this;exact this) (fun c x y e=>by obtain ⟨b,_,hb⟩:=hpk c x y e;simp at hb)
   | rd i f=>
     simp only [doK] at h
     split at h
     · rename_i b hb
       split at h
       · rename_i c' v hv
         obtain ⟨hc',h⟩:=withC_eq h
         obtain ⟨s1,e,h⟩:=putK_eq h
         refine ⟨_,s1,⟨v,none,mk ⟨rfl,rfl,b,c',hb,hv,hc'⟩,by rw [eff_none];exact e⟩,?_,h⟩
         rw [show s1.t=(s.abs.put o.dst v).t by rw [← e];rfl]
         exact kmove_ok hk (fun x hx=>by have:=hmv x hx;simp at this) (fun c x y e=>by obtain ⟨b,_,hb⟩:=hpk c x y e;simp at hb)
       · cases h
     · cases h
   | wr i f=>
     simp only [doK] at h
     split at h
     · cases h
     · rename_i hdst
       split at h
       · rename_i b hb
         split at h
         · rename_i c' b' hb'
           obtain ⟨hc',h⟩:=withC_eq h
           rw [forceB_eq] at h
           obtain ⟨l',h1,h2⟩:=setB_eq s.h i b' (fun h=>k (true,[i]) ⟨s.t,h⟩) (by rw [hb];simp)
           rw [h1] at h
           refine ⟨_,⟨s.t,l'⟩,⟨.one .junk,some (i,b'),mk ⟨rfl,hdst,b,c',b',hb,hb',hc',rfl⟩,?_⟩,?_,h⟩
           · rw [hdst];simp only [S.abs,AS.eff,AS.put,h2]
           · rw [hdst];exact hk
         · cases h
       · cases h
   | new b nv=>
     simp only [doK] at h
     split at h
     · rename_i d hdst
       obtain ⟨i,hle,h⟩:=appName_eq h
       split at h
       · rename_i hd0
         split at h
         · rename_i hlt
           rw [forceB_eq,forceL_eq,setK_eq] at h
           refine ⟨_,⟨s.t.set d (.one (nv.at i)),(i,b)::s.h⟩,⟨.one (nv.at i),some (i,b),mk ⟨d,i,hle,hdst,rfl,hd0,by simpa [S.abs] using hlt,rfl,rfl⟩,?_⟩,?_,h⟩
           · rw [hdst];simp only [S.abs,AS.eff,AS.put,look_cons]
           · have e:s.t.set d (.one (nv.at i))=(s.abs.put o.dst (.one (nv.at i))).t:=by rw [hdst];rfl
             rw [e]
             exact kmove_ok hk (fun x hx=>by have:=hmv x hx;simp at this) (fun c x y e=>by obtain ⟨b,_,hb⟩:=hpk c x y e;simp at hb)
         · cases h
       · cases h
     · cases h
   | call f args=>
     simp only [doK] at h
     split at h
     · rename_i c' v hv
       obtain ⟨hc',h⟩:=withC_eq h
       rw [forceNs_eq] at h
       obtain ⟨s1,e,h⟩:=putK_eq h
       refine ⟨_,s1,⟨v,none,mk (.inl ⟨rfl,rfl,c',hv,hc'⟩),by rw [eff_none];exact e⟩,?_,h⟩
       rw [show s1.t=(s.abs.put o.dst v).t by rw [← e];rfl]
       exact kmove_ok hk (fun x hx=>by have:=hmv x hx;simp at this) (fun c x y e=>by obtain ⟨b,_,hb⟩:=hpk c x y e;simp at hb)
     · rename_i hv
       split at h
       · rename_i c' b nv hm
         obtain ⟨hc',h⟩:=withC_eq h
         split at h
         · rename_i d hdst
           rw [withName_eq] at h
           split at h
           · rename_i hd0
             split at h
             · rename_i hlt
               rw [forceNs_eq,forceB_eq,forceL_eq,setK_eq] at h
               refine ⟨_,⟨s.t.set d (.one (nv.at (nameOf C.nm d))),(nameOf C.nm d,b)::s.h⟩,⟨.one (nv.at (nameOf C.nm d)),some (nameOf C.nm d,b),mk (.inr ⟨d,c',b,nv,hdst,rfl,hm,hc',hd0,by simpa [S.abs] using hlt,rfl,rfl⟩),?_⟩,?_,h⟩
               · rw [hdst];simp only [S.abs,AS.eff,AS.put,look_cons]
               · have e:s.t.set d (.one (nv.at (nameOf C.nm d)))=(s.abs.put o.dst (.one (nv.at (nameOf C.nm d)))).t:=by rw [hdst];rfl
                 rw [e]
                 exact kmove_ok hk (fun x hx=>by have:=hmv x hx;simp at this) (fun c x y e=>by obtain ⟨b,_,hb⟩:=hpk c x y e;simp at hb)
             · cases h
           · cases h
         · cases h
       · rename_i hm
         split at h
         · rw [forceAs_eq] at h;exact absurd h (hni c f args hr hv hm _)
         · cases h
   | glob T g off=>
     simp only [doK] at h
     split at h
     · rename_i v hv
       obtain ⟨s1,e,h⟩:=putK_eq h
       refine ⟨_,s1,⟨v,none,mk ⟨rfl,rfl,hv⟩,by rw [eff_none];exact e⟩,?_,h⟩
       rw [show s1.t=(s.abs.put o.dst v).t by rw [← e];rfl]
       exact kmove_ok hk (fun x hx=>by have:=hmv x hx;simp at this) (fun c x y e=>by obtain ⟨b,_,hb⟩:=hpk c x y e;simp at hb)
     · cases h
   | look T ok g b key=>
     simp only [doK] at h
     split at h
     · rename_i c' v hv
       obtain ⟨hc',h⟩:=withC_eq h
       obtain ⟨s1,e,h⟩:=putK_eq h
       refine ⟨_,s1,⟨v,none,mk ⟨rfl,rfl,c',hv,hc'⟩,by rw [eff_none];exact e⟩,?_,h⟩
       rw [show s1.t=(s.abs.put o.dst v).t by rw [← e];rfl]
       exact kmove_ok hk (fun x hx=>by have:=hmv x hx;simp at this) (fun c x y e=>by obtain ⟨b,_,hb⟩:=hpk c x y e;simp at hb)
     · cases h
   | app base e z m x=>
     simp only [doK,hna c base e z m x hr] at h
     split at h
     · cases h
     · split at h
       · cases h
       · rename_i d hdst
         obtain ⟨c',g,hsr,h⟩:=srcK_rel h
         obtain ⟨hc',h⟩:=withC_eq h
         obtain ⟨hgl,⟨h1⟩,⟨h2⟩⟩:=withC_eq h
         by_cases hm0:m=0
         · have h:=h1 (by rw [hm0];rfl)
           obtain ⟨s1,e1,h⟩:=putK_eq h
           refine ⟨_,s1,⟨_,none,mk ⟨rfl,d,c',g,hdst,hsr,hc',hgl,.inl ⟨hm0,rfl,rfl,rfl⟩⟩,by rw [eff_none,hdst];exact e1⟩,?_,h⟩
           rw [show s1.t=(s.abs.put (some d) (.one (.raw (.slice none 0 0)))).t by rw [← e1];rfl,← hdst]
           exact kmove_ok hk (fun x hx=>by have:=hmv x hx;simp at this) (fun c x y e=>by obtain ⟨b,_,hb⟩:=hpk c x y e;simp at hb)
         · have h:=h2 (by cases hx:Nat.beq m 0 with | true=>exact absurd (by simpa using hx) hm0 | false=>rfl)
           obtain ⟨i,hi,h⟩:=appName_eq h
           split at h
           · cases h
           · rename_i hd0
             split at h
             · rename_i hlt
               rw [setK_eq] at h
               refine ⟨_,⟨s.t.set d (.one (.rsl i m)),(i,.row e z m g)::s.h⟩,⟨.one (.rsl i m),some (i,.row e z m g),mk ⟨rfl,d,c',g,hdst,hsr,hc',hgl,.inr ⟨hm0,i,hi,rfl,hd0,by simpa [S.abs] using hlt,rfl,rfl⟩⟩,?_⟩,?_,h⟩
               · rw [hdst];simp only [S.abs,AS.eff,AS.put,look_cons]
               · have e:s.t.set d (.one (.rsl i m))=(s.abs.put o.dst (.one (.rsl i m))).t:=by rw [hdst];rfl
                 rw [e]
                 exact kmove_ok hk (fun x hx=>by have:=hmv x hx;simp at this) (fun c x y e=>by obtain ⟨b,_,hb⟩:=hpk c x y e;simp at hb)
             · cases h
   | pick b x y=>
     have fin:∀ (s1:S) (v:AV),v=(if b then x else y)→s1.abs=s.abs.put o.dst v→KnOK (kmove kw o.op o.dst) s1.t:=by
      intro s1 v hv e
      rw [show s1.t=(s.abs.put o.dst v).t by rw [← e];rfl]
      exact kmove_ok hk (fun x' hx=>by have:=hmv x' hx;simp at this)
       (fun c x' y' e=>by obtain ⟨b',h1,hb⟩:=hpk c x' y' e;simp at hb;obtain ⟨rfl,rfl,rfl⟩:=hb;exact ⟨b,h1,hv⟩)
     have step:∀ (s1:S) (v:AV),v=(if b then x else y)→s1.abs=s.abs.put o.dst v→Step P C ops o (false,[]) s.abs s1.abs:=fun s1 v hv e=>
      ⟨v,none,mk ⟨rfl,rfl,hv⟩,by rw [eff_none];exact e⟩
     have known:∀ q,(pickOf o.op).bind (kn kw)=some q→b=q:=by
      intro q hq
      cases ho:o.op with
      | pick c x' y'=>
        rw [ho] at hq
        cases c with
        | tmp c=>
          obtain ⟨b',h1,hb⟩:=hpk _ _ _ ho
          simp at hb
          obtain ⟨rfl,-,-⟩:=hb
          exact hk c q (by simpa [pickOf] using hq) b h1
        | _=>simp [pickOf] at hq
      | _=>rw [ho] at hq;simp [pickOf] at hq
     simp only [doK] at h
     split at h
     · rename_i hq
       have hb:=known true hq
       obtain ⟨s1,e,h⟩:=putK_eq h
       exact ⟨_,s1,step s1 x (by simp [hb]) e,fin s1 x (by simp [hb]) e,h⟩
     · rename_i hq
       have hb:=known false hq
       obtain ⟨s1,e,h⟩:=putK_eq h
       exact ⟨_,s1,step s1 y (by simp [hb]) e,fin s1 y (by simp [hb]) e,h⟩
     · obtain ⟨⟨h1⟩,⟨h2⟩⟩:=h
       cases hb:b with
       | true=>
         obtain ⟨s1,e,h⟩:=putK_eq (h1 hb)
         exact ⟨_,s1,step s1 x (by simp [hb]) e,fin s1 x (by simp [hb]) e,h⟩
       | false=>
         obtain ⟨s1,e,h⟩:=putK_eq (h2 hb)
         exact ⟨_,s1,step s1 y (by simp [hb]) e,fin s1 y (by simp [hb]) e,h⟩
 · cases h
theorem skipK_eq {kw:List (Nat×Bool)} {o:Oper} {s:S} {k:FP→S→Prop} (hw:wantA ops o s.t=some false) (hk:KnOK kw s.t) (h:skipK o s k) :
 ∃ fp s1,Step P C ops o fp s.abs s1.abs∧KnOK (kdelO kw o.dst) s1.t∧k fp s1:=by
 obtain ⟨s1,e,h⟩:=putK_eq h
 refine ⟨_,s1,⟨noV,none,?_,by rw [eff_none];exact e⟩,?_,h⟩
 · unfold Yields
   rw [show wantA ops o s.abs.t=some false from hw]
   exact ⟨rfl,rfl,rfl⟩
 · rw [show s1.t=(s.abs.put o.dst noV).t by rw [← e];rfl]
   exact KnOK.put (s:=s.abs) hk _ _
theorem runOps_cons (all:List Oper) (o:Oper) (r:List Oper) (kw:List (Nat×Bool)) (s:S) (k:List FP→S→Prop):runOps P C all (o::r) kw s k=(match o.guard with
 | none=>opK P C kw o s fun fp s=>forceK (kmove kw o.op o.dst) fun kw=>runOps P C all r kw s fun fps=>k (fp::fps)
 | some (j,want)=>match guardTmp all j with
   | none=>Stuck "guard"
   | some d=>match getT s.t d with
     | .one (.bool b)=>match kn kw d with
       | some true=>match want with
         | true=>opK P C kw o s fun fp s=>forceK (kmove kw o.op o.dst) fun kw=>runOps P C all r kw s fun fps=>k (fp::fps)
         | false=>skipK o s fun fp s=>forceK (kdelO kw o.dst) fun kw=>runOps P C all r kw s fun fps=>k (fp::fps)
       | some false=>match want with
         | false=>opK P C kw o s fun fp s=>forceK (kmove kw o.op o.dst) fun kw=>runOps P C all r kw s fun fps=>k (fp::fps)
         | true=>skipK o s fun fp s=>forceK (kdelO kw o.dst) fun kw=>runOps P C all r kw s fun fps=>k (fp::fps)
       | none=>match want with
         | true=>Both
           (Given (b=true) (opK P C ((d,true)::kw) o s fun fp s=>forceK (kmove ((d,true)::kw) o.op o.dst) fun kw=>runOps P C all r kw s fun fps=>k (fp::fps)))
           (Given (b=false) (skipK o s fun fp s=>forceK (kdelO ((d,false)::kw) o.dst) fun kw=>runOps P C all r kw s fun fps=>k (fp::fps)))
         | false=>Both
           (Given (b=true) (skipK o s fun fp s=>forceK (kdelO ((d,true)::kw) o.dst) fun kw=>runOps P C all r kw s fun fps=>k (fp::fps)))
           (Given (b=false) (opK P C ((d,false)::kw) o s fun fp s=>forceK (kmove ((d,false)::kw) o.op o.dst) fun kw=>runOps P C all r kw s fun fps=>k (fp::fps)))
     | .one (.raw v)=>match isBoolV v with
       | false=>skipK o s fun fp s=>forceK (kdelO kw o.dst) fun kw=>runOps P C all r kw s fun fps=>k (fp::fps)
       | true=>Stuck "guard"
     | _=>Stuck "guard"):=rfl
theorem runOps_split {o:Oper} {r:List Oper} {kw:List (Nat×Bool)} {s:S} {k:List FP→S→Prop} (hk:KnOK kw s.t) (h:runOps P C ops (o::r) kw s k) :
 ∃ kw',KnOK kw' s.t∧((wantA ops o s.t=some true∧opK P C kw' o s (fun fp s=>runOps P C ops r (kmove kw' o.op o.dst) s fun fps=>k (fp::fps))) ∨
   (wantA ops o s.t=some false∧skipK o s (fun fp s=>runOps P C ops r (kdelO kw' o.dst) s fun fps=>k (fp::fps)))):=by
 have yes:∀ {kw':List (Nat×Bool)},KnOK kw' s.t→wantA ops o s.t=some true→opK P C kw' o s (fun fp s=>runOps P C ops r (kmove kw' o.op o.dst) s fun fps=>k (fp::fps)) →
  ∃ kw',KnOK kw' s.t∧((wantA ops o s.t=some true∧opK P C kw' o s (fun fp s=>runOps P C ops r (kmove kw' o.op o.dst) s fun fps=>k (fp::fps))) ∨
  (wantA ops o s.t=some false∧skipK o s (fun fp s=>runOps P C ops r (kdelO kw' o.dst) s fun fps=>k (fp::fps)))):=fun {kw'} hk' hw h=>⟨kw',hk',.inl ⟨hw,h⟩⟩
 have no:∀ {kw':List (Nat×Bool)},KnOK kw' s.t→wantA ops o s.t=some false→skipK o s (fun fp s=>runOps P C ops r (kdelO kw' o.dst) s fun fps=>k (fp::fps)) →
  ∃ kw',KnOK kw' s.t∧((wantA ops o s.t=some true∧opK P C kw' o s (fun fp s=>runOps P C ops r (kmove kw' o.op o.dst) s fun fps=>k (fp::fps))) ∨
  (wantA ops o s.t=some false∧skipK o s (fun fp s=>runOps P C ops r (kdelO kw' o.dst) s fun fps=>k (fp::fps)))):=fun {kw'} hk' hw h=>⟨kw',hk',.inr ⟨hw,h⟩⟩
 rw [runOps_cons] at h
 simp only [forceK_eq] at h
 cases hg:o.guard with
 | none=>
   rw [hg] at h
   exact yes hk (by simp [wantA,hg]) h
 | some g=>
   obtain ⟨j,want⟩:=g
   rw [hg] at h
   dsimp only at h
   cases hgt:guardTmp ops j with
   | none=>rw [hgt] at h;cases h
   | some d=>
     rw [hgt] at h
     dsimp only at h
     split at h
     · rename_i b hb
       have hwant:wantA ops o s.t=some (b==want):=by simp [wantA,hg,hgt,hb]
       split at h
       · rename_i hkn
         obtain rfl:=hk d true hkn b hb
         cases want
         · exact no hk hwant h
         · exact yes hk hwant h
       · rename_i hkn
         obtain rfl:=hk d false hkn b hb
         cases want
         · exact yes hk hwant h
         · exact no hk hwant h
       · cases want
         · obtain ⟨⟨h1⟩,⟨h2⟩⟩:=h
           cases b
           · exact yes (hk.cons hb) hwant (h2 rfl)
           · exact no (hk.cons hb) hwant (h1 rfl)
         · obtain ⟨⟨h1⟩,⟨h2⟩⟩:=h
           cases b
           · exact no (hk.cons hb) hwant (h2 rfl)
           · exact yes (hk.cons hb) hwant (h1 rfl)
     · rename_i v hv
       split at h
       · rename_i hnb
         exact no hk (by simp [wantA,hg,hgt,hv,hnb]) h
       · cases h
     · cases h
theorem runOps_eq (hno:∀ f tp args h K,¬ C.inl f tp args h K) (hna:C.app= .no):∀ (r:List Oper) (kw:List (Nat×Bool)) (s:S) (k:List FP→S→Prop),KnOK kw s.t→runOps P C ops r kw s k →
 ∃ fps s',LexRun P C ops r fps s.abs s'.abs∧fps.length=r.length∧k fps s'
 | [],kw,s,k,_,h=>⟨[],s,rfl,rfl,h⟩
 | o::r,kw,s,k,hk,h=>by
   have tail:∀ {kw':List (Nat×Bool)} {fp:FP} {s1:S},Step P C ops o fp s.abs s1.abs→KnOK kw' s1.t→runOps P C ops r kw' s1 (fun fps=>k (fp::fps)) →
    ∃ fps s',LexRun P C ops (o::r) fps s.abs s'.abs∧fps.length=(o::r).length∧k fps s':=fun {kw' fp s1} hst hk' h=>by
    obtain ⟨fps,s',h1,h2,h3⟩:=runOps_eq hno hna r kw' s1 _ hk' h
    exact ⟨fp::fps,s',⟨s1.abs,hst,h1⟩,by simp [h2],h3⟩
   obtain ⟨kw',hk',⟨hw,h⟩ | ⟨hw,h⟩⟩:=runOps_split hk h
   · obtain ⟨fp,s1,h1,h2,h3⟩:=opK_eq hw hk' (fun _ f args _ _ _ K=>hno f _ args _ K) (fun _ _ _ _ _ _ _=>hna) h
     exact tail h1 h2 h3
   · obtain ⟨fp,s1,h1,h2,h3⟩:=skipK_eq hw hk' h
     exact tail h1 h2 h3
end
end Go.Ep
