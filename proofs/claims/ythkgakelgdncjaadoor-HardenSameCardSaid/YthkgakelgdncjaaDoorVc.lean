/- HardenSame: what a helper's call does to the document's world: one contract. Conditions: as typed. -/
import Derived.Test.YthkgakelgdncjaaDoorVb
namespace Go.Proofs.YthkgakelgdncjaaDoor
open Go.Ep Go.RowKit
set_option linter.unusedVariables false
set_option linter.unusedSimpArgs false
abbrev InlG:=FuncId→Nat→List AV→List (Nat×Blk)→(AV→List (Nat×Blk)→Prop)→Prop
noncomputable def inlV (P:Program) (C:Table) (W:InlG→InlG) (fs:List (Nat×Func)) (n:Nat):InlG:=
 Nat.rec (motive:=fun _=>InlG) (W fun _ _ _ _ _=>Stuck "deep")
  (fun _ ih=>W fun f tp args h K=>match findF fs f with
    | some fn=>FI P (withInl C ih) fn tp args h K
    | none=>Stuck "call") n
theorem inlV_sound {P:Program} {G:World→Prop} {C:Table} (hC:CSound P G C) (hm:P.follows .mixedOrders=true) {W:InlG→InlG} (hW:∀ b,InlOK P G b→InlOK P G (W b)) {fs:List (Nat×Func)} (hfs:FsOK P fs):∀ n,InlOK P G (inlV P C W fs n)
 | 0=>hW _ fun _ _ _ _ _ h=>by cases (h:Stuck "deep")
 | n + 1=>hW _ fun f tp args h K hF hlt hn=>by
   have hF:(match (generalizing:=false) findF fs f with
    | some fn=>FI P (withInl C (inlV P C W fs n)) fn tp args h K
    | none=>Stuck "call"):=hF
   split at hF
   · rename_i fn hfn
     obtain ⟨h1,h2,h3⟩:=hfs f fn hfn
     exact ⟨⟨fn,h1,h2,h3⟩,fun b w0 ρ us w hG hb hargs H=>FI_sound (C:=withInl C (inlV P C W fs n)) (hC.inl' (inlV_sound hC hm hW hfs n) C.app C.nm C.tp C.im C.mks) hm h1 hF hlt hn b w0 ρ us w hG hb hargs H⟩
   · cases hF
def baseV (i:BitVec 64):BitVec 64:=1048576#64 + i*65536#64
noncomputable abbrev C_at:Table:=⟨(tabM noData [(56,sp_base)] []).fn,noData.glob,noData.look,fun _ _ _ _ _=>Stuck "call",.sym,0,0,[],fun _ _ _=>none,[]⟩
theorem C_at_ok:CSound Tryd.prog anyWorld C_at:=(CSound.startM (CSound.start.cons e_base)).inl' (InlOK.none _ _) .sym 0 0 [] []
def mAt (nm:Nat) (i p:BitVec 64):BitVec 64:=baseV i + p*(match nm with
 | 1=>16#64
 | _=>if i=0#64 then 16#64 else 8#64)
def sp_mat (nm:Nat):SpW:=fun args ch=>match nm with
 | 1=>(match args,ch with
   | [.one (.ptr 0 0),.one (.b64 true i),.one (.b64 true p)],[(0,.ro 114 [.rsl 1 1,.rsl 2 1,.ptr 3 0]),(1,.ro 64 [.seg 4 1 fm]),(2,.ro 115 [.rsl 4 2]),(3,.ro 109 [.rsl 5 cm]),(4,.ro 9 [.seg 1 2 f0]),(5,.ro 76 [.seg 3 cm2 fr])]=>some (.p (i=0#64∧fm=mapF1),.one (.b64 false (mAt 1 i p)),[])
   | _,_=>none)
 | 2=>(match args,ch with
   | [.one (.ptr 0 0),.one (.b64 true i),.one (.b64 true p)],[(0,.ro 114 [.rsl 1 2,.rsl 2 2,.ptr 3 0]),(1,.ro 64 [.seg 4 2 fm]),(2,.ro 115 [.rsl 4 2,.rsl 5 3]),(3,.ro 109 [.rsl 6 cm]),(4,.ro 9 [.seg 1 2 f0]),(5,.ro 9 [.seg 1 3 f1]),(6,.ro 76 [.seg 3 cm2 fr])]=>some (.p ((i=0#64∨i=1#64)∧fm=mF2),.one (.b64 false (mAt 2 i p)),[])
   | _,_=>none)
 | _=>none
set_option maxRecDepth 100000 in
theorem w_mat (nm:Nat):EntryW Tryd.prog anyWorld 61 (sp_mat nm):=by
 refine .of_FI C_at_ok (by kernel_rfl) Tryd.func61 (by kernel_rfl) (by kernel_rfl) (fun args ch c v ups h hc=> ?_)
 unfold sp_mat at h
 split at h
 rotate_right 1
 · cases h
 all_goals (split at h)
 all_goals first
  | cases h;done
  | skip
 all_goals
  cases h
  obtain ⟨hi,rfl⟩:=hc
  first
   | subst hi
   | rcases hi with rfl | rfl
  all_goals
   repeat' (first
    | (with_reducible apply Given.mk;intro h;(try exact absurd h (by decide)))
    | ((conv=>whnf);with_reducible apply Both.mk))
  all_goals first
   | ((with_reducible apply Ob.mk);decide)
   | ((with_reducible apply Ob.mk);kernel_rfl)
   | ((conv=>whnf);exact ⟨rfl,fun i d h=>h⟩)
theorem e_mat (nm:Nat):EntryM Tryd.prog anyWorld 61 (spD (sp_mat nm)):= .of_D (w_mat nm)
noncomputable abbrev FSw:List (Nat×Func):=[(59,Tryd.f59),(104,Tryd.f104),(35,Tryd.f35),(105,Tryd.f105)]
theorem fs_w:FsOK Tryd.prog FSw:=(FsOK.cons Tryd.func59 (by kernel_rfl) (by kernel_rfl) (FsOK.cons Tryd.func104 (by kernel_rfl) (by kernel_rfl) (FsOK.cons Tryd.func35 (by kernel_rfl) (by kernel_rfl) (FsOK.cons Tryd.func105 (by kernel_rfl) (by kernel_rfl) FsOK.nil))))
noncomputable abbrev C_wb (nm:Nat):Table:=⟨(tabM noData [(93,sp_firewallref09_Args)] [(61,spD (sp_mat nm)),(102,spD sp_text)]).fn,noData.glob,noData.look,wInl [(60,sp_put)] (fun _ _ _ _ _=>Stuck "call"),.sym,0,0,[60],fun _ _ _=>none,[]⟩
theorem C_wb_ok (nm:Nat):CSound Tryd.prog anyWorld (C_wb nm):=(((CSound.startM (CSound.start.cons e_firewallref09_Args)).consM e_text).consM (e_mat nm)).inl' (wInl_sound (.cons e_put .nil) (InlOK.none _ _)) .sym 0 0 [60] []
noncomputable abbrev C_w (nm:Nat):Table:=⟨(C_wb nm).fn,(C_wb nm).glob,(C_wb nm).look,inlV Tryd.prog (C_wb nm) (wInl [(60,sp_put)]) FSw 4,.sym,0,0,[60],(C_wb nm).mkr,[]⟩
theorem C_w_ok (nm:Nat):CSound Tryd.prog anyWorld (C_w nm):=(C_wb_ok nm).inl' (inlV_sound (C_wb_ok nm) (by kernel_rfl) (fun _ hb=>wInl_sound (.cons e_put .nil) hb) fs_w 4) .sym 0 0 [60] []
theorem w_lo0 {a:BitVec 64} (h:a.ult 9437184#64=false) (g:(9437184#64 + 0#64).ule a=false):False:=by
 simp only [BitVec.ult,BitVec.ule,decide_eq_false_iff_not] at h g
 simp at h g;omega
theorem w_lo1 {a:BitVec 64} (h:a.ult 9437184#64=false) (n0:a≠9437184#64) (g:(9437184#64 + BitVec.ofNat 64 1).ule a=false):False:=by
 simp only [BitVec.ult,BitVec.ule,decide_eq_false_iff_not] at h g
 exact n0 (BitVec.eq_of_toNat_eq (by simp at h g ⊢;omega))
theorem w_lo2 {a:BitVec 64} (h:a.ult 9437184#64=false) (n0:a≠9437184#64) (n1:a≠9437185#64) (g:(9437184#64 + BitVec.ofNat 64 2).ule a=false):False:=by
 simp only [BitVec.ult,BitVec.ule,decide_eq_false_iff_not] at h g
 have h0:a.toNat≠9437184:=fun e=>n0 (BitVec.eq_of_toNat_eq (by simpa using e))
 have h1:a.toNat≠9437185:=fun e=>n1 (BitVec.eq_of_toNat_eq (by simpa using e))
 simp at h g;omega
def CallP (nm:Nat) (de:Bool) (c:WC) (s:WR) (id a0 a1 a2 a3 a4 v e:BitVec 64) (z:WR):Prop:=FI Tryd.prog (C_w nm) Tryd.f95 (wB nm de 0 c s).length [.one (.ptr 0 0),.one (.b64 true id),.agg [.b64 false a0,.b64 false a1,.b64 false a2,.b64 false a3,.b64 false a4]] (wB nm de 0 c s) (fun u g=>u= .tup [(false,[.b64 false v]),(false,[.b64 true e])]∧∀ jj bb,Ep.look (wB nm de 0 c s) jj=some bb→Ep.look g jj=lookU (wU nm de 0 c z) jj (some bb))
end Go.Proofs.YthkgakelgdncjaaDoor
