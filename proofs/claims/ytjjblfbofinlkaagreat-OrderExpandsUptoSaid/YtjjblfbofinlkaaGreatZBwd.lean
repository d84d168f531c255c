/- Texts for the claim, put together: the calculus of regions, its rules, and contracts of the functions that the law reaches. -/
import Derived.Test.YtjjblfbofinlkaaGreatZBwc
import Derived.Shelf.Strings.Builder1
set_option linter.all false
set_option maxRecDepth 10000
namespace Kb
open Go
namespace Zl
open Fx Sx Zc Zd Zo
def nmX (s:ByteArray):Ex:=.mk 1 0 ByteArray.empty s []
def numX (n:Int):Ex:=.mk 0 n ByteArray.empty ByteArray.empty []
def plX (a b:Ex):Ex:=.mk 6 0 ByteArray.empty ByteArray.empty [a,b]
def tA:ByteArray:=⟨#[97]⟩
def tB:ByteArray:=⟨#[98]⟩
def tC:ByteArray:=⟨#[99]⟩
def tD:ByteArray:=⟨#[100]⟩
def tF:ByteArray:=⟨#[102]⟩
def fP (l:List DFunc):Prop:=l.map fe=[⟨tF,[DParam.mk ⟨#[120]⟩ ByteArray.empty,DParam.mk ⟨#[121]⟩ ByteArray.empty],plX (nmX ⟨#[120]⟩) (numX 1)⟩]
def ce (c:DCell):ByteArray × ByteArray × Ex:=(c.Name,c.Unit,er c.Def)
def cP (b d:Ex) (l:List DCell):Prop:=l.map ce=[(tA,ByteArray.empty,plX (nmX tB) (nmX tC)),(tB,ByteArray.empty,b),(tC,ByteArray.empty,plX (nmX tB) (.mk 3 0 ByteArray.empty tF [nmX tD,nmX tB])),(tD,ByteArray.empty,d)]
abbrev CE:=ByteArray × ByteArray × Ex
def celE (c:CE):It:=(c.1,decide (rds c.2.1),decide (rt c.2.2))
def funE (f:FE):It:=(f.m,!(f.p.any parO),(decide (1≤(f.p.length:Int)) && decide ((f.p.length:Int)≤6)) && decide (rt f.b))
def formsE (a:List DTable) (F:List FE) (C:List CE):List It:=a.map tabI ++F.map funE ++C.map celE
theorem formsE_is (a:List DTable) (f:List DFunc) (c:List DCell):formsL a f c=formsE a (f.map fe) (c.map ce):=by
 unfold formsL formsE;rw [List.map_map,List.map_map];rfl
def itE (nm:ByteArray) (a:List DImport) (b:List DInput) (t:List DTable) (F:List FE) (C:List CE) (p:List DPort) (d:List DStore):US:=useL (useL ([],decide (fre nm)) (goodsL a b p d)) (formsE t F C)
def RtE (nm:ByteArray) (a:List DImport) (b:List DInput) (t:List DTable) (F:List FE) (C:List CE) (p:List DPort) (d:List DStore) (r:List DRecipe):Prop :=
 ((itE nm a b t F C p d).2=true∧((itE nm a b t F C p d).1.length:Int)+(r.length:Int)≤100)∧(reS r).2=true
instance (nm : ByteArray) (a : List DImport) (b : List DInput) (t : List DTable) (F : List FE) (C : List CE) (p : List DPort) (d : List DStore) (r : List DRecipe) : Decidable (RtE nm a b t F C p d r) := by unfold RtE; infer_instance
theorem RtE_iff (nm:ByteArray) (a:List DImport) (b:List DInput) (t:List DTable) (f:List DFunc) (c:List DCell) (p:List DPort) (d:List DStore) (r:List DRecipe):Rt nm a b t f c p d r↔RtE nm a b t (f.map fe) (c.map ce) p d r:=by
 unfold Rt RtE itS itE;rw [formsE_is]
noncomputable def okX (F:List FE) (C:List CE):Bool:=C.all fun c=>decide ((xpd F c.2.2).2=0)
noncomputable def exX (F:List FE) (C:List CE):List Ex:=C.map fun c=>(xpd F c.2.2).1
def ixE (C:List CE):List (ByteArray × Int):=ixR (C.map (·.1)) 0 []
noncomputable def grE (F:List FE) (C:List CE):List (List Int):=(exX F C).map (row (ixE C) C.length)
def sndE (nm:ByteArray) (a:List DImport) (b:List DInput) (t:List DTable) (F:List FE) (C:List CE) (p:List DPort) (d:List DStore) (r:List DRecipe):Prop:=(RtE nm a b t F C p d r∧Check F=0)∧okX F C=true
theorem snd_iff (nm:ByteArray) (a:List DImport) (b:List DInput) (t:List DTable) (f:List DFunc) (c:List DCell) (p:List DPort) (d:List DStore) (r:List DRecipe):snd nm a b t f c p d r↔sndE nm a b t (f.map fe) (c.map ce) p d r:=by
 unfold snd sndE;rw [RtE_iff]
 have:okE (f.map fe) c=okX (f.map fe) (c.map ce):=by
  unfold okE okX;rw [List.all_map];rfl
 rw [this]
theorem ixE_is (c:List DCell):Zo.ixS c=ixE (c.map ce):=by
 unfold Zo.ixS ixE;rw [List.map_map];rfl
theorem grf_is (F:List FE) (c:List DCell):grf F c=grE F (c.map ce):=by
 unfold grf grE exs exX;rw [ixE_is,List.length_map]
 congr 1
 rw [List.map_map];rfl
def F0:FE:=⟨tF,[DParam.mk ⟨#[120]⟩ ByteArray.empty,DParam.mk ⟨#[121]⟩ ByteArray.empty],plX (nmX ⟨#[120]⟩) (numX 1)⟩
def C0 (b d:Ex):List CE:=[(tA,ByteArray.empty,plX (nmX tB) (nmX tC)),(tB,ByteArray.empty,b),(tC,ByteArray.empty,plX (nmX tB) (.mk 3 0 ByteArray.empty tF [nmX tD,nmX tB])),(tD,ByteArray.empty,d)]
theorem chk_F0:Check [F0]=0:=by decide +kernel
def W0:WE:=growT [F0] (fun _=>default) F0.b
theorem bd_F0 {i:Nat} (hi:i < 1):bdF [F0] i=W0:=by
 obtain ⟨rk,h⟩:=bdF_spec chk_F0
 have:i=0:=by omega
 subst this;rw [h.eq 0 hi];exact growT_congr _ fun j hj=>absurd (show false=true from hj) Bool.false_ne_true
theorem grow_F0 {x:Ex} (hu:anyN (unk [F0]) x=false):growT [F0] (bdF [F0]) x=growT [F0] (fun _=>W0) x :=
 growT_congr _ fun j hj=>bd_F0 (callsIn_lt hu hj)
def xc (x:Ex):Ex × Int :=
 if ¬ rt x then (z0,2) else if anyN (unk [F0]) x=true then (z0,11) else if anyN (unev [F0]) x=true then (z0,1)
 else if (growT [F0] (fun _=>W0) x).full=true then (z0,6) else ((growT [F0] (fun _=>W0) x).x,0)
theorem xpd_F0 (x:Ex):xpd [F0] x=xc x:=by
 unfold xpd xc;by_cases h:¬ rt x
 ·rw [if_pos (.inl h),if_pos h]
 ·rw [if_neg (by rintro (k | k);exact h k;exact k chk_F0),if_neg h];by_cases hu:anyN (unk [F0]) x=true
  ·rw [if_pos hu,if_pos hu]
  ·rw [if_neg hu,if_neg hu,grow_F0 (by simpa using hu)]
def gC (C:List CE):List (List Int):=(C.map fun c=>(xc c.2.2).1).map (row (ixE C) C.length)
theorem gr_F0 (C:List CE):grE [F0] C=gC C:=by
 unfold grE gC exX
 congr 1
 exact List.map_congr_left fun c _=>by rw [xpd_F0]
theorem snd_F0 (nm:ByteArray) (C:List CE):sndE nm [] [] [] [F0] C [] [] []↔(RtE nm [] [] [] [F0] C [] [] []∧(C.all fun c=>decide ((xc c.2.2).2=0))=true):=by
 unfold sndE okX;simp only [xpd_F0];exact ⟨fun h=>⟨h.1.1,h.2⟩,fun h=>⟨⟨h.1,chk_F0⟩,h.2⟩⟩
def tM:ByteArray:=⟨#[109]⟩
theorem ex_snd {fl:List DFunc} {cl:List DCell} {b d:Ex} (hf:fP fl) (hc:cP b d cl) (h:RtE tM [] [] [] [F0] (C0 b d) [] [] []∧((C0 b d).all fun c=>decide ((xc c.2.2).2=0))=true):snd tM [] [] [] fl cl [] [] []:=by
 rw [snd_iff,show fl.map fe=[F0] from hf,show cl.map ce=C0 b d from hc,snd_F0];exact h
theorem ex_gr {fl:List DFunc} {cl:List DCell} {b d:Ex} (hf:fP fl) (hc:cP b d cl):grf (fl.map fe) cl=gC (C0 b d):=by
 rw [grf_is,show fl.map fe=[F0] from hf,show cl.map ce=C0 b d from hc,gr_F0]
theorem ex1:RtE tM [] [] [] [F0] (C0 (numX 2) (numX 1)) [] [] []∧((C0 (numX 2) (numX 1)).all fun c=>decide ((xc c.2.2).2=0))=true:=by decide +kernel
theorem ex2:RtE tM [] [] [] [F0] (C0 (numX 2) (nmX tA)) [] [] []∧((C0 (numX 2) (nmX tA)).all fun c=>decide ((xc c.2.2).2=0))=true:=by decide +kernel
theorem ex3:RtE tM [] [] [] [F0] (C0 (nmX tB) (nmX tA)) [] [] []∧((C0 (nmX tB) (nmX tA)).all fun c=>decide ((xc c.2.2).2=0))=true:=by decide +kernel
theorem gr1:gC (C0 (numX 2) (numX 1))=[[1,2],[],[1,3],[]]:=by decide +kernel
theorem gr2:gC (C0 (numX 2) (nmX tA))=[[1,2],[],[1,3],[0]]:=by decide +kernel
theorem gr3:gC (C0 (nmX tB) (nmX tA))=[[1,2],[1],[1,3],[0]]:=by decide +kernel
theorem or1:orun [[1,2],[],[1,3],[]]=[1,3,2,0]:=by decide +kernel
theorem or2:(orun [[1,2],[],[1,3],[0]]).length=1:=by decide +kernel
theorem cy1:cycle [[1,2],[],[1,3],[]]=[]:=by decide +kernel
theorem cy2:cycle [[1,2],[],[1,3],[0]]=[0,2,3]:=by decide +kernel
theorem cy3:cycle [[1,2],[1],[1,3],[0]]=[1]:=by decide +kernel
theorem mem_fP {fl:List DFunc} (h:fP fl) {x:DFunc} (hx:x ∈ fl):fe x=F0:=by
 have:fe x ∈ fl.map fe:=List.mem_map_of_mem hx
 rw [show fl.map fe=[F0] from h] at this;exact List.mem_singleton.1 this
theorem ex_sml {fl:List DFunc} {cl:List DCell} {b d:Ex} (hf:fP fl) (hc:cP b d cl) (hb:sm b) (hd:sm d):Sml tM [] [] [] fl cl [] [] [] where
 nm:=by decide
 imp _ h:=by cases h
 inp _ h:=by cases h
 tab _ h:=by cases h
 por _ h:=by cases h
 sto _ h:=by cases h
 rec_ _ h:=by cases h
 fun_ x hx:=by
  have e:=mem_fP hf hx;have e1:x.Name=F0.m:=congrArg FE.m e;have e2:x.Params.l=F0.p:=congrArg FE.p e;have e3:er x.Body=F0.b:=congrArg FE.b e;rw [e1,e2,e3];refine ⟨by decide,fun q hq=>?_,by unfold F0 plX nmX numX;simp only [sm,smL];decide⟩
  have:q=DParam.mk ⟨#[120]⟩ ByteArray.empty∨q=DParam.mk ⟨#[121]⟩ ByteArray.empty:=by simpa [F0] using hq
  rcases this with rfl | rfl <;> exact ⟨by decide,by decide⟩
 cel x hx:=by
  have hm:ce x ∈ C0 b d:=by
   have:ce x ∈ cl.map ce:=List.mem_map_of_mem hx
   rwa [show cl.map ce=C0 b d from hc] at this
  have f:∀ c ∈ C0 b d,tx c.1∧tx c.2.1∧sm c.2.2:=fun c hc=>by
   unfold C0 at hc;simp only [List.mem_cons,List.not_mem_nil,or_false] at hc;rcases hc with rfl | rfl | rfl | rfl
   ·exact ⟨by decide,by decide,by unfold plX nmX;simp only [sm,smL];decide⟩
   ·exact ⟨(by decide:tx tB),(by decide:tx ByteArray.empty),hb⟩
   ·exact ⟨by decide,by decide,by unfold plX nmX;simp only [sm,smL];decide⟩
   ·exact ⟨(by decide:tx tD),(by decide:tx ByteArray.empty),hd⟩
  exact f _ hm
theorem len_fP {fl:List DFunc} (h:fP fl):fl.length=1:=by
 have:=congrArg List.length (show fl.map fe=[F0] from h);simpa using this
theorem len_cP {cl:List DCell} {b d:Ex} (h:cP b d cl):cl.length=4:=by
 have:=congrArg List.length (show cl.map ce=C0 b d from h);simpa [C0] using this
theorem sm_num (n:Int):sm (numX n):=by unfold numX;simp only [sm,smL];decide
theorem sm_nmA:sm (nmX tA):=by unfold nmX;simp only [sm,smL];decide
theorem sm_nmB:sm (nmX tB):=by unfold nmX;simp only [sm,smL];decide
theorem er_num (n:Int):er (DExpr.mk 0 n ByteArray.empty ByteArray.empty ⟨[],{}⟩)=numX n:=er_mk _ _ _ _ _ _
theorem er_nm (s:ByteArray):er (DExpr.mk 1 0 ByteArray.empty s ⟨[],{}⟩)=nmX s:=er_mk _ _ _ _ _ _
theorem sml0:Sml ByteArray.empty [] [] [] [] [] [] [] []:=⟨by decide,(fun _ h=>by cases h),(fun _ h=>by cases h),(fun _ h=>by cases h),(fun _ h=>by cases h),(fun _ h=>by cases h),(fun _ h=>by cases h),(fun _ h=>by cases h),(fun _ h=>by cases h)⟩
def exT:Ex:=Zd.nd [F0.b,plX (nmX tB) (nmX tC),plX (nmX tB) (.mk 3 0 ByteArray.empty tF [nmX tD,nmX tB])]
def mkF (t:DExpr):List DFunc:=[DFunc.mk tF ⟨[DParam.mk ⟨#[120]⟩ ByteArray.empty,DParam.mk ⟨#[121]⟩ ByteArray.empty],t.Args.s⟩ (t.Args.l.getD 0 default)]
def mkC (b d t:DExpr):List DCell:=[DCell.mk tA ByteArray.empty (t.Args.l.getD 1 default),DCell.mk tB ByteArray.empty b,DCell.mk tC ByteArray.empty (t.Args.l.getD 2 default),DCell.mk tD ByteArray.empty d]
theorem mk_at {t:DExpr} (h:er t=exT):er (t.Args.l.getD 0 default)=F0.b∧er (t.Args.l.getD 1 default)=plX (nmX tB) (nmX tC)∧er (t.Args.l.getD 2 default)=plX (nmX tB) (.mk 3 0 ByteArray.empty tF [nmX tD,nmX tB]):=by
 have e:t.Args.l.map er=[F0.b,plX (nmX tB) (nmX tC),plX (nmX tB) (.mk 3 0 ByteArray.empty tF [nmX tD,nmX tB])]:=by rw [←er_l,h];rfl
 generalize t.Args.l=l at e;rcases l with _ | ⟨a,_ | ⟨b,_ | ⟨c,_ | ⟨_,_⟩⟩⟩⟩
 ·simp at e
 ·simp at e
 ·simp at e
 ·simp only [List.map_cons,List.map_nil,List.cons.injEq,and_true] at e;exact e
 ·simp at e
theorem mkF_P {t:DExpr} (h:er t=exT):fP (mkF t):=by
 unfold fP mkF;simp only [List.map_cons,List.map_nil,fe,(mk_at h).1];rfl
theorem mkC_P {t b d:DExpr} (h:er t=exT):cP (er b) (er d) (mkC b d t):=by
 unfold cP mkC;simp only [List.map_cons,List.map_nil,ce,(mk_at h).2.1,(mk_at h).2.2]
structure ExS (b d:Ex) (nm:ByteArray) (a:List DImport) (i:List DInput) (t:List DTable) (f:List DFunc) (c:List DCell) (p:List DPort) (s:List DStore) (r:List DRecipe):Prop where
 nm:nm=tM
 imp:a=[]
 inp:i=[]
 tab:t=[]
 fun_:fP f
 cel:cP b d c
 por:p=[]
 sto:s=[]
 rec_:r=[]
section
variable {b d : Ex} {nm : ByteArray} {a : List DImport} {i : List DInput} {t : List DTable} {f : List DFunc} {c : List DCell} {p : List DPort} {s : List DStore} {r : List DRecipe}
theorem ExS.sml (h:ExS b d nm a i t f c p s r) (hb:sm b) (hd:sm d):Sml nm a i t f c p s r:=by
 obtain ⟨rfl,rfl,rfl,rfl,hf,hc,rfl,rfl,rfl⟩:=h;exact ex_sml hf hc hb hd
theorem ExS.len (h:ExS b d nm a i t f c p s r):(a.length:Int)+i.length+t.length+f.length+c.length+p.length+s.length+r.length=5∧c.length=4:=by
 obtain ⟨rfl,rfl,rfl,rfl,hf,hc,rfl,rfl,rfl⟩:=h;rw [len_fP hf,len_cP hc];exact ⟨rfl,rfl⟩
theorem ExS.snd (h:ExS b d nm a i t f c p s r) (hx:RtE tM [] [] [] [F0] (C0 b d) [] [] []∧((C0 b d).all fun c=>decide ((xc c.2.2).2=0))=true):Zo.snd nm a i t f c p s r:=by
 obtain ⟨rfl,rfl,rfl,rfl,hf,hc,rfl,rfl,rfl⟩:=h;exact ex_snd hf hc hx
theorem ExS.L1 (h:ExS (numX 2) (numX 1) nm a i t f c p s r):(if Zo.snd nm a i t f c p s r then ordL (grf (f.map fe) c) else [])=[1,3,2,0]:=by
 rw [if_pos (h.snd ex1),ex_gr h.fun_ h.cel,gr1];unfold ordL;rw [or1];rfl
theorem ExS.N1 (h:ExS (numX 2) (numX 1) nm a i t f c p s r):(if Zo.snd nm a i t f c p s r then ordN (grf (f.map fe) c) else 1)=0:=by
 rw [if_pos (h.snd ex1),ex_gr h.fun_ h.cel,gr1];unfold ordN;rw [or1];rfl
theorem ExS.L2 (h:ExS (numX 2) (nmX tA) nm a i t f c p s r):(if Zo.snd nm a i t f c p s r then ordL (grf (f.map fe) c) else [])=[]:=by
 rw [if_pos (h.snd ex2),ex_gr h.fun_ h.cel,gr2];unfold ordL;rw [or2];rfl
theorem ExS.N2 (h:ExS (numX 2) (nmX tA) nm a i t f c p s r):(if Zo.snd nm a i t f c p s r then ordN (grf (f.map fe) c) else 1)=23:=by
 rw [if_pos (h.snd ex2),ex_gr h.fun_ h.cel,gr2];unfold ordN;rw [or2];rfl
theorem ExS.D1 (h:ExS (numX 2) (numX 1) nm a i t f c p s r) (k:Int):(if Zo.snd nm a i t f c p s r∧0≤k∧k < (c.length:Int) then (grf (f.map fe) c).getD k.toNat [] else [])=if 0≤k∧k < 4 then [[1,2],[],[1,3],[]].getD k.toNat [] else []:=by
 rw [ex_gr h.fun_ h.cel,gr1,h.len.2];by_cases hk:0≤k∧k < 4
 ·rw [if_pos ⟨h.snd ex1,hk⟩,if_pos hk]
 ·rw [if_neg (fun g=>hk g.2),if_neg hk]
theorem ExS.Y1 (h:ExS (numX 2) (numX 1) nm a i t f c p s r):cycle (if Zo.snd nm a i t f c p s r then grf (f.map fe) c else [])=[]:=by
 rw [if_pos (h.snd ex1),ex_gr h.fun_ h.cel,gr1,cy1]
theorem ExS.Y2 (h:ExS (numX 2) (nmX tA) nm a i t f c p s r):cycle (if Zo.snd nm a i t f c p s r then grf (f.map fe) c else [])=[0,2,3]:=by
 rw [if_pos (h.snd ex2),ex_gr h.fun_ h.cel,gr2,cy2]
theorem ExS.Y3 (h:ExS (nmX tB) (nmX tA) nm a i t f c p s r):cycle (if Zo.snd nm a i t f c p s r then grf (f.map fe) c else [])=[1]:=by
 rw [if_pos (h.snd ex3),ex_gr h.fun_ h.cel,gr3,cy3]
end
theorem ex1E (g:GT):ExS (numX 2) (numX 1) ⟨#[109]⟩ [] [] [] (mkF (tr exT g)) (mkC (DExpr.mk 0 2 ByteArray.empty ByteArray.empty ⟨[],{}⟩) (DExpr.mk 0 1 ByteArray.empty ByteArray.empty ⟨[],{}⟩) (tr exT g)) [] [] [] :=
 ⟨rfl,rfl,rfl,rfl,mkF_P (er_tr _ _),by have:=mkC_P (b:=DExpr.mk 0 2 ByteArray.empty ByteArray.empty ⟨[],{}⟩) (d:=DExpr.mk 0 1 ByteArray.empty ByteArray.empty ⟨[],{}⟩) (er_tr exT g);rwa [er_num,er_num] at this,rfl,rfl,rfl⟩
theorem ex2E (g:GT):ExS (numX 2) (nmX tA) ⟨#[109]⟩ [] [] [] (mkF (tr exT g)) (mkC (DExpr.mk 0 2 ByteArray.empty ByteArray.empty ⟨[],{}⟩) (DExpr.mk 1 0 ByteArray.empty ⟨#[97]⟩ ⟨[],{}⟩) (tr exT g)) [] [] [] :=
 ⟨rfl,rfl,rfl,rfl,mkF_P (er_tr _ _),by have:=mkC_P (b:=DExpr.mk 0 2 ByteArray.empty ByteArray.empty ⟨[],{}⟩) (d:=DExpr.mk 1 0 ByteArray.empty ⟨#[97]⟩ ⟨[],{}⟩) (er_tr exT g);rwa [er_num,er_nm] at this,rfl,rfl,rfl⟩
theorem ex3E (g:GT):ExS (nmX tB) (nmX tA) ⟨#[109]⟩ [] [] [] (mkF (tr exT g)) (mkC (DExpr.mk 1 0 ByteArray.empty ⟨#[98]⟩ ⟨[],{}⟩) (DExpr.mk 1 0 ByteArray.empty ⟨#[97]⟩ ⟨[],{}⟩) (tr exT g)) [] [] [] :=
 ⟨rfl,rfl,rfl,rfl,mkF_P (er_tr _ _),by have:=mkC_P (b:=DExpr.mk 1 0 ByteArray.empty ⟨#[98]⟩ ⟨[],{}⟩) (d:=DExpr.mk 1 0 ByteArray.empty ⟨#[97]⟩ ⟨[],{}⟩) (er_tr exT g);rwa [er_nm,er_nm] at this,rfl,rfl,rfl⟩
theorem no_snd:¬ snd ByteArray.empty [] [] [] [] [] [] [] []:=fun h=>absurd h.1.1 (by decide +kernel)
structure NoS (nm:ByteArray) (a:List DImport) (i:List DInput) (t:List DTable) (f:List DFunc) (c:List DCell) (p:List DPort) (s:List DStore) (r:List DRecipe):Prop where
 nm:nm=ByteArray.empty
 imp:a=[]
 inp:i=[]
 tab:t=[]
 fun_:f=[]
 cel:c=[]
 por:p=[]
 sto:s=[]
 rec_:r=[]
theorem NoS.of:NoS ByteArray.empty [] [] [] [] [] [] [] []:=⟨rfl,rfl,rfl,rfl,rfl,rfl,rfl,rfl,rfl⟩
section
variable {nm : ByteArray} {a : List DImport} {i : List DInput} {t : List DTable} {f : List DFunc} {c : List DCell} {p : List DPort} {s : List DStore} {r : List DRecipe}
theorem NoS.sml (h:NoS nm a i t f c p s r):Sml nm a i t f c p s r:=by
 obtain ⟨rfl,rfl,rfl,rfl,rfl,rfl,rfl,rfl,rfl⟩:=h;exact sml0
theorem NoS.len (h:NoS nm a i t f c p s r):(a.length:Int)+i.length+t.length+f.length+c.length+p.length+s.length+r.length=0∧c.length=0:=by
 obtain ⟨rfl,rfl,rfl,rfl,rfl,rfl,rfl,rfl,rfl⟩:=h;exact ⟨rfl,rfl⟩
theorem NoS.snd (h:NoS nm a i t f c p s r):¬ Zo.snd nm a i t f c p s r:=by
 obtain ⟨rfl,rfl,rfl,rfl,rfl,rfl,rfl,rfl,rfl⟩:=h;exact no_snd
theorem NoS.L (h:NoS nm a i t f c p s r):(if Zo.snd nm a i t f c p s r then ordL (grf (f.map fe) c) else [])=[]:=if_neg h.snd
theorem NoS.N (h:NoS nm a i t f c p s r):(if Zo.snd nm a i t f c p s r then ordN (grf (f.map fe) c) else 1)=1:=if_neg h.snd
end
end Zl

open Go Go.Proofs
theorem lnm_ct (s:BA) :
  Cp Tryz.prog 30 #[tv s] [] (ag (DExpr.mk 1 0 ByteArray.empty s ⟨[],{}⟩)):=by
 refine vf mo Tryz.func30 5 1 fun _=>?_
 refine vG [.n 0] fun G1=>?_;intro _ _
 refine vG [.u 2,.s 0] fun G2=>?_;intro _ _
 exact V.rS [0] [] [] [] [] []
theorem lpl_ct (a b:DExpr) :
  Ct Tryz.prog 64 #[ag a,ag b] [fs true a.Args.l a.Args.s,fs true b.Args.l b.Args.s] [] (fun g=>ag (tr (Zl.plX (er a) (er b)) (g.gt 0))) (fun g=>[fs false ((tr (Zl.plX (er a) (er b)) (g.gt 0)).Args.l) ((tr (Zl.plX (er a) (er b)) (g.gt 0)).Args.s)]) eF eF:=by
 refine vf mo Tryz.func64 9 3 fun _=>?_
 refine vG [.n 0,.n 1,.n 2] fun G1=>?_;intro _ _
 refine vG [.l 0,.l 1,.nr 2 false 48 ([a,b]:List DExpr) [kA 0 a.Args.l a.Args.s,kA 1 b.Args.l b.Args.s] (fun _ _ h=>(List.forall_mem_cons.2 ⟨(exG.2 h.1),(List.forall_mem_cons.2 ⟨(exG.2 h.2.1),(List.forall_mem_nil _)⟩)⟩)) (fun _=>#[iv a.Op,iv a.N,tv a.Unit,tv a.Name,a.Args.s.v,iv b.Op,iv b.N,tv b.Unit,tv b.Name,b.Args.s.v]),.u 1,.s 2] fun G2=>?_;intro _ _
 have f:er (DExpr.mk 6 0 ByteArray.empty ByteArray.empty ⟨([a,b]:List DExpr),⟨atB (G2 2).b,2,2⟩⟩)=Zl.plX (er a) (er b):=er_mk _ _ _ _ _ _;obtain ⟨d,i⟩:=tr_ex f;refine V.alt (fun (zz:DExpr)=>(⟨[(4,pp ((G1 2).b) 0)],[fs false a.Args.l a.Args.s,fs false b.Args.l b.Args.s,fs false zz.Args.l zz.Args.s],[.blk ((G1 0).b) (ca a) 48,.blk ((G1 1).b) (ca b) 48,.blk ((G1 2).b) (ca zz) 48]⟩:St)) i [0,1,2] (by kernel_rfl) ?_;exact V.retG [d] [2] [(tr (Zl.plX (er a) (er b)) d).Args.s] [] [] [2] [] (ag (tr (Zl.plX (er a) (er b)) d)) (fun _ _=>by kernel_rfl) (fun _ _=>by kernel_rfl) (fun _ _=>trivial)
theorem lex2_ct (b d:DExpr) :
  Ct Tryz.prog 29 #[ag b,ag d] [fs true b.Args.l b.Args.s,fs true d.Args.l d.Args.s] [] (fun g=>ag (DSheet.mk ⟨#[109]⟩ ⟨[],{}⟩ ⟨[],{}⟩ ⟨[],{}⟩ ⟨(Zl.mkF (tr Zl.exT (g.gt 0))),(g.ss 0)⟩ ⟨(Zl.mkC b d (tr Zl.exT (g.gt 0))),(g.ss 1)⟩ ⟨[],{}⟩ ⟨[],{}⟩ ⟨[],{}⟩)) (fun g=>[fs false (Zl.mkF (tr Zl.exT (g.gt 0))) (g.ss 0),fs false (Zl.mkC b d (tr Zl.exT (g.gt 0))) (g.ss 1)]) eF eF:=by
 refine vf mo Tryz.func29 36 7 fun _=>?_
 refine vG [.n 0,.n 1,.n 2] fun G1=>?_;intro _ _
 refine vG [.u 2,.nr 2 true 111 ([DParam.mk ⟨#[120]⟩ ByteArray.empty,DParam.mk ⟨#[121]⟩ ByteArray.empty]:List DParam) [] (fun _ _ _ _ _=>trivial) (fun _=>#[tv ⟨#[120]⟩,tv ByteArray.empty,tv ⟨#[121]⟩,tv ByteArray.empty]),.cP 3 30 [] fun G=>lnm_ct ⟨#[120]⟩,.u 1,.ctT g0 5 64 [(knil (α:=DExpr)).a,(knil (α:=DExpr)).a] (fun _ G=>lpl_ct (nX 120) (DExpr.mk 0 1 ByteArray.empty ByteArray.empty ⟨[],{}⟩)),.u 1,.n 3,.s 3] fun G2=>?_;intro _ _
 refine vG [.cP 0 30 [] fun G=>lnm_ct ⟨#[98]⟩,.cP 1 30 [] fun G=>lnm_ct ⟨#[100]⟩,.cP 2 30 [] fun G=>lnm_ct ⟨#[98]⟩,.nr 3 true 48 ([nX 100,nX 98]:List DExpr) [] (fun _ _ h=>(List.forall_mem_cons.2 ⟨(exI RSl.nil),(List.forall_mem_cons.2 ⟨(exI RSl.nil),(List.forall_mem_nil _)⟩)⟩)) (fun _=>#[iv 1,iv 0,tv ByteArray.empty,tv ⟨#[100]⟩,.slice none 0 0,iv 1,iv 0,tv ByteArray.empty,tv ⟨#[98]⟩,.slice none 0 0]),.u 1,.ctT g0 5 64 [(knil (α:=DExpr)).a,(kf true (.g 3 0) ([nX 100,nX 98]:List DExpr) (fun G=>⟨atB (G 3).b,2,2⟩)).a] (fun _ G=>lpl_ct (nX 98) (DExpr.mk 3 0 ByteArray.empty ⟨#[102]⟩ ⟨([nX 100,nX 98]:List DExpr),⟨atB (G 3).b,2,2⟩⟩)),.n 4,.s 4] fun G3=>?_;intro _ _
 refine vG [.cP 0 30 [] fun G=>lnm_ct ⟨#[98]⟩,.cP 1 30 [] fun G=>lnm_ct ⟨#[99]⟩,.ctT g0 2 64 [(knil (α:=DExpr)).a,(knil (α:=DExpr)).a] (fun _ G=>lpl_ct (nX 98) (nX 99)),.u 1,.l 0,.u 1,.l 4,.u 1,.l 1,.u 1,.nlG 10 5 false 52 (fun G=>([DCell.mk ⟨#[97]⟩ ByteArray.empty (tr (Zl.plX (er (nX 98)) (er (nX 99))) ((G 2).gt 0)),DCell.mk ⟨#[98]⟩ ByteArray.empty b,DCell.mk ⟨#[99]⟩ ByteArray.empty (tr (Zl.plX (er (nX 98)) (er (DExpr.mk 3 0 ByteArray.empty ⟨#[102]⟩ ⟨([nX 100,nX 98]:List DExpr),⟨atB (G3 3).b,2,2⟩⟩))) ((G3 5).gt 0)),DCell.mk ⟨#[100]⟩ ByteArray.empty d]:List DCell)) 4 (fun _=>rfl) [(kg true (.g 2 0) (fun G=>(tr (Zl.plX (er (nX 98)) (er (nX 99))) ((G 2).gt 0)).Args.l) (fun G=>(tr (Zl.plX (er (nX 98)) (er (nX 99))) ((G 2).gt 0)).Args.s)),kA 0 b.Args.l b.Args.s,kB 5 ((tr (Zl.plX (er (nX 98)) (er (DExpr.mk 3 0 ByteArray.empty ⟨#[102]⟩ ⟨([nX 100,nX 98]:List DExpr),⟨atB (G3 3).b,2,2⟩⟩))) ((G3 5).gt 0)).Args.l) (tr (Zl.plX (er (nX 98)) (er (DExpr.mk 3 0 ByteArray.empty ⟨#[102]⟩ ⟨([nX 100,nX 98]:List DExpr),⟨atB (G3 3).b,2,2⟩⟩))) ((G3 5).gt 0)).Args.s,kA 1 d.Args.l d.Args.s] (fun _ _ h=>(List.forall_mem_cons.2 ⟨(exG.2 h.1),(List.forall_mem_cons.2 ⟨(exG.2 h.2.1),(List.forall_mem_cons.2 ⟨(exG.2 h.2.2.1),(List.forall_mem_cons.2 ⟨(exG.2 h.2.2.2.1),(List.forall_mem_nil _)⟩)⟩)⟩)⟩)) (fun G=>#[tv ⟨#[97]⟩,tv ByteArray.empty,iv ((tr (Zl.plX (er (nX 98)) (er (nX 99))) ((G 2).gt 0)).Op),iv ((tr (Zl.plX (er (nX 98)) (er (nX 99))) ((G 2).gt 0)).N),tv ((tr (Zl.plX (er (nX 98)) (er (nX 99))) ((G 2).gt 0)).Unit),tv ((tr (Zl.plX (er (nX 98)) (er (nX 99))) ((G 2).gt 0)).Name),((tr (Zl.plX (er (nX 98)) (er (nX 99))) ((G 2).gt 0)).Args.s).v,tv ⟨#[98]⟩,tv ByteArray.empty,iv b.Op,iv b.N,tv b.Unit,tv b.Name,b.Args.s.v,tv ⟨#[99]⟩,tv ByteArray.empty,iv ((tr (Zl.plX (er (nX 98)) (er (DExpr.mk 3 0 ByteArray.empty ⟨#[102]⟩ ⟨([nX 100,nX 98]:List DExpr),⟨atB (G3 3).b,2,2⟩⟩))) ((G3 5).gt 0)).Op),iv ((tr (Zl.plX (er (nX 98)) (er (DExpr.mk 3 0 ByteArray.empty ⟨#[102]⟩ ⟨([nX 100,nX 98]:List DExpr),⟨atB (G3 3).b,2,2⟩⟩))) ((G3 5).gt 0)).N),tv ((tr (Zl.plX (er (nX 98)) (er (DExpr.mk 3 0 ByteArray.empty ⟨#[102]⟩ ⟨([nX 100,nX 98]:List DExpr),⟨atB (G3 3).b,2,2⟩⟩))) ((G3 5).gt 0)).Unit),tv ((tr (Zl.plX (er (nX 98)) (er (DExpr.mk 3 0 ByteArray.empty ⟨#[102]⟩ ⟨([nX 100,nX 98]:List DExpr),⟨atB (G3 3).b,2,2⟩⟩))) ((G3 5).gt 0)).Name),((tr (Zl.plX (er (nX 98)) (er (DExpr.mk 3 0 ByteArray.empty ⟨#[102]⟩ ⟨([nX 100,nX 98]:List DExpr),⟨atB (G3 3).b,2,2⟩⟩))) ((G3 5).gt 0)).Args.s).v,tv ⟨#[100]⟩,tv ByteArray.empty,iv d.Op,iv d.N,tv d.Unit,tv d.Name,d.Args.s.v]),.u 1] fun G4=>?_;intro _ _
 refine vG [.l 3,.nl 1 6 true 59 ([DFunc.mk ⟨#[102]⟩ ⟨([DParam.mk ⟨#[120]⟩ ByteArray.empty,DParam.mk ⟨#[121]⟩ ByteArray.empty]:List DParam),⟨atB (G2 2).b,2,2⟩⟩ (tr (Zl.plX (er (nX 120)) (er (DExpr.mk 0 1 ByteArray.empty ByteArray.empty ⟨[],{}⟩))) ((G2 5).gt 0))]:List DFunc) [kB 2 ([DParam.mk ⟨#[120]⟩ ByteArray.empty,DParam.mk ⟨#[121]⟩ ByteArray.empty]:List DParam) ⟨atB (G2 2).b,2,2⟩,kB 3 ((tr (Zl.plX (er (nX 120)) (er (DExpr.mk 0 1 ByteArray.empty ByteArray.empty ⟨[],{}⟩))) ((G2 5).gt 0)).Args.l) (tr (Zl.plX (er (nX 120)) (er (DExpr.mk 0 1 ByteArray.empty ByteArray.empty ⟨[],{}⟩))) ((G2 5).gt 0)).Args.s] (fun _ _ h=>(List.forall_mem_cons.2 ⟨(And.intro h.1 (exG.2 h.2.1)),(List.forall_mem_nil _)⟩)) (fun _=>#[tv ⟨#[102]⟩,SV.v ⟨atB (G2 2).b,2,2⟩,iv ((tr (Zl.plX (er (nX 120)) (er (DExpr.mk 0 1 ByteArray.empty ByteArray.empty ⟨[],{}⟩))) ((G2 5).gt 0)).Op),iv ((tr (Zl.plX (er (nX 120)) (er (DExpr.mk 0 1 ByteArray.empty ByteArray.empty ⟨[],{}⟩))) ((G2 5).gt 0)).N),tv ((tr (Zl.plX (er (nX 120)) (er (DExpr.mk 0 1 ByteArray.empty ByteArray.empty ⟨[],{}⟩))) ((G2 5).gt 0)).Unit),tv ((tr (Zl.plX (er (nX 120)) (er (DExpr.mk 0 1 ByteArray.empty ByteArray.empty ⟨[],{}⟩))) ((G2 5).gt 0)).Name),((tr (Zl.plX (er (nX 120)) (er (DExpr.mk 0 1 ByteArray.empty ByteArray.empty ⟨[],{}⟩))) ((G2 5).gt 0)).Args.s).v]),.u 2,.s 2] fun G5=>?_;intro _ _
 refine V.frz 6 true 59 ([DFunc.mk ⟨#[102]⟩ ⟨([DParam.mk ⟨#[120]⟩ ByteArray.empty,DParam.mk ⟨#[121]⟩ ByteArray.empty]:List DParam),⟨atB (G2 2).b,2,2⟩⟩ (tr (Zl.plX (er (nX 120)) (er (DExpr.mk 0 1 ByteArray.empty ByteArray.empty ⟨[],{}⟩))) ((G2 5).gt 0))]:List DFunc) ⟨atB (G5 1).b,1,1⟩ (by kernel_rfl) ?_;refine V.frz 5 false 52 ([DCell.mk ⟨#[97]⟩ ByteArray.empty (tr (Zl.plX (er (nX 98)) (er (nX 99))) ((G4 2).gt 0)),DCell.mk ⟨#[98]⟩ ByteArray.empty b,DCell.mk ⟨#[99]⟩ ByteArray.empty (tr (Zl.plX (er (nX 98)) (er (DExpr.mk 3 0 ByteArray.empty ⟨#[102]⟩ ⟨([nX 100,nX 98]:List DExpr),⟨atB (G3 3).b,2,2⟩⟩))) ((G3 5).gt 0)),DCell.mk ⟨#[100]⟩ ByteArray.empty d]:List DCell) ⟨atB (G4 10).b,4,4⟩ (by kernel_rfl) ?_;have o:er (DExpr.mk 0 0 ByteArray.empty ByteArray.empty ⟨(([DFunc.mk ⟨#[102]⟩ ⟨([DParam.mk ⟨#[120]⟩ ByteArray.empty,DParam.mk ⟨#[121]⟩ ByteArray.empty]:List DParam),⟨atB (G2 2).b,2,2⟩⟩ (tr (Zl.plX (er (nX 120)) (er (DExpr.mk 0 1 ByteArray.empty ByteArray.empty ⟨[],{}⟩))) ((G2 5).gt 0))]:List DFunc)).map (fun f:DFunc=>f.Body) ++[((([DCell.mk ⟨#[97]⟩ ByteArray.empty (tr (Zl.plX (er (nX 98)) (er (nX 99))) ((G4 2).gt 0)),DCell.mk ⟨#[98]⟩ ByteArray.empty b,DCell.mk ⟨#[99]⟩ ByteArray.empty (tr (Zl.plX (er (nX 98)) (er (DExpr.mk 3 0 ByteArray.empty ⟨#[102]⟩ ⟨([nX 100,nX 98]:List DExpr),⟨atB (G3 3).b,2,2⟩⟩))) ((G3 5).gt 0)),DCell.mk ⟨#[100]⟩ ByteArray.empty d]:List DCell)).getD 0 default).Def,((([DCell.mk ⟨#[97]⟩ ByteArray.empty (tr (Zl.plX (er (nX 98)) (er (nX 99))) ((G4 2).gt 0)),DCell.mk ⟨#[98]⟩ ByteArray.empty b,DCell.mk ⟨#[99]⟩ ByteArray.empty (tr (Zl.plX (er (nX 98)) (er (DExpr.mk 3 0 ByteArray.empty ⟨#[102]⟩ ⟨([nX 100,nX 98]:List DExpr),⟨atB (G3 3).b,2,2⟩⟩))) ((G3 5).gt 0)),DCell.mk ⟨#[100]⟩ ByteArray.empty d]:List DCell)).getD 2 default).Def],((([DFunc.mk ⟨#[102]⟩ ⟨([DParam.mk ⟨#[120]⟩ ByteArray.empty,DParam.mk ⟨#[121]⟩ ByteArray.empty]:List DParam),⟨atB (G2 2).b,2,2⟩⟩ (tr (Zl.plX (er (nX 120)) (er (DExpr.mk 0 1 ByteArray.empty ByteArray.empty ⟨[],{}⟩))) ((G2 5).gt 0))]:List DFunc)).getD 0 default).Params.s⟩)=Zl.exT:=by rw [er_mk];simp only [List.map_cons,List.map_nil,List.cons_append,List.nil_append,List.getD_cons_zero,List.getD_cons_succ,er_tr,er_mk];rfl
 obtain ⟨i,j⟩:=tr_ex o;have t:([DFunc.mk ⟨#[102]⟩ ⟨([DParam.mk ⟨#[120]⟩ ByteArray.empty,DParam.mk ⟨#[121]⟩ ByteArray.empty]:List DParam),⟨atB (G2 2).b,2,2⟩⟩ (tr (Zl.plX (er (nX 120)) (er (DExpr.mk 0 1 ByteArray.empty ByteArray.empty ⟨[],{}⟩))) ((G2 5).gt 0))]:List DFunc)=(Zl.mkF (tr Zl.exT i)):=by rw [←j];rfl
 refine V.alt (fun (zz:List DFunc)=>(⟨[(4,pp ((G1 2).b) 0)],[fs false b.Args.l b.Args.s,fs false d.Args.l d.Args.s,fs true ([DParam.mk ⟨#[120]⟩ ByteArray.empty,DParam.mk ⟨#[121]⟩ ByteArray.empty]:List DParam) ⟨atB (G2 2).b,2,2⟩,fs true ((tr (Zl.plX (er (nX 120)) (er (DExpr.mk 0 1 ByteArray.empty ByteArray.empty ⟨[],{}⟩))) ((G2 5).gt 0)).Args.l) ((tr (Zl.plX (er (nX 120)) (er (DExpr.mk 0 1 ByteArray.empty ByteArray.empty ⟨[],{}⟩))) ((G2 5).gt 0)).Args.s),fs true ([nX 100,nX 98]:List DExpr) ⟨atB (G3 3).b,2,2⟩,fs true ((tr (Zl.plX (er (nX 98)) (er (DExpr.mk 3 0 ByteArray.empty ⟨#[102]⟩ ⟨([nX 100,nX 98]:List DExpr),⟨atB (G3 3).b,2,2⟩⟩))) ((G3 5).gt 0)).Args.l) ((tr (Zl.plX (er (nX 98)) (er (DExpr.mk 3 0 ByteArray.empty ⟨#[102]⟩ ⟨([nX 100,nX 98]:List DExpr),⟨atB (G3 3).b,2,2⟩⟩))) ((G3 5).gt 0)).Args.s),fs true ((tr (Zl.plX (er (nX 98)) (er (nX 99))) ((G4 2).gt 0)).Args.l) ((tr (Zl.plX (er (nX 98)) (er (nX 99))) ((G4 2).gt 0)).Args.s),fs true zz ⟨atB (G5 1).b,1,1⟩,fs false ([DCell.mk ⟨#[97]⟩ ByteArray.empty (tr (Zl.plX (er (nX 98)) (er (nX 99))) ((G4 2).gt 0)),DCell.mk ⟨#[98]⟩ ByteArray.empty b,DCell.mk ⟨#[99]⟩ ByteArray.empty (tr (Zl.plX (er (nX 98)) (er (DExpr.mk 3 0 ByteArray.empty ⟨#[102]⟩ ⟨([nX 100,nX 98]:List DExpr),⟨atB (G3 3).b,2,2⟩⟩))) ((G3 5).gt 0)),DCell.mk ⟨#[100]⟩ ByteArray.empty d]:List DCell) ⟨atB (G4 10).b,4,4⟩],[.blk ((G1 0).b) (ca b) 48,.blk ((G1 1).b) (ca d) 48,.blk ((G1 2).b) (ca (DSheet.mk ⟨#[109]⟩ ⟨[],{}⟩ ⟨[],{}⟩ ⟨[],{}⟩ ⟨zz,⟨atB (G5 1).b,1,1⟩⟩ ⟨([DCell.mk ⟨#[97]⟩ ByteArray.empty (tr (Zl.plX (er (nX 98)) (er (nX 99))) ((G4 2).gt 0)),DCell.mk ⟨#[98]⟩ ByteArray.empty b,DCell.mk ⟨#[99]⟩ ByteArray.empty (tr (Zl.plX (er (nX 98)) (er (DExpr.mk 3 0 ByteArray.empty ⟨#[102]⟩ ⟨([nX 100,nX 98]:List DExpr),⟨atB (G3 3).b,2,2⟩⟩))) ((G3 5).gt 0)),DCell.mk ⟨#[100]⟩ ByteArray.empty d]:List DCell),⟨atB (G4 10).b,4,4⟩⟩ ⟨[],{}⟩ ⟨[],{}⟩ ⟨[],{}⟩)) 31,.blk ((G2 7).b) (ca (DFunc.mk ⟨#[102]⟩ ⟨([DParam.mk ⟨#[120]⟩ ByteArray.empty,DParam.mk ⟨#[121]⟩ ByteArray.empty]:List DParam),⟨atB (G2 2).b,2,2⟩⟩ (tr (Zl.plX (er (nX 120)) (er (DExpr.mk 0 1 ByteArray.empty ByteArray.empty ⟨[],{}⟩))) ((G2 5).gt 0)))) 59,.blk ((G3 6).b) (ca (tr (Zl.plX (er (nX 98)) (er (DExpr.mk 3 0 ByteArray.empty ⟨#[102]⟩ ⟨([nX 100,nX 98]:List DExpr),⟨atB (G3 3).b,2,2⟩⟩))) ((G3 5).gt 0))) 48,.no,.no]⟩:St)) t [0,1,2,3,4,5,6,7,8] (by kernel_rfl) ?_;have w:([DCell.mk ⟨#[97]⟩ ByteArray.empty (tr (Zl.plX (er (nX 98)) (er (nX 99))) ((G4 2).gt 0)),DCell.mk ⟨#[98]⟩ ByteArray.empty b,DCell.mk ⟨#[99]⟩ ByteArray.empty (tr (Zl.plX (er (nX 98)) (er (DExpr.mk 3 0 ByteArray.empty ⟨#[102]⟩ ⟨([nX 100,nX 98]:List DExpr),⟨atB (G3 3).b,2,2⟩⟩))) ((G3 5).gt 0)),DCell.mk ⟨#[100]⟩ ByteArray.empty d]:List DCell)=(Zl.mkC b d (tr Zl.exT i)):=by rw [←j];rfl
 refine V.alt (fun (zz:List DCell)=>(⟨[(4,pp ((G1 2).b) 0)],[fs false b.Args.l b.Args.s,fs false d.Args.l d.Args.s,fs true ([DParam.mk ⟨#[120]⟩ ByteArray.empty,DParam.mk ⟨#[121]⟩ ByteArray.empty]:List DParam) ⟨atB (G2 2).b,2,2⟩,fs true ((tr (Zl.plX (er (nX 120)) (er (DExpr.mk 0 1 ByteArray.empty ByteArray.empty ⟨[],{}⟩))) ((G2 5).gt 0)).Args.l) ((tr (Zl.plX (er (nX 120)) (er (DExpr.mk 0 1 ByteArray.empty ByteArray.empty ⟨[],{}⟩))) ((G2 5).gt 0)).Args.s),fs true ([nX 100,nX 98]:List DExpr) ⟨atB (G3 3).b,2,2⟩,fs true ((tr (Zl.plX (er (nX 98)) (er (DExpr.mk 3 0 ByteArray.empty ⟨#[102]⟩ ⟨([nX 100,nX 98]:List DExpr),⟨atB (G3 3).b,2,2⟩⟩))) ((G3 5).gt 0)).Args.l) ((tr (Zl.plX (er (nX 98)) (er (DExpr.mk 3 0 ByteArray.empty ⟨#[102]⟩ ⟨([nX 100,nX 98]:List DExpr),⟨atB (G3 3).b,2,2⟩⟩))) ((G3 5).gt 0)).Args.s),fs true ((tr (Zl.plX (er (nX 98)) (er (nX 99))) ((G4 2).gt 0)).Args.l) ((tr (Zl.plX (er (nX 98)) (er (nX 99))) ((G4 2).gt 0)).Args.s),fs true (Zl.mkF (tr Zl.exT i)) ⟨atB (G5 1).b,1,1⟩,fs false zz ⟨atB (G4 10).b,4,4⟩],[.blk ((G1 0).b) (ca b) 48,.blk ((G1 1).b) (ca d) 48,.blk ((G1 2).b) (ca (DSheet.mk ⟨#[109]⟩ ⟨[],{}⟩ ⟨[],{}⟩ ⟨[],{}⟩ ⟨(Zl.mkF (tr Zl.exT i)),⟨atB (G5 1).b,1,1⟩⟩ ⟨zz,⟨atB (G4 10).b,4,4⟩⟩ ⟨[],{}⟩ ⟨[],{}⟩ ⟨[],{}⟩)) 31,.blk ((G2 7).b) (ca (DFunc.mk ⟨#[102]⟩ ⟨([DParam.mk ⟨#[120]⟩ ByteArray.empty,DParam.mk ⟨#[121]⟩ ByteArray.empty]:List DParam),⟨atB (G2 2).b,2,2⟩⟩ (tr (Zl.plX (er (nX 120)) (er (DExpr.mk 0 1 ByteArray.empty ByteArray.empty ⟨[],{}⟩))) ((G2 5).gt 0)))) 59,.blk ((G3 6).b) (ca (tr (Zl.plX (er (nX 98)) (er (DExpr.mk 3 0 ByteArray.empty ⟨#[102]⟩ ⟨([nX 100,nX 98]:List DExpr),⟨atB (G3 3).b,2,2⟩⟩))) ((G3 5).gt 0))) 48,.no,.no]⟩:St)) w [0,1,2,3,4,5,6,7,8] (by kernel_rfl) ?_;exact V.retG [i] [2] [⟨atB (G5 1).b,1,1⟩,⟨atB (G4 10).b,4,4⟩] [fun _=>{},fun _=>{}] [] [7,8] [] (ag (DSheet.mk ⟨#[109]⟩ ⟨[],{}⟩ ⟨[],{}⟩ ⟨[],{}⟩ ⟨(Zl.mkF (tr Zl.exT i)),⟨atB (G5 1).b,1,1⟩⟩ ⟨(Zl.mkC b d (tr Zl.exT i)),⟨atB (G4 10).b,4,4⟩⟩ ⟨[],{}⟩ ⟨[],{}⟩ ⟨[],{}⟩)) (fun _ _=>by kernel_rfl) (fun _ _=>by kernel_rfl) (fun _ _=>trivial)
end Kb
namespace Go.Proofs
open Go.Shelf
def Tryz.lays240_ren:Go.Shelf.Ren:=⟨fun | 240=>204 | 276=>220 | n=>n,fun | 70=>229 | 9=>9 | 0=>0 | 4=>4 | 20=>20 | 72=>232 | 164=>257 | 37=>230 | n=>n,fun | n=>n⟩
theorem Tryz.lays240:Go.Proofs.Lays.n240 Tryz.prog Tryz.lays240_ren:={
 mixed:=by kernel_rfl
 f240:=Tryz.func204.trans (congrArg some (by kernel_rfl))
 f276:=Tryz.func220.trans (congrArg some (by kernel_rfl))
 t0:=Tryz.underlying0
 a0:=Tryz.isAgg0
 z0:=Tryz.sizeOf0
 v0:=Tryz.zeroValue0
 t4:=Tryz.underlying4
 a4:=Tryz.isAgg4
 z4:=Tryz.sizeOf4
 v4:=Tryz.zeroValue4
 t9:=Tryz.underlying9
 a9:=Tryz.isAgg9
 z9:=Tryz.sizeOf9
 v9:=Tryz.zeroValue9
 t20:=Tryz.underlying20
 a20:=Tryz.isAgg20
 z20:=Tryz.sizeOf20
 v20:=Tryz.zeroValue20
 t70:=Tryz.underlying229
 a70:=Tryz.isAgg229
 z70:=Tryz.sizeOf229
 v70:=Tryz.zeroValue229
 t72:=Tryz.underlying232
 a72:=Tryz.isAgg232
 z72:=Tryz.sizeOf232
 v72:=Tryz.zeroValue232
 t164:=Tryz.underlying257
 a164:=Tryz.isAgg257
 z164:=Tryz.sizeOf257
 v164:=Tryz.zeroValue257 }
theorem Tryz.Builder_X72_240:Builder.X72 Tryz.prog Tryz.lays240_ren:={
 sizeBuilder:=by kernel_rfl
 liesBuilder:=by kernel_rfl }
def Tryz.lays169_ren:Go.Shelf.Ren:=⟨fun | 169=>185 | n=>n,fun | 70=>229 | 9=>9 | 0=>0 | 72=>232 | 37=>230 | 127=>250 | 3=>3 | 5=>5 | n=>n,fun | n=>n⟩
theorem Tryz.lays169:Go.Proofs.Lays.n169 Tryz.prog Tryz.lays169_ren:={
 mixed:=by kernel_rfl
 f169:=Tryz.func185.trans (congrArg some (by kernel_rfl))
 t0:=Tryz.underlying0
 a0:=Tryz.isAgg0
 z0:=Tryz.sizeOf0
 v0:=Tryz.zeroValue0
 t3:=Tryz.underlying3
 a3:=Tryz.isAgg3
 z3:=Tryz.sizeOf3
 v3:=Tryz.zeroValue3
 t9:=Tryz.underlying9
 a9:=Tryz.isAgg9
 z9:=Tryz.sizeOf9
 v9:=Tryz.zeroValue9
 t37:=Tryz.underlying230
 a37:=Tryz.isAgg230
 z37:=Tryz.sizeOf230
 v37:=Tryz.zeroValue230
 t70:=Tryz.underlying229
 a70:=Tryz.isAgg229
 z70:=Tryz.sizeOf229
 v70:=Tryz.zeroValue229
 t72:=Tryz.underlying232
 a72:=Tryz.isAgg232
 z72:=Tryz.sizeOf232
 v72:=Tryz.zeroValue232
 t127:=Tryz.underlying250
 a127:=Tryz.isAgg250
 z127:=Tryz.sizeOf250
 v127:=Tryz.zeroValue250 }
theorem Tryz.Builder_Extra_169:Builder.Extra Tryz.prog Tryz.lays169_ren:={
 sizeBuilder:=by kernel_rfl
 liesBuilder:=by kernel_rfl
 t5:=Tryz.underlying5
 a5:=Tryz.isAgg5
 z5:=Tryz.sizeOf5
 v5:=Tryz.zeroValue5
 infoByte:=by kernel_rfl
 cellsByte:=by kernel_rfl
 sizeByte:=by kernel_rfl
 neB5:=by decide }
variable {P : Program} {ρ : Ren}
set_option maxHeartbeats 2000000 in
set_option maxRecDepth 100000 in
theorem Builder_String_exact (L:Lays.n169 P ρ) (X:Builder.Extra P ρ) (b g d:Nat) (p:Value) (h:Array Value) (l:List UInt8) (w:World) (h0:l≠[]) (o:w.heap[b]?=some (.cells #[p,.slice (some ⟨g,0,none⟩) l.length d] (ρ.t 72))) (hg:w.heap[g]?=some (.cells h (ρ.t 5)))
  (M:l.length≤d) (A:d≤maxLen) (Q:h.size=d) (i:∀ (j:Nat) (x:UInt8),l[j]?=some x→w.cell? ((⟨g,0,none⟩:Addr).add j)=some (.int .u8 x.toNat)) :
  Calls P (ρ.f 169) #[.pointer (some ⟨b,0,none⟩)] w fun e w'=>e=.returned (.string ⟨l.toArray⟩)∧w'=w.drew.freeze ⟨g,0,none⟩ l.length:=by
 have Y:l.length≠0:=by simpa using h0
 have c1:w.drew.cell? ⟨b,1,none⟩=some (.slice (some ⟨g,0,none⟩) l.length d):=by
  have:w.drew.heap[b]?=some (.cells #[p,.slice (some ⟨g,0,none⟩) l.length d] (ρ.t 72)):=o
  rw [Lib.cell_of_heap this];rfl
 have Z:(Builtin.unsafeSliceData_ #[(ρ.t 37)] (ρ.t 127) #[.slice (some ⟨g,0,none⟩) l.length d]).run P w.drew=.ok (.pointer (some ⟨g,0,none⟩)) w.drew :=
  Lib.run_unsafeSliceData_row _ _ _ _ _ _ (by omega)
 have ab:(Builtin.unsafeString_ #[(ρ.t 127),(ρ.t 3)] (ρ.t 9) #[.pointer (some ⟨g,0,none⟩),.int .i64 l.length]).run P w.drew=.ok (.string ⟨l.toArray⟩) (w.drew.freeze ⟨g,0,none⟩ l.length) :=
  Lib.run_unsafeString_row w.drew (ρ.t 127) (ρ.t 3) (ρ.t 9) (ρ.t 5) L.t127 X.cellsByte g h.size (by have B:w.drew.heap[g]?=some (.cells h (ρ.t 5)):=hg;simp [World.shape?,B]) l h0 (by omega) (by unfold maxLen at A;omega) (fun j x hx=>i j x hx)
 have C:=L.mixed;have ac:=L.t72;have ad:=L.a72;have ae:=L.z72;have af:=L.v72;have ah:=run_underlying L.t72;have ai:=L.t70;have aj:=L.a70;have ak:=L.z70;have al:=L.v70;have am:=run_underlying L.t70;have an:=L.t37;have ao:=L.a37;have aq:=L.z37;have au:=L.v37;have av:=run_underlying L.t37;have D:=L.t127;have E:=L.a127;have G:=L.z127;have H:=L.v127;have I:=run_underlying L.t127;have t3:=L.t3;have a3:=L.a3;have z3:=L.z3;have v3:=L.v3;have u3:=run_underlying L.t3;have t9:=L.t9;have a9:=L.a9;have z9:=L.z9;have v9:=L.v9;have u9:=run_underlying L.t9;have t5:=X.t5;have a5:=X.a5;have z5:=X.z5;have v5:=X.v5;have u5:=run_underlying X.t5
 go_enter L.f169,Body.n169_ntmps ρ
 go_wp2
 go_region_o
 all_goals (go_wp2;go_ret;exact ⟨rfl,rfl⟩)
end Go.Proofs
namespace Kb
open Go Go.Proofs Go.Shelf
theorem bccf_ct (b:Nat) (l:List UInt8) (s:SV):Ct Tryz.prog 204 #[pp b 0] [] [.blk b #[.pointer none,s.v] 232,os false 5 l s] (fun _=>.tuple #[]) (fun _=>[]) (fun _=>[.blk b #[pp b 0,s.v] 232,os true 5 l s]) (fun _=>[]):=fun w H ε _ _ hst hown=>by
 have hb:w.heap[b]?=some (.cells #[.pointer none,s.v] 232):=(hst.ent 0 b _ rfl).1;refine (Any.Builder_copyCheck_fresh Tryz.lays240 Tryz.Builder_X72_240 b w (by simp [World.cell?,hb]) (by simp [World.shape?,hb];rfl) (by simp [World.frozen?,hb])).mono fun e w' h=>?_;obtain ⟨rfl,rfl⟩:=h
 rw [setCell_blk hb];have f:=RC.heap_lt hb;refine ⟨{ es:=ε },cpost_turn hst ⟨rfl,rfl,rfl,by simp [setBlk],fun k hk hn=>?_⟩ (fun k c o h=>?_) fun k x h=>?_⟩
 ·have d:b≠k:=fun e=>hn (e ▸ List.mem_filterMap.2 ⟨_,List.mem_of_getElem? (show (ents _ ε)[0]?=_ from rfl),rfl⟩)
  simp [setBlk,Array.getElem?_setIfInBounds_ne d]
 ·match k,h with
  | 0,h =>
   have h:some (some (b,Obj.cells #[pp b 0,s.v] 232))=some (some (c,o)):=h;cases h;exact ⟨by simp [setBlk,f],_,rfl⟩
  | 1,h =>
   have h1:=hst.ent 1 c o h;have d:b≠c:=fun e=>by subst e;have:=hst.dis 0 1 b _ o rfl h;cases this
   exact ⟨by simp [setBlk,Array.getElem?_setIfInBounds_ne d];exact h1.1,o,h⟩
  | k+2,h=>cases h
 ·match k,h with
  | 0,h=>cases h;trivial
  | 1,h=>cases h;have ho:OSl 5 H l s.v (ε 1):=hown 1 _ rfl;exact (⟨ho.sl,fun _ _=>trivial⟩:OSl 5 (fun _=>none) l s.v (ε 1))
  | k+2,h=>cases h
theorem bccu_ct (b:Nat) (l:List UInt8) (s:SV):Ct Tryz.prog 204 #[pp b 0] [] [.blk b #[pp b 0,s.v] 232,os false 5 l s] (fun _=>.tuple #[]) (fun _=>[]) (fun _=>[.blk b #[pp b 0,s.v] 232,os true 5 l s]) (fun _=>[]):=fun w H ε _ _ hst hown=>by
 have hb:w.heap[b]?=some (.cells #[pp b 0,s.v] 232):=(hst.ent 0 b _ rfl).1;refine (Any.Builder_copyCheck_used Tryz.lays240 Tryz.Builder_X72_240 b w (by simp [World.cell?,hb])).mono fun e w' h=>?_;obtain ⟨rfl,rfl⟩:=h
 exact ⟨{ es:=ε },cpost_turn hst (Base.refl _ _) (fun k c o h=>⟨(hst.ent k c o h).1,o,h⟩) fun k x h=>by
  match k,h with
  | 0,h=>cases h;trivial
  | 1,h=>cases h;have ho:OSl 5 H l s.v (ε 1):=hown 1 _ rfl;exact (⟨ho.sl,fun _ _=>trivial⟩:OSl 5 (fun _=>none) l s.v (ε 1))
  | k+2,h=>cases h⟩
theorem rows_bytes:∀ l:List UInt8,(rows l).flatten=l.map fun c=>Value.int .u8 c.toNat
 | []=>rfl
 | a :: l=>by show Value.int .u8 a.toNat :: (rows l).flatten=_;rw [rows_bytes l];rfl
theorem bstr_ct (b:Nat) (p:Value) (l:List UInt8) (s:SV) (h0:l≠[]):Ct Tryz.prog 185 #[pp b 0] [] [.blk b #[p,s.v] 232,os false 5 l s] (fun _=>.string ⟨l.toArray⟩) (fun _=>[]) (fun _=>[.blk b #[p,s.v] 232,.no]) (fun _=>[]):=fun w H ε _ _ hst hown=>by
 have hb:w.heap[b]?=some (.cells #[p,s.v] 232):=(hst.ent 0 b _ rfl).1;have ho:OSl 5 H l s.v (ε 1):=hown 1 _ rfl;rcases ho.sl.val with ⟨_,hn,_⟩ | ⟨g,A,d,hv,hε,h1,h2,h3,h4⟩
 ·exact absurd (by simpa [rows] using hn) h0
 ·rw [rows_length] at hv h1;have hE:(ents [.blk b #[p,s.v] 232,os false 5 l s] ε)[1]?=some (some (g,.cells d 5)):=by rw [←hε];rfl
  have hg:w.heap[g]?=some (.cells d 5):=(hst.ent 1 g _ hE).1;have C:b≠g:=fun e=>by subst e;have:=hst.dis 0 1 b _ _ rfl hE;cases this
  have f:=ho.sl.owns (w:=w) (fun c o e=>by rw [hε] at e;cases e;exact hg);have i:∀ (j:Nat) (x:UInt8),l[j]?=some x→w.cell? ((⟨g,0,none⟩:Addr).add j)=some (.int .u8 x.toNat):=fun j x hx=>by
   have hf:(rows l).flatten[j]?=some (.int .u8 x.toNat):=by
    rw [rows_bytes,List.getElem?_map,hx];rfl
   exact World.ownsRow.cells f (g:=g) (by rw [hv];rfl) j _ hf
  have D:w.heap[b]?=some (.cells #[p,.slice (some ⟨g,0,none⟩) l.length A] 232):=by rw [hb];show _=some (Obj.cells #[p,_] _);rw [←hv]
  refine (Builder_String_exact Tryz.lays169 Tryz.Builder_Extra_169 b g A p d l w h0 D hg h1 h2 (by rw [h3];exact Nat.mul_one _) i).mono fun e w' h=>?_;obtain ⟨rfl,rfl⟩:=h
  have B:∀ k,k≠g→(w.drew.freeze ⟨g,0,none⟩ l.length).heap[k]?=w.heap[k]?:=fun k hk=>by
   unfold World.freeze;split
   ·rfl
   ·simp only [Array.getElem?_modify,if_neg (fun e:g=k=>hk e.symm)];rfl
  have E:(w.drew.freeze ⟨g,0,none⟩ l.length).heap.size=w.heap.size:=by
   unfold World.freeze;split
   ·rfl
   ·simp only [Array.size_modify];rfl
  refine ⟨{ es:=ε },cpost_turn hst ?_ (fun k c o h=>?_) fun k x h=>?_⟩
  ·have t:(w.drew.freeze ⟨g,0,none⟩ l.length).os=w.os∧(w.drew.freeze ⟨g,0,none⟩ l.length).tape=w.tape∧(w.drew.freeze ⟨g,0,none⟩ l.length).output=w.output:=by
    unfold World.freeze;split <;> exact ⟨rfl,rfl,rfl⟩
   refine ⟨t.1,t.2.1,t.2.2,by rw [E];exact Nat.le_refl _,fun k hk hn=>B k fun e=>hn ?_⟩;exact List.mem_filterMap.2 ⟨_,List.mem_of_getElem? hE,by rw [e];rfl⟩
  ·match k,h with
   | 0,h =>
    have h:some (some (b,Obj.cells #[p,s.v] 232))=some (some (c,o)):=h;cases h;exact ⟨by rw [B b C];exact hb,_,rfl⟩
   | 1,h=>cases h
   | k+2,h=>cases h
  ·match k,h with
   | 0,h=>cases h;trivial
   | 1,h=>cases h;trivial
   | k+2,h=>cases h
theorem bstru_ct (b:Nat) (l:List UInt8) (s:SV) (h0:l≠[]):Ct Tryz.prog 185 #[pp b 0] [] [.blk b #[pp b 0,s.v] 232,os false 5 l s] (fun _=>.string ⟨l.toArray⟩) (fun _=>[]) (fun _=>[.blk b #[pp b 0,s.v] 232,.no]) (fun _=>[]):=bstr_ct b _ l s h0

open Go Go.Proofs
theorem nan_ct (x:Int) :
  Cp Tryz.prog 232 #[iv x] [] (bv false):=by
 refine vf mo Tryz.func232 6 0 fun _=>?_
 refine vG [.kb false] fun G1=>?_;intro _ _
 refine vG [.u 4] fun G2=>?_;intro _ _
 have e0:(!(decide (x=x)))=false:=by simp
 exact vb 0 [] e0
theorem cmp_ct (x y:Int) :
  Cp Tryz.prog 231 #[iv x,iv y] [] (iv (Bg.cmpI x y)):=by
 refine vf mo Tryz.func231 20 0 fun _=>?_
 refine vG [.u 1] fun G1=>?_;intro _ _
 refine vG [.u 1,.cP 1 232 [] fun G=>nan_ct x,.kb false] fun G2=>?_;intro _ _
 refine vG [.u 1,.cP 1 232 [] fun G=>nan_ct y,.kb false] fun G3=>?_;intro _ _
 refine vG [.kb false] fun G4=>?_;intro _ _
 refine V.condF (by kernel_rfl) ?_;refine vG [.kb false] fun G5=>?_;intro _ _
 refine V.condF (by kernel_rfl) ?_;refine vG [.u 3] fun G6=>?_;intro _ _
 refine vd (x < y) (fun q1=>?_) fun q2=>?_
 ·refine vG [.u 1] fun G7=>?_;intro _ _
  have e0:(-1:Int)=Bg.cmpI x y:=by unfold Bg.cmpI;first | rw [if_pos (by omega)] | (rw [if_neg (by omega)];first | rw [if_pos (by omega)] | rw [if_neg (by omega)])
  exact vi 0 [] e0
 refine vG [.u 3] fun G8=>?_;intro _ _
 refine vd (y < x) (fun q3=>?_) fun q4=>?_
 ·refine vG [.u 1] fun G9=>?_;intro _ _
  have e0:(1:Int)=Bg.cmpI x y:=by unfold Bg.cmpI;first | rw [if_pos (by omega)] | (rw [if_neg (by omega)];first | rw [if_pos (by omega)] | rw [if_neg (by omega)])
  exact vi 0 [] e0
 refine vG [.u 1] fun b=>?_;intro _ _
 have e0:(0:Int)=Bg.cmpI x y:=by unfold Bg.cmpI;first | rw [if_pos (by omega)] | (rw [if_neg (by omega)];first | rw [if_pos (by omega)] | rw [if_neg (by omega)])
 exact vi 0 [] e0
theorem clonei_ct (s:LI) (ss:SV) (i:s.length≤1099511627776) :
  Ct Tryz.prog 221 #[ss.v] [fs true s ss] [] (fun g=>((g.ss 0)).v) (fun g=>[]) (fun g=>[os true 3 s (g.ss 0)]) (fun g=>[]):=by
 refine vf mo Tryz.func221 8 2 fun k0=>?_;obtain ⟨j,f⟩:Lq s ss.v:=kj k0 0
 refine vG [.u 1] fun G1=>?_;intro _ _
 refine vG [.u 1,.isn false (fun _=>ss)] fun G2=>?_;intro _ _
 refine vc (ss.a.isNone) (fun q1=>?_) fun q2=>?_
 ·refine vG [.u 1] fun G3=>?_;intro _ _
  refine V.on (α:=Int) 0 3 (by kernel_rfl) ?_;have e0:([]:LI)=s:=(f _ rfl q1).symm;rw [←e0];exact V.rS [0] [] [] [] [] [0]
 refine nm (([]:LI) ++s:LI) fun l1 d=>vG [.nl 0 1 true 3 ([]:LI) [] (fun _ _ _ _ _=>trivial) (fun _=>#[]),.u 1,.ap 2 1 3 8 false true ([]:LI) (fun G=>⟨atB (G 0).b,0,0⟩) (kF 0 s ss) true l1 d (by first | omega | (simp;omega) | simp) (fun h=>by cases h) (.inr fun _ _=>trivial),.u 1] fun G4=>?_;intro _ _
 have e0:l1=s:=by rw [d];simp
 replace e0:=e0.symm
 subst e0;exact V.rS [0] [(G4 2).s] [] [] [] [1]
theorem clonef_ct (s:LI) (ss:SV) (i:s.length≤1099511627776) :
  Ct Tryz.prog 221 #[ss.v] [fs true s ss] [] (fun g=>((g.ss 0)).v) (fun g=>[fs true s (g.ss 0)]) eF eF:=by
 refine vf mo Tryz.func221 8 1 fun k0=>?_;obtain ⟨j,f⟩:Lq s ss.v:=kj k0 0
 refine vG [.u 1] fun G1=>?_;intro _ _
 refine vG [.u 1,.isn false (fun _=>ss)] fun G2=>?_;intro _ _
 refine vc (ss.a.isNone) (fun q1=>?_) fun q2=>?_
 ·refine vG [.u 1] fun G3=>?_;intro _ _
  refine V.nilF (α:=Int) ?_;have e0:([]:LI)=s:=(f _ rfl q1).symm;rw [←e0];exact V.rS [0] [] [] [] [1] []
 refine nm (([]:LI) ++s:LI) fun l1 d=>vG [.nl 0 0 true 3 ([]:LI) [] (fun _ _ _ _ _=>trivial) (fun _=>#[]),.u 1,.ap 2 0 3 8 false true ([]:LI) (fun G=>⟨atB (G 0).b,0,0⟩) (kF 0 s ss) true l1 d (by first | omega | (simp;omega) | simp) (fun h=>by cases h) (.inr fun _ _=>trivial),.u 1] fun G4=>?_;intro _ _
 refine V.frz 0 true 3 l1 ((G4 2).s) (by kernel_rfl) ?_;have e0:l1=s:=by rw [d];simp
 replace e0:=e0.symm
 subst e0;exact V.rS [0] [(G4 2).s] [] [] [1] []
theorem bright_ct (c:Int) (a:LI) (d:SV) :
  Cp Tryz.prog 214 #[ag (DBig.mk c ⟨a,d⟩)] [fs true a d] (bv (decide (Bg.RtB c a))):=by
 refine vf mo Tryz.func214 45 1 fun k0=>?_;obtain ⟨w, -⟩:Lq a d.v:=kj k0 0
 refine vG [.n 0,.kb false] fun G1=>?_;intro _ _
 refine vG [.u 1,.l 0,.ln (kF 0 a d),.u 1] fun G2=>?_;intro _ _
 refine vG [.u 1,.l 0,.ln (kF 0 a d),.u 1] fun G3=>?_;intro _ _
 refine V.lp (γ:=Int) (fun k0=>⟨[(1,pp ((G1 0).b) 0),(3,iv (a.length:Int)),(10,d.v),(11,iv (a.length:Int)),(12,iv k0)],[fs false a d],[.blk ((G1 0).b) (ca (DBig.mk c ⟨a,d⟩)) 169]⟩) (fun k0=>(0≤k0)∧(k0≤(a.length:Int))∧(∀ i,i < k0.toNat→0≤a.getD i default∧a.getD i default < 1048576)) (fun k0=>((a.length:Int)-k0).toNat) 0 [0] ?_ ?_
 ·refine ⟨by omega,by omega,?_⟩;show ∀ i,i < (0:Int).toNat→0≤a.getD i default∧a.getD i default < 1048576;intro i hi;simp at hi
 rintro k0 hF1 kw4 Z1 hZ1;obtain ⟨A,B,j⟩:=hF1;refine vG [.u 1] fun G4=>?_;intro _ _;refine vd (k0 < (a.length:Int)) (fun q1=>?_) fun q2=>?_
 ·refine nm (a.getD k0.toNat default:Int) fun v1 h=>vG [.iX (kF 0 a d) k0,.lE (kF 0 a d) k0 false v1 h false,.u 1] fun G5=>?_;intro _ _
  refine vG [.u 5,.or g0 false (decide (v1 < 0)) (decide (1048575 < v1))] fun G6=>?_;intro _ _
  refine V.cn (b:=(decide (v1 < 0)) || (decide (1048575 < v1))) (iOT iDT iDT) (iOF iDF iDF) (fun q3=>?_) (fun q4=>?_)
  ·refine vG [.kb false] fun G7=>?_;intro _ _
   have e0:false=decide (Bg.RtB c a):=(decide_eq_false (Bg.rt_bad (k:=k0.toNat) (by omega) h q3)).symm;exact vb 0 [] e0
  refine vG [.aa (k0+1),.u 1] fun G8=>?_;intro _ _
  refine V.rn hZ1 (k0+1) [0] ?_ ?_
  ·refine ⟨by omega,by omega,?_⟩;show ∀ i,i < (k0+1).toNat→0≤a.getD i default∧a.getD i default < 1048576;intro i hi;by_cases e:i < k0.toNat
   ·exact j i e
   rw [show i=k0.toNat by omega,← h];omega
  omega
 refine vG [.u 2] fun G9=>?_;intro _ _
 refine vd ((a.length:Int)=0) (fun q5=>?_) fun q6=>?_
 ·refine vG [.u 1,.l 0,.u 2] fun C=>?_;intro _ _
  have e0:(decide (c=0))=decide (Bg.RtB c a):=by
   refine Bool.eq_iff_iff.2 (Iff.trans iDT (Iff.trans ?_ decide_eq_true_iff.symm));exact Bg.rt_nil (by omega)
  exact vb 0 [] e0
 refine nm ((decide (c=1)) || (decide (c=(-1))):Bool) fun p1 f=>nm ((a.length:Int)-1:Int) fun n1 o=>nm (a.getD n1.toNat default:Int) fun v2 t=>vG [.u 1,.l 0,.u 3,.l 0,.u 1,.orn g0 false (decide (c=1)) (decide (c=(-1))) p1 f,.u 2,.l 0,.u 1,.arg (gT (b:=p1) (iN f (iOT iDT iDT))) ((a.length:Int)-1) n1 o (fun hg=>by omega),.ix (gT (b:=p1) (iN f (iOT iDT iDT))) (kF 0 a d) n1 (fun hg=>⟨by omega,by omega⟩),.le (gT (b:=p1) (iN f (iOT iDT iDT))) (kF 0 a d) n1 none false v2 t (fun hg=>⟨by omega,by omega⟩) false (fun _=>[iv v2]),.u 1,.and g0 false p1 (!(decide (v2=0))),.u 1] fun D=>?_;intro _ _
 have e0:(p1 && (!(decide (v2=0))))=decide (Bg.RtB c a):=by
  refine Bool.eq_iff_iff.2 (Iff.trans (iAT (iN f (iOT iDT iDT)) (iNT iDF)) (Iff.trans ?_ decide_eq_true_iff.symm));exact Bg.rt_ok (by omega) (fun i hi=>j i (by omega)) t (by first | rfl | exact o)
 exact vb 0 [] e0
theorem trim_ct (l:LI) (ls:SV) (hd:Bg.Dg l) :
  Ct Tryz.prog 213 #[ls.v] [fs true l ls] [] (fun g=>((g.ss 0)).v) (fun g=>[fs false (Bg.dig (Bg.nv l)) (g.ss 0)]) eF eF:=by
 refine vf mo Tryz.func213 21 0 fun k0=>?_;obtain ⟨j, -⟩:Lq l ls.v:=kj k0 0
 refine vG [.u 1] fun G1=>?_;intro _ _
 refine vG [.u 1,.ln (kF 0 l ls),.u 1] fun G2=>?_;intro _ _
 refine V.lp (γ:=Int) (fun n=>⟨[(0,ls.v),(3,iv n)],[fs false l ls],[]⟩) (fun n=>(0≤n)∧(n≤(l.length:Int))∧(∀ i,n.toNat≤i→i < l.length→l.getD i 0=0)) (fun n=>n.toNat) (l.length:Int) [0] ?_ ?_
 ·refine ⟨?_,?_,?_⟩
  ·show 0≤(l.length:Int);omega
  ·show (l.length:Int)≤(l.length:Int);omega
  show ∀ i,(l.length:Int).toNat≤i→i < l.length→l.getD i 0=0;intro i h1 h2;omega
 rintro n hF1 kw3 Z1 hZ1;obtain ⟨o,t,f⟩:=hF1;refine nm (l.getD (n-1).toNat default:Int) fun v1 d=>vG [.u 5,.arg (gT (b:=decide (0 < n)) iDT) (n-1) (n-1) rfl (fun hg=>by omega),.ix (gT (b:=decide (0 < n)) iDT) (kF 0 l ls) (n-1) (fun hg=>⟨by omega,by omega⟩),.le (gT (b:=decide (0 < n)) iDT) (kF 0 l ls) (n-1) none false v1 d (fun hg=>⟨by omega,by omega⟩) false (fun _=>[iv v1]),.u 1,.and g0 false (decide (0 < n)) (decide (v1=0))] fun G3=>?_;intro _ _;refine V.cn (b:=(decide (0 < n)) && (decide (v1=0))) (iAT iDT iDT) (iAF iDF iDF) (fun q1=>?_) (fun q2=>?_)
 ·refine vG [.u 1,.aa (n-1),.u 1] fun G4=>?_;intro _ _
  refine V.rn hZ1 (n-1) [0] ?_ ?_
  ·refine ⟨?_,?_,?_⟩
   ·show 0≤(n-1);omega
   ·show (n-1)≤(l.length:Int);omega
   show ∀ i,(n-1).toNat≤i→i < l.length→l.getD i 0=0;intro i h1 h2;by_cases e:n.toNat≤i
   ·exact f i e h2
   rw [show i=(n-1).toNat by omega];exact d.symm.trans q1.2
  omega
 refine nm (l.take n.toNat:LI) fun l1 h=>vG [.u 2,.sl g0 (kF 0 l ls) rfl none (some n) 0 n rfl rfl l1 (by rw [h];simp) (fun _=>⟨by omega,by omega,by omega⟩),.u 1] fun G5=>?_;intro _ _
 have e0:l1=Bg.dig (Bg.nv l):=by rw [h];exact Bg.trim_eq hd (by omega) f (Bg.trim_stop (fun _=>d) q2)
 subst e0;exact V.rS [0] [(ls.sub 1 (0:Int).toNat n.toNat)] [] [] [1] []
theorem trimo_ct (l:LI) (ls:SV) (hd:Bg.Dg l) :
  Ct Tryz.prog 213 #[ls.v] [] [os false 3 l ls] (fun g=>((g.ss 0)).v) (fun g=>[]) (fun g=>[os true 3 (Bg.dig (Bg.nv l)) (g.ss 0)]) (fun g=>[]):=by
 refine vf mo Tryz.func213 21 0 fun k0=>?_;obtain ⟨o, -⟩:Lq l ls.v:=kj k0 0
 refine V.tro 3 l ls 0 (by kernel_rfl) (fun _ _=>trivial) ?_;refine vG [.u 1] fun G1=>?_;intro _ _
 refine vG [.u 1,.ln (kO 3 0 l ls),.u 1] fun G2=>?_;intro _ _
 refine V.lp (γ:=Int) (fun n=>⟨[(0,ls.v),(3,iv n)],[],[os true 3 l ls]⟩) (fun n=>(0≤n)∧(n≤(l.length:Int))∧(∀ i,n.toNat≤i→i < l.length→l.getD i 0=0)) (fun n=>n.toNat) (l.length:Int) [] ?_ ?_
 ·refine ⟨?_,?_,?_⟩
  ·show 0≤(l.length:Int);omega
  ·show (l.length:Int)≤(l.length:Int);omega
  show ∀ i,(l.length:Int).toNat≤i→i < l.length→l.getD i 0=0;intro i h1 h2;omega
 rintro n hF1 kw3 Z1 hZ1;obtain ⟨t,w,f⟩:=hF1;refine nm (l.getD (n-1).toNat default:Int) fun v1 d=>vG [.u 5,.arg (gT (b:=decide (0 < n)) iDT) (n-1) (n-1) rfl (fun hg=>by omega),.ix (gT (b:=decide (0 < n)) iDT) (kO 3 0 l ls) (n-1) (fun hg=>⟨by omega,by omega⟩),.le (gT (b:=decide (0 < n)) iDT) (kO 3 0 l ls) (n-1) none false v1 d (fun hg=>⟨by omega,by omega⟩) false (fun _=>[iv v1]),.u 1,.and g0 false (decide (0 < n)) (decide (v1=0))] fun G3=>?_;intro _ _;refine V.cn (b:=(decide (0 < n)) && (decide (v1=0))) (iAT iDT iDT) (iAF iDF iDF) (fun q1=>?_) (fun q2=>?_)
 ·refine vG [.u 1,.aa (n-1),.u 1] fun G4=>?_;intro _ _
  refine V.rn hZ1 (n-1) [] ?_ ?_
  ·refine ⟨?_,?_,?_⟩
   ·show 0≤(n-1);omega
   ·show (n-1)≤(l.length:Int);omega
   show ∀ i,(n-1).toNat≤i→i < l.length→l.getD i 0=0;intro i h1 h2;by_cases e:n.toNat≤i
   ·exact f i e h2
   rw [show i=(n-1).toNat by omega];exact d.symm.trans q1.2
  omega
 refine nm (l.take n.toNat:LI) fun l1 h=>vG [.u 2,.fro 2 0 3 true l (fun _=>ls) n l1 h (by omega) (by omega),.u 1] fun G5=>?_;intro _ _
 have j:l1=Bg.dig (Bg.nv l):=by rw [h];exact Bg.trim_eq hd (by omega) f (Bg.trim_stop (fun _=>d) q2)
 subst j;exact V.rS [0] [(ls.sub 1 0 n.toNat)] [] [] [] [0]
theorem signed_ct (b:Int) (l:LI) (ls:SV) (hd:Bg.Dg l) :
  Ct Tryz.prog 199 #[iv b,ls.v] [fs true l ls] [] (fun g=>ag (DBig.mk (Bg.sg0 (Bg.nv l) b) ⟨Bg.dig (Bg.nv l),(g.ss 0)⟩)) (fun g=>[fs false (Bg.dig (Bg.nv l)) (g.ss 0)]) eF eF:=by
 refine vf mo Tryz.func199 14 1 fun _=>?_
 refine vG [.n 0] fun G1=>?_;intro _ _
 refine vG [.u 1,.cB 1 213 true [] [] [kA 0 l ls] fun G=>trim_ct l ls (by assumption),.u 1] fun G2=>?_;intro _ _
 refine vG [.u 1,.ln (kF 1 (Bg.dig (Bg.nv l)) ((G2 1).ss 0)),.u 1] fun G3=>?_;intro _ _
 refine vd (((Bg.dig (Bg.nv l)).length:Int)=0) (fun q1=>?_) fun q2=>?_
 ·have d:=Bg.len_dig0.1 q1;refine vG [.u 1,.s 0] fun G4=>?_;intro _ _
  refine V.nilF (α:=Int) ?_;have e1:([]:LI)=Bg.dig (Bg.nv l):=by rw [d];rfl
  rw [←e1];have e0:(0:Int)=Bg.sg0 (Bg.nv l) b:=(if_pos d).symm;exact V.rT [0] [] [] [] [2] [] (cong1 (fun (f:Int)=>(.agg #[iv f,SV.v ({})]:Value)) e0)
 have d:=fun h=>q2 (Bg.len_dig0.2 h)
 refine vG [.u 3,.s 0] fun G5=>?_;intro _ _
 have e0:b=Bg.sg0 (Bg.nv l) b:=(if_neg d).symm;exact V.rT [0] [(G2 1).ss 0] [] [] [1] [] (cong1 (fun (f:Int)=>(.agg #[iv f,((G2 1).ss 0).v]:Value)) e0)
theorem signed_ctv (b:Int) (l:List Int) (ls:SV) (hd:Bg.Dg l) (f:Int) (h:f=Bg.sg0 (Bg.nv l) b) (d:List Int) (i:d=Bg.dig (Bg.nv l)) :
  Ct Tryz.prog 199 #[iv b,ls.v] [fs true l ls] [] (fun g=>ag (DBig.mk f ⟨d,(g.ss 0)⟩)) (fun g=>[fs false d (g.ss 0)]) (fun g=>[]) (fun g=>[]):=by
 subst h i;exact signed_ct b l ls hd

theorem of_ct (n:Int) (hn: -9223372036854775808≤n∧n≤9223372036854775807) :
  Ct Tryz.prog 177 #[iv n] [] [] (fun g=>ag (DBig.mk (Bg.sgn n) ⟨Bg.dig n.natAbs,(g.ss 0)⟩)) (fun g=>[fs true (Bg.dig n.natAbs) (g.ss 0)]) eF eF:=by
 refine vf mo Tryz.func177 25 2 fun _=>?_
 refine vG [.n 0] fun G1=>?_;intro _ _
 refine nm (n % 18446744073709551616:Int) fun n1 H=>vG [.u 1,.ek g0 .u64 n n1 (fun _=>by rw [wrapU64,H]),.u 2] fun G2=>?_;intro _ _
 refine vG [.u 2] fun G3=>?_;intro _ _
 refine vd (n < 0) (fun q1=>?_) fun q2=>?_
 ·refine nm ((0-n1) % 18446744073709551616:Int) fun n2 I=>vG [.u 1,.ek g0 .u64 (0-n1) n2 (fun _=>by rw [wrapU64,I]),.u 2] fun G4=>?_;intro _ _
  refine vG [.u 1] fun G5=>?_;intro _ _
  refine V.on (α:=Int) 1 3 (by kernel_rfl) ?_;refine V.lp (γ:=Int × List Int × SV) (fun ⟨u,l,ls⟩=>⟨[(2,pp ((G1 0).b) 0),(3,iv (-1)),(4,.int .u64 u),(5,ls.v)],[],[.blk ((G1 0).b) (ca (DBig.mk 0 ⟨[],{}⟩)) 169,os true 3 l ls]⟩) (fun ⟨u,l,ls⟩=>(Bg.OfI n.natAbs l u)) (fun ⟨u,l,ls⟩=>u.toNat) (n2,([]:LI),{}) [] ?_ ?_
  ··show Bg.OfI n.natAbs ([]:LI) n2;exact Bg.of_start (by omega) (by omega)
  rintro ⟨u,l,ls⟩ hF1 kw6 Z1 hZ1;have i:Bg.OfI n.natAbs l u:=hF1;obtain ⟨Y, -⟩:Lq l ls.v:=kj kw6 0;have M:=i.u0;have P:u < 18446744073709551616:=by have:=i.sum;have:=Nat.le_mul_of_pos_left u.toNat (Nat.pow_pos (n:=l.length) (show 0 < 1048576 by omega));omega
  refine vG [.u 2] fun G6=>?_;intro _ _
  refine vd (0 < u) (fun q3=>?_) fun q4=>?_
  ·have Q:=Bg.of_len i q3 (by omega);refine nm (u % 1048576:Int) fun n3 t=>nm (l ++[n3]:LI) fun l1 w=>vG [.u 2,.andu g0 u 1048575 n3 20 (by decide) rfl (by rw [t];rfl),.ek g0 .i64 n3 n3 (fun _=>by rw [IntKind.wrap_i64];omega),.nr 4 true 3 [n3] [] (fun _ _ _ _ _=>trivial) (fun _=>#[iv n3]),.ap 5 1 3 8 false true l (fun _=>ls) (kf true (.g 4 0) [n3] (fun G=>⟨atB (G 4).b,1,1⟩)) true l1 w (by first | omega | (simp;omega) | simp) (fun h=>by cases h) (.inr fun _ _=>trivial),.u 1] fun G7=>?_;intro _ _
   refine nm (u / 1048576:Int) fun n4 A=>vG [.u 1,.shrm g0 .u64 .u64 u n4 20 (by decide) (by rw [A];rfl),.u 1] fun G8=>?_;intro _ _
   refine V.rn hZ1 (n4,l1,(G7 5).s) [] ?_ ?_
   ··show Bg.OfI n.natAbs l1 n4;rw [w,t,A];exact Bg.of_step i
   dsimp only;omega
  refine V.frz 1 true 3 l ls (by kernel_rfl) ?_;refine vG [.u 2,.ctT g0 2 199 [kB 0 l ls] (fun _ G=>signed_ct (-1:Int) l ls i.dg),.s 0] fun G9=>?_;intro _ _
  have e1:Bg.dig (Bg.nv l)=Bg.dig n.natAbs:=by rw [Bg.of_end i q4]
  rw [←e1];have e0:(Bg.sg0 (Bg.nv l) (-1:Int))=Bg.sgn n:=by rw [Bg.of_end i q4];exact Bg.of_sgn rfl _ (by omega)
  exact V.rT [0] [(G9 2).ss 0] [] [] [1] [] (cong1 (fun (o:Int)=>(.agg #[iv o,((G9 2).ss 0).v]:Value)) e0)
 refine vG [.u 1] fun Z=>?_;intro _ _
 refine V.on (α:=Int) 1 3 (by kernel_rfl) ?_;refine V.lp (γ:=Int × List Int × SV) (fun ⟨f,d,l_1s⟩=>⟨[(2,pp ((G1 0).b) 0),(3,iv 1),(4,.int .u64 f),(5,l_1s.v)],[],[.blk ((G1 0).b) (ca (DBig.mk 0 ⟨[],{}⟩)) 169,os true 3 d l_1s]⟩) (fun ⟨f,d,l_1s⟩=>(Bg.OfI n.natAbs d f)) (fun ⟨f,d,l_1s⟩=>f.toNat) (n1,([]:LI),{}) [] ?_ ?_
 ··show Bg.OfI n.natAbs ([]:LI) n1;exact Bg.of_start (by omega) (by omega)
 rintro ⟨f,d,l_1s⟩ hF2 kw12 Z2 hZ2;have j:Bg.OfI n.natAbs d f:=hF2;obtain ⟨ab, -⟩:Lq d l_1s.v:=kj kw12 0;have M:=j.u0;have P:f < 18446744073709551616:=by have:=j.sum;have:=Nat.le_mul_of_pos_left f.toNat (Nat.pow_pos (n:=d.length) (show 0 < 1048576 by omega));omega
 refine vG [.u 2] fun ac=>?_;intro _ _
 refine vd (0 < f) (fun q5=>?_) fun q6=>?_
 ·have Q:=Bg.of_len j q5 (by omega);refine nm (f % 1048576:Int) fun n5 B=>nm (d ++[n5]:LI) fun l2 C=>vG [.u 2,.andu g0 f 1048575 n5 20 (by decide) rfl (by rw [B];rfl),.ek g0 .i64 n5 n5 (fun _=>by rw [IntKind.wrap_i64];omega),.nr 4 true 3 [n5] [] (fun _ _ _ _ _=>trivial) (fun _=>#[iv n5]),.ap 5 1 3 8 false true d (fun _=>l_1s) (kf true (.g 4 0) [n5] (fun G=>⟨atB (G 4).b,1,1⟩)) true l2 C (by first | omega | (simp;omega) | simp) (fun h=>by cases h) (.inr fun _ _=>trivial),.u 1] fun X=>?_;intro _ _
  refine nm (f / 1048576:Int) fun n6 D=>vG [.u 1,.shrm g0 .u64 .u64 f n6 20 (by decide) (by rw [D];rfl),.u 1] fun ad=>?_;intro _ _
  refine V.rn hZ2 (n6,l2,(X 5).s) [] ?_ ?_
  ··show Bg.OfI n.natAbs l2 n6;rw [C,B,D];exact Bg.of_step j
  dsimp only;omega
 refine V.frz 1 true 3 d l_1s (by kernel_rfl) ?_;refine vG [.u 2,.ctT g0 2 199 [kB 0 d l_1s] (fun _ G=>signed_ct (1:Int) d l_1s j.dg),.s 0] fun E=>?_;intro _ _
 have e1:Bg.dig (Bg.nv d)=Bg.dig n.natAbs:=by rw [Bg.of_end j q6]
 rw [←e1];have e0:(Bg.sg0 (Bg.nv d) (1:Int))=Bg.sgn n:=by rw [Bg.of_end j q6];exact Bg.of_sgn rfl _ (by omega)
 exact V.rT [0] [(E 2).ss 0] [] [] [1] [] (cong1 (fun (o:Int)=>(.agg #[iv o,((E 2).ss 0).v]:Value)) e0)
theorem of_ctv (n:Int) (hn: -9223372036854775808≤n∧n≤9223372036854775807) (d:Int) (f:d=Bg.sgn n) (b:List Int) (h:b=Bg.dig n.natAbs) :
  Ct Tryz.prog 177 #[iv n] [] [] (fun g=>ag (DBig.mk d ⟨b,(g.ss 0)⟩)) (fun g=>[fs true b (g.ss 0)]) (fun g=>[]) (fun g=>[]):=by
 subst f h;exact of_ct n hn

theorem int_ct (c:Int) (a:LI) (d:SV) :
  Cp Tryz.prog 226 #[ag (DBig.mk c ⟨a,d⟩)] [fs true a d] (.tuple #[iv (Bg.intV c a),bv (decide (Bg.inI c a))]):=by
 refine vf mo Tryz.func226 59 1 fun _=>?_
 refine vG [.n 0,.u 1,.kb false] fun G1=>?_;intro _ _
 refine nm ((!(decide (Bg.RtB c a))) || (decide (4 < (a.length:Int))):Bool) fun p1 Q=>vG [.l 0,.cP 1 214 [kA 0 a d] fun G=>bright_ct c a d,.u 3,.l 0,.ln (kF 0 a d),.u 1,.orn g0 false (!(decide (Bg.RtB c a))) (decide (4 < (a.length:Int))) p1 Q] fun G2=>?_;intro _ _
 refine V.cn (b:=p1) (iN Q (iOT (iNT iDF) iDT)) (iN Q (iOF (iNF iDT) iDF)) (fun q1=>?_) (fun q2=>?_)
 ·have w:¬ Bg.inI c a:=by
   rcases q1 with h | h
   ·exact fun hi=>h hi.1
   exact fun hi=>Bg.int_len hi.1 h hi
  refine vG [.u 1,.kb false] fun G3=>?_;intro _ _
  have e0:(0:Int)=Bg.intV c a:=(Bg.intV_n w).symm;have e1:false=decide (Bg.inI c a):=(decide_eq_false w).symm;exact V.rT [0,0] [] [] [] [] [] (cong2 (fun (o:Int) (t:Bool)=>(.tuple #[iv o,bv t]:Value)) e0 e1)
 have i:Bg.RtB c a:=by first | exact (q2).1 | exact Decidable.not_not.1 (q2).1
 have ay:=Bg.zv_s i;refine vG [.u 1] fun G4=>?_;intro _ _
 refine vG [.u 1,.l 0,.ln (kF 0 a d),.u 1] fun G5=>?_;intro _ _
 refine V.lp (γ:=Int × Int) (fun ⟨u,k0⟩=>⟨[(1,pp ((G1 0).b) 0),(4,.int .u64 u),(17,d.v),(18,iv (a.length:Int)),(19,iv k0)],[fs false a d],[.blk ((G1 0).b) (ca (DBig.mk c ⟨a,d⟩)) 169]⟩) (fun ⟨u,k0⟩=>(0≤k0)∧(k0≤(a.length:Int))∧(u=(Bg.nv (a.take k0.toNat):Int))∧(u < 9223372036854775808 * 2)) (fun ⟨u,k0⟩=>((a.length:Int)-k0).toNat) (0,0) [0] ?_ ?_
 ·refine ⟨?_,?_,?_,?_⟩
  ·show 0≤(0:Int);omega
  ·show (0:Int)≤(a.length:Int);omega
  ·show (0:Int)=(Bg.nv (a.take (0:Int).toNat):Int);simp [Bg.nv]
  show (0:Int) < 9223372036854775808 * 2;omega
 rintro ⟨u,k0⟩ hF1 kw6 Z1 hZ1;obtain ⟨az,aA,D,aB⟩:=hF1;refine vG [.u 1] fun G6=>?_;intro _ _;refine vd (k0 < (a.length:Int)) (fun q3=>?_) fun q4=>?_
 ·rcases (by omega:k0=0∨k0=1∨k0=2∨k0=3) with hcs1 | hcs2 | hcs3 | hcs4
  ·refine V.alt (fun (zz:Int)=>(⟨[(1,pp ((G1 0).b) 0),(4,.int .u64 u),(17,d.v),(18,iv (a.length:Int)),(19,iv zz),(20,bv (decide (k0 < (a.length:Int))))],[fs false a d],[.blk ((G1 0).b) (ca (DBig.mk c ⟨a,d⟩)) 169]⟩:St)) hcs1 [0] (by kernel_rfl) ?_;refine nm (a.getD (0:Int).toNat default:Int) fun v1 ah=>vG [.u 1,.iX (kF 0 a d) 0,.lE (kF 0 a d) (0:Int) false v1 ah false,.u 2] fun G7=>?_;intro _ _
   refine vG [.u 1,.kb false,.kb false,.dead,.dead,.kb false] fun G8=>?_;intro _ _
   refine V.condF (by kernel_rfl) ?_;have X:u=(Bg.nv (a.take 0):Int):=by rw [D,hcs1];rfl
   have B:=Bg.take_lt i.dg 0;have f:=Bg.int_step (k:=0) (v:=v1) (by omega) ah i.dg;have C:(1048576:Nat) ^ 0=1:=by decide
   rw [C] at f B;have E:=f.2;have j:Bg.nv (a.take 1)=_:=f.1;refine nm (v1 % 18446744073709551616:Int) fun n1 au=>nm (n1 * 1:Int) fun n2 Y=>nm (u+n2:Int) fun n3 ai=>vG [.u 2,.ek g0 .u64 v1 n1 (fun _=>by rw [wrapU64,au]),.u 2,.shlm g0 .u64 .i64 n1 0 n2 0 (fun _=>⟨rfl,by decide,by show _=IntKind.u64.wrap (n1 * 1);rw [wrapU64];omega⟩),.oru g0 u n2 n1 n3 0 (by rw [Y];rfl) (fun _=>⟨by decide,by omega,⟨by omega,by show _ < (1:Int);omega⟩,by rw [ai,Y];show _=_ * (1:Int)+_;omega,by omega⟩),.u 1] fun G9=>?_;intro _ _
   refine vG [.u 2] fun aC=>?_;intro _ _
   refine V.rn hZ1 (n3,1) [0] ?_ ?_
   ·refine ⟨?_,?_,?_,?_⟩
    ·show 0≤(1:Int);omega
    ·show (1:Int)≤(a.length:Int);omega
    ·show n3=(Bg.nv (a.take (1:Int).toNat):Int);show n3=(Bg.nv (a.take 1):Int);rw [j,ai,Y];omega
    show n3 < 9223372036854775808 * 2;omega
   dsimp only;omega
  ·refine V.alt (fun (zz:Int)=>(⟨[(1,pp ((G1 0).b) 0),(4,.int .u64 u),(17,d.v),(18,iv (a.length:Int)),(19,iv zz),(20,bv (decide (k0 < (a.length:Int))))],[fs false a d],[.blk ((G1 0).b) (ca (DBig.mk c ⟨a,d⟩)) 169]⟩:St)) hcs2 [0] (by kernel_rfl) ?_;refine nm (a.getD (1:Int).toNat default:Int) fun v2 aj=>vG [.u 1,.iX (kF 0 a d) 1,.lE (kF 0 a d) (1:Int) false v2 aj false,.u 2] fun aD=>?_;intro _ _
   refine vG [.u 1,.kb false,.kb false,.dead,.dead,.kb false] fun aE=>?_;intro _ _
   refine V.condF (by kernel_rfl) ?_;have X:u=(Bg.nv (a.take 1):Int):=by rw [D,hcs2];rfl
   have B:=Bg.take_lt i.dg 1;have f:=Bg.int_step (k:=1) (v:=v2) (by omega) aj i.dg;have C:(1048576:Nat) ^ 1=1048576:=by decide
   rw [C] at f B;have E:=f.2;have j:Bg.nv (a.take 2)=_:=f.1;refine nm (v2 % 18446744073709551616:Int) fun n4 av=>nm (n4 * 1048576:Int) fun n5 Z=>nm (u+n5:Int) fun n6 ak=>vG [.u 2,.ek g0 .u64 v2 n4 (fun _=>by rw [wrapU64,av]),.u 2,.shlm g0 .u64 .i64 n4 20 n5 20 (fun _=>⟨rfl,by decide,by show _=IntKind.u64.wrap (n4 * 1048576);rw [wrapU64];omega⟩),.oru g0 u n5 n4 n6 20 (by rw [Z];rfl) (fun _=>⟨by decide,by omega,⟨by omega,by show _ < (1048576:Int);omega⟩,by rw [ak,Z];show _=_ * (1048576:Int)+_;omega,by omega⟩),.u 1] fun aF=>?_;intro _ _
   refine vG [.u 2] fun aG=>?_;intro _ _
   refine V.rn hZ1 (n6,2) [0] ?_ ?_
   ·refine ⟨?_,?_,?_,?_⟩
    ·show 0≤(2:Int);omega
    ·show (2:Int)≤(a.length:Int);omega
    ·show n6=(Bg.nv (a.take (2:Int).toNat):Int);show n6=(Bg.nv (a.take 2):Int);rw [j,ak,Z];omega
    show n6 < 9223372036854775808 * 2;omega
   dsimp only;omega
  ·refine V.alt (fun (zz:Int)=>(⟨[(1,pp ((G1 0).b) 0),(4,.int .u64 u),(17,d.v),(18,iv (a.length:Int)),(19,iv zz),(20,bv (decide (k0 < (a.length:Int))))],[fs false a d],[.blk ((G1 0).b) (ca (DBig.mk c ⟨a,d⟩)) 169]⟩:St)) hcs3 [0] (by kernel_rfl) ?_;refine nm (a.getD (2:Int).toNat default:Int) fun v3 al=>vG [.u 1,.iX (kF 0 a d) 2,.lE (kF 0 a d) (2:Int) false v3 al false,.u 2] fun aH=>?_;intro _ _
   refine vG [.u 1,.kb false,.kb false,.dead,.dead,.kb false] fun aI=>?_;intro _ _
   refine V.condF (by kernel_rfl) ?_;have X:u=(Bg.nv (a.take 2):Int):=by rw [D,hcs3];rfl
   have B:=Bg.take_lt i.dg 2;have f:=Bg.int_step (k:=2) (v:=v3) (by omega) al i.dg;have C:(1048576:Nat) ^ 2=1099511627776:=by decide
   rw [C] at f B;have E:=f.2;have j:Bg.nv (a.take 3)=_:=f.1;refine nm (v3 % 18446744073709551616:Int) fun n7 aw=>nm (n7 * 1099511627776:Int) fun n8 ab=>nm (u+n8:Int) fun n9 am=>vG [.u 2,.ek g0 .u64 v3 n7 (fun _=>by rw [wrapU64,aw]),.u 2,.shlm g0 .u64 .i64 n7 40 n8 40 (fun _=>⟨rfl,by decide,by show _=IntKind.u64.wrap (n7 * 1099511627776);rw [wrapU64];omega⟩),.oru g0 u n8 n7 n9 40 (by rw [ab];rfl) (fun _=>⟨by decide,by omega,⟨by omega,by show _ < (1099511627776:Int);omega⟩,by rw [am,ab];show _=_ * (1099511627776:Int)+_;omega,by omega⟩),.u 1] fun aJ=>?_;intro _ _
   refine vG [.u 2] fun aK=>?_;intro _ _
   refine V.rn hZ1 (n9,3) [0] ?_ ?_
   ·refine ⟨?_,?_,?_,?_⟩
    ·show 0≤(3:Int);omega
    ·show (3:Int)≤(a.length:Int);omega
    ·show n9=(Bg.nv (a.take (3:Int).toNat):Int);show n9=(Bg.nv (a.take 3):Int);rw [j,am,ab];omega
    show n9 < 9223372036854775808 * 2;omega
   dsimp only;omega
  refine V.alt (fun (zz:Int)=>(⟨[(1,pp ((G1 0).b) 0),(4,.int .u64 u),(17,d.v),(18,iv (a.length:Int)),(19,iv zz),(20,bv (decide (k0 < (a.length:Int))))],[fs false a d],[.blk ((G1 0).b) (ca (DBig.mk c ⟨a,d⟩)) 169]⟩:St)) hcs4 [0] (by kernel_rfl) ?_;refine nm (a.getD (3:Int).toNat default:Int) fun v4 ac=>vG [.u 1,.iX (kF 0 a d) 3,.lE (kF 0 a d) (3:Int) false v4 ac false,.u 2] fun aL=>?_;intro _ _
  refine vG [.u 1,.kb true,.kb true,.u 3] fun aM=>?_;intro _ _
  refine vd (8 < v4) (fun q5=>?_) fun q6=>?_
  ·have w:=Bg.int_top i (by omega) ac (by omega);refine vG [.u 1,.kb false] fun aN=>?_;intro _ _
   have e0:(0:Int)=Bg.intV c a:=(Bg.intV_n w).symm;have e1:false=decide (Bg.inI c a):=(decide_eq_false w).symm;exact V.rT [0,0] [] [] [] [] [] (cong2 (fun (o:Int) (t:Bool)=>(.tuple #[iv o,bv t]:Value)) e0 e1)
  have X:u=(Bg.nv (a.take 3):Int):=by rw [D,hcs4];rfl
  have B:=Bg.take_lt i.dg 3;have f:=Bg.int_step (k:=3) (v:=v4) (by omega) ac i.dg;have C:(1048576:Nat) ^ 3=1152921504606846976:=by decide
  rw [C] at f B;have E:=f.2;have j:Bg.nv (a.take 4)=_:=f.1;refine nm (v4 % 18446744073709551616:Int) fun H an=>nm (H * 1152921504606846976:Int) fun ad I=>nm (u+ad:Int) fun M P=>vG [.u 2,.ek g0 .u64 v4 H (fun _=>by rw [wrapU64,an]),.u 2,.shlm g0 .u64 .i64 H 60 ad 60 (fun _=>⟨rfl,by decide,by show _=IntKind.u64.wrap (H * 1152921504606846976);rw [wrapU64];omega⟩),.oru g0 u ad H M 60 (by rw [I];rfl) (fun _=>⟨by decide,by omega,⟨by omega,by show _ < (1152921504606846976:Int);omega⟩,by rw [P,I];show _=_ * (1152921504606846976:Int)+_;omega,by omega⟩),.u 1] fun aO=>?_;intro _ _
  refine vG [.u 2] fun aP=>?_;intro _ _
  refine V.rn hZ1 (M,4) [0] ?_ ?_
  ·refine ⟨?_,?_,?_,?_⟩
   ·show 0≤(4:Int);omega
   ·show (4:Int)≤(a.length:Int);omega
   ·show M=(Bg.nv (a.take (4:Int).toNat):Int);show M=(Bg.nv (a.take 4):Int);rw [j,P,I];omega
   show M < 9223372036854775808 * 2;omega
  dsimp only;omega
 have ax:u=(Bg.nv a:Int):=by rw [D,List.take_of_length_le (by omega)]
 refine nm ((decide (c < 0)) && (decide (u≤9223372036854775808)):Bool) fun p2 ae=>vG [.u 1,.l 0,.u 4,.andn g0 false (decide (c < 0)) (decide (u≤9223372036854775808)) p2 ae,.u 1] fun aQ=>?_;intro _ _
 refine V.cn (b:=p2) (iN ae (iAT iDT iDT)) (iN ae (iAF iDF iDF)) (fun q7=>?_) (fun q8=>?_)
 ·have A:Bg.inI c a:=⟨i,by omega⟩;refine nm ((0-u) % 18446744073709551616:Int) fun ao aq=>vG [.u 1,.ek g0 .u64 (0-u) ao (fun _=>by rw [wrapU64,aq]),.ek g0 .i64 ao (-u) (fun _=>by rw [IntKind.wrap_i64];omega),.u 1,.kb true] fun aS=>?_;intro _ _
  have e0:(-u)=Bg.intV c a:=by rw [Bg.intV_y A];omega
  have e1:true=decide (Bg.inI c a):=(decide_eq_true A).symm;exact V.rT [0,0] [] [] [] [] [] (cong2 (fun (o:Int) (t:Bool)=>(.tuple #[iv o,bv t]:Value)) e0 e1)
 refine nm ((decide (0≤c)) && (decide (u < 9223372036854775808)):Bool) fun p3 af=>vG [.u 1,.l 0,.u 4,.andn g0 false (decide (0≤c)) (decide (u < 9223372036854775808)) p3 af,.u 1] fun aT=>?_;intro _ _
 refine V.cn (b:=p3) (iN af (iAT iDT iDT)) (iN af (iAF iDF iDF)) (fun q9=>?_) (fun aU=>?_)
 ·have A:Bg.inI c a:=⟨i,by omega⟩;refine vG [.u 1,.ek g0 .i64 u u (fun _=>by rw [IntKind.wrap_i64];omega),.u 1,.kb true] fun aV=>?_;intro _ _
  have e0:u=Bg.intV c a:=by rw [Bg.intV_y A];omega
  have e1:true=decide (Bg.inI c a):=(decide_eq_true A).symm;exact V.rT [0,0] [] [] [] [] [] (cong2 (fun (o:Int) (t:Bool)=>(.tuple #[iv o,bv t]:Value)) e0 e1)
 have w:¬ Bg.inI c a:=fun hi=>by have:=hi.2;omega
 refine vG [.u 1,.kb false] fun aW=>?_;intro _ _
 have e0:(0:Int)=Bg.intV c a:=(Bg.intV_n w).symm;have e1:false=decide (Bg.inI c a):=(decide_eq_false w).symm;exact V.rT [0,0] [] [] [] [] [] (cong2 (fun (o:Int) (t:Bool)=>(.tuple #[iv o,bv t]:Value)) e0 e1)
theorem int_ctv (b:Int) (a:List Int) (c:SV) (d:Int) (f:d=Bg.intV b a) :
  Cp Tryz.prog 226 #[ag (DBig.mk b ⟨a,c⟩)] [fs true a c] (.tuple #[iv d,bv (decide (Bg.inI b a))]):=by
 subst f;exact int_ct b a c 

theorem cmpd_ct (a:LI) (as_:SV) (b:LI) (bs:SV) (j:Bg.Dg a) (o:Bg.Dg b) (A:Bg.Nz a) (B:Bg.Nz b) :
  Cp Tryz.prog 228 #[as_.v,bs.v] [fs true a as_,fs true b bs] (iv (Bg.cmpI (Bg.nv a) (Bg.nv b))):=by
 refine vf mo Tryz.func228 41 0 fun k0=>?_;obtain ⟨D, -⟩:Lq a as_.v:=kj k0 0
 refine vG [.u 1] fun G1=>?_;intro _ _
 refine vG [.u 1,.ln (kF 0 a as_),.u 1,.ln (kF 1 b bs),.u 1] fun G2=>?_;intro _ _
 refine vn ((a.length:Int)=(b.length:Int)) (fun q1=>?_) fun q2=>?_
 ·refine vG [.u 1,.ln (kF 0 a as_),.u 1,.ln (kF 1 b bs),.cP 4 231 [] fun G=>cmp_ct (a.length:Int) (b.length:Int),.u 1] fun G3=>?_;intro _ _
  have e0:(Bg.cmpI (a.length:Int) (b.length:Int))=Bg.cmpI (Bg.nv a) (Bg.nv b):=Bg.cmp_lens j o A B q1;exact vi 0 [] e0
 refine nm ((a.length:Int)-1:Int) fun n1 C=>vG [.u 1,.ln (kF 0 a as_),.aR ((a.length:Int)-1) n1 C,.u 1] fun G4=>?_;intro _ _
 refine V.lp (γ:=Int) (fun i=>⟨[(0,as_.v),(1,bs.v),(5,iv i)],[fs false a as_,fs false b bs],[]⟩) (fun i=>(-1≤i)∧(i < (a.length:Int))∧(a.drop (i+1).toNat=b.drop (i+1).toNat)) (fun i=>(i+1).toNat) n1 [0,1] ?_ ?_
 ·refine ⟨?_,?_,?_⟩
  ·show -1≤n1;omega
  ·show n1 < (a.length:Int);omega
  show a.drop (n1+1).toNat=b.drop (n1+1).toNat;rw [List.drop_of_length_le (by omega),List.drop_of_length_le (by omega)]
 rintro i hF1 kw5 Z1 hZ1;obtain ⟨E,H,h⟩:=hF1;refine vG [.u 2] fun G5=>?_;intro _ _;refine vd (0≤i) (fun q3=>?_) fun q4=>?_
 ·refine nm (a.getD i.toNat default:Int) fun v1 d=>nm (b.getD i.toNat default:Int) fun v2 f=>vG [.u 2,.iX (kF 0 a as_) i,.lE (kF 0 a as_) i false v1 d false,.u 2,.iX (kF 1 b bs) i,.lE (kF 1 b bs) i false v2 f false,.u 1] fun G6=>?_;intro _ _
  refine vn (v1=v2) (fun q5=>?_) fun q6=>?_
  ·refine vG [.u 2,.iX (kF 0 a as_) i,.lE (kF 0 a as_) i false v1 d false,.u 2,.iX (kF 1 b bs) i,.lE (kF 1 b bs) i false v2 f false,.cP 8 231 [] fun G=>cmp_ct v1 v2,.u 1] fun G7=>?_;intro _ _
   have e0:(Bg.cmpI v1 v2)=Bg.cmpI (Bg.nv a) (Bg.nv b):=by rw [d,f];exact Bg.cmp_ne (i:=i.toNat) j o (by omega) (by omega) (by rw [show i.toNat+1=(i+1).toNat by omega];exact h) (by have t:=q5;rw [d,f] at t;exact t)
   exact vi 0 [] e0
  refine vG [.u 1,.aa (i-1),.u 1] fun G8=>?_;intro _ _
  refine V.rn hZ1 (i-1) [0,1] ?_ ?_
  ·refine ⟨?_,?_,?_⟩
   ·show -1≤(i-1);omega
   ·show (i-1) < (a.length:Int);omega
   show a.drop ((i-1)+1).toNat=b.drop ((i-1)+1).toNat;rw [show (i-1+1).toNat=i.toNat by omega];exact Bg.drop_eq (by omega) (by omega) (by rw [show i.toNat+1=(i+1).toNat by omega];exact h) (by have he:=q6;rw [d,f] at he;exact he)
  omega
 refine vG [.u 1] fun G9=>?_;intro _ _
 have e0:(0:Int)=Bg.cmpI (Bg.nv a) (Bg.nv b):=by
  have w:=h;rw [show (i+1).toNat=0 by omega,List.drop_zero,List.drop_zero] at w;rw [w];unfold Bg.cmpI;rw [if_neg (by omega),if_pos rfl]
 exact vi 0 [] e0
theorem neg_ct (d:Int) (c:LI) (e:SV) (h:c.length≤1099511627776) :
  Ct Tryz.prog 215 #[ag (DBig.mk d ⟨c,e⟩)] [fs true c e] [] (fun g=>ag (DBig.mk (Bg.oS (Bg.RtB d c) (-Bg.zv d c)) ⟨Bg.oD (Bg.RtB d c) (-Bg.zv d c),(g.ss 0)⟩)) (fun g=>[fs true (Bg.oD (Bg.RtB d c) (-Bg.zv d c)) (g.ss 0)]) eF eF:=by
 refine vf mo Tryz.func215 14 2 fun _=>?_
 refine vG [.n 0,.n 1] fun G1=>?_;intro _ _
 refine vG [.l 0,.cP 1 214 [kA 0 c e] fun G=>bright_ct d c e,.u 1] fun G2=>?_;intro _ _
 refine vn (Bg.RtB d c) (fun q1=>?_) fun q2=>?_
 ·refine vG [.u 1,.s 1] fun G3=>?_;intro _ _
  refine V.nilF (α:=Int) ?_;have e1:([]:LI)=Bg.oD (Bg.RtB d c) (-Bg.zv d c):=(Bg.oD_n q1 _).symm;rw [←e1];have e0:(0:Int)=Bg.oS (Bg.RtB d c) (-Bg.zv d c):=(Bg.oS_n q1 _).symm;exact V.rT [1] [] [] [] [1] [] (cong1 (fun (f:Int)=>(.agg #[iv f,SV.v ({})]:Value)) e0)
 have b:Bg.RtB d c:=by first | exact q2 | exact Decidable.not_not.1 q2
 have i:=Bg.sg_le b;refine vG [.u 1,.l 0,.ng d (-d) rfl (by omega) (by omega),.u 1,.l 0,.cA 5 221 [kA 0 c e] fun G=>clonef_ct c e (by omega),.ctT g0 6 199 [(kf true (.g 5 0) c (fun G=>(G 5).ss 0)).a] (fun _ G=>signed_ct (-d) c ((G 5).ss 0) b.dg),.s 1] fun G4=>?_;intro _ _
 have e1:Bg.dig (Bg.nv c)=Bg.oD (Bg.RtB d c) (-Bg.zv d c):=by rw [Bg.oD_y b];exact Bg.neg_d b
 rw [←e1];have e0:(Bg.sg0 (Bg.nv c) (-d))=Bg.oS (Bg.RtB d c) (-Bg.zv d c):=by rw [Bg.oS_y b];exact Bg.neg_s b
 exact V.rT [1] [(G4 6).ss 0] [] [] [2] [] (cong1 (fun (f:Int)=>(.agg #[iv f,((G4 6).ss 0).v]:Value)) e0)
theorem neg_ctv (b:Int) (a:List Int) (c:SV) (j:a.length≤1099511627776) (f:Int) (h:f=Bg.oS (Bg.RtB b a) (-Bg.zv b a)) (d:List Int) (i:d=Bg.oD (Bg.RtB b a) (-Bg.zv b a)) :
  Ct Tryz.prog 215 #[ag (DBig.mk b ⟨a,c⟩)] [fs true a c] [] (fun g=>ag (DBig.mk f ⟨d,(g.ss 0)⟩)) (fun g=>[fs true d (g.ss 0)]) (fun g=>[]) (fun g=>[]):=by
 subst h i;exact neg_ct b a c j

theorem mulo_ct (a:LI) (j:SV) (b:LI) (bs:SV) (D:Bg.Dg a) (E:Bg.Dg b) (au:a.length≤1099511627776) (av:b.length≤1099511627776) :
  Ct Tryz.prog 227 #[j.v,bs.v] [fs true a j,fs true b bs] [] (fun g=>((g.ss 0)).v) (fun g=>[]) (fun g=>[os true 3 (Bg.dig (Bg.nv a * Bg.nv b)) (g.ss 0)]) (fun g=>[]):=by
 refine vf mo Tryz.func227 67 1 fun _=>?_
 refine vG [.u 1] fun G1=>?_;intro _ _
 refine nm ((a.length:Int)+(b.length:Int):Int) fun n1 ae=>nm (List.replicate n1.toNat (0:Int):LI) fun l1 H=>vG [.u 1,.ln (kF 0 a j),.u 1,.ln (kF 1 b bs),.aR ((a.length:Int)+(b.length:Int)) n1 ae,.mks 5 0 3 8 n1 l1 H (by omega) (by omega) (by omega),.u 1] fun G2=>?_;intro _ _
 refine vG [.u 1,.ln (kF 0 a j),.u 1] fun G3=>?_;intro _ _
 refine V.lp (γ:=List Int × SV × Int) (fun ⟨o,i,k0⟩=>⟨[(1,bs.v),(5,i.v),(18,j.v),(19,iv (a.length:Int)),(20,iv k0)],[fs false b bs,fs false a j],[os true 3 o i]⟩) (fun ⟨o,i,k0⟩=>(0≤k0)∧(k0≤(a.length:Int))∧(Bg.MulO a b o k0.toNat)) (fun ⟨o,i,k0⟩=>((a.length:Int)-k0).toNat) (l1,(G2 5).s,0) [1,0] ?_ ?_
 ·refine ⟨by omega,by omega,?_⟩;show Bg.MulO a b l1 (0:Int).toNat;rw [H,show n1.toNat=a.length+b.length by omega];exact Bg.mul_start _ _
 rintro ⟨o,i,k0⟩ hF1 kw4 Z1 hZ1;obtain ⟨aw,ax,I⟩:=hF1;refine vG [.u 1] fun G4=>?_;intro _ _;refine vd (k0 < (a.length:Int)) (fun q1=>?_) fun q2=>?_
 ·refine nm (a.getD k0.toNat default:Int) fun v1 M=>vG [.u 1,.iX (kF 1 a j) k0,.lE (kF 1 a j) k0 false v1 M false,.u 2] fun G5=>?_;intro _ _
  refine vG [.u 1] fun G6=>?_;intro _ _
  refine vG [.u 1,.ln (kF 0 b bs),.u 1] fun G7=>?_;intro _ _
  refine V.lp (γ:=List Int × SV × Int × Int) (fun ⟨d,f,h,k1⟩=>⟨[(1,bs.v),(5,f.v),(6,iv k0),(7,iv v1),(8,iv h),(18,j.v),(19,iv (a.length:Int)),(20,iv k0),(25,bs.v),(26,iv (b.length:Int)),(27,iv k1)],[fs false b bs,fs false a j],[os true 3 d f]⟩) (fun ⟨d,f,h,k1⟩=>(0≤k1)∧(k1≤(b.length:Int))∧(Bg.MulI a b d k0.toNat k1.toNat h)) (fun ⟨d,f,h,k1⟩=>((b.length:Int)-k1).toNat) (o,i,0,0) [0,1] ?_ ?_
  ·refine ⟨by omega,by omega,?_⟩;show Bg.MulI a b o k0.toNat (0:Int).toNat (0:Int);exact Bg.MulO.inner I
  rintro ⟨d,f,h,k1⟩ hF2 kw9 Z2 hZ2;obtain ⟨ay,az,t⟩:=hF2;have an:=t.len;refine vG [.u 1] fun G8=>?_;intro _ _;refine vd (k1 < (b.length:Int)) (fun q3=>?_) fun q4=>?_
  ·refine nm (b.getD k1.toNat default:Int) fun v2 P=>vG [.u 1,.iX (kF 0 b bs) k1,.lE (kF 0 b bs) k1 false v2 P false,.u 2] fun G9=>?_;intro _ _
   refine nm (d.getD (k0+k1).toNat default:Int) fun v3 A=>nm (v1 * v2:Int) fun n2 af=>nm (v3+n2+h:Int) fun n3 ah=>?_;have ex:a.getD k0.toNat 0=v1:=M.symm
   have ey:b.getD k1.toNat 0=v2:=P.symm;have eo:d.getD (k0+k1).toNat 0=v3:=A.symm;have bx:=D.get' k0.toNat;have Q:=E.get' k1.toNat;have bo:=t.dg.get' (k0+k1).toNat;have bc:=t.c0;rw [ex] at bx;rw [ey] at Q;rw [eo] at bo;have bp:=Bg.dmul bx Q;refine vG [.u 3,.aa (k0+k1),.iX (kO 3 0 d f) (k0+k1),.lE (kO 3 0 d f) (k0+k1) false v3 A false,.u 2,.aR (v1 * v2) n2 af,.aa (v3+n2),.u 1,.aR (v3+n2+h) n3 ah,.u 1] fun aA=>?_;intro _ _
   have ai:n3=d.getD (k0.toNat+k1.toNat) 0+a.getD k0.toNat 0 * b.getD k1.toNat 0+h:=by rw [ex,ey,show k0.toNat+k1.toNat=(k0+k1).toNat by omega,eo];omega
   have stp:=Bg.mul_step t D E (by omega) (by omega) ai;have ao:=stp.1;have X:=stp.2;clear stp;refine nm (n3 % 1048576:Int) fun n4 Y=>nm (n3 / 1048576:Int) fun n5 Z=>nm (d.set (k0+k1).toNat n4:LI) fun l2 ab=>vG [.u 3,.aa (k0+k1),.u 1,.andm g0 n3 1048575 n4 20 (by decide) rfl (by rw [Y];rfl),.u 1,.shrm g0 .i64 .u64 n3 n5 20 (by decide) (by rw [Z];rfl),.iX (kO 3 0 d f) (k0+k1),.se g0 9 0 3 true d (fun _=>f) (k0+k1) none v3 n4 A true l2 ab (fun _=>⟨by omega,by omega⟩) (fun _=>rfl) [] (fun _ _ _ _=>trivial),.u 1] fun aB=>?_;intro _ _
   refine vG [.aa (k1+1),.u 1] fun aC=>?_;intro _ _
   refine V.rn hZ2 (l2,f,n5,k1+1) [0,1] ?_ ?_
   ·refine ⟨by omega,by omega,?_⟩;show Bg.MulI a b l2 k0.toNat (k1+1).toNat n5;rw [ab,Y,Z,show (k0+k1).toNat=k0.toNat+k1.toNat by omega,show (k1+1).toNat=k1.toNat+1 by omega];exact X
   dsimp only;omega
  refine nm (k0+(b.length:Int):Int) fun n6 aj=>nm (d.getD n6.toNat default:Int) fun v4 B=>nm (d.set n6.toNat (v4+h):LI) fun l3 ac=>?_;have w:=t
  rw [show k1.toNat=b.length by omega] at w;have eo:d.getD n6.toNat 0=v4:=B.symm;have bo:=w.dg.get' n6.toNat;have bc:=w.c0;have aq:=w.len;rw [eo] at bo;refine vG [.u 3,.ln (kF 0 b bs),.aR (k0+(b.length:Int)) n6 aj,.iX (kO 3 0 d f) n6,.lE (kO 3 0 d f) n6 false v4 B false,.u 1,.aa (v4+h),.iX (kO 3 0 d f) n6,.se g0 10 0 3 true d (fun _=>f) n6 none v4 (v4+h) B true l3 ac (fun _=>⟨by omega,by omega⟩) (fun _=>rfl) [] (fun _ _ _ _=>trivial)] fun aD=>?_;intro _ _
  refine vG [.aa (k0+1),.u 1] fun aE=>?_;intro _ _
  refine V.rn hZ1 (l3,f,k0+1) [0,1] ?_ ?_
  ·refine ⟨by omega,by omega,?_⟩;show Bg.MulO a b l3 (k0+1).toNat;have ak:=Bg.mul_end (x:=(v4+h)) w (by omega) (by rw [show k0.toNat+b.length=n6.toNat by omega,eo]);rw [ac,show n6.toNat=k0.toNat+b.length by omega,show (k0+1).toNat=k0.toNat+1 by omega];exact ak
  dsimp only;omega
 have C:=I;rw [show k0.toNat=a.length by omega] at C;have al:=C.dg;have ad:=C.sum;rw [List.take_length] at ad;refine vG [.u 1,.cB 1 213 false [0] [] [] fun G=>trimo_ct o i al,.u 1] fun am=>?_;intro _ _
 have e0:Bg.dig (Bg.nv o)=Bg.dig (Bg.nv a * Bg.nv b):=by rw [ad]
 rw [←e0];exact V.rS [0] [(am 1).ss 0] [] [] [] [0]
theorem mul_ct (a:LI) (o:SV) (b:LI) (bs:SV) (D:Bg.Dg a) (E:Bg.Dg b) (au:a.length≤1099511627776) (av:b.length≤1099511627776) :
  Ct Tryz.prog 227 #[o.v,bs.v] [fs true a o,fs true b bs] [] (fun g=>((g.ss 0)).v) (fun g=>[fs true (Bg.dig (Bg.nv a * Bg.nv b)) (g.ss 0)]) eF eF:=by
 refine vf mo Tryz.func227 67 1 fun _=>?_
 refine vG [.u 1] fun G1=>?_;intro _ _
 refine nm ((a.length:Int)+(b.length:Int):Int) fun n1 ae=>nm (List.replicate n1.toNat (0:Int):LI) fun l1 H=>vG [.u 1,.ln (kF 0 a o),.u 1,.ln (kF 1 b bs),.aR ((a.length:Int)+(b.length:Int)) n1 ae,.mks 5 0 3 8 n1 l1 H (by omega) (by omega) (by omega),.u 1] fun G2=>?_;intro _ _
 refine vG [.u 1,.ln (kF 0 a o),.u 1] fun G3=>?_;intro _ _
 refine V.lp (γ:=List Int × SV × Int) (fun ⟨j,i,k0⟩=>⟨[(1,bs.v),(5,i.v),(18,o.v),(19,iv (a.length:Int)),(20,iv k0)],[fs false b bs,fs false a o],[os true 3 j i]⟩) (fun ⟨j,i,k0⟩=>(0≤k0)∧(k0≤(a.length:Int))∧(Bg.MulO a b j k0.toNat)) (fun ⟨j,i,k0⟩=>((a.length:Int)-k0).toNat) (l1,(G2 5).s,0) [1,0] ?_ ?_
 ·refine ⟨by omega,by omega,?_⟩;show Bg.MulO a b l1 (0:Int).toNat;rw [H,show n1.toNat=a.length+b.length by omega];exact Bg.mul_start _ _
 rintro ⟨j,i,k0⟩ hF1 kw4 Z1 hZ1;obtain ⟨aw,ax,I⟩:=hF1;refine vG [.u 1] fun G4=>?_;intro _ _;refine vd (k0 < (a.length:Int)) (fun q1=>?_) fun q2=>?_
 ·refine nm (a.getD k0.toNat default:Int) fun v1 M=>vG [.u 1,.iX (kF 1 a o) k0,.lE (kF 1 a o) k0 false v1 M false,.u 2] fun G5=>?_;intro _ _
  refine vG [.u 1] fun G6=>?_;intro _ _
  refine vG [.u 1,.ln (kF 0 b bs),.u 1] fun G7=>?_;intro _ _
  refine V.lp (γ:=List Int × SV × Int × Int) (fun ⟨d,f,h,k1⟩=>⟨[(1,bs.v),(5,f.v),(6,iv k0),(7,iv v1),(8,iv h),(18,o.v),(19,iv (a.length:Int)),(20,iv k0),(25,bs.v),(26,iv (b.length:Int)),(27,iv k1)],[fs false b bs,fs false a o],[os true 3 d f]⟩) (fun ⟨d,f,h,k1⟩=>(0≤k1)∧(k1≤(b.length:Int))∧(Bg.MulI a b d k0.toNat k1.toNat h)) (fun ⟨d,f,h,k1⟩=>((b.length:Int)-k1).toNat) (j,i,0,0) [0,1] ?_ ?_
  ·refine ⟨by omega,by omega,?_⟩;show Bg.MulI a b j k0.toNat (0:Int).toNat (0:Int);exact Bg.MulO.inner I
  rintro ⟨d,f,h,k1⟩ hF2 kw9 Z2 hZ2;obtain ⟨ay,az,t⟩:=hF2;have an:=t.len;refine vG [.u 1] fun G8=>?_;intro _ _;refine vd (k1 < (b.length:Int)) (fun q3=>?_) fun q4=>?_
  ·refine nm (b.getD k1.toNat default:Int) fun v2 P=>vG [.u 1,.iX (kF 0 b bs) k1,.lE (kF 0 b bs) k1 false v2 P false,.u 2] fun G9=>?_;intro _ _
   refine nm (d.getD (k0+k1).toNat default:Int) fun v3 A=>nm (v1 * v2:Int) fun n2 af=>nm (v3+n2+h:Int) fun n3 ah=>?_;have ex:a.getD k0.toNat 0=v1:=M.symm
   have ey:b.getD k1.toNat 0=v2:=P.symm;have eo:d.getD (k0+k1).toNat 0=v3:=A.symm;have bx:=D.get' k0.toNat;have Q:=E.get' k1.toNat;have bo:=t.dg.get' (k0+k1).toNat;have bc:=t.c0;rw [ex] at bx;rw [ey] at Q;rw [eo] at bo;have bp:=Bg.dmul bx Q;refine vG [.u 3,.aa (k0+k1),.iX (kO 3 0 d f) (k0+k1),.lE (kO 3 0 d f) (k0+k1) false v3 A false,.u 2,.aR (v1 * v2) n2 af,.aa (v3+n2),.u 1,.aR (v3+n2+h) n3 ah,.u 1] fun aA=>?_;intro _ _
   have ai:n3=d.getD (k0.toNat+k1.toNat) 0+a.getD k0.toNat 0 * b.getD k1.toNat 0+h:=by rw [ex,ey,show k0.toNat+k1.toNat=(k0+k1).toNat by omega,eo];omega
   have stp:=Bg.mul_step t D E (by omega) (by omega) ai;have ao:=stp.1;have X:=stp.2;clear stp;refine nm (n3 % 1048576:Int) fun n4 Y=>nm (n3 / 1048576:Int) fun n5 Z=>nm (d.set (k0+k1).toNat n4:LI) fun l2 ab=>vG [.u 3,.aa (k0+k1),.u 1,.andm g0 n3 1048575 n4 20 (by decide) rfl (by rw [Y];rfl),.u 1,.shrm g0 .i64 .u64 n3 n5 20 (by decide) (by rw [Z];rfl),.iX (kO 3 0 d f) (k0+k1),.se g0 9 0 3 true d (fun _=>f) (k0+k1) none v3 n4 A true l2 ab (fun _=>⟨by omega,by omega⟩) (fun _=>rfl) [] (fun _ _ _ _=>trivial),.u 1] fun aB=>?_;intro _ _
   refine vG [.aa (k1+1),.u 1] fun aC=>?_;intro _ _
   refine V.rn hZ2 (l2,f,n5,k1+1) [0,1] ?_ ?_
   ·refine ⟨by omega,by omega,?_⟩;show Bg.MulI a b l2 k0.toNat (k1+1).toNat n5;rw [ab,Y,Z,show (k0+k1).toNat=k0.toNat+k1.toNat by omega,show (k1+1).toNat=k1.toNat+1 by omega];exact X
   dsimp only;omega
  refine nm (k0+(b.length:Int):Int) fun n6 aj=>nm (d.getD n6.toNat default:Int) fun v4 B=>nm (d.set n6.toNat (v4+h):LI) fun l3 ac=>?_;have w:=t
  rw [show k1.toNat=b.length by omega] at w;have eo:d.getD n6.toNat 0=v4:=B.symm;have bo:=w.dg.get' n6.toNat;have bc:=w.c0;have aq:=w.len;rw [eo] at bo;refine vG [.u 3,.ln (kF 0 b bs),.aR (k0+(b.length:Int)) n6 aj,.iX (kO 3 0 d f) n6,.lE (kO 3 0 d f) n6 false v4 B false,.u 1,.aa (v4+h),.iX (kO 3 0 d f) n6,.se g0 10 0 3 true d (fun _=>f) n6 none v4 (v4+h) B true l3 ac (fun _=>⟨by omega,by omega⟩) (fun _=>rfl) [] (fun _ _ _ _=>trivial)] fun aD=>?_;intro _ _
  refine vG [.aa (k0+1),.u 1] fun aE=>?_;intro _ _
  refine V.rn hZ1 (l3,f,k0+1) [0,1] ?_ ?_
  ·refine ⟨by omega,by omega,?_⟩;show Bg.MulO a b l3 (k0+1).toNat;have ak:=Bg.mul_end (x:=(v4+h)) w (by omega) (by rw [show k0.toNat+b.length=n6.toNat by omega,eo]);rw [ac,show n6.toNat=k0.toNat+b.length by omega,show (k0+1).toNat=k0.toNat+1 by omega];exact ak
  dsimp only;omega
 have C:=I;rw [show k0.toNat=a.length by omega] at C;have al:=C.dg;have ad:=C.sum;rw [List.take_length] at ad;refine V.frz 0 true 3 j i (by kernel_rfl) ?_;refine vG [.u 1,.ctT g0 1 213 [kB 2 j i] (fun _ G=>trim_ct j i al),.u 1] fun am=>?_;intro _ _
 have e0:Bg.dig (Bg.nv j)=Bg.dig (Bg.nv a * Bg.nv b):=by rw [ad]
 rw [←e0];exact V.rS [0] [(am 1).ss 0] [] [] [3] []
theorem mul_ctv (a:List Int) (d:SV) (b:List Int) (bs:SV) (i:Bg.Dg a) (j:Bg.Dg b) (o:a.length≤1099511627776) (t:b.length≤1099511627776) (f:List Int) (h:f=Bg.dig (Bg.nv a * Bg.nv b)) :
  Ct Tryz.prog 227 #[d.v,bs.v] [fs true a d,fs true b bs] [] (fun g=>((g.ss 0)).v) (fun g=>[fs true f (g.ss 0)]) (fun g=>[]) (fun g=>[]):=by
 subst h;exact mul_ct a d b bs i j o t
theorem short_ct (a:LI) (h:SV) (d:Int) (t:Bg.Dg a) (w:0 < d∧d < 1048576) (ah:a.length≤1099511627776) :
  Ct Tryz.prog 229 #[h.v,iv d] [fs true a h] [] (fun g=>.tuple #[((g.ss 0)).v,iv ((Bg.nv a % d.toNat:Nat):Int)]) (fun g=>[fs true (Bg.dig (Bg.nv a / d.toNat)) (g.ss 0)]) eF eF:=by
 refine vf mo Tryz.func229 38 1 fun _=>?_
 refine vG [.u 2] fun G1=>?_;intro _ _
 refine nm (List.replicate (a.length:Int).toNat (0:Int):LI) fun l1 A=>vG [.u 1,.ln (kF 0 a h),.mks 2 0 3 8 (a.length:Int) l1 A (by omega) (by omega) (by omega),.u 1] fun G2=>?_;intro _ _
 refine vG [.u 1] fun G3=>?_;intro _ _
 refine nm ((a.length:Int)-1:Int) fun n1 Q=>vG [.u 1,.ln (kF 0 a h),.aR ((a.length:Int)-1) n1 Q,.u 1] fun G4=>?_;intro _ _
 refine V.lp (γ:=List Int × SV × Int × Int) (fun ⟨f,b,r,i⟩=>⟨[(0,h.v),(1,iv d),(6,b.v),(7,iv r),(8,iv i)],[fs false a h],[os true 3 f b]⟩) (fun ⟨f,b,r,i⟩=>(-1≤i)∧(i < (a.length:Int))∧(Bg.ShoI a f d (i+1).toNat r)) (fun ⟨f,b,r,i⟩=>(i+1).toNat) (l1,(G2 2).s,0,n1) [0] ?_ ?_
 ·refine ⟨?_,?_,?_⟩
  ·show -1≤n1;omega
  ·show n1 < (a.length:Int);omega
  show Bg.ShoI a l1 d (n1+1).toNat (0:Int);rw [show (n1+1).toNat=a.length by omega,A,show ((a.length:Int)).toNat=a.length by omega];exact Bg.sho_start _ w.1
 rintro ⟨f,b,r,i⟩ hF1 kw5 Z1 hZ1;obtain ⟨ai,aj,j⟩:=hF1;refine vG [.u 2] fun G5=>?_;intro _ _;refine vd (0≤i) (fun q1=>?_) fun q2=>?_
 ·refine nm (r * 1048576:Int) fun n2 B=>nm (a.getD i.toNat default:Int) fun v1 C=>nm (n2+v1:Int) fun n3 X=>?_;have ea:a.getD i.toNat 0=v1:=C.symm
  have ba:=t.get' i.toNat;rw [ea] at ba;have br:=j.r0;have ak:=j.len;refine vG [.u 1,.shlm g0 .i64 .u64 r 20 n2 20 (fun _=>⟨rfl,by decide,by show _=IntKind.i64.wrap (r * 1048576);rw [IntKind.wrap_i64];omega⟩),.u 2,.iX (kF 0 a h) i,.lE (kF 0 a h) i false v1 C false,.orm g0 n2 r v1 n3 20 (by rw [B];rfl) (fun _=>⟨by decide,by omega,⟨by omega,by show _ < (1048576:Int);omega⟩,by rw [X,B];rfl,by omega⟩),.u 1] fun G6=>?_;intro _ _
  have D:=j;rw [show (i+1).toNat=i.toNat+1 by omega] at D;have stp:=Bg.sho_step (x:=n3) D t w (by omega) (by rw [ea];omega);have ae:=stp.1;have af:=stp.2.1;have E:=stp.2.2;clear stp;refine nm (n3 / d:Int) fun n4 H=>nm (f.getD i.toNat default:Int) fun v2 Y=>nm (f.set i.toNat n4:LI) fun l2 I=>vG [.u 4,.qov g0 n3 d n4 H (fun _=>⟨by omega,by omega⟩) (fun _=>by omega),.iX (kO 3 0 f b) i,.se g0 6 0 3 true f (fun _=>b) i none v2 n4 Y true l2 I (fun _=>⟨by omega,by omega⟩) (fun _=>rfl) [] (fun _ _ _ _=>trivial)] fun G7=>?_;intro _ _
  refine nm (n3 % d:Int) fun n5 M=>vG [.u 2,.rmv g0 n3 d n5 M (fun _=>⟨by omega,by omega⟩),.u 1] fun G8=>?_;intro _ _
  refine vG [.u 1,.aa (i-1),.u 1] fun G9=>?_;intro _ _
  refine V.rn hZ1 (l2,b,n5,i-1) [0] ?_ ?_
  ·refine ⟨?_,?_,?_⟩
   ·show -1≤(i-1);omega
   ·show (i-1) < (a.length:Int);omega
   show Bg.ShoI a l2 d ((i-1)+1).toNat n5;rw [I,H,M,show (i-1+1).toNat=i.toNat by omega];exact E
  dsimp only;omega
 have o:=j;rw [show (i+1).toNat=0 by omega] at o;have Z:=o.dg;obtain ⟨ab,ac⟩:=Bg.sho_end o;refine V.frz 0 true 3 f b (by kernel_rfl) ?_;refine vG [.u 1,.ctT g0 1 213 [kB 1 f b] (fun _ G=>trim_ct f b Z),.u 3] fun P=>?_;intro _ _
 have e0:Bg.dig (Bg.nv f)=Bg.dig (Bg.nv a / d.toNat):=by rw [ab]
 rw [←e0];have e1:r=((Bg.nv a % d.toNat:Nat):Int):=ac;exact V.rT [0,0] [(P 1).ss 0] [] [] [2] [] (cong1 (fun (ad:Int)=>(.tuple #[((P 1).ss 0).v,iv ad]:Value)) e1)

theorem checkedT_ct (c:Int) (a:LI) (b:SV) :
  Ct Tryz.prog 222 #[bv true,ag (DBig.mk c ⟨a,b⟩)] [fs true a b] [] (fun g=>.tuple #[ag (DBig.mk c ⟨a,(g.ss 0)⟩),iv 0]) (fun g=>[fs false a (g.ss 0)]) eF eF:=by
 refine vf mo Tryz.func222 10 2 fun _=>?_
 refine vG [.n 0,.n 1,.u 1] fun G1=>?_;intro _ _
 refine vG [.kb true,.kb false] fun G2=>?_;intro _ _
 refine V.condF (by kernel_rfl) ?_;refine vG [.l 0,.s 1,.u 1] fun G3=>?_;intro _ _
 exact V.rS [1,0] [b] [] [] [0] []
theorem checkedF_ct (c:Int) (a:LI) (b:SV) :
  Ct Tryz.prog 222 #[bv false,ag (DBig.mk c ⟨a,b⟩)] [fs true a b] [] (fun g=>.tuple #[ag (DBig.mk 0 ⟨([]:LI),(g.ss 0)⟩),iv 1]) (fun g=>[fs false ([]:LI) (g.ss 0)]) eF eF:=by
 refine vf mo Tryz.func222 10 2 fun _=>?_
 refine vG [.n 0,.n 1,.u 1] fun G1=>?_;intro _ _
 refine vG [.kb false,.kb true] fun G2=>?_;intro _ _
 refine V.condT (by kernel_rfl) ?_;refine vG [.u 1,.s 1,.u 1] fun G3=>?_;intro _ _
 refine V.nilF (α:=Int) ?_;exact V.rS [1,0] [] [] [] [1] []
theorem checkedF_ctv (c:Int) (a:List Int) (b:SV) (d:List Int) (f:d=([]:List Int)) :
  Ct Tryz.prog 222 #[bv false,ag (DBig.mk c ⟨a,b⟩)] [fs true a b] [] (fun g=>.tuple #[ag (DBig.mk 0 ⟨d,(g.ss 0)⟩),iv 1]) (fun g=>[fs false d (g.ss 0)]) (fun g=>[]) (fun g=>[]):=by
 subst f;exact checkedF_ct c a b 
theorem Mul_ct (e:Int) (c:LI) (i:SV) (f:Int) (d:LI) (j:SV) (X:c.length≤274877906944) (Y:d.length≤274877906944) :
  Ct Tryz.prog 219 #[ag (DBig.mk e ⟨c,i⟩),ag (DBig.mk f ⟨d,j⟩)] [fs true c i,fs true d j] [] (fun g=>.tuple #[ag (DBig.mk (Bg.oS (Bg.RtB e c∧Bg.RtB f d) (Bg.zv e c * Bg.zv f d)) ⟨Bg.oD (Bg.RtB e c∧Bg.RtB f d) (Bg.zv e c * Bg.zv f d),(g.ss 0)⟩),iv (if (Bg.RtB e c∧Bg.RtB f d) then (0:Int) else 1)]) (fun g=>[fs true (Bg.oD (Bg.RtB e c∧Bg.RtB f d) (Bg.zv e c * Bg.zv f d)) (g.ss 0)]) eF eF:=by
 refine vf mo Tryz.func219 32 3 fun _=>?_
 refine vG [.n 0,.n 1,.n 2,.u 1] fun G1=>?_;intro _ _
 refine nm ((!(decide (Bg.RtB e c))) || (!(decide (Bg.RtB f d))):Bool) fun p1 w=>vG [.l 0,.cP 1 214 [kA 0 c i] fun G=>bright_ct e c i,.u 2,.l 1,.cp (gF (b:=!(decide (Bg.RtB e c))) (iNF iDT)) 5 214 [kA 1 d j] (fun hg G=>bright_ct f d j),.u 1,.orn g0 false (!(decide (Bg.RtB e c))) (!(decide (Bg.RtB f d))) p1 w] fun G2=>?_;intro _ _
 refine V.cn (b:=p1) (iN w (iOT (iNT iDF) (iNT iDF))) (iN w (iOF (iNF iDT) (iNF iDT))) (fun q1=>?_) (fun q2=>?_)
 ·have A:¬ (Bg.RtB e c∧Bg.RtB f d):=by rintro ⟨h1,h2⟩;rcases q1 with h | h;exact h h1;exact h h2
  refine nm (([]:LI):LI) fun l1 E=>vR [.u 1,.ctT g0 1 222 [(knil (α:=Int)).a] (fun _ G=>checkedF_ctv (0:Int) ([]:LI) ({}) l1 E),.u 2,.s 2,.u 1] fun G3 Q=>?_;intro _ _
  obtain ⟨Z, -⟩:Lq l1 (((G3 1).ss 0).v):=kj Q 0;have e1:l1=Bg.oD (Bg.RtB e c∧Bg.RtB f d) (Bg.zv e c * Bg.zv f d):=by
   rw [E];exact (Bg.oD_n A _).symm
  subst e1;have e0:(0:Int)=Bg.oS (Bg.RtB e c∧Bg.RtB f d) (Bg.zv e c * Bg.zv f d):=(Bg.oS_n A _).symm;have e2:(1:Int)=if (Bg.RtB e c∧Bg.RtB f d) then (0:Int) else 1:=(if_neg A).symm
  exact V.rT [2,0] [(G3 1).ss 0] [] [] [2] [] (cong2 (fun (B C:Int)=>(.tuple #[.agg #[iv B,((G3 1).ss 0).v],iv C]:Value)) e0 e2)
 have o:(Bg.RtB e c∧Bg.RtB f d):=by first | exact q2 | exact ⟨Decidable.not_not.1 (q2).1,Decidable.not_not.1 (q2).2⟩
 have H:=Bg.sml o.1 o.2;refine nm (e * f:Int) fun n1 t=>nm (Bg.dig (Bg.nv c * Bg.nv d):LI) fun l2 D=>nm (Bg.sg0 (Bg.nv l2) n1:Int) fun n2 I=>nm (Bg.dig (Bg.nv l2):LI) fun l3 M=>vR [.u 1,.l 0,.u 1,.l 1,.ar (e * f) n1 t (by rw [t];exact H.1) (by rw [t];exact H.2),.u 1,.l 0,.u 1,.l 1,.cA 9 227 [kA 0 c i,kA 1 d j] fun G=>mul_ctv c i d j o.1.dg o.2.dg (by omega) (by omega) l2 D,.ctT g0 10 199 [(kf true (.g 9 0) l2 (fun G=>(G 9).ss 0)).a] (fun _ G=>signed_ctv n1 l2 ((G 9).ss 0) (by subst_vars;exact Bg.dig_Dg _) n2 I l3 M),.ctT g0 11 222 [(kf true (.g 10 0) l3 (fun G=>(G 10).ss 0)).a] (fun _ G=>checkedT_ct n2 l3 ((G 10).ss 0)),.u 2,.s 2,.u 1] fun G4 P=>?_;intro _ _
 obtain ⟨ab, -⟩:Lq l3 (((G4 10).ss 0).v):=kj P 1;obtain ⟨ac, -⟩:Lq l3 (((G4 11).ss 0).v):=kj P 2;have e1:l3=Bg.oD (Bg.RtB e c∧Bg.RtB f d) (Bg.zv e c * Bg.zv f d):=by
  rw [M,D];rw [Bg.oD_y o];exact Bg.mulD o.1 o.2
 subst e1;have e0:n2=Bg.oS (Bg.RtB e c∧Bg.RtB f d) (Bg.zv e c * Bg.zv f d):=by
  rw [I,D,t];rw [Bg.oS_y o];exact Bg.mulS o.1 o.2
 have e2:(0:Int)=if (Bg.RtB e c∧Bg.RtB f d) then (0:Int) else 1:=(if_pos o).symm
 exact V.rT [2,0] [(G4 11).ss 0] [] [] [4] [] (cong2 (fun (B C:Int)=>(.tuple #[.agg #[iv B,((G4 11).ss 0).v],iv C]:Value)) e0 e2)
theorem Mul_ctv (c:Int) (a:List Int) (e:SV) (d:Int) (b:List Int) (f:SV) (A:a.length≤274877906944) (B:b.length≤274877906944) (i:Int) (j:i=Bg.oS (Bg.RtB c a∧Bg.RtB d b) (Bg.zv c a * Bg.zv d b)) (h:List Int) (o:h=Bg.oD (Bg.RtB c a∧Bg.RtB d b) (Bg.zv c a * Bg.zv d b)) (t:Int) (w:t=if (Bg.RtB c a∧Bg.RtB d b) then (0:Int) else 1) :
  Ct Tryz.prog 219 #[ag (DBig.mk c ⟨a,e⟩),ag (DBig.mk d ⟨b,f⟩)] [fs true a e,fs true b f] [] (fun g=>.tuple #[ag (DBig.mk i ⟨h,(g.ss 0)⟩),iv t]) (fun g=>[fs true h (g.ss 0)]) (fun g=>[]) (fun g=>[]):=by
 subst j o w;exact Mul_ct c a e d b f A B

theorem settle_ct (ul:LI) (us:SV) (P Q:Nat) (ua u ub v:LI) (vs:SV) (b:Int) (aA:ul=ua ++u ++ub) (X:P=ua.length) (Y:Q=ua.length+u.length) (Z:Bg.Dg u) (t:Bg.Dg v) (ab:v.length≤u.length) (hg:0≤b∧b < 1048576) (h1:(b.toNat-1) * Bg.nv v≤Bg.nv u) (aK:u.length≤4398046511104) :
  Ct Tryz.prog 230 #[(us.sub 1 P Q).v,vs.v,iv b] [fs true v vs] [os false 3 ul us] (fun g=>iv (Bg.setG u v b)) (fun g=>[]) (fun g=>[os true 3 (ua ++(Bg.setP u v b) ++ub) us]) (fun g=>[]):=by
 subst aA X Y;refine vf mo Tryz.func230 78 0 fun _=>?_
 refine V.tro 3 (ua ++u ++ub) us 0 (by kernel_rfl) (fun _ _=>trivial) ?_;refine vG [.u 1] fun G1=>?_;intro _ _
 refine vG [.u 1] fun G2=>?_;intro _ _
 refine vG [.u 1,.ln (kop true 3 0 ua u ub u.length (by omega) (fun _=>us)),.u 1] fun G3=>?_;intro _ _
 refine V.lp (γ:=List Int × Int × Int) (fun ⟨h,d,k0⟩=>⟨[(0,(us.sub 1 ua.length (ua.length+u.length)).v),(1,vs.v),(2,iv b),(7,iv d),(13,iv (u.length:Int)),(14,iv k0)],[fs false v vs],[os true 3 (ua ++h ++ub) us]⟩) (fun ⟨h,d,k0⟩=>(0≤k0)∧(k0≤(u.length:Int))∧(Bg.SetI u v h b k0.toNat d)) (fun ⟨h,d,k0⟩=>((u.length:Int)-k0).toNat) (u,0,0) [0] ?_ ?_
 ·refine ⟨by omega,by omega,?_⟩;show Bg.SetI u v u b (0:Int).toNat (0:Int);exact Bg.set_start _ _ _ Z
 rintro ⟨h,d,k0⟩ hF1 kw4 Z1 hZ1;obtain ⟨aL,aM,w⟩:=hF1;have aB:=w.len;have aC:=w.c0;have ac:=w.dg.get' k0.toNat;refine vG [.u 1] fun G4=>?_;intro _ _;refine vd (k0 < (u.length:Int)) (fun q1=>?_) fun q2=>?_
 ·refine vG [.u 2] fun G5=>?_;intro _ _
  refine nm (h.getD k0.toNat default:Int) fun v1 ad=>?_;have e1:h.getD k0.toNat 0=v1:=ad.symm
  refine vG [.u 2,.iX (kop true 3 0 ua h ub u.length (by omega) (fun _=>us)) k0,.lE (kop true 3 0 ua h ub u.length (by omega) (fun _=>us)) k0 false v1 ad false,.u 1,.aa (v1-d),.u 1] fun G6=>?_;intro _ _
  refine vG [.u 2,.ln (kF 0 v vs),.u 1] fun G7=>?_;intro _ _
  refine vd (k0 < (v.length:Int)) (fun q3=>?_) fun q4=>?_
  ·refine nm (v.getD k0.toNat default:Int) fun v2 ae=>nm (b * v2:Int) fun n1 aD=>nm (v1-d-n1:Int) fun n2 aE=>?_;have e2:v.getD k0.toNat 0=v2:=ae.symm
   have D:=t.get' k0.toNat;rw [e2] at D;have bp:=Bg.dmul hg D;refine vG [.u 4,.iX (kF 0 v vs) k0,.lE (kF 0 v vs) k0 false v2 ae false,.aR (b * v2) n1 aD,.aR (v1-d-n1) n2 aE,.u 1] fun G8=>?_;intro _ _
   have o:n2=h.getD k0.toNat 0-d-b * v.getD k0.toNat 0:=by rw [e1,e2];omega
   have stp:=Bg.set_step w t hg (by omega) o;have af:=stp.1;have B:=stp.2;clear stp;refine nm (n2 % 1048576:Int) fun n3 ah=>nm (h.set k0.toNat n3:LI) fun l1 ai=>vG [.u 3,.andm g0 n2 1048575 n3 20 (by decide) rfl (by rw [ah];rfl),.iX (kop true 3 0 ua h ub u.length (by omega) (fun _=>us)) k0,.sep g0 5 0 3 true ua h ub u.length (by omega) (fun _=>us) k0 n3 l1 ai (fun _=>⟨by omega,by omega⟩) (fun _=>trivial)] fun G9=>?_;intro _ _
   refine nm (n2 / 1048576:Int) fun n4 aj=>vG [.u 1,.shrm g0 .i64 .u64 n2 n4 20 (by decide) (by rw [aj];rfl),.ng n4 (-n4) rfl (by omega) (by omega),.u 1] fun aN=>?_;intro _ _
   refine vG [.aa (k0+1),.u 1] fun aO=>?_;intro _ _
   refine V.rn hZ1 (l1, -n4,k0+1) [0] ?_ ?_
   ·refine ⟨by omega,by omega,?_⟩;show Bg.SetI u v l1 b (k0+1).toNat (-n4);rw [ai,ah,show (k0+1).toNat=k0.toNat+1 by omega];rw [aj];exact B
   dsimp only;omega
  have e2:=Bg.getD_out (l:=v) (i:=k0.toNat) (by omega);have o:v1-d=h.getD k0.toNat 0-d-b * v.getD k0.toNat 0:=by rw [e1,e2];omega
  have stp:=Bg.set_step w t hg (by omega) o;have af:=stp.1;have B:=stp.2;clear stp;refine nm ((v1-d) % 1048576:Int) fun n5 ak=>nm (h.set k0.toNat n5:LI) fun l2 al=>vG [.u 3,.andm g0 (v1-d) 1048575 n5 20 (by decide) rfl (by rw [ak];rfl),.iX (kop true 3 0 ua h ub u.length (by omega) (fun _=>us)) k0,.sep g0 5 0 3 true ua h ub u.length (by omega) (fun _=>us) k0 n5 l2 al (fun _=>⟨by omega,by omega⟩) (fun _=>trivial)] fun aP=>?_;intro _ _
  refine nm ((v1-d) / 1048576:Int) fun n6 am=>vG [.u 1,.shrm g0 .i64 .u64 (v1-d) n6 20 (by decide) (by rw [am];rfl),.ng n6 (-n6) rfl (by omega) (by omega),.u 1] fun aQ=>?_;intro _ _
  refine vG [.aa (k0+1),.u 1] fun aS=>?_;intro _ _
  refine V.rn hZ1 (l2, -n6,k0+1) [0] ?_ ?_
  ·refine ⟨by omega,by omega,?_⟩;show Bg.SetI u v l2 b (k0+1).toNat (-n6);rw [al,ak,show (k0+1).toNat=k0.toNat+1 by omega];rw [am];exact B
  dsimp only;omega
 have C:=w;rw [show k0.toNat=u.length by omega] at C;have an:=Bg.set_mid C ab hg.1;refine vG [.u 2] fun aT=>?_;intro _ _
 refine vd (d=0) (fun q5=>?_) fun q6=>?_
 ·refine vG [.u 2] fun aU=>?_;intro _ _
  have e0:b=Bg.setG u v b:=by
   have h0:=an.1.1 q5;unfold Bg.setG;rw [if_pos h0]
  have H:h=Bg.setP u v b:=an.2 q5;refine V.alt (fun (aF:LI)=>(⟨[(6,iv b)],[fs false v vs],[os true 3 (ua ++aF ++ub) us]⟩:St)) H [0] (by kernel_rfl) ?_;exact vi 0 [0] e0
 refine vG [.u 1] fun aV=>?_;intro _ _
 refine vG [.u 1,.ln (kop true 3 0 ua h ub u.length (by omega) (fun _=>us)),.u 1] fun aW=>?_;intro _ _
 refine V.lp (γ:=List Int × Int × Int) (fun ⟨j,f,k1⟩=>⟨[(0,(us.sub 1 ua.length (ua.length+u.length)).v),(1,vs.v),(2,iv b),(10,iv f),(48,iv (h.length:Int)),(49,iv k1)],[fs false v vs],[os true 3 (ua ++j ++ub) us]⟩) (fun ⟨j,f,k1⟩=>(0≤k1)∧(k1≤(h.length:Int))∧(Bg.BakI h v j k1.toNat f)) (fun ⟨j,f,k1⟩=>((h.length:Int)-k1).toNat) (h,0,0) [0] ?_ ?_
 ·refine ⟨by omega,by omega,?_⟩;show Bg.BakI h v h (0:Int).toNat (0:Int);exact Bg.bak_start _ _ C.dg
 rintro ⟨j,f,k1⟩ hF2 kw20 Z2 hZ2;obtain ⟨aX,aY,A⟩:=hF2;have aB:=A.len;have aC:=A.c0;have ac:=A.dg.get' k1.toNat;have aJ:=t.get' k1.toNat;refine vG [.u 1] fun aZ=>?_;intro _ _;refine vd (k1 < (h.length:Int)) (fun q7=>?_) fun q8=>?_
 ·refine vG [.u 2] fun a0=>?_;intro _ _
  refine nm (j.getD k1.toNat default:Int) fun v3 ao=>?_;have e1:j.getD k1.toNat 0=v3:=ao.symm
  refine vG [.u 3,.iX (kop true 3 0 ua j ub u.length (by omega) (fun _=>us)) k1,.lE (kop true 3 0 ua j ub u.length (by omega) (fun _=>us)) k1 false v3 ao false,.aa (f+v3),.u 1] fun a1=>?_;intro _ _
  refine vG [.u 2,.ln (kF 0 v vs),.u 1] fun a2=>?_;intro _ _
  refine vd (k1 < (v.length:Int)) (fun q9=>?_) fun a3=>?_
  ·refine nm (v.getD k1.toNat default:Int) fun v4 aq=>nm (f+v3+v4:Int) fun n7 aG=>?_;have e2:v.getD k1.toNat 0=v4:=aq.symm
   refine vG [.u 3,.iX (kF 0 v vs) k1,.lE (kF 0 v vs) k1 false v4 aq false,.aR (f+v3+v4) n7 aG,.u 1] fun a4=>?_;intro _ _
   have o:n7=f+j.getD k1.toNat 0+v.getD k1.toNat 0:=by rw [e1,e2];omega
   refine nm (n7 % 1048576:Int) fun n8 au=>nm (j.set k1.toNat n8:LI) fun l3 av=>vG [.u 3,.andm g0 n7 1048575 n8 20 (by decide) rfl (by rw [au];rfl),.iX (kop true 3 0 ua j ub u.length (by omega) (fun _=>us)) k1,.sep g0 5 0 3 true ua j ub u.length (by omega) (fun _=>us) k1 n8 l3 av (fun _=>⟨by omega,by omega⟩) (fun _=>trivial)] fun a5=>?_;intro _ _
   refine nm (n7 / 1048576:Int) fun n9 aw=>vG [.u 1,.shrm g0 .i64 .u64 n7 n9 20 (by decide) (by rw [aw];rfl),.u 1] fun a6=>?_;intro _ _
   refine vG [.aa (k1+1),.u 1] fun a7=>?_;intro _ _
   refine V.rn hZ2 (l3,n9,k1+1) [0] ?_ ?_
   ·refine ⟨by omega,by omega,?_⟩;show Bg.BakI h v l3 (k1+1).toNat n9;rw [av,au,aw,show (k1+1).toNat=k1.toNat+1 by omega];exact Bg.bak_step A t (by omega) o
   dsimp only;omega
  have e2:=Bg.getD_out (l:=v) (i:=k1.toNat) (by omega);have o:f+v3=f+j.getD k1.toNat 0+v.getD k1.toNat 0:=by rw [e1,e2];omega
  refine nm ((f+v3) % 1048576:Int) fun I E=>nm (j.set k1.toNat I:LI) fun l4 ax=>vG [.u 3,.andm g0 (f+v3) 1048575 I 20 (by decide) rfl (by rw [E];rfl),.iX (kop true 3 0 ua j ub u.length (by omega) (fun _=>us)) k1,.sep g0 5 0 3 true ua j ub u.length (by omega) (fun _=>us) k1 I l4 ax (fun _=>⟨by omega,by omega⟩) (fun _=>trivial)] fun a8=>?_;intro _ _
  refine nm ((f+v3) / 1048576:Int) fun M G=>vG [.u 1,.shrm g0 .i64 .u64 (f+v3) M 20 (by decide) (by rw [G];rfl),.u 1] fun a9=>?_;intro _ _
  refine vG [.aa (k1+1),.u 1] fun ba=>?_;intro _ _
  refine V.rn hZ2 (l4,M,k1+1) [0] ?_ ?_
  ·refine ⟨by omega,by omega,?_⟩;show Bg.BakI h v l4 (k1+1).toNat M;rw [ax,E,G,show (k1+1).toNat=k1.toNat+1 by omega];exact Bg.bak_step A t (by omega) o
  dsimp only;omega
 have ay:=A;rw [show k1.toNat=u.length by omega] at ay;obtain ⟨az,aH⟩:=Bg.set_end C ay Z ab hg.1 q6 h1;refine vG [.u 1,.aa (b-1),.u 1] fun bb=>?_;intro _ _
 have e0:(b-1)=Bg.setG u v b:=by first | exact az | (rw [←az])
 have H:j=Bg.setP u v b:=aH;refine V.alt (fun (aI:LI)=>(⟨[(6,iv (b-1))],[fs false v vs],[os true 3 (ua ++aI ++ub) us]⟩:St)) H [0] (by kernel_rfl) ?_;exact vi 0 [0] e0

set_option maxHeartbeats 4000000 in
theorem div_ct (a:LI) (C:SV) (b:LI) (bs:SV) (P:Bg.Dg a) (H:Bg.Dg b) (aO:Bg.Nz a) (ax:Bg.Nz b) (ay:b≠[]) (bQ:a.length≤549755813888) (bR:b.length≤549755813888) :
  Ct Tryz.prog 223 #[C.v,bs.v] [fs true a C,fs true b bs] [] (fun g=>.tuple #[((g.ss 0)).v,((g.ss 1)).v]) (fun g=>[fs true (Bg.dig (Bg.nv a / Bg.nv b)) (g.ss 0),fs true (Bg.dig (Bg.nv a % Bg.nv b)) (g.ss 1)]) eF eF:=by
 refine vf mo Tryz.func223 170 2 fun _=>?_
 refine vG [.u 2] fun G1=>?_;intro _ _
 refine vG [.u 2,.cP 2 228 [kA 0 a C,kA 1 b bs] fun G=>cmpd_ct a C b bs (by assumption) (by assumption) (by assumption) (by assumption),.u 1] fun G2=>?_;intro _ _
 refine vd (Bg.cmpI (Bg.nv a) (Bg.nv b) < 0) (fun q1=>?_) fun q2=>?_
 ·have az:=Bg.cmp_lt.1 q1;have az:Bg.nv a < Bg.nv b:=by omega
  refine vG [.u 1,.cA 1 221 [kA 0 a C] fun G=>clonef_ct a C (by omega),.u 2] fun G3=>?_;intro _ _
  refine V.nilF (α:=Int) ?_;have e0:([]:LI)=Bg.dig (Bg.nv a / Bg.nv b):=by rw [(Bg.div_less az).1]
  rw [←e0];have e1:a=Bg.dig (Bg.nv a % Bg.nv b):=Bg.dig_self P aO (Bg.div_less az).2;rw [←e1];exact V.rS [0,0] [{},(G3 1).ss 0] [] [] [3,2] []
 have bt:Bg.nv b≤Bg.nv a:=Nat.not_lt.1 fun h=>q2 (Bg.cmp_lt.2 (by omega))
 refine vG [.u 1,.ln (kF 1 b bs),.u 1] fun G4=>?_;intro _ _
 refine vd ((b.length:Int)=1) (fun q3=>?_) fun q4=>?_
 ·have af:=Bg.nv_len1 (l:=b) (by omega);have ah:=Bg.top_pos ay H ax;rw [show b.length-1=0 by omega] at ah;have aP:=H.get' 0;refine nm (b.getD (0:Int).toNat default:Int) fun v1 aQ=>?_;have ev:b.getD 0 0=v1:=aQ.symm
  rw [ev] at ah aP af;refine vG [.u 2,.iX (kF 1 b bs) 0,.lE (kF 1 b bs) (0:Int) false v1 aQ false,.cA 4 229 [kA 0 a C] fun G=>short_ct a C v1 P (by omega) (by omega),.u 5] fun G5=>?_;intro _ _
  have aS:=Bg.nv_r (a:=Bg.nv a) (d:=v1.toNat) (by omega) (by omega);have ai:v1.toNat=Bg.nv b:=af.symm;refine vG [.u 2,.nr 2 true 3 [((Bg.nv a % v1.toNat:Nat):Int)] [] (fun _ _ _ _ _=>trivial) (fun _=>#[iv ((Bg.nv a % v1.toNat:Nat):Int)]),.ctT g0 3 213 [(kf true (.g 2 0) [((Bg.nv a % v1.toNat:Nat):Int)] (fun G=>⟨atB (G 2).b,1,1⟩)).a] (fun _ G=>trim_ct [((Bg.nv a % v1.toNat:Nat):Int)] ⟨atB (G 2).b,1,1⟩ aS.1),.u 2] fun G6=>?_;intro _ _
  have e0:Bg.dig (Bg.nv a / v1.toNat)=Bg.dig (Bg.nv a / Bg.nv b):=by rw [ai]
  rw [←e0];have e1:Bg.dig (Bg.nv [((Bg.nv a % v1.toNat:Nat):Int)])=Bg.dig (Bg.nv a % Bg.nv b):=by rw [aS.2,ai]
  rw [←e1];exact V.rS [0,0] [(G5 4).ss 0,(G6 3).ss 0] [] [] [2,4] []
 have bS:=Bg.top_pos ay H ax;have bN:2≤b.length:=by have:b.length≠0:=fun e=>ay (List.eq_nil_of_length_eq_zero e);omega
 have bT:=H.get' (b.length-1);refine vG [.u 1] fun G7=>?_;intro _ _
 refine V.lp (γ:=Int) (fun f=>⟨[(0,C.v),(1,bs.v),(8,iv f)],[fs false a C,fs false b bs],[.no,.no]⟩) (fun f=>(1≤f)∧(b.getD (b.length-1) 0 * f < 1048576)) (fun f=>(1048576-f).toNat) 1 [0,1] ?_ ?_
 ·refine ⟨?_,?_⟩
  ·show 1≤(1:Int);omega
  show b.getD (b.length-1) 0 * (1:Int) < 1048576;omega
 rintro f hF1 kw8 Z1 hZ1;obtain ⟨bu,bw⟩:=hF1;refine nm ((b.length:Int)-1:Int) fun n1 bx=>nm (b.getD n1.toNat default:Int) fun v2 aT=>nm (v2 * f:Int) fun n2 aU=>?_;have eb:b.getD (b.length-1) 0=v2:=by rw [show b.length-1=n1.toNat by omega];exact aT.symm
 have aV:=bw;rw [eb] at aV;have bO:=Bg.sh_lt (b:=v2) (by omega) bu aV;have bU:=Bg.dmul (x:=v2) (y:=f) (by omega) (by omega);refine vG [.u 2,.ln (kF 1 b bs),.aR ((b.length:Int)-1) n1 bx,.iX (kF 1 b bs) n1,.lE (kF 1 b bs) n1 false v2 aT false,.u 1,.aR (v2 * f) n2 aU,.u 1] fun G8=>?_;intro _ _
 refine vd (n2 < 524288) (fun q5=>?_) fun q6=>?_
 ·refine nm (f * 2:Int) fun n3 aW=>vG [.u 1,.aR (f * 2) n3 aW,.u 1] fun G9=>?_;intro _ _
  refine V.rn hZ1 n3 [0,1] ?_ ?_
  ·refine ⟨?_,?_⟩
   ·show 1≤n3;omega
   show b.getD (b.length-1) 0 * n3 < 1048576;rw [eb];rw [aW];exact Bg.sh_step aU q5
  omega
 have M:Bg.Dg [f]:=Bg.Dg.one (by omega);have bz:=Bg.nv_one f;have aA:0 < Bg.nv [f]:=by omega
 have bV:a.length≤(Bg.dig (Bg.nv a * Bg.nv [f])).length:=Bg.dig_len_mono P aO (Nat.le_mul_of_pos_right _ aA);have bW:b.length≤(Bg.dig (Bg.nv b * Bg.nv [f])).length:=Bg.dig_len_mono H ax (Nat.le_mul_of_pos_right _ aA);have bA:=Bg.mul_dig_len a [f] P M;have bB:=Bg.mul_dig_len b [f] H M;simp only [List.length_cons,List.length_nil] at bA bB;have D:Bg.Dg (Bg.dig (Bg.nv b * Bg.nv [f])):=Bg.dig_Dg _;have aB:Bg.Nz (Bg.dig (Bg.nv b * Bg.nv [f])):=Bg.dig_Nz _;have aX:(Bg.dig (Bg.nv b * Bg.nv [f]))≠[]:=fun e=>by have:=congrArg List.length e;simp only [List.length_nil] at this;omega
 have bC:=Bg.top_pos aX D aB;have bD:(Bg.dig (Bg.nv b * Bg.nv [f])).length≤(Bg.dig (Bg.nv a * Bg.nv [f])).length:=Bg.len_le (Bg.dig_Dg _) D aB (by rw [Bg.nv_dig,Bg.nv_dig];exact Nat.mul_le_mul_right _ bt);refine nm ((Bg.dig (Bg.nv a * Bg.nv [f])) ++([0]:LI):LI) fun l1 aC=>?_;have aY:=congrArg List.length aC;try simp at aY
 refine vG [.u 2,.nr 2 true 3 [f] [] (fun _ _ _ _ _=>trivial) (fun _=>#[iv f]),.cB 3 227 false [] [0] [kA 0 a C,(kf true (.g 2 0) [f] (fun G=>⟨atB (G 2).b,1,1⟩)).a] fun G=>mulo_ct a C [f] ⟨atB (G 2).b,1,1⟩ P M (by omega) (by simp),.nr 4 true 3 ([0]:LI) [] (fun _ _ _ _ _=>trivial) (fun _=>#[iv 0]),.ap 5 0 3 8 false true (Bg.dig (Bg.nv a * Bg.nv [f])) (fun G=>(G 3).ss 0) (kf true (.g 4 0) ([0]:LI) (fun G=>⟨atB (G 4).b,1,1⟩)) true l1 aC (by first | omega | (simp;omega) | simp) (fun h=>by cases h) (.inr fun _ _=>trivial),.u 2,.nr 8 true 3 [f] [] (fun _ _ _ _ _=>trivial) (fun _=>#[iv f]),.cA 9 227 [kA 1 b bs,(kf true (.g 8 0) [f] (fun G=>⟨atB (G 8).b,1,1⟩)).a] fun G=>mul_ct b bs [f] ⟨atB (G 8).b,1,1⟩ H M (by omega) (by simp),.u 2] fun w=>?_;intro _ _
 refine vG [.u 1,.ln (kO 3 0 l1 (w 5).s),.u 1,.ln (kF 0 a C),.u 1] fun bX=>?_;intro _ _
 refine vd ((l1.length:Int)=(a.length:Int)) (fun q7=>?_) fun q8=>?_
 ·exfalso;omega
 refine vG [.u 1,.ln (kG 5 (Bg.dig (Bg.nv b * Bg.nv [f])) ((w 9).ss 0)),.u 1] fun bY=>?_;intro _ _
 refine nm ((l1.length:Int)-((Bg.dig (Bg.nv b * Bg.nv [f])).length:Int):Int) fun n4 bE=>nm (List.replicate n4.toNat (0:Int):LI) fun l2 aD=>?_;have aZ:=congrArg List.length aD;try simp at aZ
 refine vG [.u 1,.ln (kO 3 0 l1 (w 5).s),.u 1,.aR ((l1.length:Int)-((Bg.dig (Bg.nv b * Bg.nv [f])).length:Int)) n4 bE,.mks 4 1 3 8 n4 l2 aD (by omega) (by omega) (by omega),.u 1] fun a0=>?_;intro _ _
 refine nm ((l2.length:Int)-1:Int) fun n5 bF=>vG [.u 1,.ln (kO 3 1 l2 (a0 4).s),.aR ((l2.length:Int)-1) n5 bF,.u 1] fun bZ=>?_;intro _ _
 refine V.lp (γ:=List Int × SV × List Int × SV × Int) (fun ⟨u,us,q,qs,i⟩=>⟨[(8,iv f),(9,us.v),(10,((w 9).ss 0).v),(11,iv ((Bg.dig (Bg.nv b * Bg.nv [f])).length:Int)),(12,qs.v),(13,iv i)],[fs true (Bg.dig (Bg.nv b * Bg.nv [f])) ((w 9).ss 0)],[os true 3 u us,os true 3 q qs]⟩) (fun ⟨u,us,q,qs,i⟩=>(-1≤i)∧(i < (q.length:Int))∧(Bg.DivI (Bg.dig (Bg.nv a * Bg.nv [f]) ++[0]) (Bg.dig (Bg.nv b * Bg.nv [f])) u q (i+1).toNat)∧(q.length+(Bg.dig (Bg.nv b * Bg.nv [f])).length≤a.length+2)) (fun ⟨u,us,q,qs,i⟩=>(i+1).toNat) (l1,(w 5).s,l2,(a0 4).s,n5) [5] ?_ ?_
 ·refine ⟨?_,?_,?_,?_⟩
  ·show -1≤n5;omega
  ·show n5 < (l2.length:Int);omega
  ·show Bg.DivI (Bg.dig (Bg.nv a * Bg.nv [f]) ++[0]) (Bg.dig (Bg.nv b * Bg.nv [f])) l1 l2 (n5+1).toNat;have bG:=Bg.div_start (a:=Bg.dig (Bg.nv a * Bg.nv [f])) (q:=l2) (Bg.dig_Dg _) D aB aX bD (by rw [aD];congr 1;omega);rw [show (n5+1).toNat=l2.length by omega,aC];exact bG
  show l2.length+(Bg.dig (Bg.nv b * Bg.nv [f])).length≤a.length+2
  first | omega | rfl | (simp;done) | (subst_vars;simp;done)
 rintro ⟨u,us,q,qs,i⟩ hF2 kw16 Z2 hZ2;obtain ⟨b0,b1,ae,b2⟩:=hF2;have b3:=ae.len;have Q:=ae.dg;refine vG [.u 2] fun b4=>?_;intro _ _;refine vd (0≤i) (fun q9=>?_) fun b5=>?_
 ·refine nm (i+((Bg.dig (Bg.nv b * Bg.nv [f])).length:Int):Int) fun n6 a1=>nm (u.getD n6.toNat default:Int) fun v3 a2=>nm (v3 * 1048576:Int) fun n7 a3=>nm (u.getD (n6-1).toNat default:Int) fun v4 a4=>nm (n7+v4:Int) fun n8 bH=>?_;have hdi:=ae
  rw [show (i+1).toNat=i.toNat+1 by omega] at hdi;have aj:u.getD (i.toNat+(Bg.dig (Bg.nv b * Bg.nv [f])).length) 0=v3:=by rw [show i.toNat+(Bg.dig (Bg.nv b * Bg.nv [f])).length=n6.toNat by omega];exact a2.symm
  have a5:=Q.get' (i.toNat+(Bg.dig (Bg.nv b * Bg.nv [f])).length);rw [aj] at a5;have ak:u.getD (i.toNat+(Bg.dig (Bg.nv b * Bg.nv [f])).length-1) 0=v4:=by rw [show i.toNat+(Bg.dig (Bg.nv b * Bg.nv [f])).length-1=(n6-1).toNat by omega];exact a4.symm
  have a6:=Q.get' (i.toNat+(Bg.dig (Bg.nv b * Bg.nv [f])).length-1);rw [ak] at a6;refine vG [.u 3,.aR (i+((Bg.dig (Bg.nv b * Bg.nv [f])).length:Int)) n6 a1,.iX (kO 3 0 u us) n6,.lE (kO 3 0 u us) n6 false v3 a2 false,.shlm g0 .i64 .u64 v3 20 n7 20 (fun _=>⟨rfl,by decide,by show _=IntKind.i64.wrap (v3 * 1048576);rw [IntKind.wrap_i64];omega⟩),.u 3,.aR (i+((Bg.dig (Bg.nv b * Bg.nv [f])).length:Int)) n6 a1,.aa (n6-1),.iX (kO 3 0 u us) (n6-1),.lE (kO 3 0 u us) (n6-1) false v4 a4 false,.orm g0 n7 v3 v4 n8 20 (by rw [a3];rfl) (fun _=>⟨by decide,by omega,⟨by omega,by show _ < (1048576:Int);omega⟩,by rw [bH,a3];rfl,by omega⟩),.u 1] fun b6=>?_;intro _ _
  refine nm (((Bg.dig (Bg.nv b * Bg.nv [f])).length:Int)-1:Int) fun n9 a7=>nm ((Bg.dig (Bg.nv b * Bg.nv [f])).getD n9.toNat default:Int) fun v5 aE=>nm (n8 / v5:Int) fun aF al=>nm (n8 % v5:Int) fun aG am=>?_;have X:(Bg.dig (Bg.nv b * Bg.nv [f])).getD ((Bg.dig (Bg.nv b * Bg.nv [f])).length-1) 0=v5:=by rw [show (Bg.dig (Bg.nv b * Bg.nv [f])).length-1=n9.toNat by omega];exact aE.symm
  have a8:=D.get' ((Bg.dig (Bg.nv b * Bg.nv [f])).length-1);rw [X] at a8 bC;have b7:=Int.ediv_nonneg (show 0≤n8 by omega) (show 0≤v5 by omega);have b8:=Int.ediv_le_self v5 (show 0≤n8 by omega);refine vG [.u 3,.aR (((Bg.dig (Bg.nv b * Bg.nv [f])).length:Int)-1) n9 a7,.iX (kG 0 (Bg.dig (Bg.nv b * Bg.nv [f])) ((w 9).ss 0)) n9,.lE (kG 0 (Bg.dig (Bg.nv b * Bg.nv [f])) ((w 9).ss 0)) n9 false v5 aE false,.qov g0 n8 v5 aF al (fun _=>⟨by omega,by omega⟩) (fun _=>by omega),.u 3,.aR (((Bg.dig (Bg.nv b * Bg.nv [f])).length:Int)-1) n9 a7,.iX (kG 0 (Bg.dig (Bg.nv b * Bg.nv [f])) ((w 9).ss 0)) n9,.lE (kG 0 (Bg.dig (Bg.nv b * Bg.nv [f])) ((w 9).ss 0)) n9 false v5 aE false,.rmv g0 n8 v5 aG am (fun _=>⟨by omega,by omega⟩),.u 2] fun b9=>?_;intro _ _
  refine V.lp (γ:=Int × Int) (fun ⟨j,rest⟩=>⟨[(8,iv f),(9,us.v),(10,((w 9).ss 0).v),(11,iv ((Bg.dig (Bg.nv b * Bg.nv [f])).length:Int)),(12,qs.v),(13,iv i),(15,iv j),(16,iv rest)],[fs true (Bg.dig (Bg.nv b * Bg.nv [f])) ((w 9).ss 0)],[os true 3 u us,os true 3 q qs]⟩) (fun ⟨j,rest⟩=>(Bg.Gss (Bg.dig (Bg.nv b * Bg.nv [f])) u i.toNat j rest)) (fun ⟨j,rest⟩=>j.toNat) (aF,aG) [0] ?_ ?_
  ··show Bg.Gss (Bg.dig (Bg.nv b * Bg.nv [f])) u i.toNat aF aG;exact Bg.gss_start hdi D (by omega) (by omega) (by omega) (t:=n8) (by rw [aj,ak];omega) (by rw [X,al]) (by rw [X,am])
  rintro ⟨j,rest⟩ hF3 kw20 Z3 hZ3;have I:Bg.Gss (Bg.dig (Bg.nv b * Bg.nv [f])) u i.toNat j rest:=hF3;have bI:=I.g0;have bJ:=I.g1;have cb:=I.r0;refine nm (((Bg.dig (Bg.nv b * Bg.nv [f])).length:Int)-2:Int) fun Y a9=>nm ((Bg.dig (Bg.nv b * Bg.nv [f])).getD Y.toNat default:Int) fun v6 ba=>nm (j * v6:Int) fun aH bb=>nm (rest * 1048576:Int) fun aI an=>nm (i+((Bg.dig (Bg.nv b * Bg.nv [f])).length:Int):Int) fun o ao=>nm (u.getD (o-2).toNat default:Int) fun v7 bc=>nm (aI+v7:Int) fun aJ be=>nm ((decide (rest < 1048576)) && (decide (aJ < aH)):Bool) fun p1 aK=>?_;have Z:(Bg.dig (Bg.nv b * Bg.nv [f])).getD ((Bg.dig (Bg.nv b * Bg.nv [f])).length-2) 0=v6:=by rw [show (Bg.dig (Bg.nv b * Bg.nv [f])).length-2=Y.toNat by omega];exact ba.symm
  have aq:=D.get' ((Bg.dig (Bg.nv b * Bg.nv [f])).length-2);rw [Z] at aq;have ab:u.getD (i.toNat+(Bg.dig (Bg.nv b * Bg.nv [f])).length-2) 0=v7:=by rw [show i.toNat+(Bg.dig (Bg.nv b * Bg.nv [f])).length-2=(o-2).toNat by omega];exact bc.symm
  have bf:=Q.get' (i.toNat+(Bg.dig (Bg.nv b * Bg.nv [f])).length-2);rw [ab] at bf;have bm:=Bg.gmul ⟨bI,bJ⟩ aq;refine vG [.u 9,.arg ((gF (b:=decide (1048576≤j)) iDF).T (b:=decide (rest < 1048576)) iDT) (((Bg.dig (Bg.nv b * Bg.nv [f])).length:Int)-2) Y a9 (fun hg=>by omega),.ix ((gF (b:=decide (1048576≤j)) iDF).T (b:=decide (rest < 1048576)) iDT) (kG 0 (Bg.dig (Bg.nv b * Bg.nv [f])) ((w 9).ss 0)) Y (fun hg=>⟨by omega,by omega⟩),.le ((gF (b:=decide (1048576≤j)) iDF).T (b:=decide (rest < 1048576)) iDT) (kG 0 (Bg.dig (Bg.nv b * Bg.nv [f])) ((w 9).ss 0)) Y none false v6 ba (fun hg=>⟨by omega,by omega⟩) false (fun _=>[iv v6]),.arg ((gF (b:=decide (1048576≤j)) iDF).T (b:=decide (rest < 1048576)) iDT) (j * v6) aH bb (fun hg=>by omega),.u 1,.shlm ((gF (b:=decide (1048576≤j)) iDF).T (b:=decide (rest < 1048576)) iDT) .i64 .u64 rest 20 aI 20 (fun hg=>⟨rfl,by decide,by show _=IntKind.i64.wrap (rest * 1048576);rw [IntKind.wrap_i64];omega⟩),.u 3,.arg ((gF (b:=decide (1048576≤j)) iDF).T (b:=decide (rest < 1048576)) iDT) (i+((Bg.dig (Bg.nv b * Bg.nv [f])).length:Int)) o ao (fun hg=>by omega),.arg ((gF (b:=decide (1048576≤j)) iDF).T (b:=decide (rest < 1048576)) iDT) (o-2) (o-2) rfl (fun hg=>by omega),.ix ((gF (b:=decide (1048576≤j)) iDF).T (b:=decide (rest < 1048576)) iDT) (kO 3 0 u us) (o-2) (fun hg=>⟨by omega,by omega⟩),.le ((gF (b:=decide (1048576≤j)) iDF).T (b:=decide (rest < 1048576)) iDT) (kO 3 0 u us) (o-2) none false v7 bc (fun hg=>⟨by omega,by omega⟩) false (fun _=>[iv v7]),.orm ((gF (b:=decide (1048576≤j)) iDF).T (b:=decide (rest < 1048576)) iDT) aI rest v7 aJ 20 (by rw [an];rfl) (fun hg=>⟨by decide,by omega,⟨by omega,by show _ < (1048576:Int);omega⟩,by rw [be,an];rfl,by omega⟩),.u 1,.andn (gF (b:=decide (1048576≤j)) iDF) false (decide (rest < 1048576)) (decide (aJ < aH)) p1 aK,.or g0 false (decide (1048576≤j)) p1] fun cc=>?_;intro _ _
  refine V.cn (b:=(decide (1048576≤j)) || p1) (iOT iDT (iN aK (iAT iDT iDT))) (iOF iDF (iN aK (iAF iDF iDF))) (fun cd=>?_) (fun cf=>?_)
  ·have au:1048576≤j∨rest < 1048576∧rest * 1048576+u.getD (i.toNat+(Bg.dig (Bg.nv b * Bg.nv [f])).length-2) 0 < j * (Bg.dig (Bg.nv b * Bg.nv [f])).getD ((Bg.dig (Bg.nv b * Bg.nv [f])).length-2) 0:=by rw [Z,ab];omega
   refine vG [.u 1,.aa (j-1),.u 1] fun cg=>?_;intro _ _
   refine nm (((Bg.dig (Bg.nv b * Bg.nv [f])).length:Int)-1:Int) fun ac bg=>nm ((Bg.dig (Bg.nv b * Bg.nv [f])).getD ac.toNat default:Int) fun v8 bh=>?_;have av:(Bg.dig (Bg.nv b * Bg.nv [f])).getD ((Bg.dig (Bg.nv b * Bg.nv [f])).length-1) 0=v8:=by rw [show (Bg.dig (Bg.nv b * Bg.nv [f])).length-1=ac.toNat by omega];exact bh.symm
   have bi:=D.get' ((Bg.dig (Bg.nv b * Bg.nv [f])).length-1);rw [av] at bi;have gq:=Bg.gss_nat I Q D;refine vG [.u 3,.aR (((Bg.dig (Bg.nv b * Bg.nv [f])).length:Int)-1) ac bg,.iX (kG 0 (Bg.dig (Bg.nv b * Bg.nv [f])) ((w 9).ss 0)) ac,.lE (kG 0 (Bg.dig (Bg.nv b * Bg.nv [f])) ((w 9).ss 0)) ac false v8 bh false,.aa (rest+v8),.u 1] fun ch=>?_;intro _ _
   refine V.rn hZ3 (j-1,rest+v8) [0] ?_ ?_
   ··show Bg.Gss (Bg.dig (Bg.nv b * Bg.nv [f])) u i.toNat (j-1) (rest+v8);have hl:=(Bg.gss_less I hdi D (by omega) (by omega) (by omega) au).1;rw [av] at hl;rw [show j-1=j-1 from rfl];exact hl
   show (j-1).toNat < j.toNat;have hl:=(Bg.gss_less I hdi D (by omega) (by omega) (by omega) au).2;omega
  have bj:¬ 1048576≤j∧(¬rest < 1048576∨¬ rest * 1048576+u.getD (i.toNat+(Bg.dig (Bg.nv b * Bg.nv [f])).length-2) 0 < j * (Bg.dig (Bg.nv b * Bg.nv [f])).getD ((Bg.dig (Bg.nv b * Bg.nv [f])).length-2) 0):=by rw [Z,ab];omega
  refine nm ((u.take (o+1).toNat).drop i.toNat:LI) fun l3 cj=>nm (q.getD i.toNat default:Int) fun v9 bK=>nm (q.set i.toNat (Bg.setG ((u.take (o+1).toNat).drop i.toNat) (Bg.dig (Bg.nv b * Bg.nv [f])) j):LI) fun l4 aL=>?_;have bk:=congrArg List.length aL;try simp at bk
  have aM:=Bg.gss_end I hdi D (by omega) (by omega) (by omega) bj;have E:(u.take (o+1).toNat).drop i.toNat=Bg.win u i.toNat (Bg.dig (Bg.nv b * Bg.nv [f])).length:=Bg.win_is (by omega);have bn:=Bg.win_len hdi (by omega);refine vG [.u 6,.aR (i+((Bg.dig (Bg.nv b * Bg.nv [f])).length:Int)) o ao,.aa (o+1),.slv g0 (kO 3 0 u us) (some i) (some (o+1)) i (o+1) rfl rfl (fun _=>⟨by omega,by omega,by omega⟩),.u 2,.cB 11 230 false [0] [] [kB 0 (Bg.dig (Bg.nv b * Bg.nv [f])) ((w 9).ss 0)] fun G=>settle_ct u us i.toNat ((o+1).toNat) (u.take i.toNat) ((u.take (o+1).toNat).drop i.toNat) (u.drop (o+1).toNat) (Bg.dig (Bg.nv b * Bg.nv [f])) ((w 9).ss 0) j (cut3 (by omega) (by omega)) (cutlo (by omega)) (cuthi (by omega) (by omega)) (by rw [E];exact (Q.drop _).take _) D (by rw [E,bn];omega) aM.1 (by rw [E];exact aM.2.1) (by rw [E,bn];omega),.iX (kO 3 1 q qs) i,.se g0 13 1 3 true q (fun _=>qs) i none v9 (Bg.setG ((u.take (o+1).toNat).drop i.toNat) (Bg.dig (Bg.nv b * Bg.nv [f])) j) bK true l4 aL (fun _=>⟨by omega,by omega⟩) (fun _=>rfl) [] (fun _ _ _ _=>trivial)] fun ck=>?_;intro _ _
  refine vG [.u 1,.aa (i-1),.u 1] fun cl=>?_;intro _ _
  refine V.rn hZ2 ((u.take i.toNat) ++(Bg.setP ((u.take (o+1).toNat).drop i.toNat) (Bg.dig (Bg.nv b * Bg.nv [f])) j) ++(u.drop (o+1).toNat),us,l4,qs,i-1) [0] ?_ ?_
  ·refine ⟨?_,?_,?_,?_⟩
   ·show -1≤(i-1);omega
   ·show (i-1) < (l4.length:Int);omega
   ·show Bg.DivI (Bg.dig (Bg.nv a * Bg.nv [f]) ++[0]) (Bg.dig (Bg.nv b * Bg.nv [f])) ((u.take i.toNat) ++(Bg.setP ((u.take (o+1).toNat).drop i.toNat) (Bg.dig (Bg.nv b * Bg.nv [f])) j) ++(u.drop (o+1).toNat)) l4 ((i-1)+1).toNat;have aN:=Bg.div_step (x:=(Bg.setG ((u.take (o+1).toNat).drop i.toNat) (Bg.dig (Bg.nv b * Bg.nv [f])) j)) hdi D (by omega) aM.2.2 (by rw [E]);rw [aL,show (i-1+1).toNat=i.toNat by omega];rw [E];rw [E] at aN;unfold Bg.nxtU at aN;rw [show (o+1).toNat=i.toNat+(Bg.dig (Bg.nv b * Bg.nv [f])).length+1 by omega];exact aN
   show l4.length+(Bg.dig (Bg.nv b * Bg.nv [f])).length≤a.length+2;omega
  dsimp only;omega
 have ad:=ae;rw [show (i+1).toNat=0 by omega] at ad;obtain ⟨bp,bq⟩:=Bg.dvals (s:=Bg.nv [f]) (A:=Bg.nv a) (B:=Bg.nv b) ad aA (by rw [Bg.nv_app0,Bg.nv_dig]) (by rw [Bg.nv_dig]);have cm:=ad.len;have aw:=ad.dg;have br:=ad.qd;have bP:=Bg.dig_le aw;refine V.frz 0 true 3 u us (by kernel_rfl) ?_;refine vG [.u 1,.ctT g0 1 213 [kB 1 u us] (fun _ G=>trim_ct u us aw),.u 1,.cA 3 229 [(kf true (.g 1 0) (Bg.dig (Bg.nv u)) (fun G=>(G 1).ss 0)).a] fun G=>short_ct (Bg.dig (Bg.nv u)) ((G 1).ss 0) f (Bg.dig_Dg _) (by omega) (by omega),.u 5] fun bL=>?_;intro _ _
 refine V.frz 1 true 3 q qs (by kernel_rfl) ?_;refine vG [.u 1,.ctT g0 1 213 [kB 4 q qs] (fun _ G=>trim_ct q qs br),.u 3] fun bM=>?_;intro _ _
 have e0:Bg.dig (Bg.nv q)=Bg.dig (Bg.nv a / Bg.nv b):=by rw [bp]
 rw [←e0];have e1:Bg.dig (Bg.nv (Bg.dig (Bg.nv u)) / f.toNat)=Bg.dig (Bg.nv a % Bg.nv b):=by rw [Bg.nv_dig,← bz,bq]
 rw [←e1];exact V.rS [0,0] [(bM 1).ss 0,(bL 3).ss 0] [] [] [5,3] []
theorem div_ctv (a:List Int) (d:SV) (b:List Int) (bs:SV) (o:Bg.Dg a) (t:Bg.Dg b) (w:Bg.Nz a) (A:Bg.Nz b) (B:b≠[]) (C:a.length≤549755813888) (D:b.length≤549755813888) (f:List Int) (h:f=Bg.dig (Bg.nv a / Bg.nv b)) (i:List Int) (j:i=Bg.dig (Bg.nv a % Bg.nv b)) :
  Ct Tryz.prog 223 #[d.v,bs.v] [fs true a d,fs true b bs] [] (fun g=>.tuple #[((g.ss 0)).v,((g.ss 1)).v]) (fun g=>[fs true f (g.ss 0),fs true i (g.ss 1)]) (fun g=>[]) (fun g=>[]):=by
 subst h j;exact div_ct a d b bs o t w A B C D

theorem Gcd_ct (f:Int) (c:LI) (j:SV) (i:Int) (d:LI) (k:SV) (ao:c.length≤274877906944) (aq:d.length≤274877906944) :
  Ct Tryz.prog 216 #[ag (DBig.mk f ⟨c,j⟩),ag (DBig.mk i ⟨d,k⟩)] [fs true c j,fs true d k] [] (fun g=>.tuple #[ag (DBig.mk (Bg.oS (Bg.RtB f c∧Bg.RtB i d) ((Nat.gcd (Bg.nv c) (Bg.nv d):Int))) ⟨Bg.oD (Bg.RtB f c∧Bg.RtB i d) ((Nat.gcd (Bg.nv c) (Bg.nv d):Int)),(g.ss 0)⟩),iv (if (Bg.RtB f c∧Bg.RtB i d) then (0:Int) else 1)]) (fun g=>[fs true (Bg.oD (Bg.RtB f c∧Bg.RtB i d) ((Nat.gcd (Bg.nv c) (Bg.nv d):Int))) (g.ss 0)]) eF eF:=by
 refine vf mo Tryz.func216 44 3 fun _=>?_
 refine vG [.n 0,.n 1,.n 2,.u 1] fun G1=>?_;intro _ _
 refine nm ((!(decide (Bg.RtB f c))) || (!(decide (Bg.RtB i d))):Bool) fun p1 B=>vG [.l 0,.cP 1 214 [kA 0 c j] fun G=>bright_ct f c j,.u 2,.l 1,.cp (gF (b:=!(decide (Bg.RtB f c))) (iNF iDT)) 5 214 [kA 1 d k] (fun hg G=>bright_ct i d k),.u 1,.orn g0 false (!(decide (Bg.RtB f c))) (!(decide (Bg.RtB i d))) p1 B] fun G2=>?_;intro _ _
 refine V.cn (b:=p1) (iN B (iOT (iNT iDF) (iNT iDF))) (iN B (iOF (iNF iDT) (iNF iDT))) (fun q1=>?_) (fun q2=>?_)
 ·have C:¬ (Bg.RtB f c∧Bg.RtB i d):=by rintro ⟨h1,h2⟩;rcases q1 with h | h;exact h h1;exact h h2
  refine nm (([]:LI):LI) fun l1 I=>vR [.u 1,.ctT g0 1 222 [(knil (α:=Int)).a] (fun _ G=>checkedF_ctv (0:Int) ([]:LI) ({}) l1 I),.u 2,.s 2,.u 1] fun G3 ae=>?_;intro _ _
  obtain ⟨au, -⟩:Lq l1 (((G3 1).ss 0).v):=kj ae 0;have e1:l1=Bg.oD (Bg.RtB f c∧Bg.RtB i d) ((Nat.gcd (Bg.nv c) (Bg.nv d):Int)):=by
   rw [I];exact (Bg.oD_n C _).symm
  subst e1;have e0:(0:Int)=Bg.oS (Bg.RtB f c∧Bg.RtB i d) ((Nat.gcd (Bg.nv c) (Bg.nv d):Int)):=(Bg.oS_n C _).symm;have e2:(1:Int)=if (Bg.RtB f c∧Bg.RtB i d) then (0:Int) else 1:=(if_neg C).symm
  exact V.rT [2,0] [(G3 1).ss 0] [] [] [2] [] (cong2 (fun (D E:Int)=>(.tuple #[.agg #[iv D,((G3 1).ss 0).v],iv E]:Value)) e0 e2)
 have o:(Bg.RtB f c∧Bg.RtB i d):=by first | exact q2 | exact ⟨Decidable.not_not.1 (q2).1,Decidable.not_not.1 (q2).2⟩
 refine vG [.u 1,.l 0,.cA 2 221 [kA 0 c j] fun G=>clonef_ct c j (by omega),.u 1,.l 1,.u 2] fun G4=>?_;intro _ _
 refine V.lp (γ:=List Int × SV × List Int × SV) (fun ⟨x,xs,y,ys⟩=>⟨[(4,pp ((G1 2).b) 0),(6,xs.v),(7,ys.v)],[fs false x xs,fs false y ys],[.no,.no,.blk ((G1 2).b) (ca (DBig.mk 0 ⟨[],{}⟩)) 169]⟩) (fun ⟨x,xs,y,ys⟩=>(Bg.Dg x)∧(Bg.Nz x)∧(Bg.Dg y)∧(Bg.Nz y)∧(Nat.gcd (Bg.nv x) (Bg.nv y)=Nat.gcd (Bg.nv c) (Bg.nv d))∧(x.length≤274877906944)∧(y.length≤274877906944)) (fun ⟨x,xs,y,ys⟩=>Bg.nv y) (c,(G4 2).ss 0,d,k) [2,1] ?_ ?_
 ·refine ⟨?_,?_,?_,?_,?_,?_,?_⟩
  ·show Bg.Dg c;exact o.1.dg
  ·show Bg.Nz c;exact o.1.nz
  ·show Bg.Dg d;exact o.2.dg
  ·show Bg.Nz d;exact o.2.nz
  ·show Nat.gcd (Bg.nv c) (Bg.nv d)=Nat.gcd (Bg.nv c) (Bg.nv d);rfl
  ·show c.length≤274877906944;omega
  show d.length≤274877906944;omega
 rintro ⟨x,xs,y,ys⟩ hF1 kw5 Z1 hZ1;obtain ⟨M,af,w,H,P,av,ah⟩:=hF1;refine vG [.u 1,.ln (kF 1 y ys),.u 1] fun G5=>?_;intro _ _;refine vd (0 < (y.length:Int)) (fun q3=>?_) fun q4=>?_
 ·have Q:y≠[]:=fun e=>by have:=congrArg List.length e;simp only [List.length_nil] at this;omega
  have ai:=Bg.nv_ne w H Q;have X:=Nat.mod_lt (Bg.nv x) (Nat.pos_of_ne_zero ai);refine nm (Bg.dig (Bg.nv x / Bg.nv y):LI) fun l2 aj=>nm (Bg.dig (Bg.nv x % Bg.nv y):LI) fun l3 t=>vG [.u 2,.cA 2 223 [kA 0 x xs,kA 1 y ys] fun G=>div_ctv x xs y ys M w af H Q (by omega) (by omega) l2 aj l3 t,.u 5] fun G6=>?_;intro _ _
  refine vG [.u 4] fun G7=>?_;intro _ _
  refine V.rn hZ1 (y,ys,l3,(G6 2).ss 1) [1,3] ?_ ?_
  ·refine ⟨?_,?_,?_,?_,?_,?_,?_⟩
   ·show Bg.Dg y;exact w
   ·show Bg.Nz y;exact H
   ·show Bg.Dg l3;rw [t];exact Bg.dig_Dg _
   ·show Bg.Nz l3;rw [t];exact Bg.dig_Nz _
   ·show Nat.gcd (Bg.nv y) (Bg.nv l3)=Nat.gcd (Bg.nv c) (Bg.nv d);rw [t];rw [Bg.nv_dig];exact Bg.gcd_step P
   ·show y.length≤274877906944;omega
   show l3.length≤274877906944;rw [t];exact Nat.le_trans (Bg.dig_len_mono' (Nat.le_of_lt X)) (Nat.le_trans (Bg.dig_le w) ah)
  show Bg.nv l3 < Bg.nv y;rw [t];rw [Bg.nv_dig];exact X
 have ak:=M;have A:=P;have al:y=[]:=List.eq_nil_of_length_eq_zero (by omega);rw [al,show Bg.nv []=0 from rfl,Nat.gcd_zero_right] at A;have Y:=Bg.gcdS (Nat.gcd (Bg.nv c) (Bg.nv d));have Z:=Bg.gcdD (Nat.gcd (Bg.nv c) (Bg.nv d));rw [←A,Bg.nv_dig] at Y Z;refine nm (Bg.sg0 (Bg.nv x) (1:Int):Int) fun n1 ab=>nm (Bg.dig (Bg.nv x):LI) fun l4 ac=>vR [.u 1,.cA 1 221 [kA 0 x xs] fun G=>clonef_ct x xs (by omega),.ctT g0 2 199 [(kf true (.g 1 0) x (fun G=>(G 1).ss 0)).a] (fun _ G=>signed_ctv (1:Int) x ((G 1).ss 0) (by first | assumption | exact ak) n1 ab l4 ac),.ctT g0 3 222 [(kf true (.g 2 0) l4 (fun G=>(G 2).ss 0)).a] (fun _ G=>checkedT_ct n1 l4 ((G 2).ss 0)),.u 2,.s 2,.u 1] fun G8 ad=>?_;intro _ _
 obtain ⟨am, -⟩:Lq l4 (((G8 2).ss 0).v):=kj ad 1;obtain ⟨an, -⟩:Lq l4 (((G8 3).ss 0).v):=kj ad 2;have e1:l4=Bg.oD (Bg.RtB f c∧Bg.RtB i d) ((Nat.gcd (Bg.nv c) (Bg.nv d):Int)):=by
  rw [ac];rw [Bg.oD_y o];rw [←A];exact Z
 subst e1;have e0:n1=Bg.oS (Bg.RtB f c∧Bg.RtB i d) ((Nat.gcd (Bg.nv c) (Bg.nv d):Int)):=by
  rw [ab];rw [Bg.oS_y o];rw [←A];exact Y
 have e2:(0:Int)=if (Bg.RtB f c∧Bg.RtB i d) then (0:Int) else 1:=(if_pos o).symm
 exact V.rT [2,0] [(G8 3).ss 0] [] [] [4] [] (cong2 (fun (D E:Int)=>(.tuple #[.agg #[iv D,((G8 3).ss 0).v],iv E]:Value)) e0 e2)
theorem Gcd_ctv (c:Int) (a:List Int) (e:SV) (d:Int) (b:List Int) (f:SV) (A:a.length≤274877906944) (B:b.length≤274877906944) (i:Int) (j:i=Bg.oS (Bg.RtB c a∧Bg.RtB d b) ((Nat.gcd (Bg.nv a) (Bg.nv b):Int))) (h:List Int) (o:h=Bg.oD (Bg.RtB c a∧Bg.RtB d b) ((Nat.gcd (Bg.nv a) (Bg.nv b):Int))) (t:Int) (w:t=if (Bg.RtB c a∧Bg.RtB d b) then (0:Int) else 1) :
  Ct Tryz.prog 216 #[ag (DBig.mk c ⟨a,e⟩),ag (DBig.mk d ⟨b,f⟩)] [fs true a e,fs true b f] [] (fun g=>.tuple #[ag (DBig.mk i ⟨h,(g.ss 0)⟩),iv t]) (fun g=>[fs true h (g.ss 0)]) (fun g=>[]) (fun g=>[]):=by
 subst j o w;exact Gcd_ct c a e d b f A B

theorem add_ct (a:LI) (A:SV) (b:LI) (bs:SV) (E:Bg.Dg a) (H:Bg.Dg b) (aU:a.length≤1099511627776) (aV:b.length≤1099511627776) :
  Ct Tryz.prog 224 #[A.v,bs.v] [fs true a A,fs true b bs] [] (fun g=>((g.ss 0)).v) (fun g=>[fs true (Bg.dig (Bg.nv a+Bg.nv b)) (g.ss 0)]) eF eF:=by
 refine vf mo Tryz.func224 55 1 fun _=>?_
 refine vG [.u 1] fun G1=>?_;intro _ _
 refine vG [.u 1,.ln (kF 0 a A),.u 1,.ln (kF 1 b bs),.u 1] fun G2=>?_;intro _ _
 refine vd ((a.length:Int) < (b.length:Int)) (fun q1=>?_) fun q2=>?_
 ·refine vG [.u 4] fun G3=>?_;intro _ _
  refine nm ((b.length:Int)+1:Int) fun n1 aE=>nm (List.replicate n1.toNat (0:Int):LI) fun l1 af=>vG [.u 1,.ln (kF 1 b bs),.aR ((b.length:Int)+1) n1 aE,.mks 3 0 3 8 n1 l1 af (by omega) (by omega) (by omega),.u 1] fun G4=>?_;intro _ _
  refine vG [.u 1] fun G5=>?_;intro _ _
  refine vG [.u 1,.ln (kF 1 b bs),.u 1] fun G6=>?_;intro _ _
  refine V.lp (γ:=List Int × SV × Int × Int) (fun ⟨w,t,j,k0⟩=>⟨[(0,bs.v),(1,A.v),(5,t.v),(6,iv j),(20,bs.v),(21,iv (b.length:Int)),(22,iv k0)],[fs false b bs,fs false a A],[os true 3 w t]⟩) (fun ⟨w,t,j,k0⟩=>(0≤k0)∧(k0≤(b.length:Int))∧(Bg.AddI b a w k0.toNat j)) (fun ⟨w,t,j,k0⟩=>((b.length:Int)-k0).toNat) (l1,(G4 3).s,0,0) [1,0] ?_ ?_
  ·refine ⟨by omega,by omega,?_⟩;show Bg.AddI b a l1 (0:Int).toNat (0:Int);rw [af,show n1.toNat=b.length+1 by omega];exact Bg.add_start _ _
  rintro ⟨w,t,j,k0⟩ hF1 kw7 Z1 hZ1;obtain ⟨aW,aX,I⟩:=hF1;have aF:=I.len;have aG:=I.c0;have ah:=H.get' k0.toNat;have ai:=E.get' k0.toNat;refine vG [.u 1] fun G7=>?_;intro _ _;refine vd (k0 < (b.length:Int)) (fun q3=>?_) fun q4=>?_
  ·refine nm (b.getD k0.toNat default:Int) fun v1 aj=>vG [.u 1,.iX (kF 0 b bs) k0,.lE (kF 0 b bs) k0 false v1 aj false,.u 2] fun G8=>?_;intro _ _
   have e1:b.getD k0.toNat 0=v1:=aj.symm;refine vG [.u 2,.aa (j+v1),.u 1] fun G9=>?_;intro _ _
   refine vG [.u 2,.ln (kF 1 a A),.u 1] fun aY=>?_;intro _ _
   refine vd (k0 < (a.length:Int)) (fun q5=>?_) fun q6=>?_
   ·refine nm (a.getD k0.toNat default:Int) fun v2 ak=>nm (j+v1+v2:Int) fun n2 aH=>?_;have e2:a.getD k0.toNat 0=v2:=ak.symm
    refine vG [.u 3,.iX (kF 1 a A) k0,.lE (kF 1 a A) k0 false v2 ak false,.aR (j+v1+v2) n2 aH,.u 1] fun aZ=>?_;intro _ _
    have D:n2=j+b.getD k0.toNat 0+a.getD k0.toNat 0:=by omega
    refine nm (n2 % 1048576:Int) fun n3 al=>nm (w.getD k0.toNat default:Int) fun v3 aI=>nm (w.set k0.toNat n3:LI) fun l2 am=>vG [.u 3,.andm g0 n2 1048575 n3 20 (by decide) rfl (by rw [al];rfl),.iX (kO 3 0 w t) k0,.se g0 5 0 3 true w (fun _=>t) k0 none v3 n3 aI true l2 am (fun _=>⟨by omega,by omega⟩) (fun _=>rfl) [] (fun _ _ _ _=>trivial)] fun a0=>?_;intro _ _
    refine nm (n2 / 1048576:Int) fun n4 an=>vG [.u 1,.shrm g0 .i64 .u64 n2 n4 20 (by decide) (by rw [an];rfl),.u 1] fun a1=>?_;intro _ _
    refine vG [.aa (k0+1),.u 1] fun a2=>?_;intro _ _
    refine V.rn hZ1 (l2,t,n4,k0+1) [0,1] ?_ ?_
    ·refine ⟨by omega,by omega,?_⟩;show Bg.AddI b a l2 (k0+1).toNat n4;rw [am,al,an,show (k0+1).toNat=k0.toNat+1 by omega];exact Bg.add_step I H E (by omega) D
    dsimp only;omega
   have e2:=Bg.getD_out (l:=a) (i:=k0.toNat) (by omega);have D:j+v1=j+b.getD k0.toNat 0+a.getD k0.toNat 0:=by omega
   refine nm ((j+v1) % 1048576:Int) fun n5 ao=>nm (w.getD k0.toNat default:Int) fun v4 aJ=>nm (w.set k0.toNat n5:LI) fun l3 aq=>vG [.u 3,.andm g0 (j+v1) 1048575 n5 20 (by decide) rfl (by rw [ao];rfl),.iX (kO 3 0 w t) k0,.se g0 5 0 3 true w (fun _=>t) k0 none v4 n5 aJ true l3 aq (fun _=>⟨by omega,by omega⟩) (fun _=>rfl) [] (fun _ _ _ _=>trivial)] fun a3=>?_;intro _ _
   refine nm ((j+v1) / 1048576:Int) fun n6 au=>vG [.u 1,.shrm g0 .i64 .u64 (j+v1) n6 20 (by decide) (by rw [au];rfl),.u 1] fun a4=>?_;intro _ _
   refine vG [.aa (k0+1),.u 1] fun a5=>?_;intro _ _
   refine V.rn hZ1 (l3,t,n6,k0+1) [0,1] ?_ ?_
   ·refine ⟨by omega,by omega,?_⟩;show Bg.AddI b a l3 (k0+1).toNat n6;rw [aq,ao,au,show (k0+1).toNat=k0.toNat+1 by omega];exact Bg.add_step I H E (by omega) D
   dsimp only;omega
  have ab:k0.toNat=b.length:=by omega
  have M:=I;rw [ab] at M;obtain ⟨B,C⟩:=Bg.add_end M (by omega);refine nm (w.getD (b.length:Int).toNat default:Int) fun v5 aK=>nm (w.set (b.length:Int).toNat j:LI) fun l4 av=>vG [.u 2,.ln (kF 0 b bs),.u 1,.iX (kO 3 0 w t) (b.length:Int),.se g0 5 0 3 true w (fun _=>t) (b.length:Int) none v5 j aK true l4 av (fun _=>⟨by omega,by omega⟩) (fun _=>rfl) [] (fun _ _ _ _=>trivial)] fun a6=>?_;intro _ _
  have P:l4=w.set b.length j:=by rw [av];congr 1
  rw [←P] at B C;refine V.frz 0 true 3 l4 t (by kernel_rfl) ?_;refine vG [.u 1,.ctT g0 1 213 [kB 2 l4 t] (fun _ G=>trim_ct l4 t B),.u 1] fun aL=>?_;intro _ _
  have e0:Bg.dig (Bg.nv l4)=Bg.dig (Bg.nv a+Bg.nv b):=by rw [C];rw [Nat.add_comm]
  rw [←e0];exact V.rS [0] [(aL 1).ss 0] [] [] [3] []
 refine nm ((a.length:Int)+1:Int) fun n7 aM=>nm (List.replicate n7.toNat (0:Int):LI) fun l5 aw=>vG [.u 1,.ln (kF 0 a A),.aR ((a.length:Int)+1) n7 aM,.mks 3 0 3 8 n7 l5 aw (by omega) (by omega) (by omega),.u 1] fun aN=>?_;intro _ _
 refine vG [.u 1] fun a7=>?_;intro _ _
 refine vG [.u 1,.ln (kF 0 a A),.u 1] fun a8=>?_;intro _ _
 refine V.lp (γ:=List Int × SV × Int × Int) (fun ⟨o,h,f,d⟩=>⟨[(0,A.v),(1,bs.v),(5,h.v),(6,iv f),(20,A.v),(21,iv (a.length:Int)),(22,iv d)],[fs false a A,fs false b bs],[os true 3 o h]⟩) (fun ⟨o,h,f,d⟩=>(0≤d)∧(d≤(a.length:Int))∧(Bg.AddI a b o d.toNat f)) (fun ⟨o,h,f,d⟩=>((a.length:Int)-d).toNat) (l5,(aN 3).s,0,0) [0,1] ?_ ?_
 ·refine ⟨by omega,by omega,?_⟩;show Bg.AddI a b l5 (0:Int).toNat (0:Int);rw [aw,show n7.toNat=a.length+1 by omega];exact Bg.add_start _ _
 rintro ⟨o,h,f,d⟩ hF2 kw24 Z2 hZ2;obtain ⟨a9,ba,Q⟩:=hF2;have aF:=Q.len;have aG:=Q.c0;have ah:=E.get' d.toNat;have ai:=H.get' d.toNat;refine vG [.u 1] fun bb=>?_;intro _ _;refine vd (d < (a.length:Int)) (fun q7=>?_) fun q8=>?_
 ·refine nm (a.getD d.toNat default:Int) fun v6 ax=>vG [.u 1,.iX (kF 0 a A) d,.lE (kF 0 a A) d false v6 ax false,.u 2] fun bc=>?_;intro _ _
  have e1:a.getD d.toNat 0=v6:=ax.symm;refine vG [.u 2,.aa (f+v6),.u 1] fun be=>?_;intro _ _
  refine vG [.u 2,.ln (kF 1 b bs),.u 1] fun bf=>?_;intro _ _
  refine vd (d < (b.length:Int)) (fun q9=>?_) fun bg=>?_
  ·refine nm (b.getD d.toNat default:Int) fun v7 ay=>nm (f+v6+v7:Int) fun n8 aO=>?_;have e2:b.getD d.toNat 0=v7:=ay.symm
   refine vG [.u 3,.iX (kF 1 b bs) d,.lE (kF 1 b bs) d false v7 ay false,.aR (f+v6+v7) n8 aO,.u 1] fun bh=>?_;intro _ _
   have D:n8=f+a.getD d.toNat 0+b.getD d.toNat 0:=by omega
   refine nm (n8 % 1048576:Int) fun n9 az=>nm (o.getD d.toNat default:Int) fun v8 aP=>nm (o.set d.toNat n9:LI) fun l6 aA=>vG [.u 3,.andm g0 n8 1048575 n9 20 (by decide) rfl (by rw [az];rfl),.iX (kO 3 0 o h) d,.se g0 5 0 3 true o (fun _=>h) d none v8 n9 aP true l6 aA (fun _=>⟨by omega,by omega⟩) (fun _=>rfl) [] (fun _ _ _ _=>trivial)] fun bi=>?_;intro _ _
   refine nm (n8 / 1048576:Int) fun ac X=>vG [.u 1,.shrm g0 .i64 .u64 n8 ac 20 (by decide) (by rw [X];rfl),.u 1] fun bj=>?_;intro _ _
   refine vG [.aa (d+1),.u 1] fun bk=>?_;intro _ _
   refine V.rn hZ2 (l6,h,ac,d+1) [0,1] ?_ ?_
   ·refine ⟨by omega,by omega,?_⟩;show Bg.AddI a b l6 (d+1).toNat ac;rw [aA,az,X,show (d+1).toNat=d.toNat+1 by omega];exact Bg.add_step Q E H (by omega) D
   dsimp only;omega
  have e2:=Bg.getD_out (l:=b) (i:=d.toNat) (by omega);have D:f+v6=f+a.getD d.toNat 0+b.getD d.toNat 0:=by omega
  refine nm ((f+v6) % 1048576:Int) fun ad Y=>nm (o.getD d.toNat default:Int) fun v9 aQ=>nm (o.set d.toNat ad:LI) fun l7 aB=>vG [.u 3,.andm g0 (f+v6) 1048575 ad 20 (by decide) rfl (by rw [Y];rfl),.iX (kO 3 0 o h) d,.se g0 5 0 3 true o (fun _=>h) d none v9 ad aQ true l7 aB (fun _=>⟨by omega,by omega⟩) (fun _=>rfl) [] (fun _ _ _ _=>trivial)] fun bm=>?_;intro _ _
  refine nm ((f+v6) / 1048576:Int) fun ae Z=>vG [.u 1,.shrm g0 .i64 .u64 (f+v6) ae 20 (by decide) (by rw [Z];rfl),.u 1] fun bn=>?_;intro _ _
  refine vG [.aa (d+1),.u 1] fun bp=>?_;intro _ _
  refine V.rn hZ2 (l7,h,ae,d+1) [0,1] ?_ ?_
  ·refine ⟨by omega,by omega,?_⟩;show Bg.AddI a b l7 (d+1).toNat ae;rw [aB,Y,Z,show (d+1).toNat=d.toNat+1 by omega];exact Bg.add_step Q E H (by omega) D
  dsimp only;omega
 have ab:d.toNat=a.length:=by omega
 have M:=Q;rw [ab] at M;obtain ⟨B,C⟩:=Bg.add_end M (by omega);refine nm (o.getD (a.length:Int).toNat default:Int) fun aS aC=>nm (o.set (a.length:Int).toNat f:LI) fun l8 aD=>vG [.u 2,.ln (kF 0 a A),.u 1,.iX (kO 3 0 o h) (a.length:Int),.se g0 5 0 3 true o (fun _=>h) (a.length:Int) none aS f aC true l8 aD (fun _=>⟨by omega,by omega⟩) (fun _=>rfl) [] (fun _ _ _ _=>trivial)] fun bq=>?_;intro _ _
 have P:l8=o.set a.length f:=by rw [aD];congr 1
 rw [←P] at B C;refine V.frz 0 true 3 l8 h (by kernel_rfl) ?_;refine vG [.u 1,.ctT g0 1 213 [kB 2 l8 h] (fun _ G=>trim_ct l8 h B),.u 1] fun aT=>?_;intro _ _
 have e0:Bg.dig (Bg.nv l8)=Bg.dig (Bg.nv a+Bg.nv b):=by rw [C]
 rw [←e0];exact V.rS [0] [(aT 1).ss 0] [] [] [3] []
theorem add_ctv (a:List Int) (d:SV) (b:List Int) (bs:SV) (i:Bg.Dg a) (j:Bg.Dg b) (o:a.length≤1099511627776) (t:b.length≤1099511627776) (f:List Int) (h:f=Bg.dig (Bg.nv a+Bg.nv b)) :
  Ct Tryz.prog 224 #[d.v,bs.v] [fs true a d,fs true b bs] [] (fun g=>((g.ss 0)).v) (fun g=>[fs true f (g.ss 0)]) (fun g=>[]) (fun g=>[]):=by
 subst h;exact add_ct a d b bs i j o t
theorem sub_ct (a:LI) (o:SV) (b:LI) (bs:SV) (C:Bg.Dg a) (t:Bg.Dg b) (aj:a.length≤1099511627776) (ak:b.length≤1099511627776) (ab:Bg.Nz b) (D:Bg.nv b≤Bg.nv a) :
  Ct Tryz.prog 225 #[o.v,bs.v] [fs true a o,fs true b bs] [] (fun g=>((g.ss 0)).v) (fun g=>[fs true (Bg.dig (Bg.nv a-Bg.nv b)) (g.ss 0)]) eF eF:=by
 refine vf mo Tryz.func225 43 1 fun _=>?_
 refine vG [.u 1] fun G1=>?_;intro _ _
 refine vG [.u 1,.cB 1 221 false [] [0] [kA 0 a o] fun G=>clonei_ct a o (by omega),.u 1] fun G2=>?_;intro _ _
 refine vG [.u 1] fun G3=>?_;intro _ _
 refine vG [.u 1,.ln (kO 3 0 a ((G2 1).ss 0)),.u 1] fun G4=>?_;intro _ _
 refine V.lp (γ:=List Int × SV × Int × Int) (fun ⟨h,f,d,k0⟩=>⟨[(1,bs.v),(5,f.v),(6,iv d),(12,iv (a.length:Int)),(13,iv k0)],[fs false b bs],[os true 3 h f]⟩) (fun ⟨h,f,d,k0⟩=>(0≤k0)∧(k0≤(a.length:Int))∧(Bg.SubI a b h k0.toNat d)) (fun ⟨h,f,d,k0⟩=>((a.length:Int)-k0).toNat) (a,(G2 1).ss 0,0,0) [1] ?_ ?_
 ·refine ⟨by omega,by omega,?_⟩;show Bg.SubI a b a (0:Int).toNat (0:Int);exact Bg.sub_start _ _ C
 rintro ⟨h,f,d,k0⟩ hF1 kw5 Z1 hZ1;obtain ⟨al,am,j⟩:=hF1;have an:=j.len;have ao:=j.c0;have ah:=j.dg.get' k0.toNat;have ai:=t.get' k0.toNat;refine vG [.u 1] fun G5=>?_;intro _ _;refine vd (k0 < (a.length:Int)) (fun q1=>?_) fun q2=>?_
 ·refine vG [.u 2] fun G6=>?_;intro _ _
  refine nm (h.getD k0.toNat default:Int) fun v1 w=>?_;have e1:h.getD k0.toNat 0=v1:=w.symm
  refine vG [.u 2,.iX (kO 3 0 h f) k0,.lE (kO 3 0 h f) k0 false v1 w false,.u 1,.aa (v1-d),.u 1] fun G7=>?_;intro _ _
  refine vG [.u 2,.ln (kF 0 b bs),.u 1] fun G8=>?_;intro _ _
  refine vd (k0 < (b.length:Int)) (fun q3=>?_) fun q4=>?_
  ·refine nm (b.getD k0.toNat default:Int) fun v2 E=>nm (v1-d-v2:Int) fun n1 ac=>?_;have e2:b.getD k0.toNat 0=v2:=E.symm
   refine vG [.u 3,.iX (kF 0 b bs) k0,.lE (kF 0 b bs) k0 false v2 E false,.aR (v1-d-v2) n1 ac,.u 1] fun G9=>?_;intro _ _
   have A:n1=h.getD k0.toNat 0-d-b.getD k0.toNat 0:=by omega
   refine nm (n1 / 1048576:Int) fun n2 H=>nm (n2 % 2:Int) fun n3 I=>vG [.u 1,.shrm g0 .i64 .u64 n1 n2 20 (by decide) (by rw [H];rfl),.andm g0 n2 1 n3 1 (by decide) rfl (by rw [I];rfl),.u 1] fun aq=>?_;intro _ _
   refine nm (n1 % 1048576:Int) fun n4 M=>nm (h.set k0.toNat n4:LI) fun l1 P=>vG [.u 3,.andm g0 n1 1048575 n4 20 (by decide) rfl (by rw [M];rfl),.iX (kO 3 0 h f) k0,.se g0 5 0 3 true h (fun _=>f) k0 none v1 n4 w true l1 P (fun _=>⟨by omega,by omega⟩) (fun _=>rfl) [] (fun _ _ _ _=>trivial)] fun au=>?_;intro _ _
   refine vG [.aa (k0+1),.u 1] fun av=>?_;intro _ _
   refine V.rn hZ1 (l1,f,n3,k0+1) [0] ?_ ?_
   ·refine ⟨by omega,by omega,?_⟩;show Bg.SubI a b l1 (k0+1).toNat n3;rw [P,M,I,H,show (k0+1).toNat=k0.toNat+1 by omega];exact Bg.sub_step j t (by omega) A
   dsimp only;omega
  have e2:=Bg.getD_out (l:=b) (i:=k0.toNat) (by omega);have A:v1-d=h.getD k0.toNat 0-d-b.getD k0.toNat 0:=by omega
  refine nm ((v1-d) / 1048576:Int) fun n5 Q=>nm (n5 % 2:Int) fun n6 X=>vG [.u 1,.shrm g0 .i64 .u64 (v1-d) n5 20 (by decide) (by rw [Q];rfl),.andm g0 n5 1 n6 1 (by decide) rfl (by rw [X];rfl),.u 1] fun aw=>?_;intro _ _
  refine nm ((v1-d) % 1048576:Int) fun n7 Y=>nm (h.set k0.toNat n7:LI) fun l2 Z=>vG [.u 3,.andm g0 (v1-d) 1048575 n7 20 (by decide) rfl (by rw [Y];rfl),.iX (kO 3 0 h f) k0,.se g0 5 0 3 true h (fun _=>f) k0 none v1 n7 w true l2 Z (fun _=>⟨by omega,by omega⟩) (fun _=>rfl) [] (fun _ _ _ _=>trivial)] fun ax=>?_;intro _ _
  refine vG [.aa (k0+1),.u 1] fun ay=>?_;intro _ _
  refine V.rn hZ1 (l2,f,n6,k0+1) [0] ?_ ?_
  ·refine ⟨by omega,by omega,?_⟩;show Bg.SubI a b l2 (k0+1).toNat n6;rw [Z,Y,X,Q,show (k0+1).toNat=k0.toNat+1 by omega];exact Bg.sub_step j t (by omega) A
  dsimp only;omega
 have B:=j;rw [show k0.toNat=a.length by omega] at B;have ad:=Bg.sub_end B (Bg.len_le C t ab D) D;have ae:=B.dg;refine V.frz 0 true 3 h f (by kernel_rfl) ?_;refine vG [.u 1,.ctT g0 1 213 [kB 1 h f] (fun _ G=>trim_ct h f ae),.u 1] fun af=>?_;intro _ _
 have e0:Bg.dig (Bg.nv h)=Bg.dig (Bg.nv a-Bg.nv b):=by rw [ad]
 rw [←e0];exact V.rS [0] [(af 1).ss 0] [] [] [2] []
theorem sub_ctv (a:List Int) (d:SV) (b:List Int) (bs:SV) (i:Bg.Dg a) (j:Bg.Dg b) (o:a.length≤1099511627776) (t:b.length≤1099511627776) (w:Bg.Nz b) (A:Bg.nv b≤Bg.nv a) (f:List Int) (h:f=Bg.dig (Bg.nv a - Bg.nv b)) :
  Ct Tryz.prog 225 #[d.v,bs.v] [fs true a d,fs true b bs] [] (fun g=>((g.ss 0)).v) (fun g=>[fs true f (g.ss 0)]) (fun g=>[]) (fun g=>[]):=by
 subst h;exact sub_ct a d b bs i j o t w A

theorem Div_ct (i:Int) (f:LI) (k:SV) (c:Int) (d:LI) (j:SV) (ax:f.length≤274877906944) (ay:d.length≤274877906944) :
  Ct Tryz.prog 217 #[ag (DBig.mk i ⟨f,k⟩),ag (DBig.mk c ⟨d,j⟩)] [fs true f k,fs true d j] [] (fun g=>.tuple #[ag (DBig.mk (Bg.oS ((Bg.RtB i f∧Bg.RtB c d)∧c≠0) (Bg.flo (Bg.zv i f) (Bg.zv c d))) ⟨Bg.oD ((Bg.RtB i f∧Bg.RtB c d)∧c≠0) (Bg.flo (Bg.zv i f) (Bg.zv c d)),(g.ss 0)⟩),ag (DBig.mk (Bg.oS ((Bg.RtB i f∧Bg.RtB c d)∧c≠0) (Bg.fmo (Bg.zv i f) (Bg.zv c d))) ⟨Bg.oD ((Bg.RtB i f∧Bg.RtB c d)∧c≠0) (Bg.fmo (Bg.zv i f) (Bg.zv c d)),(g.ss 1)⟩),iv (if ¬ (Bg.RtB i f∧Bg.RtB c d) then (1:Int) else if c=0 then 15 else 0)]) (fun g=>[fs true (Bg.oD ((Bg.RtB i f∧Bg.RtB c d)∧c≠0) (Bg.flo (Bg.zv i f) (Bg.zv c d))) (g.ss 0),fs true (Bg.oD ((Bg.RtB i f∧Bg.RtB c d)∧c≠0) (Bg.fmo (Bg.zv i f) (Bg.zv c d))) (g.ss 1)]) eF eF:=by
 refine vf mo Tryz.func217 67 4 fun _=>?_
 refine vG [.n 0,.n 1,.n 2,.n 3,.u 1] fun G1=>?_;intro _ _
 refine nm ((!(decide (Bg.RtB i f))) || (!(decide (Bg.RtB c d))):Bool) fun p1 Z=>vG [.l 0,.cP 1 214 [kA 0 f k] fun G=>bright_ct i f k,.u 2,.l 1,.cp (gF (b:=!(decide (Bg.RtB i f))) (iNF iDT)) 5 214 [kA 1 d j] (fun hg G=>bright_ct c d j),.u 1,.orn g0 false (!(decide (Bg.RtB i f))) (!(decide (Bg.RtB c d))) p1 Z,.u 1] fun G2=>?_;intro _ _
 refine V.cn (b:=p1) (iN Z (iOT (iNT iDF) (iNT iDF))) (iN Z (iOF (iNF iDT) (iNF iDT))) (fun q1=>?_) (fun q2=>?_)
 ·have H:¬ (Bg.RtB i f∧Bg.RtB c d):=by rintro ⟨h1,h2⟩;rcases q1 with h | h;exact h h1;exact h h2
  refine vG [.u 2,.s 2,.s 3,.u 1] fun G3=>?_;intro _ _
  refine V.nilF (α:=Int) ?_;refine V.nilF (α:=Int) ?_;have e1:([]:LI)=Bg.oD ((Bg.RtB i f∧Bg.RtB c d)∧c≠0) (Bg.flo (Bg.zv i f) (Bg.zv c d)):=(Bg.oD_n (fun h=>H h.1) _).symm;rw [←e1];have e3:([]:LI)=Bg.oD ((Bg.RtB i f∧Bg.RtB c d)∧c≠0) (Bg.fmo (Bg.zv i f) (Bg.zv c d)):=(Bg.oD_n (fun h=>H h.1) _).symm;rw [←e3];have e0:(0:Int)=Bg.oS ((Bg.RtB i f∧Bg.RtB c d)∧c≠0) (Bg.flo (Bg.zv i f) (Bg.zv c d)):=(Bg.oS_n (fun h=>H h.1) _).symm;have e2:(0:Int)=Bg.oS ((Bg.RtB i f∧Bg.RtB c d)∧c≠0) (Bg.fmo (Bg.zv i f) (Bg.zv c d)):=(Bg.oS_n (fun h=>H h.1) _).symm;have e4:(1:Int)=if ¬ (Bg.RtB i f∧Bg.RtB c d) then (1:Int) else if c=0 then 15 else 0:=(if_pos H).symm
  exact V.rT [2,3,0] [] [] [] [2,3] [] (cong3 (fun (B C D:Int)=>(.tuple #[.agg #[iv B,SV.v ({})],.agg #[iv C,SV.v ({})],iv D]:Value)) e0 e2 e4)
 have o:(Bg.RtB i f∧Bg.RtB c d):=by first | exact q2 | exact ⟨Decidable.not_not.1 (q2).1,Decidable.not_not.1 (q2).2⟩
 have P:=Bg.sml o.1 o.2;refine vG [.u 1,.l 1,.u 2] fun G4=>?_;intro _ _
 refine vd (c=0) (fun q3=>?_) fun q4=>?_
 ·have t:c=0:=q3;refine vG [.u 2,.s 2,.s 3,.u 1] fun G5=>?_;intro _ _
  refine V.nilF (α:=Int) ?_;refine V.nilF (α:=Int) ?_;have e1:([]:LI)=Bg.oD ((Bg.RtB i f∧Bg.RtB c d)∧c≠0) (Bg.flo (Bg.zv i f) (Bg.zv c d)):=(Bg.oD_n (fun h=>h.2 t) _).symm;rw [←e1];have e3:([]:LI)=Bg.oD ((Bg.RtB i f∧Bg.RtB c d)∧c≠0) (Bg.fmo (Bg.zv i f) (Bg.zv c d)):=(Bg.oD_n (fun h=>h.2 t) _).symm;rw [←e3];have e0:(0:Int)=Bg.oS ((Bg.RtB i f∧Bg.RtB c d)∧c≠0) (Bg.flo (Bg.zv i f) (Bg.zv c d)):=(Bg.oS_n (fun h=>h.2 t) _).symm;have e2:(0:Int)=Bg.oS ((Bg.RtB i f∧Bg.RtB c d)∧c≠0) (Bg.fmo (Bg.zv i f) (Bg.zv c d)):=(Bg.oS_n (fun h=>h.2 t) _).symm;have e4:(15:Int)=if ¬ (Bg.RtB i f∧Bg.RtB c d) then (1:Int) else if c=0 then 15 else 0:=by rw [if_neg (fun h=>h o),if_pos t]
  exact V.rT [2,3,0] [] [] [] [2,3] [] (cong3 (fun (B C D:Int)=>(.tuple #[.agg #[iv B,SV.v ({})],.agg #[iv C,SV.v ({})],iv D]:Value)) e0 e2 e4)
 have t:¬ c=0:=q4;have A:((Bg.RtB i f∧Bg.RtB c d)∧c≠0):=⟨o,t⟩;have w:=Bg.nv_pos o.2 t;have az:=Nat.mod_lt (Bg.nv f) (Nat.pos_of_ne_zero w.1);have ae:Bg.nv (Bg.dig (Bg.nv f % Bg.nv d))≤Bg.nv d:=by rw [Bg.nv_dig];omega
 have ao:=Bg.dig_len_mono' (Nat.div_le_self (Bg.nv f) (Bg.nv d));have aq:=Bg.dig_len_mono' (Nat.mod_le (Bg.nv f) (Bg.nv d));have au:=Bg.dig_le o.1.dg;refine nl (Bg.dig (Bg.nv f / Bg.nv d)) fun l1 I av=>nl (Bg.dig (Bg.nv f % Bg.nv d)) fun l2 M aw=>vG [.u 1,.l 0,.u 1,.l 1,.cA 4 223 [kA 0 f k,kA 1 d j] fun G=>div_ctv f k d j o.1.dg o.2.dg o.1.nz o.2.nz w.2 (by omega) (by omega) l1 I l2 M,.u 5] fun G6=>?_;intro _ _
 refine nm (i * c:Int) fun n1 E=>nm ((decide (n1 < 0)) && (decide (0 < (l2.length:Int))):Bool) fun p2 ab=>vG [.u 1,.l 0,.u 1,.l 1,.ar (i * c) n1 E (by rw [E];exact P.1) (by rw [E];exact P.2),.u 3,.ln (kG 3 l2 ((G6 4).ss 1)),.u 1,.andn g0 false (decide (n1 < 0)) (decide (0 < (l2.length:Int))) p2 ab] fun G7=>?_;intro _ _
 refine V.cn (b:=p2) (iN ab (iAT iDT iDT)) (iN ab (iAF iDF iDF)) (fun q5=>?_) (fun q6=>?_)
 ·have Q:i * c < 0:=by have:=q5;omega
  have X:Bg.nv f % Bg.nv d≠0:=fun e=>by have:=q5;subst_vars;rw [e,Bg.dig_zero] at this;simp at this
  refine nm (Bg.dig (Bg.nv l1+Bg.nv ([1]:LI)):LI) fun l3 ac=>nm (Bg.sg0 (Bg.nv l3) (-1:Int):Int) fun n2 af=>nm (Bg.dig (Bg.nv l3):LI) fun l4 ah=>nm (Bg.dig (Bg.nv d-Bg.nv l2):LI) fun l5 ad=>nm (Bg.sg0 (Bg.nv l5) c:Int) fun n3 ai=>nm (Bg.dig (Bg.nv l5):LI) fun l6 aj=>vG [.u 1,.nr 1 true 3 ([1]:LI) [] (fun _ _ _ _ _=>trivial) (fun _=>#[iv 1]),.cA 2 224 [kB 2 l1 ((G6 4).ss 0),(kf true (.g 1 0) ([1]:LI) (fun G=>⟨atB (G 1).b,1,1⟩)).a] fun G=>add_ctv l1 ((G6 4).ss 0) ([1]:LI) ⟨atB (G 1).b,1,1⟩ (by subst_vars;exact Bg.dig_Dg _) (Bg.Dg.one (by omega)) (by omega) (by simp) l3 ac,.ctT g0 3 199 [(kf true (.g 2 0) l3 (fun G=>(G 2).ss 0)).a] (fun _ G=>signed_ctv (-1:Int) l3 ((G 2).ss 0) (by subst_vars;exact Bg.dig_Dg _) n2 af l4 ah),.u 1,.l 1,.u 1,.l 1,.u 1,.cA 9 225 [kA 1 d j,kB 3 l2 ((G6 4).ss 1)] fun G=>sub_ctv d j l2 ((G6 4).ss 1) o.2.dg (by subst_vars;exact Bg.dig_Dg _) (by omega) (by omega) (by subst_vars;exact Bg.dig_Nz _) (by subst_vars;exact ae) l5 ad,.ctT g0 10 199 [(kf true (.g 9 0) l5 (fun G=>(G 9).ss 0)).a] (fun _ G=>signed_ctv c l5 ((G 9).ss 0) (by subst_vars;exact Bg.dig_Dg _) n3 ai l6 aj),.s 2,.s 3,.u 1] fun G8=>?_;intro _ _
  have e1:l4=Bg.oD ((Bg.RtB i f∧Bg.RtB c d)∧c≠0) (Bg.flo (Bg.zv i f) (Bg.zv c d)):=by
   rw [ah,ac,I];rw [Bg.oD_y A];exact Bg.dqD o.1 o.2 w.1 Q X
  subst e1;have e3:l6=Bg.oD ((Bg.RtB i f∧Bg.RtB c d)∧c≠0) (Bg.fmo (Bg.zv i f) (Bg.zv c d)):=by
   rw [aj,ad,M];rw [Bg.oD_y A];exact Bg.drD o.1 o.2 w.1 Q X
  subst e3;have e0:n2=Bg.oS ((Bg.RtB i f∧Bg.RtB c d)∧c≠0) (Bg.flo (Bg.zv i f) (Bg.zv c d)):=by
   rw [af,ac,I];rw [Bg.oS_y A];exact Bg.dqS o.1 o.2 w.1 Q X
  have e2:n3=Bg.oS ((Bg.RtB i f∧Bg.RtB c d)∧c≠0) (Bg.fmo (Bg.zv i f) (Bg.zv c d)):=by
   rw [ai,ad,M];rw [Bg.oS_y A];exact Bg.drS o.1 o.2 w.1 Q X
  have e4:(0:Int)=if ¬ (Bg.RtB i f∧Bg.RtB c d) then (1:Int) else if c=0 then 15 else 0:=by rw [if_neg (fun h=>h o),if_neg t]
  exact V.rT [2,3,0] [(G8 3).ss 0,(G8 10).ss 0] [] [] [6,8] [] (cong3 (fun (B C D:Int)=>(.tuple #[.agg #[iv B,((G8 3).ss 0).v],.agg #[iv C,((G8 10).ss 0).v],iv D]:Value)) e0 e2 e4)
 have Y:0≤i * c∨Bg.nv f % Bg.nv d=0:=by rcases q6 with h | h;left;omega;right;exact Bg.len_dig0.1 (by omega)
 refine nm (Bg.sg0 (Bg.nv l1) n1:Int) fun n4 ak=>nm (Bg.dig (Bg.nv l1):LI) fun l7 al=>nm (Bg.sg0 (Bg.nv l2) i:Int) fun n5 am=>nm (Bg.dig (Bg.nv l2):LI) fun l8 an=>vG [.u 1,.l 0,.u 1,.l 1,.ar (i * c) n1 E (by rw [E];exact P.1) (by rw [E];exact P.2),.u 1,.ctT g0 6 199 [kB 2 l1 ((G6 4).ss 0)] (fun _ G=>signed_ctv n1 l1 ((G6 4).ss 0) (by subst_vars;exact Bg.dig_Dg _) n4 ak l7 al),.u 1,.l 0,.u 1,.ctT g0 10 199 [kB 3 l2 ((G6 4).ss 1)] (fun _ G=>signed_ctv i l2 ((G6 4).ss 1) (by subst_vars;exact Bg.dig_Dg _) n5 am l8 an),.s 2,.s 3,.u 1] fun G9=>?_;intro _ _
 have e1:l7=Bg.oD ((Bg.RtB i f∧Bg.RtB c d)∧c≠0) (Bg.flo (Bg.zv i f) (Bg.zv c d)):=by
  rw [al,I];rw [Bg.oD_y A];exact Bg.qD o.1 o.2 w.1 Y
 subst e1;have e3:l8=Bg.oD ((Bg.RtB i f∧Bg.RtB c d)∧c≠0) (Bg.fmo (Bg.zv i f) (Bg.zv c d)):=by
  rw [an,M];rw [Bg.oD_y A];exact Bg.rD o.1 o.2 w.1 Y
 subst e3;have e0:n4=Bg.oS ((Bg.RtB i f∧Bg.RtB c d)∧c≠0) (Bg.flo (Bg.zv i f) (Bg.zv c d)):=by
  rw [ak,E,I];rw [Bg.oS_y A];exact Bg.qS o.1 o.2 w.1 Y
 have e2:n5=Bg.oS ((Bg.RtB i f∧Bg.RtB c d)∧c≠0) (Bg.fmo (Bg.zv i f) (Bg.zv c d)):=by
  rw [am,M];rw [Bg.oS_y A];exact Bg.rS o.1 o.2 w.1 Y
 have e4:(0:Int)=if ¬ (Bg.RtB i f∧Bg.RtB c d) then (1:Int) else if c=0 then 15 else 0:=by rw [if_neg (fun h=>h o),if_neg t]
 exact V.rT [2,3,0] [(G9 6).ss 0,(G9 10).ss 0] [] [] [4,5] [] (cong3 (fun (B C D:Int)=>(.tuple #[.agg #[iv B,((G9 6).ss 0).v],.agg #[iv C,((G9 10).ss 0).v],iv D]:Value)) e0 e2 e4)
theorem Div_ctv (d:Int) (b:List Int) (e:SV) (a:Int) (c:List Int) (f:SV) (E:b.length≤274877906944) (G:c.length≤274877906944) (j:Int) (o:j=Bg.oS ((Bg.RtB d b∧Bg.RtB a c)∧a≠0) (Bg.flo (Bg.zv d b) (Bg.zv a c))) (h:List Int) (t:h=Bg.oD ((Bg.RtB d b∧Bg.RtB a c)∧a≠0) (Bg.flo (Bg.zv d b) (Bg.zv a c))) (w:Int) (A:w=Bg.oS ((Bg.RtB d b∧Bg.RtB a c)∧a≠0) (Bg.fmo (Bg.zv d b) (Bg.zv a c))) (i:List Int) (B:i=Bg.oD ((Bg.RtB d b∧Bg.RtB a c)∧a≠0) (Bg.fmo (Bg.zv d b) (Bg.zv a c))) (C:Int) (D:C=if ¬ (Bg.RtB d b∧Bg.RtB a c) then (1:Int) else if a=0 then 15 else 0) :
  Ct Tryz.prog 217 #[ag (DBig.mk d ⟨b,e⟩),ag (DBig.mk a ⟨c,f⟩)] [fs true b e,fs true c f] [] (fun g=>.tuple #[ag (DBig.mk j ⟨h,(g.ss 0)⟩),ag (DBig.mk w ⟨i,(g.ss 1)⟩),iv C]) (fun g=>[fs true h (g.ss 0),fs true i (g.ss 1)]) (fun g=>[]) (fun g=>[]):=by
 subst o t A B D;exact Div_ct d b e a c f E G

theorem one_ct (b:Int) (a:LI) (c:SV) :
  Cp Tryz.prog 218 #[ag (DBig.mk b ⟨a,c⟩)] [fs true a c] (bv (decide (Bg.intV b a=1))):=by
 refine vf mo Tryz.func218 15 1 fun _=>?_
 refine vG [.n 0,.kb false] fun G1=>?_;intro _ _
 refine nm (Bg.intV b a:Int) fun n1 f=>vG [.l 0,.cP 1 226 [kA 0 a c] fun G=>int_ctv b a c n1 f,.u 5] fun G2=>?_;intro _ _
 refine nm ((decide (Bg.inI b a)) && (decide (n1=1)):Bool) fun p1 d=>vG [.u 4,.andn g0 false (decide (Bg.inI b a)) (decide (n1=1)) p1 d,.u 1] fun G3=>?_;intro _ _
 have e0:p1=(decide (Bg.intV b a=1)):=by
  refine Bool.eq_iff_iff.2 (Iff.trans (iN d (iAT iDT iDT)) (Iff.trans ?_ decide_eq_true_iff.symm))
  subst_vars
  exact ⟨fun h=>h.2,fun h=>⟨Classical.byContradiction fun k=>by rw [Bg.intV_n k] at h;omega,h⟩⟩
 exact vb 0 [] e0
theorem right_ct (e:Int) (a:LI) (f:SV) (d:Int) (c:LI) (i:SV) (I:a.length≤274877906944) (M:c.length≤274877906944) :
  Cp Tryz.prog 202 #[ag (DFrac.mk ⟨e,a,f⟩ ⟨d,c,i⟩)] [fs true a f,fs true c i] (bv (decide (Fr.FrB e a d c))):=by
 refine vf mo Tryz.func202 35 2 fun _=>?_
 refine vG [.n 0,.kb false] fun G1=>?_;intro _ _
 refine nm ((!(decide (Bg.RtB e a))) || (!(decide (Bg.RtB d c))):Bool) fun p1 t=>vG [.u 1,.l 0,.cP 2 214 [kA 0 a f] fun G=>bright_ct e a f,.u 3,.l 0,.cp (gF (b:=!(decide (Bg.RtB e a))) (iNF iDT)) 7 214 [kA 1 c i] (fun hg G=>bright_ct d c i),.u 1,.orn g0 false (!(decide (Bg.RtB e a))) (!(decide (Bg.RtB d c))) p1 t,.u 3,.l 0,.u 1,.or g0 false p1 (!(decide (d=1)))] fun G2=>?_;intro _ _
 refine V.cn (b:=p1 || (!(decide (d=1)))) (iOT (iN t (iOT (iNT iDF) (iNT iDF))) (iNT iDF)) (iOF (iN t (iOF (iNF iDT) (iNF iDT))) (iNF iDT)) (fun q1=>?_) (fun q2=>?_)
 ·refine vG [.kb false] fun G3=>?_;intro _ _
  have e0:false=decide (Fr.FrB e a d c):=by exact (decide_eq_false fun h=>by rcases q1 with (h1 | h1) | h1;exact h1 h.1;exact h1 h.2.1;exact h1 h.2.2.1).symm
  exact vb 0 [] e0
 have hR:(Bg.RtB e a∧Bg.RtB d c)∧d=1:=by first | exact q2 | exact ⟨⟨Decidable.not_not.1 q2.1.1,Decidable.not_not.1 q2.1.2⟩,Decidable.not_not.1 q2.2⟩
 obtain ⟨⟨j,o⟩,hR3⟩:=hR;refine nm (Bg.oS (Bg.RtB e a∧Bg.RtB d c) ((Nat.gcd (Bg.nv a) (Bg.nv c):Int)):Int) fun n1 w=>nm (Bg.oD (Bg.RtB e a∧Bg.RtB d c) ((Nat.gcd (Bg.nv a) (Bg.nv c):Int)):LI) fun l1 A=>nm (if (Bg.RtB e a∧Bg.RtB d c) then (0:Int) else 1:Int) fun n2 B=>?_;have zg:=Fr.Bz.gcd (Fr.RtB.z j) (Fr.RtB.z o) w A;have D:n2=0:=by rw [B];exact if_pos ⟨j,o⟩
 have P:Nat.gcd (Bg.zv e a).natAbs (Bg.zv d c).natAbs=Nat.gcd (Bg.nv a) (Bg.nv c):=by rw [(Fr.RtB.z j).nat,(Fr.RtB.z o).nat]
 have E:((Nat.gcd (Bg.zv e a).natAbs (Bg.zv d c).natAbs:Nat):Int)=1→Nat.gcd (Bg.nv a) (Bg.nv c)=1:=fun h=>by omega
 have H:Nat.gcd (Bg.nv a) (Bg.nv c)=1→((Nat.gcd (Bg.zv e a).natAbs (Bg.zv d c).natAbs:Nat):Int)=1:=fun h=>by omega
 refine vG [.u 1,.l 0,.u 1,.l 0,.cA 4 216 [kA 0 a f,kA 1 c i] fun G=>Gcd_ctv e a f d c i (by omega) (by omega) n1 w l1 A n2 B,.u 3,.n 1,.s 1,.u 1] fun G4=>?_;intro _ _
 refine nm ((decide (n2=0)) && (decide (Bg.intV n1 l1=1)):Bool) fun p2 C=>vG [.u 3,.l 1,.cp (gT (b:=decide (n2=0)) iDT) 4 218 [kB 2 l1 ((G4 4).ss 0)] (fun hg G=>one_ct n1 l1 ((G4 4).ss 0)),.andn g0 false (decide (n2=0)) (decide (Bg.intV n1 l1=1)) p2 C,.u 1] fun G5=>?_;intro _ _
 have e0:p2=decide (Fr.FrB e a d c):=by
  refine Bool.eq_iff_iff.2 (Iff.trans (iN C (iAT iDT iDT)) (Iff.trans ?_ decide_eq_true_iff.symm));rw [Fr.one_is zg,D];constructor
  ·rintro ⟨_,h⟩;exact ⟨j,o,hR3,E h⟩
  intro h;exact ⟨rfl,H h.2.2.2⟩
 exact vb 0 [] e0
theorem times_ct (c:Int) (a:LI) (e:SV) (d:Int) (b:LI) (f:SV) (t:a.length≤274877906944) (w:b.length≤274877906944) :
  Ct Tryz.prog 203 #[ag (DBig.mk c ⟨a,e⟩),ag (DBig.mk d ⟨b,f⟩)] [fs true a e,fs true b f] [] (fun g=>ag (DBig.mk (Bg.oS (Bg.RtB c a∧Bg.RtB d b) (Bg.zv c a * Bg.zv d b)) ⟨Bg.oD (Bg.RtB c a∧Bg.RtB d b) (Bg.zv c a * Bg.zv d b),(g.ss 0)⟩)) (fun g=>[fs true (Bg.oD (Bg.RtB c a∧Bg.RtB d b) (Bg.zv c a * Bg.zv d b)) (g.ss 0)]) eF eF:=by
 refine vf mo Tryz.func203 14 4 fun _=>?_
 refine vG [.n 0,.n 1,.n 2] fun G1=>?_;intro _ _
 refine nm (Bg.oS (Bg.RtB c a∧Bg.RtB d b) (Bg.zv c a * Bg.zv d b):Int) fun n1 h=>nm (Bg.oD (Bg.RtB c a∧Bg.RtB d b) (Bg.zv c a * Bg.zv d b):LI) fun l1 i=>nm (if (Bg.RtB c a∧Bg.RtB d b) then (0:Int) else 1:Int) fun n2 j=>vG [.l 0,.l 1,.cA 2 219 [kA 0 a e,kA 1 b f] fun G=>Mul_ctv c a e d b f (by omega) (by omega) n1 h l1 i n2 j,.u 3,.n 3,.s 3,.u 1] fun G2=>?_;intro _ _
 refine vG [.l 3,.s 2] fun G3=>?_;intro _ _
 have e1:l1=Bg.oD (Bg.RtB c a∧Bg.RtB d b) (Bg.zv c a * Bg.zv d b):=by rw [i]
 subst e1;have e0:n1=Bg.oS (Bg.RtB c a∧Bg.RtB d b) (Bg.zv c a * Bg.zv d b):=by rw [h]
 exact V.rT [2] [(G2 2).ss 0] [] [] [2] [] (cong1 (fun (o:Int)=>(.agg #[iv o,((G2 2).ss 0).v]:Value)) e0)
theorem times_ctv (c:Int) (a:List Int) (e:SV) (d:Int) (b:List Int) (f:SV) (t:a.length≤274877906944) (w:b.length≤274877906944) (i:Int) (j:i=Bg.oS (Bg.RtB c a∧Bg.RtB d b) (Bg.zv c a * Bg.zv d b)) (h:List Int) (o:h=Bg.oD (Bg.RtB c a∧Bg.RtB d b) (Bg.zv c a * Bg.zv d b)) :
  Ct Tryz.prog 203 #[ag (DBig.mk c ⟨a,e⟩),ag (DBig.mk d ⟨b,f⟩)] [fs true a e,fs true b f] [] (fun g=>ag (DBig.mk i ⟨h,(g.ss 0)⟩)) (fun g=>[fs true h (g.ss 0)]) (fun g=>[]) (fun g=>[]):=by
 subst j o;exact times_ct c a e d b f t w
theorem new_ct (e:Int) (d:LI) (f:SV) (a:Int) (c:LI) (i:SV) (aV:d.length≤274877906944) (aW:c.length≤274877906944) :
  Ct Tryz.prog 201 #[ag (DBig.mk e ⟨d,f⟩),ag (DBig.mk a ⟨c,i⟩)] [fs true d f,fs true c i] [] (fun g=>.tuple #[ag (DFrac.mk ⟨(Fr.rS ((Bg.RtB e d∧Bg.RtB a c)∧a≠0) (Rat.divInt (Bg.zv e d) (Bg.zv a c))),Fr.rD ((Bg.RtB e d∧Bg.RtB a c)∧a≠0) (Rat.divInt (Bg.zv e d) (Bg.zv a c)),(g.ss 0)⟩ ⟨(Fr.rT ((Bg.RtB e d∧Bg.RtB a c)∧a≠0)),Fr.rE ((Bg.RtB e d∧Bg.RtB a c)∧a≠0) (Rat.divInt (Bg.zv e d) (Bg.zv a c)),(g.ss 1)⟩),iv (if ¬ (Bg.RtB e d∧Bg.RtB a c) then (1:Int) else if a=0 then 15 else 0)]) (fun g=>[fs true (Fr.rD ((Bg.RtB e d∧Bg.RtB a c)∧a≠0) (Rat.divInt (Bg.zv e d) (Bg.zv a c))) (g.ss 0),fs true (Fr.rE ((Bg.RtB e d∧Bg.RtB a c)∧a≠0) (Rat.divInt (Bg.zv e d) (Bg.zv a c))) (g.ss 1)]) eF eF:=by
 refine vf mo Tryz.func201 60 8 fun _=>?_
 refine vG [.n 0,.n 1,.n 2,.u 1] fun G1=>?_;intro _ _
 refine nm ((!(decide (Bg.RtB e d))) || (!(decide (Bg.RtB a c))):Bool) fun p1 Y=>vG [.l 0,.cP 1 214 [kA 0 d f] fun G=>bright_ct e d f,.u 2,.l 1,.cp (gF (b:=!(decide (Bg.RtB e d))) (iNF iDT)) 5 214 [kA 1 c i] (fun hg G=>bright_ct a c i),.u 1,.orn g0 false (!(decide (Bg.RtB e d))) (!(decide (Bg.RtB a c))) p1 Y,.u 1] fun G2=>?_;intro _ _
 refine V.cn (b:=p1) (iN Y (iOT (iNT iDF) (iNT iDF))) (iN Y (iOF (iNF iDT) (iNF iDT))) (fun q1=>?_) (fun q2=>?_)
 ·have E:¬ (Bg.RtB e d∧Bg.RtB a c):=by rintro ⟨h1,h2⟩;rcases q1 with h | h;exact h h1;exact h h2
  refine vG [.u 1,.s 2,.u 1] fun G3=>?_;intro _ _
  refine V.nilF (α:=Int) ?_;refine V.nilF (α:=Int) ?_;have e1:([]:LI)=Fr.rD ((Bg.RtB e d∧Bg.RtB a c)∧a≠0) (Rat.divInt (Bg.zv e d) (Bg.zv a c)):=(Fr.Fz.no (fun h=>E h.1) (Rat.divInt (Bg.zv e d) (Bg.zv a c))).2.1;rw [←e1];have e3:([]:LI)=Fr.rE ((Bg.RtB e d∧Bg.RtB a c)∧a≠0) (Rat.divInt (Bg.zv e d) (Bg.zv a c)):=(Fr.Fz.no (fun h=>E h.1) (Rat.divInt (Bg.zv e d) (Bg.zv a c))).2.2.2;rw [←e3];have e0:(0:Int)=Fr.rS ((Bg.RtB e d∧Bg.RtB a c)∧a≠0) (Rat.divInt (Bg.zv e d) (Bg.zv a c)):=(Fr.Fz.no (fun h=>E h.1) (Rat.divInt (Bg.zv e d) (Bg.zv a c))).1;have e2:(0:Int)=Fr.rT ((Bg.RtB e d∧Bg.RtB a c)∧a≠0):=(Fr.Fz.no (fun h=>E h.1) (Rat.divInt (Bg.zv e d) (Bg.zv a c))).2.2.1;have e4:(1:Int)=if ¬ (Bg.RtB e d∧Bg.RtB a c) then (1:Int) else if a=0 then 15 else 0:=(if_pos E).symm
  exact V.rT [2,0] [] [] [] [2,3] [] (cong3 (fun (B C D:Int)=>(.tuple #[.agg #[iv B,SV.v ({}),iv C,SV.v ({})],iv D]:Value)) e0 e2 e4)
 have o:(Bg.RtB e d∧Bg.RtB a c):=by first | exact q2 | exact ⟨Decidable.not_not.1 (q2).1,Decidable.not_not.1 (q2).2⟩
 refine vG [.u 1,.l 1,.u 2] fun G4=>?_;intro _ _
 refine vd (a=0) (fun q3=>?_) fun q4=>?_
 ·have t:a=0:=q3;refine vG [.u 1,.s 2,.u 1] fun G5=>?_;intro _ _
  refine V.nilF (α:=Int) ?_;refine V.nilF (α:=Int) ?_;have e1:([]:LI)=Fr.rD ((Bg.RtB e d∧Bg.RtB a c)∧a≠0) (Rat.divInt (Bg.zv e d) (Bg.zv a c)):=(Fr.Fz.no (fun h=>h.2 t) (Rat.divInt (Bg.zv e d) (Bg.zv a c))).2.1;rw [←e1];have e3:([]:LI)=Fr.rE ((Bg.RtB e d∧Bg.RtB a c)∧a≠0) (Rat.divInt (Bg.zv e d) (Bg.zv a c)):=(Fr.Fz.no (fun h=>h.2 t) (Rat.divInt (Bg.zv e d) (Bg.zv a c))).2.2.2;rw [←e3];have e0:(0:Int)=Fr.rS ((Bg.RtB e d∧Bg.RtB a c)∧a≠0) (Rat.divInt (Bg.zv e d) (Bg.zv a c)):=(Fr.Fz.no (fun h=>h.2 t) (Rat.divInt (Bg.zv e d) (Bg.zv a c))).1;have e2:(0:Int)=Fr.rT ((Bg.RtB e d∧Bg.RtB a c)∧a≠0):=(Fr.Fz.no (fun h=>h.2 t) (Rat.divInt (Bg.zv e d) (Bg.zv a c))).2.2.1;have e4:(15:Int)=if ¬ (Bg.RtB e d∧Bg.RtB a c) then (1:Int) else if a=0 then 15 else 0:=by rw [if_neg (fun h=>h o),if_pos t]
  exact V.rT [2,0] [] [] [] [2,3] [] (cong3 (fun (B C D:Int)=>(.tuple #[.agg #[iv B,SV.v ({}),iv C,SV.v ({})],iv D]:Value)) e0 e2 e4)
 have t:¬ a=0:=q4;refine vG [.u 1,.l 1,.u 2] fun G6=>?_;intro _ _
 refine vd (a < 0) (fun q5=>?_) fun q6=>?_
 ·refine nm (Bg.oS (Bg.RtB e d) (-Bg.zv e d):Int) fun n1 Z=>nm (Bg.oD (Bg.RtB e d) (-Bg.zv e d):LI) fun l1 ab=>nm (Bg.oS (Bg.RtB a c) (-Bg.zv a c):Int) fun n2 ac=>nm (Bg.oD (Bg.RtB a c) (-Bg.zv a c):LI) fun l2 ad=>?_;obtain ⟨zp,aX⟩:=Fr.Bz.neg (Fr.RtB.z o.1) Z ab
  obtain ⟨zq,aY⟩:=Fr.Bz.neg (Fr.RtB.z o.2) ac ad;have w:0 < -(Bg.zv a c):=by have:=(Fr.RtB.z o.2).neg0 q5;omega
  have A:Rat.divInt (-(Bg.zv e d)) (-(Bg.zv a c))=Rat.divInt (Bg.zv e d) (Bg.zv a c):=Rat.neg_divInt_neg _ _;refine vG [.l 0,.cA 1 215 [kA 0 d f] fun G=>neg_ctv e d f (by omega) n1 Z l1 ab,.l 1,.cA 3 215 [kA 1 c i] fun G=>neg_ctv a c i (by omega) n2 ac l2 ad,.s 0,.s 1] fun G7=>?_;intro _ _
  refine nm (Bg.oS (Bg.RtB n1 l1∧Bg.RtB n2 l2) ((Nat.gcd (Bg.nv l1) (Bg.nv l2):Int)):Int) fun n3 ae=>nm (Bg.oD (Bg.RtB n1 l1∧Bg.RtB n2 l2) ((Nat.gcd (Bg.nv l1) (Bg.nv l2):Int)):LI) fun l3 af=>nm (if (Bg.RtB n1 l1∧Bg.RtB n2 l2) then (0:Int) else 1:Int) fun n4 aF=>?_;have zg:=Fr.Bz.gcd zp zq ae af
  have aG:=Fr.Bz.gcd_len zp zq w zg;have H:=Fr.gcd_pos zg w;refine vG [.l 0,.l 1,.cA 2 216 [kB 2 l1 ((G7 1).ss 0),kB 3 l2 ((G7 3).ss 0)] fun G=>Gcd_ctv n1 l1 ((G7 1).ss 0) n2 l2 ((G7 3).ss 0) (by omega) (by omega) n3 ae l3 af n4 aF,.u 3,.n 3,.s 3,.u 1] fun G8=>?_;intro _ _
  refine nm (Bg.oS ((Bg.RtB n1 l1∧Bg.RtB n3 l3)∧n3≠0) (Bg.flo (Bg.zv n1 l1) (Bg.zv n3 l3)):Int) fun n5 ah=>nm (Bg.oD ((Bg.RtB n1 l1∧Bg.RtB n3 l3)∧n3≠0) (Bg.flo (Bg.zv n1 l1) (Bg.zv n3 l3)):LI) fun l4 ai=>nm (Bg.oS ((Bg.RtB n1 l1∧Bg.RtB n3 l3)∧n3≠0) (Bg.fmo (Bg.zv n1 l1) (Bg.zv n3 l3)):Int) fun n6 aH=>nm (Bg.oD ((Bg.RtB n1 l1∧Bg.RtB n3 l3)∧n3≠0) (Bg.fmo (Bg.zv n1 l1) (Bg.zv n3 l3)):LI) fun l5 aI=>nm (if ¬ (Bg.RtB n1 l1∧Bg.RtB n3 l3) then (1:Int) else if n3=0 then 15 else 0:Int) fun n7 aJ=>?_;have za:=Fr.Bz.div zp zg H ah ai
  refine vG [.l 0,.l 3,.cA 2 217 [kB 2 l1 ((G7 1).ss 0),kB 4 l3 ((G8 2).ss 0)] fun G=>Div_ctv n1 l1 ((G7 1).ss 0) n3 l3 ((G8 2).ss 0) (by omega) (by omega) n5 ah l4 ai n6 aH l5 aI n7 aJ,.u 4,.n 4,.n 5,.s 4,.s 5,.u 1] fun G9=>?_;intro _ _
  refine nm (Bg.oS ((Bg.RtB n2 l2∧Bg.RtB n3 l3)∧n3≠0) (Bg.flo (Bg.zv n2 l2) (Bg.zv n3 l3)):Int) fun n8 aj=>nm (Bg.oD ((Bg.RtB n2 l2∧Bg.RtB n3 l3)∧n3≠0) (Bg.flo (Bg.zv n2 l2) (Bg.zv n3 l3)):LI) fun l6 ak=>nm (Bg.oS ((Bg.RtB n2 l2∧Bg.RtB n3 l3)∧n3≠0) (Bg.fmo (Bg.zv n2 l2) (Bg.zv n3 l3)):Int) fun n9 aK=>nm (Bg.oD ((Bg.RtB n2 l2∧Bg.RtB n3 l3)∧n3≠0) (Bg.fmo (Bg.zv n2 l2) (Bg.zv n3 l3)):LI) fun l7 aL=>nm (if ¬ (Bg.RtB n2 l2∧Bg.RtB n3 l3) then (1:Int) else if n3=0 then 15 else 0:Int) fun aM al=>?_;have zb:=Fr.Bz.div zq zg H aj ak
  refine vG [.l 1,.l 3,.cA 2 217 [kB 3 l2 ((G7 3).ss 0),kB 4 l3 ((G8 2).ss 0)] fun G=>Div_ctv n2 l2 ((G7 3).ss 0) n3 l3 ((G8 2).ss 0) (by omega) (by omega) n8 aj l6 ak n9 aK l7 aL aM al,.u 4,.n 6,.n 7,.s 6,.s 7,.u 1] fun am=>?_;intro _ _
  refine vG [.l 4,.l 6,.u 1,.s 2,.u 1] fun aZ=>?_;intro _ _
  have e1:l4=Fr.rD ((Bg.RtB e d∧Bg.RtB a c)∧a≠0) (Rat.divInt (Bg.zv e d) (Bg.zv a c)):=(Fr.Fz.ret (Fr.new_fin zp zq w zg za zb) ⟨o,t⟩ (A)).2.1;subst e1;have e3:l6=Fr.rE ((Bg.RtB e d∧Bg.RtB a c)∧a≠0) (Rat.divInt (Bg.zv e d) (Bg.zv a c)):=(Fr.Fz.ret (Fr.new_fin zp zq w zg za zb) ⟨o,t⟩ (A)).2.2.2;subst e3;have e0:n5=Fr.rS ((Bg.RtB e d∧Bg.RtB a c)∧a≠0) (Rat.divInt (Bg.zv e d) (Bg.zv a c)):=(Fr.Fz.ret (Fr.new_fin zp zq w zg za zb) ⟨o,t⟩ (A)).1;have e2:n8=Fr.rT ((Bg.RtB e d∧Bg.RtB a c)∧a≠0):=(Fr.Fz.ret (Fr.new_fin zp zq w zg za zb) ⟨o,t⟩ (A)).2.2.1;have e4:(0:Int)=if ¬ (Bg.RtB e d∧Bg.RtB a c) then (1:Int) else if a=0 then 15 else 0:=by rw [if_neg (fun h=>h o),if_neg t]
  exact V.rT [2,0] [(G9 2).ss 0,(am 2).ss 0] [] [] [5,7] [] (cong3 (fun (B C D:Int)=>(.tuple #[.agg #[iv B,((G9 2).ss 0).v,iv C,((am 2).ss 0).v],iv D]:Value)) e0 e2 e4)
 have zp:=Fr.RtB.z o.1;have zq:=Fr.RtB.z o.2;have w:0 < (Bg.zv a c):=zq.pos (by omega);have A:Rat.divInt (Bg.zv e d) (Bg.zv a c)=Rat.divInt (Bg.zv e d) (Bg.zv a c):=rfl;refine nm (Bg.oS (Bg.RtB e d∧Bg.RtB a c) ((Nat.gcd (Bg.nv d) (Bg.nv c):Int)):Int) fun j M=>nm (Bg.oD (Bg.RtB e d∧Bg.RtB a c) ((Nat.gcd (Bg.nv d) (Bg.nv c):Int)):LI) fun l8 an=>nm (if (Bg.RtB e d∧Bg.RtB a c) then (0:Int) else 1:Int) fun aN ao=>?_;have zg:=Fr.Bz.gcd zp zq M an
 have aG:=Fr.Bz.gcd_len zp zq w zg;have H:=Fr.gcd_pos zg w;refine vG [.l 0,.l 1,.cA 2 216 [kA 0 d f,kA 1 c i] fun G=>Gcd_ctv e d f a c i (by omega) (by omega) j M l8 an aN ao,.u 3,.n 3,.s 3,.u 1] fun I=>?_;intro _ _
 refine nm (Bg.oS ((Bg.RtB e d∧Bg.RtB j l8)∧j≠0) (Bg.flo (Bg.zv e d) (Bg.zv j l8)):Int) fun aq P=>nm (Bg.oD ((Bg.RtB e d∧Bg.RtB j l8)∧j≠0) (Bg.flo (Bg.zv e d) (Bg.zv j l8)):LI) fun l9 au=>nm (Bg.oS ((Bg.RtB e d∧Bg.RtB j l8)∧j≠0) (Bg.fmo (Bg.zv e d) (Bg.zv j l8)):Int) fun aO av=>nm (Bg.oD ((Bg.RtB e d∧Bg.RtB j l8)∧j≠0) (Bg.fmo (Bg.zv e d) (Bg.zv j l8)):LI) fun aP aw=>nm (if ¬ (Bg.RtB e d∧Bg.RtB j l8) then (1:Int) else if j=0 then 15 else 0:Int) fun aQ ax=>?_;have za:=Fr.Bz.div zp zg H P au
 refine vG [.l 0,.l 3,.cA 2 217 [kA 0 d f,kB 2 l8 ((I 2).ss 0)] fun G=>Div_ctv e d f j l8 ((I 2).ss 0) (by omega) (by omega) aq P l9 au aO av aP aw aQ ax,.u 4,.n 4,.n 5,.s 4,.s 5,.u 1] fun ay=>?_;intro _ _
 refine nm (Bg.oS ((Bg.RtB a c∧Bg.RtB j l8)∧j≠0) (Bg.flo (Bg.zv a c) (Bg.zv j l8)):Int) fun az Q=>nm (Bg.oD ((Bg.RtB a c∧Bg.RtB j l8)∧j≠0) (Bg.flo (Bg.zv a c) (Bg.zv j l8)):LI) fun aA X=>nm (Bg.oS ((Bg.RtB a c∧Bg.RtB j l8)∧j≠0) (Bg.fmo (Bg.zv a c) (Bg.zv j l8)):Int) fun aS aB=>nm (Bg.oD ((Bg.RtB a c∧Bg.RtB j l8)∧j≠0) (Bg.fmo (Bg.zv a c) (Bg.zv j l8)):LI) fun aT aC=>nm (if ¬ (Bg.RtB a c∧Bg.RtB j l8) then (1:Int) else if j=0 then 15 else 0:Int) fun aU aD=>?_;have zb:=Fr.Bz.div zq zg H Q X
 refine vG [.l 1,.l 3,.cA 2 217 [kA 1 c i,kB 2 l8 ((I 2).ss 0)] fun G=>Div_ctv a c i j l8 ((I 2).ss 0) (by omega) (by omega) az Q aA X aS aB aT aC aU aD,.u 4,.n 6,.n 7,.s 6,.s 7,.u 1] fun aE=>?_;intro _ _
 refine vG [.l 4,.l 6,.u 1,.s 2,.u 1] fun a0=>?_;intro _ _
 have e1:l9=Fr.rD ((Bg.RtB e d∧Bg.RtB a c)∧a≠0) (Rat.divInt (Bg.zv e d) (Bg.zv a c)):=(Fr.Fz.ret (Fr.new_fin zp zq w zg za zb) ⟨o,t⟩ (A)).2.1;subst e1;have e3:aA=Fr.rE ((Bg.RtB e d∧Bg.RtB a c)∧a≠0) (Rat.divInt (Bg.zv e d) (Bg.zv a c)):=(Fr.Fz.ret (Fr.new_fin zp zq w zg za zb) ⟨o,t⟩ (A)).2.2.2;subst e3;have e0:aq=Fr.rS ((Bg.RtB e d∧Bg.RtB a c)∧a≠0) (Rat.divInt (Bg.zv e d) (Bg.zv a c)):=(Fr.Fz.ret (Fr.new_fin zp zq w zg za zb) ⟨o,t⟩ (A)).1;have e2:az=Fr.rT ((Bg.RtB e d∧Bg.RtB a c)∧a≠0):=(Fr.Fz.ret (Fr.new_fin zp zq w zg za zb) ⟨o,t⟩ (A)).2.2.1;have e4:(0:Int)=if ¬ (Bg.RtB e d∧Bg.RtB a c) then (1:Int) else if a=0 then 15 else 0:=by rw [if_neg (fun h=>h o),if_neg t]
 exact V.rT [2,0] [(ay 2).ss 0,(aE 2).ss 0] [] [] [3,5] [] (cong3 (fun (B C D:Int)=>(.tuple #[.agg #[iv B,((ay 2).ss 0).v,iv C,((aE 2).ss 0).v],iv D]:Value)) e0 e2 e4)
theorem new_ctv (d:Int) (b:List Int) (e:SV) (a:Int) (c:List Int) (f:SV) (E:b.length≤274877906944) (G:c.length≤274877906944) (j:Int) (o:j=Fr.rS ((Bg.RtB d b∧Bg.RtB a c)∧a≠0) (Rat.divInt (Bg.zv d b) (Bg.zv a c))) (h:List Int) (t:h=Fr.rD ((Bg.RtB d b∧Bg.RtB a c)∧a≠0) (Rat.divInt (Bg.zv d b) (Bg.zv a c))) (w:Int) (A:w=Fr.rT ((Bg.RtB d b∧Bg.RtB a c)∧a≠0)) (i:List Int) (B:i=Fr.rE ((Bg.RtB d b∧Bg.RtB a c)∧a≠0) (Rat.divInt (Bg.zv d b) (Bg.zv a c))) (C:Int) (D:C=if ¬ (Bg.RtB d b∧Bg.RtB a c) then (1:Int) else if a=0 then 15 else 0) :
  Ct Tryz.prog 201 #[ag (DBig.mk d ⟨b,e⟩),ag (DBig.mk a ⟨c,f⟩)] [fs true b e,fs true c f] [] (fun g=>.tuple #[ag (DFrac.mk ⟨j,h,(g.ss 0)⟩ ⟨w,i,(g.ss 1)⟩),iv C]) (fun g=>[fs true h (g.ss 0),fs true i (g.ss 1)]) (fun g=>[]) (fun g=>[]):=by
 subst o t A B D;exact new_ct d b e a c f E G
theorem fof_ct (p q:Int) (hp: -9223372036854775808≤p∧p≤9223372036854775807) (hq: -9223372036854775808≤q∧q≤9223372036854775807) :
  Ct Tryz.prog 181 #[iv p,iv q] [] [] (fun g=>.tuple #[ag (DFrac.mk ⟨(Fr.rS (q≠0) (Rat.divInt p q)),Fr.rD (q≠0) (Rat.divInt p q),(g.ss 0)⟩ ⟨(Fr.rT (q≠0)),Fr.rE (q≠0) (Rat.divInt p q),(g.ss 1)⟩),iv (if q=0 then (15:Int) else 0)]) (fun g=>[fs true (Fr.rD (q≠0) (Rat.divInt p q)) (g.ss 0),fs true (Fr.rE (q≠0) (Rat.divInt p q)) (g.ss 1)]) eF eF:=by
 refine vf mo Tryz.func181 13 1 fun _=>?_
 refine vG [.n 0,.u 1] fun G1=>?_;intro _ _
 refine nm (Bg.sgn p:Int) fun n1 b=>nm (Bg.dig p.natAbs:LI) fun l1 d=>nm (Bg.sgn q:Int) fun n2 f=>nm (Bg.dig q.natAbs:LI) fun l2 h=>nm (Fr.rS ((Bg.RtB n1 l1∧Bg.RtB n2 l2)∧n2≠0) (Rat.divInt (Bg.zv n1 l1) (Bg.zv n2 l2)):Int) fun n3 i=>nm (Fr.rD ((Bg.RtB n1 l1∧Bg.RtB n2 l2)∧n2≠0) (Rat.divInt (Bg.zv n1 l1) (Bg.zv n2 l2)):LI) fun l3 j=>nm (Fr.rT ((Bg.RtB n1 l1∧Bg.RtB n2 l2)∧n2≠0):Int) fun n4 o=>nm (Fr.rE ((Bg.RtB n1 l1∧Bg.RtB n2 l2)∧n2≠0) (Rat.divInt (Bg.zv n1 l1) (Bg.zv n2 l2)):LI) fun l4 t=>nm (if ¬ (Bg.RtB n1 l1∧Bg.RtB n2 l2) then (1:Int) else if n2=0 then 15 else 0:Int) fun n5 w=>?_;have zp:=Fr.Bz.int b d
 have zq:=Fr.Bz.int f h;have P:=zp.int_len hp;have Q:=zq.int_len hq;obtain ⟨A,B,C,D,E⟩:=Fr.of_all zp zq i j o t w;refine vG [.u 1,.cA 1 177 [] fun G=>of_ctv p (by omega) n1 b l1 d,.u 1,.cA 3 177 [] fun G=>of_ctv q (by omega) n2 f l2 h,.cA 4 201 [(kf true (.g 1 0) l1 (fun G=>(G 1).ss 0)).a,(kf true (.g 3 0) l2 (fun G=>(G 3).ss 0)).a] fun G=>new_ctv n1 l1 ((G 1).ss 0) n2 l2 ((G 3).ss 0) (by omega) (by omega) n3 i l3 j n4 o l4 t n5 w,.u 2,.s 0,.u 1] fun G2=>?_;intro _ _
 have e1:l3=Fr.rD (q≠0) (Rat.divInt p q):=B;subst e1;have e3:l4=Fr.rE (q≠0) (Rat.divInt p q):=D;subst e3;have e0:n3=Fr.rS (q≠0) (Rat.divInt p q):=A;have e2:n4=Fr.rT (q≠0):=C;have e4:n5=if q=0 then (15:Int) else 0:=E
 exact V.rT [0,0] [(G2 4).ss 0,(G2 4).ss 1] [] [] [2,3] [] (cong3 (fun (H I M:Int)=>(.tuple #[.agg #[iv H,((G2 4).ss 0).v,iv I,((G2 4).ss 1).v],iv M]:Value)) e0 e2 e4)
theorem fof_ctv (p q:Int) (hp: -9223372036854775808≤p∧p≤9223372036854775807) (hq: -9223372036854775808≤q∧q≤9223372036854775807) (f:Int) (h:f=Fr.rS (q≠0) (Rat.divInt p q)) (b:List Int) (i:b=Fr.rD (q≠0) (Rat.divInt p q)) (j:Int) (o:j=Fr.rT (q≠0)) (d:List Int) (t:d=Fr.rE (q≠0) (Rat.divInt p q)) (w:Int) (A:w=if q=0 then (15:Int) else 0) :
  Ct Tryz.prog 181 #[iv p,iv q] [] [] (fun g=>.tuple #[ag (DFrac.mk ⟨f,b,(g.ss 0)⟩ ⟨j,d,(g.ss 1)⟩),iv w]) (fun g=>[fs true b (g.ss 0),fs true d (g.ss 1)]) (fun g=>[]) (fun g=>[]):=by
 subst h i o t A;exact fof_ct p q hp hq
theorem fint_ct (n:Int) (hn: -9223372036854775808≤n∧n≤9223372036854775807) :
  Ct Tryz.prog 153 #[iv n] [] [] (fun g=>ag (DFrac.mk ⟨(Bg.sgn n),Bg.dig n.natAbs,(g.ss 0)⟩ ⟨1,Bg.dig 1,(g.ss 1)⟩)) (fun g=>[fs true (Bg.dig n.natAbs) (g.ss 0),fs true (Bg.dig 1) (g.ss 1)]) eF eF:=by
 refine vf mo Tryz.func153 7 1 fun _=>?_
 refine vG [.n 0] fun G1=>?_;intro _ _
 refine nm (Bg.sgn n:Int) fun n1 b=>nm (Bg.dig n.natAbs:LI) fun l1 d=>nm (Bg.sgn (1:Int):Int) fun n2 f=>nm (Bg.dig (1:Int).natAbs:LI) fun l2 h=>vG [.u 1,.cA 1 177 [] fun G=>of_ctv n (by omega) n1 b l1 d,.cA 2 177 [] fun G=>of_ctv (1:Int) (by omega) n2 f l2 h,.u 1,.s 0] fun G2=>?_;intro _ _
 have e1:l1=Bg.dig n.natAbs:=by subst_vars;rfl
 subst e1;have e3:l2=Bg.dig 1:=by subst_vars;rfl
 subst e3;have e0:n1=Bg.sgn n:=by subst_vars;rfl
 have e2:n2=1:=by subst_vars;rfl
 exact V.rT [0] [(G2 1).ss 0,(G2 2).ss 0] [] [] [0,1] [] (cong2 (fun (i j:Int)=>(.agg #[iv i,((G2 1).ss 0).v,iv j,((G2 2).ss 0).v]:Value)) e0 e2)
theorem fint_ctv (n:Int) (hn: -9223372036854775808≤n∧n≤9223372036854775807) (f:Int) (h:f=Bg.sgn n) (b:List Int) (i:b=Bg.dig n.natAbs) (d:List Int) (j:d=Bg.dig 1) :
  Ct Tryz.prog 153 #[iv n] [] [] (fun g=>ag (DFrac.mk ⟨f,b,(g.ss 0)⟩ ⟨1,d,(g.ss 1)⟩)) (fun g=>[fs true b (g.ss 0),fs true d (g.ss 1)]) (fun g=>[]) (fun g=>[]):=by
 subst h i j;exact fint_ct n hn
theorem fmul_ct (i:Int) (c:LI) (o:SV) (k:Int) (d:LI) (r:SV) (j:Int) (e:LI) (t:SV) (m:Int) (f:LI) (x:SV) (af:c.length≤17179869184) (ah:d.length≤17179869184) (ai:e.length≤17179869184) (aj:f.length≤17179869184) :
  Ct Tryz.prog 182 #[ag (DFrac.mk ⟨i,c,o⟩ ⟨k,d,r⟩),ag (DFrac.mk ⟨j,e,t⟩ ⟨m,f,x⟩)] [fs true c o,fs true d r,fs true e t,fs true f x] [] (fun g=>.tuple #[ag (DFrac.mk ⟨(Fr.rS (Fr.FrB i c k d∧Fr.FrB j e m f) ((Fr.fq i c d) * (Fr.fq j e f))),Fr.rD (Fr.FrB i c k d∧Fr.FrB j e m f) ((Fr.fq i c d) * (Fr.fq j e f)),(g.ss 0)⟩ ⟨(Fr.rT (Fr.FrB i c k d∧Fr.FrB j e m f)),Fr.rE (Fr.FrB i c k d∧Fr.FrB j e m f) ((Fr.fq i c d) * (Fr.fq j e f)),(g.ss 1)⟩),iv (if ¬ (Fr.FrB i c k d∧Fr.FrB j e m f) then (1:Int) else 0)]) (fun g=>[fs true (Fr.rD (Fr.FrB i c k d∧Fr.FrB j e m f) ((Fr.fq i c d) * (Fr.fq j e f))) (g.ss 0),fs true (Fr.rE (Fr.FrB i c k d∧Fr.FrB j e m f) ((Fr.fq i c d) * (Fr.fq j e f))) (g.ss 1)]) eF eF:=by
 refine vf mo Tryz.func182 28 3 fun _=>?_
 refine vG [.n 0,.n 1,.n 2,.u 1] fun G1=>?_;intro _ _
 refine nm ((!(decide (Fr.FrB i c k d))) || (!(decide (Fr.FrB j e m f))):Bool) fun p1 C=>vG [.l 0,.cP 1 202 [kA 0 c o,kA 1 d r] fun G=>right_ct i c o k d r (by omega) (by omega),.u 2,.l 1,.cp (gF (b:=!(decide (Fr.FrB i c k d))) (iNF iDT)) 5 202 [kA 2 e t,kA 3 f x] (fun hg G=>right_ct j e t m f x (by omega) (by omega)),.u 1,.orn g0 false (!(decide (Fr.FrB i c k d))) (!(decide (Fr.FrB j e m f))) p1 C] fun G2=>?_;intro _ _
 refine V.cn (b:=p1) (iN C (iOT (iNT iDF) (iNT iDF))) (iN C (iOF (iNF iDT) (iNF iDT))) (fun q1=>?_) (fun q2=>?_)
 ·have A:¬ (Fr.FrB i c k d∧Fr.FrB j e m f):=by rintro ⟨h1,h2⟩;rcases q1 with h | h;exact h h1;exact h h2
  refine vG [.u 1,.s 2,.u 1] fun G3=>?_;intro _ _
  refine V.nilF (α:=Int) ?_;refine V.nilF (α:=Int) ?_;have e1:([]:LI)=Fr.rD (Fr.FrB i c k d∧Fr.FrB j e m f) ((Fr.fq i c d) * (Fr.fq j e f)):=(Fr.Fz.no A ((Fr.fq i c d) * (Fr.fq j e f))).2.1;rw [←e1];have e3:([]:LI)=Fr.rE (Fr.FrB i c k d∧Fr.FrB j e m f) ((Fr.fq i c d) * (Fr.fq j e f)):=(Fr.Fz.no A ((Fr.fq i c d) * (Fr.fq j e f))).2.2.2;rw [←e3];have e0:(0:Int)=Fr.rS (Fr.FrB i c k d∧Fr.FrB j e m f) ((Fr.fq i c d) * (Fr.fq j e f)):=(Fr.Fz.no A ((Fr.fq i c d) * (Fr.fq j e f))).1;have e2:(0:Int)=Fr.rT (Fr.FrB i c k d∧Fr.FrB j e m f):=(Fr.Fz.no A ((Fr.fq i c d) * (Fr.fq j e f))).2.2.1;have e4:(1:Int)=if ¬ (Fr.FrB i c k d∧Fr.FrB j e m f) then (1:Int) else 0:=(if_pos A).symm
  exact V.rT [2,0] [] [] [] [4,5] [] (cong3 (fun (D E H:Int)=>(.tuple #[.agg #[iv D,SV.v ({}),iv E,SV.v ({})],iv H]:Value)) e0 e2 e4)
 have w:Fr.FrB i c k d∧Fr.FrB j e m f:=by first | exact q2 | exact ⟨Decidable.not_not.1 (q2).1,Decidable.not_not.1 (q2).2⟩
 have fa:=Fr.FrB.z w.1;have fb:=Fr.FrB.z w.2;refine nm (Bg.oS (Bg.RtB i c∧Bg.RtB j e) (Bg.zv i c * Bg.zv j e):Int) fun n1 I=>nm (Bg.oD (Bg.RtB i c∧Bg.RtB j e) (Bg.zv i c * Bg.zv j e):LI) fun l1 M=>nm (Bg.oS (Bg.RtB k d∧Bg.RtB m f) (Bg.zv k d * Bg.zv m f):Int) fun n2 P=>nm (Bg.oD (Bg.RtB k d∧Bg.RtB m f) (Bg.zv k d * Bg.zv m f):LI) fun l2 Q=>nm (Fr.rS ((Bg.RtB n1 l1∧Bg.RtB n2 l2)∧n2≠0) (Rat.divInt (Bg.zv n1 l1) (Bg.zv n2 l2)):Int) fun n3 X=>nm (Fr.rD ((Bg.RtB n1 l1∧Bg.RtB n2 l2)∧n2≠0) (Rat.divInt (Bg.zv n1 l1) (Bg.zv n2 l2)):LI) fun l3 Y=>nm (Fr.rT ((Bg.RtB n1 l1∧Bg.RtB n2 l2)∧n2≠0):Int) fun n4 Z=>nm (Fr.rE ((Bg.RtB n1 l1∧Bg.RtB n2 l2)∧n2≠0) (Rat.divInt (Bg.zv n1 l1) (Bg.zv n2 l2)):LI) fun l4 ab=>nm (if ¬ (Bg.RtB n1 l1∧Bg.RtB n2 l2) then (1:Int) else if n2=0 then 15 else 0:Int) fun n5 ac=>?_;obtain ⟨z4,ak⟩:=Fr.Bz.mul fa.p fb.p I M
 obtain ⟨z9,al⟩:=Fr.Bz.mul fa.q fb.q P Q;have ad:((((Fr.fq i c d)).den:Int) * (((Fr.fq j e f)).den:Int))≠0:=Int.mul_ne_zero fa.den fb.den;have zf:=Fr.new_is z4 z9 ad X Y Z ab;have ae:n5=0:=by rw [ac,if_neg (fun h=>h ⟨z4.rt,z9.rt⟩),if_neg (z9.ne.2 ad)]
 have B:=Fr.mul_is (Fr.fq i c d) (Fr.fq j e f);refine vG [.u 1,.l 0,.u 1,.l 1,.cA 4 203 [kA 0 c o,kA 2 e t] fun G=>times_ctv i c o j e t (by omega) (by omega) n1 I l1 M,.u 1,.l 0,.u 1,.l 1,.cA 9 203 [kA 1 d r,kA 3 f x] fun G=>times_ctv k d r m f x (by omega) (by omega) n2 P l2 Q,.cA 10 201 [(kf true (.g 4 0) l1 (fun G=>(G 4).ss 0)).a,(kf true (.g 9 0) l2 (fun G=>(G 9).ss 0)).a] fun G=>new_ctv n1 l1 ((G 4).ss 0) n2 l2 ((G 9).ss 0) (by omega) (by omega) n3 X l3 Y n4 Z l4 ab n5 ac,.u 2,.s 2,.u 1] fun G4=>?_;intro _ _
 have e1:l3=Fr.rD (Fr.FrB i c k d∧Fr.FrB j e m f) ((Fr.fq i c d) * (Fr.fq j e f)):=(Fr.Fz.ret zf w (B)).2.1;subst e1;have e3:l4=Fr.rE (Fr.FrB i c k d∧Fr.FrB j e m f) ((Fr.fq i c d) * (Fr.fq j e f)):=(Fr.Fz.ret zf w (B)).2.2.2;subst e3;have e0:n3=Fr.rS (Fr.FrB i c k d∧Fr.FrB j e m f) ((Fr.fq i c d) * (Fr.fq j e f)):=(Fr.Fz.ret zf w (B)).1;have e2:n4=Fr.rT (Fr.FrB i c k d∧Fr.FrB j e m f):=(Fr.Fz.ret zf w (B)).2.2.1;have e4:n5=if ¬ (Fr.FrB i c k d∧Fr.FrB j e m f) then (1:Int) else 0:=by rw [if_neg (fun h=>h w)];exact ae
 exact V.rT [2,0] [(G4 10).ss 0,(G4 10).ss 1] [] [] [6,7] [] (cong3 (fun (D E H:Int)=>(.tuple #[.agg #[iv D,((G4 10).ss 0).v,iv E,((G4 10).ss 1).v],iv H]:Value)) e0 e2 e4)
theorem fmul_ctv (e:Int) (a:List Int) (j:SV) (h:Int) (b:List Int) (k:SV) (f:Int) (c:List Int) (l:SV) (i:Int) (d:List Int) (m:SV) (I:a.length≤17179869184) (M:b.length≤17179869184) (P:c.length≤17179869184) (Q:d.length≤17179869184) (w:Int) (A:w=Fr.rS (Fr.FrB e a h b∧Fr.FrB f c i d) ((Fr.fq e a b) * (Fr.fq f c d))) (o:List Int) (B:o=Fr.rD (Fr.FrB e a h b∧Fr.FrB f c i d) ((Fr.fq e a b) * (Fr.fq f c d))) (C:Int) (D:C=Fr.rT (Fr.FrB e a h b∧Fr.FrB f c i d)) (t:List Int) (E:t=Fr.rE (Fr.FrB e a h b∧Fr.FrB f c i d) ((Fr.fq e a b) * (Fr.fq f c d))) (G:Int) (H:G=if ¬ (Fr.FrB e a h b∧Fr.FrB f c i d) then (1:Int) else 0) :
  Ct Tryz.prog 182 #[ag (DFrac.mk ⟨e,a,j⟩ ⟨h,b,k⟩),ag (DFrac.mk ⟨f,c,l⟩ ⟨i,d,m⟩)] [fs true a j,fs true b k,fs true c l,fs true d m] [] (fun g=>.tuple #[ag (DFrac.mk ⟨w,o,(g.ss 0)⟩ ⟨C,t,(g.ss 1)⟩),iv G]) (fun g=>[fs true o (g.ss 0),fs true t (g.ss 1)]) (fun g=>[]) (fun g=>[]):=by
 subst A B D E H;exact fmul_ct e a j h b k f c l i d m I M P Q
theorem fdiv_ct (j:Int) (d:LI) (o:SV) (k:Int) (e:LI) (r:SV) (c:Int) (f:LI) (t:SV) (m:Int) (i:LI) (x:SV) (ah:d.length≤17179869184) (ai:e.length≤17179869184) (aj:f.length≤17179869184) (ak:i.length≤17179869184) :
  Ct Tryz.prog 183 #[ag (DFrac.mk ⟨j,d,o⟩ ⟨k,e,r⟩),ag (DFrac.mk ⟨c,f,t⟩ ⟨m,i,x⟩)] [fs true d o,fs true e r,fs true f t,fs true i x] [] (fun g=>.tuple #[ag (DFrac.mk ⟨(Fr.rS ((Fr.FrB j d k e∧Fr.FrB c f m i)∧c≠0) ((Fr.fq j d e) / (Fr.fq c f i))),Fr.rD ((Fr.FrB j d k e∧Fr.FrB c f m i)∧c≠0) ((Fr.fq j d e) / (Fr.fq c f i)),(g.ss 0)⟩ ⟨(Fr.rT ((Fr.FrB j d k e∧Fr.FrB c f m i)∧c≠0)),Fr.rE ((Fr.FrB j d k e∧Fr.FrB c f m i)∧c≠0) ((Fr.fq j d e) / (Fr.fq c f i)),(g.ss 1)⟩),iv (if ¬ (Fr.FrB j d k e∧Fr.FrB c f m i) then (1:Int) else if c=0 then 15 else 0)]) (fun g=>[fs true (Fr.rD ((Fr.FrB j d k e∧Fr.FrB c f m i)∧c≠0) ((Fr.fq j d e) / (Fr.fq c f i))) (g.ss 0),fs true (Fr.rE ((Fr.FrB j d k e∧Fr.FrB c f m i)∧c≠0) ((Fr.fq j d e) / (Fr.fq c f i))) (g.ss 1)]) eF eF:=by
 refine vf mo Tryz.func183 35 3 fun _=>?_
 refine vG [.n 0,.n 1,.n 2,.u 1] fun G1=>?_;intro _ _
 refine nm ((!(decide (Fr.FrB j d k e))) || (!(decide (Fr.FrB c f m i))):Bool) fun p1 I=>vG [.l 0,.cP 1 202 [kA 0 d o,kA 1 e r] fun G=>right_ct j d o k e r (by omega) (by omega),.u 2,.l 1,.cp (gF (b:=!(decide (Fr.FrB j d k e))) (iNF iDT)) 5 202 [kA 2 f t,kA 3 i x] (fun hg G=>right_ct c f t m i x (by omega) (by omega)),.u 1,.orn g0 false (!(decide (Fr.FrB j d k e))) (!(decide (Fr.FrB c f m i))) p1 I,.u 1] fun G2=>?_;intro _ _
 refine V.cn (b:=p1) (iN I (iOT (iNT iDF) (iNT iDF))) (iN I (iOF (iNF iDT) (iNF iDT))) (fun q1=>?_) (fun q2=>?_)
 ·have B:¬ (Fr.FrB j d k e∧Fr.FrB c f m i):=by rintro ⟨h1,h2⟩;rcases q1 with h | h;exact h h1;exact h h2
  refine vG [.u 1,.s 2,.u 1] fun G3=>?_;intro _ _
  refine V.nilF (α:=Int) ?_;refine V.nilF (α:=Int) ?_;have e1:([]:LI)=Fr.rD ((Fr.FrB j d k e∧Fr.FrB c f m i)∧c≠0) ((Fr.fq j d e) / (Fr.fq c f i)):=(Fr.Fz.no (fun h=>B h.1) ((Fr.fq j d e) / (Fr.fq c f i))).2.1;rw [←e1];have e3:([]:LI)=Fr.rE ((Fr.FrB j d k e∧Fr.FrB c f m i)∧c≠0) ((Fr.fq j d e) / (Fr.fq c f i)):=(Fr.Fz.no (fun h=>B h.1) ((Fr.fq j d e) / (Fr.fq c f i))).2.2.2;rw [←e3];have e0:(0:Int)=Fr.rS ((Fr.FrB j d k e∧Fr.FrB c f m i)∧c≠0) ((Fr.fq j d e) / (Fr.fq c f i)):=(Fr.Fz.no (fun h=>B h.1) ((Fr.fq j d e) / (Fr.fq c f i))).1;have e2:(0:Int)=Fr.rT ((Fr.FrB j d k e∧Fr.FrB c f m i)∧c≠0):=(Fr.Fz.no (fun h=>B h.1) ((Fr.fq j d e) / (Fr.fq c f i))).2.2.1;have e4:(1:Int)=if ¬ (Fr.FrB j d k e∧Fr.FrB c f m i) then (1:Int) else if c=0 then 15 else 0:=(if_pos B).symm
  exact V.rT [2,0] [] [] [] [4,5] [] (cong3 (fun (C D E:Int)=>(.tuple #[.agg #[iv C,SV.v ({}),iv D,SV.v ({})],iv E]:Value)) e0 e2 e4)
 have A:Fr.FrB j d k e∧Fr.FrB c f m i:=by first | exact q2 | exact ⟨Decidable.not_not.1 (q2).1,Decidable.not_not.1 (q2).2⟩
 have fa:=Fr.FrB.z A.1;have fb:=Fr.FrB.z A.2;refine vG [.u 2,.l 1,.u 2] fun G4=>?_;intro _ _
 refine vd (c=0) (fun q3=>?_) fun q4=>?_
 ·have w:c=0:=q3;refine vG [.u 1,.s 2,.u 1] fun G5=>?_;intro _ _
  refine V.nilF (α:=Int) ?_;refine V.nilF (α:=Int) ?_;have e1:([]:LI)=Fr.rD ((Fr.FrB j d k e∧Fr.FrB c f m i)∧c≠0) ((Fr.fq j d e) / (Fr.fq c f i)):=(Fr.Fz.no (fun h=>h.2 w) ((Fr.fq j d e) / (Fr.fq c f i))).2.1;rw [←e1];have e3:([]:LI)=Fr.rE ((Fr.FrB j d k e∧Fr.FrB c f m i)∧c≠0) ((Fr.fq j d e) / (Fr.fq c f i)):=(Fr.Fz.no (fun h=>h.2 w) ((Fr.fq j d e) / (Fr.fq c f i))).2.2.2;rw [←e3];have e0:(0:Int)=Fr.rS ((Fr.FrB j d k e∧Fr.FrB c f m i)∧c≠0) ((Fr.fq j d e) / (Fr.fq c f i)):=(Fr.Fz.no (fun h=>h.2 w) ((Fr.fq j d e) / (Fr.fq c f i))).1;have e2:(0:Int)=Fr.rT ((Fr.FrB j d k e∧Fr.FrB c f m i)∧c≠0):=(Fr.Fz.no (fun h=>h.2 w) ((Fr.fq j d e) / (Fr.fq c f i))).2.2.1;have e4:(15:Int)=if ¬ (Fr.FrB j d k e∧Fr.FrB c f m i) then (1:Int) else if c=0 then 15 else 0:=by rw [if_neg (fun h=>h A),if_pos w]
  exact V.rT [2,0] [] [] [] [4,5] [] (cong3 (fun (C D E:Int)=>(.tuple #[.agg #[iv C,SV.v ({}),iv D,SV.v ({})],iv E]:Value)) e0 e2 e4)
 have w:¬ c=0:=q4;refine nm (Bg.oS (Bg.RtB j d∧Bg.RtB m i) (Bg.zv j d * Bg.zv m i):Int) fun n1 M=>nm (Bg.oD (Bg.RtB j d∧Bg.RtB m i) (Bg.zv j d * Bg.zv m i):LI) fun l1 P=>nm (Bg.oS (Bg.RtB k e∧Bg.RtB c f) (Bg.zv k e * Bg.zv c f):Int) fun n2 Q=>nm (Bg.oD (Bg.RtB k e∧Bg.RtB c f) (Bg.zv k e * Bg.zv c f):LI) fun l2 X=>nm (Fr.rS ((Bg.RtB n1 l1∧Bg.RtB n2 l2)∧n2≠0) (Rat.divInt (Bg.zv n1 l1) (Bg.zv n2 l2)):Int) fun n3 Y=>nm (Fr.rD ((Bg.RtB n1 l1∧Bg.RtB n2 l2)∧n2≠0) (Rat.divInt (Bg.zv n1 l1) (Bg.zv n2 l2)):LI) fun l3 Z=>nm (Fr.rT ((Bg.RtB n1 l1∧Bg.RtB n2 l2)∧n2≠0):Int) fun n4 ab=>nm (Fr.rE ((Bg.RtB n1 l1∧Bg.RtB n2 l2)∧n2≠0) (Rat.divInt (Bg.zv n1 l1) (Bg.zv n2 l2)):LI) fun l4 ac=>nm (if ¬ (Bg.RtB n1 l1∧Bg.RtB n2 l2) then (1:Int) else if n2=0 then 15 else 0:Int) fun n5 ad=>?_;obtain ⟨z4,al⟩:=Fr.Bz.mul fa.p fb.q M P
 obtain ⟨z9,am⟩:=Fr.Bz.mul fa.q fb.p Q X;have ae:(((Fr.fq j d e)).den:Int) * ((Fr.fq c f i)).num≠0:=Int.mul_ne_zero fa.den (fb.p.ne.1 w);have zf:=Fr.new_is z4 z9 ae Y Z ab ac;have af:n5=0:=by rw [ad,if_neg (fun h=>h ⟨z4.rt,z9.rt⟩),if_neg (z9.ne.2 ae)]
 have H:=(Fr.div_is (Fr.fq j d e) (Fr.fq c f i)).symm;refine vG [.u 1,.l 0,.u 1,.l 1,.cA 4 203 [kA 0 d o,kA 3 i x] fun G=>times_ctv j d o m i x (by omega) (by omega) n1 M l1 P,.u 1,.l 0,.u 1,.l 1,.cA 9 203 [kA 1 e r,kA 2 f t] fun G=>times_ctv k e r c f t (by omega) (by omega) n2 Q l2 X,.cA 10 201 [(kf true (.g 4 0) l1 (fun G=>(G 4).ss 0)).a,(kf true (.g 9 0) l2 (fun G=>(G 9).ss 0)).a] fun G=>new_ctv n1 l1 ((G 4).ss 0) n2 l2 ((G 9).ss 0) (by omega) (by omega) n3 Y l3 Z n4 ab l4 ac n5 ad,.u 2,.s 2,.u 1] fun G6=>?_;intro _ _
 have e1:l3=Fr.rD ((Fr.FrB j d k e∧Fr.FrB c f m i)∧c≠0) ((Fr.fq j d e) / (Fr.fq c f i)):=(Fr.Fz.ret zf ⟨A,w⟩ (H)).2.1;subst e1;have e3:l4=Fr.rE ((Fr.FrB j d k e∧Fr.FrB c f m i)∧c≠0) ((Fr.fq j d e) / (Fr.fq c f i)):=(Fr.Fz.ret zf ⟨A,w⟩ (H)).2.2.2;subst e3;have e0:n3=Fr.rS ((Fr.FrB j d k e∧Fr.FrB c f m i)∧c≠0) ((Fr.fq j d e) / (Fr.fq c f i)):=(Fr.Fz.ret zf ⟨A,w⟩ (H)).1;have e2:n4=Fr.rT ((Fr.FrB j d k e∧Fr.FrB c f m i)∧c≠0):=(Fr.Fz.ret zf ⟨A,w⟩ (H)).2.2.1;have e4:n5=if ¬ (Fr.FrB j d k e∧Fr.FrB c f m i) then (1:Int) else if c=0 then 15 else 0:=by rw [if_neg (fun h=>h A),if_neg w];exact af
 exact V.rT [2,0] [(G6 10).ss 0,(G6 10).ss 1] [] [] [6,7] [] (cong3 (fun (C D E:Int)=>(.tuple #[.agg #[iv C,((G6 10).ss 0).v,iv D,((G6 10).ss 1).v],iv E]:Value)) e0 e2 e4)
theorem fdiv_ctv (f:Int) (b:List Int) (j:SV) (h:Int) (c:List Int) (k:SV) (a:Int) (d:List Int) (l:SV) (i:Int) (e:List Int) (m:SV) (I:b.length≤17179869184) (M:c.length≤17179869184) (P:d.length≤17179869184) (Q:e.length≤17179869184) (w:Int) (A:w=Fr.rS ((Fr.FrB f b h c∧Fr.FrB a d i e)∧a≠0) ((Fr.fq f b c) / (Fr.fq a d e))) (o:List Int) (B:o=Fr.rD ((Fr.FrB f b h c∧Fr.FrB a d i e)∧a≠0) ((Fr.fq f b c) / (Fr.fq a d e))) (C:Int) (D:C=Fr.rT ((Fr.FrB f b h c∧Fr.FrB a d i e)∧a≠0)) (t:List Int) (E:t=Fr.rE ((Fr.FrB f b h c∧Fr.FrB a d i e)∧a≠0) ((Fr.fq f b c) / (Fr.fq a d e))) (G:Int) (H:G=if ¬ (Fr.FrB f b h c∧Fr.FrB a d i e) then (1:Int) else if a=0 then 15 else 0) :
  Ct Tryz.prog 183 #[ag (DFrac.mk ⟨f,b,j⟩ ⟨h,c,k⟩),ag (DFrac.mk ⟨a,d,l⟩ ⟨i,e,m⟩)] [fs true b j,fs true c k,fs true d l,fs true e m] [] (fun g=>.tuple #[ag (DFrac.mk ⟨w,o,(g.ss 0)⟩ ⟨C,t,(g.ss 1)⟩),iv G]) (fun g=>[fs true o (g.ss 0),fs true t (g.ss 1)]) (fun g=>[]) (fun g=>[]):=by
 subst A B D E H;exact fdiv_ct f b j h c k a d l i e m I M P Q

theorem dright_ct (d0 d1 d2 d3 d4 d5:Int) :
  Cp Tryz.prog 156 #[.agg #[iv d0,iv d1,iv d2,iv d3,iv d4,iv d5]] [] (bv (decide (Dm.Rt [d0,d1,d2,d3,d4,d5]))):=by
 refine vf mo Tryz.func156 16 1 fun _=>?_
 refine vG [.n 0,.kb false] fun G1=>?_;intro _ _
 refine vG [.l 0,.u 1] fun G2=>?_;intro _ _
 refine V.lp (γ:=Int) (fun k0=>⟨[(5,.agg #[iv d0,iv d1,iv d2,iv d3,iv d4,iv d5]),(6,iv k0)],[],[.no]⟩) (fun k0=>(0≤k0)∧(k0≤6)∧(∀ j:Nat,j < k0.toNat→ -9≤[d0,d1,d2,d3,d4,d5].getD j 0∧[d0,d1,d2,d3,d4,d5].getD j 0≤9)) (fun k0=>(6-k0).toNat) 0 [] ?_ ?_
 ·refine ⟨by omega,by omega,?_⟩;show ∀ j:Nat,j < (0:Int).toNat→ -9≤[d0,d1,d2,d3,d4,d5].getD j 0∧[d0,d1,d2,d3,d4,d5].getD j 0≤9;intro j hj;simp at hj
 rintro k0 hF1 kw3 Z1 hZ1;obtain ⟨f,h,d⟩:=hF1;refine vG [.u 1] fun G3=>?_;intro _ _;refine vd (k0 < 6) (fun q1=>?_) fun q2=>?_
 ·rcases (by omega:k0=0∨k0=1∨k0=2∨k0=3∨k0=4∨k0=5) with hcs1 | hcs2 | hcs3 | hcs4 | hcs5 | hcs6
  ·refine V.alt (fun (zz:Int)=>(⟨[(5,.agg #[iv d0,iv d1,iv d2,iv d3,iv d4,iv d5]),(6,iv zz),(7,bv (decide (k0 < 6)))],[],[.no]⟩:St)) hcs1 [] (by kernel_rfl) ?_;refine vG [.u 2] fun G4=>?_;intro _ _
   refine vG [.u 5,.or g0 false (decide (d0 < (-9))) (decide (9 < d0))] fun G5=>?_;intro _ _
   refine V.cn (b:=(decide (d0 < (-9))) || (decide (9 < d0))) (iOT iDT iDT) (iOF iDF iDF) (fun q3=>?_) (fun q4=>?_)
   ·refine vG [.kb false] fun G6=>?_;intro _ _
    have e0:false=decide (Dm.Rt [d0,d1,d2,d3,d4,d5]):=by symm;rw [decide_eq_false_iff_not,Dm.Rt6];omega
    exact vb 0 [] e0
   refine vG [.u 2] fun G7=>?_;intro _ _
   refine V.rn hZ1 1 [] ?_ ?_
   ·refine ⟨by omega,by omega,?_⟩;show ∀ j:Nat,j < (1:Int).toNat→ -9≤[d0,d1,d2,d3,d4,d5].getD j 0∧[d0,d1,d2,d3,d4,d5].getD j 0≤9;exact Dm.upto_succ (P:=fun j=> -9≤[d0,d1,d2,d3,d4,d5].getD j 0∧[d0,d1,d2,d3,d4,d5].getD j 0≤9) (n:=0) (by omega) d (by show -9≤d0∧d0≤9;omega)
   omega
  ·refine V.alt (fun (zz:Int)=>(⟨[(5,.agg #[iv d0,iv d1,iv d2,iv d3,iv d4,iv d5]),(6,iv zz),(7,bv (decide (k0 < 6)))],[],[.no]⟩:St)) hcs2 [] (by kernel_rfl) ?_;refine vG [.u 2] fun G8=>?_;intro _ _
   refine vG [.u 5,.or g0 false (decide (d1 < (-9))) (decide (9 < d1))] fun G9=>?_;intro _ _
   refine V.cn (b:=(decide (d1 < (-9))) || (decide (9 < d1))) (iOT iDT iDT) (iOF iDF iDF) (fun q5=>?_) (fun q6=>?_)
   ·refine vG [.kb false] fun i=>?_;intro _ _
    have e0:false=decide (Dm.Rt [d0,d1,d2,d3,d4,d5]):=by symm;rw [decide_eq_false_iff_not,Dm.Rt6];omega
    exact vb 0 [] e0
   refine vG [.u 2] fun o=>?_;intro _ _
   refine V.rn hZ1 2 [] ?_ ?_
   ·refine ⟨by omega,by omega,?_⟩;show ∀ j:Nat,j < (2:Int).toNat→ -9≤[d0,d1,d2,d3,d4,d5].getD j 0∧[d0,d1,d2,d3,d4,d5].getD j 0≤9;exact Dm.upto_succ (P:=fun j=> -9≤[d0,d1,d2,d3,d4,d5].getD j 0∧[d0,d1,d2,d3,d4,d5].getD j 0≤9) (n:=1) (by omega) d (by show -9≤d1∧d1≤9;omega)
   omega
  ·refine V.alt (fun (zz:Int)=>(⟨[(5,.agg #[iv d0,iv d1,iv d2,iv d3,iv d4,iv d5]),(6,iv zz),(7,bv (decide (k0 < 6)))],[],[.no]⟩:St)) hcs3 [] (by kernel_rfl) ?_;refine vG [.u 2] fun t=>?_;intro _ _
   refine vG [.u 5,.or g0 false (decide (d2 < (-9))) (decide (9 < d2))] fun w=>?_;intro _ _
   refine V.cn (b:=(decide (d2 < (-9))) || (decide (9 < d2))) (iOT iDT iDT) (iOF iDF iDF) (fun q7=>?_) (fun q8=>?_)
   ·refine vG [.kb false] fun A=>?_;intro _ _
    have e0:false=decide (Dm.Rt [d0,d1,d2,d3,d4,d5]):=by symm;rw [decide_eq_false_iff_not,Dm.Rt6];omega
    exact vb 0 [] e0
   refine vG [.u 2] fun B=>?_;intro _ _
   refine V.rn hZ1 3 [] ?_ ?_
   ·refine ⟨by omega,by omega,?_⟩;show ∀ j:Nat,j < (3:Int).toNat→ -9≤[d0,d1,d2,d3,d4,d5].getD j 0∧[d0,d1,d2,d3,d4,d5].getD j 0≤9;exact Dm.upto_succ (P:=fun j=> -9≤[d0,d1,d2,d3,d4,d5].getD j 0∧[d0,d1,d2,d3,d4,d5].getD j 0≤9) (n:=2) (by omega) d (by show -9≤d2∧d2≤9;omega)
   omega
  ·refine V.alt (fun (zz:Int)=>(⟨[(5,.agg #[iv d0,iv d1,iv d2,iv d3,iv d4,iv d5]),(6,iv zz),(7,bv (decide (k0 < 6)))],[],[.no]⟩:St)) hcs4 [] (by kernel_rfl) ?_;refine vG [.u 2] fun C=>?_;intro _ _
   refine vG [.u 5,.or g0 false (decide (d3 < (-9))) (decide (9 < d3))] fun D=>?_;intro _ _
   refine V.cn (b:=(decide (d3 < (-9))) || (decide (9 < d3))) (iOT iDT iDT) (iOF iDF iDF) (fun q9=>?_) (fun E=>?_)
   ·refine vG [.kb false] fun G=>?_;intro _ _
    have e0:false=decide (Dm.Rt [d0,d1,d2,d3,d4,d5]):=by symm;rw [decide_eq_false_iff_not,Dm.Rt6];omega
    exact vb 0 [] e0
   refine vG [.u 2] fun H=>?_;intro _ _
   refine V.rn hZ1 4 [] ?_ ?_
   ·refine ⟨by omega,by omega,?_⟩;show ∀ j:Nat,j < (4:Int).toNat→ -9≤[d0,d1,d2,d3,d4,d5].getD j 0∧[d0,d1,d2,d3,d4,d5].getD j 0≤9;exact Dm.upto_succ (P:=fun j=> -9≤[d0,d1,d2,d3,d4,d5].getD j 0∧[d0,d1,d2,d3,d4,d5].getD j 0≤9) (n:=3) (by omega) d (by show -9≤d3∧d3≤9;omega)
   omega
  ·refine V.alt (fun (zz:Int)=>(⟨[(5,.agg #[iv d0,iv d1,iv d2,iv d3,iv d4,iv d5]),(6,iv zz),(7,bv (decide (k0 < 6)))],[],[.no]⟩:St)) hcs5 [] (by kernel_rfl) ?_;refine vG [.u 2] fun I=>?_;intro _ _
   refine vG [.u 5,.or g0 false (decide (d4 < (-9))) (decide (9 < d4))] fun M=>?_;intro _ _
   refine V.cn (b:=(decide (d4 < (-9))) || (decide (9 < d4))) (iOT iDT iDT) (iOF iDF iDF) (fun Q=>?_) (fun X=>?_)
   ·refine vG [.kb false] fun Y=>?_;intro _ _
    have e0:false=decide (Dm.Rt [d0,d1,d2,d3,d4,d5]):=by symm;rw [decide_eq_false_iff_not,Dm.Rt6];omega
    exact vb 0 [] e0
   refine vG [.u 2] fun Z=>?_;intro _ _
   refine V.rn hZ1 5 [] ?_ ?_
   ·refine ⟨by omega,by omega,?_⟩;show ∀ j:Nat,j < (5:Int).toNat→ -9≤[d0,d1,d2,d3,d4,d5].getD j 0∧[d0,d1,d2,d3,d4,d5].getD j 0≤9;exact Dm.upto_succ (P:=fun j=> -9≤[d0,d1,d2,d3,d4,d5].getD j 0∧[d0,d1,d2,d3,d4,d5].getD j 0≤9) (n:=4) (by omega) d (by show -9≤d4∧d4≤9;omega)
   omega
  refine V.alt (fun (zz:Int)=>(⟨[(5,.agg #[iv d0,iv d1,iv d2,iv d3,iv d4,iv d5]),(6,iv zz),(7,bv (decide (k0 < 6)))],[],[.no]⟩:St)) hcs6 [] (by kernel_rfl) ?_;refine vG [.u 2] fun ab=>?_;intro _ _
  refine vG [.u 5,.or g0 false (decide (d5 < (-9))) (decide (9 < d5))] fun ac=>?_;intro _ _
  refine V.cn (b:=(decide (d5 < (-9))) || (decide (9 < d5))) (iOT iDT iDT) (iOF iDF iDF) (fun ad=>?_) (fun ae=>?_)
  ·refine vG [.kb false] fun af=>?_;intro _ _
   have e0:false=decide (Dm.Rt [d0,d1,d2,d3,d4,d5]):=by symm;rw [decide_eq_false_iff_not,Dm.Rt6];omega
   exact vb 0 [] e0
  refine vG [.u 2] fun ah=>?_;intro _ _
  refine V.rn hZ1 6 [] ?_ ?_
  ·refine ⟨by omega,by omega,?_⟩;show ∀ j:Nat,j < (6:Int).toNat→ -9≤[d0,d1,d2,d3,d4,d5].getD j 0∧[d0,d1,d2,d3,d4,d5].getD j 0≤9;exact Dm.upto_succ (P:=fun j=> -9≤[d0,d1,d2,d3,d4,d5].getD j 0∧[d0,d1,d2,d3,d4,d5].getD j 0≤9) (n:=5) (by omega) d (by show -9≤d5∧d5≤9;omega)
  omega
 refine vG [.kb true] fun ai=>?_;intro _ _
 have e0:true=decide (Dm.Rt [d0,d1,d2,d3,d4,d5]):=by symm;rw [decide_eq_true_iff];exact Dm.Rt_all rfl fun j hj=>d j (by omega)
 exact vb 0 [] e0
end Kb
