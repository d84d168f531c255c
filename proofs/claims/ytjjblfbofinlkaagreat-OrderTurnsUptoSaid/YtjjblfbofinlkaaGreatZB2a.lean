/- Texts for the claim, put together: the calculus of regions, its rules, and contracts of the functions that the law reaches. -/
import Derived.Test.YtjjblfbofinlkaaGreatZBwg
import Derived.Test.YtjjblfbofinlkaaGreatZB0123a
import Derived.Test.YtjjblfbofinlkaaGreatZB0234a
import Derived.Test.YtjjblfbofinlkaaGreatZB1234a
import Derived.Test.YtjjblfbofinlkaaGreatZB234a
import Derived.Test.YtjjblfbofinlkaaGreatZB23a
import Derived.Test.YtjjblfbofinlkaaGreatZB24a
set_option linter.all false
set_option maxRecDepth 10000
namespace Kb
open Go
namespace Zl
open Fx Sx Zc Zd Zo
theorem Check_names {F:List FE} (h:Check F=0):(F.map (·.m)).Nodup:=(Check_char.1 h).2.1
theorem sndE_perm {nm:ByteArray} {a:List DImport} {b:List DInput} {t:List DTable} {F F':List FE} {C C':List CE} {p:List DPort} {d:List DStore} {r:List DRecipe} (hF:F'.Perm F) (hC:C'.Perm C) (h:sndE nm a b t F C p d r):sndE nm a b t F' C' p d r∧Sm F F':=by
 obtain ⟨⟨h1,h2⟩,h3⟩:=h;have hs:Sm F F':=⟨hF,Check_names h2⟩;refine ⟨⟨⟨h1.perm hF hC,hs.check h2⟩,?_⟩,hs⟩;unfold okX at h3 ⊢;refine List.all_eq_true.2 fun c hc=>?_;rw [hs.xpd h2];exact List.all_eq_true.1 h3 c (hC.mem_iff.1 hc)
end Zl

open Go
namespace Zl
open Fx Sx Zc Zd Zo
theorem row_nodup {C:List CE} (hn:(C.map (·.1)).Nodup) (e:Ex):(row (ixE C) C.length e).Nodup:=by
 rw [row_names hn];exact (range_nodup _).filter _
theorem getD_rev {α:Type} [Inhabited α] {l:List α} {k:Int} (h0:0≤k) (hk:k < (l.length:Int)):l.reverse.getD ((l.length:Int) - 1 - k).toNat default=l.getD k.toNat default:=by
 rw [List.getD_eq_getElem?_getD,List.getElem?_reverse (by omega),List.getD_eq_getElem?_getD]
 congr 2
 omega
theorem rev_mir {F F':List FE} {C:List CE} (hs:Sm F F') (hc:Check F=0) (hn:(C.map (·.1)).Nodup):Mir (grE F C) (grE F' C.reverse):=by
 have b:(C.reverse.map (·.1)).Nodup:=by rw [List.map_reverse];exact (List.reverse_perm _).nodup_iff.2 hn
 refine ⟨by rw [grE_len,grE_len,List.length_reverse],fun i k h1 h2 h3 h4=>?_⟩;rw [grE_len] at h2 h4 ⊢;rw [mem_gr hn h1 h2,mem_gr b (by omega) (by rw [List.length_reverse];omega),List.length_reverse,getD_rev h3 h4,getD_rev h1 h2,hs.xpd hc];exact ⟨fun h=>⟨by omega,h.2⟩,fun h=>⟨⟨h3,h4⟩,h.2⟩⟩
theorem Mir.rowlen {G G':List (List Int)} (hG:InR G) (d:InR G') (h:Mir G G') {i:Int} (h0:0≤i) (hi:i < (G.length:Int)) (hn:(rw_ G i).Nodup) (f:(rw_ G' ((G.length:Int) - 1 - i)).Nodup):(rw_ G i).length=(rw_ G' ((G.length:Int) - 1 - i)).length:=by
 have b:∀ (l m:List Int) (z:Int),l.Nodup→(∀ x ∈ l,z - x ∈ m)→l.length≤m.length:=fun l m z hl hm=>by
  have:=subset_le (l.map fun x=>z - x) m ?_ fun y hy=>?_
  ·rwa [List.length_map] at this
  ·refine List.pairwise_map.2 (hl.imp fun j e=>j (by omega))
  ·obtain ⟨x,hx,rfl⟩:=List.mem_map.1 hy;exact hm x hx
 refine Nat.le_antisymm (b _ _ ((G.length:Int) - 1) hn fun x hx=>?_) (b _ _ ((G.length:Int) - 1) f fun x hx=>?_)
 ·have hr:=hG.at hx;exact (h.mem i x h0 hi hr.1 hr.2).1 hx
 ·have hr:=d.at hx;rw [h.len] at hr;refine (h.mem i _ h0 hi (by omega) (by omega)).2 ?_;rw [show (G.length:Int) - 1 - ((G.length:Int) - 1 - x)=x by omega];exact hx
end Zl

open Go
namespace Zl
open Fx Sx Zc Zd Zo
section
variable {nm : ByteArray} {a : List DImport} {b : List DInput} {t : List DTable} {f : List DFunc} {c : List DCell} {p : List DPort} {d : List DStore} {r : List DRecipe}
theorem turns {f':List DFunc} {c':List DCell} (hf:f'=f.reverse) (hc:c'=c.reverse) (h:snd nm a b t f c p d r):snd nm a b t f' c' p d r∧Mir (grf (f.map fe) c) (grf (f'.map fe) c')∧(∀ i:Int,(rw_ (grf (f.map fe) c) i).Nodup)∧∀ i:Int,(rw_ (grf (f'.map fe) c') i).Nodup:=by
 subst hf hc;have h':=(snd_iff ..).1 h;have eF:f.reverse.map fe=(f.map fe).reverse:=List.map_reverse;have eC:c.reverse.map ce=(c.map ce).reverse:=List.map_reverse;obtain ⟨h1,h2⟩:=sndE_perm (F':=(f.map fe).reverse) (C':=(c.map ce).reverse) (List.reverse_perm _) (List.reverse_perm _) h';have hn:=(h'.1.1.names).2;have j:=(h1.1.1.names).2;have nd:∀ (F:List FE) (C:List CE),(C.map (·.1)).Nodup→∀ i:Int,(rw_ (grE F C) i).Nodup:=fun F C hC i=>by
  by_cases hi:i.toNat < C.length
  ·show ((grE F C).getD i.toNat []).Nodup;rw [grE_at F hi];exact row_nodup hC _
  ·have:rw_ (grE F C) i=[]:=by
    show (grE F C).getD i.toNat []=[];rw [List.getD_eq_getElem?_getD,List.getElem?_eq_none (by rw [grE_len];omega)];rfl
   rw [this];exact List.nodup_nil
 rw [grf_is,grf_is,eF,eC];exact ⟨(snd_iff ..).2 (by rw [eF,eC];exact h1),rev_mir h2 h'.1.2 hn,nd _ _ hn,nd _ _ j⟩
theorem rev_snoc {α:Type} [Inhabited α] {l:List α} {i:Int} {x:α} (h0:0≤i) (hi:i < (l.length:Int)) (hx:x=l.getD i.toNat default):(l.drop (i+1).toNat).reverse ++[x]=(l.drop i.toNat).reverse:=by
 rw [List.drop_eq_getElem_cons (show i.toNat < l.length by omega),List.reverse_cons,show (i+1).toNat=i.toNat+1 by omega,hx,List.getD_eq_getElem?_getD,List.getElem?_eq_getElem (show i.toNat < l.length by omega)];rfl
theorem Sml.rev {f':List DFunc} {c':List DCell} (hf:f'=f.reverse) (hc:c'=c.reverse) (h:Sml nm a b t f c p d r):Sml nm a b t f' c' p d r:=by
 subst hf hc;exact { h with fun_:=fun x hx=>h.fun_ x (List.mem_reverse.1 hx),cel:=fun x hx=>h.cel x (List.mem_reverse.1 hx) }
end
end Zl

open Go Go.Proofs
theorem ltu_ct (B:BA) (e:List DImport) (q:SV) (f:List DInput) (r:SV) (j:List DTable) (t:SV) (d:List DFunc) (C:SV) (c:List DCell) (D:SV) (m:List DPort) (x:SV) (o:List DStore) (y:SV) (p:List DRecipe) (A:SV) (hS:Sx.Sml B e f j d c m o p) (hL:(e.length:Int)+f.length+j.length+d.length+c.length+m.length+o.length+p.length≤100000000) :
  Cp Tryz.prog 8 #[ag (DSheet.mk B ⟨e,q⟩ ⟨f,r⟩ ⟨j,t⟩ ⟨d,C⟩ ⟨c,D⟩ ⟨m,x⟩ ⟨o,y⟩ ⟨p,A⟩)] [fs true e q,fs true f r,fs true j t,fs true d C,fs true c D,fs true m x,fs true o y,fs true p A] (bv true):=by
 refine vf mo Tryz.func8 126 4 fun _=>?_
 refine vG [.n 0,.kb false] fun G1=>?_;intro _ _
 refine vG [.cP 0 9 [] fun G=>lsm_ct ,.kb true] fun G2=>?_;intro _ _
 refine nm ((!(Zu.few21 B e f j d c m o p)) || (!(decide (Zo.snd B e f j d c m o p))):Bool) fun p1 am=>vG [.l 0,.cP 1 10 [kA 0 e q,kA 1 f r,kA 2 j t,kA 3 d C,kA 4 c D,kA 5 m x,kA 6 o y,kA 7 p A] fun G=>rfw21_ct B e q f r j t d C c D m x o y p A hL,.u 2,.l 0,.cp (gF (b:=!(Zu.few21 B e f j d c m o p)) (iNF Iff.rfl)) 5 13 [kA 0 e q,kA 1 f r,kA 2 j t,kA 3 d C,kA 4 c D,kA 5 m x,kA 6 o y,kA 7 p A] (fun hg G=>oso_ct B e q f r j t d C c D m x o y p A hS hL),.u 1,.orn g0 false (!(Zu.few21 B e f j d c m o p)) (!(decide (Zo.snd B e f j d c m o p))) p1 am] fun G3=>?_;intro _ _
 refine V.cn (b:=p1) (iN am (iOT (iNT Iff.rfl) (iNT iDF))) (iN am (iOF (iNF Iff.rfl) (iNF iDT))) (fun q1=>?_) (fun q2=>?_)
 ·refine vG [.kb true,.kb true] fun G4=>?_;intro _ _
  exact V.rS [0] [] [] [] [] []
 have hF:Zu.few21 B e f j d c m o p=true:=by grind
 have hs:(Zo.snd B e f j d c m o p):=by grind
 have h7:(c.length:Int)≤7:=by unfold Zu.few21 at hF;simp only [Bool.and_eq_true,decide_eq_true_eq] at hF;exact hF.1.1.1.2
 obtain ⟨gg,Z⟩:∃ z:List (List Int),z=(Zo.grf (d.map Zc.fe) c):=⟨_,rfl⟩;have hG:Zo.InR gg:=by rw [Z];exact Zo.grf_in
 have aw:gg.length=c.length:=by rw [Z,Zo.grf_len]
 obtain ⟨gl,aM⟩:∃ z:List Int,z=Zo.ordL gg:=⟨_,rfl⟩;obtain ⟨gn,ax⟩:∃ z:Int,z=Zo.ordN gg:=⟨_,rfl⟩;obtain ⟨gc,ay⟩:∃ z:List Int,z=Zo.cycle gg:=⟨_,rfl⟩;refine vG [.u 1,.l 0,.ln (kF 4 c D),.u 1] fun G5=>?_;intro _ _;refine vG [.l 0,.n 1,.s 1] fun G6=>?_;intro _ _;refine vG [.u 1,.s 1] fun G7=>?_;intro _ _;refine vG [.u 1,.s 1] fun G8=>?_;intro _ _;refine nm ((c.length:Int)-1:Int) fun n1 ah=>vG [.u 1,.aR ((c.length:Int)-1) n1 ah,.u 1] fun G9=>?_;intro _ _;refine V.on (α:=DCell) 2 52 (by kernel_rfl) ?_;refine V.lp (γ:=Int × List DCell × SV) (fun ⟨i,w,E⟩=>⟨[(1,pp ((G1 0).b) 0),(3,bv true),(4,iv (c.length:Int)),(5,pp ((G6 1).b) 0),(6,iv i)],[fs false e q,fs false f r,fs false j t,fs false d C,fs false c D,fs false m x,fs false o y,fs false p A],[.blk ((G1 0).b) (ca (DSheet.mk B ⟨e,q⟩ ⟨f,r⟩ ⟨j,t⟩ ⟨d,C⟩ ⟨c,D⟩ ⟨m,x⟩ ⟨o,y⟩ ⟨p,A⟩)) 31,.blk ((G6 1).b) (ca (DSheet.mk B ⟨e,q⟩ ⟨f,r⟩ ⟨j,t⟩ ⟨[],{}⟩ ⟨w,E⟩ ⟨m,x⟩ ⟨o,y⟩ ⟨p,A⟩)) 31,os false 52 w E,.no]⟩) (fun ⟨i,w,E⟩=>(-1≤i∧i < (c.length:Int))∧(w=(c.drop (i+1).toNat).reverse)) (fun ⟨i,w,E⟩=>(i+1).toNat) (n1,([]:List DCell),{}) [0,1,2,3,4,5,6,7] ?_ ?_
 ·refine ⟨?_,?_⟩
  ·show -1≤n1∧n1 < (c.length:Int);omega
  show ([]:List DCell)=(c.drop (n1+1).toNat).reverse;rw [List.drop_of_length_le (by omega)];rfl
 rintro ⟨i,w,E⟩ hF1 kw10 Z1 hZ1;obtain ⟨aU,an⟩:=hF1;have ac:=congrArg List.length an;rw [List.length_reverse,List.length_drop] at ac;refine vG [.u 2] fun aV=>?_;intro _ _;refine vd (0≤i) (fun q3=>?_) fun q4=>?_
 ·refine nm (c.getD i.toNat default:DCell) fun x1 az=>nm (w ++([x1]:List DCell):List DCell) fun l1 aA=>vG [.u 1,.l 1,.u 1,.l 0,.u 1,.iX (kF 4 c D) i,.lE (kF 4 c D) i true x1 az true,.nr 7 false 52 ([x1]:List DCell) [(kx false (.g 6 0) x1 x1.Def.Args.l (fun _=>x1.Def.Args.s) (fun _ H (h:Dat.good H (x1:DCell))=>(exG.1 h))).a] (fun _ _ h=>(List.forall_mem_cons.2 ⟨(exG.2 h.1),(List.forall_mem_nil _)⟩)) (fun _=>#[tv x1.Name,tv x1.Unit,iv x1.Def.Op,iv x1.Def.N,tv x1.Def.Unit,tv x1.Def.Name,x1.Def.Args.s.v]),.ap 8 2 52 104 false false w (fun _=>E) (kf false (.g 7 0) ([x1]:List DCell) (fun G=>⟨atB (G 7).b,1,1⟩)) false l1 aA (by first | omega | (simp;omega) | simp) (fun h=>by cases h) (.inl fun h=>by cases h),.u 1,.s 1] fun aN=>?_;intro _ _
  refine vG [.u 1,.aa (i-1),.u 1] fun aW=>?_;intro _ _
  refine V.rn hZ1 (i-1,l1,(aN 8).s) [0,1,2,3,4,5,6,7] ?_ ?_
  ·refine ⟨?_,?_⟩
   ·show -1≤(i-1)∧(i-1) < (c.length:Int);omega
   show l1=(c.drop ((i-1)+1).toNat).reverse;rw [aA,an,show (i-1+1).toNat=i.toNat by omega];exact Zl.rev_snoc (by omega) (by omega) az
  dsimp only;omega
 refine nm ((d.length:Int)-1:Int) fun n2 ai=>vG [.u 1,.l 0,.ln (kF 3 d C),.aR ((d.length:Int)-1) n2 ai,.u 1] fun aX=>?_;intro _ _
 refine V.on (α:=DFunc) 3 59 (by kernel_rfl) ?_;refine V.lp (γ:=Int × List DFunc × SV) (fun ⟨Q,I,M⟩=>⟨[(1,pp ((G1 0).b) 0),(3,bv true),(4,iv (c.length:Int)),(5,pp ((G6 1).b) 0),(7,iv Q)],[fs false e q,fs false f r,fs false j t,fs false d C,fs false c D,fs false m x,fs false o y,fs false p A],[.blk ((G1 0).b) (ca (DSheet.mk B ⟨e,q⟩ ⟨f,r⟩ ⟨j,t⟩ ⟨d,C⟩ ⟨c,D⟩ ⟨m,x⟩ ⟨o,y⟩ ⟨p,A⟩)) 31,.blk ((G6 1).b) (ca (DSheet.mk B ⟨e,q⟩ ⟨f,r⟩ ⟨j,t⟩ ⟨I,M⟩ ⟨w,E⟩ ⟨m,x⟩ ⟨o,y⟩ ⟨p,A⟩)) 31,os false 52 w E,os false 59 I M]⟩) (fun ⟨Q,I,M⟩=>(-1≤Q∧Q < (d.length:Int))∧(I=(d.drop (Q+1).toNat).reverse)) (fun ⟨Q,I,M⟩=>(Q+1).toNat) (n2,([]:List DFunc),{}) [0,1,2,3,4,5,6,7] ?_ ?_
 ·refine ⟨?_,?_⟩
  ·show -1≤n2∧n2 < (d.length:Int);omega
  show ([]:List DFunc)=(d.drop (n2+1).toNat).reverse;rw [List.drop_of_length_le (by omega)];rfl
 rintro ⟨Q,I,M⟩ hF2 kw15 Z2 hZ2;obtain ⟨aY,ao⟩:=hF2;have ac:=congrArg List.length ao;rw [List.length_reverse,List.length_drop] at ac;refine vG [.u 2] fun aZ=>?_;intro _ _;refine vd (0≤Q) (fun q5=>?_) fun q6=>?_
 ·refine nm (d.getD Q.toNat default:DFunc) fun x2 aB=>nm (I ++([x2]:List DFunc):List DFunc) fun l2 aC=>vG [.u 1,.l 1,.u 1,.l 0,.u 1,.iX (kF 3 d C) Q,.lE (kF 3 d C) Q true x2 aB true,.nr 7 false 59 ([x2]:List DFunc) [(kx false (.g 6 0) x2 x2.Params.l (fun _=>x2.Params.s) (fun _ H (h:Dat.good H (x2:DFunc))=>h.1)).a,(kx false (.g 6 0) x2 x2.Body.Args.l (fun _=>x2.Body.Args.s) (fun _ H (h:Dat.good H (x2:DFunc))=>(exG.1 h.2))).a] (fun _ _ h=>(List.forall_mem_cons.2 ⟨(And.intro h.1 (exG.2 h.2.1)),(List.forall_mem_nil _)⟩)) (fun _=>#[tv x2.Name,x2.Params.s.v,iv x2.Body.Op,iv x2.Body.N,tv x2.Body.Unit,tv x2.Body.Name,x2.Body.Args.s.v]),.ap 8 3 59 112 false false I (fun _=>M) (kf false (.g 7 0) ([x2]:List DFunc) (fun G=>⟨atB (G 7).b,1,1⟩)) false l2 aC (by first | omega | (simp;omega) | simp) (fun h=>by cases h) (.inl fun h=>by cases h),.u 1,.s 1] fun aO=>?_;intro _ _
  refine vG [.u 1,.aa (Q-1),.u 1] fun a0=>?_;intro _ _
  refine V.rn hZ2 (Q-1,l2,(aO 8).s) [0,1,2,3,4,5,6,7] ?_ ?_
  ·refine ⟨?_,?_⟩
   ·show -1≤(Q-1)∧(Q-1) < (d.length:Int);omega
   show l2=(d.drop ((Q-1)+1).toNat).reverse;rw [aC,ao,show (Q-1+1).toNat=Q.toNat by omega];exact Zl.rev_snoc (by omega) (by omega) aB
  dsimp only;omega
 have aD:w=c.reverse:=by rw [an,show (i+1).toNat=0 by omega];rfl
 have aE:I=d.reverse:=by rw [ao,show (Q+1).toNat=0 by omega];rfl
 have aq:=Zl.Sml.rev aE aD hS;obtain ⟨au,ad,ah,ai⟩:=Zl.turns aE aD hs;obtain ⟨X,Y⟩:∃ z:List (List Int),z=Zo.grf (I.map Zc.fe) w:=⟨_,rfl⟩;rw [←Z,← Y] at ad;rw [←Z] at ah;rw [←Y] at ai;have av:Zo.InR X:=by rw [Y];exact Zo.grf_in
 obtain ⟨aP,aF⟩:∃ z:List Int,z=Zo.ordL X:=⟨_,rfl⟩;obtain ⟨ae,ak⟩:∃ z:Int,z=Zo.ordN X:=⟨_,rfl⟩;obtain ⟨aj,al⟩:∃ z:List Int,z=Zo.cycle X:=⟨_,rfl⟩;refine vG [.u 1] fun a1=>?_;intro _ _;refine V.lp (γ:=Int) (fun P=>⟨[(1,pp ((G1 0).b) 0),(3,bv true),(4,iv (c.length:Int)),(5,pp ((G6 1).b) 0),(8,iv P)],[fs false e q,fs false f r,fs false j t,fs false d C,fs false c D,fs false m x,fs false o y,fs false p A],[.blk ((G1 0).b) (ca (DSheet.mk B ⟨e,q⟩ ⟨f,r⟩ ⟨j,t⟩ ⟨d,C⟩ ⟨c,D⟩ ⟨m,x⟩ ⟨o,y⟩ ⟨p,A⟩)) 31,.blk ((G6 1).b) (ca (DSheet.mk B ⟨e,q⟩ ⟨f,r⟩ ⟨j,t⟩ ⟨I,M⟩ ⟨w,E⟩ ⟨m,x⟩ ⟨o,y⟩ ⟨p,A⟩)) 31,os false 52 w E,os false 59 I M]⟩) (fun P=>(0≤P)∧(P≤(c.length:Int))) (fun P=>((c.length:Int)-P).toNat) 0 [0,1,2,3,4,5,6,7] ?_ ?_
 ·refine ⟨by omega,by omega⟩
 rintro P hF3 kw20 Z3 hZ3;obtain ⟨a2,a3⟩:=hF3;refine vG [.u 3] fun a4=>?_;intro _ _;refine vd (P < (c.length:Int)) (fun q7=>?_) fun q8=>?_
 ·refine vR [.l 0,.u 1,.cA 2 16 [kA 0 e q,kA 1 f r,kA 2 j t,kA 3 d C,kA 4 c D,kA 5 m x,kA 6 o y,kA 7 p A] fun G=>ond_s B e q f r j t d C c D m x o y p A P gg hS hL h7 hs Z ⟨by omega,by omega⟩,.u 1] fun ab aG=>?_;intro _ _
  obtain ⟨aT, -⟩:Lq (Zo.rw_ gg P) (((ab 2).ss 0).v):=kj aG 0;refine nm ((c.length:Int)-1:Int) fun n3 aH=>vG [.l 1,.u 1,.aR ((c.length:Int)-1) n3 aH,.u 1,.aa (n3-P),.cA 5 16 [kA 0 e q,kA 1 f r,kA 2 j t,(ko false 59 3 I (fun _=>M)).a,(ko false 52 2 w (fun _=>E)).a,kA 5 m x,kA 6 o y,kA 7 p A] fun G=>ond_s B e q f r j t I M w E m x o y p A (n3-P) X aq (by omega) (by omega) au Y ⟨by omega,by omega⟩,.u 1] fun af=>?_;intro _ _;refine vG [.u 1,.ln (kG 8 (Zo.rw_ gg P) ((ab 2).ss 0)),.u 1,.ln (kG 9 (Zo.rw_ X (n3-P)) ((af 5).ss 0)),.u 1] fun a5=>?_;intro _ _;refine vn (((Zo.rw_ gg P).length:Int)=((Zo.rw_ X (n3-P)).length:Int)) (fun q9=>?_) fun a6=>?_
  ·exfalso;have ac:=ad.rowlen hG av (i:=P) (by omega) (by omega) (ah _) (ai _);rw [aw,← aH] at ac;omega
  refine vG [.u 1] fun a7=>?_;intro _ _
  refine V.lp (γ:=Int) (fun k=>⟨[(1,pp ((G1 0).b) 0),(3,bv true),(4,iv (c.length:Int)),(5,pp ((G6 1).b) 0),(8,iv P),(9,((ab 2).ss 0).v),(10,((af 5).ss 0).v),(11,iv k)],[fs true (Zo.rw_ gg P) ((ab 2).ss 0),fs true (Zo.rw_ X (n3-P)) ((af 5).ss 0),fs false e q,fs false f r,fs false j t,fs false d C,fs false c D,fs false m x,fs false o y,fs false p A],[.blk ((G1 0).b) (ca (DSheet.mk B ⟨e,q⟩ ⟨f,r⟩ ⟨j,t⟩ ⟨d,C⟩ ⟨c,D⟩ ⟨m,x⟩ ⟨o,y⟩ ⟨p,A⟩)) 31,.blk ((G6 1).b) (ca (DSheet.mk B ⟨e,q⟩ ⟨f,r⟩ ⟨j,t⟩ ⟨I,M⟩ ⟨w,E⟩ ⟨m,x⟩ ⟨o,y⟩ ⟨p,A⟩)) 31,os false 52 w E,os false 59 I M]⟩) (fun k=>(0≤k)∧(k≤((Zo.rw_ gg P).length:Int))) (fun k=>(((Zo.rw_ gg P).length:Int)-k).toNat) 0 [8,9,0,1,2,3,4,5,6,7] ?_ ?_
  ·refine ⟨by omega,by omega⟩
  rintro k hF4 kw26 Z4 hZ4;obtain ⟨a8,a9⟩:=hF4;refine vG [.u 2,.ln (kG 0 (Zo.rw_ gg P) ((ab 2).ss 0)),.u 1] fun ba=>?_;intro _ _;refine vd (k < ((Zo.rw_ gg P).length:Int)) (fun bb=>?_) fun bc=>?_
  ·refine nm ((c.length:Int)-1:Int) fun n4 aQ=>nm ((Zo.rw_ gg P).getD k.toNat default:Int) fun v1 aI=>?_;have aJ:v1 ∈ Zo.rw_ gg P:=by rw [aI];exact getD_mem (by omega) rfl
   have aK:=hG.at aJ;have aS:=(ad.mem P v1 (by omega) (by omega) aK.1 aK.2).1 aJ;rw [aw] at aS;refine vG [.u 2,.aR ((c.length:Int)-1) n4 aQ,.u 2,.iX (kG 0 (Zo.rw_ gg P) ((ab 2).ss 0)) k,.lE (kG 0 (Zo.rw_ gg P) ((ab 2).ss 0)) k false v1 aI false,.aa (n4-v1),.cP 8 21 [kB 1 (Zo.rw_ X (n3-P)) ((af 5).ss 0)] fun G=>rhas_ct (Zo.rw_ X (n3-P)) ((af 5).ss 0) (n4-v1),.u 1] fun be=>?_;intro _ _
   refine vn ((n4-v1) ∈ (Zo.rw_ X (n3-P))) (fun bf=>?_) fun bg=>?_
   ·exfalso;grind
   refine vG [.u 1,.aa (k+1),.u 1] fun bh=>?_;intro _ _
   refine V.rn hZ4 (k+1) [0,1,2,3,4,5,6,7,8,9] ?_ ?_
   ·refine ⟨by omega,by omega⟩
   omega
  refine vG [.u 1,.aa (P+1),.u 1] fun bi=>?_;intro _ _
  refine V.rn hZ3 (P+1) [2,3,4,5,6,7,8,9] ?_ ?_
  ·refine ⟨by omega,by omega⟩
  omega
 refine vG [.l 0,.cA 1 11 [kA 0 e q,kA 1 f r,kA 2 j t,kA 3 d C,kA 4 c D,kA 5 m x,kA 6 o y,kA 7 p A] fun G=>oor_s B e q f r j t d C c D m x o y p A gg gl gn hS hL h7 hs Z aM ax,.u 5] fun bj=>?_;intro _ _
 refine vG [.l 1,.cA 1 11 [kA 0 e q,kA 1 f r,kA 2 j t,(ko false 59 3 I (fun _=>M)).a,(ko false 52 2 w (fun _=>E)).a,kA 5 m x,kA 6 o y,kA 7 p A] fun G=>oor_s B e q f r j t I M w E m x o y p A X aP ae aq (by omega) (by omega) au Y aF ak,.u 5] fun bk=>?_;intro _ _
 refine nm ((decide (gn=ae)) && (decide ((gc.length:Int)=(aj.length:Int))):Bool) fun p2 aL=>vG [.kb true,.kb true,.u 5,.l 0,.ct (gT (b:=decide (gn=ae)) iDT) 8 18 false [] [] [kA 0 e q,kA 1 f r,kA 2 j t,kA 3 d C,kA 4 c D,kA 5 m x,kA 6 o y,kA 7 p A] (fun hg G=>ocy_s B e q f r j t d C c D m x o y p A gg gc hS hL h7 hs Z ay),.ln (kf true (.g 8 0) gc (fun G=>(G 8).ss 0)),.l 1,.ct (gT (b:=decide (gn=ae)) iDT) 11 18 false [] [] [kA 0 e q,kA 1 f r,kA 2 j t,(ko false 59 3 I (fun _=>M)).a,(ko false 52 2 w (fun _=>E)).a,kA 5 m x,kA 6 o y,kA 7 p A] (fun hg G=>ocy_s B e q f r j t I M w E m x o y p A X aj aq (by omega) (by omega) au Y al),.ln (kf true (.g 11 0) aj (fun G=>(G 11).ss 0)),.u 1,.andn g0 false (decide (gn=ae)) (decide ((gc.length:Int)=(aj.length:Int))) p2 aL,.u 1] fun bm=>?_;intro _ _
 have e0:p2=true:=by have h1:=ad.ordN hG av;have h2:=ad.cycle hG av;rw [←ax,← ak] at h1;rw [←ay,← al] at h2;simp [aL,h1,h2]
 exact vb 0 [] e0
end Kb
