/- Texts for the claim, put together: the calculus of regions, its rules, and contracts of the functions that the law reaches. -/
import Derived.Test.YtjjblfbofinlkaaGreatZBwg
import Derived.Test.YtjjblfbofinlkaaGreatZB0123a
import Derived.Test.YtjjblfbofinlkaaGreatZB0234a
import Derived.Test.YtjjblfbofinlkaaGreatZB034a
import Derived.Test.YtjjblfbofinlkaaGreatZB04a
import Derived.Laws.Cells
import Derived.Laws.World
import Derived.KernelRfl
import Derived.Laws.Small
import Derived.Laws.Cover3
set_option linter.all false
set_option maxRecDepth 10000
namespace Kb
open Go
theorem min_if (x y:Int):(if y < x then y else x)=min x y:=by omega

open Go
namespace Hint
variable {P : Program}
def mn (x y:Int):Hint P:=e g0 (.int .i64 (if y < x then y else x)) (.int .i64 (min x y)) fun _=>by rw [min_if]
end Hint

open Go
namespace Zo
theorem ord_later {G:List (List Int)} {i k v u:Int} (h0:0≤i) (d:i < k) (hk:k < ((ord G).length:Int)) (hv:v=(ord G).getD i.toNat default) (hu:u=(ord G).getD k.toNat default) (f:u < v):((rw_ G u).all fun y=>decide (y ∈ (ord G).take i.toNat))=false:=by
 refine Zu.not_true fun ha=>?_;have hb:=ord_beg G
 have hr:=(hb.rdy (k:=k.toNat) (by omega));have e:(ord G).getD k.toNat 0=u:=hu.symm;rw [e] at hr;have hm:=hb.min (k:=i.toNat) (by omega) (i:=u) ⟨hr.1,fun b=>hr.2.1 ?_,fun y hy=>of_decide_eq_true (List.all_eq_true.1 ha y hy)⟩
 ·have e2:(ord G).getD i.toNat 0=v:=hv.symm;rw [e2] at hm;omega
 ·obtain ⟨j,h1,h2,h3⟩:=mem_take0.1 b;exact mem_take0.2 ⟨j,by omega,h2,h3⟩
end Zo

open Go Go.Proofs
theorem lst_ct (l:LI) (ls:SV) (b:LI) (d:SV) (n:Int) :
  Cp Tryz.prog 22 #[ls.v,d.v,iv n] [fs true l ls,fs true b d] (bv (l.all (fun y:Int=>decide (y ∈ b.take (max 0 (min n (b.length:Int))).toNat)))):=by
 refine vf mo Tryz.func22 27 0 fun k0=>?_;obtain ⟨t, -⟩:Lq l ls.v:=kj k0 0
 refine vG [.kb false] fun G1=>?_;intro _ _
 refine vG [.u 1] fun G2=>?_;intro _ _
 refine V.lp (γ:=Int) (fun i=>⟨[(0,ls.v),(1,d.v),(2,iv n),(7,iv i)],[fs false l ls,fs false b d],[]⟩) (fun i=>(0≤i)∧(i≤(l.length:Int))∧(0≤i)∧(∀ j:Nat,j < i.toNat→(fun y:Int=>decide (y ∈ b.take (max 0 (min n (b.length:Int))).toNat)) (l.getD j default)=true)) (fun i=>((l.length:Int)-i).toNat) 0 [0,1] ?_ ?_
 ·refine ⟨by omega,by omega,by omega,?_⟩;show ∀ j:Nat,j < (0:Int).toNat→(fun y:Int=>decide (y ∈ b.take (max 0 (min n (b.length:Int))).toNat)) (l.getD j default)=true;exact Zu.all0 (fun y:Int=>decide (y ∈ b.take (max 0 (min n (b.length:Int))).toNat)) _
 rintro i hF1 kw3 Z1 hZ1;obtain ⟨w,A,B,o⟩:=hF1;refine vG [.u 2,.ln (kF 0 l ls),.u 1] fun G3=>?_;intro _ _;refine vd (i < (l.length:Int)) (fun q1=>?_) fun q2=>?_
 ·refine nm (b.take (max 0 (min n (b.length:Int))).toNat:LI) fun l1 f=>nm (l.getD i.toNat default:Int) fun v1 h=>vG [.u 3,.ln (kF 1 b d),.mn n (b.length:Int),.mx 0 (min n (b.length:Int)),.sl g0 (kF 1 b d) rfl none (some (max 0 (min n (b.length:Int)))) 0 (max 0 (min n (b.length:Int))) rfl rfl l1 (by rw [f];simp) (fun _=>⟨by omega,by omega,by omega⟩),.u 2,.iX (kF 0 l ls) i,.lE (kF 0 l ls) i false v1 h false,.cP 11 21 [(kf false (.g 6 0) l1 (fun _=>(d.sub 1 (0:Int).toNat (max 0 (min n (b.length:Int))).toNat))).a] fun G=>rhas_ct l1 (d.sub 1 (0:Int).toNat (max 0 (min n (b.length:Int))).toNat) v1,.u 1] fun G4=>?_;intro _ _
  refine vn (v1 ∈ l1) (fun q3=>?_) fun q4=>?_
  ·refine vG [.kb false] fun G5=>?_;intro _ _
   have e0:false=l.all (fun y:Int=>decide (y ∈ b.take (max 0 (min n (b.length:Int))).toNat)):=by exact (Zu.all_no (p:=(fun y:Int=>decide (y ∈ b.take (max 0 (min n (b.length:Int))).toNat))) (by omega) (by omega) h (by rw [f] at q3;simpa using q3)).symm
   exact vb 0 [] e0
  refine vG [.u 1,.aa (i+1),.u 1] fun G6=>?_;intro _ _
  refine V.rn hZ1 (i+1) [0,1] ?_ ?_
  ·refine ⟨by omega,by omega,by omega,?_⟩;show ∀ j:Nat,j < (i+1).toNat→(fun y:Int=>decide (y ∈ b.take (max 0 (min n (b.length:Int))).toNat)) (l.getD j default)=true;exact Zu.all_step (p:=(fun y:Int=>decide (y ∈ b.take (max 0 (min n (b.length:Int))).toNat))) o (by omega) h (by rw [f] at q4;simpa using q4)
  omega
 refine vG [.kb true] fun G7=>?_;intro _ _
 have e0:true=l.all (fun y:Int=>decide (y ∈ b.take (max 0 (min n (b.length:Int))).toNat)):=(Zu.all_end (p:=(fun y:Int=>decide (y ∈ b.take (max 0 (min n (b.length:Int))).toNat))) o (by omega)).symm;exact vb 0 [] e0

theorem lle_ct (q:BA) (e:List DImport) (r:SV) (f:List DInput) (t:SV) (h:List DTable) (x:SV) (d:List DFunc) (A:SV) (c:List DCell) (p:SV) (j:List DPort) (B:SV) (m:List DStore) (C:SV) (o:List DRecipe) (D:SV) (hS:Sx.Sml q e f h d c j m o) (hL:(e.length:Int)+f.length+h.length+d.length+c.length+j.length+m.length+o.length≤100000000) :
  Cp Tryz.prog 4 #[ag (DSheet.mk q ⟨e,r⟩ ⟨f,t⟩ ⟨h,x⟩ ⟨d,A⟩ ⟨c,p⟩ ⟨j,B⟩ ⟨m,C⟩ ⟨o,D⟩)] [fs true e r,fs true f t,fs true h x,fs true d A,fs true c p,fs true j B,fs true m C,fs true o D] (bv true):=by
 refine vf mo Tryz.func4 131 1 fun _=>?_
 refine vG [.n 0,.kb false] fun G1=>?_;intro _ _
 refine vG [.cP 0 9 [] fun G=>lsm_ct ,.kb true] fun G2=>?_;intro _ _
 refine nm ((!(Zu.few21 q e f h d c j m o)) || (!(decide (Zo.snd q e f h d c j m o))):Bool) fun p1 Y=>vG [.l 0,.cP 1 10 [kA 0 e r,kA 1 f t,kA 2 h x,kA 3 d A,kA 4 c p,kA 5 j B,kA 6 m C,kA 7 o D] fun G=>rfw21_ct q e r f t h x d A c p j B m C o D hL,.u 2,.l 0,.cp (gF (b:=!(Zu.few21 q e f h d c j m o)) (iNF Iff.rfl)) 5 13 [kA 0 e r,kA 1 f t,kA 2 h x,kA 3 d A,kA 4 c p,kA 5 j B,kA 6 m C,kA 7 o D] (fun hg G=>oso_ct q e r f t h x d A c p j B m C o D hS hL),.u 1,.orn g0 false (!(Zu.few21 q e f h d c j m o)) (!(decide (Zo.snd q e f h d c j m o))) p1 Y] fun G3=>?_;intro _ _
 refine V.cn (b:=p1) (iN Y (iOT (iNT Iff.rfl) (iNT iDF))) (iN Y (iOF (iNF Iff.rfl) (iNF iDT))) (fun q1=>?_) (fun q2=>?_)
 ·refine vG [.kb true,.kb true] fun G4=>?_;intro _ _
  exact V.rS [0] [] [] [] [] []
 have hF:Zu.few21 q e f h d c j m o=true:=by grind
 have hs:(Zo.snd q e f h d c j m o):=by grind
 have h7:(c.length:Int)≤7:=by unfold Zu.few21 at hF;simp only [Bool.and_eq_true,decide_eq_true_eq] at hF;exact hF.1.1.1.2
 obtain ⟨gg,H⟩:∃ z:List (List Int),z=(Zo.grf (d.map Zc.fe) c):=⟨_,rfl⟩;have hG:Zo.InR gg:=by rw [H];exact Zo.grf_in
 have am:gg.length=c.length:=by rw [H,Zo.grf_len]
 obtain ⟨gl,w⟩:∃ z:List Int,z=Zo.ordL gg:=⟨_,rfl⟩;obtain ⟨gn,ae⟩:∃ z:Int,z=Zo.ordN gg:=⟨_,rfl⟩;obtain ⟨gc,af⟩:∃ z:List Int,z=Zo.cycle gg:=⟨_,rfl⟩;refine vG [.l 0,.cA 1 11 [kA 0 e r,kA 1 f t,kA 2 h x,kA 3 d A,kA 4 c p,kA 5 j B,kA 6 m C,kA 7 o D] fun G=>oor_s q e r f t h x d A c p j B m C o D gg gl gn hS hL h7 hs H w ae,.u 5] fun G5=>?_;intro _ _;refine vG [.l 0,.cA 1 18 [kA 0 e r,kA 1 f t,kA 2 h x,kA 3 d A,kA 4 c p,kA 5 j B,kA 6 m C,kA 7 o D] fun G=>ocy_s q e r f t h x d A c p j B m C o D gg gc hS hL h7 hs H af,.u 1] fun G6=>?_;intro _ _;refine nm ((!(decide (gn=23))) || (decide (0 < (gl.length:Int))):Bool) fun p2 M=>nm ((!((decide (gn=0)) == (decide ((gc.length:Int)=0)))) || ((!(decide (gn=0))) && p2):Bool) fun p3 P=>nm (p3 || (!(decide (Sx.Rt q e f h d c j m o))):Bool) fun p4 Z=>?_;have ab:=Zo.ordN_is hG;rw [←ae,← w,← af] at ab;refine vG [.u 3,.ln (kG 9 gc ((G6 1).ss 0)),.u 10,.ln (kG 8 gl ((G5 1).ss 0)),.u 1,.orn ((gF (b:=!((decide (gn=0)) == (decide ((gc.length:Int)=0)))) (iNF (iQT iDT iDT))).T (b:=!(decide (gn=0))) (iNT iDF)) false (!(decide (gn=23))) (decide (0 < (gl.length:Int))) p2 M,.and (gF (b:=!((decide (gn=0)) == (decide ((gc.length:Int)=0)))) (iNF (iQT iDT iDT))) false (!(decide (gn=0))) p2,.orn g0 false (!((decide (gn=0)) == (decide ((gc.length:Int)=0)))) ((!(decide (gn=0))) && p2) p3 P,.u 1,.l 0,.cp (gF (b:=p3) (iN P (iOF (iNF (iQT iDT iDT)) (iAF (iNF iDT) (iN M (iOF (iNF iDT) iDF)))))) 21 20 [kA 0 e r,kA 1 f t,kA 2 h x,kA 3 d A,kA 4 c p,kA 5 j B,kA 6 m C,kA 7 o D] (fun hg G=>srgt_ct q e r f t h x d A c p j B m C o D hS hL),.u 1,.orn g0 false p3 (!(decide (Sx.Rt q e f h d c j m o))) p4 Z] fun G7=>?_;intro _ _;refine V.cn (b:=p4) (iN Z (iOT (iN P (iOT (iNT (iQF iDT iDT)) (iAT (iNT iDF) (iN M (iOT (iNT iDF) iDT))))) (iNT iDF))) (iN Z (iOF (iN P (iOF (iNF (iQT iDT iDT)) (iAF (iNF iDT) (iN M (iOF (iNF iDT) iDF))))) (iNF iDT))) (fun q3=>?_) (fun q4=>?_)
 ·exfalso;have hr:=hs.1.1;rcases ab with ⟨h1,h2,h3,h4⟩ | ⟨h1,h2,h3⟩;simp [h1,h2,hr] at q3;have h5:=List.length_pos_iff.2 h2;simp [h1,h3,hr] at q3;exact h2 q3
 refine vG [.u 2] fun G8=>?_;intro _ _
 refine vn (gn=0) (fun q5=>?_) fun q6=>?_
 ·refine vG [.kb true,.kb true] fun G9=>?_;intro _ _
  exact V.rS [0] [] [] [] [] []
 have ah:gc=[]∧gl=Zo.ord gg∧(Zo.ord gg).length=gg.length:=by rcases ab with ⟨_,h2,h3,h4⟩ | ⟨h1,_,_⟩;exact ⟨h2,h3,h4⟩;exfalso;omega
 replace w:=ah.2.1
 have an:gl.length=gg.length:=by rw [w];exact ah.2.2
 refine vG [.u 1,.ln (kG 8 gl ((G5 1).ss 0)),.u 1,.l 0,.ln (kF 4 c p),.u 1] fun ao=>?_;intro _ _
 refine vn ((gl.length:Int)=(c.length:Int)) (fun q7=>?_) fun q8=>?_
 ·exfalso;omega
 refine vG [.u 1] fun aq=>?_;intro _ _
 refine V.lp (γ:=Int) (fun i=>⟨[(1,pp ((G1 0).b) 0),(3,bv true),(4,((G5 1).ss 0).v),(7,iv i)],[fs true gl ((G5 1).ss 0),fs false e r,fs false f t,fs false h x,fs false d A,fs false c p,fs false j B,fs false m C,fs false o D],[.blk ((G1 0).b) (ca (DSheet.mk q ⟨e,r⟩ ⟨f,t⟩ ⟨h,x⟩ ⟨d,A⟩ ⟨c,p⟩ ⟨j,B⟩ ⟨m,C⟩ ⟨o,D⟩)) 31]⟩) (fun i=>(0≤i)∧(i≤(gl.length:Int))) (fun i=>((gl.length:Int)-i).toNat) 0 [8,0,1,2,3,4,5,6,7] ?_ ?_
 ·refine ⟨by omega,by omega⟩
 rintro i hF1 kw12 Z1 hZ1;obtain ⟨au,av⟩:=hF1;refine vG [.u 2,.ln (kG 0 gl ((G5 1).ss 0)),.u 1] fun aw=>?_;intro _ _;refine vd (i < (gl.length:Int)) (fun q9=>?_) fun ax=>?_
 ·refine nm (gl.getD i.toNat default:Int) fun v1 I=>nm ((decide (v1 < 0)) || (decide ((c.length:Int)≤v1)):Bool) fun p5 E=>nm (gl.take i.toNat:LI) fun l1 ak=>nm ((p5 || (decide (v1 ∈ l1))) || (!((Zo.rw_ gg v1).all (fun y:Int=>decide (y ∈ gl.take (max 0 (min i (gl.length:Int))).toNat)))):Bool) fun p6 ac=>?_;have ai:=Zo.ord_at (G:=gg) (i:=i) (v:=v1) (by omega) (by rw [←w];omega) (by rw [←w];exact I)
  refine vG [.u 2,.iX (kG 0 gl ((G5 1).ss 0)) i,.lE (kG 0 gl ((G5 1).ss 0)) i false v1 I false,.u 4,.ix (gF (b:=decide (v1 < 0)) iDF) (kG 0 gl ((G5 1).ss 0)) i (fun hg=>⟨by omega,by omega⟩),.le (gF (b:=decide (v1 < 0)) iDF) (kG 0 gl ((G5 1).ss 0)) i none false v1 I (fun hg=>⟨by omega,by omega⟩) false (fun _=>[iv v1]),.u 1,.l 0,.ln (kF 5 c p),.u 1,.orn g0 false (decide (v1 < 0)) (decide ((c.length:Int)≤v1)) p5 E,.u 3,.sl (gF (b:=p5) (iN E (iOF iDF iDF))) (kG 0 gl ((G5 1).ss 0)) rfl none (some i) 0 i rfl rfl l1 (by rw [ak];simp) (fun hg=>⟨by omega,by omega,by omega⟩),.u 2,.ix (gF (b:=p5) (iN E (iOF iDF iDF))) (kG 0 gl ((G5 1).ss 0)) i (fun hg=>⟨by omega,by omega⟩),.le (gF (b:=p5) (iN E (iOF iDF iDF))) (kG 0 gl ((G5 1).ss 0)) i none false v1 I (fun hg=>⟨by omega,by omega⟩) false (fun _=>[iv v1]),.cp (gF (b:=p5) (iN E (iOF iDF iDF))) 23 21 [(kf true (.g 18 0) l1 (fun _=>(((G5 1).ss 0).sub 1 (0:Int).toNat i.toNat))).a] (fun hg G=>rhas_ct l1 (((G5 1).ss 0).sub 1 (0:Int).toNat i.toNat) v1),.or g0 false p5 (decide (v1 ∈ l1)),.u 1,.l 0,.u 2,.ix (gF (b:=p5 || (decide (v1 ∈ l1))) (iOF (iN E (iOF iDF iDF)) iDF)) (kG 0 gl ((G5 1).ss 0)) i (fun hg=>⟨by omega,by omega⟩),.le (gF (b:=p5 || (decide (v1 ∈ l1))) (iOF (iN E (iOF iDF iDF)) iDF)) (kG 0 gl ((G5 1).ss 0)) i none false v1 I (fun hg=>⟨by omega,by omega⟩) false (fun _=>[iv v1]),.ct (gF (b:=p5 || (decide (v1 ∈ l1))) (iOF (iN E (iOF iDF iDF)) iDF)) 31 16 false [] [] [kA 1 e r,kA 2 f t,kA 3 h x,kA 4 d A,kA 5 c p,kA 6 j B,kA 7 m C,kA 8 o D] (fun hg G=>ond_s q e r f t h x d A c p j B m C o D v1 gg hS hL h7 hs H ⟨by omega,by omega⟩),.u 2,.cp (gF (b:=p5 || (decide (v1 ∈ l1))) (iOF (iN E (iOF iDF iDF)) iDF)) 34 22 [(kf true (.g 31 0) (Zo.rw_ gg v1) (fun G=>(G 31).ss 0)).a,kB 0 gl ((G5 1).ss 0)] (fun hg G=>lst_ct (Zo.rw_ gg v1) ((G 31).ss 0) gl ((G5 1).ss 0) i),.u 1,.orn g0 false (p5 || (decide (v1 ∈ l1))) (!((Zo.rw_ gg v1).all (fun y:Int=>decide (y ∈ gl.take (max 0 (min i (gl.length:Int))).toNat)))) p6 ac] fun ay=>?_;intro _ _
  refine V.cn (b:=p6) (iN ac (iOT (iOT (iN E (iOT iDT iDT)) iDT) (iNT Iff.rfl))) (iN ac (iOF (iOF (iN E (iOF iDF iDF)) iDF) (iNF Iff.rfl))) (fun al=>?_) (fun az=>?_)
  ·exfalso;rw [show max 0 (min i (gl.length:Int))=i by omega] at al;have h2:=ai.2.1;have h3:=ai.2.2;rw [←w] at h2 h3;grind
  refine vG [.u 1,.aa (i+1),.u 1] fun aA=>?_;intro _ _
  refine V.lp (γ:=Int) (fun k=>⟨[(1,pp ((G1 0).b) 0),(3,bv true),(4,((G5 1).ss 0).v),(7,iv i),(8,iv k)],[fs true gl ((G5 1).ss 0),fs false e r,fs false f t,fs false h x,fs false d A,fs false c p,fs false j B,fs false m C,fs false o D],[.blk ((G1 0).b) (ca (DSheet.mk q ⟨e,r⟩ ⟨f,t⟩ ⟨h,x⟩ ⟨d,A⟩ ⟨c,p⟩ ⟨j,B⟩ ⟨m,C⟩ ⟨o,D⟩)) 31]⟩) (fun k=>(i+1≤k)) (fun k=>((gl.length:Int)-k).toNat) (i+1) [0,1,2,3,4,5,6,7,8] ?_ ?_
  ··show i+1≤(i+1);omega
  rintro k hF2 kw16 Z2 hZ2;refine vG [.u 2,.ln (kG 0 gl ((G5 1).ss 0)),.u 1] fun aB=>?_;intro _ _;refine vd (k < (gl.length:Int)) (fun aC=>?_) fun aD=>?_
  ·refine nm (gl.getD k.toNat default:Int) fun v2 Q=>nm (gl.getD i.toNat default:Int) fun v3 aj=>nm ((decide (v2 < v3)) && ((Zo.rw_ gg v2).all (fun y:Int=>decide (y ∈ gl.take (max 0 (min i (gl.length:Int))).toNat))):Bool) fun p7 ad=>?_;have aE:=(Zo.ord_at (G:=gg) (i:=k) (v:=v2) (by omega) (by rw [←w];omega) (by rw [←w];exact Q)).1
   refine vG [.u 2,.iX (kG 0 gl ((G5 1).ss 0)) k,.lE (kG 0 gl ((G5 1).ss 0)) k false v2 Q false,.u 2,.iX (kG 0 gl ((G5 1).ss 0)) i,.lE (kG 0 gl ((G5 1).ss 0)) i false v3 aj false,.u 2,.l 0,.u 2,.ix (gT (b:=decide (v2 < v3)) iDT) (kG 0 gl ((G5 1).ss 0)) k (fun hg=>⟨by omega,by omega⟩),.le (gT (b:=decide (v2 < v3)) iDT) (kG 0 gl ((G5 1).ss 0)) k none false v2 Q (fun hg=>⟨by omega,by omega⟩) false (fun _=>[iv v2]),.ct (gT (b:=decide (v2 < v3)) iDT) 15 16 false [] [] [kA 1 e r,kA 2 f t,kA 3 h x,kA 4 d A,kA 5 c p,kA 6 j B,kA 7 m C,kA 8 o D] (fun hg G=>ond_s q e r f t h x d A c p j B m C o D v2 gg hS hL h7 hs H ⟨by omega,by omega⟩),.u 2,.cp (gT (b:=decide (v2 < v3)) iDT) 18 22 [(kf true (.g 15 0) (Zo.rw_ gg v2) (fun G=>(G 15).ss 0)).a,kB 0 gl ((G5 1).ss 0)] (fun hg G=>lst_ct (Zo.rw_ gg v2) ((G 15).ss 0) gl ((G5 1).ss 0) i),.andn g0 false (decide (v2 < v3)) ((Zo.rw_ gg v2).all (fun y:Int=>decide (y ∈ gl.take (max 0 (min i (gl.length:Int))).toNat))) p7 ad] fun aF=>?_;intro _ _
   refine V.cn (b:=p7) (iN ad (iAT iDT Iff.rfl)) (iN ad (iAF iDF Iff.rfl)) (fun X=>?_) (fun aG=>?_)
   ·exfalso;rw [show max 0 (min i (gl.length:Int))=i by omega] at X;have h2:=Zo.ord_later (G:=gg) (i:=i) (k:=k) (by omega) (by omega) (by rw [←w];omega) (by rw [←w];exact aj) (by rw [←w];exact Q) X.1;rw [←w] at h2;rw [h2] at X;exact Bool.false_ne_true X.2
   refine vG [.u 1,.aa (k+1),.u 1] fun aH=>?_;intro _ _
   refine V.rn hZ2 (k+1) [0,1,2,3,4,5,6,7,8] ?_ ?_
   ··show i+1≤(k+1);omega
   omega
  refine vG [.u 1,.aa (i+1),.u 1] fun aI=>?_;intro _ _
  refine V.rn hZ1 (i+1) [0,1,2,3,4,5,6,7,8] ?_ ?_
  ·refine ⟨by omega,by omega⟩
  omega
 refine vG [.kb true,.kb true] fun aJ=>?_;intro _ _
 exact V.rS [0] [] [] [] [] []
end Kb
