/- Texts for the claim, put together: the calculus of regions, its rules, and contracts of the functions that the law reaches. -/
import Derived.Test.YtjjblfbofinlkaaGreatZBwg
import Derived.Test.YtjjblfbofinlkaaGreatZB0234a
import Derived.Test.YtjjblfbofinlkaaGreatZB1234a
import Derived.Test.YtjjblfbofinlkaaGreatZB034a
import Derived.Test.YtjjblfbofinlkaaGreatZB234a
import Derived.Test.YtjjblfbofinlkaaGreatZB04a
import Derived.Test.YtjjblfbofinlkaaGreatZB24a
import Derived.Test.YtjjblfbofinlkaaGreatZB34a
set_option linter.all false
set_option maxRecDepth 10000
namespace Kb
open Go
namespace Zl
open Fx Sx Zc Zd Zo
theorem Mr.rdy {G G':List (List Int)} (h:Mr G G') {b:List Int} {i:Int} (h0:0≤i) (hi:i < (G.length:Int)):Rdy G' b i↔Rdy G b i:=by
 unfold Rdy;rw [h.row i h0 hi,h.len];constructor
 ·rintro ⟨_,h2,h3⟩;exact ⟨⟨h0,hi⟩,h2,h3⟩
 ·rintro ⟨_,h2,h3⟩;exact ⟨by omega,h2,h3⟩
theorem Mr.beg {G G':List (List Int)} (h:Mr G G') {b:List Int} (hb:Beg G b):Beg G' b:=fun k hk=>by
 have hr:=hb.rdy hk;have h2:=hb k hk;refine ⟨next_some ((h.rdy hr.1.1 hr.1.2).2 hr) fun i hi=>?_,h2.2⟩;have d:=hi.1;rw [h.len] at d;by_cases e:i < (G.length:Int)
 ·exact hb.min hk ((h.rdy d.1 e).1 hi)
 ·have:=hr.1.2;omega
theorem beg_gr {G:List (List Int)}:∀ (b:List Int) (f:Nat),Beg G b→gr G (b.length+f) []=gr G f b:=fun b f hb=>by
 have d:∀ k,k≤b.length→gr G (b.length+f) []=gr G (b.length - k+f) (b.take k):=fun k=>by
  induction k with
  | zero=>intro _;simp
  | succ k ih =>
   intro hk;rw [ih (by omega)];obtain ⟨h1,h2⟩:=hb k (by omega);rw [show b.length - k+f=(b.length - (k+1)+f)+1 by omega,gr,h1,if_neg (by omega)]
   congr 1
   rw [List.take_add_one,List.getElem?_eq_getElem (show k < b.length by omega),List.getD_eq_getElem?_getD,List.getElem?_eq_getElem (show k < b.length by omega)];rfl
 have:=d b.length (Nat.le_refl _)
 rw [Nat.sub_self,Nat.zero_add,List.take_length] at this;exact this
theorem Mr.ord {G G':List (List Int)} (hG:InR G) (b:InR G') (h:Mr G G'):(Zo.ordN G'=0↔Zo.ordN G=0∧(G.length:Int) ∉ rw_ G' (G.length:Int))∧(Zo.ordN G'=0→Zo.ordL G'=Zo.ordL G ++[(G.length:Int)]):=by
 have hb:=h.beg (ord_beg G);have j:Zo.cycle G'=[]→Zo.cycle G=[]:=fun hc=>(cycle_none hG).2 fun m i h0 hi hm hw=>(cycle_none b).1 hc m i h0 (by rw [h.len];omega) (by rw [h.len];omega) (h.W hG _ i i h0 hi hw)
 rcases ordN_is hG with ⟨h1,h2,h3,h4⟩ | ⟨h1,h2,h3⟩
 ·have hf:∀ i:Int,0≤i→i < (G.length:Int)→i ∈ Zo.ord G:=ord_full (by omega);have ho:Zo.ord G'=gr G' 1 (Zo.ord G):=by
   have:=beg_gr (Zo.ord G) 1 hb
   rw [h4,← h.len] at this;exact this
  have d:∀ i,Rdy G' (Zo.ord G) i↔i=(G.length:Int)∧(G.length:Int) ∉ rw_ G' (G.length:Int):=fun i=>by
   constructor
   ·rintro ⟨⟨a1,a2⟩,a3,a4⟩;rw [h.len] at a2;have hi:i=(G.length:Int):=by
     refine Classical.byContradiction fun o=>a3 (hf i a1 (by omega))
    subst hi;exact ⟨rfl,fun f=>a3 (a4 _ f)⟩
   ·rintro ⟨rfl,hs⟩;refine ⟨by rw [h.len];omega,fun f=>?_,fun y hy=>?_⟩
    ·have:=(ord_beg G).rng _ f;omega
    ·have hr:=b.at hy;rw [h.len] at hr;refine hf y hr.1 ?_
     have:y≠(G.length:Int):=fun e=>hs (e ▸ hy)
     omega
  by_cases hs:(G.length:Int) ∈ rw_ G' (G.length:Int)
  ·have hn:next G' (Zo.ord G) < 0:=next_none.2 fun i hi=>((d i).1 hi).2 hs
   have e:Zo.ord G'=Zo.ord G:=by rw [ho,gr,if_pos hn]
   have h5:Zo.ordN G'≠0:=fun h0=>by
    rcases ordN_is b with ⟨_,_,_,h6⟩ | ⟨h6,_⟩
    ·rw [e,h.len] at h6;omega
    ·rw [h0] at h6;cases h6
   exact ⟨⟨fun h0=>absurd h0 h5,fun h0=>absurd hs h0.2⟩,fun h0=>absurd h0 h5⟩
  ·have hn:next G' (Zo.ord G)=(G.length:Int):=next_some ((d _).2 ⟨rfl,hs⟩) fun i hi=>by rw [((d i).1 hi).1];exact Int.le_refl _
   have e:Zo.ord G'=Zo.ord G ++[(G.length:Int)]:=by rw [ho,gr,hn,if_neg (by omega)];rfl
   rcases ordN_is b with ⟨h5,_,h6,_⟩ | ⟨h5,h6,_⟩
   ·exact ⟨⟨fun _=>⟨h1,hs⟩,fun _=>h5⟩,fun _=>by rw [h6,h3,e]⟩
   ·exact absurd ((ord_cycle b).1 (by rw [e,List.length_append,h4,h.len];simp)) h6
 ·have h5:Zo.ordN G'≠0:=fun h0=>by
   rcases ordN_is b with ⟨_,h6,_⟩ | ⟨h6,_⟩
   ·exact h2 (j h6)
   ·rw [h0] at h6;cases h6
  exact ⟨⟨fun h0=>absurd h0 h5,fun h0=>by rw [h1] at h0;exact absurd h0.1 (by decide)⟩,fun h0=>absurd h0 h5⟩
theorem app_mr {F:List FE} {C:List CE} {c:CE} (hn:((C ++[c]).map (·.1)).Nodup) (hx:∀ x ∈ C,Zu.nmd c.1 (xpd F x.2.2).1=false):Mr (grE F C) (grE F (C ++[c])):=by
 refine ⟨by rw [grE_len,grE_len];simp,fun i h0 hi=>?_⟩;rw [grE_len] at hi;have b:(C.map (·.1)).Nodup:=by rw [List.map_append] at hn;exact (List.nodup_append.1 hn).1
 have d:(C ++[c]).getD i.toNat default=C.getD i.toNat default:=by
  rw [List.getD_eq_getElem?_getD,List.getElem?_append_left (by omega),← List.getD_eq_getElem?_getD]
 show (grE F (C ++[c])).getD i.toNat []=(grE F C).getD i.toNat [];rw [grE_at F (show i.toNat < (C ++[c]).length by simp;omega),grE_at F (show i.toNat < C.length by omega),row_names hn,row_names b,d,List.length_append,List.length_singleton,List.range_succ,List.map_append,List.filter_append];have e1:((List.range C.length).map Int.ofNat).filter (fun j=>Zu.nmd ((C ++[c]).getD j.toNat default).1 (xpd F (C.getD i.toNat default).2.2).1)=((List.range C.length).map Int.ofNat).filter (fun j=>Zu.nmd (C.getD j.toNat default).1 (xpd F (C.getD i.toNat default).2.2).1):=by
  refine List.filter_congr fun j hj=>?_;obtain ⟨k,hk,rfl⟩:=List.mem_map.1 hj
  have hk:=List.mem_range.1 hk;show Zu.nmd ((C ++[c]).getD k default).1 _=Zu.nmd (C.getD k default).1 _;rw [List.getD_eq_getElem?_getD,List.getElem?_append_left hk,← List.getD_eq_getElem?_getD]
 have e2:(C ++[c]).getD C.length default=c:=by
  rw [List.getD_eq_getElem?_getD,List.getElem?_append_right (Nat.le_refl _),Nat.sub_self];rfl
 rw [e1];have e3:([C.length].map Int.ofNat).filter (fun j=>Zu.nmd ((C ++[c]).getD j.toNat default).1 (xpd F (C.getD i.toNat default).2.2).1)=[]:=by
  rw [List.filter_eq_nil_iff];intro a ha
  have:a=Int.ofNat C.length:=by simpa using ha
  subst this;show ¬ Zu.nmd ((C ++[c]).getD C.length default).1 _=true;rw [e2,hx _ (getD_in (show i.toNat < C.length by omega))];simp
 rw [e3,List.append_nil]
end Zl

open Go
namespace Zl
open Fx Sx Zc Zd Zo
def noN (s:ByteArray) (w:WE):Prop:=w.full=false→Zu.nmd s w.x=false
theorem nmd_mk {s:ByteArray} {o n:Int} {u m:ByteArray} {l:List Ex}:Zu.nmd s (.mk o n u m l)=((decide (o=1) && decide (m=s)) || l.any (Zu.nmd s)):=by
 unfold Zu.nmd;rw [anyN,anyNL_any];rfl
theorem joinL_noN {s:ByteArray} {o n:Int} {u m:ByteArray} (ho:¬ (o=1∧m=s)):∀ (l:List WE) (acc:List Ex) (a v:Int),(∀ y ∈ l,noN s y)→(∀ y ∈ acc,Zu.nmd s y=false)→noN s (joinL o n u m acc a v l)
 | [],acc,a,v,_,h=>fun _=>by
  rw [joinL];show Zu.nmd s (.mk o n u m acc)=false;rw [nmd_mk,Bool.or_eq_false_iff];refine ⟨?_,List.any_eq_false.2 fun y hy=>by rw [h y hy];simp⟩;by_cases h1:o=1
  ·rw [decide_eq_false fun h2:m=s=>ho ⟨h1,h2⟩,Bool.and_false]
  ·rw [decide_eq_false h1,Bool.false_and]
 | y :: l,acc,a,v,h,ha=>by
  rw [joinL];split
  ·intro hf;cases hf
  ·rename_i hc
   have hy:y.full=false:=by
    cases hf:y.full with
    | false=>rfl
    | true=>exact absurd (.inl (.inl hf)) hc
   refine joinL_noN ho l _ _ _ (fun z hz=>h z (List.mem_cons_of_mem _ hz)) fun z hz=>?_;rcases List.mem_append.1 hz with hz | hz
   ·exact ha z hz
   ·rw [List.mem_singleton.1 hz];exact h y (List.mem_cons_self ..) hy
theorem noN_default (s:ByteArray):noN s default:=fun _=>rfl
mutual
theorem growT_noN {s:ByteArray} (F:List FE) (bd:Nat→WE):∀ x:Ex,Zu.nmd s x=false→noN s (growT F bd x)
 | .mk o n u m l,h=>by
  rw [nmd_mk,Bool.or_eq_false_iff] at h;have hl:=growL_noN (s:=s) F bd l fun y hy=>by
   have:=List.any_eq_false.1 h.2 y hy
   exact Zu.not_true this
  rw [growT];split
  ·split
   ·intro hf;cases hf
   ·exact putE_all hl (noN_default s) (fun o n u m l ho h=>joinL_noN (fun h1=>ho h1.1) l _ _ _ h (fun y hy=>by cases hy)) _
  ·refine joinL_noN (fun h1=>?_) _ _ _ _ hl (fun y hy=>by cases hy);have h2:=h.1;rw [decide_eq_true h1.1,decide_eq_true h1.2] at h2;cases h2
theorem growL_noN {s:ByteArray} (F:List FE) (bd:Nat→WE):∀ l:List Ex,(∀ y ∈ l,Zu.nmd s y=false)→∀ y ∈ growL F bd l,noN s y
 | [],_,y,hy=>by rw [growL] at hy;cases hy
 | x :: l,h,y,hy=>by
  rw [growL] at hy;rcases List.mem_cons.1 hy with rfl | hy
  ·exact growT_noN F bd x (h x (List.mem_cons_self ..))
  ·exact growL_noN F bd l (fun y hy=>h y (List.mem_cons_of_mem _ hy)) y hy
end
theorem xpd_noN {F:List FE} {x:Ex} {s:ByteArray} (hs:Zu.nmd s x=false):Zu.nmd s (xpd F x).1=false:=by
 by_cases h:(xpd F x).2=0
 ·obtain ⟨_,h2,h3⟩:=xpd_ok h;rw [h3];exact growT_noN F _ x hs h2
 ·have:(xpd F x).1=z0:=by
   unfold xpd at h ⊢;split
   ·rfl
   ·split
    ·rfl
    ·split
     ·rfl
     ·split
      ·rfl
      ·rename_i a b c d
       rw [if_neg a,if_neg b,if_neg c,if_neg d] at h;exact absurd rfl h
  rw [this];rfl
section
variable {nm : ByteArray} {a : List DImport} {b : List DInput} {t : List DTable} {f : List DFunc} {c : List DCell} {p : List DPort} {d : List DStore} {r : List DRecipe}
theorem more {x:DCell} {c':List DCell} (hc:c'=c ++[x]) (h:snd nm a b t f c p d r) (h':snd nm a b t f c' p d r) (hx:∀ y ∈ c,Zu.nmd x.Name (er y.Def)=false):Mr (grf (f.map fe) c) (grf (f.map fe) c'):=by
 subst hc;have hn:=(((snd_iff ..).1 h').1.1.names).2;rw [grf_is,grf_is,List.map_append];rw [List.map_append] at hn;exact app_mr hn fun y hy=>by
  obtain ⟨z,hz,rfl⟩:=List.mem_map.1 hy;exact xpd_noN (hx z hz)
end
end Zl

open Go
namespace Zv
open Fx Sx
section
variable {nm : ByteArray} {a : List DImport} {b : List DInput} {t : List DTable} {f : List DFunc} {c : List DCell} {p : List DPort} {d : List DStore} {r : List DRecipe} {s1 s2 s3 s4 s5 s6 s7 s8 : SV}
theorem len1 (h:bkSheet (DSheet.mk nm ⟨a,s1⟩ ⟨b,s2⟩ ⟨t,s3⟩ ⟨f,s4⟩ ⟨c,s5⟩ ⟨p,s6⟩ ⟨d,s7⟩ ⟨r,s8⟩)≤1048576):(a.length:Int)+b.length+t.length+f.length+c.length+p.length+d.length+r.length≤99999999:=by
 simp only [bkSheet,bkF,bkT] at h;have h1:=len_sum (bk:=bkImport) (fun x=>by simp only [bkImport];omega) a;have h2:=len_sum (bk:=bkInput) (fun x=>by simp only [bkInput];omega) b;have h3:=len_sum (bk:=bkTable) (fun x=>by simp only [bkTable];omega) t;have h4:=len_sum (bk:=bkFunc) (fun x=>by simp only [bkFunc];omega) f;have h5:=len_sum (bk:=bkCell) (fun x=>by simp only [bkCell];omega) c;have h6:=len_sum (bk:=bkPort) (fun x=>by simp only [bkPort];omega) p;have h7:=len_sum (bk:=bkStore) (fun x=>by simp only [bkStore];omega) d;have h8:=len_sum (bk:=bkRecipe) (fun x=>by simp only [bkRecipe];omega) r;omega
end
theorem celB {n u:ByteArray} {e:DExpr} (h:bkCell (DCell.mk n u e)≤1048576):tx n∧tx u∧sm (er e):=by
 simp only [bkCell,bkT,bkI] at h;exact ⟨by show n.size≤_;omega,by show u.size≤_;omega,sm_of _ (by unfold bkE at h;omega)⟩
end Zv
namespace Zl
theorem more_step {gl:List Int} {n i v:Int} (h0:0≤i) (hi:i < ((gl ++[n]).length:Int)) (hv:v=(gl ++[n]).getD i.toNat default) (b:∀ x ∈ gl,x≠n):(¬v=n→gl.take i.toNat ++[v]=gl.take (i+1).toNat)∧(v=n→gl.take i.toNat=gl.take (i+1).toNat):=by
 rw [List.length_append,List.length_singleton] at hi;by_cases hc:i.toNat < gl.length
 ·have e:v=gl[i.toNat]:=by rw [hv,List.getD_eq_getElem?_getD,List.getElem?_append_left hc,List.getElem?_eq_getElem hc];rfl
  refine ⟨fun _=>?_,fun h=>absurd h (b v (by rw [e];exact List.getElem_mem hc))⟩;rw [show (i+1).toNat=i.toNat+1 by omega,List.take_add_one,List.getElem?_eq_getElem hc,e];rfl
 ·have e:v=n:=by rw [hv,List.getD_eq_getElem?_getD,List.getElem?_append_right (by omega),show i.toNat - gl.length=0 by omega];rfl
  exact ⟨fun h=>absurd e h,fun _=>by rw [List.take_of_length_le (by omega),List.take_of_length_le (by omega)]⟩
theorem ord_lt {G:List (List Int)} {l:List Int} {n:Int} (hl:l=Zo.ord G) (hn:(G.length:Int)=n):∀ x ∈ l,x≠n:=fun x hx=>by
 obtain ⟨j,hj,e⟩:=List.mem_iff_getElem.1 hx
 have:=(Zo.ord_at (G:=G) (i:=(j:Int)) (v:=x) (by omega) (by rw [←hl];omega) (by rw [←hl,Int.toNat_natCast,List.getD_eq_getElem?_getD,List.getElem?_eq_getElem hj,Option.getD_some,e])).1
 omega
end Zl

open Go Go.Proofs
theorem lmr_ct (r:BA) (f:List DImport) (A:SV) (k:List DInput) (B:SV) (m:List DTable) (C:SV) (d:List DFunc) (D:SV) (c:List DCell) (J:SV) (o:List DPort) (E:SV) (p:List DStore) (F:SV) (q:List DRecipe) (I:SV) (K L:BA) (t:DExpr) (hS:Sx.Sml r f k m d c o p q) (aY:(f.length:Int)+k.length+m.length+d.length+c.length+o.length+p.length+q.length≤99999999) (hC:Sx.tx K∧Sx.tx L∧Fx.sm (er t)) :
  Cp Tryz.prog 7 #[ag (DSheet.mk r ⟨f,A⟩ ⟨k,B⟩ ⟨m,C⟩ ⟨d,D⟩ ⟨c,J⟩ ⟨o,E⟩ ⟨p,F⟩ ⟨q,I⟩),ag (DCell.mk K L t)] [fs true f A,fs true k B,fs true m C,fs true d D,fs true c J,fs true o E,fs true p F,fs true q I,fs true t.Args.l t.Args.s] (bv true):=by
 refine vf mo Tryz.func7 140 5 fun k0=>?_;obtain ⟨aZ, -⟩:Lq f A.v:=kj k0 0
 obtain ⟨a0, -⟩:Lq k B.v:=kj k0 1;obtain ⟨a1, -⟩:Lq m C.v:=kj k0 2;obtain ⟨a2, -⟩:Lq d D.v:=kj k0 3;obtain ⟨a3, -⟩:Lq c J.v:=kj k0 4;obtain ⟨a4, -⟩:Lq o E.v:=kj k0 5;obtain ⟨a5, -⟩:Lq p F.v:=kj k0 6;obtain ⟨a6, -⟩:Lq q I.v:=kj k0 7;refine vG [.n 0,.n 1,.kb false] fun G1=>?_;intro _ _;have hL:(f.length:Int)+k.length+m.length+d.length+c.length+o.length+p.length+q.length≤100000000:=by omega
 refine vG [.cP 0 9 [] fun G=>lsm_ct ,.kb true] fun G2=>?_;intro _ _
 refine vG [.l 0,.n 2,.s 2] fun G3=>?_;intro _ _
 refine nm (([]:List DCell) ++c:List DCell) fun l1 an=>?_;have aE:=congrArg List.length an;try simp at aE
 refine nm (l1 ++([DCell.mk K L t]:List DCell):List DCell) fun l2 ao=>?_;have aF:=congrArg List.length ao;try simp at aF
 refine vG [.nl 0 3 true 52 ([]:List DCell) [] (fun _ _ h=>(List.forall_mem_nil _)) (fun _=>#[]),.u 1,.l 0,.ap 3 3 52 104 false true ([]:List DCell) (fun G=>⟨atB (G 0).b,0,0⟩) (kF 4 c J) false l1 an (by first | omega | (simp;omega) | simp) (fun h=>by cases h) (.inl fun h=>by cases h),.l 1,.nr 5 false 52 ([DCell.mk K L t]:List DCell) [kA 8 t.Args.l t.Args.s] (fun _ _ h=>(List.forall_mem_cons.2 ⟨(exG.2 h.1),(List.forall_mem_nil _)⟩)) (fun _=>#[tv K,tv L,iv t.Op,iv t.N,tv t.Unit,tv t.Name,t.Args.s.v]),.ap 6 3 52 104 false false l1 (fun G=>(G 3).s) (kf false (.g 5 0) ([DCell.mk K L t]:List DCell) (fun G=>⟨atB (G 5).b,1,1⟩)) false l2 ao (by first | omega | (simp;omega) | simp) (fun h=>by cases h) (.inl fun h=>by cases h),.u 1,.s 2] fun G4=>?_;intro _ _
 refine nm ((!(Zu.few21 r f k m d c o p q)) || (decide (6 < (c.length:Int))):Bool) fun p1 X=>nm (p1 || (!(Zu.fw (er t) (60:Int) (12:Int))):Bool) fun p2 Z=>nm (p2 || (!(Zu.few20 r f k m d l2 o p q)):Bool) fun p3 ab=>nm (p3 || (!(decide (Zo.snd r f k m d c o p q))):Bool) fun p4 ae=>nm (p4 || (!(decide (Zo.snd r f k m d l2 o p q))):Bool) fun p5 aq=>?_;have aG:l2=c ++[DCell.mk K L t]:=by rw [ao,an,List.nil_append]
 have au:Sx.Sml r f k m d l2 o p q:={ hS with cel:=fun x hx=>by rw [aG] at hx;rcases List.mem_append.1 hx with h | h;exact hS.cel x h;rw [List.mem_singleton.1 h];exact hC };refine vG [.l 0,.cP 1 10 [kA 0 f A,kA 1 k B,kA 2 m C,kA 3 d D,kA 4 c J,kA 5 o E,kA 6 p F,kA 7 q I] fun G=>rfw21_ct r f A k B m C d D c J o E p F q I (by omega),.u 3,.l 0,.ln (kF 4 c J),.u 1,.orn g0 false (!(Zu.few21 r f k m d c o p q)) (decide (6 < (c.length:Int))) p1 X,.u 2,.l 1,.cp (gF (b:=p1) (iN X (iOF (iNF Iff.rfl) iDF))) 12 27 [kA 8 t.Args.l t.Args.s] (fun hg G=>rfew_ct t (60:Int) (12:Int) (by omega) (by omega)),.u 1,.orn g0 false p1 (!(Zu.fw (er t) (60:Int) (12:Int))) p2 Z,.u 1,.l 2,.cp (gF (b:=p2) (iN Z (iOF (iN X (iOF (iNF Iff.rfl) iDF)) (iNF Iff.rfl)))) 17 28 [kA 0 f A,kA 1 k B,kA 2 m C,kA 3 d D,(ko false 52 3 l2 (fun _=>(G4 6).s)).a,kA 5 o E,kA 6 p F,kA 7 q I] (fun hg G=>rfw20_ct r f A k B m C d D l2 ((G4 6).s) o E p F q I (by omega)),.u 1,.orn g0 false p2 (!(Zu.few20 r f k m d l2 o p q)) p3 ab,.u 1,.l 0,.cp (gF (b:=p3) (iN ab (iOF (iN Z (iOF (iN X (iOF (iNF Iff.rfl) iDF)) (iNF Iff.rfl))) (iNF Iff.rfl)))) 22 13 [kA 0 f A,kA 1 k B,kA 2 m C,kA 3 d D,kA 4 c J,kA 5 o E,kA 6 p F,kA 7 q I] (fun hg G=>oso_ct r f A k B m C d D c J o E p F q I hS (by omega)),.u 1,.orn g0 false p3 (!(decide (Zo.snd r f k m d c o p q))) p4 ae,.u 1,.l 2,.cp (gF (b:=p4) (iN ae (iOF (iN ab (iOF (iN Z (iOF (iN X (iOF (iNF Iff.rfl) iDF)) (iNF Iff.rfl))) (iNF Iff.rfl))) (iNF iDT)))) 27 13 [kA 0 f A,kA 1 k B,kA 2 m C,kA 3 d D,(ko false 52 3 l2 (fun _=>(G4 6).s)).a,kA 5 o E,kA 6 p F,kA 7 q I] (fun hg G=>oso_ct r f A k B m C d D l2 ((G4 6).s) o E p F q I au (by omega)),.u 1,.orn g0 false p4 (!(decide (Zo.snd r f k m d l2 o p q))) p5 aq] fun G5=>?_;intro _ _
 refine V.cn (b:=p5) (iN aq (iOT (iN ae (iOT (iN ab (iOT (iN Z (iOT (iN X (iOT (iNT Iff.rfl) iDT)) (iNT Iff.rfl))) (iNT Iff.rfl))) (iNT iDF))) (iNT iDF))) (iN aq (iOF (iN ae (iOF (iN ab (iOF (iN Z (iOF (iN X (iOF (iNF Iff.rfl) iDF)) (iNF Iff.rfl))) (iNF Iff.rfl))) (iNF iDT))) (iNF iDT))) (fun q1=>?_) (fun q2=>?_)
 ·refine vG [.kb true,.kb true] fun G6=>?_;intro _ _
  exact V.rS [0] [] [] [] [] []
 have hF:Zu.few21 r f k m d c o p q=true:=by grind
 have hs:(Zo.snd r f k m d c o p q):=by grind
 have h7:(c.length:Int)≤7:=by unfold Zu.few21 at hF;simp only [Bool.and_eq_true,decide_eq_true_eq] at hF;exact hF.1.1.1.2
 obtain ⟨gg,af⟩:∃ z:List (List Int),z=(Zo.grf (d.map Zc.fe) c):=⟨_,rfl⟩;have hG:Zo.InR gg:=by rw [af];exact Zo.grf_in
 have av:gg.length=c.length:=by rw [af,Zo.grf_len]
 obtain ⟨gl,aw⟩:∃ z:List Int,z=Zo.ordL gg:=⟨_,rfl⟩;obtain ⟨gn,ax⟩:∃ z:Int,z=Zo.ordN gg:=⟨_,rfl⟩;obtain ⟨gc,aO⟩:∃ z:List Int,z=Zo.cycle gg:=⟨_,rfl⟩;have ay:(Zo.snd r f k m d l2 o p q):=by grind
 have h6:(c.length:Int)≤6:=by omega
 refine vG [.u 1] fun G7=>?_;intro _ _
 refine V.lp (γ:=Int) (fun i=>⟨[(2,pp ((G1 0).b) 0),(3,pp ((G1 1).b) 0),(5,bv true),(6,pp ((G3 1).b) 0),(7,iv i)],[fs false f A,fs false k B,fs false m C,fs false d D,fs false c J,fs false o E,fs false p F,fs false q I,fs false t.Args.l t.Args.s],[.blk ((G1 0).b) (ca (DSheet.mk r ⟨f,A⟩ ⟨k,B⟩ ⟨m,C⟩ ⟨d,D⟩ ⟨c,J⟩ ⟨o,E⟩ ⟨p,F⟩ ⟨q,I⟩)) 31,.blk ((G1 1).b) (ca (DCell.mk K L t)) 52,.blk ((G3 1).b) (ca (DSheet.mk r ⟨f,A⟩ ⟨k,B⟩ ⟨m,C⟩ ⟨d,D⟩ ⟨l2,(G4 6).s⟩ ⟨o,E⟩ ⟨p,F⟩ ⟨q,I⟩)) 31,os false 52 l2 ((G4 6).s),.no]⟩) (fun i=>(0≤i)∧(i≤(c.length:Int))∧(∀ j,j < i.toNat→Zu.nmd K (er (c.getD j default).Def)=false)) (fun i=>((c.length:Int)-i).toNat) 0 [0,1,2,3,4,5,6,7,8] ?_ ?_
 ·refine ⟨by omega,by omega,?_⟩;show ∀ j,j < (0:Int).toNat→Zu.nmd K (er (c.getD j default).Def)=false;intro j hj;simp at hj
 rintro i hF1 kw8 Z1 hZ1;obtain ⟨a7,a8,aH⟩:=hF1;refine vG [.u 2,.l 0,.ln (kF 4 c J),.u 1] fun G8=>?_;intro _ _;refine vd (i < (c.length:Int)) (fun q3=>?_) fun q4=>?_
 ·refine nm (c.getD i.toNat default:DCell) fun x1 aI=>vG [.u 1,.l 0,.u 1,.iX (kF 4 c J) i,.u 1,.le g0 (kF 4 c J) i (some 2) true x1 aI (fun _=>⟨by omega,by omega⟩) true (fun _=>Dat.cells x1.Def),.u 1,.l 1,.cP 8 26 [(kx false (.g 5 0) x1 x1.Def.Args.l (fun _=>x1.Def.Args.s) (fun _ H (h:Dat.good H (x1:DCell))=>(exG.1 h))).a] fun G=>rnms_ct x1.Def K] fun G9=>?_;intro _ _
  refine vc (Zu.nmd K (er x1.Def)) (fun q5=>?_) fun q6=>?_
  ·refine vG [.kb true,.kb true] fun a9=>?_;intro _ _
   exact V.rS [0] [] [] [] [] []
  refine vG [.u 1,.aa (i+1),.u 1] fun ba=>?_;intro _ _
  refine V.rn hZ1 (i+1) [0,1,2,3,4,5,6,7,8] ?_ ?_
  ·refine ⟨by omega,by omega,?_⟩;show ∀ j,j < (i+1).toNat→Zu.nmd K (er (c.getD j default).Def)=false;intro j hj;rcases Nat.lt_or_ge j i.toNat with h | h;exact aH j (by omega);rw [show j=i.toNat by omega,← aI];assumption
  omega
 have aP:∀ y ∈ c,Zu.nmd K (er y.Def)=false:=fun y hy=>by obtain ⟨j,hj,e⟩:=List.mem_iff_getElem.1 hy;have:=aH j (by omega);rwa [List.getD_eq_getElem?_getD,List.getElem?_eq_getElem hj,Option.getD_some,e] at this
 obtain ⟨P,Y⟩:∃ z:List (List Int),z=Zo.grf (d.map Zc.fe) l2:=⟨_,rfl⟩;have az:=Zl.more aG hs ay aP;rw [←af,← Y] at az;have aQ:Zo.InR P:=by rw [Y];exact Zo.grf_in
 have aW:P.length=c.length+1:=by rw [az.len,av]
 obtain ⟨M,ak⟩:∃ z:List Int,z=Zo.ordL P:=⟨_,rfl⟩;obtain ⟨aA,al⟩:∃ z:Int,z=Zo.ordN P:=⟨_,rfl⟩;have ah:=az.ord hG aQ;rw [av,← ax,← al,← aw,← ak] at ah;refine vG [.l 0,.cA 1 11 [kA 0 f A,kA 1 k B,kA 2 m C,kA 3 d D,kA 4 c J,kA 5 o E,kA 6 p F,kA 7 q I] fun G=>oor_s r f A k B m C d D c J o E p F q I gg gl gn hS hL h7 hs af aw ax,.u 5] fun ac=>?_;intro _ _;refine vG [.l 2,.cA 1 11 [kA 0 f A,kA 1 k B,kA 2 m C,kA 3 d D,(ko false 52 3 l2 (fun _=>(G4 6).s)).a,kA 5 o E,kA 6 p F,kA 7 q I] fun G=>oor_s r f A k B m C d D l2 ((G4 6).s) o E p F q I P M aA au (by omega) (by omega) ay Y ak al,.u 5] fun Q=>?_;intro _ _;refine vG [.l 2,.u 1,.l 0,.ln (kF 4 c J),.cA 4 16 [kA 0 f A,kA 1 k B,kA 2 m C,kA 3 d D,(ko false 52 3 l2 (fun _=>(G4 6).s)).a,kA 5 o E,kA 6 p F,kA 7 q I] fun G=>ond_s r f A k B m C d D l2 ((G4 6).s) o E p F q I (c.length:Int) P au (by omega) (by omega) ay Y ⟨by omega,by omega⟩,.u 1,.l 0,.ln (kF 4 c J),.cP 8 21 [(kf true (.g 4 0) (Zo.rw_ P (c.length:Int)) (fun G=>(G 4).ss 0)).a] fun G=>rhas_ct (Zo.rw_ P (c.length:Int)) ((G 4).ss 0) (c.length:Int),.u 1] fun bb=>?_;intro _ _;refine nm ((decide (gn=0)) && (!(decide ((c.length:Int) ∈ (Zo.rw_ P (c.length:Int))))):Bool) fun p6 aB=>vG [.u 7,.andn g0 false (decide (gn=0)) (!(decide ((c.length:Int) ∈ (Zo.rw_ P (c.length:Int))))) p6 aB,.u 1] fun bc=>?_;intro _ _;refine V.cn (b:=!((decide (aA=0)) == p6)) (iNT (iQF iDT (iN aB (iAT iDT (iNT iDF))))) (iNF (iQT iDT (iN aB (iAT iDT (iNT iDF))))) (fun q7=>?_) (fun q8=>?_)
 ·exfalso;exact q7 ah.1
 refine vG [.u 2] fun be=>?_;intro _ _
 refine vn (aA=0) (fun q9=>?_) fun bf=>?_
 ·refine vG [.kb true,.kb true] fun bg=>?_;intro _ _
  exact V.rS [0] [] [] [] [] []
 have ad:M=gl ++[(c.length:Int)]:=ah.2 (by omega);have am:=congrArg List.length ad;rw [List.length_append,List.length_singleton] at am;have bh:=(ah.1.1 (by omega)).1;have aJ:=Zo.ordN_is hG;rw [←ax,← aw,← aO] at aJ;have aC:gl=Zo.ord gg∧(Zo.ord gg).length=gg.length:=by rcases aJ with ⟨_,h2,h3,h4⟩ | ⟨h1,_,_⟩;exact ⟨h3,h4⟩;exfalso;omega
 have bi:gl.length=c.length:=by rw [aC.1,aC.2,av]
 have aK:=Zl.ord_lt (n:=(c.length:Int)) aC.1 (by omega);refine vG [.nl 0 4 true 3 ([]:LI) [] (fun _ _ _ _ _=>trivial) (fun _=>#[]),.u 1] fun aS=>?_;intro _ _
 refine vG [.u 1] fun bj=>?_;intro _ _
 refine V.lp (γ:=List Int × SV × Int) (fun ⟨rest,rests,w⟩=>⟨[(2,pp ((G1 0).b) 0),(5,bv true),(8,((ac 1).ss 0).v),(10,((Q 1).ss 0).v),(13,rests.v),(14,iv w)],[fs true gl ((ac 1).ss 0),fs true M ((Q 1).ss 0),fs false f A,fs false k B,fs false m C,fs false d D,fs false c J,fs false o E,fs false p F,fs false q I],[.blk ((G1 0).b) (ca (DSheet.mk r ⟨f,A⟩ ⟨k,B⟩ ⟨m,C⟩ ⟨d,D⟩ ⟨c,J⟩ ⟨o,E⟩ ⟨p,F⟩ ⟨q,I⟩)) 31,.no,.no,os false 52 l2 ((G4 6).s),os true 3 rest rests]⟩) (fun ⟨rest,rests,w⟩=>(0≤w)∧(w≤(M.length:Int))∧(rest=gl.take w.toNat)) (fun ⟨rest,rests,w⟩=>((M.length:Int)-w).toNat) (([]:LI),⟨atB (aS 0).b,0,0⟩,0) [9,10,0,1,2,3,4,5,6,7] ?_ ?_
 ·refine ⟨by omega,by omega,?_⟩;show ([]:LI)=gl.take (0:Int).toNat;rfl
 rintro ⟨rest,rests,w⟩ hF2 kw21 Z2 hZ2;obtain ⟨bk,bm,ai⟩:=hF2;obtain ⟨aX, -⟩:Lq rest rests.v:=kj kw21 11;have aT:=congrArg List.length ai;rw [List.length_take] at aT;refine vG [.u 2,.ln (kG 1 M ((Q 1).ss 0)),.u 1] fun bn=>?_;intro _ _;refine vd (w < (M.length:Int)) (fun bp=>?_) fun bq=>?_
 ·refine nm (M.getD w.toNat default:Int) fun v1 aj=>vG [.u 2,.iX (kG 1 M ((Q 1).ss 0)) w,.lE (kG 1 M ((Q 1).ss 0)) w false v1 aj false,.u 1,.l 0,.ln (kF 6 c J),.u 1] fun br=>?_;intro _ _
  refine vn (v1=(c.length:Int)) (fun bs=>?_) fun bt=>?_
  ·refine nm (rest ++[v1]:LI) fun l3 aD=>?_;have aL:=congrArg List.length aD;try simp at aL
   refine vG [.u 3,.iX (kG 1 M ((Q 1).ss 0)) w,.lE (kG 1 M ((Q 1).ss 0)) w false v1 aj false,.nr 5 true 3 [v1] [] (fun _ _ _ _ _=>trivial) (fun _=>#[iv v1]),.ap 6 4 3 8 false true rest (fun _=>rests) (kf true (.g 5 0) [v1] (fun G=>⟨atB (G 5).b,1,1⟩)) true l3 aD (by first | omega | (simp;omega) | simp) (fun h=>by cases h) (.inr fun _ _=>trivial),.u 1] fun aU=>?_;intro _ _
   refine vG [.u 1,.aa (w+1),.u 1] fun bu=>?_;intro _ _
   refine V.rn hZ2 (l3,(aU 6).s,w+1) [0,1,2,3,4,5,6,7,8,9] ?_ ?_
   ·refine ⟨by omega,by omega,?_⟩;show l3=gl.take (w+1).toNat;rw [aD,ai];exact (Zl.more_step (v:=v1) (by omega) (by rw [←ad];omega) (by rw [←ad];exact aj) aK).1 (by assumption)
   dsimp only;omega
  refine vG [.u 1,.aa (w+1),.u 1] fun bw=>?_;intro _ _
  refine V.rn hZ2 (rest,rests,w+1) [0,1,2,3,4,5,6,7,8,9] ?_ ?_
  ·refine ⟨by omega,by omega,?_⟩;show rest=gl.take (w+1).toNat;rw [ai];exact (Zl.more_step (v:=v1) (by omega) (by rw [←ad];omega) (by rw [←ad];exact aj) aK).2 (by omega)
  dsimp only;omega
 have aV:rest=gl:=by rw [ai,List.take_of_length_le (by omega)]
 refine nm ((gl.length:Int)+1:Int) fun n1 aM=>nm ((decide (rest=gl)) && (decide ((M.length:Int)=n1)):Bool) fun p7 aN=>vG [.kb true,.kb true,.u 2,.cP 4 15 [(kO 3 4 rest rests).a,kB 0 gl ((ac 1).ss 0)] fun G=>rsam_ct rest rests gl ((ac 1).ss 0),.u 3,.ln (kG 1 M ((Q 1).ss 0)),.u 1,.ln (kG 0 gl ((ac 1).ss 0)),.arg (gT (b:=decide (rest=gl)) iDT) ((gl.length:Int)+1) n1 aM (fun hg=>by omega),.u 1,.andn g0 false (decide (rest=gl)) (decide ((M.length:Int)=n1)) p7 aN,.u 1] fun bx=>?_;intro _ _
 have e0:p7=true:=by rw [aN,aM];simp [aV,am]
 exact vb 0 [] e0
end Kb
