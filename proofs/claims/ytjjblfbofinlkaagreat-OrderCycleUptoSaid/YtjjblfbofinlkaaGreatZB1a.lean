/- Texts for the claim, put together: the calculus of regions, its rules, and contracts of the functions that the law reaches. -/
import Derived.Test.YtjjblfbofinlkaaGreatZBwg
import Derived.Test.YtjjblfbofinlkaaGreatZB0123a
import Derived.Test.YtjjblfbofinlkaaGreatZB1234a
set_option linter.all false
set_option maxRecDepth 10000
namespace Kb
open Go
namespace Zo
def adL (nx l:List Int):List Int:=l.foldl (fun nx y=>if y ∈ nx then nx else nx ++[y]) nx
def nxR (G:List (List Int)) (R:List Int):List Int:=R.foldl (fun nx r=>adL nx (rw_ G r)) []
def agn (G:List (List Int)) (c:Int):Nat→Int→List Int→Int
 | 0,_,_=>0
 | k+1,s,R=>if (R.any fun r=>decide (c ∈ rw_ G r))=true then s else agn G c k (s+1) (nxR G R)
def againV (G:List (List Int)) (c:Int):Int:=agn G c G.length 1 [c]
theorem Cs.snoc {G:List (List Int)} {l:List Int} {y:Int} (h:Cs G l) (hy:0≤y∧y < (G.length:Int)) (hn:y ∉ l):Cs G (l ++[y]):=by
 refine ⟨?_,fun x hx=>?_⟩
 ·rw [List.nodup_append];exact ⟨h.1,by simp,fun a ha b hb=>by rw [List.mem_singleton.1 hb];exact fun e=>hn (e ▸ ha)⟩
 ·rcases List.mem_append.1 hx with hx | hx
  ·exact h.2 x hx
  ·rw [List.mem_singleton.1 hx];exact hy
theorem adL_snoc (nx l:List Int) (y:Int):adL nx (l ++[y])=if y ∈ adL nx l then adL nx l else adL nx l ++[y]:=by
 unfold adL;rw [List.foldl_append];rfl
theorem nxR_snoc (G:List (List Int)) (R:List Int) (r:Int):nxR G (R ++[r])=adL (nxR G R) (rw_ G r):=by
 unfold nxR;rw [List.foldl_append];rfl
theorem mem_adL:∀ (l nx:List Int) (y:Int),y ∈ adL nx l↔y ∈ nx∨y ∈ l
 | [],nx,y=>by simp [adL]
 | x :: l,nx,y=>by
  show y ∈ adL (if x ∈ nx then nx else nx ++[x]) l↔_;rw [mem_adL l,List.mem_cons];split
  ·rename_i h
   constructor
   ·rintro (h | h)
    ·exact .inl h
    ·exact .inr (.inr h)
   ·rintro (h' | rfl | h')
    ·exact .inl h'
    ·exact .inl h
    ·exact .inr h'
  ·rw [List.mem_append,List.mem_singleton];constructor
   ·rintro ((h | h) | h)
    ·exact .inl h
    ·exact .inr (.inl h)
    ·exact .inr (.inr h)
   ·rintro (h | h | h)
    ·exact .inl (.inl h)
    ·exact .inl (.inr h)
    ·exact .inr h
theorem mem_nxR {G:List (List Int)} {y:Int}:∀ (R nx:List Int),y ∈ R.foldl (fun nx r=>adL nx (rw_ G r)) nx↔y ∈ nx∨∃ r ∈ R,y ∈ rw_ G r
 | [],nx=>by simp
 | r :: R,nx=>by
  rw [List.foldl_cons,mem_nxR R,mem_adL];constructor
  ·rintro ((h | h) | ⟨r',h1,h2⟩)
   ·exact .inl h
   ·exact .inr ⟨r,by simp,h⟩
   ·exact .inr ⟨r',by simp [h1],h2⟩
  ·rintro (h | ⟨r',h1,h2⟩)
   ·exact .inl (.inl h)
   ·rcases List.mem_cons.1 h1 with rfl | h1
    ·exact .inl (.inr h2)
    ·exact .inr ⟨r',h1,h2⟩
theorem agn_spec {G:List (List Int)} {c:Int}:∀ (k m:Nat) (R:List Int),(∀ r ∈ R,W G m c r)→agn G c k ((m:Int)+1) R=0∨∃ j:Nat,agn G c k ((m:Int)+1) R=(j:Int)+1∧j < m+k∧W G (j+1) c c
 | 0,m,R,h=>.inl rfl
 | k+1,m,R,h=>by
  rw [agn];split
  ·rename_i hh
   obtain ⟨r,hr,hc⟩:=List.any_eq_true.1 hh
   have:=(h r hr).app (show W G 1 r c from ⟨c,of_decide_eq_true hc,rfl⟩)
   exact .inr ⟨m,rfl,by omega,this⟩
  ·have h2:∀ y ∈ nxR G R,W G (m+1) c y:=fun y hy=>by
    rcases (mem_nxR R []).1 hy with hy | ⟨r,hr,hy⟩
    ·cases hy
    ·exact (h r hr).app (show W G 1 r y from ⟨y,hy,rfl⟩)
   have:=agn_spec k (m+1) (nxR G R) h2
   rw [show ((m:Int)+1+1)=(((m+1:Nat):Int)+1) by omega];rcases this with h3 | ⟨j,h3,h4,h5⟩
   ·exact .inl h3
   ·exact .inr ⟨j,h3,by omega,h5⟩
theorem againV_spec (G:List (List Int)) (c:Int):againV G c=0∨∃ j:Nat,againV G c=(j:Int)+1∧j+1≤G.length∧W G (j+1) c c:=by
 have:=agn_spec (G:=G) (c:=c) G.length 0 [c] fun r hr=>by rw [List.mem_singleton.1 hr];rfl
 rcases this with h | ⟨j,h1,h2,h3⟩
 ·exact .inl h
 ·exact .inr ⟨j,h1,by omega,h3⟩
theorem agn_hit {G:List (List Int)} {c s i k y:Int} {n:Nat} {R l:List Int} (b:0≤i) (hi:i < R.length) (hl:rw_ G (R.getD i.toNat default)=l) (d:0≤k) (hk:k < l.length) (hy:y=l.getD k.toNat default) (h:y=c):agn G c (n+1) s R=s:=by
 rw [agn,if_pos];refine List.any_eq_true.2 ⟨R.getD i.toNat default,getD_mem (by omega) rfl,decide_eq_true ?_⟩;rw [hl,← h,hy];exact getD_mem (by omega) rfl
theorem agn_miss {G:List (List Int)} {c s i:Int} {n:Nat} {R:List Int} (h:∀ j:Nat,j < i.toNat→c ∉ rw_ G (R.getD j default)) (hi:(R.length:Int)≤i):agn G c (n+1) s R=agn G c n (s+1) (nxR G R):=by
 rw [agn,if_neg];intro hh;obtain ⟨r,hr,hc⟩:=List.any_eq_true.1 hh;obtain ⟨j,hj,rfl⟩:=List.getElem_of_mem hr
 have:=h j (by omega)
 rw [List.getD_eq_getElem?_getD,List.getElem?_eq_getElem hj] at this;exact this (of_decide_eq_true hc)
theorem no_mem {l:List Int} {c k:Int} (h:∀ j:Nat,j < k.toNat→l.getD j default≠c) (hk:(l.length:Int)≤k):c ∉ l:=fun hm=>by
 obtain ⟨j,hj,e⟩:=List.getElem_of_mem hm;refine h j (by omega) ?_;rw [List.getD_eq_getElem?_getD,List.getElem?_eq_getElem hj,e];rfl
theorem cycle_sum {G:List (List Int)} (hG:InR G) {c:Int} (h0:0≤c) (hc:c < (G.length:Int)):0≤againV G c∧(0 < againV G c→cycle G≠[]∧((cycle G).length:Int)≤againV G c):=by
 rcases againV_spec G c with h | ⟨j,h1,h2,h3⟩
 ·omega
 ·refine ⟨by omega,fun _=>?_⟩;have b:cycle G≠[]:=fun e=>(cycle_none hG).1 e j c h0 hc h2 h3
  obtain ⟨i,_,hm,_⟩:=cycle_some hG b
  have:=hm j c h0 hc h2 h3
  exact ⟨b,by omega⟩
theorem cycle_at {G:List (List Int)} (hG:InR G) {i v v0:Int} (h0:0≤i) (hi:i < ((cycle G).length:Int)) (hv:v=(cycle G).getD i.toNat default) (d:v0=(cycle G).getD 0 default) :
  (0≤v∧v < (G.length:Int))∧v0≤v∧v ∉ (cycle G).take i.toNat∧(cycle G).getD ((i+1) % ((cycle G).length:Int)).toNat default ∈ rw_ G v:=by
 have f:cycle G≠[]:=fun e=>by rw [e] at hi;simp at hi;omega
 obtain ⟨a,hc,_,hm⟩:=cycle_some hG f;have e:(cycle G).getD i.toNat default=(cycle G).getD i.toNat 0:=rfl;have b:v ∈ cycle G:=by rw [hv,e];exact getD_mem0 (by omega)
 refine ⟨hc.rng v b,?_,fun h=>?_,?_⟩
 ·have:v0=a:=by rw [d];exact hc.fst
  rw [this];exact hm v b
 ·obtain ⟨k,h1,h2,h3⟩:=mem_take0.1 h;have hn:=List.pairwise_iff_getElem.1 hc.nd k i.toNat h2 (by omega) h1;rw [hv,e,List.getD_eq_getElem?_getD,List.getElem?_eq_getElem h2,List.getD_eq_getElem?_getD,List.getElem?_eq_getElem (show i.toNat < (cycle G).length by omega)] at h3;exact hn h3
 ·by_cases hl:i+1 < ((cycle G).length:Int)
  ·rw [Int.emod_eq_of_lt (by omega) hl,hv,show (i+1).toNat=i.toNat+1 by omega];exact hc.chn i.toNat (by omega)
  ·have:i+1=((cycle G).length:Int):=by omega
   rw [this,Int.emod_self,hv];have h3:=hc.back;rw [show (cycle G).length - 1=i.toNat by omega] at h3;have h4:=hc.fst;show (cycle G).getD 0 0 ∈ _;rw [h4];exact h3
theorem takeG {G:List (List Int)} {i:Int} {r:List Int} (h0:0≤i) (hi:i < (G.length:Int)) (hr:r=rw_ G i):G.take (i+1).toNat=G.take i.toNat ++[r]:=by
 rw [show (i+1).toNat=i.toNat+1 by omega,List.take_add_one,List.getElem?_eq_getElem (show i.toNat < G.length by omega),hr];show _=G.take i.toNat ++[G.getD i.toNat []];rw [List.getD_eq_getElem?_getD,List.getElem?_eq_getElem (show i.toNat < G.length by omega)];rfl
end Zo

open Go Go.Proofs
theorem lag_ct (needs:List (Fat Int)) (A:SV) (cell:Int) (hg:∀ x ∈ needs,∀ y ∈ x.l,0≤y∧y < (needs.length:Int)) (hc:0≤cell∧cell < (needs.length:Int)) (hn:needs.length≤1000) :
  Cp Tryz.prog 23 #[A.v,iv cell] [fs true needs A] (iv (Zo.againV (needs.map (·.l)) cell)):=by
 refine vf mo Tryz.func23 75 2 fun _=>?_
 have H:(needs.map (·.l)).length=needs.length:=List.length_map ..;refine vG [.u 1] fun G1=>?_;intro _ _
 refine vG [.u 1,.nl 1 0 true 3 [cell] [] (fun _ _ _ _ _=>trivial) (fun _=>#[iv cell]),.u 1] fun G2=>?_;intro _ _
 refine vG [.u 1] fun G3=>?_;intro _ _
 refine V.frz 0 true 3 [cell] ⟨atB (G2 1).b,1,1⟩ (by kernel_rfl) ?_;refine V.lp (γ:=List Int × SV × Int) (fun ⟨d,o,step⟩=>⟨[(0,A.v),(1,iv cell),(5,o.v),(6,iv step)],[fs false needs A,fs true d o],[.no,.no]⟩) (fun ⟨d,o,step⟩=>(1≤step∧step≤(needs.length:Int)+1)∧(Zo.agn (needs.map (·.l)) cell ((needs.length:Int)+1-step).toNat step d=Zo.againV (needs.map (·.l)) cell)∧(Zo.Cs (needs.map (·.l)) d)) (fun ⟨d,o,step⟩=>((needs.length:Int)+1-step).toNat) ([cell],⟨atB (G2 1).b,1,1⟩,1) [0,1] ?_ ?_
 ·refine ⟨?_,?_,?_⟩
  ·show 1≤(1:Int)∧(1:Int)≤(needs.length:Int)+1;omega
  ·show Zo.agn (needs.map (·.l)) cell ((needs.length:Int)+1-(1:Int)).toNat (1:Int) [cell]=Zo.againV (needs.map (·.l)) cell;unfold Zo.againV;rw [List.length_map];congr 1;omega
  show Zo.Cs (needs.map (·.l)) [cell];exact ⟨by simp,fun x hx=>by rw [List.mem_singleton.1 hx,H];omega⟩
 rintro ⟨d,o,step⟩ hF1 kw4 Z1 hZ1;obtain ⟨ax,P,ab⟩:=hF1;have aj:=ab.le;rw [H] at aj;refine vG [.u 2,.ln (kF 0 needs A),.u 1] fun G4=>?_;intro _ _;refine vd (step≤(needs.length:Int)) (fun q1=>?_) fun q2=>?_
 ·refine vG [.nl 0 1 true 3 ([]:LI) [] (fun _ _ _ _ _=>trivial) (fun _=>#[]),.u 1] fun G5=>?_;intro _ _
  refine vG [.u 1] fun G6=>?_;intro _ _
  refine V.lp (γ:=List Int × SV × Int) (fun ⟨next,B,i⟩=>⟨[(0,A.v),(1,iv cell),(5,o.v),(6,iv step),(7,B.v),(8,iv i)],[fs false needs A,fs true d o],[.no,os true 3 next B]⟩) (fun ⟨next,B,i⟩=>(0≤i)∧(i≤(d.length:Int))∧(next=Zo.nxR (needs.map (·.l)) (d.take i.toNat))∧(∀ j:Nat,j < i.toNat→cell ∉ Zo.rw_ (needs.map (·.l)) (d.getD j default))∧(Zo.Cs (needs.map (·.l)) next)∧(0≤i)) (fun ⟨next,B,i⟩=>((d.length:Int)-i).toNat) (([]:LI),⟨atB (G5 0).b,0,0⟩,0) [0,1] ?_ ?_
  ·refine ⟨by omega,by omega,?_,?_,?_,by omega⟩
   ·show ([]:LI)=Zo.nxR (needs.map (·.l)) (d.take (0:Int).toNat);rfl
   ·show ∀ j:Nat,j < (0:Int).toNat→cell ∉ Zo.rw_ (needs.map (·.l)) (d.getD j default);intro j hj;simp at hj
   show Zo.Cs (needs.map (·.l)) ([]:LI);exact Zo.Cs.nil _
  rintro ⟨next,B,i⟩ hF2 kw8 Z2 hZ2;obtain ⟨ay,az,ac,ad,ae,aA⟩:=hF2;refine vG [.u 2,.ln (kG 1 d o),.u 1] fun G7=>?_;intro _ _;refine vd (i < (d.length:Int)) (fun q3=>?_) fun q4=>?_
  ·refine nm (d.getD i.toNat default:Int) fun v1 D=>nm ((decide (v1 < 0)) || (decide ((needs.length:Int)≤v1)):Bool) fun p1 Q=>?_;have ak:=ab.2 _ (getD_mem (by omega) D);rw [H] at ak
   refine vG [.u 2,.iX (kG 1 d o) i,.lE (kG 1 d o) i false v1 D false,.u 4,.ix (gF (b:=decide (v1 < 0)) iDF) (kG 1 d o) i (fun hg=>⟨by omega,by omega⟩),.le (gF (b:=decide (v1 < 0)) iDF) (kG 1 d o) i none false v1 D (fun hg=>⟨by omega,by omega⟩) false (fun _=>[iv v1]),.u 1,.ln (kF 0 needs A),.u 1,.orn g0 false (decide (v1 < 0)) (decide ((needs.length:Int)≤v1)) p1 Q] fun G8=>?_;intro _ _
   refine V.cn (b:=p1) (iN Q (iOT iDT iDT)) (iN Q (iOF iDF iDF)) (fun q5=>?_) (fun q6=>?_)
   ·exfalso;omega
   refine nm (needs.getD v1.toNat default:Fat Int) fun x1 X=>vR [.u 3,.iX (kG 1 d o) i,.lE (kG 1 d o) i false v1 D false,.iX (kF 0 needs A) v1,.lE (kF 0 needs A) v1 true x1 X false,.u 1] fun G9 af=>?_;intro _ _
   obtain ⟨aB, -⟩:Lq x1.l x1.s.v:=kj af 0;have Y:Zo.rw_ (needs.map (·.l)) v1=x1.l:=by show List.getD _ _ []=_;rw [getD_l,X];rfl
   have al:=hg _ (getD_mem (by omega) X);refine vG [.u 1] fun aC=>?_;intro _ _
   refine V.lp (γ:=List Int × SV × Int) (fun ⟨t,w,k⟩=>⟨[(0,A.v),(1,iv cell),(5,o.v),(6,iv step),(7,w.v),(8,iv i),(9,x1.s.v),(10,iv k)],[fs false needs A,fs true d o,gf false x1],[.no,os true 3 t w]⟩) (fun ⟨t,w,k⟩=>(0≤k)∧(k≤(x1.l.length:Int))∧(t=Zo.adL (Zo.nxR (needs.map (·.l)) (d.take i.toNat)) (x1.l.take k.toNat))∧(∀ j:Nat,j < k.toNat→x1.l.getD j default≠cell)∧(Zo.Cs (needs.map (·.l)) t)∧(0≤k)) (fun ⟨t,w,k⟩=>((x1.l.length:Int)-k).toNat) (next,B,0) [0,1,2] ?_ ?_
   ·refine ⟨by omega,by omega,?_,?_,?_,by omega⟩
    ·show next=Zo.adL (Zo.nxR (needs.map (·.l)) (d.take i.toNat)) (x1.l.take (0:Int).toNat);exact ac
    ·show ∀ j:Nat,j < (0:Int).toNat→x1.l.getD j default≠cell;intro j hj;simp at hj
    show Zo.Cs (needs.map (·.l)) next;exact ae
   rintro ⟨t,w,k⟩ hF3 kw13 Z3 hZ3;obtain ⟨au,av,I,M,E,aw⟩:=hF3;refine vG [.u 2,.ln (kx false (.f 2) x1 x1.l (fun _=>x1.s) (fun _ _ h=>h)),.u 1] fun aD=>?_;intro _ _;refine vd (k < (x1.l.length:Int)) (fun q7=>?_) fun q8=>?_
   ·refine nm (x1.l.getD k.toNat default:Int) fun v2 C=>?_;have am:=al _ (getD_mem (by omega) C)
    have an:=E.le;rw [H] at an;refine vG [.u 2,.iX (kx false (.f 2) x1 x1.l (fun _=>x1.s) (fun _ _ h=>h)) k,.lE (kx false (.f 2) x1 x1.l (fun _=>x1.s) (fun _ _ h=>h)) k false v2 C false,.u 2] fun aE=>?_;intro _ _
    refine vd (v2=cell) (fun q9=>?_) fun ah=>?_
    ·refine vG [.u 2] fun aF=>?_;intro _ _
     have e0:step=Zo.againV (needs.map (·.l)) cell:=by rw [←P,show ((needs.length:Int)+1-step).toNat=((needs.length:Int)-step).toNat+1 by omega];exact (Zo.agn_hit (i:=i) (k:=k) (by omega) (by omega) (by rw [←D];exact Y) (by omega) (by omega) C q9).symm
     exact vi 0 [] e0
    refine vG [.u 3,.iX (kx false (.f 2) x1 x1.l (fun _=>x1.s) (fun _ _ h=>h)) k,.lE (kx false (.f 2) x1 x1.l (fun _=>x1.s) (fun _ _ h=>h)) k false v2 C false,.cP 5 21 [(kO 3 1 t w).a] fun G=>rhas_ct t w v2,.u 1] fun aG=>?_;intro _ _
    refine vn (v2 ∈ t) (fun ai=>?_) fun ao=>?_
    ·refine nm (t ++[v2]:LI) fun l1 Z=>vG [.u 3,.iX (kx false (.f 2) x1 x1.l (fun _=>x1.s) (fun _ _ h=>h)) k,.lE (kx false (.f 2) x1 x1.l (fun _=>x1.s) (fun _ _ h=>h)) k false v2 C false,.nr 5 true 3 [v2] [] (fun _ _ _ _ _=>trivial) (fun _=>#[iv v2]),.ap 6 1 3 8 false true t (fun _=>w) (kf true (.g 5 0) [v2] (fun G=>⟨atB (G 5).b,1,1⟩)) true l1 Z (by first | omega | (simp;omega) | simp) (fun h=>by cases h) (.inr fun _ _=>trivial),.u 1] fun aq=>?_;intro _ _
     refine vG [.u 1,.aa (k+1),.u 1] fun aH=>?_;intro _ _
     refine V.rn hZ3 (l1,(aq 6).s,k+1) [0,1,2] ?_ ?_
     ·refine ⟨by omega,by omega,?_,?_,?_,by omega⟩
      ·show l1=Zo.adL (Zo.nxR (needs.map (·.l)) (d.take i.toNat)) (x1.l.take (k+1).toNat);rw [Z,Zo.take_snoc (by omega) (by omega) C,Zo.adL_snoc,← I,if_neg (by simpa using ai)]
      ·show ∀ j:Nat,j < (k+1).toNat→x1.l.getD j default≠cell;intro j hj;by_cases e:j < k.toNat
       ·exact M j e
       rw [show j=k.toNat by omega,← C];exact ah
      show Zo.Cs (needs.map (·.l)) l1;rw [Z];exact E.snoc (by rw [H];exact am) (by simpa using ai)
     dsimp only;omega
    refine vG [.u 1,.aa (k+1),.u 1] fun aI=>?_;intro _ _
    refine V.rn hZ3 (t,w,k+1) [0,1,2] ?_ ?_
    ·refine ⟨by omega,by omega,?_,?_,?_,by omega⟩
     ·show t=Zo.adL (Zo.nxR (needs.map (·.l)) (d.take i.toNat)) (x1.l.take (k+1).toNat);rw [Zo.take_snoc (by omega) (by omega) C,Zo.adL_snoc,← I,if_pos (by simpa using ao)]
     ·show ∀ j:Nat,j < (k+1).toNat→x1.l.getD j default≠cell;intro j hj;by_cases e:j < k.toNat
      ·exact M j e
      rw [show j=k.toNat by omega,← C];exact ah
     show Zo.Cs (needs.map (·.l)) t;exact E
    dsimp only;omega
   refine vG [.u 1,.aa (i+1),.u 1] fun aJ=>?_;intro _ _
   refine V.rn hZ2 (t,w,i+1) [0,1] ?_ ?_
   ·refine ⟨by omega,by omega,?_,?_,?_,by omega⟩
    ·show t=Zo.nxR (needs.map (·.l)) (d.take (i+1).toNat);rw [Zo.take_snoc (by omega) (by omega) D,Zo.nxR_snoc,Y,I,List.take_of_length_le (l:=x1.l) (by omega)]
    ·show ∀ j:Nat,j < (i+1).toNat→cell ∉ Zo.rw_ (needs.map (·.l)) (d.getD j default);intro j hj;by_cases e:j < i.toNat
     ·exact ad j e
     rw [show j=i.toNat by omega,← D,Y];exact Zo.no_mem M (by omega)
    show Zo.Cs (needs.map (·.l)) t;exact E
   dsimp only;omega
  refine vG [.u 2] fun aK=>?_;intro _ _
  refine vG [.u 1,.aa (step+1),.u 1] fun aL=>?_;intro _ _
  refine V.frz 1 true 3 next B (by kernel_rfl) ?_;refine V.rn hZ1 (next,B,step+1) [0,2] ?_ ?_
  ·refine ⟨?_,?_,?_⟩
   ·show 1≤(step+1)∧(step+1)≤(needs.length:Int)+1;omega
   ·show Zo.agn (needs.map (·.l)) cell ((needs.length:Int)+1-(step+1)).toNat (step+1) next=Zo.againV (needs.map (·.l)) cell;rw [←P,show ((needs.length:Int)+1-step).toNat=((needs.length:Int)+1-(step+1)).toNat+1 by omega,Zo.agn_miss ad (by omega),ac,List.take_of_length_le (by omega)]
   show Zo.Cs (needs.map (·.l)) next;exact ae
  dsimp only;omega
 refine vG [.u 1] fun aM=>?_;intro _ _
 have e0:(0:Int)=Zo.againV (needs.map (·.l)) cell:=by rw [←P,show ((needs.length:Int)+1-step).toNat=0 by omega];rfl
 exact vi 0 [] e0

theorem lcy_ct (r:BA) (j:List DImport) (A:SV) (k:List DInput) (B:SV) (m:List DTable) (C:SV) (e:List DFunc) (D:SV) (d:List DCell) (t:SV) (o:List DPort) (E:SV) (p:List DStore) (F:SV) (q:List DRecipe) (I:SV) (hS:Sx.Sml r j k m e d o p q) (hL:(j.length:Int)+k.length+m.length+e.length+d.length+o.length+p.length+q.length≤100000000) :
  Cp Tryz.prog 5 #[ag (DSheet.mk r ⟨j,A⟩ ⟨k,B⟩ ⟨m,C⟩ ⟨e,D⟩ ⟨d,t⟩ ⟨o,E⟩ ⟨p,F⟩ ⟨q,I⟩)] [fs true j A,fs true k B,fs true m C,fs true e D,fs true d t,fs true o E,fs true p F,fs true q I] (bv true):=by
 refine vf mo Tryz.func5 122 2 fun _=>?_
 refine vG [.n 0,.kb false] fun G1=>?_;intro _ _
 refine vG [.cP 0 9 [] fun G=>lsm_ct ,.kb true] fun G2=>?_;intro _ _
 refine nm ((!(Zu.few21 r j k m e d o p q)) || (!(decide (Zo.snd r j k m e d o p q))):Bool) fun p1 ad=>vG [.l 0,.cP 1 10 [kA 0 j A,kA 1 k B,kA 2 m C,kA 3 e D,kA 4 d t,kA 5 o E,kA 6 p F,kA 7 q I] fun G=>rfw21_ct r j A k B m C e D d t o E p F q I hL,.u 2,.l 0,.cp (gF (b:=!(Zu.few21 r j k m e d o p q)) (iNF Iff.rfl)) 5 13 [kA 0 j A,kA 1 k B,kA 2 m C,kA 3 e D,kA 4 d t,kA 5 o E,kA 6 p F,kA 7 q I] (fun hg G=>oso_ct r j A k B m C e D d t o E p F q I hS hL),.u 1,.orn g0 false (!(Zu.few21 r j k m e d o p q)) (!(decide (Zo.snd r j k m e d o p q))) p1 ad] fun G3=>?_;intro _ _
 refine V.cn (b:=p1) (iN ad (iOT (iNT Iff.rfl) (iNT iDF))) (iN ad (iOF (iNF Iff.rfl) (iNF iDT))) (fun q1=>?_) (fun q2=>?_)
 ·refine vG [.kb true,.kb true] fun G4=>?_;intro _ _
  exact V.rS [0] [] [] [] [] []
 have hF:Zu.few21 r j k m e d o p q=true:=by grind
 have hs:(Zo.snd r j k m e d o p q):=by grind
 have h7:(d.length:Int)≤7:=by unfold Zu.few21 at hF;simp only [Bool.and_eq_true,decide_eq_true_eq] at hF;exact hF.1.1.1.2
 obtain ⟨gg,ab⟩:∃ z:List (List Int),z=(Zo.grf (e.map Zc.fe) d):=⟨_,rfl⟩;have hG:Zo.InR gg:=by rw [ab];exact Zo.grf_in
 have az:gg.length=d.length:=by rw [ab,Zo.grf_len]
 obtain ⟨gl,aA⟩:∃ z:List Int,z=Zo.ordL gg:=⟨_,rfl⟩;obtain ⟨gn,aB⟩:∃ z:Int,z=Zo.ordN gg:=⟨_,rfl⟩;obtain ⟨gc,Y⟩:∃ z:List Int,z=Zo.cycle gg:=⟨_,rfl⟩;refine vR [.l 0,.cA 1 18 [kA 0 j A,kA 1 k B,kA 2 m C,kA 3 e D,kA 4 d t,kA 5 o E,kA 6 p F,kA 7 q I] fun G=>ocy_s r j A k B m C e D d t o E p F q I gg gc hS hL h7 hs ab Y,.u 1] fun G5 av=>?_;intro _ _;obtain ⟨aC, -⟩:Lq gc (((G5 1).ss 0).v):=kj av 0;refine vG [.nl 0 1 true 34 ([]:List (Fat Int)) [] (fun _ _ h=>(List.forall_mem_nil _)) (fun _=>#[]),.u 1] fun G6=>?_;intro _ _;refine vG [.u 1] fun G7=>?_;intro _ _;refine V.lp (γ:=List (Fat Int) × SV × Int) (fun ⟨w,H,i⟩=>⟨[(1,pp ((G1 0).b) 0),(3,bv true),(4,((G5 1).ss 0).v),(5,H.v),(6,iv i)],[fs true gc ((G5 1).ss 0),fs false j A,fs false k B,fs false m C,fs false e D,fs false d t,fs false o E,fs false p F,fs false q I],[.blk ((G1 0).b) (ca (DSheet.mk r ⟨j,A⟩ ⟨k,B⟩ ⟨m,C⟩ ⟨e,D⟩ ⟨d,t⟩ ⟨o,E⟩ ⟨p,F⟩ ⟨q,I⟩)) 31,os true 34 w H]⟩) (fun ⟨w,H,i⟩=>(0≤i)∧(i≤(d.length:Int))∧(w.map (·.l)=gg.take i.toNat)) (fun ⟨w,H,i⟩=>((d.length:Int)-i).toNat) (([]:List (Fat Int)),⟨atB (G6 0).b,0,0⟩,0) [8,0,1,2,3,4,5,6,7] ?_ ?_
 ·refine ⟨by omega,by omega,?_⟩;show ([]:List (Fat Int)).map (·.l)=gg.take (0:Int).toNat;rfl
 rintro ⟨w,H,i⟩ hF1 kw8 Z1 hZ1;obtain ⟨aD,aE,ae⟩:=hF1;have aw:=congrArg List.length ae;rw [List.length_map,List.length_take] at aw;refine vG [.u 2,.l 0,.ln (kF 5 d t),.u 1] fun G8=>?_;intro _ _;refine vd (i < (d.length:Int)) (fun q3=>?_) fun q4=>?_
 ·refine vG [.u 1,.l 0,.u 1,.cA 3 16 [kA 1 j A,kA 2 k B,kA 3 m C,kA 4 e D,kA 5 d t,kA 6 o E,kA 7 p F,kA 8 q I] fun G=>ond_s r j A k B m C e D d t o E p F q I i gg hS hL h7 hs ab ⟨by omega,by omega⟩,.nrG 4 true 34 (fun G=>([⟨(Zo.rw_ gg i),(G 3).ss 0⟩]:List (Fat Int))) 1 (fun _=>rfl) [(kf true (.g 3 0) (Zo.rw_ gg i) (fun G=>(G 3).ss 0)).a] (fun _ _ h=>(List.forall_mem_cons.2 ⟨h.1,(List.forall_mem_nil _)⟩)) (fun G=>#[((G 3).ss 0).v]),.apG 5 1 34 24 false true w (fun _=>H) (.g 4 0) true (fun G=>([⟨(Zo.rw_ gg i),(G 3).ss 0⟩]:List (Fat Int))) 1 (fun _=>rfl) (fun G=>⟨atB (G 4).b,1,1⟩) true (by first | omega | (simp;omega) | simp) (fun h=>by cases h) (fun _=>⟨rfl,rfl⟩),.u 1] fun G9=>?_;intro _ _
  refine vG [.u 1,.aa (i+1),.u 1] fun aF=>?_;intro _ _
  refine V.rn hZ1 (w ++([⟨(Zo.rw_ gg i),(G9 3).ss 0⟩]:List (Fat Int)),(G9 5).s,i+1) [0,1,2,3,4,5,6,7,8] ?_ ?_
  ·refine ⟨by omega,by omega,?_⟩;show (w ++([⟨(Zo.rw_ gg i),(G9 3).ss 0⟩]:List (Fat Int))).map (·.l)=gg.take (i+1).toNat;rw [List.map_append,ae,Zo.takeG (by omega) (by omega) rfl];rfl
  dsimp only;omega
 have ac:w.map (·.l)=gg:=by rw [ae,List.take_of_length_le (by omega)]
 have ax:w.length=gg.length:=by rw [←ac,List.length_map]
 have ay:∀ x ∈ w,∀ y ∈ x.l,0≤y∧y < (w.length:Int):=fun x hx y hy=>by rw [ax];exact hG x.l (by rw [←ac];exact List.mem_map_of_mem (f:=fun z:Fat Int=>z.l) hx) y hy
 refine vG [.u 1] fun aG=>?_;intro _ _
 refine V.lp (γ:=Int) (fun M=>⟨[(3,bv true),(4,((G5 1).ss 0).v),(5,H.v),(7,iv M)],[fs true gc ((G5 1).ss 0)],[.no,os true 34 w H]⟩) (fun M=>(0≤M)∧(M≤(gc.length:Int))) (fun M=>((gc.length:Int)-M).toNat) 0 [0] ?_ ?_
 ·refine ⟨by omega,by omega⟩
 rintro M hF2 kw13 Z2 hZ2;obtain ⟨aH,aI⟩:=hF2;refine vG [.u 2,.ln (kG 0 gc ((G5 1).ss 0)),.u 1] fun aJ=>?_;intro _ _;refine vd (M < (gc.length:Int)) (fun q5=>?_) fun q6=>?_
 ·refine nm (gc.getD M.toNat default:Int) fun v1 Z=>nm ((decide (v1 < 0)) || (decide ((w.length:Int)≤v1)):Bool) fun p2 Q=>nm (gc.getD (0:Int).toNat default:Int) fun v2 ak=>nm (gc.take M.toNat:LI) fun l1 al=>nm ((p2 || (decide (v1 < v2))) || (decide (v1 ∈ l1)):Bool) fun p3 X=>nm (w.getD v1.toNat default:Fat Int) fun x1 am=>nm ((M+1) % (gc.length:Int):Int) fun n1 af=>nm (gc.getD n1.toNat default:Int) fun v3 an=>?_;have ao:=Zo.cycle_at (G:=gg) (i:=M) (v:=v1) hG (by omega) (by rw [←Y];omega) (by rw [←Y];exact Z) (v0:=v2) (by rw [←Y];exact ak)
  rw [←Y] at ao;have aK:0≤n1∧n1 < (gc.length:Int):=by rw [af];exact ⟨Int.emod_nonneg _ (by omega),Int.emod_lt_of_pos _ (by omega)⟩
  refine vG [.u 2,.iX (kG 0 gc ((G5 1).ss 0)) M,.lE (kG 0 gc ((G5 1).ss 0)) M false v1 Z false,.u 4,.ix (gF (b:=decide (v1 < 0)) iDF) (kG 0 gc ((G5 1).ss 0)) M (fun hg=>⟨by omega,by omega⟩),.le (gF (b:=decide (v1 < 0)) iDF) (kG 0 gc ((G5 1).ss 0)) M none false v1 Z (fun hg=>⟨by omega,by omega⟩) false (fun _=>[iv v1]),.u 1,.ln (kO 34 1 w H),.u 1,.orn g0 false (decide (v1 < 0)) (decide ((w.length:Int)≤v1)) p2 Q,.u 3,.ix (gF (b:=p2) (iN Q (iOF iDF iDF))) (kG 0 gc ((G5 1).ss 0)) M (fun hg=>⟨by omega,by omega⟩),.le (gF (b:=p2) (iN Q (iOF iDF iDF))) (kG 0 gc ((G5 1).ss 0)) M none false v1 Z (fun hg=>⟨by omega,by omega⟩) false (fun _=>[iv v1]),.u 1,.ix (gF (b:=p2) (iN Q (iOF iDF iDF))) (kG 0 gc ((G5 1).ss 0)) 0 (fun hg=>⟨by omega,by omega⟩),.le (gF (b:=p2) (iN Q (iOF iDF iDF))) (kG 0 gc ((G5 1).ss 0)) (0:Int) none false v2 ak (fun hg=>⟨by omega,by omega⟩) false (fun _=>[iv v2]),.u 1,.or g0 false p2 (decide (v1 < v2)),.u 3,.sl (gF (b:=p2 || (decide (v1 < v2))) (iOF (iN Q (iOF iDF iDF)) iDF)) (kG 0 gc ((G5 1).ss 0)) rfl none (some M) 0 M rfl rfl l1 (by rw [al];simp) (fun hg=>⟨by omega,by omega,by omega⟩),.u 2,.ix (gF (b:=p2 || (decide (v1 < v2))) (iOF (iN Q (iOF iDF iDF)) iDF)) (kG 0 gc ((G5 1).ss 0)) M (fun hg=>⟨by omega,by omega⟩),.le (gF (b:=p2 || (decide (v1 < v2))) (iOF (iN Q (iOF iDF iDF)) iDF)) (kG 0 gc ((G5 1).ss 0)) M none false v1 Z (fun hg=>⟨by omega,by omega⟩) false (fun _=>[iv v1]),.cp (gF (b:=p2 || (decide (v1 < v2))) (iOF (iN Q (iOF iDF iDF)) iDF)) 32 21 [(kf true (.g 27 0) l1 (fun _=>(((G5 1).ss 0).sub 1 (0:Int).toNat M.toNat))).a] (fun hg G=>rhas_ct l1 (((G5 1).ss 0).sub 1 (0:Int).toNat M.toNat) v1),.orn g0 false (p2 || (decide (v1 < v2))) (decide (v1 ∈ l1)) p3 X,.u 4,.ix (gF (b:=p3) (iN X (iOF (iOF (iN Q (iOF iDF iDF)) iDF) iDF))) (kG 0 gc ((G5 1).ss 0)) M (fun hg=>⟨by omega,by omega⟩),.le (gF (b:=p3) (iN X (iOF (iOF (iN Q (iOF iDF iDF)) iDF) iDF))) (kG 0 gc ((G5 1).ss 0)) M none false v1 Z (fun hg=>⟨by omega,by omega⟩) false (fun _=>[iv v1]),.ix (gF (b:=p3) (iN X (iOF (iOF (iN Q (iOF iDF iDF)) iDF) iDF))) (kO 34 1 w H) v1 (fun hg=>⟨by omega,by omega⟩),.le (gF (b:=p3) (iN X (iOF (iOF (iN Q (iOF iDF iDF)) iDF) iDF))) (kO 34 1 w H) v1 none true x1 am (fun hg=>⟨by omega,by omega⟩) false (fun _=>[x1.s.v]),.u 2,.arg (gF (b:=p3) (iN X (iOF (iOF (iN Q (iOF iDF iDF)) iDF) iDF))) (M+1) (M+1) rfl (fun hg=>by omega),.u 1,.ln (kG 0 gc ((G5 1).ss 0)),.rmv (gF (b:=p3) (iN X (iOF (iOF (iN Q (iOF iDF iDF)) iDF) iDF))) (M+1) (gc.length:Int) n1 af (fun hg=>⟨by omega,by omega⟩),.ix (gF (b:=p3) (iN X (iOF (iOF (iN Q (iOF iDF iDF)) iDF) iDF))) (kG 0 gc ((G5 1).ss 0)) n1 (fun hg=>⟨by omega,by omega⟩),.le (gF (b:=p3) (iN X (iOF (iOF (iN Q (iOF iDF iDF)) iDF) iDF))) (kG 0 gc ((G5 1).ss 0)) n1 none false v3 an (fun hg=>⟨by omega,by omega⟩) false (fun _=>[iv v3]),.cp (gF (b:=p3) (iN X (iOF (iOF (iN Q (iOF iDF iDF)) iDF) iDF))) 50 21 [(kx true (.g 41 0) x1 x1.l (fun _=>x1.s) (fun _ _ h=>h)).a] (fun hg G=>rhas_ct x1.l x1.s v3),.u 1,.or g0 false p3 (!(decide (v3 ∈ x1.l)))] fun aL=>?_;intro _ _
  refine V.cn (b:=p3 || (!(decide (v3 ∈ x1.l)))) (iOT (iN X (iOT (iOT (iN Q (iOT iDT iDT)) iDT) iDT)) (iNT iDF)) (iOF (iN X (iOF (iOF (iN Q (iOF iDF iDF)) iDF) iDF)) (iNF iDT)) (fun q7=>?_) (fun q8=>?_)
  ·exfalso;have hx:x1.l=Zo.rw_ gg v1:=(by rw [←ac];show _=List.getD _ _ [];rw [getD_l,am];rfl);obtain ⟨a1,a2,a3,a4⟩:=ao;rw [←hx] at a4;rw [←al] at a3;rw [←af,← an] at a4;grind
  refine vG [.u 1,.aa (M+1),.u 1] fun aM=>?_;intro _ _
  refine V.rn hZ2 (M+1) [0] ?_ ?_
  ·refine ⟨by omega,by omega⟩
  omega
 refine vG [.u 1] fun aN=>?_;intro _ _
 refine V.lp (γ:=Int) (fun P=>⟨[(3,bv true),(4,((G5 1).ss 0).v),(5,H.v),(8,iv P)],[fs true gc ((G5 1).ss 0)],[.no,os true 34 w H]⟩) (fun P=>(0≤P)∧(P≤(w.length:Int))) (fun P=>((w.length:Int)-P).toNat) 0 [0] ?_ ?_
 ·refine ⟨by omega,by omega⟩
 rintro P hF3 kw18 Z3 hZ3;obtain ⟨aO,aP⟩:=hF3;refine vG [.u 2,.ln (kO 34 1 w H),.u 1] fun aQ=>?_;intro _ _;refine vd (P < (w.length:Int)) (fun q9=>?_) fun aS=>?_
 ·refine vG [.u 2,.cP 2 23 [(kO 34 1 w H).a] fun G=>lag_ct w H P ay (by omega) (by omega),.u 1] fun aT=>?_;intro _ _
  refine nm ((decide ((gc.length:Int)=0)) || (decide (Zo.againV (w.map (·.l)) P < (gc.length:Int))):Bool) fun p4 ah=>nm ((decide (0 < Zo.againV (w.map (·.l)) P)) && p4:Bool) fun p5 ai=>nm ((decide (Zo.againV (w.map (·.l)) P < 0)) || p5:Bool) fun p6 aj=>vG [.u 7,.ln (kG 0 gc ((G5 1).ss 0)),.u 4,.ln (kG 0 gc ((G5 1).ss 0)),.u 1,.orn ((gF (b:=decide (Zo.againV (w.map (·.l)) P < 0)) iDF).T (b:=decide (0 < Zo.againV (w.map (·.l)) P)) iDT) false (decide ((gc.length:Int)=0)) (decide (Zo.againV (w.map (·.l)) P < (gc.length:Int))) p4 ah,.andn (gF (b:=decide (Zo.againV (w.map (·.l)) P < 0)) iDF) false (decide (0 < Zo.againV (w.map (·.l)) P)) p4 p5 ai,.orn g0 false (decide (Zo.againV (w.map (·.l)) P < 0)) p5 p6 aj] fun aU=>?_;intro _ _
  refine V.cn (b:=p6) (iN aj (iOT iDT (iN ai (iAT iDT (iN ah (iOT iDT iDT)))))) (iN aj (iOF iDF (iN ai (iAF iDF (iN ah (iOF iDF iDF)))))) (fun aq=>?_) (fun aV=>?_)
  ·exfalso;have au:=Zo.cycle_sum hG (c:=P) (by omega) (by omega);rw [ac] at aq;rw [←Y] at au;have h2:=au.2;rcases aq with h | ⟨h,h3 | h3⟩;omega;exact (h2 h).1 (List.length_eq_zero_iff.1 (by omega));have:=(h2 h).2;omega
  refine vG [.u 1,.aa (P+1),.u 1] fun aW=>?_;intro _ _
  refine V.rn hZ3 (P+1) [0] ?_ ?_
  ·refine ⟨by omega,by omega⟩
  omega
 refine vG [.kb true,.kb true] fun aX=>?_;intro _ _
 exact V.rS [0] [] [] [] [] []
end Kb
