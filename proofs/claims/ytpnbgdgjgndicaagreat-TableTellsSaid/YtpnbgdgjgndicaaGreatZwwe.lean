/- Texts for the claim, put together: the calculus of regions, its rules, and contracts of the functions that the law reaches. -/
import Derived.Test.YtpnbgdgjgndicaaGreatZwwd
set_option linter.unusedVariables false
set_option linter.unusedSectionVars false
set_option linter.unusedSimpArgs false
namespace Kb
open Go Go.Proofs
set_option maxRecDepth 10000 in
theorem r4neg_ct (d:Int) (c:List Int) (e:SV) (hla:c.length≤17179869184) :
    Ct Tryz.prog 129 #[ag (DBig.mk d ⟨c,e⟩)] [fs true c e] [] (fun g=>ag (DBig.mk (Bg.oS (Bg.RtB d c) (-Bg.zv d c)) ⟨Bg.oD (Bg.RtB d c) (-Bg.zv d c),(g.ss 0)⟩)) (fun g=>[fs true (Bg.oD (Bg.RtB d c) (-Bg.zv d c)) (g.ss 0)]) (fun g=>[]) (fun g=>[]):=by
  refine V.fn mo Tryz.func129 13 2 (by kernel_rfl) fun w H ε k0=>?_;obtain ⟨⟨kl1, -⟩, -⟩:Lq c e.v∧True:=kq k0
  clear k0;refine V.g [.nb 0 0 (fun b=>pp b 0) 27 (fun _=>ca (DBig.mk d ⟨c,e⟩)),.nb 1 1 (fun b=>pp b 0) 27 (fun _=>ca (DBig.mk 0 ⟨[],{}⟩))] fun _ _ G1=>?_;intro S s
  refine V.g [.ld 0 0 true (fun _=>Dat.cells (DBig.mk d ⟨c,e⟩)),.cp g0 1 80 [(kf false (.f 0) c (fun _=>e)).a] (fun _ G=>r4right_ct d c e),.k (bv (!(decide (Bg.RtB d c))))] fun _ _ G2=>?_;intro S s
  refine V.cn (b:=!(decide (Bg.RtB d c))) (iNT iDF) (iNF iDT) (fun q1=>?_) (fun q2=>?_)
  · refine V.g [.k (ag (DBig.mk 0 ⟨[],{}⟩)),.st 1 (fun _=>.blk ((G1 1).b) (ca (DBig.mk 0 ⟨[],{}⟩)) 27)] fun _ _ G3=>?_;intro S s
    refine V.nilF (α:=Int) ?_;have e1:([]:List Int)=Bg.oD (Bg.RtB d c) (-Bg.zv d c):=(Bg.oD_n q1 _).symm;rw [←e1];have e0:(0:Int)=Bg.oS (Bg.RtB d c) (-Bg.zv d c):=(Bg.oS_n q1 _).symm;exact V.rt [1] [{}] [fun _=>{}] [] [1] [] (ag (DBig.mk 0 ⟨([]:List Int),{}⟩)) (cong1 (fun (x0:Int)=>(.agg #[iv x0,SV.v ({})]:Value)) e0)
  have hRt:Bg.RtB d c:=by first | exact q2 | exact Decidable.not_not.1 q2
  have hsB:=Bg.sg_le hRt;refine nm (Bg.sg0 (Bg.nv c) (-d):Int) fun n1 hn1=>?_;refine nl (Bg.dig (Bg.nv c)) fun l1 hl1 hl1n=>?_;refine V.r [.k (pp ((G1 0).b) 0),.ld 0 0 false (fun _=>[iv d]),.ng d (-d) rfl (by omega) (by omega),.k (pp ((G1 0).b) 1),.ld 0 1 false (fun _=>[e.v]),.ct g0 5 119 false [] [] [(kf false (.f 0) c (fun _=>e)).a] (fun _ G=>r4made_ctv (-d) c e hRt.dg (by omega) n1 hn1 l1 hl1),.st 1 (fun G=>.blk ((G1 1).b) (ca (DBig.mk n1 ⟨l1,(G 5).ss 0⟩)) 27)] fun _ _ G4 kw4=>?_;intro S s
  obtain ⟨⟨kl2, -⟩, -⟩:Lq l1 (((G4 5).ss 0).v)∧True:=kq kw4;clear kw4;have e1:l1=Bg.oD (Bg.RtB d c) (-Bg.zv d c):=by
    rw [hl1];rw [Bg.oD_y hRt];exact Bg.neg_d hRt
  subst e1;have e0:n1=Bg.oS (Bg.RtB d c) (-Bg.zv d c):=by
    rw [hn1];rw [Bg.oS_y hRt];exact Bg.neg_s hRt
  exact V.rt [1] [(G4 5).ss 0] [fun _=>{}] [] [1] [] (ag (DBig.mk n1 ⟨(Bg.oD (Bg.RtB d c) (-Bg.zv d c)),(G4 5).ss 0⟩)) (cong1 (fun (x0:Int)=>(.agg #[iv x0,((G4 5).ss 0).v]:Value)) e0)
theorem r4neg_ctv (b:Int) (a:List Int) (c:SV) (hla:a.length≤17179869184) (rv0:Int) (erv0:rv0=Bg.oS (Bg.RtB b a) (-Bg.zv b a)) (rv1:List Int) (erv1:rv1=Bg.oD (Bg.RtB b a) (-Bg.zv b a)) :
    Ct Tryz.prog 129 #[ag (DBig.mk b ⟨a,c⟩)] [fs true a c] [] (fun g=>ag (DBig.mk rv0 ⟨rv1,(g.ss 0)⟩)) (fun g=>[fs true rv1 (g.ss 0)]) (fun g=>[]) (fun g=>[]):=by
  subst erv0 erv1;exact r4neg_ct b a c hla
set_option maxRecDepth 10000 in
theorem r4gcd_ct (i:Int) (c:List Int) (l:SV) (j:Int) (d:List Int) (m:SV) (hla:c.length≤17179869184) (hlb:d.length≤17179869184) :
    Ct Tryz.prog 81 #[ag (DBig.mk i ⟨c,l⟩),ag (DBig.mk j ⟨d,m⟩)] [fs true c l,fs true d m] [] (fun g=>.tuple #[ag (DBig.mk (Bg.oS (Bg.RtB i c∧Bg.RtB j d) ((Nat.gcd (Bg.nv c) (Bg.nv d):Int))) ⟨Bg.oD (Bg.RtB i c∧Bg.RtB j d) ((Nat.gcd (Bg.nv c) (Bg.nv d):Int)),(g.ss 0)⟩),iv (if (Bg.RtB i c∧Bg.RtB j d) then (0:Int) else 1)]) (fun g=>[fs true (Bg.oD (Bg.RtB i c∧Bg.RtB j d) ((Nat.gcd (Bg.nv c) (Bg.nv d):Int))) (g.ss 0)]) (fun g=>[]) (fun g=>[]):=by
  refine V.fn mo Tryz.func81 36 3 (by kernel_rfl) fun w H ε k0=>?_;obtain ⟨⟨kl1, -⟩,⟨kl2, -⟩, -⟩:Lq c l.v∧Lq d m.v∧True:=kq k0
  clear k0;refine V.g [.nb 0 0 (fun b=>pp b 0) 27 (fun _=>ca (DBig.mk i ⟨c,l⟩)),.nb 1 1 (fun b=>pp b 0) 27 (fun _=>ca (DBig.mk j ⟨d,m⟩)),.nb 2 2 (fun b=>pp b 0) 27 (fun _=>ca (DBig.mk 0 ⟨[],{}⟩)),.k (iv 0)] fun _ _ G1=>?_;intro S s
  refine nm ((!(decide (Bg.RtB i c))) || (!(decide (Bg.RtB j d))):Bool) fun p1 hp1=>?_;refine V.g [.ld 0 0 true (fun _=>Dat.cells (DBig.mk i ⟨c,l⟩)),.cp g0 1 80 [(kf false (.f 0) c (fun _=>l)).a] (fun _ G=>r4right_ct i c l),.k (bv (!(decide (Bg.RtB i c)))),.k (bv (!(decide (Bg.RtB i c)))),.ld 1 0 true (fun _=>Dat.cells (DBig.mk j ⟨d,m⟩)),.cp (gF (b:=!(decide (Bg.RtB i c))) (iNF iDT)) 5 80 [(kf false (.f 1) d (fun _=>m)).a] (fun hg G=>r4right_ct j d m),.k (bv (!(decide (Bg.RtB j d)))),.orn g0 false (!(decide (Bg.RtB i c))) (!(decide (Bg.RtB j d))) p1 hp1] fun _ _ G2=>?_;intro S s
  refine V.cn (b:=p1) (iN hp1 (iOT (iNT iDF) (iNT iDF))) (iN hp1 (iOF (iNF iDT) (iNF iDT))) (fun q1=>?_) (fun q2=>?_)
  · have hNR:¬ (Bg.RtB i c∧Bg.RtB j d):=by rintro ⟨h1,h2⟩;rcases q1 with h | h;exact h h1;exact h h2
    refine V.g [.k (ag (DBig.mk 0 ⟨[],{}⟩)),.st 2 (fun _=>.blk ((G1 2).b) (ca (DBig.mk 0 ⟨[],{}⟩)) 27),.k (iv 1)] fun _ _ G3=>?_;intro S s
    refine V.nilF (α:=Int) ?_;have e1:([]:List Int)=Bg.oD (Bg.RtB i c∧Bg.RtB j d) ((Nat.gcd (Bg.nv c) (Bg.nv d):Int)):=(Bg.oD_n hNR _).symm;rw [←e1];have e0:(0:Int)=Bg.oS (Bg.RtB i c∧Bg.RtB j d) ((Nat.gcd (Bg.nv c) (Bg.nv d):Int)):=(Bg.oS_n hNR _).symm;have e2:(1:Int)=if (Bg.RtB i c∧Bg.RtB j d) then (0:Int) else 1:=(if_neg hNR).symm
    exact V.rt [2,0] [{}] [fun _=>{}] [] [2] [] (.tuple #[ag (DBig.mk 0 ⟨([]:List Int),{}⟩),iv 1]) (cong2 (fun (x0 x2:Int)=>(.tuple #[.agg #[iv x0,SV.v ({})],iv x2]:Value)) e0 e2)
  have hRR:(Bg.RtB i c∧Bg.RtB j d):=by first | exact q2 | exact ⟨Decidable.not_not.1 (q2).1,Decidable.not_not.1 (q2).2⟩
  have hsm:=Bg.sml hRR.1 hRR.2;refine V.g [.k (pp ((G1 0).b) 1),.ld 0 1 false (fun _=>[l.v]),.k (l.v)] fun _ _ G4=>?_;intro S s
  refine V.g [.k (pp ((G1 1).b) 1),.ld 1 1 false (fun _=>[m.v]),.k (m.v)] fun _ _ G5=>?_;intro S s
  refine V.loop (γ:=List Int × SV × List Int × SV) (fun ⟨x,xs,y,ys⟩=>⟨[(4,pp ((G1 2).b) 0),(6,xs.v),(7,ys.v)],[fs false x xs,fs false y ys,fs false c l,fs false d m],[.blk ((G1 0).b) (ca (DBig.mk i ⟨c,l⟩)) 27,.blk ((G1 1).b) (ca (DBig.mk j ⟨d,m⟩)) 27,.blk ((G1 2).b) (ca (DBig.mk 0 ⟨[],{}⟩)) 27]⟩) (fun ⟨x,xs,y,ys⟩=>(Bg.Dg x)∧(Bg.Nz y)∧(Bg.Dg y)∧(Nat.gcd (Bg.nv x) (Bg.nv y)=Nat.gcd (Bg.nv c) (Bg.nv d))∧(x.length≤17179869184)∧(y.length≤17179869184)) (fun ⟨x,xs,y,ys⟩=>Bg.nv y) (c,l,d,m) (by kernel_rfl) [0,1,0,1] (by kernel_rfl) ?_ ?_
  · refine ⟨?_,?_,?_,?_,?_,?_⟩
    · show Bg.Dg c;exact hRR.1.dg
    · show Bg.Nz d;exact hRR.2.nz
    · show Bg.Dg d;exact hRR.2.dg
    · show Nat.gcd (Bg.nv c) (Bg.nv d)=Nat.gcd (Bg.nv c) (Bg.nv d);rfl
    · show c.length≤17179869184;omega
    show d.length≤17179869184;omega
  rintro ⟨x,xs,y,ys⟩ hF1 kw6 Z1 hZ1;have hF1:(Bg.Dg x)∧(Bg.Nz y)∧(Bg.Dg y)∧(Nat.gcd (Bg.nv x) (Bg.nv y)=Nat.gcd (Bg.nv c) (Bg.nv d))∧(x.length≤17179869184)∧(y.length≤17179869184):=hF1;obtain ⟨hf1,hf2,hf3,hf4,hf5,hf6⟩:=hF1;obtain ⟨⟨kl3, -⟩,⟨kl4, -⟩, -, -, -⟩:Lq x xs.v∧Lq y ys.v∧Lq c l.v∧Lq d m.v∧True:=kq kw6;clear kw6;refine V.g [.k (ys.v),.ln (kf false (.f 1) y (fun _=>ys)),.k (bv (decide (0 < (y.length:Int))))] fun _ _ G6=>?_;intro S s;refine V.cn (b:=decide (0 < (y.length:Int))) iDT iDF (fun q3=>?_) (fun q4=>?_)
  · have hyn:y≠[]:=fun e=>by have:=congrArg List.length e;simp only [List.length_nil] at this;omega
    have hyp:=Bg.nv_ne hf3 hf2 hyn;have hmd:=Nat.mod_lt (Bg.nv x) (Nat.pos_of_ne_zero hyp);refine nl (Bg.dig (Bg.nv x / Bg.nv y)) fun l1 hl1 hl1n=>?_;refine nl (Bg.dig (Bg.nv x % Bg.nv y)) fun l2 hl2 hl2n=>?_;refine V.r [.k (xs.v),.k (ys.v),.ct g0 2 118 false [] [] [(kf false (.f 0) x (fun _=>xs)).a,(kf false (.f 1) y (fun _=>ys)).a] (fun _ G=>r4over_ctv x xs y ys hf1 hf3 (Nat.pos_of_ne_zero hyp) (by omega) (by omega) l1 hl1 l2 hl2),.v fun G=>.tuple #[((G 2).ss 0).v,((G 2).ss 1).v],.v fun G=>((G 2).ss 0).v,.v fun G=>((G 2).ss 1).v,.v fun G=>((G 2).ss 0).v,.v fun G=>((G 2).ss 1).v] fun _ _ G7 kw8=>?_;intro S s
    obtain ⟨⟨kl5, -⟩,⟨kl6, -⟩, -⟩:Lq l1 (((G7 2).ss 0).v)∧Lq l2 (((G7 2).ss 1).v)∧True:=kq kw8;clear kw8;refine V.g [.k (ys.v),.k (ys.v)] fun _ _ G8=>?_;intro S s;refine V.g [.k (((G7 2).ss 1).v),.k (((G7 2).ss 1).v)] fun _ _ G9=>?_;intro S s;refine V.rnd hZ1 (y,ys,l2,(G7 2).ss 1) [1,5,2,3] (by kernel_rfl) ?_ ?_
    · refine ⟨?_,?_,?_,?_,?_,?_⟩
      · show Bg.Dg y;exact hf3
      · show Bg.Nz l2;rw [hl2];exact Bg.dig_Nz _
      · show Bg.Dg l2;rw [hl2];exact Bg.dig_Dg _
      · show Nat.gcd (Bg.nv y) (Bg.nv l2)=Nat.gcd (Bg.nv c) (Bg.nv d);rw [hl2];rw [Bg.nv_dig];exact Bg.gcd_step hf4
      · show y.length≤17179869184;omega
      show l2.length≤17179869184;rw [hl2];exact Nat.le_trans (Bg.dig_len_mono' (Nat.le_of_lt hmd)) (Nat.le_trans (Bg.dig_le hf3) hf6)
    show Bg.nv l2 < Bg.nv y;rw [hl2];rw [Bg.nv_dig];exact hmd
  have hxd:=hf1;have hgx:=hf4;have hy0:y=[]:=List.eq_nil_of_length_eq_zero (by omega);rw [hy0,show Bg.nv []=0 from rfl,Nat.gcd_zero_right] at hgx;have hgS:=Bg.gcdS (Nat.gcd (Bg.nv c) (Bg.nv d));have hgD:=Bg.gcdD (Nat.gcd (Bg.nv c) (Bg.nv d));rw [←hgx,Bg.nv_dig] at hgS hgD;refine nm (Bg.sg0 (Bg.nv x) (1:Int):Int) fun n1 hn1=>?_;refine nl (Bg.dig (Bg.nv x)) fun l3 hl3 hl3n=>?_;refine V.r [.k (xs.v),.ct g0 1 119 false [] [] [(kf false (.f 0) x (fun _=>xs)).a] (fun _ G=>r4made_ctv (1:Int) x xs hxd (by omega) n1 hn1 l3 hl3),.st 2 (fun G=>.blk ((G1 2).b) (ca (DBig.mk n1 ⟨l3,(G 1).ss 0⟩)) 27),.k (iv 0)] fun _ _ G10 kw11=>?_;intro S s
  obtain ⟨⟨kl7, -⟩, -⟩:Lq l3 (((G10 1).ss 0).v)∧True:=kq kw11;clear kw11;have e1:l3=Bg.oD (Bg.RtB i c∧Bg.RtB j d) ((Nat.gcd (Bg.nv c) (Bg.nv d):Int)):=by
    rw [hl3];rw [Bg.oD_y hRR];rw [←hgx];exact hgD
  subst e1;have e0:n1=Bg.oS (Bg.RtB i c∧Bg.RtB j d) ((Nat.gcd (Bg.nv c) (Bg.nv d):Int)):=by
    rw [hn1];rw [Bg.oS_y hRR];rw [←hgx];exact hgS
  have e2:(0:Int)=if (Bg.RtB i c∧Bg.RtB j d) then (0:Int) else 1:=(if_pos hRR).symm
  exact V.rt [2,0] [(G10 1).ss 0] [fun _=>{}] [] [4] [] (.tuple #[ag (DBig.mk n1 ⟨(Bg.oD (Bg.RtB i c∧Bg.RtB j d) ((Nat.gcd (Bg.nv c) (Bg.nv d):Int))),(G10 1).ss 0⟩),iv 0]) (cong2 (fun (x0 x2:Int)=>(.tuple #[.agg #[iv x0,((G10 1).ss 0).v],iv x2]:Value)) e0 e2)
theorem r4gcd_ctv (c:Int) (a:List Int) (e:SV) (d:Int) (b:List Int) (f:SV) (hla:a.length≤17179869184) (hlb:b.length≤17179869184) (rv0:Int) (erv0:rv0=Bg.oS (Bg.RtB c a∧Bg.RtB d b) ((Nat.gcd (Bg.nv a) (Bg.nv b):Int))) (rv1:List Int) (erv1:rv1=Bg.oD (Bg.RtB c a∧Bg.RtB d b) ((Nat.gcd (Bg.nv a) (Bg.nv b):Int))) (rv2:Int) (erv2:rv2=if (Bg.RtB c a∧Bg.RtB d b) then (0:Int) else 1) :
    Ct Tryz.prog 81 #[ag (DBig.mk c ⟨a,e⟩),ag (DBig.mk d ⟨b,f⟩)] [fs true a e,fs true b f] [] (fun g=>.tuple #[ag (DBig.mk rv0 ⟨rv1,(g.ss 0)⟩),iv rv2]) (fun g=>[fs true rv1 (g.ss 0)]) (fun g=>[]) (fun g=>[]):=by
  subst erv0 erv1 erv2;exact r4gcd_ct c a e d b f hla hlb
set_option maxRecDepth 10000 in
theorem r4div_ct (j:Int) (i:List Int) (n:SV) (c:Int) (d:List Int) (l:SV) (hla:i.length≤17179869184) (hlb:d.length≤17179869184) :
    Ct Tryz.prog 130 #[ag (DBig.mk j ⟨i,n⟩),ag (DBig.mk c ⟨d,l⟩)] [fs true i n,fs true d l] [] (fun g=>.tuple #[ag (DBig.mk (Bg.oS ((Bg.RtB j i∧Bg.RtB c d)∧c≠0) (Bg.flo (Bg.zv j i) (Bg.zv c d))) ⟨Bg.oD ((Bg.RtB j i∧Bg.RtB c d)∧c≠0) (Bg.flo (Bg.zv j i) (Bg.zv c d)),(g.ss 0)⟩),ag (DBig.mk (Bg.oS ((Bg.RtB j i∧Bg.RtB c d)∧c≠0) (Bg.fmo (Bg.zv j i) (Bg.zv c d))) ⟨Bg.oD ((Bg.RtB j i∧Bg.RtB c d)∧c≠0) (Bg.fmo (Bg.zv j i) (Bg.zv c d)),(g.ss 1)⟩),iv (if ¬ (Bg.RtB j i∧Bg.RtB c d) then (1:Int) else if c=0 then 15 else 0)]) (fun g=>[fs true (Bg.oD ((Bg.RtB j i∧Bg.RtB c d)∧c≠0) (Bg.flo (Bg.zv j i) (Bg.zv c d))) (g.ss 0),fs true (Bg.oD ((Bg.RtB j i∧Bg.RtB c d)∧c≠0) (Bg.fmo (Bg.zv j i) (Bg.zv c d))) (g.ss 1)]) (fun g=>[]) (fun g=>[]):=by
  refine V.fn mo Tryz.func130 65 4 (by kernel_rfl) fun w H ε k0=>?_;obtain ⟨⟨kl1, -⟩,⟨kl2, -⟩, -⟩:Lq i n.v∧Lq d l.v∧True:=kq k0
  clear k0;refine V.g [.nb 0 0 (fun b=>pp b 0) 27 (fun _=>ca (DBig.mk j ⟨i,n⟩)),.nb 1 1 (fun b=>pp b 0) 27 (fun _=>ca (DBig.mk c ⟨d,l⟩)),.nb 2 2 (fun b=>pp b 0) 27 (fun _=>ca (DBig.mk 0 ⟨[],{}⟩)),.nb 3 3 (fun b=>pp b 0) 27 (fun _=>ca (DBig.mk 0 ⟨[],{}⟩)),.k (iv 0)] fun _ _ G1=>?_;intro S s
  refine nm ((!(decide (Bg.RtB j i))) || (!(decide (Bg.RtB c d))):Bool) fun p1 hp1=>?_;refine V.g [.ld 0 0 true (fun _=>Dat.cells (DBig.mk j ⟨i,n⟩)),.cp g0 1 80 [(kf false (.f 0) i (fun _=>n)).a] (fun _ G=>r4right_ct j i n),.k (bv (!(decide (Bg.RtB j i)))),.k (bv (!(decide (Bg.RtB j i)))),.ld 1 0 true (fun _=>Dat.cells (DBig.mk c ⟨d,l⟩)),.cp (gF (b:=!(decide (Bg.RtB j i))) (iNF iDT)) 5 80 [(kf false (.f 1) d (fun _=>l)).a] (fun hg G=>r4right_ct c d l),.k (bv (!(decide (Bg.RtB c d)))),.orn g0 false (!(decide (Bg.RtB j i))) (!(decide (Bg.RtB c d))) p1 hp1] fun _ _ G2=>?_;intro S s
  refine V.cn (b:=p1) (iN hp1 (iOT (iNT iDF) (iNT iDF))) (iN hp1 (iOF (iNF iDT) (iNF iDT))) (fun q1=>?_) (fun q2=>?_)
  · have hNR:¬ (Bg.RtB j i∧Bg.RtB c d):=by rintro ⟨h1,h2⟩;rcases q1 with h | h;exact h h1;exact h h2
    refine V.g [.k (ag (DBig.mk 0 ⟨[],{}⟩)),.k (ag (DBig.mk 0 ⟨[],{}⟩)),.st 2 (fun _=>.blk ((G1 2).b) (ca (DBig.mk 0 ⟨[],{}⟩)) 27),.st 3 (fun _=>.blk ((G1 3).b) (ca (DBig.mk 0 ⟨[],{}⟩)) 27),.k (iv 1)] fun _ _ G3=>?_;intro S s
    refine V.nilF (α:=Int) ?_;refine V.nilF (α:=Int) ?_;have e1:([]:List Int)=Bg.oD ((Bg.RtB j i∧Bg.RtB c d)∧c≠0) (Bg.flo (Bg.zv j i) (Bg.zv c d)):=(Bg.oD_n (fun h=>hNR h.1) _).symm;rw [←e1];have e3:([]:List Int)=Bg.oD ((Bg.RtB j i∧Bg.RtB c d)∧c≠0) (Bg.fmo (Bg.zv j i) (Bg.zv c d)):=(Bg.oD_n (fun h=>hNR h.1) _).symm;rw [←e3];have e0:(0:Int)=Bg.oS ((Bg.RtB j i∧Bg.RtB c d)∧c≠0) (Bg.flo (Bg.zv j i) (Bg.zv c d)):=(Bg.oS_n (fun h=>hNR h.1) _).symm;have e2:(0:Int)=Bg.oS ((Bg.RtB j i∧Bg.RtB c d)∧c≠0) (Bg.fmo (Bg.zv j i) (Bg.zv c d)):=(Bg.oS_n (fun h=>hNR h.1) _).symm;have e4:(1:Int)=if ¬ (Bg.RtB j i∧Bg.RtB c d) then (1:Int) else if c=0 then 15 else 0:=(if_pos hNR).symm
    exact V.rt [2,3,0] [{},{}] [fun _=>{},fun _=>{}] [] [2,3] [] (.tuple #[ag (DBig.mk 0 ⟨([]:List Int),{}⟩),ag (DBig.mk 0 ⟨([]:List Int),{}⟩),iv 1]) (cong3 (fun (x0 x2 x4:Int)=>(.tuple #[.agg #[iv x0,SV.v ({})],.agg #[iv x2,SV.v ({})],iv x4]:Value)) e0 e2 e4)
  have hRR:(Bg.RtB j i∧Bg.RtB c d):=by first | exact q2 | exact ⟨Decidable.not_not.1 (q2).1,Decidable.not_not.1 (q2).2⟩
  have hsm:=Bg.sml hRR.1 hRR.2;refine V.g [.k (pp ((G1 1).b) 0),.ld 1 0 false (fun _=>[iv c]),.k (bv (decide (c=0)))] fun _ _ G4=>?_;intro S s
  refine V.cn (b:=decide (c=0)) iDT iDF (fun q3=>?_) (fun q4=>?_)
  · have hz0:c=0:=q3;refine V.g [.k (ag (DBig.mk 0 ⟨[],{}⟩)),.k (ag (DBig.mk 0 ⟨[],{}⟩)),.st 2 (fun _=>.blk ((G1 2).b) (ca (DBig.mk 0 ⟨[],{}⟩)) 27),.st 3 (fun _=>.blk ((G1 3).b) (ca (DBig.mk 0 ⟨[],{}⟩)) 27),.k (iv 15)] fun _ _ G5=>?_;intro S s
    refine V.nilF (α:=Int) ?_;refine V.nilF (α:=Int) ?_;have e1:([]:List Int)=Bg.oD ((Bg.RtB j i∧Bg.RtB c d)∧c≠0) (Bg.flo (Bg.zv j i) (Bg.zv c d)):=(Bg.oD_n (fun h=>h.2 hz0) _).symm;rw [←e1];have e3:([]:List Int)=Bg.oD ((Bg.RtB j i∧Bg.RtB c d)∧c≠0) (Bg.fmo (Bg.zv j i) (Bg.zv c d)):=(Bg.oD_n (fun h=>h.2 hz0) _).symm;rw [←e3];have e0:(0:Int)=Bg.oS ((Bg.RtB j i∧Bg.RtB c d)∧c≠0) (Bg.flo (Bg.zv j i) (Bg.zv c d)):=(Bg.oS_n (fun h=>h.2 hz0) _).symm;have e2:(0:Int)=Bg.oS ((Bg.RtB j i∧Bg.RtB c d)∧c≠0) (Bg.fmo (Bg.zv j i) (Bg.zv c d)):=(Bg.oS_n (fun h=>h.2 hz0) _).symm;have e4:(15:Int)=if ¬ (Bg.RtB j i∧Bg.RtB c d) then (1:Int) else if c=0 then 15 else 0:=by rw [if_neg (fun h=>h hRR),if_pos hz0]
    exact V.rt [2,3,0] [{},{}] [fun _=>{},fun _=>{}] [] [2,3] [] (.tuple #[ag (DBig.mk 0 ⟨([]:List Int),{}⟩),ag (DBig.mk 0 ⟨([]:List Int),{}⟩),iv 15]) (cong3 (fun (x0 x2 x4:Int)=>(.tuple #[.agg #[iv x0,SV.v ({})],.agg #[iv x2,SV.v ({})],iv x4]:Value)) e0 e2 e4)
  have hz0:¬ c=0:=q4;have hPD:((Bg.RtB j i∧Bg.RtB c d)∧c≠0):=⟨hRR,hz0⟩;have hnz:=Bg.nv_pos hRR.2 hz0;have hml:=Nat.mod_lt (Bg.nv i) (Nat.pos_of_ne_zero hnz.1);have hmle:Bg.nv (Bg.dig (Bg.nv i % Bg.nv d))≤Bg.nv d:=by rw [Bg.nv_dig];omega
  have hll1:=Bg.dig_len_mono' (Nat.div_le_self (Bg.nv i) (Bg.nv d));have hll2:=Bg.dig_len_mono' (Nat.mod_le (Bg.nv i) (Bg.nv d));have hll3:=Bg.dig_le hRR.1.dg;refine nl (Bg.dig (Bg.nv i / Bg.nv d)) fun l1 hl1 hl1n=>?_;refine nl (Bg.dig (Bg.nv i % Bg.nv d)) fun l2 hl2 hl2n=>?_;refine V.r [.k (pp ((G1 0).b) 1),.ld 0 1 false (fun _=>[n.v]),.k (pp ((G1 1).b) 1),.ld 1 1 false (fun _=>[l.v]),.ct g0 4 118 false [] [] [(kf false (.f 0) i (fun _=>n)).a,(kf false (.f 1) d (fun _=>l)).a] (fun _ G=>r4over_ctv i n d l hRR.1.dg hRR.2.dg (Nat.pos_of_ne_zero hnz.1) (by omega) (by omega) l1 hl1 l2 hl2),.v fun G=>.tuple #[((G 4).ss 0).v,((G 4).ss 1).v],.v fun G=>((G 4).ss 0).v,.v fun G=>((G 4).ss 1).v,.v fun G=>((G 4).ss 0).v,.v fun G=>((G 4).ss 1).v] fun _ _ G6 kw6=>?_;intro S s
  obtain ⟨⟨kl3, -⟩,⟨kl4, -⟩, -⟩:Lq l1 (((G6 4).ss 0).v)∧Lq l2 (((G6 4).ss 1).v)∧True:=kq kw6;clear kw6;refine nm (j * c:Int) fun n1 hn1=>?_;refine nm ((decide (0≤n1)) || (decide ((l2.length:Int)=0)):Bool) fun p2 hp2=>?_;refine V.g [.k (pp ((G1 0).b) 0),.ld 0 0 false (fun _=>[iv j]),.k (pp ((G1 1).b) 0),.ld 1 0 false (fun _=>[iv c]),.ar (j * c) n1 hn1 (by rw [hn1];exact hsm.1) (by rw [hn1];exact hsm.2),.k (bv (decide (0≤n1))),.k (bv (decide (0≤n1))),.k (((G6 4).ss 1).v),.ln (kf true (.f 3) l2 (fun _=>(G6 4).ss 1)),.k (bv (decide ((l2.length:Int)=0))),.orn g0 false (decide (0≤n1)) (decide ((l2.length:Int)=0)) p2 hp2] fun _ _ G7=>?_;intro S s;refine V.cn (b:=p2) (iN hp2 (iOT iDT iDT)) (iN hp2 (iOF iDF iDF)) (fun q5=>?_) (fun q6=>?_)
  · have hnn:0≤j * c∨Bg.nv i % Bg.nv d=0:=by have hqq:=q5;subst_vars;rcases hqq with h | h;exact .inl h;right;exact Bg.len_dig0.1 (by omega)
    refine nm (Bg.sg0 (Bg.nv l1) n1:Int) fun n2 hn2=>?_;refine nl (Bg.dig (Bg.nv l1)) fun l3 hl3 hl3n=>?_;refine nm (Bg.sg0 (Bg.nv l2) j:Int) fun n3 hn3=>?_;refine nl (Bg.dig (Bg.nv l2)) fun l4 hl4 hl4n=>?_;refine V.r [.k (pp ((G1 0).b) 0),.ld 0 0 false (fun _=>[iv j]),.k (pp ((G1 1).b) 0),.ld 1 0 false (fun _=>[iv c]),.ar (j * c) n1 hn1 (by rw [hn1];exact hsm.1) (by rw [hn1];exact hsm.2),.k (((G6 4).ss 0).v),.ct g0 6 119 false [] [] [(kf true (.f 2) l1 (fun _=>(G6 4).ss 0)).a] (fun _ G=>r4made_ctv n1 l1 ((G6 4).ss 0) (by subst_vars;exact Bg.dig_Dg _) (by omega) n2 hn2 l3 hl3),.k (pp ((G1 0).b) 0),.ld 0 0 false (fun _=>[iv j]),.k (((G6 4).ss 1).v),.ct g0 10 119 false [] [] [(kf true (.f 3) l2 (fun _=>(G6 4).ss 1)).a] (fun _ G=>r4made_ctv j l2 ((G6 4).ss 1) (by subst_vars;exact Bg.dig_Dg _) (by omega) n3 hn3 l4 hl4),.st 2 (fun G=>.blk ((G1 2).b) (ca (DBig.mk n2 ⟨l3,(G 6).ss 0⟩)) 27),.st 3 (fun G=>.blk ((G1 3).b) (ca (DBig.mk n3 ⟨l4,(G 10).ss 0⟩)) 27),.k (iv 0)] fun _ _ G8 kw8=>?_;intro S s
    obtain ⟨⟨kl5, -⟩,⟨kl6, -⟩, -⟩:Lq l3 (((G8 6).ss 0).v)∧Lq l4 (((G8 10).ss 0).v)∧True:=kq kw8;clear kw8;have e1:l3=Bg.oD ((Bg.RtB j i∧Bg.RtB c d)∧c≠0) (Bg.flo (Bg.zv j i) (Bg.zv c d)):=by
      rw [hl3,hl1];rw [Bg.oD_y hPD];exact Bg.qD hRR.1 hRR.2 hnz.1 hnn
    subst e1;have e3:l4=Bg.oD ((Bg.RtB j i∧Bg.RtB c d)∧c≠0) (Bg.fmo (Bg.zv j i) (Bg.zv c d)):=by
      rw [hl4,hl2];rw [Bg.oD_y hPD];exact Bg.rD hRR.1 hRR.2 hnz.1 hnn
    subst e3;have e0:n2=Bg.oS ((Bg.RtB j i∧Bg.RtB c d)∧c≠0) (Bg.flo (Bg.zv j i) (Bg.zv c d)):=by
      rw [hn2,hn1,hl1];rw [Bg.oS_y hPD];exact Bg.qS hRR.1 hRR.2 hnz.1 hnn
    have e2:n3=Bg.oS ((Bg.RtB j i∧Bg.RtB c d)∧c≠0) (Bg.fmo (Bg.zv j i) (Bg.zv c d)):=by
      rw [hn3,hl2];rw [Bg.oS_y hPD];exact Bg.rS hRR.1 hRR.2 hnz.1 hnn
    have e4:(0:Int)=if ¬ (Bg.RtB j i∧Bg.RtB c d) then (1:Int) else if c=0 then 15 else 0:=by rw [if_neg (fun h=>h hRR),if_neg hz0]
    exact V.rt [2,3,0] [(G8 6).ss 0,(G8 10).ss 0] [fun _=>{},fun _=>{}] [] [4,5] [] (.tuple #[ag (DBig.mk n2 ⟨(Bg.oD ((Bg.RtB j i∧Bg.RtB c d)∧c≠0) (Bg.flo (Bg.zv j i) (Bg.zv c d))),(G8 6).ss 0⟩),ag (DBig.mk n3 ⟨(Bg.oD ((Bg.RtB j i∧Bg.RtB c d)∧c≠0) (Bg.fmo (Bg.zv j i) (Bg.zv c d))),(G8 10).ss 0⟩),iv 0]) (cong3 (fun (x0 x2 x4:Int)=>(.tuple #[.agg #[iv x0,((G8 6).ss 0).v],.agg #[iv x2,((G8 10).ss 0).v],iv x4]:Value)) e0 e2 e4)
  have hng:j * c < 0:=by have:=q6;omega
  have hr0:Bg.nv i % Bg.nv d≠0:=fun e=>by have:=q6;subst_vars;rw [e,Bg.dig_zero] at this;simp at this
  refine nl (Bg.dig (Bg.nv l1+Bg.nv ([1]:List Int))) fun l5 hl5 hl5n=>?_;refine nm (Bg.sg0 (Bg.nv l5) (-1:Int):Int) fun n4 hn4=>?_;refine nl (Bg.dig (Bg.nv l5)) fun l6 hl6 hl6n=>?_;refine nl (Bg.dig (Bg.nv d-Bg.nv l2)) fun l7 hl7 hl7n=>?_;refine nm (Bg.sg0 (Bg.nv l7) c:Int) fun n5 hn5=>?_;refine nl (Bg.dig (Bg.nv l7)) fun l8 hl8 hl8n=>?_;have hL8:=Bg.add1_len (m:=d) hRR.1.dg
  have hL9:=Nat.le_trans (Bg.dig_len_mono' (Nat.sub_le (Bg.nv d) (Bg.nv (Bg.dig (Bg.nv i % Bg.nv d))))) (Bg.dig_le hRR.2.dg);refine V.r [.k (((G6 4).ss 0).v),.nr 1 true 3 ([1]:List Int) [] (fun _ _ _ _ _=>trivial) (fun _=>#[iv 1]),.ct g0 2 131 false [] [] [(kf true (.f 2) l1 (fun _=>(G6 4).ss 0)).a,(kf true (.g 1 0) ([1]:List Int) (fun G=>⟨atB (G 1).b,1,1⟩)).a] (fun _ G=>r4plus_ctv l1 ((G6 4).ss 0) ([1]:List Int) ⟨atB (G 1).b,1,1⟩ (by subst_vars;exact Bg.dig_Dg _) (Bg.Dg.one (by omega)) (by omega) (by simp) l5 hl5),.ct g0 3 119 false [] [] [(kf true (.g 2 0) l5 (fun G=>(G 2).ss 0)).a] (fun _ G=>r4made_ctv (-1:Int) l5 ((G 2).ss 0) (by subst_vars;exact Bg.dig_Dg _) (by subst_vars;omega) n4 hn4 l6 hl6),.k (pp ((G1 1).b) 0),.ld 1 0 false (fun _=>[iv c]),.k (pp ((G1 1).b) 1),.ld 1 1 false (fun _=>[l.v]),.k (((G6 4).ss 1).v),.ct g0 9 132 false [] [] [(kf false (.f 1) d (fun _=>l)).a,(kf true (.f 3) l2 (fun _=>(G6 4).ss 1)).a] (fun _ G=>r4minus_ctv d l l2 ((G6 4).ss 1) hRR.2.dg (by subst_vars;exact Bg.dig_Dg _) (by omega) (by subst_vars;exact hmle) l7 hl7),.ct g0 10 119 false [] [] [(kf true (.g 9 0) l7 (fun G=>(G 9).ss 0)).a] (fun _ G=>r4made_ctv c l7 ((G 9).ss 0) (by subst_vars;exact Bg.dig_Dg _) (by subst_vars;omega) n5 hn5 l8 hl8),.st 2 (fun G=>.blk ((G1 2).b) (ca (DBig.mk n4 ⟨l6,(G 3).ss 0⟩)) 27),.st 3 (fun G=>.blk ((G1 3).b) (ca (DBig.mk n5 ⟨l8,(G 10).ss 0⟩)) 27),.k (iv 0)] fun _ _ G9 kw9=>?_;intro S s
  obtain ⟨⟨kl7, -⟩,⟨kl8, -⟩,⟨kl9, -⟩,⟨kl10, -⟩,⟨kl11, -⟩, -⟩:Lq ([1]:List Int) (SV.v ⟨atB (G9 1).b,1,1⟩)∧Lq l5 (((G9 2).ss 0).v)∧Lq l6 (((G9 3).ss 0).v)∧Lq l7 (((G9 9).ss 0).v)∧Lq l8 (((G9 10).ss 0).v)∧True:=kq kw9;clear kw9;have e1:l6=Bg.oD ((Bg.RtB j i∧Bg.RtB c d)∧c≠0) (Bg.flo (Bg.zv j i) (Bg.zv c d)):=by
    rw [hl6,hl5,hl1];rw [Bg.oD_y hPD];exact Bg.dqD hRR.1 hRR.2 hnz.1 hng hr0
  subst e1;have e3:l8=Bg.oD ((Bg.RtB j i∧Bg.RtB c d)∧c≠0) (Bg.fmo (Bg.zv j i) (Bg.zv c d)):=by
    rw [hl8,hl7,hl2];rw [Bg.oD_y hPD];exact Bg.drD hRR.1 hRR.2 hnz.1 hng hr0
  subst e3;have e0:n4=Bg.oS ((Bg.RtB j i∧Bg.RtB c d)∧c≠0) (Bg.flo (Bg.zv j i) (Bg.zv c d)):=by
    rw [hn4,hl5,hl1];rw [Bg.oS_y hPD];exact Bg.dqS hRR.1 hRR.2 hnz.1 hng hr0
  have e2:n5=Bg.oS ((Bg.RtB j i∧Bg.RtB c d)∧c≠0) (Bg.fmo (Bg.zv j i) (Bg.zv c d)):=by
    rw [hn5,hl7,hl2];rw [Bg.oS_y hPD];exact Bg.drS hRR.1 hRR.2 hnz.1 hng hr0
  have e4:(0:Int)=if ¬ (Bg.RtB j i∧Bg.RtB c d) then (1:Int) else if c=0 then 15 else 0:=by rw [if_neg (fun h=>h hRR),if_neg hz0]
  exact V.rt [2,3,0] [(G9 3).ss 0,(G9 10).ss 0] [fun _=>{},fun _=>{}] [] [6,8] [] (.tuple #[ag (DBig.mk n4 ⟨(Bg.oD ((Bg.RtB j i∧Bg.RtB c d)∧c≠0) (Bg.flo (Bg.zv j i) (Bg.zv c d))),(G9 3).ss 0⟩),ag (DBig.mk n5 ⟨(Bg.oD ((Bg.RtB j i∧Bg.RtB c d)∧c≠0) (Bg.fmo (Bg.zv j i) (Bg.zv c d))),(G9 10).ss 0⟩),iv 0]) (cong3 (fun (x0 x2 x4:Int)=>(.tuple #[.agg #[iv x0,((G9 3).ss 0).v],.agg #[iv x2,((G9 10).ss 0).v],iv x4]:Value)) e0 e2 e4)
theorem r4div_ctv (d:Int) (b:List Int) (e:SV) (a:Int) (c:List Int) (f:SV) (hla:b.length≤17179869184) (hlb:c.length≤17179869184) (rv0:Int) (erv0:rv0=Bg.oS ((Bg.RtB d b∧Bg.RtB a c)∧a≠0) (Bg.flo (Bg.zv d b) (Bg.zv a c))) (rv1:List Int) (erv1:rv1=Bg.oD ((Bg.RtB d b∧Bg.RtB a c)∧a≠0) (Bg.flo (Bg.zv d b) (Bg.zv a c))) (rv2:Int) (erv2:rv2=Bg.oS ((Bg.RtB d b∧Bg.RtB a c)∧a≠0) (Bg.fmo (Bg.zv d b) (Bg.zv a c))) (rv3:List Int) (erv3:rv3=Bg.oD ((Bg.RtB d b∧Bg.RtB a c)∧a≠0) (Bg.fmo (Bg.zv d b) (Bg.zv a c))) (rv4:Int) (erv4:rv4=if ¬ (Bg.RtB d b∧Bg.RtB a c) then (1:Int) else if a=0 then 15 else 0) :
    Ct Tryz.prog 130 #[ag (DBig.mk d ⟨b,e⟩),ag (DBig.mk a ⟨c,f⟩)] [fs true b e,fs true c f] [] (fun g=>.tuple #[ag (DBig.mk rv0 ⟨rv1,(g.ss 0)⟩),ag (DBig.mk rv2 ⟨rv3,(g.ss 1)⟩),iv rv4]) (fun g=>[fs true rv1 (g.ss 0),fs true rv3 (g.ss 1)]) (fun g=>[]) (fun g=>[]):=by
  subst erv0 erv1 erv2 erv3 erv4;exact r4div_ct d b e a c f hla hlb
set_option maxRecDepth 10000 in
theorem r5new_ct (i:Int) (d:List Int) (j:SV) (c:Int) (e:List Int) (l:SV) (hlp:d.length≤17179869184) (hlq:e.length≤17179869184) :
    Ct Tryz.prog 91 #[ag (DBig.mk i ⟨d,j⟩),ag (DBig.mk c ⟨e,l⟩)] [fs true d j,fs true e l] [] (fun g=>.tuple #[ag (DFrac.mk ⟨(Fr.rS ((Bg.RtB i d∧Bg.RtB c e)∧c≠0) (Rat.divInt (Bg.zv i d) (Bg.zv c e))),Fr.rD ((Bg.RtB i d∧Bg.RtB c e)∧c≠0) (Rat.divInt (Bg.zv i d) (Bg.zv c e)),(g.ss 0)⟩ ⟨(Fr.rT ((Bg.RtB i d∧Bg.RtB c e)∧c≠0)),Fr.rE ((Bg.RtB i d∧Bg.RtB c e)∧c≠0) (Rat.divInt (Bg.zv i d) (Bg.zv c e)),(g.ss 1)⟩),iv (if ¬ (Bg.RtB i d∧Bg.RtB c e) then (1:Int) else if c=0 then 15 else 0)]) (fun g=>[fs true (Fr.rD ((Bg.RtB i d∧Bg.RtB c e)∧c≠0) (Rat.divInt (Bg.zv i d) (Bg.zv c e))) (g.ss 0),fs true (Fr.rE ((Bg.RtB i d∧Bg.RtB c e)∧c≠0) (Rat.divInt (Bg.zv i d) (Bg.zv c e))) (g.ss 1)]) (fun g=>[]) (fun g=>[]):=by
  refine V.fn mo Tryz.func91 57 8 (by kernel_rfl) fun w H ε k0=>?_;obtain ⟨⟨kl1, -⟩,⟨kl2, -⟩, -⟩:Lq d j.v∧Lq e l.v∧True:=kq k0
  clear k0;refine V.g [.nb 0 0 (fun b=>pp b 0) 27 (fun _=>ca (DBig.mk i ⟨d,j⟩)),.nb 1 1 (fun b=>pp b 0) 27 (fun _=>ca (DBig.mk c ⟨e,l⟩)),.nb 2 2 (fun b=>pp b 0) 29 (fun _=>ca (DFrac.mk ⟨0,[],{}⟩ ⟨0,[],{}⟩)),.k (iv 0)] fun _ _ G1=>?_;intro S s
  refine nm ((!(decide (Bg.RtB i d))) || (!(decide (Bg.RtB c e))):Bool) fun p1 hp1=>?_;refine V.g [.ld 0 0 true (fun _=>Dat.cells (DBig.mk i ⟨d,j⟩)),.cp g0 1 80 [(kf false (.f 0) d (fun _=>j)).a] (fun _ G=>r4right_ct i d j),.k (bv (!(decide (Bg.RtB i d)))),.k (bv (!(decide (Bg.RtB i d)))),.ld 1 0 true (fun _=>Dat.cells (DBig.mk c ⟨e,l⟩)),.cp (gF (b:=!(decide (Bg.RtB i d))) (iNF iDT)) 5 80 [(kf false (.f 1) e (fun _=>l)).a] (fun hg G=>r4right_ct c e l),.k (bv (!(decide (Bg.RtB c e)))),.orn g0 false (!(decide (Bg.RtB i d))) (!(decide (Bg.RtB c e))) p1 hp1] fun _ _ G2=>?_;intro S s
  refine V.cn (b:=p1) (iN hp1 (iOT (iNT iDF) (iNT iDF))) (iN hp1 (iOF (iNF iDT) (iNF iDT))) (fun q1=>?_) (fun q2=>?_)
  · have hNR:¬ (Bg.RtB i d∧Bg.RtB c e):=by rintro ⟨h1,h2⟩;rcases q1 with h | h;exact h h1;exact h h2
    refine V.g [.k (ag (DFrac.mk ⟨0,[],{}⟩ ⟨0,[],{}⟩)),.st 2 (fun _=>.blk ((G1 2).b) (ca (DFrac.mk ⟨0,[],{}⟩ ⟨0,[],{}⟩)) 29),.k (iv 1)] fun _ _ G3=>?_;intro S s
    refine V.nilF (α:=Int) ?_;refine V.nilF (α:=Int) ?_;have e1:([]:List Int)=Fr.rD ((Bg.RtB i d∧Bg.RtB c e)∧c≠0) (Rat.divInt (Bg.zv i d) (Bg.zv c e)):=(Fr.Fz.no (fun h=>hNR h.1) (Rat.divInt (Bg.zv i d) (Bg.zv c e))).2.1;rw [←e1];have e3:([]:List Int)=Fr.rE ((Bg.RtB i d∧Bg.RtB c e)∧c≠0) (Rat.divInt (Bg.zv i d) (Bg.zv c e)):=(Fr.Fz.no (fun h=>hNR h.1) (Rat.divInt (Bg.zv i d) (Bg.zv c e))).2.2.2;rw [←e3];have e0:(0:Int)=Fr.rS ((Bg.RtB i d∧Bg.RtB c e)∧c≠0) (Rat.divInt (Bg.zv i d) (Bg.zv c e)):=(Fr.Fz.no (fun h=>hNR h.1) (Rat.divInt (Bg.zv i d) (Bg.zv c e))).1;have e2:(0:Int)=Fr.rT ((Bg.RtB i d∧Bg.RtB c e)∧c≠0):=(Fr.Fz.no (fun h=>hNR h.1) (Rat.divInt (Bg.zv i d) (Bg.zv c e))).2.2.1;have e4:(1:Int)=if ¬ (Bg.RtB i d∧Bg.RtB c e) then (1:Int) else if c=0 then 15 else 0:=(if_pos hNR).symm
    exact V.rt [2,0] [{},{}] [fun _=>{},fun _=>{}] [] [2,3] [] (.tuple #[ag (DFrac.mk ⟨0,([]:List Int),{}⟩ ⟨0,([]:List Int),{}⟩),iv 1]) (cong3 (fun (x0 x2 x4:Int)=>(.tuple #[.agg #[iv x0,SV.v ({}),iv x2,SV.v ({})],iv x4]:Value)) e0 e2 e4)
  have hRR:(Bg.RtB i d∧Bg.RtB c e):=by first | exact q2 | exact ⟨Decidable.not_not.1 (q2).1,Decidable.not_not.1 (q2).2⟩
  refine V.g [.k (pp ((G1 1).b) 0),.ld 1 0 false (fun _=>[iv c]),.k (bv (decide (c=0)))] fun _ _ G4=>?_;intro S s
  refine V.cn (b:=decide (c=0)) iDT iDF (fun q3=>?_) (fun q4=>?_)
  · have hz0:c=0:=q3;refine V.g [.k (ag (DFrac.mk ⟨0,[],{}⟩ ⟨0,[],{}⟩)),.st 2 (fun _=>.blk ((G1 2).b) (ca (DFrac.mk ⟨0,[],{}⟩ ⟨0,[],{}⟩)) 29),.k (iv 15)] fun _ _ G5=>?_;intro S s
    refine V.nilF (α:=Int) ?_;refine V.nilF (α:=Int) ?_;have e1:([]:List Int)=Fr.rD ((Bg.RtB i d∧Bg.RtB c e)∧c≠0) (Rat.divInt (Bg.zv i d) (Bg.zv c e)):=(Fr.Fz.no (fun h=>h.2 hz0) (Rat.divInt (Bg.zv i d) (Bg.zv c e))).2.1;rw [←e1];have e3:([]:List Int)=Fr.rE ((Bg.RtB i d∧Bg.RtB c e)∧c≠0) (Rat.divInt (Bg.zv i d) (Bg.zv c e)):=(Fr.Fz.no (fun h=>h.2 hz0) (Rat.divInt (Bg.zv i d) (Bg.zv c e))).2.2.2;rw [←e3];have e0:(0:Int)=Fr.rS ((Bg.RtB i d∧Bg.RtB c e)∧c≠0) (Rat.divInt (Bg.zv i d) (Bg.zv c e)):=(Fr.Fz.no (fun h=>h.2 hz0) (Rat.divInt (Bg.zv i d) (Bg.zv c e))).1;have e2:(0:Int)=Fr.rT ((Bg.RtB i d∧Bg.RtB c e)∧c≠0):=(Fr.Fz.no (fun h=>h.2 hz0) (Rat.divInt (Bg.zv i d) (Bg.zv c e))).2.2.1;have e4:(15:Int)=if ¬ (Bg.RtB i d∧Bg.RtB c e) then (1:Int) else if c=0 then 15 else 0:=by rw [if_neg (fun h=>h hRR),if_pos hz0]
    exact V.rt [2,0] [{},{}] [fun _=>{},fun _=>{}] [] [2,3] [] (.tuple #[ag (DFrac.mk ⟨0,([]:List Int),{}⟩ ⟨0,([]:List Int),{}⟩),iv 15]) (cong3 (fun (x0 x2 x4:Int)=>(.tuple #[.agg #[iv x0,SV.v ({}),iv x2,SV.v ({})],iv x4]:Value)) e0 e2 e4)
  have hz0:¬ c=0:=q4;refine V.g [.k (pp ((G1 1).b) 0),.ld 1 0 false (fun _=>[iv c]),.k (bv (decide (c < 0)))] fun _ _ G6=>?_;intro S s
  refine V.cn (b:=decide (c < 0)) iDT iDF (fun q5=>?_) (fun q6=>?_)
  · refine nm (Bg.oS (Bg.RtB i d) (-Bg.zv i d):Int) fun n1 hn1=>?_;refine nl (Bg.oD (Bg.RtB i d) (-Bg.zv i d)) fun l1 hl1 hl1n=>?_;obtain ⟨zp,zpl⟩:=Fr.Bz.neg (Fr.RtB.z hRR.1) hn1 hl1
    have hyp:0 < -(Bg.zv c e):=by have:=(Fr.RtB.z hRR.2).neg0 q5;omega
    have hdv:Rat.divInt (-(Bg.zv i d)) (-(Bg.zv c e))=Rat.divInt (Bg.zv i d) (Bg.zv c e):=Rat.neg_divInt_neg _ _;refine V.r [.ld 0 0 true (fun _=>Dat.cells (DBig.mk i ⟨d,j⟩)),.ct g0 1 129 false [] [] [(kf false (.f 0) d (fun _=>j)).a] (fun _ G=>r4neg_ctv i d j (by omega) n1 hn1 l1 hl1),.st 0 (fun G=>.blk ((G1 0).b) (ca (DBig.mk n1 ⟨l1,(G 1).ss 0⟩)) 27)] fun _ _ G7 kw7=>?_;intro S s
    obtain ⟨⟨kl3, -⟩, -⟩:Lq l1 (((G7 1).ss 0).v)∧True:=kq kw7;clear kw7;refine nm (Bg.oS (Bg.RtB c e) (-Bg.zv c e):Int) fun n2 hn2=>?_;refine nl (Bg.oD (Bg.RtB c e) (-Bg.zv c e)) fun l2 hl2 hl2n=>?_;obtain ⟨zq,zql⟩:=Fr.Bz.neg (Fr.RtB.z hRR.2) hn2 hl2;refine V.r [.ld 1 0 true (fun _=>Dat.cells (DBig.mk c ⟨e,l⟩)),.ct g0 1 129 false [] [] [(kf false (.f 1) e (fun _=>l)).a] (fun _ G=>r4neg_ctv c e l (by omega) n2 hn2 l2 hl2),.st 1 (fun G=>.blk ((G1 1).b) (ca (DBig.mk n2 ⟨l2,(G 1).ss 0⟩)) 27)] fun _ _ G8 kw8=>?_;intro S s;obtain ⟨⟨kl4, -⟩, -⟩:Lq l2 (((G8 1).ss 0).v)∧True:=kq kw8;clear kw8;refine nm (Bg.oS (Bg.RtB n1 l1∧Bg.RtB n2 l2) ((Nat.gcd (Bg.nv l1) (Bg.nv l2):Int)):Int) fun n3 hn3=>?_;refine nl (Bg.oD (Bg.RtB n1 l1∧Bg.RtB n2 l2) ((Nat.gcd (Bg.nv l1) (Bg.nv l2):Int))) fun l3 hl3 hl3n=>?_;refine nm (if (Bg.RtB n1 l1∧Bg.RtB n2 l2) then (0:Int) else 1:Int) fun n4 hn4=>?_;have zg:=Fr.Bz.gcd zp zq hn3 hl3;have zgl:=Fr.Bz.gcd_len zp zq hyp zg;have hg0:=Fr.gcd_pos zg hyp;refine V.r [.ld 0 0 true (fun _=>Dat.cells (DBig.mk n1 ⟨l1,(G7 1).ss 0⟩)),.ld 1 0 true (fun _=>Dat.cells (DBig.mk n2 ⟨l2,(G8 1).ss 0⟩)),.ct g0 2 81 false [] [] [(kf true (.f 2) l1 (fun _=>(G7 1).ss 0)).a,(kf true (.f 3) l2 (fun _=>(G8 1).ss 0)).a] (fun _ G=>r4gcd_ctv n1 l1 ((G7 1).ss 0) n2 l2 ((G8 1).ss 0) (by omega) (by omega) n3 hn3 l3 hl3 n4 hn4),.v fun G=>.tuple #[ag (DBig.mk n3 ⟨l3,(G 2).ss 0⟩),iv n4],.v fun G=>ag (DBig.mk n3 ⟨l3,(G 2).ss 0⟩),.k (iv n4),.nb 6 3 (fun b=>pp b 0) 27 (fun _=>ca (DBig.mk 0 ⟨[],{}⟩)),.st 3 (fun G=>.blk ((G 6).b) (ca (DBig.mk n3 ⟨l3,(G 2).ss 0⟩)) 27),.k (iv n4)] fun _ _ G9 kw9=>?_;intro S s;obtain ⟨⟨kl5, -⟩, -⟩:Lq l3 (((G9 2).ss 0).v)∧True:=kq kw9;clear kw9;refine nm (Bg.oS ((Bg.RtB n1 l1∧Bg.RtB n3 l3)∧n3≠0) (Bg.flo (Bg.zv n1 l1) (Bg.zv n3 l3)):Int) fun n5 hn5=>?_;refine nl (Bg.oD ((Bg.RtB n1 l1∧Bg.RtB n3 l3)∧n3≠0) (Bg.flo (Bg.zv n1 l1) (Bg.zv n3 l3))) fun l4 hl4 hl4n=>?_;refine nm (Bg.oS ((Bg.RtB n1 l1∧Bg.RtB n3 l3)∧n3≠0) (Bg.fmo (Bg.zv n1 l1) (Bg.zv n3 l3)):Int) fun n6 hn6=>?_;refine nl (Bg.oD ((Bg.RtB n1 l1∧Bg.RtB n3 l3)∧n3≠0) (Bg.fmo (Bg.zv n1 l1) (Bg.zv n3 l3))) fun l5 hl5 hl5n=>?_;refine nm (if ¬ (Bg.RtB n1 l1∧Bg.RtB n3 l3) then (1:Int) else if n3=0 then 15 else 0:Int) fun n7 hn7=>?_;have za:=Fr.Bz.div zp zg hg0 hn5 hl4;refine V.r [.ld 0 0 true (fun _=>Dat.cells (DBig.mk n1 ⟨l1,(G7 1).ss 0⟩)),.ld 3 0 true (fun _=>Dat.cells (DBig.mk n3 ⟨l3,(G9 2).ss 0⟩)),.ct g0 2 130 false [] [] [(kf true (.f 2) l1 (fun _=>(G7 1).ss 0)).a,(kf true (.f 4) l3 (fun _=>(G9 2).ss 0)).a] (fun _ G=>r4div_ctv n1 l1 ((G7 1).ss 0) n3 l3 ((G9 2).ss 0) (by omega) (by omega) n5 hn5 l4 hl4 n6 hn6 l5 hl5 n7 hn7),.v fun G=>.tuple #[ag (DBig.mk n5 ⟨l4,(G 2).ss 0⟩),ag (DBig.mk n6 ⟨l5,(G 2).ss 1⟩),iv n7],.v fun G=>ag (DBig.mk n5 ⟨l4,(G 2).ss 0⟩),.v fun G=>ag (DBig.mk n6 ⟨l5,(G 2).ss 1⟩),.k (iv n7),.nb 7 4 (fun b=>pp b 0) 27 (fun _=>ca (DBig.mk 0 ⟨[],{}⟩)),.nb 8 5 (fun b=>pp b 0) 27 (fun _=>ca (DBig.mk 0 ⟨[],{}⟩)),.st 4 (fun G=>.blk ((G 7).b) (ca (DBig.mk n5 ⟨l4,(G 2).ss 0⟩)) 27),.st 5 (fun G=>.blk ((G 8).b) (ca (DBig.mk n6 ⟨l5,(G 2).ss 1⟩)) 27),.k (iv n7)] fun _ _ G10 kw10=>?_;intro S s;obtain ⟨⟨kl6, -⟩,⟨kl7, -⟩, -⟩:Lq l4 (((G10 2).ss 0).v)∧Lq l5 (((G10 2).ss 1).v)∧True:=kq kw10;clear kw10;refine nm (Bg.oS ((Bg.RtB n2 l2∧Bg.RtB n3 l3)∧n3≠0) (Bg.flo (Bg.zv n2 l2) (Bg.zv n3 l3)):Int) fun n8 hn8=>?_;refine nl (Bg.oD ((Bg.RtB n2 l2∧Bg.RtB n3 l3)∧n3≠0) (Bg.flo (Bg.zv n2 l2) (Bg.zv n3 l3))) fun l6 hl6 hl6n=>?_;refine nm (Bg.oS ((Bg.RtB n2 l2∧Bg.RtB n3 l3)∧n3≠0) (Bg.fmo (Bg.zv n2 l2) (Bg.zv n3 l3)):Int) fun n9 hn9=>?_;refine nl (Bg.oD ((Bg.RtB n2 l2∧Bg.RtB n3 l3)∧n3≠0) (Bg.fmo (Bg.zv n2 l2) (Bg.zv n3 l3))) fun l7 hl7 hl7n=>?_;refine nm (if ¬ (Bg.RtB n2 l2∧Bg.RtB n3 l3) then (1:Int) else if n3=0 then 15 else 0:Int) fun n10 hn10=>?_;have zb:=Fr.Bz.div zq zg hg0 hn8 hl6;refine V.r [.ld 1 0 true (fun _=>Dat.cells (DBig.mk n2 ⟨l2,(G8 1).ss 0⟩)),.ld 3 0 true (fun _=>Dat.cells (DBig.mk n3 ⟨l3,(G9 2).ss 0⟩)),.ct g0 2 130 false [] [] [(kf true (.f 3) l2 (fun _=>(G8 1).ss 0)).a,(kf true (.f 4) l3 (fun _=>(G9 2).ss 0)).a] (fun _ G=>r4div_ctv n2 l2 ((G8 1).ss 0) n3 l3 ((G9 2).ss 0) (by omega) (by omega) n8 hn8 l6 hl6 n9 hn9 l7 hl7 n10 hn10),.v fun G=>.tuple #[ag (DBig.mk n8 ⟨l6,(G 2).ss 0⟩),ag (DBig.mk n9 ⟨l7,(G 2).ss 1⟩),iv n10],.v fun G=>ag (DBig.mk n8 ⟨l6,(G 2).ss 0⟩),.v fun G=>ag (DBig.mk n9 ⟨l7,(G 2).ss 1⟩),.k (iv n10),.nb 7 6 (fun b=>pp b 0) 27 (fun _=>ca (DBig.mk 0 ⟨[],{}⟩)),.nb 8 7 (fun b=>pp b 0) 27 (fun _=>ca (DBig.mk 0 ⟨[],{}⟩)),.st 6 (fun G=>.blk ((G 7).b) (ca (DBig.mk n8 ⟨l6,(G 2).ss 0⟩)) 27),.st 7 (fun G=>.blk ((G 8).b) (ca (DBig.mk n9 ⟨l7,(G 2).ss 1⟩)) 27),.k (iv n10)] fun _ _ G11 kw11=>?_;intro S s;obtain ⟨⟨kl8, -⟩,⟨kl9, -⟩, -⟩:Lq l6 (((G11 2).ss 0).v)∧Lq l7 (((G11 2).ss 1).v)∧True:=kq kw11;clear kw11;refine V.g [.ld 4 0 true (fun _=>Dat.cells (DBig.mk n5 ⟨l4,(G10 2).ss 0⟩)),.ld 6 0 true (fun _=>Dat.cells (DBig.mk n8 ⟨l6,(G11 2).ss 0⟩)),.k (ag (DFrac.mk ⟨n5,l4,(G10 2).ss 0⟩ ⟨n8,l6,(G11 2).ss 0⟩)),.st 2 (fun _=>.blk ((G1 2).b) (ca (DFrac.mk ⟨n5,l4,(G10 2).ss 0⟩ ⟨n8,l6,(G11 2).ss 0⟩)) 29),.k (iv 0)] fun _ _ G12=>?_;intro S s;have e1:l4=Fr.rD ((Bg.RtB i d∧Bg.RtB c e)∧c≠0) (Rat.divInt (Bg.zv i d) (Bg.zv c e)):=(Fr.Fz.ret (Fr.new_fin zp zq hyp zg za zb) ⟨hRR,hz0⟩ (hdv)).2.1;subst e1;have e3:l6=Fr.rE ((Bg.RtB i d∧Bg.RtB c e)∧c≠0) (Rat.divInt (Bg.zv i d) (Bg.zv c e)):=(Fr.Fz.ret (Fr.new_fin zp zq hyp zg za zb) ⟨hRR,hz0⟩ (hdv)).2.2.2;subst e3;have e0:n5=Fr.rS ((Bg.RtB i d∧Bg.RtB c e)∧c≠0) (Rat.divInt (Bg.zv i d) (Bg.zv c e)):=(Fr.Fz.ret (Fr.new_fin zp zq hyp zg za zb) ⟨hRR,hz0⟩ (hdv)).1;have e2:n8=Fr.rT ((Bg.RtB i d∧Bg.RtB c e)∧c≠0):=(Fr.Fz.ret (Fr.new_fin zp zq hyp zg za zb) ⟨hRR,hz0⟩ (hdv)).2.2.1;have e4:(0:Int)=if ¬ (Bg.RtB i d∧Bg.RtB c e) then (1:Int) else if c=0 then 15 else 0:=by rw [if_neg (fun h=>h hRR),if_neg hz0]
    exact V.rt [2,0] [(G10 2).ss 0,(G11 2).ss 0] [fun _=>{},fun _=>{}] [] [5,7] [] (.tuple #[ag (DFrac.mk ⟨n5,(Fr.rD ((Bg.RtB i d∧Bg.RtB c e)∧c≠0) (Rat.divInt (Bg.zv i d) (Bg.zv c e))),(G10 2).ss 0⟩ ⟨n8,(Fr.rE ((Bg.RtB i d∧Bg.RtB c e)∧c≠0) (Rat.divInt (Bg.zv i d) (Bg.zv c e))),(G11 2).ss 0⟩),iv 0]) (cong3 (fun (x0 x2 x4:Int)=>(.tuple #[.agg #[iv x0,((G10 2).ss 0).v,iv x2,((G11 2).ss 0).v],iv x4]:Value)) e0 e2 e4)
  have zp:=Fr.RtB.z hRR.1;have zq:=Fr.RtB.z hRR.2;have hyp:0 < (Bg.zv c e):=zq.pos (by omega);have hdv:Rat.divInt (Bg.zv i d) (Bg.zv c e)=Rat.divInt (Bg.zv i d) (Bg.zv c e):=rfl;refine nm (Bg.oS (Bg.RtB i d∧Bg.RtB c e) ((Nat.gcd (Bg.nv d) (Bg.nv e):Int)):Int) fun n11 hn11=>?_;refine nl (Bg.oD (Bg.RtB i d∧Bg.RtB c e) ((Nat.gcd (Bg.nv d) (Bg.nv e):Int))) fun l8 hl8 hl8n=>?_;refine nm (if (Bg.RtB i d∧Bg.RtB c e) then (0:Int) else 1:Int) fun n12 hn12=>?_;have zg:=Fr.Bz.gcd zp zq hn11 hl8
  have zgl:=Fr.Bz.gcd_len zp zq hyp zg;have hg0:=Fr.gcd_pos zg hyp;refine V.r [.ld 0 0 true (fun _=>Dat.cells (DBig.mk i ⟨d,j⟩)),.ld 1 0 true (fun _=>Dat.cells (DBig.mk c ⟨e,l⟩)),.ct g0 2 81 false [] [] [(kf false (.f 0) d (fun _=>j)).a,(kf false (.f 1) e (fun _=>l)).a] (fun _ G=>r4gcd_ctv i d j c e l (by omega) (by omega) n11 hn11 l8 hl8 n12 hn12),.v fun G=>.tuple #[ag (DBig.mk n11 ⟨l8,(G 2).ss 0⟩),iv n12],.v fun G=>ag (DBig.mk n11 ⟨l8,(G 2).ss 0⟩),.k (iv n12),.nb 6 3 (fun b=>pp b 0) 27 (fun _=>ca (DBig.mk 0 ⟨[],{}⟩)),.st 3 (fun G=>.blk ((G 6).b) (ca (DBig.mk n11 ⟨l8,(G 2).ss 0⟩)) 27),.k (iv n12)] fun _ _ G13 kw13=>?_;intro S s
  obtain ⟨⟨kl10, -⟩, -⟩:Lq l8 (((G13 2).ss 0).v)∧True:=kq kw13;clear kw13;refine nm (Bg.oS ((Bg.RtB i d∧Bg.RtB n11 l8)∧n11≠0) (Bg.flo (Bg.zv i d) (Bg.zv n11 l8)):Int) fun n13 hn13=>?_;refine nl (Bg.oD ((Bg.RtB i d∧Bg.RtB n11 l8)∧n11≠0) (Bg.flo (Bg.zv i d) (Bg.zv n11 l8))) fun l9 hl9 hl9n=>?_;refine nm (Bg.oS ((Bg.RtB i d∧Bg.RtB n11 l8)∧n11≠0) (Bg.fmo (Bg.zv i d) (Bg.zv n11 l8)):Int) fun n14 hn14=>?_;refine nl (Bg.oD ((Bg.RtB i d∧Bg.RtB n11 l8)∧n11≠0) (Bg.fmo (Bg.zv i d) (Bg.zv n11 l8))) fun l10 hl10 hl10n=>?_;refine nm (if ¬ (Bg.RtB i d∧Bg.RtB n11 l8) then (1:Int) else if n11=0 then 15 else 0:Int) fun n15 hn15=>?_;have za:=Fr.Bz.div zp zg hg0 hn13 hl9;refine V.r [.ld 0 0 true (fun _=>Dat.cells (DBig.mk i ⟨d,j⟩)),.ld 3 0 true (fun _=>Dat.cells (DBig.mk n11 ⟨l8,(G13 2).ss 0⟩)),.ct g0 2 130 false [] [] [(kf false (.f 0) d (fun _=>j)).a,(kf true (.f 2) l8 (fun _=>(G13 2).ss 0)).a] (fun _ G=>r4div_ctv i d j n11 l8 ((G13 2).ss 0) (by omega) (by omega) n13 hn13 l9 hl9 n14 hn14 l10 hl10 n15 hn15),.v fun G=>.tuple #[ag (DBig.mk n13 ⟨l9,(G 2).ss 0⟩),ag (DBig.mk n14 ⟨l10,(G 2).ss 1⟩),iv n15],.v fun G=>ag (DBig.mk n13 ⟨l9,(G 2).ss 0⟩),.v fun G=>ag (DBig.mk n14 ⟨l10,(G 2).ss 1⟩),.k (iv n15),.nb 7 4 (fun b=>pp b 0) 27 (fun _=>ca (DBig.mk 0 ⟨[],{}⟩)),.nb 8 5 (fun b=>pp b 0) 27 (fun _=>ca (DBig.mk 0 ⟨[],{}⟩)),.st 4 (fun G=>.blk ((G 7).b) (ca (DBig.mk n13 ⟨l9,(G 2).ss 0⟩)) 27),.st 5 (fun G=>.blk ((G 8).b) (ca (DBig.mk n14 ⟨l10,(G 2).ss 1⟩)) 27),.k (iv n15)] fun _ _ G14 kw14=>?_;intro S s;obtain ⟨⟨kl11, -⟩,⟨kl12, -⟩, -⟩:Lq l9 (((G14 2).ss 0).v)∧Lq l10 (((G14 2).ss 1).v)∧True:=kq kw14;clear kw14;refine nm (Bg.oS ((Bg.RtB c e∧Bg.RtB n11 l8)∧n11≠0) (Bg.flo (Bg.zv c e) (Bg.zv n11 l8)):Int) fun n16 hn16=>?_;refine nl (Bg.oD ((Bg.RtB c e∧Bg.RtB n11 l8)∧n11≠0) (Bg.flo (Bg.zv c e) (Bg.zv n11 l8))) fun l11 hl11 hl11n=>?_;refine nm (Bg.oS ((Bg.RtB c e∧Bg.RtB n11 l8)∧n11≠0) (Bg.fmo (Bg.zv c e) (Bg.zv n11 l8)):Int) fun n17 hn17=>?_;refine nl (Bg.oD ((Bg.RtB c e∧Bg.RtB n11 l8)∧n11≠0) (Bg.fmo (Bg.zv c e) (Bg.zv n11 l8))) fun l12 hl12 hl12n=>?_;refine nm (if ¬ (Bg.RtB c e∧Bg.RtB n11 l8) then (1:Int) else if n11=0 then 15 else 0:Int) fun n18 hn18=>?_;have zb:=Fr.Bz.div zq zg hg0 hn16 hl11;refine V.r [.ld 1 0 true (fun _=>Dat.cells (DBig.mk c ⟨e,l⟩)),.ld 3 0 true (fun _=>Dat.cells (DBig.mk n11 ⟨l8,(G13 2).ss 0⟩)),.ct g0 2 130 false [] [] [(kf false (.f 1) e (fun _=>l)).a,(kf true (.f 2) l8 (fun _=>(G13 2).ss 0)).a] (fun _ G=>r4div_ctv c e l n11 l8 ((G13 2).ss 0) (by omega) (by omega) n16 hn16 l11 hl11 n17 hn17 l12 hl12 n18 hn18),.v fun G=>.tuple #[ag (DBig.mk n16 ⟨l11,(G 2).ss 0⟩),ag (DBig.mk n17 ⟨l12,(G 2).ss 1⟩),iv n18],.v fun G=>ag (DBig.mk n16 ⟨l11,(G 2).ss 0⟩),.v fun G=>ag (DBig.mk n17 ⟨l12,(G 2).ss 1⟩),.k (iv n18),.nb 7 6 (fun b=>pp b 0) 27 (fun _=>ca (DBig.mk 0 ⟨[],{}⟩)),.nb 8 7 (fun b=>pp b 0) 27 (fun _=>ca (DBig.mk 0 ⟨[],{}⟩)),.st 6 (fun G=>.blk ((G 7).b) (ca (DBig.mk n16 ⟨l11,(G 2).ss 0⟩)) 27),.st 7 (fun G=>.blk ((G 8).b) (ca (DBig.mk n17 ⟨l12,(G 2).ss 1⟩)) 27),.k (iv n18)] fun _ _ G15 kw15=>?_;intro S s;obtain ⟨⟨kl13, -⟩,⟨kl14, -⟩, -⟩:Lq l11 (((G15 2).ss 0).v)∧Lq l12 (((G15 2).ss 1).v)∧True:=kq kw15;clear kw15;refine V.g [.ld 4 0 true (fun _=>Dat.cells (DBig.mk n13 ⟨l9,(G14 2).ss 0⟩)),.ld 6 0 true (fun _=>Dat.cells (DBig.mk n16 ⟨l11,(G15 2).ss 0⟩)),.k (ag (DFrac.mk ⟨n13,l9,(G14 2).ss 0⟩ ⟨n16,l11,(G15 2).ss 0⟩)),.st 2 (fun _=>.blk ((G1 2).b) (ca (DFrac.mk ⟨n13,l9,(G14 2).ss 0⟩ ⟨n16,l11,(G15 2).ss 0⟩)) 29),.k (iv 0)] fun _ _ G16=>?_;intro S s;have e1:l9=Fr.rD ((Bg.RtB i d∧Bg.RtB c e)∧c≠0) (Rat.divInt (Bg.zv i d) (Bg.zv c e)):=(Fr.Fz.ret (Fr.new_fin zp zq hyp zg za zb) ⟨hRR,hz0⟩ (hdv)).2.1;subst e1;have e3:l11=Fr.rE ((Bg.RtB i d∧Bg.RtB c e)∧c≠0) (Rat.divInt (Bg.zv i d) (Bg.zv c e)):=(Fr.Fz.ret (Fr.new_fin zp zq hyp zg za zb) ⟨hRR,hz0⟩ (hdv)).2.2.2;subst e3;have e0:n13=Fr.rS ((Bg.RtB i d∧Bg.RtB c e)∧c≠0) (Rat.divInt (Bg.zv i d) (Bg.zv c e)):=(Fr.Fz.ret (Fr.new_fin zp zq hyp zg za zb) ⟨hRR,hz0⟩ (hdv)).1;have e2:n16=Fr.rT ((Bg.RtB i d∧Bg.RtB c e)∧c≠0):=(Fr.Fz.ret (Fr.new_fin zp zq hyp zg za zb) ⟨hRR,hz0⟩ (hdv)).2.2.1;have e4:(0:Int)=if ¬ (Bg.RtB i d∧Bg.RtB c e) then (1:Int) else if c=0 then 15 else 0:=by rw [if_neg (fun h=>h hRR),if_neg hz0]
  exact V.rt [2,0] [(G14 2).ss 0,(G15 2).ss 0] [fun _=>{},fun _=>{}] [] [3,5] [] (.tuple #[ag (DFrac.mk ⟨n13,(Fr.rD ((Bg.RtB i d∧Bg.RtB c e)∧c≠0) (Rat.divInt (Bg.zv i d) (Bg.zv c e))),(G14 2).ss 0⟩ ⟨n16,(Fr.rE ((Bg.RtB i d∧Bg.RtB c e)∧c≠0) (Rat.divInt (Bg.zv i d) (Bg.zv c e))),(G15 2).ss 0⟩),iv 0]) (cong3 (fun (x0 x2 x4:Int)=>(.tuple #[.agg #[iv x0,((G14 2).ss 0).v,iv x2,((G15 2).ss 0).v],iv x4]:Value)) e0 e2 e4)
theorem r5new_ctv (d:Int) (b:List Int) (e:SV) (a:Int) (c:List Int) (f:SV) (hlp:b.length≤17179869184) (hlq:c.length≤17179869184) (rv0:Int) (erv0:rv0=Fr.rS ((Bg.RtB d b∧Bg.RtB a c)∧a≠0) (Rat.divInt (Bg.zv d b) (Bg.zv a c))) (rv1:List Int) (erv1:rv1=Fr.rD ((Bg.RtB d b∧Bg.RtB a c)∧a≠0) (Rat.divInt (Bg.zv d b) (Bg.zv a c))) (rv2:Int) (erv2:rv2=Fr.rT ((Bg.RtB d b∧Bg.RtB a c)∧a≠0)) (rv3:List Int) (erv3:rv3=Fr.rE ((Bg.RtB d b∧Bg.RtB a c)∧a≠0) (Rat.divInt (Bg.zv d b) (Bg.zv a c))) (rv4:Int) (erv4:rv4=if ¬ (Bg.RtB d b∧Bg.RtB a c) then (1:Int) else if a=0 then 15 else 0) :
    Ct Tryz.prog 91 #[ag (DBig.mk d ⟨b,e⟩),ag (DBig.mk a ⟨c,f⟩)] [fs true b e,fs true c f] [] (fun g=>.tuple #[ag (DFrac.mk ⟨rv0,rv1,(g.ss 0)⟩ ⟨rv2,rv3,(g.ss 1)⟩),iv rv4]) (fun g=>[fs true rv1 (g.ss 0),fs true rv3 (g.ss 1)]) (fun g=>[]) (fun g=>[]):=by
  subst erv0 erv1 erv2 erv3 erv4;exact r5new_ct d b e a c f hlp hlq
set_option maxRecDepth 10000 in
theorem r5of_ct (p q:Int) (hp: -9223372036854775808≤p∧p≤9223372036854775807) (hq: -9223372036854775808≤q∧q≤9223372036854775807) :
    Ct Tryz.prog 59 #[iv p,iv q] [] [] (fun g=>.tuple #[ag (DFrac.mk ⟨(Fr.rS (q≠0) (Rat.divInt p q)),Fr.rD (q≠0) (Rat.divInt p q),(g.ss 0)⟩ ⟨(Fr.rT (q≠0)),Fr.rE (q≠0) (Rat.divInt p q),(g.ss 1)⟩),iv (if q=0 then (15:Int) else 0)]) (fun g=>[fs true (Fr.rD (q≠0) (Rat.divInt p q)) (g.ss 0),fs true (Fr.rE (q≠0) (Rat.divInt p q)) (g.ss 1)]) (fun g=>[]) (fun g=>[]):=by
  refine V.fn mo Tryz.func59 13 1 (by kernel_rfl) fun w H ε k0=>?_;clear k0
  refine V.g [.nb 0 0 (fun b=>pp b 0) 29 (fun _=>ca (DFrac.mk ⟨0,[],{}⟩ ⟨0,[],{}⟩)),.k (iv 0)] fun _ _ G1=>?_;intro S s
  refine nm (Bg.sgn p:Int) fun n1 hn1=>?_;refine nl (Bg.dig p.natAbs) fun l1 hl1 hl1n=>?_;refine nm (Bg.sgn q:Int) fun n2 hn2=>?_;refine nl (Bg.dig q.natAbs) fun l2 hl2 hl2n=>?_;refine nm (Fr.rS ((Bg.RtB n1 l1∧Bg.RtB n2 l2)∧n2≠0) (Rat.divInt (Bg.zv n1 l1) (Bg.zv n2 l2)):Int) fun n3 hn3=>?_;refine nl (Fr.rD ((Bg.RtB n1 l1∧Bg.RtB n2 l2)∧n2≠0) (Rat.divInt (Bg.zv n1 l1) (Bg.zv n2 l2))) fun l3 hl3 hl3n=>?_;refine nm (Fr.rT ((Bg.RtB n1 l1∧Bg.RtB n2 l2)∧n2≠0):Int) fun n4 hn4=>?_;refine nl (Fr.rE ((Bg.RtB n1 l1∧Bg.RtB n2 l2)∧n2≠0) (Rat.divInt (Bg.zv n1 l1) (Bg.zv n2 l2))) fun l4 hl4 hl4n=>?_;refine nm (if ¬ (Bg.RtB n1 l1∧Bg.RtB n2 l2) then (1:Int) else if n2=0 then 15 else 0:Int) fun n5 hn5=>?_;have zp:=Fr.Bz.int hn1 hl1
  have zq:=Fr.Bz.int hn2 hl2;have zpl:=zp.int_len hp;have zql:=zq.int_len hq;obtain ⟨en1,en2,en3,en4,en5⟩:=Fr.of_all zp zq hn3 hl3 hn4 hl4 hn5;refine V.r [.k (iv p),.ct g0 1 83 false [] [] [] (fun _ G=>r4of_ctv p (by omega) n1 hn1 l1 hl1),.k (iv q),.ct g0 3 83 false [] [] [] (fun _ G=>r4of_ctv q (by omega) n2 hn2 l2 hl2),.ct g0 4 91 false [] [] [(kf true (.g 1 0) l1 (fun G=>(G 1).ss 0)).a,(kf true (.g 3 0) l2 (fun G=>(G 3).ss 0)).a] (fun _ G=>r5new_ctv n1 l1 ((G 1).ss 0) n2 l2 ((G 3).ss 0) (by omega) (by omega) n3 hn3 l3 hl3 n4 hn4 l4 hl4 n5 hn5),.v fun G=>ag (DFrac.mk ⟨n3,l3,(G 4).ss 0⟩ ⟨n4,l4,(G 4).ss 1⟩),.k (iv n5),.st 0 (fun G=>.blk ((G1 0).b) (ca (DFrac.mk ⟨n3,l3,(G 4).ss 0⟩ ⟨n4,l4,(G 4).ss 1⟩)) 29),.k (iv n5)] fun _ _ G2 kw2=>?_;intro S s
  obtain ⟨⟨kl1, -⟩,⟨kl2, -⟩,⟨kl3, -⟩,⟨kl4, -⟩, -⟩:Lq l1 (((G2 1).ss 0).v)∧Lq l2 (((G2 3).ss 0).v)∧Lq l3 (((G2 4).ss 0).v)∧Lq l4 (((G2 4).ss 1).v)∧True:=kq kw2;clear kw2;have e1:l3=Fr.rD (q≠0) (Rat.divInt p q):=en2;subst e1;have e3:l4=Fr.rE (q≠0) (Rat.divInt p q):=en4;subst e3;have e0:n3=Fr.rS (q≠0) (Rat.divInt p q):=en1;have e2:n4=Fr.rT (q≠0):=en3;have e4:n5=if q=0 then (15:Int) else 0:=en5
  exact V.rt [0,0] [(G2 4).ss 0,(G2 4).ss 1] [fun _=>{},fun _=>{}] [] [2,3] [] (.tuple #[ag (DFrac.mk ⟨n3,(Fr.rD (q≠0) (Rat.divInt p q)),(G2 4).ss 0⟩ ⟨n4,(Fr.rE (q≠0) (Rat.divInt p q)),(G2 4).ss 1⟩),iv n5]) (cong3 (fun (x0 x2 x4:Int)=>(.tuple #[.agg #[iv x0,((G2 4).ss 0).v,iv x2,((G2 4).ss 1).v],iv x4]:Value)) e0 e2 e4)
theorem r5of_ctv (p q:Int) (hp: -9223372036854775808≤p∧p≤9223372036854775807) (hq: -9223372036854775808≤q∧q≤9223372036854775807) (rv0:Int) (erv0:rv0=Fr.rS (q≠0) (Rat.divInt p q)) (rv1:List Int) (erv1:rv1=Fr.rD (q≠0) (Rat.divInt p q)) (rv2:Int) (erv2:rv2=Fr.rT (q≠0)) (rv3:List Int) (erv3:rv3=Fr.rE (q≠0) (Rat.divInt p q)) (rv4:Int) (erv4:rv4=if q=0 then (15:Int) else 0) :
    Ct Tryz.prog 59 #[iv p,iv q] [] [] (fun g=>.tuple #[ag (DFrac.mk ⟨rv0,rv1,(g.ss 0)⟩ ⟨rv2,rv3,(g.ss 1)⟩),iv rv4]) (fun g=>[fs true rv1 (g.ss 0),fs true rv3 (g.ss 1)]) (fun g=>[]) (fun g=>[]):=by
  subst erv0 erv1 erv2 erv3 erv4;exact r5of_ct p q hp hq
set_option maxRecDepth 10000 in
theorem r5int_ct (n:Int) (hn: -9223372036854775808≤n∧n≤9223372036854775807) :
    Ct Tryz.prog 33 #[iv n] [] [] (fun g=>ag (DFrac.mk ⟨(Bg.sgn n),Bg.dig n.natAbs,(g.ss 0)⟩ ⟨1,Bg.dig 1,(g.ss 1)⟩)) (fun g=>[fs true (Bg.dig n.natAbs) (g.ss 0),fs true (Bg.dig 1) (g.ss 1)]) (fun g=>[]) (fun g=>[]):=by
  refine V.fn mo Tryz.func33 11 2 (by kernel_rfl) fun w H ε k0=>?_;clear k0
  refine V.g [.nb 0 0 (fun b=>pp b 0) 29 (fun _=>ca (DFrac.mk ⟨0,[],{}⟩ ⟨0,[],{}⟩))] fun _ _ G1=>?_;intro S s
  refine nm (Fr.rS ((1:Int)≠0) (Rat.divInt n (1:Int)):Int) fun n1 hn1=>?_;refine nl (Fr.rD ((1:Int)≠0) (Rat.divInt n (1:Int))) fun l1 hl1 hl1n=>?_;refine nm (Fr.rT ((1:Int)≠0):Int) fun n2 hn2=>?_;refine nl (Fr.rE ((1:Int)≠0) (Rat.divInt n (1:Int))) fun l2 hl2 hl2n=>?_;refine nm (if (1:Int)=0 then (15:Int) else 0:Int) fun n3 hn3=>?_;have zi:=Fr.Fz.of (show (1:Int)≠0 by decide) hn1 hl1 hn2 hl2
  rw [Fr.divInt1] at zi;refine V.r [.k (iv n),.ct g0 1 59 false [] [] [] (fun _ G=>r5of_ctv n (1:Int) (by omega) (by omega) n1 hn1 l1 hl1 n2 hn2 l2 hl2 n3 hn3),.v fun G=>.tuple #[ag (DFrac.mk ⟨n1,l1,(G 1).ss 0⟩ ⟨n2,l2,(G 1).ss 1⟩),iv n3],.v fun G=>ag (DFrac.mk ⟨n1,l1,(G 1).ss 0⟩ ⟨n2,l2,(G 1).ss 1⟩),.k (iv n3),.nb 5 1 (fun b=>pp b 0) 29 (fun _=>ca (DFrac.mk ⟨0,[],{}⟩ ⟨0,[],{}⟩)),.st 1 (fun G=>.blk ((G 5).b) (ca (DFrac.mk ⟨n1,l1,(G 1).ss 0⟩ ⟨n2,l2,(G 1).ss 1⟩)) 29),.k (iv n3)] fun _ _ G2 kw2=>?_;intro S s
  obtain ⟨⟨kl1, -⟩,⟨kl2, -⟩, -⟩:Lq l1 (((G2 1).ss 0).v)∧Lq l2 (((G2 1).ss 1).v)∧True:=kq kw2;clear kw2;refine V.g [.ld 1 0 true (fun _=>Dat.cells (DFrac.mk ⟨n1,l1,(G2 1).ss 0⟩ ⟨n2,l2,(G2 1).ss 1⟩)),.st 0 (fun _=>.blk ((G1 0).b) (ca (DFrac.mk ⟨n1,l1,(G2 1).ss 0⟩ ⟨n2,l2,(G2 1).ss 1⟩)) 29)] fun _ _ G3=>?_;intro S s;have e1:l1=Bg.dig n.natAbs:=zi.eqs.2.1;subst e1;have e3:l2=Bg.dig 1:=zi.eqs.2.2.2;subst e3;have e0:n1=Bg.sgn n:=zi.eqs.1;have e2:n2=1:=zi.eqs.2.2.1;exact V.rt [0] [(G2 1).ss 0,(G2 1).ss 1] [fun _=>{},fun _=>{}] [] [0,1] [] (ag (DFrac.mk ⟨n1,(Bg.dig n.natAbs),(G2 1).ss 0⟩ ⟨n2,(Bg.dig 1),(G2 1).ss 1⟩)) (cong2 (fun (x0 x2:Int)=>(.agg #[iv x0,((G2 1).ss 0).v,iv x2,((G2 1).ss 1).v]:Value)) e0 e2)
theorem r5int_ctv (n:Int) (hn: -9223372036854775808≤n∧n≤9223372036854775807) (rv0:Int) (erv0:rv0=Bg.sgn n) (rv1:List Int) (erv1:rv1=Bg.dig n.natAbs) (rv3:List Int) (erv3:rv3=Bg.dig 1) :
    Ct Tryz.prog 33 #[iv n] [] [] (fun g=>ag (DFrac.mk ⟨rv0,rv1,(g.ss 0)⟩ ⟨1,rv3,(g.ss 1)⟩)) (fun g=>[fs true rv1 (g.ss 0),fs true rv3 (g.ss 1)]) (fun g=>[]) (fun g=>[]):=by
  subst erv0 erv1 erv3;exact r5int_ct n hn

open Go Go.Proofs
set_option maxRecDepth 10000 in
theorem samebig_ct (m:Int) (c:List Int) (l:SV) (n:Int) (d:List Int) (o:SV) :
    Cp Tryz.prog 52 #[ag (DBig.mk m ⟨c,l⟩),ag (DBig.mk n ⟨d,o⟩)] [fs true c l,fs true d o] (bv (decide (m=n∧c=d))):=by
  refine V.fn mo Tryz.func52 38 2 (by kernel_rfl) fun w H ε k0=>?_;obtain ⟨⟨kl1, -⟩,⟨kl2, -⟩, -⟩:Lq c l.v∧Lq d o.v∧True:=kq k0
  clear k0;refine V.g [.nb 0 0 (fun b=>pp b 0) 27 (fun _=>ca (DBig.mk m ⟨c,l⟩)),.nb 1 1 (fun b=>pp b 0) 27 (fun _=>ca (DBig.mk n ⟨d,o⟩)),.kb false] fun _ _ G1=>?_;intro S s
  refine nm ((!(decide (m=n))) || (!(decide ((c.length:Int)=(d.length:Int)))):Bool) fun p1 hp1=>?_;refine V.g [.k (pp ((G1 0).b) 0),.ld 0 0 false (fun _=>[iv m]),.k (pp ((G1 1).b) 0),.ld 1 0 false (fun _=>[iv n]),.k (bv (!(decide (m=n)))),.k (bv (!(decide (m=n)))),.k (pp ((G1 0).b) 1),.ld 0 1 false (fun _=>[l.v]),.ln (kf false (.f 0) c (fun _=>l)),.k (pp ((G1 1).b) 1),.ld 1 1 false (fun _=>[o.v]),.ln (kf false (.f 1) d (fun _=>o)),.k (bv (!(decide ((c.length:Int)=(d.length:Int))))),.orn g0 false (!(decide (m=n))) (!(decide ((c.length:Int)=(d.length:Int)))) p1 hp1] fun _ _ G2=>?_;intro S s
  refine V.cn (b:=p1) (iN hp1 (iOT (iNT iDF) (iNT iDF))) (iN hp1 (iOF (iNF iDT) (iNF iDT))) (fun q1=>?_) (fun q2=>?_)
  · refine V.g [.kb false] fun _ _ G3=>?_;intro S s
    have e0:false=decide (m=n∧c=d):=by exact (decide_eq_false fun h=>by have hqq:=q1;rcases hqq with h1 | h1;exact h1 h.1;exact h1 (by rw [h.2])).symm
    exact V.rt [0] [] [] [] [] [] (bv false) (cong1 (fun (x0:Bool)=>(bv x0:Value)) e0)
  refine V.g [.k (iv 0)] fun _ _ G4=>?_;intro S s
  refine V.loop (γ:=Int) (fun i=>⟨[(2,pp ((G1 0).b) 0),(3,pp ((G1 1).b) 0),(5,iv i)],[fs false c l,fs false d o],[.blk ((G1 0).b) (ca (DBig.mk m ⟨c,l⟩)) 27,.blk ((G1 1).b) (ca (DBig.mk n ⟨d,o⟩)) 27]⟩) (fun i=>(0≤i)∧(i≤(c.length:Int))∧(0≤i)∧(i≤(c.length:Int))∧(∀ j,j < i.toNat→c.getD j default=d.getD j default)) (fun i=>((c.length:Int)-i).toNat) 0 (by kernel_rfl) [0,1] (by kernel_rfl) ?_ ?_
  · refine ⟨?_,?_,?_,?_,?_⟩
    · show 0≤(0:Int)
      first | omega | rfl | (simp;done) | (subst_vars;simp;done)
    · show (0:Int)≤(c.length:Int)
      first | omega | rfl | (simp;done) | (subst_vars;simp;done)
    · show 0≤(0:Int);omega
    · show (0:Int)≤(c.length:Int);omega
    show ∀ j,j < (0:Int).toNat→c.getD j default=d.getD j default;intro j hj;simp at hj
  rintro i hF1 kw5 Z1 hZ1;have hF1:(0≤i)∧(i≤(c.length:Int))∧(0≤i)∧(i≤(c.length:Int))∧(∀ j,j < i.toNat→c.getD j default=d.getD j default):=hF1;obtain ⟨hf1,hf2,hf3,hf4,hf5⟩:=hF1;clear kw5;refine V.g [.k (iv i),.k (pp ((G1 0).b) 1),.ld 0 1 false (fun _=>[l.v]),.ln (kf false (.f 0) c (fun _=>l)),.k (bv (decide (i < (c.length:Int))))] fun _ _ G5=>?_;intro S s;refine V.cn (b:=decide (i < (c.length:Int))) iDT iDF (fun q3=>?_) (fun q4=>?_)
  · refine nm (c.getD i.toNat default:Int) fun v1 hv1=>?_;refine nm (d.getD i.toNat default:Int) fun v2 hv2=>?_;refine V.g [.k (pp ((G1 0).b) 1),.ld 0 1 false (fun _=>[l.v]),.k (iv i),.ix g0 (kf false (.f 0) c (fun _=>l)) i (fun _=>⟨by omega,by omega⟩),.le g0 (kf false (.f 0) c (fun _=>l)) i none false v1 hv1 (fun _=>⟨by omega,by omega⟩) false (fun _=>[iv v1]),.k (pp ((G1 1).b) 1),.ld 1 1 false (fun _=>[o.v]),.k (iv i),.ix g0 (kf false (.f 1) d (fun _=>o)) i (fun _=>⟨by omega,by omega⟩),.le g0 (kf false (.f 1) d (fun _=>o)) i none false v2 hv2 (fun _=>⟨by omega,by omega⟩) false (fun _=>[iv v2]),.k (bv (!(decide (v1=v2))))] fun _ _ G6=>?_;intro S s
    refine V.cn (b:=!(decide (v1=v2))) (iNT iDF) (iNF iDT) (fun q5=>?_) (fun q6=>?_)
    · refine V.g [.kb false] fun _ _ G7=>?_;intro S s
      have e0:false=decide (m=n∧c=d):=(decide_eq_false fun h=>q5 (by rw [hv1,hv2,h.2])).symm;exact V.rt [0] [] [] [] [] [] (bv false) (cong1 (fun (x0:Bool)=>(bv x0:Value)) e0)
    refine V.g [.k (iv i),.a (i+1) (by omega) (by omega),.k (iv (i+1))] fun _ _ G8=>?_;intro S s
    refine V.rnd hZ1 (i+1) [0,1] (by kernel_rfl) ?_ ?_
    · refine ⟨?_,?_,?_,?_,?_⟩
      · show 0≤(i+1);omega
      · show (i+1)≤(c.length:Int);omega
      · show 0≤(i+1);omega
      · show (i+1)≤(c.length:Int);omega
      show ∀ j,j < (i+1).toNat→c.getD j default=d.getD j default;intro j hj;by_cases e:j < i.toNat
      · exact hf5 j e
      rw [show j=i.toNat by omega,← hv1,← hv2];exact (by have hqq:=q6;first | exact hqq | exact Decidable.not_not.1 hqq)
    show ((c.length:Int)-(i+1)).toNat < ((c.length:Int)-i).toNat;omega
  refine V.g [.kb true] fun _ _ G9=>?_;intro S s
  have e0:true=decide (m=n∧c=d):=(decide_eq_true ⟨by omega,Bg.eq_of_getD (by omega) fun j hj=>hf5 j (by omega)⟩).symm;exact V.rt [0] [] [] [] [] [] (bv true) (cong1 (fun (x0:Bool)=>(bv x0:Value)) e0)
set_option maxRecDepth 10000 in
theorem same5_ct (i:Int) (c:List Int) (n:SV) (l:Int) (e:List Int) (o:SV) (j:Int) (d:List Int) (p:SV) (m:Int) (h:List Int) (q:SV) :
    Cp Tryz.prog 14 #[ag (DFrac.mk ⟨i,c,n⟩ ⟨l,e,o⟩),ag (DFrac.mk ⟨j,d,p⟩ ⟨m,h,q⟩)] [fs true c n,fs true e o,fs true d p,fs true h q] (bv (decide (i=j∧c=d∧l=m∧e=h))):=by
  refine V.fn mo Tryz.func14 17 2 (by kernel_rfl) fun w H ε k0=>?_;obtain ⟨⟨kl1, -⟩,⟨kl2, -⟩,⟨kl3, -⟩,⟨kl4, -⟩, -⟩:Lq c n.v∧Lq e o.v∧Lq d p.v∧Lq h q.v∧True:=kq k0
  clear k0;refine V.g [.nb 0 0 (fun b=>pp b 0) 29 (fun _=>ca (DFrac.mk ⟨i,c,n⟩ ⟨l,e,o⟩)),.nb 1 1 (fun b=>pp b 0) 29 (fun _=>ca (DFrac.mk ⟨j,d,p⟩ ⟨m,h,q⟩)),.kb false] fun _ _ G1=>?_;intro S s
  refine nm ((decide (i=j∧c=d)) && (decide (l=m∧e=h)):Bool) fun p1 hp1=>?_;refine V.g [.k (pp ((G1 0).b) 0),.ld 0 0 true (fun _=>Dat.cells (DBig.mk i ⟨c,n⟩)),.k (pp ((G1 1).b) 0),.ld 1 0 true (fun _=>Dat.cells (DBig.mk j ⟨d,p⟩)),.cp g0 4 52 [(kf false (.f 0) c (fun _=>n)).a,(kf false (.f 2) d (fun _=>p)).a] (fun _ G=>samebig_ct i c n j d p),.k (bv (decide (i=j∧c=d))),.k (pp ((G1 0).b) 2),.ld 0 2 true (fun _=>Dat.cells (DBig.mk l ⟨e,o⟩)),.k (pp ((G1 1).b) 2),.ld 1 2 true (fun _=>Dat.cells (DBig.mk m ⟨h,q⟩)),.cp (gT (b:=decide (i=j∧c=d)) iDT) 10 52 [(kf false (.f 1) e (fun _=>o)).a,(kf false (.f 3) h (fun _=>q)).a] (fun hg G=>samebig_ct l e o m h q),.andn g0 false (decide (i=j∧c=d)) (decide (l=m∧e=h)) p1 hp1,.k (bv p1)] fun _ _ G2=>?_;intro S s
  have e0:p1=decide (i=j∧c=d∧l=m∧e=h):=by
    refine Bool.eq_iff_iff.2 (Iff.trans (iN hp1 (iAT iDT iDT)) (Iff.trans ?_ decide_eq_true_iff.symm));exact and_assoc
  exact V.rt [0] [] [] [] [] [] (bv p1) (cong1 (fun (x0:Bool)=>(bv x0:Value)) e0)
theorem same5t_ct (e:Int) (a:List Int) (f:SV) (g:Int) (b:List Int) (i:SV) (j:Int) (c:List Int) (k:SV) (l:Int) (d:List Int) (m:SV) (hT:e=j∧a=c∧g=l∧b=d) :
    Cp Tryz.prog 14 #[ag (DFrac.mk ⟨e,a,f⟩ ⟨g,b,i⟩),ag (DFrac.mk ⟨j,c,k⟩ ⟨l,d,m⟩)] [fs true a f,fs true b i,fs true c k,fs true d m] (bv (true)):=by
  have h:=same5_ct  e a f g b i j c k l d m ; rw [decide_eq_true hT] at h;exact h
set_option maxRecDepth 10000 in
theorem few5_ct (h:Int) (a:List Int) (d:SV) (i:Int) (c:List Int) (e:SV) (n:Int) :
    Cp Tryz.prog 7 #[ag (DFrac.mk ⟨h,a,d⟩ ⟨i,c,e⟩),iv n] [fs true a d,fs true c e] (bv (decide ((a.length:Int)≤n∧(c.length:Int)≤n))):=by
  refine V.fn mo Tryz.func7 19 1 (by kernel_rfl) fun w H ε k0=>?_;obtain ⟨⟨kl1, -⟩,⟨kl2, -⟩, -⟩:Lq a d.v∧Lq c e.v∧True:=kq k0
  clear k0;refine V.g [.nb 0 0 (fun b=>pp b 0) 29 (fun _=>ca (DFrac.mk ⟨h,a,d⟩ ⟨i,c,e⟩)),.kb false] fun _ _ G1=>?_;intro S s
  refine nm ((decide ((a.length:Int)≤n)) && (decide ((c.length:Int)≤n)):Bool) fun p1 hp1=>?_;refine V.g [.k (pp ((G1 0).b) 0),.k (pp ((G1 0).b) 1),.ld 0 1 false (fun _=>[d.v]),.ln (kf false (.f 0) a (fun _=>d)),.k (iv n),.k (bv (decide ((a.length:Int)≤n))),.k (bv (decide ((a.length:Int)≤n))),.k (pp ((G1 0).b) 2),.k (pp ((G1 0).b) 3),.ld 0 3 false (fun _=>[e.v]),.ln (kf false (.f 1) c (fun _=>e)),.k (iv n),.k (bv (decide ((c.length:Int)≤n))),.andn g0 false (decide ((a.length:Int)≤n)) (decide ((c.length:Int)≤n)) p1 hp1,.k (bv p1)] fun _ _ G2=>?_;intro S s
  have e0:p1=decide ((a.length:Int)≤n∧(c.length:Int)≤n):=by
    refine Bool.eq_iff_iff.2 (Iff.trans (iN hp1 (iAT iDT iDT)) (Iff.trans ?_ decide_eq_true_iff.symm));exact Iff.rfl
  exact V.rt [0] [] [] [] [] [] (bv p1) (cong1 (fun (x0:Bool)=>(bv x0:Value)) e0)

open Go
namespace Un
open Fr Bg
def ri (x:Ditem):DItem:=⟨x.word,x.exp⟩
def ofs (s:ByteArray) (a:Nat):ByteArray:=s.extract a s.size
theorem bl_ofs {s:ByteArray} {a:Nat}:bl (ofs s a)=(bl s).drop a:=by
  unfold ofs;rw [bl_extract,← bl_len,List.take_length]
theorem ofs_size {s:ByteArray} {a:Nat}:(ofs s a).size=s.size - a:=by
  rw [←bl_len,bl_ofs,List.length_drop,bl_len]
theorem ofs_get {s:ByteArray} {a j:Nat}:(bl (ofs s a)).getD j default=(bl s).getD (a+j) default:=by
  rw [bl_ofs,List.getD_eq_getElem?_getD,List.getElem?_drop,← List.getD_eq_getElem?_getD]
theorem ofs_0 {s:ByteArray}:ofs s 0=s:=bl_inj (by rw [bl_ofs];rfl)
theorem ofs_end {s:ByteArray} {a:Nat} (h:s.size≤a):ofs s a=ByteArray.empty:=bl_inj (by rw [bl_ofs,List.drop_of_length_le (by rw [bl_len];exact h)];rfl)
theorem ofs_ne {s:ByteArray} {a:Nat} (h:a < s.size):¬ ofs s a=ByteArray.empty:=fun e=>by
  have:=congrArg ByteArray.size e
  rw [ofs_size] at this
  have h0:(ByteArray.empty).size=0:=rfl
  omega
theorem ofs_ofs {s:ByteArray} {a b:Nat}:(ofs s a).extract b (ofs s a).size=ofs s (a+b):=bl_inj (by
  rw [bl_extract,← bl_len,List.take_length,bl_ofs,bl_ofs,List.drop_drop])
def spN (s:ByteArray) (a:Nat):Nat:=a+nl (ofs s a)+(if num (rest (ofs s a)) then 1 else 0)
theorem rest_ofs {s:ByteArray} {a:Nat}:rest (ofs s a)=ofs s (a+nl (ofs s a)):=by unfold rest;exact ofs_ofs
theorem cuR_ofs {s:ByteArray} {a:Nat}:cuR (ofs s a)=ofs s (spN s a):=by
  unfold cuR spN
  rw [rest_ofs]
  split
  · exact ofs_ofs
  · rfl
theorem nl_ofs {s:ByteArray} {a i:Nat} (h1:a≤i) (h2:i≤s.size) (hj:∀ j,a≤j→j < i→ltr (((bl s).getD j default).toNat:Int)) (h:i=s.size∨¬ ltr (((bl s).getD i default).toNat:Int)):nl (ofs s a)=i - a:=by
  refine nl_at (by rw [ofs_size];omega) (fun j hj'=>?_) ?_
  · rw [ofs_get];exact hj _ (by omega) (by omega)
  · rcases h with h | h
    · left;rw [ofs_size];omega
    · right;rw [ofs_get,show a+(i - a)=i by omega];exact h
theorem num_ofs {s:ByteArray} {i:Nat}:num (ofs s i)↔i < s.size∧50≤(((bl s).getD i default).toNat:Int)∧(((bl s).getD i default).toNat:Int)≤57:=by
  unfold num
  rw [ofs_get,Nat.add_zero]
  constructor
  · rintro ⟨⟨h1,h2⟩,h3⟩
    exact ⟨Classical.byContradiction fun h=>h1 (ofs_end (by omega)),h2,h3⟩
  · rintro ⟨h1,h2,h3⟩
    exact ⟨⟨ofs_ne h1,h2⟩,h3⟩
theorem cuW_ofs {s:ByteArray} {a i:Nat} (h:nl (ofs s a)=i - a) (h1:a≤i) (h2:i≤s.size):cuW (ofs s a)=s.extract a i:=bl_inj (by
  unfold cuW
  rw [h,bl_extract,bl_ofs,bl_extract,List.drop_zero,← List.drop_take])
structure Spl (s:ByteArray) (a i:Nat):Prop where
  n:nl (ofs s a)=i - a
  le:a≤i
  sz:i≤s.size
theorem Spl.y {s:ByteArray} {a i:Nat} (h:Spl s a i) (h1:i < s.size) (h2:50≤(((bl s).getD i default).toNat:Int)) (h3:(((bl s).getD i default).toNat:Int)≤57):cuE (ofs s a)=(((bl s).getD i default).toNat:Int) - 48∧spN s a=i+1:=by
  have e:rest (ofs s a)=ofs s i:=by rw [rest_ofs,h.n];congr 1;have:=h.le;omega
  have hn:num (rest (ofs s a)):=by rw [e];exact num_ofs.2 ⟨h1,h2,h3⟩
  have hle:=h.le
  unfold cuE spN
  rw [if_pos hn,if_pos hn,e,ofs_get,Nat.add_zero,h.n]
  exact ⟨rfl,by omega⟩
theorem Spl.no {s:ByteArray} {a i:Nat} (h:Spl s a i) (k:¬ (i < s.size∧50≤(((bl s).getD i default).toNat:Int)∧(((bl s).getD i default).toNat:Int)≤57)):cuE (ofs s a)=1∧spN s a=i:=by
  have e:rest (ofs s a)=ofs s i:=by rw [rest_ofs,h.n];congr 1;have:=h.le;omega
  have hn:¬ num (rest (ofs s a)):=by rw [e];exact fun x=>k (num_ofs.1 x)
  have hle:=h.le
  unfold cuE spN
  rw [if_neg hn,if_neg hn,h.n]
  exact ⟨rfl,by omega⟩
theorem spN_le {s:ByteArray} {a:Nat} (h:0 < nl (ofs s a)):a < spN s a∧spN s a≤s.size:=by
  have h1:=nl_le (ofs s a)
  rw [ofs_size] at h1
  unfold spN
  split
  · rename_i k
    rw [rest_ofs] at k
    have:=(num_ofs.1 k).1
    omega
  · omega
def itR (out:List DItem) (r:ByteArray):Option (List DItem):=(it r).map fun l=>out ++l.map ri
def itG (s:ByteArray):Option (List DItem):=(items s).map fun l=>l.map ri
theorem itR_end {s:ByteArray} {out:List DItem} {a:Nat} (h:s.size≤a):itR out (ofs s a)=some out:=by unfold itR;rw [it_end (ofs_end h)];simp
theorem good_ofs {s:ByteArray} {a:Nat}:good (ofs s a)↔0 < nl (ofs s (a+1))∧((((bl s).getD a default).toNat:Int)=42∨(((bl s).getD a default).toNat:Int)=47):=by
  unfold good;rw [ofs_ofs,ofs_get];simp only [Nat.add_zero]
theorem itR_bad {s:ByteArray} {out:List DItem} {a:Nat} (h:a < s.size) (k:¬ (0 < nl (ofs s (a+1))∧((((bl s).getD a default).toNat:Int)=42∨(((bl s).getD a default).toNat:Int)=47))):itR out (ofs s a)=none:=by
  unfold itR;rw [it_bad (ofs_ne h) fun x=>k (good_ofs.1 x)];rfl
theorem itR_step {s:ByteArray} {out:List DItem} {a:Nat} {x:DItem} (h:a < s.size) (k:0 < nl (ofs s (a+1))∧((((bl s).getD a default).toNat:Int)=42∨(((bl s).getD a default).toNat:Int)=47)) (hx:x=⟨cuW (ofs s (a+1)),if (((bl s).getD a default).toNat:Int)=47 then -cuE (ofs s (a+1)) else cuE (ofs s (a+1))⟩):itR (out ++[x]) (ofs s (spN s (a+1)))=itR out (ofs s a):=by
  unfold itR
  rw [it_step (ofs_ne h) (good_ofs.2 k),ofs_ofs,cuR_ofs]
  have e:ri (itm ((bl (ofs s a)).getD 0 default) (ofs s (a+1)))=x:=by
    rw [ofs_get,Nat.add_zero,hx];rfl
  cases it (ofs s (spN s (a+1))) with
  | none=>rfl
  | some l=>simp only [Option.map_some,List.map_cons,List.append_assoc,List.singleton_append,e]
theorem hd_1 {s : ByteArray} : Dm.cpB s ⟨#[49]⟩ ↔ 0 < s.size ∧ (((bl s).getD 0 default).toNat : Int) = 49 := by
  rw [Dm.cpB_iff]
  have e : bl (⟨#[49]⟩ : ByteArray) = [49] := rfl
  rw [e, ← bl_len]
  cases bl s with
  | nil => simp
  | cons c m =>
    rw [List.cons_prefix_cons]
    show _ ↔ _ ∧ (c.toNat : Int) = 49
    constructor
    · rintro ⟨h, _⟩; subst h; exact ⟨by simp, rfl⟩
    · rintro ⟨_, h⟩
      refine ⟨?_, List.nil_prefix⟩
      have : c.toNat = (49 : UInt8).toNat := by have e2 : (49 : UInt8).toNat = 49 := rfl
                                                omega
      exact (UInt8.toNat_inj.1 this).symm
theorem itG_nil {s:ByteArray} (h:s=ByteArray.empty):itG s=some []:=by unfold itG;rw [items_nil h];rfl
theorem itG_far {s:ByteArray} (h:¬ s=ByteArray.empty) (k:40 < s.size):itG s=none:=by unfold itG;rw [items_far h k];rfl
theorem itG_1 {s:ByteArray} (h:¬ s=ByteArray.empty) (k:¬ 40 < s.size) (h1:(((bl s).getD 0 default).toNat:Int)=49):itR [] (ofs s 1)=itG s:=by
  have hs:=Dm.size_ne h
  have hb:Dm.cpB s ⟨#[49]⟩:=hd_1.2 ⟨by omega,h1⟩
  unfold itG items itR
  rw [if_neg h,if_neg k]
  unfold start
  rw [if_pos hb]
  have e:Dm.cpR s ⟨#[49]⟩=ofs s 1:=by unfold Dm.cpR ofs;rw [if_pos hb];rfl
  rw [e];simp
theorem itG_w {s:ByteArray} (h:¬ s=ByteArray.empty) (k:¬ 40 < s.size) (h1:¬ (((bl s).getD 0 default).toNat:Int)=49) :
    (¬0 < nl s→itG s=none)∧(0 < nl s→itR [⟨cuW s,cuE s⟩] (ofs s (spN s 0))=itG s):=by
  have hb:¬ Dm.cpB s ⟨#[49]⟩:=fun x=>h1 (hd_1.1 x).2
  have e0:itG s=(it (⟨#[42]⟩ ++s)).map fun l=>l.map ri:=by
    unfold itG items;rw [if_neg h,if_neg k];unfold start;rw [if_neg hb]
  constructor
  · intro hn
    rw [e0,it_bad sgn_ne (fun g=>hn (by have:=g.1;rw [sgn_ext] at this;exact this))];rfl
  · intro hn
    have hg:good ((⟨#[42]⟩:ByteArray) ++s):=⟨by rw [sgn_ext];exact hn,.inl (by rw [sgn_hd];rfl)⟩
    rw [e0,it_step sgn_ne hg,sgn_ext,sgn_hd]
    have e1:=cuR_ofs (s:=s) (a:=0)
    rw [ofs_0] at e1
    rw [e1]
    unfold itR
    have e:ri (itm 42 s)=⟨cuW s,cuE s⟩:=rfl
    cases it (ofs s (spN s 0)) with
    | none=>rfl
    | some l=>simp [e]
end Un

open Go
namespace Tb
open Fr Bg
theorem ltle {a b c:Rat} (h:a < b) (k:b≤c):a < c:=Rat.not_le.1 fun x=>absurd (Rat.le_trans k x) (Rat.not_le.2 h)
def dgt (c:Int):Prop:=48≤c∧c≤57
def inn (c:Int):Prop:=(Un.ltr c∨dgt c)∨c=95
instance (c : Int) : Decidable (dgt c) := by unfold dgt; infer_instance
instance (c : Int) : Decidable (inn c) := by unfold inn; infer_instance
def spL:List UInt8→Nat
  | []=>0
  | c :: l=>if inn (c.toNat:Int) then spL l+1 else 0
def spn (s:ByteArray):Nat:=spL (bl s)
def Nm (s:ByteArray):Prop:=((¬s=ByteArray.empty∧Un.ltr (((bl s).getD 0 default).toNat:Int))∧(s.size:Int)≤20)∧(spn s:Int)=(s.size:Int)
instance (s : ByteArray) : Decidable (Nm s) := by unfold Nm; infer_instance
def inR (n:Int):Prop:= -1099511627776≤n∧n≤1099511627776
instance (n : Int) : Decidable (inR n) := by unfold inR; infer_instance
def ky (l:List DRow) (i:Nat):Int:=(l.getD i default).Key
def vl (l:List DRow) (i:Nat):Int:=(l.getD i default).Value
def RowOk (l:List DRow) (i:Nat):Prop:=(inR (ky l i)∧inR (vl l i))∧(0 < i→ky l (i - 1) < ky l i)
instance (l : List DRow) (i : Nat) : Decidable (RowOk l i) := by unfold RowOk; infer_instance
def RtT (nm un:ByteArray) (l:List DRow):Prop:=(((Un.read un).2=0∧Nm nm)∧(l.length:Int)≤100)∧∀ i,i < l.length→RowOk l i
instance rowsDec (l : List DRow) : Decidable (∀ i, i < l.length → RowOk l i) := Nat.decidableBallLT l.length fun i _ => RowOk l i
instance (nm un : ByteArray) (l : List DRow) : Decidable (RtT nm un l) := by
  have d := rowsDec l
  unfold RtT
  exact instDecidableAnd
def So (l:List DRow):Prop:=(∀ a b,a < b→b < l.length→ky l a < ky l b)∧(l.length≤100∧∀ i,i < l.length→inR (ky l i)∧inR (vl l i))
def uf (un:ByteArray):Rat:=Un.fv (Un.read un).1
def aft:List DRow→Rat→Nat
  | [],_=>0
  | r :: l,q=>if (r.Key:Rat)≤q then aft l q+1 else 0
theorem aft_hi:∀ {l:List DRow} {q:Rat},aft l q < l.length→q < (ky l (aft l q):Rat)
  | [],q,h=>by simp at h
  | r :: l,q,h=>by
    unfold aft at h ⊢
    split
    · rename_i hr
      rw [if_pos hr] at h
      have:=aft_hi (l:=l) (q:=q) (by simpa using h)
      exact this
    · rename_i hr
      exact Rat.not_le.1 hr
theorem int_le {a b:Int}:(a:Rat)≤(b:Rat)↔a≤b:=Rat.intCast_le_intCast
theorem So.le {l:List DRow} (h:So l) {a b:Nat} (hab:a≤b) (hb:b < l.length):(ky l a:Rat)≤(ky l b:Rat):=by
  rw [int_le]
  by_cases e:a=b
  · subst e;exact Int.le_refl _
  · exact Int.le_of_lt (h.1 a b (by omega) hb)
theorem So.hi {l:List DRow} (h:So l) {q:Rat} {k:Nat} (hk:aft l q≤k) (hl:k < l.length):q < (ky l k:Rat):=by
  have h1:=aft_hi (l:=l) (q:=q) (by omega)
  have h2:=h.le hk hl
  exact ltle h1 h2
def wv (un:ByteArray) (l:List DRow) (i:Nat):Rat:=(vl l i:Rat) * uf un
def lkR (un:ByteArray) (l:List DRow) (q:Rat):Rat:=wv un l (aft l q - 1)
def lin (un:ByteArray) (l:List DRow) (q:Rat):Option Rat :=
  if aft l q=0 then none
  else if (ky l (aft l q - 1):Rat)=q then some (wv un l (aft l q - 1))
  else if aft l q=l.length then none
  else some (wv un l (aft l q - 1)+(q - (ky l (aft l q - 1):Rat)) / ((ky l (aft l q) - ky l (aft l q - 1):Int):Rat) * (((vl l (aft l q) - vl l (aft l q - 1):Int):Rat) * uf un))
end Tb

open Go
structure DTable where
  Name:ByteArray:=ByteArray.empty
  Unit:ByteArray:=ByteArray.empty
  Rows:Fat DRow:={}
instance : Dat DTable where
  default := {}
  size := 3
  cells x := Dat.cells x.Name ++ Dat.cells x.Unit ++ Dat.cells x.Rows
  good H x := Dat.good H x.Rows
  len _ := rfl
  one H x h u hu := by
    simp only [List.mem_append] at hu
    rcases hu with (hu | hu) | hu
    · exact Dat.one H x.Name trivial u hu
    · exact Dat.one H x.Unit trivial u hu
    · exact Dat.one H x.Rows h u hu
  q x := Dat.q x.Rows
  hq H x h := Dat.hq H _ h
  mono _ _ _ k h := Dat.mono _ _ _ k h
  zero H := Dat.zero H

open Go
namespace Tb
open Fr Bg
def ex:List DRow:=[DRow.mk 0 10,DRow.mk 10 30,DRow.mk 20 20]
def ek:ByteArray:=⟨#[107,103]⟩
def looksP (k w:Int):Prop:=0 < aft ex (k:Rat)∧lkR ek ex (k:Rat)=(w:Rat)
def linesP (k w:Int):Prop:=lin ek ex (k:Rat)=some (w:Rat)
instance (k w : Int) : Decidable (looksP k w) := by unfold looksP; infer_instance
instance (k w : Int) : Decidable (linesP k w) := by unfold linesP; infer_instance
end Tb

open Go
namespace Bg
open Fr
section
variable {s t : Int} {l m : List Int}
theorem cmp_self (x:Int):cmpI x x=0:=by unfold cmpI;rw [if_neg (by omega),if_pos rfl]
theorem cmp4_2 (h:¬ RtB s l∨¬ RtB t m∨(s=t∧l=m)):(if RtB s l∧RtB t m then cmpI (zv s l) (zv t m) else 0)=0:=by
  rcases h with h | h | ⟨rfl,rfl⟩
  · exact if_neg fun k=>h k.1
  · exact if_neg fun k=>h k.2
  · rw [cmp_self];split <;> rfl
theorem cmp4_5 (h:RtB s l∧RtB t m) (k:s < t):(if RtB s l∧RtB t m then cmpI (zv s l) (zv t m) else 0)= -1:=by
  rw [if_pos h,← cmp_z h.1 h.2,if_neg (by omega)];unfold cmpI;rw [if_pos k]
theorem cmp4_6 (h:RtB s l∧RtB t m) (k:t < s):(if RtB s l∧RtB t m then cmpI (zv s l) (zv t m) else 0)=1:=by
  rw [if_pos h,← cmp_z h.1 h.2,if_neg (by omega)];unfold cmpI;rw [if_neg (by omega),if_neg (by omega)]
theorem ne_nv (h:RtB s l∧RtB t m) (hne:¬ (s=t∧l=m)) (hse:s=t):nv l≠nv m:=fun e=>hne ⟨hse,by
  have h1:=h.1.eqd;have h2:=h.2.eqd
  rw [h1,h2,h.1.abs,h.2.abs,e]⟩
theorem s_ne0 (h:RtB s l∧RtB t m) (hne:¬ (s=t∧l=m)) (hse:s=t):s≠0:=fun e=>by
  have z1:zv s l=0:=Classical.byContradiction fun k=>(RtB.z h.1).ne.2 k e
  have z2:zv t m=0:=Classical.byContradiction fun k=>(RtB.z h.2).ne.2 k (hse ▸ e)
  have:=Bz.inj (RtB.z h.1) (by have:=RtB.z h.2;rw [z2] at this;rw [z1];exact this)
  exact hne this
theorem cmp4_8 (h:RtB s l∧RtB t m) (hne:¬ (s=t∧l=m)) (hse:s=t) (k:(nv l < nv m)↔(0 < s)):(if RtB s l∧RtB t m then cmpI (zv s l) (zv t m) else 0)= -1:=by
  have h1:=ne_nv h hne hse;have h2:=s_ne0 h hne hse;have h3:=sg_le h.1
  rw [if_pos h,← cmp_z h.1 h.2,if_pos hse]
  unfold cmpI
  have c:s= -1∨s=1:=by omega
  rcases c with c | c
  · have:¬ nv l < nv m:=fun x=>by have:=k.1 x;omega
    rw [if_neg (by omega),if_neg (by omega),c];rfl
  · have:nv l < nv m:=k.2 (by omega)
    rw [if_pos (by omega),c];rfl
theorem cmp4_9 (h:RtB s l∧RtB t m) (hne:¬ (s=t∧l=m)) (hse:s=t) (k:¬ ((nv l < nv m)↔(0 < s))):(if RtB s l∧RtB t m then cmpI (zv s l) (zv t m) else 0)=1:=by
  have h1:=ne_nv h hne hse;have h2:=s_ne0 h hne hse;have h3:=sg_le h.1
  rw [if_pos h,← cmp_z h.1 h.2,if_pos hse]
  unfold cmpI
  have c:s= -1∨s=1:=by omega
  rcases c with c | c
  · have:nv l < nv m:=Classical.byContradiction fun x=>k ⟨fun y=>absurd y x,fun y=>by omega⟩
    rw [if_pos (by omega),c];rfl
  · have:¬ nv l < nv m:=fun x=>k ⟨fun _=>by omega,fun _=>x⟩
    rw [if_neg (by omega),if_neg (by omega),c];rfl
end
end Bg
namespace Fr
open Bg
variable {s t u : Int} {l m n : List Int} {x y : Int}
theorem r_is {gs:Int} {gd:List Int} {ks:Int} {kd:List Int} {a b:Nat} {c:Int} (g:Bz gs gd ((Nat.gcd a b:Nat):Int)) (k:Bz ks kd 1) (hc:c=if RtB gs gd∧RtB ks kd then cmpI (zv gs gd) (zv ks kd) else 0):c=0↔Nat.gcd a b=1:=by
  rw [hc,if_pos ⟨g.rt,k.rt⟩,g.v,k.v]
  unfold cmpI
  split
  · omega
  · split <;> omega
end Fr

open Go
namespace Un
open Fr Bg
theorem ri_get (l:List Ditem) (k:Nat):(l.map ri).getD k default=ri (l.getD k default):=by
  rw [List.getD_eq_getElem?_getD,List.getD_eq_getElem?_getD,List.getElem?_map]
  cases l[k]? <;> rfl
theorem px_r {c:Int} {p q:Int} (h:pre c=some (p,q)):Rat.divInt p q=Rat.divInt (pp (pre c)) (pq (pre c)):=by rw [h];rfl
theorem pre_hb {c:Int} (h:(pre c).isSome=true):Hb (Rat.divInt (pp (pre c)) (pq (pre c))) 4:=by
  obtain ⟨⟨h1,h2⟩,h3,h4⟩:=pre_ok h
  have e:(1048576:Nat) ^ 4=1208925819614629174706176:=by decide
  exact Hb.divI (by omega) (by omega) (by omega)
theorem pf_not {t:ByteArray} (h:pf t) (k:((((¬t=⟨#[103]⟩∧¬ t=⟨#[109]⟩)∧¬ t=⟨#[108]⟩)∧¬ t=⟨#[115]⟩)∧¬ t=⟨#[74]⟩)∧¬ t=⟨#[87,104]⟩):False:=by
  obtain ⟨⟨⟨⟨⟨h1,h2⟩,h3⟩,h4⟩,h5⟩,h6⟩:=k
  rcases h with ((((h | h) | h) | h) | h) | h
  · exact h1 h
  · exact h2 h
  · exact h3 h
  · exact h4 h
  · exact h5 h
  · exact h6 h
theorem pf_of {t:ByteArray} (k:(((((t=⟨#[103]⟩∨t=⟨#[109]⟩)∨t=⟨#[108]⟩)∨t=⟨#[115]⟩)∨t=⟨#[74]⟩)∨t=⟨#[87,104]⟩)):pf t:=k
theorem word_sh {s:ByteArray} (h:(sym s).isSome=true∨s.size < 2):word s=sym s:=by
  by_cases k:(sym s).isSome=true
  · exact word_y k
  · have hz:=h.resolve_left k
    rw [word_n k,none_of k]
    rintro ⟨_,_,h3⟩
    have e:(s.extract 1 s.size).size=0:=by rw [ByteArray.size_extract];omega
    have hp:∀ t:ByteArray,pf t→t.size≠0:=fun t ht=>by
      rcases ht with ((((h | h) | h) | h) | h) | h <;> subst h <;> decide
    exact hp _ h3 e
end Un

open Go Go.Proofs
set_option maxRecDepth 10000 in
theorem frac9_ct (p q:Int) (hp: -9223372036854775808≤p∧p≤9223372036854775807) (hq: -9223372036854775808≤q∧q≤9223372036854775807) :
    Ct Tryz.prog 142 #[iv p,iv q] [] [] (fun g=>ag (DFrac.mk ⟨(Fr.rS (q≠0) (Rat.divInt p q)),Fr.rD (q≠0) (Rat.divInt p q),(g.ss 0)⟩ ⟨(Fr.rT (q≠0)),Fr.rE (q≠0) (Rat.divInt p q),(g.ss 1)⟩)) (fun g=>[fs true (Fr.rD (q≠0) (Rat.divInt p q)) (g.ss 0),fs true (Fr.rE (q≠0) (Rat.divInt p q)) (g.ss 1)]) (fun g=>[]) (fun g=>[]):=by
  refine V.fn mo Tryz.func142 14 2 (by kernel_rfl) fun w H ε k0=>?_;clear k0
  refine V.g [.nb 0 0 (fun b=>pp b 0) 29 (fun _=>ca (DFrac.mk ⟨0,[],{}⟩ ⟨0,[],{}⟩))] fun _ _ G1=>?_;intro S s
  refine nm (Fr.rS (q≠0) (Rat.divInt p q):Int) fun n1 hn1=>?_;refine nl (Fr.rD (q≠0) (Rat.divInt p q)) fun l1 hl1 hl1n=>?_;refine nm (Fr.rT (q≠0):Int) fun n2 hn2=>?_;refine nl (Fr.rE (q≠0) (Rat.divInt p q)) fun l2 hl2 hl2n=>?_;refine nm (if q=0 then (15:Int) else 0:Int) fun n3 hn3=>?_;refine V.r [.k (iv p),.k (iv q),.ct g0 2 59 false [] [] [] (fun _ G=>r5of_ctv p q (by omega) (by omega) n1 hn1 l1 hl1 n2 hn2 l2 hl2 n3 hn3),.v fun G=>.tuple #[ag (DFrac.mk ⟨n1,l1,(G 2).ss 0⟩ ⟨n2,l2,(G 2).ss 1⟩),iv n3],.v fun G=>ag (DFrac.mk ⟨n1,l1,(G 2).ss 0⟩ ⟨n2,l2,(G 2).ss 1⟩),.k (iv n3),.nb 6 1 (fun b=>pp b 0) 29 (fun _=>ca (DFrac.mk ⟨0,[],{}⟩ ⟨0,[],{}⟩)),.st 1 (fun G=>.blk ((G 6).b) (ca (DFrac.mk ⟨n1,l1,(G 2).ss 0⟩ ⟨n2,l2,(G 2).ss 1⟩)) 29),.k (iv n3)] fun _ _ G2 kw2=>?_;intro S s
  obtain ⟨⟨kl1, -⟩,⟨kl2, -⟩, -⟩:Lq l1 (((G2 2).ss 0).v)∧Lq l2 (((G2 2).ss 1).v)∧True:=kq kw2;clear kw2;refine V.g [.ld 1 0 true (fun _=>Dat.cells (DFrac.mk ⟨n1,l1,(G2 2).ss 0⟩ ⟨n2,l2,(G2 2).ss 1⟩)),.st 0 (fun _=>.blk ((G1 0).b) (ca (DFrac.mk ⟨n1,l1,(G2 2).ss 0⟩ ⟨n2,l2,(G2 2).ss 1⟩)) 29)] fun _ _ G3=>?_;intro S s;have e1:l1=Fr.rD (q≠0) (Rat.divInt p q):=by rw [hl1]
  subst e1;have e3:l2=Fr.rE (q≠0) (Rat.divInt p q):=by rw [hl2]
  subst e3;have e0:n1=Fr.rS (q≠0) (Rat.divInt p q):=by rw [hn1]
  have e2:n2=Fr.rT (q≠0):=by rw [hn2]
  exact V.rt [0] [(G2 2).ss 0,(G2 2).ss 1] [fun _=>{},fun _=>{}] [] [0,1] [] (ag (DFrac.mk ⟨n1,(Fr.rD (q≠0) (Rat.divInt p q)),(G2 2).ss 0⟩ ⟨n2,(Fr.rE (q≠0) (Rat.divInt p q)),(G2 2).ss 1⟩)) (cong2 (fun (x0 x2:Int)=>(.agg #[iv x0,((G2 2).ss 0).v,iv x2,((G2 2).ss 1).v]:Value)) e0 e2)
theorem frac9_ctv (p q:Int) (hp: -9223372036854775808≤p∧p≤9223372036854775807) (hq: -9223372036854775808≤q∧q≤9223372036854775807) (rv0:Int) (erv0:rv0=Fr.rS (q≠0) (Rat.divInt p q)) (rv1:List Int) (erv1:rv1=Fr.rD (q≠0) (Rat.divInt p q)) (rv2:Int) (erv2:rv2=Fr.rT (q≠0)) (rv3:List Int) (erv3:rv3=Fr.rE (q≠0) (Rat.divInt p q)) :
    Ct Tryz.prog 142 #[iv p,iv q] [] [] (fun g=>ag (DFrac.mk ⟨rv0,rv1,(g.ss 0)⟩ ⟨rv2,rv3,(g.ss 1)⟩)) (fun g=>[fs true rv1 (g.ss 0),fs true rv3 (g.ss 1)]) (fun g=>[]) (fun g=>[]):=by
  subst erv0 erv1 erv2 erv3;exact frac9_ct p q hp hq
set_option maxRecDepth 10000 in
theorem base0_ct (exp d:Int) (f:List Int) (a:SV) (e:Int) (h:List Int) (c:SV) :
    Ct Tryz.prog 141 #[iv 0,iv exp,ag (DFrac.mk ⟨d,f,a⟩ ⟨e,h,c⟩)] [fs true f a,fs true h c] [] (fun g=>.agg #[iv exp,iv 0,iv 0,iv 0,iv 0,iv 0,iv d,((g.ss 0)).v,iv e,((g.ss 1)).v]) (fun g=>[fs false f (g.ss 0),fs false h (g.ss 1)]) (fun g=>[]) (fun g=>[]):=by
  refine V.fn mo Tryz.func141 15 3 (by kernel_rfl) fun w H ε k0=>?_;obtain ⟨⟨kl1, -⟩,⟨kl2, -⟩, -⟩:Lq f a.v∧Lq h c.v∧True:=kq k0
  clear k0;refine V.g [.nb 0 0 (fun b=>pp b 0) 29 (fun _=>ca (DFrac.mk ⟨d,f,a⟩ ⟨e,h,c⟩)),.nb 1 1 (fun b=>pp b 0) 42 (fun _=>#[iv 0,iv 0,iv 0,iv 0,iv 0,iv 0,iv 0,.slice none 0 0,iv 0,.slice none 0 0])] fun _ _ G1=>?_;intro S s
  refine V.g [.ld 0 0 true (fun _=>Dat.cells (DFrac.mk ⟨d,f,a⟩ ⟨e,h,c⟩)),.k (.agg #[iv 0,iv 0,iv 0,iv 0,iv 0,iv 0,iv d,a.v,iv e,c.v]),.nb 2 2 (fun b=>pp b 0) 42 (fun _=>#[iv 0,iv 0,iv 0,iv 0,iv 0,iv 0,iv 0,.slice none 0 0,iv 0,.slice none 0 0]),.st 2 (fun G=>.blk ((G 2).b) #[iv 0,iv 0,iv 0,iv 0,iv 0,iv 0,iv d,a.v,iv e,c.v] 42)] fun _ _ G2=>?_;intro S s
  refine V.g [.k (iv 0),.k (iv exp),.k (pp ((G2 2).b) 0),.k (pp ((G2 2).b) 0),.st 2 (fun _=>.blk ((G2 2).b) #[iv exp,iv 0,iv 0,iv 0,iv 0,iv 0,iv d,a.v,iv e,c.v] 42)] fun _ _ G3=>?_;intro S s
  refine V.g [.ld 2 0 true (fun _=>[iv exp,iv 0,iv 0,iv 0,iv 0,iv 0,iv d,a.v,iv e,c.v]),.st 1 (fun _=>.blk ((G1 1).b) #[iv exp,iv 0,iv 0,iv 0,iv 0,iv 0,iv d,a.v,iv e,c.v] 42)] fun _ _ G4=>?_;intro S s
  exact V.rs [1] [a,c] [fun _=>{},fun _=>{}] [] [0,1] [] (.agg #[iv exp,iv 0,iv 0,iv 0,iv 0,iv 0,iv d,a.v,iv e,c.v])
set_option maxRecDepth 10000 in
theorem base1_ct (exp d:Int) (f:List Int) (a:SV) (e:Int) (h:List Int) (c:SV) :
    Ct Tryz.prog 141 #[iv 1,iv exp,ag (DFrac.mk ⟨d,f,a⟩ ⟨e,h,c⟩)] [fs true f a,fs true h c] [] (fun g=>.agg #[iv 0,iv exp,iv 0,iv 0,iv 0,iv 0,iv d,((g.ss 0)).v,iv e,((g.ss 1)).v]) (fun g=>[fs false f (g.ss 0),fs false h (g.ss 1)]) (fun g=>[]) (fun g=>[]):=by
  refine V.fn mo Tryz.func141 15 3 (by kernel_rfl) fun w H ε k0=>?_;obtain ⟨⟨kl1, -⟩,⟨kl2, -⟩, -⟩:Lq f a.v∧Lq h c.v∧True:=kq k0
  clear k0;refine V.g [.nb 0 0 (fun b=>pp b 0) 29 (fun _=>ca (DFrac.mk ⟨d,f,a⟩ ⟨e,h,c⟩)),.nb 1 1 (fun b=>pp b 0) 42 (fun _=>#[iv 0,iv 0,iv 0,iv 0,iv 0,iv 0,iv 0,.slice none 0 0,iv 0,.slice none 0 0])] fun _ _ G1=>?_;intro S s
  refine V.g [.ld 0 0 true (fun _=>Dat.cells (DFrac.mk ⟨d,f,a⟩ ⟨e,h,c⟩)),.k (.agg #[iv 0,iv 0,iv 0,iv 0,iv 0,iv 0,iv d,a.v,iv e,c.v]),.nb 2 2 (fun b=>pp b 0) 42 (fun _=>#[iv 0,iv 0,iv 0,iv 0,iv 0,iv 0,iv 0,.slice none 0 0,iv 0,.slice none 0 0]),.st 2 (fun G=>.blk ((G 2).b) #[iv 0,iv 0,iv 0,iv 0,iv 0,iv 0,iv d,a.v,iv e,c.v] 42)] fun _ _ G2=>?_;intro S s
  refine V.g [.k (iv 1),.k (iv exp),.k (pp ((G2 2).b) 0),.k (pp ((G2 2).b) 1),.st 2 (fun _=>.blk ((G2 2).b) #[iv 0,iv exp,iv 0,iv 0,iv 0,iv 0,iv d,a.v,iv e,c.v] 42)] fun _ _ G3=>?_;intro S s
  refine V.g [.ld 2 0 true (fun _=>[iv 0,iv exp,iv 0,iv 0,iv 0,iv 0,iv d,a.v,iv e,c.v]),.st 1 (fun _=>.blk ((G1 1).b) #[iv 0,iv exp,iv 0,iv 0,iv 0,iv 0,iv d,a.v,iv e,c.v] 42)] fun _ _ G4=>?_;intro S s
  exact V.rs [1] [a,c] [fun _=>{},fun _=>{}] [] [0,1] [] (.agg #[iv 0,iv exp,iv 0,iv 0,iv 0,iv 0,iv d,a.v,iv e,c.v])
set_option maxRecDepth 10000 in
theorem base2_ct (exp d:Int) (f:List Int) (a:SV) (e:Int) (h:List Int) (c:SV) :
    Ct Tryz.prog 141 #[iv 2,iv exp,ag (DFrac.mk ⟨d,f,a⟩ ⟨e,h,c⟩)] [fs true f a,fs true h c] [] (fun g=>.agg #[iv 0,iv 0,iv exp,iv 0,iv 0,iv 0,iv d,((g.ss 0)).v,iv e,((g.ss 1)).v]) (fun g=>[fs false f (g.ss 0),fs false h (g.ss 1)]) (fun g=>[]) (fun g=>[]):=by
  refine V.fn mo Tryz.func141 15 3 (by kernel_rfl) fun w H ε k0=>?_;obtain ⟨⟨kl1, -⟩,⟨kl2, -⟩, -⟩:Lq f a.v∧Lq h c.v∧True:=kq k0
  clear k0;refine V.g [.nb 0 0 (fun b=>pp b 0) 29 (fun _=>ca (DFrac.mk ⟨d,f,a⟩ ⟨e,h,c⟩)),.nb 1 1 (fun b=>pp b 0) 42 (fun _=>#[iv 0,iv 0,iv 0,iv 0,iv 0,iv 0,iv 0,.slice none 0 0,iv 0,.slice none 0 0])] fun _ _ G1=>?_;intro S s
  refine V.g [.ld 0 0 true (fun _=>Dat.cells (DFrac.mk ⟨d,f,a⟩ ⟨e,h,c⟩)),.k (.agg #[iv 0,iv 0,iv 0,iv 0,iv 0,iv 0,iv d,a.v,iv e,c.v]),.nb 2 2 (fun b=>pp b 0) 42 (fun _=>#[iv 0,iv 0,iv 0,iv 0,iv 0,iv 0,iv 0,.slice none 0 0,iv 0,.slice none 0 0]),.st 2 (fun G=>.blk ((G 2).b) #[iv 0,iv 0,iv 0,iv 0,iv 0,iv 0,iv d,a.v,iv e,c.v] 42)] fun _ _ G2=>?_;intro S s
  refine V.g [.k (iv 2),.k (iv exp),.k (pp ((G2 2).b) 0),.k (pp ((G2 2).b) 2),.st 2 (fun _=>.blk ((G2 2).b) #[iv 0,iv 0,iv exp,iv 0,iv 0,iv 0,iv d,a.v,iv e,c.v] 42)] fun _ _ G3=>?_;intro S s
  refine V.g [.ld 2 0 true (fun _=>[iv 0,iv 0,iv exp,iv 0,iv 0,iv 0,iv d,a.v,iv e,c.v]),.st 1 (fun _=>.blk ((G1 1).b) #[iv 0,iv 0,iv exp,iv 0,iv 0,iv 0,iv d,a.v,iv e,c.v] 42)] fun _ _ G4=>?_;intro S s
  exact V.rs [1] [a,c] [fun _=>{},fun _=>{}] [] [0,1] [] (.agg #[iv 0,iv 0,iv exp,iv 0,iv 0,iv 0,iv d,a.v,iv e,c.v])
set_option maxRecDepth 10000 in
theorem base3_ct (exp d:Int) (f:List Int) (a:SV) (e:Int) (h:List Int) (c:SV) :
    Ct Tryz.prog 141 #[iv 3,iv exp,ag (DFrac.mk ⟨d,f,a⟩ ⟨e,h,c⟩)] [fs true f a,fs true h c] [] (fun g=>.agg #[iv 0,iv 0,iv 0,iv exp,iv 0,iv 0,iv d,((g.ss 0)).v,iv e,((g.ss 1)).v]) (fun g=>[fs false f (g.ss 0),fs false h (g.ss 1)]) (fun g=>[]) (fun g=>[]):=by
  refine V.fn mo Tryz.func141 15 3 (by kernel_rfl) fun w H ε k0=>?_;obtain ⟨⟨kl1, -⟩,⟨kl2, -⟩, -⟩:Lq f a.v∧Lq h c.v∧True:=kq k0
  clear k0;refine V.g [.nb 0 0 (fun b=>pp b 0) 29 (fun _=>ca (DFrac.mk ⟨d,f,a⟩ ⟨e,h,c⟩)),.nb 1 1 (fun b=>pp b 0) 42 (fun _=>#[iv 0,iv 0,iv 0,iv 0,iv 0,iv 0,iv 0,.slice none 0 0,iv 0,.slice none 0 0])] fun _ _ G1=>?_;intro S s
  refine V.g [.ld 0 0 true (fun _=>Dat.cells (DFrac.mk ⟨d,f,a⟩ ⟨e,h,c⟩)),.k (.agg #[iv 0,iv 0,iv 0,iv 0,iv 0,iv 0,iv d,a.v,iv e,c.v]),.nb 2 2 (fun b=>pp b 0) 42 (fun _=>#[iv 0,iv 0,iv 0,iv 0,iv 0,iv 0,iv 0,.slice none 0 0,iv 0,.slice none 0 0]),.st 2 (fun G=>.blk ((G 2).b) #[iv 0,iv 0,iv 0,iv 0,iv 0,iv 0,iv d,a.v,iv e,c.v] 42)] fun _ _ G2=>?_;intro S s
  refine V.g [.k (iv 3),.k (iv exp),.k (pp ((G2 2).b) 0),.k (pp ((G2 2).b) 3),.st 2 (fun _=>.blk ((G2 2).b) #[iv 0,iv 0,iv 0,iv exp,iv 0,iv 0,iv d,a.v,iv e,c.v] 42)] fun _ _ G3=>?_;intro S s
  refine V.g [.ld 2 0 true (fun _=>[iv 0,iv 0,iv 0,iv exp,iv 0,iv 0,iv d,a.v,iv e,c.v]),.st 1 (fun _=>.blk ((G1 1).b) #[iv 0,iv 0,iv 0,iv exp,iv 0,iv 0,iv d,a.v,iv e,c.v] 42)] fun _ _ G4=>?_;intro S s
  exact V.rs [1] [a,c] [fun _=>{},fun _=>{}] [] [0,1] [] (.agg #[iv 0,iv 0,iv 0,iv exp,iv 0,iv 0,iv d,a.v,iv e,c.v])
set_option maxRecDepth 10000 in
theorem base4_ct (exp d:Int) (f:List Int) (a:SV) (e:Int) (h:List Int) (c:SV) :
    Ct Tryz.prog 141 #[iv 4,iv exp,ag (DFrac.mk ⟨d,f,a⟩ ⟨e,h,c⟩)] [fs true f a,fs true h c] [] (fun g=>.agg #[iv 0,iv 0,iv 0,iv 0,iv exp,iv 0,iv d,((g.ss 0)).v,iv e,((g.ss 1)).v]) (fun g=>[fs false f (g.ss 0),fs false h (g.ss 1)]) (fun g=>[]) (fun g=>[]):=by
  refine V.fn mo Tryz.func141 15 3 (by kernel_rfl) fun w H ε k0=>?_;obtain ⟨⟨kl1, -⟩,⟨kl2, -⟩, -⟩:Lq f a.v∧Lq h c.v∧True:=kq k0
  clear k0;refine V.g [.nb 0 0 (fun b=>pp b 0) 29 (fun _=>ca (DFrac.mk ⟨d,f,a⟩ ⟨e,h,c⟩)),.nb 1 1 (fun b=>pp b 0) 42 (fun _=>#[iv 0,iv 0,iv 0,iv 0,iv 0,iv 0,iv 0,.slice none 0 0,iv 0,.slice none 0 0])] fun _ _ G1=>?_;intro S s
  refine V.g [.ld 0 0 true (fun _=>Dat.cells (DFrac.mk ⟨d,f,a⟩ ⟨e,h,c⟩)),.k (.agg #[iv 0,iv 0,iv 0,iv 0,iv 0,iv 0,iv d,a.v,iv e,c.v]),.nb 2 2 (fun b=>pp b 0) 42 (fun _=>#[iv 0,iv 0,iv 0,iv 0,iv 0,iv 0,iv 0,.slice none 0 0,iv 0,.slice none 0 0]),.st 2 (fun G=>.blk ((G 2).b) #[iv 0,iv 0,iv 0,iv 0,iv 0,iv 0,iv d,a.v,iv e,c.v] 42)] fun _ _ G2=>?_;intro S s
  refine V.g [.k (iv 4),.k (iv exp),.k (pp ((G2 2).b) 0),.k (pp ((G2 2).b) 4),.st 2 (fun _=>.blk ((G2 2).b) #[iv 0,iv 0,iv 0,iv 0,iv exp,iv 0,iv d,a.v,iv e,c.v] 42)] fun _ _ G3=>?_;intro S s
  refine V.g [.ld 2 0 true (fun _=>[iv 0,iv 0,iv 0,iv 0,iv exp,iv 0,iv d,a.v,iv e,c.v]),.st 1 (fun _=>.blk ((G1 1).b) #[iv 0,iv 0,iv 0,iv 0,iv exp,iv 0,iv d,a.v,iv e,c.v] 42)] fun _ _ G4=>?_;intro S s
  exact V.rs [1] [a,c] [fun _=>{},fun _=>{}] [] [0,1] [] (.agg #[iv 0,iv 0,iv 0,iv 0,iv exp,iv 0,iv d,a.v,iv e,c.v])
set_option maxRecDepth 10000 in
theorem base5_ct (exp d:Int) (f:List Int) (a:SV) (e:Int) (h:List Int) (c:SV) :
    Ct Tryz.prog 141 #[iv 5,iv exp,ag (DFrac.mk ⟨d,f,a⟩ ⟨e,h,c⟩)] [fs true f a,fs true h c] [] (fun g=>.agg #[iv 0,iv 0,iv 0,iv 0,iv 0,iv exp,iv d,((g.ss 0)).v,iv e,((g.ss 1)).v]) (fun g=>[fs false f (g.ss 0),fs false h (g.ss 1)]) (fun g=>[]) (fun g=>[]):=by
  refine V.fn mo Tryz.func141 15 3 (by kernel_rfl) fun w H ε k0=>?_;obtain ⟨⟨kl1, -⟩,⟨kl2, -⟩, -⟩:Lq f a.v∧Lq h c.v∧True:=kq k0
  clear k0;refine V.g [.nb 0 0 (fun b=>pp b 0) 29 (fun _=>ca (DFrac.mk ⟨d,f,a⟩ ⟨e,h,c⟩)),.nb 1 1 (fun b=>pp b 0) 42 (fun _=>#[iv 0,iv 0,iv 0,iv 0,iv 0,iv 0,iv 0,.slice none 0 0,iv 0,.slice none 0 0])] fun _ _ G1=>?_;intro S s
  refine V.g [.ld 0 0 true (fun _=>Dat.cells (DFrac.mk ⟨d,f,a⟩ ⟨e,h,c⟩)),.k (.agg #[iv 0,iv 0,iv 0,iv 0,iv 0,iv 0,iv d,a.v,iv e,c.v]),.nb 2 2 (fun b=>pp b 0) 42 (fun _=>#[iv 0,iv 0,iv 0,iv 0,iv 0,iv 0,iv 0,.slice none 0 0,iv 0,.slice none 0 0]),.st 2 (fun G=>.blk ((G 2).b) #[iv 0,iv 0,iv 0,iv 0,iv 0,iv 0,iv d,a.v,iv e,c.v] 42)] fun _ _ G2=>?_;intro S s
  refine V.g [.k (iv 5),.k (iv exp),.k (pp ((G2 2).b) 0),.k (pp ((G2 2).b) 5),.st 2 (fun _=>.blk ((G2 2).b) #[iv 0,iv 0,iv 0,iv 0,iv 0,iv exp,iv d,a.v,iv e,c.v] 42)] fun _ _ G3=>?_;intro S s
  refine V.g [.ld 2 0 true (fun _=>[iv 0,iv 0,iv 0,iv 0,iv 0,iv exp,iv d,a.v,iv e,c.v]),.st 1 (fun _=>.blk ((G1 1).b) #[iv 0,iv 0,iv 0,iv 0,iv 0,iv exp,iv d,a.v,iv e,c.v] 42)] fun _ _ G4=>?_;intro S s
  exact V.rs [1] [a,c] [fun _=>{},fun _=>{}] [] [0,1] [] (.agg #[iv 0,iv 0,iv 0,iv 0,iv 0,iv exp,iv d,a.v,iv e,c.v])
set_option maxRecDepth 10000 in
theorem sym9_ct (s:ByteArray) :
    Ct Tryz.prog 106 #[tv s] [] [] (fun g=>.tuple #[.agg #[iv (Un.dv (Un.sym s) 0),iv (Un.dv (Un.sym s) 1),iv (Un.dv (Un.sym s) 2),iv (Un.dv (Un.sym s) 3),iv (Un.dv (Un.sym s) 4),iv (Un.dv (Un.sym s) 5),iv (Fr.rS ((Un.sym s).isSome=true) (Un.fv (Un.sym s))),((g.ss 0)).v,iv (Fr.rT ((Un.sym s).isSome=true)),((g.ss 1)).v],bv ((Un.sym s).isSome)]) (fun g=>[fs true (Fr.rD ((Un.sym s).isSome=true) (Un.fv (Un.sym s))) (g.ss 0),fs true (Fr.rE ((Un.sym s).isSome=true) (Un.fv (Un.sym s))) (g.ss 1)]) (fun g=>[]) (fun g=>[]):=by
  refine V.fn mo Tryz.func106 56 2 (by kernel_rfl) fun w H ε k0=>?_;clear k0
  refine V.g [.nb 0 0 (fun b=>pp b 0) 42 (fun _=>#[iv 0,iv 0,iv 0,iv 0,iv 0,iv 0,iv 0,.slice none 0 0,iv 0,.slice none 0 0]),.kb false] fun _ _ G1=>?_;intro S_ s_
  refine nm (Bg.sgn (1:Int):Int) fun n1 hn1=>?_;refine nl (Bg.dig (1:Int).natAbs) fun l1 hl1 hl1n=>?_;refine nl (Bg.dig 1) fun l2 hl2 hl2n=>?_;refine V.r [.ct g0 0 33 false [] [] [] (fun _ G=>r5int_ctv (1:Int) (by omega) n1 hn1 l1 hl1 l2 hl2),.nb 1 1 (fun b=>pp b 0) 29 (fun _=>ca (DFrac.mk ⟨0,[],{}⟩ ⟨0,[],{}⟩)),.st 1 (fun G=>.blk ((G 1).b) (ca (DFrac.mk ⟨n1,l1,(G 0).ss 0⟩ ⟨1,l2,(G 0).ss 1⟩)) 29)] fun _ _ G2 kw2=>?_;intro S_ s_
  obtain ⟨⟨kl1, -⟩,⟨kl2, -⟩, -⟩:Lq l1 (((G2 0).ss 0).v)∧Lq l2 (((G2 0).ss 1).v)∧True:=kq kw2;clear kw2;refine V.g [.k (tv s)] fun _ _ G3=>?_;intro S_ s_;refine V.g [.seq s ⟨#[103]⟩,.k (bv (decide (s=⟨#[103]⟩)))] fun _ _ G4=>?_;intro S_ s_;refine V.cn (b:=decide (s=⟨#[103]⟩)) iDT iDF (fun q1=>?_) (fun q2=>?_)
  · have hsy:Un.sym s=some ([1,0,0,0,0,0],Rat.divInt 1 1):=by rw [q1];kernel_rfl
    refine V.r [.ld 1 0 true (fun _=>Dat.cells (DFrac.mk ⟨n1,l1,(G2 0).ss 0⟩ ⟨1,l2,(G2 0).ss 1⟩)),.ctT g0 1 141 [(kf true (.f 0) l1 (fun _=>(G2 0).ss 0)).a,(kf true (.f 1) l2 (fun _=>(G2 0).ss 1)).a] (fun _ G=>base0_ct (1:Int) n1 l1 ((G2 0).ss 0) (1:Int) l2 ((G2 0).ss 1)),.st 0 (fun G=>.blk ((G1 0).b) #[iv (1:Int),iv 0,iv 0,iv 0,iv 0,iv 0,iv n1,((G 1).ss 0).v,iv (1:Int),((G 1).ss 1).v] 42),.kb true] fun _ _ G5 kw5=>?_;intro S_ s_
    obtain ⟨⟨kl3, -⟩,⟨kl4, -⟩, -⟩:Lq l1 (((G5 1).ss 0).v)∧Lq l2 (((G5 1).ss 1).v)∧True:=kq kw5;clear kw5;have z9:Fr.Fz n1 l1 1 l2 (((1:Int)):Rat):=by subst_vars;exact Un.intz _
    rw [←Fr.divInt1] at z9;have e7:l1=Fr.rD ((Un.sym s).isSome=true) (Un.fv (Un.sym s)):=(Fr.Fz.ret z9 (Un.is_s hsy) (Un.fv_s hsy).symm).2.1;subst e7;have e9:l2=Fr.rE ((Un.sym s).isSome=true) (Un.fv (Un.sym s)):=(Fr.Fz.ret z9 (Un.is_s hsy) (Un.fv_s hsy).symm).2.2.2;subst e9;have e0:(1:Int)=Un.dv (Un.sym s) 0:=(Un.dv_s hsy 0).symm;have e1:(0:Int)=Un.dv (Un.sym s) 1:=(Un.dv_s hsy 1).symm;have e2:(0:Int)=Un.dv (Un.sym s) 2:=(Un.dv_s hsy 2).symm;have e3:(0:Int)=Un.dv (Un.sym s) 3:=(Un.dv_s hsy 3).symm;have e4:(0:Int)=Un.dv (Un.sym s) 4:=(Un.dv_s hsy 4).symm;have e5:(0:Int)=Un.dv (Un.sym s) 5:=(Un.dv_s hsy 5).symm;have e6:n1=Fr.rS ((Un.sym s).isSome=true) (Un.fv (Un.sym s)):=(Fr.Fz.ret z9 (Un.is_s hsy) (Un.fv_s hsy).symm).1;have e8:(1:Int)=Fr.rT ((Un.sym s).isSome=true):=(Fr.Fz.ret z9 (Un.is_s hsy) (Un.fv_s hsy).symm).2.2.1;have e10:true=(Un.sym s).isSome:=by rw [hsy];rfl
    exact V.rt [0,0] [(G5 1).ss 0,(G5 1).ss 1] [fun _=>{},fun _=>{}] [] [2,3] [] (.tuple #[.agg #[iv (1:Int),iv 0,iv 0,iv 0,iv 0,iv 0,iv n1,((G5 1).ss 0).v,iv (1:Int),((G5 1).ss 1).v],bv true]) (cong9 (fun (x0 x1 x2 x3 x4 x5 x6 x8:Int) (x10:Bool)=>(.tuple #[.agg #[iv x0,iv x1,iv x2,iv x3,iv x4,iv x5,iv x6,((G5 1).ss 0).v,iv x8,((G5 1).ss 1).v],bv x10]:Value)) e0 e1 e2 e3 e4 e5 e6 e8 e10)
  have hsn0:¬ s=⟨#[103]⟩:=q2;refine V.g [.seq s ⟨#[116]⟩,.k (bv (decide (s=⟨#[116]⟩)))] fun _ _ G6=>?_;intro S_ s_
  refine V.cn (b:=decide (s=⟨#[116]⟩)) iDT iDF (fun q3=>?_) (fun q4=>?_)
  · have hsy:Un.sym s=some ([1,0,0,0,0,0],Rat.divInt 1000000 1):=by rw [q3];kernel_rfl
    refine nm (Bg.sgn (1000000:Int):Int) fun n2 hn2=>?_;refine nl (Bg.dig (1000000:Int).natAbs) fun l3 hl3 hl3n=>?_;refine V.r [.ct g0 0 33 false [] [] [] (fun _ G=>r5int_ctv (1000000:Int) (by omega) n2 hn2 l3 hl3 l2 hl2),.ctT g0 1 141 [(kf true (.g 0 0) l3 (fun G=>(G 0).ss 0)).a,(kf true (.g 0 1) l2 (fun G=>(G 0).ss 1)).a] (fun _ G=>base0_ct (1:Int) n2 l3 ((G 0).ss 0) (1:Int) l2 ((G 0).ss 1)),.st 0 (fun G=>.blk ((G1 0).b) #[iv (1:Int),iv 0,iv 0,iv 0,iv 0,iv 0,iv n2,((G 1).ss 0).v,iv (1:Int),((G 1).ss 1).v] 42),.kb true] fun _ _ G7 kw7=>?_;intro S_ s_
    obtain ⟨⟨kl5, -⟩,⟨kl6, -⟩,⟨kl7, -⟩,⟨kl8, -⟩, -⟩:Lq l3 (((G7 0).ss 0).v)∧Lq l2 (((G7 0).ss 1).v)∧Lq l3 (((G7 1).ss 0).v)∧Lq l2 (((G7 1).ss 1).v)∧True:=kq kw7;clear kw7;have z9:Fr.Fz n2 l3 1 l2 (((1000000:Int)):Rat):=by subst_vars;exact Un.intz _
    rw [←Fr.divInt1] at z9;have e7:l3=Fr.rD ((Un.sym s).isSome=true) (Un.fv (Un.sym s)):=(Fr.Fz.ret z9 (Un.is_s hsy) (Un.fv_s hsy).symm).2.1;subst e7;have e9:l2=Fr.rE ((Un.sym s).isSome=true) (Un.fv (Un.sym s)):=(Fr.Fz.ret z9 (Un.is_s hsy) (Un.fv_s hsy).symm).2.2.2;subst e9;have e0:(1:Int)=Un.dv (Un.sym s) 0:=(Un.dv_s hsy 0).symm;have e1:(0:Int)=Un.dv (Un.sym s) 1:=(Un.dv_s hsy 1).symm;have e2:(0:Int)=Un.dv (Un.sym s) 2:=(Un.dv_s hsy 2).symm;have e3:(0:Int)=Un.dv (Un.sym s) 3:=(Un.dv_s hsy 3).symm;have e4:(0:Int)=Un.dv (Un.sym s) 4:=(Un.dv_s hsy 4).symm;have e5:(0:Int)=Un.dv (Un.sym s) 5:=(Un.dv_s hsy 5).symm;have e6:n2=Fr.rS ((Un.sym s).isSome=true) (Un.fv (Un.sym s)):=(Fr.Fz.ret z9 (Un.is_s hsy) (Un.fv_s hsy).symm).1;have e8:(1:Int)=Fr.rT ((Un.sym s).isSome=true):=(Fr.Fz.ret z9 (Un.is_s hsy) (Un.fv_s hsy).symm).2.2.1;have e10:true=(Un.sym s).isSome:=by rw [hsy];rfl
    exact V.rt [0,0] [(G7 1).ss 0,(G7 1).ss 1] [fun _=>{},fun _=>{}] [] [4,5] [] (.tuple #[.agg #[iv (1:Int),iv 0,iv 0,iv 0,iv 0,iv 0,iv n2,((G7 1).ss 0).v,iv (1:Int),((G7 1).ss 1).v],bv true]) (cong9 (fun (x0 x1 x2 x3 x4 x5 x6 x8:Int) (x10:Bool)=>(.tuple #[.agg #[iv x0,iv x1,iv x2,iv x3,iv x4,iv x5,iv x6,((G7 1).ss 0).v,iv x8,((G7 1).ss 1).v],bv x10]:Value)) e0 e1 e2 e3 e4 e5 e6 e8 e10)
  have hsn1:¬ s=⟨#[116]⟩:=q4;refine V.g [.seq s ⟨#[109]⟩,.k (bv (decide (s=⟨#[109]⟩)))] fun _ _ G8=>?_;intro S_ s_
  refine V.cn (b:=decide (s=⟨#[109]⟩)) iDT iDF (fun q5=>?_) (fun q6=>?_)
  · have hsy:Un.sym s=some ([0,1,0,0,0,0],Rat.divInt 1 1):=by rw [q5];kernel_rfl
    refine V.r [.ld 1 0 true (fun _=>Dat.cells (DFrac.mk ⟨n1,l1,(G2 0).ss 0⟩ ⟨1,l2,(G2 0).ss 1⟩)),.ctT g0 1 141 [(kf true (.f 0) l1 (fun _=>(G2 0).ss 0)).a,(kf true (.f 1) l2 (fun _=>(G2 0).ss 1)).a] (fun _ G=>base1_ct (1:Int) n1 l1 ((G2 0).ss 0) (1:Int) l2 ((G2 0).ss 1)),.st 0 (fun G=>.blk ((G1 0).b) #[iv 0,iv (1:Int),iv 0,iv 0,iv 0,iv 0,iv n1,((G 1).ss 0).v,iv (1:Int),((G 1).ss 1).v] 42),.kb true] fun _ _ G9 kw9=>?_;intro S_ s_
    obtain ⟨⟨kl9, -⟩,⟨kl10, -⟩, -⟩:Lq l1 (((G9 1).ss 0).v)∧Lq l2 (((G9 1).ss 1).v)∧True:=kq kw9;clear kw9;have z9:Fr.Fz n1 l1 1 l2 (((1:Int)):Rat):=by subst_vars;exact Un.intz _
    rw [←Fr.divInt1] at z9;have e7:l1=Fr.rD ((Un.sym s).isSome=true) (Un.fv (Un.sym s)):=(Fr.Fz.ret z9 (Un.is_s hsy) (Un.fv_s hsy).symm).2.1;subst e7;have e9:l2=Fr.rE ((Un.sym s).isSome=true) (Un.fv (Un.sym s)):=(Fr.Fz.ret z9 (Un.is_s hsy) (Un.fv_s hsy).symm).2.2.2;subst e9;have e0:(0:Int)=Un.dv (Un.sym s) 0:=(Un.dv_s hsy 0).symm;have e1:(1:Int)=Un.dv (Un.sym s) 1:=(Un.dv_s hsy 1).symm;have e2:(0:Int)=Un.dv (Un.sym s) 2:=(Un.dv_s hsy 2).symm;have e3:(0:Int)=Un.dv (Un.sym s) 3:=(Un.dv_s hsy 3).symm;have e4:(0:Int)=Un.dv (Un.sym s) 4:=(Un.dv_s hsy 4).symm;have e5:(0:Int)=Un.dv (Un.sym s) 5:=(Un.dv_s hsy 5).symm;have e6:n1=Fr.rS ((Un.sym s).isSome=true) (Un.fv (Un.sym s)):=(Fr.Fz.ret z9 (Un.is_s hsy) (Un.fv_s hsy).symm).1;have e8:(1:Int)=Fr.rT ((Un.sym s).isSome=true):=(Fr.Fz.ret z9 (Un.is_s hsy) (Un.fv_s hsy).symm).2.2.1;have e10:true=(Un.sym s).isSome:=by rw [hsy];rfl
    exact V.rt [0,0] [(G9 1).ss 0,(G9 1).ss 1] [fun _=>{},fun _=>{}] [] [2,3] [] (.tuple #[.agg #[iv 0,iv (1:Int),iv 0,iv 0,iv 0,iv 0,iv n1,((G9 1).ss 0).v,iv (1:Int),((G9 1).ss 1).v],bv true]) (cong9 (fun (x0 x1 x2 x3 x4 x5 x6 x8:Int) (x10:Bool)=>(.tuple #[.agg #[iv x0,iv x1,iv x2,iv x3,iv x4,iv x5,iv x6,((G9 1).ss 0).v,iv x8,((G9 1).ss 1).v],bv x10]:Value)) e0 e1 e2 e3 e4 e5 e6 e8 e10)
  have hsn2:¬ s=⟨#[109]⟩:=q6;refine V.g [.seq s ⟨#[108]⟩,.k (bv (decide (s=⟨#[108]⟩)))] fun _ _ G10=>?_;intro S_ s_
  refine V.cn (b:=decide (s=⟨#[108]⟩)) iDT iDF (fun q7=>?_) (fun q8=>?_)
  · have hsy:Un.sym s=some ([0,3,0,0,0,0],Rat.divInt 1 1000):=by rw [q7];kernel_rfl
    refine nm (Fr.rS ((1000:Int)≠0) (Rat.divInt (1:Int) (1000:Int)):Int) fun n3 hn3=>?_;refine nl (Fr.rD ((1000:Int)≠0) (Rat.divInt (1:Int) (1000:Int))) fun l4 hl4 hl4n=>?_;refine nm (Fr.rT ((1000:Int)≠0):Int) fun n4 hn4=>?_;refine nl (Fr.rE ((1000:Int)≠0) (Rat.divInt (1:Int) (1000:Int))) fun l5 hl5 hl5n=>?_;refine V.r [.ct g0 0 142 false [] [] [] (fun _ G=>frac9_ctv (1:Int) (1000:Int) (by omega) (by omega) n3 hn3 l4 hl4 n4 hn4 l5 hl5),.ctT g0 1 141 [(kf true (.g 0 0) l4 (fun G=>(G 0).ss 0)).a,(kf true (.g 0 1) l5 (fun G=>(G 0).ss 1)).a] (fun _ G=>base1_ct (3:Int) n3 l4 ((G 0).ss 0) n4 l5 ((G 0).ss 1)),.st 0 (fun G=>.blk ((G1 0).b) #[iv 0,iv (3:Int),iv 0,iv 0,iv 0,iv 0,iv n3,((G 1).ss 0).v,iv n4,((G 1).ss 1).v] 42),.kb true] fun _ _ G11 kw11=>?_;intro S_ s_
    obtain ⟨⟨kl11, -⟩,⟨kl12, -⟩,⟨kl13, -⟩,⟨kl14, -⟩, -⟩:Lq l4 (((G11 0).ss 0).v)∧Lq l5 (((G11 0).ss 1).v)∧Lq l4 (((G11 1).ss 0).v)∧Lq l5 (((G11 1).ss 1).v)∧True:=kq kw11;clear kw11;have e7:l4=Fr.rD ((Un.sym s).isSome=true) (Un.fv (Un.sym s)):=(Fr.Fz.ret (Fr.Fz.of (show (1000:Int)≠0 by decide) hn3 hl4 hn4 hl5) (Un.is_s hsy) (Un.fv_s hsy).symm).2.1;subst e7;have e9:l5=Fr.rE ((Un.sym s).isSome=true) (Un.fv (Un.sym s)):=(Fr.Fz.ret (Fr.Fz.of (show (1000:Int)≠0 by decide) hn3 hl4 hn4 hl5) (Un.is_s hsy) (Un.fv_s hsy).symm).2.2.2;subst e9;have e0:(0:Int)=Un.dv (Un.sym s) 0:=(Un.dv_s hsy 0).symm;have e1:(3:Int)=Un.dv (Un.sym s) 1:=(Un.dv_s hsy 1).symm;have e2:(0:Int)=Un.dv (Un.sym s) 2:=(Un.dv_s hsy 2).symm;have e3:(0:Int)=Un.dv (Un.sym s) 3:=(Un.dv_s hsy 3).symm;have e4:(0:Int)=Un.dv (Un.sym s) 4:=(Un.dv_s hsy 4).symm;have e5:(0:Int)=Un.dv (Un.sym s) 5:=(Un.dv_s hsy 5).symm;have e6:n3=Fr.rS ((Un.sym s).isSome=true) (Un.fv (Un.sym s)):=(Fr.Fz.ret (Fr.Fz.of (show (1000:Int)≠0 by decide) hn3 hl4 hn4 hl5) (Un.is_s hsy) (Un.fv_s hsy).symm).1;have e8:n4=Fr.rT ((Un.sym s).isSome=true):=(Fr.Fz.ret (Fr.Fz.of (show (1000:Int)≠0 by decide) hn3 hl4 hn4 hl5) (Un.is_s hsy) (Un.fv_s hsy).symm).2.2.1;have e10:true=(Un.sym s).isSome:=by rw [hsy];rfl
    exact V.rt [0,0] [(G11 1).ss 0,(G11 1).ss 1] [fun _=>{},fun _=>{}] [] [4,5] [] (.tuple #[.agg #[iv 0,iv (3:Int),iv 0,iv 0,iv 0,iv 0,iv n3,((G11 1).ss 0).v,iv n4,((G11 1).ss 1).v],bv true]) (cong9 (fun (x0 x1 x2 x3 x4 x5 x6 x8:Int) (x10:Bool)=>(.tuple #[.agg #[iv x0,iv x1,iv x2,iv x3,iv x4,iv x5,iv x6,((G11 1).ss 0).v,iv x8,((G11 1).ss 1).v],bv x10]:Value)) e0 e1 e2 e3 e4 e5 e6 e8 e10)
  have hsn3:¬ s=⟨#[108]⟩:=q8;refine V.g [.seq s ⟨#[115]⟩,.k (bv (decide (s=⟨#[115]⟩)))] fun _ _ G12=>?_;intro S_ s_
  refine V.cn (b:=decide (s=⟨#[115]⟩)) iDT iDF (fun q9=>?_) (fun q10=>?_)
  · have hsy:Un.sym s=some ([0,0,1,0,0,0],Rat.divInt 1 1):=by rw [q9];kernel_rfl
    refine V.r [.ld 1 0 true (fun _=>Dat.cells (DFrac.mk ⟨n1,l1,(G2 0).ss 0⟩ ⟨1,l2,(G2 0).ss 1⟩)),.ctT g0 1 141 [(kf true (.f 0) l1 (fun _=>(G2 0).ss 0)).a,(kf true (.f 1) l2 (fun _=>(G2 0).ss 1)).a] (fun _ G=>base2_ct (1:Int) n1 l1 ((G2 0).ss 0) (1:Int) l2 ((G2 0).ss 1)),.st 0 (fun G=>.blk ((G1 0).b) #[iv 0,iv 0,iv (1:Int),iv 0,iv 0,iv 0,iv n1,((G 1).ss 0).v,iv (1:Int),((G 1).ss 1).v] 42),.kb true] fun _ _ G13 kw13=>?_;intro S_ s_
    obtain ⟨⟨kl15, -⟩,⟨kl16, -⟩, -⟩:Lq l1 (((G13 1).ss 0).v)∧Lq l2 (((G13 1).ss 1).v)∧True:=kq kw13;clear kw13;have z9:Fr.Fz n1 l1 1 l2 (((1:Int)):Rat):=by subst_vars;exact Un.intz _
    rw [←Fr.divInt1] at z9;have e7:l1=Fr.rD ((Un.sym s).isSome=true) (Un.fv (Un.sym s)):=(Fr.Fz.ret z9 (Un.is_s hsy) (Un.fv_s hsy).symm).2.1;subst e7;have e9:l2=Fr.rE ((Un.sym s).isSome=true) (Un.fv (Un.sym s)):=(Fr.Fz.ret z9 (Un.is_s hsy) (Un.fv_s hsy).symm).2.2.2;subst e9;have e0:(0:Int)=Un.dv (Un.sym s) 0:=(Un.dv_s hsy 0).symm;have e1:(0:Int)=Un.dv (Un.sym s) 1:=(Un.dv_s hsy 1).symm;have e2:(1:Int)=Un.dv (Un.sym s) 2:=(Un.dv_s hsy 2).symm;have e3:(0:Int)=Un.dv (Un.sym s) 3:=(Un.dv_s hsy 3).symm;have e4:(0:Int)=Un.dv (Un.sym s) 4:=(Un.dv_s hsy 4).symm;have e5:(0:Int)=Un.dv (Un.sym s) 5:=(Un.dv_s hsy 5).symm;have e6:n1=Fr.rS ((Un.sym s).isSome=true) (Un.fv (Un.sym s)):=(Fr.Fz.ret z9 (Un.is_s hsy) (Un.fv_s hsy).symm).1;have e8:(1:Int)=Fr.rT ((Un.sym s).isSome=true):=(Fr.Fz.ret z9 (Un.is_s hsy) (Un.fv_s hsy).symm).2.2.1;have e10:true=(Un.sym s).isSome:=by rw [hsy];rfl
    exact V.rt [0,0] [(G13 1).ss 0,(G13 1).ss 1] [fun _=>{},fun _=>{}] [] [2,3] [] (.tuple #[.agg #[iv 0,iv 0,iv (1:Int),iv 0,iv 0,iv 0,iv n1,((G13 1).ss 0).v,iv (1:Int),((G13 1).ss 1).v],bv true]) (cong9 (fun (x0 x1 x2 x3 x4 x5 x6 x8:Int) (x10:Bool)=>(.tuple #[.agg #[iv x0,iv x1,iv x2,iv x3,iv x4,iv x5,iv x6,((G13 1).ss 0).v,iv x8,((G13 1).ss 1).v],bv x10]:Value)) e0 e1 e2 e3 e4 e5 e6 e8 e10)
  have hsn4:¬ s=⟨#[115]⟩:=q10;refine V.g [.seq s ⟨#[104]⟩,.k (bv (decide (s=⟨#[104]⟩)))] fun _ _ G14=>?_;intro S_ s_
  refine V.cn (b:=decide (s=⟨#[104]⟩)) iDT iDF (fun q11=>?_) (fun q12=>?_)
  · have hsy:Un.sym s=some ([0,0,1,0,0,0],Rat.divInt 3600 1):=by rw [q11];kernel_rfl
    refine nm (Bg.sgn (3600:Int):Int) fun n5 hn5=>?_;refine nl (Bg.dig (3600:Int).natAbs) fun l6 hl6 hl6n=>?_;refine V.r [.ct g0 0 33 false [] [] [] (fun _ G=>r5int_ctv (3600:Int) (by omega) n5 hn5 l6 hl6 l2 hl2),.ctT g0 1 141 [(kf true (.g 0 0) l6 (fun G=>(G 0).ss 0)).a,(kf true (.g 0 1) l2 (fun G=>(G 0).ss 1)).a] (fun _ G=>base2_ct (1:Int) n5 l6 ((G 0).ss 0) (1:Int) l2 ((G 0).ss 1)),.st 0 (fun G=>.blk ((G1 0).b) #[iv 0,iv 0,iv (1:Int),iv 0,iv 0,iv 0,iv n5,((G 1).ss 0).v,iv (1:Int),((G 1).ss 1).v] 42),.kb true] fun _ _ G15 kw15=>?_;intro S_ s_
    obtain ⟨⟨kl17, -⟩,⟨kl18, -⟩,⟨kl19, -⟩,⟨kl20, -⟩, -⟩:Lq l6 (((G15 0).ss 0).v)∧Lq l2 (((G15 0).ss 1).v)∧Lq l6 (((G15 1).ss 0).v)∧Lq l2 (((G15 1).ss 1).v)∧True:=kq kw15;clear kw15;have z9:Fr.Fz n5 l6 1 l2 (((3600:Int)):Rat):=by subst_vars;exact Un.intz _
    rw [←Fr.divInt1] at z9;have e7:l6=Fr.rD ((Un.sym s).isSome=true) (Un.fv (Un.sym s)):=(Fr.Fz.ret z9 (Un.is_s hsy) (Un.fv_s hsy).symm).2.1;subst e7;have e9:l2=Fr.rE ((Un.sym s).isSome=true) (Un.fv (Un.sym s)):=(Fr.Fz.ret z9 (Un.is_s hsy) (Un.fv_s hsy).symm).2.2.2;subst e9;have e0:(0:Int)=Un.dv (Un.sym s) 0:=(Un.dv_s hsy 0).symm;have e1:(0:Int)=Un.dv (Un.sym s) 1:=(Un.dv_s hsy 1).symm;have e2:(1:Int)=Un.dv (Un.sym s) 2:=(Un.dv_s hsy 2).symm;have e3:(0:Int)=Un.dv (Un.sym s) 3:=(Un.dv_s hsy 3).symm;have e4:(0:Int)=Un.dv (Un.sym s) 4:=(Un.dv_s hsy 4).symm;have e5:(0:Int)=Un.dv (Un.sym s) 5:=(Un.dv_s hsy 5).symm;have e6:n5=Fr.rS ((Un.sym s).isSome=true) (Un.fv (Un.sym s)):=(Fr.Fz.ret z9 (Un.is_s hsy) (Un.fv_s hsy).symm).1;have e8:(1:Int)=Fr.rT ((Un.sym s).isSome=true):=(Fr.Fz.ret z9 (Un.is_s hsy) (Un.fv_s hsy).symm).2.2.1;have e10:true=(Un.sym s).isSome:=by rw [hsy];rfl
    exact V.rt [0,0] [(G15 1).ss 0,(G15 1).ss 1] [fun _=>{},fun _=>{}] [] [4,5] [] (.tuple #[.agg #[iv 0,iv 0,iv (1:Int),iv 0,iv 0,iv 0,iv n5,((G15 1).ss 0).v,iv (1:Int),((G15 1).ss 1).v],bv true]) (cong9 (fun (x0 x1 x2 x3 x4 x5 x6 x8:Int) (x10:Bool)=>(.tuple #[.agg #[iv x0,iv x1,iv x2,iv x3,iv x4,iv x5,iv x6,((G15 1).ss 0).v,iv x8,((G15 1).ss 1).v],bv x10]:Value)) e0 e1 e2 e3 e4 e5 e6 e8 e10)
  have hsn5:¬ s=⟨#[104]⟩:=q12;refine V.g [.seq s ⟨#[100]⟩,.k (bv (decide (s=⟨#[100]⟩)))] fun _ _ G16=>?_;intro S_ s_
  refine V.cn (b:=decide (s=⟨#[100]⟩)) iDT iDF (fun q13=>?_) (fun q14=>?_)
  · have hsy:Un.sym s=some ([0,0,1,0,0,0],Rat.divInt 86400 1):=by rw [q13];kernel_rfl
    refine nm (Bg.sgn (86400:Int):Int) fun n6 hn6=>?_;refine nl (Bg.dig (86400:Int).natAbs) fun l7 hl7 hl7n=>?_;refine V.r [.ct g0 0 33 false [] [] [] (fun _ G=>r5int_ctv (86400:Int) (by omega) n6 hn6 l7 hl7 l2 hl2),.ctT g0 1 141 [(kf true (.g 0 0) l7 (fun G=>(G 0).ss 0)).a,(kf true (.g 0 1) l2 (fun G=>(G 0).ss 1)).a] (fun _ G=>base2_ct (1:Int) n6 l7 ((G 0).ss 0) (1:Int) l2 ((G 0).ss 1)),.st 0 (fun G=>.blk ((G1 0).b) #[iv 0,iv 0,iv (1:Int),iv 0,iv 0,iv 0,iv n6,((G 1).ss 0).v,iv (1:Int),((G 1).ss 1).v] 42),.kb true] fun _ _ G17 kw17=>?_;intro S_ s_
    obtain ⟨⟨kl21, -⟩,⟨kl22, -⟩,⟨kl23, -⟩,⟨kl24, -⟩, -⟩:Lq l7 (((G17 0).ss 0).v)∧Lq l2 (((G17 0).ss 1).v)∧Lq l7 (((G17 1).ss 0).v)∧Lq l2 (((G17 1).ss 1).v)∧True:=kq kw17;clear kw17;have z9:Fr.Fz n6 l7 1 l2 (((86400:Int)):Rat):=by subst_vars;exact Un.intz _
    rw [←Fr.divInt1] at z9;have e7:l7=Fr.rD ((Un.sym s).isSome=true) (Un.fv (Un.sym s)):=(Fr.Fz.ret z9 (Un.is_s hsy) (Un.fv_s hsy).symm).2.1;subst e7;have e9:l2=Fr.rE ((Un.sym s).isSome=true) (Un.fv (Un.sym s)):=(Fr.Fz.ret z9 (Un.is_s hsy) (Un.fv_s hsy).symm).2.2.2;subst e9;have e0:(0:Int)=Un.dv (Un.sym s) 0:=(Un.dv_s hsy 0).symm;have e1:(0:Int)=Un.dv (Un.sym s) 1:=(Un.dv_s hsy 1).symm;have e2:(1:Int)=Un.dv (Un.sym s) 2:=(Un.dv_s hsy 2).symm;have e3:(0:Int)=Un.dv (Un.sym s) 3:=(Un.dv_s hsy 3).symm;have e4:(0:Int)=Un.dv (Un.sym s) 4:=(Un.dv_s hsy 4).symm;have e5:(0:Int)=Un.dv (Un.sym s) 5:=(Un.dv_s hsy 5).symm;have e6:n6=Fr.rS ((Un.sym s).isSome=true) (Un.fv (Un.sym s)):=(Fr.Fz.ret z9 (Un.is_s hsy) (Un.fv_s hsy).symm).1;have e8:(1:Int)=Fr.rT ((Un.sym s).isSome=true):=(Fr.Fz.ret z9 (Un.is_s hsy) (Un.fv_s hsy).symm).2.2.1;have e10:true=(Un.sym s).isSome:=by rw [hsy];rfl
    exact V.rt [0,0] [(G17 1).ss 0,(G17 1).ss 1] [fun _=>{},fun _=>{}] [] [4,5] [] (.tuple #[.agg #[iv 0,iv 0,iv (1:Int),iv 0,iv 0,iv 0,iv n6,((G17 1).ss 0).v,iv (1:Int),((G17 1).ss 1).v],bv true]) (cong9 (fun (x0 x1 x2 x3 x4 x5 x6 x8:Int) (x10:Bool)=>(.tuple #[.agg #[iv x0,iv x1,iv x2,iv x3,iv x4,iv x5,iv x6,((G17 1).ss 0).v,iv x8,((G17 1).ss 1).v],bv x10]:Value)) e0 e1 e2 e3 e4 e5 e6 e8 e10)
  have hsn6:¬ s=⟨#[100]⟩:=q14;refine V.g [.seq s ⟨#[74]⟩,.k (bv (decide (s=⟨#[74]⟩)))] fun _ _ G18=>?_;intro S_ s_
  refine V.cn (b:=decide (s=⟨#[74]⟩)) iDT iDF (fun q15=>?_) (fun q16=>?_)
  · have hsy:Un.sym s=some ([0,0,0,1,0,0],Rat.divInt 1 1):=by rw [q15];kernel_rfl
    refine V.r [.ld 1 0 true (fun _=>Dat.cells (DFrac.mk ⟨n1,l1,(G2 0).ss 0⟩ ⟨1,l2,(G2 0).ss 1⟩)),.ctT g0 1 141 [(kf true (.f 0) l1 (fun _=>(G2 0).ss 0)).a,(kf true (.f 1) l2 (fun _=>(G2 0).ss 1)).a] (fun _ G=>base3_ct (1:Int) n1 l1 ((G2 0).ss 0) (1:Int) l2 ((G2 0).ss 1)),.st 0 (fun G=>.blk ((G1 0).b) #[iv 0,iv 0,iv 0,iv (1:Int),iv 0,iv 0,iv n1,((G 1).ss 0).v,iv (1:Int),((G 1).ss 1).v] 42),.kb true] fun _ _ G19 kw19=>?_;intro S_ s_
    obtain ⟨⟨kl25, -⟩,⟨kl26, -⟩, -⟩:Lq l1 (((G19 1).ss 0).v)∧Lq l2 (((G19 1).ss 1).v)∧True:=kq kw19;clear kw19;have z9:Fr.Fz n1 l1 1 l2 (((1:Int)):Rat):=by subst_vars;exact Un.intz _
    rw [←Fr.divInt1] at z9;have e7:l1=Fr.rD ((Un.sym s).isSome=true) (Un.fv (Un.sym s)):=(Fr.Fz.ret z9 (Un.is_s hsy) (Un.fv_s hsy).symm).2.1;subst e7;have e9:l2=Fr.rE ((Un.sym s).isSome=true) (Un.fv (Un.sym s)):=(Fr.Fz.ret z9 (Un.is_s hsy) (Un.fv_s hsy).symm).2.2.2;subst e9;have e0:(0:Int)=Un.dv (Un.sym s) 0:=(Un.dv_s hsy 0).symm;have e1:(0:Int)=Un.dv (Un.sym s) 1:=(Un.dv_s hsy 1).symm;have e2:(0:Int)=Un.dv (Un.sym s) 2:=(Un.dv_s hsy 2).symm;have e3:(1:Int)=Un.dv (Un.sym s) 3:=(Un.dv_s hsy 3).symm;have e4:(0:Int)=Un.dv (Un.sym s) 4:=(Un.dv_s hsy 4).symm;have e5:(0:Int)=Un.dv (Un.sym s) 5:=(Un.dv_s hsy 5).symm;have e6:n1=Fr.rS ((Un.sym s).isSome=true) (Un.fv (Un.sym s)):=(Fr.Fz.ret z9 (Un.is_s hsy) (Un.fv_s hsy).symm).1;have e8:(1:Int)=Fr.rT ((Un.sym s).isSome=true):=(Fr.Fz.ret z9 (Un.is_s hsy) (Un.fv_s hsy).symm).2.2.1;have e10:true=(Un.sym s).isSome:=by rw [hsy];rfl
    exact V.rt [0,0] [(G19 1).ss 0,(G19 1).ss 1] [fun _=>{},fun _=>{}] [] [2,3] [] (.tuple #[.agg #[iv 0,iv 0,iv 0,iv (1:Int),iv 0,iv 0,iv n1,((G19 1).ss 0).v,iv (1:Int),((G19 1).ss 1).v],bv true]) (cong9 (fun (x0 x1 x2 x3 x4 x5 x6 x8:Int) (x10:Bool)=>(.tuple #[.agg #[iv x0,iv x1,iv x2,iv x3,iv x4,iv x5,iv x6,((G19 1).ss 0).v,iv x8,((G19 1).ss 1).v],bv x10]:Value)) e0 e1 e2 e3 e4 e5 e6 e8 e10)
  have hsn7:¬ s=⟨#[74]⟩:=q16;refine V.g [.seq s ⟨#[87,104]⟩,.k (bv (decide (s=⟨#[87,104]⟩)))] fun _ _ G20=>?_;intro S_ s_
  refine V.cn (b:=decide (s=⟨#[87,104]⟩)) iDT iDF (fun q17=>?_) (fun q18=>?_)
  · have hsy:Un.sym s=some ([0,0,0,1,0,0],Rat.divInt 3600 1):=by rw [q17];kernel_rfl
    refine nm (Bg.sgn (3600:Int):Int) fun n7 hn7=>?_;refine nl (Bg.dig (3600:Int).natAbs) fun l8 hl8 hl8n=>?_;refine V.r [.ct g0 0 33 false [] [] [] (fun _ G=>r5int_ctv (3600:Int) (by omega) n7 hn7 l8 hl8 l2 hl2),.ctT g0 1 141 [(kf true (.g 0 0) l8 (fun G=>(G 0).ss 0)).a,(kf true (.g 0 1) l2 (fun G=>(G 0).ss 1)).a] (fun _ G=>base3_ct (1:Int) n7 l8 ((G 0).ss 0) (1:Int) l2 ((G 0).ss 1)),.st 0 (fun G=>.blk ((G1 0).b) #[iv 0,iv 0,iv 0,iv (1:Int),iv 0,iv 0,iv n7,((G 1).ss 0).v,iv (1:Int),((G 1).ss 1).v] 42),.kb true] fun _ _ G21 kw21=>?_;intro S_ s_
    obtain ⟨⟨kl27, -⟩,⟨kl28, -⟩,⟨kl29, -⟩,⟨kl30, -⟩, -⟩:Lq l8 (((G21 0).ss 0).v)∧Lq l2 (((G21 0).ss 1).v)∧Lq l8 (((G21 1).ss 0).v)∧Lq l2 (((G21 1).ss 1).v)∧True:=kq kw21;clear kw21;have z9:Fr.Fz n7 l8 1 l2 (((3600:Int)):Rat):=by subst_vars;exact Un.intz _
    rw [←Fr.divInt1] at z9;have e7:l8=Fr.rD ((Un.sym s).isSome=true) (Un.fv (Un.sym s)):=(Fr.Fz.ret z9 (Un.is_s hsy) (Un.fv_s hsy).symm).2.1;subst e7;have e9:l2=Fr.rE ((Un.sym s).isSome=true) (Un.fv (Un.sym s)):=(Fr.Fz.ret z9 (Un.is_s hsy) (Un.fv_s hsy).symm).2.2.2;subst e9;have e0:(0:Int)=Un.dv (Un.sym s) 0:=(Un.dv_s hsy 0).symm;have e1:(0:Int)=Un.dv (Un.sym s) 1:=(Un.dv_s hsy 1).symm;have e2:(0:Int)=Un.dv (Un.sym s) 2:=(Un.dv_s hsy 2).symm;have e3:(1:Int)=Un.dv (Un.sym s) 3:=(Un.dv_s hsy 3).symm;have e4:(0:Int)=Un.dv (Un.sym s) 4:=(Un.dv_s hsy 4).symm;have e5:(0:Int)=Un.dv (Un.sym s) 5:=(Un.dv_s hsy 5).symm;have e6:n7=Fr.rS ((Un.sym s).isSome=true) (Un.fv (Un.sym s)):=(Fr.Fz.ret z9 (Un.is_s hsy) (Un.fv_s hsy).symm).1;have e8:(1:Int)=Fr.rT ((Un.sym s).isSome=true):=(Fr.Fz.ret z9 (Un.is_s hsy) (Un.fv_s hsy).symm).2.2.1;have e10:true=(Un.sym s).isSome:=by rw [hsy];rfl
    exact V.rt [0,0] [(G21 1).ss 0,(G21 1).ss 1] [fun _=>{},fun _=>{}] [] [4,5] [] (.tuple #[.agg #[iv 0,iv 0,iv 0,iv (1:Int),iv 0,iv 0,iv n7,((G21 1).ss 0).v,iv (1:Int),((G21 1).ss 1).v],bv true]) (cong9 (fun (x0 x1 x2 x3 x4 x5 x6 x8:Int) (x10:Bool)=>(.tuple #[.agg #[iv x0,iv x1,iv x2,iv x3,iv x4,iv x5,iv x6,((G21 1).ss 0).v,iv x8,((G21 1).ss 1).v],bv x10]:Value)) e0 e1 e2 e3 e4 e5 e6 e8 e10)
  have hsn8:¬ s=⟨#[87,104]⟩:=q18;refine V.g [.seq s ⟨#[99,101,110,116]⟩,.k (bv (decide (s=⟨#[99,101,110,116]⟩)))] fun _ _ G22=>?_;intro S_ s_
  refine V.cn (b:=decide (s=⟨#[99,101,110,116]⟩)) iDT iDF (fun q19=>?_) (fun q20=>?_)
  · have hsy:Un.sym s=some ([0,0,0,0,1,0],Rat.divInt 1 1):=by rw [q19];kernel_rfl
    refine V.r [.ld 1 0 true (fun _=>Dat.cells (DFrac.mk ⟨n1,l1,(G2 0).ss 0⟩ ⟨1,l2,(G2 0).ss 1⟩)),.ctT g0 1 141 [(kf true (.f 0) l1 (fun _=>(G2 0).ss 0)).a,(kf true (.f 1) l2 (fun _=>(G2 0).ss 1)).a] (fun _ G=>base4_ct (1:Int) n1 l1 ((G2 0).ss 0) (1:Int) l2 ((G2 0).ss 1)),.st 0 (fun G=>.blk ((G1 0).b) #[iv 0,iv 0,iv 0,iv 0,iv (1:Int),iv 0,iv n1,((G 1).ss 0).v,iv (1:Int),((G 1).ss 1).v] 42),.kb true] fun _ _ G23 kw23=>?_;intro S_ s_
    obtain ⟨⟨kl31, -⟩,⟨kl32, -⟩, -⟩:Lq l1 (((G23 1).ss 0).v)∧Lq l2 (((G23 1).ss 1).v)∧True:=kq kw23;clear kw23;have z9:Fr.Fz n1 l1 1 l2 (((1:Int)):Rat):=by subst_vars;exact Un.intz _
    rw [←Fr.divInt1] at z9;have e7:l1=Fr.rD ((Un.sym s).isSome=true) (Un.fv (Un.sym s)):=(Fr.Fz.ret z9 (Un.is_s hsy) (Un.fv_s hsy).symm).2.1;subst e7;have e9:l2=Fr.rE ((Un.sym s).isSome=true) (Un.fv (Un.sym s)):=(Fr.Fz.ret z9 (Un.is_s hsy) (Un.fv_s hsy).symm).2.2.2;subst e9;have e0:(0:Int)=Un.dv (Un.sym s) 0:=(Un.dv_s hsy 0).symm;have e1:(0:Int)=Un.dv (Un.sym s) 1:=(Un.dv_s hsy 1).symm;have e2:(0:Int)=Un.dv (Un.sym s) 2:=(Un.dv_s hsy 2).symm;have e3:(0:Int)=Un.dv (Un.sym s) 3:=(Un.dv_s hsy 3).symm;have e4:(1:Int)=Un.dv (Un.sym s) 4:=(Un.dv_s hsy 4).symm;have e5:(0:Int)=Un.dv (Un.sym s) 5:=(Un.dv_s hsy 5).symm;have e6:n1=Fr.rS ((Un.sym s).isSome=true) (Un.fv (Un.sym s)):=(Fr.Fz.ret z9 (Un.is_s hsy) (Un.fv_s hsy).symm).1;have e8:(1:Int)=Fr.rT ((Un.sym s).isSome=true):=(Fr.Fz.ret z9 (Un.is_s hsy) (Un.fv_s hsy).symm).2.2.1;have e10:true=(Un.sym s).isSome:=by rw [hsy];rfl
    exact V.rt [0,0] [(G23 1).ss 0,(G23 1).ss 1] [fun _=>{},fun _=>{}] [] [2,3] [] (.tuple #[.agg #[iv 0,iv 0,iv 0,iv 0,iv (1:Int),iv 0,iv n1,((G23 1).ss 0).v,iv (1:Int),((G23 1).ss 1).v],bv true]) (cong9 (fun (x0 x1 x2 x3 x4 x5 x6 x8:Int) (x10:Bool)=>(.tuple #[.agg #[iv x0,iv x1,iv x2,iv x3,iv x4,iv x5,iv x6,((G23 1).ss 0).v,iv x8,((G23 1).ss 1).v],bv x10]:Value)) e0 e1 e2 e3 e4 e5 e6 e8 e10)
  have hsn9:¬ s=⟨#[99,101,110,116]⟩:=q20;refine V.g [.seq s ⟨#[101,117,114]⟩,.k (bv (decide (s=⟨#[101,117,114]⟩)))] fun _ _ G24=>?_;intro S_ s_
  refine V.cn (b:=decide (s=⟨#[101,117,114]⟩)) iDT iDF (fun q21=>?_) (fun q22=>?_)
  · have hsy:Un.sym s=some ([0,0,0,0,1,0],Rat.divInt 100 1):=by rw [q21];kernel_rfl
    refine nm (Bg.sgn (100:Int):Int) fun n8 hn8=>?_;refine nl (Bg.dig (100:Int).natAbs) fun l9 hl9 hl9n=>?_;refine V.r [.ct g0 0 33 false [] [] [] (fun _ G=>r5int_ctv (100:Int) (by omega) n8 hn8 l9 hl9 l2 hl2),.ctT g0 1 141 [(kf true (.g 0 0) l9 (fun G=>(G 0).ss 0)).a,(kf true (.g 0 1) l2 (fun G=>(G 0).ss 1)).a] (fun _ G=>base4_ct (1:Int) n8 l9 ((G 0).ss 0) (1:Int) l2 ((G 0).ss 1)),.st 0 (fun G=>.blk ((G1 0).b) #[iv 0,iv 0,iv 0,iv 0,iv (1:Int),iv 0,iv n8,((G 1).ss 0).v,iv (1:Int),((G 1).ss 1).v] 42),.kb true] fun _ _ G25 kw25=>?_;intro S_ s_
    obtain ⟨⟨kl33, -⟩,⟨kl34, -⟩,⟨kl35, -⟩,⟨kl36, -⟩, -⟩:Lq l9 (((G25 0).ss 0).v)∧Lq l2 (((G25 0).ss 1).v)∧Lq l9 (((G25 1).ss 0).v)∧Lq l2 (((G25 1).ss 1).v)∧True:=kq kw25;clear kw25;have z9:Fr.Fz n8 l9 1 l2 (((100:Int)):Rat):=by subst_vars;exact Un.intz _
    rw [←Fr.divInt1] at z9;have e7:l9=Fr.rD ((Un.sym s).isSome=true) (Un.fv (Un.sym s)):=(Fr.Fz.ret z9 (Un.is_s hsy) (Un.fv_s hsy).symm).2.1;subst e7;have e9:l2=Fr.rE ((Un.sym s).isSome=true) (Un.fv (Un.sym s)):=(Fr.Fz.ret z9 (Un.is_s hsy) (Un.fv_s hsy).symm).2.2.2;subst e9;have e0:(0:Int)=Un.dv (Un.sym s) 0:=(Un.dv_s hsy 0).symm;have e1:(0:Int)=Un.dv (Un.sym s) 1:=(Un.dv_s hsy 1).symm;have e2:(0:Int)=Un.dv (Un.sym s) 2:=(Un.dv_s hsy 2).symm;have e3:(0:Int)=Un.dv (Un.sym s) 3:=(Un.dv_s hsy 3).symm;have e4:(1:Int)=Un.dv (Un.sym s) 4:=(Un.dv_s hsy 4).symm;have e5:(0:Int)=Un.dv (Un.sym s) 5:=(Un.dv_s hsy 5).symm;have e6:n8=Fr.rS ((Un.sym s).isSome=true) (Un.fv (Un.sym s)):=(Fr.Fz.ret z9 (Un.is_s hsy) (Un.fv_s hsy).symm).1;have e8:(1:Int)=Fr.rT ((Un.sym s).isSome=true):=(Fr.Fz.ret z9 (Un.is_s hsy) (Un.fv_s hsy).symm).2.2.1;have e10:true=(Un.sym s).isSome:=by rw [hsy];rfl
    exact V.rt [0,0] [(G25 1).ss 0,(G25 1).ss 1] [fun _=>{},fun _=>{}] [] [4,5] [] (.tuple #[.agg #[iv 0,iv 0,iv 0,iv 0,iv (1:Int),iv 0,iv n8,((G25 1).ss 0).v,iv (1:Int),((G25 1).ss 1).v],bv true]) (cong9 (fun (x0 x1 x2 x3 x4 x5 x6 x8:Int) (x10:Bool)=>(.tuple #[.agg #[iv x0,iv x1,iv x2,iv x3,iv x4,iv x5,iv x6,((G25 1).ss 0).v,iv x8,((G25 1).ss 1).v],bv x10]:Value)) e0 e1 e2 e3 e4 e5 e6 e8 e10)
  have hsn10:¬ s=⟨#[101,117,114]⟩:=q22;refine V.g [.seq s ⟨#[112,99]⟩,.k (bv (decide (s=⟨#[112,99]⟩)))] fun _ _ G26=>?_;intro S_ s_
  refine V.cn (b:=decide (s=⟨#[112,99]⟩)) iDT iDF (fun q23=>?_) (fun q24=>?_)
  · have hsy:Un.sym s=some ([0,0,0,0,0,1],Rat.divInt 1 1):=by rw [q23];kernel_rfl
    refine V.r [.ld 1 0 true (fun _=>Dat.cells (DFrac.mk ⟨n1,l1,(G2 0).ss 0⟩ ⟨1,l2,(G2 0).ss 1⟩)),.ctT g0 1 141 [(kf true (.f 0) l1 (fun _=>(G2 0).ss 0)).a,(kf true (.f 1) l2 (fun _=>(G2 0).ss 1)).a] (fun _ G=>base5_ct (1:Int) n1 l1 ((G2 0).ss 0) (1:Int) l2 ((G2 0).ss 1)),.st 0 (fun G=>.blk ((G1 0).b) #[iv 0,iv 0,iv 0,iv 0,iv 0,iv (1:Int),iv n1,((G 1).ss 0).v,iv (1:Int),((G 1).ss 1).v] 42),.kb true] fun _ _ G27 kw27=>?_;intro S_ s_
    obtain ⟨⟨kl37, -⟩,⟨kl38, -⟩, -⟩:Lq l1 (((G27 1).ss 0).v)∧Lq l2 (((G27 1).ss 1).v)∧True:=kq kw27;clear kw27;have z9:Fr.Fz n1 l1 1 l2 (((1:Int)):Rat):=by subst_vars;exact Un.intz _
    rw [←Fr.divInt1] at z9;have e7:l1=Fr.rD ((Un.sym s).isSome=true) (Un.fv (Un.sym s)):=(Fr.Fz.ret z9 (Un.is_s hsy) (Un.fv_s hsy).symm).2.1;subst e7;have e9:l2=Fr.rE ((Un.sym s).isSome=true) (Un.fv (Un.sym s)):=(Fr.Fz.ret z9 (Un.is_s hsy) (Un.fv_s hsy).symm).2.2.2;subst e9;have e0:(0:Int)=Un.dv (Un.sym s) 0:=(Un.dv_s hsy 0).symm;have e1:(0:Int)=Un.dv (Un.sym s) 1:=(Un.dv_s hsy 1).symm;have e2:(0:Int)=Un.dv (Un.sym s) 2:=(Un.dv_s hsy 2).symm;have e3:(0:Int)=Un.dv (Un.sym s) 3:=(Un.dv_s hsy 3).symm;have e4:(0:Int)=Un.dv (Un.sym s) 4:=(Un.dv_s hsy 4).symm;have e5:(1:Int)=Un.dv (Un.sym s) 5:=(Un.dv_s hsy 5).symm;have e6:n1=Fr.rS ((Un.sym s).isSome=true) (Un.fv (Un.sym s)):=(Fr.Fz.ret z9 (Un.is_s hsy) (Un.fv_s hsy).symm).1;have e8:(1:Int)=Fr.rT ((Un.sym s).isSome=true):=(Fr.Fz.ret z9 (Un.is_s hsy) (Un.fv_s hsy).symm).2.2.1;have e10:true=(Un.sym s).isSome:=by rw [hsy];rfl
    exact V.rt [0,0] [(G27 1).ss 0,(G27 1).ss 1] [fun _=>{},fun _=>{}] [] [2,3] [] (.tuple #[.agg #[iv 0,iv 0,iv 0,iv 0,iv 0,iv (1:Int),iv n1,((G27 1).ss 0).v,iv (1:Int),((G27 1).ss 1).v],bv true]) (cong9 (fun (x0 x1 x2 x3 x4 x5 x6 x8:Int) (x10:Bool)=>(.tuple #[.agg #[iv x0,iv x1,iv x2,iv x3,iv x4,iv x5,iv x6,((G27 1).ss 0).v,iv x8,((G27 1).ss 1).v],bv x10]:Value)) e0 e1 e2 e3 e4 e5 e6 e8 e10)
  have hsn11:¬ s=⟨#[112,99]⟩:=q24;have hsy:Un.sym s=none:=Un.sym_no hsn0 hsn1 hsn2 hsn3 hsn4 hsn5 hsn6 hsn7 hsn8 hsn9 hsn10 hsn11;refine V.g [.k (.agg #[iv 0,iv 0,iv 0,iv 0,iv 0,iv 0,iv 0,.slice none 0 0,iv 0,.slice none 0 0]),.st 0 (fun _=>.blk ((G1 0).b) #[iv 0,iv 0,iv 0,iv 0,iv 0,iv 0,iv 0,.slice none 0 0,iv 0,.slice none 0 0] 42),.kb false] fun _ _ G28=>?_;intro S_ s_
  refine V.nilF (α:=Int) ?_;refine V.nilF (α:=Int) ?_;have e7:([]:List Int)=Fr.rD ((Un.sym s).isSome=true) (Un.fv (Un.sym s)):=(Fr.Fz.no (Un.is_n hsy) (Un.fv (Un.sym s))).2.1;rw [←e7];have e9:([]:List Int)=Fr.rE ((Un.sym s).isSome=true) (Un.fv (Un.sym s)):=(Fr.Fz.no (Un.is_n hsy) (Un.fv (Un.sym s))).2.2.2;rw [←e9];have e0:(0:Int)=Un.dv (Un.sym s) 0:=(Un.dv_n hsy 0).symm;have e1:(0:Int)=Un.dv (Un.sym s) 1:=(Un.dv_n hsy 1).symm;have e2:(0:Int)=Un.dv (Un.sym s) 2:=(Un.dv_n hsy 2).symm;have e3:(0:Int)=Un.dv (Un.sym s) 3:=(Un.dv_n hsy 3).symm;have e4:(0:Int)=Un.dv (Un.sym s) 4:=(Un.dv_n hsy 4).symm;have e5:(0:Int)=Un.dv (Un.sym s) 5:=(Un.dv_n hsy 5).symm;have e6:(0:Int)=Fr.rS ((Un.sym s).isSome=true) (Un.fv (Un.sym s)):=(Fr.Fz.no (Un.is_n hsy) (Un.fv (Un.sym s))).1;have e8:(0:Int)=Fr.rT ((Un.sym s).isSome=true):=(Fr.Fz.no (Un.is_n hsy) (Un.fv (Un.sym s))).2.2.1;have e10:false=(Un.sym s).isSome:=by rw [hsy];rfl
  exact V.rt [0,0] [{},{}] [fun _=>{},fun _=>{}] [] [2,3] [] (.tuple #[.agg #[iv 0,iv 0,iv 0,iv 0,iv 0,iv 0,iv 0,SV.v ({}),iv 0,SV.v ({})],bv false]) (cong9 (fun (x0 x1 x2 x3 x4 x5 x6 x8:Int) (x10:Bool)=>(.tuple #[.agg #[iv x0,iv x1,iv x2,iv x3,iv x4,iv x5,iv x6,SV.v ({}),iv x8,SV.v ({})],bv x10]:Value)) e0 e1 e2 e3 e4 e5 e6 e8 e10)
theorem sym9_ctv (s:ByteArray) (rv0:Int) (erv0:rv0=Un.dv (Un.sym s) 0) (rv1:Int) (erv1:rv1=Un.dv (Un.sym s) 1) (rv2:Int) (erv2:rv2=Un.dv (Un.sym s) 2) (rv3:Int) (erv3:rv3=Un.dv (Un.sym s) 3) (rv4:Int) (erv4:rv4=Un.dv (Un.sym s) 4) (rv5:Int) (erv5:rv5=Un.dv (Un.sym s) 5) (rv6:Int) (erv6:rv6=Fr.rS ((Un.sym s).isSome=true) (Un.fv (Un.sym s))) (rv7:List Int) (erv7:rv7=Fr.rD ((Un.sym s).isSome=true) (Un.fv (Un.sym s))) (rv8:Int) (erv8:rv8=Fr.rT ((Un.sym s).isSome=true)) (rv9:List Int) (erv9:rv9=Fr.rE ((Un.sym s).isSome=true) (Un.fv (Un.sym s))) :
    Ct Tryz.prog 106 #[tv s] [] [] (fun g=>.tuple #[.agg #[iv rv0,iv rv1,iv rv2,iv rv3,iv rv4,iv rv5,iv rv6,((g.ss 0)).v,iv rv8,((g.ss 1)).v],bv ((Un.sym s).isSome)]) (fun g=>[fs true rv7 (g.ss 0),fs true rv9 (g.ss 1)]) (fun g=>[]) (fun g=>[]):=by
  subst erv0 erv1 erv2 erv3 erv4 erv5 erv6 erv7 erv8 erv9;exact sym9_ct s 
set_option maxRecDepth 10000 in
theorem ltr9_ct (c:Int) :
    Cp Tryz.prog 140 #[.int .u8 c] [] (bv (decide (Un.ltr c))):=by
  refine V.fn mo Tryz.func140 17 0 (by kernel_rfl) fun w H ε k0=>?_;clear k0
  refine V.g [.kb false] fun _ _ G1=>?_;intro S s
  refine nm (((decide (97≤c)) && (decide (c≤122))) || ((decide (65≤c)) && (decide (c≤90))):Bool) fun p1 hp1=>?_;refine V.g [.k (.int .u8 c),.k (bv (decide (97≤c))),.k (bv (decide (97≤c))),.k (.int .u8 c),.k (bv (decide (c≤122))),.and g0 false (decide (97≤c)) (decide (c≤122)),.k (bv ((decide (97≤c)) && (decide (c≤122)))),.k (.int .u8 c),.k (bv (decide (65≤c))),.k (bv (decide (65≤c))),.k (.int .u8 c),.k (bv (decide (c≤90))),.and (gF (b:=(decide (97≤c)) && (decide (c≤122))) (iAF iDF iDF)) false (decide (65≤c)) (decide (c≤90)),.orn g0 false ((decide (97≤c)) && (decide (c≤122))) ((decide (65≤c)) && (decide (c≤90))) p1 hp1,.k (bv p1)] fun _ _ G2=>?_;intro S s
  have e0:p1=decide (Un.ltr c):=by
    refine Bool.eq_iff_iff.2 (Iff.trans (iN hp1 (iOT (iAT iDT iDT) (iAT iDT iDT))) (Iff.trans ?_ decide_eq_true_iff.symm));exact Iff.rfl
  exact V.rt [0] [] [] [] [] [] (bv p1) (cong1 (fun (x0:Bool)=>(bv x0:Value)) e0)

open Go Go.Proofs
set_option maxRecDepth 10000 in
theorem r4mul_ct (e:Int) (c:List Int) (j:SV) (i:Int) (d:List Int) (l:SV) (hla:c.length≤17179869184) (hlb:d.length≤17179869184) :
    Ct Tryz.prog 89 #[ag (DBig.mk e ⟨c,j⟩),ag (DBig.mk i ⟨d,l⟩)] [fs true c j,fs true d l] [] (fun g=>.tuple #[ag (DBig.mk (Bg.oS (Bg.RtB e c∧Bg.RtB i d) (Bg.zv e c * Bg.zv i d)) ⟨Bg.oD (Bg.RtB e c∧Bg.RtB i d) (Bg.zv e c * Bg.zv i d),(g.ss 0)⟩),iv (if (Bg.RtB e c∧Bg.RtB i d) then (0:Int) else 1)]) (fun g=>[fs true (Bg.oD (Bg.RtB e c∧Bg.RtB i d) (Bg.zv e c * Bg.zv i d)) (g.ss 0)]) (fun g=>[]) (fun g=>[]):=by
  refine V.fn mo Tryz.func89 26 3 (by kernel_rfl) fun w H ε k0=>?_;obtain ⟨⟨kl1, -⟩,⟨kl2, -⟩, -⟩:Lq c j.v∧Lq d l.v∧True:=kq k0
  clear k0;refine V.g [.nb 0 0 (fun b=>pp b 0) 27 (fun _=>ca (DBig.mk e ⟨c,j⟩)),.nb 1 1 (fun b=>pp b 0) 27 (fun _=>ca (DBig.mk i ⟨d,l⟩)),.nb 2 2 (fun b=>pp b 0) 27 (fun _=>ca (DBig.mk 0 ⟨[],{}⟩)),.k (iv 0)] fun _ _ G1=>?_;intro S s
  refine nm ((!(decide (Bg.RtB e c))) || (!(decide (Bg.RtB i d))):Bool) fun p1 hp1=>?_;refine V.g [.ld 0 0 true (fun _=>Dat.cells (DBig.mk e ⟨c,j⟩)),.cp g0 1 80 [(kf false (.f 0) c (fun _=>j)).a] (fun _ G=>r4right_ct e c j),.k (bv (!(decide (Bg.RtB e c)))),.k (bv (!(decide (Bg.RtB e c)))),.ld 1 0 true (fun _=>Dat.cells (DBig.mk i ⟨d,l⟩)),.cp (gF (b:=!(decide (Bg.RtB e c))) (iNF iDT)) 5 80 [(kf false (.f 1) d (fun _=>l)).a] (fun hg G=>r4right_ct i d l),.k (bv (!(decide (Bg.RtB i d)))),.orn g0 false (!(decide (Bg.RtB e c))) (!(decide (Bg.RtB i d))) p1 hp1] fun _ _ G2=>?_;intro S s
  refine V.cn (b:=p1) (iN hp1 (iOT (iNT iDF) (iNT iDF))) (iN hp1 (iOF (iNF iDT) (iNF iDT))) (fun q1=>?_) (fun q2=>?_)
  · have hNR:¬ (Bg.RtB e c∧Bg.RtB i d):=by rintro ⟨h1,h2⟩;rcases q1 with h | h;exact h h1;exact h h2
    refine V.g [.k (ag (DBig.mk 0 ⟨[],{}⟩)),.st 2 (fun _=>.blk ((G1 2).b) (ca (DBig.mk 0 ⟨[],{}⟩)) 27),.k (iv 1)] fun _ _ G3=>?_;intro S s
    refine V.nilF (α:=Int) ?_;have e1:([]:List Int)=Bg.oD (Bg.RtB e c∧Bg.RtB i d) (Bg.zv e c * Bg.zv i d):=(Bg.oD_n hNR _).symm;rw [←e1];have e0:(0:Int)=Bg.oS (Bg.RtB e c∧Bg.RtB i d) (Bg.zv e c * Bg.zv i d):=(Bg.oS_n hNR _).symm;have e2:(1:Int)=if (Bg.RtB e c∧Bg.RtB i d) then (0:Int) else 1:=(if_neg hNR).symm
    exact V.rt [2,0] [{}] [fun _=>{}] [] [2] [] (.tuple #[ag (DBig.mk 0 ⟨([]:List Int),{}⟩),iv 1]) (cong2 (fun (x0 x2:Int)=>(.tuple #[.agg #[iv x0,SV.v ({})],iv x2]:Value)) e0 e2)
  have hRR:(Bg.RtB e c∧Bg.RtB i d):=by first | exact q2 | exact ⟨Decidable.not_not.1 (q2).1,Decidable.not_not.1 (q2).2⟩
  have hsm:=Bg.sml hRR.1 hRR.2;refine nm (e * i:Int) fun n1 hn1=>?_;refine nl (Bg.dig (Bg.nv c * Bg.nv d)) fun l1 hl1 hl1n=>?_;refine nm (Bg.sg0 (Bg.nv l1) n1:Int) fun n2 hn2=>?_;refine nl (Bg.dig (Bg.nv l1)) fun l2 hl2 hl2n=>?_;have hplen:=Bg.mul_dig_len c d hRR.1.dg hRR.2.dg
  refine V.r [.k (pp ((G1 0).b) 0),.ld 0 0 false (fun _=>[iv e]),.k (pp ((G1 1).b) 0),.ld 1 0 false (fun _=>[iv i]),.ar (e * i) n1 hn1 (by rw [hn1];exact hsm.1) (by rw [hn1];exact hsm.2),.k (pp ((G1 0).b) 1),.ld 0 1 false (fun _=>[j.v]),.k (pp ((G1 1).b) 1),.ld 1 1 false (fun _=>[l.v]),.ct g0 9 128 false [] [] [(kf false (.f 0) c (fun _=>j)).a,(kf false (.f 1) d (fun _=>l)).a] (fun _ G=>r4times_ctv c j d l hRR.1.dg hRR.2.dg (by omega) (by omega) l1 hl1),.ct g0 10 119 false [] [] [(kf true (.g 9 0) l1 (fun G=>(G 9).ss 0)).a] (fun _ G=>r4made_ctv n1 l1 ((G 9).ss 0) (by subst_vars;exact Bg.dig_Dg _) (by omega) n2 hn2 l2 hl2),.st 2 (fun G=>.blk ((G1 2).b) (ca (DBig.mk n2 ⟨l2,(G 10).ss 0⟩)) 27),.k (iv 0)] fun _ _ G4 kw4=>?_;intro S s
  obtain ⟨⟨kl3, -⟩,⟨kl4, -⟩, -⟩:Lq l1 (((G4 9).ss 0).v)∧Lq l2 (((G4 10).ss 0).v)∧True:=kq kw4;clear kw4;have e1:l2=Bg.oD (Bg.RtB e c∧Bg.RtB i d) (Bg.zv e c * Bg.zv i d):=by
    rw [hl2,hl1];rw [Bg.oD_y hRR];exact Bg.mulD hRR.1 hRR.2
  subst e1;have e0:n2=Bg.oS (Bg.RtB e c∧Bg.RtB i d) (Bg.zv e c * Bg.zv i d):=by
    rw [hn2,hl1,hn1];rw [Bg.oS_y hRR];exact Bg.mulS hRR.1 hRR.2
  have e2:(0:Int)=if (Bg.RtB e c∧Bg.RtB i d) then (0:Int) else 1:=(if_pos hRR).symm
  exact V.rt [2,0] [(G4 10).ss 0] [fun _=>{}] [] [3] [] (.tuple #[ag (DBig.mk n2 ⟨(Bg.oD (Bg.RtB e c∧Bg.RtB i d) (Bg.zv e c * Bg.zv i d)),(G4 10).ss 0⟩),iv 0]) (cong2 (fun (x0 x2:Int)=>(.tuple #[.agg #[iv x0,((G4 10).ss 0).v],iv x2]:Value)) e0 e2)
theorem r4mul_ctv (c:Int) (a:List Int) (e:SV) (d:Int) (b:List Int) (f:SV) (hla:a.length≤17179869184) (hlb:b.length≤17179869184) (rv0:Int) (erv0:rv0=Bg.oS (Bg.RtB c a∧Bg.RtB d b) (Bg.zv c a * Bg.zv d b)) (rv1:List Int) (erv1:rv1=Bg.oD (Bg.RtB c a∧Bg.RtB d b) (Bg.zv c a * Bg.zv d b)) (rv2:Int) (erv2:rv2=if (Bg.RtB c a∧Bg.RtB d b) then (0:Int) else 1) :
    Ct Tryz.prog 89 #[ag (DBig.mk c ⟨a,e⟩),ag (DBig.mk d ⟨b,f⟩)] [fs true a e,fs true b f] [] (fun g=>.tuple #[ag (DBig.mk rv0 ⟨rv1,(g.ss 0)⟩),iv rv2]) (fun g=>[fs true rv1 (g.ss 0)]) (fun g=>[]) (fun g=>[]):=by
  subst erv0 erv1 erv2;exact r4mul_ct c a e d b f hla hlb
set_option maxRecDepth 10000 in
theorem r4same_ct (m:Int) (c:List Int) (l:SV) (n:Int) (d:List Int) (o:SV) :
    Cp Tryz.prog 120 #[ag (DBig.mk m ⟨c,l⟩),ag (DBig.mk n ⟨d,o⟩)] [fs true c l,fs true d o] (bv (decide (m=n∧c=d))):=by
  refine V.fn mo Tryz.func120 38 2 (by kernel_rfl) fun w H ε k0=>?_;obtain ⟨⟨kl1, -⟩,⟨kl2, -⟩, -⟩:Lq c l.v∧Lq d o.v∧True:=kq k0
  clear k0;refine V.g [.nb 0 0 (fun b=>pp b 0) 27 (fun _=>ca (DBig.mk m ⟨c,l⟩)),.nb 1 1 (fun b=>pp b 0) 27 (fun _=>ca (DBig.mk n ⟨d,o⟩)),.kb false] fun _ _ G1=>?_;intro S s
  refine nm ((!(decide (m=n))) || (!(decide ((c.length:Int)=(d.length:Int)))):Bool) fun p1 hp1=>?_;refine V.g [.k (pp ((G1 0).b) 0),.ld 0 0 false (fun _=>[iv m]),.k (pp ((G1 1).b) 0),.ld 1 0 false (fun _=>[iv n]),.k (bv (!(decide (m=n)))),.k (bv (!(decide (m=n)))),.k (pp ((G1 0).b) 1),.ld 0 1 false (fun _=>[l.v]),.ln (kf false (.f 0) c (fun _=>l)),.k (pp ((G1 1).b) 1),.ld 1 1 false (fun _=>[o.v]),.ln (kf false (.f 1) d (fun _=>o)),.k (bv (!(decide ((c.length:Int)=(d.length:Int))))),.orn g0 false (!(decide (m=n))) (!(decide ((c.length:Int)=(d.length:Int)))) p1 hp1] fun _ _ G2=>?_;intro S s
  refine V.cn (b:=p1) (iN hp1 (iOT (iNT iDF) (iNT iDF))) (iN hp1 (iOF (iNF iDT) (iNF iDT))) (fun q1=>?_) (fun q2=>?_)
  · refine V.g [.kb false] fun _ _ G3=>?_;intro S s
    have e0:false=decide (m=n∧c=d):=by exact (decide_eq_false fun h=>by have hqq:=q1;rcases hqq with h1 | h1;exact h1 h.1;exact h1 (by rw [h.2])).symm
    exact V.rt [0] [] [] [] [] [] (bv false) (cong1 (fun (x0:Bool)=>(bv x0:Value)) e0)
  refine V.g [.k (iv 0)] fun _ _ G4=>?_;intro S s
  refine V.loop (γ:=Int) (fun i=>⟨[(2,pp ((G1 0).b) 0),(3,pp ((G1 1).b) 0),(5,iv i)],[fs false c l,fs false d o],[.blk ((G1 0).b) (ca (DBig.mk m ⟨c,l⟩)) 27,.blk ((G1 1).b) (ca (DBig.mk n ⟨d,o⟩)) 27]⟩) (fun i=>(0≤i)∧(i≤(c.length:Int))∧(0≤i)∧(i≤(c.length:Int))∧(∀ j,j < i.toNat→c.getD j default=d.getD j default)) (fun i=>((c.length:Int)-i).toNat) 0 (by kernel_rfl) [0,1] (by kernel_rfl) ?_ ?_
  · refine ⟨?_,?_,?_,?_,?_⟩
    · show 0≤(0:Int)
      first | omega | rfl | (simp;done) | (subst_vars;simp;done)
    · show (0:Int)≤(c.length:Int)
      first | omega | rfl | (simp;done) | (subst_vars;simp;done)
    · show 0≤(0:Int);omega
    · show (0:Int)≤(c.length:Int);omega
    show ∀ j,j < (0:Int).toNat→c.getD j default=d.getD j default;intro j hj;simp at hj
  rintro i hF1 kw5 Z1 hZ1;have hF1:(0≤i)∧(i≤(c.length:Int))∧(0≤i)∧(i≤(c.length:Int))∧(∀ j,j < i.toNat→c.getD j default=d.getD j default):=hF1;obtain ⟨hf1,hf2,hf3,hf4,hf5⟩:=hF1;clear kw5;refine V.g [.k (iv i),.k (pp ((G1 0).b) 1),.ld 0 1 false (fun _=>[l.v]),.ln (kf false (.f 0) c (fun _=>l)),.k (bv (decide (i < (c.length:Int))))] fun _ _ G5=>?_;intro S s;refine V.cn (b:=decide (i < (c.length:Int))) iDT iDF (fun q3=>?_) (fun q4=>?_)
  · refine nm (c.getD i.toNat default:Int) fun v1 hv1=>?_;refine nm (d.getD i.toNat default:Int) fun v2 hv2=>?_;refine V.g [.k (pp ((G1 0).b) 1),.ld 0 1 false (fun _=>[l.v]),.k (iv i),.ix g0 (kf false (.f 0) c (fun _=>l)) i (fun _=>⟨by omega,by omega⟩),.le g0 (kf false (.f 0) c (fun _=>l)) i none false v1 hv1 (fun _=>⟨by omega,by omega⟩) false (fun _=>[iv v1]),.k (pp ((G1 1).b) 1),.ld 1 1 false (fun _=>[o.v]),.k (iv i),.ix g0 (kf false (.f 1) d (fun _=>o)) i (fun _=>⟨by omega,by omega⟩),.le g0 (kf false (.f 1) d (fun _=>o)) i none false v2 hv2 (fun _=>⟨by omega,by omega⟩) false (fun _=>[iv v2]),.k (bv (!(decide (v1=v2))))] fun _ _ G6=>?_;intro S s
    refine V.cn (b:=!(decide (v1=v2))) (iNT iDF) (iNF iDT) (fun q5=>?_) (fun q6=>?_)
    · refine V.g [.kb false] fun _ _ G7=>?_;intro S s
      have e0:false=decide (m=n∧c=d):=(decide_eq_false fun h=>q5 (by rw [hv1,hv2,h.2])).symm;exact V.rt [0] [] [] [] [] [] (bv false) (cong1 (fun (x0:Bool)=>(bv x0:Value)) e0)
    refine V.g [.k (iv i),.a (i+1) (by omega) (by omega),.k (iv (i+1))] fun _ _ G8=>?_;intro S s
    refine V.rnd hZ1 (i+1) [0,1] (by kernel_rfl) ?_ ?_
    · refine ⟨?_,?_,?_,?_,?_⟩
      · show 0≤(i+1);omega
      · show (i+1)≤(c.length:Int);omega
      · show 0≤(i+1);omega
      · show (i+1)≤(c.length:Int);omega
      show ∀ j,j < (i+1).toNat→c.getD j default=d.getD j default;intro j hj;by_cases e:j < i.toNat
      · exact hf5 j e
      rw [show j=i.toNat by omega,← hv1,← hv2];exact (by have hqq:=q6;first | exact hqq | exact Decidable.not_not.1 hqq)
    show ((c.length:Int)-(i+1)).toNat < ((c.length:Int)-i).toNat;omega
  refine V.g [.kb true] fun _ _ G9=>?_;intro S s
  have e0:true=decide (m=n∧c=d):=(decide_eq_true ⟨by omega,Bg.eq_of_getD (by omega) fun j hj=>hf5 j (by omega)⟩).symm;exact V.rt [0] [] [] [] [] [] (bv true) (cong1 (fun (x0:Bool)=>(bv x0:Value)) e0)
set_option maxRecDepth 10000 in
theorem r4cmp_ct (c:Int) (d:List Int) (j:SV) (i:Int) (e:List Int) (l:SV) :
    Cp Tryz.prog 82 #[ag (DBig.mk c ⟨d,j⟩),ag (DBig.mk i ⟨e,l⟩)] [fs true d j,fs true e l] (iv (if (Bg.RtB c d∧Bg.RtB i e) then Bg.cmpI (Bg.zv c d) (Bg.zv i e) else 0)):=by
  refine V.fn mo Tryz.func82 37 2 (by kernel_rfl) fun w H ε k0=>?_;obtain ⟨⟨kl1, -⟩,⟨kl2, -⟩, -⟩:Lq d j.v∧Lq e l.v∧True:=kq k0
  clear k0;refine V.g [.nb 0 0 (fun b=>pp b 0) 27 (fun _=>ca (DBig.mk c ⟨d,j⟩)),.nb 1 1 (fun b=>pp b 0) 27 (fun _=>ca (DBig.mk i ⟨e,l⟩)),.k (iv 0)] fun _ _ G1=>?_;intro S s
  refine nm ((!(decide (Bg.RtB c d))) || (!(decide (Bg.RtB i e))):Bool) fun p1 hp1=>?_;refine nm (p1 || (decide (c=i∧d=e)):Bool) fun p2 hp2=>?_;refine V.g [.ld 0 0 true (fun _=>Dat.cells (DBig.mk c ⟨d,j⟩)),.cp g0 1 80 [(kf false (.f 0) d (fun _=>j)).a] (fun _ G=>r4right_ct c d j),.k (bv (!(decide (Bg.RtB c d)))),.k (bv (!(decide (Bg.RtB c d)))),.ld 1 0 true (fun _=>Dat.cells (DBig.mk i ⟨e,l⟩)),.cp (gF (b:=!(decide (Bg.RtB c d))) (iNF iDT)) 5 80 [(kf false (.f 1) e (fun _=>l)).a] (fun hg G=>r4right_ct i e l),.k (bv (!(decide (Bg.RtB i e)))),.orn g0 false (!(decide (Bg.RtB c d))) (!(decide (Bg.RtB i e))) p1 hp1,.k (bv p1),.ld 0 0 true (fun _=>Dat.cells (DBig.mk c ⟨d,j⟩)),.ld 1 0 true (fun _=>Dat.cells (DBig.mk i ⟨e,l⟩)),.cp (gF (b:=p1) (iN hp1 (iOF (iNF iDT) (iNF iDT)))) 11 120 [(kf false (.f 0) d (fun _=>j)).a,(kf false (.f 1) e (fun _=>l)).a] (fun hg G=>r4same_ct c d j i e l),.orn g0 false p1 (decide (c=i∧d=e)) p2 hp2] fun _ _ G2=>?_;intro S s
  refine V.cn (b:=p2) (iN hp2 (iOT (iN hp1 (iOT (iNT iDF) (iNT iDF))) iDT)) (iN hp2 (iOF (iN hp1 (iOF (iNF iDT) (iNF iDT))) iDF)) (fun q1=>?_) (fun q2=>?_)
  · refine V.g [.k (iv 0)] fun _ _ G3=>?_;intro S s
    have e0:(0:Int)=if (Bg.RtB c d∧Bg.RtB i e) then Bg.cmpI (Bg.zv c d) (Bg.zv i e) else 0:=by exact (Bg.cmp4_2 (by have hqq:=q1;rcases hqq with (h | h) | h;exact .inl h;exact .inr (.inl h);exact .inr (.inr h))).symm
    exact V.rt [0] [] [] [] [] [] (iv 0) (cong1 (fun (x0:Int)=>(iv x0:Value)) e0)
  have hqq:=q2;have hRR:(Bg.RtB c d∧Bg.RtB i e):=⟨hqq.1.1,hqq.1.2⟩;have hne:=hqq.2;refine V.g [.k (pp ((G1 0).b) 0),.ld 0 0 false (fun _=>[iv c]),.k (pp ((G1 1).b) 0),.ld 1 0 false (fun _=>[iv i]),.k (bv (!(decide (c=i))))] fun _ _ G4=>?_;intro S s
  refine V.cn (b:=!(decide (c=i))) (iNT iDF) (iNF iDT) (fun q3=>?_) (fun q4=>?_)
  · refine V.g [.k (pp ((G1 0).b) 0),.ld 0 0 false (fun _=>[iv c]),.k (pp ((G1 1).b) 0),.ld 1 0 false (fun _=>[iv i]),.k (bv (decide (c < i)))] fun _ _ G5=>?_;intro S s
    refine V.cn (b:=decide (c < i)) iDT iDF (fun q5=>?_) (fun q6=>?_)
    · refine V.g [.k (iv (-1))] fun _ _ G6=>?_;intro S s
      have e0:(-1:Int)=if (Bg.RtB c d∧Bg.RtB i e) then Bg.cmpI (Bg.zv c d) (Bg.zv i e) else 0:=by exact (Bg.cmp4_5 hRR (by have hqq:=q5;omega)).symm
      exact V.rt [0] [] [] [] [] [] (iv (-1)) (cong1 (fun (x0:Int)=>(iv x0:Value)) e0)
    refine V.g [.k (iv 1)] fun _ _ G7=>?_;intro S s
    have e0:(1:Int)=if (Bg.RtB c d∧Bg.RtB i e) then Bg.cmpI (Bg.zv c d) (Bg.zv i e) else 0:=by exact (Bg.cmp4_6 hRR (by have h1:=q6;have h2:=q3;omega)).symm
    exact V.rt [0] [] [] [] [] [] (iv 1) (cong1 (fun (x0:Int)=>(iv x0:Value)) e0)
  have hse:c=i:=by have hqq:=q4;omega
  refine V.g [.k (pp ((G1 0).b) 1),.ld 0 1 false (fun _=>[j.v]),.k (pp ((G1 1).b) 1),.ld 1 1 false (fun _=>[l.v]),.cp g0 4 121 [(kf false (.f 0) d (fun _=>j)).a,(kf false (.f 1) e (fun _=>l)).a] (fun _ G=>r4less_ct d j e l hRR.1.dg hRR.2.dg),.k (pp ((G1 0).b) 0),.ld 0 0 false (fun _=>[iv c]),.k (bv (decide (0 < c))),.k (bv ((decide (Bg.nv d < Bg.nv e)) == (decide (0 < c))))] fun _ _ G8=>?_;intro S s
  refine V.cn (b:=(decide (Bg.nv d < Bg.nv e)) == (decide (0 < c))) (iQT iDT iDT) (iQF iDT iDT) (fun q7=>?_) (fun q8=>?_)
  · refine V.g [.k (iv (-1))] fun _ _ G9=>?_;intro S s
    have e0:(-1:Int)=if (Bg.RtB c d∧Bg.RtB i e) then Bg.cmpI (Bg.zv c d) (Bg.zv i e) else 0:=(Bg.cmp4_8 hRR hne hse q7).symm
    exact V.rt [0] [] [] [] [] [] (iv (-1)) (cong1 (fun (x0:Int)=>(iv x0:Value)) e0)
  refine V.g [.k (iv 1)] fun _ _ G10=>?_;intro S s
  have e0:(1:Int)=if (Bg.RtB c d∧Bg.RtB i e) then Bg.cmpI (Bg.zv c d) (Bg.zv i e) else 0:=(Bg.cmp4_9 hRR hne hse q8).symm
  exact V.rt [0] [] [] [] [] [] (iv 1) (cong1 (fun (x0:Int)=>(iv x0:Value)) e0)
theorem r4cmp_ctv (c:Int) (a:List Int) (e:SV) (d:Int) (b:List Int) (f:SV) (rv0:Int) (erv0:rv0=if (Bg.RtB c a∧Bg.RtB d b) then Bg.cmpI (Bg.zv c a) (Bg.zv d b) else 0) :
    Cp Tryz.prog 82 #[ag (DBig.mk c ⟨a,e⟩),ag (DBig.mk d ⟨b,f⟩)] [fs true a e,fs true b f] (iv rv0):=by
  subst erv0;exact r4cmp_ct c a e d b f 

open Go Go.Proofs
set_option maxRecDepth 10000 in
theorem r5right_ct (i:Int) (c:List Int) (j:SV) (e:Int) (d:List Int) (l:SV) (hfP:c.length≤17179869184) (hfQ:d.length≤17179869184) :
    Cp Tryz.prog 39 #[ag (DFrac.mk ⟨i,c,j⟩ ⟨e,d,l⟩)] [fs true c j,fs true d l] (bv (decide (Fr.FrB i c e d))):=by
  refine V.fn mo Tryz.func39 33 2 (by kernel_rfl) fun w H ε k0=>?_;obtain ⟨⟨kl1, -⟩,⟨kl2, -⟩, -⟩:Lq c j.v∧Lq d l.v∧True:=kq k0
  clear k0;refine V.g [.nb 0 0 (fun b=>pp b 0) 29 (fun _=>ca (DFrac.mk ⟨i,c,j⟩ ⟨e,d,l⟩)),.kb false] fun _ _ G1=>?_;intro S s
  refine nm ((!(decide (Bg.RtB i c))) || (!(decide (Bg.RtB e d))):Bool) fun p1 hp1=>?_;refine V.g [.k (pp ((G1 0).b) 0),.ld 0 0 true (fun _=>Dat.cells (DBig.mk i ⟨c,j⟩)),.cp g0 2 80 [(kf false (.f 0) c (fun _=>j)).a] (fun _ G=>r4right_ct i c j),.k (bv (!(decide (Bg.RtB i c)))),.k (bv (!(decide (Bg.RtB i c)))),.k (pp ((G1 0).b) 2),.ld 0 2 true (fun _=>Dat.cells (DBig.mk e ⟨d,l⟩)),.cp (gF (b:=!(decide (Bg.RtB i c))) (iNF iDT)) 7 80 [(kf false (.f 1) d (fun _=>l)).a] (fun hg G=>r4right_ct e d l),.k (bv (!(decide (Bg.RtB e d)))),.orn g0 false (!(decide (Bg.RtB i c))) (!(decide (Bg.RtB e d))) p1 hp1,.k (bv p1),.k (pp ((G1 0).b) 2),.k (pp ((G1 0).b) 2),.ld 0 2 false (fun _=>[iv e]),.k (bv (decide (e < 1))),.or g0 false p1 (decide (e < 1))] fun _ _ G2=>?_;intro S s
  refine V.cn (b:=p1 || (decide (e < 1))) (iOT (iN hp1 (iOT (iNT iDF) (iNT iDF))) iDT) (iOF (iN hp1 (iOF (iNF iDT) (iNF iDT))) iDF) (fun q1=>?_) (fun q2=>?_)
  · refine V.g [.kb false] fun _ _ G3=>?_;intro S s
    have e0:false=decide (Fr.FrB i c e d):=by exact (decide_eq_false fun h=>by have hqq:=q1;rcases hqq with (h1 | h1) | h1;exact h1 h.1;exact h1 h.2.1;have:=h.2.2.1;omega).symm
    exact V.rt [0] [] [] [] [] [] (bv false) (cong1 (fun (x0:Bool)=>(bv x0:Value)) e0)
  obtain ⟨⟨hR1,hR2⟩,hq3⟩:=q2;have hR3:e=1:=by have:=Bg.sg_le hR2;omega
  refine nm (Bg.oS (Bg.RtB i c∧Bg.RtB e d) ((Nat.gcd (Bg.nv c) (Bg.nv d):Int)):Int) fun n1 hn1=>?_;refine nl (Bg.oD (Bg.RtB i c∧Bg.RtB e d) ((Nat.gcd (Bg.nv c) (Bg.nv d):Int))) fun l1 hl1 hl1n=>?_;refine nm (if (Bg.RtB i c∧Bg.RtB e d) then (0:Int) else 1:Int) fun n2 hn2=>?_;have zg:=Fr.Bz.gcd (Fr.RtB.z hR1) (Fr.RtB.z hR2) hn1 hl1
  refine V.r [.k (pp ((G1 0).b) 0),.ld 0 0 true (fun _=>Dat.cells (DBig.mk i ⟨c,j⟩)),.k (pp ((G1 0).b) 2),.ld 0 2 true (fun _=>Dat.cells (DBig.mk e ⟨d,l⟩)),.ct g0 4 81 false [] [] [(kf false (.f 0) c (fun _=>j)).a,(kf false (.f 1) d (fun _=>l)).a] (fun _ G=>r4gcd_ctv i c j e d l (by omega) (by omega) n1 hn1 l1 hl1 n2 hn2),.v fun G=>.tuple #[ag (DBig.mk n1 ⟨l1,(G 4).ss 0⟩),iv n2],.v fun G=>ag (DBig.mk n1 ⟨l1,(G 4).ss 0⟩),.k (iv n2),.nb 8 1 (fun b=>pp b 0) 27 (fun _=>ca (DBig.mk 0 ⟨[],{}⟩)),.st 1 (fun G=>.blk ((G 8).b) (ca (DBig.mk n1 ⟨l1,(G 4).ss 0⟩)) 27),.k (iv n2)] fun _ _ G4 kw4=>?_;intro S s
  obtain ⟨⟨kl3, -⟩, -⟩:Lq l1 (((G4 4).ss 0).v)∧True:=kq kw4;clear kw4;refine nm (Bg.sgn (1:Int):Int) fun n3 hn3=>?_;refine nl (Bg.dig (1:Int).natAbs) fun l2 hl2 hl2n=>?_;refine nm (if (Bg.RtB n1 l1∧Bg.RtB n3 l2) then Bg.cmpI (Bg.zv n1 l1) (Bg.zv n3 l2) else 0:Int) fun n4 hn4=>?_;have zo:Fr.Bz n3 l2 1:=Fr.Bz.int hn3 hl2;have hcg:=Fr.r_is zg zo hn4;rw [←(Fr.RtB.z hR1).nat,← (Fr.RtB.z hR2).nat] at hcg;refine V.r [.ld 1 0 true (fun _=>Dat.cells (DBig.mk n1 ⟨l1,(G4 4).ss 0⟩)),.ct g0 1 83 false [] [] [] (fun _ G=>r4of_ctv (1:Int) (by omega) n3 hn3 l2 hl2),.cp g0 2 82 [(kf true (.f 2) l1 (fun _=>(G4 4).ss 0)).a,(kf true (.g 1 0) l2 (fun G=>(G 1).ss 0)).a] (fun _ G=>r4cmp_ctv n1 l1 ((G4 4).ss 0) n3 l2 ((G 1).ss 0) n4 hn4),.k (bv (decide (n4=0))),.k (bv (decide (n4=0)))] fun _ _ G5 kw5=>?_;intro S s;obtain ⟨⟨kl4, -⟩, -⟩:Lq l2 (((G5 1).ss 0).v)∧True:=kq kw5;clear kw5;have e0:(decide (n4=0))=decide (Fr.FrB i c e d):=by
    refine Bool.eq_iff_iff.2 (Iff.trans iDT (Iff.trans ?_ decide_eq_true_iff.symm));rw [hcg];exact ⟨fun h=>⟨hR1,hR2,hR3,h⟩,fun h=>h.2.2.2⟩
  exact V.rt [0] [] [] [] [] [] (bv (decide (n4=0))) (cong1 (fun (x0:Bool)=>(bv x0:Value)) e0)
set_option maxRecDepth 10000 in
theorem r5mul_ct (j:Int) (c:List Int) (o:SV) (m:Int) (d:List Int) (t:SV) (l:Int) (e:List Int) (u:SV) (n:Int) (i:List Int) (x:SV) (haP:c.length≤1073741824) (haQ:d.length≤1073741824) (hbP:e.length≤1073741824) (hbQ:i.length≤1073741824) :
    Ct Tryz.prog 50 #[ag (DFrac.mk ⟨j,c,o⟩ ⟨m,d,t⟩),ag (DFrac.mk ⟨l,e,u⟩ ⟨n,i,x⟩)] [fs true c o,fs true d t,fs true e u,fs true i x] [] (fun g=>.tuple #[ag (DFrac.mk ⟨(Fr.rS (Fr.FrB j c m d∧Fr.FrB l e n i) ((Fr.fq j c d) * (Fr.fq l e i))),Fr.rD (Fr.FrB j c m d∧Fr.FrB l e n i) ((Fr.fq j c d) * (Fr.fq l e i)),(g.ss 0)⟩ ⟨(Fr.rT (Fr.FrB j c m d∧Fr.FrB l e n i)),Fr.rE (Fr.FrB j c m d∧Fr.FrB l e n i) ((Fr.fq j c d) * (Fr.fq l e i)),(g.ss 1)⟩),iv (if ¬ (Fr.FrB j c m d∧Fr.FrB l e n i) then (1:Int) else 0)]) (fun g=>[fs true (Fr.rD (Fr.FrB j c m d∧Fr.FrB l e n i) ((Fr.fq j c d) * (Fr.fq l e i))) (g.ss 0),fs true (Fr.rE (Fr.FrB j c m d∧Fr.FrB l e n i) ((Fr.fq j c d) * (Fr.fq l e i))) (g.ss 1)]) (fun g=>[]) (fun g=>[]):=by
  refine V.fn mo Tryz.func50 40 5 (by kernel_rfl) fun w H ε k0=>?_;obtain ⟨⟨kl1, -⟩,⟨kl2, -⟩,⟨kl3, -⟩,⟨kl4, -⟩, -⟩:Lq c o.v∧Lq d t.v∧Lq e u.v∧Lq i x.v∧True:=kq k0
  clear k0;refine V.g [.nb 0 0 (fun b=>pp b 0) 29 (fun _=>ca (DFrac.mk ⟨j,c,o⟩ ⟨m,d,t⟩)),.nb 1 1 (fun b=>pp b 0) 29 (fun _=>ca (DFrac.mk ⟨l,e,u⟩ ⟨n,i,x⟩)),.nb 2 2 (fun b=>pp b 0) 29 (fun _=>ca (DFrac.mk ⟨0,[],{}⟩ ⟨0,[],{}⟩)),.k (iv 0)] fun _ _ G1=>?_;intro S s
  refine nm ((!(decide (Fr.FrB j c m d))) || (!(decide (Fr.FrB l e n i))):Bool) fun p1 hp1=>?_;refine V.g [.ld 0 0 true (fun _=>Dat.cells (DFrac.mk ⟨j,c,o⟩ ⟨m,d,t⟩)),.cp g0 1 39 [(kf false (.f 0) c (fun _=>o)).a,(kf false (.f 1) d (fun _=>t)).a] (fun _ G=>r5right_ct j c o m d t (by omega) (by omega)),.k (bv (!(decide (Fr.FrB j c m d)))),.k (bv (!(decide (Fr.FrB j c m d)))),.ld 1 0 true (fun _=>Dat.cells (DFrac.mk ⟨l,e,u⟩ ⟨n,i,x⟩)),.cp (gF (b:=!(decide (Fr.FrB j c m d))) (iNF iDT)) 5 39 [(kf false (.f 2) e (fun _=>u)).a,(kf false (.f 3) i (fun _=>x)).a] (fun hg G=>r5right_ct l e u n i x (by omega) (by omega)),.k (bv (!(decide (Fr.FrB l e n i)))),.orn g0 false (!(decide (Fr.FrB j c m d))) (!(decide (Fr.FrB l e n i))) p1 hp1] fun _ _ G2=>?_;intro S s
  refine V.cn (b:=p1) (iN hp1 (iOT (iNT iDF) (iNT iDF))) (iN hp1 (iOF (iNF iDT) (iNF iDT))) (fun q1=>?_) (fun q2=>?_)
  · have hNR:¬ (Fr.FrB j c m d∧Fr.FrB l e n i):=by rintro ⟨h1,h2⟩;rcases q1 with h | h;exact h h1;exact h h2
    refine V.g [.k (ag (DFrac.mk ⟨0,[],{}⟩ ⟨0,[],{}⟩)),.st 2 (fun _=>.blk ((G1 2).b) (ca (DFrac.mk ⟨0,[],{}⟩ ⟨0,[],{}⟩)) 29),.k (iv 1)] fun _ _ G3=>?_;intro S s
    refine V.nilF (α:=Int) ?_;refine V.nilF (α:=Int) ?_;have e1:([]:List Int)=Fr.rD (Fr.FrB j c m d∧Fr.FrB l e n i) ((Fr.fq j c d) * (Fr.fq l e i)):=(Fr.Fz.no hNR ((Fr.fq j c d) * (Fr.fq l e i))).2.1;rw [←e1];have e3:([]:List Int)=Fr.rE (Fr.FrB j c m d∧Fr.FrB l e n i) ((Fr.fq j c d) * (Fr.fq l e i)):=(Fr.Fz.no hNR ((Fr.fq j c d) * (Fr.fq l e i))).2.2.2;rw [←e3];have e0:(0:Int)=Fr.rS (Fr.FrB j c m d∧Fr.FrB l e n i) ((Fr.fq j c d) * (Fr.fq l e i)):=(Fr.Fz.no hNR ((Fr.fq j c d) * (Fr.fq l e i))).1;have e2:(0:Int)=Fr.rT (Fr.FrB j c m d∧Fr.FrB l e n i):=(Fr.Fz.no hNR ((Fr.fq j c d) * (Fr.fq l e i))).2.2.1;have e4:(1:Int)=if ¬ (Fr.FrB j c m d∧Fr.FrB l e n i) then (1:Int) else 0:=(if_pos hNR).symm
    exact V.rt [2,0] [{},{}] [fun _=>{},fun _=>{}] [] [4,5] [] (.tuple #[ag (DFrac.mk ⟨0,([]:List Int),{}⟩ ⟨0,([]:List Int),{}⟩),iv 1]) (cong3 (fun (x0 x2 x4:Int)=>(.tuple #[.agg #[iv x0,SV.v ({}),iv x2,SV.v ({})],iv x4]:Value)) e0 e2 e4)
  have hRR:Fr.FrB j c m d∧Fr.FrB l e n i:=by first | exact q2 | exact ⟨Decidable.not_not.1 (q2).1,Decidable.not_not.1 (q2).2⟩
  have fa:=Fr.FrB.z hRR.1;have fb:=Fr.FrB.z hRR.2;refine nm (Bg.oS (Bg.RtB j c∧Bg.RtB l e) (Bg.zv j c * Bg.zv l e):Int) fun n1 hn1=>?_;refine nl (Bg.oD (Bg.RtB j c∧Bg.RtB l e) (Bg.zv j c * Bg.zv l e)) fun l1 hl1 hl1n=>?_;refine nm (if (Bg.RtB j c∧Bg.RtB l e) then (0:Int) else 1:Int) fun n2 hn2=>?_;obtain ⟨z4,z4l⟩:=Fr.Bz.mul fa.p fb.p hn1 hl1
  refine V.r [.k (pp ((G1 0).b) 0),.ld 0 0 true (fun _=>Dat.cells (DBig.mk j ⟨c,o⟩)),.k (pp ((G1 1).b) 0),.ld 1 0 true (fun _=>Dat.cells (DBig.mk l ⟨e,u⟩)),.ct g0 4 89 false [] [] [(kf false (.f 0) c (fun _=>o)).a,(kf false (.f 2) e (fun _=>u)).a] (fun _ G=>r4mul_ctv j c o l e u (by omega) (by omega) n1 hn1 l1 hl1 n2 hn2),.v fun G=>.tuple #[ag (DBig.mk n1 ⟨l1,(G 4).ss 0⟩),iv n2],.v fun G=>ag (DBig.mk n1 ⟨l1,(G 4).ss 0⟩),.k (iv n2),.nb 8 3 (fun b=>pp b 0) 27 (fun _=>ca (DBig.mk 0 ⟨[],{}⟩)),.st 3 (fun G=>.blk ((G 8).b) (ca (DBig.mk n1 ⟨l1,(G 4).ss 0⟩)) 27),.k (iv n2)] fun _ _ G4 kw4=>?_;intro S s
  obtain ⟨⟨kl5, -⟩, -⟩:Lq l1 (((G4 4).ss 0).v)∧True:=kq kw4;clear kw4;refine nm (Bg.oS (Bg.RtB m d∧Bg.RtB n i) (Bg.zv m d * Bg.zv n i):Int) fun n3 hn3=>?_;refine nl (Bg.oD (Bg.RtB m d∧Bg.RtB n i) (Bg.zv m d * Bg.zv n i)) fun l2 hl2 hl2n=>?_;refine nm (if (Bg.RtB m d∧Bg.RtB n i) then (0:Int) else 1:Int) fun n4 hn4=>?_;obtain ⟨z9,z9l⟩:=Fr.Bz.mul fa.q fb.q hn3 hl2;refine V.r [.k (pp ((G1 0).b) 2),.ld 0 2 true (fun _=>Dat.cells (DBig.mk m ⟨d,t⟩)),.k (pp ((G1 1).b) 2),.ld 1 2 true (fun _=>Dat.cells (DBig.mk n ⟨i,x⟩)),.ct g0 4 89 false [] [] [(kf false (.f 1) d (fun _=>t)).a,(kf false (.f 3) i (fun _=>x)).a] (fun _ G=>r4mul_ctv m d t n i x (by omega) (by omega) n3 hn3 l2 hl2 n4 hn4),.v fun G=>.tuple #[ag (DBig.mk n3 ⟨l2,(G 4).ss 0⟩),iv n4],.v fun G=>ag (DBig.mk n3 ⟨l2,(G 4).ss 0⟩),.k (iv n4),.nb 8 4 (fun b=>pp b 0) 27 (fun _=>ca (DBig.mk 0 ⟨[],{}⟩)),.st 4 (fun G=>.blk ((G 8).b) (ca (DBig.mk n3 ⟨l2,(G 4).ss 0⟩)) 27),.k (iv n4)] fun _ _ G5 kw5=>?_;intro S s;obtain ⟨⟨kl6, -⟩, -⟩:Lq l2 (((G5 4).ss 0).v)∧True:=kq kw5;clear kw5;refine nm (Fr.rS ((Bg.RtB n1 l1∧Bg.RtB n3 l2)∧n3≠0) (Rat.divInt (Bg.zv n1 l1) (Bg.zv n3 l2)):Int) fun n5 hn5=>?_;refine nl (Fr.rD ((Bg.RtB n1 l1∧Bg.RtB n3 l2)∧n3≠0) (Rat.divInt (Bg.zv n1 l1) (Bg.zv n3 l2))) fun l3 hl3 hl3n=>?_;refine nm (Fr.rT ((Bg.RtB n1 l1∧Bg.RtB n3 l2)∧n3≠0):Int) fun n6 hn6=>?_;refine nl (Fr.rE ((Bg.RtB n1 l1∧Bg.RtB n3 l2)∧n3≠0) (Rat.divInt (Bg.zv n1 l1) (Bg.zv n3 l2))) fun l4 hl4 hl4n=>?_;refine nm (if ¬ (Bg.RtB n1 l1∧Bg.RtB n3 l2) then (1:Int) else if n3=0 then 15 else 0:Int) fun n7 hn7=>?_;have hy0:((((Fr.fq j c d)).den:Int) * (((Fr.fq l e i)).den:Int))≠0:=Int.mul_ne_zero fa.den fb.den;have zf:=Fr.new_is z4 z9 hy0 hn5 hl3 hn6 hl4;have hEr:n7=0:=by rw [hn7,if_neg (fun h=>h ⟨z4.rt,z9.rt⟩),if_neg (z9.ne.2 hy0)]
  have heq:=Fr.mul_is (Fr.fq j c d) (Fr.fq l e i);refine V.r [.ld 3 0 true (fun _=>Dat.cells (DBig.mk n1 ⟨l1,(G4 4).ss 0⟩)),.ld 4 0 true (fun _=>Dat.cells (DBig.mk n3 ⟨l2,(G5 4).ss 0⟩)),.ct g0 2 91 false [] [] [(kf true (.f 4) l1 (fun _=>(G4 4).ss 0)).a,(kf true (.f 5) l2 (fun _=>(G5 4).ss 0)).a] (fun _ G=>r5new_ctv n1 l1 ((G4 4).ss 0) n3 l2 ((G5 4).ss 0) (by omega) (by omega) n5 hn5 l3 hl3 n6 hn6 l4 hl4 n7 hn7),.v fun G=>ag (DFrac.mk ⟨n5,l3,(G 2).ss 0⟩ ⟨n6,l4,(G 2).ss 1⟩),.k (iv n7),.st 2 (fun G=>.blk ((G1 2).b) (ca (DFrac.mk ⟨n5,l3,(G 2).ss 0⟩ ⟨n6,l4,(G 2).ss 1⟩)) 29),.k (iv n7)] fun _ _ G6 kw6=>?_;intro S s
  obtain ⟨⟨kl7, -⟩,⟨kl8, -⟩, -⟩:Lq l3 (((G6 2).ss 0).v)∧Lq l4 (((G6 2).ss 1).v)∧True:=kq kw6;clear kw6;have e1:l3=Fr.rD (Fr.FrB j c m d∧Fr.FrB l e n i) ((Fr.fq j c d) * (Fr.fq l e i)):=(Fr.Fz.ret zf hRR (heq)).2.1;subst e1;have e3:l4=Fr.rE (Fr.FrB j c m d∧Fr.FrB l e n i) ((Fr.fq j c d) * (Fr.fq l e i)):=(Fr.Fz.ret zf hRR (heq)).2.2.2;subst e3;have e0:n5=Fr.rS (Fr.FrB j c m d∧Fr.FrB l e n i) ((Fr.fq j c d) * (Fr.fq l e i)):=(Fr.Fz.ret zf hRR (heq)).1;have e2:n6=Fr.rT (Fr.FrB j c m d∧Fr.FrB l e n i):=(Fr.Fz.ret zf hRR (heq)).2.2.1;have e4:n7=if ¬ (Fr.FrB j c m d∧Fr.FrB l e n i) then (1:Int) else 0:=by rw [if_neg (fun h=>h hRR)];exact hEr
  exact V.rt [2,0] [(G6 2).ss 0,(G6 2).ss 1] [fun _=>{},fun _=>{}] [] [6,7] [] (.tuple #[ag (DFrac.mk ⟨n5,(Fr.rD (Fr.FrB j c m d∧Fr.FrB l e n i) ((Fr.fq j c d) * (Fr.fq l e i))),(G6 2).ss 0⟩ ⟨n6,(Fr.rE (Fr.FrB j c m d∧Fr.FrB l e n i) ((Fr.fq j c d) * (Fr.fq l e i))),(G6 2).ss 1⟩),iv n7]) (cong3 (fun (x0 x2 x4:Int)=>(.tuple #[.agg #[iv x0,((G6 2).ss 0).v,iv x2,((G6 2).ss 1).v],iv x4]:Value)) e0 e2 e4)
theorem r5mul_ctv (e:Int) (a:List Int) (j:SV) (h:Int) (b:List Int) (k:SV) (f:Int) (c:List Int) (l:SV) (i:Int) (d:List Int) (m:SV) (haP:a.length≤1073741824) (haQ:b.length≤1073741824) (hbP:c.length≤1073741824) (hbQ:d.length≤1073741824) (rv0:Int) (erv0:rv0=Fr.rS (Fr.FrB e a h b∧Fr.FrB f c i d) ((Fr.fq e a b) * (Fr.fq f c d))) (rv1:List Int) (erv1:rv1=Fr.rD (Fr.FrB e a h b∧Fr.FrB f c i d) ((Fr.fq e a b) * (Fr.fq f c d))) (rv2:Int) (erv2:rv2=Fr.rT (Fr.FrB e a h b∧Fr.FrB f c i d)) (rv3:List Int) (erv3:rv3=Fr.rE (Fr.FrB e a h b∧Fr.FrB f c i d) ((Fr.fq e a b) * (Fr.fq f c d))) (rv4:Int) (erv4:rv4=if ¬ (Fr.FrB e a h b∧Fr.FrB f c i d) then (1:Int) else 0) :
    Ct Tryz.prog 50 #[ag (DFrac.mk ⟨e,a,j⟩ ⟨h,b,k⟩),ag (DFrac.mk ⟨f,c,l⟩ ⟨i,d,m⟩)] [fs true a j,fs true b k,fs true c l,fs true d m] [] (fun g=>.tuple #[ag (DFrac.mk ⟨rv0,rv1,(g.ss 0)⟩ ⟨rv2,rv3,(g.ss 1)⟩),iv rv4]) (fun g=>[fs true rv1 (g.ss 0),fs true rv3 (g.ss 1)]) (fun g=>[]) (fun g=>[]):=by
  subst erv0 erv1 erv2 erv3 erv4;exact r5mul_ct e a j h b k f c l i d m haP haQ hbP hbQ
set_option maxRecDepth 10000 in
theorem r5div_ct (l:Int) (d:List Int) (o:SV) (m:Int) (e:List Int) (t:SV) (c:Int) (i:List Int) (u:SV) (n:Int) (j:List Int) (x:SV) (haP:d.length≤1073741824) (haQ:e.length≤1073741824) (hbP:i.length≤1073741824) (hbQ:j.length≤1073741824) :
    Ct Tryz.prog 49 #[ag (DFrac.mk ⟨l,d,o⟩ ⟨m,e,t⟩),ag (DFrac.mk ⟨c,i,u⟩ ⟨n,j,x⟩)] [fs true d o,fs true e t,fs true i u,fs true j x] [] (fun g=>.tuple #[ag (DFrac.mk ⟨(Fr.rS ((Fr.FrB l d m e∧Fr.FrB c i n j)∧c≠0) ((Fr.fq l d e) / (Fr.fq c i j))),Fr.rD ((Fr.FrB l d m e∧Fr.FrB c i n j)∧c≠0) ((Fr.fq l d e) / (Fr.fq c i j)),(g.ss 0)⟩ ⟨(Fr.rT ((Fr.FrB l d m e∧Fr.FrB c i n j)∧c≠0)),Fr.rE ((Fr.FrB l d m e∧Fr.FrB c i n j)∧c≠0) ((Fr.fq l d e) / (Fr.fq c i j)),(g.ss 1)⟩),iv (if ¬ (Fr.FrB l d m e∧Fr.FrB c i n j) then (1:Int) else if c=0 then 15 else 0)]) (fun g=>[fs true (Fr.rD ((Fr.FrB l d m e∧Fr.FrB c i n j)∧c≠0) ((Fr.fq l d e) / (Fr.fq c i j))) (g.ss 0),fs true (Fr.rE ((Fr.FrB l d m e∧Fr.FrB c i n j)∧c≠0) ((Fr.fq l d e) / (Fr.fq c i j))) (g.ss 1)]) (fun g=>[]) (fun g=>[]):=by
  refine V.fn mo Tryz.func49 45 5 (by kernel_rfl) fun w H ε k0=>?_;obtain ⟨⟨kl1, -⟩,⟨kl2, -⟩,⟨kl3, -⟩,⟨kl4, -⟩, -⟩:Lq d o.v∧Lq e t.v∧Lq i u.v∧Lq j x.v∧True:=kq k0
  clear k0;refine V.g [.nb 0 0 (fun b=>pp b 0) 29 (fun _=>ca (DFrac.mk ⟨l,d,o⟩ ⟨m,e,t⟩)),.nb 1 1 (fun b=>pp b 0) 29 (fun _=>ca (DFrac.mk ⟨c,i,u⟩ ⟨n,j,x⟩)),.nb 2 2 (fun b=>pp b 0) 29 (fun _=>ca (DFrac.mk ⟨0,[],{}⟩ ⟨0,[],{}⟩)),.k (iv 0)] fun _ _ G1=>?_;intro S s
  refine nm ((!(decide (Fr.FrB l d m e))) || (!(decide (Fr.FrB c i n j))):Bool) fun p1 hp1=>?_;refine V.g [.ld 0 0 true (fun _=>Dat.cells (DFrac.mk ⟨l,d,o⟩ ⟨m,e,t⟩)),.cp g0 1 39 [(kf false (.f 0) d (fun _=>o)).a,(kf false (.f 1) e (fun _=>t)).a] (fun _ G=>r5right_ct l d o m e t (by omega) (by omega)),.k (bv (!(decide (Fr.FrB l d m e)))),.k (bv (!(decide (Fr.FrB l d m e)))),.ld 1 0 true (fun _=>Dat.cells (DFrac.mk ⟨c,i,u⟩ ⟨n,j,x⟩)),.cp (gF (b:=!(decide (Fr.FrB l d m e))) (iNF iDT)) 5 39 [(kf false (.f 2) i (fun _=>u)).a,(kf false (.f 3) j (fun _=>x)).a] (fun hg G=>r5right_ct c i u n j x (by omega) (by omega)),.k (bv (!(decide (Fr.FrB c i n j)))),.orn g0 false (!(decide (Fr.FrB l d m e))) (!(decide (Fr.FrB c i n j))) p1 hp1] fun _ _ G2=>?_;intro S s
  refine V.cn (b:=p1) (iN hp1 (iOT (iNT iDF) (iNT iDF))) (iN hp1 (iOF (iNF iDT) (iNF iDT))) (fun q1=>?_) (fun q2=>?_)
  · have hNR:¬ (Fr.FrB l d m e∧Fr.FrB c i n j):=by rintro ⟨h1,h2⟩;rcases q1 with h | h;exact h h1;exact h h2
    refine V.g [.k (ag (DFrac.mk ⟨0,[],{}⟩ ⟨0,[],{}⟩)),.st 2 (fun _=>.blk ((G1 2).b) (ca (DFrac.mk ⟨0,[],{}⟩ ⟨0,[],{}⟩)) 29),.k (iv 1)] fun _ _ G3=>?_;intro S s
    refine V.nilF (α:=Int) ?_;refine V.nilF (α:=Int) ?_;have e1:([]:List Int)=Fr.rD ((Fr.FrB l d m e∧Fr.FrB c i n j)∧c≠0) ((Fr.fq l d e) / (Fr.fq c i j)):=(Fr.Fz.no (fun h=>hNR h.1) ((Fr.fq l d e) / (Fr.fq c i j))).2.1;rw [←e1];have e3:([]:List Int)=Fr.rE ((Fr.FrB l d m e∧Fr.FrB c i n j)∧c≠0) ((Fr.fq l d e) / (Fr.fq c i j)):=(Fr.Fz.no (fun h=>hNR h.1) ((Fr.fq l d e) / (Fr.fq c i j))).2.2.2;rw [←e3];have e0:(0:Int)=Fr.rS ((Fr.FrB l d m e∧Fr.FrB c i n j)∧c≠0) ((Fr.fq l d e) / (Fr.fq c i j)):=(Fr.Fz.no (fun h=>hNR h.1) ((Fr.fq l d e) / (Fr.fq c i j))).1;have e2:(0:Int)=Fr.rT ((Fr.FrB l d m e∧Fr.FrB c i n j)∧c≠0):=(Fr.Fz.no (fun h=>hNR h.1) ((Fr.fq l d e) / (Fr.fq c i j))).2.2.1;have e4:(1:Int)=if ¬ (Fr.FrB l d m e∧Fr.FrB c i n j) then (1:Int) else if c=0 then 15 else 0:=(if_pos hNR).symm
    exact V.rt [2,0] [{},{}] [fun _=>{},fun _=>{}] [] [4,5] [] (.tuple #[ag (DFrac.mk ⟨0,([]:List Int),{}⟩ ⟨0,([]:List Int),{}⟩),iv 1]) (cong3 (fun (x0 x2 x4:Int)=>(.tuple #[.agg #[iv x0,SV.v ({}),iv x2,SV.v ({})],iv x4]:Value)) e0 e2 e4)
  have hRR:Fr.FrB l d m e∧Fr.FrB c i n j:=by first | exact q2 | exact ⟨Decidable.not_not.1 (q2).1,Decidable.not_not.1 (q2).2⟩
  have fa:=Fr.FrB.z hRR.1;have fb:=Fr.FrB.z hRR.2;refine V.g [.k (pp ((G1 1).b) 0),.k (pp ((G1 1).b) 0),.ld 1 0 false (fun _=>[iv c]),.k (bv (decide (c=0)))] fun _ _ G4=>?_;intro S s
  refine V.cn (b:=decide (c=0)) iDT iDF (fun q3=>?_) (fun q4=>?_)
  · have hz0:c=0:=q3;refine V.g [.k (ag (DFrac.mk ⟨0,[],{}⟩ ⟨0,[],{}⟩)),.st 2 (fun _=>.blk ((G1 2).b) (ca (DFrac.mk ⟨0,[],{}⟩ ⟨0,[],{}⟩)) 29),.k (iv 15)] fun _ _ G5=>?_;intro S s
    refine V.nilF (α:=Int) ?_;refine V.nilF (α:=Int) ?_;have e1:([]:List Int)=Fr.rD ((Fr.FrB l d m e∧Fr.FrB c i n j)∧c≠0) ((Fr.fq l d e) / (Fr.fq c i j)):=(Fr.Fz.no (fun h=>h.2 hz0) ((Fr.fq l d e) / (Fr.fq c i j))).2.1;rw [←e1];have e3:([]:List Int)=Fr.rE ((Fr.FrB l d m e∧Fr.FrB c i n j)∧c≠0) ((Fr.fq l d e) / (Fr.fq c i j)):=(Fr.Fz.no (fun h=>h.2 hz0) ((Fr.fq l d e) / (Fr.fq c i j))).2.2.2;rw [←e3];have e0:(0:Int)=Fr.rS ((Fr.FrB l d m e∧Fr.FrB c i n j)∧c≠0) ((Fr.fq l d e) / (Fr.fq c i j)):=(Fr.Fz.no (fun h=>h.2 hz0) ((Fr.fq l d e) / (Fr.fq c i j))).1;have e2:(0:Int)=Fr.rT ((Fr.FrB l d m e∧Fr.FrB c i n j)∧c≠0):=(Fr.Fz.no (fun h=>h.2 hz0) ((Fr.fq l d e) / (Fr.fq c i j))).2.2.1;have e4:(15:Int)=if ¬ (Fr.FrB l d m e∧Fr.FrB c i n j) then (1:Int) else if c=0 then 15 else 0:=by rw [if_neg (fun h=>h hRR),if_pos hz0]
    exact V.rt [2,0] [{},{}] [fun _=>{},fun _=>{}] [] [4,5] [] (.tuple #[ag (DFrac.mk ⟨0,([]:List Int),{}⟩ ⟨0,([]:List Int),{}⟩),iv 15]) (cong3 (fun (x0 x2 x4:Int)=>(.tuple #[.agg #[iv x0,SV.v ({}),iv x2,SV.v ({})],iv x4]:Value)) e0 e2 e4)
  have hz0:¬ c=0:=q4;refine nm (Bg.oS (Bg.RtB l d∧Bg.RtB n j) (Bg.zv l d * Bg.zv n j):Int) fun n1 hn1=>?_;refine nl (Bg.oD (Bg.RtB l d∧Bg.RtB n j) (Bg.zv l d * Bg.zv n j)) fun l1 hl1 hl1n=>?_;refine nm (if (Bg.RtB l d∧Bg.RtB n j) then (0:Int) else 1:Int) fun n2 hn2=>?_;obtain ⟨z4,z4l⟩:=Fr.Bz.mul fa.p fb.q hn1 hl1
  refine V.r [.k (pp ((G1 0).b) 0),.ld 0 0 true (fun _=>Dat.cells (DBig.mk l ⟨d,o⟩)),.k (pp ((G1 1).b) 2),.ld 1 2 true (fun _=>Dat.cells (DBig.mk n ⟨j,x⟩)),.ct g0 4 89 false [] [] [(kf false (.f 0) d (fun _=>o)).a,(kf false (.f 3) j (fun _=>x)).a] (fun _ G=>r4mul_ctv l d o n j x (by omega) (by omega) n1 hn1 l1 hl1 n2 hn2),.v fun G=>.tuple #[ag (DBig.mk n1 ⟨l1,(G 4).ss 0⟩),iv n2],.v fun G=>ag (DBig.mk n1 ⟨l1,(G 4).ss 0⟩),.k (iv n2),.nb 8 3 (fun b=>pp b 0) 27 (fun _=>ca (DBig.mk 0 ⟨[],{}⟩)),.st 3 (fun G=>.blk ((G 8).b) (ca (DBig.mk n1 ⟨l1,(G 4).ss 0⟩)) 27),.k (iv n2)] fun _ _ G6 kw6=>?_;intro S s
  obtain ⟨⟨kl5, -⟩, -⟩:Lq l1 (((G6 4).ss 0).v)∧True:=kq kw6;clear kw6;refine nm (Bg.oS (Bg.RtB m e∧Bg.RtB c i) (Bg.zv m e * Bg.zv c i):Int) fun n3 hn3=>?_;refine nl (Bg.oD (Bg.RtB m e∧Bg.RtB c i) (Bg.zv m e * Bg.zv c i)) fun l2 hl2 hl2n=>?_;refine nm (if (Bg.RtB m e∧Bg.RtB c i) then (0:Int) else 1:Int) fun n4 hn4=>?_;obtain ⟨z9,z9l⟩:=Fr.Bz.mul fa.q fb.p hn3 hl2;refine V.r [.k (pp ((G1 0).b) 2),.ld 0 2 true (fun _=>Dat.cells (DBig.mk m ⟨e,t⟩)),.k (pp ((G1 1).b) 0),.ld 1 0 true (fun _=>Dat.cells (DBig.mk c ⟨i,u⟩)),.ct g0 4 89 false [] [] [(kf false (.f 1) e (fun _=>t)).a,(kf false (.f 2) i (fun _=>u)).a] (fun _ G=>r4mul_ctv m e t c i u (by omega) (by omega) n3 hn3 l2 hl2 n4 hn4),.v fun G=>.tuple #[ag (DBig.mk n3 ⟨l2,(G 4).ss 0⟩),iv n4],.v fun G=>ag (DBig.mk n3 ⟨l2,(G 4).ss 0⟩),.k (iv n4),.nb 8 4 (fun b=>pp b 0) 27 (fun _=>ca (DBig.mk 0 ⟨[],{}⟩)),.st 4 (fun G=>.blk ((G 8).b) (ca (DBig.mk n3 ⟨l2,(G 4).ss 0⟩)) 27),.k (iv n4)] fun _ _ G7 kw7=>?_;intro S s;obtain ⟨⟨kl6, -⟩, -⟩:Lq l2 (((G7 4).ss 0).v)∧True:=kq kw7;clear kw7;refine nm (Fr.rS ((Bg.RtB n1 l1∧Bg.RtB n3 l2)∧n3≠0) (Rat.divInt (Bg.zv n1 l1) (Bg.zv n3 l2)):Int) fun n5 hn5=>?_;refine nl (Fr.rD ((Bg.RtB n1 l1∧Bg.RtB n3 l2)∧n3≠0) (Rat.divInt (Bg.zv n1 l1) (Bg.zv n3 l2))) fun l3 hl3 hl3n=>?_;refine nm (Fr.rT ((Bg.RtB n1 l1∧Bg.RtB n3 l2)∧n3≠0):Int) fun n6 hn6=>?_;refine nl (Fr.rE ((Bg.RtB n1 l1∧Bg.RtB n3 l2)∧n3≠0) (Rat.divInt (Bg.zv n1 l1) (Bg.zv n3 l2))) fun l4 hl4 hl4n=>?_;refine nm (if ¬ (Bg.RtB n1 l1∧Bg.RtB n3 l2) then (1:Int) else if n3=0 then 15 else 0:Int) fun n7 hn7=>?_;have hy0:(((Fr.fq l d e)).den:Int) * ((Fr.fq c i j)).num≠0:=Int.mul_ne_zero fa.den (fb.p.ne.1 hz0);have zf:=Fr.new_is z4 z9 hy0 hn5 hl3 hn6 hl4;have hEr:n7=0:=by rw [hn7,if_neg (fun h=>h ⟨z4.rt,z9.rt⟩),if_neg (z9.ne.2 hy0)]
  have heq:=(Fr.div_is (Fr.fq l d e) (Fr.fq c i j)).symm;refine V.r [.ld 3 0 true (fun _=>Dat.cells (DBig.mk n1 ⟨l1,(G6 4).ss 0⟩)),.ld 4 0 true (fun _=>Dat.cells (DBig.mk n3 ⟨l2,(G7 4).ss 0⟩)),.ct g0 2 91 false [] [] [(kf true (.f 4) l1 (fun _=>(G6 4).ss 0)).a,(kf true (.f 5) l2 (fun _=>(G7 4).ss 0)).a] (fun _ G=>r5new_ctv n1 l1 ((G6 4).ss 0) n3 l2 ((G7 4).ss 0) (by omega) (by omega) n5 hn5 l3 hl3 n6 hn6 l4 hl4 n7 hn7),.v fun G=>ag (DFrac.mk ⟨n5,l3,(G 2).ss 0⟩ ⟨n6,l4,(G 2).ss 1⟩),.k (iv n7),.st 2 (fun G=>.blk ((G1 2).b) (ca (DFrac.mk ⟨n5,l3,(G 2).ss 0⟩ ⟨n6,l4,(G 2).ss 1⟩)) 29),.k (iv n7)] fun _ _ G8 kw8=>?_;intro S s
  obtain ⟨⟨kl7, -⟩,⟨kl8, -⟩, -⟩:Lq l3 (((G8 2).ss 0).v)∧Lq l4 (((G8 2).ss 1).v)∧True:=kq kw8;clear kw8;have e1:l3=Fr.rD ((Fr.FrB l d m e∧Fr.FrB c i n j)∧c≠0) ((Fr.fq l d e) / (Fr.fq c i j)):=(Fr.Fz.ret zf ⟨hRR,hz0⟩ (heq)).2.1;subst e1;have e3:l4=Fr.rE ((Fr.FrB l d m e∧Fr.FrB c i n j)∧c≠0) ((Fr.fq l d e) / (Fr.fq c i j)):=(Fr.Fz.ret zf ⟨hRR,hz0⟩ (heq)).2.2.2;subst e3;have e0:n5=Fr.rS ((Fr.FrB l d m e∧Fr.FrB c i n j)∧c≠0) ((Fr.fq l d e) / (Fr.fq c i j)):=(Fr.Fz.ret zf ⟨hRR,hz0⟩ (heq)).1;have e2:n6=Fr.rT ((Fr.FrB l d m e∧Fr.FrB c i n j)∧c≠0):=(Fr.Fz.ret zf ⟨hRR,hz0⟩ (heq)).2.2.1;have e4:n7=if ¬ (Fr.FrB l d m e∧Fr.FrB c i n j) then (1:Int) else if c=0 then 15 else 0:=by rw [if_neg (fun h=>h hRR),if_neg hz0];exact hEr
  exact V.rt [2,0] [(G8 2).ss 0,(G8 2).ss 1] [fun _=>{},fun _=>{}] [] [6,7] [] (.tuple #[ag (DFrac.mk ⟨n5,(Fr.rD ((Fr.FrB l d m e∧Fr.FrB c i n j)∧c≠0) ((Fr.fq l d e) / (Fr.fq c i j))),(G8 2).ss 0⟩ ⟨n6,(Fr.rE ((Fr.FrB l d m e∧Fr.FrB c i n j)∧c≠0) ((Fr.fq l d e) / (Fr.fq c i j))),(G8 2).ss 1⟩),iv n7]) (cong3 (fun (x0 x2 x4:Int)=>(.tuple #[.agg #[iv x0,((G8 2).ss 0).v,iv x2,((G8 2).ss 1).v],iv x4]:Value)) e0 e2 e4)
theorem r5div_ctv (f:Int) (b:List Int) (j:SV) (h:Int) (c:List Int) (k:SV) (a:Int) (d:List Int) (l:SV) (i:Int) (e:List Int) (m:SV) (haP:b.length≤1073741824) (haQ:c.length≤1073741824) (hbP:d.length≤1073741824) (hbQ:e.length≤1073741824) (rv0:Int) (erv0:rv0=Fr.rS ((Fr.FrB f b h c∧Fr.FrB a d i e)∧a≠0) ((Fr.fq f b c) / (Fr.fq a d e))) (rv1:List Int) (erv1:rv1=Fr.rD ((Fr.FrB f b h c∧Fr.FrB a d i e)∧a≠0) ((Fr.fq f b c) / (Fr.fq a d e))) (rv2:Int) (erv2:rv2=Fr.rT ((Fr.FrB f b h c∧Fr.FrB a d i e)∧a≠0)) (rv3:List Int) (erv3:rv3=Fr.rE ((Fr.FrB f b h c∧Fr.FrB a d i e)∧a≠0) ((Fr.fq f b c) / (Fr.fq a d e))) (rv4:Int) (erv4:rv4=if ¬ (Fr.FrB f b h c∧Fr.FrB a d i e) then (1:Int) else if a=0 then 15 else 0) :
    Ct Tryz.prog 49 #[ag (DFrac.mk ⟨f,b,j⟩ ⟨h,c,k⟩),ag (DFrac.mk ⟨a,d,l⟩ ⟨i,e,m⟩)] [fs true b j,fs true c k,fs true d l,fs true e m] [] (fun g=>.tuple #[ag (DFrac.mk ⟨rv0,rv1,(g.ss 0)⟩ ⟨rv2,rv3,(g.ss 1)⟩),iv rv4]) (fun g=>[fs true rv1 (g.ss 0),fs true rv3 (g.ss 1)]) (fun g=>[]) (fun g=>[]):=by
  subst erv0 erv1 erv2 erv3 erv4;exact r5div_ct f b j h c k a d l i e m haP haQ hbP hbQ

open Go Go.Proofs
set_option maxRecDepth 10000 in
theorem r8right_ct (d0 d1 d2 d3 d4 d5:Int) :
    Cp Tryz.prog 67 #[.agg #[iv d0,iv d1,iv d2,iv d3,iv d4,iv d5]] [] (bv (decide (Dm.Rt [d0,d1,d2,d3,d4,d5]))):=by
  refine V.fn mo Tryz.func67 18 1 (by kernel_rfl) fun w H ε k0=>?_;clear k0
  refine V.g [.nb 0 0 (fun b=>pp b 0) 40 (fun _=>#[iv d0,iv d1,iv d2,iv d3,iv d4,iv d5]),.kb false] fun _ _ G1=>?_;intro S s
  refine V.g [.k (iv 0)] fun _ _ G2=>?_;intro S s
  refine V.loop (γ:=Int) (fun i=>⟨[(1,pp ((G1 0).b) 0),(3,iv i)],[],[.blk ((G1 0).b) #[iv d0,iv d1,iv d2,iv d3,iv d4,iv d5] 40]⟩) (fun i=>(0≤i)∧(i≤6)∧(0≤i)∧(i≤6)∧(∀ j:Nat,j < i.toNat→ -9≤[d0,d1,d2,d3,d4,d5].getD j 0∧[d0,d1,d2,d3,d4,d5].getD j 0≤9)) (fun i=>(6-i).toNat) 0 (by kernel_rfl) [] (by kernel_rfl) ?_ ?_
  · refine ⟨?_,?_,?_,?_,?_⟩
    · show 0≤(0:Int)
      first | omega | rfl | (simp;done) | (subst_vars;simp;done)
    · show (0:Int)≤6
      first | omega | rfl | (simp;done) | (subst_vars;simp;done)
    · show 0≤(0:Int);omega
    · show (0:Int)≤6;omega
    show ∀ j:Nat,j < (0:Int).toNat→ -9≤[d0,d1,d2,d3,d4,d5].getD j 0∧[d0,d1,d2,d3,d4,d5].getD j 0≤9;intro j hj;simp at hj
  rintro i hF1 kw3 Z1 hZ1;have hF1:(0≤i)∧(i≤6)∧(0≤i)∧(i≤6)∧(∀ j:Nat,j < i.toNat→ -9≤[d0,d1,d2,d3,d4,d5].getD j 0∧[d0,d1,d2,d3,d4,d5].getD j 0≤9):=hF1;obtain ⟨hf1,hf2,hf3,hf4,hf5⟩:=hF1;clear kw3;refine V.g [.k (iv i),.k (bv (decide (i < 6)))] fun _ _ G3=>?_;intro S s;refine V.cn (b:=decide (i < 6)) iDT iDF (fun q1=>?_) (fun q2=>?_)
  · rcases (by omega:i=0∨i=1∨i=2∨i=3∨i=4∨i=5) with hcs1 | hcs2 | hcs3 | hcs4 | hcs5 | hcs6
    · refine V.alt (fun (zz:Int)=>(⟨[(1,pp ((G1 0).b) 0),(3,iv zz),(5,bv (decide (i < 6)))],[],[.blk ((G1 0).b) #[iv d0,iv d1,iv d2,iv d3,iv d4,iv d5] 40]⟩:St)) hcs1 [] (by kernel_rfl) ?_;refine V.g [.k (iv 0),.k (pp ((G1 0).b) 0),.ld 0 0 false (fun _=>[iv d0]),.k (bv (decide (d0 < (-9)))),.k (bv (decide (d0 < (-9)))),.k (iv 0),.k (pp ((G1 0).b) 0),.ld 0 0 false (fun _=>[iv d0]),.k (bv (decide (9 < d0))),.or g0 false (decide (d0 < (-9))) (decide (9 < d0))] fun _ _ G4=>?_;intro S s
      refine V.cn (b:=(decide (d0 < (-9))) || (decide (9 < d0))) (iOT iDT iDT) (iOF iDF iDF) (fun q3=>?_) (fun q4=>?_)
      · refine V.g [.kb false] fun _ _ G5=>?_;intro S s
        have e0:false=decide (Dm.Rt [d0,d1,d2,d3,d4,d5]):=by symm;rw [decide_eq_false_iff_not,Dm.Rt6];have hqq:=q3;omega
        exact V.rt [0] [] [] [] [] [] (bv false) (cong1 (fun (x0:Bool)=>(bv x0:Value)) e0)
      refine V.g [.k (iv 0),.k (iv 1),.k (iv 1)] fun _ _ G6=>?_;intro S s
      refine V.rnd hZ1 1 [] (by kernel_rfl) ?_ ?_
      · refine ⟨?_,?_,?_,?_,?_⟩
        · show 0≤(1:Int);omega
        · show (1:Int)≤6;omega
        · show 0≤(1:Int);omega
        · show (1:Int)≤6;omega
        show ∀ j:Nat,j < (1:Int).toNat→ -9≤[d0,d1,d2,d3,d4,d5].getD j 0∧[d0,d1,d2,d3,d4,d5].getD j 0≤9;exact Dm.upto_succ (P:=fun j=> -9≤[d0,d1,d2,d3,d4,d5].getD j 0∧[d0,d1,d2,d3,d4,d5].getD j 0≤9) (n:=0) (by omega) hf5 (by show -9≤d0∧d0≤9;omega)
      show (6-(1:Int)).toNat < (6-i).toNat;omega
    · refine V.alt (fun (zz:Int)=>(⟨[(1,pp ((G1 0).b) 0),(3,iv zz),(5,bv (decide (i < 6)))],[],[.blk ((G1 0).b) #[iv d0,iv d1,iv d2,iv d3,iv d4,iv d5] 40]⟩:St)) hcs2 [] (by kernel_rfl) ?_;refine V.g [.k (iv 1),.k (pp ((G1 0).b) 1),.ld 0 1 false (fun _=>[iv d1]),.k (bv (decide (d1 < (-9)))),.k (bv (decide (d1 < (-9)))),.k (iv 1),.k (pp ((G1 0).b) 1),.ld 0 1 false (fun _=>[iv d1]),.k (bv (decide (9 < d1))),.or g0 false (decide (d1 < (-9))) (decide (9 < d1))] fun _ _ G7=>?_;intro S s
      refine V.cn (b:=(decide (d1 < (-9))) || (decide (9 < d1))) (iOT iDT iDT) (iOF iDF iDF) (fun q5=>?_) (fun q6=>?_)
      · refine V.g [.kb false] fun _ _ G8=>?_;intro S s
        have e0:false=decide (Dm.Rt [d0,d1,d2,d3,d4,d5]):=by symm;rw [decide_eq_false_iff_not,Dm.Rt6];have hqq:=q5;omega
        exact V.rt [0] [] [] [] [] [] (bv false) (cong1 (fun (x0:Bool)=>(bv x0:Value)) e0)
      refine V.g [.k (iv 1),.k (iv 2),.k (iv 2)] fun _ _ G9=>?_;intro S s
      refine V.rnd hZ1 2 [] (by kernel_rfl) ?_ ?_
      · refine ⟨?_,?_,?_,?_,?_⟩
        · show 0≤(2:Int);omega
        · show (2:Int)≤6;omega
        · show 0≤(2:Int);omega
        · show (2:Int)≤6;omega
        show ∀ j:Nat,j < (2:Int).toNat→ -9≤[d0,d1,d2,d3,d4,d5].getD j 0∧[d0,d1,d2,d3,d4,d5].getD j 0≤9;exact Dm.upto_succ (P:=fun j=> -9≤[d0,d1,d2,d3,d4,d5].getD j 0∧[d0,d1,d2,d3,d4,d5].getD j 0≤9) (n:=1) (by omega) hf5 (by show -9≤d1∧d1≤9;omega)
      show (6-(2:Int)).toNat < (6-i).toNat;omega
    · refine V.alt (fun (zz:Int)=>(⟨[(1,pp ((G1 0).b) 0),(3,iv zz),(5,bv (decide (i < 6)))],[],[.blk ((G1 0).b) #[iv d0,iv d1,iv d2,iv d3,iv d4,iv d5] 40]⟩:St)) hcs3 [] (by kernel_rfl) ?_;refine V.g [.k (iv 2),.k (pp ((G1 0).b) 2),.ld 0 2 false (fun _=>[iv d2]),.k (bv (decide (d2 < (-9)))),.k (bv (decide (d2 < (-9)))),.k (iv 2),.k (pp ((G1 0).b) 2),.ld 0 2 false (fun _=>[iv d2]),.k (bv (decide (9 < d2))),.or g0 false (decide (d2 < (-9))) (decide (9 < d2))] fun _ _ G10=>?_;intro S s
      refine V.cn (b:=(decide (d2 < (-9))) || (decide (9 < d2))) (iOT iDT iDT) (iOF iDF iDF) (fun q7=>?_) (fun q8=>?_)
      · refine V.g [.kb false] fun _ _ G11=>?_;intro S s
        have e0:false=decide (Dm.Rt [d0,d1,d2,d3,d4,d5]):=by symm;rw [decide_eq_false_iff_not,Dm.Rt6];have hqq:=q7;omega
        exact V.rt [0] [] [] [] [] [] (bv false) (cong1 (fun (x0:Bool)=>(bv x0:Value)) e0)
      refine V.g [.k (iv 2),.k (iv 3),.k (iv 3)] fun _ _ G12=>?_;intro S s
      refine V.rnd hZ1 3 [] (by kernel_rfl) ?_ ?_
      · refine ⟨?_,?_,?_,?_,?_⟩
        · show 0≤(3:Int);omega
        · show (3:Int)≤6;omega
        · show 0≤(3:Int);omega
        · show (3:Int)≤6;omega
        show ∀ j:Nat,j < (3:Int).toNat→ -9≤[d0,d1,d2,d3,d4,d5].getD j 0∧[d0,d1,d2,d3,d4,d5].getD j 0≤9;exact Dm.upto_succ (P:=fun j=> -9≤[d0,d1,d2,d3,d4,d5].getD j 0∧[d0,d1,d2,d3,d4,d5].getD j 0≤9) (n:=2) (by omega) hf5 (by show -9≤d2∧d2≤9;omega)
      show (6-(3:Int)).toNat < (6-i).toNat;omega
    · refine V.alt (fun (zz:Int)=>(⟨[(1,pp ((G1 0).b) 0),(3,iv zz),(5,bv (decide (i < 6)))],[],[.blk ((G1 0).b) #[iv d0,iv d1,iv d2,iv d3,iv d4,iv d5] 40]⟩:St)) hcs4 [] (by kernel_rfl) ?_;refine V.g [.k (iv 3),.k (pp ((G1 0).b) 3),.ld 0 3 false (fun _=>[iv d3]),.k (bv (decide (d3 < (-9)))),.k (bv (decide (d3 < (-9)))),.k (iv 3),.k (pp ((G1 0).b) 3),.ld 0 3 false (fun _=>[iv d3]),.k (bv (decide (9 < d3))),.or g0 false (decide (d3 < (-9))) (decide (9 < d3))] fun _ _ G13=>?_;intro S s
      refine V.cn (b:=(decide (d3 < (-9))) || (decide (9 < d3))) (iOT iDT iDT) (iOF iDF iDF) (fun q9=>?_) (fun q10=>?_)
      · refine V.g [.kb false] fun _ _ G14=>?_;intro S s
        have e0:false=decide (Dm.Rt [d0,d1,d2,d3,d4,d5]):=by symm;rw [decide_eq_false_iff_not,Dm.Rt6];have hqq:=q9;omega
        exact V.rt [0] [] [] [] [] [] (bv false) (cong1 (fun (x0:Bool)=>(bv x0:Value)) e0)
      refine V.g [.k (iv 3),.k (iv 4),.k (iv 4)] fun _ _ G15=>?_;intro S s
      refine V.rnd hZ1 4 [] (by kernel_rfl) ?_ ?_
      · refine ⟨?_,?_,?_,?_,?_⟩
        · show 0≤(4:Int);omega
        · show (4:Int)≤6;omega
        · show 0≤(4:Int);omega
        · show (4:Int)≤6;omega
        show ∀ j:Nat,j < (4:Int).toNat→ -9≤[d0,d1,d2,d3,d4,d5].getD j 0∧[d0,d1,d2,d3,d4,d5].getD j 0≤9;exact Dm.upto_succ (P:=fun j=> -9≤[d0,d1,d2,d3,d4,d5].getD j 0∧[d0,d1,d2,d3,d4,d5].getD j 0≤9) (n:=3) (by omega) hf5 (by show -9≤d3∧d3≤9;omega)
      show (6-(4:Int)).toNat < (6-i).toNat;omega
    · refine V.alt (fun (zz:Int)=>(⟨[(1,pp ((G1 0).b) 0),(3,iv zz),(5,bv (decide (i < 6)))],[],[.blk ((G1 0).b) #[iv d0,iv d1,iv d2,iv d3,iv d4,iv d5] 40]⟩:St)) hcs5 [] (by kernel_rfl) ?_;refine V.g [.k (iv 4),.k (pp ((G1 0).b) 4),.ld 0 4 false (fun _=>[iv d4]),.k (bv (decide (d4 < (-9)))),.k (bv (decide (d4 < (-9)))),.k (iv 4),.k (pp ((G1 0).b) 4),.ld 0 4 false (fun _=>[iv d4]),.k (bv (decide (9 < d4))),.or g0 false (decide (d4 < (-9))) (decide (9 < d4))] fun _ _ G16=>?_;intro S s
      refine V.cn (b:=(decide (d4 < (-9))) || (decide (9 < d4))) (iOT iDT iDT) (iOF iDF iDF) (fun q11=>?_) (fun q12=>?_)
      · refine V.g [.kb false] fun _ _ G17=>?_;intro S s
        have e0:false=decide (Dm.Rt [d0,d1,d2,d3,d4,d5]):=by symm;rw [decide_eq_false_iff_not,Dm.Rt6];have hqq:=q11;omega
        exact V.rt [0] [] [] [] [] [] (bv false) (cong1 (fun (x0:Bool)=>(bv x0:Value)) e0)
      refine V.g [.k (iv 4),.k (iv 5),.k (iv 5)] fun _ _ G18=>?_;intro S s
      refine V.rnd hZ1 5 [] (by kernel_rfl) ?_ ?_
      · refine ⟨?_,?_,?_,?_,?_⟩
        · show 0≤(5:Int);omega
        · show (5:Int)≤6;omega
        · show 0≤(5:Int);omega
        · show (5:Int)≤6;omega
        show ∀ j:Nat,j < (5:Int).toNat→ -9≤[d0,d1,d2,d3,d4,d5].getD j 0∧[d0,d1,d2,d3,d4,d5].getD j 0≤9;exact Dm.upto_succ (P:=fun j=> -9≤[d0,d1,d2,d3,d4,d5].getD j 0∧[d0,d1,d2,d3,d4,d5].getD j 0≤9) (n:=4) (by omega) hf5 (by show -9≤d4∧d4≤9;omega)
      show (6-(5:Int)).toNat < (6-i).toNat;omega
    refine V.alt (fun (zz:Int)=>(⟨[(1,pp ((G1 0).b) 0),(3,iv zz),(5,bv (decide (i < 6)))],[],[.blk ((G1 0).b) #[iv d0,iv d1,iv d2,iv d3,iv d4,iv d5] 40]⟩:St)) hcs6 [] (by kernel_rfl) ?_;refine V.g [.k (iv 5),.k (pp ((G1 0).b) 5),.ld 0 5 false (fun _=>[iv d5]),.k (bv (decide (d5 < (-9)))),.k (bv (decide (d5 < (-9)))),.k (iv 5),.k (pp ((G1 0).b) 5),.ld 0 5 false (fun _=>[iv d5]),.k (bv (decide (9 < d5))),.or g0 false (decide (d5 < (-9))) (decide (9 < d5))] fun _ _ G19=>?_;intro S s
    refine V.cn (b:=(decide (d5 < (-9))) || (decide (9 < d5))) (iOT iDT iDT) (iOF iDF iDF) (fun q13=>?_) (fun q14=>?_)
    · refine V.g [.kb false] fun _ _ G20=>?_;intro S s
      have e0:false=decide (Dm.Rt [d0,d1,d2,d3,d4,d5]):=by symm;rw [decide_eq_false_iff_not,Dm.Rt6];have hqq:=q13;omega
      exact V.rt [0] [] [] [] [] [] (bv false) (cong1 (fun (x0:Bool)=>(bv x0:Value)) e0)
    refine V.g [.k (iv 5),.k (iv 6),.k (iv 6)] fun _ _ G21=>?_;intro S s
    refine V.rnd hZ1 6 [] (by kernel_rfl) ?_ ?_
    · refine ⟨?_,?_,?_,?_,?_⟩
      · show 0≤(6:Int);omega
      · show (6:Int)≤6;omega
      · show 0≤(6:Int);omega
      · show (6:Int)≤6;omega
      show ∀ j:Nat,j < (6:Int).toNat→ -9≤[d0,d1,d2,d3,d4,d5].getD j 0∧[d0,d1,d2,d3,d4,d5].getD j 0≤9;exact Dm.upto_succ (P:=fun j=> -9≤[d0,d1,d2,d3,d4,d5].getD j 0∧[d0,d1,d2,d3,d4,d5].getD j 0≤9) (n:=5) (by omega) hf5 (by show -9≤d5∧d5≤9;omega)
    show (6-(6:Int)).toNat < (6-i).toNat;omega
  refine V.g [.kb true] fun _ _ G22=>?_;intro S s
  have e0:true=decide (Dm.Rt [d0,d1,d2,d3,d4,d5]):=by symm;rw [decide_eq_true_iff];exact Dm.Rt_all rfl fun j hj=>hf5 j (by omega)
  exact V.rt [0] [] [] [] [] [] (bv true) (cong1 (fun (x0:Bool)=>(bv x0:Value)) e0)
set_option maxRecDepth 10000 in
theorem pre9_ct (c:Int) :
    Ct Tryz.prog 107 #[.int .u8 c] [] [] (fun g=>.tuple #[ag (DFrac.mk ⟨(Fr.rS ((Un.pre c).isSome=true) (Rat.divInt (Un.pp (Un.pre c)) (Un.pq (Un.pre c)))),Fr.rD ((Un.pre c).isSome=true) (Rat.divInt (Un.pp (Un.pre c)) (Un.pq (Un.pre c))),(g.ss 0)⟩ ⟨(Fr.rT ((Un.pre c).isSome=true)),Fr.rE ((Un.pre c).isSome=true) (Rat.divInt (Un.pp (Un.pre c)) (Un.pq (Un.pre c))),(g.ss 1)⟩),bv ((Un.pre c).isSome)]) (fun g=>[fs true (Fr.rD ((Un.pre c).isSome=true) (Rat.divInt (Un.pp (Un.pre c)) (Un.pq (Un.pre c)))) (g.ss 0),fs true (Fr.rE ((Un.pre c).isSome=true) (Rat.divInt (Un.pp (Un.pre c)) (Un.pq (Un.pre c)))) (g.ss 1)]) (fun g=>[]) (fun g=>[]):=by
  refine V.fn mo Tryz.func107 18 1 (by kernel_rfl) fun w H ε k0=>?_;clear k0
  refine V.g [.nb 0 0 (fun b=>pp b 0) 29 (fun _=>ca (DFrac.mk ⟨0,[],{}⟩ ⟨0,[],{}⟩)),.kb false] fun _ _ G1=>?_;intro S s
  refine V.g [.k (.int .u8 c)] fun _ _ G2=>?_;intro S s
  refine V.g [.k (bv (decide (c=107))),.k (bv (decide (c=107)))] fun _ _ G3=>?_;intro S s
  refine V.cn (b:=decide (c=107)) iDT iDF (fun q1=>?_) (fun q2=>?_)
  · have hpx:Un.pre c=some (1000,1):=by unfold Un.pre;rw [if_pos q1]
    refine nm (Bg.sgn (1000:Int):Int) fun n1 hn1=>?_;refine nl (Bg.dig (1000:Int).natAbs) fun l1 hl1 hl1n=>?_;refine nl (Bg.dig 1) fun l2 hl2 hl2n=>?_;refine V.r [.ct g0 0 33 false [] [] [] (fun _ G=>r5int_ctv (1000:Int) (by omega) n1 hn1 l1 hl1 l2 hl2),.st 0 (fun G=>.blk ((G1 0).b) (ca (DFrac.mk ⟨n1,l1,(G 0).ss 0⟩ ⟨1,l2,(G 0).ss 1⟩)) 29),.kb true] fun _ _ G4 kw4=>?_;intro S s
    obtain ⟨⟨kl1, -⟩,⟨kl2, -⟩, -⟩:Lq l1 (((G4 0).ss 0).v)∧Lq l2 (((G4 0).ss 1).v)∧True:=kq kw4;clear kw4;have z9:Fr.Fz n1 l1 1 l2 ((1000:Int):Rat):=by subst_vars;exact Un.intz _
    rw [←Fr.divInt1] at z9;have e1:l1=Fr.rD ((Un.pre c).isSome=true) (Rat.divInt (Un.pp (Un.pre c)) (Un.pq (Un.pre c))):=by exact (Fr.Fz.ret z9 (show (Un.pre c).isSome=true by rw [hpx];rfl) (Un.px_r hpx)).2.1
    subst e1;have e3:l2=Fr.rE ((Un.pre c).isSome=true) (Rat.divInt (Un.pp (Un.pre c)) (Un.pq (Un.pre c))):=by exact (Fr.Fz.ret z9 (show (Un.pre c).isSome=true by rw [hpx];rfl) (Un.px_r hpx)).2.2.2
    subst e3;have e0:n1=Fr.rS ((Un.pre c).isSome=true) (Rat.divInt (Un.pp (Un.pre c)) (Un.pq (Un.pre c))):=by exact (Fr.Fz.ret z9 (show (Un.pre c).isSome=true by rw [hpx];rfl) (Un.px_r hpx)).1
    have e2:(1:Int)=Fr.rT ((Un.pre c).isSome=true):=by exact (Fr.Fz.ret z9 (show (Un.pre c).isSome=true by rw [hpx];rfl) (Un.px_r hpx)).2.2.1
    have e4:true=(Un.pre c).isSome:=by rw [hpx];rfl
    exact V.rt [0,0] [(G4 0).ss 0,(G4 0).ss 1] [fun _=>{},fun _=>{}] [] [0,1] [] (.tuple #[ag (DFrac.mk ⟨n1,(Fr.rD ((Un.pre c).isSome=true) (Rat.divInt (Un.pp (Un.pre c)) (Un.pq (Un.pre c)))),(G4 0).ss 0⟩ ⟨1,(Fr.rE ((Un.pre c).isSome=true) (Rat.divInt (Un.pp (Un.pre c)) (Un.pq (Un.pre c)))),(G4 0).ss 1⟩),bv true]) (cong3 (fun (x0 x2:Int) (x4:Bool)=>(.tuple #[.agg #[iv x0,((G4 0).ss 0).v,iv x2,((G4 0).ss 1).v],bv x4]:Value)) e0 e2 e4)
  have hpn0:=q2;refine V.g [.k (bv (decide (c=77))),.k (bv (decide (c=77)))] fun _ _ G5=>?_;intro S s
  refine V.cn (b:=decide (c=77)) iDT iDF (fun q3=>?_) (fun q4=>?_)
  · have hpx:Un.pre c=some (1000000,1):=by unfold Un.pre;rw [if_neg hpn0,if_pos q3]
    refine nm (Bg.sgn (1000000:Int):Int) fun n2 hn2=>?_;refine nl (Bg.dig (1000000:Int).natAbs) fun l3 hl3 hl3n=>?_;refine nl (Bg.dig 1) fun l4 hl4 hl4n=>?_;refine V.r [.ct g0 0 33 false [] [] [] (fun _ G=>r5int_ctv (1000000:Int) (by omega) n2 hn2 l3 hl3 l4 hl4),.st 0 (fun G=>.blk ((G1 0).b) (ca (DFrac.mk ⟨n2,l3,(G 0).ss 0⟩ ⟨1,l4,(G 0).ss 1⟩)) 29),.kb true] fun _ _ G6 kw6=>?_;intro S s
    obtain ⟨⟨kl3, -⟩,⟨kl4, -⟩, -⟩:Lq l3 (((G6 0).ss 0).v)∧Lq l4 (((G6 0).ss 1).v)∧True:=kq kw6;clear kw6;have z9:Fr.Fz n2 l3 1 l4 ((1000000:Int):Rat):=by subst_vars;exact Un.intz _
    rw [←Fr.divInt1] at z9;have e1:l3=Fr.rD ((Un.pre c).isSome=true) (Rat.divInt (Un.pp (Un.pre c)) (Un.pq (Un.pre c))):=by exact (Fr.Fz.ret z9 (show (Un.pre c).isSome=true by rw [hpx];rfl) (Un.px_r hpx)).2.1
    subst e1;have e3:l4=Fr.rE ((Un.pre c).isSome=true) (Rat.divInt (Un.pp (Un.pre c)) (Un.pq (Un.pre c))):=by exact (Fr.Fz.ret z9 (show (Un.pre c).isSome=true by rw [hpx];rfl) (Un.px_r hpx)).2.2.2
    subst e3;have e0:n2=Fr.rS ((Un.pre c).isSome=true) (Rat.divInt (Un.pp (Un.pre c)) (Un.pq (Un.pre c))):=by exact (Fr.Fz.ret z9 (show (Un.pre c).isSome=true by rw [hpx];rfl) (Un.px_r hpx)).1
    have e2:(1:Int)=Fr.rT ((Un.pre c).isSome=true):=by exact (Fr.Fz.ret z9 (show (Un.pre c).isSome=true by rw [hpx];rfl) (Un.px_r hpx)).2.2.1
    have e4:true=(Un.pre c).isSome:=by rw [hpx];rfl
    exact V.rt [0,0] [(G6 0).ss 0,(G6 0).ss 1] [fun _=>{},fun _=>{}] [] [0,1] [] (.tuple #[ag (DFrac.mk ⟨n2,(Fr.rD ((Un.pre c).isSome=true) (Rat.divInt (Un.pp (Un.pre c)) (Un.pq (Un.pre c)))),(G6 0).ss 0⟩ ⟨1,(Fr.rE ((Un.pre c).isSome=true) (Rat.divInt (Un.pp (Un.pre c)) (Un.pq (Un.pre c)))),(G6 0).ss 1⟩),bv true]) (cong3 (fun (x0 x2:Int) (x4:Bool)=>(.tuple #[.agg #[iv x0,((G6 0).ss 0).v,iv x2,((G6 0).ss 1).v],bv x4]:Value)) e0 e2 e4)
  have hpn1:=q4;refine V.g [.k (bv (decide (c=71))),.k (bv (decide (c=71)))] fun _ _ G7=>?_;intro S s
  refine V.cn (b:=decide (c=71)) iDT iDF (fun q5=>?_) (fun q6=>?_)
  · have hpx:Un.pre c=some (1000000000,1):=by unfold Un.pre;rw [if_neg hpn0,if_neg hpn1,if_pos q5]
    refine nm (Bg.sgn (1000000000:Int):Int) fun n3 hn3=>?_;refine nl (Bg.dig (1000000000:Int).natAbs) fun l5 hl5 hl5n=>?_;refine nl (Bg.dig 1) fun l6 hl6 hl6n=>?_;refine V.r [.ct g0 0 33 false [] [] [] (fun _ G=>r5int_ctv (1000000000:Int) (by omega) n3 hn3 l5 hl5 l6 hl6),.st 0 (fun G=>.blk ((G1 0).b) (ca (DFrac.mk ⟨n3,l5,(G 0).ss 0⟩ ⟨1,l6,(G 0).ss 1⟩)) 29),.kb true] fun _ _ G8 kw8=>?_;intro S s
    obtain ⟨⟨kl5, -⟩,⟨kl6, -⟩, -⟩:Lq l5 (((G8 0).ss 0).v)∧Lq l6 (((G8 0).ss 1).v)∧True:=kq kw8;clear kw8;have z9:Fr.Fz n3 l5 1 l6 ((1000000000:Int):Rat):=by subst_vars;exact Un.intz _
    rw [←Fr.divInt1] at z9;have e1:l5=Fr.rD ((Un.pre c).isSome=true) (Rat.divInt (Un.pp (Un.pre c)) (Un.pq (Un.pre c))):=by exact (Fr.Fz.ret z9 (show (Un.pre c).isSome=true by rw [hpx];rfl) (Un.px_r hpx)).2.1
    subst e1;have e3:l6=Fr.rE ((Un.pre c).isSome=true) (Rat.divInt (Un.pp (Un.pre c)) (Un.pq (Un.pre c))):=by exact (Fr.Fz.ret z9 (show (Un.pre c).isSome=true by rw [hpx];rfl) (Un.px_r hpx)).2.2.2
    subst e3;have e0:n3=Fr.rS ((Un.pre c).isSome=true) (Rat.divInt (Un.pp (Un.pre c)) (Un.pq (Un.pre c))):=by exact (Fr.Fz.ret z9 (show (Un.pre c).isSome=true by rw [hpx];rfl) (Un.px_r hpx)).1
    have e2:(1:Int)=Fr.rT ((Un.pre c).isSome=true):=by exact (Fr.Fz.ret z9 (show (Un.pre c).isSome=true by rw [hpx];rfl) (Un.px_r hpx)).2.2.1
    have e4:true=(Un.pre c).isSome:=by rw [hpx];rfl
    exact V.rt [0,0] [(G8 0).ss 0,(G8 0).ss 1] [fun _=>{},fun _=>{}] [] [0,1] [] (.tuple #[ag (DFrac.mk ⟨n3,(Fr.rD ((Un.pre c).isSome=true) (Rat.divInt (Un.pp (Un.pre c)) (Un.pq (Un.pre c)))),(G8 0).ss 0⟩ ⟨1,(Fr.rE ((Un.pre c).isSome=true) (Rat.divInt (Un.pp (Un.pre c)) (Un.pq (Un.pre c)))),(G8 0).ss 1⟩),bv true]) (cong3 (fun (x0 x2:Int) (x4:Bool)=>(.tuple #[.agg #[iv x0,((G8 0).ss 0).v,iv x2,((G8 0).ss 1).v],bv x4]:Value)) e0 e2 e4)
  have hpn2:=q6;refine V.g [.k (bv (decide (c=109))),.k (bv (decide (c=109)))] fun _ _ G9=>?_;intro S s
  refine V.cn (b:=decide (c=109)) iDT iDF (fun q7=>?_) (fun q8=>?_)
  · have hpx:Un.pre c=some (1,1000):=by unfold Un.pre;rw [if_neg hpn0,if_neg hpn1,if_neg hpn2,if_pos q7]
    refine nm (Fr.rS ((1000:Int)≠0) (Rat.divInt (1:Int) (1000:Int)):Int) fun n4 hn4=>?_;refine nl (Fr.rD ((1000:Int)≠0) (Rat.divInt (1:Int) (1000:Int))) fun l7 hl7 hl7n=>?_;refine nm (Fr.rT ((1000:Int)≠0):Int) fun n5 hn5=>?_;refine nl (Fr.rE ((1000:Int)≠0) (Rat.divInt (1:Int) (1000:Int))) fun l8 hl8 hl8n=>?_;refine V.r [.ct g0 0 142 false [] [] [] (fun _ G=>frac9_ctv (1:Int) (1000:Int) (by omega) (by omega) n4 hn4 l7 hl7 n5 hn5 l8 hl8),.st 0 (fun G=>.blk ((G1 0).b) (ca (DFrac.mk ⟨n4,l7,(G 0).ss 0⟩ ⟨n5,l8,(G 0).ss 1⟩)) 29),.kb true] fun _ _ G10 kw10=>?_;intro S s
    obtain ⟨⟨kl7, -⟩,⟨kl8, -⟩, -⟩:Lq l7 (((G10 0).ss 0).v)∧Lq l8 (((G10 0).ss 1).v)∧True:=kq kw10;clear kw10;have z9:=Fr.Fz.of (show (1000:Int)≠0 by decide) hn4 hl7 hn5 hl8;have e1:l7=Fr.rD ((Un.pre c).isSome=true) (Rat.divInt (Un.pp (Un.pre c)) (Un.pq (Un.pre c))):=by exact (Fr.Fz.ret z9 (show (Un.pre c).isSome=true by rw [hpx];rfl) (Un.px_r hpx)).2.1
    subst e1;have e3:l8=Fr.rE ((Un.pre c).isSome=true) (Rat.divInt (Un.pp (Un.pre c)) (Un.pq (Un.pre c))):=by exact (Fr.Fz.ret z9 (show (Un.pre c).isSome=true by rw [hpx];rfl) (Un.px_r hpx)).2.2.2
    subst e3;have e0:n4=Fr.rS ((Un.pre c).isSome=true) (Rat.divInt (Un.pp (Un.pre c)) (Un.pq (Un.pre c))):=by exact (Fr.Fz.ret z9 (show (Un.pre c).isSome=true by rw [hpx];rfl) (Un.px_r hpx)).1
    have e2:n5=Fr.rT ((Un.pre c).isSome=true):=by exact (Fr.Fz.ret z9 (show (Un.pre c).isSome=true by rw [hpx];rfl) (Un.px_r hpx)).2.2.1
    have e4:true=(Un.pre c).isSome:=by rw [hpx];rfl
    exact V.rt [0,0] [(G10 0).ss 0,(G10 0).ss 1] [fun _=>{},fun _=>{}] [] [0,1] [] (.tuple #[ag (DFrac.mk ⟨n4,(Fr.rD ((Un.pre c).isSome=true) (Rat.divInt (Un.pp (Un.pre c)) (Un.pq (Un.pre c)))),(G10 0).ss 0⟩ ⟨n5,(Fr.rE ((Un.pre c).isSome=true) (Rat.divInt (Un.pp (Un.pre c)) (Un.pq (Un.pre c)))),(G10 0).ss 1⟩),bv true]) (cong3 (fun (x0 x2:Int) (x4:Bool)=>(.tuple #[.agg #[iv x0,((G10 0).ss 0).v,iv x2,((G10 0).ss 1).v],bv x4]:Value)) e0 e2 e4)
  have hpn3:=q8;have hpx:Un.pre c=none:=by unfold Un.pre;rw [if_neg hpn0,if_neg hpn1,if_neg hpn2,if_neg hpn3]
  refine V.g [.k (ag (DFrac.mk ⟨0,[],{}⟩ ⟨0,[],{}⟩)),.st 0 (fun _=>.blk ((G1 0).b) (ca (DFrac.mk ⟨0,[],{}⟩ ⟨0,[],{}⟩)) 29),.kb false] fun _ _ G11=>?_;intro S s
  refine V.nilF (α:=Int) ?_;refine V.nilF (α:=Int) ?_;have e1:([]:List Int)=Fr.rD ((Un.pre c).isSome=true) (Rat.divInt (Un.pp (Un.pre c)) (Un.pq (Un.pre c))):=by exact (Fr.Fz.no (show ¬ (Un.pre c).isSome=true by rw [hpx];simp) (Rat.divInt (Un.pp (Un.pre c)) (Un.pq (Un.pre c)))).2.1
  rw [←e1];have e3:([]:List Int)=Fr.rE ((Un.pre c).isSome=true) (Rat.divInt (Un.pp (Un.pre c)) (Un.pq (Un.pre c))):=by exact (Fr.Fz.no (show ¬ (Un.pre c).isSome=true by rw [hpx];simp) (Rat.divInt (Un.pp (Un.pre c)) (Un.pq (Un.pre c)))).2.2.2
  rw [←e3];have e0:(0:Int)=Fr.rS ((Un.pre c).isSome=true) (Rat.divInt (Un.pp (Un.pre c)) (Un.pq (Un.pre c))):=by exact (Fr.Fz.no (show ¬ (Un.pre c).isSome=true by rw [hpx];simp) (Rat.divInt (Un.pp (Un.pre c)) (Un.pq (Un.pre c)))).1
  have e2:(0:Int)=Fr.rT ((Un.pre c).isSome=true):=by exact (Fr.Fz.no (show ¬ (Un.pre c).isSome=true by rw [hpx];simp) (Rat.divInt (Un.pp (Un.pre c)) (Un.pq (Un.pre c)))).2.2.1
  have e4:false=(Un.pre c).isSome:=by rw [hpx];rfl
  exact V.rt [0,0] [{},{}] [fun _=>{},fun _=>{}] [] [0,1] [] (.tuple #[ag (DFrac.mk ⟨0,([]:List Int),{}⟩ ⟨0,([]:List Int),{}⟩),bv false]) (cong3 (fun (x0 x2:Int) (x4:Bool)=>(.tuple #[.agg #[iv x0,SV.v ({}),iv x2,SV.v ({})],bv x4]:Value)) e0 e2 e4)
theorem pre9_ctv (c rv0:Int) (erv0:rv0=Fr.rS ((Un.pre c).isSome=true) (Rat.divInt (Un.pp (Un.pre c)) (Un.pq (Un.pre c)))) (rv1:List Int) (erv1:rv1=Fr.rD ((Un.pre c).isSome=true) (Rat.divInt (Un.pp (Un.pre c)) (Un.pq (Un.pre c)))) (rv2:Int) (erv2:rv2=Fr.rT ((Un.pre c).isSome=true)) (rv3:List Int) (erv3:rv3=Fr.rE ((Un.pre c).isSome=true) (Rat.divInt (Un.pp (Un.pre c)) (Un.pq (Un.pre c)))) :
    Ct Tryz.prog 107 #[.int .u8 c] [] [] (fun g=>.tuple #[ag (DFrac.mk ⟨rv0,rv1,(g.ss 0)⟩ ⟨rv2,rv3,(g.ss 1)⟩),bv ((Un.pre c).isSome)]) (fun g=>[fs true rv1 (g.ss 0),fs true rv3 (g.ss 1)]) (fun g=>[]) (fun g=>[]):=by
  subst erv0 erv1 erv2 erv3;exact pre9_ct c 
set_option maxRecDepth 10000 in
theorem word9_ct (s:ByteArray) :
    Ct Tryz.prog 65 #[tv s] [] [] (fun g=>.tuple #[.agg #[iv (Un.dv (Un.word s) 0),iv (Un.dv (Un.word s) 1),iv (Un.dv (Un.word s) 2),iv (Un.dv (Un.word s) 3),iv (Un.dv (Un.word s) 4),iv (Un.dv (Un.word s) 5),iv (Fr.rS ((Un.word s).isSome=true) (Un.fv (Un.word s))),((g.ss 0)).v,iv (Fr.rT ((Un.word s).isSome=true)),((g.ss 1)).v],bv ((Un.word s).isSome)]) (fun g=>[fs true (Fr.rD ((Un.word s).isSome=true) (Un.fv (Un.word s))) (g.ss 0),fs true (Fr.rE ((Un.word s).isSome=true) (Un.fv (Un.word s))) (g.ss 1)]) (fun g=>[]) (fun g=>[]):=by
  refine V.fn mo Tryz.func65 77 4 (by kernel_rfl) fun w H ε k0=>?_;clear k0
  refine V.g [.nb 0 0 (fun b=>pp b 0) 42 (fun _=>#[iv 0,iv 0,iv 0,iv 0,iv 0,iv 0,iv 0,.slice none 0 0,iv 0,.slice none 0 0]),.kb false] fun _ _ G1=>?_;intro S_ s_
  refine nm (Un.dv (Un.sym s) 0:Int) fun n1 hn1=>?_;refine nm (Un.dv (Un.sym s) 1:Int) fun n2 hn2=>?_;refine nm (Un.dv (Un.sym s) 2:Int) fun n3 hn3=>?_;refine nm (Un.dv (Un.sym s) 3:Int) fun n4 hn4=>?_;refine nm (Un.dv (Un.sym s) 4:Int) fun n5 hn5=>?_;refine nm (Un.dv (Un.sym s) 5:Int) fun n6 hn6=>?_;refine nm (Fr.rS ((Un.sym s).isSome=true) (Un.fv (Un.sym s)):Int) fun n7 hn7=>?_;refine nl (Fr.rD ((Un.sym s).isSome=true) (Un.fv (Un.sym s))) fun l1 hl1 hl1n=>?_;refine nm (Fr.rT ((Un.sym s).isSome=true):Int) fun n8 hn8=>?_;refine nl (Fr.rE ((Un.sym s).isSome=true) (Un.fv (Un.sym s))) fun l2 hl2 hl2n=>?_;refine V.r [.k (tv s),.ct g0 1 106 false [] [] [] (fun _ G=>sym9_ctv s n1 hn1 n2 hn2 n3 hn3 n4 hn4 n5 hn5 n6 hn6 n7 hn7 l1 hl1 n8 hn8 l2 hl2),.v fun G=>.tuple #[.agg #[iv n1,iv n2,iv n3,iv n4,iv n5,iv n6,iv n7,((G 1).ss 0).v,iv n8,((G 1).ss 1).v],bv ((Un.sym s).isSome)],.v fun G=>.agg #[iv n1,iv n2,iv n3,iv n4,iv n5,iv n6,iv n7,((G 1).ss 0).v,iv n8,((G 1).ss 1).v],.k (bv ((Un.sym s).isSome)),.nb 5 1 (fun b=>pp b 0) 42 (fun _=>#[iv 0,iv 0,iv 0,iv 0,iv 0,iv 0,iv 0,.slice none 0 0,iv 0,.slice none 0 0]),.st 1 (fun G=>.blk ((G 5).b) #[iv n1,iv n2,iv n3,iv n4,iv n5,iv n6,iv n7,((G 1).ss 0).v,iv n8,((G 1).ss 1).v] 42),.k (bv ((Un.sym s).isSome))] fun _ _ G2 kw2=>?_;intro S_ s_
  obtain ⟨⟨kl1, -⟩,⟨kl2, -⟩, -⟩:Lq l1 (((G2 1).ss 0).v)∧Lq l2 (((G2 1).ss 1).v)∧True:=kq kw2;clear kw2;refine nm (((Un.sym s).isSome) || (decide ((s.size:Int) < 2)):Bool) fun p1 hp1=>?_;refine V.g [.k (bv ((Un.sym s).isSome)),.k (bv ((Un.sym s).isSome)),.k (tv s),.k (iv (s.size:Int)),.k (bv (decide ((s.size:Int) < 2))),.orn g0 false ((Un.sym s).isSome) (decide ((s.size:Int) < 2)) p1 hp1] fun _ _ G3=>?_;intro S_ s_;refine V.cn (b:=p1) (iN hp1 (iOT Iff.rfl iDT)) (iN hp1 (iOF Iff.rfl iDF)) (fun q1=>?_) (fun q2=>?_)
  · have hww:Un.word s=Un.sym s:=Un.word_sh (by have hqq:=q1;rcases hqq with h | h;exact .inl (by first | exact h | simpa using h);exact .inr (by omega));refine V.g [.ld 1 0 true (fun _=>[iv n1,iv n2,iv n3,iv n4,iv n5,iv n6,iv n7,((G2 1).ss 0).v,iv n8,((G2 1).ss 1).v]),.k (bv ((Un.sym s).isSome)),.st 0 (fun _=>.blk ((G1 0).b) #[iv n1,iv n2,iv n3,iv n4,iv n5,iv n6,iv n7,((G2 1).ss 0).v,iv n8,((G2 1).ss 1).v] 42),.k (bv ((Un.sym s).isSome))] fun _ _ G4=>?_;intro S_ s_
    have e7:l1=Fr.rD ((Un.word s).isSome=true) (Un.fv (Un.word s)):=by
      rw [hl1];rw [hww]
    subst e7;have e9:l2=Fr.rE ((Un.word s).isSome=true) (Un.fv (Un.word s)):=by
      rw [hl2];rw [hww]
    subst e9;have e0:n1=Un.dv (Un.word s) 0:=by
      rw [hn1];rw [hww]
    have e1:n2=Un.dv (Un.word s) 1:=by
      rw [hn2];rw [hww]
    have e2:n3=Un.dv (Un.word s) 2:=by
      rw [hn3];rw [hww]
    have e3:n4=Un.dv (Un.word s) 3:=by
      rw [hn4];rw [hww]
    have e4:n5=Un.dv (Un.word s) 4:=by
      rw [hn5];rw [hww]
    have e5:n6=Un.dv (Un.word s) 5:=by
      rw [hn6];rw [hww]
    have e6:n7=Fr.rS ((Un.word s).isSome=true) (Un.fv (Un.word s)):=by
      rw [hn7];rw [hww]
    have e8:n8=Fr.rT ((Un.word s).isSome=true):=by
      rw [hn8];rw [hww]
    have e10:((Un.sym s).isSome)=(Un.word s).isSome:=by rw [hww]
    exact V.rt [0,0] [(G2 1).ss 0,(G2 1).ss 1] [fun _=>{},fun _=>{}] [] [0,1] [] (.tuple #[.agg #[iv n1,iv n2,iv n3,iv n4,iv n5,iv n6,iv n7,((G2 1).ss 0).v,iv n8,((G2 1).ss 1).v],bv ((Un.sym s).isSome)]) (cong9 (fun (x0 x1 x2 x3 x4 x5 x6 x8:Int) (x10:Bool)=>(.tuple #[.agg #[iv x0,iv x1,iv x2,iv x3,iv x4,iv x5,iv x6,((G2 1).ss 0).v,iv x8,((G2 1).ss 1).v],bv x10]:Value)) e0 e1 e2 e3 e4 e5 e6 e8 e10)
  have hsn:¬ (Un.sym s).isSome=true:=by have hqq:=q2;first | exact hqq.1 | simpa using hqq.1
  have hs2:2≤s.size:=by have hqq:=q2;have:=hqq.2;omega
  refine nm ((bl s).getD (0:Int).toNat default:UInt8) fun c1 hc1=>?_;refine nm (Fr.rS ((Un.pre (c1.toNat:Int)).isSome=true) (Rat.divInt (Un.pp (Un.pre (c1.toNat:Int))) (Un.pq (Un.pre (c1.toNat:Int)))):Int) fun n9 hn9=>?_;refine nl (Fr.rD ((Un.pre (c1.toNat:Int)).isSome=true) (Rat.divInt (Un.pp (Un.pre (c1.toNat:Int))) (Un.pq (Un.pre (c1.toNat:Int))))) fun l3 hl3 hl3n=>?_;refine nm (Fr.rT ((Un.pre (c1.toNat:Int)).isSome=true):Int) fun n10 hn10=>?_;refine nl (Fr.rE ((Un.pre (c1.toNat:Int)).isSome=true) (Rat.divInt (Un.pp (Un.pre (c1.toNat:Int))) (Un.pq (Un.pre (c1.toNat:Int))))) fun l4 hl4 hl4n=>?_;refine V.r [.k (tv s),.sid g0 s (0:Int) c1 hc1 (fun _=>⟨by omega,by omega⟩),.ct g0 2 107 false [] [] [] (fun _ G=>pre9_ctv (c1.toNat:Int) n9 hn9 l3 hl3 n10 hn10 l4 hl4),.v fun G=>.tuple #[ag (DFrac.mk ⟨n9,l3,(G 2).ss 0⟩ ⟨n10,l4,(G 2).ss 1⟩),bv ((Un.pre (c1.toNat:Int)).isSome)],.v fun G=>ag (DFrac.mk ⟨n9,l3,(G 2).ss 0⟩ ⟨n10,l4,(G 2).ss 1⟩),.k (bv ((Un.pre (c1.toNat:Int)).isSome)),.nb 6 2 (fun b=>pp b 0) 29 (fun _=>ca (DFrac.mk ⟨0,[],{}⟩ ⟨0,[],{}⟩)),.st 2 (fun G=>.blk ((G 6).b) (ca (DFrac.mk ⟨n9,l3,(G 2).ss 0⟩ ⟨n10,l4,(G 2).ss 1⟩)) 29),.k (bv ((Un.pre (c1.toNat:Int)).isSome))] fun _ _ G5 kw5=>?_;intro S_ s_
  obtain ⟨⟨kl3, -⟩,⟨kl4, -⟩, -⟩:Lq l3 (((G5 2).ss 0).v)∧Lq l4 (((G5 2).ss 1).v)∧True:=kq kw5;clear kw5;refine nm (s.extract (1:Int).toNat (s.size:Int).toNat:ByteArray) fun t1 ht1=>?_;have ht1n:t1.size=min (s.size:Int).toNat s.size-(1:Int).toNat:=by rw [ht1,ByteArray.size_extract]
  refine V.g [.k (tv s),.ssl g0 s (some (1:Int)) none 1 (s.size:Int) rfl rfl t1 ht1 (fun _=>⟨by omega,by omega,by omega⟩),.k (tv t1)] fun _ _ G6=>?_;intro S_ s_
  refine nm (Un.dv (Un.sym t1) 0:Int) fun n11 hn11=>?_;refine nm (Un.dv (Un.sym t1) 1:Int) fun n12 hn12=>?_;refine nm (Un.dv (Un.sym t1) 2:Int) fun n13 hn13=>?_;refine nm (Un.dv (Un.sym t1) 3:Int) fun n14 hn14=>?_;refine nm (Un.dv (Un.sym t1) 4:Int) fun n15 hn15=>?_;refine nm (Un.dv (Un.sym t1) 5:Int) fun n16 hn16=>?_;refine nm (Fr.rS ((Un.sym t1).isSome=true) (Un.fv (Un.sym t1)):Int) fun n17 hn17=>?_;refine nl (Fr.rD ((Un.sym t1).isSome=true) (Un.fv (Un.sym t1))) fun l5 hl5 hl5n=>?_;refine nm (Fr.rT ((Un.sym t1).isSome=true):Int) fun n18 hn18=>?_;refine nl (Fr.rE ((Un.sym t1).isSome=true) (Un.fv (Un.sym t1))) fun l6 hl6 hl6n=>?_;refine V.r [.k (tv t1),.ct g0 1 106 false [] [] [] (fun _ G=>sym9_ctv t1 n11 hn11 n12 hn12 n13 hn13 n14 hn14 n15 hn15 n16 hn16 n17 hn17 l5 hl5 n18 hn18 l6 hl6),.v fun G=>.tuple #[.agg #[iv n11,iv n12,iv n13,iv n14,iv n15,iv n16,iv n17,((G 1).ss 0).v,iv n18,((G 1).ss 1).v],bv ((Un.sym t1).isSome)],.v fun G=>.agg #[iv n11,iv n12,iv n13,iv n14,iv n15,iv n16,iv n17,((G 1).ss 0).v,iv n18,((G 1).ss 1).v],.k (bv ((Un.sym t1).isSome)),.nb 5 3 (fun b=>pp b 0) 42 (fun _=>#[iv 0,iv 0,iv 0,iv 0,iv 0,iv 0,iv 0,.slice none 0 0,iv 0,.slice none 0 0]),.st 3 (fun G=>.blk ((G 5).b) #[iv n11,iv n12,iv n13,iv n14,iv n15,iv n16,iv n17,((G 1).ss 0).v,iv n18,((G 1).ss 1).v] 42),.k (bv ((Un.sym t1).isSome))] fun _ _ G7 kw7=>?_;intro S_ s_
  obtain ⟨⟨kl5, -⟩,⟨kl6, -⟩, -⟩:Lq l5 (((G7 1).ss 0).v)∧Lq l6 (((G7 1).ss 1).v)∧True:=kq kw7;clear kw7;refine nm ((!((Un.pre (c1.toNat:Int)).isSome)) || (!((Un.sym t1).isSome)):Bool) fun p2 hp2=>?_;refine nm ((!(decide (t1=⟨#[103]⟩))) && (!(decide (t1=⟨#[109]⟩))):Bool) fun p3 hp3=>?_;refine nm ((p3 && (!(decide (t1=⟨#[108]⟩)))) && (!(decide (t1=⟨#[115]⟩))):Bool) fun p4 hp4=>?_;refine nm ((p4 && (!(decide (t1=⟨#[74]⟩)))) && (!(decide (t1=⟨#[87,104]⟩))):Bool) fun p5 hp5=>?_;refine V.g [.k (bv ((Un.pre (c1.toNat:Int)).isSome)),.k (bv (!((Un.pre (c1.toNat:Int)).isSome))),.k (bv (!((Un.pre (c1.toNat:Int)).isSome))),.k (bv ((Un.sym t1).isSome)),.k (bv (!((Un.sym t1).isSome))),.orn g0 false (!((Un.pre (c1.toNat:Int)).isSome)) (!((Un.sym t1).isSome)) p2 hp2,.k (bv p2),.k (tv t1),.sne t1 ⟨#[103]⟩,.k (bv (!(decide (t1=⟨#[103]⟩)))),.k (tv t1),.sne t1 ⟨#[109]⟩,.andn (gF (b:=p2) (iN hp2 (iOF (iNF Iff.rfl) (iNF Iff.rfl)))) false (!(decide (t1=⟨#[103]⟩))) (!(decide (t1=⟨#[109]⟩))) p3 hp3,.k (bv p3),.k (tv t1),.sne t1 ⟨#[108]⟩,.and (gF (b:=p2) (iN hp2 (iOF (iNF Iff.rfl) (iNF Iff.rfl)))) false p3 (!(decide (t1=⟨#[108]⟩))),.k (bv (p3 && (!(decide (t1=⟨#[108]⟩))))),.k (tv t1),.sne t1 ⟨#[115]⟩,.andn (gF (b:=p2) (iN hp2 (iOF (iNF Iff.rfl) (iNF Iff.rfl)))) false (p3 && (!(decide (t1=⟨#[108]⟩)))) (!(decide (t1=⟨#[115]⟩))) p4 hp4,.k (bv p4),.k (tv t1),.sne t1 ⟨#[74]⟩,.and (gF (b:=p2) (iN hp2 (iOF (iNF Iff.rfl) (iNF Iff.rfl)))) false p4 (!(decide (t1=⟨#[74]⟩))),.k (bv (p4 && (!(decide (t1=⟨#[74]⟩))))),.k (tv t1),.sne t1 ⟨#[87,104]⟩,.andn (gF (b:=p2) (iN hp2 (iOF (iNF Iff.rfl) (iNF Iff.rfl)))) false (p4 && (!(decide (t1=⟨#[74]⟩)))) (!(decide (t1=⟨#[87,104]⟩))) p5 hp5,.or g0 false p2 p5] fun _ _ G8=>?_;intro S_ s_;refine V.cn (b:=p2 || p5) (iOT (iN hp2 (iOT (iNT Iff.rfl) (iNT Iff.rfl))) (iN hp5 (iAT (iAT (iN hp4 (iAT (iAT (iN hp3 (iAT (iNT iDF) (iNT iDF))) (iNT iDF)) (iNT iDF))) (iNT iDF)) (iNT iDF)))) (iOF (iN hp2 (iOF (iNF Iff.rfl) (iNF Iff.rfl))) (iN hp5 (iAF (iAF (iN hp4 (iAF (iAF (iN hp3 (iAF (iNF iDT) (iNF iDT))) (iNF iDT)) (iNF iDT))) (iNF iDT)) (iNF iDT)))) (fun q3=>?_) (fun q4=>?_)
  · have hwe:Un.wdB s=((Un.pre (c1.toNat:Int)).isSome=true∧(Un.sym t1).isSome=true∧Un.pf t1):=by rw [ht1,hc1];rfl
    have hwk:¬ Un.wdB s:=by
      rw [hwe];rintro ⟨h1,h2,h3⟩;rcases q3 with (h | h) | h
      · first | exact h h1 | (rw [h1] at h;cases h)
      · first | exact h h2 | (rw [h2] at h;cases h)
      exact Un.pf_not h3 h
    have hwn:=Un.word_n hsn hwk;refine V.g [.k (.agg #[iv 0,iv 0,iv 0,iv 0,iv 0,iv 0,iv 0,.slice none 0 0,iv 0,.slice none 0 0]),.st 0 (fun _=>.blk ((G1 0).b) #[iv 0,iv 0,iv 0,iv 0,iv 0,iv 0,iv 0,.slice none 0 0,iv 0,.slice none 0 0] 42),.kb false] fun _ _ G9=>?_;intro S_ s_
    refine V.nilF (α:=Int) ?_;refine V.nilF (α:=Int) ?_;have e7:([]:List Int)=Fr.rD ((Un.word s).isSome=true) (Un.fv (Un.word s)):=(Fr.Fz.no (Un.is_n hwn) (Un.fv (Un.word s))).2.1;rw [←e7];have e9:([]:List Int)=Fr.rE ((Un.word s).isSome=true) (Un.fv (Un.word s)):=(Fr.Fz.no (Un.is_n hwn) (Un.fv (Un.word s))).2.2.2;rw [←e9];have e0:(0:Int)=Un.dv (Un.word s) 0:=(Un.dv_n hwn 0).symm;have e1:(0:Int)=Un.dv (Un.word s) 1:=(Un.dv_n hwn 1).symm;have e2:(0:Int)=Un.dv (Un.word s) 2:=(Un.dv_n hwn 2).symm;have e3:(0:Int)=Un.dv (Un.word s) 3:=(Un.dv_n hwn 3).symm;have e4:(0:Int)=Un.dv (Un.word s) 4:=(Un.dv_n hwn 4).symm;have e5:(0:Int)=Un.dv (Un.word s) 5:=(Un.dv_n hwn 5).symm;have e6:(0:Int)=Fr.rS ((Un.word s).isSome=true) (Un.fv (Un.word s)):=(Fr.Fz.no (Un.is_n hwn) (Un.fv (Un.word s))).1;have e8:(0:Int)=Fr.rT ((Un.word s).isSome=true):=(Fr.Fz.no (Un.is_n hwn) (Un.fv (Un.word s))).2.2.1;have e10:false=(Un.word s).isSome:=by rw [hwn];rfl
    exact V.rt [0,0] [{},{}] [fun _=>{},fun _=>{}] [] [6,7] [] (.tuple #[.agg #[iv 0,iv 0,iv 0,iv 0,iv 0,iv 0,iv 0,SV.v ({}),iv 0,SV.v ({})],bv false]) (cong9 (fun (x0 x1 x2 x3 x4 x5 x6 x8:Int) (x10:Bool)=>(.tuple #[.agg #[iv x0,iv x1,iv x2,iv x3,iv x4,iv x5,iv x6,SV.v ({}),iv x8,SV.v ({})],bv x10]:Value)) e0 e1 e2 e3 e4 e5 e6 e8 e10)
  have hwe:Un.wdB s=((Un.pre (c1.toNat:Int)).isSome=true∧(Un.sym t1).isSome=true∧Un.pf t1):=by rw [ht1,hc1];rfl
  have hqq:=q4;have hwk2:(Un.pre (c1.toNat:Int)).isSome=true∧(Un.sym t1).isSome=true∧Un.pf t1:=⟨by first | exact hqq.1.1 | simpa using hqq.1.1,by first | exact hqq.1.2 | simpa using hqq.1.2,Un.pf_of hqq.2⟩;have hwk:Un.wdB s:=by rw [hwe];exact hwk2
  have hwp:Un.word s=some (((Un.sym t1).getD ([],0)).1,Un.fv (Un.sym t1) * Rat.divInt (Un.pp (Un.pre (c1.toNat:Int))) (Un.pq (Un.pre (c1.toNat:Int)))):=by rw [ht1,hc1];exact Un.word_p hsn hwk
  have zs:=Fr.Fz.of hwk2.2.1 hn17 hl5 hn18 hl6;have hzs:=zs.len (Un.sym_ok (Un.some_of hwk2.2.1)).2.2.2;have hzs1:=hzs.1;have hzs2:=hzs.2;have zp:=Fr.Fz.of hwk2.1 hn9 hl3 hn10 hl4;have hzp:=zp.len (Un.pre_hb hwk2.1);have hzp1:=hzp.1;have hzp2:=hzp.2;refine nm (Fr.rS (Fr.FrB n17 l5 n18 l6∧Fr.FrB n9 l3 n10 l4) ((Fr.fq n17 l5 l6) * (Fr.fq n9 l3 l4)):Int) fun n19 hn19=>?_;refine nl (Fr.rD (Fr.FrB n17 l5 n18 l6∧Fr.FrB n9 l3 n10 l4) ((Fr.fq n17 l5 l6) * (Fr.fq n9 l3 l4))) fun l7 hl7 hl7n=>?_;refine nm (Fr.rT (Fr.FrB n17 l5 n18 l6∧Fr.FrB n9 l3 n10 l4):Int) fun n20 hn20=>?_;refine nl (Fr.rE (Fr.FrB n17 l5 n18 l6∧Fr.FrB n9 l3 n10 l4) ((Fr.fq n17 l5 l6) * (Fr.fq n9 l3 l4))) fun l8 hl8 hl8n=>?_;refine nm (if ¬ (Fr.FrB n17 l5 n18 l6∧Fr.FrB n9 l3 n10 l4) then (1:Int) else 0:Int) fun n21 hn21=>?_;have zw:=Fr.Fz.of (And.intro zs.rt zp.rt) hn19 hl7 hn20 hl8
  rw [zs.v,zp.v] at zw;refine V.r [.k (pp ((G7 5).b) 6),.ld 3 6 true (fun _=>Dat.cells (DFrac.mk ⟨n17,l5,(G7 1).ss 0⟩ ⟨n18,l6,(G7 1).ss 1⟩)),.ld 2 0 true (fun _=>Dat.cells (DFrac.mk ⟨n9,l3,(G5 2).ss 0⟩ ⟨n10,l4,(G5 2).ss 1⟩)),.ct g0 3 50 false [] [] [(kf true (.f 4) l5 (fun _=>(G7 1).ss 0)).a,(kf true (.f 5) l6 (fun _=>(G7 1).ss 1)).a,(kf true (.f 2) l3 (fun _=>(G5 2).ss 0)).a,(kf true (.f 3) l4 (fun _=>(G5 2).ss 1)).a] (fun _ G=>r5mul_ctv n17 l5 ((G7 1).ss 0) n18 l6 ((G7 1).ss 1) n9 l3 ((G5 2).ss 0) n10 l4 ((G5 2).ss 1) (by omega) (by omega) (by omega) (by omega) n19 hn19 l7 hl7 n20 hn20 l8 hl8 n21 hn21),.v fun G=>.tuple #[ag (DFrac.mk ⟨n19,l7,(G 3).ss 0⟩ ⟨n20,l8,(G 3).ss 1⟩),iv n21],.v fun G=>ag (DFrac.mk ⟨n19,l7,(G 3).ss 0⟩ ⟨n20,l8,(G 3).ss 1⟩),.k (iv n21),.k (pp ((G7 5).b) 6),.st 3 (fun G=>.blk ((G7 5).b) #[iv n11,iv n12,iv n13,iv n14,iv n15,iv n16,iv n19,((G 3).ss 0).v,iv n20,((G 3).ss 1).v] 42)] fun _ _ G10 kw10=>?_;intro S_ s_
  obtain ⟨⟨kl7, -⟩,⟨kl8, -⟩, -⟩:Lq l7 (((G10 3).ss 0).v)∧Lq l8 (((G10 3).ss 1).v)∧True:=kq kw10;clear kw10;refine V.g [.ld 3 0 true (fun _=>[iv n11,iv n12,iv n13,iv n14,iv n15,iv n16,iv n19,((G10 3).ss 0).v,iv n20,((G10 3).ss 1).v]),.st 0 (fun _=>.blk ((G1 0).b) #[iv n11,iv n12,iv n13,iv n14,iv n15,iv n16,iv n19,((G10 3).ss 0).v,iv n20,((G10 3).ss 1).v] 42),.kb true] fun _ _ G11=>?_;intro S_ s_;have e7:l7=Fr.rD ((Un.word s).isSome=true) (Un.fv (Un.word s)):=(Fr.Fz.ret zw (Un.is_s hwp) (Un.fv_s hwp).symm).2.1;subst e7;have e9:l8=Fr.rE ((Un.word s).isSome=true) (Un.fv (Un.word s)):=(Fr.Fz.ret zw (Un.is_s hwp) (Un.fv_s hwp).symm).2.2.2;subst e9;have e0:n11=Un.dv (Un.word s) 0:=by rw [Un.dv_s hwp,hn11];rfl
  have e1:n12=Un.dv (Un.word s) 1:=by rw [Un.dv_s hwp,hn12];rfl
  have e2:n13=Un.dv (Un.word s) 2:=by rw [Un.dv_s hwp,hn13];rfl
  have e3:n14=Un.dv (Un.word s) 3:=by rw [Un.dv_s hwp,hn14];rfl
  have e4:n15=Un.dv (Un.word s) 4:=by rw [Un.dv_s hwp,hn15];rfl
  have e5:n16=Un.dv (Un.word s) 5:=by rw [Un.dv_s hwp,hn16];rfl
  have e6:n19=Fr.rS ((Un.word s).isSome=true) (Un.fv (Un.word s)):=(Fr.Fz.ret zw (Un.is_s hwp) (Un.fv_s hwp).symm).1;have e8:n20=Fr.rT ((Un.word s).isSome=true):=(Fr.Fz.ret zw (Un.is_s hwp) (Un.fv_s hwp).symm).2.2.1;have e10:true=(Un.word s).isSome:=by rw [hwp];rfl
  exact V.rt [0,0] [(G10 3).ss 0,(G10 3).ss 1] [fun _=>{},fun _=>{}] [] [6,7] [] (.tuple #[.agg #[iv n11,iv n12,iv n13,iv n14,iv n15,iv n16,iv n19,((G10 3).ss 0).v,iv n20,((G10 3).ss 1).v],bv true]) (cong9 (fun (x0 x1 x2 x3 x4 x5 x6 x8:Int) (x10:Bool)=>(.tuple #[.agg #[iv x0,iv x1,iv x2,iv x3,iv x4,iv x5,iv x6,((G10 3).ss 0).v,iv x8,((G10 3).ss 1).v],bv x10]:Value)) e0 e1 e2 e3 e4 e5 e6 e8 e10)
theorem word9_ctv (s:ByteArray) (rv0:Int) (erv0:rv0=Un.dv (Un.word s) 0) (rv1:Int) (erv1:rv1=Un.dv (Un.word s) 1) (rv2:Int) (erv2:rv2=Un.dv (Un.word s) 2) (rv3:Int) (erv3:rv3=Un.dv (Un.word s) 3) (rv4:Int) (erv4:rv4=Un.dv (Un.word s) 4) (rv5:Int) (erv5:rv5=Un.dv (Un.word s) 5) (rv6:Int) (erv6:rv6=Fr.rS ((Un.word s).isSome=true) (Un.fv (Un.word s))) (rv7:List Int) (erv7:rv7=Fr.rD ((Un.word s).isSome=true) (Un.fv (Un.word s))) (rv8:Int) (erv8:rv8=Fr.rT ((Un.word s).isSome=true)) (rv9:List Int) (erv9:rv9=Fr.rE ((Un.word s).isSome=true) (Un.fv (Un.word s))) :
    Ct Tryz.prog 65 #[tv s] [] [] (fun g=>.tuple #[.agg #[iv rv0,iv rv1,iv rv2,iv rv3,iv rv4,iv rv5,iv rv6,((g.ss 0)).v,iv rv8,((g.ss 1)).v],bv ((Un.word s).isSome)]) (fun g=>[fs true rv7 (g.ss 0),fs true rv9 (g.ss 1)]) (fun g=>[]) (fun g=>[]):=by
  subst erv0 erv1 erv2 erv3 erv4 erv5 erv6 erv7 erv8 erv9;exact word9_ct s 
set_option maxRecDepth 10000 in
theorem power9_ct (e:Int) (c:List Int) (l:SV) (j:Int) (d:List Int) (m:SV) (n:Int) (hFF:Fr.FrB e c j d) (hf0:e≠0) (hn: -9≤n∧n≤9) (hlf:c.length≤1000∧d.length≤1000) :
    Ct Tryz.prog 66 #[ag (DFrac.mk ⟨e,c,l⟩ ⟨j,d,m⟩),iv n] [fs true c l,fs true d m] [] (fun g=>ag (DFrac.mk ⟨(Fr.rS (True) (Un.tm 1 (Fr.fq e c d) n)),Fr.rD (True) (Un.tm 1 (Fr.fq e c d) n),(g.ss 0)⟩ ⟨(Fr.rT (True)),Fr.rE (True) (Un.tm 1 (Fr.fq e c d) n),(g.ss 1)⟩)) (fun g=>[fs true (Fr.rD (True) (Un.tm 1 (Fr.fq e c d) n)) (g.ss 0),fs true (Fr.rE (True) (Un.tm 1 (Fr.fq e c d) n)) (g.ss 1)]) (fun g=>[]) (fun g=>[]):=by
  refine V.fn mo Tryz.func66 32 3 (by kernel_rfl) fun w H ε k0=>?_;obtain ⟨⟨kl1, -⟩,⟨kl2, -⟩, -⟩:Lq c l.v∧Lq d m.v∧True:=kq k0
  clear k0;refine V.g [.nb 0 0 (fun b=>pp b 0) 29 (fun _=>ca (DFrac.mk ⟨e,c,l⟩ ⟨j,d,m⟩)),.nb 1 1 (fun b=>pp b 0) 29 (fun _=>ca (DFrac.mk ⟨0,[],{}⟩ ⟨0,[],{}⟩))] fun _ _ G1=>?_;intro S s
  refine nm (Bg.sgn (1:Int):Int) fun n1 hn1=>?_;refine nl (Bg.dig (1:Int).natAbs) fun l1 hl1 hl1n=>?_;refine nl (Bg.dig 1) fun l2 hl2 hl2n=>?_;refine V.r [.ct g0 0 33 false [] [] [] (fun _ G=>r5int_ctv (1:Int) (by omega) n1 hn1 l1 hl1 l2 hl2),.nb 1 2 (fun b=>pp b 0) 29 (fun _=>ca (DFrac.mk ⟨0,[],{}⟩ ⟨0,[],{}⟩)),.st 2 (fun G=>.blk ((G 1).b) (ca (DFrac.mk ⟨n1,l1,(G 0).ss 0⟩ ⟨1,l2,(G 0).ss 1⟩)) 29)] fun _ _ G2 kw2=>?_;intro S s
  obtain ⟨⟨kl3, -⟩,⟨kl4, -⟩, -⟩:Lq l1 (((G2 0).ss 0).v)∧Lq l2 (((G2 0).ss 1).v)∧True:=kq kw2;clear kw2;refine V.g [.k (iv 0)] fun _ _ G3=>?_;intro S s;refine V.loop (γ:=Int × Int × List Int × SV × Int × List Int × SV) (fun ⟨i,out_0,out_1,out_1s,out_2,out_3,out_3s⟩=>⟨[(1,iv n),(2,pp ((G1 0).b) 0),(4,pp ((G1 1).b) 0),(5,pp ((G2 1).b) 0),(6,iv i)],[fs false c l,fs false d m,fs true out_1 out_1s,fs true out_3 out_3s],[.blk ((G1 0).b) (ca (DFrac.mk ⟨e,c,l⟩ ⟨j,d,m⟩)) 29,.blk ((G1 1).b) (ca (DFrac.mk ⟨0,[],{}⟩ ⟨0,[],{}⟩)) 29,.blk ((G2 1).b) (ca (DFrac.mk ⟨out_0,out_1,out_1s⟩ ⟨out_2,out_3,out_3s⟩)) 29]⟩) (fun ⟨i,out_0,out_1,out_1s,out_2,out_3,out_3s⟩=>(0≤i)∧(i≤n∨(n < 0∧i=0))∧(n < 0→i=0)∧(Fr.Fz out_0 out_1 out_2 out_3 (Un.tmN 1 (Fr.fq e c d) (0 < n) i.natAbs))) (fun ⟨i,out_0,out_1,out_1s,out_2,out_3,out_3s⟩=>(n-i).toNat) (0,n1,l1,(G2 0).ss 0,1,l2,(G2 0).ss 1) (by kernel_rfl) [0,1,2,3] (by kernel_rfl) ?_ ?_
  · refine ⟨?_,?_,?_,?_⟩
    · show 0≤(0:Int);omega
    · show (0:Int)≤n∨(n < 0∧(0:Int)=0);omega
    · show n < 0→(0:Int)=0;omega
    show Fr.Fz n1 l1 (1:Int) l2 (Un.tmN 1 (Fr.fq e c d) (0 < n) (0:Int).natAbs)
    subst_vars;exact Un.intz 1
  rintro ⟨i,out_0,out_1,out_1s,out_2,out_3,out_3s⟩ hF1 kw4 Z1 hZ1;have hF1:(0≤i)∧(i≤n∨(n < 0∧i=0))∧(n < 0→i=0)∧(Fr.Fz out_0 out_1 out_2 out_3 (Un.tmN 1 (Fr.fq e c d) (0 < n) i.natAbs)):=hF1;obtain ⟨hf1,hf2,hf3,hf4⟩:=hF1;obtain ⟨-, -,⟨kl5, -⟩,⟨kl6, -⟩, -⟩:Lq c l.v∧Lq d m.v∧Lq out_1 out_1s.v∧Lq out_3 out_3s.v∧True:=kq kw4;clear kw4;have hzl:=hf4.len (Un.tmN_hb (show Fr.Hb 1 1 by decide +kernel) (hFF.hb hlf.1 hlf.2) _);have hzl1:=hzl.1;have hzl2:=hzl.2;refine V.g [.k (iv i),.k (iv n),.k (bv (decide (i < n)))] fun _ _ G4=>?_;intro S s;refine V.cn (b:=decide (i < n)) iDT iDF (fun q1=>?_) (fun q2=>?_)
  · refine nm (Fr.rS (Fr.FrB out_0 out_1 out_2 out_3∧Fr.FrB e c j d) ((Fr.fq out_0 out_1 out_3) * (Fr.fq e c d)):Int) fun n2 hn2=>?_;refine nl (Fr.rD (Fr.FrB out_0 out_1 out_2 out_3∧Fr.FrB e c j d) ((Fr.fq out_0 out_1 out_3) * (Fr.fq e c d))) fun l3 hl3 hl3n=>?_;refine nm (Fr.rT (Fr.FrB out_0 out_1 out_2 out_3∧Fr.FrB e c j d):Int) fun n3 hn3=>?_;refine nl (Fr.rE (Fr.FrB out_0 out_1 out_2 out_3∧Fr.FrB e c j d) ((Fr.fq out_0 out_1 out_3) * (Fr.fq e c d))) fun l4 hl4 hl4n=>?_;refine nm (if ¬ (Fr.FrB out_0 out_1 out_2 out_3∧Fr.FrB e c j d) then (1:Int) else 0:Int) fun n4 hn4=>?_;have zpn:=Fr.Fz.of (And.intro hf4.rt hFF) hn2 hl3 hn3 hl4
    rw [hf4.v] at zpn;refine V.r [.ld 2 0 true (fun _=>Dat.cells (DFrac.mk ⟨out_0,out_1,out_1s⟩ ⟨out_2,out_3,out_3s⟩)),.ld 0 0 true (fun _=>Dat.cells (DFrac.mk ⟨e,c,l⟩ ⟨j,d,m⟩)),.ct g0 2 50 false [] [] [(kf true (.f 2) out_1 (fun _=>out_1s)).a,(kf true (.f 3) out_3 (fun _=>out_3s)).a,(kf false (.f 0) c (fun _=>l)).a,(kf false (.f 1) d (fun _=>m)).a] (fun _ G=>r5mul_ctv out_0 out_1 out_1s out_2 out_3 out_3s e c l j d m (by omega) (by omega) (by omega) (by omega) n2 hn2 l3 hl3 n3 hn3 l4 hl4 n4 hn4),.v fun G=>.tuple #[ag (DFrac.mk ⟨n2,l3,(G 2).ss 0⟩ ⟨n3,l4,(G 2).ss 1⟩),iv n4],.v fun G=>ag (DFrac.mk ⟨n2,l3,(G 2).ss 0⟩ ⟨n3,l4,(G 2).ss 1⟩),.k (iv n4),.st 2 (fun G=>.blk ((G2 1).b) (ca (DFrac.mk ⟨n2,l3,(G 2).ss 0⟩ ⟨n3,l4,(G 2).ss 1⟩)) 29)] fun _ _ G5 kw6=>?_;intro S s
    obtain ⟨⟨kl7, -⟩,⟨kl8, -⟩, -⟩:Lq l3 (((G5 2).ss 0).v)∧Lq l4 (((G5 2).ss 1).v)∧True:=kq kw6;clear kw6;refine V.g [.k (iv i),.a (i+1) (by omega) (by omega),.k (iv (i+1))] fun _ _ G6=>?_;intro S s;refine V.rnd hZ1 (i+1,n2,l3,(G5 2).ss 0,n3,l4,(G5 2).ss 1) [0,1,4,5] (by kernel_rfl) ?_ ?_
    · refine ⟨?_,?_,?_,?_⟩
      · show 0≤(i+1);omega
      · show (i+1)≤n∨(n < 0∧(i+1)=0);omega
      · show n < 0→(i+1)=0;omega
      show Fr.Fz n2 l3 n3 l4 (Un.tmN 1 (Fr.fq e c d) (0 < n) (i+1).natAbs);rw [show (i+1).natAbs=i.natAbs+1 by omega,Un.tmN_y (by omega)];exact zpn
    show (n-(i+1)).toNat < (n-i).toNat;omega
  refine V.g [.k (iv 0)] fun _ _ G7=>?_;intro S s
  refine V.loop (γ:=Int × Int × List Int × SV × Int × List Int × SV) (fun ⟨i_1,out_0_1,out_1_1,out_1_1s,out_2_1,out_3_1,out_3_1s⟩=>⟨[(1,iv n),(2,pp ((G1 0).b) 0),(4,pp ((G1 1).b) 0),(5,pp ((G2 1).b) 0),(7,iv i_1)],[fs false c l,fs false d m,fs true out_1_1 out_1_1s,fs true out_3_1 out_3_1s],[.blk ((G1 0).b) (ca (DFrac.mk ⟨e,c,l⟩ ⟨j,d,m⟩)) 29,.blk ((G1 1).b) (ca (DFrac.mk ⟨0,[],{}⟩ ⟨0,[],{}⟩)) 29,.blk ((G2 1).b) (ca (DFrac.mk ⟨out_0_1,out_1_1,out_1_1s⟩ ⟨out_2_1,out_3_1,out_3_1s⟩)) 29]⟩) (fun ⟨i_1,out_0_1,out_1_1,out_1_1s,out_2_1,out_3_1,out_3_1s⟩=>(i_1≤0)∧(n≤i_1∨(0≤n∧i_1=0))∧(n < 0→Fr.Fz out_0_1 out_1_1 out_2_1 out_3_1 (Un.tmN 1 (Fr.fq e c d) (0 < n) i_1.natAbs))∧(¬n < 0→Fr.Fz out_0_1 out_1_1 out_2_1 out_3_1 (Un.tmN 1 (Fr.fq e c d) (0 < n) n.natAbs))) (fun ⟨i_1,out_0_1,out_1_1,out_1_1s,out_2_1,out_3_1,out_3_1s⟩=>(i_1-n).toNat) (0,out_0,out_1,out_1s,out_2,out_3,out_3s) (by kernel_rfl) [0,1,2,3] (by kernel_rfl) ?_ ?_
  · refine ⟨?_,?_,?_,?_⟩
    · show (0:Int)≤0;omega
    · show n≤(0:Int)∨(0≤n∧(0:Int)=0);omega
    · show n < 0→Fr.Fz out_0 out_1 out_2 out_3 (Un.tmN 1 (Fr.fq e c d) (0 < n) (0:Int).natAbs);intro hn;have h:=hf4;rw [hf3 hn] at h;exact h
    show ¬ n < 0→Fr.Fz out_0 out_1 out_2 out_3 (Un.tmN 1 (Fr.fq e c d) (0 < n) n.natAbs);intro hn;have h:=hf4;rw [show i=n by omega] at h;exact h
  rintro ⟨i_1,out_0_1,out_1_1,out_1_1s,out_2_1,out_3_1,out_3_1s⟩ hF2 kw9 Z2 hZ2;have hF2:(i_1≤0)∧(n≤i_1∨(0≤n∧i_1=0))∧(n < 0→Fr.Fz out_0_1 out_1_1 out_2_1 out_3_1 (Un.tmN 1 (Fr.fq e c d) (0 < n) i_1.natAbs))∧(¬n < 0→Fr.Fz out_0_1 out_1_1 out_2_1 out_3_1 (Un.tmN 1 (Fr.fq e c d) (0 < n) n.natAbs)):=hF2;obtain ⟨hf5,hf6,hf7,hf8⟩:=hF2;obtain ⟨-, -,⟨kl9, -⟩,⟨kl10, -⟩, -⟩:Lq c l.v∧Lq d m.v∧Lq out_1_1 out_1_1s.v∧Lq out_3_1 out_3_1s.v∧True:=kq kw9;clear kw9;have hF0:Fr.Fz out_0_1 out_1_1 out_2_1 out_3_1 (Un.tmN 1 (Fr.fq e c d) (0 < n) (if n < 0 then i_1.natAbs else n.natAbs)):=by split;exact hf7 (by assumption);exact hf8 (by assumption)
  have hzl:=hF0.len (Un.tmN_hb (show Fr.Hb 1 1 by decide +kernel) (hFF.hb hlf.1 hlf.2) _);have hzl1:=hzl.1;have hzl2:=hzl.2;have hil:(if n < 0 then i_1.natAbs else n.natAbs)≤9:=by split <;> omega
  refine V.g [.k (iv i_1),.k (iv n),.k (bv (decide (n < i_1)))] fun _ _ G8=>?_;intro S s
  refine V.cn (b:=decide (n < i_1)) iDT iDF (fun q3=>?_) (fun q4=>?_)
  · refine nm (Fr.rS ((Fr.FrB out_0_1 out_1_1 out_2_1 out_3_1∧Fr.FrB e c j d)∧e≠0) ((Fr.fq out_0_1 out_1_1 out_3_1) / (Fr.fq e c d)):Int) fun n5 hn5=>?_;refine nl (Fr.rD ((Fr.FrB out_0_1 out_1_1 out_2_1 out_3_1∧Fr.FrB e c j d)∧e≠0) ((Fr.fq out_0_1 out_1_1 out_3_1) / (Fr.fq e c d))) fun l5 hl5 hl5n=>?_;refine nm (Fr.rT ((Fr.FrB out_0_1 out_1_1 out_2_1 out_3_1∧Fr.FrB e c j d)∧e≠0):Int) fun n6 hn6=>?_;refine nl (Fr.rE ((Fr.FrB out_0_1 out_1_1 out_2_1 out_3_1∧Fr.FrB e c j d)∧e≠0) ((Fr.fq out_0_1 out_1_1 out_3_1) / (Fr.fq e c d))) fun l6 hl6 hl6n=>?_;refine nm (if ¬ (Fr.FrB out_0_1 out_1_1 out_2_1 out_3_1∧Fr.FrB e c j d) then (1:Int) else if e=0 then 15 else 0:Int) fun n7 hn7=>?_;have hneg:n < 0:=by omega
    have hz2:=hf7 hneg;have zpn:=Fr.Fz.of (And.intro (And.intro hz2.rt hFF) hf0) hn5 hl5 hn6 hl6;rw [hz2.v] at zpn;refine V.r [.ld 2 0 true (fun _=>Dat.cells (DFrac.mk ⟨out_0_1,out_1_1,out_1_1s⟩ ⟨out_2_1,out_3_1,out_3_1s⟩)),.ld 0 0 true (fun _=>Dat.cells (DFrac.mk ⟨e,c,l⟩ ⟨j,d,m⟩)),.ct g0 2 49 false [] [] [(kf true (.f 2) out_1_1 (fun _=>out_1_1s)).a,(kf true (.f 3) out_3_1 (fun _=>out_3_1s)).a,(kf false (.f 0) c (fun _=>l)).a,(kf false (.f 1) d (fun _=>m)).a] (fun _ G=>r5div_ctv out_0_1 out_1_1 out_1_1s out_2_1 out_3_1 out_3_1s e c l j d m (by omega) (by omega) (by omega) (by omega) n5 hn5 l5 hl5 n6 hn6 l6 hl6 n7 hn7),.v fun G=>.tuple #[ag (DFrac.mk ⟨n5,l5,(G 2).ss 0⟩ ⟨n6,l6,(G 2).ss 1⟩),iv n7],.v fun G=>ag (DFrac.mk ⟨n5,l5,(G 2).ss 0⟩ ⟨n6,l6,(G 2).ss 1⟩),.k (iv n7),.st 2 (fun G=>.blk ((G2 1).b) (ca (DFrac.mk ⟨n5,l5,(G 2).ss 0⟩ ⟨n6,l6,(G 2).ss 1⟩)) 29)] fun _ _ G9 kw11=>?_;intro S s
    obtain ⟨⟨kl11, -⟩,⟨kl12, -⟩, -⟩:Lq l5 (((G9 2).ss 0).v)∧Lq l6 (((G9 2).ss 1).v)∧True:=kq kw11;clear kw11;refine V.g [.k (iv i_1),.a (i_1-1) (by omega) (by omega),.k (iv (i_1-1))] fun _ _ G10=>?_;intro S s;refine V.rnd hZ2 (i_1-1,n5,l5,(G9 2).ss 0,n6,l6,(G9 2).ss 1) [0,1,4,5] (by kernel_rfl) ?_ ?_
    · refine ⟨?_,?_,?_,?_⟩
      · show (i_1-1)≤0;omega
      · show n≤(i_1-1)∨(0≤n∧(i_1-1)=0);omega
      · show n < 0→Fr.Fz n5 l5 n6 l6 (Un.tmN 1 (Fr.fq e c d) (0 < n) (i_1-1).natAbs);intro hn;rw [show (i_1-1).natAbs=i_1.natAbs+1 by omega,Un.tmN_n (by omega)];exact zpn
      show ¬ n < 0→Fr.Fz n5 l5 n6 l6 (Un.tmN 1 (Fr.fq e c d) (0 < n) n.natAbs);intro hn;omega
    show ((i_1-1)-n).toNat < (i_1-n).toNat;omega
  have hpf:Fr.Fz out_0_1 out_1_1 out_2_1 out_3_1 (Un.tm 1 (Fr.fq e c d) n):=by
    unfold Un.tm;by_cases hn:n < 0
    · have h:=hf7 hn;rw [show i_1=n by omega] at h;exact h
    exact hf8 hn
  refine V.g [.ld 2 0 true (fun _=>Dat.cells (DFrac.mk ⟨out_0_1,out_1_1,out_1_1s⟩ ⟨out_2_1,out_3_1,out_3_1s⟩)),.st 1 (fun _=>.blk ((G1 1).b) (ca (DFrac.mk ⟨out_0_1,out_1_1,out_1_1s⟩ ⟨out_2_1,out_3_1,out_3_1s⟩)) 29)] fun _ _ G11=>?_;intro S s
  have e1:out_1_1=Fr.rD (True) (Un.tm 1 (Fr.fq e c d) n):=(Fr.Fz.ret hpf True.intro rfl).2.1;subst e1;have e3:out_3_1=Fr.rE (True) (Un.tm 1 (Fr.fq e c d) n):=(Fr.Fz.ret hpf True.intro rfl).2.2.2;subst e3;have e0:out_0_1=Fr.rS (True) (Un.tm 1 (Fr.fq e c d) n):=(Fr.Fz.ret hpf True.intro rfl).1;have e2:out_2_1=Fr.rT (True):=(Fr.Fz.ret hpf True.intro rfl).2.2.1;exact V.rt [1] [out_1_1s,out_3_1s] [fun _=>{},fun _=>{}] [] [2,3] [] (ag (DFrac.mk ⟨out_0_1,(Fr.rD (True) (Un.tm 1 (Fr.fq e c d) n)),out_1_1s⟩ ⟨out_2_1,(Fr.rE (True) (Un.tm 1 (Fr.fq e c d) n)),out_3_1s⟩)) (cong2 (fun (x0 x2:Int)=>(.agg #[iv x0,out_1_1s.v,iv x2,out_3_1s.v]:Value)) e0 e2)
theorem power9_ctv (c:Int) (a:List Int) (d:SV) (e:Int) (b:List Int) (f:SV) (n:Int) (hFF:Fr.FrB c a e b) (hf0:c≠0) (hn: -9≤n∧n≤9) (hlf:a.length≤1000∧b.length≤1000) (rv0:Int) (erv0:rv0=Fr.rS (True) (Un.tm 1 (Fr.fq c a b) n)) (rv1:List Int) (erv1:rv1=Fr.rD (True) (Un.tm 1 (Fr.fq c a b) n)) (rv2:Int) (erv2:rv2=Fr.rT (True)) (rv3:List Int) (erv3:rv3=Fr.rE (True) (Un.tm 1 (Fr.fq c a b) n)) :
    Ct Tryz.prog 66 #[ag (DFrac.mk ⟨c,a,d⟩ ⟨e,b,f⟩),iv n] [fs true a d,fs true b f] [] (fun g=>ag (DFrac.mk ⟨rv0,rv1,(g.ss 0)⟩ ⟨rv2,rv3,(g.ss 1)⟩)) (fun g=>[fs true rv1 (g.ss 0),fs true rv3 (g.ss 1)]) (fun g=>[]) (fun g=>[]):=by
  subst erv0 erv1 erv2 erv3;exact power9_ct c a d e b f n hFF hf0 hn hlf
end Kb
