/- Texts for the claim, put together: the calculus of regions, its rules, and contracts of the functions that the law reaches. -/
import Derived.Test.YtjcgaaalpcofhaaZSwc
set_option linter.unusedVariables false
set_option linter.unusedSectionVars false
set_option linter.unusedSimpArgs false
namespace Kb
open Go Go.Proofs
set_option maxRecDepth 10000 in
theorem checkedT_ct (d:Int) (a:List Int) (c:SV) :
    Ct Try.prog 80 #[bv true,ag (DBig.mk d ⟨a,c⟩)] [fs true a c] [] (fun g=>.tuple #[ag (DBig.mk d ⟨a,(g.ss 0)⟩),iv 0]) (fun g=>[fs false a (g.ss 0)]) (fun g=>[]) (fun g=>[]):=by
  refine V.fn mo Try.func80 10 2 (by kernel_rfl) fun w H ε k0=>?_;obtain ⟨⟨kl1, -⟩, -⟩:Lq a c.v∧True:=kq k0
  clear k0;refine V.g [.nb 0 0 (fun b=>pp b 0) 31 (fun _=>ca (DBig.mk d ⟨a,c⟩)),.nb 1 1 (fun b=>pp b 0) 31 (fun _=>ca (DBig.mk 0 ⟨[],{}⟩)),.k (iv 0)] fun _ _ G1=>?_;intro S s
  refine V.g [.kb true,.kb false] fun _ _ G2=>?_;intro S s
  refine V.condF (by kernel_rfl) ?_;refine V.g [.ld 0 0 true (fun _=>Dat.cells (DBig.mk d ⟨a,c⟩)),.st 1 (fun _=>.blk ((G1 1).b) (ca (DBig.mk d ⟨a,c⟩)) 31),.k (iv 0)] fun _ _ G3=>?_;intro S s
  exact V.rs [1,0] [c] [fun _=>{}] [] [0] [] (.tuple #[ag (DBig.mk d ⟨a,c⟩),iv 0])
set_option maxRecDepth 10000 in
theorem checkedF_ct (d:Int) (a:List Int) (c:SV) :
    Ct Try.prog 80 #[bv false,ag (DBig.mk d ⟨a,c⟩)] [fs true a c] [] (fun g=>.tuple #[ag (DBig.mk 0 ⟨([]:List Int),(g.ss 0)⟩),iv 1]) (fun g=>[fs false ([]:List Int) (g.ss 0)]) (fun g=>[]) (fun g=>[]):=by
  refine V.fn mo Try.func80 10 2 (by kernel_rfl) fun w H ε k0=>?_;obtain ⟨⟨kl1, -⟩, -⟩:Lq a c.v∧True:=kq k0
  clear k0;refine V.g [.nb 0 0 (fun b=>pp b 0) 31 (fun _=>ca (DBig.mk d ⟨a,c⟩)),.nb 1 1 (fun b=>pp b 0) 31 (fun _=>ca (DBig.mk 0 ⟨[],{}⟩)),.k (iv 0)] fun _ _ G1=>?_;intro S s
  refine V.g [.kb false,.kb true] fun _ _ G2=>?_;intro S s
  refine V.condT (by kernel_rfl) ?_;refine V.g [.k (ag (DBig.mk 0 ⟨[],{}⟩)),.st 1 (fun _=>.blk ((G1 1).b) (ca (DBig.mk 0 ⟨[],{}⟩)) 31),.k (iv 1)] fun _ _ G3=>?_;intro S s
  refine V.nilF (α:=Int) ?_;exact V.rs [1,0] [{}] [fun _=>{}] [] [1] [] (.tuple #[ag (DBig.mk 0 ⟨([]:List Int),{}⟩),iv 1])
theorem checkedF_ctv (c:Int) (a:List Int) (b:SV) (rv1:List Int) (erv1:rv1=([]:List Int)) :
    Ct Try.prog 80 #[bv false,ag (DBig.mk c ⟨a,b⟩)] [fs true a b] [] (fun g=>.tuple #[ag (DBig.mk 0 ⟨rv1,(g.ss 0)⟩),iv 1]) (fun g=>[fs false rv1 (g.ss 0)]) (fun g=>[]) (fun g=>[]):=by
  subst erv1;exact checkedF_ct c a b 
set_option maxRecDepth 10000 in
theorem Add_ct (e:Int) (c:List Int) (j:SV) (i:Int) (d:List Int) (l:SV) (hla:c.length≤274877906944) (hlb:d.length≤274877906944) :
    Ct Try.prog 42 #[ag (DBig.mk e ⟨c,j⟩),ag (DBig.mk i ⟨d,l⟩)] [fs true c j,fs true d l] [] (fun g=>.tuple #[ag (DBig.mk (Bg.oS (Bg.RtB e c∧Bg.RtB i d) (Bg.zv e c+Bg.zv i d)) ⟨Bg.oD (Bg.RtB e c∧Bg.RtB i d) (Bg.zv e c+Bg.zv i d),(g.ss 0)⟩),iv (if (Bg.RtB e c∧Bg.RtB i d) then (0:Int) else 1)]) (fun g=>[fs true (Bg.oD (Bg.RtB e c∧Bg.RtB i d) (Bg.zv e c+Bg.zv i d)) (g.ss 0)]) (fun g=>[]) (fun g=>[]):=by
  refine V.fn mo Try.func42 69 3 (by kernel_rfl) fun w H ε k0=>?_;obtain ⟨⟨kl1, -⟩,⟨kl2, -⟩, -⟩:Lq c j.v∧Lq d l.v∧True:=kq k0
  clear k0;refine V.g [.nb 0 0 (fun b=>pp b 0) 31 (fun _=>ca (DBig.mk e ⟨c,j⟩)),.nb 1 1 (fun b=>pp b 0) 31 (fun _=>ca (DBig.mk i ⟨d,l⟩)),.nb 2 2 (fun b=>pp b 0) 31 (fun _=>ca (DBig.mk 0 ⟨[],{}⟩)),.k (iv 0)] fun _ _ G1=>?_;intro S s
  refine nm ((!(decide (Bg.RtB e c))) || (!(decide (Bg.RtB i d))):Bool) fun p1 hp1=>?_;refine V.g [.ld 0 0 true (fun _=>Dat.cells (DBig.mk e ⟨c,j⟩)),.cp g0 1 51 [(kf false (.f 0) c (fun _=>j)).a] (fun _ G=>bright_ct e c j),.k (bv (!(decide (Bg.RtB e c)))),.k (bv (!(decide (Bg.RtB e c)))),.ld 1 0 true (fun _=>Dat.cells (DBig.mk i ⟨d,l⟩)),.cp (gF (b:=!(decide (Bg.RtB e c))) (iNF iDT)) 5 51 [(kf false (.f 1) d (fun _=>l)).a] (fun hg G=>bright_ct i d l),.k (bv (!(decide (Bg.RtB i d)))),.orn g0 false (!(decide (Bg.RtB e c))) (!(decide (Bg.RtB i d))) p1 hp1] fun _ _ G2=>?_;intro S s
  refine V.cn (b:=p1) (iN hp1 (iOT (iNT iDF) (iNT iDF))) (iN hp1 (iOF (iNF iDT) (iNF iDT))) (fun q1=>?_) (fun q2=>?_)
  · have hNR:¬ (Bg.RtB e c∧Bg.RtB i d):=by rintro ⟨h1,h2⟩;rcases q1 with h | h;exact h h1;exact h h2
    refine nl (([]:List Int)) fun l1 hl1 hl1n=>?_;refine V.r [.k (ag (DBig.mk 0 ⟨[],{}⟩)),.ctT g0 1 80 [(knil (α:=Int)).a] (fun _ G=>checkedF_ctv (0:Int) ([]:List Int) ({}) l1 hl1),.v fun G=>ag (DBig.mk 0 ⟨l1,(G 1).ss 0⟩),.k (iv 1),.st 2 (fun G=>.blk ((G1 2).b) (ca (DBig.mk 0 ⟨l1,(G 1).ss 0⟩)) 31),.k (iv 1)] fun _ _ G3 kw3=>?_;intro S s
    obtain ⟨⟨kl3, -⟩, -⟩:Lq l1 (((G3 1).ss 0).v)∧True:=kq kw3;clear kw3;have e1:l1=Bg.oD (Bg.RtB e c∧Bg.RtB i d) (Bg.zv e c+Bg.zv i d):=by
      rw [hl1];exact (Bg.oD_n hNR _).symm
    subst e1;have e0:(0:Int)=Bg.oS (Bg.RtB e c∧Bg.RtB i d) (Bg.zv e c+Bg.zv i d):=(Bg.oS_n hNR _).symm;have e2:(1:Int)=if (Bg.RtB e c∧Bg.RtB i d) then (0:Int) else 1:=(if_neg hNR).symm
    exact V.rt [2,0] [(G3 1).ss 0] [fun _=>{}] [] [2] [] (.tuple #[ag (DBig.mk 0 ⟨(Bg.oD (Bg.RtB e c∧Bg.RtB i d) (Bg.zv e c+Bg.zv i d)),(G3 1).ss 0⟩),iv 1]) (cong2 (fun (x0 x2:Int)=>(.tuple #[.agg #[iv x0,((G3 1).ss 0).v],iv x2]:Value)) e0 e2)
  have hRR:(Bg.RtB e c∧Bg.RtB i d):=by first | exact q2 | exact ⟨Decidable.not_not.1 (q2).1,Decidable.not_not.1 (q2).2⟩
  have hsm:=Bg.sml hRR.1 hRR.2;refine nm (e * i:Int) fun n1 hn1=>?_;refine V.g [.k (pp ((G1 0).b) 0),.ld 0 0 false (fun _=>[iv e]),.k (pp ((G1 1).b) 0),.ld 1 0 false (fun _=>[iv i]),.ar (e * i) n1 hn1 (by rw [hn1];exact hsm.1) (by rw [hn1];exact hsm.2),.k (bv (decide (0≤n1))),.k (bv (decide (0≤n1)))] fun _ _ G4=>?_;intro S s
  refine V.cn (b:=decide (0≤n1)) iDT iDF (fun q3=>?_) (fun q4=>?_)
  · have hss:0≤e * i:=by omega
    refine nm (Bg.orL [e,i]:Int) fun n2 hn2=>?_;refine nl (Bg.dig (Bg.nv c+Bg.nv d)) fun l2 hl2 hl2n=>?_;refine nm (Bg.sg0 (Bg.nv l2) n2:Int) fun n3 hn3=>?_;refine nl (Bg.dig (Bg.nv l2)) fun l3 hl3 hl3n=>?_;refine V.r [.k (pp ((G1 0).b) 0),.ld 0 0 false (fun _=>[iv e]),.k (pp ((G1 1).b) 0),.ld 1 0 false (fun _=>[iv i]),.nr 4 true 3 [e,i] [] (fun _ _ _ _ _=>trivial) (fun _=>#[iv e,iv i]),.cp g0 5 82 [(kf true (.g 4 0) [e,i] (fun G=>⟨atB (G 4).b,2,2⟩)).a] (fun _ G=>or_ctv [e,i] ⟨atB (G 4).b,2,2⟩ n2 hn2),.k (pp ((G1 0).b) 1),.ld 0 1 false (fun _=>[j.v]),.k (pp ((G1 1).b) 1),.ld 1 1 false (fun _=>[l.v]),.ct g0 10 83 false [] [] [(kf false (.f 0) c (fun _=>j)).a,(kf false (.f 1) d (fun _=>l)).a] (fun _ G=>add_ctv c j d l hRR.1.dg hRR.2.dg (by omega) (by omega) l2 hl2),.ctT g0 11 81 [(kf true (.g 10 0) l2 (fun G=>(G 10).ss 0)).a] (fun _ G=>signed_ctv n2 l2 ((G 10).ss 0) (by subst_vars;exact Bg.dig_Dg _) n3 hn3 l3 hl3),.ctT g0 12 80 [(kf true (.g 11 0) l3 (fun G=>(G 11).ss 0)).a] (fun _ G=>checkedT_ct n3 l3 ((G 11).ss 0)),.v fun G=>ag (DBig.mk n3 ⟨l3,(G 12).ss 0⟩),.k (iv 0),.st 2 (fun G=>.blk ((G1 2).b) (ca (DBig.mk n3 ⟨l3,(G 12).ss 0⟩)) 31),.k (iv 0)] fun _ _ G5 kw5=>?_;intro S s
    obtain ⟨⟨kl4, -⟩,⟨kl5, -⟩,⟨kl6, -⟩,⟨kl7, -⟩, -⟩:Lq [e,i] (SV.v ⟨atB (G5 4).b,2,2⟩)∧Lq l2 (((G5 10).ss 0).v)∧Lq l3 (((G5 11).ss 0).v)∧Lq l3 (((G5 12).ss 0).v)∧True:=kq kw5;clear kw5;have e1:l3=Bg.oD (Bg.RtB e c∧Bg.RtB i d) (Bg.zv e c+Bg.zv i d):=by
      rw [hl3,hl2];rw [Bg.oD_y hRR];exact Bg.addD hRR.1 hRR.2 hss
    subst e1;have e0:n3=Bg.oS (Bg.RtB e c∧Bg.RtB i d) (Bg.zv e c+Bg.zv i d):=by
      rw [hn3,hl2,hn2];rw [Bg.oS_y hRR];exact Bg.addS hRR.1 hRR.2 hss
    have e2:(0:Int)=if (Bg.RtB e c∧Bg.RtB i d) then (0:Int) else 1:=(if_pos hRR).symm
    exact V.rt [2,0] [(G5 12).ss 0] [fun _=>{}] [] [5] [] (.tuple #[ag (DBig.mk n3 ⟨(Bg.oD (Bg.RtB e c∧Bg.RtB i d) (Bg.zv e c+Bg.zv i d)),(G5 12).ss 0⟩),iv 0]) (cong2 (fun (x0 x2:Int)=>(.tuple #[.agg #[iv x0,((G5 12).ss 0).v],iv x2]:Value)) e0 e2)
  have hss:¬ 0≤e * i:=by omega
  refine nm (Bg.cmpI (Bg.nv c) (Bg.nv d):Int) fun n4 hn4=>?_;refine V.g [.k (pp ((G1 0).b) 1),.ld 0 1 false (fun _=>[j.v]),.k (pp ((G1 1).b) 1),.ld 1 1 false (fun _=>[l.v]),.cp g0 4 84 [(kf false (.f 0) c (fun _=>j)).a,(kf false (.f 1) d (fun _=>l)).a] (fun _ G=>cmpd_ctv c j d l hRR.1.dg hRR.2.dg hRR.1.nz hRR.2.nz n4 hn4),.k (bv (decide (n4 < 0))),.k (bv (decide (n4 < 0)))] fun _ _ G6=>?_;intro S s
  refine V.cn (b:=decide (n4 < 0)) iDT iDF (fun q5=>?_) (fun q6=>?_)
  · have hlt:Bg.nv c < Bg.nv d:=by have hqq:=q5;subst_vars;have:=Bg.cmp_lt.1 hqq;omega
    refine nl (Bg.dig (Bg.nv d-Bg.nv c)) fun l4 hl4 hl4n=>?_;refine nm (Bg.sg0 (Bg.nv l4) i:Int) fun n5 hn5=>?_;refine nl (Bg.dig (Bg.nv l4)) fun l5 hl5 hl5n=>?_;refine V.r [.k (pp ((G1 1).b) 0),.ld 1 0 false (fun _=>[iv i]),.k (pp ((G1 1).b) 1),.ld 1 1 false (fun _=>[l.v]),.k (pp ((G1 0).b) 1),.ld 0 1 false (fun _=>[j.v]),.ct g0 6 85 false [] [] [(kf false (.f 1) d (fun _=>l)).a,(kf false (.f 0) c (fun _=>j)).a] (fun _ G=>sub_ctv d l c j hRR.2.dg hRR.1.dg (by omega) (by omega) hRR.1.nz (by omega) l4 hl4),.ctT g0 7 81 [(kf true (.g 6 0) l4 (fun G=>(G 6).ss 0)).a] (fun _ G=>signed_ctv i l4 ((G 6).ss 0) (by subst_vars;exact Bg.dig_Dg _) n5 hn5 l5 hl5),.ctT g0 8 80 [(kf true (.g 7 0) l5 (fun G=>(G 7).ss 0)).a] (fun _ G=>checkedT_ct n5 l5 ((G 7).ss 0)),.v fun G=>ag (DBig.mk n5 ⟨l5,(G 8).ss 0⟩),.k (iv 0),.st 2 (fun G=>.blk ((G1 2).b) (ca (DBig.mk n5 ⟨l5,(G 8).ss 0⟩)) 31),.k (iv 0)] fun _ _ G7 kw7=>?_;intro S s
    obtain ⟨⟨kl8, -⟩,⟨kl9, -⟩,⟨kl10, -⟩, -⟩:Lq l4 (((G7 6).ss 0).v)∧Lq l5 (((G7 7).ss 0).v)∧Lq l5 (((G7 8).ss 0).v)∧True:=kq kw7;clear kw7;have e1:l5=Bg.oD (Bg.RtB e c∧Bg.RtB i d) (Bg.zv e c+Bg.zv i d):=by
      rw [hl5,hl4];rw [Bg.oD_y hRR];exact Bg.lessD hRR.1 hRR.2 hss hlt
    subst e1;have e0:n5=Bg.oS (Bg.RtB e c∧Bg.RtB i d) (Bg.zv e c+Bg.zv i d):=by
      rw [hn5,hl4];rw [Bg.oS_y hRR];exact Bg.lessS hRR.1 hRR.2 hss hlt
    have e2:(0:Int)=if (Bg.RtB e c∧Bg.RtB i d) then (0:Int) else 1:=(if_pos hRR).symm
    exact V.rt [2,0] [(G7 8).ss 0] [fun _=>{}] [] [4] [] (.tuple #[ag (DBig.mk n5 ⟨(Bg.oD (Bg.RtB e c∧Bg.RtB i d) (Bg.zv e c+Bg.zv i d)),(G7 8).ss 0⟩),iv 0]) (cong2 (fun (x0 x2:Int)=>(.tuple #[.agg #[iv x0,((G7 8).ss 0).v],iv x2]:Value)) e0 e2)
  have hge:Bg.nv d≤Bg.nv c:=by have hqq:=q6;subst_vars;exact Nat.not_lt.1 fun h=>hqq (Bg.cmp_lt.2 (by omega))
  refine nl (Bg.dig (Bg.nv c-Bg.nv d)) fun l6 hl6 hl6n=>?_;refine nm (Bg.sg0 (Bg.nv l6) e:Int) fun n6 hn6=>?_;refine nl (Bg.dig (Bg.nv l6)) fun l7 hl7 hl7n=>?_;refine V.r [.k (pp ((G1 0).b) 0),.ld 0 0 false (fun _=>[iv e]),.k (pp ((G1 0).b) 1),.ld 0 1 false (fun _=>[j.v]),.k (pp ((G1 1).b) 1),.ld 1 1 false (fun _=>[l.v]),.ct g0 6 85 false [] [] [(kf false (.f 0) c (fun _=>j)).a,(kf false (.f 1) d (fun _=>l)).a] (fun _ G=>sub_ctv c j d l hRR.1.dg hRR.2.dg (by omega) (by omega) hRR.2.nz (by omega) l6 hl6),.ctT g0 7 81 [(kf true (.g 6 0) l6 (fun G=>(G 6).ss 0)).a] (fun _ G=>signed_ctv e l6 ((G 6).ss 0) (by subst_vars;exact Bg.dig_Dg _) n6 hn6 l7 hl7),.ctT g0 8 80 [(kf true (.g 7 0) l7 (fun G=>(G 7).ss 0)).a] (fun _ G=>checkedT_ct n6 l7 ((G 7).ss 0)),.v fun G=>ag (DBig.mk n6 ⟨l7,(G 8).ss 0⟩),.k (iv 0),.st 2 (fun G=>.blk ((G1 2).b) (ca (DBig.mk n6 ⟨l7,(G 8).ss 0⟩)) 31),.k (iv 0)] fun _ _ G8 kw8=>?_;intro S s
  obtain ⟨⟨kl11, -⟩,⟨kl12, -⟩,⟨kl13, -⟩, -⟩:Lq l6 (((G8 6).ss 0).v)∧Lq l7 (((G8 7).ss 0).v)∧Lq l7 (((G8 8).ss 0).v)∧True:=kq kw8;clear kw8;have e1:l7=Bg.oD (Bg.RtB e c∧Bg.RtB i d) (Bg.zv e c+Bg.zv i d):=by
    rw [hl7,hl6];rw [Bg.oD_y hRR];exact Bg.moreD hRR.1 hRR.2 hss hge
  subst e1;have e0:n6=Bg.oS (Bg.RtB e c∧Bg.RtB i d) (Bg.zv e c+Bg.zv i d):=by
    rw [hn6,hl6];rw [Bg.oS_y hRR];exact Bg.moreS hRR.1 hRR.2 hss hge
  have e2:(0:Int)=if (Bg.RtB e c∧Bg.RtB i d) then (0:Int) else 1:=(if_pos hRR).symm
  exact V.rt [2,0] [(G8 8).ss 0] [fun _=>{}] [] [4] [] (.tuple #[ag (DBig.mk n6 ⟨(Bg.oD (Bg.RtB e c∧Bg.RtB i d) (Bg.zv e c+Bg.zv i d)),(G8 8).ss 0⟩),iv 0]) (cong2 (fun (x0 x2:Int)=>(.tuple #[.agg #[iv x0,((G8 8).ss 0).v],iv x2]:Value)) e0 e2)
theorem Add_ctv (c:Int) (a:List Int) (e:SV) (d:Int) (b:List Int) (f:SV) (hla:a.length≤274877906944) (hlb:b.length≤274877906944) (rv0:Int) (erv0:rv0=Bg.oS (Bg.RtB c a∧Bg.RtB d b) (Bg.zv c a+Bg.zv d b)) (rv1:List Int) (erv1:rv1=Bg.oD (Bg.RtB c a∧Bg.RtB d b) (Bg.zv c a+Bg.zv d b)) (rv2:Int) (erv2:rv2=if (Bg.RtB c a∧Bg.RtB d b) then (0:Int) else 1) :
    Ct Try.prog 42 #[ag (DBig.mk c ⟨a,e⟩),ag (DBig.mk d ⟨b,f⟩)] [fs true a e,fs true b f] [] (fun g=>.tuple #[ag (DBig.mk rv0 ⟨rv1,(g.ss 0)⟩),iv rv2]) (fun g=>[fs true rv1 (g.ss 0)]) (fun g=>[]) (fun g=>[]):=by
  subst erv0 erv1 erv2;exact Add_ct c a e d b f hla hlb
set_option maxRecDepth 10000 in
theorem Mul_ct (e:Int) (c:List Int) (j:SV) (i:Int) (d:List Int) (l:SV) (hla:c.length≤274877906944) (hlb:d.length≤274877906944) :
    Ct Try.prog 78 #[ag (DBig.mk e ⟨c,j⟩),ag (DBig.mk i ⟨d,l⟩)] [fs true c j,fs true d l] [] (fun g=>.tuple #[ag (DBig.mk (Bg.oS (Bg.RtB e c∧Bg.RtB i d) (Bg.zv e c * Bg.zv i d)) ⟨Bg.oD (Bg.RtB e c∧Bg.RtB i d) (Bg.zv e c * Bg.zv i d),(g.ss 0)⟩),iv (if (Bg.RtB e c∧Bg.RtB i d) then (0:Int) else 1)]) (fun g=>[fs true (Bg.oD (Bg.RtB e c∧Bg.RtB i d) (Bg.zv e c * Bg.zv i d)) (g.ss 0)]) (fun g=>[]) (fun g=>[]):=by
  refine V.fn mo Try.func78 32 3 (by kernel_rfl) fun w H ε k0=>?_;obtain ⟨⟨kl1, -⟩,⟨kl2, -⟩, -⟩:Lq c j.v∧Lq d l.v∧True:=kq k0
  clear k0;refine V.g [.nb 0 0 (fun b=>pp b 0) 31 (fun _=>ca (DBig.mk e ⟨c,j⟩)),.nb 1 1 (fun b=>pp b 0) 31 (fun _=>ca (DBig.mk i ⟨d,l⟩)),.nb 2 2 (fun b=>pp b 0) 31 (fun _=>ca (DBig.mk 0 ⟨[],{}⟩)),.k (iv 0)] fun _ _ G1=>?_;intro S s
  refine nm ((!(decide (Bg.RtB e c))) || (!(decide (Bg.RtB i d))):Bool) fun p1 hp1=>?_;refine V.g [.ld 0 0 true (fun _=>Dat.cells (DBig.mk e ⟨c,j⟩)),.cp g0 1 51 [(kf false (.f 0) c (fun _=>j)).a] (fun _ G=>bright_ct e c j),.k (bv (!(decide (Bg.RtB e c)))),.k (bv (!(decide (Bg.RtB e c)))),.ld 1 0 true (fun _=>Dat.cells (DBig.mk i ⟨d,l⟩)),.cp (gF (b:=!(decide (Bg.RtB e c))) (iNF iDT)) 5 51 [(kf false (.f 1) d (fun _=>l)).a] (fun hg G=>bright_ct i d l),.k (bv (!(decide (Bg.RtB i d)))),.orn g0 false (!(decide (Bg.RtB e c))) (!(decide (Bg.RtB i d))) p1 hp1] fun _ _ G2=>?_;intro S s
  refine V.cn (b:=p1) (iN hp1 (iOT (iNT iDF) (iNT iDF))) (iN hp1 (iOF (iNF iDT) (iNF iDT))) (fun q1=>?_) (fun q2=>?_)
  · have hNR:¬ (Bg.RtB e c∧Bg.RtB i d):=by rintro ⟨h1,h2⟩;rcases q1 with h | h;exact h h1;exact h h2
    refine nl (([]:List Int)) fun l1 hl1 hl1n=>?_;refine V.r [.k (ag (DBig.mk 0 ⟨[],{}⟩)),.ctT g0 1 80 [(knil (α:=Int)).a] (fun _ G=>checkedF_ctv (0:Int) ([]:List Int) ({}) l1 hl1),.v fun G=>ag (DBig.mk 0 ⟨l1,(G 1).ss 0⟩),.k (iv 1),.st 2 (fun G=>.blk ((G1 2).b) (ca (DBig.mk 0 ⟨l1,(G 1).ss 0⟩)) 31),.k (iv 1)] fun _ _ G3 kw3=>?_;intro S s
    obtain ⟨⟨kl3, -⟩, -⟩:Lq l1 (((G3 1).ss 0).v)∧True:=kq kw3;clear kw3;have e1:l1=Bg.oD (Bg.RtB e c∧Bg.RtB i d) (Bg.zv e c * Bg.zv i d):=by
      rw [hl1];exact (Bg.oD_n hNR _).symm
    subst e1;have e0:(0:Int)=Bg.oS (Bg.RtB e c∧Bg.RtB i d) (Bg.zv e c * Bg.zv i d):=(Bg.oS_n hNR _).symm;have e2:(1:Int)=if (Bg.RtB e c∧Bg.RtB i d) then (0:Int) else 1:=(if_neg hNR).symm
    exact V.rt [2,0] [(G3 1).ss 0] [fun _=>{}] [] [2] [] (.tuple #[ag (DBig.mk 0 ⟨(Bg.oD (Bg.RtB e c∧Bg.RtB i d) (Bg.zv e c * Bg.zv i d)),(G3 1).ss 0⟩),iv 1]) (cong2 (fun (x0 x2:Int)=>(.tuple #[.agg #[iv x0,((G3 1).ss 0).v],iv x2]:Value)) e0 e2)
  have hRR:(Bg.RtB e c∧Bg.RtB i d):=by first | exact q2 | exact ⟨Decidable.not_not.1 (q2).1,Decidable.not_not.1 (q2).2⟩
  have hsm:=Bg.sml hRR.1 hRR.2;refine nm (e * i:Int) fun n1 hn1=>?_;refine nl (Bg.dig (Bg.nv c * Bg.nv d)) fun l2 hl2 hl2n=>?_;refine nm (Bg.sg0 (Bg.nv l2) n1:Int) fun n2 hn2=>?_;refine nl (Bg.dig (Bg.nv l2)) fun l3 hl3 hl3n=>?_;refine V.r [.k (pp ((G1 0).b) 0),.ld 0 0 false (fun _=>[iv e]),.k (pp ((G1 1).b) 0),.ld 1 0 false (fun _=>[iv i]),.ar (e * i) n1 hn1 (by rw [hn1];exact hsm.1) (by rw [hn1];exact hsm.2),.k (pp ((G1 0).b) 1),.ld 0 1 false (fun _=>[j.v]),.k (pp ((G1 1).b) 1),.ld 1 1 false (fun _=>[l.v]),.ct g0 9 99 false [] [] [(kf false (.f 0) c (fun _=>j)).a,(kf false (.f 1) d (fun _=>l)).a] (fun _ G=>mul_ctv c j d l hRR.1.dg hRR.2.dg (by omega) (by omega) l2 hl2),.ctT g0 10 81 [(kf true (.g 9 0) l2 (fun G=>(G 9).ss 0)).a] (fun _ G=>signed_ctv n1 l2 ((G 9).ss 0) (by subst_vars;exact Bg.dig_Dg _) n2 hn2 l3 hl3),.ctT g0 11 80 [(kf true (.g 10 0) l3 (fun G=>(G 10).ss 0)).a] (fun _ G=>checkedT_ct n2 l3 ((G 10).ss 0)),.v fun G=>ag (DBig.mk n2 ⟨l3,(G 11).ss 0⟩),.k (iv 0),.st 2 (fun G=>.blk ((G1 2).b) (ca (DBig.mk n2 ⟨l3,(G 11).ss 0⟩)) 31),.k (iv 0)] fun _ _ G4 kw4=>?_;intro S s
  obtain ⟨⟨kl4, -⟩,⟨kl5, -⟩,⟨kl6, -⟩, -⟩:Lq l2 (((G4 9).ss 0).v)∧Lq l3 (((G4 10).ss 0).v)∧Lq l3 (((G4 11).ss 0).v)∧True:=kq kw4;clear kw4;have e1:l3=Bg.oD (Bg.RtB e c∧Bg.RtB i d) (Bg.zv e c * Bg.zv i d):=by
    rw [hl3,hl2];rw [Bg.oD_y hRR];exact Bg.mulD hRR.1 hRR.2
  subst e1;have e0:n2=Bg.oS (Bg.RtB e c∧Bg.RtB i d) (Bg.zv e c * Bg.zv i d):=by
    rw [hn2,hl2,hn1];rw [Bg.oS_y hRR];exact Bg.mulS hRR.1 hRR.2
  have e2:(0:Int)=if (Bg.RtB e c∧Bg.RtB i d) then (0:Int) else 1:=(if_pos hRR).symm
  exact V.rt [2,0] [(G4 11).ss 0] [fun _=>{}] [] [4] [] (.tuple #[ag (DBig.mk n2 ⟨(Bg.oD (Bg.RtB e c∧Bg.RtB i d) (Bg.zv e c * Bg.zv i d)),(G4 11).ss 0⟩),iv 0]) (cong2 (fun (x0 x2:Int)=>(.tuple #[.agg #[iv x0,((G4 11).ss 0).v],iv x2]:Value)) e0 e2)
theorem Mul_ctv (c:Int) (a:List Int) (e:SV) (d:Int) (b:List Int) (f:SV) (hla:a.length≤274877906944) (hlb:b.length≤274877906944) (rv0:Int) (erv0:rv0=Bg.oS (Bg.RtB c a∧Bg.RtB d b) (Bg.zv c a * Bg.zv d b)) (rv1:List Int) (erv1:rv1=Bg.oD (Bg.RtB c a∧Bg.RtB d b) (Bg.zv c a * Bg.zv d b)) (rv2:Int) (erv2:rv2=if (Bg.RtB c a∧Bg.RtB d b) then (0:Int) else 1) :
    Ct Try.prog 78 #[ag (DBig.mk c ⟨a,e⟩),ag (DBig.mk d ⟨b,f⟩)] [fs true a e,fs true b f] [] (fun g=>.tuple #[ag (DBig.mk rv0 ⟨rv1,(g.ss 0)⟩),iv rv2]) (fun g=>[fs true rv1 (g.ss 0)]) (fun g=>[]) (fun g=>[]):=by
  subst erv0 erv1 erv2;exact Mul_ct c a e d b f hla hlb

open Go Go.Proofs
set_option maxRecDepth 10000 in
theorem Gcd_ct (i:Int) (c:List Int) (l:SV) (j:Int) (d:List Int) (m:SV) (hla:c.length≤274877906944) (hlb:d.length≤274877906944) :
    Ct Try.prog 52 #[ag (DBig.mk i ⟨c,l⟩),ag (DBig.mk j ⟨d,m⟩)] [fs true c l,fs true d m] [] (fun g=>.tuple #[ag (DBig.mk (Bg.oS (Bg.RtB i c∧Bg.RtB j d) ((Nat.gcd (Bg.nv c) (Bg.nv d):Int))) ⟨Bg.oD (Bg.RtB i c∧Bg.RtB j d) ((Nat.gcd (Bg.nv c) (Bg.nv d):Int)),(g.ss 0)⟩),iv (if (Bg.RtB i c∧Bg.RtB j d) then (0:Int) else 1)]) (fun g=>[fs true (Bg.oD (Bg.RtB i c∧Bg.RtB j d) ((Nat.gcd (Bg.nv c) (Bg.nv d):Int))) (g.ss 0)]) (fun g=>[]) (fun g=>[]):=by
  refine V.fn mo Try.func52 44 3 (by kernel_rfl) fun w H ε k0=>?_;obtain ⟨⟨kl1, -⟩,⟨kl2, -⟩, -⟩:Lq c l.v∧Lq d m.v∧True:=kq k0
  clear k0;refine V.g [.nb 0 0 (fun b=>pp b 0) 31 (fun _=>ca (DBig.mk i ⟨c,l⟩)),.nb 1 1 (fun b=>pp b 0) 31 (fun _=>ca (DBig.mk j ⟨d,m⟩)),.nb 2 2 (fun b=>pp b 0) 31 (fun _=>ca (DBig.mk 0 ⟨[],{}⟩)),.k (iv 0)] fun _ _ G1=>?_;intro S s
  refine nm ((!(decide (Bg.RtB i c))) || (!(decide (Bg.RtB j d))):Bool) fun p1 hp1=>?_;refine V.g [.ld 0 0 true (fun _=>Dat.cells (DBig.mk i ⟨c,l⟩)),.cp g0 1 51 [(kf false (.f 0) c (fun _=>l)).a] (fun _ G=>bright_ct i c l),.k (bv (!(decide (Bg.RtB i c)))),.k (bv (!(decide (Bg.RtB i c)))),.ld 1 0 true (fun _=>Dat.cells (DBig.mk j ⟨d,m⟩)),.cp (gF (b:=!(decide (Bg.RtB i c))) (iNF iDT)) 5 51 [(kf false (.f 1) d (fun _=>m)).a] (fun hg G=>bright_ct j d m),.k (bv (!(decide (Bg.RtB j d)))),.orn g0 false (!(decide (Bg.RtB i c))) (!(decide (Bg.RtB j d))) p1 hp1] fun _ _ G2=>?_;intro S s
  refine V.cn (b:=p1) (iN hp1 (iOT (iNT iDF) (iNT iDF))) (iN hp1 (iOF (iNF iDT) (iNF iDT))) (fun q1=>?_) (fun q2=>?_)
  · have hNR:¬ (Bg.RtB i c∧Bg.RtB j d):=by rintro ⟨h1,h2⟩;rcases q1 with h | h;exact h h1;exact h h2
    refine nl (([]:List Int)) fun l1 hl1 hl1n=>?_;refine V.r [.k (ag (DBig.mk 0 ⟨[],{}⟩)),.ctT g0 1 80 [(knil (α:=Int)).a] (fun _ G=>checkedF_ctv (0:Int) ([]:List Int) ({}) l1 hl1),.v fun G=>ag (DBig.mk 0 ⟨l1,(G 1).ss 0⟩),.k (iv 1),.st 2 (fun G=>.blk ((G1 2).b) (ca (DBig.mk 0 ⟨l1,(G 1).ss 0⟩)) 31),.k (iv 1)] fun _ _ G3 kw3=>?_;intro S s
    obtain ⟨⟨kl3, -⟩, -⟩:Lq l1 (((G3 1).ss 0).v)∧True:=kq kw3;clear kw3;have e1:l1=Bg.oD (Bg.RtB i c∧Bg.RtB j d) ((Nat.gcd (Bg.nv c) (Bg.nv d):Int)):=by
      rw [hl1];exact (Bg.oD_n hNR _).symm
    subst e1;have e0:(0:Int)=Bg.oS (Bg.RtB i c∧Bg.RtB j d) ((Nat.gcd (Bg.nv c) (Bg.nv d):Int)):=(Bg.oS_n hNR _).symm;have e2:(1:Int)=if (Bg.RtB i c∧Bg.RtB j d) then (0:Int) else 1:=(if_neg hNR).symm
    exact V.rt [2,0] [(G3 1).ss 0] [fun _=>{}] [] [2] [] (.tuple #[ag (DBig.mk 0 ⟨(Bg.oD (Bg.RtB i c∧Bg.RtB j d) ((Nat.gcd (Bg.nv c) (Bg.nv d):Int))),(G3 1).ss 0⟩),iv 1]) (cong2 (fun (x0 x2:Int)=>(.tuple #[.agg #[iv x0,((G3 1).ss 0).v],iv x2]:Value)) e0 e2)
  have hRR:(Bg.RtB i c∧Bg.RtB j d):=by first | exact q2 | exact ⟨Decidable.not_not.1 (q2).1,Decidable.not_not.1 (q2).2⟩
  have hsm:=Bg.sml hRR.1 hRR.2;refine V.r [.k (pp ((G1 0).b) 1),.ld 0 1 false (fun _=>[l.v]),.ct g0 2 63 false [] [] [(kf false (.f 0) c (fun _=>l)).a] (fun _ G=>clonef_ct c l (by omega)),.k (pp ((G1 1).b) 1),.ld 1 1 false (fun _=>[m.v]),.v fun G=>((G 2).ss 0).v,.k (m.v)] fun _ _ G4 kw4=>?_;intro S s
  obtain ⟨⟨kl4, -⟩, -⟩:Lq c (((G4 2).ss 0).v)∧True:=kq kw4;clear kw4;refine V.loop (γ:=List Int × SV × List Int × SV) (fun ⟨x,xs,y,ys⟩=>⟨[(4,pp ((G1 2).b) 0),(6,xs.v),(7,ys.v)],[fs false x xs,fs false y ys,fs false c l,fs false d m],[.blk ((G1 0).b) (ca (DBig.mk i ⟨c,l⟩)) 31,.blk ((G1 1).b) (ca (DBig.mk j ⟨d,m⟩)) 31,.blk ((G1 2).b) (ca (DBig.mk 0 ⟨[],{}⟩)) 31]⟩) (fun ⟨x,xs,y,ys⟩=>(Bg.Dg x)∧(Bg.Nz x)∧(Bg.Dg y)∧(Bg.Nz y)∧(Nat.gcd (Bg.nv x) (Bg.nv y)=Nat.gcd (Bg.nv c) (Bg.nv d))∧(x.length≤274877906944)∧(y.length≤274877906944)) (fun ⟨x,xs,y,ys⟩=>Bg.nv y) (c,(G4 2).ss 0,d,m) (by kernel_rfl) [2,1,0,1] (by kernel_rfl) ?_ ?_
  · refine ⟨?_,?_,?_,?_,?_,?_,?_⟩
    · show Bg.Dg c;exact hRR.1.dg
    · show Bg.Nz c;exact hRR.1.nz
    · show Bg.Dg d;exact hRR.2.dg
    · show Bg.Nz d;exact hRR.2.nz
    · show Nat.gcd (Bg.nv c) (Bg.nv d)=Nat.gcd (Bg.nv c) (Bg.nv d);rfl
    · show c.length≤274877906944;omega
    show d.length≤274877906944;omega
  rintro ⟨x,xs,y,ys⟩ hF1 kw5 Z1 hZ1;have hF1:(Bg.Dg x)∧(Bg.Nz x)∧(Bg.Dg y)∧(Bg.Nz y)∧(Nat.gcd (Bg.nv x) (Bg.nv y)=Nat.gcd (Bg.nv c) (Bg.nv d))∧(x.length≤274877906944)∧(y.length≤274877906944):=hF1;obtain ⟨hf1,hf2,hf3,hf4,hf5,hf6,hf7⟩:=hF1;obtain ⟨⟨kl5, -⟩,⟨kl6, -⟩, -, -, -⟩:Lq x xs.v∧Lq y ys.v∧Lq c l.v∧Lq d m.v∧True:=kq kw5;clear kw5;refine V.g [.k (ys.v),.ln (kf false (.f 1) y (fun _=>ys)),.k (bv (decide (0 < (y.length:Int))))] fun _ _ G5=>?_;intro S s;refine V.cn (b:=decide (0 < (y.length:Int))) iDT iDF (fun q3=>?_) (fun q4=>?_)
  · have hyn:y≠[]:=fun e=>by have:=congrArg List.length e;simp only [List.length_nil] at this;omega
    have hyp:=Bg.nv_ne hf3 hf4 hyn;have hmd:=Nat.mod_lt (Bg.nv x) (Nat.pos_of_ne_zero hyp);refine nl (Bg.dig (Bg.nv x / Bg.nv y)) fun l2 hl2 hl2n=>?_;refine nl (Bg.dig (Bg.nv x % Bg.nv y)) fun l3 hl3 hl3n=>?_;refine V.r [.k (xs.v),.k (ys.v),.ct g0 2 88 false [] [] [(kf false (.f 0) x (fun _=>xs)).a,(kf false (.f 1) y (fun _=>ys)).a] (fun _ G=>div_ctv x xs y ys hf1 hf3 hf2 hf4 hyn (by omega) (by omega) l2 hl2 l3 hl3),.v fun G=>.tuple #[((G 2).ss 0).v,((G 2).ss 1).v],.v fun G=>((G 2).ss 0).v,.v fun G=>((G 2).ss 1).v,.v fun G=>((G 2).ss 0).v,.v fun G=>((G 2).ss 1).v] fun _ _ G6 kw7=>?_;intro S s
    obtain ⟨⟨kl7, -⟩,⟨kl8, -⟩, -⟩:Lq l2 (((G6 2).ss 0).v)∧Lq l3 (((G6 2).ss 1).v)∧True:=kq kw7;clear kw7;refine V.g [.k (ys.v),.k (((G6 2).ss 1).v),.k (ys.v),.k (((G6 2).ss 1).v)] fun _ _ G7=>?_;intro S s;refine V.rnd hZ1 (y,ys,l3,(G6 2).ss 1) [1,5,2,3] (by kernel_rfl) ?_ ?_
    · refine ⟨?_,?_,?_,?_,?_,?_,?_⟩
      · show Bg.Dg y;exact hf3
      · show Bg.Nz y;exact hf4
      · show Bg.Dg l3;rw [hl3];exact Bg.dig_Dg _
      · show Bg.Nz l3;rw [hl3];exact Bg.dig_Nz _
      · show Nat.gcd (Bg.nv y) (Bg.nv l3)=Nat.gcd (Bg.nv c) (Bg.nv d);rw [hl3];rw [Bg.nv_dig];exact Bg.gcd_step hf5
      · show y.length≤274877906944;omega
      show l3.length≤274877906944;rw [hl3];exact Nat.le_trans (Bg.dig_len_mono' (Nat.le_of_lt hmd)) (Nat.le_trans (Bg.dig_le hf3) hf7)
    show Bg.nv l3 < Bg.nv y;rw [hl3];rw [Bg.nv_dig];exact hmd
  have hxd:=hf1;have hgx:=hf5;have hy0:y=[]:=List.eq_nil_of_length_eq_zero (by omega);rw [hy0,show Bg.nv []=0 from rfl,Nat.gcd_zero_right] at hgx;have hgS:=Bg.gcdS (Nat.gcd (Bg.nv c) (Bg.nv d));have hgD:=Bg.gcdD (Nat.gcd (Bg.nv c) (Bg.nv d));rw [←hgx,Bg.nv_dig] at hgS hgD;refine nm (Bg.sg0 (Bg.nv x) (1:Int):Int) fun n1 hn1=>?_;refine nl (Bg.dig (Bg.nv x)) fun l4 hl4 hl4n=>?_;refine V.r [.k (xs.v),.ct g0 1 63 false [] [] [(kf false (.f 0) x (fun _=>xs)).a] (fun _ G=>clonef_ct x xs (by omega)),.ctT g0 2 81 [(kf true (.g 1 0) x (fun G=>(G 1).ss 0)).a] (fun _ G=>signed_ctv (1:Int) x ((G 1).ss 0) (by first | assumption | exact hxd) n1 hn1 l4 hl4),.ctT g0 3 80 [(kf true (.g 2 0) l4 (fun G=>(G 2).ss 0)).a] (fun _ G=>checkedT_ct n1 l4 ((G 2).ss 0)),.v fun G=>ag (DBig.mk n1 ⟨l4,(G 3).ss 0⟩),.k (iv 0),.st 2 (fun G=>.blk ((G1 2).b) (ca (DBig.mk n1 ⟨l4,(G 3).ss 0⟩)) 31),.k (iv 0)] fun _ _ G8 kw9=>?_;intro S s
  obtain ⟨⟨kl9, -⟩,⟨kl10, -⟩,⟨kl11, -⟩, -⟩:Lq x (((G8 1).ss 0).v)∧Lq l4 (((G8 2).ss 0).v)∧Lq l4 (((G8 3).ss 0).v)∧True:=kq kw9;clear kw9;have e1:l4=Bg.oD (Bg.RtB i c∧Bg.RtB j d) ((Nat.gcd (Bg.nv c) (Bg.nv d):Int)):=by
    rw [hl4];rw [Bg.oD_y hRR];rw [←hgx];exact hgD
  subst e1;have e0:n1=Bg.oS (Bg.RtB i c∧Bg.RtB j d) ((Nat.gcd (Bg.nv c) (Bg.nv d):Int)):=by
    rw [hn1];rw [Bg.oS_y hRR];rw [←hgx];exact hgS
  have e2:(0:Int)=if (Bg.RtB i c∧Bg.RtB j d) then (0:Int) else 1:=(if_pos hRR).symm
  exact V.rt [2,0] [(G8 3).ss 0] [fun _=>{}] [] [6] [] (.tuple #[ag (DBig.mk n1 ⟨(Bg.oD (Bg.RtB i c∧Bg.RtB j d) ((Nat.gcd (Bg.nv c) (Bg.nv d):Int))),(G8 3).ss 0⟩),iv 0]) (cong2 (fun (x0 x2:Int)=>(.tuple #[.agg #[iv x0,((G8 3).ss 0).v],iv x2]:Value)) e0 e2)
theorem Gcd_ctv (c:Int) (a:List Int) (e:SV) (d:Int) (b:List Int) (f:SV) (hla:a.length≤274877906944) (hlb:b.length≤274877906944) (rv0:Int) (erv0:rv0=Bg.oS (Bg.RtB c a∧Bg.RtB d b) ((Nat.gcd (Bg.nv a) (Bg.nv b):Int))) (rv1:List Int) (erv1:rv1=Bg.oD (Bg.RtB c a∧Bg.RtB d b) ((Nat.gcd (Bg.nv a) (Bg.nv b):Int))) (rv2:Int) (erv2:rv2=if (Bg.RtB c a∧Bg.RtB d b) then (0:Int) else 1) :
    Ct Try.prog 52 #[ag (DBig.mk c ⟨a,e⟩),ag (DBig.mk d ⟨b,f⟩)] [fs true a e,fs true b f] [] (fun g=>.tuple #[ag (DBig.mk rv0 ⟨rv1,(g.ss 0)⟩),iv rv2]) (fun g=>[fs true rv1 (g.ss 0)]) (fun g=>[]) (fun g=>[]):=by
  subst erv0 erv1 erv2;exact Gcd_ct c a e d b f hla hlb

namespace Bg
section
variable {s t : Int} {l m : List Int}
theorem dqS (h:RtB s l) (k:RtB t m) (ht:nv m≠0) (hs:s * t < 0) (h0:nv l % nv m≠0):(if nv (dig (nv (dig (nv l / nv m))+nv [1]))=0 then 0 else -1)=sgn (flo (zv s l) (zv t m)):=by
  rw [nv_dig,nv_dig,nv_one,if_neg (show ¬ (nv l / nv m+(1:Int).toNat=0) from Nat.succ_ne_zero _)];exact (div_diff h k ht hs h0).2.2.1
theorem dqD (h:RtB s l) (k:RtB t m) (ht:nv m≠0) (hs:s * t < 0) (h0:nv l % nv m≠0):dig (nv (dig (nv (dig (nv l / nv m))+nv [1])))=dig (flo (zv s l) (zv t m)).natAbs:=by
  rw [nv_dig,nv_dig,nv_one,(div_diff h k ht hs h0).1];rfl
theorem drS (h:RtB s l) (k:RtB t m) (ht:nv m≠0) (hs:s * t < 0) (h0:nv l % nv m≠0):(if nv (dig (nv m - nv (dig (nv l % nv m))))=0 then 0 else t)=sgn (fmo (zv s l) (zv t m)):=by
  have:=Nat.mod_lt (nv l) (Nat.pos_of_ne_zero ht)
  rw [nv_dig,nv_dig,if_neg (by omega)];exact (div_diff h k ht hs h0).2.2.2
theorem drD (h:RtB s l) (k:RtB t m) (ht:nv m≠0) (hs:s * t < 0) (h0:nv l % nv m≠0):dig (nv (dig (nv m - nv (dig (nv l % nv m)))))=dig (fmo (zv s l) (zv t m)).natAbs:=by
  rw [nv_dig,nv_dig,(div_diff h k ht hs h0).2.1]
end
end Bg

open Go Go.Proofs
set_option maxRecDepth 10000 in
theorem Div_ct (j:Int) (i:List Int) (m:SV) (c:Int) (d:List Int) (l:SV) (hla:i.length≤274877906944) (hlb:d.length≤274877906944) :
    Ct Try.prog 77 #[ag (DBig.mk j ⟨i,m⟩),ag (DBig.mk c ⟨d,l⟩)] [fs true i m,fs true d l] [] (fun g=>.tuple #[ag (DBig.mk (Bg.oS ((Bg.RtB j i∧Bg.RtB c d)∧c≠0) (Bg.flo (Bg.zv j i) (Bg.zv c d))) ⟨Bg.oD ((Bg.RtB j i∧Bg.RtB c d)∧c≠0) (Bg.flo (Bg.zv j i) (Bg.zv c d)),(g.ss 0)⟩),ag (DBig.mk (Bg.oS ((Bg.RtB j i∧Bg.RtB c d)∧c≠0) (Bg.fmo (Bg.zv j i) (Bg.zv c d))) ⟨Bg.oD ((Bg.RtB j i∧Bg.RtB c d)∧c≠0) (Bg.fmo (Bg.zv j i) (Bg.zv c d)),(g.ss 1)⟩),iv (if ¬ (Bg.RtB j i∧Bg.RtB c d) then (1:Int) else if c=0 then 15 else 0)]) (fun g=>[fs true (Bg.oD ((Bg.RtB j i∧Bg.RtB c d)∧c≠0) (Bg.flo (Bg.zv j i) (Bg.zv c d))) (g.ss 0),fs true (Bg.oD ((Bg.RtB j i∧Bg.RtB c d)∧c≠0) (Bg.fmo (Bg.zv j i) (Bg.zv c d))) (g.ss 1)]) (fun g=>[]) (fun g=>[]):=by
  refine V.fn mo Try.func77 67 4 (by kernel_rfl) fun w H ε k0=>?_;obtain ⟨⟨kl1, -⟩,⟨kl2, -⟩, -⟩:Lq i m.v∧Lq d l.v∧True:=kq k0
  clear k0;refine V.g [.nb 0 0 (fun b=>pp b 0) 31 (fun _=>ca (DBig.mk j ⟨i,m⟩)),.nb 1 1 (fun b=>pp b 0) 31 (fun _=>ca (DBig.mk c ⟨d,l⟩)),.nb 2 2 (fun b=>pp b 0) 31 (fun _=>ca (DBig.mk 0 ⟨[],{}⟩)),.nb 3 3 (fun b=>pp b 0) 31 (fun _=>ca (DBig.mk 0 ⟨[],{}⟩)),.k (iv 0)] fun _ _ G1=>?_;intro S s
  refine nm ((!(decide (Bg.RtB j i))) || (!(decide (Bg.RtB c d))):Bool) fun p1 hp1=>?_;refine V.g [.ld 0 0 true (fun _=>Dat.cells (DBig.mk j ⟨i,m⟩)),.cp g0 1 51 [(kf false (.f 0) i (fun _=>m)).a] (fun _ G=>bright_ct j i m),.k (bv (!(decide (Bg.RtB j i)))),.k (bv (!(decide (Bg.RtB j i)))),.ld 1 0 true (fun _=>Dat.cells (DBig.mk c ⟨d,l⟩)),.cp (gF (b:=!(decide (Bg.RtB j i))) (iNF iDT)) 5 51 [(kf false (.f 1) d (fun _=>l)).a] (fun hg G=>bright_ct c d l),.k (bv (!(decide (Bg.RtB c d)))),.orn g0 false (!(decide (Bg.RtB j i))) (!(decide (Bg.RtB c d))) p1 hp1,.k (bv p1)] fun _ _ G2=>?_;intro S s
  refine V.cn (b:=p1) (iN hp1 (iOT (iNT iDF) (iNT iDF))) (iN hp1 (iOF (iNF iDT) (iNF iDT))) (fun q1=>?_) (fun q2=>?_)
  · have hNR:¬ (Bg.RtB j i∧Bg.RtB c d):=by rintro ⟨h1,h2⟩;rcases q1 with h | h;exact h h1;exact h h2
    refine V.g [.k (ag (DBig.mk 0 ⟨[],{}⟩)),.k (ag (DBig.mk 0 ⟨[],{}⟩)),.st 2 (fun _=>.blk ((G1 2).b) (ca (DBig.mk 0 ⟨[],{}⟩)) 31),.st 3 (fun _=>.blk ((G1 3).b) (ca (DBig.mk 0 ⟨[],{}⟩)) 31),.k (iv 1)] fun _ _ G3=>?_;intro S s
    refine V.nilF (α:=Int) ?_;refine V.nilF (α:=Int) ?_;have e1:([]:List Int)=Bg.oD ((Bg.RtB j i∧Bg.RtB c d)∧c≠0) (Bg.flo (Bg.zv j i) (Bg.zv c d)):=(Bg.oD_n (fun h=>hNR h.1) _).symm;rw [←e1];have e3:([]:List Int)=Bg.oD ((Bg.RtB j i∧Bg.RtB c d)∧c≠0) (Bg.fmo (Bg.zv j i) (Bg.zv c d)):=(Bg.oD_n (fun h=>hNR h.1) _).symm;rw [←e3];have e0:(0:Int)=Bg.oS ((Bg.RtB j i∧Bg.RtB c d)∧c≠0) (Bg.flo (Bg.zv j i) (Bg.zv c d)):=(Bg.oS_n (fun h=>hNR h.1) _).symm;have e2:(0:Int)=Bg.oS ((Bg.RtB j i∧Bg.RtB c d)∧c≠0) (Bg.fmo (Bg.zv j i) (Bg.zv c d)):=(Bg.oS_n (fun h=>hNR h.1) _).symm;have e4:(1:Int)=if ¬ (Bg.RtB j i∧Bg.RtB c d) then (1:Int) else if c=0 then 15 else 0:=(if_pos hNR).symm
    exact V.rt [2,3,0] [{},{}] [fun _=>{},fun _=>{}] [] [2,3] [] (.tuple #[ag (DBig.mk 0 ⟨([]:List Int),{}⟩),ag (DBig.mk 0 ⟨([]:List Int),{}⟩),iv 1]) (cong3 (fun (x0 x2 x4:Int)=>(.tuple #[.agg #[iv x0,SV.v ({})],.agg #[iv x2,SV.v ({})],iv x4]:Value)) e0 e2 e4)
  have hRR:(Bg.RtB j i∧Bg.RtB c d):=by first | exact q2 | exact ⟨Decidable.not_not.1 (q2).1,Decidable.not_not.1 (q2).2⟩
  have hsm:=Bg.sml hRR.1 hRR.2;refine V.g [.k (pp ((G1 1).b) 0),.ld 1 0 false (fun _=>[iv c]),.k (bv (decide (c=0))),.k (bv (decide (c=0)))] fun _ _ G4=>?_;intro S s
  refine V.cn (b:=decide (c=0)) iDT iDF (fun q3=>?_) (fun q4=>?_)
  · have hz0:c=0:=q3;refine V.g [.k (ag (DBig.mk 0 ⟨[],{}⟩)),.k (ag (DBig.mk 0 ⟨[],{}⟩)),.st 2 (fun _=>.blk ((G1 2).b) (ca (DBig.mk 0 ⟨[],{}⟩)) 31),.st 3 (fun _=>.blk ((G1 3).b) (ca (DBig.mk 0 ⟨[],{}⟩)) 31),.k (iv 15)] fun _ _ G5=>?_;intro S s
    refine V.nilF (α:=Int) ?_;refine V.nilF (α:=Int) ?_;have e1:([]:List Int)=Bg.oD ((Bg.RtB j i∧Bg.RtB c d)∧c≠0) (Bg.flo (Bg.zv j i) (Bg.zv c d)):=(Bg.oD_n (fun h=>h.2 hz0) _).symm;rw [←e1];have e3:([]:List Int)=Bg.oD ((Bg.RtB j i∧Bg.RtB c d)∧c≠0) (Bg.fmo (Bg.zv j i) (Bg.zv c d)):=(Bg.oD_n (fun h=>h.2 hz0) _).symm;rw [←e3];have e0:(0:Int)=Bg.oS ((Bg.RtB j i∧Bg.RtB c d)∧c≠0) (Bg.flo (Bg.zv j i) (Bg.zv c d)):=(Bg.oS_n (fun h=>h.2 hz0) _).symm;have e2:(0:Int)=Bg.oS ((Bg.RtB j i∧Bg.RtB c d)∧c≠0) (Bg.fmo (Bg.zv j i) (Bg.zv c d)):=(Bg.oS_n (fun h=>h.2 hz0) _).symm;have e4:(15:Int)=if ¬ (Bg.RtB j i∧Bg.RtB c d) then (1:Int) else if c=0 then 15 else 0:=by rw [if_neg (fun h=>h hRR),if_pos hz0]
    exact V.rt [2,3,0] [{},{}] [fun _=>{},fun _=>{}] [] [2,3] [] (.tuple #[ag (DBig.mk 0 ⟨([]:List Int),{}⟩),ag (DBig.mk 0 ⟨([]:List Int),{}⟩),iv 15]) (cong3 (fun (x0 x2 x4:Int)=>(.tuple #[.agg #[iv x0,SV.v ({})],.agg #[iv x2,SV.v ({})],iv x4]:Value)) e0 e2 e4)
  have hz0:¬ c=0:=q4;have hPD:((Bg.RtB j i∧Bg.RtB c d)∧c≠0):=⟨hRR,hz0⟩;have hnz:=Bg.nv_pos hRR.2 hz0;have hml:=Nat.mod_lt (Bg.nv i) (Nat.pos_of_ne_zero hnz.1);have hmle:Bg.nv (Bg.dig (Bg.nv i % Bg.nv d))≤Bg.nv d:=by rw [Bg.nv_dig];omega
  have hll1:=Bg.dig_len_mono' (Nat.div_le_self (Bg.nv i) (Bg.nv d));have hll2:=Bg.dig_len_mono' (Nat.mod_le (Bg.nv i) (Bg.nv d));have hll3:=Bg.dig_le hRR.1.dg;refine nl (Bg.dig (Bg.nv i / Bg.nv d)) fun l1 hl1 hl1n=>?_;refine nl (Bg.dig (Bg.nv i % Bg.nv d)) fun l2 hl2 hl2n=>?_;refine V.r [.k (pp ((G1 0).b) 1),.ld 0 1 false (fun _=>[m.v]),.k (pp ((G1 1).b) 1),.ld 1 1 false (fun _=>[l.v]),.ct g0 4 88 false [] [] [(kf false (.f 0) i (fun _=>m)).a,(kf false (.f 1) d (fun _=>l)).a] (fun _ G=>div_ctv i m d l hRR.1.dg hRR.2.dg hRR.1.nz hRR.2.nz hnz.2 (by omega) (by omega) l1 hl1 l2 hl2),.v fun G=>.tuple #[((G 4).ss 0).v,((G 4).ss 1).v],.v fun G=>((G 4).ss 0).v,.v fun G=>((G 4).ss 1).v,.v fun G=>((G 4).ss 0).v,.v fun G=>((G 4).ss 1).v] fun _ _ G6 kw6=>?_;intro S s
  obtain ⟨⟨kl3, -⟩,⟨kl4, -⟩, -⟩:Lq l1 (((G6 4).ss 0).v)∧Lq l2 (((G6 4).ss 1).v)∧True:=kq kw6;clear kw6;refine nm (j * c:Int) fun n1 hn1=>?_;refine nm ((decide (n1 < 0)) && (decide (0 < (l2.length:Int))):Bool) fun p2 hp2=>?_;refine V.g [.k (pp ((G1 0).b) 0),.ld 0 0 false (fun _=>[iv j]),.k (pp ((G1 1).b) 0),.ld 1 0 false (fun _=>[iv c]),.ar (j * c) n1 hn1 (by rw [hn1];exact hsm.1) (by rw [hn1];exact hsm.2),.k (bv (decide (n1 < 0))),.k (bv (decide (n1 < 0))),.k (((G6 4).ss 1).v),.ln (kf true (.f 3) l2 (fun _=>(G6 4).ss 1)),.k (bv (decide (0 < (l2.length:Int)))),.andn g0 false (decide (n1 < 0)) (decide (0 < (l2.length:Int))) p2 hp2] fun _ _ G7=>?_;intro S s;refine V.cn (b:=p2) (iN hp2 (iAT iDT iDT)) (iN hp2 (iAF iDF iDF)) (fun q5=>?_) (fun q6=>?_)
  · have hng:j * c < 0:=by have:=q5;omega
    have hr0:Bg.nv i % Bg.nv d≠0:=fun e=>by have:=q5;subst_vars;rw [e,Bg.dig_zero] at this;simp at this
    refine nl (Bg.dig (Bg.nv l1+Bg.nv ([1]:List Int))) fun l3 hl3 hl3n=>?_;refine nm (Bg.sg0 (Bg.nv l3) (-1:Int):Int) fun n2 hn2=>?_;refine nl (Bg.dig (Bg.nv l3)) fun l4 hl4 hl4n=>?_;refine nl (Bg.dig (Bg.nv d-Bg.nv l2)) fun l5 hl5 hl5n=>?_;refine nm (Bg.sg0 (Bg.nv l5) c:Int) fun n3 hn3=>?_;refine nl (Bg.dig (Bg.nv l5)) fun l6 hl6 hl6n=>?_;refine V.r [.k (((G6 4).ss 0).v),.nr 1 true 3 ([1]:List Int) [] (fun _ _ _ _ _=>trivial) (fun _=>#[iv 1]),.ct g0 2 83 false [] [] [(kf true (.f 2) l1 (fun _=>(G6 4).ss 0)).a,(kf true (.g 1 0) ([1]:List Int) (fun G=>⟨atB (G 1).b,1,1⟩)).a] (fun _ G=>add_ctv l1 ((G6 4).ss 0) ([1]:List Int) ⟨atB (G 1).b,1,1⟩ (by subst_vars;exact Bg.dig_Dg _) (Bg.Dg.one (by omega)) (by omega) (by simp) l3 hl3),.ctT g0 3 81 [(kf true (.g 2 0) l3 (fun G=>(G 2).ss 0)).a] (fun _ G=>signed_ctv (-1:Int) l3 ((G 2).ss 0) (by subst_vars;exact Bg.dig_Dg _) n2 hn2 l4 hl4),.k (pp ((G1 1).b) 0),.ld 1 0 false (fun _=>[iv c]),.k (pp ((G1 1).b) 1),.ld 1 1 false (fun _=>[l.v]),.k (((G6 4).ss 1).v),.ct g0 9 85 false [] [] [(kf false (.f 1) d (fun _=>l)).a,(kf true (.f 3) l2 (fun _=>(G6 4).ss 1)).a] (fun _ G=>sub_ctv d l l2 ((G6 4).ss 1) hRR.2.dg (by subst_vars;exact Bg.dig_Dg _) (by omega) (by omega) (by subst_vars;exact Bg.dig_Nz _) (by subst_vars;exact hmle) l5 hl5),.ctT g0 10 81 [(kf true (.g 9 0) l5 (fun G=>(G 9).ss 0)).a] (fun _ G=>signed_ctv c l5 ((G 9).ss 0) (by subst_vars;exact Bg.dig_Dg _) n3 hn3 l6 hl6),.st 2 (fun G=>.blk ((G1 2).b) (ca (DBig.mk n2 ⟨l4,(G 3).ss 0⟩)) 31),.st 3 (fun G=>.blk ((G1 3).b) (ca (DBig.mk n3 ⟨l6,(G 10).ss 0⟩)) 31),.k (iv 0)] fun _ _ G8 kw8=>?_;intro S s
    obtain ⟨⟨kl5, -⟩,⟨kl6, -⟩,⟨kl7, -⟩,⟨kl8, -⟩,⟨kl9, -⟩, -⟩:Lq ([1]:List Int) (SV.v ⟨atB (G8 1).b,1,1⟩)∧Lq l3 (((G8 2).ss 0).v)∧Lq l4 (((G8 3).ss 0).v)∧Lq l5 (((G8 9).ss 0).v)∧Lq l6 (((G8 10).ss 0).v)∧True:=kq kw8;clear kw8;have e1:l4=Bg.oD ((Bg.RtB j i∧Bg.RtB c d)∧c≠0) (Bg.flo (Bg.zv j i) (Bg.zv c d)):=by
      rw [hl4,hl3,hl1];rw [Bg.oD_y hPD];exact Bg.dqD hRR.1 hRR.2 hnz.1 hng hr0
    subst e1;have e3:l6=Bg.oD ((Bg.RtB j i∧Bg.RtB c d)∧c≠0) (Bg.fmo (Bg.zv j i) (Bg.zv c d)):=by
      rw [hl6,hl5,hl2];rw [Bg.oD_y hPD];exact Bg.drD hRR.1 hRR.2 hnz.1 hng hr0
    subst e3;have e0:n2=Bg.oS ((Bg.RtB j i∧Bg.RtB c d)∧c≠0) (Bg.flo (Bg.zv j i) (Bg.zv c d)):=by
      rw [hn2,hl3,hl1];rw [Bg.oS_y hPD];exact Bg.dqS hRR.1 hRR.2 hnz.1 hng hr0
    have e2:n3=Bg.oS ((Bg.RtB j i∧Bg.RtB c d)∧c≠0) (Bg.fmo (Bg.zv j i) (Bg.zv c d)):=by
      rw [hn3,hl5,hl2];rw [Bg.oS_y hPD];exact Bg.drS hRR.1 hRR.2 hnz.1 hng hr0
    have e4:(0:Int)=if ¬ (Bg.RtB j i∧Bg.RtB c d) then (1:Int) else if c=0 then 15 else 0:=by rw [if_neg (fun h=>h hRR),if_neg hz0]
    exact V.rt [2,3,0] [(G8 3).ss 0,(G8 10).ss 0] [fun _=>{},fun _=>{}] [] [6,8] [] (.tuple #[ag (DBig.mk n2 ⟨(Bg.oD ((Bg.RtB j i∧Bg.RtB c d)∧c≠0) (Bg.flo (Bg.zv j i) (Bg.zv c d))),(G8 3).ss 0⟩),ag (DBig.mk n3 ⟨(Bg.oD ((Bg.RtB j i∧Bg.RtB c d)∧c≠0) (Bg.fmo (Bg.zv j i) (Bg.zv c d))),(G8 10).ss 0⟩),iv 0]) (cong3 (fun (x0 x2 x4:Int)=>(.tuple #[.agg #[iv x0,((G8 3).ss 0).v],.agg #[iv x2,((G8 10).ss 0).v],iv x4]:Value)) e0 e2 e4)
  have hnn:0≤j * c∨Bg.nv i % Bg.nv d=0:=by have hqq:=q6;rcases hqq with h | h;left;omega;right;exact Bg.len_dig0.1 (by omega)
  refine nm (Bg.sg0 (Bg.nv l1) n1:Int) fun n4 hn4=>?_;refine nl (Bg.dig (Bg.nv l1)) fun l7 hl7 hl7n=>?_;refine nm (Bg.sg0 (Bg.nv l2) j:Int) fun n5 hn5=>?_;refine nl (Bg.dig (Bg.nv l2)) fun l8 hl8 hl8n=>?_;refine V.r [.k (pp ((G1 0).b) 0),.ld 0 0 false (fun _=>[iv j]),.k (pp ((G1 1).b) 0),.ld 1 0 false (fun _=>[iv c]),.ar (j * c) n1 hn1 (by rw [hn1];exact hsm.1) (by rw [hn1];exact hsm.2),.k (((G6 4).ss 0).v),.ctT g0 6 81 [(kf true (.f 2) l1 (fun _=>(G6 4).ss 0)).a] (fun _ G=>signed_ctv n1 l1 ((G6 4).ss 0) (by subst_vars;exact Bg.dig_Dg _) n4 hn4 l7 hl7),.k (pp ((G1 0).b) 0),.ld 0 0 false (fun _=>[iv j]),.k (((G6 4).ss 1).v),.ctT g0 10 81 [(kf true (.f 3) l2 (fun _=>(G6 4).ss 1)).a] (fun _ G=>signed_ctv j l2 ((G6 4).ss 1) (by subst_vars;exact Bg.dig_Dg _) n5 hn5 l8 hl8),.st 2 (fun G=>.blk ((G1 2).b) (ca (DBig.mk n4 ⟨l7,(G 6).ss 0⟩)) 31),.st 3 (fun G=>.blk ((G1 3).b) (ca (DBig.mk n5 ⟨l8,(G 10).ss 0⟩)) 31),.k (iv 0)] fun _ _ G9 kw9=>?_;intro S s
  obtain ⟨⟨kl10, -⟩,⟨kl11, -⟩, -⟩:Lq l7 (((G9 6).ss 0).v)∧Lq l8 (((G9 10).ss 0).v)∧True:=kq kw9;clear kw9;have e1:l7=Bg.oD ((Bg.RtB j i∧Bg.RtB c d)∧c≠0) (Bg.flo (Bg.zv j i) (Bg.zv c d)):=by
    rw [hl7,hl1];rw [Bg.oD_y hPD];exact Bg.qD hRR.1 hRR.2 hnz.1 hnn
  subst e1;have e3:l8=Bg.oD ((Bg.RtB j i∧Bg.RtB c d)∧c≠0) (Bg.fmo (Bg.zv j i) (Bg.zv c d)):=by
    rw [hl8,hl2];rw [Bg.oD_y hPD];exact Bg.rD hRR.1 hRR.2 hnz.1 hnn
  subst e3;have e0:n4=Bg.oS ((Bg.RtB j i∧Bg.RtB c d)∧c≠0) (Bg.flo (Bg.zv j i) (Bg.zv c d)):=by
    rw [hn4,hn1,hl1];rw [Bg.oS_y hPD];exact Bg.qS hRR.1 hRR.2 hnz.1 hnn
  have e2:n5=Bg.oS ((Bg.RtB j i∧Bg.RtB c d)∧c≠0) (Bg.fmo (Bg.zv j i) (Bg.zv c d)):=by
    rw [hn5,hl2];rw [Bg.oS_y hPD];exact Bg.rS hRR.1 hRR.2 hnz.1 hnn
  have e4:(0:Int)=if ¬ (Bg.RtB j i∧Bg.RtB c d) then (1:Int) else if c=0 then 15 else 0:=by rw [if_neg (fun h=>h hRR),if_neg hz0]
  exact V.rt [2,3,0] [(G9 6).ss 0,(G9 10).ss 0] [fun _=>{},fun _=>{}] [] [4,5] [] (.tuple #[ag (DBig.mk n4 ⟨(Bg.oD ((Bg.RtB j i∧Bg.RtB c d)∧c≠0) (Bg.flo (Bg.zv j i) (Bg.zv c d))),(G9 6).ss 0⟩),ag (DBig.mk n5 ⟨(Bg.oD ((Bg.RtB j i∧Bg.RtB c d)∧c≠0) (Bg.fmo (Bg.zv j i) (Bg.zv c d))),(G9 10).ss 0⟩),iv 0]) (cong3 (fun (x0 x2 x4:Int)=>(.tuple #[.agg #[iv x0,((G9 6).ss 0).v],.agg #[iv x2,((G9 10).ss 0).v],iv x4]:Value)) e0 e2 e4)
theorem Div_ctv (d:Int) (b:List Int) (e:SV) (a:Int) (c:List Int) (f:SV) (hla:b.length≤274877906944) (hlb:c.length≤274877906944) (rv0:Int) (erv0:rv0=Bg.oS ((Bg.RtB d b∧Bg.RtB a c)∧a≠0) (Bg.flo (Bg.zv d b) (Bg.zv a c))) (rv1:List Int) (erv1:rv1=Bg.oD ((Bg.RtB d b∧Bg.RtB a c)∧a≠0) (Bg.flo (Bg.zv d b) (Bg.zv a c))) (rv2:Int) (erv2:rv2=Bg.oS ((Bg.RtB d b∧Bg.RtB a c)∧a≠0) (Bg.fmo (Bg.zv d b) (Bg.zv a c))) (rv3:List Int) (erv3:rv3=Bg.oD ((Bg.RtB d b∧Bg.RtB a c)∧a≠0) (Bg.fmo (Bg.zv d b) (Bg.zv a c))) (rv4:Int) (erv4:rv4=if ¬ (Bg.RtB d b∧Bg.RtB a c) then (1:Int) else if a=0 then 15 else 0) :
    Ct Try.prog 77 #[ag (DBig.mk d ⟨b,e⟩),ag (DBig.mk a ⟨c,f⟩)] [fs true b e,fs true c f] [] (fun g=>.tuple #[ag (DBig.mk rv0 ⟨rv1,(g.ss 0)⟩),ag (DBig.mk rv2 ⟨rv3,(g.ss 1)⟩),iv rv4]) (fun g=>[fs true rv1 (g.ss 0),fs true rv3 (g.ss 1)]) (fun g=>[]) (fun g=>[]):=by
  subst erv0 erv1 erv2 erv3 erv4;exact Div_ct d b e a c f hla hlb

namespace Fr
open Bg
def FrB (ps:Int) (pd:List Int) (qs:Int) (qd:List Int):Prop:=RtB ps pd∧RtB qs qd∧qs=1∧Nat.gcd (nv pd) (nv qd)=1
instance (ps : Int) (pd : List Int) (qs : Int) (qd : List Int) : Decidable (FrB ps pd qs qd) := by unfold FrB; infer_instance
def fq (ps:Int) (pd qd:List Int):Rat:=mkRat (zv ps pd) (nv qd)
def rS (p:Prop) [Decidable p] (r:Rat):Int:=if p then sgn r.num else 0
def rD (p:Prop) [Decidable p] (r:Rat):List Int:=if p then dig r.num.natAbs else []
def rT (p:Prop) [Decidable p]:Int:=if p then 1 else 0
def rE (p:Prop) [Decidable p] (r:Rat):List Int:=if p then dig r.den else []
section
variable {p : Prop} [Decidable p]
theorem rS_y (h:p) (r:Rat):rS p r=sgn r.num:=if_pos h
theorem rD_y (h:p) (r:Rat):rD p r=dig r.num.natAbs:=if_pos h
theorem rT_y (h:p):rT p=1:=if_pos h
theorem rE_y (h:p) (r:Rat):rE p r=dig r.den:=if_pos h
theorem rS_n (h:¬ p) (r:Rat):rS p r=0:=if_neg h
theorem rD_n (h:¬ p) (r:Rat):rD p r=[]:=if_neg h
theorem rT_n (h:¬ p):rT p=0:=if_neg h
theorem rE_n (h:¬ p) (r:Rat):rE p r=[]:=if_neg h
end
section
variable {ps qs : Int} {pd qd : List Int}
theorem FrB.q0 (h:FrB ps pd qs qd):nv qd≠0:=by
  obtain ⟨h1,h2,h3,h4⟩:=h
  rcases h2.cases with ⟨_,e⟩ | ⟨e,_⟩ | ⟨e,_⟩ <;> omega
theorem FrB.q1 (h:FrB ps pd qs qd):zv qs qd=(nv qd:Int):=by
  obtain ⟨_,_,h3,_⟩:=h
  subst h3;unfold zv;omega
theorem FrB.is (h:FrB ps pd qs qd):(fq ps pd qd).num=zv ps pd∧(fq ps pd qd).den=nv qd:=by
  have hq:=h.q0
  obtain ⟨h1,h2,h3,h4⟩:=h
  have hc:(zv ps pd).natAbs.Coprime (nv qd):=by rw [h1.abs];exact h4
  have e:fq ps pd qd=⟨zv ps pd,nv qd,hq,hc⟩:=(Rat.mk_eq_mkRat _ _ hq hc).symm
  rw [e];exact ⟨rfl,rfl⟩
theorem FrB.num (h:FrB ps pd qs qd):(fq ps pd qd).num=zv ps pd:=h.is.1
theorem FrB.den (h:FrB ps pd qs qd):(fq ps pd qd).den=nv qd:=h.is.2
theorem FrB.eqs (h:FrB ps pd qs qd):ps=sgn (fq ps pd qd).num∧pd=dig (fq ps pd qd).num.natAbs∧qs=1∧qd=dig (fq ps pd qd).den:=by
  rw [h.num,h.den]
  exact ⟨h.1.sg.symm,h.1.eqd,h.2.2.1,h.2.1.eq⟩
theorem FrB.of (r:Rat):FrB (sgn r.num) (dig r.num.natAbs) 1 (dig r.den) :=
  ⟨RtB.of _,RtB.of1 r.den_nz,rfl,by rw [nv_dig,nv_dig];exact r.reduced⟩
theorem fq_of (r:Rat):fq (sgn r.num) (dig r.num.natAbs) (dig r.den)=r:=by
  unfold fq;rw [zv_of,nv_dig];exact Rat.mkRat_self r
theorem FrB.inj {ps' qs':Int} {pd' qd':List Int} (h:FrB ps pd qs qd) (k:FrB ps' pd' qs' qd') (e:fq ps pd qd=fq ps' pd' qd'):ps=ps'∧pd=pd'∧qs=qs'∧qd=qd':=by
  obtain ⟨a1,a2,a3,a4⟩:=h.eqs
  obtain ⟨b1,b2,b3,b4⟩:=k.eqs
  rw [e] at a1 a2 a4
  exact ⟨a1.trans b1.symm,a2.trans b2.symm,a3.trans b3.symm,a4.trans b4.symm⟩
theorem FrB.r {p:Prop} [Decidable p] (h:p) (r:Rat):FrB (rS p r) (rD p r) (rT p) (rE p r):=by
  rw [rS_y h,rD_y h,rT_y h,rE_y h];exact FrB.of r
theorem fq_r {p:Prop} [Decidable p] (h:p) (r:Rat):fq (rS p r) (rD p r) (rE p r)=r:=by
  rw [rS_y h,rD_y h,rE_y h];exact fq_of r
theorem FrB.no:¬ FrB 0 [] 0 []:=fun h=>by have:=h.2.2.1;omega
end
def Hb (r:Rat) (k:Nat):Prop:=r.num.natAbs < 1048576 ^ k∧r.den < 1048576 ^ k
theorem Hb.len {r:Rat} {k:Nat} (h:Hb r k):(dig r.num.natAbs).length≤k∧(dig r.den).length≤k:=⟨dig_lt h.1,dig_lt h.2⟩
theorem FrB.hb {ps qs:Int} {pd qd:List Int} (h:FrB ps pd qs qd) {k:Nat} (h1:pd.length≤k) (h2:qd.length≤k):Hb (fq ps pd qd) k:=by
  unfold Hb;rw [h.num,h.den,h.1.abs]
  exact ⟨Nat.lt_of_lt_of_le (nv_lt h.1.dg) (Nat.pow_le_pow_right (by omega) h1),Nat.lt_of_lt_of_le (nv_lt h.2.1.dg) (Nat.pow_le_pow_right (by omega) h2)⟩
theorem Hb.mono {r:Rat} {k m:Nat} (h:Hb r k) (e:k≤m):Hb r m :=
  ⟨Nat.lt_of_lt_of_le h.1 (Nat.pow_le_pow_right (by omega) e),Nat.lt_of_lt_of_le h.2 (Nat.pow_le_pow_right (by omega) e)⟩
theorem plt {a b A B:Nat} (h:a < A) (k:b < B):a * b < A * B:=by
  have h1:a * b≤a * B:=Nat.mul_le_mul_left a (Nat.le_of_lt k)
  have h2:a * B < A * B:=Nat.mul_lt_mul_of_pos_right h (by omega)
  omega
theorem Hb.pos {r:Rat} {k:Nat} (h:Hb r k):0 < k:=by
  rcases Nat.eq_zero_or_pos k with rfl | e
  · have h2:r.den < 1:=h.2
    have:=r.den_nz;omega
  · exact e
theorem Hb.mk {n:Int} {d k:Nat} (hk:0 < k) (h:n.natAbs < 1048576 ^ k) (e:d < 1048576 ^ k):Hb (mkRat n d) k:=by
  have hp:=Nat.pow_pos (n:=k) (show 0 < 1048576 by omega)
  unfold Hb
  rw [Rat.num_mkRat,Rat.den_mkRat]
  by_cases h0:d=0
  · rw [if_pos h0,if_pos h0]
    cases k with
    | zero=>omega
    | succ k=>refine ⟨hp,?_⟩;rw [pow_succ'];have:=Nat.pow_pos (n:=k) (show 0 < 1048576 by omega);omega
  · rw [if_neg h0,if_neg h0]
    refine ⟨Nat.lt_of_le_of_lt ?_ h,Nat.lt_of_le_of_lt (Nat.div_le_self _ _) e⟩
    exact Int.natAbs_ediv_le_natAbs _ _
theorem Hb.divI {n d:Int} {k:Nat} (hk:0 < k) (h:n.natAbs < 1048576 ^ k) (e:d.natAbs < 1048576 ^ k):Hb (Rat.divInt n d) k:=by
  rcases Int.lt_or_le d 0 with hd | hd
  · have:Rat.divInt n d=mkRat (-n) d.natAbs:=by
      rw [←Rat.divInt_ofNat,← Rat.neg_divInt_neg,show -d=(d.natAbs:Int) by omega]
    rw [this];exact Hb.mk hk (by rw [Int.natAbs_neg];exact h) e
  · have:Rat.divInt n d=mkRat n d.natAbs:=by rw [←Rat.divInt_ofNat,show d=(d.natAbs:Int) by omega];rfl
    rw [this];exact Hb.mk hk h e
theorem Hb.mul {a b:Rat} {i j:Nat} (h:Hb a i) (k:Hb b j):Hb (a * b) (i+j):=by
  rw [Rat.mul_def']
  have:=h.pos
  refine Hb.mk (by omega) ?_ ?_ <;> rw [Nat.pow_add]
  · rw [Int.natAbs_mul];exact plt h.1 k.1
  · exact plt h.2 k.2
theorem div_is (a b:Rat):a / b=Rat.divInt (a.num * b.den) (a.den * b.num):=by
  rw [Rat.div_def,Rat.inv_def]
  conv=>lhs;rw [←Rat.num_divInt_den a]
  exact Rat.divInt_mul_divInt _ _
theorem Hb.div {a b:Rat} {i j:Nat} (h:Hb a i) (k:Hb b j):Hb (a / b) (i+j):=by
  rw [div_is]
  have:=h.pos
  refine Hb.divI (by omega) ?_ ?_ <;> rw [Nat.pow_add,Int.natAbs_mul,Int.natAbs_natCast]
  · exact plt h.1 k.2
  · exact plt h.2 k.1
theorem Hb.neg {a:Rat} {i:Nat} (h:Hb a i):Hb (-a) i:=by
  unfold Hb;rw [Rat.neg_num,Rat.neg_den,Int.natAbs_neg];exact h
theorem Hb.add {a b:Rat} {i j:Nat} (h:Hb a i) (k:Hb b j):Hb (a+b) (i+j+1):=by
  rw [Rat.add_def']
  have h1:=plt h.1 k.2;have h2:=plt k.1 h.2;have h3:=plt h.2 k.2
  rw [←Nat.pow_add] at h1 h3
  rw [←Nat.pow_add,Nat.add_comm j i] at h2
  have hp:1048576 ^ (i+j+1)=1048576 * 1048576 ^ (i+j):=pow_succ' _
  refine Hb.mk (by omega) ?_ (by omega)
  have h4:=Int.natAbs_add_le (a.num * (b.den:Int)) (b.num * (a.den:Int))
  rw [Int.natAbs_mul,Int.natAbs_mul,Int.natAbs_natCast,Int.natAbs_natCast] at h4
  omega
theorem Hb.sub {a b:Rat} {i j:Nat} (h:Hb a i) (k:Hb b j):Hb (a - b) (i+j+1):=by
  rw [Rat.sub_eq_add_neg];exact h.add k.neg
theorem Hb.int {n:Int} (h: -9223372036854775808≤n∧n≤9223372036854775807):Hb (n:Rat) 4:=by
  unfold Hb;rw [Rat.num_intCast,Rat.den_intCast]
  have:(1048576:Nat) ^ 4=1208925819614629174706176:=by decide
  omega
def cmpQ (a b:Rat):Int:=if a < b then -1 else if a=b then 0 else 1
theorem cmpQ_is (a b:Rat):cmpI (a.num * b.den) (b.num * a.den)=cmpQ a b:=by
  unfold cmpI cmpQ
  by_cases h:a < b
  · rw [if_pos h,if_pos ((Rat.lt_iff a b).1 h)]
  · rw [if_neg h,if_neg fun k=>h ((Rat.lt_iff a b).2 k)]
    by_cases e:a=b
    · rw [if_pos e,if_pos (Rat.eq_iff_mul_eq_mul.1 e)]
    · rw [if_neg e,if_neg fun k=>e (Rat.eq_iff_mul_eq_mul.2 k)]
theorem red {n d:Int} (hd:0 < d):(Rat.divInt n d).num=n / (Nat.gcd n.natAbs d.natAbs:Int)∧((Rat.divInt n d).den:Int)=d / (Nat.gcd n.natAbs d.natAbs:Int):=by
  have e:Rat.divInt n d=mkRat n d.natAbs:=by rw [←Rat.divInt_ofNat,show d=(d.natAbs:Int) by omega];rfl
  rw [e,Rat.num_mkRat,Rat.den_mkRat,if_neg (by omega),if_neg (by omega),Nat.gcd_comm d.natAbs]
  refine ⟨rfl,?_⟩
  rw [Int.natCast_ediv,show ((d.natAbs:Nat):Int)=d by omega]
theorem flo_pos {a b:Int} (h:0 < b):flo a b=a / b:=if_pos h
end Fr

namespace Fr
open Bg
structure Bz (s:Int) (l:List Int) (z:Int):Prop where
  rt:RtB s l
  v:zv s l=z
section
variable {s t u x y : Int} {l m n : List Int}
theorem RtB.z (h:RtB s l):Bz s l (zv s l):=⟨h,rfl⟩
theorem Bz.of {p:Prop} [Decidable p] (h:p) (hs:s=oS p x) (hl:l=oD p x):Bz s l x:=by
  rw [oS_y h] at hs;rw [oD_y h] at hl;subst hs hl
  exact ⟨RtB.of x,zv_of x⟩
theorem Bz.nat (h:Bz s l x):nv l=x.natAbs:=by rw [←h.v,h.rt.abs]
theorem Bz.eqs (h:Bz s l x):s=sgn x∧l=dig x.natAbs:=by rw [←h.v];exact ⟨h.rt.sg.symm,h.rt.eqd⟩
theorem Bz.inj (h:Bz s l x) (k:Bz t m x):s=t∧l=m:=⟨h.eqs.1.trans k.eqs.1.symm,h.eqs.2.trans k.eqs.2.symm⟩
theorem Bz.lt (h:Bz s l x):x.natAbs < 1048576 ^ l.length:=by rw [←h.nat];exact nv_lt h.rt.dg
theorem Bz.len (h:Bz s l x) {k:Nat} (e:x.natAbs < 1048576 ^ k):l.length≤k:=by rw [h.eqs.2];exact dig_lt e
theorem Bz.pos (h:Bz s l x) (e:0 < s):0 < x:=by
  rcases h.rt.cases with ⟨_,e'⟩ | ⟨a,e'⟩ | ⟨_,e'⟩
  · omega
  · have:=h.v;unfold zv at this;subst e';omega
  · omega
theorem Bz.neg0 (h:Bz s l x) (e:s < 0):x < 0:=by
  rcases h.rt.cases with ⟨_,e'⟩ | ⟨a,e'⟩ | ⟨a,e'⟩
  · omega
  · omega
  · have:=h.v;unfold zv at this;subst e';omega
theorem Bz.ne (h:Bz s l x):s≠0↔x≠0:=by
  rcases h.rt.cases with ⟨a,e'⟩ | ⟨a,e'⟩ | ⟨a,e'⟩ <;> have:=h.v <;> unfold zv at this <;> subst e' <;> omega
theorem Bz.mul (a:Bz s l x) (b:Bz t m y) (hs:u=oS (RtB s l∧RtB t m) (zv s l * zv t m)) (hl:n=oD (RtB s l∧RtB t m) (zv s l * zv t m)):Bz u n (x * y)∧n.length≤l.length+m.length:=by
  have h:=Bz.of ⟨a.rt,b.rt⟩ hs hl
  rw [a.v,b.v] at h
  refine ⟨h,h.len ?_⟩
  rw [Int.natAbs_mul,Nat.pow_add];exact plt a.lt b.lt
theorem Bz.add (a:Bz s l x) (b:Bz t m y) (hs:u=oS (RtB s l∧RtB t m) (zv s l+zv t m)) (hl:n=oD (RtB s l∧RtB t m) (zv s l+zv t m)):Bz u n (x+y)∧n.length≤l.length+m.length+1:=by
  have h:=Bz.of ⟨a.rt,b.rt⟩ hs hl
  rw [a.v,b.v] at h
  refine ⟨h,h.len ?_⟩
  have h1:=Nat.lt_of_lt_of_le a.lt (Nat.pow_le_pow_right (n:=1048576) (by omega) (Nat.le_add_right l.length m.length))
  have h2:=Nat.lt_of_lt_of_le b.lt (Nat.pow_le_pow_right (n:=1048576) (by omega) (Nat.le_add_left m.length l.length))
  rw [pow_succ']
  have:=Int.natAbs_add_le x y
  omega
theorem Bz.neg (a:Bz s l x) (hs:u=oS (RtB s l) (-zv s l)) (hl:n=oD (RtB s l) (-zv s l)):Bz u n (-x)∧n.length=l.length:=by
  have h:=Bz.of a.rt hs hl
  rw [a.v] at h
  refine ⟨h,?_⟩
  rw [h.eqs.2,a.eqs.2,Int.natAbs_neg]
theorem Bz.int {k:Int} (hs:u=sgn k) (hl:n=dig k.natAbs):Bz u n k:=by subst hs hl;exact ⟨RtB.of k,zv_of k⟩
theorem Bz.gcd (a:Bz s l x) (b:Bz t m y) (hs:u=oS (RtB s l∧RtB t m) ((Nat.gcd (nv l) (nv m):Nat):Int)) (hl:n=oD (RtB s l∧RtB t m) ((Nat.gcd (nv l) (nv m):Nat):Int)):Bz u n ((Nat.gcd x.natAbs y.natAbs:Nat):Int):=by
  have h:=Bz.of ⟨a.rt,b.rt⟩ hs hl
  rw [a.nat,b.nat] at h;exact h
theorem Bz.div (a:Bz s l x) (b:Bz t m y) (hy:0 < y) (hs:u=oS ((RtB s l∧RtB t m)∧t≠0) (flo (zv s l) (zv t m))) (hl:n=oD ((RtB s l∧RtB t m)∧t≠0) (flo (zv s l) (zv t m))):Bz u n (x / y):=by
  have h:=Bz.of ⟨⟨a.rt,b.rt⟩,b.ne.2 (by omega)⟩ hs hl
  rw [a.v,b.v,flo_pos hy] at h;exact h
theorem Bz.gcd_len (a:Bz s l x) (b:Bz t m y) (hy:0 < y) (h:Bz u n ((Nat.gcd x.natAbs y.natAbs:Nat):Int)):n.length≤m.length:=by
  refine h.len (Nat.lt_of_le_of_lt ?_ b.lt)
  rw [Int.natAbs_natCast];exact Nat.le_of_dvd (by omega) (Nat.gcd_dvd_right _ _)
theorem Bz.inI (h:Bz s l x):Bg.inI s l↔ -9223372036854775808≤x∧x≤9223372036854775807:=by
  unfold Bg.inI;rw [h.v];exact ⟨fun k=>k.2,fun k=>⟨h.rt,k⟩⟩
theorem Bz.intV (h:Bz s l x) (k: -9223372036854775808≤x∧x≤9223372036854775807):Bg.intV s l=x:=by
  rw [intV_y (h.inI.2 k),h.v]
theorem one_is (h:Bz s l x):Bg.intV s l=1↔x=1:=by
  unfold Bg.intV
  by_cases k:Bg.inI s l
  · rw [if_pos k,h.v]
  · rw [if_neg k]
    exact ⟨fun e=>by omega,fun e=>(k (h.inI.2 (by omega))).elim⟩
end
structure Fz (ps:Int) (pd:List Int) (qs:Int) (qd:List Int) (r:Rat):Prop where
  rt:FrB ps pd qs qd
  v:fq ps pd qd=r
section
variable {ps qs : Int} {pd qd : List Int} {r r' : Rat}
theorem FrB.z (h:FrB ps pd qs qd):Fz ps pd qs qd (fq ps pd qd):=⟨h,rfl⟩
theorem Fz.of {p:Prop} [Decidable p] (h:p) (e1:ps=rS p r) (e2:pd=rD p r) (e3:qs=rT p) (e4:qd=rE p r):Fz ps pd qs qd r:=by
  subst e1 e2 e3 e4;exact ⟨FrB.r h r,fq_r h r⟩
theorem Fz.p (h:Fz ps pd qs qd r):Bz ps pd r.num:=⟨h.rt.1,by rw [←h.v,h.rt.num]⟩
theorem Fz.q (h:Fz ps pd qs qd r):Bz qs qd (r.den:Int):=⟨h.rt.2.1,by rw [←h.v,h.rt.den,h.rt.q1]⟩
theorem Fz.eqs (h:Fz ps pd qs qd r):ps=sgn r.num∧pd=dig r.num.natAbs∧qs=1∧qd=dig r.den:=by rw [←h.v];exact h.rt.eqs
theorem Fz.ret {p:Prop} [Decidable p] (h:Fz ps pd qs qd r) (hp:p) (e:r=r'):ps=rS p r'∧pd=rD p r'∧qs=rT p∧qd=rE p r':=by
  rw [rS_y hp,rD_y hp,rT_y hp,rE_y hp,← e];exact h.eqs
theorem Fz.no {p:Prop} [Decidable p] (hp:¬ p) (r':Rat):0=rS p r'∧[]=rD p r'∧0=rT p∧[]=rE p r':=by
  rw [rS_n hp,rD_n hp,rT_n hp,rE_n hp];exact ⟨rfl,rfl,rfl,rfl⟩
theorem Fz.inj {ps' qs':Int} {pd' qd':List Int} (h:Fz ps pd qs qd r) (k:Fz ps' pd' qs' qd' r):ps=ps'∧pd=pd'∧qs=qs'∧qd=qd':=h.rt.inj k.rt (h.v.trans k.v.symm)
theorem Fz.hb (h:Fz ps pd qs qd r) {k:Nat} (h1:pd.length≤k) (h2:qd.length≤k):Hb r k:=by rw [←h.v];exact h.rt.hb h1 h2
theorem Fz.len (h:Fz ps pd qs qd r) {k:Nat} (e:Hb r k):pd.length≤k∧qd.length≤k:=⟨h.p.len e.1,h.q.len (by rw [Int.natAbs_natCast];exact e.2)⟩
theorem Fz.den (h:Fz ps pd qs qd r):(r.den:Int)≠0:=by have:=r.den_nz;omega
end
section
variable {s t x y ps qs : Int} {l m pd qd : List Int}
theorem new_fin {gs sa sb:Int} {gd ad bd:List Int} (a:Bz s l x) (b:Bz t m y) (hy:0 < y) (g:Bz gs gd ((Nat.gcd x.natAbs y.natAbs:Nat):Int)) (ha:Bz sa ad (x / (Nat.gcd x.natAbs y.natAbs:Nat))) (hb:Bz sb bd (y / (Nat.gcd x.natAbs y.natAbs:Nat))):Fz sa ad sb bd (Rat.divInt x y):=by
  obtain ⟨e1,e2⟩:=red (n:=x) hy
  rw [←e1] at ha;rw [←e2] at hb
  obtain ⟨h1,h2⟩:=ha.eqs
  obtain ⟨h3,h4⟩:=hb.eqs
  have hd:sgn ((Rat.divInt x y).den:Int)=1:=by
    have:=(Rat.divInt x y).den_nz
    unfold sgn;rw [if_neg (by omega),if_neg (by omega)]
  rw [hd] at h3;rw [Int.natAbs_natCast] at h4
  subst h1 h2 h3 h4
  exact ⟨FrB.of _,fq_of _⟩
theorem new_is (a:Bz s l x) (b:Bz t m y) (hy:y≠0) (e1:ps=rS ((RtB s l∧RtB t m)∧t≠0) (Rat.divInt (zv s l) (zv t m))) (e2:pd=rD ((RtB s l∧RtB t m)∧t≠0) (Rat.divInt (zv s l) (zv t m)))
    (e3:qs=rT ((RtB s l∧RtB t m)∧t≠0)) (e4:qd=rE ((RtB s l∧RtB t m)∧t≠0) (Rat.divInt (zv s l) (zv t m))):Fz ps pd qs qd (Rat.divInt x y):=by
  have h:=Fz.of ⟨⟨a.rt,b.rt⟩,b.ne.2 hy⟩ e1 e2 e3 e4
  rw [a.v,b.v] at h;exact h
end
theorem gcd_pos {x y gs:Int} {gd:List Int} (g:Bz gs gd ((Nat.gcd x.natAbs y.natAbs:Nat):Int)) (hy:0 < y):0 < ((Nat.gcd x.natAbs y.natAbs:Nat):Int) :=
  Int.natCast_pos.2 (Nat.gcd_pos_of_pos_right _ (by omega))
theorem add_is (a b:Rat):Rat.divInt (a.num * b.den+b.num * a.den) (a.den * b.den)=a+b:=by
  rw [Rat.add_def',← Rat.divInt_ofNat,Int.natCast_mul]
theorem mul_is (a b:Rat):Rat.divInt (a.num * b.num) (a.den * b.den)=a * b:=by
  rw [Rat.mul_def',← Rat.divInt_ofNat,Int.natCast_mul]
theorem FrB.neg {ps qs:Int} {pd qd:List Int} {u:Int} {n:List Int} {r:Rat} (h:Fz ps pd qs qd r) (hs:u=oS (RtB ps pd) (-zv ps pd)) (hl:n=oD (RtB ps pd) (-zv ps pd)):Fz u n qs qd (-r):=by
  have k:=h.p.neg hs hl
  have e1:=k.1.eqs
  have e2:=h.eqs
  obtain ⟨rfl,rfl⟩:=e1
  obtain ⟨_,_,rfl,rfl⟩:=e2
  exact ⟨FrB.of (-r),fq_of (-r)⟩
theorem sgn_num {r:Rat}:(sgn r.num < 0↔r < 0)∧(sgn r.num=0↔r=0)∧(0 < sgn r.num↔0 < r):=by
  have h1:r < 0↔r.num < 0:=by rw [Rat.lt_iff];simp
  have h2:r=0↔r.num=0:=Rat.num_eq_zero.symm
  have h3:0 < r↔0 < r.num:=by rw [Rat.lt_iff];simp
  rw [h1,h2,h3];unfold sgn
  refine ⟨?_,?_,?_⟩ <;> split <;> (try split) <;> omega
end Fr

open Go Go.Proofs
set_option maxRecDepth 10000 in
theorem one_ct (d:Int) (c:List Int) (e:SV) :
    Cp Try.prog 53 #[ag (DBig.mk d ⟨c,e⟩)] [fs true c e] (bv (decide (Bg.intV d c=1))):=by
  refine V.fn mo Try.func53 15 1 (by kernel_rfl) fun w H ε k0=>?_;obtain ⟨⟨kl1, -⟩, -⟩:Lq c e.v∧True:=kq k0
  clear k0;refine V.g [.nb 0 0 (fun b=>pp b 0) 31 (fun _=>ca (DBig.mk d ⟨c,e⟩)),.kb false] fun _ _ G1=>?_;intro S s
  refine nm (Bg.intV d c:Int) fun n1 hn1=>?_;refine V.g [.ld 0 0 true (fun _=>Dat.cells (DBig.mk d ⟨c,e⟩)),.cp g0 1 44 [(kf false (.f 0) c (fun _=>e)).a] (fun _ G=>int_ctv d c e n1 hn1),.k (.tuple #[iv n1,bv (decide (Bg.inI d c))]),.k (iv n1),.k (bv (decide (Bg.inI d c))),.k (iv n1),.k (bv (decide (Bg.inI d c)))] fun _ _ G2=>?_;intro S s
  refine nm ((decide (Bg.inI d c)) && (decide (n1=1)):Bool) fun p1 hp1=>?_;refine V.g [.k (bv (decide (Bg.inI d c))),.k (bv (decide (Bg.inI d c))),.k (iv n1),.k (bv (decide (n1=1))),.andn g0 false (decide (Bg.inI d c)) (decide (n1=1)) p1 hp1,.k (bv p1)] fun _ _ G3=>?_;intro S s
  have e0:p1=decide (Bg.intV d c=1):=by
    refine Bool.eq_iff_iff.2 (Iff.trans (iN hp1 (iAT iDT iDT)) (Iff.trans ?_ decide_eq_true_iff.symm))
    subst_vars
    exact ⟨fun h=>h.2,fun h=>⟨Classical.byContradiction fun k=>by rw [Bg.intV_n k] at h;omega,h⟩⟩
  exact V.rt [0] [] [] [] [] [] (bv p1) (cong1 (fun (x0:Bool)=>(bv x0:Value)) e0)
set_option maxRecDepth 10000 in
theorem right_ct (i:Int) (c:List Int) (j:SV) (e:Int) (d:List Int) (l:SV) (hfP:c.length≤274877906944) (hfQ:d.length≤274877906944) :
    Cp Try.prog 19 #[ag (DFrac.mk ⟨i,c,j⟩ ⟨e,d,l⟩)] [fs true c j,fs true d l] (bv (decide (Fr.FrB i c e d))):=by
  refine V.fn mo Try.func19 35 2 (by kernel_rfl) fun w H ε k0=>?_;obtain ⟨⟨kl1, -⟩,⟨kl2, -⟩, -⟩:Lq c j.v∧Lq d l.v∧True:=kq k0
  clear k0;refine V.g [.nb 0 0 (fun b=>pp b 0) 33 (fun _=>ca (DFrac.mk ⟨i,c,j⟩ ⟨e,d,l⟩)),.kb false] fun _ _ G1=>?_;intro S s
  refine nm ((!(decide (Bg.RtB i c))) || (!(decide (Bg.RtB e d))):Bool) fun p1 hp1=>?_;refine V.g [.k (pp ((G1 0).b) 0),.ld 0 0 true (fun _=>Dat.cells (DBig.mk i ⟨c,j⟩)),.cp g0 2 51 [(kf false (.f 0) c (fun _=>j)).a] (fun _ G=>bright_ct i c j),.k (bv (!(decide (Bg.RtB i c)))),.k (bv (!(decide (Bg.RtB i c)))),.k (pp ((G1 0).b) 2),.ld 0 2 true (fun _=>Dat.cells (DBig.mk e ⟨d,l⟩)),.cp (gF (b:=!(decide (Bg.RtB i c))) (iNF iDT)) 7 51 [(kf false (.f 1) d (fun _=>l)).a] (fun hg G=>bright_ct e d l),.k (bv (!(decide (Bg.RtB e d)))),.orn g0 false (!(decide (Bg.RtB i c))) (!(decide (Bg.RtB e d))) p1 hp1,.k (bv p1),.k (pp ((G1 0).b) 2),.k (pp ((G1 0).b) 2),.ld 0 2 false (fun _=>[iv e]),.k (bv (!(decide (e=1)))),.or g0 false p1 (!(decide (e=1)))] fun _ _ G2=>?_;intro S s
  refine V.cn (b:=p1 || (!(decide (e=1)))) (iOT (iN hp1 (iOT (iNT iDF) (iNT iDF))) (iNT iDF)) (iOF (iN hp1 (iOF (iNF iDT) (iNF iDT))) (iNF iDT)) (fun q1=>?_) (fun q2=>?_)
  · refine V.g [.kb false] fun _ _ G3=>?_;intro S s
    have e0:false=decide (Fr.FrB i c e d):=by exact (decide_eq_false fun h=>by have hqq:=q1;rcases hqq with (h1 | h1) | h1;exact h1 h.1;exact h1 h.2.1;exact h1 h.2.2.1).symm
    exact V.rt [0] [] [] [] [] [] (bv false) (cong1 (fun (x0:Bool)=>(bv x0:Value)) e0)
  have hR:(Bg.RtB i c∧Bg.RtB e d)∧e=1:=by have hqq:=q2;first | exact hqq | exact ⟨⟨Decidable.not_not.1 hqq.1.1,Decidable.not_not.1 hqq.1.2⟩,Decidable.not_not.1 hqq.2⟩
  obtain ⟨⟨hR1,hR2⟩,hR3⟩:=hR;refine nm (Bg.oS (Bg.RtB i c∧Bg.RtB e d) ((Nat.gcd (Bg.nv c) (Bg.nv d):Int)):Int) fun n1 hn1=>?_;refine nl (Bg.oD (Bg.RtB i c∧Bg.RtB e d) ((Nat.gcd (Bg.nv c) (Bg.nv d):Int))) fun l1 hl1 hl1n=>?_;refine nm (if (Bg.RtB i c∧Bg.RtB e d) then (0:Int) else 1:Int) fun n2 hn2=>?_;have zg:=Fr.Bz.gcd (Fr.RtB.z hR1) (Fr.RtB.z hR2) hn1 hl1;have hge:n2=0:=by rw [hn2];exact if_pos ⟨hR1,hR2⟩
  have hga:Nat.gcd (Bg.zv i c).natAbs (Bg.zv e d).natAbs=Nat.gcd (Bg.nv c) (Bg.nv d):=by rw [(Fr.RtB.z hR1).nat,(Fr.RtB.z hR2).nat]
  have hgn:((Nat.gcd (Bg.zv i c).natAbs (Bg.zv e d).natAbs:Nat):Int)=1→Nat.gcd (Bg.nv c) (Bg.nv d)=1:=fun h=>by omega
  have hgm:Nat.gcd (Bg.nv c) (Bg.nv d)=1→((Nat.gcd (Bg.zv i c).natAbs (Bg.zv e d).natAbs:Nat):Int)=1:=fun h=>by omega
  refine V.r [.k (pp ((G1 0).b) 0),.ld 0 0 true (fun _=>Dat.cells (DBig.mk i ⟨c,j⟩)),.k (pp ((G1 0).b) 2),.ld 0 2 true (fun _=>Dat.cells (DBig.mk e ⟨d,l⟩)),.ct g0 4 52 false [] [] [(kf false (.f 0) c (fun _=>j)).a,(kf false (.f 1) d (fun _=>l)).a] (fun _ G=>Gcd_ctv i c j e d l (by omega) (by omega) n1 hn1 l1 hl1 n2 hn2),.v fun G=>.tuple #[ag (DBig.mk n1 ⟨l1,(G 4).ss 0⟩),iv n2],.v fun G=>ag (DBig.mk n1 ⟨l1,(G 4).ss 0⟩),.k (iv n2),.nb 8 1 (fun b=>pp b 0) 31 (fun _=>ca (DBig.mk 0 ⟨[],{}⟩)),.st 1 (fun G=>.blk ((G 8).b) (ca (DBig.mk n1 ⟨l1,(G 4).ss 0⟩)) 31),.k (iv n2)] fun _ _ G4 kw4=>?_;intro S s
  obtain ⟨⟨kl3, -⟩, -⟩:Lq l1 (((G4 4).ss 0).v)∧True:=kq kw4;clear kw4;refine nm ((decide (n2=0)) && (decide (Bg.intV n1 l1=1)):Bool) fun p2 hp2=>?_;refine V.g [.k (iv n2),.k (bv (decide (n2=0))),.k (bv (decide (n2=0))),.ld 1 0 true (fun _=>Dat.cells (DBig.mk n1 ⟨l1,(G4 4).ss 0⟩)),.cp (gT (b:=decide (n2=0)) iDT) 4 53 [(kf true (.f 2) l1 (fun _=>(G4 4).ss 0)).a] (fun hg G=>one_ct n1 l1 ((G4 4).ss 0)),.andn g0 false (decide (n2=0)) (decide (Bg.intV n1 l1=1)) p2 hp2,.k (bv p2)] fun _ _ G5=>?_;intro S s;have e0:p2=decide (Fr.FrB i c e d):=by
    refine Bool.eq_iff_iff.2 (Iff.trans (iN hp2 (iAT iDT iDT)) (Iff.trans ?_ decide_eq_true_iff.symm));rw [Fr.one_is zg,hge];constructor
    · rintro ⟨_,h⟩;exact ⟨hR1,hR2,hR3,hgn h⟩
    intro h;exact ⟨rfl,hgm h.2.2.2⟩
  exact V.rt [0] [] [] [] [] [] (bv p2) (cong1 (fun (x0:Bool)=>(bv x0:Value)) e0)
set_option maxRecDepth 10000 in
theorem times_ct (e:Int) (c:List Int) (i:SV) (h:Int) (d:List Int) (j:SV) (hla:c.length≤274877906944) (hlb:d.length≤274877906944) :
    Ct Try.prog 39 #[ag (DBig.mk e ⟨c,i⟩),ag (DBig.mk h ⟨d,j⟩)] [fs true c i,fs true d j] [] (fun g=>ag (DBig.mk (Bg.oS (Bg.RtB e c∧Bg.RtB h d) (Bg.zv e c * Bg.zv h d)) ⟨Bg.oD (Bg.RtB e c∧Bg.RtB h d) (Bg.zv e c * Bg.zv h d),(g.ss 0)⟩)) (fun g=>[fs true (Bg.oD (Bg.RtB e c∧Bg.RtB h d) (Bg.zv e c * Bg.zv h d)) (g.ss 0)]) (fun g=>[]) (fun g=>[]):=by
  refine V.fn mo Try.func39 14 4 (by kernel_rfl) fun w H ε k0=>?_;obtain ⟨⟨kl1, -⟩,⟨kl2, -⟩, -⟩:Lq c i.v∧Lq d j.v∧True:=kq k0
  clear k0;refine V.g [.nb 0 0 (fun b=>pp b 0) 31 (fun _=>ca (DBig.mk e ⟨c,i⟩)),.nb 1 1 (fun b=>pp b 0) 31 (fun _=>ca (DBig.mk h ⟨d,j⟩)),.nb 2 2 (fun b=>pp b 0) 31 (fun _=>ca (DBig.mk 0 ⟨[],{}⟩))] fun _ _ G1=>?_;intro S s
  refine nm (Bg.oS (Bg.RtB e c∧Bg.RtB h d) (Bg.zv e c * Bg.zv h d):Int) fun n1 hn1=>?_;refine nl (Bg.oD (Bg.RtB e c∧Bg.RtB h d) (Bg.zv e c * Bg.zv h d)) fun l1 hl1 hl1n=>?_;refine nm (if (Bg.RtB e c∧Bg.RtB h d) then (0:Int) else 1:Int) fun n2 hn2=>?_;refine V.r [.ld 0 0 true (fun _=>Dat.cells (DBig.mk e ⟨c,i⟩)),.ld 1 0 true (fun _=>Dat.cells (DBig.mk h ⟨d,j⟩)),.ct g0 2 78 false [] [] [(kf false (.f 0) c (fun _=>i)).a,(kf false (.f 1) d (fun _=>j)).a] (fun _ G=>Mul_ctv e c i h d j (by omega) (by omega) n1 hn1 l1 hl1 n2 hn2),.v fun G=>.tuple #[ag (DBig.mk n1 ⟨l1,(G 2).ss 0⟩),iv n2],.v fun G=>ag (DBig.mk n1 ⟨l1,(G 2).ss 0⟩),.k (iv n2),.nb 6 3 (fun b=>pp b 0) 31 (fun _=>ca (DBig.mk 0 ⟨[],{}⟩)),.st 3 (fun G=>.blk ((G 6).b) (ca (DBig.mk n1 ⟨l1,(G 2).ss 0⟩)) 31),.k (iv n2)] fun _ _ G2 kw2=>?_;intro S s
  obtain ⟨⟨kl3, -⟩, -⟩:Lq l1 (((G2 2).ss 0).v)∧True:=kq kw2;clear kw2;refine V.g [.ld 3 0 true (fun _=>Dat.cells (DBig.mk n1 ⟨l1,(G2 2).ss 0⟩)),.st 2 (fun _=>.blk ((G1 2).b) (ca (DBig.mk n1 ⟨l1,(G2 2).ss 0⟩)) 31)] fun _ _ G3=>?_;intro S s;have e1:l1=Bg.oD (Bg.RtB e c∧Bg.RtB h d) (Bg.zv e c * Bg.zv h d):=by rw [hl1]
  subst e1;have e0:n1=Bg.oS (Bg.RtB e c∧Bg.RtB h d) (Bg.zv e c * Bg.zv h d):=by rw [hn1]
  exact V.rt [2] [(G2 2).ss 0] [fun _=>{}] [] [2] [] (ag (DBig.mk n1 ⟨(Bg.oD (Bg.RtB e c∧Bg.RtB h d) (Bg.zv e c * Bg.zv h d)),(G2 2).ss 0⟩)) (cong1 (fun (x0:Int)=>(.agg #[iv x0,((G2 2).ss 0).v]:Value)) e0)
theorem times_ctv (c:Int) (a:List Int) (e:SV) (d:Int) (b:List Int) (f:SV) (hla:a.length≤274877906944) (hlb:b.length≤274877906944) (rv0:Int) (erv0:rv0=Bg.oS (Bg.RtB c a∧Bg.RtB d b) (Bg.zv c a * Bg.zv d b)) (rv1:List Int) (erv1:rv1=Bg.oD (Bg.RtB c a∧Bg.RtB d b) (Bg.zv c a * Bg.zv d b)) :
    Ct Try.prog 39 #[ag (DBig.mk c ⟨a,e⟩),ag (DBig.mk d ⟨b,f⟩)] [fs true a e,fs true b f] [] (fun g=>ag (DBig.mk rv0 ⟨rv1,(g.ss 0)⟩)) (fun g=>[fs true rv1 (g.ss 0)]) (fun g=>[]) (fun g=>[]):=by
  subst erv0 erv1;exact times_ct c a e d b f hla hlb
set_option maxRecDepth 10000 in
theorem new_ct (i:Int) (d:List Int) (j:SV) (c:Int) (e:List Int) (l:SV) (hlp:d.length≤274877906944) (hlq:e.length≤274877906944) :
    Ct Try.prog 38 #[ag (DBig.mk i ⟨d,j⟩),ag (DBig.mk c ⟨e,l⟩)] [fs true d j,fs true e l] [] (fun g=>.tuple #[ag (DFrac.mk ⟨(Fr.rS ((Bg.RtB i d∧Bg.RtB c e)∧c≠0) (Rat.divInt (Bg.zv i d) (Bg.zv c e))),Fr.rD ((Bg.RtB i d∧Bg.RtB c e)∧c≠0) (Rat.divInt (Bg.zv i d) (Bg.zv c e)),(g.ss 0)⟩ ⟨(Fr.rT ((Bg.RtB i d∧Bg.RtB c e)∧c≠0)),Fr.rE ((Bg.RtB i d∧Bg.RtB c e)∧c≠0) (Rat.divInt (Bg.zv i d) (Bg.zv c e)),(g.ss 1)⟩),iv (if ¬ (Bg.RtB i d∧Bg.RtB c e) then (1:Int) else if c=0 then 15 else 0)]) (fun g=>[fs true (Fr.rD ((Bg.RtB i d∧Bg.RtB c e)∧c≠0) (Rat.divInt (Bg.zv i d) (Bg.zv c e))) (g.ss 0),fs true (Fr.rE ((Bg.RtB i d∧Bg.RtB c e)∧c≠0) (Rat.divInt (Bg.zv i d) (Bg.zv c e))) (g.ss 1)]) (fun g=>[]) (fun g=>[]):=by
  refine V.fn mo Try.func38 60 8 (by kernel_rfl) fun w H ε k0=>?_;obtain ⟨⟨kl1, -⟩,⟨kl2, -⟩, -⟩:Lq d j.v∧Lq e l.v∧True:=kq k0
  clear k0;refine V.g [.nb 0 0 (fun b=>pp b 0) 31 (fun _=>ca (DBig.mk i ⟨d,j⟩)),.nb 1 1 (fun b=>pp b 0) 31 (fun _=>ca (DBig.mk c ⟨e,l⟩)),.nb 2 2 (fun b=>pp b 0) 33 (fun _=>ca (DFrac.mk ⟨0,[],{}⟩ ⟨0,[],{}⟩)),.k (iv 0)] fun _ _ G1=>?_;intro S s
  refine nm ((!(decide (Bg.RtB i d))) || (!(decide (Bg.RtB c e))):Bool) fun p1 hp1=>?_;refine V.g [.ld 0 0 true (fun _=>Dat.cells (DBig.mk i ⟨d,j⟩)),.cp g0 1 51 [(kf false (.f 0) d (fun _=>j)).a] (fun _ G=>bright_ct i d j),.k (bv (!(decide (Bg.RtB i d)))),.k (bv (!(decide (Bg.RtB i d)))),.ld 1 0 true (fun _=>Dat.cells (DBig.mk c ⟨e,l⟩)),.cp (gF (b:=!(decide (Bg.RtB i d))) (iNF iDT)) 5 51 [(kf false (.f 1) e (fun _=>l)).a] (fun hg G=>bright_ct c e l),.k (bv (!(decide (Bg.RtB c e)))),.orn g0 false (!(decide (Bg.RtB i d))) (!(decide (Bg.RtB c e))) p1 hp1,.k (bv p1)] fun _ _ G2=>?_;intro S s
  refine V.cn (b:=p1) (iN hp1 (iOT (iNT iDF) (iNT iDF))) (iN hp1 (iOF (iNF iDT) (iNF iDT))) (fun q1=>?_) (fun q2=>?_)
  · have hNR:¬ (Bg.RtB i d∧Bg.RtB c e):=by rintro ⟨h1,h2⟩;rcases q1 with h | h;exact h h1;exact h h2
    refine V.g [.k (ag (DFrac.mk ⟨0,[],{}⟩ ⟨0,[],{}⟩)),.st 2 (fun _=>.blk ((G1 2).b) (ca (DFrac.mk ⟨0,[],{}⟩ ⟨0,[],{}⟩)) 33),.k (iv 1)] fun _ _ G3=>?_;intro S s
    refine V.nilF (α:=Int) ?_;refine V.nilF (α:=Int) ?_;have e1:([]:List Int)=Fr.rD ((Bg.RtB i d∧Bg.RtB c e)∧c≠0) (Rat.divInt (Bg.zv i d) (Bg.zv c e)):=(Fr.Fz.no (fun h=>hNR h.1) (Rat.divInt (Bg.zv i d) (Bg.zv c e))).2.1;rw [←e1];have e3:([]:List Int)=Fr.rE ((Bg.RtB i d∧Bg.RtB c e)∧c≠0) (Rat.divInt (Bg.zv i d) (Bg.zv c e)):=(Fr.Fz.no (fun h=>hNR h.1) (Rat.divInt (Bg.zv i d) (Bg.zv c e))).2.2.2;rw [←e3];have e0:(0:Int)=Fr.rS ((Bg.RtB i d∧Bg.RtB c e)∧c≠0) (Rat.divInt (Bg.zv i d) (Bg.zv c e)):=(Fr.Fz.no (fun h=>hNR h.1) (Rat.divInt (Bg.zv i d) (Bg.zv c e))).1;have e2:(0:Int)=Fr.rT ((Bg.RtB i d∧Bg.RtB c e)∧c≠0):=(Fr.Fz.no (fun h=>hNR h.1) (Rat.divInt (Bg.zv i d) (Bg.zv c e))).2.2.1;have e4:(1:Int)=if ¬ (Bg.RtB i d∧Bg.RtB c e) then (1:Int) else if c=0 then 15 else 0:=(if_pos hNR).symm
    exact V.rt [2,0] [{},{}] [fun _=>{},fun _=>{}] [] [2,3] [] (.tuple #[ag (DFrac.mk ⟨0,([]:List Int),{}⟩ ⟨0,([]:List Int),{}⟩),iv 1]) (cong3 (fun (x0 x2 x4:Int)=>(.tuple #[.agg #[iv x0,SV.v ({}),iv x2,SV.v ({})],iv x4]:Value)) e0 e2 e4)
  have hRR:(Bg.RtB i d∧Bg.RtB c e):=by first | exact q2 | exact ⟨Decidable.not_not.1 (q2).1,Decidable.not_not.1 (q2).2⟩
  refine V.g [.k (pp ((G1 1).b) 0),.ld 1 0 false (fun _=>[iv c]),.k (bv (decide (c=0))),.k (bv (decide (c=0)))] fun _ _ G4=>?_;intro S s
  refine V.cn (b:=decide (c=0)) iDT iDF (fun q3=>?_) (fun q4=>?_)
  · have hz0:c=0:=q3;refine V.g [.k (ag (DFrac.mk ⟨0,[],{}⟩ ⟨0,[],{}⟩)),.st 2 (fun _=>.blk ((G1 2).b) (ca (DFrac.mk ⟨0,[],{}⟩ ⟨0,[],{}⟩)) 33),.k (iv 15)] fun _ _ G5=>?_;intro S s
    refine V.nilF (α:=Int) ?_;refine V.nilF (α:=Int) ?_;have e1:([]:List Int)=Fr.rD ((Bg.RtB i d∧Bg.RtB c e)∧c≠0) (Rat.divInt (Bg.zv i d) (Bg.zv c e)):=(Fr.Fz.no (fun h=>h.2 hz0) (Rat.divInt (Bg.zv i d) (Bg.zv c e))).2.1;rw [←e1];have e3:([]:List Int)=Fr.rE ((Bg.RtB i d∧Bg.RtB c e)∧c≠0) (Rat.divInt (Bg.zv i d) (Bg.zv c e)):=(Fr.Fz.no (fun h=>h.2 hz0) (Rat.divInt (Bg.zv i d) (Bg.zv c e))).2.2.2;rw [←e3];have e0:(0:Int)=Fr.rS ((Bg.RtB i d∧Bg.RtB c e)∧c≠0) (Rat.divInt (Bg.zv i d) (Bg.zv c e)):=(Fr.Fz.no (fun h=>h.2 hz0) (Rat.divInt (Bg.zv i d) (Bg.zv c e))).1;have e2:(0:Int)=Fr.rT ((Bg.RtB i d∧Bg.RtB c e)∧c≠0):=(Fr.Fz.no (fun h=>h.2 hz0) (Rat.divInt (Bg.zv i d) (Bg.zv c e))).2.2.1;have e4:(15:Int)=if ¬ (Bg.RtB i d∧Bg.RtB c e) then (1:Int) else if c=0 then 15 else 0:=by rw [if_neg (fun h=>h hRR),if_pos hz0]
    exact V.rt [2,0] [{},{}] [fun _=>{},fun _=>{}] [] [2,3] [] (.tuple #[ag (DFrac.mk ⟨0,([]:List Int),{}⟩ ⟨0,([]:List Int),{}⟩),iv 15]) (cong3 (fun (x0 x2 x4:Int)=>(.tuple #[.agg #[iv x0,SV.v ({}),iv x2,SV.v ({})],iv x4]:Value)) e0 e2 e4)
  have hz0:¬ c=0:=q4;refine V.g [.k (pp ((G1 1).b) 0),.ld 1 0 false (fun _=>[iv c]),.k (bv (decide (c < 0))),.k (bv (decide (c < 0)))] fun _ _ G6=>?_;intro S s
  refine V.cn (b:=decide (c < 0)) iDT iDF (fun q5=>?_) (fun q6=>?_)
  · refine nm (Bg.oS (Bg.RtB i d) (-Bg.zv i d):Int) fun n1 hn1=>?_;refine nl (Bg.oD (Bg.RtB i d) (-Bg.zv i d)) fun l1 hl1 hl1n=>?_;refine nm (Bg.oS (Bg.RtB c e) (-Bg.zv c e):Int) fun n2 hn2=>?_;refine nl (Bg.oD (Bg.RtB c e) (-Bg.zv c e)) fun l2 hl2 hl2n=>?_;obtain ⟨zp,zpl⟩:=Fr.Bz.neg (Fr.RtB.z hRR.1) hn1 hl1
    obtain ⟨zq,zql⟩:=Fr.Bz.neg (Fr.RtB.z hRR.2) hn2 hl2;have hyp:0 < -(Bg.zv c e):=by have:=(Fr.RtB.z hRR.2).neg0 q5;omega
    have hdv:Rat.divInt (-(Bg.zv i d)) (-(Bg.zv c e))=Rat.divInt (Bg.zv i d) (Bg.zv c e):=Rat.neg_divInt_neg _ _;refine V.r [.ld 0 0 true (fun _=>Dat.cells (DBig.mk i ⟨d,j⟩)),.ct g0 1 76 false [] [] [(kf false (.f 0) d (fun _=>j)).a] (fun _ G=>neg_ctv i d j (by omega) n1 hn1 l1 hl1),.ld 1 0 true (fun _=>Dat.cells (DBig.mk c ⟨e,l⟩)),.ct g0 3 76 false [] [] [(kf false (.f 1) e (fun _=>l)).a] (fun _ G=>neg_ctv c e l (by omega) n2 hn2 l2 hl2),.st 0 (fun G=>.blk ((G1 0).b) (ca (DBig.mk n1 ⟨l1,(G 1).ss 0⟩)) 31),.st 1 (fun G=>.blk ((G1 1).b) (ca (DBig.mk n2 ⟨l2,(G 3).ss 0⟩)) 31)] fun _ _ G7 kw7=>?_;intro S s
    obtain ⟨⟨kl3, -⟩,⟨kl4, -⟩, -⟩:Lq l1 (((G7 1).ss 0).v)∧Lq l2 (((G7 3).ss 0).v)∧True:=kq kw7;clear kw7;refine nm (Bg.oS (Bg.RtB n1 l1∧Bg.RtB n2 l2) ((Nat.gcd (Bg.nv l1) (Bg.nv l2):Int)):Int) fun n3 hn3=>?_;refine nl (Bg.oD (Bg.RtB n1 l1∧Bg.RtB n2 l2) ((Nat.gcd (Bg.nv l1) (Bg.nv l2):Int))) fun l3 hl3 hl3n=>?_;refine nm (if (Bg.RtB n1 l1∧Bg.RtB n2 l2) then (0:Int) else 1:Int) fun n4 hn4=>?_;have zg:=Fr.Bz.gcd zp zq hn3 hl3;have zgl:=Fr.Bz.gcd_len zp zq hyp zg;have hg0:=Fr.gcd_pos zg hyp;refine V.r [.ld 0 0 true (fun _=>Dat.cells (DBig.mk n1 ⟨l1,(G7 1).ss 0⟩)),.ld 1 0 true (fun _=>Dat.cells (DBig.mk n2 ⟨l2,(G7 3).ss 0⟩)),.ct g0 2 52 false [] [] [(kf true (.f 2) l1 (fun _=>(G7 1).ss 0)).a,(kf true (.f 3) l2 (fun _=>(G7 3).ss 0)).a] (fun _ G=>Gcd_ctv n1 l1 ((G7 1).ss 0) n2 l2 ((G7 3).ss 0) (by omega) (by omega) n3 hn3 l3 hl3 n4 hn4),.v fun G=>.tuple #[ag (DBig.mk n3 ⟨l3,(G 2).ss 0⟩),iv n4],.v fun G=>ag (DBig.mk n3 ⟨l3,(G 2).ss 0⟩),.k (iv n4),.nb 6 3 (fun b=>pp b 0) 31 (fun _=>ca (DBig.mk 0 ⟨[],{}⟩)),.st 3 (fun G=>.blk ((G 6).b) (ca (DBig.mk n3 ⟨l3,(G 2).ss 0⟩)) 31),.k (iv n4)] fun _ _ G8 kw8=>?_;intro S s;obtain ⟨⟨kl5, -⟩, -⟩:Lq l3 (((G8 2).ss 0).v)∧True:=kq kw8;clear kw8;refine nm (Bg.oS ((Bg.RtB n1 l1∧Bg.RtB n3 l3)∧n3≠0) (Bg.flo (Bg.zv n1 l1) (Bg.zv n3 l3)):Int) fun n5 hn5=>?_;refine nl (Bg.oD ((Bg.RtB n1 l1∧Bg.RtB n3 l3)∧n3≠0) (Bg.flo (Bg.zv n1 l1) (Bg.zv n3 l3))) fun l4 hl4 hl4n=>?_;refine nm (Bg.oS ((Bg.RtB n1 l1∧Bg.RtB n3 l3)∧n3≠0) (Bg.fmo (Bg.zv n1 l1) (Bg.zv n3 l3)):Int) fun n6 hn6=>?_;refine nl (Bg.oD ((Bg.RtB n1 l1∧Bg.RtB n3 l3)∧n3≠0) (Bg.fmo (Bg.zv n1 l1) (Bg.zv n3 l3))) fun l5 hl5 hl5n=>?_;refine nm (if ¬ (Bg.RtB n1 l1∧Bg.RtB n3 l3) then (1:Int) else if n3=0 then 15 else 0:Int) fun n7 hn7=>?_;have za:=Fr.Bz.div zp zg hg0 hn5 hl4;refine V.r [.ld 0 0 true (fun _=>Dat.cells (DBig.mk n1 ⟨l1,(G7 1).ss 0⟩)),.ld 3 0 true (fun _=>Dat.cells (DBig.mk n3 ⟨l3,(G8 2).ss 0⟩)),.ct g0 2 77 false [] [] [(kf true (.f 2) l1 (fun _=>(G7 1).ss 0)).a,(kf true (.f 4) l3 (fun _=>(G8 2).ss 0)).a] (fun _ G=>Div_ctv n1 l1 ((G7 1).ss 0) n3 l3 ((G8 2).ss 0) (by omega) (by omega) n5 hn5 l4 hl4 n6 hn6 l5 hl5 n7 hn7),.v fun G=>.tuple #[ag (DBig.mk n5 ⟨l4,(G 2).ss 0⟩),ag (DBig.mk n6 ⟨l5,(G 2).ss 1⟩),iv n7],.v fun G=>ag (DBig.mk n5 ⟨l4,(G 2).ss 0⟩),.v fun G=>ag (DBig.mk n6 ⟨l5,(G 2).ss 1⟩),.k (iv n7),.nb 7 4 (fun b=>pp b 0) 31 (fun _=>ca (DBig.mk 0 ⟨[],{}⟩)),.nb 8 5 (fun b=>pp b 0) 31 (fun _=>ca (DBig.mk 0 ⟨[],{}⟩)),.st 4 (fun G=>.blk ((G 7).b) (ca (DBig.mk n5 ⟨l4,(G 2).ss 0⟩)) 31),.st 5 (fun G=>.blk ((G 8).b) (ca (DBig.mk n6 ⟨l5,(G 2).ss 1⟩)) 31),.k (iv n7)] fun _ _ G9 kw9=>?_;intro S s;obtain ⟨⟨kl6, -⟩,⟨kl7, -⟩, -⟩:Lq l4 (((G9 2).ss 0).v)∧Lq l5 (((G9 2).ss 1).v)∧True:=kq kw9;clear kw9;refine nm (Bg.oS ((Bg.RtB n2 l2∧Bg.RtB n3 l3)∧n3≠0) (Bg.flo (Bg.zv n2 l2) (Bg.zv n3 l3)):Int) fun n8 hn8=>?_;refine nl (Bg.oD ((Bg.RtB n2 l2∧Bg.RtB n3 l3)∧n3≠0) (Bg.flo (Bg.zv n2 l2) (Bg.zv n3 l3))) fun l6 hl6 hl6n=>?_;refine nm (Bg.oS ((Bg.RtB n2 l2∧Bg.RtB n3 l3)∧n3≠0) (Bg.fmo (Bg.zv n2 l2) (Bg.zv n3 l3)):Int) fun n9 hn9=>?_;refine nl (Bg.oD ((Bg.RtB n2 l2∧Bg.RtB n3 l3)∧n3≠0) (Bg.fmo (Bg.zv n2 l2) (Bg.zv n3 l3))) fun l7 hl7 hl7n=>?_;refine nm (if ¬ (Bg.RtB n2 l2∧Bg.RtB n3 l3) then (1:Int) else if n3=0 then 15 else 0:Int) fun n10 hn10=>?_;have zb:=Fr.Bz.div zq zg hg0 hn8 hl6;refine V.r [.ld 1 0 true (fun _=>Dat.cells (DBig.mk n2 ⟨l2,(G7 3).ss 0⟩)),.ld 3 0 true (fun _=>Dat.cells (DBig.mk n3 ⟨l3,(G8 2).ss 0⟩)),.ct g0 2 77 false [] [] [(kf true (.f 3) l2 (fun _=>(G7 3).ss 0)).a,(kf true (.f 4) l3 (fun _=>(G8 2).ss 0)).a] (fun _ G=>Div_ctv n2 l2 ((G7 3).ss 0) n3 l3 ((G8 2).ss 0) (by omega) (by omega) n8 hn8 l6 hl6 n9 hn9 l7 hl7 n10 hn10),.v fun G=>.tuple #[ag (DBig.mk n8 ⟨l6,(G 2).ss 0⟩),ag (DBig.mk n9 ⟨l7,(G 2).ss 1⟩),iv n10],.v fun G=>ag (DBig.mk n8 ⟨l6,(G 2).ss 0⟩),.v fun G=>ag (DBig.mk n9 ⟨l7,(G 2).ss 1⟩),.k (iv n10),.nb 7 6 (fun b=>pp b 0) 31 (fun _=>ca (DBig.mk 0 ⟨[],{}⟩)),.nb 8 7 (fun b=>pp b 0) 31 (fun _=>ca (DBig.mk 0 ⟨[],{}⟩)),.st 6 (fun G=>.blk ((G 7).b) (ca (DBig.mk n8 ⟨l6,(G 2).ss 0⟩)) 31),.st 7 (fun G=>.blk ((G 8).b) (ca (DBig.mk n9 ⟨l7,(G 2).ss 1⟩)) 31),.k (iv n10)] fun _ _ G10 kw10=>?_;intro S s;obtain ⟨⟨kl8, -⟩,⟨kl9, -⟩, -⟩:Lq l6 (((G10 2).ss 0).v)∧Lq l7 (((G10 2).ss 1).v)∧True:=kq kw10;clear kw10;refine V.g [.ld 4 0 true (fun _=>Dat.cells (DBig.mk n5 ⟨l4,(G9 2).ss 0⟩)),.ld 6 0 true (fun _=>Dat.cells (DBig.mk n8 ⟨l6,(G10 2).ss 0⟩)),.k (ag (DFrac.mk ⟨n5,l4,(G9 2).ss 0⟩ ⟨n8,l6,(G10 2).ss 0⟩)),.st 2 (fun _=>.blk ((G1 2).b) (ca (DFrac.mk ⟨n5,l4,(G9 2).ss 0⟩ ⟨n8,l6,(G10 2).ss 0⟩)) 33),.k (iv 0)] fun _ _ G11=>?_;intro S s;have e1:l4=Fr.rD ((Bg.RtB i d∧Bg.RtB c e)∧c≠0) (Rat.divInt (Bg.zv i d) (Bg.zv c e)):=(Fr.Fz.ret (Fr.new_fin zp zq hyp zg za zb) ⟨hRR,hz0⟩ (hdv)).2.1;subst e1;have e3:l6=Fr.rE ((Bg.RtB i d∧Bg.RtB c e)∧c≠0) (Rat.divInt (Bg.zv i d) (Bg.zv c e)):=(Fr.Fz.ret (Fr.new_fin zp zq hyp zg za zb) ⟨hRR,hz0⟩ (hdv)).2.2.2;subst e3;have e0:n5=Fr.rS ((Bg.RtB i d∧Bg.RtB c e)∧c≠0) (Rat.divInt (Bg.zv i d) (Bg.zv c e)):=(Fr.Fz.ret (Fr.new_fin zp zq hyp zg za zb) ⟨hRR,hz0⟩ (hdv)).1;have e2:n8=Fr.rT ((Bg.RtB i d∧Bg.RtB c e)∧c≠0):=(Fr.Fz.ret (Fr.new_fin zp zq hyp zg za zb) ⟨hRR,hz0⟩ (hdv)).2.2.1;have e4:(0:Int)=if ¬ (Bg.RtB i d∧Bg.RtB c e) then (1:Int) else if c=0 then 15 else 0:=by rw [if_neg (fun h=>h hRR),if_neg hz0]
    exact V.rt [2,0] [(G9 2).ss 0,(G10 2).ss 0] [fun _=>{},fun _=>{}] [] [5,7] [] (.tuple #[ag (DFrac.mk ⟨n5,(Fr.rD ((Bg.RtB i d∧Bg.RtB c e)∧c≠0) (Rat.divInt (Bg.zv i d) (Bg.zv c e))),(G9 2).ss 0⟩ ⟨n8,(Fr.rE ((Bg.RtB i d∧Bg.RtB c e)∧c≠0) (Rat.divInt (Bg.zv i d) (Bg.zv c e))),(G10 2).ss 0⟩),iv 0]) (cong3 (fun (x0 x2 x4:Int)=>(.tuple #[.agg #[iv x0,((G9 2).ss 0).v,iv x2,((G10 2).ss 0).v],iv x4]:Value)) e0 e2 e4)
  have zp:=Fr.RtB.z hRR.1;have zq:=Fr.RtB.z hRR.2;have hyp:0 < (Bg.zv c e):=zq.pos (by omega);have hdv:Rat.divInt (Bg.zv i d) (Bg.zv c e)=Rat.divInt (Bg.zv i d) (Bg.zv c e):=rfl;refine nm (Bg.oS (Bg.RtB i d∧Bg.RtB c e) ((Nat.gcd (Bg.nv d) (Bg.nv e):Int)):Int) fun n11 hn11=>?_;refine nl (Bg.oD (Bg.RtB i d∧Bg.RtB c e) ((Nat.gcd (Bg.nv d) (Bg.nv e):Int))) fun l8 hl8 hl8n=>?_;refine nm (if (Bg.RtB i d∧Bg.RtB c e) then (0:Int) else 1:Int) fun n12 hn12=>?_;have zg:=Fr.Bz.gcd zp zq hn11 hl8
  have zgl:=Fr.Bz.gcd_len zp zq hyp zg;have hg0:=Fr.gcd_pos zg hyp;refine V.r [.ld 0 0 true (fun _=>Dat.cells (DBig.mk i ⟨d,j⟩)),.ld 1 0 true (fun _=>Dat.cells (DBig.mk c ⟨e,l⟩)),.ct g0 2 52 false [] [] [(kf false (.f 0) d (fun _=>j)).a,(kf false (.f 1) e (fun _=>l)).a] (fun _ G=>Gcd_ctv i d j c e l (by omega) (by omega) n11 hn11 l8 hl8 n12 hn12),.v fun G=>.tuple #[ag (DBig.mk n11 ⟨l8,(G 2).ss 0⟩),iv n12],.v fun G=>ag (DBig.mk n11 ⟨l8,(G 2).ss 0⟩),.k (iv n12),.nb 6 3 (fun b=>pp b 0) 31 (fun _=>ca (DBig.mk 0 ⟨[],{}⟩)),.st 3 (fun G=>.blk ((G 6).b) (ca (DBig.mk n11 ⟨l8,(G 2).ss 0⟩)) 31),.k (iv n12)] fun _ _ G12 kw12=>?_;intro S s
  obtain ⟨⟨kl10, -⟩, -⟩:Lq l8 (((G12 2).ss 0).v)∧True:=kq kw12;clear kw12;refine nm (Bg.oS ((Bg.RtB i d∧Bg.RtB n11 l8)∧n11≠0) (Bg.flo (Bg.zv i d) (Bg.zv n11 l8)):Int) fun n13 hn13=>?_;refine nl (Bg.oD ((Bg.RtB i d∧Bg.RtB n11 l8)∧n11≠0) (Bg.flo (Bg.zv i d) (Bg.zv n11 l8))) fun l9 hl9 hl9n=>?_;refine nm (Bg.oS ((Bg.RtB i d∧Bg.RtB n11 l8)∧n11≠0) (Bg.fmo (Bg.zv i d) (Bg.zv n11 l8)):Int) fun n14 hn14=>?_;refine nl (Bg.oD ((Bg.RtB i d∧Bg.RtB n11 l8)∧n11≠0) (Bg.fmo (Bg.zv i d) (Bg.zv n11 l8))) fun l10 hl10 hl10n=>?_;refine nm (if ¬ (Bg.RtB i d∧Bg.RtB n11 l8) then (1:Int) else if n11=0 then 15 else 0:Int) fun n15 hn15=>?_;have za:=Fr.Bz.div zp zg hg0 hn13 hl9;refine V.r [.ld 0 0 true (fun _=>Dat.cells (DBig.mk i ⟨d,j⟩)),.ld 3 0 true (fun _=>Dat.cells (DBig.mk n11 ⟨l8,(G12 2).ss 0⟩)),.ct g0 2 77 false [] [] [(kf false (.f 0) d (fun _=>j)).a,(kf true (.f 2) l8 (fun _=>(G12 2).ss 0)).a] (fun _ G=>Div_ctv i d j n11 l8 ((G12 2).ss 0) (by omega) (by omega) n13 hn13 l9 hl9 n14 hn14 l10 hl10 n15 hn15),.v fun G=>.tuple #[ag (DBig.mk n13 ⟨l9,(G 2).ss 0⟩),ag (DBig.mk n14 ⟨l10,(G 2).ss 1⟩),iv n15],.v fun G=>ag (DBig.mk n13 ⟨l9,(G 2).ss 0⟩),.v fun G=>ag (DBig.mk n14 ⟨l10,(G 2).ss 1⟩),.k (iv n15),.nb 7 4 (fun b=>pp b 0) 31 (fun _=>ca (DBig.mk 0 ⟨[],{}⟩)),.nb 8 5 (fun b=>pp b 0) 31 (fun _=>ca (DBig.mk 0 ⟨[],{}⟩)),.st 4 (fun G=>.blk ((G 7).b) (ca (DBig.mk n13 ⟨l9,(G 2).ss 0⟩)) 31),.st 5 (fun G=>.blk ((G 8).b) (ca (DBig.mk n14 ⟨l10,(G 2).ss 1⟩)) 31),.k (iv n15)] fun _ _ G13 kw13=>?_;intro S s;obtain ⟨⟨kl11, -⟩,⟨kl12, -⟩, -⟩:Lq l9 (((G13 2).ss 0).v)∧Lq l10 (((G13 2).ss 1).v)∧True:=kq kw13;clear kw13;refine nm (Bg.oS ((Bg.RtB c e∧Bg.RtB n11 l8)∧n11≠0) (Bg.flo (Bg.zv c e) (Bg.zv n11 l8)):Int) fun n16 hn16=>?_;refine nl (Bg.oD ((Bg.RtB c e∧Bg.RtB n11 l8)∧n11≠0) (Bg.flo (Bg.zv c e) (Bg.zv n11 l8))) fun l11 hl11 hl11n=>?_;refine nm (Bg.oS ((Bg.RtB c e∧Bg.RtB n11 l8)∧n11≠0) (Bg.fmo (Bg.zv c e) (Bg.zv n11 l8)):Int) fun n17 hn17=>?_;refine nl (Bg.oD ((Bg.RtB c e∧Bg.RtB n11 l8)∧n11≠0) (Bg.fmo (Bg.zv c e) (Bg.zv n11 l8))) fun l12 hl12 hl12n=>?_;refine nm (if ¬ (Bg.RtB c e∧Bg.RtB n11 l8) then (1:Int) else if n11=0 then 15 else 0:Int) fun n18 hn18=>?_;have zb:=Fr.Bz.div zq zg hg0 hn16 hl11;refine V.r [.ld 1 0 true (fun _=>Dat.cells (DBig.mk c ⟨e,l⟩)),.ld 3 0 true (fun _=>Dat.cells (DBig.mk n11 ⟨l8,(G12 2).ss 0⟩)),.ct g0 2 77 false [] [] [(kf false (.f 1) e (fun _=>l)).a,(kf true (.f 2) l8 (fun _=>(G12 2).ss 0)).a] (fun _ G=>Div_ctv c e l n11 l8 ((G12 2).ss 0) (by omega) (by omega) n16 hn16 l11 hl11 n17 hn17 l12 hl12 n18 hn18),.v fun G=>.tuple #[ag (DBig.mk n16 ⟨l11,(G 2).ss 0⟩),ag (DBig.mk n17 ⟨l12,(G 2).ss 1⟩),iv n18],.v fun G=>ag (DBig.mk n16 ⟨l11,(G 2).ss 0⟩),.v fun G=>ag (DBig.mk n17 ⟨l12,(G 2).ss 1⟩),.k (iv n18),.nb 7 6 (fun b=>pp b 0) 31 (fun _=>ca (DBig.mk 0 ⟨[],{}⟩)),.nb 8 7 (fun b=>pp b 0) 31 (fun _=>ca (DBig.mk 0 ⟨[],{}⟩)),.st 6 (fun G=>.blk ((G 7).b) (ca (DBig.mk n16 ⟨l11,(G 2).ss 0⟩)) 31),.st 7 (fun G=>.blk ((G 8).b) (ca (DBig.mk n17 ⟨l12,(G 2).ss 1⟩)) 31),.k (iv n18)] fun _ _ G14 kw14=>?_;intro S s;obtain ⟨⟨kl13, -⟩,⟨kl14, -⟩, -⟩:Lq l11 (((G14 2).ss 0).v)∧Lq l12 (((G14 2).ss 1).v)∧True:=kq kw14;clear kw14;refine V.g [.ld 4 0 true (fun _=>Dat.cells (DBig.mk n13 ⟨l9,(G13 2).ss 0⟩)),.ld 6 0 true (fun _=>Dat.cells (DBig.mk n16 ⟨l11,(G14 2).ss 0⟩)),.k (ag (DFrac.mk ⟨n13,l9,(G13 2).ss 0⟩ ⟨n16,l11,(G14 2).ss 0⟩)),.st 2 (fun _=>.blk ((G1 2).b) (ca (DFrac.mk ⟨n13,l9,(G13 2).ss 0⟩ ⟨n16,l11,(G14 2).ss 0⟩)) 33),.k (iv 0)] fun _ _ G15=>?_;intro S s;have e1:l9=Fr.rD ((Bg.RtB i d∧Bg.RtB c e)∧c≠0) (Rat.divInt (Bg.zv i d) (Bg.zv c e)):=(Fr.Fz.ret (Fr.new_fin zp zq hyp zg za zb) ⟨hRR,hz0⟩ (hdv)).2.1;subst e1;have e3:l11=Fr.rE ((Bg.RtB i d∧Bg.RtB c e)∧c≠0) (Rat.divInt (Bg.zv i d) (Bg.zv c e)):=(Fr.Fz.ret (Fr.new_fin zp zq hyp zg za zb) ⟨hRR,hz0⟩ (hdv)).2.2.2;subst e3;have e0:n13=Fr.rS ((Bg.RtB i d∧Bg.RtB c e)∧c≠0) (Rat.divInt (Bg.zv i d) (Bg.zv c e)):=(Fr.Fz.ret (Fr.new_fin zp zq hyp zg za zb) ⟨hRR,hz0⟩ (hdv)).1;have e2:n16=Fr.rT ((Bg.RtB i d∧Bg.RtB c e)∧c≠0):=(Fr.Fz.ret (Fr.new_fin zp zq hyp zg za zb) ⟨hRR,hz0⟩ (hdv)).2.2.1;have e4:(0:Int)=if ¬ (Bg.RtB i d∧Bg.RtB c e) then (1:Int) else if c=0 then 15 else 0:=by rw [if_neg (fun h=>h hRR),if_neg hz0]
  exact V.rt [2,0] [(G13 2).ss 0,(G14 2).ss 0] [fun _=>{},fun _=>{}] [] [3,5] [] (.tuple #[ag (DFrac.mk ⟨n13,(Fr.rD ((Bg.RtB i d∧Bg.RtB c e)∧c≠0) (Rat.divInt (Bg.zv i d) (Bg.zv c e))),(G13 2).ss 0⟩ ⟨n16,(Fr.rE ((Bg.RtB i d∧Bg.RtB c e)∧c≠0) (Rat.divInt (Bg.zv i d) (Bg.zv c e))),(G14 2).ss 0⟩),iv 0]) (cong3 (fun (x0 x2 x4:Int)=>(.tuple #[.agg #[iv x0,((G13 2).ss 0).v,iv x2,((G14 2).ss 0).v],iv x4]:Value)) e0 e2 e4)
theorem new_ctv (d:Int) (b:List Int) (e:SV) (a:Int) (c:List Int) (f:SV) (hlp:b.length≤274877906944) (hlq:c.length≤274877906944) (rv0:Int) (erv0:rv0=Fr.rS ((Bg.RtB d b∧Bg.RtB a c)∧a≠0) (Rat.divInt (Bg.zv d b) (Bg.zv a c))) (rv1:List Int) (erv1:rv1=Fr.rD ((Bg.RtB d b∧Bg.RtB a c)∧a≠0) (Rat.divInt (Bg.zv d b) (Bg.zv a c))) (rv2:Int) (erv2:rv2=Fr.rT ((Bg.RtB d b∧Bg.RtB a c)∧a≠0)) (rv3:List Int) (erv3:rv3=Fr.rE ((Bg.RtB d b∧Bg.RtB a c)∧a≠0) (Rat.divInt (Bg.zv d b) (Bg.zv a c))) (rv4:Int) (erv4:rv4=if ¬ (Bg.RtB d b∧Bg.RtB a c) then (1:Int) else if a=0 then 15 else 0) :
    Ct Try.prog 38 #[ag (DBig.mk d ⟨b,e⟩),ag (DBig.mk a ⟨c,f⟩)] [fs true b e,fs true c f] [] (fun g=>.tuple #[ag (DFrac.mk ⟨rv0,rv1,(g.ss 0)⟩ ⟨rv2,rv3,(g.ss 1)⟩),iv rv4]) (fun g=>[fs true rv1 (g.ss 0),fs true rv3 (g.ss 1)]) (fun g=>[]) (fun g=>[]):=by
  subst erv0 erv1 erv2 erv3 erv4;exact new_ct d b e a c f hlp hlq
set_option maxRecDepth 10000 in
theorem fint_ct (n:Int) (hn: -9223372036854775808≤n∧n≤9223372036854775807) :
    Ct Try.prog 18 #[iv n] [] [] (fun g=>ag (DFrac.mk ⟨(Bg.sgn n),Bg.dig n.natAbs,(g.ss 0)⟩ ⟨1,Bg.dig 1,(g.ss 1)⟩)) (fun g=>[fs true (Bg.dig n.natAbs) (g.ss 0),fs true (Bg.dig 1) (g.ss 1)]) (fun g=>[]) (fun g=>[]):=by
  refine V.fn mo Try.func18 7 1 (by kernel_rfl) fun w H ε k0=>?_;clear k0
  refine V.g [.nb 0 0 (fun b=>pp b 0) 33 (fun _=>ca (DFrac.mk ⟨0,[],{}⟩ ⟨0,[],{}⟩))] fun _ _ G1=>?_;intro S s
  refine nm (Bg.sgn n:Int) fun n1 hn1=>?_;refine nl (Bg.dig n.natAbs) fun l1 hl1 hl1n=>?_;refine nm (Bg.sgn (1:Int):Int) fun n2 hn2=>?_;refine nl (Bg.dig (1:Int).natAbs) fun l2 hl2 hl2n=>?_;refine V.r [.k (iv n),.ct g0 1 50 false [] [] [] (fun _ G=>of_ctv n (by omega) n1 hn1 l1 hl1),.ct g0 2 50 false [] [] [] (fun _ G=>of_ctv (1:Int) (by omega) n2 hn2 l2 hl2),.v fun G=>ag (DFrac.mk ⟨n1,l1,(G 1).ss 0⟩ ⟨n2,l2,(G 2).ss 0⟩),.st 0 (fun G=>.blk ((G1 0).b) (ca (DFrac.mk ⟨n1,l1,(G 1).ss 0⟩ ⟨n2,l2,(G 2).ss 0⟩)) 33)] fun _ _ G2 kw2=>?_;intro S s
  obtain ⟨⟨kl1, -⟩,⟨kl2, -⟩, -⟩:Lq l1 (((G2 1).ss 0).v)∧Lq l2 (((G2 2).ss 0).v)∧True:=kq kw2;clear kw2;have e1:l1=Bg.dig n.natAbs:=by subst_vars;rfl
  subst e1;have e3:l2=Bg.dig 1:=by subst_vars;rfl
  subst e3;have e0:n1=Bg.sgn n:=by subst_vars;rfl
  have e2:n2=1:=by subst_vars;rfl
  exact V.rt [0] [(G2 1).ss 0,(G2 2).ss 0] [fun _=>{},fun _=>{}] [] [0,1] [] (ag (DFrac.mk ⟨n1,(Bg.dig n.natAbs),(G2 1).ss 0⟩ ⟨n2,(Bg.dig 1),(G2 2).ss 0⟩)) (cong2 (fun (x0 x2:Int)=>(.agg #[iv x0,((G2 1).ss 0).v,iv x2,((G2 2).ss 0).v]:Value)) e0 e2)
theorem fint_ctv (n:Int) (hn: -9223372036854775808≤n∧n≤9223372036854775807) (rv0:Int) (erv0:rv0=Bg.sgn n) (rv1:List Int) (erv1:rv1=Bg.dig n.natAbs) (rv3:List Int) (erv3:rv3=Bg.dig 1) :
    Ct Try.prog 18 #[iv n] [] [] (fun g=>ag (DFrac.mk ⟨rv0,rv1,(g.ss 0)⟩ ⟨1,rv3,(g.ss 1)⟩)) (fun g=>[fs true rv1 (g.ss 0),fs true rv3 (g.ss 1)]) (fun g=>[]) (fun g=>[]):=by
  subst erv0 erv1 erv3;exact fint_ct n hn
set_option maxRecDepth 10000 in
theorem fadd_ct (j:Int) (e:List Int) (u:SV) (m:Int) (c:List Int) (o:SV) (l:Int) (i:List Int) (x:SV) (n:Int) (d:List Int) (t:SV) (haP:e.length≤17179869184) (haQ:c.length≤17179869184) (hbP:i.length≤17179869184) (hbQ:d.length≤17179869184) :
    Ct Try.prog 14 #[ag (DFrac.mk ⟨j,e,u⟩ ⟨m,c,o⟩),ag (DFrac.mk ⟨l,i,x⟩ ⟨n,d,t⟩)] [fs true e u,fs true c o,fs true i x,fs true d t] [] (fun g=>.tuple #[ag (DFrac.mk ⟨(Fr.rS (Fr.FrB j e m c∧Fr.FrB l i n d) ((Fr.fq j e c)+(Fr.fq l i d))),Fr.rD (Fr.FrB j e m c∧Fr.FrB l i n d) ((Fr.fq j e c)+(Fr.fq l i d)),(g.ss 0)⟩ ⟨(Fr.rT (Fr.FrB j e m c∧Fr.FrB l i n d)),Fr.rE (Fr.FrB j e m c∧Fr.FrB l i n d) ((Fr.fq j e c)+(Fr.fq l i d)),(g.ss 1)⟩),iv (if ¬ (Fr.FrB j e m c∧Fr.FrB l i n d) then (1:Int) else 0)]) (fun g=>[fs true (Fr.rD (Fr.FrB j e m c∧Fr.FrB l i n d) ((Fr.fq j e c)+(Fr.fq l i d))) (g.ss 0),fs true (Fr.rE (Fr.FrB j e m c∧Fr.FrB l i n d) ((Fr.fq j e c)+(Fr.fq l i d))) (g.ss 1)]) (fun g=>[]) (fun g=>[]):=by
  refine V.fn mo Try.func14 40 4 (by kernel_rfl) fun w H ε k0=>?_;obtain ⟨⟨kl1, -⟩,⟨kl2, -⟩,⟨kl3, -⟩,⟨kl4, -⟩, -⟩:Lq e u.v∧Lq c o.v∧Lq i x.v∧Lq d t.v∧True:=kq k0
  clear k0;refine V.g [.nb 0 0 (fun b=>pp b 0) 33 (fun _=>ca (DFrac.mk ⟨j,e,u⟩ ⟨m,c,o⟩)),.nb 1 1 (fun b=>pp b 0) 33 (fun _=>ca (DFrac.mk ⟨l,i,x⟩ ⟨n,d,t⟩)),.nb 2 2 (fun b=>pp b 0) 33 (fun _=>ca (DFrac.mk ⟨0,[],{}⟩ ⟨0,[],{}⟩)),.k (iv 0)] fun _ _ G1=>?_;intro S s
  refine nm ((!(decide (Fr.FrB j e m c))) || (!(decide (Fr.FrB l i n d))):Bool) fun p1 hp1=>?_;refine V.g [.ld 0 0 true (fun _=>Dat.cells (DFrac.mk ⟨j,e,u⟩ ⟨m,c,o⟩)),.cp g0 1 19 [(kf false (.f 0) e (fun _=>u)).a,(kf false (.f 1) c (fun _=>o)).a] (fun _ G=>right_ct j e u m c o (by omega) (by omega)),.k (bv (!(decide (Fr.FrB j e m c)))),.k (bv (!(decide (Fr.FrB j e m c)))),.ld 1 0 true (fun _=>Dat.cells (DFrac.mk ⟨l,i,x⟩ ⟨n,d,t⟩)),.cp (gF (b:=!(decide (Fr.FrB j e m c))) (iNF iDT)) 5 19 [(kf false (.f 2) i (fun _=>x)).a,(kf false (.f 3) d (fun _=>t)).a] (fun hg G=>right_ct l i x n d t (by omega) (by omega)),.k (bv (!(decide (Fr.FrB l i n d)))),.orn g0 false (!(decide (Fr.FrB j e m c))) (!(decide (Fr.FrB l i n d))) p1 hp1] fun _ _ G2=>?_;intro S s
  refine V.cn (b:=p1) (iN hp1 (iOT (iNT iDF) (iNT iDF))) (iN hp1 (iOF (iNF iDT) (iNF iDT))) (fun q1=>?_) (fun q2=>?_)
  · have hNR:¬ (Fr.FrB j e m c∧Fr.FrB l i n d):=by rintro ⟨h1,h2⟩;rcases q1 with h | h;exact h h1;exact h h2
    refine V.g [.k (ag (DFrac.mk ⟨0,[],{}⟩ ⟨0,[],{}⟩)),.st 2 (fun _=>.blk ((G1 2).b) (ca (DFrac.mk ⟨0,[],{}⟩ ⟨0,[],{}⟩)) 33),.k (iv 1)] fun _ _ G3=>?_;intro S s
    refine V.nilF (α:=Int) ?_;refine V.nilF (α:=Int) ?_;have e1:([]:List Int)=Fr.rD (Fr.FrB j e m c∧Fr.FrB l i n d) ((Fr.fq j e c)+(Fr.fq l i d)):=(Fr.Fz.no hNR ((Fr.fq j e c)+(Fr.fq l i d))).2.1;rw [←e1];have e3:([]:List Int)=Fr.rE (Fr.FrB j e m c∧Fr.FrB l i n d) ((Fr.fq j e c)+(Fr.fq l i d)):=(Fr.Fz.no hNR ((Fr.fq j e c)+(Fr.fq l i d))).2.2.2;rw [←e3];have e0:(0:Int)=Fr.rS (Fr.FrB j e m c∧Fr.FrB l i n d) ((Fr.fq j e c)+(Fr.fq l i d)):=(Fr.Fz.no hNR ((Fr.fq j e c)+(Fr.fq l i d))).1;have e2:(0:Int)=Fr.rT (Fr.FrB j e m c∧Fr.FrB l i n d):=(Fr.Fz.no hNR ((Fr.fq j e c)+(Fr.fq l i d))).2.2.1;have e4:(1:Int)=if ¬ (Fr.FrB j e m c∧Fr.FrB l i n d) then (1:Int) else 0:=(if_pos hNR).symm
    exact V.rt [2,0] [{},{}] [fun _=>{},fun _=>{}] [] [4,5] [] (.tuple #[ag (DFrac.mk ⟨0,([]:List Int),{}⟩ ⟨0,([]:List Int),{}⟩),iv 1]) (cong3 (fun (x0 x2 x4:Int)=>(.tuple #[.agg #[iv x0,SV.v ({}),iv x2,SV.v ({})],iv x4]:Value)) e0 e2 e4)
  have hRR:Fr.FrB j e m c∧Fr.FrB l i n d:=by first | exact q2 | exact ⟨Decidable.not_not.1 (q2).1,Decidable.not_not.1 (q2).2⟩
  have fa:=Fr.FrB.z hRR.1;have fb:=Fr.FrB.z hRR.2;refine nm (Bg.oS (Bg.RtB j e∧Bg.RtB n d) (Bg.zv j e * Bg.zv n d):Int) fun n1 hn1=>?_;refine nl (Bg.oD (Bg.RtB j e∧Bg.RtB n d) (Bg.zv j e * Bg.zv n d)) fun l1 hl1 hl1n=>?_;refine nm (Bg.oS (Bg.RtB l i∧Bg.RtB m c) (Bg.zv l i * Bg.zv m c):Int) fun n2 hn2=>?_;refine nl (Bg.oD (Bg.RtB l i∧Bg.RtB m c) (Bg.zv l i * Bg.zv m c)) fun l2 hl2 hl2n=>?_;refine nm (Bg.oS (Bg.RtB n1 l1∧Bg.RtB n2 l2) (Bg.zv n1 l1+Bg.zv n2 l2):Int) fun n3 hn3=>?_;refine nl (Bg.oD (Bg.RtB n1 l1∧Bg.RtB n2 l2) (Bg.zv n1 l1+Bg.zv n2 l2)) fun l3 hl3 hl3n=>?_;refine nm (if (Bg.RtB n1 l1∧Bg.RtB n2 l2) then (0:Int) else 1:Int) fun n4 hn4=>?_;obtain ⟨z4,z4l⟩:=Fr.Bz.mul fa.p fb.q hn1 hl1
  obtain ⟨z9,z9l⟩:=Fr.Bz.mul fb.p fa.q hn2 hl2;obtain ⟨zA,zAl⟩:=Fr.Bz.add z4 z9 hn3 hl3;refine V.r [.k (pp ((G1 0).b) 0),.ld 0 0 true (fun _=>Dat.cells (DBig.mk j ⟨e,u⟩)),.k (pp ((G1 1).b) 2),.ld 1 2 true (fun _=>Dat.cells (DBig.mk n ⟨d,t⟩)),.ct g0 4 39 false [] [] [(kf false (.f 0) e (fun _=>u)).a,(kf false (.f 3) d (fun _=>t)).a] (fun _ G=>times_ctv j e u n d t (by omega) (by omega) n1 hn1 l1 hl1),.k (pp ((G1 1).b) 0),.ld 1 0 true (fun _=>Dat.cells (DBig.mk l ⟨i,x⟩)),.k (pp ((G1 0).b) 2),.ld 0 2 true (fun _=>Dat.cells (DBig.mk m ⟨c,o⟩)),.ct g0 9 39 false [] [] [(kf false (.f 2) i (fun _=>x)).a,(kf false (.f 1) c (fun _=>o)).a] (fun _ G=>times_ctv l i x m c o (by omega) (by omega) n2 hn2 l2 hl2),.ct g0 10 42 false [] [] [(kf true (.g 4 0) l1 (fun G=>(G 4).ss 0)).a,(kf true (.g 9 0) l2 (fun G=>(G 9).ss 0)).a] (fun _ G=>Add_ctv n1 l1 ((G 4).ss 0) n2 l2 ((G 9).ss 0) (by omega) (by omega) n3 hn3 l3 hl3 n4 hn4),.v fun G=>.tuple #[ag (DBig.mk n3 ⟨l3,(G 10).ss 0⟩),iv n4],.v fun G=>ag (DBig.mk n3 ⟨l3,(G 10).ss 0⟩),.k (iv n4),.nb 14 3 (fun b=>pp b 0) 31 (fun _=>ca (DBig.mk 0 ⟨[],{}⟩)),.st 3 (fun G=>.blk ((G 14).b) (ca (DBig.mk n3 ⟨l3,(G 10).ss 0⟩)) 31),.k (iv n4)] fun _ _ G4 kw4=>?_;intro S s;obtain ⟨⟨kl5, -⟩,⟨kl6, -⟩,⟨kl7, -⟩, -⟩:Lq l1 (((G4 4).ss 0).v)∧Lq l2 (((G4 9).ss 0).v)∧Lq l3 (((G4 10).ss 0).v)∧True:=kq kw4;clear kw4;refine nm (Bg.oS (Bg.RtB m c∧Bg.RtB n d) (Bg.zv m c * Bg.zv n d):Int) fun n5 hn5=>?_;refine nl (Bg.oD (Bg.RtB m c∧Bg.RtB n d) (Bg.zv m c * Bg.zv n d)) fun l4 hl4 hl4n=>?_;refine nm (Fr.rS ((Bg.RtB n3 l3∧Bg.RtB n5 l4)∧n5≠0) (Rat.divInt (Bg.zv n3 l3) (Bg.zv n5 l4)):Int) fun n6 hn6=>?_;refine nl (Fr.rD ((Bg.RtB n3 l3∧Bg.RtB n5 l4)∧n5≠0) (Rat.divInt (Bg.zv n3 l3) (Bg.zv n5 l4))) fun l5 hl5 hl5n=>?_;refine nm (Fr.rT ((Bg.RtB n3 l3∧Bg.RtB n5 l4)∧n5≠0):Int) fun n7 hn7=>?_;refine nl (Fr.rE ((Bg.RtB n3 l3∧Bg.RtB n5 l4)∧n5≠0) (Rat.divInt (Bg.zv n3 l3) (Bg.zv n5 l4))) fun l6 hl6 hl6n=>?_;refine nm (if ¬ (Bg.RtB n3 l3∧Bg.RtB n5 l4) then (1:Int) else if n5=0 then 15 else 0:Int) fun n8 hn8=>?_;obtain ⟨z5,z5l⟩:=Fr.Bz.mul fa.q fb.q hn5 hl4;have hy0:((((Fr.fq j e c)).den:Int) * (((Fr.fq l i d)).den:Int))≠0:=Int.mul_ne_zero fa.den fb.den;have zf:=Fr.new_is zA z5 hy0 hn6 hl5 hn7 hl6;have hEr:n8=0:=by rw [hn8,if_neg (fun h=>h ⟨zA.rt,z5.rt⟩),if_neg (z5.ne.2 hy0)]
  have heq:=Fr.add_is (Fr.fq j e c) (Fr.fq l i d);refine V.r [.ld 3 0 true (fun _=>Dat.cells (DBig.mk n3 ⟨l3,(G4 10).ss 0⟩)),.k (pp ((G1 0).b) 2),.ld 0 2 true (fun _=>Dat.cells (DBig.mk m ⟨c,o⟩)),.k (pp ((G1 1).b) 2),.ld 1 2 true (fun _=>Dat.cells (DBig.mk n ⟨d,t⟩)),.ct g0 5 39 false [] [] [(kf false (.f 1) c (fun _=>o)).a,(kf false (.f 3) d (fun _=>t)).a] (fun _ G=>times_ctv m c o n d t (by omega) (by omega) n5 hn5 l4 hl4),.ct g0 6 38 false [] [] [(kf true (.f 6) l3 (fun _=>(G4 10).ss 0)).a,(kf true (.g 5 0) l4 (fun G=>(G 5).ss 0)).a] (fun _ G=>new_ctv n3 l3 ((G4 10).ss 0) n5 l4 ((G 5).ss 0) (by omega) (by omega) n6 hn6 l5 hl5 n7 hn7 l6 hl6 n8 hn8),.v fun G=>ag (DFrac.mk ⟨n6,l5,(G 6).ss 0⟩ ⟨n7,l6,(G 6).ss 1⟩),.k (iv n8),.st 2 (fun G=>.blk ((G1 2).b) (ca (DFrac.mk ⟨n6,l5,(G 6).ss 0⟩ ⟨n7,l6,(G 6).ss 1⟩)) 33),.k (iv n8)] fun _ _ G5 kw5=>?_;intro S s
  obtain ⟨⟨kl8, -⟩,⟨kl9, -⟩,⟨kl10, -⟩, -⟩:Lq l4 (((G5 5).ss 0).v)∧Lq l5 (((G5 6).ss 0).v)∧Lq l6 (((G5 6).ss 1).v)∧True:=kq kw5;clear kw5;have e1:l5=Fr.rD (Fr.FrB j e m c∧Fr.FrB l i n d) ((Fr.fq j e c)+(Fr.fq l i d)):=(Fr.Fz.ret zf hRR (heq)).2.1;subst e1;have e3:l6=Fr.rE (Fr.FrB j e m c∧Fr.FrB l i n d) ((Fr.fq j e c)+(Fr.fq l i d)):=(Fr.Fz.ret zf hRR (heq)).2.2.2;subst e3;have e0:n6=Fr.rS (Fr.FrB j e m c∧Fr.FrB l i n d) ((Fr.fq j e c)+(Fr.fq l i d)):=(Fr.Fz.ret zf hRR (heq)).1;have e2:n7=Fr.rT (Fr.FrB j e m c∧Fr.FrB l i n d):=(Fr.Fz.ret zf hRR (heq)).2.2.1;have e4:n8=if ¬ (Fr.FrB j e m c∧Fr.FrB l i n d) then (1:Int) else 0:=by rw [if_neg (fun h=>h hRR)];exact hEr
  exact V.rt [2,0] [(G5 6).ss 0,(G5 6).ss 1] [fun _=>{},fun _=>{}] [] [8,9] [] (.tuple #[ag (DFrac.mk ⟨n6,(Fr.rD (Fr.FrB j e m c∧Fr.FrB l i n d) ((Fr.fq j e c)+(Fr.fq l i d))),(G5 6).ss 0⟩ ⟨n7,(Fr.rE (Fr.FrB j e m c∧Fr.FrB l i n d) ((Fr.fq j e c)+(Fr.fq l i d))),(G5 6).ss 1⟩),iv n8]) (cong3 (fun (x0 x2 x4:Int)=>(.tuple #[.agg #[iv x0,((G5 6).ss 0).v,iv x2,((G5 6).ss 1).v],iv x4]:Value)) e0 e2 e4)
theorem fadd_ctv (e:Int) (a:List Int) (j:SV) (h:Int) (b:List Int) (k:SV) (f:Int) (c:List Int) (l:SV) (i:Int) (d:List Int) (m:SV) (haP:a.length≤17179869184) (haQ:b.length≤17179869184) (hbP:c.length≤17179869184) (hbQ:d.length≤17179869184) (rv0:Int) (erv0:rv0=Fr.rS (Fr.FrB e a h b∧Fr.FrB f c i d) ((Fr.fq e a b)+(Fr.fq f c d))) (rv1:List Int) (erv1:rv1=Fr.rD (Fr.FrB e a h b∧Fr.FrB f c i d) ((Fr.fq e a b)+(Fr.fq f c d))) (rv2:Int) (erv2:rv2=Fr.rT (Fr.FrB e a h b∧Fr.FrB f c i d)) (rv3:List Int) (erv3:rv3=Fr.rE (Fr.FrB e a h b∧Fr.FrB f c i d) ((Fr.fq e a b)+(Fr.fq f c d))) (rv4:Int) (erv4:rv4=if ¬ (Fr.FrB e a h b∧Fr.FrB f c i d) then (1:Int) else 0) :
    Ct Try.prog 14 #[ag (DFrac.mk ⟨e,a,j⟩ ⟨h,b,k⟩),ag (DFrac.mk ⟨f,c,l⟩ ⟨i,d,m⟩)] [fs true a j,fs true b k,fs true c l,fs true d m] [] (fun g=>.tuple #[ag (DFrac.mk ⟨rv0,rv1,(g.ss 0)⟩ ⟨rv2,rv3,(g.ss 1)⟩),iv rv4]) (fun g=>[fs true rv1 (g.ss 0),fs true rv3 (g.ss 1)]) (fun g=>[]) (fun g=>[]):=by
  subst erv0 erv1 erv2 erv3 erv4;exact fadd_ct e a j h b k f c l i d m haP haQ hbP hbQ
set_option maxRecDepth 10000 in
theorem fmul_ct (j:Int) (c:List Int) (o:SV) (m:Int) (d:List Int) (t:SV) (l:Int) (e:List Int) (u:SV) (n:Int) (i:List Int) (x:SV) (haP:c.length≤17179869184) (haQ:d.length≤17179869184) (hbP:e.length≤17179869184) (hbQ:i.length≤17179869184) :
    Ct Try.prog 11 #[ag (DFrac.mk ⟨j,c,o⟩ ⟨m,d,t⟩),ag (DFrac.mk ⟨l,e,u⟩ ⟨n,i,x⟩)] [fs true c o,fs true d t,fs true e u,fs true i x] [] (fun g=>.tuple #[ag (DFrac.mk ⟨(Fr.rS (Fr.FrB j c m d∧Fr.FrB l e n i) ((Fr.fq j c d) * (Fr.fq l e i))),Fr.rD (Fr.FrB j c m d∧Fr.FrB l e n i) ((Fr.fq j c d) * (Fr.fq l e i)),(g.ss 0)⟩ ⟨(Fr.rT (Fr.FrB j c m d∧Fr.FrB l e n i)),Fr.rE (Fr.FrB j c m d∧Fr.FrB l e n i) ((Fr.fq j c d) * (Fr.fq l e i)),(g.ss 1)⟩),iv (if ¬ (Fr.FrB j c m d∧Fr.FrB l e n i) then (1:Int) else 0)]) (fun g=>[fs true (Fr.rD (Fr.FrB j c m d∧Fr.FrB l e n i) ((Fr.fq j c d) * (Fr.fq l e i))) (g.ss 0),fs true (Fr.rE (Fr.FrB j c m d∧Fr.FrB l e n i) ((Fr.fq j c d) * (Fr.fq l e i))) (g.ss 1)]) (fun g=>[]) (fun g=>[]):=by
  refine V.fn mo Try.func11 28 3 (by kernel_rfl) fun w H ε k0=>?_;obtain ⟨⟨kl1, -⟩,⟨kl2, -⟩,⟨kl3, -⟩,⟨kl4, -⟩, -⟩:Lq c o.v∧Lq d t.v∧Lq e u.v∧Lq i x.v∧True:=kq k0
  clear k0;refine V.g [.nb 0 0 (fun b=>pp b 0) 33 (fun _=>ca (DFrac.mk ⟨j,c,o⟩ ⟨m,d,t⟩)),.nb 1 1 (fun b=>pp b 0) 33 (fun _=>ca (DFrac.mk ⟨l,e,u⟩ ⟨n,i,x⟩)),.nb 2 2 (fun b=>pp b 0) 33 (fun _=>ca (DFrac.mk ⟨0,[],{}⟩ ⟨0,[],{}⟩)),.k (iv 0)] fun _ _ G1=>?_;intro S s
  refine nm ((!(decide (Fr.FrB j c m d))) || (!(decide (Fr.FrB l e n i))):Bool) fun p1 hp1=>?_;refine V.g [.ld 0 0 true (fun _=>Dat.cells (DFrac.mk ⟨j,c,o⟩ ⟨m,d,t⟩)),.cp g0 1 19 [(kf false (.f 0) c (fun _=>o)).a,(kf false (.f 1) d (fun _=>t)).a] (fun _ G=>right_ct j c o m d t (by omega) (by omega)),.k (bv (!(decide (Fr.FrB j c m d)))),.k (bv (!(decide (Fr.FrB j c m d)))),.ld 1 0 true (fun _=>Dat.cells (DFrac.mk ⟨l,e,u⟩ ⟨n,i,x⟩)),.cp (gF (b:=!(decide (Fr.FrB j c m d))) (iNF iDT)) 5 19 [(kf false (.f 2) e (fun _=>u)).a,(kf false (.f 3) i (fun _=>x)).a] (fun hg G=>right_ct l e u n i x (by omega) (by omega)),.k (bv (!(decide (Fr.FrB l e n i)))),.orn g0 false (!(decide (Fr.FrB j c m d))) (!(decide (Fr.FrB l e n i))) p1 hp1] fun _ _ G2=>?_;intro S s
  refine V.cn (b:=p1) (iN hp1 (iOT (iNT iDF) (iNT iDF))) (iN hp1 (iOF (iNF iDT) (iNF iDT))) (fun q1=>?_) (fun q2=>?_)
  · have hNR:¬ (Fr.FrB j c m d∧Fr.FrB l e n i):=by rintro ⟨h1,h2⟩;rcases q1 with h | h;exact h h1;exact h h2
    refine V.g [.k (ag (DFrac.mk ⟨0,[],{}⟩ ⟨0,[],{}⟩)),.st 2 (fun _=>.blk ((G1 2).b) (ca (DFrac.mk ⟨0,[],{}⟩ ⟨0,[],{}⟩)) 33),.k (iv 1)] fun _ _ G3=>?_;intro S s
    refine V.nilF (α:=Int) ?_;refine V.nilF (α:=Int) ?_;have e1:([]:List Int)=Fr.rD (Fr.FrB j c m d∧Fr.FrB l e n i) ((Fr.fq j c d) * (Fr.fq l e i)):=(Fr.Fz.no hNR ((Fr.fq j c d) * (Fr.fq l e i))).2.1;rw [←e1];have e3:([]:List Int)=Fr.rE (Fr.FrB j c m d∧Fr.FrB l e n i) ((Fr.fq j c d) * (Fr.fq l e i)):=(Fr.Fz.no hNR ((Fr.fq j c d) * (Fr.fq l e i))).2.2.2;rw [←e3];have e0:(0:Int)=Fr.rS (Fr.FrB j c m d∧Fr.FrB l e n i) ((Fr.fq j c d) * (Fr.fq l e i)):=(Fr.Fz.no hNR ((Fr.fq j c d) * (Fr.fq l e i))).1;have e2:(0:Int)=Fr.rT (Fr.FrB j c m d∧Fr.FrB l e n i):=(Fr.Fz.no hNR ((Fr.fq j c d) * (Fr.fq l e i))).2.2.1;have e4:(1:Int)=if ¬ (Fr.FrB j c m d∧Fr.FrB l e n i) then (1:Int) else 0:=(if_pos hNR).symm
    exact V.rt [2,0] [{},{}] [fun _=>{},fun _=>{}] [] [4,5] [] (.tuple #[ag (DFrac.mk ⟨0,([]:List Int),{}⟩ ⟨0,([]:List Int),{}⟩),iv 1]) (cong3 (fun (x0 x2 x4:Int)=>(.tuple #[.agg #[iv x0,SV.v ({}),iv x2,SV.v ({})],iv x4]:Value)) e0 e2 e4)
  have hRR:Fr.FrB j c m d∧Fr.FrB l e n i:=by first | exact q2 | exact ⟨Decidable.not_not.1 (q2).1,Decidable.not_not.1 (q2).2⟩
  have fa:=Fr.FrB.z hRR.1;have fb:=Fr.FrB.z hRR.2;refine nm (Bg.oS (Bg.RtB j c∧Bg.RtB l e) (Bg.zv j c * Bg.zv l e):Int) fun n1 hn1=>?_;refine nl (Bg.oD (Bg.RtB j c∧Bg.RtB l e) (Bg.zv j c * Bg.zv l e)) fun l1 hl1 hl1n=>?_;refine nm (Bg.oS (Bg.RtB m d∧Bg.RtB n i) (Bg.zv m d * Bg.zv n i):Int) fun n2 hn2=>?_;refine nl (Bg.oD (Bg.RtB m d∧Bg.RtB n i) (Bg.zv m d * Bg.zv n i)) fun l2 hl2 hl2n=>?_;refine nm (Fr.rS ((Bg.RtB n1 l1∧Bg.RtB n2 l2)∧n2≠0) (Rat.divInt (Bg.zv n1 l1) (Bg.zv n2 l2)):Int) fun n3 hn3=>?_;refine nl (Fr.rD ((Bg.RtB n1 l1∧Bg.RtB n2 l2)∧n2≠0) (Rat.divInt (Bg.zv n1 l1) (Bg.zv n2 l2))) fun l3 hl3 hl3n=>?_;refine nm (Fr.rT ((Bg.RtB n1 l1∧Bg.RtB n2 l2)∧n2≠0):Int) fun n4 hn4=>?_;refine nl (Fr.rE ((Bg.RtB n1 l1∧Bg.RtB n2 l2)∧n2≠0) (Rat.divInt (Bg.zv n1 l1) (Bg.zv n2 l2))) fun l4 hl4 hl4n=>?_;refine nm (if ¬ (Bg.RtB n1 l1∧Bg.RtB n2 l2) then (1:Int) else if n2=0 then 15 else 0:Int) fun n5 hn5=>?_;obtain ⟨z4,z4l⟩:=Fr.Bz.mul fa.p fb.p hn1 hl1
  obtain ⟨z9,z9l⟩:=Fr.Bz.mul fa.q fb.q hn2 hl2;have hy0:((((Fr.fq j c d)).den:Int) * (((Fr.fq l e i)).den:Int))≠0:=Int.mul_ne_zero fa.den fb.den;have zf:=Fr.new_is z4 z9 hy0 hn3 hl3 hn4 hl4;have hEr:n5=0:=by rw [hn5,if_neg (fun h=>h ⟨z4.rt,z9.rt⟩),if_neg (z9.ne.2 hy0)]
  have heq:=Fr.mul_is (Fr.fq j c d) (Fr.fq l e i);refine V.r [.k (pp ((G1 0).b) 0),.ld 0 0 true (fun _=>Dat.cells (DBig.mk j ⟨c,o⟩)),.k (pp ((G1 1).b) 0),.ld 1 0 true (fun _=>Dat.cells (DBig.mk l ⟨e,u⟩)),.ct g0 4 39 false [] [] [(kf false (.f 0) c (fun _=>o)).a,(kf false (.f 2) e (fun _=>u)).a] (fun _ G=>times_ctv j c o l e u (by omega) (by omega) n1 hn1 l1 hl1),.k (pp ((G1 0).b) 2),.ld 0 2 true (fun _=>Dat.cells (DBig.mk m ⟨d,t⟩)),.k (pp ((G1 1).b) 2),.ld 1 2 true (fun _=>Dat.cells (DBig.mk n ⟨i,x⟩)),.ct g0 9 39 false [] [] [(kf false (.f 1) d (fun _=>t)).a,(kf false (.f 3) i (fun _=>x)).a] (fun _ G=>times_ctv m d t n i x (by omega) (by omega) n2 hn2 l2 hl2),.ct g0 10 38 false [] [] [(kf true (.g 4 0) l1 (fun G=>(G 4).ss 0)).a,(kf true (.g 9 0) l2 (fun G=>(G 9).ss 0)).a] (fun _ G=>new_ctv n1 l1 ((G 4).ss 0) n2 l2 ((G 9).ss 0) (by omega) (by omega) n3 hn3 l3 hl3 n4 hn4 l4 hl4 n5 hn5),.v fun G=>ag (DFrac.mk ⟨n3,l3,(G 10).ss 0⟩ ⟨n4,l4,(G 10).ss 1⟩),.k (iv n5),.st 2 (fun G=>.blk ((G1 2).b) (ca (DFrac.mk ⟨n3,l3,(G 10).ss 0⟩ ⟨n4,l4,(G 10).ss 1⟩)) 33),.k (iv n5)] fun _ _ G4 kw4=>?_;intro S s
  obtain ⟨⟨kl5, -⟩,⟨kl6, -⟩,⟨kl7, -⟩,⟨kl8, -⟩, -⟩:Lq l1 (((G4 4).ss 0).v)∧Lq l2 (((G4 9).ss 0).v)∧Lq l3 (((G4 10).ss 0).v)∧Lq l4 (((G4 10).ss 1).v)∧True:=kq kw4;clear kw4;have e1:l3=Fr.rD (Fr.FrB j c m d∧Fr.FrB l e n i) ((Fr.fq j c d) * (Fr.fq l e i)):=(Fr.Fz.ret zf hRR (heq)).2.1;subst e1;have e3:l4=Fr.rE (Fr.FrB j c m d∧Fr.FrB l e n i) ((Fr.fq j c d) * (Fr.fq l e i)):=(Fr.Fz.ret zf hRR (heq)).2.2.2;subst e3;have e0:n3=Fr.rS (Fr.FrB j c m d∧Fr.FrB l e n i) ((Fr.fq j c d) * (Fr.fq l e i)):=(Fr.Fz.ret zf hRR (heq)).1;have e2:n4=Fr.rT (Fr.FrB j c m d∧Fr.FrB l e n i):=(Fr.Fz.ret zf hRR (heq)).2.2.1;have e4:n5=if ¬ (Fr.FrB j c m d∧Fr.FrB l e n i) then (1:Int) else 0:=by rw [if_neg (fun h=>h hRR)];exact hEr
  exact V.rt [2,0] [(G4 10).ss 0,(G4 10).ss 1] [fun _=>{},fun _=>{}] [] [6,7] [] (.tuple #[ag (DFrac.mk ⟨n3,(Fr.rD (Fr.FrB j c m d∧Fr.FrB l e n i) ((Fr.fq j c d) * (Fr.fq l e i))),(G4 10).ss 0⟩ ⟨n4,(Fr.rE (Fr.FrB j c m d∧Fr.FrB l e n i) ((Fr.fq j c d) * (Fr.fq l e i))),(G4 10).ss 1⟩),iv n5]) (cong3 (fun (x0 x2 x4:Int)=>(.tuple #[.agg #[iv x0,((G4 10).ss 0).v,iv x2,((G4 10).ss 1).v],iv x4]:Value)) e0 e2 e4)
theorem fmul_ctv (e:Int) (a:List Int) (j:SV) (h:Int) (b:List Int) (k:SV) (f:Int) (c:List Int) (l:SV) (i:Int) (d:List Int) (m:SV) (haP:a.length≤17179869184) (haQ:b.length≤17179869184) (hbP:c.length≤17179869184) (hbQ:d.length≤17179869184) (rv0:Int) (erv0:rv0=Fr.rS (Fr.FrB e a h b∧Fr.FrB f c i d) ((Fr.fq e a b) * (Fr.fq f c d))) (rv1:List Int) (erv1:rv1=Fr.rD (Fr.FrB e a h b∧Fr.FrB f c i d) ((Fr.fq e a b) * (Fr.fq f c d))) (rv2:Int) (erv2:rv2=Fr.rT (Fr.FrB e a h b∧Fr.FrB f c i d)) (rv3:List Int) (erv3:rv3=Fr.rE (Fr.FrB e a h b∧Fr.FrB f c i d) ((Fr.fq e a b) * (Fr.fq f c d))) (rv4:Int) (erv4:rv4=if ¬ (Fr.FrB e a h b∧Fr.FrB f c i d) then (1:Int) else 0) :
    Ct Try.prog 11 #[ag (DFrac.mk ⟨e,a,j⟩ ⟨h,b,k⟩),ag (DFrac.mk ⟨f,c,l⟩ ⟨i,d,m⟩)] [fs true a j,fs true b k,fs true c l,fs true d m] [] (fun g=>.tuple #[ag (DFrac.mk ⟨rv0,rv1,(g.ss 0)⟩ ⟨rv2,rv3,(g.ss 1)⟩),iv rv4]) (fun g=>[fs true rv1 (g.ss 0),fs true rv3 (g.ss 1)]) (fun g=>[]) (fun g=>[]):=by
  subst erv0 erv1 erv2 erv3 erv4;exact fmul_ct e a j h b k f c l i d m haP haQ hbP hbQ
set_option maxRecDepth 10000 in
theorem fsub_ct (i:Int) (c:List Int) (q:SV) (m:Int) (d:List Int) (t:SV) (l:Int) (j:List Int) (u:SV) (n:Int) (e:List Int) (o:SV) (haP:c.length≤17179869184) (haQ:d.length≤17179869184) (hbP:j.length≤17179869184) (hbQ:e.length≤17179869184) :
    Ct Try.prog 46 #[ag (DFrac.mk ⟨i,c,q⟩ ⟨m,d,t⟩),ag (DFrac.mk ⟨l,j,u⟩ ⟨n,e,o⟩)] [fs true c q,fs true d t,fs true j u,fs true e o] [] (fun g=>.tuple #[ag (DFrac.mk ⟨(Fr.rS (Fr.FrB i c m d∧Fr.FrB l j n e) ((Fr.fq i c d)-(Fr.fq l j e))),Fr.rD (Fr.FrB i c m d∧Fr.FrB l j n e) ((Fr.fq i c d)-(Fr.fq l j e)),(g.ss 0)⟩ ⟨(Fr.rT (Fr.FrB i c m d∧Fr.FrB l j n e)),Fr.rE (Fr.FrB i c m d∧Fr.FrB l j n e) ((Fr.fq i c d)-(Fr.fq l j e)),(g.ss 1)⟩),iv (if ¬ (Fr.FrB i c m d∧Fr.FrB l j n e) then (1:Int) else 0)]) (fun g=>[fs true (Fr.rD (Fr.FrB i c m d∧Fr.FrB l j n e) ((Fr.fq i c d)-(Fr.fq l j e))) (g.ss 0),fs true (Fr.rE (Fr.FrB i c m d∧Fr.FrB l j n e) ((Fr.fq i c d)-(Fr.fq l j e))) (g.ss 1)]) (fun g=>[]) (fun g=>[]):=by
  refine V.fn mo Try.func46 25 3 (by kernel_rfl) fun w H ε k0=>?_;obtain ⟨⟨kl1, -⟩,⟨kl2, -⟩,⟨kl3, -⟩,⟨kl4, -⟩, -⟩:Lq c q.v∧Lq d t.v∧Lq j u.v∧Lq e o.v∧True:=kq k0
  clear k0;refine V.g [.nb 0 0 (fun b=>pp b 0) 33 (fun _=>ca (DFrac.mk ⟨i,c,q⟩ ⟨m,d,t⟩)),.nb 1 1 (fun b=>pp b 0) 33 (fun _=>ca (DFrac.mk ⟨l,j,u⟩ ⟨n,e,o⟩)),.nb 2 2 (fun b=>pp b 0) 33 (fun _=>ca (DFrac.mk ⟨0,[],{}⟩ ⟨0,[],{}⟩)),.k (iv 0)] fun _ _ G1=>?_;intro S s
  refine nm ((!(decide (Fr.FrB i c m d))) || (!(decide (Fr.FrB l j n e))):Bool) fun p1 hp1=>?_;refine V.g [.ld 0 0 true (fun _=>Dat.cells (DFrac.mk ⟨i,c,q⟩ ⟨m,d,t⟩)),.cp g0 1 19 [(kf false (.f 0) c (fun _=>q)).a,(kf false (.f 1) d (fun _=>t)).a] (fun _ G=>right_ct i c q m d t (by omega) (by omega)),.k (bv (!(decide (Fr.FrB i c m d)))),.k (bv (!(decide (Fr.FrB i c m d)))),.ld 1 0 true (fun _=>Dat.cells (DFrac.mk ⟨l,j,u⟩ ⟨n,e,o⟩)),.cp (gF (b:=!(decide (Fr.FrB i c m d))) (iNF iDT)) 5 19 [(kf false (.f 2) j (fun _=>u)).a,(kf false (.f 3) e (fun _=>o)).a] (fun hg G=>right_ct l j u n e o (by omega) (by omega)),.k (bv (!(decide (Fr.FrB l j n e)))),.orn g0 false (!(decide (Fr.FrB i c m d))) (!(decide (Fr.FrB l j n e))) p1 hp1] fun _ _ G2=>?_;intro S s
  refine V.cn (b:=p1) (iN hp1 (iOT (iNT iDF) (iNT iDF))) (iN hp1 (iOF (iNF iDT) (iNF iDT))) (fun q1=>?_) (fun q2=>?_)
  · have hNR:¬ (Fr.FrB i c m d∧Fr.FrB l j n e):=by rintro ⟨h1,h2⟩;rcases q1 with h | h;exact h h1;exact h h2
    refine V.g [.k (ag (DFrac.mk ⟨0,[],{}⟩ ⟨0,[],{}⟩)),.st 2 (fun _=>.blk ((G1 2).b) (ca (DFrac.mk ⟨0,[],{}⟩ ⟨0,[],{}⟩)) 33),.k (iv 1)] fun _ _ G3=>?_;intro S s
    refine V.nilF (α:=Int) ?_;refine V.nilF (α:=Int) ?_;have e1:([]:List Int)=Fr.rD (Fr.FrB i c m d∧Fr.FrB l j n e) ((Fr.fq i c d)-(Fr.fq l j e)):=(Fr.Fz.no hNR ((Fr.fq i c d)-(Fr.fq l j e))).2.1;rw [←e1];have e3:([]:List Int)=Fr.rE (Fr.FrB i c m d∧Fr.FrB l j n e) ((Fr.fq i c d)-(Fr.fq l j e)):=(Fr.Fz.no hNR ((Fr.fq i c d)-(Fr.fq l j e))).2.2.2;rw [←e3];have e0:(0:Int)=Fr.rS (Fr.FrB i c m d∧Fr.FrB l j n e) ((Fr.fq i c d)-(Fr.fq l j e)):=(Fr.Fz.no hNR ((Fr.fq i c d)-(Fr.fq l j e))).1;have e2:(0:Int)=Fr.rT (Fr.FrB i c m d∧Fr.FrB l j n e):=(Fr.Fz.no hNR ((Fr.fq i c d)-(Fr.fq l j e))).2.2.1;have e4:(1:Int)=if ¬ (Fr.FrB i c m d∧Fr.FrB l j n e) then (1:Int) else 0:=(if_pos hNR).symm
    exact V.rt [2,0] [{},{}] [fun _=>{},fun _=>{}] [] [4,5] [] (.tuple #[ag (DFrac.mk ⟨0,([]:List Int),{}⟩ ⟨0,([]:List Int),{}⟩),iv 1]) (cong3 (fun (x0 x2 x4:Int)=>(.tuple #[.agg #[iv x0,SV.v ({}),iv x2,SV.v ({})],iv x4]:Value)) e0 e2 e4)
  have hRR:Fr.FrB i c m d∧Fr.FrB l j n e:=by first | exact q2 | exact ⟨Decidable.not_not.1 (q2).1,Decidable.not_not.1 (q2).2⟩
  have fa:=Fr.FrB.z hRR.1;have fb:=Fr.FrB.z hRR.2;refine nm (Bg.oS (Bg.RtB l j) (-Bg.zv l j):Int) fun n1 hn1=>?_;refine nl (Bg.oD (Bg.RtB l j) (-Bg.zv l j)) fun l1 hl1 hl1n=>?_;refine nm (Fr.rS (Fr.FrB i c m d∧Fr.FrB n1 l1 n e) ((Fr.fq i c d)+(Fr.fq n1 l1 e)):Int) fun n2 hn2=>?_;refine nl (Fr.rD (Fr.FrB i c m d∧Fr.FrB n1 l1 n e) ((Fr.fq i c d)+(Fr.fq n1 l1 e))) fun l2 hl2 hl2n=>?_;refine nm (Fr.rT (Fr.FrB i c m d∧Fr.FrB n1 l1 n e):Int) fun n3 hn3=>?_;refine nl (Fr.rE (Fr.FrB i c m d∧Fr.FrB n1 l1 n e) ((Fr.fq i c d)+(Fr.fq n1 l1 e))) fun l3 hl3 hl3n=>?_;refine nm (if ¬ (Fr.FrB i c m d∧Fr.FrB n1 l1 n e) then (1:Int) else 0:Int) fun n4 hn4=>?_;have fn:=Fr.FrB.neg fb hn1 hl1
  have fnl:=(fb.p.neg hn1 hl1).2;have hRN:=And.intro hRR.1 fn.rt;have zf:=Fr.Fz.of hRN hn2 hl2 hn3 hl3;rw [fn.v] at zf;have hEr:n4=0:=by rw [hn4,if_neg (fun h=>h hRN)]
  have heq:=(Rat.sub_eq_add_neg (Fr.fq i c d) (Fr.fq l j e)).symm;refine V.r [.ld 0 0 true (fun _=>Dat.cells (DFrac.mk ⟨i,c,q⟩ ⟨m,d,t⟩)),.k (pp ((G1 1).b) 0),.ld 1 0 true (fun _=>Dat.cells (DBig.mk l ⟨j,u⟩)),.ct g0 3 76 false [] [] [(kf false (.f 2) j (fun _=>u)).a] (fun _ G=>neg_ctv l j u (by omega) n1 hn1 l1 hl1),.k (pp ((G1 1).b) 2),.ld 1 2 true (fun _=>Dat.cells (DBig.mk n ⟨e,o⟩)),.v fun G=>ag (DFrac.mk ⟨n1,l1,(G 3).ss 0⟩ ⟨n,e,o⟩),.ct g0 7 14 false [] [] [(kf false (.f 0) c (fun _=>q)).a,(kf false (.f 1) d (fun _=>t)).a,(kf true (.g 3 0) l1 (fun G=>(G 3).ss 0)).a,(kf false (.f 3) e (fun _=>o)).a] (fun _ G=>fadd_ctv i c q m d t n1 l1 ((G 3).ss 0) n e o (by omega) (by omega) (by omega) (by omega) n2 hn2 l2 hl2 n3 hn3 l3 hl3 n4 hn4),.v fun G=>ag (DFrac.mk ⟨n2,l2,(G 7).ss 0⟩ ⟨n3,l3,(G 7).ss 1⟩),.k (iv n4),.st 2 (fun G=>.blk ((G1 2).b) (ca (DFrac.mk ⟨n2,l2,(G 7).ss 0⟩ ⟨n3,l3,(G 7).ss 1⟩)) 33),.k (iv n4)] fun _ _ G4 kw4=>?_;intro S s
  obtain ⟨⟨kl5, -⟩,⟨kl6, -⟩,⟨kl7, -⟩, -⟩:Lq l1 (((G4 3).ss 0).v)∧Lq l2 (((G4 7).ss 0).v)∧Lq l3 (((G4 7).ss 1).v)∧True:=kq kw4;clear kw4;have e1:l2=Fr.rD (Fr.FrB i c m d∧Fr.FrB l j n e) ((Fr.fq i c d)-(Fr.fq l j e)):=(Fr.Fz.ret zf hRR (heq)).2.1;subst e1;have e3:l3=Fr.rE (Fr.FrB i c m d∧Fr.FrB l j n e) ((Fr.fq i c d)-(Fr.fq l j e)):=(Fr.Fz.ret zf hRR (heq)).2.2.2;subst e3;have e0:n2=Fr.rS (Fr.FrB i c m d∧Fr.FrB l j n e) ((Fr.fq i c d)-(Fr.fq l j e)):=(Fr.Fz.ret zf hRR (heq)).1;have e2:n3=Fr.rT (Fr.FrB i c m d∧Fr.FrB l j n e):=(Fr.Fz.ret zf hRR (heq)).2.2.1;have e4:n4=if ¬ (Fr.FrB i c m d∧Fr.FrB l j n e) then (1:Int) else 0:=by rw [if_neg (fun h=>h hRR)];exact hEr
  exact V.rt [2,0] [(G4 7).ss 0,(G4 7).ss 1] [fun _=>{},fun _=>{}] [] [5,6] [] (.tuple #[ag (DFrac.mk ⟨n2,(Fr.rD (Fr.FrB i c m d∧Fr.FrB l j n e) ((Fr.fq i c d)-(Fr.fq l j e))),(G4 7).ss 0⟩ ⟨n3,(Fr.rE (Fr.FrB i c m d∧Fr.FrB l j n e) ((Fr.fq i c d)-(Fr.fq l j e))),(G4 7).ss 1⟩),iv n4]) (cong3 (fun (x0 x2 x4:Int)=>(.tuple #[.agg #[iv x0,((G4 7).ss 0).v,iv x2,((G4 7).ss 1).v],iv x4]:Value)) e0 e2 e4)
theorem fsub_ctv (e:Int) (a:List Int) (j:SV) (h:Int) (b:List Int) (k:SV) (f:Int) (c:List Int) (l:SV) (i:Int) (d:List Int) (m:SV) (haP:a.length≤17179869184) (haQ:b.length≤17179869184) (hbP:c.length≤17179869184) (hbQ:d.length≤17179869184) (rv0:Int) (erv0:rv0=Fr.rS (Fr.FrB e a h b∧Fr.FrB f c i d) ((Fr.fq e a b) - (Fr.fq f c d))) (rv1:List Int) (erv1:rv1=Fr.rD (Fr.FrB e a h b∧Fr.FrB f c i d) ((Fr.fq e a b) - (Fr.fq f c d))) (rv2:Int) (erv2:rv2=Fr.rT (Fr.FrB e a h b∧Fr.FrB f c i d)) (rv3:List Int) (erv3:rv3=Fr.rE (Fr.FrB e a h b∧Fr.FrB f c i d) ((Fr.fq e a b) - (Fr.fq f c d))) (rv4:Int) (erv4:rv4=if ¬ (Fr.FrB e a h b∧Fr.FrB f c i d) then (1:Int) else 0) :
    Ct Try.prog 46 #[ag (DFrac.mk ⟨e,a,j⟩ ⟨h,b,k⟩),ag (DFrac.mk ⟨f,c,l⟩ ⟨i,d,m⟩)] [fs true a j,fs true b k,fs true c l,fs true d m] [] (fun g=>.tuple #[ag (DFrac.mk ⟨rv0,rv1,(g.ss 0)⟩ ⟨rv2,rv3,(g.ss 1)⟩),iv rv4]) (fun g=>[fs true rv1 (g.ss 0),fs true rv3 (g.ss 1)]) (fun g=>[]) (fun g=>[]):=by
  subst erv0 erv1 erv2 erv3 erv4;exact fsub_ct e a j h b k f c l i d m haP haQ hbP hbQ
set_option maxRecDepth 10000 in
theorem fdiv_ct (l:Int) (d:List Int) (o:SV) (m:Int) (e:List Int) (t:SV) (c:Int) (i:List Int) (u:SV) (n:Int) (j:List Int) (x:SV) (haP:d.length≤17179869184) (haQ:e.length≤17179869184) (hbP:i.length≤17179869184) (hbQ:j.length≤17179869184) :
    Ct Try.prog 37 #[ag (DFrac.mk ⟨l,d,o⟩ ⟨m,e,t⟩),ag (DFrac.mk ⟨c,i,u⟩ ⟨n,j,x⟩)] [fs true d o,fs true e t,fs true i u,fs true j x] [] (fun g=>.tuple #[ag (DFrac.mk ⟨(Fr.rS ((Fr.FrB l d m e∧Fr.FrB c i n j)∧c≠0) ((Fr.fq l d e) / (Fr.fq c i j))),Fr.rD ((Fr.FrB l d m e∧Fr.FrB c i n j)∧c≠0) ((Fr.fq l d e) / (Fr.fq c i j)),(g.ss 0)⟩ ⟨(Fr.rT ((Fr.FrB l d m e∧Fr.FrB c i n j)∧c≠0)),Fr.rE ((Fr.FrB l d m e∧Fr.FrB c i n j)∧c≠0) ((Fr.fq l d e) / (Fr.fq c i j)),(g.ss 1)⟩),iv (if ¬ (Fr.FrB l d m e∧Fr.FrB c i n j) then (1:Int) else if c=0 then 15 else 0)]) (fun g=>[fs true (Fr.rD ((Fr.FrB l d m e∧Fr.FrB c i n j)∧c≠0) ((Fr.fq l d e) / (Fr.fq c i j))) (g.ss 0),fs true (Fr.rE ((Fr.FrB l d m e∧Fr.FrB c i n j)∧c≠0) ((Fr.fq l d e) / (Fr.fq c i j))) (g.ss 1)]) (fun g=>[]) (fun g=>[]):=by
  refine V.fn mo Try.func37 35 3 (by kernel_rfl) fun w H ε k0=>?_;obtain ⟨⟨kl1, -⟩,⟨kl2, -⟩,⟨kl3, -⟩,⟨kl4, -⟩, -⟩:Lq d o.v∧Lq e t.v∧Lq i u.v∧Lq j x.v∧True:=kq k0
  clear k0;refine V.g [.nb 0 0 (fun b=>pp b 0) 33 (fun _=>ca (DFrac.mk ⟨l,d,o⟩ ⟨m,e,t⟩)),.nb 1 1 (fun b=>pp b 0) 33 (fun _=>ca (DFrac.mk ⟨c,i,u⟩ ⟨n,j,x⟩)),.nb 2 2 (fun b=>pp b 0) 33 (fun _=>ca (DFrac.mk ⟨0,[],{}⟩ ⟨0,[],{}⟩)),.k (iv 0)] fun _ _ G1=>?_;intro S s
  refine nm ((!(decide (Fr.FrB l d m e))) || (!(decide (Fr.FrB c i n j))):Bool) fun p1 hp1=>?_;refine V.g [.ld 0 0 true (fun _=>Dat.cells (DFrac.mk ⟨l,d,o⟩ ⟨m,e,t⟩)),.cp g0 1 19 [(kf false (.f 0) d (fun _=>o)).a,(kf false (.f 1) e (fun _=>t)).a] (fun _ G=>right_ct l d o m e t (by omega) (by omega)),.k (bv (!(decide (Fr.FrB l d m e)))),.k (bv (!(decide (Fr.FrB l d m e)))),.ld 1 0 true (fun _=>Dat.cells (DFrac.mk ⟨c,i,u⟩ ⟨n,j,x⟩)),.cp (gF (b:=!(decide (Fr.FrB l d m e))) (iNF iDT)) 5 19 [(kf false (.f 2) i (fun _=>u)).a,(kf false (.f 3) j (fun _=>x)).a] (fun hg G=>right_ct c i u n j x (by omega) (by omega)),.k (bv (!(decide (Fr.FrB c i n j)))),.orn g0 false (!(decide (Fr.FrB l d m e))) (!(decide (Fr.FrB c i n j))) p1 hp1,.k (bv p1)] fun _ _ G2=>?_;intro S s
  refine V.cn (b:=p1) (iN hp1 (iOT (iNT iDF) (iNT iDF))) (iN hp1 (iOF (iNF iDT) (iNF iDT))) (fun q1=>?_) (fun q2=>?_)
  · have hNR:¬ (Fr.FrB l d m e∧Fr.FrB c i n j):=by rintro ⟨h1,h2⟩;rcases q1 with h | h;exact h h1;exact h h2
    refine V.g [.k (ag (DFrac.mk ⟨0,[],{}⟩ ⟨0,[],{}⟩)),.st 2 (fun _=>.blk ((G1 2).b) (ca (DFrac.mk ⟨0,[],{}⟩ ⟨0,[],{}⟩)) 33),.k (iv 1)] fun _ _ G3=>?_;intro S s
    refine V.nilF (α:=Int) ?_;refine V.nilF (α:=Int) ?_;have e1:([]:List Int)=Fr.rD ((Fr.FrB l d m e∧Fr.FrB c i n j)∧c≠0) ((Fr.fq l d e) / (Fr.fq c i j)):=(Fr.Fz.no (fun h=>hNR h.1) ((Fr.fq l d e) / (Fr.fq c i j))).2.1;rw [←e1];have e3:([]:List Int)=Fr.rE ((Fr.FrB l d m e∧Fr.FrB c i n j)∧c≠0) ((Fr.fq l d e) / (Fr.fq c i j)):=(Fr.Fz.no (fun h=>hNR h.1) ((Fr.fq l d e) / (Fr.fq c i j))).2.2.2;rw [←e3];have e0:(0:Int)=Fr.rS ((Fr.FrB l d m e∧Fr.FrB c i n j)∧c≠0) ((Fr.fq l d e) / (Fr.fq c i j)):=(Fr.Fz.no (fun h=>hNR h.1) ((Fr.fq l d e) / (Fr.fq c i j))).1;have e2:(0:Int)=Fr.rT ((Fr.FrB l d m e∧Fr.FrB c i n j)∧c≠0):=(Fr.Fz.no (fun h=>hNR h.1) ((Fr.fq l d e) / (Fr.fq c i j))).2.2.1;have e4:(1:Int)=if ¬ (Fr.FrB l d m e∧Fr.FrB c i n j) then (1:Int) else if c=0 then 15 else 0:=(if_pos hNR).symm
    exact V.rt [2,0] [{},{}] [fun _=>{},fun _=>{}] [] [4,5] [] (.tuple #[ag (DFrac.mk ⟨0,([]:List Int),{}⟩ ⟨0,([]:List Int),{}⟩),iv 1]) (cong3 (fun (x0 x2 x4:Int)=>(.tuple #[.agg #[iv x0,SV.v ({}),iv x2,SV.v ({})],iv x4]:Value)) e0 e2 e4)
  have hRR:Fr.FrB l d m e∧Fr.FrB c i n j:=by first | exact q2 | exact ⟨Decidable.not_not.1 (q2).1,Decidable.not_not.1 (q2).2⟩
  have fa:=Fr.FrB.z hRR.1;have fb:=Fr.FrB.z hRR.2;refine V.g [.k (pp ((G1 1).b) 0),.k (pp ((G1 1).b) 0),.ld 1 0 false (fun _=>[iv c]),.k (bv (decide (c=0))),.k (bv (decide (c=0)))] fun _ _ G4=>?_;intro S s
  refine V.cn (b:=decide (c=0)) iDT iDF (fun q3=>?_) (fun q4=>?_)
  · have hz0:c=0:=q3;refine V.g [.k (ag (DFrac.mk ⟨0,[],{}⟩ ⟨0,[],{}⟩)),.st 2 (fun _=>.blk ((G1 2).b) (ca (DFrac.mk ⟨0,[],{}⟩ ⟨0,[],{}⟩)) 33),.k (iv 15)] fun _ _ G5=>?_;intro S s
    refine V.nilF (α:=Int) ?_;refine V.nilF (α:=Int) ?_;have e1:([]:List Int)=Fr.rD ((Fr.FrB l d m e∧Fr.FrB c i n j)∧c≠0) ((Fr.fq l d e) / (Fr.fq c i j)):=(Fr.Fz.no (fun h=>h.2 hz0) ((Fr.fq l d e) / (Fr.fq c i j))).2.1;rw [←e1];have e3:([]:List Int)=Fr.rE ((Fr.FrB l d m e∧Fr.FrB c i n j)∧c≠0) ((Fr.fq l d e) / (Fr.fq c i j)):=(Fr.Fz.no (fun h=>h.2 hz0) ((Fr.fq l d e) / (Fr.fq c i j))).2.2.2;rw [←e3];have e0:(0:Int)=Fr.rS ((Fr.FrB l d m e∧Fr.FrB c i n j)∧c≠0) ((Fr.fq l d e) / (Fr.fq c i j)):=(Fr.Fz.no (fun h=>h.2 hz0) ((Fr.fq l d e) / (Fr.fq c i j))).1;have e2:(0:Int)=Fr.rT ((Fr.FrB l d m e∧Fr.FrB c i n j)∧c≠0):=(Fr.Fz.no (fun h=>h.2 hz0) ((Fr.fq l d e) / (Fr.fq c i j))).2.2.1;have e4:(15:Int)=if ¬ (Fr.FrB l d m e∧Fr.FrB c i n j) then (1:Int) else if c=0 then 15 else 0:=by rw [if_neg (fun h=>h hRR),if_pos hz0]
    exact V.rt [2,0] [{},{}] [fun _=>{},fun _=>{}] [] [4,5] [] (.tuple #[ag (DFrac.mk ⟨0,([]:List Int),{}⟩ ⟨0,([]:List Int),{}⟩),iv 15]) (cong3 (fun (x0 x2 x4:Int)=>(.tuple #[.agg #[iv x0,SV.v ({}),iv x2,SV.v ({})],iv x4]:Value)) e0 e2 e4)
  have hz0:¬ c=0:=q4;refine nm (Bg.oS (Bg.RtB l d∧Bg.RtB n j) (Bg.zv l d * Bg.zv n j):Int) fun n1 hn1=>?_;refine nl (Bg.oD (Bg.RtB l d∧Bg.RtB n j) (Bg.zv l d * Bg.zv n j)) fun l1 hl1 hl1n=>?_;refine nm (Bg.oS (Bg.RtB m e∧Bg.RtB c i) (Bg.zv m e * Bg.zv c i):Int) fun n2 hn2=>?_;refine nl (Bg.oD (Bg.RtB m e∧Bg.RtB c i) (Bg.zv m e * Bg.zv c i)) fun l2 hl2 hl2n=>?_;refine nm (Fr.rS ((Bg.RtB n1 l1∧Bg.RtB n2 l2)∧n2≠0) (Rat.divInt (Bg.zv n1 l1) (Bg.zv n2 l2)):Int) fun n3 hn3=>?_;refine nl (Fr.rD ((Bg.RtB n1 l1∧Bg.RtB n2 l2)∧n2≠0) (Rat.divInt (Bg.zv n1 l1) (Bg.zv n2 l2))) fun l3 hl3 hl3n=>?_;refine nm (Fr.rT ((Bg.RtB n1 l1∧Bg.RtB n2 l2)∧n2≠0):Int) fun n4 hn4=>?_;refine nl (Fr.rE ((Bg.RtB n1 l1∧Bg.RtB n2 l2)∧n2≠0) (Rat.divInt (Bg.zv n1 l1) (Bg.zv n2 l2))) fun l4 hl4 hl4n=>?_;refine nm (if ¬ (Bg.RtB n1 l1∧Bg.RtB n2 l2) then (1:Int) else if n2=0 then 15 else 0:Int) fun n5 hn5=>?_;obtain ⟨z4,z4l⟩:=Fr.Bz.mul fa.p fb.q hn1 hl1
  obtain ⟨z9,z9l⟩:=Fr.Bz.mul fa.q fb.p hn2 hl2;have hy0:(((Fr.fq l d e)).den:Int) * ((Fr.fq c i j)).num≠0:=Int.mul_ne_zero fa.den (fb.p.ne.1 hz0);have zf:=Fr.new_is z4 z9 hy0 hn3 hl3 hn4 hl4;have hEr:n5=0:=by rw [hn5,if_neg (fun h=>h ⟨z4.rt,z9.rt⟩),if_neg (z9.ne.2 hy0)]
  have heq:=(Fr.div_is (Fr.fq l d e) (Fr.fq c i j)).symm;refine V.r [.k (pp ((G1 0).b) 0),.ld 0 0 true (fun _=>Dat.cells (DBig.mk l ⟨d,o⟩)),.k (pp ((G1 1).b) 2),.ld 1 2 true (fun _=>Dat.cells (DBig.mk n ⟨j,x⟩)),.ct g0 4 39 false [] [] [(kf false (.f 0) d (fun _=>o)).a,(kf false (.f 3) j (fun _=>x)).a] (fun _ G=>times_ctv l d o n j x (by omega) (by omega) n1 hn1 l1 hl1),.k (pp ((G1 0).b) 2),.ld 0 2 true (fun _=>Dat.cells (DBig.mk m ⟨e,t⟩)),.k (pp ((G1 1).b) 0),.ld 1 0 true (fun _=>Dat.cells (DBig.mk c ⟨i,u⟩)),.ct g0 9 39 false [] [] [(kf false (.f 1) e (fun _=>t)).a,(kf false (.f 2) i (fun _=>u)).a] (fun _ G=>times_ctv m e t c i u (by omega) (by omega) n2 hn2 l2 hl2),.ct g0 10 38 false [] [] [(kf true (.g 4 0) l1 (fun G=>(G 4).ss 0)).a,(kf true (.g 9 0) l2 (fun G=>(G 9).ss 0)).a] (fun _ G=>new_ctv n1 l1 ((G 4).ss 0) n2 l2 ((G 9).ss 0) (by omega) (by omega) n3 hn3 l3 hl3 n4 hn4 l4 hl4 n5 hn5),.v fun G=>ag (DFrac.mk ⟨n3,l3,(G 10).ss 0⟩ ⟨n4,l4,(G 10).ss 1⟩),.k (iv n5),.st 2 (fun G=>.blk ((G1 2).b) (ca (DFrac.mk ⟨n3,l3,(G 10).ss 0⟩ ⟨n4,l4,(G 10).ss 1⟩)) 33),.k (iv n5)] fun _ _ G6 kw6=>?_;intro S s
  obtain ⟨⟨kl5, -⟩,⟨kl6, -⟩,⟨kl7, -⟩,⟨kl8, -⟩, -⟩:Lq l1 (((G6 4).ss 0).v)∧Lq l2 (((G6 9).ss 0).v)∧Lq l3 (((G6 10).ss 0).v)∧Lq l4 (((G6 10).ss 1).v)∧True:=kq kw6;clear kw6;have e1:l3=Fr.rD ((Fr.FrB l d m e∧Fr.FrB c i n j)∧c≠0) ((Fr.fq l d e) / (Fr.fq c i j)):=(Fr.Fz.ret zf ⟨hRR,hz0⟩ (heq)).2.1;subst e1;have e3:l4=Fr.rE ((Fr.FrB l d m e∧Fr.FrB c i n j)∧c≠0) ((Fr.fq l d e) / (Fr.fq c i j)):=(Fr.Fz.ret zf ⟨hRR,hz0⟩ (heq)).2.2.2;subst e3;have e0:n3=Fr.rS ((Fr.FrB l d m e∧Fr.FrB c i n j)∧c≠0) ((Fr.fq l d e) / (Fr.fq c i j)):=(Fr.Fz.ret zf ⟨hRR,hz0⟩ (heq)).1;have e2:n4=Fr.rT ((Fr.FrB l d m e∧Fr.FrB c i n j)∧c≠0):=(Fr.Fz.ret zf ⟨hRR,hz0⟩ (heq)).2.2.1;have e4:n5=if ¬ (Fr.FrB l d m e∧Fr.FrB c i n j) then (1:Int) else if c=0 then 15 else 0:=by rw [if_neg (fun h=>h hRR),if_neg hz0];exact hEr
  exact V.rt [2,0] [(G6 10).ss 0,(G6 10).ss 1] [fun _=>{},fun _=>{}] [] [6,7] [] (.tuple #[ag (DFrac.mk ⟨n3,(Fr.rD ((Fr.FrB l d m e∧Fr.FrB c i n j)∧c≠0) ((Fr.fq l d e) / (Fr.fq c i j))),(G6 10).ss 0⟩ ⟨n4,(Fr.rE ((Fr.FrB l d m e∧Fr.FrB c i n j)∧c≠0) ((Fr.fq l d e) / (Fr.fq c i j))),(G6 10).ss 1⟩),iv n5]) (cong3 (fun (x0 x2 x4:Int)=>(.tuple #[.agg #[iv x0,((G6 10).ss 0).v,iv x2,((G6 10).ss 1).v],iv x4]:Value)) e0 e2 e4)
theorem fdiv_ctv (f:Int) (b:List Int) (j:SV) (h:Int) (c:List Int) (k:SV) (a:Int) (d:List Int) (l:SV) (i:Int) (e:List Int) (m:SV) (haP:b.length≤17179869184) (haQ:c.length≤17179869184) (hbP:d.length≤17179869184) (hbQ:e.length≤17179869184) (rv0:Int) (erv0:rv0=Fr.rS ((Fr.FrB f b h c∧Fr.FrB a d i e)∧a≠0) ((Fr.fq f b c) / (Fr.fq a d e))) (rv1:List Int) (erv1:rv1=Fr.rD ((Fr.FrB f b h c∧Fr.FrB a d i e)∧a≠0) ((Fr.fq f b c) / (Fr.fq a d e))) (rv2:Int) (erv2:rv2=Fr.rT ((Fr.FrB f b h c∧Fr.FrB a d i e)∧a≠0)) (rv3:List Int) (erv3:rv3=Fr.rE ((Fr.FrB f b h c∧Fr.FrB a d i e)∧a≠0) ((Fr.fq f b c) / (Fr.fq a d e))) (rv4:Int) (erv4:rv4=if ¬ (Fr.FrB f b h c∧Fr.FrB a d i e) then (1:Int) else if a=0 then 15 else 0) :
    Ct Try.prog 37 #[ag (DFrac.mk ⟨f,b,j⟩ ⟨h,c,k⟩),ag (DFrac.mk ⟨a,d,l⟩ ⟨i,e,m⟩)] [fs true b j,fs true c k,fs true d l,fs true e m] [] (fun g=>.tuple #[ag (DFrac.mk ⟨rv0,rv1,(g.ss 0)⟩ ⟨rv2,rv3,(g.ss 1)⟩),iv rv4]) (fun g=>[fs true rv1 (g.ss 0),fs true rv3 (g.ss 1)]) (fun g=>[]) (fun g=>[]):=by
  subst erv0 erv1 erv2 erv3 erv4;exact fdiv_ct f b j h c k a d l i e m haP haQ hbP hbQ
set_option maxRecDepth 10000 in
theorem fsign_ct (c:Int) (d:List Int) (i:SV) (h:Int) (e:List Int) (j:SV) (hfP:d.length≤17179869184) (hfQ:e.length≤17179869184) :
    Cp Try.prog 20 #[ag (DFrac.mk ⟨c,d,i⟩ ⟨h,e,j⟩)] [fs true d i,fs true e j] (iv (if Fr.FrB c d h e then c else 0)):=by
  refine V.fn mo Try.func20 9 1 (by kernel_rfl) fun w H ε k0=>?_;obtain ⟨⟨kl1, -⟩,⟨kl2, -⟩, -⟩:Lq d i.v∧Lq e j.v∧True:=kq k0
  clear k0;refine V.g [.nb 0 0 (fun b=>pp b 0) 33 (fun _=>ca (DFrac.mk ⟨c,d,i⟩ ⟨h,e,j⟩)),.k (iv 0)] fun _ _ G1=>?_;intro S s
  refine V.g [.ld 0 0 true (fun _=>Dat.cells (DFrac.mk ⟨c,d,i⟩ ⟨h,e,j⟩)),.cp g0 1 19 [(kf false (.f 0) d (fun _=>i)).a,(kf false (.f 1) e (fun _=>j)).a] (fun _ G=>right_ct c d i h e j (by omega) (by omega)),.k (bv (!(decide (Fr.FrB c d h e))))] fun _ _ G2=>?_;intro S s
  refine V.cn (b:=!(decide (Fr.FrB c d h e))) (iNT iDF) (iNF iDT) (fun q1=>?_) (fun q2=>?_)
  · refine V.g [.k (iv 0)] fun _ _ G3=>?_;intro S s
    have e0:(0:Int)=if Fr.FrB c d h e then c else 0:=(if_neg q1).symm
    exact V.rt [0] [] [] [] [] [] (iv 0) (cong1 (fun (x0:Int)=>(iv x0:Value)) e0)
  refine V.g [.k (pp ((G1 0).b) 0),.k (pp ((G1 0).b) 0),.ld 0 0 false (fun _=>[iv c]),.k (iv c)] fun _ _ G4=>?_;intro S s
  have e0:c=if Fr.FrB c d h e then c else 0:=(if_pos (by first | exact q2 | exact Decidable.not_not.1 q2)).symm
  exact V.rt [0] [] [] [] [] [] (iv c) (cong1 (fun (x0:Int)=>(iv x0:Value)) e0)
theorem fsign_ctv (c:Int) (a:List Int) (d:SV) (e:Int) (b:List Int) (f:SV) (hfP:a.length≤17179869184) (hfQ:b.length≤17179869184) (rv0:Int) (erv0:rv0=if Fr.FrB c a e b then c else 0) :
    Cp Try.prog 20 #[ag (DFrac.mk ⟨c,a,d⟩ ⟨e,b,f⟩)] [fs true a d,fs true b f] (iv rv0):=by
  subst erv0;exact fsign_ct c a d e b f hfP hfQ
set_option maxRecDepth 10000 in
theorem fcmp_ct (j:Int) (c:List Int) (o:SV) (m:Int) (d:List Int) (t:SV) (l:Int) (e:List Int) (u:SV) (n:Int) (i:List Int) (x:SV) (haP:c.length≤17179869184) (haQ:d.length≤17179869184) (hbP:e.length≤17179869184) (hbQ:i.length≤17179869184) :
    Cp Try.prog 49 #[ag (DFrac.mk ⟨j,c,o⟩ ⟨m,d,t⟩),ag (DFrac.mk ⟨l,e,u⟩ ⟨n,i,x⟩)] [fs true c o,fs true d t,fs true e u,fs true i x] (iv (if Fr.FrB j c m d∧Fr.FrB l e n i then Fr.cmpQ (Fr.fq j c d) (Fr.fq l e i) else 0)):=by
  refine V.fn mo Try.func49 24 2 (by kernel_rfl) fun w H ε k0=>?_;obtain ⟨⟨kl1, -⟩,⟨kl2, -⟩,⟨kl3, -⟩,⟨kl4, -⟩, -⟩:Lq c o.v∧Lq d t.v∧Lq e u.v∧Lq i x.v∧True:=kq k0
  clear k0;refine V.g [.nb 0 0 (fun b=>pp b 0) 33 (fun _=>ca (DFrac.mk ⟨j,c,o⟩ ⟨m,d,t⟩)),.nb 1 1 (fun b=>pp b 0) 33 (fun _=>ca (DFrac.mk ⟨l,e,u⟩ ⟨n,i,x⟩)),.k (iv 0)] fun _ _ G1=>?_;intro S s
  refine nm ((!(decide (Fr.FrB j c m d))) || (!(decide (Fr.FrB l e n i))):Bool) fun p1 hp1=>?_;refine V.g [.ld 0 0 true (fun _=>Dat.cells (DFrac.mk ⟨j,c,o⟩ ⟨m,d,t⟩)),.cp g0 1 19 [(kf false (.f 0) c (fun _=>o)).a,(kf false (.f 1) d (fun _=>t)).a] (fun _ G=>right_ct j c o m d t (by omega) (by omega)),.k (bv (!(decide (Fr.FrB j c m d)))),.k (bv (!(decide (Fr.FrB j c m d)))),.ld 1 0 true (fun _=>Dat.cells (DFrac.mk ⟨l,e,u⟩ ⟨n,i,x⟩)),.cp (gF (b:=!(decide (Fr.FrB j c m d))) (iNF iDT)) 5 19 [(kf false (.f 2) e (fun _=>u)).a,(kf false (.f 3) i (fun _=>x)).a] (fun hg G=>right_ct l e u n i x (by omega) (by omega)),.k (bv (!(decide (Fr.FrB l e n i)))),.orn g0 false (!(decide (Fr.FrB j c m d))) (!(decide (Fr.FrB l e n i))) p1 hp1] fun _ _ G2=>?_;intro S s
  refine V.cn (b:=p1) (iN hp1 (iOT (iNT iDF) (iNT iDF))) (iN hp1 (iOF (iNF iDT) (iNF iDT))) (fun q1=>?_) (fun q2=>?_)
  · have hNR:¬ (Fr.FrB j c m d∧Fr.FrB l e n i):=by rintro ⟨h1,h2⟩;rcases q1 with h | h;exact h h1;exact h h2
    refine V.g [.k (iv 0)] fun _ _ G3=>?_;intro S s
    have e0:(0:Int)=if Fr.FrB j c m d∧Fr.FrB l e n i then Fr.cmpQ (Fr.fq j c d) (Fr.fq l e i) else 0:=(if_neg hNR).symm
    exact V.rt [0] [] [] [] [] [] (iv 0) (cong1 (fun (x0:Int)=>(iv x0:Value)) e0)
  have hRR:Fr.FrB j c m d∧Fr.FrB l e n i:=by first | exact q2 | exact ⟨Decidable.not_not.1 (q2).1,Decidable.not_not.1 (q2).2⟩
  have fa:=Fr.FrB.z hRR.1;have fb:=Fr.FrB.z hRR.2;refine nm (Bg.oS (Bg.RtB j c∧Bg.RtB n i) (Bg.zv j c * Bg.zv n i):Int) fun n1 hn1=>?_;refine nl (Bg.oD (Bg.RtB j c∧Bg.RtB n i) (Bg.zv j c * Bg.zv n i)) fun l1 hl1 hl1n=>?_;refine nm (Bg.oS (Bg.RtB l e∧Bg.RtB m d) (Bg.zv l e * Bg.zv m d):Int) fun n2 hn2=>?_;refine nl (Bg.oD (Bg.RtB l e∧Bg.RtB m d) (Bg.zv l e * Bg.zv m d)) fun l2 hl2 hl2n=>?_;refine nm (if (Bg.RtB n1 l1∧Bg.RtB n2 l2) then Bg.cmpI (Bg.zv n1 l1) (Bg.zv n2 l2) else 0:Int) fun n3 hn3=>?_;obtain ⟨z4,z4l⟩:=Fr.Bz.mul fa.p fb.q hn1 hl1
  obtain ⟨z9,z9l⟩:=Fr.Bz.mul fb.p fa.q hn2 hl2;refine V.r [.k (pp ((G1 0).b) 0),.ld 0 0 true (fun _=>Dat.cells (DBig.mk j ⟨c,o⟩)),.k (pp ((G1 1).b) 2),.ld 1 2 true (fun _=>Dat.cells (DBig.mk n ⟨i,x⟩)),.ct g0 4 39 false [] [] [(kf false (.f 0) c (fun _=>o)).a,(kf false (.f 3) i (fun _=>x)).a] (fun _ G=>times_ctv j c o n i x (by omega) (by omega) n1 hn1 l1 hl1),.k (pp ((G1 1).b) 0),.ld 1 0 true (fun _=>Dat.cells (DBig.mk l ⟨e,u⟩)),.k (pp ((G1 0).b) 2),.ld 0 2 true (fun _=>Dat.cells (DBig.mk m ⟨d,t⟩)),.ct g0 9 39 false [] [] [(kf false (.f 2) e (fun _=>u)).a,(kf false (.f 1) d (fun _=>t)).a] (fun _ G=>times_ctv l e u m d t (by omega) (by omega) n2 hn2 l2 hl2),.cp g0 10 87 [(kf true (.g 4 0) l1 (fun G=>(G 4).ss 0)).a,(kf true (.g 9 0) l2 (fun G=>(G 9).ss 0)).a] (fun _ G=>Cmp_ctv n1 l1 ((G 4).ss 0) n2 l2 ((G 9).ss 0) n3 hn3),.k (iv n3)] fun _ _ G4 kw4=>?_;intro S s;obtain ⟨⟨kl5, -⟩,⟨kl6, -⟩, -⟩:Lq l1 (((G4 4).ss 0).v)∧Lq l2 (((G4 9).ss 0).v)∧True:=kq kw4;clear kw4;have e0:n3=if Fr.FrB j c m d∧Fr.FrB l e n i then Fr.cmpQ (Fr.fq j c d) (Fr.fq l e i) else 0:=by rw [if_pos hRR,hn3,if_pos ⟨z4.rt,z9.rt⟩,z4.v,z9.v];exact Fr.cmpQ_is _ _
  exact V.rt [0] [] [] [] [] [] (iv n3) (cong1 (fun (x0:Int)=>(iv x0:Value)) e0)
theorem fcmp_ctv (e:Int) (a:List Int) (g:SV) (h:Int) (b:List Int) (i:SV) (f:Int) (c:List Int) (j:SV) (k:Int) (d:List Int) (l:SV) (haP:a.length≤17179869184) (haQ:b.length≤17179869184) (hbP:c.length≤17179869184) (hbQ:d.length≤17179869184) (rv0:Int) (erv0:rv0=if Fr.FrB e a h b∧Fr.FrB f c k d then Fr.cmpQ (Fr.fq e a b) (Fr.fq f c d) else 0) :
    Cp Try.prog 49 #[ag (DFrac.mk ⟨e,a,g⟩ ⟨h,b,i⟩),ag (DFrac.mk ⟨f,c,j⟩ ⟨k,d,l⟩)] [fs true a g,fs true b i,fs true c j,fs true d l] (iv rv0):=by
  subst erv0;exact fcmp_ct e a g h b i f c j k d l haP haQ hbP hbQ
set_option maxRecDepth 10000 in
theorem ffloor_ct (e:Int) (c:List Int) (i:SV) (h:Int) (d:List Int) (j:SV) (hfP:c.length≤17179869184) (hfQ:d.length≤17179869184) :
    Ct Try.prog 45 #[ag (DFrac.mk ⟨e,c,i⟩ ⟨h,d,j⟩)] [fs true c i,fs true d j] [] (fun g=>ag (DBig.mk (Bg.oS (Fr.FrB e c h d) (Fr.fq e c d).floor) ⟨Bg.oD (Fr.FrB e c h d) (Fr.fq e c d).floor,(g.ss 0)⟩)) (fun g=>[fs true (Bg.oD (Fr.FrB e c h d) (Fr.fq e c d).floor) (g.ss 0)]) (fun g=>[]) (fun g=>[]):=by
  refine V.fn mo Try.func45 20 4 (by kernel_rfl) fun w H ε k0=>?_;obtain ⟨⟨kl1, -⟩,⟨kl2, -⟩, -⟩:Lq c i.v∧Lq d j.v∧True:=kq k0
  clear k0;refine V.g [.nb 0 0 (fun b=>pp b 0) 33 (fun _=>ca (DFrac.mk ⟨e,c,i⟩ ⟨h,d,j⟩)),.nb 1 1 (fun b=>pp b 0) 31 (fun _=>ca (DBig.mk 0 ⟨[],{}⟩))] fun _ _ G1=>?_;intro S s
  refine V.g [.ld 0 0 true (fun _=>Dat.cells (DFrac.mk ⟨e,c,i⟩ ⟨h,d,j⟩)),.cp g0 1 19 [(kf false (.f 0) c (fun _=>i)).a,(kf false (.f 1) d (fun _=>j)).a] (fun _ G=>right_ct e c i h d j (by omega) (by omega)),.k (bv (!(decide (Fr.FrB e c h d))))] fun _ _ G2=>?_;intro S s
  refine V.cn (b:=!(decide (Fr.FrB e c h d))) (iNT iDF) (iNF iDT) (fun q1=>?_) (fun q2=>?_)
  · refine V.g [.k (ag (DBig.mk 0 ⟨[],{}⟩)),.st 1 (fun _=>.blk ((G1 1).b) (ca (DBig.mk 0 ⟨[],{}⟩)) 31)] fun _ _ G3=>?_;intro S s
    refine V.nilF (α:=Int) ?_;have e1:([]:List Int)=Bg.oD (Fr.FrB e c h d) (Fr.fq e c d).floor:=(Bg.oD_n q1 _).symm;rw [←e1];have e0:(0:Int)=Bg.oS (Fr.FrB e c h d) (Fr.fq e c d).floor:=(Bg.oS_n q1 _).symm;exact V.rt [1] [{}] [fun _=>{}] [] [2] [] (ag (DBig.mk 0 ⟨([]:List Int),{}⟩)) (cong1 (fun (x0:Int)=>(.agg #[iv x0,SV.v ({})]:Value)) e0)
  refine nm (Bg.oS ((Bg.RtB e c∧Bg.RtB h d)∧h≠0) (Bg.flo (Bg.zv e c) (Bg.zv h d)):Int) fun n1 hn1=>?_;refine nl (Bg.oD ((Bg.RtB e c∧Bg.RtB h d)∧h≠0) (Bg.flo (Bg.zv e c) (Bg.zv h d))) fun l1 hl1 hl1n=>?_;refine nm (Bg.oS ((Bg.RtB e c∧Bg.RtB h d)∧h≠0) (Bg.fmo (Bg.zv e c) (Bg.zv h d)):Int) fun n2 hn2=>?_;refine nl (Bg.oD ((Bg.RtB e c∧Bg.RtB h d)∧h≠0) (Bg.fmo (Bg.zv e c) (Bg.zv h d))) fun l2 hl2 hl2n=>?_;refine nm (if ¬ (Bg.RtB e c∧Bg.RtB h d) then (1:Int) else if h=0 then 15 else 0:Int) fun n3 hn3=>?_;have hFF:Fr.FrB e c h d:=by first | exact q2 | exact Decidable.not_not.1 q2
  have ff:=Fr.FrB.z hFF;have zd:=Fr.Bz.div ff.p ff.q (by have:=(Fr.fq e c d).den_pos;omega) hn1 hl1;have hfe:=Rat.floor_def (Fr.fq e c d);rw [←hfe] at zd;have hfe:(Fr.fq e c d).floor=(Fr.fq e c d).floor:=rfl;refine V.r [.k (pp ((G1 0).b) 0),.ld 0 0 true (fun _=>Dat.cells (DBig.mk e ⟨c,i⟩)),.k (pp ((G1 0).b) 2),.ld 0 2 true (fun _=>Dat.cells (DBig.mk h ⟨d,j⟩)),.ct g0 4 77 false [] [] [(kf false (.f 0) c (fun _=>i)).a,(kf false (.f 1) d (fun _=>j)).a] (fun _ G=>Div_ctv e c i h d j (by omega) (by omega) n1 hn1 l1 hl1 n2 hn2 l2 hl2 n3 hn3),.v fun G=>.tuple #[ag (DBig.mk n1 ⟨l1,(G 4).ss 0⟩),ag (DBig.mk n2 ⟨l2,(G 4).ss 1⟩),iv n3],.v fun G=>ag (DBig.mk n1 ⟨l1,(G 4).ss 0⟩),.v fun G=>ag (DBig.mk n2 ⟨l2,(G 4).ss 1⟩),.k (iv n3),.nb 9 2 (fun b=>pp b 0) 31 (fun _=>ca (DBig.mk 0 ⟨[],{}⟩)),.nb 10 3 (fun b=>pp b 0) 31 (fun _=>ca (DBig.mk 0 ⟨[],{}⟩)),.st 2 (fun G=>.blk ((G 9).b) (ca (DBig.mk n1 ⟨l1,(G 4).ss 0⟩)) 31),.st 3 (fun G=>.blk ((G 10).b) (ca (DBig.mk n2 ⟨l2,(G 4).ss 1⟩)) 31),.k (iv n3)] fun _ _ G4 kw4=>?_;intro S s
  obtain ⟨⟨kl3, -⟩,⟨kl4, -⟩, -⟩:Lq l1 (((G4 4).ss 0).v)∧Lq l2 (((G4 4).ss 1).v)∧True:=kq kw4;clear kw4;refine V.g [.ld 2 0 true (fun _=>Dat.cells (DBig.mk n1 ⟨l1,(G4 4).ss 0⟩)),.st 1 (fun _=>.blk ((G1 1).b) (ca (DBig.mk n1 ⟨l1,(G4 4).ss 0⟩)) 31)] fun _ _ G5=>?_;intro S s;have e1:l1=Bg.oD (Fr.FrB e c h d) (Fr.fq e c d).floor:=by rw [Bg.oD_y hFF,← hfe];exact zd.eqs.2
  subst e1;have e0:n1=Bg.oS (Fr.FrB e c h d) (Fr.fq e c d).floor:=by rw [Bg.oS_y hFF,← hfe];exact zd.eqs.1
  exact V.rt [1] [(G4 4).ss 0] [fun _=>{}] [] [2] [] (ag (DBig.mk n1 ⟨(Bg.oD (Fr.FrB e c h d) (Fr.fq e c d).floor),(G4 4).ss 0⟩)) (cong1 (fun (x0:Int)=>(.agg #[iv x0,((G4 4).ss 0).v]:Value)) e0)
theorem ffloor_ctv (c:Int) (a:List Int) (e:SV) (d:Int) (b:List Int) (f:SV) (hfP:a.length≤17179869184) (hfQ:b.length≤17179869184) (rv0:Int) (erv0:rv0=Bg.oS (Fr.FrB c a d b) (Fr.fq c a b).floor) (rv1:List Int) (erv1:rv1=Bg.oD (Fr.FrB c a d b) (Fr.fq c a b).floor) :
    Ct Try.prog 45 #[ag (DFrac.mk ⟨c,a,e⟩ ⟨d,b,f⟩)] [fs true a e,fs true b f] [] (fun g=>ag (DBig.mk rv0 ⟨rv1,(g.ss 0)⟩)) (fun g=>[fs true rv1 (g.ss 0)]) (fun g=>[]) (fun g=>[]):=by
  subst erv0 erv1;exact ffloor_ct c a e d b f hfP hfQ

namespace Fr
open Bg
def rt (x:DFrac):Prop:=FrB x.P.Sign x.P.Digits.l x.Q.Sign x.Q.Digits.l
instance (x : DFrac) : Decidable (rt x) := by unfold rt; infer_instance
def qv (x:DFrac):Rat:=fq x.P.Sign x.P.Digits.l x.Q.Digits.l
def ln (k:Nat) (x:DFrac):Prop:=x.P.Digits.l.length≤k∧x.Q.Digits.l.length≤k
def fmk (r:Rat) (s1 s2:SV):DFrac:=⟨⟨sgn r.num,⟨dig r.num.natAbs,s1⟩⟩,⟨1,⟨dig r.den,s2⟩⟩⟩
theorem rt_fmk (r:Rat) (s1 s2:SV):rt (fmk r s1 s2):=FrB.of r
theorem qv_fmk (r:Rat) (s1 s2:SV):qv (fmk r s1 s2)=r:=fq_of r
theorem ln_fmk {r:Rat} {k:Nat} (h:Hb r k) (s1 s2:SV):ln k (fmk r s1 s2):=h.len
def frs:List Rat→(Nat→SV)→List DFrac
  | [],_=>[]
  | r :: l,σ=>fmk r (σ 0) (σ 1) :: frs l fun i=>σ (i+2)
theorem frs_qv:∀ (l:List Rat) (σ:Nat→SV),(frs l σ).map qv=l
  | [],_=>rfl
  | r :: l,σ=>by rw [frs,List.map_cons,qv_fmk,frs_qv l]
theorem frs_len (l:List Rat) (σ:Nat→SV):(frs l σ).length=l.length:=by rw [←List.length_map (f:=qv),frs_qv]
theorem frs_mem:∀ {l:List Rat} {σ:Nat→SV} {x:DFrac},x ∈ frs l σ→∃ r ∈ l,∃ s1 s2,x=fmk r s1 s2
  | r :: l,σ,x,h=>by
    rcases List.mem_cons.1 h with rfl | h
    · exact ⟨r,List.mem_cons_self,_,_,rfl⟩
    · obtain ⟨r',h',e⟩:=frs_mem h
      exact ⟨r',List.mem_cons_of_mem _ h',e⟩
theorem frs_rt {l:List Rat} {σ:Nat→SV}:∀ x ∈ frs l σ,rt x:=fun x h=>by
  obtain ⟨r,_,s1,s2,rfl⟩:=frs_mem h;exact rt_fmk r s1 s2
theorem frs_ln {l:List Rat} {σ:Nat→SV} {k:Nat} (h:∀ r ∈ l,Hb r k):∀ x ∈ frs l σ,ln k x:=fun x hx=>by
  obtain ⟨r,hr,s1,s2,rfl⟩:=frs_mem hx;exact ln_fmk (h r hr) s1 s2
theorem rt.is {x:DFrac} (h:rt x):x=fmk (qv x) x.P.Digits.s x.Q.Digits.s:=by
  obtain ⟨e1,e2,e3,e4⟩:=FrB.eqs h
  rcases x with ⟨⟨a,⟨b,c⟩⟩,⟨d,⟨e,f⟩⟩⟩
  simp only at e1 e2 e3 e4
  unfold fmk qv
  simp only
  rw [←e1,← e2,e3,← e4]
def Frs (l:List DFrac) (m:List Rat):Prop:=(∀ x ∈ l,rt x)∧l.map qv=m
theorem frs_ex:∀ {l:List DFrac} {m:List Rat},Frs l m→∃ σ,l=frs m σ
  | [],m,h=>⟨fun _=>{},by obtain ⟨_,h⟩:=h;subst h;rfl⟩
  | x :: l,m,h=>by
    obtain ⟨h1,h2⟩:=h
    subst h2
    obtain ⟨σ,e⟩:=frs_ex (l:=l) (m:=l.map qv) ⟨fun y hy=>h1 y (List.mem_cons_of_mem _ hy),rfl⟩
    refine ⟨fun i=>match i with | 0=>x.P.Digits.s | 1=>x.Q.Digits.s | i+2=>σ i,?_⟩
    show _=frs (qv x :: l.map qv) _
    rw [frs]
    show x :: l=fmk (qv x) x.P.Digits.s x.Q.Digits.s :: frs (l.map qv) σ
    rw [←e,← (h1 x List.mem_cons_self).is]
theorem Frs.nil:Frs [] []:=⟨by simp,rfl⟩
theorem Frs.of (m:List Rat) (σ:Nat→SV):Frs (frs m σ) m:=⟨frs_rt,frs_qv m σ⟩
theorem Frs.snoc {l:List DFrac} {m:List Rat} {x:DFrac} {r:Rat} (h:Frs l m) (hx:rt x) (e:qv x=r):Frs (l ++[x]) (m ++[r]) :=
  ⟨fun y hy=>by rcases List.mem_append.1 hy with hy | hy;exact h.1 y hy;rw [List.mem_singleton.1 hy];exact hx,by rw [List.map_append,h.2,List.map_singleton,e]⟩
theorem rt.z {x:DFrac} (h:rt x):Fz x.P.Sign x.P.Digits.l x.Q.Sign x.Q.Digits.l (qv x):=⟨h,rfl⟩
theorem Frs.eq_of {l m:List DFrac} {a:List Rat} (h:Frs l a) (k:Frs m a):l.map (fun x=>(x.P.Sign,x.P.Digits.l,x.Q.Sign,x.Q.Digits.l))=m.map (fun x=>(x.P.Sign,x.P.Digits.l,x.Q.Sign,x.Q.Digits.l)):=by
  have key:∀ (l:List DFrac),(∀ x ∈ l,rt x)→l.map (fun x=>(x.P.Sign,x.P.Digits.l,x.Q.Sign,x.Q.Digits.l))=(l.map qv).map fun r=>(sgn r.num,dig r.num.natAbs,(1:Int),dig r.den):=fun l hl=>by
    rw [List.map_map]
    refine List.map_congr_left fun x hx=>?_
    obtain ⟨e1,e2,e3,e4⟩:=FrB.eqs (hl x hx)
    show (_,_,_,_)=(_,_,_,_)
    rw [←show fq x.P.Sign x.P.Digits.l x.Q.Digits.l=qv x from rfl,← e1,← e2,← e3,← e4]
  rw [key l h.1,key m k.1,h.2,k.2]
def sumQ (l:List Rat):Rat:=l.foldl (·+·) 0
theorem sumQ_snoc (l:List Rat) (x:Rat):sumQ (l ++[x])=sumQ l+x:=by unfold sumQ;rw [List.foldl_append];rfl
theorem take_step {α:Type} [Inhabited α] {l:List α} {k:Nat} (h:k < l.length):l.take (k+1)=l.take k ++[l.getD k default]:=by
  rw [List.take_add_one,List.getD_eq_getElem?_getD,List.getElem?_eq_getElem h];rfl
theorem sumQ_step {l:List DFrac} {k:Nat} {x:DFrac} (h:k < l.length) (hx:x=l.getD k default):sumQ ((l.take (k+1)).map qv)=sumQ ((l.take k).map qv)+qv x:=by
  rw [take_step h,List.map_append,← hx];exact sumQ_snoc _ _
theorem sumQ_hb {k:Nat}:∀ {l:List Rat},(∀ r ∈ l,Hb r k)→Hb (sumQ l) (1+l.length * (k+1)):=fun {l}=>by
  have key:∀ (n:Nat) (l:List Rat),l.length=n→(∀ r ∈ l,Hb r k)→Hb (sumQ l) (1+n * (k+1)):=fun n=>by
    induction n with
    | zero=>intro l hl _;rw [List.eq_nil_of_length_eq_zero hl,Nat.zero_mul];exact (⟨by decide,by decide⟩:Hb 0 1)
    | succ n ih =>
      intro l hl h
      have e:=List.dropLast_concat_getLast (l:=l) (by intro e;subst e;simp at hl)
      rw [←e,sumQ_snoc]
      refine ((ih l.dropLast (by simp [hl]) fun r hr=>h r (by rw [←e];exact List.mem_append_left _ hr)).add (h _ (List.getLast_mem _))).mono ?_
      rw [Nat.add_mul];omega
  exact key l.length l rfl
def Wb (l:List DFrac):Prop:=l.length≤1000∧∀ x ∈ l,ln 1000000 x
theorem Wb.hb {l:List DFrac} (h:Wb l) (hr:∀ x ∈ l,rt x) (n:Nat):Hb (sumQ ((l.take n).map qv)) 1000001002:=by
  have h1:∀ r ∈ (l.take n).map qv,Hb r 1000000:=fun r hr'=>by
    obtain ⟨x,hx,rfl⟩:=List.mem_map.1 hr'
    have hx:=List.mem_of_mem_take hx
    exact (hr x hx).z.hb (h.2 x hx).1 (h.2 x hx).2
  refine (sumQ_hb h1).mono ?_
  have:((l.take n).map qv).length≤1000:=by simp;have:=h.1;omega
  have:=Nat.mul_le_mul_right (1000000+1) this
  omega
theorem Wb.at {l:List DFrac} (h:Wb l) {k:Nat} {x:DFrac} (hk:k < l.length) (hx:x=l.getD k default):ln 1000000 x:=h.2 x (getD_mem hk hx)
def negB (x:DFrac):Bool:=decide ((if FrB x.P.Sign x.P.Digits.l x.Q.Sign x.Q.Digits.l then x.P.Sign else 0) < 0)
theorem negB_is {x:DFrac} (h:rt x):negB x=decide (qv x < 0):=by
  unfold negB
  rw [if_pos (show FrB _ _ _ _ from h),h.z.eqs.1]
  exact decide_eq_decide.2 sgn_num.1
def idxF {α:Type} (p:α→Bool):List α→Int
  | []=> -1
  | x :: l=>if p x then 0 else if idxF p l= -1 then -1 else idxF p l+1
theorem idxF_ge {α:Type} (p:α→Bool):∀ l:List α,idxF p l= -1∨0≤idxF p l
  | []=>.inl rfl
  | x :: l=>by
    unfold idxF
    split
    · omega
    · split
      · omega
      · have:=idxF_ge p l;omega
theorem idxF_any {α:Type} (p:α→Bool):∀ l:List α,0≤idxF p l↔l.any p=true
  | []=>by unfold idxF;simp
  | x :: l=>by
    unfold idxF
    rw [List.any_cons,Bool.or_eq_true,← idxF_any p l]
    by_cases h:p x=true
    · rw [if_pos h];exact ⟨fun _=>.inl h,fun _=>by omega⟩
    · rw [if_neg h]
      have:=idxF_ge p l
      by_cases h2:idxF p l= -1
      · rw [if_pos h2,h2];simp [h]
      · rw [if_neg h2];simp only [h,false_or];omega
theorem idxF_at {α:Type} [Inhabited α] {p:α→Bool}:∀ {l:List α} {k:Nat} {x:α},k < l.length→(∀ i,i < k→p (l.getD i default)=false)→x=l.getD k default→p x=true→(k:Int)=idxF p l
  | y :: l,0,x,_,_,hx,h=>by
    unfold idxF;rw [List.getD_cons_zero] at hx;subst hx;rw [if_pos h];rfl
  | y :: l,k+1,x,hk,hn,hx,h=>by
    have h0:p y=false:=hn 0 (by omega)
    have ih:=idxF_at (p:=p) (l:=l) (k:=k) (x:=x) (by simpa using hk) (fun i hi=>hn (i+1) (by omega)) (by simpa using hx) h
    unfold idxF;rw [h0,if_neg (by decide),if_neg (by omega),← ih];omega
theorem idxF_no {α:Type} [Inhabited α] {p:α→Bool}:∀ {l:List α},(∀ i,i < l.length→p (l.getD i default)=false)→idxF p l= -1
  | [],_=>rfl
  | y :: l,h=>by
    have h0:p y=false:=h 0 (by simp)
    have ih:=idxF_no (p:=p) (l:=l) fun i hi=>h (i+1) (by simp;omega)
    unfold idxF;rw [h0,if_neg (by decide),if_pos ih]
def wrongB (x:DFrac):Bool:=!decide (rt x)
theorem anyW {l:List DFrac}:l.any wrongB=false↔∀ x ∈ l,rt x:=by
  rw [List.any_eq_false]
  refine forall_congr' fun x=>imp_congr_right fun _=>?_
  unfold wrongB;simp
theorem anyN {l:List DFrac} (h:∀ x ∈ l,rt x):l.any negB=false↔∀ x ∈ l,0≤qv x:=by
  rw [List.any_eq_false]
  refine forall_congr' fun x=>⟨fun k hx=>?_,fun k hx=>?_⟩
  · have:=k hx;rw [negB_is (h x hx),decide_eq_true_eq,Rat.not_lt] at this;exact this
  · rw [negB_is (h x hx),decide_eq_true_eq,Rat.not_lt];exact k hx
theorem sum0 (l:List DFrac):Fz (sgn 0) (dig (Int.natAbs 0)) 1 (dig 1) (sumQ ((l.take (0:Int).toNat).map qv)):=⟨FrB.of 0,fq_of 0⟩
theorem Wb.lf {l:List DFrac} (h:Wb l):∀ x ∈ l,ln 17179869184 x:=fun x hx=>by have:=h.2 x hx;unfold ln at this ⊢;omega
theorem Frs.len_le {l w:List DFrac} {f:DFrac→Rat} {k:Nat} (h:Frs l ((w.take k).map f)):l.length≤w.length:=by
  have:=congrArg List.length h.2;simp at this;omega
theorem len0 {l:List DFrac}:(l.length:Int)=0↔l=[]:=⟨fun h=>List.eq_nil_of_length_eq_zero (by omega),fun h=>by subst h;rfl⟩
theorem wrong_t {x:DFrac} (h:¬ FrB x.P.Sign x.P.Digits.l x.Q.Sign x.Q.Digits.l):wrongB x=true:=by unfold wrongB;simp only [Bool.not_eq_true',decide_eq_false_iff_not];exact h
theorem wrong_f {x:DFrac} (h:FrB x.P.Sign x.P.Digits.l x.Q.Sign x.Q.Digits.l):wrongB x=false:=by unfold wrongB;simp only [Bool.not_eq_false',decide_eq_true_eq];exact h
theorem intz (n:Int):Fz (sgn n) (dig n.natAbs) 1 (dig 1) (n:Rat):=⟨FrB.of (n:Rat),fq_of (n:Rat)⟩
def sumW (l:List DFrac):Rat:=sumQ (l.map qv)
def shE (l:List DFrac):Int:=if l=[]∨l.any wrongB=true then 1 else if l.any negB=true then 3 else if sumW l=0 then 15 else 0
def shQ (l:List DFrac):List Rat:=if shE l=0 then l.map fun x=>qv x / sumW l else []
theorem shE_1 {l:List DFrac} (h:l=[]∨l.any wrongB=true):shE l=1:=if_pos h
theorem shE_3 {l:List DFrac} (h:¬ (l=[]∨l.any wrongB=true)) (k:l.any negB=true):shE l=3:=by unfold shE;rw [if_neg h,if_pos k]
theorem shE_15 {l:List DFrac} (h:¬ (l=[]∨l.any wrongB=true)) (k:¬ l.any negB=true) (s:sumW l=0):shE l=15:=by unfold shE;rw [if_neg h,if_neg k,if_pos s]
theorem shE_0 {l:List DFrac} (h:¬ (l=[]∨l.any wrongB=true)) (k:¬ l.any negB=true) (s:¬ sumW l=0):shE l=0:=by unfold shE;rw [if_neg h,if_neg k,if_neg s]
theorem shQ_n {l:List DFrac} (h:shE l≠0):shQ l=[]:=if_neg h
theorem shQ_y {l:List DFrac} (h:shE l=0):shQ l=l.map fun x=>qv x / sumW l:=if_pos h
theorem shE_is {l:List DFrac} (h:shE l=0):l≠[]∧(∀ x ∈ l,rt x)∧(∀ x ∈ l,0≤qv x)∧sumW l≠0:=by
  unfold shE at h
  by_cases h1:l=[]∨l.any wrongB=true
  · rw [if_pos h1] at h;omega
  · rw [if_neg h1] at h
    have hr:∀ x ∈ l,rt x:=anyW.1 (by cases e:l.any wrongB;rfl;exact (h1 (.inr e)).elim)
    by_cases h2:l.any negB=true
    · rw [if_pos h2] at h;omega
    · rw [if_neg h2] at h
      by_cases h3:sumW l=0
      · rw [if_pos h3] at h;omega
      · exact ⟨fun e=>h1 (.inl e),hr,(anyN hr).1 (by simpa using h2),h3⟩
def isSh (l:List DFrac):Prop:=(∀ x ∈ l,rt x)∧(∀ x ∈ l,0≤qv x)∧sumW l=1
instance (l : List DFrac) : Decidable (isSh l) := by unfold isSh; infer_instance
theorem Wb.hbW {l:List DFrac} (h:Wb l) (hr:∀ x ∈ l,rt x):Hb (sumW l) 1000001002:=by
  have:=h.hb hr l.length;rw [List.take_length] at this;exact this
theorem isSh_is {l:List DFrac} {n:Int} (hn:(∀ x ∈ l,rt x)→n=cmpQ (sumW l) 1):((¬l.any wrongB=true)∧¬ l.any negB=true)∧n=0↔isSh l:=by
  constructor
  · rintro ⟨⟨h1,h2⟩,h3⟩
    have hr:=anyW.1 (by simpa using h1)
    refine ⟨hr,(anyN hr).1 (by simpa using h2),?_⟩
    have:=hn hr;rw [h3] at this;unfold cmpQ at this
    by_cases a:sumW l < 1
    · rw [if_pos a] at this;omega
    · rw [if_neg a] at this
      by_cases b:sumW l=1
      · exact b
      · rw [if_neg b] at this;omega
  · rintro ⟨hr,h2,h3⟩
    refine ⟨⟨by rw [anyW.2 hr];simp,by rw [(anyN hr).2 h2];simp⟩,?_⟩
    rw [hn hr,h3];rfl
end Fr

open Go Go.Proofs
set_option maxRecDepth 10000 in
theorem wrong_ct (e:Int) (c:List Int) (i:SV) (h:Int) (d:List Int) (j:SV) (hfP:c.length≤17179869184) (hfQ:d.length≤17179869184) :
    Cp Try.prog 34 #[ag (DFrac.mk ⟨e,c,i⟩ ⟨h,d,j⟩)] [fs true c i,fs true d j] (bv (!decide (Fr.FrB e c h d))):=by
  refine V.fn mo Try.func34 6 1 (by kernel_rfl) fun w H ε k0=>?_;obtain ⟨⟨kl1, -⟩,⟨kl2, -⟩, -⟩:Lq c i.v∧Lq d j.v∧True:=kq k0
  clear k0;refine V.g [.nb 0 0 (fun b=>pp b 0) 33 (fun _=>ca (DFrac.mk ⟨e,c,i⟩ ⟨h,d,j⟩)),.kb false] fun _ _ G1=>?_;intro S s
  refine V.g [.ld 0 0 true (fun _=>Dat.cells (DFrac.mk ⟨e,c,i⟩ ⟨h,d,j⟩)),.cp g0 1 19 [(kf false (.f 0) c (fun _=>i)).a,(kf false (.f 1) d (fun _=>j)).a] (fun _ G=>right_ct e c i h d j (by omega) (by omega)),.k (bv (!(decide (Fr.FrB e c h d)))),.k (bv (!(decide (Fr.FrB e c h d))))] fun _ _ G2=>?_;intro S s
  have e0:(!(decide (Fr.FrB e c h d)))=!decide (Fr.FrB e c h d):=by rfl
  exact V.rt [0] [] [] [] [] [] (bv (!(decide (Fr.FrB e c h d)))) (cong1 (fun (x0:Bool)=>(bv x0:Value)) e0)
set_option maxRecDepth 10000 in
theorem negative_ct (e:Int) (c:List Int) (h:SV) (i:Int) (d:List Int) (j:SV) (hfP:c.length≤17179869184) (hfQ:d.length≤17179869184) :
    Cp Try.prog 35 #[ag (DFrac.mk ⟨e,c,h⟩ ⟨i,d,j⟩)] [fs true c h,fs true d j] (bv (decide ((if Fr.FrB e c i d then e else 0) < 0))):=by
  refine V.fn mo Try.func35 6 1 (by kernel_rfl) fun w H ε k0=>?_;obtain ⟨⟨kl1, -⟩,⟨kl2, -⟩, -⟩:Lq c h.v∧Lq d j.v∧True:=kq k0
  clear k0;refine V.g [.nb 0 0 (fun b=>pp b 0) 33 (fun _=>ca (DFrac.mk ⟨e,c,h⟩ ⟨i,d,j⟩)),.kb false] fun _ _ G1=>?_;intro S s
  refine nm (if Fr.FrB e c i d then e else 0:Int) fun n1 hn1=>?_;refine V.g [.ld 0 0 true (fun _=>Dat.cells (DFrac.mk ⟨e,c,h⟩ ⟨i,d,j⟩)),.cp g0 1 20 [(kf false (.f 0) c (fun _=>h)).a,(kf false (.f 1) d (fun _=>j)).a] (fun _ G=>fsign_ctv e c h i d j (by omega) (by omega) n1 hn1),.k (bv (decide (n1 < 0))),.k (bv (decide (n1 < 0)))] fun _ _ G2=>?_;intro S s
  have e0:(decide (n1 < 0))=decide ((if Fr.FrB e c i d then e else 0) < 0):=by subst_vars;rfl
  exact V.rt [0] [] [] [] [] [] (bv (decide (n1 < 0))) (cong1 (fun (x0:Bool)=>(bv x0:Value)) e0)
set_option maxRecDepth 10000 in
theorem idxw_ct (s:List DFrac) (ss:SV) (hL:∀ x ∈ s,Fr.ln 17179869184 x) :
    Cp Try.prog 75 #[ss.v,.func (.func 34) #[] #[]] [fs true s ss] (iv (Fr.idxF Fr.wrongB s)):=by
  refine V.fn mo Try.func75 19 0 (by kernel_rfl) fun w H ε k0=>?_;obtain ⟨⟨kl1, -⟩, -⟩:Lq s ss.v∧True:=kq k0
  clear k0;refine V.g [.k (iv 0)] fun _ _ G1=>?_;intro S_ s_
  refine V.g [.k (ss.v),.ln (kf false (.f 0) s (fun _=>ss)),.k (iv 0)] fun _ _ G2=>?_;intro S_ s_
  refine V.loop (γ:=Int) (fun k0=>⟨[(0,ss.v),(1,.func (.func 34) #[] #[]),(7,iv (s.length:Int)),(8,iv k0)],[fs false s ss],[]⟩) (fun k0=>(0≤k0)∧(k0≤(s.length:Int))∧(∀ i,i < k0.toNat→Fr.wrongB (s.getD i default)=false)) (fun k0=>((s.length:Int)-k0).toNat) 0 (by kernel_rfl) [0] (by kernel_rfl) ?_ ?_
  · refine ⟨?_,?_,?_⟩
    · show 0≤(0:Int)
      first | omega | rfl | (simp;done) | (subst_vars;simp;done)
    · show (0:Int)≤(s.length:Int)
      first | omega | rfl | (simp;done) | (subst_vars;simp;done)
    show ∀ i,i < (0:Int).toNat→Fr.wrongB (s.getD i default)=false;intro i hi;simp at hi
  rintro k0 hF1 kw3 Z1 hZ1;have hF1:(0≤k0)∧(k0≤(s.length:Int))∧(∀ i,i < k0.toNat→Fr.wrongB (s.getD i default)=false):=hF1;obtain ⟨hf1,hf2,hf3⟩:=hF1;clear kw3;refine V.g [.k (bv (decide (k0 < (s.length:Int))))] fun _ _ G3=>?_;intro S_ s_;refine V.cn (b:=decide (k0 < (s.length:Int))) iDT iDF (fun q1=>?_) (fun q2=>?_)
  · refine V.g [.k (iv k0),.k (iv k0)] fun _ _ G4=>?_;intro S_ s_
    refine nm (s.getD k0.toNat default:DFrac) fun x1 hx1=>?_;have hxl:=hL _ (getD_mem (by omega) hx1)
    have hxl1:=hxl.1;have hxl2:=hxl.2;refine V.r [.k (.func (.func 34) #[] #[]),.k (ss.v),.k (iv k0),.ix g0 (kf false (.f 0) s (fun _=>ss)) k0 (fun _=>⟨by omega,by omega⟩),.le g0 (kf false (.f 0) s (fun _=>ss)) k0 none true x1 hx1 (fun _=>⟨by omega,by omega⟩) true (fun _=>Dat.cells x1),.cp g0 5 34 [(kx false (.g 4 0) x1 x1.P.Digits.l (fun _=>x1.P.Digits.s) (fun _ H (h:Dat.good H (x1:DFrac))=>h.1)).a,(kx false (.g 4 0) x1 x1.Q.Digits.l (fun _=>x1.Q.Digits.s) (fun _ H (h:Dat.good H (x1:DFrac))=>h.2)).a] (fun _ G=>wrong_ct x1.P.Sign x1.P.Digits.l x1.P.Digits.s x1.Q.Sign x1.Q.Digits.l x1.Q.Digits.s (by omega) (by omega))] fun _ _ G5 kw6=>?_;intro S_ s_
    obtain ⟨⟨⟨kl2, -⟩,⟨kl3, -⟩⟩, -⟩:(Lq x1.P.Digits.l x1.P.Digits.s.v∧Lq x1.Q.Digits.l x1.Q.Digits.s.v)∧True:=kq kw6;clear kw6;refine V.cn (b:=!decide (Fr.FrB x1.P.Sign x1.P.Digits.l x1.Q.Sign x1.Q.Digits.l)) Iff.rfl Iff.rfl (fun q3=>?_) (fun q4=>?_)
    · refine V.g [.k (iv k0),.k (iv k0)] fun _ _ G6=>?_;intro S_ s_
      have e0:k0=Fr.idxF Fr.wrongB s:=by
        have hk:=Fr.idxF_at (p:=Fr.wrongB) (l:=s) (k:=k0.toNat) (x:=x1) (by omega) hf3 hx1 (Fr.wrong_t (by have hqq:=q3;simpa using hqq));omega
      exact V.rt [0] [] [] [] [] [] (iv k0) (cong1 (fun (x0:Int)=>(iv x0:Value)) e0)
    refine V.g [.a (k0+1) (by omega) (by omega),.k (iv (k0+1))] fun _ _ G7=>?_;intro S_ s_
    refine V.rnd hZ1 (k0+1) [0] (by kernel_rfl) ?_ ?_
    · refine ⟨?_,?_,?_⟩
      · show 0≤(k0+1)
        first | omega | rfl | (simp;done) | (subst_vars;simp;done)
      · show (k0+1)≤(s.length:Int)
        first | omega | rfl | (simp;done) | (subst_vars;simp;done)
      show ∀ i,i < (k0+1).toNat→Fr.wrongB (s.getD i default)=false;intro i hi;by_cases e:i < k0.toNat
      · exact hf3 i e
      rw [show i=k0.toNat by omega,← hx1];exact Fr.wrong_f (by have hqq:=q4;simpa using hqq)
    show ((s.length:Int)-(k0+1)).toNat < ((s.length:Int)-k0).toNat;omega
  refine V.g [.k (iv (-1))] fun _ _ G8=>?_;intro S_ s_
  have e0:(-1:Int)=Fr.idxF Fr.wrongB s:=(Fr.idxF_no fun i hi=>hf3 i (by omega)).symm;exact V.rt [0] [] [] [] [] [] (iv (-1)) (cong1 (fun (x0:Int)=>(iv x0:Value)) e0)
theorem idxw_ctv (s:List DFrac) (ss:SV) (hL:∀ x ∈ s,Fr.ln 17179869184 x) (rv0:Int) (erv0:rv0=Fr.idxF Fr.wrongB s) :
    Cp Try.prog 75 #[ss.v,.func (.func 34) #[] #[]] [fs true s ss] (iv rv0):=by
  subst erv0;exact idxw_ct s ss hL
set_option maxRecDepth 10000 in
theorem idxn_ct (s:List DFrac) (ss:SV) (hL:∀ x ∈ s,Fr.ln 17179869184 x) :
    Cp Try.prog 75 #[ss.v,.func (.func 35) #[] #[]] [fs true s ss] (iv (Fr.idxF Fr.negB s)):=by
  refine V.fn mo Try.func75 19 0 (by kernel_rfl) fun w H ε k0=>?_;obtain ⟨⟨kl1, -⟩, -⟩:Lq s ss.v∧True:=kq k0
  clear k0;refine V.g [.k (iv 0)] fun _ _ G1=>?_;intro S_ s_
  refine V.g [.k (ss.v),.ln (kf false (.f 0) s (fun _=>ss)),.k (iv 0)] fun _ _ G2=>?_;intro S_ s_
  refine V.loop (γ:=Int) (fun k0=>⟨[(0,ss.v),(1,.func (.func 35) #[] #[]),(7,iv (s.length:Int)),(8,iv k0)],[fs false s ss],[]⟩) (fun k0=>(0≤k0)∧(k0≤(s.length:Int))∧(∀ i,i < k0.toNat→Fr.negB (s.getD i default)=false)) (fun k0=>((s.length:Int)-k0).toNat) 0 (by kernel_rfl) [0] (by kernel_rfl) ?_ ?_
  · refine ⟨?_,?_,?_⟩
    · show 0≤(0:Int)
      first | omega | rfl | (simp;done) | (subst_vars;simp;done)
    · show (0:Int)≤(s.length:Int)
      first | omega | rfl | (simp;done) | (subst_vars;simp;done)
    show ∀ i,i < (0:Int).toNat→Fr.negB (s.getD i default)=false;intro i hi;simp at hi
  rintro k0 hF1 kw3 Z1 hZ1;have hF1:(0≤k0)∧(k0≤(s.length:Int))∧(∀ i,i < k0.toNat→Fr.negB (s.getD i default)=false):=hF1;obtain ⟨hf1,hf2,hf3⟩:=hF1;clear kw3;refine V.g [.k (bv (decide (k0 < (s.length:Int))))] fun _ _ G3=>?_;intro S_ s_;refine V.cn (b:=decide (k0 < (s.length:Int))) iDT iDF (fun q1=>?_) (fun q2=>?_)
  · refine V.g [.k (iv k0),.k (iv k0)] fun _ _ G4=>?_;intro S_ s_
    refine nm (s.getD k0.toNat default:DFrac) fun x1 hx1=>?_;have hxl:=hL _ (getD_mem (by omega) hx1)
    have hxl1:=hxl.1;have hxl2:=hxl.2;refine V.r [.k (.func (.func 35) #[] #[]),.k (ss.v),.k (iv k0),.ix g0 (kf false (.f 0) s (fun _=>ss)) k0 (fun _=>⟨by omega,by omega⟩),.le g0 (kf false (.f 0) s (fun _=>ss)) k0 none true x1 hx1 (fun _=>⟨by omega,by omega⟩) true (fun _=>Dat.cells x1),.cp g0 5 35 [(kx false (.g 4 0) x1 x1.P.Digits.l (fun _=>x1.P.Digits.s) (fun _ H (h:Dat.good H (x1:DFrac))=>h.1)).a,(kx false (.g 4 0) x1 x1.Q.Digits.l (fun _=>x1.Q.Digits.s) (fun _ H (h:Dat.good H (x1:DFrac))=>h.2)).a] (fun _ G=>negative_ct x1.P.Sign x1.P.Digits.l x1.P.Digits.s x1.Q.Sign x1.Q.Digits.l x1.Q.Digits.s (by omega) (by omega))] fun _ _ G5 kw6=>?_;intro S_ s_
    obtain ⟨⟨⟨kl2, -⟩,⟨kl3, -⟩⟩, -⟩:(Lq x1.P.Digits.l x1.P.Digits.s.v∧Lq x1.Q.Digits.l x1.Q.Digits.s.v)∧True:=kq kw6;clear kw6;refine V.cn (b:=decide ((if Fr.FrB x1.P.Sign x1.P.Digits.l x1.Q.Sign x1.Q.Digits.l then x1.P.Sign else 0) < 0)) iDT iDF (fun q3=>?_) (fun q4=>?_)
    · refine V.g [.k (iv k0),.k (iv k0)] fun _ _ G6=>?_;intro S_ s_
      have e0:k0=Fr.idxF Fr.negB s:=by
        have hk:=Fr.idxF_at (p:=Fr.negB) (l:=s) (k:=k0.toNat) (x:=x1) (by omega) hf3 hx1 (by have hqq:=q3;unfold Fr.negB;exact decide_eq_true hqq);omega
      exact V.rt [0] [] [] [] [] [] (iv k0) (cong1 (fun (x0:Int)=>(iv x0:Value)) e0)
    refine V.g [.a (k0+1) (by omega) (by omega),.k (iv (k0+1))] fun _ _ G7=>?_;intro S_ s_
    refine V.rnd hZ1 (k0+1) [0] (by kernel_rfl) ?_ ?_
    · refine ⟨?_,?_,?_⟩
      · show 0≤(k0+1)
        first | omega | rfl | (simp;done) | (subst_vars;simp;done)
      · show (k0+1)≤(s.length:Int)
        first | omega | rfl | (simp;done) | (subst_vars;simp;done)
      show ∀ i,i < (k0+1).toNat→Fr.negB (s.getD i default)=false;intro i hi;by_cases e:i < k0.toNat
      · exact hf3 i e
      rw [show i=k0.toNat by omega,← hx1];exact by have hqq:=q4;unfold Fr.negB;exact decide_eq_false hqq
    show ((s.length:Int)-(k0+1)).toNat < ((s.length:Int)-k0).toNat;omega
  refine V.g [.k (iv (-1))] fun _ _ G8=>?_;intro S_ s_
  have e0:(-1:Int)=Fr.idxF Fr.negB s:=(Fr.idxF_no fun i hi=>hf3 i (by omega)).symm;exact V.rt [0] [] [] [] [] [] (iv (-1)) (cong1 (fun (x0:Int)=>(iv x0:Value)) e0)
theorem idxn_ctv (s:List DFrac) (ss:SV) (hL:∀ x ∈ s,Fr.ln 17179869184 x) (rv0:Int) (erv0:rv0=Fr.idxF Fr.negB s) :
    Cp Try.prog 75 #[ss.v,.func (.func 35) #[] #[]] [fs true s ss] (iv rv0):=by
  subst erv0;exact idxn_ct s ss hL
set_option maxRecDepth 10000 in
theorem conw_ct (s:List DFrac) (ss:SV) (hL:∀ x ∈ s,Fr.ln 17179869184 x) :
    Cp Try.prog 33 #[ss.v,.func (.func 34) #[] #[]] [fs true s ss] (bv (s.any Fr.wrongB)):=by
  refine V.fn mo Try.func33 9 0 (by kernel_rfl) fun w H ε k0=>?_;obtain ⟨⟨kl1, -⟩, -⟩:Lq s ss.v∧True:=kq k0
  clear k0;refine V.g [.kb false] fun _ _ G1=>?_;intro S_ s_
  refine nm (Fr.idxF Fr.wrongB s:Int) fun n1 hn1=>?_;refine V.g [.k (ss.v),.k (.func (.func 34) #[] #[]),.cp g0 2 75 [(kf false (.f 0) s (fun _=>ss)).a] (fun _ G=>idxw_ctv s ss (by first | assumption | exact Fr.Wb.lf (by assumption)) n1 hn1),.k (bv (decide (0≤n1))),.k (bv (decide (0≤n1)))] fun _ _ G2=>?_;intro S_ s_
  have e0:(decide (0≤n1))=s.any Fr.wrongB:=by
    refine Bool.eq_iff_iff.2 (decide_eq_true_iff.trans ?_)
    subst_vars
    exact Fr.idxF_any _ _
  exact V.rt [0] [] [] [] [] [] (bv (decide (0≤n1))) (cong1 (fun (x0:Bool)=>(bv x0:Value)) e0)
set_option maxRecDepth 10000 in
theorem conn_ct (s:List DFrac) (ss:SV) (hL:∀ x ∈ s,Fr.ln 17179869184 x) :
    Cp Try.prog 33 #[ss.v,.func (.func 35) #[] #[]] [fs true s ss] (bv (s.any Fr.negB)):=by
  refine V.fn mo Try.func33 9 0 (by kernel_rfl) fun w H ε k0=>?_;obtain ⟨⟨kl1, -⟩, -⟩:Lq s ss.v∧True:=kq k0
  clear k0;refine V.g [.kb false] fun _ _ G1=>?_;intro S_ s_
  refine nm (Fr.idxF Fr.negB s:Int) fun n1 hn1=>?_;refine V.g [.k (ss.v),.k (.func (.func 35) #[] #[]),.cp g0 2 75 [(kf false (.f 0) s (fun _=>ss)).a] (fun _ G=>idxn_ctv s ss (by first | assumption | exact Fr.Wb.lf (by assumption)) n1 hn1),.k (bv (decide (0≤n1))),.k (bv (decide (0≤n1)))] fun _ _ G2=>?_;intro S_ s_
  have e0:(decide (0≤n1))=s.any Fr.negB:=by
    refine Bool.eq_iff_iff.2 (decide_eq_true_iff.trans ?_)
    subst_vars
    exact Fr.idxF_any _ _
  exact V.rt [0] [] [] [] [] [] (bv (decide (0≤n1))) (cong1 (fun (x0:Bool)=>(bv x0:Value)) e0)
set_option maxRecDepth 10000 in
theorem sum_ct (l:List DFrac) (ls:SV) (hW:Fr.Wb l) (hR:∀ x ∈ l,Fr.rt x) :
    Ct Try.prog 36 #[ls.v] [fs true l ls] [] (fun g=>ag (DFrac.mk ⟨(Bg.sgn (Fr.sumW l).num),Bg.dig (Fr.sumW l).num.natAbs,(g.ss 0)⟩ ⟨1,Bg.dig (Fr.sumW l).den,(g.ss 1)⟩)) (fun g=>[fs true (Bg.dig (Fr.sumW l).num.natAbs) (g.ss 0),fs true (Bg.dig (Fr.sumW l).den) (g.ss 1)]) (fun g=>[]) (fun g=>[]):=by
  refine V.fn mo Try.func36 21 3 (by kernel_rfl) fun w H ε k0=>?_;obtain ⟨⟨kl1, -⟩, -⟩:Lq l ls.v∧True:=kq k0
  clear k0;refine V.g [.nb 0 0 (fun b=>pp b 0) 33 (fun _=>ca (DFrac.mk ⟨0,[],{}⟩ ⟨0,[],{}⟩))] fun _ _ G1=>?_;intro S_ s_
  refine nm (Bg.sgn (0:Int):Int) fun n1 hn1=>?_;refine nl (Bg.dig (0:Int).natAbs) fun l1 hl1 hl1n=>?_;refine nl (Bg.dig 1) fun l2 hl2 hl2n=>?_;refine V.r [.ct g0 0 18 false [] [] [] (fun _ G=>fint_ctv (0:Int) (by omega) n1 hn1 l1 hl1 l2 hl2),.nb 1 1 (fun b=>pp b 0) 33 (fun _=>ca (DFrac.mk ⟨0,[],{}⟩ ⟨0,[],{}⟩)),.st 1 (fun G=>.blk ((G 1).b) (ca (DFrac.mk ⟨n1,l1,(G 0).ss 0⟩ ⟨1,l2,(G 0).ss 1⟩)) 33)] fun _ _ G2 kw2=>?_;intro S_ s_
  obtain ⟨⟨kl2, -⟩,⟨kl3, -⟩, -⟩:Lq l1 (((G2 0).ss 0).v)∧Lq l2 (((G2 0).ss 1).v)∧True:=kq kw2;clear kw2;refine V.g [.k (ls.v),.ln (kf false (.f 0) l (fun _=>ls)),.k (iv 0)] fun _ _ G3=>?_;intro S_ s_;refine V.loop (γ:=Int × Int × List Int × SV × Int × List Int × SV) (fun ⟨k0,out_0,out_1,out_1s,out_2,out_3,out_3s⟩=>⟨[(2,pp ((G1 0).b) 0),(3,pp ((G2 1).b) 0),(7,ls.v),(8,iv (l.length:Int)),(9,iv k0)],[fs false l ls,fs true out_1 out_1s,fs true out_3 out_3s],[.blk ((G1 0).b) (ca (DFrac.mk ⟨0,[],{}⟩ ⟨0,[],{}⟩)) 33,.blk ((G2 1).b) (ca (DFrac.mk ⟨out_0,out_1,out_1s⟩ ⟨out_2,out_3,out_3s⟩)) 33,.no]⟩) (fun ⟨k0,out_0,out_1,out_1s,out_2,out_3,out_3s⟩=>(0≤k0)∧(k0≤(l.length:Int))∧(Fr.Fz out_0 out_1 out_2 out_3 (Fr.sumQ ((l.take k0.toNat).map Fr.qv)))) (fun ⟨k0,out_0,out_1,out_1s,out_2,out_3,out_3s⟩=>((l.length:Int)-k0).toNat) (0,n1,l1,(G2 0).ss 0,1,l2,(G2 0).ss 1) (by kernel_rfl) [0,1,2] (by kernel_rfl) ?_ ?_
  · refine ⟨?_,?_,?_⟩
    · show 0≤(0:Int)
      first | omega | rfl | (simp;done) | (subst_vars;simp;done)
    · show (0:Int)≤(l.length:Int)
      first | omega | rfl | (simp;done) | (subst_vars;simp;done)
    show Fr.Fz n1 l1 (1:Int) l2 (Fr.sumQ ((l.take (0:Int).toNat).map Fr.qv))
    subst_vars;exact Fr.sum0 l
  rintro ⟨k0,out_0,out_1,out_1s,out_2,out_3,out_3s⟩ hF1 kw4 Z1 hZ1;have hF1:(0≤k0)∧(k0≤(l.length:Int))∧(Fr.Fz out_0 out_1 out_2 out_3 (Fr.sumQ ((l.take k0.toNat).map Fr.qv))):=hF1;obtain ⟨hf1,hf2,hf3⟩:=hF1;obtain ⟨-,⟨kl4, -⟩,⟨kl5, -⟩, -⟩:Lq l ls.v∧Lq out_1 out_1s.v∧Lq out_3 out_3s.v∧True:=kq kw4;clear kw4;have hFl:=hf3.len (hW.hb hR k0.toNat);have hFl1:=hFl.1;have hFl2:=hFl.2;refine V.g [.k (bv (decide (k0 < (l.length:Int))))] fun _ _ G4=>?_;intro S_ s_;refine V.cn (b:=decide (k0 < (l.length:Int))) iDT iDF (fun q1=>?_) (fun q2=>?_)
  · refine nm (l.getD k0.toNat default:DFrac) fun x1 hx1=>?_;refine V.r [.ix g0 (kf false (.f 0) l (fun _=>ls)) k0 (fun _=>⟨by omega,by omega⟩),.le g0 (kf false (.f 0) l (fun _=>ls)) k0 none true x1 hx1 (fun _=>⟨by omega,by omega⟩) true (fun _=>Dat.cells x1),.nb 2 2 (fun b=>pp b 0) 33 (fun _=>ca (DFrac.mk ⟨0,[],{}⟩ ⟨0,[],{}⟩)),.st 2 (fun G=>.blk ((G 2).b) (ca x1) 33)] fun _ _ G5 kw6=>?_;intro S_ s_
    obtain ⟨⟨⟨kl6, -⟩,⟨kl7, -⟩⟩, -⟩:(Lq x1.P.Digits.l x1.P.Digits.s.v∧Lq x1.Q.Digits.l x1.Q.Digits.s.v)∧True:=kq kw6;clear kw6;refine nm (Fr.rS (Fr.FrB out_0 out_1 out_2 out_3∧Fr.FrB x1.P.Sign x1.P.Digits.l x1.Q.Sign x1.Q.Digits.l) ((Fr.fq out_0 out_1 out_3)+(Fr.fq x1.P.Sign x1.P.Digits.l x1.Q.Digits.l)):Int) fun n2 hn2=>?_;refine nl (Fr.rD (Fr.FrB out_0 out_1 out_2 out_3∧Fr.FrB x1.P.Sign x1.P.Digits.l x1.Q.Sign x1.Q.Digits.l) ((Fr.fq out_0 out_1 out_3)+(Fr.fq x1.P.Sign x1.P.Digits.l x1.Q.Digits.l))) fun l3 hl3 hl3n=>?_;refine nm (Fr.rT (Fr.FrB out_0 out_1 out_2 out_3∧Fr.FrB x1.P.Sign x1.P.Digits.l x1.Q.Sign x1.Q.Digits.l):Int) fun n3 hn3=>?_;refine nl (Fr.rE (Fr.FrB out_0 out_1 out_2 out_3∧Fr.FrB x1.P.Sign x1.P.Digits.l x1.Q.Sign x1.Q.Digits.l) ((Fr.fq out_0 out_1 out_3)+(Fr.fq x1.P.Sign x1.P.Digits.l x1.Q.Digits.l))) fun l4 hl4 hl4n=>?_;refine nm (if ¬ (Fr.FrB out_0 out_1 out_2 out_3∧Fr.FrB x1.P.Sign x1.P.Digits.l x1.Q.Sign x1.Q.Digits.l) then (1:Int) else 0:Int) fun n4 hn4=>?_;have hxm:=getD_mem (l:=l) (k:=k0.toNat) (by omega) hx1;have hxr:=hR _ hxm;have hxl:=hW.2 _ hxm;have hxl1:=hxl.1;have hxl2:=hxl.2;have zs:=Fr.Fz.of ⟨hf3.rt,hxr⟩ hn2 hl3 hn3 hl4;refine V.r [.ld 1 0 true (fun _=>Dat.cells (DFrac.mk ⟨out_0,out_1,out_1s⟩ ⟨out_2,out_3,out_3s⟩)),.ld 2 0 true (fun _=>Dat.cells x1),.ct g0 2 14 false [] [] [(kf true (.f 1) out_1 (fun _=>out_1s)).a,(kf true (.f 2) out_3 (fun _=>out_3s)).a,(kx false (.f 3) x1 x1.P.Digits.l (fun _=>x1.P.Digits.s) (fun _ H (h:Dat.good H (x1:DFrac))=>h.1)).a,(kx false (.f 3) x1 x1.Q.Digits.l (fun _=>x1.Q.Digits.s) (fun _ H (h:Dat.good H (x1:DFrac))=>h.2)).a] (fun _ G=>fadd_ctv out_0 out_1 out_1s out_2 out_3 out_3s x1.P.Sign x1.P.Digits.l x1.P.Digits.s x1.Q.Sign x1.Q.Digits.l x1.Q.Digits.s (by omega) (by omega) (by omega) (by omega) n2 hn2 l3 hl3 n3 hn3 l4 hl4 n4 hn4),.v fun G=>.tuple #[ag (DFrac.mk ⟨n2,l3,(G 2).ss 0⟩ ⟨n3,l4,(G 2).ss 1⟩),iv n4],.v fun G=>ag (DFrac.mk ⟨n2,l3,(G 2).ss 0⟩ ⟨n3,l4,(G 2).ss 1⟩),.k (iv n4),.st 1 (fun G=>.blk ((G2 1).b) (ca (DFrac.mk ⟨n2,l3,(G 2).ss 0⟩ ⟨n3,l4,(G 2).ss 1⟩)) 33)] fun _ _ G6 kw7=>?_;intro S_ s_;obtain ⟨⟨kl8, -⟩,⟨kl9, -⟩, -⟩:Lq l3 (((G6 2).ss 0).v)∧Lq l4 (((G6 2).ss 1).v)∧True:=kq kw7;clear kw7;refine V.g [.a (k0+1) (by omega) (by omega),.k (iv (k0+1))] fun _ _ G7=>?_;intro S_ s_;refine V.rnd hZ1 (k0+1,n2,l3,(G6 2).ss 0,n3,l4,(G6 2).ss 1) [0,4,5] (by kernel_rfl) ?_ ?_
    · refine ⟨?_,?_,?_⟩
      · show 0≤(k0+1)
        first | omega | rfl | (simp;done) | (subst_vars;simp;done)
      · show (k0+1)≤(l.length:Int)
        first | omega | rfl | (simp;done) | (subst_vars;simp;done)
      show Fr.Fz n2 l3 n3 l4 (Fr.sumQ ((l.take (k0+1).toNat).map Fr.qv));have hz:=zs;rw [hf3.v] at hz;rw [show (k0+1).toNat=k0.toNat+1 by omega,Fr.sumQ_step (by omega) hx1];exact hz
    show ((l.length:Int)-(k0+1)).toNat < ((l.length:Int)-k0).toNat;omega
  have hs:=hf3;rw [show k0.toNat=l.length by omega,List.take_length] at hs;refine V.g [.ld 1 0 true (fun _=>Dat.cells (DFrac.mk ⟨out_0,out_1,out_1s⟩ ⟨out_2,out_3,out_3s⟩)),.st 0 (fun _=>.blk ((G1 0).b) (ca (DFrac.mk ⟨out_0,out_1,out_1s⟩ ⟨out_2,out_3,out_3s⟩)) 33)] fun _ _ G8=>?_;intro S_ s_
  have e1:out_1=Bg.dig (Fr.sumW l).num.natAbs:=hs.eqs.2.1;subst e1;have e3:out_3=Bg.dig (Fr.sumW l).den:=hs.eqs.2.2.2;subst e3;have e0:out_0=Bg.sgn (Fr.sumW l).num:=hs.eqs.1;have e2:out_2=1:=hs.eqs.2.2.1;exact V.rt [0] [out_1s,out_3s] [fun _=>{},fun _=>{}] [] [1,2] [] (ag (DFrac.mk ⟨out_0,(Bg.dig (Fr.sumW l).num.natAbs),out_1s⟩ ⟨out_2,(Bg.dig (Fr.sumW l).den),out_3s⟩)) (cong2 (fun (x0 x2:Int)=>(.agg #[iv x0,out_1s.v,iv x2,out_3s.v]:Value)) e0 e2)
theorem sum_ctv (l:List DFrac) (ls:SV) (hW:Fr.Wb l) (hR:∀ x ∈ l,Fr.rt x) (rv0:Int) (erv0:rv0=Bg.sgn (Fr.sumW l).num) (rv1:List Int) (erv1:rv1=Bg.dig (Fr.sumW l).num.natAbs) (rv3:List Int) (erv3:rv3=Bg.dig (Fr.sumW l).den) :
    Ct Try.prog 36 #[ls.v] [fs true l ls] [] (fun g=>ag (DFrac.mk ⟨rv0,rv1,(g.ss 0)⟩ ⟨1,rv3,(g.ss 1)⟩)) (fun g=>[fs true rv1 (g.ss 0),fs true rv3 (g.ss 1)]) (fun g=>[]) (fun g=>[]):=by
  subst erv0 erv1 erv3;exact sum_ct l ls hW hR
set_option maxRecDepth 10000 in
theorem shares_ct (weights:List DFrac) (weightss:SV) (hW:Fr.Wb weights) :
    Ct Try.prog 10 #[weightss.v] [fs true weights weightss] [] (fun g=>.tuple #[((g.ss 0)).v,iv (Fr.shE weights)]) (fun g=>[fs true (Fr.frs (Fr.shQ weights) (g.sl 0)) (g.ss 0)]) (fun g=>[]) (fun g=>[]):=by
  refine V.fn mo Try.func10 44 4 (by kernel_rfl) fun w H ε k0=>?_;obtain ⟨⟨kl1, -⟩, -⟩:Lq weights weightss.v∧True:=kq k0
  clear k0;refine V.g [.k (.slice none 0 0),.k (iv 0)] fun _ _ G1=>?_;intro S_ s_
  refine nm ((decide ((weights.length:Int)=0)) || (weights.any Fr.wrongB):Bool) fun p1 hp1=>?_;refine V.g [.k (weightss.v),.ln (kf false (.f 0) weights (fun _=>weightss)),.k (bv (decide ((weights.length:Int)=0))),.k (bv (decide ((weights.length:Int)=0))),.k (weightss.v),.cp (gF (b:=decide ((weights.length:Int)=0)) iDF) 5 33 [(kf false (.f 0) weights (fun _=>weightss)).a] (fun hg G=>conw_ct weights weightss (by first | assumption | exact Fr.Wb.lf (by assumption))),.orn g0 false (decide ((weights.length:Int)=0)) (weights.any Fr.wrongB) p1 hp1,.k (bv p1)] fun _ _ G2=>?_;intro S_ s_
  refine V.cn (b:=p1) (iN hp1 (iOT iDT Iff.rfl)) (iN hp1 (iOF iDF Iff.rfl)) (fun q1=>?_) (fun q2=>?_)
  · have hE:=Fr.shE_1 (l:=weights) (by have hqq:=q1;rw [Fr.len0] at hqq;exact hqq);refine V.g [.k (.slice none 0 0),.k (iv 1)] fun _ _ G3=>?_;intro S_ s_
    refine V.nilF (α:=DFrac) ?_;have e0:(Fr.shQ weights)=[]:=by exact Fr.shQ_n (by rw [hE];decide)
    rw [e0];have e1:(1:Int)=Fr.shE weights:=hE.symm;exact V.rt [0,0] [{}] [fun _=>{}] [] [1] [] (.tuple #[SV.v ({}),iv 1]) (cong1 (fun (x1:Int)=>(.tuple #[SV.v ({}),iv x1]:Value)) e1)
  have hq1:¬ (weights=[]∨weights.any Fr.wrongB=true):=by have hqq:=q2;rw [Fr.len0] at hqq;rintro (h | h);exact hqq.1 h;exact absurd (h.symm.trans hqq.2) (by decide)
  have hR:=Fr.anyW.1 (by simpa using fun h=>hq1 (.inr h):weights.any Fr.wrongB=false);refine V.g [.k (weightss.v),.cp g0 1 33 [(kf false (.f 0) weights (fun _=>weightss)).a] (fun _ G=>conn_ct weights weightss (by first | assumption | exact Fr.Wb.lf (by assumption))),.k (bv (weights.any Fr.negB))] fun _ _ G4=>?_;intro S_ s_
  refine V.cn (b:=weights.any Fr.negB) Iff.rfl Iff.rfl (fun q3=>?_) (fun q4=>?_)
  · have hE:=Fr.shE_3 hq1 q3;refine V.g [.k (.slice none 0 0),.k (iv 3)] fun _ _ G5=>?_;intro S_ s_
    refine V.nilF (α:=DFrac) ?_;have e0:(Fr.shQ weights)=[]:=by exact Fr.shQ_n (by rw [hE];decide)
    rw [e0];have e1:(3:Int)=Fr.shE weights:=hE.symm;exact V.rt [0,0] [{}] [fun _=>{}] [] [1] [] (.tuple #[SV.v ({}),iv 3]) (cong1 (fun (x1:Int)=>(.tuple #[SV.v ({}),iv x1]:Value)) e1)
  have hq2:¬ weights.any Fr.negB=true:=by have hqq:=q4;simpa using hqq
  refine nm (Bg.sgn (Fr.sumW weights).num:Int) fun n1 hn1=>?_;refine nl (Bg.dig (Fr.sumW weights).num.natAbs) fun l1 hl1 hl1n=>?_;refine nl (Bg.dig (Fr.sumW weights).den) fun l2 hl2 hl2n=>?_;have zw:Fr.Fz n1 l1 1 l2 (Fr.sumW weights):=by subst_vars;exact ⟨Fr.FrB.of _,Fr.fq_of _⟩
  have hzl:=zw.len (hW.hbW hR);have hzl1:=hzl.1;have hzl2:=hzl.2;refine V.r [.k (weightss.v),.ct g0 1 36 false [] [] [(kf false (.f 0) weights (fun _=>weightss)).a] (fun _ G=>sum_ctv weights weightss hW hR n1 hn1 l1 hl1 l2 hl2),.nb 2 0 (fun b=>pp b 0) 33 (fun _=>ca (DFrac.mk ⟨0,[],{}⟩ ⟨0,[],{}⟩)),.st 0 (fun G=>.blk ((G 2).b) (ca (DFrac.mk ⟨n1,l1,(G 1).ss 0⟩ ⟨1,l2,(G 1).ss 1⟩)) 33)] fun _ _ G6 kw6=>?_;intro S_ s_
  obtain ⟨⟨kl2, -⟩,⟨kl3, -⟩, -⟩:Lq l1 (((G6 1).ss 0).v)∧Lq l2 (((G6 1).ss 1).v)∧True:=kq kw6;clear kw6;refine nm (if Fr.FrB n1 l1 (1:Int) l2 then n1 else 0:Int) fun n2 hn2=>?_;refine V.g [.ld 0 0 true (fun _=>Dat.cells (DFrac.mk ⟨n1,l1,(G6 1).ss 0⟩ ⟨1,l2,(G6 1).ss 1⟩)),.cp g0 1 20 [(kf true (.f 1) l1 (fun _=>(G6 1).ss 0)).a,(kf true (.f 2) l2 (fun _=>(G6 1).ss 1)).a] (fun _ G=>fsign_ctv n1 l1 ((G6 1).ss 0) (1:Int) l2 ((G6 1).ss 1) (by omega) (by omega) n2 hn2),.k (bv (decide (n2=0)))] fun _ _ G7=>?_;intro S_ s_;rw [if_pos zw.rt] at hn2;have hsz:n2=0↔Fr.sumW weights=0:=by rw [hn2,zw.eqs.1];exact Fr.sgn_num.2.1
  refine V.cn (b:=decide (n2=0)) iDT iDF (fun q5=>?_) (fun q6=>?_)
  · have hE:=Fr.shE_15 hq1 hq2 (hsz.1 q5);refine V.g [.k (.slice none 0 0),.k (iv 15)] fun _ _ G8=>?_;intro S_ s_
    refine V.nilF (α:=DFrac) ?_;have e0:(Fr.shQ weights)=[]:=by exact Fr.shQ_n (by rw [hE];decide)
    rw [e0];have e1:(15:Int)=Fr.shE weights:=hE.symm;exact V.rt [0,0] [{}] [fun _=>{}] [] [3] [] (.tuple #[SV.v ({}),iv 15]) (cong1 (fun (x1:Int)=>(.tuple #[SV.v ({}),iv x1]:Value)) e1)
  have hE:=Fr.shE_0 hq1 hq2 fun h=>q6 (hsz.2 h)
  rw [hn2] at hsz;have hne:n1≠0:=fun h=>by have h2:=Fr.shE_is hE;exact h2.2.2.2 (hsz.1 h)
  refine V.g [.k (.slice none 0 0)] fun _ _ G9=>?_;intro S_ s_
  refine V.g [.k (weightss.v),.ln (kf false (.f 0) weights (fun _=>weightss)),.k (iv 0)] fun _ _ G10=>?_;intro S_ s_
  refine V.on (α:=DFrac) 3 33 (by kernel_rfl) ?_;refine V.loop (γ:=List DFrac × SV × Int) (fun ⟨out,outs,k0⟩=>⟨[(4,pp ((G6 2).b) 0),(5,outs.v),(26,weightss.v),(27,iv (weights.length:Int)),(28,iv k0)],[fs false weights weightss,fs true l1 ((G6 1).ss 0),fs true l2 ((G6 1).ss 1)],[.blk ((G6 2).b) (ca (DFrac.mk ⟨n1,l1,(G6 1).ss 0⟩ ⟨1,l2,(G6 1).ss 1⟩)) 33,.no,.no,os true 33 out outs]⟩) (fun ⟨out,outs,k0⟩=>(0≤k0)∧(k0≤(weights.length:Int))∧(Fr.Frs out ((weights.take k0.toNat).map fun x=>Fr.qv x / Fr.sumW weights))) (fun ⟨out,outs,k0⟩=>((weights.length:Int)-k0).toNat) (([]:List DFrac),{},0) (by kernel_rfl) [0,1,2] (by kernel_rfl) ?_ ?_
  · refine ⟨?_,?_,?_⟩
    · show 0≤(0:Int)
      first | omega | rfl | (simp;done) | (subst_vars;simp;done)
    · show (0:Int)≤(weights.length:Int)
      first | omega | rfl | (simp;done) | (subst_vars;simp;done)
    show Fr.Frs ([]:List DFrac) ((weights.take (0:Int).toNat).map fun x=>Fr.qv x / Fr.sumW weights);exact Fr.Frs.nil
  rintro ⟨out,outs,k0⟩ hF1 kw11 Z1 hZ1;have hF1:(0≤k0)∧(k0≤(weights.length:Int))∧(Fr.Frs out ((weights.take k0.toNat).map fun x=>Fr.qv x / Fr.sumW weights)):=hF1;obtain ⟨hf1,hf2,hf3⟩:=hF1;obtain ⟨-, -, -,⟨kl4, -⟩, -⟩:Lq weights weightss.v∧Lq l1 (((G6 1).ss 0).v)∧Lq l2 (((G6 1).ss 1).v)∧Lq out outs.v∧True:=kq kw11;clear kw11;have hol:=hf3.len_le;have hW1:=hW.1;refine V.g [.k (bv (decide (k0 < (weights.length:Int))))] fun _ _ G11=>?_;intro S_ s_;refine V.cn (b:=decide (k0 < (weights.length:Int))) iDT iDF (fun q7=>?_) (fun q8=>?_)
  · refine nm (weights.getD k0.toNat default:DFrac) fun x1 hx1=>?_;refine V.r [.ix g0 (kf false (.f 0) weights (fun _=>weightss)) k0 (fun _=>⟨by omega,by omega⟩),.le g0 (kf false (.f 0) weights (fun _=>weightss)) k0 none true x1 hx1 (fun _=>⟨by omega,by omega⟩) true (fun _=>Dat.cells x1),.nb 2 1 (fun b=>pp b 0) 33 (fun _=>ca (DFrac.mk ⟨0,[],{}⟩ ⟨0,[],{}⟩)),.st 1 (fun G=>.blk ((G 2).b) (ca x1) 33)] fun _ _ G12 kw13=>?_;intro S_ s_
    obtain ⟨⟨⟨kl5, -⟩,⟨kl6, -⟩⟩, -⟩:(Lq x1.P.Digits.l x1.P.Digits.s.v∧Lq x1.Q.Digits.l x1.Q.Digits.s.v)∧Lq out outs.v∧True:=kq kw13;clear kw13;refine nm (Fr.rS ((Fr.FrB x1.P.Sign x1.P.Digits.l x1.Q.Sign x1.Q.Digits.l∧Fr.FrB n1 l1 (1:Int) l2)∧n1≠0) ((Fr.fq x1.P.Sign x1.P.Digits.l x1.Q.Digits.l) / (Fr.fq n1 l1 l2)):Int) fun n3 hn3=>?_;refine nl (Fr.rD ((Fr.FrB x1.P.Sign x1.P.Digits.l x1.Q.Sign x1.Q.Digits.l∧Fr.FrB n1 l1 (1:Int) l2)∧n1≠0) ((Fr.fq x1.P.Sign x1.P.Digits.l x1.Q.Digits.l) / (Fr.fq n1 l1 l2))) fun l3 hl3 hl3n=>?_;refine nm (Fr.rT ((Fr.FrB x1.P.Sign x1.P.Digits.l x1.Q.Sign x1.Q.Digits.l∧Fr.FrB n1 l1 (1:Int) l2)∧n1≠0):Int) fun n4 hn4=>?_;refine nl (Fr.rE ((Fr.FrB x1.P.Sign x1.P.Digits.l x1.Q.Sign x1.Q.Digits.l∧Fr.FrB n1 l1 (1:Int) l2)∧n1≠0) ((Fr.fq x1.P.Sign x1.P.Digits.l x1.Q.Digits.l) / (Fr.fq n1 l1 l2))) fun l4 hl4 hl4n=>?_;refine nm (if ¬ (Fr.FrB x1.P.Sign x1.P.Digits.l x1.Q.Sign x1.Q.Digits.l∧Fr.FrB n1 l1 (1:Int) l2) then (1:Int) else if n1=0 then 15 else 0:Int) fun n5 hn5=>?_;have hxm:=getD_mem (l:=weights) (k:=k0.toNat) (by omega) hx1;have hxr:=hR _ hxm;have hxl:=hW.2 _ hxm;have hxl1:=hxl.1;have hxl2:=hxl.2;have zd:=Fr.Fz.of ⟨⟨hxr,zw.rt⟩,hne⟩ hn3 hl3 hn4 hl4;rw [zw.v] at zd;refine V.r [.ld 1 0 true (fun _=>Dat.cells x1),.ld 0 0 true (fun _=>Dat.cells (DFrac.mk ⟨n1,l1,(G6 1).ss 0⟩ ⟨1,l2,(G6 1).ss 1⟩)),.ct g0 2 37 false [] [] [(kx false (.f 3) x1 x1.P.Digits.l (fun _=>x1.P.Digits.s) (fun _ H (h:Dat.good H (x1:DFrac))=>h.1)).a,(kx false (.f 3) x1 x1.Q.Digits.l (fun _=>x1.Q.Digits.s) (fun _ H (h:Dat.good H (x1:DFrac))=>h.2)).a,(kf true (.f 1) l1 (fun _=>(G6 1).ss 0)).a,(kf true (.f 2) l2 (fun _=>(G6 1).ss 1)).a] (fun _ G=>fdiv_ctv x1.P.Sign x1.P.Digits.l x1.P.Digits.s x1.Q.Sign x1.Q.Digits.l x1.Q.Digits.s n1 l1 ((G6 1).ss 0) (1:Int) l2 ((G6 1).ss 1) (by omega) (by omega) (by omega) (by omega) n3 hn3 l3 hl3 n4 hn4 l4 hl4 n5 hn5),.v fun G=>.tuple #[ag (DFrac.mk ⟨n3,l3,(G 2).ss 0⟩ ⟨n4,l4,(G 2).ss 1⟩),iv n5],.v fun G=>ag (DFrac.mk ⟨n3,l3,(G 2).ss 0⟩ ⟨n4,l4,(G 2).ss 1⟩),.k (iv n5),.nb 6 2 (fun b=>pp b 0) 33 (fun _=>ca (DFrac.mk ⟨0,[],{}⟩ ⟨0,[],{}⟩)),.st 2 (fun G=>.blk ((G 6).b) (ca (DFrac.mk ⟨n3,l3,(G 2).ss 0⟩ ⟨n4,l4,(G 2).ss 1⟩)) 33),.k (iv n5)] fun _ _ G13 kw14=>?_;intro S_ s_;obtain ⟨⟨kl7, -⟩,⟨kl8, -⟩, -⟩:Lq l3 (((G13 2).ss 0).v)∧Lq l4 (((G13 2).ss 1).v)∧Lq out outs.v∧True:=kq kw14;clear kw14;refine nm (out ++([DFrac.mk ⟨n3,l3,(G13 2).ss 0⟩ ⟨n4,l4,(G13 2).ss 1⟩]:List DFrac):List DFrac) fun l5 hl5=>?_;have hl5n:=congrArg List.length hl5;try simp only [List.length_append,List.length_cons,List.length_nil,List.length_replicate,List.length_set,List.length_take,List.length_drop,List.length_map,List.length_reverse,List.length_range] at hl5n
    refine V.r [.k (outs.v),.ld 2 0 true (fun _=>Dat.cells (DFrac.mk ⟨n3,l3,(G13 2).ss 0⟩ ⟨n4,l4,(G13 2).ss 1⟩)),.nr 2 true 33 ([DFrac.mk ⟨n3,l3,(G13 2).ss 0⟩ ⟨n4,l4,(G13 2).ss 1⟩]:List DFrac) [(kf true (.f 4) l3 (fun _=>(G13 2).ss 0)).a,(kf true (.f 5) l4 (fun _=>(G13 2).ss 1)).a] (fun _ _ h=>(List.forall_mem_cons.2 ⟨(And.intro h.1 h.2.1),(List.forall_mem_nil _)⟩)) (fun _=>#[iv n3,((G13 2).ss 0).v,iv n4,((G13 2).ss 1).v]),.ap 3 3 33 64 false true out (fun _=>outs) (kf true (.g 2 0) ([DFrac.mk ⟨n3,l3,(G13 2).ss 0⟩ ⟨n4,l4,(G13 2).ss 1⟩]:List DFrac) (fun G=>⟨atB (G 2).b,1,1⟩)) true l5 hl5 (by (try simp only [List.length_append,List.length_cons,List.length_nil,List.length_replicate,List.length_set,List.length_take,List.length_drop,List.length_map,List.length_reverse,List.length_range]);omega) (fun h=>by cases h) (.inl fun _=>⟨rfl,rfl⟩),.v fun G=>((G 3).s).v] fun _ _ G14 kw15=>?_;intro S_ s_
    obtain ⟨⟨kl9, -⟩, -⟩:Lq ([DFrac.mk ⟨n3,l3,(G13 2).ss 0⟩ ⟨n4,l4,(G13 2).ss 1⟩]:List DFrac) (SV.v ⟨atB (G14 2).b,1,1⟩)∧Lq l5 (((G14 3).s).v)∧True:=kq kw15;clear kw15;refine V.g [.a (k0+1) (by omega) (by omega),.k (iv (k0+1))] fun _ _ G15=>?_;intro S_ s_;refine V.rnd hZ1 (l5,(G14 3).s,k0+1) [0,1,2] (by kernel_rfl) ?_ ?_
    · refine ⟨?_,?_,?_⟩
      · show 0≤(k0+1)
        first | omega | rfl | (simp;done) | (subst_vars;simp;done)
      · show (k0+1)≤(weights.length:Int)
        first | omega | rfl | (simp;done) | (subst_vars;simp;done)
      show Fr.Frs l5 ((weights.take (k0+1).toNat).map fun x=>Fr.qv x / Fr.sumW weights);rw [hl5,show (k0+1).toNat=k0.toNat+1 by omega,Fr.take_step (by omega),← hx1,List.map_append];exact hf3.snoc zd.rt zd.v
    show ((weights.length:Int)-(k0+1)).toNat < ((weights.length:Int)-k0).toNat;omega
  refine V.g [.k (outs.v),.k (outs.v),.k (iv 0)] fun _ _ G16=>?_;intro S_ s_
  refine V.frz 3 true 33 out outs (by kernel_rfl) ?_;have e0:Fr.Frs out (Fr.shQ weights):=by rw [Fr.shQ_y hE];have hs:=hf3;rw [show k0.toNat=weights.length by omega,List.take_length] at hs;exact hs
  obtain ⟨σ0,E0⟩:=Fr.frs_ex e0;subst E0;clear e0;have e1:(0:Int)=Fr.shE weights:=hE.symm;exact V.rt [0,0] [outs] [σ0] [] [3] [] (.tuple #[outs.v,iv 0]) (cong1 (fun (x1:Int)=>(.tuple #[outs.v,iv x1]:Value)) e1)

namespace Fr
open Bg
def ltR (q:List Rat) (a b:Int):Prop:=q.getD b.toNat 0 < q.getD a.toNat 0∨(q.getD b.toNat 0=q.getD a.toNat 0∧a < b)
instance (q : List Rat) (a b : Int) : Decidable (ltR q a b) := by unfold ltR; infer_instance
theorem ltR_trans {q:List Rat} {a b c:Int} (h:ltR q a b) (k:ltR q b c):ltR q a c:=by
  unfold ltR at *
  generalize q.getD a.toNat 0=x at *;generalize q.getD b.toNat 0=y at *;generalize q.getD c.toNat 0=z at *
  rcases h with h | ⟨h,h'⟩ <;> rcases k with k | ⟨k,k'⟩
  · left;grind
  · left;grind
  · left;grind
  · right;exact ⟨by grind,by omega⟩
theorem ltR_asymm {q:List Rat} {a b:Int} (h:ltR q a b) (k:ltR q b a):False:=by
  unfold ltR at *
  generalize q.getD a.toNat 0=x at *;generalize q.getD b.toNat 0=y at *
  rcases h with h | ⟨h,h'⟩ <;> rcases k with k | ⟨k,k'⟩
  · grind
  · grind
  · grind
  · omega
theorem ltR_or {q:List Rat} {a b:Int} (h:a≠b):ltR q a b∨ltR q b a:=by
  unfold ltR
  generalize q.getD a.toNat 0=x at *;generalize q.getD b.toNat 0=y at *
  by_cases h1:y < x
  · exact .inl (.inl h1)
  · by_cases h2:x < y
    · exact .inr (.inl h2)
    · have e:x=y:=by grind
      rcases Int.lt_or_gt_of_ne h with h3 | h3
      · exact .inl (.inr ⟨e.symm,h3⟩)
      · exact .inr (.inr ⟨e,h3⟩)
def insR (q:List Rat) (x:Int):List Int→List Int
  | []=>[x]
  | y :: l=>if ltR q x y then x :: y :: l else y :: insR q x l
def iota (n:Nat):List Int:=(List.range n).map fun (i:Nat)=>(i:Int)
def sortR (q:List Rat):List Int→List Int
  | []=>[]
  | x :: l=>insR q x (sortR q l)
def ord (q:List Rat):List Int:=sortR q (iota q.length)
theorem insR_perm (q:List Rat) (x:Int):∀ l,(insR q x l).Perm (x :: l)
  | []=>List.Perm.refl _
  | y :: l=>by
    unfold insR
    split
    · exact List.Perm.refl _
    · exact ((insR_perm q x l).cons y).trans (List.Perm.swap x y l)
theorem sortR_perm (q:List Rat):∀ l,(sortR q l).Perm l
  | []=>List.Perm.refl _
  | x :: l=>(insR_perm q x _).trans ((sortR_perm q l).cons x)
theorem insR_pw {q:List Rat} {x:Int}:∀ {l:List Int},l.Pairwise (ltR q)→x ∉ l→(insR q x l).Pairwise (ltR q)
  | [],_,_=>List.pairwise_singleton _ _
  | y :: l,h,hx=>by
    unfold insR
    have hp:=List.pairwise_cons.1 h
    split
    · rename_i hlt
      exact List.pairwise_cons.2 ⟨fun z hz=>by rcases List.mem_cons.1 hz with rfl | hz;exact hlt;exact ltR_trans hlt (hp.1 z hz),h⟩
    · rename_i hlt
      refine List.pairwise_cons.2 ⟨fun z hz=>?_,insR_pw hp.2 fun k=>hx (List.mem_cons_of_mem _ k)⟩
      rcases List.mem_cons.1 ((insR_perm q x l).subset hz) with rfl | hz
      · rcases ltR_or (q:=q) (a:=z) (b:=y) (fun e=>hx (by rw [e];exact List.mem_cons_self)) with h1 | h1
        · exact (hlt h1).elim
        · exact h1
      · exact hp.1 z hz
theorem sortR_pw {q:List Rat}:∀ {l:List Int},l.Nodup→(sortR q l).Pairwise (ltR q)
  | [],_=>List.Pairwise.nil
  | x :: l,h=>by
    have:=List.nodup_cons.1 h
    exact insR_pw (sortR_pw this.2) fun k=>this.1 ((sortR_perm q l).subset k)
theorem iota_len (n:Nat):(iota n).length=n:=by simp [iota]
theorem iota_nd (n:Nat):(iota n).Nodup:=by
  unfold iota;unfold List.Nodup;rw [List.pairwise_map];exact List.nodup_range.imp fun h e=>h (by omega)
theorem iota_mem {n:Nat} {i:Int}:i ∈ iota n↔0≤i∧i < n:=by
  unfold iota;rw [List.mem_map]
  constructor
  · rintro ⟨k,hk,rfl⟩;have:=List.mem_range.1 hk;omega
  · rintro ⟨h1,h2⟩;exact ⟨i.toNat,List.mem_range.2 (by omega),by omega⟩
theorem iota_get {n k:Nat} (h:k < n):(iota n).getD k 0=(k:Int):=by
  unfold iota;rw [List.getD_eq_getElem?_getD,List.getElem?_map,List.getElem?_range h];rfl
theorem iota_succ (k:Nat):iota (k+1)=iota k ++[(k:Int)]:=by unfold iota;rw [List.range_succ,List.map_append];rfl
theorem iota_take {n k:Nat} (h:k≤n):(iota n).take k=iota k:=by
  unfold iota;rw [←List.map_take,List.take_range,Nat.min_eq_left h]
theorem ord_perm (q:List Rat):(ord q).Perm (iota q.length):=sortR_perm q _
theorem ord_pw (q:List Rat):(ord q).Pairwise (ltR q):=sortR_pw (iota_nd _)
theorem ord_len (q:List Rat):(ord q).length=q.length:=by rw [(ord_perm q).length_eq,iota_len]
theorem ord_mem {q:List Rat} {i:Int}:i ∈ ord q↔0≤i∧i < q.length:=by rw [(ord_perm q).mem_iff,iota_mem]
theorem ord_nd (q:List Rat):(ord q).Nodup:=(ord_perm q).nodup_iff.2 (iota_nd _)
theorem ord_is {q:List Rat} {d:List Int} (h:d.Pairwise (ltR q)) (k:d.Perm (iota q.length)):d=ord q :=
  List.Perm.eq_of_pairwise (le:=ltR q) (fun a b _ _ h1 h2=>(ltR_asymm h1 h2).elim) h (ord_pw q) (k.trans (ord_perm q).symm)
structure InsI (q:List Rat) (d:List Int) (i:Nat):Prop where
  len:d.length=q.length
  pw:(d.take i).Pairwise (ltR q)
  perm:(d.take i).Perm ((iota q.length).take i)
  rest:d.drop i=(iota q.length).drop i
structure InsJ (q:List Rat) (d:List Int) (i j:Nat):Prop where
  ex:∃ A B:List Int,d=A ++(i:Int) :: (B ++(iota q.length).drop (i+1))∧A.length=j∧A.length+B.length=i∧(A ++B).Pairwise (ltR q)∧(∀ y ∈ B,ltR q i y)∧(A ++B).Perm ((iota q.length).take i)
theorem InsJ.len {q:List Rat} {d:List Int} {i j:Nat} (h:InsJ q d i j) (hi:i < q.length):d.length=q.length:=by
  obtain ⟨A,B,rfl,h1,h2,_⟩:=h.ex
  simp [iota_len];omega
theorem ins_start {q:List Rat}:InsI q (iota q.length) 1:=by
  refine ⟨iota_len _,?_,List.Perm.refl _,rfl⟩
  cases iota q.length with
  | nil=>simp
  | cons a l=>simp
theorem ins_in {q:List Rat} {d:List Int} {i:Nat} (h:InsI q d i) (hi:i < q.length):InsJ q d i i:=by
  refine ⟨d.take i,[],?_,by rw [List.length_take,h.len];omega,by rw [List.length_take,h.len];simp;omega,by rw [List.append_nil];exact h.pw,by simp,by rw [List.append_nil];exact h.perm⟩
  have e:(iota q.length).drop i=(i:Int) :: (iota q.length).drop (i+1):=by
    rw [List.drop_eq_getElem_cons (by rw [iota_len];exact hi)]
    congr 1
    have:=iota_get hi
    rw [List.getD_eq_getElem?_getD,List.getElem?_eq_getElem (by rw [iota_len];exact hi)] at this;exact this
  rw [List.nil_append,← e,← h.rest,List.take_append_drop]
theorem get_mid {A R:List Int} {x:Int}:(A ++x :: R).getD A.length default=x:=by
  rw [List.getD_eq_getElem?_getD,List.getElem?_append_right (Nat.le_refl _)];simp
theorem set_mid' {A R:List Int} {x y:Int}:(A ++x :: R).set A.length y=A ++y :: R:=by
  rw [List.set_append_right _ _ (Nat.le_refl _)];simp
theorem insJ_at {q:List Rat} {d:List Int} {i j:Nat} (h:InsJ q d i j) (hj:0 < j):d.getD j default=(i:Int)∧0≤d.getD (j - 1) default∧d.getD (j - 1) default < i:=by
  obtain ⟨A,B,rfl,h1,h2,h3,h4,h5⟩:=h.ex
  obtain ⟨A',y,rfl⟩:∃ A' y,A=A' ++[y]:=⟨A.dropLast,A.getLast (by intro e;subst e;simp at h1;omega),(List.dropLast_concat_getLast _).symm⟩
  have hl:A'.length=j - 1:=by simp at h1;omega
  refine ⟨by rw [←h1];exact get_mid,?_⟩
  have hy:((A' ++[y]) ++(i:Int) :: (B ++(iota q.length).drop (i+1))).getD (j - 1) default=y:=by rw [←hl,List.append_assoc];exact get_mid
  rw [hy]
  have hm:y ∈ (iota q.length).take i:=h5.subset (by simp)
  have:=iota_mem.1 (List.mem_of_mem_take hm)
  rcases Nat.lt_or_ge i q.length with hi | hi
  · rw [iota_take (by omega)] at hm
    have:=iota_mem.1 hm;omega
  · omega
theorem ins_step {q:List Rat} {d:List Int} {i j:Nat} (h:InsJ q d i j) (hj:0 < j) (hlt:ltR q (d.getD j default) (d.getD (j - 1) default)) :
    InsJ q ((d.set j (d.getD (j - 1) default)).set (j - 1) (d.getD j default)) i (j - 1):=by
  have ha:=(insJ_at h hj).1
  obtain ⟨A,B,rfl,h1,h2,h3,h4,h5⟩:=h.ex
  obtain ⟨A',y,rfl⟩:∃ A' y,A=A' ++[y]:=⟨A.dropLast,A.getLast (by intro e;subst e;simp at h1;omega),(List.dropLast_concat_getLast _).symm⟩
  have hl:A'.length=j - 1:=by simp at h1;omega
  have hy:((A' ++[y]) ++(i:Int) :: (B ++(iota q.length).drop (i+1))).getD (j - 1) default=y:=by rw [←hl,List.append_assoc];exact get_mid
  rw [ha,hy] at hlt
  rw [ha,hy]
  refine ⟨A',y :: B,?_,hl,by simp at h2 ⊢;omega,by rw [List.append_assoc] at h3;exact h3,fun z hz=>?_,by rw [List.append_assoc] at h5;exact h5⟩
  · rw [show j=(A' ++[y]).length from h1.symm,set_mid',show (A' ++[y]).length - 1=A'.length by simp,List.append_assoc,List.singleton_append,set_mid'];rfl
  · rcases List.mem_cons.1 hz with rfl | hz
    · exact hlt
    · exact h4 z hz
theorem ins_out {q:List Rat} {d:List Int} {i j:Nat} (h:InsJ q d i j) (hi:i < q.length) (hs:j=0∨¬ ltR q (d.getD j default) (d.getD (j - 1) default)):InsI q d (i+1):=by
  have hlen:=h.len hi
  have hat:=fun hj=>insJ_at h (j:=j) hj
  obtain ⟨A,B,rfl,h1,h2,h3,h4,h5⟩:=h.ex
  have hnot:(i:Int) ∉ A ++B:=fun hm=>by
    have:=h5.subset hm
    rw [iota_take (by omega)] at this
    have:=iota_mem.1 this;omega
  have htk:(A ++(i:Int) :: (B ++(iota q.length).drop (i+1))).take (i+1)=A ++(i:Int) :: B:=by
    rw [show A ++(i:Int) :: (B ++(iota q.length).drop (i+1))=(A ++(i:Int) :: B) ++(iota q.length).drop (i+1) by simp]
    exact List.take_left' (by simp;omega)
  have hdr:(A ++(i:Int) :: (B ++(iota q.length).drop (i+1))).drop (i+1)=(iota q.length).drop (i+1):=by
    rw [show A ++(i:Int) :: (B ++(iota q.length).drop (i+1))=(A ++(i:Int) :: B) ++(iota q.length).drop (i+1) by simp]
    exact List.drop_left' (by simp;omega)
  have hall:∀ x ∈ A,ltR q x i:=fun x hx=>by
    rcases hs with hs | hs
    · subst hs;rw [List.eq_nil_of_length_eq_zero h1] at hx;cases hx
    · have hj:0 < j:=by rw [←h1];exact List.length_pos_of_mem hx
      obtain ⟨A',y,rfl⟩:∃ A' y,A=A' ++[y]:=⟨A.dropLast,A.getLast (List.ne_nil_of_mem hx),(List.dropLast_concat_getLast _).symm⟩
      have hl:A'.length=j - 1:=by simp at h1;omega
      have hy:((A' ++[y]) ++(i:Int) :: (B ++(iota q.length).drop (i+1))).getD (j - 1) default=y:=by rw [←hl,List.append_assoc];exact get_mid
      rw [(hat hj).1,hy] at hs
      have hyi:ltR q y i:=by
        rcases ltR_or (q:=q) (a:=y) (b:=i) (fun e=>hnot (by rw [←e];simp)) with h6 | h6
        · exact h6
        · exact (hs h6).elim
      rcases List.mem_append.1 hx with hx | hx
      · refine ltR_trans ?_ hyi
        have:=(List.pairwise_append.1 h3).1
        exact (List.pairwise_append.1 this).2.2 x hx y (by simp)
      · rw [List.mem_singleton.1 hx];exact hyi
  have hp:=List.pairwise_append.1 h3
  refine ⟨hlen,?_,?_,hdr⟩
  · rw [htk]
    refine List.pairwise_append.2 ⟨hp.1,List.pairwise_cons.2 ⟨h4,hp.2.1⟩,fun x hx z hz=>?_⟩
    rcases List.mem_cons.1 hz with rfl | hz
    · exact hall x hx
    · exact hp.2.2 x hx z hz
  · rw [htk,iota_take (by omega),iota_succ]
    rw [iota_take (by omega)] at h5
    refine List.Perm.trans (List.perm_middle) (List.Perm.trans (h5.cons _) ?_)
    exact (List.perm_append_singleton (i:Int) (iota i)).symm
theorem ins_end {q:List Rat} {d:List Int} {i:Nat} (h:InsI q d i) (hi:q.length≤i):d=ord q:=by
  have h1:=h.pw;have h2:=h.perm
  rw [List.take_of_length_le (by rw [h.len];exact hi)] at h1 h2
  rw [List.take_of_length_le (by rw [iota_len];exact hi)] at h2
  exact ord_is h1 h2
end Fr

namespace Fr
open Bg
def fl (t:Int) (r:Rat):Int:=(r * (t:Rat)).floor
def re (t:Int) (r:Rat):Rat:=r * (t:Rat) - ((r * (t:Rat)).floor:Rat)
def sumI:List Int→Int
  | []=>0
  | x :: l=>x+sumI l
theorem sumI_app (l m:List Int):sumI (l ++m)=sumI l+sumI m:=by
  induction l with
  | nil=>simp [sumI]
  | cons x l ih=>rw [List.cons_append,sumI,sumI,ih];omega
theorem sumQ_cons (x:Rat) (l:List Rat):sumQ (x :: l)=x+sumQ l:=by
  have key:∀ (l:List Rat) (a:Rat),l.foldl (·+·) a=a+l.foldl (·+·) 0:=fun l=>by
    induction l with
    | nil=>intro a;simp [Rat.add_zero]
    | cons y l ih =>
      intro a
      rw [List.foldl_cons,List.foldl_cons,ih (a+y),ih (0+y)]
      generalize List.foldl (·+·) (0:Rat) l=s
      grind
  unfold sumQ
  rw [List.foldl_cons,key l (0+x),Rat.zero_add]
def leftI (t:Int) (q:List Rat):Int:=t - sumI (q.map (fl t))
def bump (o l:List Int):List Int:=l.foldl (fun o i=>o.set i.toNat (o.getD i.toNat default+1)) o
def rndOk (t:Int) (l:List DFrac):Prop:=(0≤t∧t≤1099511627776)∧isSh l
instance (t : Int) (l : List DFrac) : Decidable (rndOk t l) := by unfold rndOk; infer_instance
def rndQ (t:Int) (q:List Rat):List Int:=bump (q.map (fl t)) ((ord (q.map (re t))).take (leftI t q).toNat)
def rndL (t:Int) (l:List DFrac):List Int:=if rndOk t l then rndQ t (l.map qv) else []
theorem rndL_y {t:Int} {l:List DFrac} (h:rndOk t l):rndL t l=rndQ t (l.map qv):=if_pos h
theorem rndL_n {t:Int} {l:List DFrac} (h:¬ rndOk t l):rndL t l=[]:=if_neg h
theorem fl_le (t:Int) (r:Rat):((fl t r:Int):Rat)≤r * t:=Rat.floor_le _
theorem lt_fl (t:Int) (r:Rat):r * t < (fl t r:Rat)+1:=by
  have:=Rat.lt_floor_add_one (r * (t:Rat))
  rw [Rat.intCast_add] at this;exact this
theorem re_is (t:Int) (r:Rat):re t r=r * t - (fl t r:Rat):=rfl
theorem fl_rng {t:Int} {r:Rat} (h0:0≤t) (h1:0≤r) (h2:r≤1):0≤fl t r∧fl t r≤t:=by
  have ht:(0:Rat)≤(t:Rat):=Rat.intCast_nonneg.2 h0
  constructor
  · have:(0:Rat)≤r * t:=Rat.mul_nonneg h1 ht
    unfold fl;exact Rat.le_floor_iff.2 (by simpa using this)
  · have h3:r * t≤1 * (t:Rat):=Rat.mul_le_mul_of_nonneg_right h2 ht
    rw [Rat.one_mul] at h3
    have h4:=Rat.le_trans (fl_le t r) h3
    exact Rat.intCast_le_intCast.1 h4
theorem mem_le_sumQ {x:Rat}:∀ {l:List Rat},(∀ y ∈ l,0≤y)→x ∈ l→x≤sumQ l∧0≤sumQ l
  | y :: l,h,hx=>by
    rw [sumQ_cons]
    have hy:=h y List.mem_cons_self
    have hl:∀ z ∈ l,0≤z:=fun z hz=>h z (List.mem_cons_of_mem _ hz)
    rcases List.mem_cons.1 hx with rfl | hx
    · have hs:0≤sumQ l:=by
        cases l with
        | nil=>exact (Rat.le_refl:(0:Rat)≤0)
        | cons z l=>exact (mem_le_sumQ (x:=z) hl List.mem_cons_self).2
      constructor <;> grind
    · have:=mem_le_sumQ hl hx
      constructor <;> grind
theorem isSh.one {l:List DFrac} (h:isSh l) {x:DFrac} (hx:x ∈ l):0≤qv x∧qv x≤1:=by
  refine ⟨h.2.1 x hx,?_⟩
  rw [←h.2.2]
  exact (mem_le_sumQ (l:=l.map qv) (fun y hy=>by obtain ⟨z,hz,rfl⟩:=List.mem_map.1 hy;exact h.2.1 z hz) (List.mem_map_of_mem hx)).1
theorem sum_fl (t:Int):∀ q:List Rat,(sumI (q.map (fl t)):Rat)≤sumQ q * t∧sumQ q * t≤(sumI (q.map (fl t)):Rat)+(q.length:Rat)∧(sumI (q.map (fl t)):Rat)+sumQ (q.map (re t))=sumQ q * t
  | []=>by
    have e:sumQ []=0:=rfl
    have e2:sumI []=0:=rfl
    simp only [List.map_nil,e,e2,List.length_nil,Rat.zero_mul]
    exact ⟨by decide,by simp [Rat.add_zero],by simp [Rat.add_zero]⟩
  | x :: q=>by
    obtain ⟨h1,h2,h3⟩:=sum_fl t q
    have a1:=fl_le t x;have a2:=lt_fl t x
    have e:=re_is t x
    simp only [List.map_cons,sumQ_cons,sumI,List.length_cons,Rat.intCast_add,Rat.natCast_add]
    generalize (sumI (q.map (fl t)):Rat)=S at *
    generalize sumQ (q.map (re t))=R at *
    generalize re t x=y at *
    generalize (fl t x:Rat)=f at *
    generalize (q.length:Rat)=n at *
    have d:(x+sumQ q) * (t:Rat)=x * t+sumQ q * t:=Rat.add_mul _ _ _
    rw [d]
    generalize x * (t:Rat)=xt at *
    generalize sumQ q * (t:Rat)=qt at *
    refine ⟨by grind,?_,by grind⟩
    have e1:((1:Nat):Rat)=1:=rfl
    rw [e1];grind
theorem left_rng {t:Int} {q:List Rat} (hs:sumQ q=1):0≤leftI t q∧leftI t q≤q.length∧((leftI t q:Int):Rat)=sumQ (q.map (re t)):=by
  obtain ⟨h1,h2,h3⟩:=sum_fl t q
  rw [hs,Rat.one_mul] at h1 h2 h3
  unfold leftI
  refine ⟨?_,?_,?_⟩
  · have:=Rat.intCast_le_intCast.1 h1;omega
  · rw [←Rat.intCast_natCast,← Rat.intCast_add] at h2
    have:=Rat.intCast_le_intCast.1 h2;omega
  · rw [Rat.intCast_sub];generalize (sumI (q.map (fl t)):Rat)=S at *;generalize sumQ (q.map (re t))=R at *;grind
structure RI (t:Int) (l:List DFrac) (out:List Int) (rests:List DFrac) (order:List Int) (left:Int) (k:Nat):Prop where
  ol:out.length=l.length
  rl:rests.length=l.length
  o:out.take k=(l.take k).map fun x=>fl t (qv x)
  r:∀ x ∈ rests.take k,rt x∧ln 2000000 x
  rq:(rests.take k).map qv=(l.take k).map fun x=>re t (qv x)
  od:order=iota k
  lf:left=t - sumI ((l.take k).map fun x=>fl t (qv x))
  lr:t - k * 1099511627776≤left∧left≤t
theorem take_set {α:Type} {l:List α} {k:Nat} {v:α} (h:k < l.length):(l.set k v).take (k+1)=l.take k ++[v]:=by
  rw [List.take_add_one,List.take_set_of_le (Nat.le_refl _),List.getElem?_set_self h];rfl
theorem RI.step {t left v:Int} {l rests:List DFrac} {out order:List Int} {k:Nat} {x y:DFrac} (h:RI t l out rests order left k) (hk:k < l.length) (hx:x=l.getD k default) (hv:v=fl t (qv x)) (hy:rt y) (hy2:ln 2000000 y) (hy3:qv y=re t (qv x)) (hr:0≤v∧v≤1099511627776) :
    RI t l (out.set k v) (rests.set k y) (order ++[(k:Int)]) (left - v) (k+1):=by
  have e:=take_step (l:=l) hk
  rw [←hx] at e
  have h1:=h.ol;have h2:=h.rl
  refine ⟨by rw [List.length_set];exact h1,by rw [List.length_set];exact h2,?_,?_,?_,?_,?_,?_⟩
  · rw [take_set (by omega),e,List.map_append,h.o,hv];rfl
  · rw [take_set (by omega)]
    intro z hz
    rcases List.mem_append.1 hz with hz | hz
    · exact h.r z hz
    · rw [List.mem_singleton.1 hz];exact ⟨hy,hy2⟩
  · rw [take_set (by omega),e,List.map_append,List.map_append,h.rq,List.map_singleton,hy3];rfl
  · rw [h.od,iota_succ]
  · rw [e,List.map_append,sumI_app,h.lf,hv]
    simp only [List.map_cons,List.map_nil,sumI];omega
  · have:=h.lr
    rw [show ((k+1:Nat):Int)=k+1 by omega];omega
theorem RI.start (t:Int) (l:List DFrac) (ht:0≤t∧t≤1099511627776):RI t l (List.replicate l.length 0) (List.replicate l.length default) [] t 0 :=
  ⟨by simp,by simp,by simp,by simp,by simp,rfl,by simp [sumI],by omega⟩
structure RE (t:Int) (l:List DFrac) (out:List Int) (rests:List DFrac) (order:List Int) (left:Int):Prop where
  o:out=(l.map qv).map (fl t)
  r:∀ x ∈ rests,rt x∧ln 2000000 x
  rq:rests.map qv=(l.map qv).map (re t)
  od:order=iota (rests.map qv).length
  lf:left=leftI t (l.map qv)
theorem RI.end {t left:Int} {l rests:List DFrac} {out order:List Int} {k:Nat} (h:RI t l out rests order left k) (hk:k=l.length):RE t l out rests order left:=by
  subst hk
  have h1:=h.o;have h2:=h.r;have h3:=h.rq;have h4:=h.lf
  rw [List.take_of_length_le (by rw [h.ol];exact Nat.le_refl _),List.take_length] at h1
  rw [List.take_of_length_le (by rw [h.rl];exact Nat.le_refl _)] at h2 h3
  rw [List.take_length] at h3 h4
  refine ⟨by rw [h1,List.map_map];rfl,h2,by rw [h3,List.map_map];rfl,by rw [h.od,List.length_map,h.rl],by rw [h4];unfold leftI;rw [List.map_map];rfl⟩
theorem bump_snoc (o l:List Int) (i:Int):bump o (l ++[i])=(bump o l).set i.toNat ((bump o l).getD i.toNat default+1):=by unfold bump;rw [List.foldl_append];rfl
theorem bump_len (o:List Int):∀ l:List Int,(bump o l).length=o.length:=fun l=>by
  induction l generalizing o with
  | nil=>rfl
  | cons i l ih=>show (bump _ l).length=_;rw [ih,List.length_set]
theorem getD_set' {l:List Int} {i j:Nat} {x:Int} (h:i < l.length):(l.set i x).getD j default=if j=i then x else l.getD j default:=Bg.getD_set h
theorem bump_get:∀ {l:List Int} {o:List Int} {j:Nat},l.Nodup→(∀ i ∈ l,0≤i∧i < o.length)→(bump o l).getD j default=o.getD j default+if (j:Int) ∈ l then 1 else 0
  | [],o,j,_,_=>by simp [bump]
  | i :: l,o,j,hn,hi=>by
    have hn':=List.nodup_cons.1 hn
    have hi':=hi i List.mem_cons_self
    show (bump _ l).getD j default=_
    rw [bump_get (l:=l) hn'.2 fun z hz=>by rw [List.length_set];exact hi z (List.mem_cons_of_mem _ hz),getD_set' (by omega)]
    by_cases e:(j:Int)=i
    · have:j=i.toNat:=by omega
      rw [if_pos this,if_neg (by rw [e];exact hn'.1),if_pos (by rw [e];exact List.mem_cons_self),this];omega
    · rw [if_neg (by omega)]
      have:((j:Int) ∈ i :: l)↔(j:Int) ∈ l:=by rw [List.mem_cons];exact ⟨fun h=>h.resolve_left e,.inr⟩
      by_cases h:(j:Int) ∈ l
      · rw [if_pos h,if_pos (this.2 h)]
      · rw [if_neg h,if_neg fun k=>h (this.1 k)]
theorem sumI_set:∀ {l:List Int} {i:Nat} {x:Int},i < l.length→sumI (l.set i x)=sumI l - l.getD i default+x
  | y :: l,0,x,_=>by simp [sumI];omega
  | y :: l,i+1,x,h=>by
    rw [List.set_cons_succ,sumI,sumI,sumI_set (by simpa using h),List.getD_cons_succ];omega
theorem bump_sum:∀ {l:List Int} {o:List Int},(∀ i ∈ l,0≤i∧i < o.length)→sumI (bump o l)=sumI o+l.length
  | [],o,_=>by simp [bump]
  | i :: l,o,hi=>by
    have hi':=hi i List.mem_cons_self
    show sumI (bump _ l)=_
    rw [bump_sum (l:=l) fun z hz=>by rw [List.length_set];exact hi z (List.mem_cons_of_mem _ hz),sumI_set (by omega),List.length_cons];omega
theorem bump_rng {o:List Int} {l:List Int} {b:Int} (h:∀ x ∈ o,0≤x∧x≤b) (hi:∀ i ∈ l,0≤i∧i < o.length):∀ x ∈ bump o l,0≤x∧x≤b+l.length:=by
  induction l generalizing o b with
  | nil=>simpa [bump] using h
  | cons i l ih =>
    intro x hx
    have hx:x ∈ bump (o.set i.toNat (o.getD i.toNat default+1)) l:=hx
    have:=ih (o:=o.set i.toNat (o.getD i.toNat default+1)) (b:=b+1) (fun y hy=>by
      rcases List.mem_or_eq_of_mem_set hy with hy | hy
      · have:=h y hy;omega
      · have hi':=hi i List.mem_cons_self
        have:=h _ (getD_mem (l:=o) (k:=i.toNat) (by omega) rfl)
        omega) (fun j hj=>by rw [List.length_set];exact hi j (List.mem_cons_of_mem _ hj)) x hx
    rw [List.length_cons];omega
section
variable {t : Int} {q : List Rat}
theorem rnd_len:(rndQ t q).length=q.length:=by unfold rndQ;rw [bump_len,List.length_map]
theorem ord_take_mem {n:Nat}:∀ i ∈ (ord (q.map (re t))).take n,0≤i∧i < (q.map (fl t)).length:=fun i hi=>by
  have:=ord_mem.1 (List.mem_of_mem_take hi)
  simpa using this
theorem rnd_sum (hs:sumQ q=1):sumI (rndQ t q)=t:=by
  obtain ⟨h1,h2,_⟩:=left_rng (t:=t) hs
  unfold rndQ
  rw [bump_sum ord_take_mem,List.length_take,ord_len,List.length_map]
  unfold leftI at *
  omega
def isUp (t:Int) (q:List Rat) (j:Nat):Prop:=(j:Int) ∈ (ord (q.map (re t))).take (leftI t q).toNat
instance (t : Int) (q : List Rat) (j : Nat) : Decidable (isUp t q j) := by unfold isUp; infer_instance
theorem getD_map0 {α:Type} (f:Rat→α) (d:α) {j:Nat} (h:j < q.length):(q.map f).getD j d=f (q.getD j 0):=by
  rw [List.getD_eq_getElem?_getD,List.getD_eq_getElem?_getD,List.getElem?_map,List.getElem?_eq_getElem h];rfl
theorem rnd_get {j:Nat} (h:j < q.length):(rndQ t q).getD j default=fl t (q.getD j 0)+if isUp t q j then 1 else 0:=by
  unfold rndQ
  rw [bump_get ((ord_nd _).sublist (List.take_sublist _ _)) ord_take_mem,getD_map0 (fl t) default h];rfl
theorem rnd_nonneg {j:Nat} (ht:0≤t) (hj:j < q.length) (hq:0≤q.getD j 0):0≤(rndQ t q).getD j default:=by
  rw [rnd_get hj]
  have:0≤fl t (q.getD j 0):=Rat.le_floor_iff.2 (by simpa using Rat.mul_nonneg hq (Rat.intCast_nonneg.2 ht))
  split <;> omega
end
theorem getD_qv {rs:List DFrac} {k:Nat} (h:k < rs.length):(rs.map qv).getD k 0=qv (rs.getD k default):=by
  rw [List.getD_eq_getElem?_getD,List.getD_eq_getElem?_getD,List.getElem?_map,List.getElem?_eq_getElem h];rfl
theorem cmpQ_neg {a b:Rat}:cmpQ a b < 0↔a < b:=by
  unfold cmpQ
  by_cases h:a < b
  · rw [if_pos h];exact ⟨fun _=>h,fun _=>by omega⟩
  · rw [if_neg h]
    refine ⟨fun k=>?_,fun k=>(h k).elim⟩
    split at k <;> omega
theorem cmp_ltR {rs:List DFrac} {d:List Int} {i j:Nat} (h:InsJ (rs.map qv) d i j) (hj:0 < j) (hi:i < rs.length) {va vb n:Int} (ha:va=d.getD j default) (hb:vb=d.getD (j - 1) default)
    (hn:n=cmpQ (qv (rs.getD vb.toNat default)) (qv (rs.getD va.toNat default))):n < 0↔ltR (rs.map qv) (d.getD j default) (d.getD (j - 1) default):=by
  obtain ⟨h1,h2,h3⟩:=insJ_at h hj
  rw [hn,cmpQ_neg,← ha,← hb]
  rw [←hb] at h2 h3;rw [←ha] at h1
  unfold ltR
  rw [getD_qv (by omega),getD_qv (by omega)]
  refine ⟨.inl,fun k=>?_⟩
  rcases k with k | ⟨_,k⟩
  · exact k
  · omega
theorem ins_stop {rs:List DFrac} {d:List Int} {i j:Nat} (h:InsJ (rs.map qv) d i j) (hi:i < rs.length) {va vb n:Int} (ha:va=d.getD j default) (hb:vb=d.getD (j - 1) default)
    (hn:n=cmpQ (qv (rs.getD vb.toNat default)) (qv (rs.getD va.toNat default))) (hs:j=0∨¬ n < 0):InsI (rs.map qv) d (i+1):=by
  refine ins_out h (by simpa using hi) ?_
  rcases Nat.eq_zero_or_pos j with e | e
  · exact .inl e
  · rcases hs with hs | hs
    · omega
    · exact .inr fun k=>hs ((cmp_ltR h e hi ha hb hn).2 k)
end Fr

open Go Go.Proofs
set_option maxRecDepth 10000 in
theorem clo_ct (a b:Int) (rsb:Nat) (rs:List DFrac) (rss:SV) (hV:∀ x ∈ rs,Fr.rt x∧Fr.ln 2000000 x) (ha:0≤a∧a < (rs.length:Int)) (hb:0≤b∧b < (rs.length:Int)) :
    Cp Try.prog 48 #[iv a,iv b,pp rsb 0] [fs true ([⟨rs,rss⟩]:List (Fat DFrac)) ⟨atB rsb,1,1⟩] (iv (Fr.cmpQ (Fr.qv (rs.getD b.toNat default)) (Fr.qv (rs.getD a.toNat default)))):=by
  refine V.fn mo Try.func48 15 0 (by kernel_rfl) fun w H ε k0=>?_;obtain ⟨⟨kl1, -⟩, -⟩:Lq ([⟨rs,rss⟩]:List (Fat DFrac)) (SV.v ⟨atB rsb,1,1⟩)∧True:=kq k0
  clear k0;refine V.g [.k (iv 0)] fun _ _ G1=>?_;intro S_ s_
  refine nm (rs.getD b.toNat default:DFrac) fun x1 hx1=>?_;refine nm (rs.getD a.toNat default:DFrac) fun x2 hx2=>?_;refine nm (if Fr.FrB x1.P.Sign x1.P.Digits.l x1.Q.Sign x1.Q.Digits.l∧Fr.FrB x2.P.Sign x2.P.Digits.l x2.Q.Sign x2.Q.Digits.l then Fr.cmpQ (Fr.fq x1.P.Sign x1.P.Digits.l x1.Q.Digits.l) (Fr.fq x2.P.Sign x2.P.Digits.l x2.Q.Digits.l) else 0:Int) fun n1 hn1=>?_;have hx1m:=hV _ (getD_mem (by omega) hx1);have hx11:=hx1m.2.1;have hx12:=hx1m.2.2
  have hx2m:=hV _ (getD_mem (by omega) hx2);have hx21:=hx2m.2.1;have hx22:=hx2m.2.2;refine V.r [.le g0 (kf false (.f 0) ([⟨rs,rss⟩]:List (Fat DFrac)) (fun _=>⟨atB rsb,1,1⟩)) (0:Int) none true (⟨rs,rss⟩:Fat DFrac) rfl (fun _=>⟨Int.le_refl 0,Int.zero_lt_one⟩) false (fun _=>Dat.cells (⟨rs,rss⟩:Fat DFrac)),.k (iv b),.ix g0 (kx false (.g 0 0) (⟨rs,rss⟩:Fat DFrac) rs (fun _=>rss) (fun _ _ h=>h)) b (fun _=>⟨by omega,by omega⟩),.le g0 (kx false (.g 0 0) (⟨rs,rss⟩:Fat DFrac) rs (fun _=>rss) (fun _ _ h=>h)) b none true x1 hx1 (fun _=>⟨by omega,by omega⟩) true (fun _=>Dat.cells x1),.le g0 (kf false (.f 0) ([⟨rs,rss⟩]:List (Fat DFrac)) (fun _=>⟨atB rsb,1,1⟩)) (0:Int) none true (⟨rs,rss⟩:Fat DFrac) rfl (fun _=>⟨Int.le_refl 0,Int.zero_lt_one⟩) false (fun _=>Dat.cells (⟨rs,rss⟩:Fat DFrac)),.k (iv a),.ix g0 (kx false (.g 4 0) (⟨rs,rss⟩:Fat DFrac) rs (fun _=>rss) (fun _ _ h=>h)) a (fun _=>⟨by omega,by omega⟩),.le g0 (kx false (.g 4 0) (⟨rs,rss⟩:Fat DFrac) rs (fun _=>rss) (fun _ _ h=>h)) a none true x2 hx2 (fun _=>⟨by omega,by omega⟩) true (fun _=>Dat.cells x2),.cp g0 8 49 [(kx false (.g 3 0) x1 x1.P.Digits.l (fun _=>x1.P.Digits.s) (fun _ H (h:Dat.good H (x1:DFrac))=>h.1)).a,(kx false (.g 3 0) x1 x1.Q.Digits.l (fun _=>x1.Q.Digits.s) (fun _ H (h:Dat.good H (x1:DFrac))=>h.2)).a,(kx false (.g 7 0) x2 x2.P.Digits.l (fun _=>x2.P.Digits.s) (fun _ H (h:Dat.good H (x2:DFrac))=>h.1)).a,(kx false (.g 7 0) x2 x2.Q.Digits.l (fun _=>x2.Q.Digits.s) (fun _ H (h:Dat.good H (x2:DFrac))=>h.2)).a] (fun _ G=>fcmp_ctv x1.P.Sign x1.P.Digits.l x1.P.Digits.s x1.Q.Sign x1.Q.Digits.l x1.Q.Digits.s x2.P.Sign x2.P.Digits.l x2.P.Digits.s x2.Q.Sign x2.Q.Digits.l x2.Q.Digits.s (by omega) (by omega) (by omega) (by omega) n1 hn1),.k (iv n1)] fun _ _ G2 kw2=>?_;intro S_ s_
  obtain ⟨⟨kl2, -⟩,⟨⟨kl3, -⟩,⟨kl4, -⟩⟩,⟨kl5, -⟩,⟨⟨kl6, -⟩,⟨kl7, -⟩⟩, -⟩:Lq (⟨rs,rss⟩:Fat DFrac).l (⟨rs,rss⟩:Fat DFrac).s.v∧(Lq x1.P.Digits.l x1.P.Digits.s.v∧Lq x1.Q.Digits.l x1.Q.Digits.s.v)∧Lq (⟨rs,rss⟩:Fat DFrac).l (⟨rs,rss⟩:Fat DFrac).s.v∧(Lq x2.P.Digits.l x2.P.Digits.s.v∧Lq x2.Q.Digits.l x2.Q.Digits.s.v)∧True:=kq kw2;clear kw2;have e0:n1=Fr.cmpQ (Fr.qv (rs.getD b.toNat default)) (Fr.qv (rs.getD a.toNat default)):=by rw [hn1,if_pos ⟨hx1m.1,hx2m.1⟩,← hx1,← hx2];rfl
  exact V.rt [0] [] [] [] [] [] (iv n1) (cong1 (fun (x0:Int)=>(iv x0:Value)) e0)
theorem clo_ctv (a b:Int) (rsb:Nat) (rs:List DFrac) (rss:SV) (hV:∀ x ∈ rs,Fr.rt x∧Fr.ln 2000000 x) (ha:0≤a∧a < (rs.length:Int)) (hb:0≤b∧b < (rs.length:Int)) (rv0:Int) (erv0:rv0=Fr.cmpQ (Fr.qv (rs.getD b.toNat default)) (Fr.qv (rs.getD a.toNat default))) :
    Cp Try.prog 48 #[iv a,iv b,pp rsb 0] [fs true ([⟨rs,rss⟩]:List (Fat DFrac)) ⟨atB rsb,1,1⟩] (iv rv0):=by
  subst erv0;exact clo_ct a b rsb rs rss hV ha hb
set_option maxRecDepth 10000 in
theorem ins_ct (data:List Int) (datas:SV) (a b:Int) (rsb:Nat) (rs:List DFrac) (rss:SV) (hV:∀ x ∈ rs,Fr.rt x∧Fr.ln 2000000 x) (hl:data.length=rs.length) (hD:(a=0∧b=(data.length:Int)∧data=Fr.iota data.length)∨(a=b∧a=(data.length:Int)∧data=Fr.ord (rs.map Fr.qv))) (hr:rs.length < 1000) :
    Ct Try.prog 102 #[datas.v,iv a,iv b,.func (.func 48) #[] #[pp rsb 0]] [fs true ([⟨rs,rss⟩]:List (Fat DFrac)) ⟨atB rsb,1,1⟩] [os false 3 data datas] (fun g=>.tuple #[]) (fun g=>[]) (fun g=>[os true 3 (Fr.ord (rs.map Fr.qv)) datas]) (fun g=>[]):=by
  refine V.fn mo Try.func102 53 0 (by kernel_rfl) fun w H ε k0=>?_;obtain ⟨⟨kl1, -⟩,⟨kl2, -⟩, -⟩:Lq ([⟨rs,rss⟩]:List (Fat DFrac)) (SV.v ⟨atB rsb,1,1⟩)∧Lq data datas.v∧True:=kq k0
  clear k0;refine V.tro 3 data datas 0 (by kernel_rfl) (fun _ _=>trivial) ?_;have hbn:b=(rs.length:Int):=by omega
  refine V.g [.k (iv a),.a (a+1) (by omega) (by omega),.k (iv (a+1))] fun _ _ G1=>?_;intro S s
  refine V.loop (γ:=List Int × Int) (fun ⟨data_1,i⟩=>⟨[(0,datas.v),(1,iv a),(2,iv b),(3,.func (.func 48) #[] #[pp rsb 0]),(8,iv i)],[fs false ([⟨rs,rss⟩]:List (Fat DFrac)) ⟨atB rsb,1,1⟩],[os true 3 data_1 datas]⟩) (fun ⟨data_1,i⟩=>(a+1≤i)∧((a=0∧i≤b+1∧Fr.InsI (rs.map Fr.qv) data_1 i.toNat)∨(a=b∧data_1=Fr.ord (rs.map Fr.qv)))) (fun ⟨data_1,i⟩=>(b-i).toNat) (data,a+1) (by kernel_rfl) [0] (by kernel_rfl) ?_ ?_
  · refine ⟨?_,?_⟩
    · show a+1≤(a+1);omega
    show (a=0∧(a+1)≤b+1∧Fr.InsI (rs.map Fr.qv) data (a+1).toNat)∨(a=b∧data=Fr.ord (rs.map Fr.qv));rcases hD with ⟨h1,h2,h3⟩ | ⟨h1,_,h2⟩
    · left;refine ⟨h1,by omega,?_⟩;rw [h1,show ((0:Int)+1).toNat=1 from rfl,h3,hl,show rs.length=(rs.map Fr.qv).length by rw [List.length_map]];exact Fr.ins_start
    right;exact ⟨h1,h2⟩
  rintro ⟨data_1,i⟩ hF1 kw2 Z1 hZ1;have hF1:(a+1≤i)∧((a=0∧i≤b+1∧Fr.InsI (rs.map Fr.qv) data_1 i.toNat)∨(a=b∧data_1=Fr.ord (rs.map Fr.qv))):=hF1;obtain ⟨hf1,hf2⟩:=hF1;obtain ⟨-,⟨kl3, -⟩, -⟩:Lq ([⟨rs,rss⟩]:List (Fat DFrac)) (SV.v ⟨atB rsb,1,1⟩)∧Lq data_1 datas.v∧True:=kq kw2;clear kw2;refine V.g [.k (iv i),.k (iv b),.k (bv (decide (i < b)))] fun _ _ G2=>?_;intro S s;refine V.cn (b:=decide (i < b)) iDT iDF (fun q1=>?_) (fun q2=>?_)
  · obtain ⟨ha0,hib,hI⟩:a=0∧i≤b+1∧Fr.InsI (rs.map Fr.qv) data_1 i.toNat:=by rcases hf2 with h | h;exact h;omega
    have hbr:b=(rs.length:Int):=by omega
    have hIl:=hI.len;rw [List.length_map] at hIl;refine V.g [.k (iv i),.k (iv i)] fun _ _ G3=>?_;intro S s
    refine V.loop (γ:=List Int × Int) (fun ⟨data_2,j⟩=>⟨[(0,datas.v),(1,iv a),(2,iv b),(3,.func (.func 48) #[] #[pp rsb 0]),(8,iv i),(9,iv j)],[fs false ([⟨rs,rss⟩]:List (Fat DFrac)) ⟨atB rsb,1,1⟩],[os true 3 data_2 datas]⟩) (fun ⟨data_2,j⟩=>(0≤j)∧(j≤i)∧(Fr.InsJ (rs.map Fr.qv) data_2 i.toNat j.toNat)) (fun ⟨data_2,j⟩=>j.toNat) (data_1,i) (by kernel_rfl) [0] (by kernel_rfl) ?_ ?_
    · refine ⟨?_,?_,?_⟩
      · show 0≤i;omega
      · show i≤i;omega
      show Fr.InsJ (rs.map Fr.qv) data_1 i.toNat i.toNat;exact Fr.ins_in hI (by rw [List.length_map];omega)
    rintro ⟨data_2,j⟩ hF2 kw5 Z2 hZ2;have hF2:(0≤j)∧(j≤i)∧(Fr.InsJ (rs.map Fr.qv) data_2 i.toNat j.toNat):=hF2;obtain ⟨hf3,hf4,hf5⟩:=hF2;obtain ⟨-,⟨kl4, -⟩, -⟩:Lq ([⟨rs,rss⟩]:List (Fat DFrac)) (SV.v ⟨atB rsb,1,1⟩)∧Lq data_2 datas.v∧True:=kq kw5;clear kw5;have hJl:=hf5.len (by rw [List.length_map];omega);rw [List.length_map] at hJl;refine nm (data_2.getD j.toNat default:Int) fun v1 hv1=>?_;refine nm (data_2.getD (j-1).toNat default:Int) fun v2 hv2=>?_;refine nm (Fr.cmpQ (Fr.qv (rs.getD v2.toNat default)) (Fr.qv (rs.getD v1.toNat default)):Int) fun n1 hn1=>?_;have hat:=fun (hj:0 < j)=>Fr.insJ_at hf5 (by omega:0 < j.toNat);have hv2c:v2=_:=hv2;rw [show (j-1).toNat=j.toNat-1 by omega] at hv2c;have hva:0 < j→v1=i:=fun hj=>by have:=(hat hj).1;omega
    have hvb:0 < j→0≤v2∧v2 < i:=fun hj=>by have:=(hat hj).2;omega
    refine V.g [.k (iv j),.k (iv a),.k (bv (decide (a < j))),.k (bv (decide (a < j))),.k (.func (.func 48) #[] #[pp rsb 0]),.k (datas.v),.k (iv j),.ix (gT (b:=decide (a < j)) iDT) (ko true 3 0 data_2 (fun _=>datas)) j (fun hg=>⟨by omega,by omega⟩),.le (gT (b:=decide (a < j)) iDT) (ko true 3 0 data_2 (fun _=>datas)) j none false v1 hv1 (fun hg=>⟨by omega,by omega⟩) false (fun _=>[iv v1]),.k (datas.v),.k (iv j),.arg (gT (b:=decide (a < j)) iDT) (j-1) (j-1) rfl (fun hg=>by omega),.ix (gT (b:=decide (a < j)) iDT) (ko true 3 0 data_2 (fun _=>datas)) (j-1) (fun hg=>⟨by omega,by omega⟩),.le (gT (b:=decide (a < j)) iDT) (ko true 3 0 data_2 (fun _=>datas)) (j-1) none false v2 hv2 (fun hg=>⟨by omega,by omega⟩) false (fun _=>[iv v2]),.cp (gT (b:=decide (a < j)) iDT) 14 48 [(kf false (.f 0) ([⟨rs,rss⟩]:List (Fat DFrac)) (fun _=>⟨atB rsb,1,1⟩)).a] (fun hg G=>clo_ctv v1 v2 rsb rs rss hV (by have:=hva (by omega);omega) (by have:=hvb (by omega);omega) n1 hn1),.k (bv (decide (n1 < 0))),.and g0 false (decide (a < j)) (decide (n1 < 0))] fun _ _ G4=>?_;intro S s
    refine V.cn (b:=(decide (a < j)) && (decide (n1 < 0))) (iAT iDT iDT) (iAF iDF iDF) (fun q3=>?_) (fun q4=>?_)
    · refine nm (data_2.set j.toNat v2:List Int) fun l1 hl1=>?_;have hl1n:=congrArg List.length hl1;try simp only [List.length_append,List.length_cons,List.length_nil,List.length_replicate,List.length_set,List.length_take,List.length_drop,List.length_map,List.length_reverse,List.length_range] at hl1n
      refine nm (l1.getD (j-1).toNat default:Int) fun v3 hv3=>?_;refine nm (l1.set (j-1).toNat v1:List Int) fun l2 hl2=>?_;have hl2n:=congrArg List.length hl2;try simp only [List.length_append,List.length_cons,List.length_nil,List.length_replicate,List.length_set,List.length_take,List.length_drop,List.length_map,List.length_reverse,List.length_range] at hl2n
      refine V.g [.k (datas.v),.k (iv j),.k (datas.v),.k (iv j),.a (j-1) (by omega) (by omega),.k (datas.v),.k (iv j),.a (j-1) (by omega) (by omega),.ix g0 (ko true 3 0 data_2 (fun _=>datas)) (j-1) (fun _=>⟨by omega,by omega⟩),.le g0 (ko true 3 0 data_2 (fun _=>datas)) (j-1) none false v2 hv2 (fun _=>⟨by omega,by omega⟩) false (fun _=>[iv v2]),.k (datas.v),.k (iv j),.ix g0 (ko true 3 0 data_2 (fun _=>datas)) j (fun _=>⟨by omega,by omega⟩),.le g0 (ko true 3 0 data_2 (fun _=>datas)) j none false v1 hv1 (fun _=>⟨by omega,by omega⟩) false (fun _=>[iv v1]),.ix g0 (ko true 3 0 data_2 (fun _=>datas)) j (fun _=>⟨by omega,by omega⟩),.se g0 15 0 3 true data_2 (fun _=>datas) j none v1 v2 hv1 true l1 hl1 (fun _=>⟨by omega,by omega⟩) (fun _=>rfl) [] (fun _ _ _ _=>trivial),.ix g0 (ko true 3 0 l1 (fun _=>datas)) (j-1) (fun _=>⟨by omega,by omega⟩),.se g0 17 0 3 true l1 (fun _=>datas) (j-1) none v3 v1 hv3 true l2 hl2 (fun _=>⟨by omega,by omega⟩) (fun _=>rfl) [] (fun _ _ _ _=>trivial)] fun _ _ G5=>?_;intro S s
      refine V.g [.k (iv j),.a (j-1) (by omega) (by omega),.k (iv (j-1))] fun _ _ G6=>?_;intro S s
      refine V.rnd hZ2 (l2,j-1) [0] (by kernel_rfl) ?_ ?_
      · refine ⟨?_,?_,?_⟩
        · show 0≤(j-1);omega
        · show (j-1)≤i;omega
        show Fr.InsJ (rs.map Fr.qv) l2 i.toNat (j-1).toNat;have hst:=Fr.ins_step hf5 (by omega) ((Fr.cmp_ltR hf5 (by omega) (by omega) hv1 hv2c hn1).1 q3.2);rw [show j.toNat-1=(j-1).toNat by omega,← hv2,← hv1] at hst;rw [hl2,hl1];exact hst
      show (j-1).toNat < j.toNat;omega
    refine V.g [.k (iv i),.a (i+1) (by omega) (by omega),.k (iv (i+1))] fun _ _ G7=>?_;intro S s
    refine V.rnd hZ1 (data_2,i+1) [0] (by kernel_rfl) ?_ ?_
    · refine ⟨?_,?_⟩
      · show a+1≤(i+1);omega
      show (a=0∧(i+1)≤b+1∧Fr.InsI (rs.map Fr.qv) data_2 (i+1).toNat)∨(a=b∧data_2=Fr.ord (rs.map Fr.qv))
      left;refine ⟨ha0,by omega,?_⟩
      rw [show (i+1).toNat=i.toNat+1 by omega];refine Fr.ins_stop hf5 (by omega) hv1 hv2c hn1 ?_;have hqq:=q4;rcases hqq with h | h
      · left;omega
      right;exact h
    show (b-(i+1)).toNat < (b-i).toNat;omega
  have eL0:data_1=Fr.ord (rs.map Fr.qv):=by
    rcases hf2 with ⟨h1,h2,h3⟩ | ⟨h1,h2⟩
    · exact Fr.ins_end h3 (by rw [List.length_map];omega)
    exact h2
  subst eL0;exact V.rs [] [] [] [] [] [0] (.tuple #[])
set_option maxRecDepth 10000 in
theorem stable_ct (data:List Int) (datas:SV) (n:Int) (rsb:Nat) (rs:List DFrac) (rss:SV) (hV:∀ x ∈ rs,Fr.rt x∧Fr.ln 2000000 x) (hl:data.length=rs.length) (hn:n=(data.length:Int)) (hr:rs.length≤20) (hD:data=Fr.iota rs.length) :
    Ct Try.prog 86 #[datas.v,iv n,.func (.func 48) #[] #[pp rsb 0]] [fs true ([⟨rs,rss⟩]:List (Fat DFrac)) ⟨atB rsb,1,1⟩] [os false 3 data datas] (fun g=>.tuple #[]) (fun g=>[]) (fun g=>[os true 3 (Fr.ord (rs.map Fr.qv)) datas]) (fun g=>[]):=by
  refine V.fn mo Try.func86 63 0 (by kernel_rfl) fun w H ε k0=>?_;obtain ⟨⟨kl1, -⟩,⟨kl2, -⟩, -⟩:Lq ([⟨rs,rss⟩]:List (Fat DFrac)) (SV.v ⟨atB rsb,1,1⟩)∧Lq data datas.v∧True:=kq k0
  clear k0;refine V.tro 3 data datas 0 (by kernel_rfl) (fun _ _=>trivial) ?_;refine V.g [.k (iv 20)] fun _ _ G1=>?_;intro S s
  refine V.g [.k (iv 20),.k (iv 0),.k (iv 20)] fun _ _ G2=>?_;intro S s
  refine V.loop (γ:=List Int × Int × Int) (fun ⟨data_1,a,b⟩=>⟨[(0,datas.v),(1,iv n),(2,.func (.func 48) #[] #[pp rsb 0]),(6,iv 20),(7,iv a),(8,iv b)],[fs false ([⟨rs,rss⟩]:List (Fat DFrac)) ⟨atB rsb,1,1⟩],[os true 3 data_1 datas]⟩) (fun ⟨data_1,a,b⟩=>((a=0∧b=20∧data_1=Fr.iota rs.length)∨(a=20∧b=40∧n=20∧data_1=Fr.ord (rs.map Fr.qv)))) (fun ⟨data_1,a,b⟩=>(40-b).toNat) (data,0,20) (by kernel_rfl) [0] (by kernel_rfl) ?_ ?_
  · · show ((0:Int)=0∧(20:Int)=20∧data=Fr.iota rs.length)∨((0:Int)=20∧(20:Int)=40∧n=20∧data=Fr.ord (rs.map Fr.qv))
      left;exact ⟨rfl,rfl,hD⟩
  rintro ⟨data_1,a,b⟩ hF1 kw3 Z1 hZ1;have hf1:(a=0∧b=20∧data_1=Fr.iota rs.length)∨(a=20∧b=40∧n=20∧data_1=Fr.ord (rs.map Fr.qv)):=hF1;obtain ⟨-,⟨kl3, -⟩, -⟩:Lq ([⟨rs,rss⟩]:List (Fat DFrac)) (SV.v ⟨atB rsb,1,1⟩)∧Lq data_1 datas.v∧True:=kq kw3;clear kw3;refine V.g [.k (iv b),.k (iv n),.k (bv (decide (b≤n)))] fun _ _ G3=>?_;intro S s;refine V.cn (b:=decide (b≤n)) iDT iDF (fun q1=>?_) (fun q2=>?_)
  · obtain ⟨hdl,ha0,hb20⟩:data_1=Fr.iota rs.length∧a=0∧b=20:=by rcases hf1 with h | h;exact ⟨h.2.2,h.1,h.2.1⟩;omega
    have hdn:data_1.length=rs.length:=by rw [hdl,Fr.iota_len]
    refine V.g [.k (datas.v),.k (iv a),.k (iv b),.k (.func (.func 48) #[] #[pp rsb 0]),.ct g0 4 102 false [0] [] [(kf false (.f 0) ([⟨rs,rss⟩]:List (Fat DFrac)) (fun _=>⟨atB rsb,1,1⟩)).a] (fun _ G=>ins_ct data_1 datas a b rsb rs rss hV hdn (.inl ⟨ha0,by omega,by rw [hdn];exact hdl⟩) (by omega))] fun _ _ G4=>?_;intro S s
    refine V.g [.k (iv b),.k (iv b)] fun _ _ G5=>?_;intro S s
    refine V.g [.k (iv b),.k (iv 20),.a (b+20) (by omega) (by omega),.k (iv (b+20))] fun _ _ G6=>?_;intro S s
    refine V.rnd hZ1 (Fr.ord (rs.map Fr.qv),b,b+20) [0] (by kernel_rfl) ?_ ?_
    · · show (b=0∧(b+20)=20∧(Fr.ord (rs.map Fr.qv))=Fr.iota rs.length)∨(b=20∧(b+20)=40∧n=20∧(Fr.ord (rs.map Fr.qv))=Fr.ord (rs.map Fr.qv))
        right;exact ⟨by omega,by omega,by omega,rfl⟩
    show (40-(b+20)).toNat < (40-b).toNat;omega
  have hdn:data_1.length=rs.length:=by rcases hf1 with h | h;rw [h.2.2,Fr.iota_len];rw [h.2.2.2,Fr.ord_len,List.length_map]
  refine V.g [.k (datas.v),.k (iv a),.k (iv n),.k (.func (.func 48) #[] #[pp rsb 0]),.ct g0 4 102 false [0] [] [(kf false (.f 0) ([⟨rs,rss⟩]:List (Fat DFrac)) (fun _=>⟨atB rsb,1,1⟩)).a] (fun _ G=>ins_ct data_1 datas a n rsb rs rss hV hdn (by rcases hf1 with h | h;exact .inl ⟨h.1,by omega,by rw [hdn];exact h.2.2⟩;exact .inr ⟨by omega,by omega,h.2.2.2⟩) (by omega))] fun _ _ G7=>?_;intro S s
  refine V.loop (γ:=Int) (fun blockSize=>⟨[(0,datas.v),(1,iv n),(2,.func (.func 48) #[] #[pp rsb 0]),(6,iv blockSize)],[fs false ([⟨rs,rss⟩]:List (Fat DFrac)) ⟨atB rsb,1,1⟩],[os true 3 (Fr.ord (rs.map Fr.qv)) datas]⟩) (fun blockSize=>(blockSize=20)) (fun blockSize=>0) 20 (by kernel_rfl) [0] (by kernel_rfl) ?_ ?_
  · · show (20:Int)=20;rfl
  rintro blockSize hF2 kw9 Z2 hZ2;have hf2:blockSize=20:=hF2;clear kw9;refine V.g [.k (iv blockSize),.k (iv n),.k (bv (decide (blockSize < n)))] fun _ _ G8=>?_;intro S s;refine V.cn (b:=decide (blockSize < n)) iDT iDF (fun q3=>?_) (fun q4=>?_)
  · exfalso;omega
  exact V.rs [] [] [] [] [] [0] (.tuple #[])
set_option maxRecDepth 10000 in
theorem sorts_ct (x:List Int) (xs:SV) (rsb:Nat) (rs:List DFrac) (rss:SV) (hV:∀ x ∈ rs,Fr.rt x∧Fr.ln 2000000 x) (hl:x.length=rs.length) (hr:rs.length≤20) (hD:x=Fr.iota rs.length) :
    Ct Try.prog 47 #[xs.v,.func (.func 48) #[] #[pp rsb 0]] [fs true ([⟨rs,rss⟩]:List (Fat DFrac)) ⟨atB rsb,1,1⟩] [os false 3 x xs] (fun g=>.tuple #[]) (fun g=>[]) (fun g=>[os true 3 (Fr.ord (rs.map Fr.qv)) xs]) (fun g=>[]):=by
  refine V.fn mo Try.func47 9 0 (by kernel_rfl) fun w H ε k0=>?_;obtain ⟨⟨kl1, -⟩,⟨kl2, -⟩, -⟩:Lq ([⟨rs,rss⟩]:List (Fat DFrac)) (SV.v ⟨atB rsb,1,1⟩)∧Lq x xs.v∧True:=kq k0
  clear k0;refine V.tro 3 x xs 0 (by kernel_rfl) (fun _ _=>trivial) ?_;refine V.g [.k (xs.v),.k (xs.v),.ln (ko true 3 0 x (fun _=>xs)),.k (.func (.func 48) #[] #[pp rsb 0]),.ct g0 4 86 false [0] [] [(kf false (.f 0) ([⟨rs,rss⟩]:List (Fat DFrac)) (fun _=>⟨atB rsb,1,1⟩)).a] (fun _ G=>stable_ct x xs (x.length:Int) rsb rs rss hV hl rfl hr hD)] fun _ _ G1=>?_;intro S s
  exact V.rs [] [] [] [] [] [0] (.tuple #[])
end Kb
