/- Texts for the claim, put together: the calculus of regions, its rules, and contracts of the functions that the law reaches. -/
import Derived.Test.YtpnbgdgjgndicaaGreatZwwb
set_option linter.unusedVariables false
set_option linter.unusedSectionVars false
set_option linter.unusedSimpArgs false
namespace Kb
open Go Go.Proofs
set_option maxRecDepth 10000 in
theorem of_ct (n:Int) (hn: -9223372036854775808≤n∧n≤9223372036854775807) :
    Ct Tryz.prog 85 #[iv n] [] [] (fun g=>ag (DBig.mk (Bg.sgn n) ⟨Bg.dig n.natAbs,(g.ss 0)⟩)) (fun g=>[fs true (Bg.dig n.natAbs) (g.ss 0)]) (fun g=>[]) (fun g=>[]):=by
  refine V.fn mo Tryz.func85 25 2 (by kernel_rfl) fun w H ε k0=>?_;clear k0
  refine V.g [.nb 0 0 (fun b=>pp b 0) 27 (fun _=>ca (DBig.mk 0 ⟨[],{}⟩))] fun _ _ G1=>?_;intro S_ s_
  refine nm (n % 18446744073709551616:Int) fun n1 hn1=>?_;refine V.g [.k (iv n),.ek g0 .u64 n n1 (fun _=>by rw [wrapU64,hn1]),.k (iv 1),.k (.int .u64 n1)] fun _ _ G2=>?_;intro S_ s_
  refine V.g [.k (iv n),.k (bv (decide (n < 0)))] fun _ _ G3=>?_;intro S_ s_
  refine V.cn (b:=decide (n < 0)) iDT iDF (fun q1=>?_) (fun q2=>?_)
  · refine nm ((0-n1) % 18446744073709551616:Int) fun n2 hn2=>?_;refine V.g [.k (.int .u64 n1),.ek g0 .u64 (0-n1) n2 (fun _=>by rw [wrapU64,hn2]),.k (iv (-1)),.k (.int .u64 n2)] fun _ _ G4=>?_;intro S_ s_
    refine V.g [.k (.slice none 0 0)] fun _ _ G5=>?_;intro S_ s_
    refine V.on (α:=Int) 1 3 (by kernel_rfl) ?_;refine V.loop (γ:=Int × List Int × SV) (fun ⟨u,l,ls⟩=>⟨[(2,pp ((G1 0).b) 0),(3,iv (-1)),(4,.int .u64 u),(5,ls.v)],[],[.blk ((G1 0).b) (ca (DBig.mk 0 ⟨[],{}⟩)) 27,os true 3 l ls]⟩) (fun ⟨u,l,ls⟩=>(Bg.OfI n.natAbs l u)) (fun ⟨u,l,ls⟩=>u.toNat) (n2,([]:List Int),{}) (by kernel_rfl) [] (by kernel_rfl) ?_ ?_
    · · show Bg.OfI n.natAbs ([]:List Int) n2;exact Bg.of_start (by omega) (by omega)
    rintro ⟨u,l,ls⟩ hF1 kw6 Z1 hZ1;have hf1:Bg.OfI n.natAbs l u:=hF1;obtain ⟨⟨kl1, -⟩, -⟩:Lq l ls.v∧True:=kq kw6;clear kw6;have hu0:=hf1.u0;have hul:u < 18446744073709551616:=by have:=hf1.sum;have:=Nat.le_mul_of_pos_left u.toNat (Nat.pow_pos (n:=l.length) (show 0 < 1048576 by omega));omega
    refine V.g [.k (.int .u64 u),.k (bv (decide (0 < u)))] fun _ _ G6=>?_;intro S_ s_
    refine V.cn (b:=decide (0 < u)) iDT iDF (fun q3=>?_) (fun q4=>?_)
    · have hll:=Bg.of_len hf1 q3 (by omega);refine nm (u % 1048576:Int) fun n3 hn3=>?_;refine nm (l ++[n3]:List Int) fun l1 hl1=>?_;have hl1n:=congrArg List.length hl1;try simp only [List.length_append,List.length_cons,List.length_nil,List.length_replicate,List.length_set,List.length_take,List.length_drop,List.length_map,List.length_reverse,List.length_range] at hl1n
      refine V.r [.k (ls.v),.k (.int .u64 u),.andu g0 u 1048575 n3 20 (by decide) rfl (by rw [hn3];rfl),.ek g0 .i64 n3 n3 (fun _=>by rw [IntKind.wrap_i64];omega),.nr 4 true 3 [n3] [] (fun _ _ _ _ _=>trivial) (fun _=>#[iv n3]),.ap 5 1 3 8 false true l (fun _=>ls) (kf true (.g 4 0) [n3] (fun G=>⟨atB (G 4).b,1,1⟩)) true l1 hl1 (by (try simp only [List.length_append,List.length_cons,List.length_nil,List.length_replicate,List.length_set,List.length_take,List.length_drop,List.length_map,List.length_reverse,List.length_range]);omega) (fun h=>by cases h) (.inr fun _ _=>trivial),.v fun G=>((G 5).s).v] fun _ _ G7 kw8=>?_;intro S_ s_
      obtain ⟨⟨kl2, -⟩, -⟩:Lq [n3] (SV.v ⟨atB (G7 4).b,1,1⟩)∧Lq l1 (((G7 5).s).v)∧True:=kq kw8;clear kw8;refine nm (u / 1048576:Int) fun n4 hn4=>?_;refine V.g [.k (.int .u64 u),.shrm g0 .u64 .u64 u n4 20 (by decide) (by rw [hn4];rfl),.k (.int .u64 n4)] fun _ _ G8=>?_;intro S_ s_;refine V.rnd hZ1 (n4,l1,(G7 5).s) [] (by kernel_rfl) ?_ ?_
      · · show Bg.OfI n.natAbs l1 n4;rw [hl1,hn3,hn4];exact Bg.of_step hf1
      show n4.toNat < u.toNat;omega
    refine V.frz 1 true 3 l ls (by kernel_rfl) ?_;refine V.r [.k (iv (-1)),.k (ls.v),.ctT g0 2 115 [(kf true (.f 0) l (fun _=>ls)).a] (fun _ G=>signed_ct (-1:Int) l ls hf1.dg),.st 0 (fun G=>.blk ((G1 0).b) (ca (DBig.mk (Bg.sg0 (Bg.nv l) (-1:Int)) ⟨Bg.dig (Bg.nv l),(G 2).ss 0⟩)) 27)] fun _ _ G9 kw10=>?_;intro S_ s_
    obtain ⟨⟨kl3, -⟩, -⟩:Lq (Bg.dig (Bg.nv l)) (((G9 2).ss 0).v)∧True:=kq kw10;clear kw10;have e1:Bg.dig (Bg.nv l)=Bg.dig n.natAbs:=by rw [Bg.of_end hf1 q4]
    rw [←e1];have e0:(Bg.sg0 (Bg.nv l) (-1:Int))=Bg.sgn n:=by rw [Bg.of_end hf1 q4];exact Bg.of_sgn rfl _ (by omega)
    exact V.rt [0] [(G9 2).ss 0] [fun _=>{}] [] [1] [] (ag (DBig.mk (Bg.sg0 (Bg.nv l) (-1:Int)) ⟨Bg.dig (Bg.nv l),(G9 2).ss 0⟩)) (cong1 (fun (x0:Int)=>(.agg #[iv x0,((G9 2).ss 0).v]:Value)) e0)
  refine V.g [.k (.slice none 0 0)] fun _ _ G10=>?_;intro S_ s_
  refine V.on (α:=Int) 1 3 (by kernel_rfl) ?_;refine V.loop (γ:=Int × List Int × SV) (fun ⟨u_1,l_1,l_1s⟩=>⟨[(2,pp ((G1 0).b) 0),(3,iv 1),(4,.int .u64 u_1),(5,l_1s.v)],[],[.blk ((G1 0).b) (ca (DBig.mk 0 ⟨[],{}⟩)) 27,os true 3 l_1 l_1s]⟩) (fun ⟨u_1,l_1,l_1s⟩=>(Bg.OfI n.natAbs l_1 u_1)) (fun ⟨u_1,l_1,l_1s⟩=>u_1.toNat) (n1,([]:List Int),{}) (by kernel_rfl) [] (by kernel_rfl) ?_ ?_
  · · show Bg.OfI n.natAbs ([]:List Int) n1;exact Bg.of_start (by omega) (by omega)
  rintro ⟨u_1,l_1,l_1s⟩ hF2 kw12 Z2 hZ2;have hf2:Bg.OfI n.natAbs l_1 u_1:=hF2;obtain ⟨⟨kl4, -⟩, -⟩:Lq l_1 l_1s.v∧True:=kq kw12;clear kw12;have hu0:=hf2.u0;have hul:u_1 < 18446744073709551616:=by have:=hf2.sum;have:=Nat.le_mul_of_pos_left u_1.toNat (Nat.pow_pos (n:=l_1.length) (show 0 < 1048576 by omega));omega
  refine V.g [.k (.int .u64 u_1),.k (bv (decide (0 < u_1)))] fun _ _ G11=>?_;intro S_ s_
  refine V.cn (b:=decide (0 < u_1)) iDT iDF (fun q5=>?_) (fun q6=>?_)
  · have hll:=Bg.of_len hf2 q5 (by omega);refine nm (u_1 % 1048576:Int) fun n5 hn5=>?_;refine nm (l_1 ++[n5]:List Int) fun l2 hl2=>?_;have hl2n:=congrArg List.length hl2;try simp only [List.length_append,List.length_cons,List.length_nil,List.length_replicate,List.length_set,List.length_take,List.length_drop,List.length_map,List.length_reverse,List.length_range] at hl2n
    refine V.r [.k (l_1s.v),.k (.int .u64 u_1),.andu g0 u_1 1048575 n5 20 (by decide) rfl (by rw [hn5];rfl),.ek g0 .i64 n5 n5 (fun _=>by rw [IntKind.wrap_i64];omega),.nr 4 true 3 [n5] [] (fun _ _ _ _ _=>trivial) (fun _=>#[iv n5]),.ap 5 1 3 8 false true l_1 (fun _=>l_1s) (kf true (.g 4 0) [n5] (fun G=>⟨atB (G 4).b,1,1⟩)) true l2 hl2 (by (try simp only [List.length_append,List.length_cons,List.length_nil,List.length_replicate,List.length_set,List.length_take,List.length_drop,List.length_map,List.length_reverse,List.length_range]);omega) (fun h=>by cases h) (.inr fun _ _=>trivial),.v fun G=>((G 5).s).v] fun _ _ G12 kw14=>?_;intro S_ s_
    obtain ⟨⟨kl5, -⟩, -⟩:Lq [n5] (SV.v ⟨atB (G12 4).b,1,1⟩)∧Lq l2 (((G12 5).s).v)∧True:=kq kw14;clear kw14;refine nm (u_1 / 1048576:Int) fun n6 hn6=>?_;refine V.g [.k (.int .u64 u_1),.shrm g0 .u64 .u64 u_1 n6 20 (by decide) (by rw [hn6];rfl),.k (.int .u64 n6)] fun _ _ G13=>?_;intro S_ s_;refine V.rnd hZ2 (n6,l2,(G12 5).s) [] (by kernel_rfl) ?_ ?_
    · · show Bg.OfI n.natAbs l2 n6;rw [hl2,hn5,hn6];exact Bg.of_step hf2
    show n6.toNat < u_1.toNat;omega
  refine V.frz 1 true 3 l_1 l_1s (by kernel_rfl) ?_;refine V.r [.k (iv 1),.k (l_1s.v),.ctT g0 2 115 [(kf true (.f 0) l_1 (fun _=>l_1s)).a] (fun _ G=>signed_ct (1:Int) l_1 l_1s hf2.dg),.st 0 (fun G=>.blk ((G1 0).b) (ca (DBig.mk (Bg.sg0 (Bg.nv l_1) (1:Int)) ⟨Bg.dig (Bg.nv l_1),(G 2).ss 0⟩)) 27)] fun _ _ G14 kw16=>?_;intro S_ s_
  obtain ⟨⟨kl6, -⟩, -⟩:Lq (Bg.dig (Bg.nv l_1)) (((G14 2).ss 0).v)∧True:=kq kw16;clear kw16;have e1:Bg.dig (Bg.nv l_1)=Bg.dig n.natAbs:=by rw [Bg.of_end hf2 q6]
  rw [←e1];have e0:(Bg.sg0 (Bg.nv l_1) (1:Int))=Bg.sgn n:=by rw [Bg.of_end hf2 q6];exact Bg.of_sgn rfl _ (by omega)
  exact V.rt [0] [(G14 2).ss 0] [fun _=>{}] [] [1] [] (ag (DBig.mk (Bg.sg0 (Bg.nv l_1) (1:Int)) ⟨Bg.dig (Bg.nv l_1),(G14 2).ss 0⟩)) (cong1 (fun (x0:Int)=>(.agg #[iv x0,((G14 2).ss 0).v]:Value)) e0)
theorem of_ctv (n:Int) (hn: -9223372036854775808≤n∧n≤9223372036854775807) (rv0:Int) (erv0:rv0=Bg.sgn n) (rv1:List Int) (erv1:rv1=Bg.dig n.natAbs) :
    Ct Tryz.prog 85 #[iv n] [] [] (fun g=>ag (DBig.mk rv0 ⟨rv1,(g.ss 0)⟩)) (fun g=>[fs true rv1 (g.ss 0)]) (fun g=>[]) (fun g=>[]):=by
  subst erv0 erv1;exact of_ct n hn

open Go Go.Proofs
set_option maxRecDepth 10000 in
theorem int_ct (d:Int) (c:List Int) (e:SV) :
    Cp Tryz.prog 116 #[ag (DBig.mk d ⟨c,e⟩)] [fs true c e] (.tuple #[iv (Bg.intV d c),bv (decide (Bg.inI d c))]):=by
  refine V.fn mo Tryz.func116 59 1 (by kernel_rfl) fun w H ε k0=>?_;obtain ⟨⟨kl1, -⟩, -⟩:Lq c e.v∧True:=kq k0
  clear k0;refine V.g [.nb 0 0 (fun b=>pp b 0) 27 (fun _=>ca (DBig.mk d ⟨c,e⟩)),.k (iv 0),.kb false] fun _ _ G1=>?_;intro S s
  refine nm ((!(decide (Bg.RtB d c))) || (decide (4 < (c.length:Int))):Bool) fun p1 hp1=>?_;refine V.g [.ld 0 0 true (fun _=>Dat.cells (DBig.mk d ⟨c,e⟩)),.cp g0 1 74 [(kf false (.f 0) c (fun _=>e)).a] (fun _ G=>bright_ct d c e),.k (bv (!(decide (Bg.RtB d c)))),.k (bv (!(decide (Bg.RtB d c)))),.k (pp ((G1 0).b) 1),.ld 0 1 false (fun _=>[e.v]),.ln (kf false (.f 0) c (fun _=>e)),.k (bv (decide (4 < (c.length:Int)))),.orn g0 false (!(decide (Bg.RtB d c))) (decide (4 < (c.length:Int))) p1 hp1] fun _ _ G2=>?_;intro S s
  refine V.cn (b:=p1) (iN hp1 (iOT (iNT iDF) iDT)) (iN hp1 (iOF (iNF iDT) iDF)) (fun q1=>?_) (fun q2=>?_)
  · have hNo:¬ Bg.inI d c:=by
      rcases q1 with h | h
      · exact fun hi=>h hi.1
      exact fun hi=>Bg.int_len hi.1 h hi
    refine V.g [.k (iv 0),.kb false] fun _ _ G3=>?_;intro S s
    have e0:(0:Int)=Bg.intV d c:=(Bg.intV_n hNo).symm;have e1:false=decide (Bg.inI d c):=(decide_eq_false hNo).symm;exact V.rt [0,0] [] [] [] [] [] (.tuple #[iv 0,bv false]) (cong2 (fun (x0:Int) (x1:Bool)=>(.tuple #[iv x0,bv x1]:Value)) e0 e1)
  have hRt:Bg.RtB d c:=by first | exact (q2).1 | exact Decidable.not_not.1 (q2).1
  have hzs:=Bg.zv_s hRt;refine V.g [.k (.int .u64 0)] fun _ _ G4=>?_;intro S s
  refine V.g [.k (pp ((G1 0).b) 1),.ld 0 1 false (fun _=>[e.v]),.ln (kf false (.f 0) c (fun _=>e)),.k (iv 0)] fun _ _ G5=>?_;intro S s
  refine V.loop (γ:=Int × Int) (fun ⟨u,k0⟩=>⟨[(1,pp ((G1 0).b) 0),(4,.int .u64 u),(17,e.v),(18,iv (c.length:Int)),(19,iv k0)],[fs false c e],[.blk ((G1 0).b) (ca (DBig.mk d ⟨c,e⟩)) 27]⟩) (fun ⟨u,k0⟩=>(0≤k0)∧(k0≤(c.length:Int))∧(u=(Bg.nv (c.take k0.toNat):Int))∧(u < 9223372036854775808 * 2)) (fun ⟨u,k0⟩=>((c.length:Int)-k0).toNat) (0,0) (by kernel_rfl) [0] (by kernel_rfl) ?_ ?_
  · refine ⟨?_,?_,?_,?_⟩
    · show 0≤(0:Int);omega
    · show (0:Int)≤(c.length:Int);omega
    · show (0:Int)=(Bg.nv (c.take (0:Int).toNat):Int);simp [Bg.nv]
    show (0:Int) < 9223372036854775808 * 2;omega
  rintro ⟨u,k0⟩ hF1 kw6 Z1 hZ1;have hF1:(0≤k0)∧(k0≤(c.length:Int))∧(u=(Bg.nv (c.take k0.toNat):Int))∧(u < 9223372036854775808 * 2):=hF1;obtain ⟨hf1,hf2,hf3,hf4⟩:=hF1;clear kw6;refine V.g [.k (bv (decide (k0 < (c.length:Int))))] fun _ _ G6=>?_;intro S s;refine V.cn (b:=decide (k0 < (c.length:Int))) iDT iDF (fun q3=>?_) (fun q4=>?_)
  · rcases (by omega:k0=0∨k0=1∨k0=2∨k0=3) with hcs1 | hcs2 | hcs3 | hcs4
    · refine V.alt (fun (zz:Int)=>(⟨[(1,pp ((G1 0).b) 0),(4,.int .u64 u),(17,e.v),(18,iv (c.length:Int)),(19,iv zz),(20,bv (decide (k0 < (c.length:Int))))],[fs false c e],[.blk ((G1 0).b) (ca (DBig.mk d ⟨c,e⟩)) 27]⟩:St)) hcs1 [0] (by kernel_rfl) ?_;refine nm (c.getD (0:Int).toNat default:Int) fun v1 hv1=>?_;refine V.g [.k (iv 0),.ix g0 (kf false (.f 0) c (fun _=>e)) 0 (fun _=>⟨by omega,by omega⟩),.le g0 (kf false (.f 0) c (fun _=>e)) (0:Int) none false v1 hv1 (fun _=>⟨by omega,by omega⟩) false (fun _=>[iv v1]),.k (iv 0),.k (iv v1)] fun _ _ G7=>?_;intro S s
      refine V.g [.k (iv 0),.kb false,.kb false,.dead,.dead,.kb false] fun _ _ G8=>?_;intro S s
      refine V.condF (by kernel_rfl) ?_;have huc:u=(Bg.nv (c.take 0):Int):=by rw [hf3,hcs1];rfl
      have hlt:=Bg.take_lt hRt.dg 0;have hst:=Bg.int_step (k:=0) (v:=v1) (by omega) hv1 hRt.dg;have hpw:(1048576:Nat) ^ 0=1:=by decide
      rw [hpw] at hst hlt;have hst0:=hst.2;have hst1:Bg.nv (c.take 1)=_:=hst.1;refine nm (v1 % 18446744073709551616:Int) fun n1 hn1=>?_;refine nm (n1 * 1:Int) fun n2 hn2=>?_;refine nm (u+n2:Int) fun n3 hn3=>?_;refine V.g [.k (.int .u64 u),.k (iv v1),.ek g0 .u64 v1 n1 (fun _=>by rw [wrapU64,hn1]),.k (iv 0),.k (iv 0),.shlm g0 .u64 .i64 n1 0 n2 0 (fun _=>⟨rfl,by decide,by show _=IntKind.u64.wrap (n1 * 1);rw [wrapU64];omega⟩),.oru g0 u n2 n1 n3 0 (by rw [hn2];rfl) (fun _=>⟨by decide,by omega,⟨by omega,by show _ < (1:Int);omega⟩,by rw [hn3,hn2];show _=_ * (1:Int)+_;omega,by omega⟩),.k (.int .u64 n3)] fun _ _ G9=>?_;intro S s
      refine V.g [.k (iv 1),.k (iv 1)] fun _ _ G10=>?_;intro S s
      refine V.rnd hZ1 (n3,1) [0] (by kernel_rfl) ?_ ?_
      · refine ⟨?_,?_,?_,?_⟩
        · show 0≤(1:Int);omega
        · show (1:Int)≤(c.length:Int);omega
        · show n3=(Bg.nv (c.take (1:Int).toNat):Int);show n3=(Bg.nv (c.take 1):Int);rw [hst1,hn3,hn2];omega
        show n3 < 9223372036854775808 * 2;omega
      show ((c.length:Int)-(1:Int)).toNat < ((c.length:Int)-k0).toNat;omega
    · refine V.alt (fun (zz:Int)=>(⟨[(1,pp ((G1 0).b) 0),(4,.int .u64 u),(17,e.v),(18,iv (c.length:Int)),(19,iv zz),(20,bv (decide (k0 < (c.length:Int))))],[fs false c e],[.blk ((G1 0).b) (ca (DBig.mk d ⟨c,e⟩)) 27]⟩:St)) hcs2 [0] (by kernel_rfl) ?_;refine nm (c.getD (1:Int).toNat default:Int) fun v2 hv2=>?_;refine V.g [.k (iv 1),.ix g0 (kf false (.f 0) c (fun _=>e)) 1 (fun _=>⟨by omega,by omega⟩),.le g0 (kf false (.f 0) c (fun _=>e)) (1:Int) none false v2 hv2 (fun _=>⟨by omega,by omega⟩) false (fun _=>[iv v2]),.k (iv 1),.k (iv v2)] fun _ _ G11=>?_;intro S s
      refine V.g [.k (iv 1),.kb false,.kb false,.dead,.dead,.kb false] fun _ _ G12=>?_;intro S s
      refine V.condF (by kernel_rfl) ?_;have huc:u=(Bg.nv (c.take 1):Int):=by rw [hf3,hcs2];rfl
      have hlt:=Bg.take_lt hRt.dg 1;have hst:=Bg.int_step (k:=1) (v:=v2) (by omega) hv2 hRt.dg;have hpw:(1048576:Nat) ^ 1=1048576:=by decide
      rw [hpw] at hst hlt;have hst0:=hst.2;have hst1:Bg.nv (c.take 2)=_:=hst.1;refine nm (v2 % 18446744073709551616:Int) fun n4 hn4=>?_;refine nm (n4 * 1048576:Int) fun n5 hn5=>?_;refine nm (u+n5:Int) fun n6 hn6=>?_;refine V.g [.k (.int .u64 u),.k (iv v2),.ek g0 .u64 v2 n4 (fun _=>by rw [wrapU64,hn4]),.k (iv 1),.k (iv 20),.shlm g0 .u64 .i64 n4 20 n5 20 (fun _=>⟨rfl,by decide,by show _=IntKind.u64.wrap (n4 * 1048576);rw [wrapU64];omega⟩),.oru g0 u n5 n4 n6 20 (by rw [hn5];rfl) (fun _=>⟨by decide,by omega,⟨by omega,by show _ < (1048576:Int);omega⟩,by rw [hn6,hn5];show _=_ * (1048576:Int)+_;omega,by omega⟩),.k (.int .u64 n6)] fun _ _ G13=>?_;intro S s
      refine V.g [.k (iv 2),.k (iv 2)] fun _ _ G14=>?_;intro S s
      refine V.rnd hZ1 (n6,2) [0] (by kernel_rfl) ?_ ?_
      · refine ⟨?_,?_,?_,?_⟩
        · show 0≤(2:Int);omega
        · show (2:Int)≤(c.length:Int);omega
        · show n6=(Bg.nv (c.take (2:Int).toNat):Int);show n6=(Bg.nv (c.take 2):Int);rw [hst1,hn6,hn5];omega
        show n6 < 9223372036854775808 * 2;omega
      show ((c.length:Int)-(2:Int)).toNat < ((c.length:Int)-k0).toNat;omega
    · refine V.alt (fun (zz:Int)=>(⟨[(1,pp ((G1 0).b) 0),(4,.int .u64 u),(17,e.v),(18,iv (c.length:Int)),(19,iv zz),(20,bv (decide (k0 < (c.length:Int))))],[fs false c e],[.blk ((G1 0).b) (ca (DBig.mk d ⟨c,e⟩)) 27]⟩:St)) hcs3 [0] (by kernel_rfl) ?_;refine nm (c.getD (2:Int).toNat default:Int) fun v3 hv3=>?_;refine V.g [.k (iv 2),.ix g0 (kf false (.f 0) c (fun _=>e)) 2 (fun _=>⟨by omega,by omega⟩),.le g0 (kf false (.f 0) c (fun _=>e)) (2:Int) none false v3 hv3 (fun _=>⟨by omega,by omega⟩) false (fun _=>[iv v3]),.k (iv 2),.k (iv v3)] fun _ _ G15=>?_;intro S s
      refine V.g [.k (iv 2),.kb false,.kb false,.dead,.dead,.kb false] fun _ _ G16=>?_;intro S s
      refine V.condF (by kernel_rfl) ?_;have huc:u=(Bg.nv (c.take 2):Int):=by rw [hf3,hcs3];rfl
      have hlt:=Bg.take_lt hRt.dg 2;have hst:=Bg.int_step (k:=2) (v:=v3) (by omega) hv3 hRt.dg;have hpw:(1048576:Nat) ^ 2=1099511627776:=by decide
      rw [hpw] at hst hlt;have hst0:=hst.2;have hst1:Bg.nv (c.take 3)=_:=hst.1;refine nm (v3 % 18446744073709551616:Int) fun n7 hn7=>?_;refine nm (n7 * 1099511627776:Int) fun n8 hn8=>?_;refine nm (u+n8:Int) fun n9 hn9=>?_;refine V.g [.k (.int .u64 u),.k (iv v3),.ek g0 .u64 v3 n7 (fun _=>by rw [wrapU64,hn7]),.k (iv 2),.k (iv 40),.shlm g0 .u64 .i64 n7 40 n8 40 (fun _=>⟨rfl,by decide,by show _=IntKind.u64.wrap (n7 * 1099511627776);rw [wrapU64];omega⟩),.oru g0 u n8 n7 n9 40 (by rw [hn8];rfl) (fun _=>⟨by decide,by omega,⟨by omega,by show _ < (1099511627776:Int);omega⟩,by rw [hn9,hn8];show _=_ * (1099511627776:Int)+_;omega,by omega⟩),.k (.int .u64 n9)] fun _ _ G17=>?_;intro S s
      refine V.g [.k (iv 3),.k (iv 3)] fun _ _ G18=>?_;intro S s
      refine V.rnd hZ1 (n9,3) [0] (by kernel_rfl) ?_ ?_
      · refine ⟨?_,?_,?_,?_⟩
        · show 0≤(3:Int);omega
        · show (3:Int)≤(c.length:Int);omega
        · show n9=(Bg.nv (c.take (3:Int).toNat):Int);show n9=(Bg.nv (c.take 3):Int);rw [hst1,hn9,hn8];omega
        show n9 < 9223372036854775808 * 2;omega
      show ((c.length:Int)-(3:Int)).toNat < ((c.length:Int)-k0).toNat;omega
    refine V.alt (fun (zz:Int)=>(⟨[(1,pp ((G1 0).b) 0),(4,.int .u64 u),(17,e.v),(18,iv (c.length:Int)),(19,iv zz),(20,bv (decide (k0 < (c.length:Int))))],[fs false c e],[.blk ((G1 0).b) (ca (DBig.mk d ⟨c,e⟩)) 27]⟩:St)) hcs4 [0] (by kernel_rfl) ?_;refine nm (c.getD (3:Int).toNat default:Int) fun v4 hv4=>?_;refine V.g [.k (iv 3),.ix g0 (kf false (.f 0) c (fun _=>e)) 3 (fun _=>⟨by omega,by omega⟩),.le g0 (kf false (.f 0) c (fun _=>e)) (3:Int) none false v4 hv4 (fun _=>⟨by omega,by omega⟩) false (fun _=>[iv v4]),.k (iv 3),.k (iv v4)] fun _ _ G19=>?_;intro S s
    refine V.g [.k (iv 3),.kb true,.kb true,.k (iv v4),.k (bv (decide (8 < v4))),.k (bv (decide (8 < v4)))] fun _ _ G20=>?_;intro S s
    refine V.cn (b:=decide (8 < v4)) iDT iDF (fun q5=>?_) (fun q6=>?_)
    · have hNo:=Bg.int_top hRt (by omega) hv4 (by omega);refine V.g [.k (iv 0),.kb false] fun _ _ G21=>?_;intro S s
      have e0:(0:Int)=Bg.intV d c:=(Bg.intV_n hNo).symm;have e1:false=decide (Bg.inI d c):=(decide_eq_false hNo).symm;exact V.rt [0,0] [] [] [] [] [] (.tuple #[iv 0,bv false]) (cong2 (fun (x0:Int) (x1:Bool)=>(.tuple #[iv x0,bv x1]:Value)) e0 e1)
    have huc:u=(Bg.nv (c.take 3):Int):=by rw [hf3,hcs4];rfl
    have hlt:=Bg.take_lt hRt.dg 3;have hst:=Bg.int_step (k:=3) (v:=v4) (by omega) hv4 hRt.dg;have hpw:(1048576:Nat) ^ 3=1152921504606846976:=by decide
    rw [hpw] at hst hlt;have hst0:=hst.2;have hst1:Bg.nv (c.take 4)=_:=hst.1;refine nm (v4 % 18446744073709551616:Int) fun n10 hn10=>?_;refine nm (n10 * 1152921504606846976:Int) fun n11 hn11=>?_;refine nm (u+n11:Int) fun n12 hn12=>?_;refine V.g [.k (.int .u64 u),.k (iv v4),.ek g0 .u64 v4 n10 (fun _=>by rw [wrapU64,hn10]),.k (iv 3),.k (iv 60),.shlm g0 .u64 .i64 n10 60 n11 60 (fun _=>⟨rfl,by decide,by show _=IntKind.u64.wrap (n10 * 1152921504606846976);rw [wrapU64];omega⟩),.oru g0 u n11 n10 n12 60 (by rw [hn11];rfl) (fun _=>⟨by decide,by omega,⟨by omega,by show _ < (1152921504606846976:Int);omega⟩,by rw [hn12,hn11];show _=_ * (1152921504606846976:Int)+_;omega,by omega⟩),.k (.int .u64 n12)] fun _ _ G22=>?_;intro S s
    refine V.g [.k (iv 4),.k (iv 4)] fun _ _ G23=>?_;intro S s
    refine V.rnd hZ1 (n12,4) [0] (by kernel_rfl) ?_ ?_
    · refine ⟨?_,?_,?_,?_⟩
      · show 0≤(4:Int);omega
      · show (4:Int)≤(c.length:Int);omega
      · show n12=(Bg.nv (c.take (4:Int).toNat):Int);show n12=(Bg.nv (c.take 4):Int);rw [hst1,hn12,hn11];omega
      show n12 < 9223372036854775808 * 2;omega
    show ((c.length:Int)-(4:Int)).toNat < ((c.length:Int)-k0).toNat;omega
  have hall:u=(Bg.nv c:Int):=by rw [hf3,List.take_of_length_le (by omega)]
  refine nm ((decide (d < 0)) && (decide (u≤9223372036854775808)):Bool) fun p2 hp2=>?_;refine V.g [.k (pp ((G1 0).b) 0),.ld 0 0 false (fun _=>[iv d]),.k (bv (decide (d < 0))),.k (bv (decide (d < 0))),.k (.int .u64 u),.k (bv (decide (u≤9223372036854775808))),.andn g0 false (decide (d < 0)) (decide (u≤9223372036854775808)) p2 hp2,.k (bv p2)] fun _ _ G24=>?_;intro S s
  refine V.cn (b:=p2) (iN hp2 (iAT iDT iDT)) (iN hp2 (iAF iDF iDF)) (fun q7=>?_) (fun q8=>?_)
  · have hYes:Bg.inI d c:=⟨hRt,by omega⟩;refine nm ((0-u) % 18446744073709551616:Int) fun n13 hn13=>?_;refine V.g [.k (.int .u64 u),.ek g0 .u64 (0-u) n13 (fun _=>by rw [wrapU64,hn13]),.ek g0 .i64 n13 (-u) (fun _=>by rw [IntKind.wrap_i64];omega),.k (iv (-u)),.kb true] fun _ _ G25=>?_;intro S s
    have e0:(-u)=Bg.intV d c:=by rw [Bg.intV_y hYes];omega
    have e1:true=decide (Bg.inI d c):=(decide_eq_true hYes).symm;exact V.rt [0,0] [] [] [] [] [] (.tuple #[iv (-u),bv true]) (cong2 (fun (x0:Int) (x1:Bool)=>(.tuple #[iv x0,bv x1]:Value)) e0 e1)
  refine nm ((decide (0≤d)) && (decide (u < 9223372036854775808)):Bool) fun p3 hp3=>?_;refine V.g [.k (pp ((G1 0).b) 0),.ld 0 0 false (fun _=>[iv d]),.k (bv (decide (0≤d))),.k (bv (decide (0≤d))),.k (.int .u64 u),.k (bv (decide (u < 9223372036854775808))),.andn g0 false (decide (0≤d)) (decide (u < 9223372036854775808)) p3 hp3,.k (bv p3)] fun _ _ G26=>?_;intro S s
  refine V.cn (b:=p3) (iN hp3 (iAT iDT iDT)) (iN hp3 (iAF iDF iDF)) (fun q9=>?_) (fun q10=>?_)
  · have hYes:Bg.inI d c:=⟨hRt,by omega⟩;refine V.g [.k (.int .u64 u),.ek g0 .i64 u u (fun _=>by rw [IntKind.wrap_i64];omega),.k (iv u),.kb true] fun _ _ G27=>?_;intro S s
    have e0:u=Bg.intV d c:=by rw [Bg.intV_y hYes];omega
    have e1:true=decide (Bg.inI d c):=(decide_eq_true hYes).symm;exact V.rt [0,0] [] [] [] [] [] (.tuple #[iv u,bv true]) (cong2 (fun (x0:Int) (x1:Bool)=>(.tuple #[iv x0,bv x1]:Value)) e0 e1)
  have hNo:¬ Bg.inI d c:=fun hi=>by have:=hi.2;omega
  refine V.g [.k (iv 0),.kb false] fun _ _ G28=>?_;intro S s
  have e0:(0:Int)=Bg.intV d c:=(Bg.intV_n hNo).symm;have e1:false=decide (Bg.inI d c):=(decide_eq_false hNo).symm;exact V.rt [0,0] [] [] [] [] [] (.tuple #[iv 0,bv false]) (cong2 (fun (x0:Int) (x1:Bool)=>(.tuple #[iv x0,bv x1]:Value)) e0 e1)
theorem int_ctv (b:Int) (a:List Int) (c:SV) (rv0:Int) (erv0:rv0=Bg.intV b a) :
    Cp Tryz.prog 116 #[ag (DBig.mk b ⟨a,c⟩)] [fs true a c] (.tuple #[iv rv0,bv (decide (Bg.inI b a))]):=by
  subst erv0;exact int_ct b a c 

open Go Go.Proofs
set_option maxRecDepth 10000 in
theorem cmpd_ct (a:List Int) (as_:SV) (b:List Int) (bs:SV) (hda:Bg.Dg a) (hdb:Bg.Dg b) (hza:Bg.Nz a) (hzb:Bg.Nz b) :
    Cp Tryz.prog 126 #[as_.v,bs.v] [fs true a as_,fs true b bs] (iv (Bg.cmpI (Bg.nv a) (Bg.nv b))):=by
  refine V.fn mo Tryz.func126 41 0 (by kernel_rfl) fun w H ε k0=>?_;obtain ⟨⟨kl1, -⟩,⟨kl2, -⟩, -⟩:Lq a as_.v∧Lq b bs.v∧True:=kq k0
  clear k0;refine V.g [.k (iv 0)] fun _ _ G1=>?_;intro S s
  refine V.g [.k (as_.v),.ln (kf false (.f 0) a (fun _=>as_)),.k (bs.v),.ln (kf false (.f 1) b (fun _=>bs)),.k (bv (!(decide ((a.length:Int)=(b.length:Int)))))] fun _ _ G2=>?_;intro S s
  refine V.cn (b:=!(decide ((a.length:Int)=(b.length:Int)))) (iNT iDF) (iNF iDT) (fun q1=>?_) (fun q2=>?_)
  · refine V.g [.k (as_.v),.ln (kf false (.f 0) a (fun _=>as_)),.k (bs.v),.ln (kf false (.f 1) b (fun _=>bs)),.cp g0 4 147 [] (fun _ G=>cmp_ct (a.length:Int) (b.length:Int)),.k (iv (Bg.cmpI (a.length:Int) (b.length:Int)))] fun _ _ G3=>?_;intro S s
    have e0:(Bg.cmpI (a.length:Int) (b.length:Int))=Bg.cmpI (Bg.nv a) (Bg.nv b):=Bg.cmp_lens hda hdb hza hzb q1;exact V.rt [0] [] [] [] [] [] (iv (Bg.cmpI (a.length:Int) (b.length:Int))) (cong1 (fun (x0:Int)=>(iv x0:Value)) e0)
  refine nm ((a.length:Int)-1:Int) fun n1 hn1=>?_;refine V.g [.k (as_.v),.ln (kf false (.f 0) a (fun _=>as_)),.ar ((a.length:Int)-1) n1 hn1 (by omega) (by omega),.k (iv n1)] fun _ _ G4=>?_;intro S s
  refine V.loop (γ:=Int) (fun i=>⟨[(0,as_.v),(1,bs.v),(5,iv i)],[fs false a as_,fs false b bs],[]⟩) (fun i=>(-1≤i)∧(i < (a.length:Int))∧(a.drop (i+1).toNat=b.drop (i+1).toNat)) (fun i=>(i+1).toNat) n1 (by kernel_rfl) [0,1] (by kernel_rfl) ?_ ?_
  · refine ⟨?_,?_,?_⟩
    · show -1≤n1;omega
    · show n1 < (a.length:Int);omega
    show a.drop (n1+1).toNat=b.drop (n1+1).toNat;rw [List.drop_of_length_le (by omega),List.drop_of_length_le (by omega)]
  rintro i hF1 kw5 Z1 hZ1;have hF1:(-1≤i)∧(i < (a.length:Int))∧(a.drop (i+1).toNat=b.drop (i+1).toNat):=hF1;obtain ⟨hf1,hf2,hf3⟩:=hF1;clear kw5;refine V.g [.k (iv i),.k (bv (decide (0≤i)))] fun _ _ G5=>?_;intro S s;refine V.cn (b:=decide (0≤i)) iDT iDF (fun q3=>?_) (fun q4=>?_)
  · refine nm (a.getD i.toNat default:Int) fun v1 hv1=>?_;refine nm (b.getD i.toNat default:Int) fun v2 hv2=>?_;refine V.g [.k (as_.v),.k (iv i),.ix g0 (kf false (.f 0) a (fun _=>as_)) i (fun _=>⟨by omega,by omega⟩),.le g0 (kf false (.f 0) a (fun _=>as_)) i none false v1 hv1 (fun _=>⟨by omega,by omega⟩) false (fun _=>[iv v1]),.k (bs.v),.k (iv i),.ix g0 (kf false (.f 1) b (fun _=>bs)) i (fun _=>⟨by omega,by omega⟩),.le g0 (kf false (.f 1) b (fun _=>bs)) i none false v2 hv2 (fun _=>⟨by omega,by omega⟩) false (fun _=>[iv v2]),.k (bv (!(decide (v1=v2))))] fun _ _ G6=>?_;intro S s
    refine V.cn (b:=!(decide (v1=v2))) (iNT iDF) (iNF iDT) (fun q5=>?_) (fun q6=>?_)
    · refine V.g [.k (as_.v),.k (iv i),.ix g0 (kf false (.f 0) a (fun _=>as_)) i (fun _=>⟨by omega,by omega⟩),.le g0 (kf false (.f 0) a (fun _=>as_)) i none false v1 hv1 (fun _=>⟨by omega,by omega⟩) false (fun _=>[iv v1]),.k (bs.v),.k (iv i),.ix g0 (kf false (.f 1) b (fun _=>bs)) i (fun _=>⟨by omega,by omega⟩),.le g0 (kf false (.f 1) b (fun _=>bs)) i none false v2 hv2 (fun _=>⟨by omega,by omega⟩) false (fun _=>[iv v2]),.cp g0 8 147 [] (fun _ G=>cmp_ct v1 v2),.k (iv (Bg.cmpI v1 v2))] fun _ _ G7=>?_;intro S s
      have e0:(Bg.cmpI v1 v2)=Bg.cmpI (Bg.nv a) (Bg.nv b):=by rw [hv1,hv2];exact Bg.cmp_ne (i:=i.toNat) hda hdb (by omega) (by omega) (by rw [show i.toNat+1=(i+1).toNat by omega];exact hf3) (by have hne:=q5;rw [hv1,hv2] at hne;exact hne)
      exact V.rt [0] [] [] [] [] [] (iv (Bg.cmpI v1 v2)) (cong1 (fun (x0:Int)=>(iv x0:Value)) e0)
    refine V.g [.k (iv i),.a (i-1) (by omega) (by omega),.k (iv (i-1))] fun _ _ G8=>?_;intro S s
    refine V.rnd hZ1 (i-1) [0,1] (by kernel_rfl) ?_ ?_
    · refine ⟨?_,?_,?_⟩
      · show -1≤(i-1);omega
      · show (i-1) < (a.length:Int);omega
      show a.drop ((i-1)+1).toNat=b.drop ((i-1)+1).toNat;rw [show (i-1+1).toNat=i.toNat by omega];exact Bg.drop_eq (by omega) (by omega) (by rw [show i.toNat+1=(i+1).toNat by omega];exact hf3) (by have he:=q6;rw [hv1,hv2] at he;exact he)
    show ((i-1)+1).toNat < (i+1).toNat;omega
  refine V.g [.k (iv 0)] fun _ _ G9=>?_;intro S s
  have e0:(0:Int)=Bg.cmpI (Bg.nv a) (Bg.nv b):=by
    have hdr:=hf3;rw [show (i+1).toNat=0 by omega,List.drop_zero,List.drop_zero] at hdr;rw [hdr];unfold Bg.cmpI;rw [if_neg (by omega),if_pos rfl]
  exact V.rt [0] [] [] [] [] [] (iv 0) (cong1 (fun (x0:Int)=>(iv x0:Value)) e0)
set_option maxRecDepth 10000 in
theorem neg_ct (d:Int) (c:List Int) (e:SV) (hcl:c.length≤1099511627776) :
    Ct Tryz.prog 84 #[ag (DBig.mk d ⟨c,e⟩)] [fs true c e] [] (fun g=>ag (DBig.mk (Bg.oS (Bg.RtB d c) (-Bg.zv d c)) ⟨Bg.oD (Bg.RtB d c) (-Bg.zv d c),(g.ss 0)⟩)) (fun g=>[fs true (Bg.oD (Bg.RtB d c) (-Bg.zv d c)) (g.ss 0)]) (fun g=>[]) (fun g=>[]):=by
  refine V.fn mo Tryz.func84 14 2 (by kernel_rfl) fun w H ε k0=>?_;obtain ⟨⟨kl1, -⟩, -⟩:Lq c e.v∧True:=kq k0
  clear k0;refine V.g [.nb 0 0 (fun b=>pp b 0) 27 (fun _=>ca (DBig.mk d ⟨c,e⟩)),.nb 1 1 (fun b=>pp b 0) 27 (fun _=>ca (DBig.mk 0 ⟨[],{}⟩))] fun _ _ G1=>?_;intro S s
  refine V.g [.ld 0 0 true (fun _=>Dat.cells (DBig.mk d ⟨c,e⟩)),.cp g0 1 74 [(kf false (.f 0) c (fun _=>e)).a] (fun _ G=>bright_ct d c e),.k (bv (!(decide (Bg.RtB d c))))] fun _ _ G2=>?_;intro S s
  refine V.cn (b:=!(decide (Bg.RtB d c))) (iNT iDF) (iNF iDT) (fun q1=>?_) (fun q2=>?_)
  · refine V.g [.k (ag (DBig.mk 0 ⟨[],{}⟩)),.st 1 (fun _=>.blk ((G1 1).b) (ca (DBig.mk 0 ⟨[],{}⟩)) 27)] fun _ _ G3=>?_;intro S s
    refine V.nilF (α:=Int) ?_;have e1:([]:List Int)=Bg.oD (Bg.RtB d c) (-Bg.zv d c):=(Bg.oD_n q1 _).symm;rw [←e1];have e0:(0:Int)=Bg.oS (Bg.RtB d c) (-Bg.zv d c):=(Bg.oS_n q1 _).symm;exact V.rt [1] [{}] [fun _=>{}] [] [1] [] (ag (DBig.mk 0 ⟨([]:List Int),{}⟩)) (cong1 (fun (x0:Int)=>(.agg #[iv x0,SV.v ({})]:Value)) e0)
  have hRt:Bg.RtB d c:=by first | exact q2 | exact Decidable.not_not.1 q2
  have hsB:=Bg.sg_le hRt;refine V.r [.k (pp ((G1 0).b) 0),.ld 0 0 false (fun _=>[iv d]),.ng d (-d) rfl (by omega) (by omega),.k (pp ((G1 0).b) 1),.ld 0 1 false (fun _=>[e.v]),.ct g0 5 113 false [] [] [(kf false (.f 0) c (fun _=>e)).a] (fun _ G=>clonef_ct c e (by omega)),.ctT g0 6 115 [(kf true (.g 5 0) c (fun G=>(G 5).ss 0)).a] (fun _ G=>signed_ct (-d) c ((G 5).ss 0) hRt.dg),.st 1 (fun G=>.blk ((G1 1).b) (ca (DBig.mk (Bg.sg0 (Bg.nv c) (-d)) ⟨Bg.dig (Bg.nv c),(G 6).ss 0⟩)) 27)] fun _ _ G4 kw4=>?_;intro S s
  obtain ⟨⟨kl2, -⟩,⟨kl3, -⟩, -⟩:Lq c (((G4 5).ss 0).v)∧Lq (Bg.dig (Bg.nv c)) (((G4 6).ss 0).v)∧True:=kq kw4;clear kw4;have e1:Bg.dig (Bg.nv c)=Bg.oD (Bg.RtB d c) (-Bg.zv d c):=by rw [Bg.oD_y hRt];exact Bg.neg_d hRt
  rw [←e1];have e0:(Bg.sg0 (Bg.nv c) (-d))=Bg.oS (Bg.RtB d c) (-Bg.zv d c):=by rw [Bg.oS_y hRt];exact Bg.neg_s hRt
  exact V.rt [1] [(G4 6).ss 0] [fun _=>{}] [] [2] [] (ag (DBig.mk (Bg.sg0 (Bg.nv c) (-d)) ⟨Bg.dig (Bg.nv c),(G4 6).ss 0⟩)) (cong1 (fun (x0:Int)=>(.agg #[iv x0,((G4 6).ss 0).v]:Value)) e0)
theorem neg_ctv (b:Int) (a:List Int) (c:SV) (hcl:a.length≤1099511627776) (rv0:Int) (erv0:rv0=Bg.oS (Bg.RtB b a) (-Bg.zv b a)) (rv1:List Int) (erv1:rv1=Bg.oD (Bg.RtB b a) (-Bg.zv b a)) :
    Ct Tryz.prog 84 #[ag (DBig.mk b ⟨a,c⟩)] [fs true a c] [] (fun g=>ag (DBig.mk rv0 ⟨rv1,(g.ss 0)⟩)) (fun g=>[fs true rv1 (g.ss 0)]) (fun g=>[]) (fun g=>[]):=by
  subst erv0 erv1;exact neg_ct b a c hcl

open Go Go.Proofs
set_option maxRecDepth 10000 in
theorem add_ct (a:List Int) (as_:SV) (b:List Int) (bs:SV) (hda:Bg.Dg a) (hdb:Bg.Dg b) (hla:a.length≤1099511627776) (hlb:b.length≤1099511627776) :
    Ct Tryz.prog 125 #[as_.v,bs.v] [fs true a as_,fs true b bs] [] (fun g=>((g.ss 0)).v) (fun g=>[fs true (Bg.dig (Bg.nv a+Bg.nv b)) (g.ss 0)]) (fun g=>[]) (fun g=>[]):=by
  refine V.fn mo Tryz.func125 55 1 (by kernel_rfl) fun w H ε k0=>?_;obtain ⟨⟨kl1, -⟩,⟨kl2, -⟩, -⟩:Lq a as_.v∧Lq b bs.v∧True:=kq k0
  clear k0;refine V.g [.k (.slice none 0 0)] fun _ _ G1=>?_;intro S_ s_
  refine V.g [.k (as_.v),.ln (kf false (.f 0) a (fun _=>as_)),.k (bs.v),.ln (kf false (.f 1) b (fun _=>bs)),.k (bv (decide ((a.length:Int) < (b.length:Int))))] fun _ _ G2=>?_;intro S_ s_
  refine V.cn (b:=decide ((a.length:Int) < (b.length:Int))) iDT iDF (fun q1=>?_) (fun q2=>?_)
  · refine V.g [.k (bs.v),.k (as_.v),.k (bs.v),.k (as_.v)] fun _ _ G3=>?_;intro S_ s_
    refine nm ((b.length:Int)+1:Int) fun n1 hn1=>?_;refine nm (List.replicate n1.toNat (0:Int):List Int) fun l1 hl1=>?_;have hl1n:=congrArg List.length hl1;try simp only [List.length_append,List.length_cons,List.length_nil,List.length_replicate,List.length_set,List.length_take,List.length_drop,List.length_map,List.length_reverse,List.length_range] at hl1n
    refine V.g [.k (bs.v),.ln (kf false (.f 1) b (fun _=>bs)),.ar ((b.length:Int)+1) n1 hn1 (by omega) (by omega),.mks 3 0 3 8 n1 l1 hl1 (by omega) (by omega) (by omega),.v fun G=>((G 3).s).v] fun _ _ G4=>?_;intro S_ s_
    refine V.g [.k (iv 0)] fun _ _ G5=>?_;intro S_ s_
    refine V.g [.k (bs.v),.ln (kf false (.f 1) b (fun _=>bs)),.k (iv 0)] fun _ _ G6=>?_;intro S_ s_
    refine V.loop (γ:=List Int × SV × Int × Int) (fun ⟨out,outs,carry,k0⟩=>⟨[(0,bs.v),(1,as_.v),(5,outs.v),(6,iv carry),(20,bs.v),(21,iv (b.length:Int)),(22,iv k0)],[fs false b bs,fs false a as_],[os true 3 out outs]⟩) (fun ⟨out,outs,carry,k0⟩=>(0≤k0)∧(k0≤(b.length:Int))∧(Bg.AddI b a out k0.toNat carry)) (fun ⟨out,outs,carry,k0⟩=>((b.length:Int)-k0).toNat) (l1,(G4 3).s,0,0) (by kernel_rfl) [1,0] (by kernel_rfl) ?_ ?_
    · refine ⟨?_,?_,?_⟩
      · show 0≤(0:Int)
        first | omega | rfl | (simp;done) | (subst_vars;simp;done)
      · show (0:Int)≤(b.length:Int)
        first | omega | rfl | (simp;done) | (subst_vars;simp;done)
      show Bg.AddI b a l1 (0:Int).toNat (0:Int);rw [hl1,show n1.toNat=b.length+1 by omega];exact Bg.add_start _ _
    rintro ⟨out,outs,carry,k0⟩ hF1 kw7 Z1 hZ1;have hF1:(0≤k0)∧(k0≤(b.length:Int))∧(Bg.AddI b a out k0.toNat carry):=hF1;obtain ⟨hf1,hf2,hf3⟩:=hF1;obtain ⟨-, -,⟨kl3, -⟩, -⟩:Lq b bs.v∧Lq a as_.v∧Lq out outs.v∧True:=kq kw7;clear kw7;have hol:=hf3.len;have hc0:=hf3.c0;have hda_:=hdb.get' k0.toNat;have hdb_:=hda.get' k0.toNat;refine V.g [.k (bv (decide (k0 < (b.length:Int))))] fun _ _ G7=>?_;intro S_ s_;refine V.cn (b:=decide (k0 < (b.length:Int))) iDT iDF (fun q3=>?_) (fun q4=>?_)
    · refine nm (b.getD k0.toNat default:Int) fun v1 hv1=>?_;refine V.g [.k (iv k0),.ix g0 (kf false (.f 0) b (fun _=>bs)) k0 (fun _=>⟨by omega,by omega⟩),.le g0 (kf false (.f 0) b (fun _=>bs)) k0 none false v1 hv1 (fun _=>⟨by omega,by omega⟩) false (fun _=>[iv v1]),.k (iv k0),.k (iv v1)] fun _ _ G8=>?_;intro S_ s_
      have e1:b.getD k0.toNat 0=v1:=hv1.symm;refine V.g [.k (iv carry),.k (iv v1),.a (carry+v1) (by omega) (by omega),.k (iv (carry+v1))] fun _ _ G9=>?_;intro S_ s_
      refine V.g [.k (iv k0),.k (as_.v),.ln (kf false (.f 1) a (fun _=>as_)),.k (bv (decide (k0 < (a.length:Int))))] fun _ _ G10=>?_;intro S_ s_
      refine V.cn (b:=decide (k0 < (a.length:Int))) iDT iDF (fun q5=>?_) (fun q6=>?_)
      · refine nm (a.getD k0.toNat default:Int) fun v2 hv2=>?_;refine nm (carry+v1+v2:Int) fun n2 hn2=>?_;have e2:a.getD k0.toNat 0=v2:=hv2.symm
        refine V.g [.k (iv (carry+v1)),.k (as_.v),.k (iv k0),.ix g0 (kf false (.f 1) a (fun _=>as_)) k0 (fun _=>⟨by omega,by omega⟩),.le g0 (kf false (.f 1) a (fun _=>as_)) k0 none false v2 hv2 (fun _=>⟨by omega,by omega⟩) false (fun _=>[iv v2]),.ar (carry+v1+v2) n2 hn2 (by omega) (by omega),.k (iv n2)] fun _ _ G11=>?_;intro S_ s_
        have hxx:n2=carry+b.getD k0.toNat 0+a.getD k0.toNat 0:=by omega
        refine nm (n2 % 1048576:Int) fun n3 hn3=>?_;refine nm (out.getD k0.toNat default:Int) fun v3 hv3=>?_;refine nm (out.set k0.toNat n3:List Int) fun l2 hl2=>?_;have hl2n:=congrArg List.length hl2;try simp only [List.length_append,List.length_cons,List.length_nil,List.length_replicate,List.length_set,List.length_take,List.length_drop,List.length_map,List.length_reverse,List.length_range] at hl2n
        refine V.g [.k (outs.v),.k (iv k0),.k (iv n2),.andm g0 n2 1048575 n3 20 (by decide) rfl (by rw [hn3];rfl),.ix g0 (ko true 3 0 out (fun _=>outs)) k0 (fun _=>⟨by omega,by omega⟩),.se g0 5 0 3 true out (fun _=>outs) k0 none v3 n3 hv3 true l2 hl2 (fun _=>⟨by omega,by omega⟩) (fun _=>rfl) [] (fun _ _ _ _=>trivial)] fun _ _ G12=>?_;intro S_ s_
        refine nm (n2 / 1048576:Int) fun n4 hn4=>?_;refine V.g [.k (iv n2),.shrm g0 .i64 .u64 n2 n4 20 (by decide) (by rw [hn4];rfl),.k (iv n4)] fun _ _ G13=>?_;intro S_ s_
        refine V.g [.a (k0+1) (by omega) (by omega),.k (iv (k0+1))] fun _ _ G14=>?_;intro S_ s_
        refine V.rnd hZ1 (l2,outs,n4,k0+1) [0,1] (by kernel_rfl) ?_ ?_
        · refine ⟨?_,?_,?_⟩
          · show 0≤(k0+1)
            first | omega | rfl | (simp;done) | (subst_vars;simp;done)
          · show (k0+1)≤(b.length:Int)
            first | omega | rfl | (simp;done) | (subst_vars;simp;done)
          show Bg.AddI b a l2 (k0+1).toNat n4;rw [hl2,hn3,hn4,show (k0+1).toNat=k0.toNat+1 by omega];exact Bg.add_step hf3 hdb hda (by omega) hxx
        show ((b.length:Int)-(k0+1)).toNat < ((b.length:Int)-k0).toNat;omega
      have e2:=Bg.getD_out (l:=a) (i:=k0.toNat) (by omega);have hxx:carry+v1=carry+b.getD k0.toNat 0+a.getD k0.toNat 0:=by omega
      refine nm ((carry+v1) % 1048576:Int) fun n5 hn5=>?_;refine nm (out.getD k0.toNat default:Int) fun v4 hv4=>?_;refine nm (out.set k0.toNat n5:List Int) fun l3 hl3=>?_;have hl3n:=congrArg List.length hl3;try simp only [List.length_append,List.length_cons,List.length_nil,List.length_replicate,List.length_set,List.length_take,List.length_drop,List.length_map,List.length_reverse,List.length_range] at hl3n
      refine V.g [.k (outs.v),.k (iv k0),.k (iv (carry+v1)),.andm g0 (carry+v1) 1048575 n5 20 (by decide) rfl (by rw [hn5];rfl),.ix g0 (ko true 3 0 out (fun _=>outs)) k0 (fun _=>⟨by omega,by omega⟩),.se g0 5 0 3 true out (fun _=>outs) k0 none v4 n5 hv4 true l3 hl3 (fun _=>⟨by omega,by omega⟩) (fun _=>rfl) [] (fun _ _ _ _=>trivial)] fun _ _ G15=>?_;intro S_ s_
      refine nm ((carry+v1) / 1048576:Int) fun n6 hn6=>?_;refine V.g [.k (iv (carry+v1)),.shrm g0 .i64 .u64 (carry+v1) n6 20 (by decide) (by rw [hn6];rfl),.k (iv n6)] fun _ _ G16=>?_;intro S_ s_
      refine V.g [.a (k0+1) (by omega) (by omega),.k (iv (k0+1))] fun _ _ G17=>?_;intro S_ s_
      refine V.rnd hZ1 (l3,outs,n6,k0+1) [0,1] (by kernel_rfl) ?_ ?_
      · refine ⟨?_,?_,?_⟩
        · show 0≤(k0+1)
          first | omega | rfl | (simp;done) | (subst_vars;simp;done)
        · show (k0+1)≤(b.length:Int)
          first | omega | rfl | (simp;done) | (subst_vars;simp;done)
        show Bg.AddI b a l3 (k0+1).toNat n6;rw [hl3,hn5,hn6,show (k0+1).toNat=k0.toNat+1 by omega];exact Bg.add_step hf3 hdb hda (by omega) hxx
      show ((b.length:Int)-(k0+1)).toNat < ((b.length:Int)-k0).toNat;omega
    have hkl:k0.toNat=b.length:=by omega
    have hen:=hf3;rw [hkl] at hen;obtain ⟨hen1,hen2⟩:=Bg.add_end hen (by omega);refine nm (out.getD (b.length:Int).toNat default:Int) fun v5 hv5=>?_;refine nm (out.set (b.length:Int).toNat carry:List Int) fun l4 hl4=>?_;have hl4n:=congrArg List.length hl4;try simp only [List.length_append,List.length_cons,List.length_nil,List.length_replicate,List.length_set,List.length_take,List.length_drop,List.length_map,List.length_reverse,List.length_range] at hl4n
    refine V.g [.k (outs.v),.k (bs.v),.ln (kf false (.f 0) b (fun _=>bs)),.k (iv carry),.ix g0 (ko true 3 0 out (fun _=>outs)) (b.length:Int) (fun _=>⟨by omega,by omega⟩),.se g0 5 0 3 true out (fun _=>outs) (b.length:Int) none v5 carry hv5 true l4 hl4 (fun _=>⟨by omega,by omega⟩) (fun _=>rfl) [] (fun _ _ _ _=>trivial)] fun _ _ G18=>?_;intro S_ s_
    have hl2e:l4=out.set b.length carry:=by rw [hl4];congr 1
    rw [←hl2e] at hen1 hen2;refine V.frz 0 true 3 l4 outs (by kernel_rfl) ?_;refine V.r [.k (outs.v),.ctT g0 1 144 [(kf true (.f 2) l4 (fun _=>outs)).a] (fun _ G=>trim_ct l4 outs hen1),.v fun G=>((G 1).ss 0).v] fun _ _ G19 kw20=>?_;intro S_ s_
    obtain ⟨⟨kl4, -⟩, -⟩:Lq (Bg.dig (Bg.nv l4)) (((G19 1).ss 0).v)∧True:=kq kw20;clear kw20;have e0:Bg.dig (Bg.nv l4)=Bg.dig (Bg.nv a+Bg.nv b):=by rw [hen2];rw [Nat.add_comm]
    rw [←e0];exact V.rs [0] [(G19 1).ss 0] [fun _=>{}] [] [3] [] (((G19 1).ss 0).v)
  refine nm ((a.length:Int)+1:Int) fun n7 hn7=>?_;refine nm (List.replicate n7.toNat (0:Int):List Int) fun l5 hl5=>?_;have hl5n:=congrArg List.length hl5;try simp only [List.length_append,List.length_cons,List.length_nil,List.length_replicate,List.length_set,List.length_take,List.length_drop,List.length_map,List.length_reverse,List.length_range] at hl5n
  refine V.g [.k (as_.v),.ln (kf false (.f 0) a (fun _=>as_)),.ar ((a.length:Int)+1) n7 hn7 (by omega) (by omega),.mks 3 0 3 8 n7 l5 hl5 (by omega) (by omega) (by omega),.v fun G=>((G 3).s).v] fun _ _ G20=>?_;intro S_ s_
  refine V.g [.k (iv 0)] fun _ _ G21=>?_;intro S_ s_
  refine V.g [.k (as_.v),.ln (kf false (.f 0) a (fun _=>as_)),.k (iv 0)] fun _ _ G22=>?_;intro S_ s_
  refine V.loop (γ:=List Int × SV × Int × Int) (fun ⟨out_1,out_1s,carry_1,k0_1⟩=>⟨[(0,as_.v),(1,bs.v),(5,out_1s.v),(6,iv carry_1),(20,as_.v),(21,iv (a.length:Int)),(22,iv k0_1)],[fs false a as_,fs false b bs],[os true 3 out_1 out_1s]⟩) (fun ⟨out_1,out_1s,carry_1,k0_1⟩=>(0≤k0_1)∧(k0_1≤(a.length:Int))∧(Bg.AddI a b out_1 k0_1.toNat carry_1)) (fun ⟨out_1,out_1s,carry_1,k0_1⟩=>((a.length:Int)-k0_1).toNat) (l5,(G20 3).s,0,0) (by kernel_rfl) [0,1] (by kernel_rfl) ?_ ?_
  · refine ⟨?_,?_,?_⟩
    · show 0≤(0:Int)
      first | omega | rfl | (simp;done) | (subst_vars;simp;done)
    · show (0:Int)≤(a.length:Int)
      first | omega | rfl | (simp;done) | (subst_vars;simp;done)
    show Bg.AddI a b l5 (0:Int).toNat (0:Int);rw [hl5,show n7.toNat=a.length+1 by omega];exact Bg.add_start _ _
  rintro ⟨out_1,out_1s,carry_1,k0_1⟩ hF2 kw24 Z2 hZ2;have hF2:(0≤k0_1)∧(k0_1≤(a.length:Int))∧(Bg.AddI a b out_1 k0_1.toNat carry_1):=hF2;obtain ⟨hf4,hf5,hf6⟩:=hF2;obtain ⟨-, -,⟨kl5, -⟩, -⟩:Lq a as_.v∧Lq b bs.v∧Lq out_1 out_1s.v∧True:=kq kw24;clear kw24;have hol:=hf6.len;have hc0:=hf6.c0;have hda_:=hda.get' k0_1.toNat;have hdb_:=hdb.get' k0_1.toNat;refine V.g [.k (bv (decide (k0_1 < (a.length:Int))))] fun _ _ G23=>?_;intro S_ s_;refine V.cn (b:=decide (k0_1 < (a.length:Int))) iDT iDF (fun q7=>?_) (fun q8=>?_)
  · refine nm (a.getD k0_1.toNat default:Int) fun v6 hv6=>?_;refine V.g [.k (iv k0_1),.ix g0 (kf false (.f 0) a (fun _=>as_)) k0_1 (fun _=>⟨by omega,by omega⟩),.le g0 (kf false (.f 0) a (fun _=>as_)) k0_1 none false v6 hv6 (fun _=>⟨by omega,by omega⟩) false (fun _=>[iv v6]),.k (iv k0_1),.k (iv v6)] fun _ _ G24=>?_;intro S_ s_
    have e1:a.getD k0_1.toNat 0=v6:=hv6.symm;refine V.g [.k (iv carry_1),.k (iv v6),.a (carry_1+v6) (by omega) (by omega),.k (iv (carry_1+v6))] fun _ _ G25=>?_;intro S_ s_
    refine V.g [.k (iv k0_1),.k (bs.v),.ln (kf false (.f 1) b (fun _=>bs)),.k (bv (decide (k0_1 < (b.length:Int))))] fun _ _ G26=>?_;intro S_ s_
    refine V.cn (b:=decide (k0_1 < (b.length:Int))) iDT iDF (fun q9=>?_) (fun q10=>?_)
    · refine nm (b.getD k0_1.toNat default:Int) fun v7 hv7=>?_;refine nm (carry_1+v6+v7:Int) fun n8 hn8=>?_;have e2:b.getD k0_1.toNat 0=v7:=hv7.symm
      refine V.g [.k (iv (carry_1+v6)),.k (bs.v),.k (iv k0_1),.ix g0 (kf false (.f 1) b (fun _=>bs)) k0_1 (fun _=>⟨by omega,by omega⟩),.le g0 (kf false (.f 1) b (fun _=>bs)) k0_1 none false v7 hv7 (fun _=>⟨by omega,by omega⟩) false (fun _=>[iv v7]),.ar (carry_1+v6+v7) n8 hn8 (by omega) (by omega),.k (iv n8)] fun _ _ G27=>?_;intro S_ s_
      have hxx:n8=carry_1+a.getD k0_1.toNat 0+b.getD k0_1.toNat 0:=by omega
      refine nm (n8 % 1048576:Int) fun n9 hn9=>?_;refine nm (out_1.getD k0_1.toNat default:Int) fun v8 hv8=>?_;refine nm (out_1.set k0_1.toNat n9:List Int) fun l6 hl6=>?_;have hl6n:=congrArg List.length hl6;try simp only [List.length_append,List.length_cons,List.length_nil,List.length_replicate,List.length_set,List.length_take,List.length_drop,List.length_map,List.length_reverse,List.length_range] at hl6n
      refine V.g [.k (out_1s.v),.k (iv k0_1),.k (iv n8),.andm g0 n8 1048575 n9 20 (by decide) rfl (by rw [hn9];rfl),.ix g0 (ko true 3 0 out_1 (fun _=>out_1s)) k0_1 (fun _=>⟨by omega,by omega⟩),.se g0 5 0 3 true out_1 (fun _=>out_1s) k0_1 none v8 n9 hv8 true l6 hl6 (fun _=>⟨by omega,by omega⟩) (fun _=>rfl) [] (fun _ _ _ _=>trivial)] fun _ _ G28=>?_;intro S_ s_
      refine nm (n8 / 1048576:Int) fun n10 hn10=>?_;refine V.g [.k (iv n8),.shrm g0 .i64 .u64 n8 n10 20 (by decide) (by rw [hn10];rfl),.k (iv n10)] fun _ _ G29=>?_;intro S_ s_
      refine V.g [.a (k0_1+1) (by omega) (by omega),.k (iv (k0_1+1))] fun _ _ G30=>?_;intro S_ s_
      refine V.rnd hZ2 (l6,out_1s,n10,k0_1+1) [0,1] (by kernel_rfl) ?_ ?_
      · refine ⟨?_,?_,?_⟩
        · show 0≤(k0_1+1)
          first | omega | rfl | (simp;done) | (subst_vars;simp;done)
        · show (k0_1+1)≤(a.length:Int)
          first | omega | rfl | (simp;done) | (subst_vars;simp;done)
        show Bg.AddI a b l6 (k0_1+1).toNat n10;rw [hl6,hn9,hn10,show (k0_1+1).toNat=k0_1.toNat+1 by omega];exact Bg.add_step hf6 hda hdb (by omega) hxx
      show ((a.length:Int)-(k0_1+1)).toNat < ((a.length:Int)-k0_1).toNat;omega
    have e2:=Bg.getD_out (l:=b) (i:=k0_1.toNat) (by omega);have hxx:carry_1+v6=carry_1+a.getD k0_1.toNat 0+b.getD k0_1.toNat 0:=by omega
    refine nm ((carry_1+v6) % 1048576:Int) fun n11 hn11=>?_;refine nm (out_1.getD k0_1.toNat default:Int) fun v9 hv9=>?_;refine nm (out_1.set k0_1.toNat n11:List Int) fun l7 hl7=>?_;have hl7n:=congrArg List.length hl7;try simp only [List.length_append,List.length_cons,List.length_nil,List.length_replicate,List.length_set,List.length_take,List.length_drop,List.length_map,List.length_reverse,List.length_range] at hl7n
    refine V.g [.k (out_1s.v),.k (iv k0_1),.k (iv (carry_1+v6)),.andm g0 (carry_1+v6) 1048575 n11 20 (by decide) rfl (by rw [hn11];rfl),.ix g0 (ko true 3 0 out_1 (fun _=>out_1s)) k0_1 (fun _=>⟨by omega,by omega⟩),.se g0 5 0 3 true out_1 (fun _=>out_1s) k0_1 none v9 n11 hv9 true l7 hl7 (fun _=>⟨by omega,by omega⟩) (fun _=>rfl) [] (fun _ _ _ _=>trivial)] fun _ _ G31=>?_;intro S_ s_
    refine nm ((carry_1+v6) / 1048576:Int) fun n12 hn12=>?_;refine V.g [.k (iv (carry_1+v6)),.shrm g0 .i64 .u64 (carry_1+v6) n12 20 (by decide) (by rw [hn12];rfl),.k (iv n12)] fun _ _ G32=>?_;intro S_ s_
    refine V.g [.a (k0_1+1) (by omega) (by omega),.k (iv (k0_1+1))] fun _ _ G33=>?_;intro S_ s_
    refine V.rnd hZ2 (l7,out_1s,n12,k0_1+1) [0,1] (by kernel_rfl) ?_ ?_
    · refine ⟨?_,?_,?_⟩
      · show 0≤(k0_1+1)
        first | omega | rfl | (simp;done) | (subst_vars;simp;done)
      · show (k0_1+1)≤(a.length:Int)
        first | omega | rfl | (simp;done) | (subst_vars;simp;done)
      show Bg.AddI a b l7 (k0_1+1).toNat n12;rw [hl7,hn11,hn12,show (k0_1+1).toNat=k0_1.toNat+1 by omega];exact Bg.add_step hf6 hda hdb (by omega) hxx
    show ((a.length:Int)-(k0_1+1)).toNat < ((a.length:Int)-k0_1).toNat;omega
  have hkl:k0_1.toNat=a.length:=by omega
  have hen:=hf6;rw [hkl] at hen;obtain ⟨hen1,hen2⟩:=Bg.add_end hen (by omega);refine nm (out_1.getD (a.length:Int).toNat default:Int) fun v10 hv10=>?_;refine nm (out_1.set (a.length:Int).toNat carry_1:List Int) fun l8 hl8=>?_;have hl8n:=congrArg List.length hl8;try simp only [List.length_append,List.length_cons,List.length_nil,List.length_replicate,List.length_set,List.length_take,List.length_drop,List.length_map,List.length_reverse,List.length_range] at hl8n
  refine V.g [.k (out_1s.v),.k (as_.v),.ln (kf false (.f 0) a (fun _=>as_)),.k (iv carry_1),.ix g0 (ko true 3 0 out_1 (fun _=>out_1s)) (a.length:Int) (fun _=>⟨by omega,by omega⟩),.se g0 5 0 3 true out_1 (fun _=>out_1s) (a.length:Int) none v10 carry_1 hv10 true l8 hl8 (fun _=>⟨by omega,by omega⟩) (fun _=>rfl) [] (fun _ _ _ _=>trivial)] fun _ _ G34=>?_;intro S_ s_
  have hl2e:l8=out_1.set a.length carry_1:=by rw [hl8];congr 1
  rw [←hl2e] at hen1 hen2;refine V.frz 0 true 3 l8 out_1s (by kernel_rfl) ?_;refine V.r [.k (out_1s.v),.ctT g0 1 144 [(kf true (.f 2) l8 (fun _=>out_1s)).a] (fun _ G=>trim_ct l8 out_1s hen1),.v fun G=>((G 1).ss 0).v] fun _ _ G35 kw37=>?_;intro S_ s_
  obtain ⟨⟨kl6, -⟩, -⟩:Lq (Bg.dig (Bg.nv l8)) (((G35 1).ss 0).v)∧True:=kq kw37;clear kw37;have e0:Bg.dig (Bg.nv l8)=Bg.dig (Bg.nv a+Bg.nv b):=by rw [hen2]
  rw [←e0];exact V.rs [0] [(G35 1).ss 0] [fun _=>{}] [] [3] [] (((G35 1).ss 0).v)
theorem add_ctv (a:List Int) (as_:SV) (b:List Int) (bs:SV) (hda:Bg.Dg a) (hdb:Bg.Dg b) (hla:a.length≤1099511627776) (hlb:b.length≤1099511627776) (rv0:List Int) (erv0:rv0=Bg.dig (Bg.nv a+Bg.nv b)) :
    Ct Tryz.prog 125 #[as_.v,bs.v] [fs true a as_,fs true b bs] [] (fun g=>((g.ss 0)).v) (fun g=>[fs true rv0 (g.ss 0)]) (fun g=>[]) (fun g=>[]):=by
  subst erv0;exact add_ct a as_ b bs hda hdb hla hlb
set_option maxRecDepth 10000 in
theorem sub_ct (a:List Int) (as_:SV) (b:List Int) (bs:SV) (hda:Bg.Dg a) (hdb:Bg.Dg b) (hla:a.length≤1099511627776) (hlb:b.length≤1099511627776) (hzb:Bg.Nz b) (hle:Bg.nv b≤Bg.nv a) :
    Ct Tryz.prog 127 #[as_.v,bs.v] [fs true a as_,fs true b bs] [] (fun g=>((g.ss 0)).v) (fun g=>[fs true (Bg.dig (Bg.nv a-Bg.nv b)) (g.ss 0)]) (fun g=>[]) (fun g=>[]):=by
  refine V.fn mo Tryz.func127 43 1 (by kernel_rfl) fun w H ε k0=>?_;obtain ⟨⟨kl1, -⟩,⟨kl2, -⟩, -⟩:Lq a as_.v∧Lq b bs.v∧True:=kq k0
  clear k0;refine V.g [.k (.slice none 0 0)] fun _ _ G1=>?_;intro S s
  refine V.g [.k (as_.v),.ct g0 1 113 false [] [0] [(kf false (.f 0) a (fun _=>as_)).a] (fun _ G=>clonei_ct a as_ (by omega)),.v fun G=>((G 1).ss 0).v] fun _ _ G2=>?_;intro S s
  refine V.g [.k (iv 0)] fun _ _ G3=>?_;intro S s
  refine V.g [.k (((G2 1).ss 0).v),.ln (ko true 3 0 a (fun _=>(G2 1).ss 0)),.k (iv 0)] fun _ _ G4=>?_;intro S s
  refine V.loop (γ:=List Int × SV × Int × Int) (fun ⟨out,outs,borrow,k0⟩=>⟨[(1,bs.v),(5,outs.v),(6,iv borrow),(12,iv (a.length:Int)),(13,iv k0)],[fs false b bs],[os true 3 out outs]⟩) (fun ⟨out,outs,borrow,k0⟩=>(0≤k0)∧(k0≤(a.length:Int))∧(Bg.SubI a b out k0.toNat borrow)) (fun ⟨out,outs,borrow,k0⟩=>((a.length:Int)-k0).toNat) (a,(G2 1).ss 0,0,0) (by kernel_rfl) [1] (by kernel_rfl) ?_ ?_
  · refine ⟨?_,?_,?_⟩
    · show 0≤(0:Int)
      first | omega | rfl | (simp;done) | (subst_vars;simp;done)
    · show (0:Int)≤(a.length:Int)
      first | omega | rfl | (simp;done) | (subst_vars;simp;done)
    show Bg.SubI a b a (0:Int).toNat (0:Int);exact Bg.sub_start _ _ hda
  rintro ⟨out,outs,borrow,k0⟩ hF1 kw5 Z1 hZ1;have hF1:(0≤k0)∧(k0≤(a.length:Int))∧(Bg.SubI a b out k0.toNat borrow):=hF1;obtain ⟨hf1,hf2,hf3⟩:=hF1;obtain ⟨-,⟨kl3, -⟩, -⟩:Lq b bs.v∧Lq out outs.v∧True:=kq kw5;clear kw5;have hol:=hf3.len;have hc0:=hf3.c0;have hda_:=hf3.dg.get' k0.toNat;have hdb_:=hdb.get' k0.toNat;refine V.g [.k (bv (decide (k0 < (a.length:Int))))] fun _ _ G5=>?_;intro S s;refine V.cn (b:=decide (k0 < (a.length:Int))) iDT iDF (fun q1=>?_) (fun q2=>?_)
  · refine V.g [.k (iv k0),.k (iv k0)] fun _ _ G6=>?_;intro S s
    refine nm (out.getD k0.toNat default:Int) fun v1 hv1=>?_;have e1:out.getD k0.toNat 0=v1:=hv1.symm
    refine V.g [.k (outs.v),.k (iv k0),.ix g0 (ko true 3 0 out (fun _=>outs)) k0 (fun _=>⟨by omega,by omega⟩),.le g0 (ko true 3 0 out (fun _=>outs)) k0 none false v1 hv1 (fun _=>⟨by omega,by omega⟩) false (fun _=>[iv v1]),.k (iv borrow),.a (v1-borrow) (by omega) (by omega),.k (iv (v1-borrow))] fun _ _ G7=>?_;intro S s
    refine V.g [.k (iv k0),.k (bs.v),.ln (kf false (.f 0) b (fun _=>bs)),.k (bv (decide (k0 < (b.length:Int))))] fun _ _ G8=>?_;intro S s
    refine V.cn (b:=decide (k0 < (b.length:Int))) iDT iDF (fun q3=>?_) (fun q4=>?_)
    · refine nm (b.getD k0.toNat default:Int) fun v2 hv2=>?_;refine nm (v1-borrow-v2:Int) fun n1 hn1=>?_;have e2:b.getD k0.toNat 0=v2:=hv2.symm
      refine V.g [.k (iv (v1-borrow)),.k (bs.v),.k (iv k0),.ix g0 (kf false (.f 0) b (fun _=>bs)) k0 (fun _=>⟨by omega,by omega⟩),.le g0 (kf false (.f 0) b (fun _=>bs)) k0 none false v2 hv2 (fun _=>⟨by omega,by omega⟩) false (fun _=>[iv v2]),.ar (v1-borrow-v2) n1 hn1 (by omega) (by omega),.k (iv n1)] fun _ _ G9=>?_;intro S s
      have hxx:n1=out.getD k0.toNat 0-borrow-b.getD k0.toNat 0:=by omega
      refine nm (n1 / 1048576:Int) fun n2 hn2=>?_;refine nm (n2 % 2:Int) fun n3 hn3=>?_;refine V.g [.k (iv n1),.shrm g0 .i64 .u64 n1 n2 20 (by decide) (by rw [hn2];rfl),.andm g0 n2 1 n3 1 (by decide) rfl (by rw [hn3];rfl),.k (iv n3)] fun _ _ G10=>?_;intro S s
      refine nm (n1 % 1048576:Int) fun n4 hn4=>?_;refine nm (out.set k0.toNat n4:List Int) fun l1 hl1=>?_;have hl1n:=congrArg List.length hl1;try simp only [List.length_append,List.length_cons,List.length_nil,List.length_replicate,List.length_set,List.length_take,List.length_drop,List.length_map,List.length_reverse,List.length_range] at hl1n
      refine V.g [.k (outs.v),.k (iv k0),.k (iv n1),.andm g0 n1 1048575 n4 20 (by decide) rfl (by rw [hn4];rfl),.ix g0 (ko true 3 0 out (fun _=>outs)) k0 (fun _=>⟨by omega,by omega⟩),.se g0 5 0 3 true out (fun _=>outs) k0 none v1 n4 hv1 true l1 hl1 (fun _=>⟨by omega,by omega⟩) (fun _=>rfl) [] (fun _ _ _ _=>trivial)] fun _ _ G11=>?_;intro S s
      refine V.g [.a (k0+1) (by omega) (by omega),.k (iv (k0+1))] fun _ _ G12=>?_;intro S s
      refine V.rnd hZ1 (l1,outs,n3,k0+1) [0] (by kernel_rfl) ?_ ?_
      · refine ⟨?_,?_,?_⟩
        · show 0≤(k0+1)
          first | omega | rfl | (simp;done) | (subst_vars;simp;done)
        · show (k0+1)≤(a.length:Int)
          first | omega | rfl | (simp;done) | (subst_vars;simp;done)
        show Bg.SubI a b l1 (k0+1).toNat n3;rw [hl1,hn4,hn3,hn2,show (k0+1).toNat=k0.toNat+1 by omega];exact Bg.sub_step hf3 hdb (by omega) hxx
      show ((a.length:Int)-(k0+1)).toNat < ((a.length:Int)-k0).toNat;omega
    have e2:=Bg.getD_out (l:=b) (i:=k0.toNat) (by omega);have hxx:v1-borrow=out.getD k0.toNat 0-borrow-b.getD k0.toNat 0:=by omega
    refine nm ((v1-borrow) / 1048576:Int) fun n5 hn5=>?_;refine nm (n5 % 2:Int) fun n6 hn6=>?_;refine V.g [.k (iv (v1-borrow)),.shrm g0 .i64 .u64 (v1-borrow) n5 20 (by decide) (by rw [hn5];rfl),.andm g0 n5 1 n6 1 (by decide) rfl (by rw [hn6];rfl),.k (iv n6)] fun _ _ G13=>?_;intro S s
    refine nm ((v1-borrow) % 1048576:Int) fun n7 hn7=>?_;refine nm (out.set k0.toNat n7:List Int) fun l2 hl2=>?_;have hl2n:=congrArg List.length hl2;try simp only [List.length_append,List.length_cons,List.length_nil,List.length_replicate,List.length_set,List.length_take,List.length_drop,List.length_map,List.length_reverse,List.length_range] at hl2n
    refine V.g [.k (outs.v),.k (iv k0),.k (iv (v1-borrow)),.andm g0 (v1-borrow) 1048575 n7 20 (by decide) rfl (by rw [hn7];rfl),.ix g0 (ko true 3 0 out (fun _=>outs)) k0 (fun _=>⟨by omega,by omega⟩),.se g0 5 0 3 true out (fun _=>outs) k0 none v1 n7 hv1 true l2 hl2 (fun _=>⟨by omega,by omega⟩) (fun _=>rfl) [] (fun _ _ _ _=>trivial)] fun _ _ G14=>?_;intro S s
    refine V.g [.a (k0+1) (by omega) (by omega),.k (iv (k0+1))] fun _ _ G15=>?_;intro S s
    refine V.rnd hZ1 (l2,outs,n6,k0+1) [0] (by kernel_rfl) ?_ ?_
    · refine ⟨?_,?_,?_⟩
      · show 0≤(k0+1)
        first | omega | rfl | (simp;done) | (subst_vars;simp;done)
      · show (k0+1)≤(a.length:Int)
        first | omega | rfl | (simp;done) | (subst_vars;simp;done)
      show Bg.SubI a b l2 (k0+1).toNat n6;rw [hl2,hn7,hn6,hn5,show (k0+1).toNat=k0.toNat+1 by omega];exact Bg.sub_step hf3 hdb (by omega) hxx
    show ((a.length:Int)-(k0+1)).toNat < ((a.length:Int)-k0).toNat;omega
  have hen:=hf3;rw [show k0.toNat=a.length by omega] at hen;have hse:=Bg.sub_end hen (Bg.len_le hda hdb hzb hle) hle;have hsd:=hen.dg;refine V.frz 0 true 3 out outs (by kernel_rfl) ?_;refine V.r [.k (outs.v),.ctT g0 1 144 [(kf true (.f 1) out (fun _=>outs)).a] (fun _ G=>trim_ct out outs hsd),.v fun G=>((G 1).ss 0).v] fun _ _ G16 kw17=>?_;intro S s
  obtain ⟨⟨kl4, -⟩, -⟩:Lq (Bg.dig (Bg.nv out)) (((G16 1).ss 0).v)∧True:=kq kw17;clear kw17;have e0:Bg.dig (Bg.nv out)=Bg.dig (Bg.nv a-Bg.nv b):=by rw [hse]
  rw [←e0];exact V.rs [0] [(G16 1).ss 0] [fun _=>{}] [] [2] [] (((G16 1).ss 0).v)
theorem sub_ctv (a:List Int) (as_:SV) (b:List Int) (bs:SV) (hda:Bg.Dg a) (hdb:Bg.Dg b) (hla:a.length≤1099511627776) (hlb:b.length≤1099511627776) (hzb:Bg.Nz b) (hle:Bg.nv b≤Bg.nv a) (rv0:List Int) (erv0:rv0=Bg.dig (Bg.nv a - Bg.nv b)) :
    Ct Tryz.prog 127 #[as_.v,bs.v] [fs true a as_,fs true b bs] [] (fun g=>((g.ss 0)).v) (fun g=>[fs true rv0 (g.ss 0)]) (fun g=>[]) (fun g=>[]):=by
  subst erv0;exact sub_ct a as_ b bs hda hdb hla hlb hzb hle

open Go Go.Proofs
set_option maxRecDepth 10000 in
theorem mulo_ct (a:List Int) (as_:SV) (b:List Int) (bs:SV) (hda:Bg.Dg a) (hdb:Bg.Dg b) (hla:a.length≤1099511627776) (hlb:b.length≤1099511627776) :
    Ct Tryz.prog 145 #[as_.v,bs.v] [fs true a as_,fs true b bs] [] (fun g=>((g.ss 0)).v) (fun g=>[]) (fun g=>[os true 3 (Bg.dig (Bg.nv a * Bg.nv b)) (g.ss 0)]) (fun g=>[]):=by
  refine V.fn mo Tryz.func145 67 1 (by kernel_rfl) fun w H ε k0=>?_;obtain ⟨⟨kl1, -⟩,⟨kl2, -⟩, -⟩:Lq a as_.v∧Lq b bs.v∧True:=kq k0
  clear k0;refine V.g [.k (.slice none 0 0)] fun _ _ G1=>?_;intro S_ s_
  refine nm ((a.length:Int)+(b.length:Int):Int) fun n1 hn1=>?_;refine nm (List.replicate n1.toNat (0:Int):List Int) fun l1 hl1=>?_;have hl1n:=congrArg List.length hl1;try simp only [List.length_append,List.length_cons,List.length_nil,List.length_replicate,List.length_set,List.length_take,List.length_drop,List.length_map,List.length_reverse,List.length_range] at hl1n
  refine V.g [.k (as_.v),.ln (kf false (.f 0) a (fun _=>as_)),.k (bs.v),.ln (kf false (.f 1) b (fun _=>bs)),.ar ((a.length:Int)+(b.length:Int)) n1 hn1 (by omega) (by omega),.mks 5 0 3 8 n1 l1 hl1 (by omega) (by omega) (by omega),.v fun G=>((G 5).s).v] fun _ _ G2=>?_;intro S_ s_
  refine V.g [.k (as_.v),.ln (kf false (.f 0) a (fun _=>as_)),.k (iv 0)] fun _ _ G3=>?_;intro S_ s_
  refine V.loop (γ:=List Int × SV × Int) (fun ⟨out,outs,k0⟩=>⟨[(1,bs.v),(5,outs.v),(18,as_.v),(19,iv (a.length:Int)),(20,iv k0)],[fs false b bs,fs false a as_],[os true 3 out outs]⟩) (fun ⟨out,outs,k0⟩=>(0≤k0)∧(k0≤(a.length:Int))∧(Bg.MulO a b out k0.toNat)) (fun ⟨out,outs,k0⟩=>((a.length:Int)-k0).toNat) (l1,(G2 5).s,0) (by kernel_rfl) [1,0] (by kernel_rfl) ?_ ?_
  · refine ⟨?_,?_,?_⟩
    · show 0≤(0:Int)
      first | omega | rfl | (simp;done) | (subst_vars;simp;done)
    · show (0:Int)≤(a.length:Int)
      first | omega | rfl | (simp;done) | (subst_vars;simp;done)
    show Bg.MulO a b l1 (0:Int).toNat;rw [hl1,show n1.toNat=a.length+b.length by omega];exact Bg.mul_start _ _
  rintro ⟨out,outs,k0⟩ hF1 kw4 Z1 hZ1;have hF1:(0≤k0)∧(k0≤(a.length:Int))∧(Bg.MulO a b out k0.toNat):=hF1;obtain ⟨hf1,hf2,hf3⟩:=hF1;obtain ⟨-, -,⟨kl3, -⟩, -⟩:Lq b bs.v∧Lq a as_.v∧Lq out outs.v∧True:=kq kw4;clear kw4;have hol:=hf3.len;refine V.g [.k (bv (decide (k0 < (a.length:Int))))] fun _ _ G4=>?_;intro S_ s_;refine V.cn (b:=decide (k0 < (a.length:Int))) iDT iDF (fun q1=>?_) (fun q2=>?_)
  · refine nm (a.getD k0.toNat default:Int) fun v1 hv1=>?_;refine V.g [.k (iv k0),.ix g0 (kf false (.f 1) a (fun _=>as_)) k0 (fun _=>⟨by omega,by omega⟩),.le g0 (kf false (.f 1) a (fun _=>as_)) k0 none false v1 hv1 (fun _=>⟨by omega,by omega⟩) false (fun _=>[iv v1]),.k (iv k0),.k (iv v1)] fun _ _ G5=>?_;intro S_ s_
    refine V.g [.k (iv 0)] fun _ _ G6=>?_;intro S_ s_
    refine V.g [.k (bs.v),.ln (kf false (.f 0) b (fun _=>bs)),.k (iv 0)] fun _ _ G7=>?_;intro S_ s_
    refine V.loop (γ:=List Int × SV × Int × Int) (fun ⟨out_1,out_1s,carry,k1⟩=>⟨[(1,bs.v),(5,out_1s.v),(6,iv k0),(7,iv v1),(8,iv carry),(18,as_.v),(19,iv (a.length:Int)),(20,iv k0),(25,bs.v),(26,iv (b.length:Int)),(27,iv k1)],[fs false b bs,fs false a as_],[os true 3 out_1 out_1s]⟩) (fun ⟨out_1,out_1s,carry,k1⟩=>(0≤k1)∧(k1≤(b.length:Int))∧(Bg.MulI a b out_1 k0.toNat k1.toNat carry)) (fun ⟨out_1,out_1s,carry,k1⟩=>((b.length:Int)-k1).toNat) (out,outs,0,0) (by kernel_rfl) [0,1] (by kernel_rfl) ?_ ?_
    · refine ⟨?_,?_,?_⟩
      · show 0≤(0:Int)
        first | omega | rfl | (simp;done) | (subst_vars;simp;done)
      · show (0:Int)≤(b.length:Int)
        first | omega | rfl | (simp;done) | (subst_vars;simp;done)
      show Bg.MulI a b out k0.toNat (0:Int).toNat (0:Int);exact Bg.MulO.inner hf3
    rintro ⟨out_1,out_1s,carry,k1⟩ hF2 kw9 Z2 hZ2;have hF2:(0≤k1)∧(k1≤(b.length:Int))∧(Bg.MulI a b out_1 k0.toNat k1.toNat carry):=hF2;obtain ⟨hf4,hf5,hf6⟩:=hF2;obtain ⟨-, -,⟨kl4, -⟩, -⟩:Lq b bs.v∧Lq a as_.v∧Lq out_1 out_1s.v∧True:=kq kw9;clear kw9;have hol2:=hf6.len;refine V.g [.k (bv (decide (k1 < (b.length:Int))))] fun _ _ G8=>?_;intro S_ s_;refine V.cn (b:=decide (k1 < (b.length:Int))) iDT iDF (fun q3=>?_) (fun q4=>?_)
    · refine nm (b.getD k1.toNat default:Int) fun v2 hv2=>?_;refine V.g [.k (iv k1),.ix g0 (kf false (.f 0) b (fun _=>bs)) k1 (fun _=>⟨by omega,by omega⟩),.le g0 (kf false (.f 0) b (fun _=>bs)) k1 none false v2 hv2 (fun _=>⟨by omega,by omega⟩) false (fun _=>[iv v2]),.k (iv k1),.k (iv v2)] fun _ _ G9=>?_;intro S_ s_
      refine nm (out_1.getD (k0+k1).toNat default:Int) fun v3 hv3=>?_;refine nm (v1 * v2:Int) fun n2 hn2=>?_;refine nm (v3+n2+carry:Int) fun n3 hn3=>?_;have ex:a.getD k0.toNat 0=v1:=hv1.symm
      have ey:b.getD k1.toNat 0=v2:=hv2.symm;have eo:out_1.getD (k0+k1).toNat 0=v3:=hv3.symm;have bx:=hda.get' k0.toNat;have by_:=hdb.get' k1.toNat;have bo:=hf6.dg.get' (k0+k1).toNat;have bc:=hf6.c0;rw [ex] at bx;rw [ey] at by_;rw [eo] at bo;have bp:=Bg.dmul bx by_;refine V.g [.k (out_1s.v),.k (iv k0),.k (iv k1),.a (k0+k1) (by omega) (by omega),.ix g0 (ko true 3 0 out_1 (fun _=>out_1s)) (k0+k1) (fun _=>⟨by omega,by omega⟩),.le g0 (ko true 3 0 out_1 (fun _=>out_1s)) (k0+k1) none false v3 hv3 (fun _=>⟨by omega,by omega⟩) false (fun _=>[iv v3]),.k (iv v1),.k (iv v2),.ar (v1 * v2) n2 hn2 (by omega) (by omega),.a (v3+n2) (by omega) (by omega),.k (iv carry),.ar (v3+n2+carry) n3 hn3 (by omega) (by omega),.k (iv n3)] fun _ _ G10=>?_;intro S_ s_
      have hxx:n3=out_1.getD (k0.toNat+k1.toNat) 0+a.getD k0.toNat 0 * b.getD k1.toNat 0+carry:=by rw [ex,ey,show k0.toNat+k1.toNat=(k0+k1).toNat by omega,eo];omega
      have stp:=Bg.mul_step hf6 hda hdb (by omega) (by omega) hxx;have stp1:=stp.1;have stp2:=stp.2;clear stp;refine nm (n3 % 1048576:Int) fun n4 hn4=>?_;refine nm (n3 / 1048576:Int) fun n5 hn5=>?_;refine nm (out_1.set (k0+k1).toNat n4:List Int) fun l2 hl2=>?_;have hl2n:=congrArg List.length hl2;try simp only [List.length_append,List.length_cons,List.length_nil,List.length_replicate,List.length_set,List.length_take,List.length_drop,List.length_map,List.length_reverse,List.length_range] at hl2n
      refine V.g [.k (out_1s.v),.k (iv k0),.k (iv k1),.a (k0+k1) (by omega) (by omega),.k (iv n3),.andm g0 n3 1048575 n4 20 (by decide) rfl (by rw [hn4];rfl),.k (iv n3),.shrm g0 .i64 .u64 n3 n5 20 (by decide) (by rw [hn5];rfl),.ix g0 (ko true 3 0 out_1 (fun _=>out_1s)) (k0+k1) (fun _=>⟨by omega,by omega⟩),.se g0 9 0 3 true out_1 (fun _=>out_1s) (k0+k1) none v3 n4 hv3 true l2 hl2 (fun _=>⟨by omega,by omega⟩) (fun _=>rfl) [] (fun _ _ _ _=>trivial),.k (iv n5)] fun _ _ G11=>?_;intro S_ s_
      refine V.g [.a (k1+1) (by omega) (by omega),.k (iv (k1+1))] fun _ _ G12=>?_;intro S_ s_
      refine V.rnd hZ2 (l2,out_1s,n5,k1+1) [0,1] (by kernel_rfl) ?_ ?_
      · refine ⟨?_,?_,?_⟩
        · show 0≤(k1+1)
          first | omega | rfl | (simp;done) | (subst_vars;simp;done)
        · show (k1+1)≤(b.length:Int)
          first | omega | rfl | (simp;done) | (subst_vars;simp;done)
        show Bg.MulI a b l2 k0.toNat (k1+1).toNat n5;rw [hl2,hn4,hn5,show (k0+k1).toNat=k0.toNat+k1.toNat by omega,show (k1+1).toNat=k1.toNat+1 by omega];exact stp2
      show ((b.length:Int)-(k1+1)).toNat < ((b.length:Int)-k1).toNat;omega
    refine nm (k0+(b.length:Int):Int) fun n6 hn6=>?_;refine nm (out_1.getD n6.toNat default:Int) fun v4 hv4=>?_;refine nm (out_1.set n6.toNat (v4+carry):List Int) fun l3 hl3=>?_;have hl3n:=congrArg List.length hl3;try simp only [List.length_append,List.length_cons,List.length_nil,List.length_replicate,List.length_set,List.length_take,List.length_drop,List.length_map,List.length_reverse,List.length_range] at hl3n
    have hml:=hf6;rw [show k1.toNat=b.length by omega] at hml;have eo:out_1.getD n6.toNat 0=v4:=hv4.symm;have bo:=hml.dg.get' n6.toNat;have bc:=hml.c0;have hol3:=hml.len;rw [eo] at bo;refine V.g [.k (out_1s.v),.k (iv k0),.k (bs.v),.ln (kf false (.f 0) b (fun _=>bs)),.ar (k0+(b.length:Int)) n6 hn6 (by omega) (by omega),.ix g0 (ko true 3 0 out_1 (fun _=>out_1s)) n6 (fun _=>⟨by omega,by omega⟩),.le g0 (ko true 3 0 out_1 (fun _=>out_1s)) n6 none false v4 hv4 (fun _=>⟨by omega,by omega⟩) false (fun _=>[iv v4]),.k (iv carry),.a (v4+carry) (by omega) (by omega),.ix g0 (ko true 3 0 out_1 (fun _=>out_1s)) n6 (fun _=>⟨by omega,by omega⟩),.se g0 10 0 3 true out_1 (fun _=>out_1s) n6 none v4 (v4+carry) hv4 true l3 hl3 (fun _=>⟨by omega,by omega⟩) (fun _=>rfl) [] (fun _ _ _ _=>trivial)] fun _ _ G13=>?_;intro S_ s_
    refine V.g [.a (k0+1) (by omega) (by omega),.k (iv (k0+1))] fun _ _ G14=>?_;intro S_ s_
    refine V.rnd hZ1 (l3,out_1s,k0+1) [0,1] (by kernel_rfl) ?_ ?_
    · refine ⟨?_,?_,?_⟩
      · show 0≤(k0+1)
        first | omega | rfl | (simp;done) | (subst_vars;simp;done)
      · show (k0+1)≤(a.length:Int)
        first | omega | rfl | (simp;done) | (subst_vars;simp;done)
      show Bg.MulO a b l3 (k0+1).toNat;have hme:=Bg.mul_end (x:=(v4+carry)) hml (by omega) (by rw [show k0.toNat+b.length=n6.toNat by omega,eo]);rw [hl3,show n6.toNat=k0.toNat+b.length by omega,show (k0+1).toNat=k0.toNat+1 by omega];exact hme
    show ((a.length:Int)-(k0+1)).toNat < ((a.length:Int)-k0).toNat;omega
  have hen:=hf3;rw [show k0.toNat=a.length by omega] at hen;have hsd:=hen.dg;have hse:=hen.sum;rw [List.take_length] at hse;refine V.g [.k (outs.v),.ct g0 1 144 false [0] [] [] (fun _ G=>trimo_ct out outs hsd),.v fun G=>((G 1).ss 0).v] fun _ _ G15=>?_;intro S_ s_
  have e0:Bg.dig (Bg.nv out)=Bg.dig (Bg.nv a * Bg.nv b):=by rw [hse]
  rw [←e0];exact V.rs [0] [(G15 1).ss 0] [fun _=>{}] [] [] [0] (((G15 1).ss 0).v)
set_option maxRecDepth 10000 in
theorem mul_ct (a:List Int) (as_:SV) (b:List Int) (bs:SV) (hda:Bg.Dg a) (hdb:Bg.Dg b) (hla:a.length≤1099511627776) (hlb:b.length≤1099511627776) :
    Ct Tryz.prog 145 #[as_.v,bs.v] [fs true a as_,fs true b bs] [] (fun g=>((g.ss 0)).v) (fun g=>[fs true (Bg.dig (Bg.nv a * Bg.nv b)) (g.ss 0)]) (fun g=>[]) (fun g=>[]):=by
  refine V.fn mo Tryz.func145 67 1 (by kernel_rfl) fun w H ε k0=>?_;obtain ⟨⟨kl1, -⟩,⟨kl2, -⟩, -⟩:Lq a as_.v∧Lq b bs.v∧True:=kq k0
  clear k0;refine V.g [.k (.slice none 0 0)] fun _ _ G1=>?_;intro S_ s_
  refine nm ((a.length:Int)+(b.length:Int):Int) fun n1 hn1=>?_;refine nm (List.replicate n1.toNat (0:Int):List Int) fun l1 hl1=>?_;have hl1n:=congrArg List.length hl1;try simp only [List.length_append,List.length_cons,List.length_nil,List.length_replicate,List.length_set,List.length_take,List.length_drop,List.length_map,List.length_reverse,List.length_range] at hl1n
  refine V.g [.k (as_.v),.ln (kf false (.f 0) a (fun _=>as_)),.k (bs.v),.ln (kf false (.f 1) b (fun _=>bs)),.ar ((a.length:Int)+(b.length:Int)) n1 hn1 (by omega) (by omega),.mks 5 0 3 8 n1 l1 hl1 (by omega) (by omega) (by omega),.v fun G=>((G 5).s).v] fun _ _ G2=>?_;intro S_ s_
  refine V.g [.k (as_.v),.ln (kf false (.f 0) a (fun _=>as_)),.k (iv 0)] fun _ _ G3=>?_;intro S_ s_
  refine V.loop (γ:=List Int × SV × Int) (fun ⟨out,outs,k0⟩=>⟨[(1,bs.v),(5,outs.v),(18,as_.v),(19,iv (a.length:Int)),(20,iv k0)],[fs false b bs,fs false a as_],[os true 3 out outs]⟩) (fun ⟨out,outs,k0⟩=>(0≤k0)∧(k0≤(a.length:Int))∧(Bg.MulO a b out k0.toNat)) (fun ⟨out,outs,k0⟩=>((a.length:Int)-k0).toNat) (l1,(G2 5).s,0) (by kernel_rfl) [1,0] (by kernel_rfl) ?_ ?_
  · refine ⟨?_,?_,?_⟩
    · show 0≤(0:Int)
      first | omega | rfl | (simp;done) | (subst_vars;simp;done)
    · show (0:Int)≤(a.length:Int)
      first | omega | rfl | (simp;done) | (subst_vars;simp;done)
    show Bg.MulO a b l1 (0:Int).toNat;rw [hl1,show n1.toNat=a.length+b.length by omega];exact Bg.mul_start _ _
  rintro ⟨out,outs,k0⟩ hF1 kw4 Z1 hZ1;have hF1:(0≤k0)∧(k0≤(a.length:Int))∧(Bg.MulO a b out k0.toNat):=hF1;obtain ⟨hf1,hf2,hf3⟩:=hF1;obtain ⟨-, -,⟨kl3, -⟩, -⟩:Lq b bs.v∧Lq a as_.v∧Lq out outs.v∧True:=kq kw4;clear kw4;have hol:=hf3.len;refine V.g [.k (bv (decide (k0 < (a.length:Int))))] fun _ _ G4=>?_;intro S_ s_;refine V.cn (b:=decide (k0 < (a.length:Int))) iDT iDF (fun q1=>?_) (fun q2=>?_)
  · refine nm (a.getD k0.toNat default:Int) fun v1 hv1=>?_;refine V.g [.k (iv k0),.ix g0 (kf false (.f 1) a (fun _=>as_)) k0 (fun _=>⟨by omega,by omega⟩),.le g0 (kf false (.f 1) a (fun _=>as_)) k0 none false v1 hv1 (fun _=>⟨by omega,by omega⟩) false (fun _=>[iv v1]),.k (iv k0),.k (iv v1)] fun _ _ G5=>?_;intro S_ s_
    refine V.g [.k (iv 0)] fun _ _ G6=>?_;intro S_ s_
    refine V.g [.k (bs.v),.ln (kf false (.f 0) b (fun _=>bs)),.k (iv 0)] fun _ _ G7=>?_;intro S_ s_
    refine V.loop (γ:=List Int × SV × Int × Int) (fun ⟨out_1,out_1s,carry,k1⟩=>⟨[(1,bs.v),(5,out_1s.v),(6,iv k0),(7,iv v1),(8,iv carry),(18,as_.v),(19,iv (a.length:Int)),(20,iv k0),(25,bs.v),(26,iv (b.length:Int)),(27,iv k1)],[fs false b bs,fs false a as_],[os true 3 out_1 out_1s]⟩) (fun ⟨out_1,out_1s,carry,k1⟩=>(0≤k1)∧(k1≤(b.length:Int))∧(Bg.MulI a b out_1 k0.toNat k1.toNat carry)) (fun ⟨out_1,out_1s,carry,k1⟩=>((b.length:Int)-k1).toNat) (out,outs,0,0) (by kernel_rfl) [0,1] (by kernel_rfl) ?_ ?_
    · refine ⟨?_,?_,?_⟩
      · show 0≤(0:Int)
        first | omega | rfl | (simp;done) | (subst_vars;simp;done)
      · show (0:Int)≤(b.length:Int)
        first | omega | rfl | (simp;done) | (subst_vars;simp;done)
      show Bg.MulI a b out k0.toNat (0:Int).toNat (0:Int);exact Bg.MulO.inner hf3
    rintro ⟨out_1,out_1s,carry,k1⟩ hF2 kw9 Z2 hZ2;have hF2:(0≤k1)∧(k1≤(b.length:Int))∧(Bg.MulI a b out_1 k0.toNat k1.toNat carry):=hF2;obtain ⟨hf4,hf5,hf6⟩:=hF2;obtain ⟨-, -,⟨kl4, -⟩, -⟩:Lq b bs.v∧Lq a as_.v∧Lq out_1 out_1s.v∧True:=kq kw9;clear kw9;have hol2:=hf6.len;refine V.g [.k (bv (decide (k1 < (b.length:Int))))] fun _ _ G8=>?_;intro S_ s_;refine V.cn (b:=decide (k1 < (b.length:Int))) iDT iDF (fun q3=>?_) (fun q4=>?_)
    · refine nm (b.getD k1.toNat default:Int) fun v2 hv2=>?_;refine V.g [.k (iv k1),.ix g0 (kf false (.f 0) b (fun _=>bs)) k1 (fun _=>⟨by omega,by omega⟩),.le g0 (kf false (.f 0) b (fun _=>bs)) k1 none false v2 hv2 (fun _=>⟨by omega,by omega⟩) false (fun _=>[iv v2]),.k (iv k1),.k (iv v2)] fun _ _ G9=>?_;intro S_ s_
      refine nm (out_1.getD (k0+k1).toNat default:Int) fun v3 hv3=>?_;refine nm (v1 * v2:Int) fun n2 hn2=>?_;refine nm (v3+n2+carry:Int) fun n3 hn3=>?_;have ex:a.getD k0.toNat 0=v1:=hv1.symm
      have ey:b.getD k1.toNat 0=v2:=hv2.symm;have eo:out_1.getD (k0+k1).toNat 0=v3:=hv3.symm;have bx:=hda.get' k0.toNat;have by_:=hdb.get' k1.toNat;have bo:=hf6.dg.get' (k0+k1).toNat;have bc:=hf6.c0;rw [ex] at bx;rw [ey] at by_;rw [eo] at bo;have bp:=Bg.dmul bx by_;refine V.g [.k (out_1s.v),.k (iv k0),.k (iv k1),.a (k0+k1) (by omega) (by omega),.ix g0 (ko true 3 0 out_1 (fun _=>out_1s)) (k0+k1) (fun _=>⟨by omega,by omega⟩),.le g0 (ko true 3 0 out_1 (fun _=>out_1s)) (k0+k1) none false v3 hv3 (fun _=>⟨by omega,by omega⟩) false (fun _=>[iv v3]),.k (iv v1),.k (iv v2),.ar (v1 * v2) n2 hn2 (by omega) (by omega),.a (v3+n2) (by omega) (by omega),.k (iv carry),.ar (v3+n2+carry) n3 hn3 (by omega) (by omega),.k (iv n3)] fun _ _ G10=>?_;intro S_ s_
      have hxx:n3=out_1.getD (k0.toNat+k1.toNat) 0+a.getD k0.toNat 0 * b.getD k1.toNat 0+carry:=by rw [ex,ey,show k0.toNat+k1.toNat=(k0+k1).toNat by omega,eo];omega
      have stp:=Bg.mul_step hf6 hda hdb (by omega) (by omega) hxx;have stp1:=stp.1;have stp2:=stp.2;clear stp;refine nm (n3 % 1048576:Int) fun n4 hn4=>?_;refine nm (n3 / 1048576:Int) fun n5 hn5=>?_;refine nm (out_1.set (k0+k1).toNat n4:List Int) fun l2 hl2=>?_;have hl2n:=congrArg List.length hl2;try simp only [List.length_append,List.length_cons,List.length_nil,List.length_replicate,List.length_set,List.length_take,List.length_drop,List.length_map,List.length_reverse,List.length_range] at hl2n
      refine V.g [.k (out_1s.v),.k (iv k0),.k (iv k1),.a (k0+k1) (by omega) (by omega),.k (iv n3),.andm g0 n3 1048575 n4 20 (by decide) rfl (by rw [hn4];rfl),.k (iv n3),.shrm g0 .i64 .u64 n3 n5 20 (by decide) (by rw [hn5];rfl),.ix g0 (ko true 3 0 out_1 (fun _=>out_1s)) (k0+k1) (fun _=>⟨by omega,by omega⟩),.se g0 9 0 3 true out_1 (fun _=>out_1s) (k0+k1) none v3 n4 hv3 true l2 hl2 (fun _=>⟨by omega,by omega⟩) (fun _=>rfl) [] (fun _ _ _ _=>trivial),.k (iv n5)] fun _ _ G11=>?_;intro S_ s_
      refine V.g [.a (k1+1) (by omega) (by omega),.k (iv (k1+1))] fun _ _ G12=>?_;intro S_ s_
      refine V.rnd hZ2 (l2,out_1s,n5,k1+1) [0,1] (by kernel_rfl) ?_ ?_
      · refine ⟨?_,?_,?_⟩
        · show 0≤(k1+1)
          first | omega | rfl | (simp;done) | (subst_vars;simp;done)
        · show (k1+1)≤(b.length:Int)
          first | omega | rfl | (simp;done) | (subst_vars;simp;done)
        show Bg.MulI a b l2 k0.toNat (k1+1).toNat n5;rw [hl2,hn4,hn5,show (k0+k1).toNat=k0.toNat+k1.toNat by omega,show (k1+1).toNat=k1.toNat+1 by omega];exact stp2
      show ((b.length:Int)-(k1+1)).toNat < ((b.length:Int)-k1).toNat;omega
    refine nm (k0+(b.length:Int):Int) fun n6 hn6=>?_;refine nm (out_1.getD n6.toNat default:Int) fun v4 hv4=>?_;refine nm (out_1.set n6.toNat (v4+carry):List Int) fun l3 hl3=>?_;have hl3n:=congrArg List.length hl3;try simp only [List.length_append,List.length_cons,List.length_nil,List.length_replicate,List.length_set,List.length_take,List.length_drop,List.length_map,List.length_reverse,List.length_range] at hl3n
    have hml:=hf6;rw [show k1.toNat=b.length by omega] at hml;have eo:out_1.getD n6.toNat 0=v4:=hv4.symm;have bo:=hml.dg.get' n6.toNat;have bc:=hml.c0;have hol3:=hml.len;rw [eo] at bo;refine V.g [.k (out_1s.v),.k (iv k0),.k (bs.v),.ln (kf false (.f 0) b (fun _=>bs)),.ar (k0+(b.length:Int)) n6 hn6 (by omega) (by omega),.ix g0 (ko true 3 0 out_1 (fun _=>out_1s)) n6 (fun _=>⟨by omega,by omega⟩),.le g0 (ko true 3 0 out_1 (fun _=>out_1s)) n6 none false v4 hv4 (fun _=>⟨by omega,by omega⟩) false (fun _=>[iv v4]),.k (iv carry),.a (v4+carry) (by omega) (by omega),.ix g0 (ko true 3 0 out_1 (fun _=>out_1s)) n6 (fun _=>⟨by omega,by omega⟩),.se g0 10 0 3 true out_1 (fun _=>out_1s) n6 none v4 (v4+carry) hv4 true l3 hl3 (fun _=>⟨by omega,by omega⟩) (fun _=>rfl) [] (fun _ _ _ _=>trivial)] fun _ _ G13=>?_;intro S_ s_
    refine V.g [.a (k0+1) (by omega) (by omega),.k (iv (k0+1))] fun _ _ G14=>?_;intro S_ s_
    refine V.rnd hZ1 (l3,out_1s,k0+1) [0,1] (by kernel_rfl) ?_ ?_
    · refine ⟨?_,?_,?_⟩
      · show 0≤(k0+1)
        first | omega | rfl | (simp;done) | (subst_vars;simp;done)
      · show (k0+1)≤(a.length:Int)
        first | omega | rfl | (simp;done) | (subst_vars;simp;done)
      show Bg.MulO a b l3 (k0+1).toNat;have hme:=Bg.mul_end (x:=(v4+carry)) hml (by omega) (by rw [show k0.toNat+b.length=n6.toNat by omega,eo]);rw [hl3,show n6.toNat=k0.toNat+b.length by omega,show (k0+1).toNat=k0.toNat+1 by omega];exact hme
    show ((a.length:Int)-(k0+1)).toNat < ((a.length:Int)-k0).toNat;omega
  have hen:=hf3;rw [show k0.toNat=a.length by omega] at hen;have hsd:=hen.dg;have hse:=hen.sum;rw [List.take_length] at hse;refine V.frz 0 true 3 out outs (by kernel_rfl) ?_;refine V.r [.k (outs.v),.ctT g0 1 144 [(kf true (.f 2) out (fun _=>outs)).a] (fun _ G=>trim_ct out outs hsd),.v fun G=>((G 1).ss 0).v] fun _ _ G15 kw17=>?_;intro S_ s_
  obtain ⟨⟨kl5, -⟩, -⟩:Lq (Bg.dig (Bg.nv out)) (((G15 1).ss 0).v)∧True:=kq kw17;clear kw17;have e0:Bg.dig (Bg.nv out)=Bg.dig (Bg.nv a * Bg.nv b):=by rw [hse]
  rw [←e0];exact V.rs [0] [(G15 1).ss 0] [fun _=>{}] [] [3] [] (((G15 1).ss 0).v)
theorem mul_ctv (a:List Int) (as_:SV) (b:List Int) (bs:SV) (hda:Bg.Dg a) (hdb:Bg.Dg b) (hla:a.length≤1099511627776) (hlb:b.length≤1099511627776) (rv0:List Int) (erv0:rv0=Bg.dig (Bg.nv a * Bg.nv b)) :
    Ct Tryz.prog 145 #[as_.v,bs.v] [fs true a as_,fs true b bs] [] (fun g=>((g.ss 0)).v) (fun g=>[fs true rv0 (g.ss 0)]) (fun g=>[]) (fun g=>[]):=by
  subst erv0;exact mul_ct a as_ b bs hda hdb hla hlb
set_option maxRecDepth 10000 in
theorem short_ct (a:List Int) (as_:SV) (d:Int) (hda:Bg.Dg a) (hdd:0 < d∧d < 1048576) (hla:a.length≤1099511627776) :
    Ct Tryz.prog 143 #[as_.v,iv d] [fs true a as_] [] (fun g=>.tuple #[((g.ss 0)).v,iv ((Bg.nv a % d.toNat:Nat):Int)]) (fun g=>[fs true (Bg.dig (Bg.nv a / d.toNat)) (g.ss 0)]) (fun g=>[]) (fun g=>[]):=by
  refine V.fn mo Tryz.func143 38 1 (by kernel_rfl) fun w H ε k0=>?_;obtain ⟨⟨kl1, -⟩, -⟩:Lq a as_.v∧True:=kq k0
  clear k0;refine V.g [.k (.slice none 0 0),.k (iv 0)] fun _ _ G1=>?_;intro S_ s_
  refine nm (List.replicate (a.length:Int).toNat (0:Int):List Int) fun l1 hl1=>?_;have hl1n:=congrArg List.length hl1;try simp only [List.length_append,List.length_cons,List.length_nil,List.length_replicate,List.length_set,List.length_take,List.length_drop,List.length_map,List.length_reverse,List.length_range] at hl1n
  refine V.g [.k (as_.v),.ln (kf false (.f 0) a (fun _=>as_)),.mks 2 0 3 8 (a.length:Int) l1 hl1 (by omega) (by omega) (by omega),.v fun G=>((G 2).s).v] fun _ _ G2=>?_;intro S_ s_
  refine V.g [.k (iv 0)] fun _ _ G3=>?_;intro S_ s_
  refine nm ((a.length:Int)-1:Int) fun n1 hn1=>?_;refine V.g [.k (as_.v),.ln (kf false (.f 0) a (fun _=>as_)),.ar ((a.length:Int)-1) n1 hn1 (by omega) (by omega),.k (iv n1)] fun _ _ G4=>?_;intro S_ s_
  refine V.loop (γ:=List Int × SV × Int × Int) (fun ⟨out,outs,r,i⟩=>⟨[(0,as_.v),(1,iv d),(6,outs.v),(7,iv r),(8,iv i)],[fs false a as_],[os true 3 out outs]⟩) (fun ⟨out,outs,r,i⟩=>(-1≤i)∧(i < (a.length:Int))∧(Bg.ShoI a out d (i+1).toNat r)) (fun ⟨out,outs,r,i⟩=>(i+1).toNat) (l1,(G2 2).s,0,n1) (by kernel_rfl) [0] (by kernel_rfl) ?_ ?_
  · refine ⟨?_,?_,?_⟩
    · show -1≤n1;omega
    · show n1 < (a.length:Int);omega
    show Bg.ShoI a l1 d (n1+1).toNat (0:Int);rw [show (n1+1).toNat=a.length by omega,hl1,show ((a.length:Int)).toNat=a.length by omega];exact Bg.sho_start _ hdd.1
  rintro ⟨out,outs,r,i⟩ hF1 kw5 Z1 hZ1;have hF1:(-1≤i)∧(i < (a.length:Int))∧(Bg.ShoI a out d (i+1).toNat r):=hF1;obtain ⟨hf1,hf2,hf3⟩:=hF1;obtain ⟨-,⟨kl2, -⟩, -⟩:Lq a as_.v∧Lq out outs.v∧True:=kq kw5;clear kw5;refine V.g [.k (iv i),.k (bv (decide (0≤i)))] fun _ _ G5=>?_;intro S_ s_;refine V.cn (b:=decide (0≤i)) iDT iDF (fun q1=>?_) (fun q2=>?_)
  · refine nm (r * 1048576:Int) fun n2 hn2=>?_;refine nm (a.getD i.toNat default:Int) fun v1 hv1=>?_;refine nm (n2+v1:Int) fun n3 hn3=>?_;have ea:a.getD i.toNat 0=v1:=hv1.symm
    have ba:=hda.get' i.toNat;rw [ea] at ba;have br:=hf3.r0;have hol:=hf3.len;refine V.g [.k (iv r),.shlm g0 .i64 .u64 r 20 n2 20 (fun _=>⟨rfl,by decide,by show _=IntKind.i64.wrap (r * 1048576);rw [IntKind.wrap_i64];omega⟩),.k (as_.v),.k (iv i),.ix g0 (kf false (.f 0) a (fun _=>as_)) i (fun _=>⟨by omega,by omega⟩),.le g0 (kf false (.f 0) a (fun _=>as_)) i none false v1 hv1 (fun _=>⟨by omega,by omega⟩) false (fun _=>[iv v1]),.orm g0 n2 r v1 n3 20 (by rw [hn2];rfl) (fun _=>⟨by decide,by omega,⟨by omega,by show _ < (1048576:Int);omega⟩,by rw [hn3,hn2];rfl,by omega⟩),.k (iv n3)] fun _ _ G6=>?_;intro S_ s_
    have hsf:=hf3;rw [show (i+1).toNat=i.toNat+1 by omega] at hsf;have stp:=Bg.sho_step (x:=n3) hsf hda hdd (by omega) (by rw [ea];omega);have stp1:=stp.1;have stp2:=stp.2.1;have stp3:=stp.2.2;clear stp;refine nm (n3 / d:Int) fun n4 hn4=>?_;refine nm (out.getD i.toNat default:Int) fun v2 hv2=>?_;refine nm (out.set i.toNat n4:List Int) fun l2 hl2=>?_;have hl2n:=congrArg List.length hl2;try simp only [List.length_append,List.length_cons,List.length_nil,List.length_replicate,List.length_set,List.length_take,List.length_drop,List.length_map,List.length_reverse,List.length_range] at hl2n
    refine V.g [.k (outs.v),.k (iv i),.k (iv n3),.k (iv d),.qov g0 n3 d n4 hn4 (fun _=>⟨by omega,by omega⟩) (fun _=>by omega),.ix g0 (ko true 3 0 out (fun _=>outs)) i (fun _=>⟨by omega,by omega⟩),.se g0 6 0 3 true out (fun _=>outs) i none v2 n4 hv2 true l2 hl2 (fun _=>⟨by omega,by omega⟩) (fun _=>rfl) [] (fun _ _ _ _=>trivial)] fun _ _ G7=>?_;intro S_ s_
    refine nm (n3 % d:Int) fun n5 hn5=>?_;refine V.g [.k (iv n3),.k (iv d),.rmv g0 n3 d n5 hn5 (fun _=>⟨by omega,by omega⟩),.k (iv n5)] fun _ _ G8=>?_;intro S_ s_
    refine V.g [.k (iv i),.a (i-1) (by omega) (by omega),.k (iv (i-1))] fun _ _ G9=>?_;intro S_ s_
    refine V.rnd hZ1 (l2,outs,n5,i-1) [0] (by kernel_rfl) ?_ ?_
    · refine ⟨?_,?_,?_⟩
      · show -1≤(i-1);omega
      · show (i-1) < (a.length:Int);omega
      show Bg.ShoI a l2 d ((i-1)+1).toNat n5;rw [hl2,hn4,hn5,show (i-1+1).toNat=i.toNat by omega];exact stp3
    show ((i-1)+1).toNat < (i+1).toNat;omega
  have hen:=hf3;rw [show (i+1).toNat=0 by omega] at hen;have hsd:=hen.dg;obtain ⟨hse,hsr⟩:=Bg.sho_end hen;refine V.frz 0 true 3 out outs (by kernel_rfl) ?_;refine V.r [.k (outs.v),.ctT g0 1 144 [(kf true (.f 1) out (fun _=>outs)).a] (fun _ G=>trim_ct out outs hsd),.k (iv r),.v fun G=>((G 1).ss 0).v,.k (iv r)] fun _ _ G10 kw11=>?_;intro S_ s_
  obtain ⟨⟨kl3, -⟩, -⟩:Lq (Bg.dig (Bg.nv out)) (((G10 1).ss 0).v)∧True:=kq kw11;clear kw11;have e0:Bg.dig (Bg.nv out)=Bg.dig (Bg.nv a / d.toNat):=by rw [hse]
  rw [←e0];have e1:r=((Bg.nv a % d.toNat:Nat):Int):=hsr;exact V.rt [0,0] [(G10 1).ss 0] [fun _=>{}] [] [2] [] (.tuple #[((G10 1).ss 0).v,iv r]) (cong1 (fun (x1:Int)=>(.tuple #[((G10 1).ss 0).v,iv x1]:Value)) e1)

open Go Go.Proofs
set_option maxRecDepth 10000 in
theorem checkedT_ct (d:Int) (a:List Int) (c:SV) :
    Ct Tryz.prog 112 #[bv true,ag (DBig.mk d ⟨a,c⟩)] [fs true a c] [] (fun g=>.tuple #[ag (DBig.mk d ⟨a,(g.ss 0)⟩),iv 0]) (fun g=>[fs false a (g.ss 0)]) (fun g=>[]) (fun g=>[]):=by
  refine V.fn mo Tryz.func112 10 2 (by kernel_rfl) fun w H ε k0=>?_;obtain ⟨⟨kl1, -⟩, -⟩:Lq a c.v∧True:=kq k0
  clear k0;refine V.g [.nb 0 0 (fun b=>pp b 0) 27 (fun _=>ca (DBig.mk d ⟨a,c⟩)),.nb 1 1 (fun b=>pp b 0) 27 (fun _=>ca (DBig.mk 0 ⟨[],{}⟩)),.k (iv 0)] fun _ _ G1=>?_;intro S s
  refine V.g [.kb true,.kb false] fun _ _ G2=>?_;intro S s
  refine V.condF (by kernel_rfl) ?_;refine V.g [.ld 0 0 true (fun _=>Dat.cells (DBig.mk d ⟨a,c⟩)),.st 1 (fun _=>.blk ((G1 1).b) (ca (DBig.mk d ⟨a,c⟩)) 27),.k (iv 0)] fun _ _ G3=>?_;intro S s
  exact V.rs [1,0] [c] [fun _=>{}] [] [0] [] (.tuple #[ag (DBig.mk d ⟨a,c⟩),iv 0])
set_option maxRecDepth 10000 in
theorem checkedF_ct (d:Int) (a:List Int) (c:SV) :
    Ct Tryz.prog 112 #[bv false,ag (DBig.mk d ⟨a,c⟩)] [fs true a c] [] (fun g=>.tuple #[ag (DBig.mk 0 ⟨([]:List Int),(g.ss 0)⟩),iv 1]) (fun g=>[fs false ([]:List Int) (g.ss 0)]) (fun g=>[]) (fun g=>[]):=by
  refine V.fn mo Tryz.func112 10 2 (by kernel_rfl) fun w H ε k0=>?_;obtain ⟨⟨kl1, -⟩, -⟩:Lq a c.v∧True:=kq k0
  clear k0;refine V.g [.nb 0 0 (fun b=>pp b 0) 27 (fun _=>ca (DBig.mk d ⟨a,c⟩)),.nb 1 1 (fun b=>pp b 0) 27 (fun _=>ca (DBig.mk 0 ⟨[],{}⟩)),.k (iv 0)] fun _ _ G1=>?_;intro S s
  refine V.g [.kb false,.kb true] fun _ _ G2=>?_;intro S s
  refine V.condT (by kernel_rfl) ?_;refine V.g [.k (ag (DBig.mk 0 ⟨[],{}⟩)),.st 1 (fun _=>.blk ((G1 1).b) (ca (DBig.mk 0 ⟨[],{}⟩)) 27),.k (iv 1)] fun _ _ G3=>?_;intro S s
  refine V.nilF (α:=Int) ?_;exact V.rs [1,0] [{}] [fun _=>{}] [] [1] [] (.tuple #[ag (DBig.mk 0 ⟨([]:List Int),{}⟩),iv 1])
theorem checkedF_ctv (c:Int) (a:List Int) (b:SV) (rv1:List Int) (erv1:rv1=([]:List Int)) :
    Ct Tryz.prog 112 #[bv false,ag (DBig.mk c ⟨a,b⟩)] [fs true a b] [] (fun g=>.tuple #[ag (DBig.mk 0 ⟨rv1,(g.ss 0)⟩),iv 1]) (fun g=>[fs false rv1 (g.ss 0)]) (fun g=>[]) (fun g=>[]):=by
  subst erv1;exact checkedF_ct c a b 
set_option maxRecDepth 10000 in
theorem Mul_ct (e:Int) (c:List Int) (j:SV) (i:Int) (d:List Int) (l:SV) (hla:c.length≤274877906944) (hlb:d.length≤274877906944) :
    Ct Tryz.prog 123 #[ag (DBig.mk e ⟨c,j⟩),ag (DBig.mk i ⟨d,l⟩)] [fs true c j,fs true d l] [] (fun g=>.tuple #[ag (DBig.mk (Bg.oS (Bg.RtB e c∧Bg.RtB i d) (Bg.zv e c * Bg.zv i d)) ⟨Bg.oD (Bg.RtB e c∧Bg.RtB i d) (Bg.zv e c * Bg.zv i d),(g.ss 0)⟩),iv (if (Bg.RtB e c∧Bg.RtB i d) then (0:Int) else 1)]) (fun g=>[fs true (Bg.oD (Bg.RtB e c∧Bg.RtB i d) (Bg.zv e c * Bg.zv i d)) (g.ss 0)]) (fun g=>[]) (fun g=>[]):=by
  refine V.fn mo Tryz.func123 32 3 (by kernel_rfl) fun w H ε k0=>?_;obtain ⟨⟨kl1, -⟩,⟨kl2, -⟩, -⟩:Lq c j.v∧Lq d l.v∧True:=kq k0
  clear k0;refine V.g [.nb 0 0 (fun b=>pp b 0) 27 (fun _=>ca (DBig.mk e ⟨c,j⟩)),.nb 1 1 (fun b=>pp b 0) 27 (fun _=>ca (DBig.mk i ⟨d,l⟩)),.nb 2 2 (fun b=>pp b 0) 27 (fun _=>ca (DBig.mk 0 ⟨[],{}⟩)),.k (iv 0)] fun _ _ G1=>?_;intro S s
  refine nm ((!(decide (Bg.RtB e c))) || (!(decide (Bg.RtB i d))):Bool) fun p1 hp1=>?_;refine V.g [.ld 0 0 true (fun _=>Dat.cells (DBig.mk e ⟨c,j⟩)),.cp g0 1 74 [(kf false (.f 0) c (fun _=>j)).a] (fun _ G=>bright_ct e c j),.k (bv (!(decide (Bg.RtB e c)))),.k (bv (!(decide (Bg.RtB e c)))),.ld 1 0 true (fun _=>Dat.cells (DBig.mk i ⟨d,l⟩)),.cp (gF (b:=!(decide (Bg.RtB e c))) (iNF iDT)) 5 74 [(kf false (.f 1) d (fun _=>l)).a] (fun hg G=>bright_ct i d l),.k (bv (!(decide (Bg.RtB i d)))),.orn g0 false (!(decide (Bg.RtB e c))) (!(decide (Bg.RtB i d))) p1 hp1] fun _ _ G2=>?_;intro S s
  refine V.cn (b:=p1) (iN hp1 (iOT (iNT iDF) (iNT iDF))) (iN hp1 (iOF (iNF iDT) (iNF iDT))) (fun q1=>?_) (fun q2=>?_)
  · have hNR:¬ (Bg.RtB e c∧Bg.RtB i d):=by rintro ⟨h1,h2⟩;rcases q1 with h | h;exact h h1;exact h h2
    refine nl (([]:List Int)) fun l1 hl1 hl1n=>?_;refine V.r [.k (ag (DBig.mk 0 ⟨[],{}⟩)),.ctT g0 1 112 [(knil (α:=Int)).a] (fun _ G=>checkedF_ctv (0:Int) ([]:List Int) ({}) l1 hl1),.v fun G=>ag (DBig.mk 0 ⟨l1,(G 1).ss 0⟩),.k (iv 1),.st 2 (fun G=>.blk ((G1 2).b) (ca (DBig.mk 0 ⟨l1,(G 1).ss 0⟩)) 27),.k (iv 1)] fun _ _ G3 kw3=>?_;intro S s
    obtain ⟨⟨kl3, -⟩, -⟩:Lq l1 (((G3 1).ss 0).v)∧True:=kq kw3;clear kw3;have e1:l1=Bg.oD (Bg.RtB e c∧Bg.RtB i d) (Bg.zv e c * Bg.zv i d):=by
      rw [hl1];exact (Bg.oD_n hNR _).symm
    subst e1;have e0:(0:Int)=Bg.oS (Bg.RtB e c∧Bg.RtB i d) (Bg.zv e c * Bg.zv i d):=(Bg.oS_n hNR _).symm;have e2:(1:Int)=if (Bg.RtB e c∧Bg.RtB i d) then (0:Int) else 1:=(if_neg hNR).symm
    exact V.rt [2,0] [(G3 1).ss 0] [fun _=>{}] [] [2] [] (.tuple #[ag (DBig.mk 0 ⟨(Bg.oD (Bg.RtB e c∧Bg.RtB i d) (Bg.zv e c * Bg.zv i d)),(G3 1).ss 0⟩),iv 1]) (cong2 (fun (x0 x2:Int)=>(.tuple #[.agg #[iv x0,((G3 1).ss 0).v],iv x2]:Value)) e0 e2)
  have hRR:(Bg.RtB e c∧Bg.RtB i d):=by first | exact q2 | exact ⟨Decidable.not_not.1 (q2).1,Decidable.not_not.1 (q2).2⟩
  have hsm:=Bg.sml hRR.1 hRR.2;refine nm (e * i:Int) fun n1 hn1=>?_;refine nl (Bg.dig (Bg.nv c * Bg.nv d)) fun l2 hl2 hl2n=>?_;refine nm (Bg.sg0 (Bg.nv l2) n1:Int) fun n2 hn2=>?_;refine nl (Bg.dig (Bg.nv l2)) fun l3 hl3 hl3n=>?_;refine V.r [.k (pp ((G1 0).b) 0),.ld 0 0 false (fun _=>[iv e]),.k (pp ((G1 1).b) 0),.ld 1 0 false (fun _=>[iv i]),.ar (e * i) n1 hn1 (by rw [hn1];exact hsm.1) (by rw [hn1];exact hsm.2),.k (pp ((G1 0).b) 1),.ld 0 1 false (fun _=>[j.v]),.k (pp ((G1 1).b) 1),.ld 1 1 false (fun _=>[l.v]),.ct g0 9 145 false [] [] [(kf false (.f 0) c (fun _=>j)).a,(kf false (.f 1) d (fun _=>l)).a] (fun _ G=>mul_ctv c j d l hRR.1.dg hRR.2.dg (by omega) (by omega) l2 hl2),.ctT g0 10 115 [(kf true (.g 9 0) l2 (fun G=>(G 9).ss 0)).a] (fun _ G=>signed_ctv n1 l2 ((G 9).ss 0) (by subst_vars;exact Bg.dig_Dg _) n2 hn2 l3 hl3),.ctT g0 11 112 [(kf true (.g 10 0) l3 (fun G=>(G 10).ss 0)).a] (fun _ G=>checkedT_ct n2 l3 ((G 10).ss 0)),.v fun G=>ag (DBig.mk n2 ⟨l3,(G 11).ss 0⟩),.k (iv 0),.st 2 (fun G=>.blk ((G1 2).b) (ca (DBig.mk n2 ⟨l3,(G 11).ss 0⟩)) 27),.k (iv 0)] fun _ _ G4 kw4=>?_;intro S s
  obtain ⟨⟨kl4, -⟩,⟨kl5, -⟩,⟨kl6, -⟩, -⟩:Lq l2 (((G4 9).ss 0).v)∧Lq l3 (((G4 10).ss 0).v)∧Lq l3 (((G4 11).ss 0).v)∧True:=kq kw4;clear kw4;have e1:l3=Bg.oD (Bg.RtB e c∧Bg.RtB i d) (Bg.zv e c * Bg.zv i d):=by
    rw [hl3,hl2];rw [Bg.oD_y hRR];exact Bg.mulD hRR.1 hRR.2
  subst e1;have e0:n2=Bg.oS (Bg.RtB e c∧Bg.RtB i d) (Bg.zv e c * Bg.zv i d):=by
    rw [hn2,hl2,hn1];rw [Bg.oS_y hRR];exact Bg.mulS hRR.1 hRR.2
  have e2:(0:Int)=if (Bg.RtB e c∧Bg.RtB i d) then (0:Int) else 1:=(if_pos hRR).symm
  exact V.rt [2,0] [(G4 11).ss 0] [fun _=>{}] [] [4] [] (.tuple #[ag (DBig.mk n2 ⟨(Bg.oD (Bg.RtB e c∧Bg.RtB i d) (Bg.zv e c * Bg.zv i d)),(G4 11).ss 0⟩),iv 0]) (cong2 (fun (x0 x2:Int)=>(.tuple #[.agg #[iv x0,((G4 11).ss 0).v],iv x2]:Value)) e0 e2)
theorem Mul_ctv (c:Int) (a:List Int) (e:SV) (d:Int) (b:List Int) (f:SV) (hla:a.length≤274877906944) (hlb:b.length≤274877906944) (rv0:Int) (erv0:rv0=Bg.oS (Bg.RtB c a∧Bg.RtB d b) (Bg.zv c a * Bg.zv d b)) (rv1:List Int) (erv1:rv1=Bg.oD (Bg.RtB c a∧Bg.RtB d b) (Bg.zv c a * Bg.zv d b)) (rv2:Int) (erv2:rv2=if (Bg.RtB c a∧Bg.RtB d b) then (0:Int) else 1) :
    Ct Tryz.prog 123 #[ag (DBig.mk c ⟨a,e⟩),ag (DBig.mk d ⟨b,f⟩)] [fs true a e,fs true b f] [] (fun g=>.tuple #[ag (DBig.mk rv0 ⟨rv1,(g.ss 0)⟩),iv rv2]) (fun g=>[fs true rv1 (g.ss 0)]) (fun g=>[]) (fun g=>[]):=by
  subst erv0 erv1 erv2;exact Mul_ct c a e d b f hla hlb

open Go Go.Proofs
set_option maxRecDepth 10000 in
theorem settle_ct (ul:List Int) (us:SV) (ulo uhi:Nat) (ua u ub v:List Int) (vs:SV) (guess:Int) (hul:ul=ua ++u ++ub) (hulo:ulo=ua.length) (huhi:uhi=ua.length+u.length) (hdu:Bg.Dg u) (hdv:Bg.Dg v) (hlv:v.length≤u.length) (hg:0≤guess∧guess < 1048576) (h1:(guess.toNat-1) * Bg.nv v≤Bg.nv u) (hlu:u.length≤4398046511104) :
    Ct Tryz.prog 146 #[(us.sub 1 ulo uhi).v,vs.v,iv guess] [fs true v vs] [os false 3 ul us] (fun g=>iv (Bg.setG u v guess)) (fun g=>[]) (fun g=>[os true 3 (ua ++(Bg.setP u v guess) ++ub) us]) (fun g=>[]):=by
  subst hul hulo huhi;refine V.fn mo Tryz.func146 78 0 (by kernel_rfl) fun w H ε k0=>?_;obtain ⟨⟨kl1, -⟩,⟨kl2, -⟩, -⟩:Lq v vs.v∧Lq (ua ++u ++ub) us.v∧True:=kq k0
  clear k0;refine V.tro 3 (ua ++u ++ub) us 0 (by kernel_rfl) (fun _ _=>trivial) ?_;refine V.g [.k (iv 0)] fun _ _ G1=>?_;intro S s
  refine V.g [.k (iv 0)] fun _ _ G2=>?_;intro S s
  refine V.g [.k ((us.sub 1 ua.length (ua.length+u.length)).v),.ln (kop true 3 0 ua u ub u.length (by omega) (fun _=>us)),.k (iv 0)] fun _ _ G3=>?_;intro S s
  refine V.loop (γ:=List Int × Int × Int) (fun ⟨cur,borrow,k0⟩=>⟨[(0,(us.sub 1 ua.length (ua.length+u.length)).v),(1,vs.v),(2,iv guess),(7,iv borrow),(13,iv (u.length:Int)),(14,iv k0)],[fs false v vs],[os true 3 (ua ++cur ++ub) us]⟩) (fun ⟨cur,borrow,k0⟩=>(0≤k0)∧(k0≤(u.length:Int))∧(Bg.SetI u v cur guess k0.toNat borrow)) (fun ⟨cur,borrow,k0⟩=>((u.length:Int)-k0).toNat) (u,0,0) (by kernel_rfl) [0] (by kernel_rfl) ?_ ?_
  · refine ⟨?_,?_,?_⟩
    · show 0≤(0:Int)
      first | omega | rfl | (simp;done) | (subst_vars;simp;done)
    · show (0:Int)≤(u.length:Int)
      first | omega | rfl | (simp;done) | (subst_vars;simp;done)
    show Bg.SetI u v u guess (0:Int).toNat (0:Int);exact Bg.set_start _ _ _ hdu
  rintro ⟨cur,borrow,k0⟩ hF1 kw4 Z1 hZ1;have hF1:(0≤k0)∧(k0≤(u.length:Int))∧(Bg.SetI u v cur guess k0.toNat borrow):=hF1;obtain ⟨hf1,hf2,hf3⟩:=hF1;clear kw4;have hol:=hf3.len;have hc0:=hf3.c0;have hda_:=hf3.dg.get' k0.toNat;refine V.g [.k (bv (decide (k0 < (u.length:Int))))] fun _ _ G4=>?_;intro S s;refine V.cn (b:=decide (k0 < (u.length:Int))) iDT iDF (fun q1=>?_) (fun q2=>?_)
  · refine V.g [.k (iv k0),.k (iv k0)] fun _ _ G5=>?_;intro S s
    refine nm (cur.getD k0.toNat default:Int) fun v1 hv1=>?_;have e1:cur.getD k0.toNat 0=v1:=hv1.symm
    refine V.g [.k ((us.sub 1 ua.length (ua.length+u.length)).v),.k (iv k0),.ix g0 (kop true 3 0 ua cur ub u.length (by omega) (fun _=>us)) k0 (fun _=>⟨by omega,by omega⟩),.le g0 (kop true 3 0 ua cur ub u.length (by omega) (fun _=>us)) k0 none false v1 hv1 (fun _=>⟨by omega,by omega⟩) false (fun _=>[iv v1]),.k (iv borrow),.a (v1-borrow) (by omega) (by omega),.k (iv (v1-borrow))] fun _ _ G6=>?_;intro S s
    refine V.g [.k (iv k0),.k (vs.v),.ln (kf false (.f 0) v (fun _=>vs)),.k (bv (decide (k0 < (v.length:Int))))] fun _ _ G7=>?_;intro S s
    refine V.cn (b:=decide (k0 < (v.length:Int))) iDT iDF (fun q3=>?_) (fun q4=>?_)
    · refine nm (v.getD k0.toNat default:Int) fun v2 hv2=>?_;refine nm (guess * v2:Int) fun n1 hn1=>?_;refine nm (v1-borrow-n1:Int) fun n2 hn2=>?_;have e2:v.getD k0.toNat 0=v2:=hv2.symm
      have hdv_:=hdv.get' k0.toNat;rw [e2] at hdv_;have bp:=Bg.dmul hg hdv_;refine V.g [.k (iv (v1-borrow)),.k (iv guess),.k (vs.v),.k (iv k0),.ix g0 (kf false (.f 0) v (fun _=>vs)) k0 (fun _=>⟨by omega,by omega⟩),.le g0 (kf false (.f 0) v (fun _=>vs)) k0 none false v2 hv2 (fun _=>⟨by omega,by omega⟩) false (fun _=>[iv v2]),.ar (guess * v2) n1 hn1 (by omega) (by omega),.ar (v1-borrow-n1) n2 hn2 (by omega) (by omega),.k (iv n2)] fun _ _ G8=>?_;intro S s
      have hxx:n2=cur.getD k0.toNat 0-borrow-guess * v.getD k0.toNat 0:=by rw [e1,e2];omega
      have stp:=Bg.set_step hf3 hdv hg (by omega) hxx;have stp1:=stp.1;have stp2:=stp.2;clear stp;refine nm (n2 % 1048576:Int) fun n3 hn3=>?_;refine nm (cur.set k0.toNat n3:List Int) fun l1 hl1=>?_;have hl1n:=congrArg List.length hl1;try simp only [List.length_append,List.length_cons,List.length_nil,List.length_replicate,List.length_set,List.length_take,List.length_drop,List.length_map,List.length_reverse,List.length_range] at hl1n
      refine V.g [.k ((us.sub 1 ua.length (ua.length+u.length)).v),.k (iv k0),.k (iv n2),.andm g0 n2 1048575 n3 20 (by decide) rfl (by rw [hn3];rfl),.ix g0 (kop true 3 0 ua cur ub u.length (by omega) (fun _=>us)) k0 (fun _=>⟨by omega,by omega⟩),.sep g0 5 0 3 true ua cur ub u.length (by omega) (fun _=>us) k0 n3 l1 hl1 (fun _=>⟨by omega,by omega⟩) (fun _=>trivial)] fun _ _ G9=>?_;intro S s
      refine nm (n2 / 1048576:Int) fun n4 hn4=>?_;refine V.g [.k (iv n2),.shrm g0 .i64 .u64 n2 n4 20 (by decide) (by rw [hn4];rfl),.ng n4 (-n4) rfl (by omega) (by omega),.k (iv (-n4))] fun _ _ G10=>?_;intro S s
      refine V.g [.a (k0+1) (by omega) (by omega),.k (iv (k0+1))] fun _ _ G11=>?_;intro S s
      refine V.rnd hZ1 (l1, -n4,k0+1) [0] (by kernel_rfl) ?_ ?_
      · refine ⟨?_,?_,?_⟩
        · show 0≤(k0+1)
          first | omega | rfl | (simp;done) | (subst_vars;simp;done)
        · show (k0+1)≤(u.length:Int)
          first | omega | rfl | (simp;done) | (subst_vars;simp;done)
        show Bg.SetI u v l1 guess (k0+1).toNat (-n4);rw [hl1,hn3,show (k0+1).toNat=k0.toNat+1 by omega];rw [hn4];exact stp2
      show ((u.length:Int)-(k0+1)).toNat < ((u.length:Int)-k0).toNat;omega
    have e2:=Bg.getD_out (l:=v) (i:=k0.toNat) (by omega);have hxx:v1-borrow=cur.getD k0.toNat 0-borrow-guess * v.getD k0.toNat 0:=by rw [e1,e2];omega
    have stp:=Bg.set_step hf3 hdv hg (by omega) hxx;have stp1:=stp.1;have stp2:=stp.2;clear stp;refine nm ((v1-borrow) % 1048576:Int) fun n5 hn5=>?_;refine nm (cur.set k0.toNat n5:List Int) fun l2 hl2=>?_;have hl2n:=congrArg List.length hl2;try simp only [List.length_append,List.length_cons,List.length_nil,List.length_replicate,List.length_set,List.length_take,List.length_drop,List.length_map,List.length_reverse,List.length_range] at hl2n
    refine V.g [.k ((us.sub 1 ua.length (ua.length+u.length)).v),.k (iv k0),.k (iv (v1-borrow)),.andm g0 (v1-borrow) 1048575 n5 20 (by decide) rfl (by rw [hn5];rfl),.ix g0 (kop true 3 0 ua cur ub u.length (by omega) (fun _=>us)) k0 (fun _=>⟨by omega,by omega⟩),.sep g0 5 0 3 true ua cur ub u.length (by omega) (fun _=>us) k0 n5 l2 hl2 (fun _=>⟨by omega,by omega⟩) (fun _=>trivial)] fun _ _ G12=>?_;intro S s
    refine nm ((v1-borrow) / 1048576:Int) fun n6 hn6=>?_;refine V.g [.k (iv (v1-borrow)),.shrm g0 .i64 .u64 (v1-borrow) n6 20 (by decide) (by rw [hn6];rfl),.ng n6 (-n6) rfl (by omega) (by omega),.k (iv (-n6))] fun _ _ G13=>?_;intro S s
    refine V.g [.a (k0+1) (by omega) (by omega),.k (iv (k0+1))] fun _ _ G14=>?_;intro S s
    refine V.rnd hZ1 (l2, -n6,k0+1) [0] (by kernel_rfl) ?_ ?_
    · refine ⟨?_,?_,?_⟩
      · show 0≤(k0+1)
        first | omega | rfl | (simp;done) | (subst_vars;simp;done)
      · show (k0+1)≤(u.length:Int)
        first | omega | rfl | (simp;done) | (subst_vars;simp;done)
      show Bg.SetI u v l2 guess (k0+1).toNat (-n6);rw [hl2,hn5,show (k0+1).toNat=k0.toNat+1 by omega];rw [hn6];exact stp2
    show ((u.length:Int)-(k0+1)).toNat < ((u.length:Int)-k0).toNat;omega
  have hmd:=hf3;rw [show k0.toNat=u.length by omega] at hmd;have hm2:=Bg.set_mid hmd hlv hg.1;refine V.g [.k (iv borrow),.k (bv (decide (borrow=0)))] fun _ _ G15=>?_;intro S s
  refine V.cn (b:=decide (borrow=0)) iDT iDF (fun q5=>?_) (fun q6=>?_)
  · refine V.g [.k (iv guess),.k (iv guess)] fun _ _ G16=>?_;intro S s
    have e0:guess=Bg.setG u v guess:=by
      have h0:=hm2.1.1 q5;unfold Bg.setG;rw [if_pos h0]
    have eL0:cur=Bg.setP u v guess:=hm2.2 q5;refine V.alt (fun (zz1:List Int)=>(⟨[(6,iv guess)],[fs false v vs],[os true 3 (ua ++zz1 ++ub) us]⟩:St)) eL0 [0] (by kernel_rfl) ?_;exact V.rt [0] [] [] [] [] [0] (iv guess) (cong1 (fun (x0:Int)=>(iv x0:Value)) e0)
  have hol5:=hmd.len;refine V.g [.k (iv 0)] fun _ _ G17=>?_;intro S s
  refine V.g [.k ((us.sub 1 ua.length (ua.length+u.length)).v),.ln (kop true 3 0 ua cur ub u.length (by omega) (fun _=>us)),.k (iv 0)] fun _ _ G18=>?_;intro S s
  refine V.loop (γ:=List Int × Int × Int) (fun ⟨cur2,carry,k1⟩=>⟨[(0,(us.sub 1 ua.length (ua.length+u.length)).v),(1,vs.v),(2,iv guess),(10,iv carry),(48,iv (cur.length:Int)),(49,iv k1)],[fs false v vs],[os true 3 (ua ++cur2 ++ub) us]⟩) (fun ⟨cur2,carry,k1⟩=>(0≤k1)∧(k1≤(cur.length:Int))∧(Bg.BakI cur v cur2 k1.toNat carry)) (fun ⟨cur2,carry,k1⟩=>((cur.length:Int)-k1).toNat) (cur,0,0) (by kernel_rfl) [0] (by kernel_rfl) ?_ ?_
  · refine ⟨?_,?_,?_⟩
    · show 0≤(0:Int)
      first | omega | rfl | (simp;done) | (subst_vars;simp;done)
    · show (0:Int)≤(cur.length:Int)
      first | omega | rfl | (simp;done) | (subst_vars;simp;done)
    show Bg.BakI cur v cur (0:Int).toNat (0:Int);exact Bg.bak_start _ _ hmd.dg
  rintro ⟨cur2,carry,k1⟩ hF2 kw20 Z2 hZ2;have hF2:(0≤k1)∧(k1≤(cur.length:Int))∧(Bg.BakI cur v cur2 k1.toNat carry):=hF2;obtain ⟨hf4,hf5,hf6⟩:=hF2;clear kw20;have hol:=hf6.len;have hc0:=hf6.c0;have hda_:=hf6.dg.get' k1.toNat;have hdb_:=hdv.get' k1.toNat;refine V.g [.k (bv (decide (k1 < (cur.length:Int))))] fun _ _ G19=>?_;intro S s;refine V.cn (b:=decide (k1 < (cur.length:Int))) iDT iDF (fun q7=>?_) (fun q8=>?_)
  · refine V.g [.k (iv k1),.k (iv k1)] fun _ _ G20=>?_;intro S s
    refine nm (cur2.getD k1.toNat default:Int) fun v3 hv3=>?_;have e1:cur2.getD k1.toNat 0=v3:=hv3.symm
    refine V.g [.k (iv carry),.k ((us.sub 1 ua.length (ua.length+u.length)).v),.k (iv k1),.ix g0 (kop true 3 0 ua cur2 ub u.length (by omega) (fun _=>us)) k1 (fun _=>⟨by omega,by omega⟩),.le g0 (kop true 3 0 ua cur2 ub u.length (by omega) (fun _=>us)) k1 none false v3 hv3 (fun _=>⟨by omega,by omega⟩) false (fun _=>[iv v3]),.a (carry+v3) (by omega) (by omega),.k (iv (carry+v3))] fun _ _ G21=>?_;intro S s
    refine V.g [.k (iv k1),.k (vs.v),.ln (kf false (.f 0) v (fun _=>vs)),.k (bv (decide (k1 < (v.length:Int))))] fun _ _ G22=>?_;intro S s
    refine V.cn (b:=decide (k1 < (v.length:Int))) iDT iDF (fun q9=>?_) (fun q10=>?_)
    · refine nm (v.getD k1.toNat default:Int) fun v4 hv4=>?_;refine nm (carry+v3+v4:Int) fun n7 hn7=>?_;have e2:v.getD k1.toNat 0=v4:=hv4.symm
      refine V.g [.k (iv (carry+v3)),.k (vs.v),.k (iv k1),.ix g0 (kf false (.f 0) v (fun _=>vs)) k1 (fun _=>⟨by omega,by omega⟩),.le g0 (kf false (.f 0) v (fun _=>vs)) k1 none false v4 hv4 (fun _=>⟨by omega,by omega⟩) false (fun _=>[iv v4]),.ar (carry+v3+v4) n7 hn7 (by omega) (by omega),.k (iv n7)] fun _ _ G23=>?_;intro S s
      have hxx:n7=carry+cur2.getD k1.toNat 0+v.getD k1.toNat 0:=by rw [e1,e2];omega
      refine nm (n7 % 1048576:Int) fun n8 hn8=>?_;refine nm (cur2.set k1.toNat n8:List Int) fun l3 hl3=>?_;have hl3n:=congrArg List.length hl3;try simp only [List.length_append,List.length_cons,List.length_nil,List.length_replicate,List.length_set,List.length_take,List.length_drop,List.length_map,List.length_reverse,List.length_range] at hl3n
      refine V.g [.k ((us.sub 1 ua.length (ua.length+u.length)).v),.k (iv k1),.k (iv n7),.andm g0 n7 1048575 n8 20 (by decide) rfl (by rw [hn8];rfl),.ix g0 (kop true 3 0 ua cur2 ub u.length (by omega) (fun _=>us)) k1 (fun _=>⟨by omega,by omega⟩),.sep g0 5 0 3 true ua cur2 ub u.length (by omega) (fun _=>us) k1 n8 l3 hl3 (fun _=>⟨by omega,by omega⟩) (fun _=>trivial)] fun _ _ G24=>?_;intro S s
      refine nm (n7 / 1048576:Int) fun n9 hn9=>?_;refine V.g [.k (iv n7),.shrm g0 .i64 .u64 n7 n9 20 (by decide) (by rw [hn9];rfl),.k (iv n9)] fun _ _ G25=>?_;intro S s
      refine V.g [.a (k1+1) (by omega) (by omega),.k (iv (k1+1))] fun _ _ G26=>?_;intro S s
      refine V.rnd hZ2 (l3,n9,k1+1) [0] (by kernel_rfl) ?_ ?_
      · refine ⟨?_,?_,?_⟩
        · show 0≤(k1+1)
          first | omega | rfl | (simp;done) | (subst_vars;simp;done)
        · show (k1+1)≤(cur.length:Int)
          first | omega | rfl | (simp;done) | (subst_vars;simp;done)
        show Bg.BakI cur v l3 (k1+1).toNat n9;rw [hl3,hn8,hn9,show (k1+1).toNat=k1.toNat+1 by omega];exact Bg.bak_step hf6 hdv (by omega) hxx
      show ((cur.length:Int)-(k1+1)).toNat < ((cur.length:Int)-k1).toNat;omega
    have e2:=Bg.getD_out (l:=v) (i:=k1.toNat) (by omega);have hxx:carry+v3=carry+cur2.getD k1.toNat 0+v.getD k1.toNat 0:=by rw [e1,e2];omega
    refine nm ((carry+v3) % 1048576:Int) fun n10 hn10=>?_;refine nm (cur2.set k1.toNat n10:List Int) fun l4 hl4=>?_;have hl4n:=congrArg List.length hl4;try simp only [List.length_append,List.length_cons,List.length_nil,List.length_replicate,List.length_set,List.length_take,List.length_drop,List.length_map,List.length_reverse,List.length_range] at hl4n
    refine V.g [.k ((us.sub 1 ua.length (ua.length+u.length)).v),.k (iv k1),.k (iv (carry+v3)),.andm g0 (carry+v3) 1048575 n10 20 (by decide) rfl (by rw [hn10];rfl),.ix g0 (kop true 3 0 ua cur2 ub u.length (by omega) (fun _=>us)) k1 (fun _=>⟨by omega,by omega⟩),.sep g0 5 0 3 true ua cur2 ub u.length (by omega) (fun _=>us) k1 n10 l4 hl4 (fun _=>⟨by omega,by omega⟩) (fun _=>trivial)] fun _ _ G27=>?_;intro S s
    refine nm ((carry+v3) / 1048576:Int) fun n11 hn11=>?_;refine V.g [.k (iv (carry+v3)),.shrm g0 .i64 .u64 (carry+v3) n11 20 (by decide) (by rw [hn11];rfl),.k (iv n11)] fun _ _ G28=>?_;intro S s
    refine V.g [.a (k1+1) (by omega) (by omega),.k (iv (k1+1))] fun _ _ G29=>?_;intro S s
    refine V.rnd hZ2 (l4,n11,k1+1) [0] (by kernel_rfl) ?_ ?_
    · refine ⟨?_,?_,?_⟩
      · show 0≤(k1+1)
        first | omega | rfl | (simp;done) | (subst_vars;simp;done)
      · show (k1+1)≤(cur.length:Int)
        first | omega | rfl | (simp;done) | (subst_vars;simp;done)
      show Bg.BakI cur v l4 (k1+1).toNat n11;rw [hl4,hn10,hn11,show (k1+1).toNat=k1.toNat+1 by omega];exact Bg.bak_step hf6 hdv (by omega) hxx
    show ((cur.length:Int)-(k1+1)).toNat < ((cur.length:Int)-k1).toNat;omega
  have hbk:=hf6;rw [show k1.toNat=u.length by omega] at hbk;obtain ⟨hE1,hE2⟩:=Bg.set_end hmd hbk hdu hlv hg.1 q6 h1;refine V.g [.k (iv guess),.a (guess-1) (by omega) (by omega),.k (iv (guess-1))] fun _ _ G30=>?_;intro S s
  have e0:(guess-1)=Bg.setG u v guess:=by first | exact hE1 | (rw [←hE1])
  have eL0:cur2=Bg.setP u v guess:=hE2;refine V.alt (fun (zz2:List Int)=>(⟨[(6,iv (guess-1))],[fs false v vs],[os true 3 (ua ++zz2 ++ub) us]⟩:St)) eL0 [0] (by kernel_rfl) ?_;exact V.rt [0] [] [] [] [] [0] (iv (guess-1)) (cong1 (fun (x0:Int)=>(iv x0:Value)) e0)

open Go Go.Proofs
set_option maxRecDepth 10000 in
set_option maxHeartbeats 4000000 in
theorem div_ct (a:List Int) (as_:SV) (b:List Int) (bs:SV) (hda:Bg.Dg a) (hdb:Bg.Dg b) (hza:Bg.Nz a) (hzb:Bg.Nz b) (hnb:b≠[]) (hla:a.length≤549755813888) (hlb:b.length≤549755813888) :
    Ct Tryz.prog 114 #[as_.v,bs.v] [fs true a as_,fs true b bs] [] (fun g=>.tuple #[((g.ss 0)).v,((g.ss 1)).v]) (fun g=>[fs true (Bg.dig (Bg.nv a / Bg.nv b)) (g.ss 0),fs true (Bg.dig (Bg.nv a % Bg.nv b)) (g.ss 1)]) (fun g=>[]) (fun g=>[]):=by
  refine V.fn mo Tryz.func114 170 2 (by kernel_rfl) fun w H ε k0=>?_;obtain ⟨⟨kl1, -⟩,⟨kl2, -⟩, -⟩:Lq a as_.v∧Lq b bs.v∧True:=kq k0
  clear k0;refine V.g [.k (.slice none 0 0),.k (.slice none 0 0)] fun _ _ G1=>?_;intro S_ s_
  refine V.g [.k (as_.v),.k (bs.v),.cp g0 2 126 [(kf false (.f 0) a (fun _=>as_)).a,(kf false (.f 1) b (fun _=>bs)).a] (fun _ G=>cmpd_ct a as_ b bs (by assumption) (by assumption) (by assumption) (by assumption)),.k (bv (decide (Bg.cmpI (Bg.nv a) (Bg.nv b) < 0)))] fun _ _ G2=>?_;intro S_ s_
  refine V.cn (b:=decide (Bg.cmpI (Bg.nv a) (Bg.nv b) < 0)) iDT iDF (fun q1=>?_) (fun q2=>?_)
  · have hlt:=Bg.cmp_lt.1 q1;have hlt:Bg.nv a < Bg.nv b:=by omega
    refine V.r [.k (as_.v),.ct g0 1 113 false [] [] [(kf false (.f 0) a (fun _=>as_)).a] (fun _ G=>clonef_ct a as_ (by omega)),.k (.slice none 0 0),.v fun G=>((G 1).ss 0).v] fun _ _ G3 kw3=>?_;intro S_ s_
    obtain ⟨⟨kl3, -⟩, -⟩:Lq a (((G3 1).ss 0).v)∧True:=kq kw3;clear kw3;refine V.nilF (α:=Int) ?_;have e0:([]:List Int)=Bg.dig (Bg.nv a / Bg.nv b):=by rw [(Bg.div_less hlt).1]
    rw [←e0];have e1:a=Bg.dig (Bg.nv a % Bg.nv b):=Bg.dig_self hda hza (Bg.div_less hlt).2;rw [←e1];exact V.rs [0,0] [{},(G3 1).ss 0] [fun _=>{},fun _=>{}] [] [3,2] [] (.tuple #[SV.v ({}),((G3 1).ss 0).v])
  have hge:Bg.nv b≤Bg.nv a:=Nat.not_lt.1 fun h=>q2 (Bg.cmp_lt.2 (by omega))
  refine V.g [.k (bs.v),.ln (kf false (.f 1) b (fun _=>bs)),.k (bv (decide ((b.length:Int)=1)))] fun _ _ G4=>?_;intro S_ s_
  refine V.cn (b:=decide ((b.length:Int)=1)) iDT iDF (fun q3=>?_) (fun q4=>?_)
  · have hnb0:=Bg.nv_len1 (l:=b) (by omega);have hbt0:=Bg.top_pos hnb hdb hzb;rw [show b.length-1=0 by omega] at hbt0;have hbd0:=hdb.get' 0;refine nm (b.getD (0:Int).toNat default:Int) fun v1 hv1=>?_;have ev:b.getD 0 0=v1:=hv1.symm
    rw [ev] at hbt0 hbd0 hnb0;refine V.r [.k (as_.v),.k (bs.v),.ix g0 (kf false (.f 1) b (fun _=>bs)) 0 (fun _=>⟨by omega,by omega⟩),.le g0 (kf false (.f 1) b (fun _=>bs)) (0:Int) none false v1 hv1 (fun _=>⟨by omega,by omega⟩) false (fun _=>[iv v1]),.ct g0 4 143 false [] [] [(kf false (.f 0) a (fun _=>as_)).a] (fun _ G=>short_ct a as_ v1 hda (by omega) (by omega)),.v fun G=>.tuple #[((G 4).ss 0).v,iv ((Bg.nv a % v1.toNat:Nat):Int)],.v fun G=>((G 4).ss 0).v,.k (iv ((Bg.nv a % v1.toNat:Nat):Int)),.v fun G=>((G 4).ss 0).v,.k (iv ((Bg.nv a % v1.toNat:Nat):Int))] fun _ _ G5 kw5=>?_;intro S_ s_
    obtain ⟨⟨kl4, -⟩, -⟩:Lq (Bg.dig (Bg.nv a / v1.toNat)) (((G5 4).ss 0).v)∧True:=kq kw5;clear kw5;have hrr:=Bg.nv_r (a:=Bg.nv a) (d:=v1.toNat) (by omega) (by omega);have hnb1:v1.toNat=Bg.nv b:=hnb0.symm;refine V.r [.k (((G5 4).ss 0).v),.k (iv ((Bg.nv a % v1.toNat:Nat):Int)),.nr 2 true 3 [((Bg.nv a % v1.toNat:Nat):Int)] [] (fun _ _ _ _ _=>trivial) (fun _=>#[iv ((Bg.nv a % v1.toNat:Nat):Int)]),.ctT g0 3 144 [(kf true (.g 2 0) [((Bg.nv a % v1.toNat:Nat):Int)] (fun G=>⟨atB (G 2).b,1,1⟩)).a] (fun _ G=>trim_ct [((Bg.nv a % v1.toNat:Nat):Int)] ⟨atB (G 2).b,1,1⟩ hrr.1),.k (((G5 4).ss 0).v),.v fun G=>((G 3).ss 0).v] fun _ _ G6 kw6=>?_;intro S_ s_;obtain ⟨⟨kl5, -⟩,⟨kl6, -⟩, -⟩:Lq [((Bg.nv a % v1.toNat:Nat):Int)] (SV.v ⟨atB (G6 2).b,1,1⟩)∧Lq (Bg.dig (Bg.nv [((Bg.nv a % v1.toNat:Nat):Int)])) (((G6 3).ss 0).v)∧True:=kq kw6;clear kw6;have e0:Bg.dig (Bg.nv a / v1.toNat)=Bg.dig (Bg.nv a / Bg.nv b):=by rw [hnb1]
    rw [←e0];have e1:Bg.dig (Bg.nv [((Bg.nv a % v1.toNat:Nat):Int)])=Bg.dig (Bg.nv a % Bg.nv b):=by rw [hrr.2,hnb1]
    rw [←e1];exact V.rs [0,0] [(G5 4).ss 0,(G6 3).ss 0] [fun _=>{},fun _=>{}] [] [2,4] [] (.tuple #[((G5 4).ss 0).v,((G6 3).ss 0).v])
  have hbt:=Bg.top_pos hnb hdb hzb;have hbl2:2≤b.length:=by have:b.length≠0:=fun e=>hnb (List.eq_nil_of_length_eq_zero e);omega
  have hbd:=hdb.get' (b.length-1);refine V.g [.k (iv 1)] fun _ _ G7=>?_;intro S_ s_
  refine V.loop (γ:=Int) (fun shift=>⟨[(0,as_.v),(1,bs.v),(8,iv shift)],[fs false a as_,fs false b bs],[.no,.no]⟩) (fun shift=>(1≤shift)∧(b.getD (b.length-1) 0 * shift < 1048576)) (fun shift=>(1048576-shift).toNat) 1 (by kernel_rfl) [0,1] (by kernel_rfl) ?_ ?_
  · refine ⟨?_,?_⟩
    · show 1≤(1:Int);omega
    show b.getD (b.length-1) 0 * (1:Int) < 1048576;omega
  rintro shift hF1 kw8 Z1 hZ1;have hF1:(1≤shift)∧(b.getD (b.length-1) 0 * shift < 1048576):=hF1;obtain ⟨hf1,hf2⟩:=hF1;clear kw8;refine nm ((b.length:Int)-1:Int) fun n1 hn1=>?_;refine nm (b.getD n1.toNat default:Int) fun v2 hv2=>?_;refine nm (v2 * shift:Int) fun n2 hn2=>?_;have eb:b.getD (b.length-1) 0=v2:=by rw [show b.length-1=n1.toNat by omega];exact hv2.symm
  have hbs:=hf2;rw [eb] at hbs;have hsl1:=Bg.sh_lt (b:=v2) (by omega) hf1 hbs;have hbp:=Bg.dmul (x:=v2) (y:=shift) (by omega) (by omega);refine V.g [.k (bs.v),.k (bs.v),.ln (kf false (.f 1) b (fun _=>bs)),.ar ((b.length:Int)-1) n1 hn1 (by omega) (by omega),.ix g0 (kf false (.f 1) b (fun _=>bs)) n1 (fun _=>⟨by omega,by omega⟩),.le g0 (kf false (.f 1) b (fun _=>bs)) n1 none false v2 hv2 (fun _=>⟨by omega,by omega⟩) false (fun _=>[iv v2]),.k (iv shift),.ar (v2 * shift) n2 hn2 (by omega) (by omega),.k (bv (decide (n2 < 524288)))] fun _ _ G8=>?_;intro S_ s_
  refine V.cn (b:=decide (n2 < 524288)) iDT iDF (fun q5=>?_) (fun q6=>?_)
  · refine nm (shift * 2:Int) fun n3 hn3=>?_;refine V.g [.k (iv shift),.ar (shift * 2) n3 hn3 (by omega) (by omega),.k (iv n3)] fun _ _ G9=>?_;intro S_ s_
    refine V.rnd hZ1 n3 [0,1] (by kernel_rfl) ?_ ?_
    · refine ⟨?_,?_⟩
      · show 1≤n3;omega
      show b.getD (b.length-1) 0 * n3 < 1048576;rw [eb];rw [hn3];exact Bg.sh_step hn2 q5
    show (1048576-n3).toNat < (1048576-shift).toNat;omega
  have hsl:=Bg.sh_lt hbt hf1 hf2;have hs1:=hf1;have hdsh:Bg.Dg [shift]:=Bg.Dg.one (by omega);have enS:=Bg.nv_one shift;have hS0:0 < Bg.nv [shift]:=by omega
  have hAl:a.length≤(Bg.dig (Bg.nv a * Bg.nv [shift])).length:=Bg.dig_len_mono hda hza (Nat.le_mul_of_pos_right _ hS0);have hVl:b.length≤(Bg.dig (Bg.nv b * Bg.nv [shift])).length:=Bg.dig_len_mono hdb hzb (Nat.le_mul_of_pos_right _ hS0);have hAu:=Bg.mul_dig_len a [shift] hda hdsh;have hVu:=Bg.mul_dig_len b [shift] hdb hdsh;simp only [List.length_cons,List.length_nil] at hAu hVu;have hvd:Bg.Dg (Bg.dig (Bg.nv b * Bg.nv [shift])):=Bg.dig_Dg _;have hvz:Bg.Nz (Bg.dig (Bg.nv b * Bg.nv [shift])):=Bg.dig_Nz _;have hvn:(Bg.dig (Bg.nv b * Bg.nv [shift]))≠[]:=fun e=>by have:=congrArg List.length e;simp only [List.length_nil] at this;omega
  have hvt:=Bg.top_pos hvn hvd hvz;have hVA:(Bg.dig (Bg.nv b * Bg.nv [shift])).length≤(Bg.dig (Bg.nv a * Bg.nv [shift])).length:=Bg.len_le (Bg.dig_Dg _) hvd hvz (by rw [Bg.nv_dig,Bg.nv_dig];exact Nat.mul_le_mul_right _ hge);refine nm ((Bg.dig (Bg.nv a * Bg.nv [shift])) ++([0]:List Int):List Int) fun l1 hl1=>?_;have hl1n:=congrArg List.length hl1;try simp only [List.length_append,List.length_cons,List.length_nil,List.length_replicate,List.length_set,List.length_take,List.length_drop,List.length_map,List.length_reverse,List.length_range] at hl1n
  refine V.r [.k (as_.v),.k (iv shift),.nr 2 true 3 [shift] [] (fun _ _ _ _ _=>trivial) (fun _=>#[iv shift]),.ct g0 3 145 false [] [0] [(kf false (.f 0) a (fun _=>as_)).a,(kf true (.g 2 0) [shift] (fun G=>⟨atB (G 2).b,1,1⟩)).a] (fun _ G=>mulo_ct a as_ [shift] ⟨atB (G 2).b,1,1⟩ hda hdsh (by omega) (by simp)),.nr 4 true 3 ([0]:List Int) [] (fun _ _ _ _ _=>trivial) (fun _=>#[iv 0]),.ap 5 0 3 8 false true (Bg.dig (Bg.nv a * Bg.nv [shift])) (fun G=>(G 3).ss 0) (kf true (.g 4 0) ([0]:List Int) (fun G=>⟨atB (G 4).b,1,1⟩)) true l1 hl1 (by (try simp only [List.length_append,List.length_cons,List.length_nil,List.length_replicate,List.length_set,List.length_take,List.length_drop,List.length_map,List.length_reverse,List.length_range]);omega) (fun h=>by cases h) (.inr fun _ _=>trivial),.k (bs.v),.k (iv shift),.nr 8 true 3 [shift] [] (fun _ _ _ _ _=>trivial) (fun _=>#[iv shift]),.ct g0 9 145 false [] [] [(kf false (.f 1) b (fun _=>bs)).a,(kf true (.g 8 0) [shift] (fun G=>⟨atB (G 8).b,1,1⟩)).a] (fun _ G=>mul_ct b bs [shift] ⟨atB (G 8).b,1,1⟩ hdb hdsh (by omega) (by simp)),.v fun G=>((G 5).s).v,.v fun G=>((G 9).ss 0).v] fun _ _ G10 kw11=>?_;intro S_ s_
  obtain ⟨⟨kl7, -⟩,⟨kl8, -⟩,⟨kl9, -⟩,⟨kl10, -⟩, -⟩:Lq [shift] (SV.v ⟨atB (G10 2).b,1,1⟩)∧Lq ([0]:List Int) (SV.v ⟨atB (G10 4).b,1,1⟩)∧Lq [shift] (SV.v ⟨atB (G10 8).b,1,1⟩)∧Lq (Bg.dig (Bg.nv b * Bg.nv [shift])) (((G10 9).ss 0).v)∧Lq l1 (((G10 5).s).v)∧True:=kq kw11;clear kw11;refine V.g [.k (((G10 5).s).v),.ln (ko true 3 0 l1 (fun _=>(G10 5).s)),.k (as_.v),.ln (kf false (.f 0) a (fun _=>as_)),.k (bv (decide ((l1.length:Int)=(a.length:Int))))] fun _ _ G11=>?_;intro S_ s_;refine V.cn (b:=decide ((l1.length:Int)=(a.length:Int))) iDT iDF (fun q7=>?_) (fun q8=>?_)
  · exfalso;omega
  refine V.g [.k (((G10 9).ss 0).v),.ln (kf true (.f 5) (Bg.dig (Bg.nv b * Bg.nv [shift])) (fun _=>(G10 9).ss 0)),.k (iv ((Bg.dig (Bg.nv b * Bg.nv [shift])).length:Int))] fun _ _ G12=>?_;intro S_ s_
  refine nm ((l1.length:Int)-((Bg.dig (Bg.nv b * Bg.nv [shift])).length:Int):Int) fun n4 hn4=>?_;refine nm (List.replicate n4.toNat (0:Int):List Int) fun l2 hl2=>?_;have hl2n:=congrArg List.length hl2;try simp only [List.length_append,List.length_cons,List.length_nil,List.length_replicate,List.length_set,List.length_take,List.length_drop,List.length_map,List.length_reverse,List.length_range] at hl2n
  refine V.g [.k (((G10 5).s).v),.ln (ko true 3 0 l1 (fun _=>(G10 5).s)),.k (iv ((Bg.dig (Bg.nv b * Bg.nv [shift])).length:Int)),.ar ((l1.length:Int)-((Bg.dig (Bg.nv b * Bg.nv [shift])).length:Int)) n4 hn4 (by omega) (by omega),.mks 4 1 3 8 n4 l2 hl2 (by omega) (by omega) (by omega),.v fun G=>((G 4).s).v] fun _ _ G13=>?_;intro S_ s_
  refine nm ((l2.length:Int)-1:Int) fun n5 hn5=>?_;refine V.g [.k (((G13 4).s).v),.ln (ko true 3 1 l2 (fun _=>(G13 4).s)),.ar ((l2.length:Int)-1) n5 hn5 (by omega) (by omega),.k (iv n5)] fun _ _ G14=>?_;intro S_ s_
  refine V.loop (γ:=List Int × SV × List Int × SV × Int) (fun ⟨u,us,q,qs,i⟩=>⟨[(8,iv shift),(9,us.v),(10,((G10 9).ss 0).v),(11,iv ((Bg.dig (Bg.nv b * Bg.nv [shift])).length:Int)),(12,qs.v),(13,iv i)],[fs true (Bg.dig (Bg.nv b * Bg.nv [shift])) ((G10 9).ss 0)],[os true 3 u us,os true 3 q qs]⟩) (fun ⟨u,us,q,qs,i⟩=>(-1≤i)∧(i < (q.length:Int))∧(Bg.DivI (Bg.dig (Bg.nv a * Bg.nv [shift]) ++[0]) (Bg.dig (Bg.nv b * Bg.nv [shift])) u q (i+1).toNat)∧(q.length+(Bg.dig (Bg.nv b * Bg.nv [shift])).length≤a.length+2)) (fun ⟨u,us,q,qs,i⟩=>(i+1).toNat) (l1,(G10 5).s,l2,(G13 4).s,n5) (by kernel_rfl) [5] (by kernel_rfl) ?_ ?_
  · refine ⟨?_,?_,?_,?_⟩
    · show -1≤n5;omega
    · show n5 < (l2.length:Int);omega
    · show Bg.DivI (Bg.dig (Bg.nv a * Bg.nv [shift]) ++[0]) (Bg.dig (Bg.nv b * Bg.nv [shift])) l1 l2 (n5+1).toNat;have hds:=Bg.div_start (a:=Bg.dig (Bg.nv a * Bg.nv [shift])) (q:=l2) (Bg.dig_Dg _) hvd hvz hvn hVA (by rw [hl2];congr 1;omega);rw [show (n5+1).toNat=l2.length by omega,hl1];exact hds
    show l2.length+(Bg.dig (Bg.nv b * Bg.nv [shift])).length≤a.length+2
    first | omega | rfl | (simp;done) | (subst_vars;simp;done)
  rintro ⟨u,us,q,qs,i⟩ hF2 kw16 Z2 hZ2;have hF2:(-1≤i)∧(i < (q.length:Int))∧(Bg.DivI (Bg.dig (Bg.nv a * Bg.nv [shift]) ++[0]) (Bg.dig (Bg.nv b * Bg.nv [shift])) u q (i+1).toNat)∧(q.length+(Bg.dig (Bg.nv b * Bg.nv [shift])).length≤a.length+2):=hF2;obtain ⟨hf3,hf4,hf5,hf6⟩:=hF2;obtain ⟨-,⟨kl11, -⟩,⟨kl12, -⟩, -⟩:Lq (Bg.dig (Bg.nv b * Bg.nv [shift])) (((G10 9).ss 0).v)∧Lq u us.v∧Lq q qs.v∧True:=kq kw16;clear kw16;have hdl:=hf5.len;have hud:=hf5.dg;refine V.g [.k (iv i),.k (bv (decide (0≤i)))] fun _ _ G15=>?_;intro S_ s_;refine V.cn (b:=decide (0≤i)) iDT iDF (fun q9=>?_) (fun q10=>?_)
  · refine nm (i+((Bg.dig (Bg.nv b * Bg.nv [shift])).length:Int):Int) fun n6 hn6=>?_;refine nm (u.getD n6.toNat default:Int) fun v3 hv3=>?_;refine nm (v3 * 1048576:Int) fun n7 hn7=>?_;refine nm (u.getD (n6-1).toNat default:Int) fun v4 hv4=>?_;refine nm (n7+v4:Int) fun n8 hn8=>?_;have hdi:=hf5
    rw [show (i+1).toNat=i.toNat+1 by omega] at hdi;have e_v3:u.getD (i.toNat+(Bg.dig (Bg.nv b * Bg.nv [shift])).length) 0=v3:=by rw [show i.toNat+(Bg.dig (Bg.nv b * Bg.nv [shift])).length=n6.toNat by omega];exact hv3.symm
    have b_v3:=hud.get' (i.toNat+(Bg.dig (Bg.nv b * Bg.nv [shift])).length);rw [e_v3] at b_v3;have e_v4:u.getD (i.toNat+(Bg.dig (Bg.nv b * Bg.nv [shift])).length-1) 0=v4:=by rw [show i.toNat+(Bg.dig (Bg.nv b * Bg.nv [shift])).length-1=(n6-1).toNat by omega];exact hv4.symm
    have b_v4:=hud.get' (i.toNat+(Bg.dig (Bg.nv b * Bg.nv [shift])).length-1);rw [e_v4] at b_v4;refine V.g [.k (us.v),.k (iv i),.k (iv ((Bg.dig (Bg.nv b * Bg.nv [shift])).length:Int)),.ar (i+((Bg.dig (Bg.nv b * Bg.nv [shift])).length:Int)) n6 hn6 (by omega) (by omega),.ix g0 (ko true 3 0 u (fun _=>us)) n6 (fun _=>⟨by omega,by omega⟩),.le g0 (ko true 3 0 u (fun _=>us)) n6 none false v3 hv3 (fun _=>⟨by omega,by omega⟩) false (fun _=>[iv v3]),.shlm g0 .i64 .u64 v3 20 n7 20 (fun _=>⟨rfl,by decide,by show _=IntKind.i64.wrap (v3 * 1048576);rw [IntKind.wrap_i64];omega⟩),.k (us.v),.k (iv i),.k (iv ((Bg.dig (Bg.nv b * Bg.nv [shift])).length:Int)),.ar (i+((Bg.dig (Bg.nv b * Bg.nv [shift])).length:Int)) n6 hn6 (by omega) (by omega),.a (n6-1) (by omega) (by omega),.ix g0 (ko true 3 0 u (fun _=>us)) (n6-1) (fun _=>⟨by omega,by omega⟩),.le g0 (ko true 3 0 u (fun _=>us)) (n6-1) none false v4 hv4 (fun _=>⟨by omega,by omega⟩) false (fun _=>[iv v4]),.orm g0 n7 v3 v4 n8 20 (by rw [hn7];rfl) (fun _=>⟨by decide,by omega,⟨by omega,by show _ < (1048576:Int);omega⟩,by rw [hn8,hn7];rfl,by omega⟩),.k (iv n8)] fun _ _ G16=>?_;intro S_ s_
    refine nm (((Bg.dig (Bg.nv b * Bg.nv [shift])).length:Int)-1:Int) fun n9 hn9=>?_;refine nm ((Bg.dig (Bg.nv b * Bg.nv [shift])).getD n9.toNat default:Int) fun v5 hv5=>?_;refine nm (n8 / v5:Int) fun n10 hn10=>?_;refine nm (n8 % v5:Int) fun n11 hn11=>?_;have e_v5:(Bg.dig (Bg.nv b * Bg.nv [shift])).getD ((Bg.dig (Bg.nv b * Bg.nv [shift])).length-1) 0=v5:=by rw [show (Bg.dig (Bg.nv b * Bg.nv [shift])).length-1=n9.toNat by omega];exact hv5.symm
    have b_v5:=hvd.get' ((Bg.dig (Bg.nv b * Bg.nv [shift])).length-1);rw [e_v5] at b_v5 hvt;have hq1:=Int.ediv_nonneg (show 0≤n8 by omega) (show 0≤v5 by omega);have hq2:=Int.ediv_le_self v5 (show 0≤n8 by omega);refine V.g [.k (iv n8),.k (((G10 9).ss 0).v),.k (iv ((Bg.dig (Bg.nv b * Bg.nv [shift])).length:Int)),.ar (((Bg.dig (Bg.nv b * Bg.nv [shift])).length:Int)-1) n9 hn9 (by omega) (by omega),.ix g0 (kf true (.f 0) (Bg.dig (Bg.nv b * Bg.nv [shift])) (fun _=>(G10 9).ss 0)) n9 (fun _=>⟨by omega,by omega⟩),.le g0 (kf true (.f 0) (Bg.dig (Bg.nv b * Bg.nv [shift])) (fun _=>(G10 9).ss 0)) n9 none false v5 hv5 (fun _=>⟨by omega,by omega⟩) false (fun _=>[iv v5]),.qov g0 n8 v5 n10 hn10 (fun _=>⟨by omega,by omega⟩) (fun _=>by omega),.k (iv n8),.k (((G10 9).ss 0).v),.k (iv ((Bg.dig (Bg.nv b * Bg.nv [shift])).length:Int)),.ar (((Bg.dig (Bg.nv b * Bg.nv [shift])).length:Int)-1) n9 hn9 (by omega) (by omega),.ix g0 (kf true (.f 0) (Bg.dig (Bg.nv b * Bg.nv [shift])) (fun _=>(G10 9).ss 0)) n9 (fun _=>⟨by omega,by omega⟩),.le g0 (kf true (.f 0) (Bg.dig (Bg.nv b * Bg.nv [shift])) (fun _=>(G10 9).ss 0)) n9 none false v5 hv5 (fun _=>⟨by omega,by omega⟩) false (fun _=>[iv v5]),.rmv g0 n8 v5 n11 hn11 (fun _=>⟨by omega,by omega⟩),.k (iv n10),.k (iv n11)] fun _ _ G17=>?_;intro S_ s_
    refine V.loop (γ:=Int × Int) (fun ⟨guess,rest⟩=>⟨[(8,iv shift),(9,us.v),(10,((G10 9).ss 0).v),(11,iv ((Bg.dig (Bg.nv b * Bg.nv [shift])).length:Int)),(12,qs.v),(13,iv i),(15,iv guess),(16,iv rest)],[fs true (Bg.dig (Bg.nv b * Bg.nv [shift])) ((G10 9).ss 0)],[os true 3 u us,os true 3 q qs]⟩) (fun ⟨guess,rest⟩=>(Bg.Gss (Bg.dig (Bg.nv b * Bg.nv [shift])) u i.toNat guess rest)) (fun ⟨guess,rest⟩=>guess.toNat) (n10,n11) (by kernel_rfl) [0] (by kernel_rfl) ?_ ?_
    · · show Bg.Gss (Bg.dig (Bg.nv b * Bg.nv [shift])) u i.toNat n10 n11;exact Bg.gss_start hdi hvd (by omega) (by omega) (by omega) (t:=n8) (by rw [e_v3,e_v4];omega) (by rw [e_v5,hn10]) (by rw [e_v5,hn11])
    rintro ⟨guess,rest⟩ hF3 kw20 Z3 hZ3;have hf7:Bg.Gss (Bg.dig (Bg.nv b * Bg.nv [shift])) u i.toNat guess rest:=hF3;clear kw20;have hg0:=hf7.g0;have hg1:=hf7.g1;have hr0:=hf7.r0;refine nm (((Bg.dig (Bg.nv b * Bg.nv [shift])).length:Int)-2:Int) fun n12 hn12=>?_;refine nm ((Bg.dig (Bg.nv b * Bg.nv [shift])).getD n12.toNat default:Int) fun v6 hv6=>?_;refine nm (guess * v6:Int) fun n13 hn13=>?_;refine nm (rest * 1048576:Int) fun n14 hn14=>?_;refine nm (i+((Bg.dig (Bg.nv b * Bg.nv [shift])).length:Int):Int) fun n15 hn15=>?_;refine nm (u.getD (n15-2).toNat default:Int) fun v7 hv7=>?_;refine nm (n14+v7:Int) fun n16 hn16=>?_;refine nm ((decide (rest < 1048576)) && (decide (n16 < n13)):Bool) fun p1 hp1=>?_;have e_v6:(Bg.dig (Bg.nv b * Bg.nv [shift])).getD ((Bg.dig (Bg.nv b * Bg.nv [shift])).length-2) 0=v6:=by rw [show (Bg.dig (Bg.nv b * Bg.nv [shift])).length-2=n12.toNat by omega];exact hv6.symm
    have b_v6:=hvd.get' ((Bg.dig (Bg.nv b * Bg.nv [shift])).length-2);rw [e_v6] at b_v6;have e_v7:u.getD (i.toNat+(Bg.dig (Bg.nv b * Bg.nv [shift])).length-2) 0=v7:=by rw [show i.toNat+(Bg.dig (Bg.nv b * Bg.nv [shift])).length-2=(n15-2).toNat by omega];exact hv7.symm
    have b_v7:=hud.get' (i.toNat+(Bg.dig (Bg.nv b * Bg.nv [shift])).length-2);rw [e_v7] at b_v7;have bm:=Bg.gmul ⟨hg0,hg1⟩ b_v6;refine V.g [.k (iv guess),.k (bv (decide (1048576≤guess))),.k (bv (decide (1048576≤guess))),.k (iv rest),.k (bv (decide (rest < 1048576))),.k (bv (decide (rest < 1048576))),.k (iv guess),.k (((G10 9).ss 0).v),.k (iv ((Bg.dig (Bg.nv b * Bg.nv [shift])).length:Int)),.arg ((gF (b:=decide (1048576≤guess)) iDF).T (b:=decide (rest < 1048576)) iDT) (((Bg.dig (Bg.nv b * Bg.nv [shift])).length:Int)-2) n12 hn12 (fun hg=>by omega),.ix ((gF (b:=decide (1048576≤guess)) iDF).T (b:=decide (rest < 1048576)) iDT) (kf true (.f 0) (Bg.dig (Bg.nv b * Bg.nv [shift])) (fun _=>(G10 9).ss 0)) n12 (fun hg=>⟨by omega,by omega⟩),.le ((gF (b:=decide (1048576≤guess)) iDF).T (b:=decide (rest < 1048576)) iDT) (kf true (.f 0) (Bg.dig (Bg.nv b * Bg.nv [shift])) (fun _=>(G10 9).ss 0)) n12 none false v6 hv6 (fun hg=>⟨by omega,by omega⟩) false (fun _=>[iv v6]),.arg ((gF (b:=decide (1048576≤guess)) iDF).T (b:=decide (rest < 1048576)) iDT) (guess * v6) n13 hn13 (fun hg=>by omega),.k (iv rest),.shlm ((gF (b:=decide (1048576≤guess)) iDF).T (b:=decide (rest < 1048576)) iDT) .i64 .u64 rest 20 n14 20 (fun hg=>⟨rfl,by decide,by show _=IntKind.i64.wrap (rest * 1048576);rw [IntKind.wrap_i64];omega⟩),.k (us.v),.k (iv i),.k (iv ((Bg.dig (Bg.nv b * Bg.nv [shift])).length:Int)),.arg ((gF (b:=decide (1048576≤guess)) iDF).T (b:=decide (rest < 1048576)) iDT) (i+((Bg.dig (Bg.nv b * Bg.nv [shift])).length:Int)) n15 hn15 (fun hg=>by omega),.arg ((gF (b:=decide (1048576≤guess)) iDF).T (b:=decide (rest < 1048576)) iDT) (n15-2) (n15-2) rfl (fun hg=>by omega),.ix ((gF (b:=decide (1048576≤guess)) iDF).T (b:=decide (rest < 1048576)) iDT) (ko true 3 0 u (fun _=>us)) (n15-2) (fun hg=>⟨by omega,by omega⟩),.le ((gF (b:=decide (1048576≤guess)) iDF).T (b:=decide (rest < 1048576)) iDT) (ko true 3 0 u (fun _=>us)) (n15-2) none false v7 hv7 (fun hg=>⟨by omega,by omega⟩) false (fun _=>[iv v7]),.orm ((gF (b:=decide (1048576≤guess)) iDF).T (b:=decide (rest < 1048576)) iDT) n14 rest v7 n16 20 (by rw [hn14];rfl) (fun hg=>⟨by decide,by omega,⟨by omega,by show _ < (1048576:Int);omega⟩,by rw [hn16,hn14];rfl,by omega⟩),.k (bv (decide (n16 < n13))),.andn (gF (b:=decide (1048576≤guess)) iDF) false (decide (rest < 1048576)) (decide (n16 < n13)) p1 hp1,.or g0 false (decide (1048576≤guess)) p1] fun _ _ G18=>?_;intro S_ s_
    refine V.cn (b:=(decide (1048576≤guess)) || p1) (iOT iDT (iN hp1 (iAT iDT iDT))) (iOF iDF (iN hp1 (iAF iDF iDF))) (fun q11=>?_) (fun q12=>?_)
    · have hcnd:1048576≤guess∨rest < 1048576∧rest * 1048576+u.getD (i.toNat+(Bg.dig (Bg.nv b * Bg.nv [shift])).length-2) 0 < guess * (Bg.dig (Bg.nv b * Bg.nv [shift])).getD ((Bg.dig (Bg.nv b * Bg.nv [shift])).length-2) 0:=by rw [e_v6,e_v7];omega
      refine V.g [.k (iv guess),.a (guess-1) (by omega) (by omega),.k (iv (guess-1))] fun _ _ G19=>?_;intro S_ s_
      refine nm (((Bg.dig (Bg.nv b * Bg.nv [shift])).length:Int)-1:Int) fun n17 hn17=>?_;refine nm ((Bg.dig (Bg.nv b * Bg.nv [shift])).getD n17.toNat default:Int) fun v8 hv8=>?_;have e_v8:(Bg.dig (Bg.nv b * Bg.nv [shift])).getD ((Bg.dig (Bg.nv b * Bg.nv [shift])).length-1) 0=v8:=by rw [show (Bg.dig (Bg.nv b * Bg.nv [shift])).length-1=n17.toNat by omega];exact hv8.symm
      have b_v8:=hvd.get' ((Bg.dig (Bg.nv b * Bg.nv [shift])).length-1);rw [e_v8] at b_v8;have gq:=Bg.gss_nat hf7 hud hvd;have gq1:=hf7.eq;refine V.g [.k (iv rest),.k (((G10 9).ss 0).v),.k (iv ((Bg.dig (Bg.nv b * Bg.nv [shift])).length:Int)),.ar (((Bg.dig (Bg.nv b * Bg.nv [shift])).length:Int)-1) n17 hn17 (by omega) (by omega),.ix g0 (kf true (.f 0) (Bg.dig (Bg.nv b * Bg.nv [shift])) (fun _=>(G10 9).ss 0)) n17 (fun _=>⟨by omega,by omega⟩),.le g0 (kf true (.f 0) (Bg.dig (Bg.nv b * Bg.nv [shift])) (fun _=>(G10 9).ss 0)) n17 none false v8 hv8 (fun _=>⟨by omega,by omega⟩) false (fun _=>[iv v8]),.a (rest+v8) (by omega) (by omega),.k (iv (rest+v8))] fun _ _ G20=>?_;intro S_ s_
      refine V.rnd hZ3 (guess-1,rest+v8) [0] (by kernel_rfl) ?_ ?_
      · · show Bg.Gss (Bg.dig (Bg.nv b * Bg.nv [shift])) u i.toNat (guess-1) (rest+v8);have hl:=(Bg.gss_less hf7 hdi hvd (by omega) (by omega) (by omega) hcnd).1;rw [e_v8] at hl;rw [show guess-1=guess-1 from rfl];exact hl
      show (guess-1).toNat < guess.toNat;have hl:=(Bg.gss_less hf7 hdi hvd (by omega) (by omega) (by omega) hcnd).2;omega
    have hcnf:¬ 1048576≤guess∧(¬rest < 1048576∨¬ rest * 1048576+u.getD (i.toNat+(Bg.dig (Bg.nv b * Bg.nv [shift])).length-2) 0 < guess * (Bg.dig (Bg.nv b * Bg.nv [shift])).getD ((Bg.dig (Bg.nv b * Bg.nv [shift])).length-2) 0):=by rw [e_v6,e_v7];omega
    refine nm ((u.take (n15+1).toNat).drop i.toNat:List Int) fun l3 hl3=>?_;have hl3n:=congrArg List.length hl3;try simp only [List.length_append,List.length_cons,List.length_nil,List.length_replicate,List.length_set,List.length_take,List.length_drop,List.length_map,List.length_reverse,List.length_range] at hl3n
    refine nm (q.getD i.toNat default:Int) fun v9 hv9=>?_;refine nm (q.set i.toNat (Bg.setG ((u.take (n15+1).toNat).drop i.toNat) (Bg.dig (Bg.nv b * Bg.nv [shift])) guess):List Int) fun l4 hl4=>?_;have hl4n:=congrArg List.length hl4;try simp only [List.length_append,List.length_cons,List.length_nil,List.length_replicate,List.length_set,List.length_take,List.length_drop,List.length_map,List.length_reverse,List.length_range] at hl4n
    have hgE:=Bg.gss_end hf7 hdi hvd (by omega) (by omega) (by omega) hcnf;have hwin:(u.take (n15+1).toNat).drop i.toNat=Bg.win u i.toNat (Bg.dig (Bg.nv b * Bg.nv [shift])).length:=Bg.win_is (by omega);have hwl:=Bg.win_len hdi (by omega);refine V.g [.k (qs.v),.k (iv i),.k (us.v),.k (iv i),.k (iv i),.k (iv ((Bg.dig (Bg.nv b * Bg.nv [shift])).length:Int)),.ar (i+((Bg.dig (Bg.nv b * Bg.nv [shift])).length:Int)) n15 hn15 (by omega) (by omega),.a (n15+1) (by omega) (by omega),.slv g0 (ko true 3 0 u (fun _=>us)) (some i) (some (n15+1)) i (n15+1) rfl rfl (fun _=>⟨by omega,by omega,by omega⟩),.k (((G10 9).ss 0).v),.k (iv guess),.ct g0 11 146 false [0] [] [(kf true (.f 0) (Bg.dig (Bg.nv b * Bg.nv [shift])) (fun _=>(G10 9).ss 0)).a] (fun _ G=>settle_ct u us i.toNat ((n15+1).toNat) (u.take i.toNat) ((u.take (n15+1).toNat).drop i.toNat) (u.drop (n15+1).toNat) (Bg.dig (Bg.nv b * Bg.nv [shift])) ((G10 9).ss 0) guess (cut3 (by omega) (by omega)) (cutlo (by omega)) (cuthi (by omega) (by omega)) (by rw [hwin];exact (hud.drop _).take _) hvd (by rw [hwin,hwl];omega) hgE.1 (by rw [hwin];exact hgE.2.1) (by rw [hwin,hwl];omega)),.ix g0 (ko true 3 1 q (fun _=>qs)) i (fun _=>⟨by omega,by omega⟩),.se g0 13 1 3 true q (fun _=>qs) i none v9 (Bg.setG ((u.take (n15+1).toNat).drop i.toNat) (Bg.dig (Bg.nv b * Bg.nv [shift])) guess) hv9 true l4 hl4 (fun _=>⟨by omega,by omega⟩) (fun _=>rfl) [] (fun _ _ _ _=>trivial)] fun _ _ G21=>?_;intro S_ s_
    refine V.g [.k (iv i),.a (i-1) (by omega) (by omega),.k (iv (i-1))] fun _ _ G22=>?_;intro S_ s_
    refine V.rnd hZ2 ((u.take i.toNat) ++(Bg.setP ((u.take (n15+1).toNat).drop i.toNat) (Bg.dig (Bg.nv b * Bg.nv [shift])) guess) ++(u.drop (n15+1).toNat),us,l4,qs,i-1) [0] (by kernel_rfl) ?_ ?_
    · refine ⟨?_,?_,?_,?_⟩
      · show -1≤(i-1);omega
      · show (i-1) < (l4.length:Int);omega
      · show Bg.DivI (Bg.dig (Bg.nv a * Bg.nv [shift]) ++[0]) (Bg.dig (Bg.nv b * Bg.nv [shift])) ((u.take i.toNat) ++(Bg.setP ((u.take (n15+1).toNat).drop i.toNat) (Bg.dig (Bg.nv b * Bg.nv [shift])) guess) ++(u.drop (n15+1).toNat)) l4 ((i-1)+1).toNat;have hst:=Bg.div_step (x:=(Bg.setG ((u.take (n15+1).toNat).drop i.toNat) (Bg.dig (Bg.nv b * Bg.nv [shift])) guess)) hdi hvd (by omega) hgE.2.2 (by rw [hwin]);rw [hl4,show (i-1+1).toNat=i.toNat by omega];rw [hwin];rw [hwin] at hst;unfold Bg.nxtU at hst;rw [show (n15+1).toNat=i.toNat+(Bg.dig (Bg.nv b * Bg.nv [shift])).length+1 by omega];exact hst
      show l4.length+(Bg.dig (Bg.nv b * Bg.nv [shift])).length≤a.length+2;omega
    show ((i-1)+1).toNat < (i+1).toNat;omega
  have hen:=hf5;rw [show (i+1).toNat=0 by omega] at hen;obtain ⟨hdv1,hdv2⟩:=Bg.dvals (s:=Bg.nv [shift]) (A:=Bg.nv a) (B:=Bg.nv b) hen hS0 (by rw [Bg.nv_app0,Bg.nv_dig]) (by rw [Bg.nv_dig]);have hul:=hen.len;have hud2:=hen.dg;have hqd2:=hen.qd;have hud3:=Bg.dig_le hud2;refine V.frz 0 true 3 u us (by kernel_rfl) ?_;refine V.r [.k (us.v),.ctT g0 1 144 [(kf true (.f 1) u (fun _=>us)).a] (fun _ G=>trim_ct u us hud2),.k (iv shift),.ct g0 3 143 false [] [] [(kf true (.g 1 0) (Bg.dig (Bg.nv u)) (fun G=>(G 1).ss 0)).a] (fun _ G=>short_ct (Bg.dig (Bg.nv u)) ((G 1).ss 0) shift (Bg.dig_Dg _) (by omega) (by omega)),.v fun G=>.tuple #[((G 3).ss 0).v,iv ((Bg.nv (Bg.dig (Bg.nv u)) % shift.toNat:Nat):Int)],.v fun G=>((G 3).ss 0).v,.k (iv ((Bg.nv (Bg.dig (Bg.nv u)) % shift.toNat:Nat):Int)),.v fun G=>((G 3).ss 0).v,.k (iv ((Bg.nv (Bg.dig (Bg.nv u)) % shift.toNat:Nat):Int))] fun _ _ G23 kw26=>?_;intro S_ s_
  obtain ⟨⟨kl13, -⟩,⟨kl14, -⟩, -⟩:Lq (Bg.dig (Bg.nv u)) (((G23 1).ss 0).v)∧Lq (Bg.dig (Bg.nv (Bg.dig (Bg.nv u)) / shift.toNat)) (((G23 3).ss 0).v)∧Lq q qs.v∧True:=kq kw26;clear kw26;refine V.frz 1 true 3 q qs (by kernel_rfl) ?_;refine V.r [.k (qs.v),.ctT g0 1 144 [(kf true (.f 4) q (fun _=>qs)).a] (fun _ G=>trim_ct q qs hqd2),.k (((G23 3).ss 0).v),.v fun G=>((G 1).ss 0).v,.k (((G23 3).ss 0).v)] fun _ _ G24 kw27=>?_;intro S_ s_;obtain ⟨⟨kl15, -⟩, -⟩:Lq (Bg.dig (Bg.nv q)) (((G24 1).ss 0).v)∧True:=kq kw27;clear kw27;have e0:Bg.dig (Bg.nv q)=Bg.dig (Bg.nv a / Bg.nv b):=by rw [hdv1]
  rw [←e0];have e1:Bg.dig (Bg.nv (Bg.dig (Bg.nv u)) / shift.toNat)=Bg.dig (Bg.nv a % Bg.nv b):=by rw [Bg.nv_dig,← enS,hdv2]
  rw [←e1];exact V.rs [0,0] [(G24 1).ss 0,(G23 3).ss 0] [fun _=>{},fun _=>{}] [] [5,3] [] (.tuple #[((G24 1).ss 0).v,((G23 3).ss 0).v])
theorem div_ctv (a:List Int) (as_:SV) (b:List Int) (bs:SV) (hda:Bg.Dg a) (hdb:Bg.Dg b) (hza:Bg.Nz a) (hzb:Bg.Nz b) (hnb:b≠[]) (hla:a.length≤549755813888) (hlb:b.length≤549755813888) (rv0:List Int) (erv0:rv0=Bg.dig (Bg.nv a / Bg.nv b)) (rv1:List Int) (erv1:rv1=Bg.dig (Bg.nv a % Bg.nv b)) :
    Ct Tryz.prog 114 #[as_.v,bs.v] [fs true a as_,fs true b bs] [] (fun g=>.tuple #[((g.ss 0)).v,((g.ss 1)).v]) (fun g=>[fs true rv0 (g.ss 0),fs true rv1 (g.ss 1)]) (fun g=>[]) (fun g=>[]):=by
  subst erv0 erv1;exact div_ct a as_ b bs hda hdb hza hzb hnb hla hlb

open Go Go.Proofs
set_option maxRecDepth 10000 in
theorem Gcd_ct (i:Int) (c:List Int) (l:SV) (j:Int) (d:List Int) (m:SV) (hla:c.length≤274877906944) (hlb:d.length≤274877906944) :
    Ct Tryz.prog 75 #[ag (DBig.mk i ⟨c,l⟩),ag (DBig.mk j ⟨d,m⟩)] [fs true c l,fs true d m] [] (fun g=>.tuple #[ag (DBig.mk (Bg.oS (Bg.RtB i c∧Bg.RtB j d) ((Nat.gcd (Bg.nv c) (Bg.nv d):Int))) ⟨Bg.oD (Bg.RtB i c∧Bg.RtB j d) ((Nat.gcd (Bg.nv c) (Bg.nv d):Int)),(g.ss 0)⟩),iv (if (Bg.RtB i c∧Bg.RtB j d) then (0:Int) else 1)]) (fun g=>[fs true (Bg.oD (Bg.RtB i c∧Bg.RtB j d) ((Nat.gcd (Bg.nv c) (Bg.nv d):Int))) (g.ss 0)]) (fun g=>[]) (fun g=>[]):=by
  refine V.fn mo Tryz.func75 44 3 (by kernel_rfl) fun w H ε k0=>?_;obtain ⟨⟨kl1, -⟩,⟨kl2, -⟩, -⟩:Lq c l.v∧Lq d m.v∧True:=kq k0
  clear k0;refine V.g [.nb 0 0 (fun b=>pp b 0) 27 (fun _=>ca (DBig.mk i ⟨c,l⟩)),.nb 1 1 (fun b=>pp b 0) 27 (fun _=>ca (DBig.mk j ⟨d,m⟩)),.nb 2 2 (fun b=>pp b 0) 27 (fun _=>ca (DBig.mk 0 ⟨[],{}⟩)),.k (iv 0)] fun _ _ G1=>?_;intro S s
  refine nm ((!(decide (Bg.RtB i c))) || (!(decide (Bg.RtB j d))):Bool) fun p1 hp1=>?_;refine V.g [.ld 0 0 true (fun _=>Dat.cells (DBig.mk i ⟨c,l⟩)),.cp g0 1 74 [(kf false (.f 0) c (fun _=>l)).a] (fun _ G=>bright_ct i c l),.k (bv (!(decide (Bg.RtB i c)))),.k (bv (!(decide (Bg.RtB i c)))),.ld 1 0 true (fun _=>Dat.cells (DBig.mk j ⟨d,m⟩)),.cp (gF (b:=!(decide (Bg.RtB i c))) (iNF iDT)) 5 74 [(kf false (.f 1) d (fun _=>m)).a] (fun hg G=>bright_ct j d m),.k (bv (!(decide (Bg.RtB j d)))),.orn g0 false (!(decide (Bg.RtB i c))) (!(decide (Bg.RtB j d))) p1 hp1] fun _ _ G2=>?_;intro S s
  refine V.cn (b:=p1) (iN hp1 (iOT (iNT iDF) (iNT iDF))) (iN hp1 (iOF (iNF iDT) (iNF iDT))) (fun q1=>?_) (fun q2=>?_)
  · have hNR:¬ (Bg.RtB i c∧Bg.RtB j d):=by rintro ⟨h1,h2⟩;rcases q1 with h | h;exact h h1;exact h h2
    refine nl (([]:List Int)) fun l1 hl1 hl1n=>?_;refine V.r [.k (ag (DBig.mk 0 ⟨[],{}⟩)),.ctT g0 1 112 [(knil (α:=Int)).a] (fun _ G=>checkedF_ctv (0:Int) ([]:List Int) ({}) l1 hl1),.v fun G=>ag (DBig.mk 0 ⟨l1,(G 1).ss 0⟩),.k (iv 1),.st 2 (fun G=>.blk ((G1 2).b) (ca (DBig.mk 0 ⟨l1,(G 1).ss 0⟩)) 27),.k (iv 1)] fun _ _ G3 kw3=>?_;intro S s
    obtain ⟨⟨kl3, -⟩, -⟩:Lq l1 (((G3 1).ss 0).v)∧True:=kq kw3;clear kw3;have e1:l1=Bg.oD (Bg.RtB i c∧Bg.RtB j d) ((Nat.gcd (Bg.nv c) (Bg.nv d):Int)):=by
      rw [hl1];exact (Bg.oD_n hNR _).symm
    subst e1;have e0:(0:Int)=Bg.oS (Bg.RtB i c∧Bg.RtB j d) ((Nat.gcd (Bg.nv c) (Bg.nv d):Int)):=(Bg.oS_n hNR _).symm;have e2:(1:Int)=if (Bg.RtB i c∧Bg.RtB j d) then (0:Int) else 1:=(if_neg hNR).symm
    exact V.rt [2,0] [(G3 1).ss 0] [fun _=>{}] [] [2] [] (.tuple #[ag (DBig.mk 0 ⟨(Bg.oD (Bg.RtB i c∧Bg.RtB j d) ((Nat.gcd (Bg.nv c) (Bg.nv d):Int))),(G3 1).ss 0⟩),iv 1]) (cong2 (fun (x0 x2:Int)=>(.tuple #[.agg #[iv x0,((G3 1).ss 0).v],iv x2]:Value)) e0 e2)
  have hRR:(Bg.RtB i c∧Bg.RtB j d):=by first | exact q2 | exact ⟨Decidable.not_not.1 (q2).1,Decidable.not_not.1 (q2).2⟩
  have hsm:=Bg.sml hRR.1 hRR.2;refine V.r [.k (pp ((G1 0).b) 1),.ld 0 1 false (fun _=>[l.v]),.ct g0 2 113 false [] [] [(kf false (.f 0) c (fun _=>l)).a] (fun _ G=>clonef_ct c l (by omega)),.k (pp ((G1 1).b) 1),.ld 1 1 false (fun _=>[m.v]),.v fun G=>((G 2).ss 0).v,.k (m.v)] fun _ _ G4 kw4=>?_;intro S s
  obtain ⟨⟨kl4, -⟩, -⟩:Lq c (((G4 2).ss 0).v)∧True:=kq kw4;clear kw4;refine V.loop (γ:=List Int × SV × List Int × SV) (fun ⟨x,xs,y,ys⟩=>⟨[(4,pp ((G1 2).b) 0),(6,xs.v),(7,ys.v)],[fs false x xs,fs false y ys,fs false c l,fs false d m],[.blk ((G1 0).b) (ca (DBig.mk i ⟨c,l⟩)) 27,.blk ((G1 1).b) (ca (DBig.mk j ⟨d,m⟩)) 27,.blk ((G1 2).b) (ca (DBig.mk 0 ⟨[],{}⟩)) 27]⟩) (fun ⟨x,xs,y,ys⟩=>(Bg.Dg x)∧(Bg.Nz x)∧(Bg.Dg y)∧(Bg.Nz y)∧(Nat.gcd (Bg.nv x) (Bg.nv y)=Nat.gcd (Bg.nv c) (Bg.nv d))∧(x.length≤274877906944)∧(y.length≤274877906944)) (fun ⟨x,xs,y,ys⟩=>Bg.nv y) (c,(G4 2).ss 0,d,m) (by kernel_rfl) [2,1,0,1] (by kernel_rfl) ?_ ?_
  · refine ⟨?_,?_,?_,?_,?_,?_,?_⟩
    · show Bg.Dg c;exact hRR.1.dg
    · show Bg.Nz c;exact hRR.1.nz
    · show Bg.Dg d;exact hRR.2.dg
    · show Bg.Nz d;exact hRR.2.nz
    · show Nat.gcd (Bg.nv c) (Bg.nv d)=Nat.gcd (Bg.nv c) (Bg.nv d);rfl
    · show c.length≤274877906944;omega
    show d.length≤274877906944;omega
  rintro ⟨x,xs,y,ys⟩ hF1 kw5 Z1 hZ1;have hF1:(Bg.Dg x)∧(Bg.Nz x)∧(Bg.Dg y)∧(Bg.Nz y)∧(Nat.gcd (Bg.nv x) (Bg.nv y)=Nat.gcd (Bg.nv c) (Bg.nv d))∧(x.length≤274877906944)∧(y.length≤274877906944):=hF1;obtain ⟨hf1,hf2,hf3,hf4,hf5,hf6,hf7⟩:=hF1;obtain ⟨⟨kl5, -⟩,⟨kl6, -⟩, -, -, -⟩:Lq x xs.v∧Lq y ys.v∧Lq c l.v∧Lq d m.v∧True:=kq kw5;clear kw5;refine V.g [.k (ys.v),.ln (kf false (.f 1) y (fun _=>ys)),.k (bv (decide (0 < (y.length:Int))))] fun _ _ G5=>?_;intro S s;refine V.cn (b:=decide (0 < (y.length:Int))) iDT iDF (fun q3=>?_) (fun q4=>?_)
  · have hyn:y≠[]:=fun e=>by have:=congrArg List.length e;simp only [List.length_nil] at this;omega
    have hyp:=Bg.nv_ne hf3 hf4 hyn;have hmd:=Nat.mod_lt (Bg.nv x) (Nat.pos_of_ne_zero hyp);refine nl (Bg.dig (Bg.nv x / Bg.nv y)) fun l2 hl2 hl2n=>?_;refine nl (Bg.dig (Bg.nv x % Bg.nv y)) fun l3 hl3 hl3n=>?_;refine V.r [.k (xs.v),.k (ys.v),.ct g0 2 114 false [] [] [(kf false (.f 0) x (fun _=>xs)).a,(kf false (.f 1) y (fun _=>ys)).a] (fun _ G=>div_ctv x xs y ys hf1 hf3 hf2 hf4 hyn (by omega) (by omega) l2 hl2 l3 hl3),.v fun G=>.tuple #[((G 2).ss 0).v,((G 2).ss 1).v],.v fun G=>((G 2).ss 0).v,.v fun G=>((G 2).ss 1).v,.v fun G=>((G 2).ss 0).v,.v fun G=>((G 2).ss 1).v] fun _ _ G6 kw7=>?_;intro S s
    obtain ⟨⟨kl7, -⟩,⟨kl8, -⟩, -⟩:Lq l2 (((G6 2).ss 0).v)∧Lq l3 (((G6 2).ss 1).v)∧True:=kq kw7;clear kw7;refine V.g [.k (ys.v),.k (((G6 2).ss 1).v),.k (ys.v),.k (((G6 2).ss 1).v)] fun _ _ G7=>?_;intro S s;refine V.rnd hZ1 (y,ys,l3,(G6 2).ss 1) [1,5,2,3] (by kernel_rfl) ?_ ?_
    · refine ⟨?_,?_,?_,?_,?_,?_,?_⟩
      · show Bg.Dg y;exact hf3
      · show Bg.Nz y;exact hf4
      · show Bg.Dg l3;rw [hl3];exact Bg.dig_Dg _
      · show Bg.Nz l3;rw [hl3];exact Bg.dig_Nz _
      · show Nat.gcd (Bg.nv y) (Bg.nv l3)=Nat.gcd (Bg.nv c) (Bg.nv d);rw [hl3];rw [Bg.nv_dig];exact Bg.gcd_step hf5
      · show y.length≤274877906944;omega
      show l3.length≤274877906944;rw [hl3];exact Nat.le_trans (Bg.dig_len_mono' (Nat.le_of_lt hmd)) (Nat.le_trans (Bg.dig_le hf3) hf7)
    show Bg.nv l3 < Bg.nv y;rw [hl3];rw [Bg.nv_dig];exact hmd
  have hxd:=hf1;have hgx:=hf5;have hy0:y=[]:=List.eq_nil_of_length_eq_zero (by omega);rw [hy0,show Bg.nv []=0 from rfl,Nat.gcd_zero_right] at hgx;have hgS:=Bg.gcdS (Nat.gcd (Bg.nv c) (Bg.nv d));have hgD:=Bg.gcdD (Nat.gcd (Bg.nv c) (Bg.nv d));rw [←hgx,Bg.nv_dig] at hgS hgD;refine nm (Bg.sg0 (Bg.nv x) (1:Int):Int) fun n1 hn1=>?_;refine nl (Bg.dig (Bg.nv x)) fun l4 hl4 hl4n=>?_;refine V.r [.k (xs.v),.ct g0 1 113 false [] [] [(kf false (.f 0) x (fun _=>xs)).a] (fun _ G=>clonef_ct x xs (by omega)),.ctT g0 2 115 [(kf true (.g 1 0) x (fun G=>(G 1).ss 0)).a] (fun _ G=>signed_ctv (1:Int) x ((G 1).ss 0) (by first | assumption | exact hxd) n1 hn1 l4 hl4),.ctT g0 3 112 [(kf true (.g 2 0) l4 (fun G=>(G 2).ss 0)).a] (fun _ G=>checkedT_ct n1 l4 ((G 2).ss 0)),.v fun G=>ag (DBig.mk n1 ⟨l4,(G 3).ss 0⟩),.k (iv 0),.st 2 (fun G=>.blk ((G1 2).b) (ca (DBig.mk n1 ⟨l4,(G 3).ss 0⟩)) 27),.k (iv 0)] fun _ _ G8 kw9=>?_;intro S s
  obtain ⟨⟨kl9, -⟩,⟨kl10, -⟩,⟨kl11, -⟩, -⟩:Lq x (((G8 1).ss 0).v)∧Lq l4 (((G8 2).ss 0).v)∧Lq l4 (((G8 3).ss 0).v)∧True:=kq kw9;clear kw9;have e1:l4=Bg.oD (Bg.RtB i c∧Bg.RtB j d) ((Nat.gcd (Bg.nv c) (Bg.nv d):Int)):=by
    rw [hl4];rw [Bg.oD_y hRR];rw [←hgx];exact hgD
  subst e1;have e0:n1=Bg.oS (Bg.RtB i c∧Bg.RtB j d) ((Nat.gcd (Bg.nv c) (Bg.nv d):Int)):=by
    rw [hn1];rw [Bg.oS_y hRR];rw [←hgx];exact hgS
  have e2:(0:Int)=if (Bg.RtB i c∧Bg.RtB j d) then (0:Int) else 1:=(if_pos hRR).symm
  exact V.rt [2,0] [(G8 3).ss 0] [fun _=>{}] [] [6] [] (.tuple #[ag (DBig.mk n1 ⟨(Bg.oD (Bg.RtB i c∧Bg.RtB j d) ((Nat.gcd (Bg.nv c) (Bg.nv d):Int))),(G8 3).ss 0⟩),iv 0]) (cong2 (fun (x0 x2:Int)=>(.tuple #[.agg #[iv x0,((G8 3).ss 0).v],iv x2]:Value)) e0 e2)
theorem Gcd_ctv (c:Int) (a:List Int) (e:SV) (d:Int) (b:List Int) (f:SV) (hla:a.length≤274877906944) (hlb:b.length≤274877906944) (rv0:Int) (erv0:rv0=Bg.oS (Bg.RtB c a∧Bg.RtB d b) ((Nat.gcd (Bg.nv a) (Bg.nv b):Int))) (rv1:List Int) (erv1:rv1=Bg.oD (Bg.RtB c a∧Bg.RtB d b) ((Nat.gcd (Bg.nv a) (Bg.nv b):Int))) (rv2:Int) (erv2:rv2=if (Bg.RtB c a∧Bg.RtB d b) then (0:Int) else 1) :
    Ct Tryz.prog 75 #[ag (DBig.mk c ⟨a,e⟩),ag (DBig.mk d ⟨b,f⟩)] [fs true a e,fs true b f] [] (fun g=>.tuple #[ag (DBig.mk rv0 ⟨rv1,(g.ss 0)⟩),iv rv2]) (fun g=>[fs true rv1 (g.ss 0)]) (fun g=>[]) (fun g=>[]):=by
  subst erv0 erv1 erv2;exact Gcd_ct c a e d b f hla hlb

open Go Go.Proofs
set_option maxRecDepth 10000 in
theorem Div_ct (j:Int) (i:List Int) (m:SV) (c:Int) (d:List Int) (l:SV) (hla:i.length≤274877906944) (hlb:d.length≤274877906944) :
    Ct Tryz.prog 122 #[ag (DBig.mk j ⟨i,m⟩),ag (DBig.mk c ⟨d,l⟩)] [fs true i m,fs true d l] [] (fun g=>.tuple #[ag (DBig.mk (Bg.oS ((Bg.RtB j i∧Bg.RtB c d)∧c≠0) (Bg.flo (Bg.zv j i) (Bg.zv c d))) ⟨Bg.oD ((Bg.RtB j i∧Bg.RtB c d)∧c≠0) (Bg.flo (Bg.zv j i) (Bg.zv c d)),(g.ss 0)⟩),ag (DBig.mk (Bg.oS ((Bg.RtB j i∧Bg.RtB c d)∧c≠0) (Bg.fmo (Bg.zv j i) (Bg.zv c d))) ⟨Bg.oD ((Bg.RtB j i∧Bg.RtB c d)∧c≠0) (Bg.fmo (Bg.zv j i) (Bg.zv c d)),(g.ss 1)⟩),iv (if ¬ (Bg.RtB j i∧Bg.RtB c d) then (1:Int) else if c=0 then 15 else 0)]) (fun g=>[fs true (Bg.oD ((Bg.RtB j i∧Bg.RtB c d)∧c≠0) (Bg.flo (Bg.zv j i) (Bg.zv c d))) (g.ss 0),fs true (Bg.oD ((Bg.RtB j i∧Bg.RtB c d)∧c≠0) (Bg.fmo (Bg.zv j i) (Bg.zv c d))) (g.ss 1)]) (fun g=>[]) (fun g=>[]):=by
  refine V.fn mo Tryz.func122 67 4 (by kernel_rfl) fun w H ε k0=>?_;obtain ⟨⟨kl1, -⟩,⟨kl2, -⟩, -⟩:Lq i m.v∧Lq d l.v∧True:=kq k0
  clear k0;refine V.g [.nb 0 0 (fun b=>pp b 0) 27 (fun _=>ca (DBig.mk j ⟨i,m⟩)),.nb 1 1 (fun b=>pp b 0) 27 (fun _=>ca (DBig.mk c ⟨d,l⟩)),.nb 2 2 (fun b=>pp b 0) 27 (fun _=>ca (DBig.mk 0 ⟨[],{}⟩)),.nb 3 3 (fun b=>pp b 0) 27 (fun _=>ca (DBig.mk 0 ⟨[],{}⟩)),.k (iv 0)] fun _ _ G1=>?_;intro S s
  refine nm ((!(decide (Bg.RtB j i))) || (!(decide (Bg.RtB c d))):Bool) fun p1 hp1=>?_;refine V.g [.ld 0 0 true (fun _=>Dat.cells (DBig.mk j ⟨i,m⟩)),.cp g0 1 74 [(kf false (.f 0) i (fun _=>m)).a] (fun _ G=>bright_ct j i m),.k (bv (!(decide (Bg.RtB j i)))),.k (bv (!(decide (Bg.RtB j i)))),.ld 1 0 true (fun _=>Dat.cells (DBig.mk c ⟨d,l⟩)),.cp (gF (b:=!(decide (Bg.RtB j i))) (iNF iDT)) 5 74 [(kf false (.f 1) d (fun _=>l)).a] (fun hg G=>bright_ct c d l),.k (bv (!(decide (Bg.RtB c d)))),.orn g0 false (!(decide (Bg.RtB j i))) (!(decide (Bg.RtB c d))) p1 hp1,.k (bv p1)] fun _ _ G2=>?_;intro S s
  refine V.cn (b:=p1) (iN hp1 (iOT (iNT iDF) (iNT iDF))) (iN hp1 (iOF (iNF iDT) (iNF iDT))) (fun q1=>?_) (fun q2=>?_)
  · have hNR:¬ (Bg.RtB j i∧Bg.RtB c d):=by rintro ⟨h1,h2⟩;rcases q1 with h | h;exact h h1;exact h h2
    refine V.g [.k (ag (DBig.mk 0 ⟨[],{}⟩)),.k (ag (DBig.mk 0 ⟨[],{}⟩)),.st 2 (fun _=>.blk ((G1 2).b) (ca (DBig.mk 0 ⟨[],{}⟩)) 27),.st 3 (fun _=>.blk ((G1 3).b) (ca (DBig.mk 0 ⟨[],{}⟩)) 27),.k (iv 1)] fun _ _ G3=>?_;intro S s
    refine V.nilF (α:=Int) ?_;refine V.nilF (α:=Int) ?_;have e1:([]:List Int)=Bg.oD ((Bg.RtB j i∧Bg.RtB c d)∧c≠0) (Bg.flo (Bg.zv j i) (Bg.zv c d)):=(Bg.oD_n (fun h=>hNR h.1) _).symm;rw [←e1];have e3:([]:List Int)=Bg.oD ((Bg.RtB j i∧Bg.RtB c d)∧c≠0) (Bg.fmo (Bg.zv j i) (Bg.zv c d)):=(Bg.oD_n (fun h=>hNR h.1) _).symm;rw [←e3];have e0:(0:Int)=Bg.oS ((Bg.RtB j i∧Bg.RtB c d)∧c≠0) (Bg.flo (Bg.zv j i) (Bg.zv c d)):=(Bg.oS_n (fun h=>hNR h.1) _).symm;have e2:(0:Int)=Bg.oS ((Bg.RtB j i∧Bg.RtB c d)∧c≠0) (Bg.fmo (Bg.zv j i) (Bg.zv c d)):=(Bg.oS_n (fun h=>hNR h.1) _).symm;have e4:(1:Int)=if ¬ (Bg.RtB j i∧Bg.RtB c d) then (1:Int) else if c=0 then 15 else 0:=(if_pos hNR).symm
    exact V.rt [2,3,0] [{},{}] [fun _=>{},fun _=>{}] [] [2,3] [] (.tuple #[ag (DBig.mk 0 ⟨([]:List Int),{}⟩),ag (DBig.mk 0 ⟨([]:List Int),{}⟩),iv 1]) (cong3 (fun (x0 x2 x4:Int)=>(.tuple #[.agg #[iv x0,SV.v ({})],.agg #[iv x2,SV.v ({})],iv x4]:Value)) e0 e2 e4)
  have hRR:(Bg.RtB j i∧Bg.RtB c d):=by first | exact q2 | exact ⟨Decidable.not_not.1 (q2).1,Decidable.not_not.1 (q2).2⟩
  have hsm:=Bg.sml hRR.1 hRR.2;refine V.g [.k (pp ((G1 1).b) 0),.ld 1 0 false (fun _=>[iv c]),.k (bv (decide (c=0))),.k (bv (decide (c=0)))] fun _ _ G4=>?_;intro S s
  refine V.cn (b:=decide (c=0)) iDT iDF (fun q3=>?_) (fun q4=>?_)
  · have hz0:c=0:=q3;refine V.g [.k (ag (DBig.mk 0 ⟨[],{}⟩)),.k (ag (DBig.mk 0 ⟨[],{}⟩)),.st 2 (fun _=>.blk ((G1 2).b) (ca (DBig.mk 0 ⟨[],{}⟩)) 27),.st 3 (fun _=>.blk ((G1 3).b) (ca (DBig.mk 0 ⟨[],{}⟩)) 27),.k (iv 15)] fun _ _ G5=>?_;intro S s
    refine V.nilF (α:=Int) ?_;refine V.nilF (α:=Int) ?_;have e1:([]:List Int)=Bg.oD ((Bg.RtB j i∧Bg.RtB c d)∧c≠0) (Bg.flo (Bg.zv j i) (Bg.zv c d)):=(Bg.oD_n (fun h=>h.2 hz0) _).symm;rw [←e1];have e3:([]:List Int)=Bg.oD ((Bg.RtB j i∧Bg.RtB c d)∧c≠0) (Bg.fmo (Bg.zv j i) (Bg.zv c d)):=(Bg.oD_n (fun h=>h.2 hz0) _).symm;rw [←e3];have e0:(0:Int)=Bg.oS ((Bg.RtB j i∧Bg.RtB c d)∧c≠0) (Bg.flo (Bg.zv j i) (Bg.zv c d)):=(Bg.oS_n (fun h=>h.2 hz0) _).symm;have e2:(0:Int)=Bg.oS ((Bg.RtB j i∧Bg.RtB c d)∧c≠0) (Bg.fmo (Bg.zv j i) (Bg.zv c d)):=(Bg.oS_n (fun h=>h.2 hz0) _).symm;have e4:(15:Int)=if ¬ (Bg.RtB j i∧Bg.RtB c d) then (1:Int) else if c=0 then 15 else 0:=by rw [if_neg (fun h=>h hRR),if_pos hz0]
    exact V.rt [2,3,0] [{},{}] [fun _=>{},fun _=>{}] [] [2,3] [] (.tuple #[ag (DBig.mk 0 ⟨([]:List Int),{}⟩),ag (DBig.mk 0 ⟨([]:List Int),{}⟩),iv 15]) (cong3 (fun (x0 x2 x4:Int)=>(.tuple #[.agg #[iv x0,SV.v ({})],.agg #[iv x2,SV.v ({})],iv x4]:Value)) e0 e2 e4)
  have hz0:¬ c=0:=q4;have hPD:((Bg.RtB j i∧Bg.RtB c d)∧c≠0):=⟨hRR,hz0⟩;have hnz:=Bg.nv_pos hRR.2 hz0;have hml:=Nat.mod_lt (Bg.nv i) (Nat.pos_of_ne_zero hnz.1);have hmle:Bg.nv (Bg.dig (Bg.nv i % Bg.nv d))≤Bg.nv d:=by rw [Bg.nv_dig];omega
  have hll1:=Bg.dig_len_mono' (Nat.div_le_self (Bg.nv i) (Bg.nv d));have hll2:=Bg.dig_len_mono' (Nat.mod_le (Bg.nv i) (Bg.nv d));have hll3:=Bg.dig_le hRR.1.dg;refine nl (Bg.dig (Bg.nv i / Bg.nv d)) fun l1 hl1 hl1n=>?_;refine nl (Bg.dig (Bg.nv i % Bg.nv d)) fun l2 hl2 hl2n=>?_;refine V.r [.k (pp ((G1 0).b) 1),.ld 0 1 false (fun _=>[m.v]),.k (pp ((G1 1).b) 1),.ld 1 1 false (fun _=>[l.v]),.ct g0 4 114 false [] [] [(kf false (.f 0) i (fun _=>m)).a,(kf false (.f 1) d (fun _=>l)).a] (fun _ G=>div_ctv i m d l hRR.1.dg hRR.2.dg hRR.1.nz hRR.2.nz hnz.2 (by omega) (by omega) l1 hl1 l2 hl2),.v fun G=>.tuple #[((G 4).ss 0).v,((G 4).ss 1).v],.v fun G=>((G 4).ss 0).v,.v fun G=>((G 4).ss 1).v,.v fun G=>((G 4).ss 0).v,.v fun G=>((G 4).ss 1).v] fun _ _ G6 kw6=>?_;intro S s
  obtain ⟨⟨kl3, -⟩,⟨kl4, -⟩, -⟩:Lq l1 (((G6 4).ss 0).v)∧Lq l2 (((G6 4).ss 1).v)∧True:=kq kw6;clear kw6;refine nm (j * c:Int) fun n1 hn1=>?_;refine nm ((decide (n1 < 0)) && (decide (0 < (l2.length:Int))):Bool) fun p2 hp2=>?_;refine V.g [.k (pp ((G1 0).b) 0),.ld 0 0 false (fun _=>[iv j]),.k (pp ((G1 1).b) 0),.ld 1 0 false (fun _=>[iv c]),.ar (j * c) n1 hn1 (by rw [hn1];exact hsm.1) (by rw [hn1];exact hsm.2),.k (bv (decide (n1 < 0))),.k (bv (decide (n1 < 0))),.k (((G6 4).ss 1).v),.ln (kf true (.f 3) l2 (fun _=>(G6 4).ss 1)),.k (bv (decide (0 < (l2.length:Int)))),.andn g0 false (decide (n1 < 0)) (decide (0 < (l2.length:Int))) p2 hp2] fun _ _ G7=>?_;intro S s;refine V.cn (b:=p2) (iN hp2 (iAT iDT iDT)) (iN hp2 (iAF iDF iDF)) (fun q5=>?_) (fun q6=>?_)
  · have hng:j * c < 0:=by have:=q5;omega
    have hr0:Bg.nv i % Bg.nv d≠0:=fun e=>by have:=q5;subst_vars;rw [e,Bg.dig_zero] at this;simp at this
    refine nl (Bg.dig (Bg.nv l1+Bg.nv ([1]:List Int))) fun l3 hl3 hl3n=>?_;refine nm (Bg.sg0 (Bg.nv l3) (-1:Int):Int) fun n2 hn2=>?_;refine nl (Bg.dig (Bg.nv l3)) fun l4 hl4 hl4n=>?_;refine nl (Bg.dig (Bg.nv d-Bg.nv l2)) fun l5 hl5 hl5n=>?_;refine nm (Bg.sg0 (Bg.nv l5) c:Int) fun n3 hn3=>?_;refine nl (Bg.dig (Bg.nv l5)) fun l6 hl6 hl6n=>?_;refine V.r [.k (((G6 4).ss 0).v),.nr 1 true 3 ([1]:List Int) [] (fun _ _ _ _ _=>trivial) (fun _=>#[iv 1]),.ct g0 2 125 false [] [] [(kf true (.f 2) l1 (fun _=>(G6 4).ss 0)).a,(kf true (.g 1 0) ([1]:List Int) (fun G=>⟨atB (G 1).b,1,1⟩)).a] (fun _ G=>add_ctv l1 ((G6 4).ss 0) ([1]:List Int) ⟨atB (G 1).b,1,1⟩ (by subst_vars;exact Bg.dig_Dg _) (Bg.Dg.one (by omega)) (by omega) (by simp) l3 hl3),.ctT g0 3 115 [(kf true (.g 2 0) l3 (fun G=>(G 2).ss 0)).a] (fun _ G=>signed_ctv (-1:Int) l3 ((G 2).ss 0) (by subst_vars;exact Bg.dig_Dg _) n2 hn2 l4 hl4),.k (pp ((G1 1).b) 0),.ld 1 0 false (fun _=>[iv c]),.k (pp ((G1 1).b) 1),.ld 1 1 false (fun _=>[l.v]),.k (((G6 4).ss 1).v),.ct g0 9 127 false [] [] [(kf false (.f 1) d (fun _=>l)).a,(kf true (.f 3) l2 (fun _=>(G6 4).ss 1)).a] (fun _ G=>sub_ctv d l l2 ((G6 4).ss 1) hRR.2.dg (by subst_vars;exact Bg.dig_Dg _) (by omega) (by omega) (by subst_vars;exact Bg.dig_Nz _) (by subst_vars;exact hmle) l5 hl5),.ctT g0 10 115 [(kf true (.g 9 0) l5 (fun G=>(G 9).ss 0)).a] (fun _ G=>signed_ctv c l5 ((G 9).ss 0) (by subst_vars;exact Bg.dig_Dg _) n3 hn3 l6 hl6),.st 2 (fun G=>.blk ((G1 2).b) (ca (DBig.mk n2 ⟨l4,(G 3).ss 0⟩)) 27),.st 3 (fun G=>.blk ((G1 3).b) (ca (DBig.mk n3 ⟨l6,(G 10).ss 0⟩)) 27),.k (iv 0)] fun _ _ G8 kw8=>?_;intro S s
    obtain ⟨⟨kl5, -⟩,⟨kl6, -⟩,⟨kl7, -⟩,⟨kl8, -⟩,⟨kl9, -⟩, -⟩:Lq ([1]:List Int) (SV.v ⟨atB (G8 1).b,1,1⟩)∧Lq l3 (((G8 2).ss 0).v)∧Lq l4 (((G8 3).ss 0).v)∧Lq l5 (((G8 9).ss 0).v)∧Lq l6 (((G8 10).ss 0).v)∧True:=kq kw8;clear kw8;have e1:l4=Bg.oD ((Bg.RtB j i∧Bg.RtB c d)∧c≠0) (Bg.flo (Bg.zv j i) (Bg.zv c d)):=by
      rw [hl4,hl3,hl1];rw [Bg.oD_y hPD];exact Bg.dqD hRR.1 hRR.2 hnz.1 hng hr0
    subst e1;have e3:l6=Bg.oD ((Bg.RtB j i∧Bg.RtB c d)∧c≠0) (Bg.fmo (Bg.zv j i) (Bg.zv c d)):=by
      rw [hl6,hl5,hl2];rw [Bg.oD_y hPD];exact Bg.drD hRR.1 hRR.2 hnz.1 hng hr0
    subst e3;have e0:n2=Bg.oS ((Bg.RtB j i∧Bg.RtB c d)∧c≠0) (Bg.flo (Bg.zv j i) (Bg.zv c d)):=by
      rw [hn2,hl3,hl1];rw [Bg.oS_y hPD];exact Bg.dqS hRR.1 hRR.2 hnz.1 hng hr0
    have e2:n3=Bg.oS ((Bg.RtB j i∧Bg.RtB c d)∧c≠0) (Bg.fmo (Bg.zv j i) (Bg.zv c d)):=by
      rw [hn3,hl5,hl2];rw [Bg.oS_y hPD];exact Bg.drS hRR.1 hRR.2 hnz.1 hng hr0
    have e4:(0:Int)=if ¬ (Bg.RtB j i∧Bg.RtB c d) then (1:Int) else if c=0 then 15 else 0:=by rw [if_neg (fun h=>h hRR),if_neg hz0]
    exact V.rt [2,3,0] [(G8 3).ss 0,(G8 10).ss 0] [fun _=>{},fun _=>{}] [] [6,8] [] (.tuple #[ag (DBig.mk n2 ⟨(Bg.oD ((Bg.RtB j i∧Bg.RtB c d)∧c≠0) (Bg.flo (Bg.zv j i) (Bg.zv c d))),(G8 3).ss 0⟩),ag (DBig.mk n3 ⟨(Bg.oD ((Bg.RtB j i∧Bg.RtB c d)∧c≠0) (Bg.fmo (Bg.zv j i) (Bg.zv c d))),(G8 10).ss 0⟩),iv 0]) (cong3 (fun (x0 x2 x4:Int)=>(.tuple #[.agg #[iv x0,((G8 3).ss 0).v],.agg #[iv x2,((G8 10).ss 0).v],iv x4]:Value)) e0 e2 e4)
  have hnn:0≤j * c∨Bg.nv i % Bg.nv d=0:=by have hqq:=q6;rcases hqq with h | h;left;omega;right;exact Bg.len_dig0.1 (by omega)
  refine nm (Bg.sg0 (Bg.nv l1) n1:Int) fun n4 hn4=>?_;refine nl (Bg.dig (Bg.nv l1)) fun l7 hl7 hl7n=>?_;refine nm (Bg.sg0 (Bg.nv l2) j:Int) fun n5 hn5=>?_;refine nl (Bg.dig (Bg.nv l2)) fun l8 hl8 hl8n=>?_;refine V.r [.k (pp ((G1 0).b) 0),.ld 0 0 false (fun _=>[iv j]),.k (pp ((G1 1).b) 0),.ld 1 0 false (fun _=>[iv c]),.ar (j * c) n1 hn1 (by rw [hn1];exact hsm.1) (by rw [hn1];exact hsm.2),.k (((G6 4).ss 0).v),.ctT g0 6 115 [(kf true (.f 2) l1 (fun _=>(G6 4).ss 0)).a] (fun _ G=>signed_ctv n1 l1 ((G6 4).ss 0) (by subst_vars;exact Bg.dig_Dg _) n4 hn4 l7 hl7),.k (pp ((G1 0).b) 0),.ld 0 0 false (fun _=>[iv j]),.k (((G6 4).ss 1).v),.ctT g0 10 115 [(kf true (.f 3) l2 (fun _=>(G6 4).ss 1)).a] (fun _ G=>signed_ctv j l2 ((G6 4).ss 1) (by subst_vars;exact Bg.dig_Dg _) n5 hn5 l8 hl8),.st 2 (fun G=>.blk ((G1 2).b) (ca (DBig.mk n4 ⟨l7,(G 6).ss 0⟩)) 27),.st 3 (fun G=>.blk ((G1 3).b) (ca (DBig.mk n5 ⟨l8,(G 10).ss 0⟩)) 27),.k (iv 0)] fun _ _ G9 kw9=>?_;intro S s
  obtain ⟨⟨kl10, -⟩,⟨kl11, -⟩, -⟩:Lq l7 (((G9 6).ss 0).v)∧Lq l8 (((G9 10).ss 0).v)∧True:=kq kw9;clear kw9;have e1:l7=Bg.oD ((Bg.RtB j i∧Bg.RtB c d)∧c≠0) (Bg.flo (Bg.zv j i) (Bg.zv c d)):=by
    rw [hl7,hl1];rw [Bg.oD_y hPD];exact Bg.qD hRR.1 hRR.2 hnz.1 hnn
  subst e1;have e3:l8=Bg.oD ((Bg.RtB j i∧Bg.RtB c d)∧c≠0) (Bg.fmo (Bg.zv j i) (Bg.zv c d)):=by
    rw [hl8,hl2];rw [Bg.oD_y hPD];exact Bg.rD hRR.1 hRR.2 hnz.1 hnn
  subst e3;have e0:n4=Bg.oS ((Bg.RtB j i∧Bg.RtB c d)∧c≠0) (Bg.flo (Bg.zv j i) (Bg.zv c d)):=by
    rw [hn4,hn1,hl1];rw [Bg.oS_y hPD];exact Bg.qS hRR.1 hRR.2 hnz.1 hnn
  have e2:n5=Bg.oS ((Bg.RtB j i∧Bg.RtB c d)∧c≠0) (Bg.fmo (Bg.zv j i) (Bg.zv c d)):=by
    rw [hn5,hl2];rw [Bg.oS_y hPD];exact Bg.rS hRR.1 hRR.2 hnz.1 hnn
  have e4:(0:Int)=if ¬ (Bg.RtB j i∧Bg.RtB c d) then (1:Int) else if c=0 then 15 else 0:=by rw [if_neg (fun h=>h hRR),if_neg hz0]
  exact V.rt [2,3,0] [(G9 6).ss 0,(G9 10).ss 0] [fun _=>{},fun _=>{}] [] [4,5] [] (.tuple #[ag (DBig.mk n4 ⟨(Bg.oD ((Bg.RtB j i∧Bg.RtB c d)∧c≠0) (Bg.flo (Bg.zv j i) (Bg.zv c d))),(G9 6).ss 0⟩),ag (DBig.mk n5 ⟨(Bg.oD ((Bg.RtB j i∧Bg.RtB c d)∧c≠0) (Bg.fmo (Bg.zv j i) (Bg.zv c d))),(G9 10).ss 0⟩),iv 0]) (cong3 (fun (x0 x2 x4:Int)=>(.tuple #[.agg #[iv x0,((G9 6).ss 0).v],.agg #[iv x2,((G9 10).ss 0).v],iv x4]:Value)) e0 e2 e4)
theorem Div_ctv (d:Int) (b:List Int) (e:SV) (a:Int) (c:List Int) (f:SV) (hla:b.length≤274877906944) (hlb:c.length≤274877906944) (rv0:Int) (erv0:rv0=Bg.oS ((Bg.RtB d b∧Bg.RtB a c)∧a≠0) (Bg.flo (Bg.zv d b) (Bg.zv a c))) (rv1:List Int) (erv1:rv1=Bg.oD ((Bg.RtB d b∧Bg.RtB a c)∧a≠0) (Bg.flo (Bg.zv d b) (Bg.zv a c))) (rv2:Int) (erv2:rv2=Bg.oS ((Bg.RtB d b∧Bg.RtB a c)∧a≠0) (Bg.fmo (Bg.zv d b) (Bg.zv a c))) (rv3:List Int) (erv3:rv3=Bg.oD ((Bg.RtB d b∧Bg.RtB a c)∧a≠0) (Bg.fmo (Bg.zv d b) (Bg.zv a c))) (rv4:Int) (erv4:rv4=if ¬ (Bg.RtB d b∧Bg.RtB a c) then (1:Int) else if a=0 then 15 else 0) :
    Ct Tryz.prog 122 #[ag (DBig.mk d ⟨b,e⟩),ag (DBig.mk a ⟨c,f⟩)] [fs true b e,fs true c f] [] (fun g=>.tuple #[ag (DBig.mk rv0 ⟨rv1,(g.ss 0)⟩),ag (DBig.mk rv2 ⟨rv3,(g.ss 1)⟩),iv rv4]) (fun g=>[fs true rv1 (g.ss 0),fs true rv3 (g.ss 1)]) (fun g=>[]) (fun g=>[]):=by
  subst erv0 erv1 erv2 erv3 erv4;exact Div_ct d b e a c f hla hlb

open Go Go.Proofs
set_option maxRecDepth 10000 in
theorem one_ct (d:Int) (c:List Int) (e:SV) :
    Cp Tryz.prog 76 #[ag (DBig.mk d ⟨c,e⟩)] [fs true c e] (bv (decide (Bg.intV d c=1))):=by
  refine V.fn mo Tryz.func76 15 1 (by kernel_rfl) fun w H ε k0=>?_;obtain ⟨⟨kl1, -⟩, -⟩:Lq c e.v∧True:=kq k0
  clear k0;refine V.g [.nb 0 0 (fun b=>pp b 0) 27 (fun _=>ca (DBig.mk d ⟨c,e⟩)),.kb false] fun _ _ G1=>?_;intro S s
  refine nm (Bg.intV d c:Int) fun n1 hn1=>?_;refine V.g [.ld 0 0 true (fun _=>Dat.cells (DBig.mk d ⟨c,e⟩)),.cp g0 1 116 [(kf false (.f 0) c (fun _=>e)).a] (fun _ G=>int_ctv d c e n1 hn1),.k (.tuple #[iv n1,bv (decide (Bg.inI d c))]),.k (iv n1),.k (bv (decide (Bg.inI d c))),.k (iv n1),.k (bv (decide (Bg.inI d c)))] fun _ _ G2=>?_;intro S s
  refine nm ((decide (Bg.inI d c)) && (decide (n1=1)):Bool) fun p1 hp1=>?_;refine V.g [.k (bv (decide (Bg.inI d c))),.k (bv (decide (Bg.inI d c))),.k (iv n1),.k (bv (decide (n1=1))),.andn g0 false (decide (Bg.inI d c)) (decide (n1=1)) p1 hp1,.k (bv p1)] fun _ _ G3=>?_;intro S s
  have e0:p1=decide (Bg.intV d c=1):=by
    refine Bool.eq_iff_iff.2 (Iff.trans (iN hp1 (iAT iDT iDT)) (Iff.trans ?_ decide_eq_true_iff.symm))
    subst_vars
    exact ⟨fun h=>h.2,fun h=>⟨Classical.byContradiction fun k=>by rw [Bg.intV_n k] at h;omega,h⟩⟩
  exact V.rt [0] [] [] [] [] [] (bv p1) (cong1 (fun (x0:Bool)=>(bv x0:Value)) e0)
set_option maxRecDepth 10000 in
theorem right_ct (i:Int) (c:List Int) (j:SV) (e:Int) (d:List Int) (l:SV) (hfP:c.length≤274877906944) (hfQ:d.length≤274877906944) :
    Cp Tryz.prog 36 #[ag (DFrac.mk ⟨i,c,j⟩ ⟨e,d,l⟩)] [fs true c j,fs true d l] (bv (decide (Fr.FrB i c e d))):=by
  refine V.fn mo Tryz.func36 35 2 (by kernel_rfl) fun w H ε k0=>?_;obtain ⟨⟨kl1, -⟩,⟨kl2, -⟩, -⟩:Lq c j.v∧Lq d l.v∧True:=kq k0
  clear k0;refine V.g [.nb 0 0 (fun b=>pp b 0) 29 (fun _=>ca (DFrac.mk ⟨i,c,j⟩ ⟨e,d,l⟩)),.kb false] fun _ _ G1=>?_;intro S s
  refine nm ((!(decide (Bg.RtB i c))) || (!(decide (Bg.RtB e d))):Bool) fun p1 hp1=>?_;refine V.g [.k (pp ((G1 0).b) 0),.ld 0 0 true (fun _=>Dat.cells (DBig.mk i ⟨c,j⟩)),.cp g0 2 74 [(kf false (.f 0) c (fun _=>j)).a] (fun _ G=>bright_ct i c j),.k (bv (!(decide (Bg.RtB i c)))),.k (bv (!(decide (Bg.RtB i c)))),.k (pp ((G1 0).b) 2),.ld 0 2 true (fun _=>Dat.cells (DBig.mk e ⟨d,l⟩)),.cp (gF (b:=!(decide (Bg.RtB i c))) (iNF iDT)) 7 74 [(kf false (.f 1) d (fun _=>l)).a] (fun hg G=>bright_ct e d l),.k (bv (!(decide (Bg.RtB e d)))),.orn g0 false (!(decide (Bg.RtB i c))) (!(decide (Bg.RtB e d))) p1 hp1,.k (bv p1),.k (pp ((G1 0).b) 2),.k (pp ((G1 0).b) 2),.ld 0 2 false (fun _=>[iv e]),.k (bv (!(decide (e=1)))),.or g0 false p1 (!(decide (e=1)))] fun _ _ G2=>?_;intro S s
  refine V.cn (b:=p1 || (!(decide (e=1)))) (iOT (iN hp1 (iOT (iNT iDF) (iNT iDF))) (iNT iDF)) (iOF (iN hp1 (iOF (iNF iDT) (iNF iDT))) (iNF iDT)) (fun q1=>?_) (fun q2=>?_)
  · refine V.g [.kb false] fun _ _ G3=>?_;intro S s
    have e0:false=decide (Fr.FrB i c e d):=by exact (decide_eq_false fun h=>by have hqq:=q1;rcases hqq with (h1 | h1) | h1;exact h1 h.1;exact h1 h.2.1;exact h1 h.2.2.1).symm
    exact V.rt [0] [] [] [] [] [] (bv false) (cong1 (fun (x0:Bool)=>(bv x0:Value)) e0)
  have hR:(Bg.RtB i c∧Bg.RtB e d)∧e=1:=by have hqq:=q2;first | exact hqq | exact ⟨⟨Decidable.not_not.1 hqq.1.1,Decidable.not_not.1 hqq.1.2⟩,Decidable.not_not.1 hqq.2⟩
  obtain ⟨⟨hR1,hR2⟩,hR3⟩:=hR;refine nm (Bg.oS (Bg.RtB i c∧Bg.RtB e d) ((Nat.gcd (Bg.nv c) (Bg.nv d):Int)):Int) fun n1 hn1=>?_;refine nl (Bg.oD (Bg.RtB i c∧Bg.RtB e d) ((Nat.gcd (Bg.nv c) (Bg.nv d):Int))) fun l1 hl1 hl1n=>?_;refine nm (if (Bg.RtB i c∧Bg.RtB e d) then (0:Int) else 1:Int) fun n2 hn2=>?_;have zg:=Fr.Bz.gcd (Fr.RtB.z hR1) (Fr.RtB.z hR2) hn1 hl1;have hge:n2=0:=by rw [hn2];exact if_pos ⟨hR1,hR2⟩
  have hga:Nat.gcd (Bg.zv i c).natAbs (Bg.zv e d).natAbs=Nat.gcd (Bg.nv c) (Bg.nv d):=by rw [(Fr.RtB.z hR1).nat,(Fr.RtB.z hR2).nat]
  have hgn:((Nat.gcd (Bg.zv i c).natAbs (Bg.zv e d).natAbs:Nat):Int)=1→Nat.gcd (Bg.nv c) (Bg.nv d)=1:=fun h=>by omega
  have hgm:Nat.gcd (Bg.nv c) (Bg.nv d)=1→((Nat.gcd (Bg.zv i c).natAbs (Bg.zv e d).natAbs:Nat):Int)=1:=fun h=>by omega
  refine V.r [.k (pp ((G1 0).b) 0),.ld 0 0 true (fun _=>Dat.cells (DBig.mk i ⟨c,j⟩)),.k (pp ((G1 0).b) 2),.ld 0 2 true (fun _=>Dat.cells (DBig.mk e ⟨d,l⟩)),.ct g0 4 75 false [] [] [(kf false (.f 0) c (fun _=>j)).a,(kf false (.f 1) d (fun _=>l)).a] (fun _ G=>Gcd_ctv i c j e d l (by omega) (by omega) n1 hn1 l1 hl1 n2 hn2),.v fun G=>.tuple #[ag (DBig.mk n1 ⟨l1,(G 4).ss 0⟩),iv n2],.v fun G=>ag (DBig.mk n1 ⟨l1,(G 4).ss 0⟩),.k (iv n2),.nb 8 1 (fun b=>pp b 0) 27 (fun _=>ca (DBig.mk 0 ⟨[],{}⟩)),.st 1 (fun G=>.blk ((G 8).b) (ca (DBig.mk n1 ⟨l1,(G 4).ss 0⟩)) 27),.k (iv n2)] fun _ _ G4 kw4=>?_;intro S s
  obtain ⟨⟨kl3, -⟩, -⟩:Lq l1 (((G4 4).ss 0).v)∧True:=kq kw4;clear kw4;refine nm ((decide (n2=0)) && (decide (Bg.intV n1 l1=1)):Bool) fun p2 hp2=>?_;refine V.g [.k (iv n2),.k (bv (decide (n2=0))),.k (bv (decide (n2=0))),.ld 1 0 true (fun _=>Dat.cells (DBig.mk n1 ⟨l1,(G4 4).ss 0⟩)),.cp (gT (b:=decide (n2=0)) iDT) 4 76 [(kf true (.f 2) l1 (fun _=>(G4 4).ss 0)).a] (fun hg G=>one_ct n1 l1 ((G4 4).ss 0)),.andn g0 false (decide (n2=0)) (decide (Bg.intV n1 l1=1)) p2 hp2,.k (bv p2)] fun _ _ G5=>?_;intro S s;have e0:p2=decide (Fr.FrB i c e d):=by
    refine Bool.eq_iff_iff.2 (Iff.trans (iN hp2 (iAT iDT iDT)) (Iff.trans ?_ decide_eq_true_iff.symm));rw [Fr.one_is zg,hge];constructor
    · rintro ⟨_,h⟩;exact ⟨hR1,hR2,hR3,hgn h⟩
    intro h;exact ⟨rfl,hgm h.2.2.2⟩
  exact V.rt [0] [] [] [] [] [] (bv p2) (cong1 (fun (x0:Bool)=>(bv x0:Value)) e0)
set_option maxRecDepth 10000 in
theorem times_ct (e:Int) (c:List Int) (i:SV) (h:Int) (d:List Int) (j:SV) (hla:c.length≤274877906944) (hlb:d.length≤274877906944) :
    Ct Tryz.prog 87 #[ag (DBig.mk e ⟨c,i⟩),ag (DBig.mk h ⟨d,j⟩)] [fs true c i,fs true d j] [] (fun g=>ag (DBig.mk (Bg.oS (Bg.RtB e c∧Bg.RtB h d) (Bg.zv e c * Bg.zv h d)) ⟨Bg.oD (Bg.RtB e c∧Bg.RtB h d) (Bg.zv e c * Bg.zv h d),(g.ss 0)⟩)) (fun g=>[fs true (Bg.oD (Bg.RtB e c∧Bg.RtB h d) (Bg.zv e c * Bg.zv h d)) (g.ss 0)]) (fun g=>[]) (fun g=>[]):=by
  refine V.fn mo Tryz.func87 14 4 (by kernel_rfl) fun w H ε k0=>?_;obtain ⟨⟨kl1, -⟩,⟨kl2, -⟩, -⟩:Lq c i.v∧Lq d j.v∧True:=kq k0
  clear k0;refine V.g [.nb 0 0 (fun b=>pp b 0) 27 (fun _=>ca (DBig.mk e ⟨c,i⟩)),.nb 1 1 (fun b=>pp b 0) 27 (fun _=>ca (DBig.mk h ⟨d,j⟩)),.nb 2 2 (fun b=>pp b 0) 27 (fun _=>ca (DBig.mk 0 ⟨[],{}⟩))] fun _ _ G1=>?_;intro S s
  refine nm (Bg.oS (Bg.RtB e c∧Bg.RtB h d) (Bg.zv e c * Bg.zv h d):Int) fun n1 hn1=>?_;refine nl (Bg.oD (Bg.RtB e c∧Bg.RtB h d) (Bg.zv e c * Bg.zv h d)) fun l1 hl1 hl1n=>?_;refine nm (if (Bg.RtB e c∧Bg.RtB h d) then (0:Int) else 1:Int) fun n2 hn2=>?_;refine V.r [.ld 0 0 true (fun _=>Dat.cells (DBig.mk e ⟨c,i⟩)),.ld 1 0 true (fun _=>Dat.cells (DBig.mk h ⟨d,j⟩)),.ct g0 2 123 false [] [] [(kf false (.f 0) c (fun _=>i)).a,(kf false (.f 1) d (fun _=>j)).a] (fun _ G=>Mul_ctv e c i h d j (by omega) (by omega) n1 hn1 l1 hl1 n2 hn2),.v fun G=>.tuple #[ag (DBig.mk n1 ⟨l1,(G 2).ss 0⟩),iv n2],.v fun G=>ag (DBig.mk n1 ⟨l1,(G 2).ss 0⟩),.k (iv n2),.nb 6 3 (fun b=>pp b 0) 27 (fun _=>ca (DBig.mk 0 ⟨[],{}⟩)),.st 3 (fun G=>.blk ((G 6).b) (ca (DBig.mk n1 ⟨l1,(G 2).ss 0⟩)) 27),.k (iv n2)] fun _ _ G2 kw2=>?_;intro S s
  obtain ⟨⟨kl3, -⟩, -⟩:Lq l1 (((G2 2).ss 0).v)∧True:=kq kw2;clear kw2;refine V.g [.ld 3 0 true (fun _=>Dat.cells (DBig.mk n1 ⟨l1,(G2 2).ss 0⟩)),.st 2 (fun _=>.blk ((G1 2).b) (ca (DBig.mk n1 ⟨l1,(G2 2).ss 0⟩)) 27)] fun _ _ G3=>?_;intro S s;have e1:l1=Bg.oD (Bg.RtB e c∧Bg.RtB h d) (Bg.zv e c * Bg.zv h d):=by rw [hl1]
  subst e1;have e0:n1=Bg.oS (Bg.RtB e c∧Bg.RtB h d) (Bg.zv e c * Bg.zv h d):=by rw [hn1]
  exact V.rt [2] [(G2 2).ss 0] [fun _=>{}] [] [2] [] (ag (DBig.mk n1 ⟨(Bg.oD (Bg.RtB e c∧Bg.RtB h d) (Bg.zv e c * Bg.zv h d)),(G2 2).ss 0⟩)) (cong1 (fun (x0:Int)=>(.agg #[iv x0,((G2 2).ss 0).v]:Value)) e0)
theorem times_ctv (c:Int) (a:List Int) (e:SV) (d:Int) (b:List Int) (f:SV) (hla:a.length≤274877906944) (hlb:b.length≤274877906944) (rv0:Int) (erv0:rv0=Bg.oS (Bg.RtB c a∧Bg.RtB d b) (Bg.zv c a * Bg.zv d b)) (rv1:List Int) (erv1:rv1=Bg.oD (Bg.RtB c a∧Bg.RtB d b) (Bg.zv c a * Bg.zv d b)) :
    Ct Tryz.prog 87 #[ag (DBig.mk c ⟨a,e⟩),ag (DBig.mk d ⟨b,f⟩)] [fs true a e,fs true b f] [] (fun g=>ag (DBig.mk rv0 ⟨rv1,(g.ss 0)⟩)) (fun g=>[fs true rv1 (g.ss 0)]) (fun g=>[]) (fun g=>[]):=by
  subst erv0 erv1;exact times_ct c a e d b f hla hlb
set_option maxRecDepth 10000 in
theorem new_ct (i:Int) (d:List Int) (j:SV) (c:Int) (e:List Int) (l:SV) (hlp:d.length≤274877906944) (hlq:e.length≤274877906944) :
    Ct Tryz.prog 86 #[ag (DBig.mk i ⟨d,j⟩),ag (DBig.mk c ⟨e,l⟩)] [fs true d j,fs true e l] [] (fun g=>.tuple #[ag (DFrac.mk ⟨(Fr.rS ((Bg.RtB i d∧Bg.RtB c e)∧c≠0) (Rat.divInt (Bg.zv i d) (Bg.zv c e))),Fr.rD ((Bg.RtB i d∧Bg.RtB c e)∧c≠0) (Rat.divInt (Bg.zv i d) (Bg.zv c e)),(g.ss 0)⟩ ⟨(Fr.rT ((Bg.RtB i d∧Bg.RtB c e)∧c≠0)),Fr.rE ((Bg.RtB i d∧Bg.RtB c e)∧c≠0) (Rat.divInt (Bg.zv i d) (Bg.zv c e)),(g.ss 1)⟩),iv (if ¬ (Bg.RtB i d∧Bg.RtB c e) then (1:Int) else if c=0 then 15 else 0)]) (fun g=>[fs true (Fr.rD ((Bg.RtB i d∧Bg.RtB c e)∧c≠0) (Rat.divInt (Bg.zv i d) (Bg.zv c e))) (g.ss 0),fs true (Fr.rE ((Bg.RtB i d∧Bg.RtB c e)∧c≠0) (Rat.divInt (Bg.zv i d) (Bg.zv c e))) (g.ss 1)]) (fun g=>[]) (fun g=>[]):=by
  refine V.fn mo Tryz.func86 60 8 (by kernel_rfl) fun w H ε k0=>?_;obtain ⟨⟨kl1, -⟩,⟨kl2, -⟩, -⟩:Lq d j.v∧Lq e l.v∧True:=kq k0
  clear k0;refine V.g [.nb 0 0 (fun b=>pp b 0) 27 (fun _=>ca (DBig.mk i ⟨d,j⟩)),.nb 1 1 (fun b=>pp b 0) 27 (fun _=>ca (DBig.mk c ⟨e,l⟩)),.nb 2 2 (fun b=>pp b 0) 29 (fun _=>ca (DFrac.mk ⟨0,[],{}⟩ ⟨0,[],{}⟩)),.k (iv 0)] fun _ _ G1=>?_;intro S s
  refine nm ((!(decide (Bg.RtB i d))) || (!(decide (Bg.RtB c e))):Bool) fun p1 hp1=>?_;refine V.g [.ld 0 0 true (fun _=>Dat.cells (DBig.mk i ⟨d,j⟩)),.cp g0 1 74 [(kf false (.f 0) d (fun _=>j)).a] (fun _ G=>bright_ct i d j),.k (bv (!(decide (Bg.RtB i d)))),.k (bv (!(decide (Bg.RtB i d)))),.ld 1 0 true (fun _=>Dat.cells (DBig.mk c ⟨e,l⟩)),.cp (gF (b:=!(decide (Bg.RtB i d))) (iNF iDT)) 5 74 [(kf false (.f 1) e (fun _=>l)).a] (fun hg G=>bright_ct c e l),.k (bv (!(decide (Bg.RtB c e)))),.orn g0 false (!(decide (Bg.RtB i d))) (!(decide (Bg.RtB c e))) p1 hp1,.k (bv p1)] fun _ _ G2=>?_;intro S s
  refine V.cn (b:=p1) (iN hp1 (iOT (iNT iDF) (iNT iDF))) (iN hp1 (iOF (iNF iDT) (iNF iDT))) (fun q1=>?_) (fun q2=>?_)
  · have hNR:¬ (Bg.RtB i d∧Bg.RtB c e):=by rintro ⟨h1,h2⟩;rcases q1 with h | h;exact h h1;exact h h2
    refine V.g [.k (ag (DFrac.mk ⟨0,[],{}⟩ ⟨0,[],{}⟩)),.st 2 (fun _=>.blk ((G1 2).b) (ca (DFrac.mk ⟨0,[],{}⟩ ⟨0,[],{}⟩)) 29),.k (iv 1)] fun _ _ G3=>?_;intro S s
    refine V.nilF (α:=Int) ?_;refine V.nilF (α:=Int) ?_;have e1:([]:List Int)=Fr.rD ((Bg.RtB i d∧Bg.RtB c e)∧c≠0) (Rat.divInt (Bg.zv i d) (Bg.zv c e)):=(Fr.Fz.no (fun h=>hNR h.1) (Rat.divInt (Bg.zv i d) (Bg.zv c e))).2.1;rw [←e1];have e3:([]:List Int)=Fr.rE ((Bg.RtB i d∧Bg.RtB c e)∧c≠0) (Rat.divInt (Bg.zv i d) (Bg.zv c e)):=(Fr.Fz.no (fun h=>hNR h.1) (Rat.divInt (Bg.zv i d) (Bg.zv c e))).2.2.2;rw [←e3];have e0:(0:Int)=Fr.rS ((Bg.RtB i d∧Bg.RtB c e)∧c≠0) (Rat.divInt (Bg.zv i d) (Bg.zv c e)):=(Fr.Fz.no (fun h=>hNR h.1) (Rat.divInt (Bg.zv i d) (Bg.zv c e))).1;have e2:(0:Int)=Fr.rT ((Bg.RtB i d∧Bg.RtB c e)∧c≠0):=(Fr.Fz.no (fun h=>hNR h.1) (Rat.divInt (Bg.zv i d) (Bg.zv c e))).2.2.1;have e4:(1:Int)=if ¬ (Bg.RtB i d∧Bg.RtB c e) then (1:Int) else if c=0 then 15 else 0:=(if_pos hNR).symm
    exact V.rt [2,0] [{},{}] [fun _=>{},fun _=>{}] [] [2,3] [] (.tuple #[ag (DFrac.mk ⟨0,([]:List Int),{}⟩ ⟨0,([]:List Int),{}⟩),iv 1]) (cong3 (fun (x0 x2 x4:Int)=>(.tuple #[.agg #[iv x0,SV.v ({}),iv x2,SV.v ({})],iv x4]:Value)) e0 e2 e4)
  have hRR:(Bg.RtB i d∧Bg.RtB c e):=by first | exact q2 | exact ⟨Decidable.not_not.1 (q2).1,Decidable.not_not.1 (q2).2⟩
  refine V.g [.k (pp ((G1 1).b) 0),.ld 1 0 false (fun _=>[iv c]),.k (bv (decide (c=0))),.k (bv (decide (c=0)))] fun _ _ G4=>?_;intro S s
  refine V.cn (b:=decide (c=0)) iDT iDF (fun q3=>?_) (fun q4=>?_)
  · have hz0:c=0:=q3;refine V.g [.k (ag (DFrac.mk ⟨0,[],{}⟩ ⟨0,[],{}⟩)),.st 2 (fun _=>.blk ((G1 2).b) (ca (DFrac.mk ⟨0,[],{}⟩ ⟨0,[],{}⟩)) 29),.k (iv 15)] fun _ _ G5=>?_;intro S s
    refine V.nilF (α:=Int) ?_;refine V.nilF (α:=Int) ?_;have e1:([]:List Int)=Fr.rD ((Bg.RtB i d∧Bg.RtB c e)∧c≠0) (Rat.divInt (Bg.zv i d) (Bg.zv c e)):=(Fr.Fz.no (fun h=>h.2 hz0) (Rat.divInt (Bg.zv i d) (Bg.zv c e))).2.1;rw [←e1];have e3:([]:List Int)=Fr.rE ((Bg.RtB i d∧Bg.RtB c e)∧c≠0) (Rat.divInt (Bg.zv i d) (Bg.zv c e)):=(Fr.Fz.no (fun h=>h.2 hz0) (Rat.divInt (Bg.zv i d) (Bg.zv c e))).2.2.2;rw [←e3];have e0:(0:Int)=Fr.rS ((Bg.RtB i d∧Bg.RtB c e)∧c≠0) (Rat.divInt (Bg.zv i d) (Bg.zv c e)):=(Fr.Fz.no (fun h=>h.2 hz0) (Rat.divInt (Bg.zv i d) (Bg.zv c e))).1;have e2:(0:Int)=Fr.rT ((Bg.RtB i d∧Bg.RtB c e)∧c≠0):=(Fr.Fz.no (fun h=>h.2 hz0) (Rat.divInt (Bg.zv i d) (Bg.zv c e))).2.2.1;have e4:(15:Int)=if ¬ (Bg.RtB i d∧Bg.RtB c e) then (1:Int) else if c=0 then 15 else 0:=by rw [if_neg (fun h=>h hRR),if_pos hz0]
    exact V.rt [2,0] [{},{}] [fun _=>{},fun _=>{}] [] [2,3] [] (.tuple #[ag (DFrac.mk ⟨0,([]:List Int),{}⟩ ⟨0,([]:List Int),{}⟩),iv 15]) (cong3 (fun (x0 x2 x4:Int)=>(.tuple #[.agg #[iv x0,SV.v ({}),iv x2,SV.v ({})],iv x4]:Value)) e0 e2 e4)
  have hz0:¬ c=0:=q4;refine V.g [.k (pp ((G1 1).b) 0),.ld 1 0 false (fun _=>[iv c]),.k (bv (decide (c < 0))),.k (bv (decide (c < 0)))] fun _ _ G6=>?_;intro S s
  refine V.cn (b:=decide (c < 0)) iDT iDF (fun q5=>?_) (fun q6=>?_)
  · refine nm (Bg.oS (Bg.RtB i d) (-Bg.zv i d):Int) fun n1 hn1=>?_;refine nl (Bg.oD (Bg.RtB i d) (-Bg.zv i d)) fun l1 hl1 hl1n=>?_;refine nm (Bg.oS (Bg.RtB c e) (-Bg.zv c e):Int) fun n2 hn2=>?_;refine nl (Bg.oD (Bg.RtB c e) (-Bg.zv c e)) fun l2 hl2 hl2n=>?_;obtain ⟨zp,zpl⟩:=Fr.Bz.neg (Fr.RtB.z hRR.1) hn1 hl1
    obtain ⟨zq,zql⟩:=Fr.Bz.neg (Fr.RtB.z hRR.2) hn2 hl2;have hyp:0 < -(Bg.zv c e):=by have:=(Fr.RtB.z hRR.2).neg0 q5;omega
    have hdv:Rat.divInt (-(Bg.zv i d)) (-(Bg.zv c e))=Rat.divInt (Bg.zv i d) (Bg.zv c e):=Rat.neg_divInt_neg _ _;refine V.r [.ld 0 0 true (fun _=>Dat.cells (DBig.mk i ⟨d,j⟩)),.ct g0 1 84 false [] [] [(kf false (.f 0) d (fun _=>j)).a] (fun _ G=>neg_ctv i d j (by omega) n1 hn1 l1 hl1),.ld 1 0 true (fun _=>Dat.cells (DBig.mk c ⟨e,l⟩)),.ct g0 3 84 false [] [] [(kf false (.f 1) e (fun _=>l)).a] (fun _ G=>neg_ctv c e l (by omega) n2 hn2 l2 hl2),.st 0 (fun G=>.blk ((G1 0).b) (ca (DBig.mk n1 ⟨l1,(G 1).ss 0⟩)) 27),.st 1 (fun G=>.blk ((G1 1).b) (ca (DBig.mk n2 ⟨l2,(G 3).ss 0⟩)) 27)] fun _ _ G7 kw7=>?_;intro S s
    obtain ⟨⟨kl3, -⟩,⟨kl4, -⟩, -⟩:Lq l1 (((G7 1).ss 0).v)∧Lq l2 (((G7 3).ss 0).v)∧True:=kq kw7;clear kw7;refine nm (Bg.oS (Bg.RtB n1 l1∧Bg.RtB n2 l2) ((Nat.gcd (Bg.nv l1) (Bg.nv l2):Int)):Int) fun n3 hn3=>?_;refine nl (Bg.oD (Bg.RtB n1 l1∧Bg.RtB n2 l2) ((Nat.gcd (Bg.nv l1) (Bg.nv l2):Int))) fun l3 hl3 hl3n=>?_;refine nm (if (Bg.RtB n1 l1∧Bg.RtB n2 l2) then (0:Int) else 1:Int) fun n4 hn4=>?_;have zg:=Fr.Bz.gcd zp zq hn3 hl3;have zgl:=Fr.Bz.gcd_len zp zq hyp zg;have hg0:=Fr.gcd_pos zg hyp;refine V.r [.ld 0 0 true (fun _=>Dat.cells (DBig.mk n1 ⟨l1,(G7 1).ss 0⟩)),.ld 1 0 true (fun _=>Dat.cells (DBig.mk n2 ⟨l2,(G7 3).ss 0⟩)),.ct g0 2 75 false [] [] [(kf true (.f 2) l1 (fun _=>(G7 1).ss 0)).a,(kf true (.f 3) l2 (fun _=>(G7 3).ss 0)).a] (fun _ G=>Gcd_ctv n1 l1 ((G7 1).ss 0) n2 l2 ((G7 3).ss 0) (by omega) (by omega) n3 hn3 l3 hl3 n4 hn4),.v fun G=>.tuple #[ag (DBig.mk n3 ⟨l3,(G 2).ss 0⟩),iv n4],.v fun G=>ag (DBig.mk n3 ⟨l3,(G 2).ss 0⟩),.k (iv n4),.nb 6 3 (fun b=>pp b 0) 27 (fun _=>ca (DBig.mk 0 ⟨[],{}⟩)),.st 3 (fun G=>.blk ((G 6).b) (ca (DBig.mk n3 ⟨l3,(G 2).ss 0⟩)) 27),.k (iv n4)] fun _ _ G8 kw8=>?_;intro S s;obtain ⟨⟨kl5, -⟩, -⟩:Lq l3 (((G8 2).ss 0).v)∧True:=kq kw8;clear kw8;refine nm (Bg.oS ((Bg.RtB n1 l1∧Bg.RtB n3 l3)∧n3≠0) (Bg.flo (Bg.zv n1 l1) (Bg.zv n3 l3)):Int) fun n5 hn5=>?_;refine nl (Bg.oD ((Bg.RtB n1 l1∧Bg.RtB n3 l3)∧n3≠0) (Bg.flo (Bg.zv n1 l1) (Bg.zv n3 l3))) fun l4 hl4 hl4n=>?_;refine nm (Bg.oS ((Bg.RtB n1 l1∧Bg.RtB n3 l3)∧n3≠0) (Bg.fmo (Bg.zv n1 l1) (Bg.zv n3 l3)):Int) fun n6 hn6=>?_;refine nl (Bg.oD ((Bg.RtB n1 l1∧Bg.RtB n3 l3)∧n3≠0) (Bg.fmo (Bg.zv n1 l1) (Bg.zv n3 l3))) fun l5 hl5 hl5n=>?_;refine nm (if ¬ (Bg.RtB n1 l1∧Bg.RtB n3 l3) then (1:Int) else if n3=0 then 15 else 0:Int) fun n7 hn7=>?_;have za:=Fr.Bz.div zp zg hg0 hn5 hl4;refine V.r [.ld 0 0 true (fun _=>Dat.cells (DBig.mk n1 ⟨l1,(G7 1).ss 0⟩)),.ld 3 0 true (fun _=>Dat.cells (DBig.mk n3 ⟨l3,(G8 2).ss 0⟩)),.ct g0 2 122 false [] [] [(kf true (.f 2) l1 (fun _=>(G7 1).ss 0)).a,(kf true (.f 4) l3 (fun _=>(G8 2).ss 0)).a] (fun _ G=>Div_ctv n1 l1 ((G7 1).ss 0) n3 l3 ((G8 2).ss 0) (by omega) (by omega) n5 hn5 l4 hl4 n6 hn6 l5 hl5 n7 hn7),.v fun G=>.tuple #[ag (DBig.mk n5 ⟨l4,(G 2).ss 0⟩),ag (DBig.mk n6 ⟨l5,(G 2).ss 1⟩),iv n7],.v fun G=>ag (DBig.mk n5 ⟨l4,(G 2).ss 0⟩),.v fun G=>ag (DBig.mk n6 ⟨l5,(G 2).ss 1⟩),.k (iv n7),.nb 7 4 (fun b=>pp b 0) 27 (fun _=>ca (DBig.mk 0 ⟨[],{}⟩)),.nb 8 5 (fun b=>pp b 0) 27 (fun _=>ca (DBig.mk 0 ⟨[],{}⟩)),.st 4 (fun G=>.blk ((G 7).b) (ca (DBig.mk n5 ⟨l4,(G 2).ss 0⟩)) 27),.st 5 (fun G=>.blk ((G 8).b) (ca (DBig.mk n6 ⟨l5,(G 2).ss 1⟩)) 27),.k (iv n7)] fun _ _ G9 kw9=>?_;intro S s;obtain ⟨⟨kl6, -⟩,⟨kl7, -⟩, -⟩:Lq l4 (((G9 2).ss 0).v)∧Lq l5 (((G9 2).ss 1).v)∧True:=kq kw9;clear kw9;refine nm (Bg.oS ((Bg.RtB n2 l2∧Bg.RtB n3 l3)∧n3≠0) (Bg.flo (Bg.zv n2 l2) (Bg.zv n3 l3)):Int) fun n8 hn8=>?_;refine nl (Bg.oD ((Bg.RtB n2 l2∧Bg.RtB n3 l3)∧n3≠0) (Bg.flo (Bg.zv n2 l2) (Bg.zv n3 l3))) fun l6 hl6 hl6n=>?_;refine nm (Bg.oS ((Bg.RtB n2 l2∧Bg.RtB n3 l3)∧n3≠0) (Bg.fmo (Bg.zv n2 l2) (Bg.zv n3 l3)):Int) fun n9 hn9=>?_;refine nl (Bg.oD ((Bg.RtB n2 l2∧Bg.RtB n3 l3)∧n3≠0) (Bg.fmo (Bg.zv n2 l2) (Bg.zv n3 l3))) fun l7 hl7 hl7n=>?_;refine nm (if ¬ (Bg.RtB n2 l2∧Bg.RtB n3 l3) then (1:Int) else if n3=0 then 15 else 0:Int) fun n10 hn10=>?_;have zb:=Fr.Bz.div zq zg hg0 hn8 hl6;refine V.r [.ld 1 0 true (fun _=>Dat.cells (DBig.mk n2 ⟨l2,(G7 3).ss 0⟩)),.ld 3 0 true (fun _=>Dat.cells (DBig.mk n3 ⟨l3,(G8 2).ss 0⟩)),.ct g0 2 122 false [] [] [(kf true (.f 3) l2 (fun _=>(G7 3).ss 0)).a,(kf true (.f 4) l3 (fun _=>(G8 2).ss 0)).a] (fun _ G=>Div_ctv n2 l2 ((G7 3).ss 0) n3 l3 ((G8 2).ss 0) (by omega) (by omega) n8 hn8 l6 hl6 n9 hn9 l7 hl7 n10 hn10),.v fun G=>.tuple #[ag (DBig.mk n8 ⟨l6,(G 2).ss 0⟩),ag (DBig.mk n9 ⟨l7,(G 2).ss 1⟩),iv n10],.v fun G=>ag (DBig.mk n8 ⟨l6,(G 2).ss 0⟩),.v fun G=>ag (DBig.mk n9 ⟨l7,(G 2).ss 1⟩),.k (iv n10),.nb 7 6 (fun b=>pp b 0) 27 (fun _=>ca (DBig.mk 0 ⟨[],{}⟩)),.nb 8 7 (fun b=>pp b 0) 27 (fun _=>ca (DBig.mk 0 ⟨[],{}⟩)),.st 6 (fun G=>.blk ((G 7).b) (ca (DBig.mk n8 ⟨l6,(G 2).ss 0⟩)) 27),.st 7 (fun G=>.blk ((G 8).b) (ca (DBig.mk n9 ⟨l7,(G 2).ss 1⟩)) 27),.k (iv n10)] fun _ _ G10 kw10=>?_;intro S s;obtain ⟨⟨kl8, -⟩,⟨kl9, -⟩, -⟩:Lq l6 (((G10 2).ss 0).v)∧Lq l7 (((G10 2).ss 1).v)∧True:=kq kw10;clear kw10;refine V.g [.ld 4 0 true (fun _=>Dat.cells (DBig.mk n5 ⟨l4,(G9 2).ss 0⟩)),.ld 6 0 true (fun _=>Dat.cells (DBig.mk n8 ⟨l6,(G10 2).ss 0⟩)),.k (ag (DFrac.mk ⟨n5,l4,(G9 2).ss 0⟩ ⟨n8,l6,(G10 2).ss 0⟩)),.st 2 (fun _=>.blk ((G1 2).b) (ca (DFrac.mk ⟨n5,l4,(G9 2).ss 0⟩ ⟨n8,l6,(G10 2).ss 0⟩)) 29),.k (iv 0)] fun _ _ G11=>?_;intro S s;have e1:l4=Fr.rD ((Bg.RtB i d∧Bg.RtB c e)∧c≠0) (Rat.divInt (Bg.zv i d) (Bg.zv c e)):=(Fr.Fz.ret (Fr.new_fin zp zq hyp zg za zb) ⟨hRR,hz0⟩ (hdv)).2.1;subst e1;have e3:l6=Fr.rE ((Bg.RtB i d∧Bg.RtB c e)∧c≠0) (Rat.divInt (Bg.zv i d) (Bg.zv c e)):=(Fr.Fz.ret (Fr.new_fin zp zq hyp zg za zb) ⟨hRR,hz0⟩ (hdv)).2.2.2;subst e3;have e0:n5=Fr.rS ((Bg.RtB i d∧Bg.RtB c e)∧c≠0) (Rat.divInt (Bg.zv i d) (Bg.zv c e)):=(Fr.Fz.ret (Fr.new_fin zp zq hyp zg za zb) ⟨hRR,hz0⟩ (hdv)).1;have e2:n8=Fr.rT ((Bg.RtB i d∧Bg.RtB c e)∧c≠0):=(Fr.Fz.ret (Fr.new_fin zp zq hyp zg za zb) ⟨hRR,hz0⟩ (hdv)).2.2.1;have e4:(0:Int)=if ¬ (Bg.RtB i d∧Bg.RtB c e) then (1:Int) else if c=0 then 15 else 0:=by rw [if_neg (fun h=>h hRR),if_neg hz0]
    exact V.rt [2,0] [(G9 2).ss 0,(G10 2).ss 0] [fun _=>{},fun _=>{}] [] [5,7] [] (.tuple #[ag (DFrac.mk ⟨n5,(Fr.rD ((Bg.RtB i d∧Bg.RtB c e)∧c≠0) (Rat.divInt (Bg.zv i d) (Bg.zv c e))),(G9 2).ss 0⟩ ⟨n8,(Fr.rE ((Bg.RtB i d∧Bg.RtB c e)∧c≠0) (Rat.divInt (Bg.zv i d) (Bg.zv c e))),(G10 2).ss 0⟩),iv 0]) (cong3 (fun (x0 x2 x4:Int)=>(.tuple #[.agg #[iv x0,((G9 2).ss 0).v,iv x2,((G10 2).ss 0).v],iv x4]:Value)) e0 e2 e4)
  have zp:=Fr.RtB.z hRR.1;have zq:=Fr.RtB.z hRR.2;have hyp:0 < (Bg.zv c e):=zq.pos (by omega);have hdv:Rat.divInt (Bg.zv i d) (Bg.zv c e)=Rat.divInt (Bg.zv i d) (Bg.zv c e):=rfl;refine nm (Bg.oS (Bg.RtB i d∧Bg.RtB c e) ((Nat.gcd (Bg.nv d) (Bg.nv e):Int)):Int) fun n11 hn11=>?_;refine nl (Bg.oD (Bg.RtB i d∧Bg.RtB c e) ((Nat.gcd (Bg.nv d) (Bg.nv e):Int))) fun l8 hl8 hl8n=>?_;refine nm (if (Bg.RtB i d∧Bg.RtB c e) then (0:Int) else 1:Int) fun n12 hn12=>?_;have zg:=Fr.Bz.gcd zp zq hn11 hl8
  have zgl:=Fr.Bz.gcd_len zp zq hyp zg;have hg0:=Fr.gcd_pos zg hyp;refine V.r [.ld 0 0 true (fun _=>Dat.cells (DBig.mk i ⟨d,j⟩)),.ld 1 0 true (fun _=>Dat.cells (DBig.mk c ⟨e,l⟩)),.ct g0 2 75 false [] [] [(kf false (.f 0) d (fun _=>j)).a,(kf false (.f 1) e (fun _=>l)).a] (fun _ G=>Gcd_ctv i d j c e l (by omega) (by omega) n11 hn11 l8 hl8 n12 hn12),.v fun G=>.tuple #[ag (DBig.mk n11 ⟨l8,(G 2).ss 0⟩),iv n12],.v fun G=>ag (DBig.mk n11 ⟨l8,(G 2).ss 0⟩),.k (iv n12),.nb 6 3 (fun b=>pp b 0) 27 (fun _=>ca (DBig.mk 0 ⟨[],{}⟩)),.st 3 (fun G=>.blk ((G 6).b) (ca (DBig.mk n11 ⟨l8,(G 2).ss 0⟩)) 27),.k (iv n12)] fun _ _ G12 kw12=>?_;intro S s
  obtain ⟨⟨kl10, -⟩, -⟩:Lq l8 (((G12 2).ss 0).v)∧True:=kq kw12;clear kw12;refine nm (Bg.oS ((Bg.RtB i d∧Bg.RtB n11 l8)∧n11≠0) (Bg.flo (Bg.zv i d) (Bg.zv n11 l8)):Int) fun n13 hn13=>?_;refine nl (Bg.oD ((Bg.RtB i d∧Bg.RtB n11 l8)∧n11≠0) (Bg.flo (Bg.zv i d) (Bg.zv n11 l8))) fun l9 hl9 hl9n=>?_;refine nm (Bg.oS ((Bg.RtB i d∧Bg.RtB n11 l8)∧n11≠0) (Bg.fmo (Bg.zv i d) (Bg.zv n11 l8)):Int) fun n14 hn14=>?_;refine nl (Bg.oD ((Bg.RtB i d∧Bg.RtB n11 l8)∧n11≠0) (Bg.fmo (Bg.zv i d) (Bg.zv n11 l8))) fun l10 hl10 hl10n=>?_;refine nm (if ¬ (Bg.RtB i d∧Bg.RtB n11 l8) then (1:Int) else if n11=0 then 15 else 0:Int) fun n15 hn15=>?_;have za:=Fr.Bz.div zp zg hg0 hn13 hl9;refine V.r [.ld 0 0 true (fun _=>Dat.cells (DBig.mk i ⟨d,j⟩)),.ld 3 0 true (fun _=>Dat.cells (DBig.mk n11 ⟨l8,(G12 2).ss 0⟩)),.ct g0 2 122 false [] [] [(kf false (.f 0) d (fun _=>j)).a,(kf true (.f 2) l8 (fun _=>(G12 2).ss 0)).a] (fun _ G=>Div_ctv i d j n11 l8 ((G12 2).ss 0) (by omega) (by omega) n13 hn13 l9 hl9 n14 hn14 l10 hl10 n15 hn15),.v fun G=>.tuple #[ag (DBig.mk n13 ⟨l9,(G 2).ss 0⟩),ag (DBig.mk n14 ⟨l10,(G 2).ss 1⟩),iv n15],.v fun G=>ag (DBig.mk n13 ⟨l9,(G 2).ss 0⟩),.v fun G=>ag (DBig.mk n14 ⟨l10,(G 2).ss 1⟩),.k (iv n15),.nb 7 4 (fun b=>pp b 0) 27 (fun _=>ca (DBig.mk 0 ⟨[],{}⟩)),.nb 8 5 (fun b=>pp b 0) 27 (fun _=>ca (DBig.mk 0 ⟨[],{}⟩)),.st 4 (fun G=>.blk ((G 7).b) (ca (DBig.mk n13 ⟨l9,(G 2).ss 0⟩)) 27),.st 5 (fun G=>.blk ((G 8).b) (ca (DBig.mk n14 ⟨l10,(G 2).ss 1⟩)) 27),.k (iv n15)] fun _ _ G13 kw13=>?_;intro S s;obtain ⟨⟨kl11, -⟩,⟨kl12, -⟩, -⟩:Lq l9 (((G13 2).ss 0).v)∧Lq l10 (((G13 2).ss 1).v)∧True:=kq kw13;clear kw13;refine nm (Bg.oS ((Bg.RtB c e∧Bg.RtB n11 l8)∧n11≠0) (Bg.flo (Bg.zv c e) (Bg.zv n11 l8)):Int) fun n16 hn16=>?_;refine nl (Bg.oD ((Bg.RtB c e∧Bg.RtB n11 l8)∧n11≠0) (Bg.flo (Bg.zv c e) (Bg.zv n11 l8))) fun l11 hl11 hl11n=>?_;refine nm (Bg.oS ((Bg.RtB c e∧Bg.RtB n11 l8)∧n11≠0) (Bg.fmo (Bg.zv c e) (Bg.zv n11 l8)):Int) fun n17 hn17=>?_;refine nl (Bg.oD ((Bg.RtB c e∧Bg.RtB n11 l8)∧n11≠0) (Bg.fmo (Bg.zv c e) (Bg.zv n11 l8))) fun l12 hl12 hl12n=>?_;refine nm (if ¬ (Bg.RtB c e∧Bg.RtB n11 l8) then (1:Int) else if n11=0 then 15 else 0:Int) fun n18 hn18=>?_;have zb:=Fr.Bz.div zq zg hg0 hn16 hl11;refine V.r [.ld 1 0 true (fun _=>Dat.cells (DBig.mk c ⟨e,l⟩)),.ld 3 0 true (fun _=>Dat.cells (DBig.mk n11 ⟨l8,(G12 2).ss 0⟩)),.ct g0 2 122 false [] [] [(kf false (.f 1) e (fun _=>l)).a,(kf true (.f 2) l8 (fun _=>(G12 2).ss 0)).a] (fun _ G=>Div_ctv c e l n11 l8 ((G12 2).ss 0) (by omega) (by omega) n16 hn16 l11 hl11 n17 hn17 l12 hl12 n18 hn18),.v fun G=>.tuple #[ag (DBig.mk n16 ⟨l11,(G 2).ss 0⟩),ag (DBig.mk n17 ⟨l12,(G 2).ss 1⟩),iv n18],.v fun G=>ag (DBig.mk n16 ⟨l11,(G 2).ss 0⟩),.v fun G=>ag (DBig.mk n17 ⟨l12,(G 2).ss 1⟩),.k (iv n18),.nb 7 6 (fun b=>pp b 0) 27 (fun _=>ca (DBig.mk 0 ⟨[],{}⟩)),.nb 8 7 (fun b=>pp b 0) 27 (fun _=>ca (DBig.mk 0 ⟨[],{}⟩)),.st 6 (fun G=>.blk ((G 7).b) (ca (DBig.mk n16 ⟨l11,(G 2).ss 0⟩)) 27),.st 7 (fun G=>.blk ((G 8).b) (ca (DBig.mk n17 ⟨l12,(G 2).ss 1⟩)) 27),.k (iv n18)] fun _ _ G14 kw14=>?_;intro S s;obtain ⟨⟨kl13, -⟩,⟨kl14, -⟩, -⟩:Lq l11 (((G14 2).ss 0).v)∧Lq l12 (((G14 2).ss 1).v)∧True:=kq kw14;clear kw14;refine V.g [.ld 4 0 true (fun _=>Dat.cells (DBig.mk n13 ⟨l9,(G13 2).ss 0⟩)),.ld 6 0 true (fun _=>Dat.cells (DBig.mk n16 ⟨l11,(G14 2).ss 0⟩)),.k (ag (DFrac.mk ⟨n13,l9,(G13 2).ss 0⟩ ⟨n16,l11,(G14 2).ss 0⟩)),.st 2 (fun _=>.blk ((G1 2).b) (ca (DFrac.mk ⟨n13,l9,(G13 2).ss 0⟩ ⟨n16,l11,(G14 2).ss 0⟩)) 29),.k (iv 0)] fun _ _ G15=>?_;intro S s;have e1:l9=Fr.rD ((Bg.RtB i d∧Bg.RtB c e)∧c≠0) (Rat.divInt (Bg.zv i d) (Bg.zv c e)):=(Fr.Fz.ret (Fr.new_fin zp zq hyp zg za zb) ⟨hRR,hz0⟩ (hdv)).2.1;subst e1;have e3:l11=Fr.rE ((Bg.RtB i d∧Bg.RtB c e)∧c≠0) (Rat.divInt (Bg.zv i d) (Bg.zv c e)):=(Fr.Fz.ret (Fr.new_fin zp zq hyp zg za zb) ⟨hRR,hz0⟩ (hdv)).2.2.2;subst e3;have e0:n13=Fr.rS ((Bg.RtB i d∧Bg.RtB c e)∧c≠0) (Rat.divInt (Bg.zv i d) (Bg.zv c e)):=(Fr.Fz.ret (Fr.new_fin zp zq hyp zg za zb) ⟨hRR,hz0⟩ (hdv)).1;have e2:n16=Fr.rT ((Bg.RtB i d∧Bg.RtB c e)∧c≠0):=(Fr.Fz.ret (Fr.new_fin zp zq hyp zg za zb) ⟨hRR,hz0⟩ (hdv)).2.2.1;have e4:(0:Int)=if ¬ (Bg.RtB i d∧Bg.RtB c e) then (1:Int) else if c=0 then 15 else 0:=by rw [if_neg (fun h=>h hRR),if_neg hz0]
  exact V.rt [2,0] [(G13 2).ss 0,(G14 2).ss 0] [fun _=>{},fun _=>{}] [] [3,5] [] (.tuple #[ag (DFrac.mk ⟨n13,(Fr.rD ((Bg.RtB i d∧Bg.RtB c e)∧c≠0) (Rat.divInt (Bg.zv i d) (Bg.zv c e))),(G13 2).ss 0⟩ ⟨n16,(Fr.rE ((Bg.RtB i d∧Bg.RtB c e)∧c≠0) (Rat.divInt (Bg.zv i d) (Bg.zv c e))),(G14 2).ss 0⟩),iv 0]) (cong3 (fun (x0 x2 x4:Int)=>(.tuple #[.agg #[iv x0,((G13 2).ss 0).v,iv x2,((G14 2).ss 0).v],iv x4]:Value)) e0 e2 e4)
theorem new_ctv (d:Int) (b:List Int) (e:SV) (a:Int) (c:List Int) (f:SV) (hlp:b.length≤274877906944) (hlq:c.length≤274877906944) (rv0:Int) (erv0:rv0=Fr.rS ((Bg.RtB d b∧Bg.RtB a c)∧a≠0) (Rat.divInt (Bg.zv d b) (Bg.zv a c))) (rv1:List Int) (erv1:rv1=Fr.rD ((Bg.RtB d b∧Bg.RtB a c)∧a≠0) (Rat.divInt (Bg.zv d b) (Bg.zv a c))) (rv2:Int) (erv2:rv2=Fr.rT ((Bg.RtB d b∧Bg.RtB a c)∧a≠0)) (rv3:List Int) (erv3:rv3=Fr.rE ((Bg.RtB d b∧Bg.RtB a c)∧a≠0) (Rat.divInt (Bg.zv d b) (Bg.zv a c))) (rv4:Int) (erv4:rv4=if ¬ (Bg.RtB d b∧Bg.RtB a c) then (1:Int) else if a=0 then 15 else 0) :
    Ct Tryz.prog 86 #[ag (DBig.mk d ⟨b,e⟩),ag (DBig.mk a ⟨c,f⟩)] [fs true b e,fs true c f] [] (fun g=>.tuple #[ag (DFrac.mk ⟨rv0,rv1,(g.ss 0)⟩ ⟨rv2,rv3,(g.ss 1)⟩),iv rv4]) (fun g=>[fs true rv1 (g.ss 0),fs true rv3 (g.ss 1)]) (fun g=>[]) (fun g=>[]):=by
  subst erv0 erv1 erv2 erv3 erv4;exact new_ct d b e a c f hlp hlq
set_option maxRecDepth 10000 in
theorem fof_ct (p q:Int) (hp: -9223372036854775808≤p∧p≤9223372036854775807) (hq: -9223372036854775808≤q∧q≤9223372036854775807) :
    Ct Tryz.prog 104 #[iv p,iv q] [] [] (fun g=>.tuple #[ag (DFrac.mk ⟨(Fr.rS (q≠0) (Rat.divInt p q)),Fr.rD (q≠0) (Rat.divInt p q),(g.ss 0)⟩ ⟨(Fr.rT (q≠0)),Fr.rE (q≠0) (Rat.divInt p q),(g.ss 1)⟩),iv (if q=0 then (15:Int) else 0)]) (fun g=>[fs true (Fr.rD (q≠0) (Rat.divInt p q)) (g.ss 0),fs true (Fr.rE (q≠0) (Rat.divInt p q)) (g.ss 1)]) (fun g=>[]) (fun g=>[]):=by
  refine V.fn mo Tryz.func104 13 1 (by kernel_rfl) fun w H ε k0=>?_;clear k0
  refine V.g [.nb 0 0 (fun b=>pp b 0) 29 (fun _=>ca (DFrac.mk ⟨0,[],{}⟩ ⟨0,[],{}⟩)),.k (iv 0)] fun _ _ G1=>?_;intro S s
  refine nm (Bg.sgn p:Int) fun n1 hn1=>?_;refine nl (Bg.dig p.natAbs) fun l1 hl1 hl1n=>?_;refine nm (Bg.sgn q:Int) fun n2 hn2=>?_;refine nl (Bg.dig q.natAbs) fun l2 hl2 hl2n=>?_;refine nm (Fr.rS ((Bg.RtB n1 l1∧Bg.RtB n2 l2)∧n2≠0) (Rat.divInt (Bg.zv n1 l1) (Bg.zv n2 l2)):Int) fun n3 hn3=>?_;refine nl (Fr.rD ((Bg.RtB n1 l1∧Bg.RtB n2 l2)∧n2≠0) (Rat.divInt (Bg.zv n1 l1) (Bg.zv n2 l2))) fun l3 hl3 hl3n=>?_;refine nm (Fr.rT ((Bg.RtB n1 l1∧Bg.RtB n2 l2)∧n2≠0):Int) fun n4 hn4=>?_;refine nl (Fr.rE ((Bg.RtB n1 l1∧Bg.RtB n2 l2)∧n2≠0) (Rat.divInt (Bg.zv n1 l1) (Bg.zv n2 l2))) fun l4 hl4 hl4n=>?_;refine nm (if ¬ (Bg.RtB n1 l1∧Bg.RtB n2 l2) then (1:Int) else if n2=0 then 15 else 0:Int) fun n5 hn5=>?_;have zp:=Fr.Bz.int hn1 hl1
  have zq:=Fr.Bz.int hn2 hl2;have zpl:=zp.int_len hp;have zql:=zq.int_len hq;obtain ⟨en1,en2,en3,en4,en5⟩:=Fr.of_all zp zq hn3 hl3 hn4 hl4 hn5;refine V.r [.k (iv p),.ct g0 1 85 false [] [] [] (fun _ G=>of_ctv p (by omega) n1 hn1 l1 hl1),.k (iv q),.ct g0 3 85 false [] [] [] (fun _ G=>of_ctv q (by omega) n2 hn2 l2 hl2),.ct g0 4 86 false [] [] [(kf true (.g 1 0) l1 (fun G=>(G 1).ss 0)).a,(kf true (.g 3 0) l2 (fun G=>(G 3).ss 0)).a] (fun _ G=>new_ctv n1 l1 ((G 1).ss 0) n2 l2 ((G 3).ss 0) (by omega) (by omega) n3 hn3 l3 hl3 n4 hn4 l4 hl4 n5 hn5),.v fun G=>ag (DFrac.mk ⟨n3,l3,(G 4).ss 0⟩ ⟨n4,l4,(G 4).ss 1⟩),.k (iv n5),.st 0 (fun G=>.blk ((G1 0).b) (ca (DFrac.mk ⟨n3,l3,(G 4).ss 0⟩ ⟨n4,l4,(G 4).ss 1⟩)) 29),.k (iv n5)] fun _ _ G2 kw2=>?_;intro S s
  obtain ⟨⟨kl1, -⟩,⟨kl2, -⟩,⟨kl3, -⟩,⟨kl4, -⟩, -⟩:Lq l1 (((G2 1).ss 0).v)∧Lq l2 (((G2 3).ss 0).v)∧Lq l3 (((G2 4).ss 0).v)∧Lq l4 (((G2 4).ss 1).v)∧True:=kq kw2;clear kw2;have e1:l3=Fr.rD (q≠0) (Rat.divInt p q):=en2;subst e1;have e3:l4=Fr.rE (q≠0) (Rat.divInt p q):=en4;subst e3;have e0:n3=Fr.rS (q≠0) (Rat.divInt p q):=en1;have e2:n4=Fr.rT (q≠0):=en3;have e4:n5=if q=0 then (15:Int) else 0:=en5
  exact V.rt [0,0] [(G2 4).ss 0,(G2 4).ss 1] [fun _=>{},fun _=>{}] [] [2,3] [] (.tuple #[ag (DFrac.mk ⟨n3,(Fr.rD (q≠0) (Rat.divInt p q)),(G2 4).ss 0⟩ ⟨n4,(Fr.rE (q≠0) (Rat.divInt p q)),(G2 4).ss 1⟩),iv n5]) (cong3 (fun (x0 x2 x4:Int)=>(.tuple #[.agg #[iv x0,((G2 4).ss 0).v,iv x2,((G2 4).ss 1).v],iv x4]:Value)) e0 e2 e4)
theorem fof_ctv (p q:Int) (hp: -9223372036854775808≤p∧p≤9223372036854775807) (hq: -9223372036854775808≤q∧q≤9223372036854775807) (rv0:Int) (erv0:rv0=Fr.rS (q≠0) (Rat.divInt p q)) (rv1:List Int) (erv1:rv1=Fr.rD (q≠0) (Rat.divInt p q)) (rv2:Int) (erv2:rv2=Fr.rT (q≠0)) (rv3:List Int) (erv3:rv3=Fr.rE (q≠0) (Rat.divInt p q)) (rv4:Int) (erv4:rv4=if q=0 then (15:Int) else 0) :
    Ct Tryz.prog 104 #[iv p,iv q] [] [] (fun g=>.tuple #[ag (DFrac.mk ⟨rv0,rv1,(g.ss 0)⟩ ⟨rv2,rv3,(g.ss 1)⟩),iv rv4]) (fun g=>[fs true rv1 (g.ss 0),fs true rv3 (g.ss 1)]) (fun g=>[]) (fun g=>[]):=by
  subst erv0 erv1 erv2 erv3 erv4;exact fof_ct p q hp hq
set_option maxRecDepth 10000 in
theorem fint_ct (n:Int) (hn: -9223372036854775808≤n∧n≤9223372036854775807) :
    Ct Tryz.prog 43 #[iv n] [] [] (fun g=>ag (DFrac.mk ⟨(Bg.sgn n),Bg.dig n.natAbs,(g.ss 0)⟩ ⟨1,Bg.dig 1,(g.ss 1)⟩)) (fun g=>[fs true (Bg.dig n.natAbs) (g.ss 0),fs true (Bg.dig 1) (g.ss 1)]) (fun g=>[]) (fun g=>[]):=by
  refine V.fn mo Tryz.func43 7 1 (by kernel_rfl) fun w H ε k0=>?_;clear k0
  refine V.g [.nb 0 0 (fun b=>pp b 0) 29 (fun _=>ca (DFrac.mk ⟨0,[],{}⟩ ⟨0,[],{}⟩))] fun _ _ G1=>?_;intro S s
  refine nm (Bg.sgn n:Int) fun n1 hn1=>?_;refine nl (Bg.dig n.natAbs) fun l1 hl1 hl1n=>?_;refine nm (Bg.sgn (1:Int):Int) fun n2 hn2=>?_;refine nl (Bg.dig (1:Int).natAbs) fun l2 hl2 hl2n=>?_;refine V.r [.k (iv n),.ct g0 1 85 false [] [] [] (fun _ G=>of_ctv n (by omega) n1 hn1 l1 hl1),.ct g0 2 85 false [] [] [] (fun _ G=>of_ctv (1:Int) (by omega) n2 hn2 l2 hl2),.v fun G=>ag (DFrac.mk ⟨n1,l1,(G 1).ss 0⟩ ⟨n2,l2,(G 2).ss 0⟩),.st 0 (fun G=>.blk ((G1 0).b) (ca (DFrac.mk ⟨n1,l1,(G 1).ss 0⟩ ⟨n2,l2,(G 2).ss 0⟩)) 29)] fun _ _ G2 kw2=>?_;intro S s
  obtain ⟨⟨kl1, -⟩,⟨kl2, -⟩, -⟩:Lq l1 (((G2 1).ss 0).v)∧Lq l2 (((G2 2).ss 0).v)∧True:=kq kw2;clear kw2;have e1:l1=Bg.dig n.natAbs:=by subst_vars;rfl
  subst e1;have e3:l2=Bg.dig 1:=by subst_vars;rfl
  subst e3;have e0:n1=Bg.sgn n:=by subst_vars;rfl
  have e2:n2=1:=by subst_vars;rfl
  exact V.rt [0] [(G2 1).ss 0,(G2 2).ss 0] [fun _=>{},fun _=>{}] [] [0,1] [] (ag (DFrac.mk ⟨n1,(Bg.dig n.natAbs),(G2 1).ss 0⟩ ⟨n2,(Bg.dig 1),(G2 2).ss 0⟩)) (cong2 (fun (x0 x2:Int)=>(.agg #[iv x0,((G2 1).ss 0).v,iv x2,((G2 2).ss 0).v]:Value)) e0 e2)
theorem fint_ctv (n:Int) (hn: -9223372036854775808≤n∧n≤9223372036854775807) (rv0:Int) (erv0:rv0=Bg.sgn n) (rv1:List Int) (erv1:rv1=Bg.dig n.natAbs) (rv3:List Int) (erv3:rv3=Bg.dig 1) :
    Ct Tryz.prog 43 #[iv n] [] [] (fun g=>ag (DFrac.mk ⟨rv0,rv1,(g.ss 0)⟩ ⟨1,rv3,(g.ss 1)⟩)) (fun g=>[fs true rv1 (g.ss 0),fs true rv3 (g.ss 1)]) (fun g=>[]) (fun g=>[]):=by
  subst erv0 erv1 erv3;exact fint_ct n hn
set_option maxRecDepth 10000 in
theorem fmul_ct (j:Int) (c:List Int) (o:SV) (m:Int) (d:List Int) (t:SV) (l:Int) (e:List Int) (u:SV) (n:Int) (i:List Int) (x:SV) (haP:c.length≤17179869184) (haQ:d.length≤17179869184) (hbP:e.length≤17179869184) (hbQ:i.length≤17179869184) :
    Ct Tryz.prog 45 #[ag (DFrac.mk ⟨j,c,o⟩ ⟨m,d,t⟩),ag (DFrac.mk ⟨l,e,u⟩ ⟨n,i,x⟩)] [fs true c o,fs true d t,fs true e u,fs true i x] [] (fun g=>.tuple #[ag (DFrac.mk ⟨(Fr.rS (Fr.FrB j c m d∧Fr.FrB l e n i) ((Fr.fq j c d) * (Fr.fq l e i))),Fr.rD (Fr.FrB j c m d∧Fr.FrB l e n i) ((Fr.fq j c d) * (Fr.fq l e i)),(g.ss 0)⟩ ⟨(Fr.rT (Fr.FrB j c m d∧Fr.FrB l e n i)),Fr.rE (Fr.FrB j c m d∧Fr.FrB l e n i) ((Fr.fq j c d) * (Fr.fq l e i)),(g.ss 1)⟩),iv (if ¬ (Fr.FrB j c m d∧Fr.FrB l e n i) then (1:Int) else 0)]) (fun g=>[fs true (Fr.rD (Fr.FrB j c m d∧Fr.FrB l e n i) ((Fr.fq j c d) * (Fr.fq l e i))) (g.ss 0),fs true (Fr.rE (Fr.FrB j c m d∧Fr.FrB l e n i) ((Fr.fq j c d) * (Fr.fq l e i))) (g.ss 1)]) (fun g=>[]) (fun g=>[]):=by
  refine V.fn mo Tryz.func45 28 3 (by kernel_rfl) fun w H ε k0=>?_;obtain ⟨⟨kl1, -⟩,⟨kl2, -⟩,⟨kl3, -⟩,⟨kl4, -⟩, -⟩:Lq c o.v∧Lq d t.v∧Lq e u.v∧Lq i x.v∧True:=kq k0
  clear k0;refine V.g [.nb 0 0 (fun b=>pp b 0) 29 (fun _=>ca (DFrac.mk ⟨j,c,o⟩ ⟨m,d,t⟩)),.nb 1 1 (fun b=>pp b 0) 29 (fun _=>ca (DFrac.mk ⟨l,e,u⟩ ⟨n,i,x⟩)),.nb 2 2 (fun b=>pp b 0) 29 (fun _=>ca (DFrac.mk ⟨0,[],{}⟩ ⟨0,[],{}⟩)),.k (iv 0)] fun _ _ G1=>?_;intro S s
  refine nm ((!(decide (Fr.FrB j c m d))) || (!(decide (Fr.FrB l e n i))):Bool) fun p1 hp1=>?_;refine V.g [.ld 0 0 true (fun _=>Dat.cells (DFrac.mk ⟨j,c,o⟩ ⟨m,d,t⟩)),.cp g0 1 36 [(kf false (.f 0) c (fun _=>o)).a,(kf false (.f 1) d (fun _=>t)).a] (fun _ G=>right_ct j c o m d t (by omega) (by omega)),.k (bv (!(decide (Fr.FrB j c m d)))),.k (bv (!(decide (Fr.FrB j c m d)))),.ld 1 0 true (fun _=>Dat.cells (DFrac.mk ⟨l,e,u⟩ ⟨n,i,x⟩)),.cp (gF (b:=!(decide (Fr.FrB j c m d))) (iNF iDT)) 5 36 [(kf false (.f 2) e (fun _=>u)).a,(kf false (.f 3) i (fun _=>x)).a] (fun hg G=>right_ct l e u n i x (by omega) (by omega)),.k (bv (!(decide (Fr.FrB l e n i)))),.orn g0 false (!(decide (Fr.FrB j c m d))) (!(decide (Fr.FrB l e n i))) p1 hp1] fun _ _ G2=>?_;intro S s
  refine V.cn (b:=p1) (iN hp1 (iOT (iNT iDF) (iNT iDF))) (iN hp1 (iOF (iNF iDT) (iNF iDT))) (fun q1=>?_) (fun q2=>?_)
  · have hNR:¬ (Fr.FrB j c m d∧Fr.FrB l e n i):=by rintro ⟨h1,h2⟩;rcases q1 with h | h;exact h h1;exact h h2
    refine V.g [.k (ag (DFrac.mk ⟨0,[],{}⟩ ⟨0,[],{}⟩)),.st 2 (fun _=>.blk ((G1 2).b) (ca (DFrac.mk ⟨0,[],{}⟩ ⟨0,[],{}⟩)) 29),.k (iv 1)] fun _ _ G3=>?_;intro S s
    refine V.nilF (α:=Int) ?_;refine V.nilF (α:=Int) ?_;have e1:([]:List Int)=Fr.rD (Fr.FrB j c m d∧Fr.FrB l e n i) ((Fr.fq j c d) * (Fr.fq l e i)):=(Fr.Fz.no hNR ((Fr.fq j c d) * (Fr.fq l e i))).2.1;rw [←e1];have e3:([]:List Int)=Fr.rE (Fr.FrB j c m d∧Fr.FrB l e n i) ((Fr.fq j c d) * (Fr.fq l e i)):=(Fr.Fz.no hNR ((Fr.fq j c d) * (Fr.fq l e i))).2.2.2;rw [←e3];have e0:(0:Int)=Fr.rS (Fr.FrB j c m d∧Fr.FrB l e n i) ((Fr.fq j c d) * (Fr.fq l e i)):=(Fr.Fz.no hNR ((Fr.fq j c d) * (Fr.fq l e i))).1;have e2:(0:Int)=Fr.rT (Fr.FrB j c m d∧Fr.FrB l e n i):=(Fr.Fz.no hNR ((Fr.fq j c d) * (Fr.fq l e i))).2.2.1;have e4:(1:Int)=if ¬ (Fr.FrB j c m d∧Fr.FrB l e n i) then (1:Int) else 0:=(if_pos hNR).symm
    exact V.rt [2,0] [{},{}] [fun _=>{},fun _=>{}] [] [4,5] [] (.tuple #[ag (DFrac.mk ⟨0,([]:List Int),{}⟩ ⟨0,([]:List Int),{}⟩),iv 1]) (cong3 (fun (x0 x2 x4:Int)=>(.tuple #[.agg #[iv x0,SV.v ({}),iv x2,SV.v ({})],iv x4]:Value)) e0 e2 e4)
  have hRR:Fr.FrB j c m d∧Fr.FrB l e n i:=by first | exact q2 | exact ⟨Decidable.not_not.1 (q2).1,Decidable.not_not.1 (q2).2⟩
  have fa:=Fr.FrB.z hRR.1;have fb:=Fr.FrB.z hRR.2;refine nm (Bg.oS (Bg.RtB j c∧Bg.RtB l e) (Bg.zv j c * Bg.zv l e):Int) fun n1 hn1=>?_;refine nl (Bg.oD (Bg.RtB j c∧Bg.RtB l e) (Bg.zv j c * Bg.zv l e)) fun l1 hl1 hl1n=>?_;refine nm (Bg.oS (Bg.RtB m d∧Bg.RtB n i) (Bg.zv m d * Bg.zv n i):Int) fun n2 hn2=>?_;refine nl (Bg.oD (Bg.RtB m d∧Bg.RtB n i) (Bg.zv m d * Bg.zv n i)) fun l2 hl2 hl2n=>?_;refine nm (Fr.rS ((Bg.RtB n1 l1∧Bg.RtB n2 l2)∧n2≠0) (Rat.divInt (Bg.zv n1 l1) (Bg.zv n2 l2)):Int) fun n3 hn3=>?_;refine nl (Fr.rD ((Bg.RtB n1 l1∧Bg.RtB n2 l2)∧n2≠0) (Rat.divInt (Bg.zv n1 l1) (Bg.zv n2 l2))) fun l3 hl3 hl3n=>?_;refine nm (Fr.rT ((Bg.RtB n1 l1∧Bg.RtB n2 l2)∧n2≠0):Int) fun n4 hn4=>?_;refine nl (Fr.rE ((Bg.RtB n1 l1∧Bg.RtB n2 l2)∧n2≠0) (Rat.divInt (Bg.zv n1 l1) (Bg.zv n2 l2))) fun l4 hl4 hl4n=>?_;refine nm (if ¬ (Bg.RtB n1 l1∧Bg.RtB n2 l2) then (1:Int) else if n2=0 then 15 else 0:Int) fun n5 hn5=>?_;obtain ⟨z4,z4l⟩:=Fr.Bz.mul fa.p fb.p hn1 hl1
  obtain ⟨z9,z9l⟩:=Fr.Bz.mul fa.q fb.q hn2 hl2;have hy0:((((Fr.fq j c d)).den:Int) * (((Fr.fq l e i)).den:Int))≠0:=Int.mul_ne_zero fa.den fb.den;have zf:=Fr.new_is z4 z9 hy0 hn3 hl3 hn4 hl4;have hEr:n5=0:=by rw [hn5,if_neg (fun h=>h ⟨z4.rt,z9.rt⟩),if_neg (z9.ne.2 hy0)]
  have heq:=Fr.mul_is (Fr.fq j c d) (Fr.fq l e i);refine V.r [.k (pp ((G1 0).b) 0),.ld 0 0 true (fun _=>Dat.cells (DBig.mk j ⟨c,o⟩)),.k (pp ((G1 1).b) 0),.ld 1 0 true (fun _=>Dat.cells (DBig.mk l ⟨e,u⟩)),.ct g0 4 87 false [] [] [(kf false (.f 0) c (fun _=>o)).a,(kf false (.f 2) e (fun _=>u)).a] (fun _ G=>times_ctv j c o l e u (by omega) (by omega) n1 hn1 l1 hl1),.k (pp ((G1 0).b) 2),.ld 0 2 true (fun _=>Dat.cells (DBig.mk m ⟨d,t⟩)),.k (pp ((G1 1).b) 2),.ld 1 2 true (fun _=>Dat.cells (DBig.mk n ⟨i,x⟩)),.ct g0 9 87 false [] [] [(kf false (.f 1) d (fun _=>t)).a,(kf false (.f 3) i (fun _=>x)).a] (fun _ G=>times_ctv m d t n i x (by omega) (by omega) n2 hn2 l2 hl2),.ct g0 10 86 false [] [] [(kf true (.g 4 0) l1 (fun G=>(G 4).ss 0)).a,(kf true (.g 9 0) l2 (fun G=>(G 9).ss 0)).a] (fun _ G=>new_ctv n1 l1 ((G 4).ss 0) n2 l2 ((G 9).ss 0) (by omega) (by omega) n3 hn3 l3 hl3 n4 hn4 l4 hl4 n5 hn5),.v fun G=>ag (DFrac.mk ⟨n3,l3,(G 10).ss 0⟩ ⟨n4,l4,(G 10).ss 1⟩),.k (iv n5),.st 2 (fun G=>.blk ((G1 2).b) (ca (DFrac.mk ⟨n3,l3,(G 10).ss 0⟩ ⟨n4,l4,(G 10).ss 1⟩)) 29),.k (iv n5)] fun _ _ G4 kw4=>?_;intro S s
  obtain ⟨⟨kl5, -⟩,⟨kl6, -⟩,⟨kl7, -⟩,⟨kl8, -⟩, -⟩:Lq l1 (((G4 4).ss 0).v)∧Lq l2 (((G4 9).ss 0).v)∧Lq l3 (((G4 10).ss 0).v)∧Lq l4 (((G4 10).ss 1).v)∧True:=kq kw4;clear kw4;have e1:l3=Fr.rD (Fr.FrB j c m d∧Fr.FrB l e n i) ((Fr.fq j c d) * (Fr.fq l e i)):=(Fr.Fz.ret zf hRR (heq)).2.1;subst e1;have e3:l4=Fr.rE (Fr.FrB j c m d∧Fr.FrB l e n i) ((Fr.fq j c d) * (Fr.fq l e i)):=(Fr.Fz.ret zf hRR (heq)).2.2.2;subst e3;have e0:n3=Fr.rS (Fr.FrB j c m d∧Fr.FrB l e n i) ((Fr.fq j c d) * (Fr.fq l e i)):=(Fr.Fz.ret zf hRR (heq)).1;have e2:n4=Fr.rT (Fr.FrB j c m d∧Fr.FrB l e n i):=(Fr.Fz.ret zf hRR (heq)).2.2.1;have e4:n5=if ¬ (Fr.FrB j c m d∧Fr.FrB l e n i) then (1:Int) else 0:=by rw [if_neg (fun h=>h hRR)];exact hEr
  exact V.rt [2,0] [(G4 10).ss 0,(G4 10).ss 1] [fun _=>{},fun _=>{}] [] [6,7] [] (.tuple #[ag (DFrac.mk ⟨n3,(Fr.rD (Fr.FrB j c m d∧Fr.FrB l e n i) ((Fr.fq j c d) * (Fr.fq l e i))),(G4 10).ss 0⟩ ⟨n4,(Fr.rE (Fr.FrB j c m d∧Fr.FrB l e n i) ((Fr.fq j c d) * (Fr.fq l e i))),(G4 10).ss 1⟩),iv n5]) (cong3 (fun (x0 x2 x4:Int)=>(.tuple #[.agg #[iv x0,((G4 10).ss 0).v,iv x2,((G4 10).ss 1).v],iv x4]:Value)) e0 e2 e4)
theorem fmul_ctv (e:Int) (a:List Int) (j:SV) (h:Int) (b:List Int) (k:SV) (f:Int) (c:List Int) (l:SV) (i:Int) (d:List Int) (m:SV) (haP:a.length≤17179869184) (haQ:b.length≤17179869184) (hbP:c.length≤17179869184) (hbQ:d.length≤17179869184) (rv0:Int) (erv0:rv0=Fr.rS (Fr.FrB e a h b∧Fr.FrB f c i d) ((Fr.fq e a b) * (Fr.fq f c d))) (rv1:List Int) (erv1:rv1=Fr.rD (Fr.FrB e a h b∧Fr.FrB f c i d) ((Fr.fq e a b) * (Fr.fq f c d))) (rv2:Int) (erv2:rv2=Fr.rT (Fr.FrB e a h b∧Fr.FrB f c i d)) (rv3:List Int) (erv3:rv3=Fr.rE (Fr.FrB e a h b∧Fr.FrB f c i d) ((Fr.fq e a b) * (Fr.fq f c d))) (rv4:Int) (erv4:rv4=if ¬ (Fr.FrB e a h b∧Fr.FrB f c i d) then (1:Int) else 0) :
    Ct Tryz.prog 45 #[ag (DFrac.mk ⟨e,a,j⟩ ⟨h,b,k⟩),ag (DFrac.mk ⟨f,c,l⟩ ⟨i,d,m⟩)] [fs true a j,fs true b k,fs true c l,fs true d m] [] (fun g=>.tuple #[ag (DFrac.mk ⟨rv0,rv1,(g.ss 0)⟩ ⟨rv2,rv3,(g.ss 1)⟩),iv rv4]) (fun g=>[fs true rv1 (g.ss 0),fs true rv3 (g.ss 1)]) (fun g=>[]) (fun g=>[]):=by
  subst erv0 erv1 erv2 erv3 erv4;exact fmul_ct e a j h b k f c l i d m haP haQ hbP hbQ
set_option maxRecDepth 10000 in
theorem fdiv_ct (l:Int) (d:List Int) (o:SV) (m:Int) (e:List Int) (t:SV) (c:Int) (i:List Int) (u:SV) (n:Int) (j:List Int) (x:SV) (haP:d.length≤17179869184) (haQ:e.length≤17179869184) (hbP:i.length≤17179869184) (hbQ:j.length≤17179869184) :
    Ct Tryz.prog 44 #[ag (DFrac.mk ⟨l,d,o⟩ ⟨m,e,t⟩),ag (DFrac.mk ⟨c,i,u⟩ ⟨n,j,x⟩)] [fs true d o,fs true e t,fs true i u,fs true j x] [] (fun g=>.tuple #[ag (DFrac.mk ⟨(Fr.rS ((Fr.FrB l d m e∧Fr.FrB c i n j)∧c≠0) ((Fr.fq l d e) / (Fr.fq c i j))),Fr.rD ((Fr.FrB l d m e∧Fr.FrB c i n j)∧c≠0) ((Fr.fq l d e) / (Fr.fq c i j)),(g.ss 0)⟩ ⟨(Fr.rT ((Fr.FrB l d m e∧Fr.FrB c i n j)∧c≠0)),Fr.rE ((Fr.FrB l d m e∧Fr.FrB c i n j)∧c≠0) ((Fr.fq l d e) / (Fr.fq c i j)),(g.ss 1)⟩),iv (if ¬ (Fr.FrB l d m e∧Fr.FrB c i n j) then (1:Int) else if c=0 then 15 else 0)]) (fun g=>[fs true (Fr.rD ((Fr.FrB l d m e∧Fr.FrB c i n j)∧c≠0) ((Fr.fq l d e) / (Fr.fq c i j))) (g.ss 0),fs true (Fr.rE ((Fr.FrB l d m e∧Fr.FrB c i n j)∧c≠0) ((Fr.fq l d e) / (Fr.fq c i j))) (g.ss 1)]) (fun g=>[]) (fun g=>[]):=by
  refine V.fn mo Tryz.func44 35 3 (by kernel_rfl) fun w H ε k0=>?_;obtain ⟨⟨kl1, -⟩,⟨kl2, -⟩,⟨kl3, -⟩,⟨kl4, -⟩, -⟩:Lq d o.v∧Lq e t.v∧Lq i u.v∧Lq j x.v∧True:=kq k0
  clear k0;refine V.g [.nb 0 0 (fun b=>pp b 0) 29 (fun _=>ca (DFrac.mk ⟨l,d,o⟩ ⟨m,e,t⟩)),.nb 1 1 (fun b=>pp b 0) 29 (fun _=>ca (DFrac.mk ⟨c,i,u⟩ ⟨n,j,x⟩)),.nb 2 2 (fun b=>pp b 0) 29 (fun _=>ca (DFrac.mk ⟨0,[],{}⟩ ⟨0,[],{}⟩)),.k (iv 0)] fun _ _ G1=>?_;intro S s
  refine nm ((!(decide (Fr.FrB l d m e))) || (!(decide (Fr.FrB c i n j))):Bool) fun p1 hp1=>?_;refine V.g [.ld 0 0 true (fun _=>Dat.cells (DFrac.mk ⟨l,d,o⟩ ⟨m,e,t⟩)),.cp g0 1 36 [(kf false (.f 0) d (fun _=>o)).a,(kf false (.f 1) e (fun _=>t)).a] (fun _ G=>right_ct l d o m e t (by omega) (by omega)),.k (bv (!(decide (Fr.FrB l d m e)))),.k (bv (!(decide (Fr.FrB l d m e)))),.ld 1 0 true (fun _=>Dat.cells (DFrac.mk ⟨c,i,u⟩ ⟨n,j,x⟩)),.cp (gF (b:=!(decide (Fr.FrB l d m e))) (iNF iDT)) 5 36 [(kf false (.f 2) i (fun _=>u)).a,(kf false (.f 3) j (fun _=>x)).a] (fun hg G=>right_ct c i u n j x (by omega) (by omega)),.k (bv (!(decide (Fr.FrB c i n j)))),.orn g0 false (!(decide (Fr.FrB l d m e))) (!(decide (Fr.FrB c i n j))) p1 hp1,.k (bv p1)] fun _ _ G2=>?_;intro S s
  refine V.cn (b:=p1) (iN hp1 (iOT (iNT iDF) (iNT iDF))) (iN hp1 (iOF (iNF iDT) (iNF iDT))) (fun q1=>?_) (fun q2=>?_)
  · have hNR:¬ (Fr.FrB l d m e∧Fr.FrB c i n j):=by rintro ⟨h1,h2⟩;rcases q1 with h | h;exact h h1;exact h h2
    refine V.g [.k (ag (DFrac.mk ⟨0,[],{}⟩ ⟨0,[],{}⟩)),.st 2 (fun _=>.blk ((G1 2).b) (ca (DFrac.mk ⟨0,[],{}⟩ ⟨0,[],{}⟩)) 29),.k (iv 1)] fun _ _ G3=>?_;intro S s
    refine V.nilF (α:=Int) ?_;refine V.nilF (α:=Int) ?_;have e1:([]:List Int)=Fr.rD ((Fr.FrB l d m e∧Fr.FrB c i n j)∧c≠0) ((Fr.fq l d e) / (Fr.fq c i j)):=(Fr.Fz.no (fun h=>hNR h.1) ((Fr.fq l d e) / (Fr.fq c i j))).2.1;rw [←e1];have e3:([]:List Int)=Fr.rE ((Fr.FrB l d m e∧Fr.FrB c i n j)∧c≠0) ((Fr.fq l d e) / (Fr.fq c i j)):=(Fr.Fz.no (fun h=>hNR h.1) ((Fr.fq l d e) / (Fr.fq c i j))).2.2.2;rw [←e3];have e0:(0:Int)=Fr.rS ((Fr.FrB l d m e∧Fr.FrB c i n j)∧c≠0) ((Fr.fq l d e) / (Fr.fq c i j)):=(Fr.Fz.no (fun h=>hNR h.1) ((Fr.fq l d e) / (Fr.fq c i j))).1;have e2:(0:Int)=Fr.rT ((Fr.FrB l d m e∧Fr.FrB c i n j)∧c≠0):=(Fr.Fz.no (fun h=>hNR h.1) ((Fr.fq l d e) / (Fr.fq c i j))).2.2.1;have e4:(1:Int)=if ¬ (Fr.FrB l d m e∧Fr.FrB c i n j) then (1:Int) else if c=0 then 15 else 0:=(if_pos hNR).symm
    exact V.rt [2,0] [{},{}] [fun _=>{},fun _=>{}] [] [4,5] [] (.tuple #[ag (DFrac.mk ⟨0,([]:List Int),{}⟩ ⟨0,([]:List Int),{}⟩),iv 1]) (cong3 (fun (x0 x2 x4:Int)=>(.tuple #[.agg #[iv x0,SV.v ({}),iv x2,SV.v ({})],iv x4]:Value)) e0 e2 e4)
  have hRR:Fr.FrB l d m e∧Fr.FrB c i n j:=by first | exact q2 | exact ⟨Decidable.not_not.1 (q2).1,Decidable.not_not.1 (q2).2⟩
  have fa:=Fr.FrB.z hRR.1;have fb:=Fr.FrB.z hRR.2;refine V.g [.k (pp ((G1 1).b) 0),.k (pp ((G1 1).b) 0),.ld 1 0 false (fun _=>[iv c]),.k (bv (decide (c=0))),.k (bv (decide (c=0)))] fun _ _ G4=>?_;intro S s
  refine V.cn (b:=decide (c=0)) iDT iDF (fun q3=>?_) (fun q4=>?_)
  · have hz0:c=0:=q3;refine V.g [.k (ag (DFrac.mk ⟨0,[],{}⟩ ⟨0,[],{}⟩)),.st 2 (fun _=>.blk ((G1 2).b) (ca (DFrac.mk ⟨0,[],{}⟩ ⟨0,[],{}⟩)) 29),.k (iv 15)] fun _ _ G5=>?_;intro S s
    refine V.nilF (α:=Int) ?_;refine V.nilF (α:=Int) ?_;have e1:([]:List Int)=Fr.rD ((Fr.FrB l d m e∧Fr.FrB c i n j)∧c≠0) ((Fr.fq l d e) / (Fr.fq c i j)):=(Fr.Fz.no (fun h=>h.2 hz0) ((Fr.fq l d e) / (Fr.fq c i j))).2.1;rw [←e1];have e3:([]:List Int)=Fr.rE ((Fr.FrB l d m e∧Fr.FrB c i n j)∧c≠0) ((Fr.fq l d e) / (Fr.fq c i j)):=(Fr.Fz.no (fun h=>h.2 hz0) ((Fr.fq l d e) / (Fr.fq c i j))).2.2.2;rw [←e3];have e0:(0:Int)=Fr.rS ((Fr.FrB l d m e∧Fr.FrB c i n j)∧c≠0) ((Fr.fq l d e) / (Fr.fq c i j)):=(Fr.Fz.no (fun h=>h.2 hz0) ((Fr.fq l d e) / (Fr.fq c i j))).1;have e2:(0:Int)=Fr.rT ((Fr.FrB l d m e∧Fr.FrB c i n j)∧c≠0):=(Fr.Fz.no (fun h=>h.2 hz0) ((Fr.fq l d e) / (Fr.fq c i j))).2.2.1;have e4:(15:Int)=if ¬ (Fr.FrB l d m e∧Fr.FrB c i n j) then (1:Int) else if c=0 then 15 else 0:=by rw [if_neg (fun h=>h hRR),if_pos hz0]
    exact V.rt [2,0] [{},{}] [fun _=>{},fun _=>{}] [] [4,5] [] (.tuple #[ag (DFrac.mk ⟨0,([]:List Int),{}⟩ ⟨0,([]:List Int),{}⟩),iv 15]) (cong3 (fun (x0 x2 x4:Int)=>(.tuple #[.agg #[iv x0,SV.v ({}),iv x2,SV.v ({})],iv x4]:Value)) e0 e2 e4)
  have hz0:¬ c=0:=q4;refine nm (Bg.oS (Bg.RtB l d∧Bg.RtB n j) (Bg.zv l d * Bg.zv n j):Int) fun n1 hn1=>?_;refine nl (Bg.oD (Bg.RtB l d∧Bg.RtB n j) (Bg.zv l d * Bg.zv n j)) fun l1 hl1 hl1n=>?_;refine nm (Bg.oS (Bg.RtB m e∧Bg.RtB c i) (Bg.zv m e * Bg.zv c i):Int) fun n2 hn2=>?_;refine nl (Bg.oD (Bg.RtB m e∧Bg.RtB c i) (Bg.zv m e * Bg.zv c i)) fun l2 hl2 hl2n=>?_;refine nm (Fr.rS ((Bg.RtB n1 l1∧Bg.RtB n2 l2)∧n2≠0) (Rat.divInt (Bg.zv n1 l1) (Bg.zv n2 l2)):Int) fun n3 hn3=>?_;refine nl (Fr.rD ((Bg.RtB n1 l1∧Bg.RtB n2 l2)∧n2≠0) (Rat.divInt (Bg.zv n1 l1) (Bg.zv n2 l2))) fun l3 hl3 hl3n=>?_;refine nm (Fr.rT ((Bg.RtB n1 l1∧Bg.RtB n2 l2)∧n2≠0):Int) fun n4 hn4=>?_;refine nl (Fr.rE ((Bg.RtB n1 l1∧Bg.RtB n2 l2)∧n2≠0) (Rat.divInt (Bg.zv n1 l1) (Bg.zv n2 l2))) fun l4 hl4 hl4n=>?_;refine nm (if ¬ (Bg.RtB n1 l1∧Bg.RtB n2 l2) then (1:Int) else if n2=0 then 15 else 0:Int) fun n5 hn5=>?_;obtain ⟨z4,z4l⟩:=Fr.Bz.mul fa.p fb.q hn1 hl1
  obtain ⟨z9,z9l⟩:=Fr.Bz.mul fa.q fb.p hn2 hl2;have hy0:(((Fr.fq l d e)).den:Int) * ((Fr.fq c i j)).num≠0:=Int.mul_ne_zero fa.den (fb.p.ne.1 hz0);have zf:=Fr.new_is z4 z9 hy0 hn3 hl3 hn4 hl4;have hEr:n5=0:=by rw [hn5,if_neg (fun h=>h ⟨z4.rt,z9.rt⟩),if_neg (z9.ne.2 hy0)]
  have heq:=(Fr.div_is (Fr.fq l d e) (Fr.fq c i j)).symm;refine V.r [.k (pp ((G1 0).b) 0),.ld 0 0 true (fun _=>Dat.cells (DBig.mk l ⟨d,o⟩)),.k (pp ((G1 1).b) 2),.ld 1 2 true (fun _=>Dat.cells (DBig.mk n ⟨j,x⟩)),.ct g0 4 87 false [] [] [(kf false (.f 0) d (fun _=>o)).a,(kf false (.f 3) j (fun _=>x)).a] (fun _ G=>times_ctv l d o n j x (by omega) (by omega) n1 hn1 l1 hl1),.k (pp ((G1 0).b) 2),.ld 0 2 true (fun _=>Dat.cells (DBig.mk m ⟨e,t⟩)),.k (pp ((G1 1).b) 0),.ld 1 0 true (fun _=>Dat.cells (DBig.mk c ⟨i,u⟩)),.ct g0 9 87 false [] [] [(kf false (.f 1) e (fun _=>t)).a,(kf false (.f 2) i (fun _=>u)).a] (fun _ G=>times_ctv m e t c i u (by omega) (by omega) n2 hn2 l2 hl2),.ct g0 10 86 false [] [] [(kf true (.g 4 0) l1 (fun G=>(G 4).ss 0)).a,(kf true (.g 9 0) l2 (fun G=>(G 9).ss 0)).a] (fun _ G=>new_ctv n1 l1 ((G 4).ss 0) n2 l2 ((G 9).ss 0) (by omega) (by omega) n3 hn3 l3 hl3 n4 hn4 l4 hl4 n5 hn5),.v fun G=>ag (DFrac.mk ⟨n3,l3,(G 10).ss 0⟩ ⟨n4,l4,(G 10).ss 1⟩),.k (iv n5),.st 2 (fun G=>.blk ((G1 2).b) (ca (DFrac.mk ⟨n3,l3,(G 10).ss 0⟩ ⟨n4,l4,(G 10).ss 1⟩)) 29),.k (iv n5)] fun _ _ G6 kw6=>?_;intro S s
  obtain ⟨⟨kl5, -⟩,⟨kl6, -⟩,⟨kl7, -⟩,⟨kl8, -⟩, -⟩:Lq l1 (((G6 4).ss 0).v)∧Lq l2 (((G6 9).ss 0).v)∧Lq l3 (((G6 10).ss 0).v)∧Lq l4 (((G6 10).ss 1).v)∧True:=kq kw6;clear kw6;have e1:l3=Fr.rD ((Fr.FrB l d m e∧Fr.FrB c i n j)∧c≠0) ((Fr.fq l d e) / (Fr.fq c i j)):=(Fr.Fz.ret zf ⟨hRR,hz0⟩ (heq)).2.1;subst e1;have e3:l4=Fr.rE ((Fr.FrB l d m e∧Fr.FrB c i n j)∧c≠0) ((Fr.fq l d e) / (Fr.fq c i j)):=(Fr.Fz.ret zf ⟨hRR,hz0⟩ (heq)).2.2.2;subst e3;have e0:n3=Fr.rS ((Fr.FrB l d m e∧Fr.FrB c i n j)∧c≠0) ((Fr.fq l d e) / (Fr.fq c i j)):=(Fr.Fz.ret zf ⟨hRR,hz0⟩ (heq)).1;have e2:n4=Fr.rT ((Fr.FrB l d m e∧Fr.FrB c i n j)∧c≠0):=(Fr.Fz.ret zf ⟨hRR,hz0⟩ (heq)).2.2.1;have e4:n5=if ¬ (Fr.FrB l d m e∧Fr.FrB c i n j) then (1:Int) else if c=0 then 15 else 0:=by rw [if_neg (fun h=>h hRR),if_neg hz0];exact hEr
  exact V.rt [2,0] [(G6 10).ss 0,(G6 10).ss 1] [fun _=>{},fun _=>{}] [] [6,7] [] (.tuple #[ag (DFrac.mk ⟨n3,(Fr.rD ((Fr.FrB l d m e∧Fr.FrB c i n j)∧c≠0) ((Fr.fq l d e) / (Fr.fq c i j))),(G6 10).ss 0⟩ ⟨n4,(Fr.rE ((Fr.FrB l d m e∧Fr.FrB c i n j)∧c≠0) ((Fr.fq l d e) / (Fr.fq c i j))),(G6 10).ss 1⟩),iv n5]) (cong3 (fun (x0 x2 x4:Int)=>(.tuple #[.agg #[iv x0,((G6 10).ss 0).v,iv x2,((G6 10).ss 1).v],iv x4]:Value)) e0 e2 e4)
theorem fdiv_ctv (f:Int) (b:List Int) (j:SV) (h:Int) (c:List Int) (k:SV) (a:Int) (d:List Int) (l:SV) (i:Int) (e:List Int) (m:SV) (haP:b.length≤17179869184) (haQ:c.length≤17179869184) (hbP:d.length≤17179869184) (hbQ:e.length≤17179869184) (rv0:Int) (erv0:rv0=Fr.rS ((Fr.FrB f b h c∧Fr.FrB a d i e)∧a≠0) ((Fr.fq f b c) / (Fr.fq a d e))) (rv1:List Int) (erv1:rv1=Fr.rD ((Fr.FrB f b h c∧Fr.FrB a d i e)∧a≠0) ((Fr.fq f b c) / (Fr.fq a d e))) (rv2:Int) (erv2:rv2=Fr.rT ((Fr.FrB f b h c∧Fr.FrB a d i e)∧a≠0)) (rv3:List Int) (erv3:rv3=Fr.rE ((Fr.FrB f b h c∧Fr.FrB a d i e)∧a≠0) ((Fr.fq f b c) / (Fr.fq a d e))) (rv4:Int) (erv4:rv4=if ¬ (Fr.FrB f b h c∧Fr.FrB a d i e) then (1:Int) else if a=0 then 15 else 0) :
    Ct Tryz.prog 44 #[ag (DFrac.mk ⟨f,b,j⟩ ⟨h,c,k⟩),ag (DFrac.mk ⟨a,d,l⟩ ⟨i,e,m⟩)] [fs true b j,fs true c k,fs true d l,fs true e m] [] (fun g=>.tuple #[ag (DFrac.mk ⟨rv0,rv1,(g.ss 0)⟩ ⟨rv2,rv3,(g.ss 1)⟩),iv rv4]) (fun g=>[fs true rv1 (g.ss 0),fs true rv3 (g.ss 1)]) (fun g=>[]) (fun g=>[]):=by
  subst erv0 erv1 erv2 erv3 erv4;exact fdiv_ct f b j h c k a d l i e m haP haQ hbP hbQ

open Go Go.Proofs
set_option maxRecDepth 10000 in
theorem dright_ct (d0 d1 d2 d3 d4 d5:Int) :
    Cp Tryz.prog 63 #[.agg #[iv d0,iv d1,iv d2,iv d3,iv d4,iv d5]] [] (bv (decide (Dm.Rt [d0,d1,d2,d3,d4,d5]))):=by
  refine V.fn mo Tryz.func63 16 1 (by kernel_rfl) fun w H ε k0=>?_;clear k0
  refine V.g [.nb 0 0 (fun b=>pp b 0) 40 (fun _=>#[iv d0,iv d1,iv d2,iv d3,iv d4,iv d5]),.kb false] fun _ _ G1=>?_;intro S s
  refine V.g [.ld 0 0 true (fun _=>[iv d0,iv d1,iv d2,iv d3,iv d4,iv d5]),.k (iv 0)] fun _ _ G2=>?_;intro S s
  refine V.loop (γ:=Int) (fun k0=>⟨[(5,.agg #[iv d0,iv d1,iv d2,iv d3,iv d4,iv d5]),(6,iv k0)],[],[.blk ((G1 0).b) #[iv d0,iv d1,iv d2,iv d3,iv d4,iv d5] 40]⟩) (fun k0=>(0≤k0)∧(k0≤6)∧(∀ j:Nat,j < k0.toNat→ -9≤[d0,d1,d2,d3,d4,d5].getD j 0∧[d0,d1,d2,d3,d4,d5].getD j 0≤9)) (fun k0=>(6-k0).toNat) 0 (by kernel_rfl) [] (by kernel_rfl) ?_ ?_
  · refine ⟨?_,?_,?_⟩
    · show 0≤(0:Int)
      first | omega | rfl | (simp;done) | (subst_vars;simp;done)
    · show (0:Int)≤6
      first | omega | rfl | (simp;done) | (subst_vars;simp;done)
    show ∀ j:Nat,j < (0:Int).toNat→ -9≤[d0,d1,d2,d3,d4,d5].getD j 0∧[d0,d1,d2,d3,d4,d5].getD j 0≤9;intro j hj;simp at hj
  rintro k0 hF1 kw3 Z1 hZ1;have hF1:(0≤k0)∧(k0≤6)∧(∀ j:Nat,j < k0.toNat→ -9≤[d0,d1,d2,d3,d4,d5].getD j 0∧[d0,d1,d2,d3,d4,d5].getD j 0≤9):=hF1;obtain ⟨hf1,hf2,hf3⟩:=hF1;clear kw3;refine V.g [.k (bv (decide (k0 < 6)))] fun _ _ G3=>?_;intro S s;refine V.cn (b:=decide (k0 < 6)) iDT iDF (fun q1=>?_) (fun q2=>?_)
  · rcases (by omega:k0=0∨k0=1∨k0=2∨k0=3∨k0=4∨k0=5) with hcs1 | hcs2 | hcs3 | hcs4 | hcs5 | hcs6
    · refine V.alt (fun (zz:Int)=>(⟨[(5,.agg #[iv d0,iv d1,iv d2,iv d3,iv d4,iv d5]),(6,iv zz),(7,bv (decide (k0 < 6)))],[],[.blk ((G1 0).b) #[iv d0,iv d1,iv d2,iv d3,iv d4,iv d5] 40]⟩:St)) hcs1 [] (by kernel_rfl) ?_;refine V.g [.k (iv d0),.k (iv d0)] fun _ _ G4=>?_;intro S s
      refine V.g [.k (iv d0),.k (bv (decide (d0 < (-9)))),.k (bv (decide (d0 < (-9)))),.k (iv d0),.k (bv (decide (9 < d0))),.or g0 false (decide (d0 < (-9))) (decide (9 < d0))] fun _ _ G5=>?_;intro S s
      refine V.cn (b:=(decide (d0 < (-9))) || (decide (9 < d0))) (iOT iDT iDT) (iOF iDF iDF) (fun q3=>?_) (fun q4=>?_)
      · refine V.g [.kb false] fun _ _ G6=>?_;intro S s
        have e0:false=decide (Dm.Rt [d0,d1,d2,d3,d4,d5]):=by symm;rw [decide_eq_false_iff_not,Dm.Rt6];omega
        exact V.rt [0] [] [] [] [] [] (bv false) (cong1 (fun (x0:Bool)=>(bv x0:Value)) e0)
      refine V.g [.k (iv 1),.k (iv 1)] fun _ _ G7=>?_;intro S s
      refine V.rnd hZ1 1 [] (by kernel_rfl) ?_ ?_
      · refine ⟨?_,?_,?_⟩
        · show 0≤(1:Int);omega
        · show (1:Int)≤6;omega
        show ∀ j:Nat,j < (1:Int).toNat→ -9≤[d0,d1,d2,d3,d4,d5].getD j 0∧[d0,d1,d2,d3,d4,d5].getD j 0≤9;exact Dm.upto_succ (P:=fun j=> -9≤[d0,d1,d2,d3,d4,d5].getD j 0∧[d0,d1,d2,d3,d4,d5].getD j 0≤9) (n:=0) (by omega) hf3 (by show -9≤d0∧d0≤9;omega)
      show (6-(1:Int)).toNat < (6-k0).toNat;omega
    · refine V.alt (fun (zz:Int)=>(⟨[(5,.agg #[iv d0,iv d1,iv d2,iv d3,iv d4,iv d5]),(6,iv zz),(7,bv (decide (k0 < 6)))],[],[.blk ((G1 0).b) #[iv d0,iv d1,iv d2,iv d3,iv d4,iv d5] 40]⟩:St)) hcs2 [] (by kernel_rfl) ?_;refine V.g [.k (iv d1),.k (iv d1)] fun _ _ G8=>?_;intro S s
      refine V.g [.k (iv d1),.k (bv (decide (d1 < (-9)))),.k (bv (decide (d1 < (-9)))),.k (iv d1),.k (bv (decide (9 < d1))),.or g0 false (decide (d1 < (-9))) (decide (9 < d1))] fun _ _ G9=>?_;intro S s
      refine V.cn (b:=(decide (d1 < (-9))) || (decide (9 < d1))) (iOT iDT iDT) (iOF iDF iDF) (fun q5=>?_) (fun q6=>?_)
      · refine V.g [.kb false] fun _ _ G10=>?_;intro S s
        have e0:false=decide (Dm.Rt [d0,d1,d2,d3,d4,d5]):=by symm;rw [decide_eq_false_iff_not,Dm.Rt6];omega
        exact V.rt [0] [] [] [] [] [] (bv false) (cong1 (fun (x0:Bool)=>(bv x0:Value)) e0)
      refine V.g [.k (iv 2),.k (iv 2)] fun _ _ G11=>?_;intro S s
      refine V.rnd hZ1 2 [] (by kernel_rfl) ?_ ?_
      · refine ⟨?_,?_,?_⟩
        · show 0≤(2:Int);omega
        · show (2:Int)≤6;omega
        show ∀ j:Nat,j < (2:Int).toNat→ -9≤[d0,d1,d2,d3,d4,d5].getD j 0∧[d0,d1,d2,d3,d4,d5].getD j 0≤9;exact Dm.upto_succ (P:=fun j=> -9≤[d0,d1,d2,d3,d4,d5].getD j 0∧[d0,d1,d2,d3,d4,d5].getD j 0≤9) (n:=1) (by omega) hf3 (by show -9≤d1∧d1≤9;omega)
      show (6-(2:Int)).toNat < (6-k0).toNat;omega
    · refine V.alt (fun (zz:Int)=>(⟨[(5,.agg #[iv d0,iv d1,iv d2,iv d3,iv d4,iv d5]),(6,iv zz),(7,bv (decide (k0 < 6)))],[],[.blk ((G1 0).b) #[iv d0,iv d1,iv d2,iv d3,iv d4,iv d5] 40]⟩:St)) hcs3 [] (by kernel_rfl) ?_;refine V.g [.k (iv d2),.k (iv d2)] fun _ _ G12=>?_;intro S s
      refine V.g [.k (iv d2),.k (bv (decide (d2 < (-9)))),.k (bv (decide (d2 < (-9)))),.k (iv d2),.k (bv (decide (9 < d2))),.or g0 false (decide (d2 < (-9))) (decide (9 < d2))] fun _ _ G13=>?_;intro S s
      refine V.cn (b:=(decide (d2 < (-9))) || (decide (9 < d2))) (iOT iDT iDT) (iOF iDF iDF) (fun q7=>?_) (fun q8=>?_)
      · refine V.g [.kb false] fun _ _ G14=>?_;intro S s
        have e0:false=decide (Dm.Rt [d0,d1,d2,d3,d4,d5]):=by symm;rw [decide_eq_false_iff_not,Dm.Rt6];omega
        exact V.rt [0] [] [] [] [] [] (bv false) (cong1 (fun (x0:Bool)=>(bv x0:Value)) e0)
      refine V.g [.k (iv 3),.k (iv 3)] fun _ _ G15=>?_;intro S s
      refine V.rnd hZ1 3 [] (by kernel_rfl) ?_ ?_
      · refine ⟨?_,?_,?_⟩
        · show 0≤(3:Int);omega
        · show (3:Int)≤6;omega
        show ∀ j:Nat,j < (3:Int).toNat→ -9≤[d0,d1,d2,d3,d4,d5].getD j 0∧[d0,d1,d2,d3,d4,d5].getD j 0≤9;exact Dm.upto_succ (P:=fun j=> -9≤[d0,d1,d2,d3,d4,d5].getD j 0∧[d0,d1,d2,d3,d4,d5].getD j 0≤9) (n:=2) (by omega) hf3 (by show -9≤d2∧d2≤9;omega)
      show (6-(3:Int)).toNat < (6-k0).toNat;omega
    · refine V.alt (fun (zz:Int)=>(⟨[(5,.agg #[iv d0,iv d1,iv d2,iv d3,iv d4,iv d5]),(6,iv zz),(7,bv (decide (k0 < 6)))],[],[.blk ((G1 0).b) #[iv d0,iv d1,iv d2,iv d3,iv d4,iv d5] 40]⟩:St)) hcs4 [] (by kernel_rfl) ?_;refine V.g [.k (iv d3),.k (iv d3)] fun _ _ G16=>?_;intro S s
      refine V.g [.k (iv d3),.k (bv (decide (d3 < (-9)))),.k (bv (decide (d3 < (-9)))),.k (iv d3),.k (bv (decide (9 < d3))),.or g0 false (decide (d3 < (-9))) (decide (9 < d3))] fun _ _ G17=>?_;intro S s
      refine V.cn (b:=(decide (d3 < (-9))) || (decide (9 < d3))) (iOT iDT iDT) (iOF iDF iDF) (fun q9=>?_) (fun q10=>?_)
      · refine V.g [.kb false] fun _ _ G18=>?_;intro S s
        have e0:false=decide (Dm.Rt [d0,d1,d2,d3,d4,d5]):=by symm;rw [decide_eq_false_iff_not,Dm.Rt6];omega
        exact V.rt [0] [] [] [] [] [] (bv false) (cong1 (fun (x0:Bool)=>(bv x0:Value)) e0)
      refine V.g [.k (iv 4),.k (iv 4)] fun _ _ G19=>?_;intro S s
      refine V.rnd hZ1 4 [] (by kernel_rfl) ?_ ?_
      · refine ⟨?_,?_,?_⟩
        · show 0≤(4:Int);omega
        · show (4:Int)≤6;omega
        show ∀ j:Nat,j < (4:Int).toNat→ -9≤[d0,d1,d2,d3,d4,d5].getD j 0∧[d0,d1,d2,d3,d4,d5].getD j 0≤9;exact Dm.upto_succ (P:=fun j=> -9≤[d0,d1,d2,d3,d4,d5].getD j 0∧[d0,d1,d2,d3,d4,d5].getD j 0≤9) (n:=3) (by omega) hf3 (by show -9≤d3∧d3≤9;omega)
      show (6-(4:Int)).toNat < (6-k0).toNat;omega
    · refine V.alt (fun (zz:Int)=>(⟨[(5,.agg #[iv d0,iv d1,iv d2,iv d3,iv d4,iv d5]),(6,iv zz),(7,bv (decide (k0 < 6)))],[],[.blk ((G1 0).b) #[iv d0,iv d1,iv d2,iv d3,iv d4,iv d5] 40]⟩:St)) hcs5 [] (by kernel_rfl) ?_;refine V.g [.k (iv d4),.k (iv d4)] fun _ _ G20=>?_;intro S s
      refine V.g [.k (iv d4),.k (bv (decide (d4 < (-9)))),.k (bv (decide (d4 < (-9)))),.k (iv d4),.k (bv (decide (9 < d4))),.or g0 false (decide (d4 < (-9))) (decide (9 < d4))] fun _ _ G21=>?_;intro S s
      refine V.cn (b:=(decide (d4 < (-9))) || (decide (9 < d4))) (iOT iDT iDT) (iOF iDF iDF) (fun q11=>?_) (fun q12=>?_)
      · refine V.g [.kb false] fun _ _ G22=>?_;intro S s
        have e0:false=decide (Dm.Rt [d0,d1,d2,d3,d4,d5]):=by symm;rw [decide_eq_false_iff_not,Dm.Rt6];omega
        exact V.rt [0] [] [] [] [] [] (bv false) (cong1 (fun (x0:Bool)=>(bv x0:Value)) e0)
      refine V.g [.k (iv 5),.k (iv 5)] fun _ _ G23=>?_;intro S s
      refine V.rnd hZ1 5 [] (by kernel_rfl) ?_ ?_
      · refine ⟨?_,?_,?_⟩
        · show 0≤(5:Int);omega
        · show (5:Int)≤6;omega
        show ∀ j:Nat,j < (5:Int).toNat→ -9≤[d0,d1,d2,d3,d4,d5].getD j 0∧[d0,d1,d2,d3,d4,d5].getD j 0≤9;exact Dm.upto_succ (P:=fun j=> -9≤[d0,d1,d2,d3,d4,d5].getD j 0∧[d0,d1,d2,d3,d4,d5].getD j 0≤9) (n:=4) (by omega) hf3 (by show -9≤d4∧d4≤9;omega)
      show (6-(5:Int)).toNat < (6-k0).toNat;omega
    refine V.alt (fun (zz:Int)=>(⟨[(5,.agg #[iv d0,iv d1,iv d2,iv d3,iv d4,iv d5]),(6,iv zz),(7,bv (decide (k0 < 6)))],[],[.blk ((G1 0).b) #[iv d0,iv d1,iv d2,iv d3,iv d4,iv d5] 40]⟩:St)) hcs6 [] (by kernel_rfl) ?_;refine V.g [.k (iv d5),.k (iv d5)] fun _ _ G24=>?_;intro S s
    refine V.g [.k (iv d5),.k (bv (decide (d5 < (-9)))),.k (bv (decide (d5 < (-9)))),.k (iv d5),.k (bv (decide (9 < d5))),.or g0 false (decide (d5 < (-9))) (decide (9 < d5))] fun _ _ G25=>?_;intro S s
    refine V.cn (b:=(decide (d5 < (-9))) || (decide (9 < d5))) (iOT iDT iDT) (iOF iDF iDF) (fun q13=>?_) (fun q14=>?_)
    · refine V.g [.kb false] fun _ _ G26=>?_;intro S s
      have e0:false=decide (Dm.Rt [d0,d1,d2,d3,d4,d5]):=by symm;rw [decide_eq_false_iff_not,Dm.Rt6];omega
      exact V.rt [0] [] [] [] [] [] (bv false) (cong1 (fun (x0:Bool)=>(bv x0:Value)) e0)
    refine V.g [.k (iv 6),.k (iv 6)] fun _ _ G27=>?_;intro S s
    refine V.rnd hZ1 6 [] (by kernel_rfl) ?_ ?_
    · refine ⟨?_,?_,?_⟩
      · show 0≤(6:Int);omega
      · show (6:Int)≤6;omega
      show ∀ j:Nat,j < (6:Int).toNat→ -9≤[d0,d1,d2,d3,d4,d5].getD j 0∧[d0,d1,d2,d3,d4,d5].getD j 0≤9;exact Dm.upto_succ (P:=fun j=> -9≤[d0,d1,d2,d3,d4,d5].getD j 0∧[d0,d1,d2,d3,d4,d5].getD j 0≤9) (n:=5) (by omega) hf3 (by show -9≤d5∧d5≤9;omega)
    show (6-(6:Int)).toNat < (6-k0).toNat;omega
  refine V.g [.kb true] fun _ _ G28=>?_;intro S s
  have e0:true=decide (Dm.Rt [d0,d1,d2,d3,d4,d5]):=by symm;rw [decide_eq_true_iff];exact Dm.Rt_all rfl fun j hj=>hf3 j (by omega)
  exact V.rt [0] [] [] [] [] [] (bv true) (cong1 (fun (x0:Bool)=>(bv x0:Value)) e0)
end Kb
