/- Texts for the claim, put together: the calculus of regions, its rules, and contracts of the functions that the law reaches. -/
import Derived.Test.YtmopocojkojdbaaGreatZZwb
import Derived.Shelf.Strings.Builder1
import Derived.Lib.Join
set_option linter.unusedVariables false
set_option linter.unusedSectionVars false
set_option linter.unusedSimpArgs false
namespace Kb
open Go Go.Proofs
set_option maxRecDepth 10000 in
theorem int_ct (c:Int) (a:List Int) (d:SV) :
    Cp Tryz.prog 38 #[ag (DBig.mk c ⟨a,d⟩)] [fs true a d] (.tuple #[iv (Bg.intV c a),bv (decide (Bg.inI c a))]):=by
  refine V.fo mo Tryz.func38 59 1 fun w H ε k0=>?_;clear k0
  refine V.gf [.n 0,.u 1,.kb false] fun _ _ G1=>?_;intro S s
  refine nm ((!(decide (Bg.RtB c a))) || (decide (4 < (a.length:Int))):Bool) fun p1 hp1=>?_;refine V.gf [.l 0,.cP 1 45 [kA 0 a d] fun G=>bright_ct c a d,.u 3,.l 0,.ln (kF 0 a d),.u 1,.orn g0 false (!(decide (Bg.RtB c a))) (decide (4 < (a.length:Int))) p1 hp1] fun _ _ G2=>?_;intro S s
  refine V.cn (b:=p1) (iN hp1 (iOT (iNT iDF) iDT)) (iN hp1 (iOF (iNF iDT) iDF)) (fun q1=>?_) (fun q2=>?_)
  · have hNo:¬ Bg.inI c a:=by
      rcases q1 with h | h
      · exact fun hi=>h hi.1
      exact fun hi=>Bg.int_len hi.1 h hi
    refine V.gf [.u 1,.kb false] fun _ _ G3=>?_;intro S s
    have e0:(0:Int)=Bg.intV c a:=(Bg.intV_n hNo).symm;have e1:false=decide (Bg.inI c a):=(decide_eq_false hNo).symm;exact V.rT [0,0] [] [] [] [] [] (cong2 (fun (xz0:Int) (xz1:Bool)=>(.tuple #[iv xz0,bv xz1]:Value)) e0 e1)
  have hRt:Bg.RtB c a:=by first | exact (q2).1 | exact Decidable.not_not.1 (q2).1
  have hzs:=Bg.zv_s hRt;refine V.gf [.u 1] fun _ _ G4=>?_;intro S s
  refine V.gf [.u 1,.l 0,.ln (kF 0 a d),.u 1] fun _ _ G5=>?_;intro S s
  refine V.lp (γ:=Int × Int) (fun ⟨u,k0⟩=>⟨[(1,pp ((G1 0).b) 0),(4,.int .u64 u),(17,d.v),(18,iv (a.length:Int)),(19,iv k0)],[fs false a d],[.blk ((G1 0).b) (ca (DBig.mk c ⟨a,d⟩)) 50]⟩) (fun ⟨u,k0⟩=>(0≤k0)∧(k0≤(a.length:Int))∧(u=(Bg.nv (a.take k0.toNat):Int))∧(u < 9223372036854775808 * 2)) (fun ⟨u,k0⟩=>((a.length:Int)-k0).toNat) (0,0) [0] ?_ ?_
  · refine ⟨?_,?_,?_,?_⟩
    · show 0≤(0:Int);omega
    · show (0:Int)≤(a.length:Int);omega
    · show (0:Int)=(Bg.nv (a.take (0:Int).toNat):Int);simp [Bg.nv]
    show (0:Int) < 9223372036854775808 * 2;omega
  rintro ⟨u,k0⟩ hF1 kw6 Z1 hZ1;have hF1:(0≤k0)∧(k0≤(a.length:Int))∧(u=(Bg.nv (a.take k0.toNat):Int))∧(u < 9223372036854775808 * 2):=hF1;obtain ⟨hf1,hf2,hf3,hf4⟩:=hF1;clear kw6;refine V.gf [.u 1] fun _ _ G6=>?_;intro S s;refine V.cn (b:=decide (k0 < (a.length:Int))) iDT iDF (fun q3=>?_) (fun q4=>?_)
  · rcases (by omega:k0=0∨k0=1∨k0=2∨k0=3) with hcs1 | hcs2 | hcs3 | hcs4
    · refine V.alt (fun (zz:Int)=>(⟨[(1,pp ((G1 0).b) 0),(4,.int .u64 u),(17,d.v),(18,iv (a.length:Int)),(19,iv zz),(20,bv (decide (k0 < (a.length:Int))))],[fs false a d],[.blk ((G1 0).b) (ca (DBig.mk c ⟨a,d⟩)) 50]⟩:St)) hcs1 [0] (by kernel_rfl) ?_;refine nm (a.getD (0:Int).toNat default:Int) fun v1 hv1=>?_;refine V.gf [.u 1,.iX (kF 0 a d) 0,.lE (kF 0 a d) (0:Int) false v1 hv1 false,.u 2] fun _ _ G7=>?_;intro S s
      refine V.gf [.u 1,.kb false,.kb false,.dead,.dead,.kb false] fun _ _ G8=>?_;intro S s
      refine V.condF (by kernel_rfl) ?_;have huc:u=(Bg.nv (a.take 0):Int):=by rw [hf3,hcs1];rfl
      have hlt:=Bg.take_lt hRt.dg 0;have hst:=Bg.int_step (k:=0) (v:=v1) (by omega) hv1 hRt.dg;have hpw:(1048576:Nat) ^ 0=1:=by decide
      rw [hpw] at hst hlt;have hst0:=hst.2;have hst1:Bg.nv (a.take 1)=_:=hst.1;refine nm (v1 % 18446744073709551616:Int) fun n1 hn1=>?_;refine nm (n1 * 1:Int) fun n2 hn2=>?_;refine nm (u+n2:Int) fun n3 hn3=>?_;refine V.gf [.u 2,.ek g0 .u64 v1 n1 (fun _=>by rw [wrapU64,hn1]),.u 2,.shlm g0 .u64 .i64 n1 0 n2 0 (fun _=>⟨rfl,by decide,by show _=IntKind.u64.wrap (n1 * 1);rw [wrapU64];omega⟩),.oru g0 u n2 n1 n3 0 (by rw [hn2];rfl) (fun _=>⟨by decide,by omega,⟨by omega,by show _ < (1:Int);omega⟩,by rw [hn3,hn2];show _=_ * (1:Int)+_;omega,by omega⟩),.u 1] fun _ _ G9=>?_;intro S s
      refine V.gf [.u 2] fun _ _ G10=>?_;intro S s
      refine V.rn hZ1 (n3,1) [0] ?_ ?_
      · refine ⟨?_,?_,?_,?_⟩
        · show 0≤(1:Int);omega
        · show (1:Int)≤(a.length:Int);omega
        · show n3=(Bg.nv (a.take (1:Int).toNat):Int);show n3=(Bg.nv (a.take 1):Int);rw [hst1,hn3,hn2];omega
        show n3 < 9223372036854775808 * 2;omega
      show ((a.length:Int)-(1:Int)).toNat < ((a.length:Int)-k0).toNat;omega
    · refine V.alt (fun (zz:Int)=>(⟨[(1,pp ((G1 0).b) 0),(4,.int .u64 u),(17,d.v),(18,iv (a.length:Int)),(19,iv zz),(20,bv (decide (k0 < (a.length:Int))))],[fs false a d],[.blk ((G1 0).b) (ca (DBig.mk c ⟨a,d⟩)) 50]⟩:St)) hcs2 [0] (by kernel_rfl) ?_;refine nm (a.getD (1:Int).toNat default:Int) fun v2 hv2=>?_;refine V.gf [.u 1,.iX (kF 0 a d) 1,.lE (kF 0 a d) (1:Int) false v2 hv2 false,.u 2] fun _ _ G11=>?_;intro S s
      refine V.gf [.u 1,.kb false,.kb false,.dead,.dead,.kb false] fun _ _ G12=>?_;intro S s
      refine V.condF (by kernel_rfl) ?_;have huc:u=(Bg.nv (a.take 1):Int):=by rw [hf3,hcs2];rfl
      have hlt:=Bg.take_lt hRt.dg 1;have hst:=Bg.int_step (k:=1) (v:=v2) (by omega) hv2 hRt.dg;have hpw:(1048576:Nat) ^ 1=1048576:=by decide
      rw [hpw] at hst hlt;have hst0:=hst.2;have hst1:Bg.nv (a.take 2)=_:=hst.1;refine nm (v2 % 18446744073709551616:Int) fun n4 hn4=>?_;refine nm (n4 * 1048576:Int) fun n5 hn5=>?_;refine nm (u+n5:Int) fun n6 hn6=>?_;refine V.gf [.u 2,.ek g0 .u64 v2 n4 (fun _=>by rw [wrapU64,hn4]),.u 2,.shlm g0 .u64 .i64 n4 20 n5 20 (fun _=>⟨rfl,by decide,by show _=IntKind.u64.wrap (n4 * 1048576);rw [wrapU64];omega⟩),.oru g0 u n5 n4 n6 20 (by rw [hn5];rfl) (fun _=>⟨by decide,by omega,⟨by omega,by show _ < (1048576:Int);omega⟩,by rw [hn6,hn5];show _=_ * (1048576:Int)+_;omega,by omega⟩),.u 1] fun _ _ G13=>?_;intro S s
      refine V.gf [.u 2] fun _ _ G14=>?_;intro S s
      refine V.rn hZ1 (n6,2) [0] ?_ ?_
      · refine ⟨?_,?_,?_,?_⟩
        · show 0≤(2:Int);omega
        · show (2:Int)≤(a.length:Int);omega
        · show n6=(Bg.nv (a.take (2:Int).toNat):Int);show n6=(Bg.nv (a.take 2):Int);rw [hst1,hn6,hn5];omega
        show n6 < 9223372036854775808 * 2;omega
      show ((a.length:Int)-(2:Int)).toNat < ((a.length:Int)-k0).toNat;omega
    · refine V.alt (fun (zz:Int)=>(⟨[(1,pp ((G1 0).b) 0),(4,.int .u64 u),(17,d.v),(18,iv (a.length:Int)),(19,iv zz),(20,bv (decide (k0 < (a.length:Int))))],[fs false a d],[.blk ((G1 0).b) (ca (DBig.mk c ⟨a,d⟩)) 50]⟩:St)) hcs3 [0] (by kernel_rfl) ?_;refine nm (a.getD (2:Int).toNat default:Int) fun v3 hv3=>?_;refine V.gf [.u 1,.iX (kF 0 a d) 2,.lE (kF 0 a d) (2:Int) false v3 hv3 false,.u 2] fun _ _ G15=>?_;intro S s
      refine V.gf [.u 1,.kb false,.kb false,.dead,.dead,.kb false] fun _ _ G16=>?_;intro S s
      refine V.condF (by kernel_rfl) ?_;have huc:u=(Bg.nv (a.take 2):Int):=by rw [hf3,hcs3];rfl
      have hlt:=Bg.take_lt hRt.dg 2;have hst:=Bg.int_step (k:=2) (v:=v3) (by omega) hv3 hRt.dg;have hpw:(1048576:Nat) ^ 2=1099511627776:=by decide
      rw [hpw] at hst hlt;have hst0:=hst.2;have hst1:Bg.nv (a.take 3)=_:=hst.1;refine nm (v3 % 18446744073709551616:Int) fun n7 hn7=>?_;refine nm (n7 * 1099511627776:Int) fun n8 hn8=>?_;refine nm (u+n8:Int) fun n9 hn9=>?_;refine V.gf [.u 2,.ek g0 .u64 v3 n7 (fun _=>by rw [wrapU64,hn7]),.u 2,.shlm g0 .u64 .i64 n7 40 n8 40 (fun _=>⟨rfl,by decide,by show _=IntKind.u64.wrap (n7 * 1099511627776);rw [wrapU64];omega⟩),.oru g0 u n8 n7 n9 40 (by rw [hn8];rfl) (fun _=>⟨by decide,by omega,⟨by omega,by show _ < (1099511627776:Int);omega⟩,by rw [hn9,hn8];show _=_ * (1099511627776:Int)+_;omega,by omega⟩),.u 1] fun _ _ G17=>?_;intro S s
      refine V.gf [.u 2] fun _ _ G18=>?_;intro S s
      refine V.rn hZ1 (n9,3) [0] ?_ ?_
      · refine ⟨?_,?_,?_,?_⟩
        · show 0≤(3:Int);omega
        · show (3:Int)≤(a.length:Int);omega
        · show n9=(Bg.nv (a.take (3:Int).toNat):Int);show n9=(Bg.nv (a.take 3):Int);rw [hst1,hn9,hn8];omega
        show n9 < 9223372036854775808 * 2;omega
      show ((a.length:Int)-(3:Int)).toNat < ((a.length:Int)-k0).toNat;omega
    refine V.alt (fun (zz:Int)=>(⟨[(1,pp ((G1 0).b) 0),(4,.int .u64 u),(17,d.v),(18,iv (a.length:Int)),(19,iv zz),(20,bv (decide (k0 < (a.length:Int))))],[fs false a d],[.blk ((G1 0).b) (ca (DBig.mk c ⟨a,d⟩)) 50]⟩:St)) hcs4 [0] (by kernel_rfl) ?_;refine nm (a.getD (3:Int).toNat default:Int) fun v4 hv4=>?_;refine V.gf [.u 1,.iX (kF 0 a d) 3,.lE (kF 0 a d) (3:Int) false v4 hv4 false,.u 2] fun _ _ G19=>?_;intro S s
    refine V.gf [.u 1,.kb true,.kb true,.u 3] fun _ _ G20=>?_;intro S s
    refine V.cn (b:=decide (8 < v4)) iDT iDF (fun q5=>?_) (fun q6=>?_)
    · have hNo:=Bg.int_top hRt (by omega) hv4 (by omega);refine V.gf [.u 1,.kb false] fun _ _ G21=>?_;intro S s
      have e0:(0:Int)=Bg.intV c a:=(Bg.intV_n hNo).symm;have e1:false=decide (Bg.inI c a):=(decide_eq_false hNo).symm;exact V.rT [0,0] [] [] [] [] [] (cong2 (fun (xz0:Int) (xz1:Bool)=>(.tuple #[iv xz0,bv xz1]:Value)) e0 e1)
    have huc:u=(Bg.nv (a.take 3):Int):=by rw [hf3,hcs4];rfl
    have hlt:=Bg.take_lt hRt.dg 3;have hst:=Bg.int_step (k:=3) (v:=v4) (by omega) hv4 hRt.dg;have hpw:(1048576:Nat) ^ 3=1152921504606846976:=by decide
    rw [hpw] at hst hlt;have hst0:=hst.2;have hst1:Bg.nv (a.take 4)=_:=hst.1;refine nm (v4 % 18446744073709551616:Int) fun n10 hn10=>?_;refine nm (n10 * 1152921504606846976:Int) fun n11 hn11=>?_;refine nm (u+n11:Int) fun n12 hn12=>?_;refine V.gf [.u 2,.ek g0 .u64 v4 n10 (fun _=>by rw [wrapU64,hn10]),.u 2,.shlm g0 .u64 .i64 n10 60 n11 60 (fun _=>⟨rfl,by decide,by show _=IntKind.u64.wrap (n10 * 1152921504606846976);rw [wrapU64];omega⟩),.oru g0 u n11 n10 n12 60 (by rw [hn11];rfl) (fun _=>⟨by decide,by omega,⟨by omega,by show _ < (1152921504606846976:Int);omega⟩,by rw [hn12,hn11];show _=_ * (1152921504606846976:Int)+_;omega,by omega⟩),.u 1] fun _ _ G22=>?_;intro S s
    refine V.gf [.u 2] fun _ _ G23=>?_;intro S s
    refine V.rn hZ1 (n12,4) [0] ?_ ?_
    · refine ⟨?_,?_,?_,?_⟩
      · show 0≤(4:Int);omega
      · show (4:Int)≤(a.length:Int);omega
      · show n12=(Bg.nv (a.take (4:Int).toNat):Int);show n12=(Bg.nv (a.take 4):Int);rw [hst1,hn12,hn11];omega
      show n12 < 9223372036854775808 * 2;omega
    show ((a.length:Int)-(4:Int)).toNat < ((a.length:Int)-k0).toNat;omega
  have hall:u=(Bg.nv a:Int):=by rw [hf3,List.take_of_length_le (by omega)]
  refine nm ((decide (c < 0)) && (decide (u≤9223372036854775808)):Bool) fun p2 hp2=>?_;refine V.gf [.u 1,.l 0,.u 4,.andn g0 false (decide (c < 0)) (decide (u≤9223372036854775808)) p2 hp2,.u 1] fun _ _ G24=>?_;intro S s
  refine V.cn (b:=p2) (iN hp2 (iAT iDT iDT)) (iN hp2 (iAF iDF iDF)) (fun q7=>?_) (fun q8=>?_)
  · have hYes:Bg.inI c a:=⟨hRt,by omega⟩;refine nm ((0-u) % 18446744073709551616:Int) fun n13 hn13=>?_;refine V.gf [.u 1,.ek g0 .u64 (0-u) n13 (fun _=>by rw [wrapU64,hn13]),.ek g0 .i64 n13 (-u) (fun _=>by rw [IntKind.wrap_i64];omega),.u 1,.kb true] fun _ _ G25=>?_;intro S s
    have e0:(-u)=Bg.intV c a:=by rw [Bg.intV_y hYes];omega
    have e1:true=decide (Bg.inI c a):=(decide_eq_true hYes).symm;exact V.rT [0,0] [] [] [] [] [] (cong2 (fun (xz0:Int) (xz1:Bool)=>(.tuple #[iv xz0,bv xz1]:Value)) e0 e1)
  refine nm ((decide (0≤c)) && (decide (u < 9223372036854775808)):Bool) fun p3 hp3=>?_;refine V.gf [.u 1,.l 0,.u 4,.andn g0 false (decide (0≤c)) (decide (u < 9223372036854775808)) p3 hp3,.u 1] fun _ _ G26=>?_;intro S s
  refine V.cn (b:=p3) (iN hp3 (iAT iDT iDT)) (iN hp3 (iAF iDF iDF)) (fun q9=>?_) (fun q10=>?_)
  · have hYes:Bg.inI c a:=⟨hRt,by omega⟩;refine V.gf [.u 1,.ek g0 .i64 u u (fun _=>by rw [IntKind.wrap_i64];omega),.u 1,.kb true] fun _ _ G27=>?_;intro S s
    have e0:u=Bg.intV c a:=by rw [Bg.intV_y hYes];omega
    have e1:true=decide (Bg.inI c a):=(decide_eq_true hYes).symm;exact V.rT [0,0] [] [] [] [] [] (cong2 (fun (xz0:Int) (xz1:Bool)=>(.tuple #[iv xz0,bv xz1]:Value)) e0 e1)
  have hNo:¬ Bg.inI c a:=fun hi=>by have:=hi.2;omega
  refine V.gf [.u 1,.kb false] fun _ _ G28=>?_;intro S s
  have e0:(0:Int)=Bg.intV c a:=(Bg.intV_n hNo).symm;have e1:false=decide (Bg.inI c a):=(decide_eq_false hNo).symm;exact V.rT [0,0] [] [] [] [] [] (cong2 (fun (xz0:Int) (xz1:Bool)=>(.tuple #[iv xz0,bv xz1]:Value)) e0 e1)
theorem int_ctv (b:Int) (a:List Int) (c:SV) (rv0:Int) (erv0:rv0=Bg.intV b a) :
    Cp Tryz.prog 38 #[ag (DBig.mk b ⟨a,c⟩)] [fs true a c] (.tuple #[iv rv0,bv (decide (Bg.inI b a))]):=by
  subst erv0;exact int_ct b a c 

open Go Go.Proofs
set_option maxRecDepth 10000 in
theorem cmpd_ct (a:List Int) (as_:SV) (b:List Int) (bs:SV) (hda:Bg.Dg a) (hdb:Bg.Dg b) (hza:Bg.Nz a) (hzb:Bg.Nz b) :
    Cp Tryz.prog 123 #[as_.v,bs.v] [fs true a as_,fs true b bs] (iv (Bg.cmpI (Bg.nv a) (Bg.nv b))):=by
  refine V.fo mo Tryz.func123 41 0 fun w H ε k0=>?_;obtain ⟨⟨kl1, -⟩,⟨kl2, -⟩, -⟩:Lq a as_.v∧Lq b bs.v∧True:=kq k0
  clear k0;refine V.gf [.u 1] fun _ _ G1=>?_;intro S s
  refine V.gf [.u 1,.ln (kF 0 a as_),.u 1,.ln (kF 1 b bs),.u 1] fun _ _ G2=>?_;intro S s
  refine V.cn (b:=!(decide ((a.length:Int)=(b.length:Int)))) (iNT iDF) (iNF iDT) (fun q1=>?_) (fun q2=>?_)
  · refine V.gf [.u 1,.ln (kF 0 a as_),.u 1,.ln (kF 1 b bs),.cP 4 122 [] fun G=>cmp_ct (a.length:Int) (b.length:Int),.u 1] fun _ _ G3=>?_;intro S s
    have e0:(Bg.cmpI (a.length:Int) (b.length:Int))=Bg.cmpI (Bg.nv a) (Bg.nv b):=Bg.cmp_lens hda hdb hza hzb q1;exact V.rT [0] [] [] [] [] [] (cong1 (fun (xz0:Int)=>(iv xz0:Value)) e0)
  refine nm ((a.length:Int)-1:Int) fun n1 hn1=>?_;refine V.gf [.u 1,.ln (kF 0 a as_),.aR ((a.length:Int)-1) n1 hn1,.u 1] fun _ _ G4=>?_;intro S s
  refine V.lp (γ:=Int) (fun i=>⟨[(0,as_.v),(1,bs.v),(5,iv i)],[fs false a as_,fs false b bs],[]⟩) (fun i=>(-1≤i)∧(i < (a.length:Int))∧(a.drop (i+1).toNat=b.drop (i+1).toNat)) (fun i=>(i+1).toNat) n1 [0,1] ?_ ?_
  · refine ⟨?_,?_,?_⟩
    · show -1≤n1;omega
    · show n1 < (a.length:Int);omega
    show a.drop (n1+1).toNat=b.drop (n1+1).toNat;rw [List.drop_of_length_le (by omega),List.drop_of_length_le (by omega)]
  rintro i hF1 kw5 Z1 hZ1;have hF1:(-1≤i)∧(i < (a.length:Int))∧(a.drop (i+1).toNat=b.drop (i+1).toNat):=hF1;obtain ⟨hf1,hf2,hf3⟩:=hF1;clear kw5;refine V.gf [.u 2] fun _ _ G5=>?_;intro S s;refine V.cn (b:=decide (0≤i)) iDT iDF (fun q3=>?_) (fun q4=>?_)
  · refine nm (a.getD i.toNat default:Int) fun v1 hv1=>?_;refine nm (b.getD i.toNat default:Int) fun v2 hv2=>?_;refine V.gf [.u 2,.iX (kF 0 a as_) i,.lE (kF 0 a as_) i false v1 hv1 false,.u 2,.iX (kF 1 b bs) i,.lE (kF 1 b bs) i false v2 hv2 false,.u 1] fun _ _ G6=>?_;intro S s
    refine V.cn (b:=!(decide (v1=v2))) (iNT iDF) (iNF iDT) (fun q5=>?_) (fun q6=>?_)
    · refine V.gf [.u 2,.iX (kF 0 a as_) i,.lE (kF 0 a as_) i false v1 hv1 false,.u 2,.iX (kF 1 b bs) i,.lE (kF 1 b bs) i false v2 hv2 false,.cP 8 122 [] fun G=>cmp_ct v1 v2,.u 1] fun _ _ G7=>?_;intro S s
      have e0:(Bg.cmpI v1 v2)=Bg.cmpI (Bg.nv a) (Bg.nv b):=by rw [hv1,hv2];exact Bg.cmp_ne (i:=i.toNat) hda hdb (by omega) (by omega) (by rw [show i.toNat+1=(i+1).toNat by omega];exact hf3) (by have hne:=q5;rw [hv1,hv2] at hne;exact hne)
      exact V.rT [0] [] [] [] [] [] (cong1 (fun (xz0:Int)=>(iv xz0:Value)) e0)
    refine V.gf [.u 1,.aa (i-1),.u 1] fun _ _ G8=>?_;intro S s
    refine V.rn hZ1 (i-1) [0,1] ?_ ?_
    · refine ⟨?_,?_,?_⟩
      · show -1≤(i-1);omega
      · show (i-1) < (a.length:Int);omega
      show a.drop ((i-1)+1).toNat=b.drop ((i-1)+1).toNat;rw [show (i-1+1).toNat=i.toNat by omega];exact Bg.drop_eq (by omega) (by omega) (by rw [show i.toNat+1=(i+1).toNat by omega];exact hf3) (by have he:=q6;rw [hv1,hv2] at he;exact he)
    show ((i-1)+1).toNat < (i+1).toNat;omega
  refine V.gf [.u 1] fun _ _ G9=>?_;intro S s
  have e0:(0:Int)=Bg.cmpI (Bg.nv a) (Bg.nv b):=by
    have hdr:=hf3;rw [show (i+1).toNat=0 by omega,List.drop_zero,List.drop_zero] at hdr;rw [hdr];unfold Bg.cmpI;rw [if_neg (by omega),if_pos rfl]
  exact V.rT [0] [] [] [] [] [] (cong1 (fun (xz0:Int)=>(iv xz0:Value)) e0)
theorem cmpd_ctv (a:List Int) (as_:SV) (b:List Int) (bs:SV) (hda:Bg.Dg a) (hdb:Bg.Dg b) (hza:Bg.Nz a) (hzb:Bg.Nz b) (rv0:Int) (erv0:rv0=Bg.cmpI (Bg.nv a) (Bg.nv b)) :
    Cp Tryz.prog 123 #[as_.v,bs.v] [fs true a as_,fs true b bs] (iv rv0):=by
  subst erv0;exact cmpd_ct a as_ b bs hda hdb hza hzb
set_option maxRecDepth 10000 in
theorem Cmp_ct (a:Int) (c:List Int) (f:SV) (e:Int) (d:List Int) (g:SV) :
    Cp Tryz.prog 81 #[ag (DBig.mk a ⟨c,f⟩),ag (DBig.mk e ⟨d,g⟩)] [fs true c f,fs true d g] (iv (if (Bg.RtB a c∧Bg.RtB e d) then Bg.cmpI (Bg.zv a c) (Bg.zv e d) else 0)):=by
  refine V.fo mo Tryz.func81 31 2 fun w H ε k0=>?_;clear k0
  refine V.gf [.n 0,.n 1,.u 1] fun _ _ G1=>?_;intro S s
  refine nm ((!(decide (Bg.RtB a c))) || (!(decide (Bg.RtB e d))):Bool) fun p1 hp1=>?_;refine V.gf [.l 0,.cP 1 45 [kA 0 c f] fun G=>bright_ct a c f,.u 2,.l 1,.cp (gF (b:=!(decide (Bg.RtB a c))) (iNF iDT)) 5 45 [kA 1 d g] (fun hg G=>bright_ct e d g),.u 1,.orn g0 false (!(decide (Bg.RtB a c))) (!(decide (Bg.RtB e d))) p1 hp1] fun _ _ G2=>?_;intro S s
  refine V.cn (b:=p1) (iN hp1 (iOT (iNT iDF) (iNT iDF))) (iN hp1 (iOF (iNF iDT) (iNF iDT))) (fun q1=>?_) (fun q2=>?_)
  · refine V.gf [.u 1] fun _ _ G3=>?_;intro S s
    have e0:(0:Int)=if (Bg.RtB a c∧Bg.RtB e d) then Bg.cmpI (Bg.zv a c) (Bg.zv e d) else 0:=by symm;refine if_neg ?_;rintro ⟨h1,h2⟩;rcases q1 with h | h;exact h h1;exact h h2
    exact V.rT [0] [] [] [] [] [] (cong1 (fun (xz0:Int)=>(iv xz0:Value)) e0)
  have hRR:(Bg.RtB a c∧Bg.RtB e d):=by first | exact q2 | exact ⟨Decidable.not_not.1 (q2).1,Decidable.not_not.1 (q2).2⟩
  refine V.gf [.u 1,.l 0,.u 1,.l 1,.u 1] fun _ _ G4=>?_;intro S s
  refine V.cn (b:=!(decide (a=e))) (iNT iDF) (iNF iDT) (fun q3=>?_) (fun q4=>?_)
  · refine V.gf [.u 1,.l 0,.u 1,.l 1,.cP 4 122 [] fun G=>cmp_ct a e,.u 1] fun _ _ G5=>?_;intro S s
    have e0:(Bg.cmpI a e)=if (Bg.RtB a c∧Bg.RtB e d) then Bg.cmpI (Bg.zv a c) (Bg.zv e d) else 0:=by rw [if_pos hRR,← Bg.cmp_z hRR.1 hRR.2,if_neg q3]
    exact V.rT [0] [] [] [] [] [] (cong1 (fun (xz0:Int)=>(iv xz0:Value)) e0)
  have hsE:a=e:=by first | exact q4 | exact Decidable.not_not.1 q4
  have hcB:=Bg.cmpI_le (x:=(Bg.nv c:Int)) (y:=Bg.nv d);have hsB:=Bg.sg_le hRR.1;refine nm (a * (Bg.cmpI (Bg.nv c) (Bg.nv d)):Int) fun n1 hn1=>?_;refine V.gf [.u 1,.l 0,.u 1,.l 0,.u 1,.l 1,.cP 6 123 [kA 0 c f,kA 1 d g] fun G=>cmpd_ct c f d g hRR.1.dg hRR.2.dg hRR.1.nz hRR.2.nz,.ar (a * (Bg.cmpI (Bg.nv c) (Bg.nv d))) n1 hn1 (by rw [hn1];exact (Bg.mul1 hsB hcB).1) (by rw [hn1];exact (Bg.mul1 hsB hcB).2),.u 1] fun _ _ G6=>?_;intro S s
  have e0:n1=if (Bg.RtB a c∧Bg.RtB e d) then Bg.cmpI (Bg.zv a c) (Bg.zv e d) else 0:=by rw [if_pos hRR,← Bg.cmp_z hRR.1 hRR.2,if_pos hsE];first | rfl | assumption
  exact V.rT [0] [] [] [] [] [] (cong1 (fun (xz0:Int)=>(iv xz0:Value)) e0)
theorem Cmp_ctv (c:Int) (a:List Int) (e:SV) (d:Int) (b:List Int) (f:SV) (rv0:Int) (erv0:rv0=if (Bg.RtB c a∧Bg.RtB d b) then Bg.cmpI (Bg.zv c a) (Bg.zv d b) else 0) :
    Cp Tryz.prog 81 #[ag (DBig.mk c ⟨a,e⟩),ag (DBig.mk d ⟨b,f⟩)] [fs true a e,fs true b f] (iv rv0):=by
  subst erv0;exact Cmp_ct c a e d b f 
set_option maxRecDepth 10000 in
theorem same_ct (d:Int) (a:List Int) (f:SV) (e:Int) (c:List Int) (g:SV) :
    Cp Tryz.prog 33 #[ag (DBig.mk d ⟨a,f⟩),ag (DBig.mk e ⟨c,g⟩)] [fs true a f,fs true c g] (bv (decide (d=e∧a=c))):=by
  refine V.fo mo Tryz.func33 17 2 fun w H ε k0=>?_;clear k0
  refine V.gf [.n 0,.n 1,.kb false] fun _ _ G1=>?_;intro S s
  refine nm ((decide (d=e)) && (decide (a=c)):Bool) fun p1 hp1=>?_;refine V.gf [.u 1,.l 0,.u 1,.l 1,.u 3,.l 0,.u 1,.l 1,.cp (gT (b:=decide (d=e)) iDT) 10 76 [kA 0 a f,kA 1 c g] (fun hg G=>equali_ct a f c g),.andn g0 false (decide (d=e)) (decide (a=c)) p1 hp1,.u 1] fun _ _ G2=>?_;intro S s
  have e0:p1=(decide (d=e∧a=c)):=by
    refine Bool.eq_iff_iff.2 (Iff.trans (iN hp1 (iAT iDT iDT)) (Iff.trans ?_ decide_eq_true_iff.symm));exact Iff.rfl
  exact V.rT [0] [] [] [] [] [] (cong1 (fun (xz0:Bool)=>(bv xz0:Value)) e0)
set_option maxRecDepth 10000 in
theorem neg_ct (d:Int) (c:List Int) (e:SV) (hcl:c.length≤1099511627776) :
    Ct Tryz.prog 79 #[ag (DBig.mk d ⟨c,e⟩)] [fs true c e] [] (fun g=>ag (DBig.mk (Bg.oS (Bg.RtB d c) (-Bg.zv d c)) ⟨Bg.oD (Bg.RtB d c) (-Bg.zv d c),(g.ss 0)⟩)) (fun g=>[fs true (Bg.oD (Bg.RtB d c) (-Bg.zv d c)) (g.ss 0)]) (fun g=>[]) (fun g=>[]):=by
  refine V.fo mo Tryz.func79 14 2 fun w H ε k0=>?_;clear k0
  refine V.gf [.n 0,.n 1] fun _ _ G1=>?_;intro S_ s_
  refine V.gf [.l 0,.cP 1 45 [kA 0 c e] fun G=>bright_ct d c e,.u 1] fun _ _ G2=>?_;intro S_ s_
  refine V.cn (b:=!(decide (Bg.RtB d c))) (iNT iDF) (iNF iDT) (fun q1=>?_) (fun q2=>?_)
  · refine V.gf [.u 1,.s 1] fun _ _ G3=>?_;intro S_ s_
    refine V.nilF (α:=Int) ?_;have e1:([]:List Int)=Bg.oD (Bg.RtB d c) (-Bg.zv d c):=(Bg.oD_n q1 _).symm;rw [←e1];have e0:(0:Int)=Bg.oS (Bg.RtB d c) (-Bg.zv d c):=(Bg.oS_n q1 _).symm;exact V.rT [1] [] [] [] [1] [] (cong1 (fun (xz0:Int)=>(.agg #[iv xz0,SV.v ({})]:Value)) e0)
  have hRt:Bg.RtB d c:=by first | exact q2 | exact Decidable.not_not.1 q2
  have hsB:=Bg.sg_le hRt;refine V.gf [.u 1,.l 0,.ng d (-d) rfl (by omega) (by omega),.u 1,.l 0,.cA 5 48 [kA 0 c e] fun G=>clonef_ct c e (by omega),.ctT g0 6 85 [(kf true (.g 5 0) c (fun G=>(G 5).ss 0)).a] (fun _ G=>signed_ct (-d) c ((G 5).ss 0) hRt.dg),.s 1] fun _ _ G4=>?_;intro S_ s_
  have e1:Bg.dig (Bg.nv c)=Bg.oD (Bg.RtB d c) (-Bg.zv d c):=by rw [Bg.oD_y hRt];exact Bg.neg_d hRt
  rw [←e1];have e0:(Bg.sg0 (Bg.nv c) (-d))=Bg.oS (Bg.RtB d c) (-Bg.zv d c):=by rw [Bg.oS_y hRt];exact Bg.neg_s hRt
  exact V.rT [1] [(G4 6).ss 0] [] [] [2] [] (cong1 (fun (xz0:Int)=>(.agg #[iv xz0,((G4 6).ss 0).v]:Value)) e0)
theorem neg_ctv (b:Int) (a:List Int) (c:SV) (hcl:a.length≤1099511627776) (rv0:Int) (erv0:rv0=Bg.oS (Bg.RtB b a) (-Bg.zv b a)) (rv1:List Int) (erv1:rv1=Bg.oD (Bg.RtB b a) (-Bg.zv b a)) :
    Ct Tryz.prog 79 #[ag (DBig.mk b ⟨a,c⟩)] [fs true a c] [] (fun g=>ag (DBig.mk rv0 ⟨rv1,(g.ss 0)⟩)) (fun g=>[fs true rv1 (g.ss 0)]) (fun g=>[]) (fun g=>[]):=by
  subst erv0 erv1;exact neg_ct b a c hcl

open Go Go.Proofs
set_option maxRecDepth 10000 in
theorem add_ct (a:List Int) (as_:SV) (b:List Int) (bs:SV) (hda:Bg.Dg a) (hdb:Bg.Dg b) (hla:a.length≤1099511627776) (hlb:b.length≤1099511627776) :
    Ct Tryz.prog 118 #[as_.v,bs.v] [fs true a as_,fs true b bs] [] (fun g=>((g.ss 0)).v) (fun g=>[fs true (Bg.dig (Bg.nv a+Bg.nv b)) (g.ss 0)]) (fun g=>[]) (fun g=>[]):=by
  refine V.fo mo Tryz.func118 55 1 fun w H ε k0=>?_;clear k0
  refine V.gf [.u 1] fun _ _ G1=>?_;intro S_ s_
  refine V.gf [.u 1,.ln (kF 0 a as_),.u 1,.ln (kF 1 b bs),.u 1] fun _ _ G2=>?_;intro S_ s_
  refine V.cn (b:=decide ((a.length:Int) < (b.length:Int))) iDT iDF (fun q1=>?_) (fun q2=>?_)
  · refine V.gf [.u 4] fun _ _ G3=>?_;intro S_ s_
    refine nm ((b.length:Int)+1:Int) fun n1 hn1=>?_;refine nm (List.replicate n1.toNat (0:Int):List Int) fun l1 hl1=>?_;refine V.gf [.u 1,.ln (kF 1 b bs),.aR ((b.length:Int)+1) n1 hn1,.mks 3 0 3 8 n1 l1 hl1 (by omega) (by omega) (by omega),.u 1] fun _ _ G4=>?_;intro S_ s_
    refine V.gf [.u 1] fun _ _ G5=>?_;intro S_ s_
    refine V.gf [.u 1,.ln (kF 1 b bs),.u 1] fun _ _ G6=>?_;intro S_ s_
    refine V.lp (γ:=List Int × SV × Int × Int) (fun ⟨out,outs,carry,k0⟩=>⟨[(0,bs.v),(1,as_.v),(5,outs.v),(6,iv carry),(20,bs.v),(21,iv (b.length:Int)),(22,iv k0)],[fs false b bs,fs false a as_],[os true 3 out outs]⟩) (fun ⟨out,outs,carry,k0⟩=>(0≤k0)∧(k0≤(b.length:Int))∧(Bg.AddI b a out k0.toNat carry)) (fun ⟨out,outs,carry,k0⟩=>((b.length:Int)-k0).toNat) (l1,(G4 3).s,0,0) [1,0] ?_ ?_
    · refine ⟨?_,?_,?_⟩
      · show 0≤(0:Int)
        first | omega | rfl | (simp;done) | (subst_vars;simp;done)
      · show (0:Int)≤(b.length:Int)
        first | omega | rfl | (simp;done) | (subst_vars;simp;done)
      show Bg.AddI b a l1 (0:Int).toNat (0:Int);rw [hl1,show n1.toNat=b.length+1 by omega];exact Bg.add_start _ _
    rintro ⟨out,outs,carry,k0⟩ hF1 kw7 Z1 hZ1;have hF1:(0≤k0)∧(k0≤(b.length:Int))∧(Bg.AddI b a out k0.toNat carry):=hF1;obtain ⟨hf1,hf2,hf3⟩:=hF1;have hol:=hf3.len;have hc0:=hf3.c0;have hda_:=hdb.get' k0.toNat;have hdb_:=hda.get' k0.toNat;refine V.gf [.u 1] fun _ _ G7=>?_;intro S_ s_;refine V.cn (b:=decide (k0 < (b.length:Int))) iDT iDF (fun q3=>?_) (fun q4=>?_)
    · refine nm (b.getD k0.toNat default:Int) fun v1 hv1=>?_;refine V.gf [.u 1,.iX (kF 0 b bs) k0,.lE (kF 0 b bs) k0 false v1 hv1 false,.u 2] fun _ _ G8=>?_;intro S_ s_
      have e1:b.getD k0.toNat 0=v1:=hv1.symm;refine V.gf [.u 2,.aa (carry+v1),.u 1] fun _ _ G9=>?_;intro S_ s_
      refine V.gf [.u 2,.ln (kF 1 a as_),.u 1] fun _ _ G10=>?_;intro S_ s_
      refine V.cn (b:=decide (k0 < (a.length:Int))) iDT iDF (fun q5=>?_) (fun q6=>?_)
      · refine nm (a.getD k0.toNat default:Int) fun v2 hv2=>?_;refine nm (carry+v1+v2:Int) fun n2 hn2=>?_;have e2:a.getD k0.toNat 0=v2:=hv2.symm
        refine V.gf [.u 3,.iX (kF 1 a as_) k0,.lE (kF 1 a as_) k0 false v2 hv2 false,.aR (carry+v1+v2) n2 hn2,.u 1] fun _ _ G11=>?_;intro S_ s_
        have hxx:n2=carry+b.getD k0.toNat 0+a.getD k0.toNat 0:=by omega
        refine nm (n2 % 1048576:Int) fun n3 hn3=>?_;refine nm (out.getD k0.toNat default:Int) fun v3 hv3=>?_;refine nm (out.set k0.toNat n3:List Int) fun l2 hl2=>?_;refine V.gf [.u 3,.andm g0 n2 1048575 n3 20 (by decide) rfl (by rw [hn3];rfl),.iX (kO 3 0 out outs) k0,.se g0 5 0 3 true out (fun _=>outs) k0 none v3 n3 hv3 true l2 hl2 (fun _=>⟨by omega,by omega⟩) (fun _=>rfl) [] (fun _ _ _ _=>trivial)] fun _ _ G12=>?_;intro S_ s_
        refine nm (n2 / 1048576:Int) fun n4 hn4=>?_;refine V.gf [.u 1,.shrm g0 .i64 .u64 n2 n4 20 (by decide) (by rw [hn4];rfl),.u 1] fun _ _ G13=>?_;intro S_ s_
        refine V.gf [.aa (k0+1),.u 1] fun _ _ G14=>?_;intro S_ s_
        refine V.rn hZ1 (l2,outs,n4,k0+1) [0,1] ?_ ?_
        · refine ⟨?_,?_,?_⟩
          · show 0≤(k0+1)
            first | omega | rfl | (simp;done) | (subst_vars;simp;done)
          · show (k0+1)≤(b.length:Int)
            first | omega | rfl | (simp;done) | (subst_vars;simp;done)
          show Bg.AddI b a l2 (k0+1).toNat n4;rw [hl2,hn3,hn4,show (k0+1).toNat=k0.toNat+1 by omega];exact Bg.add_step hf3 hdb hda (by omega) hxx
        show ((b.length:Int)-(k0+1)).toNat < ((b.length:Int)-k0).toNat;omega
      have e2:=Bg.getD_out (l:=a) (i:=k0.toNat) (by omega);have hxx:carry+v1=carry+b.getD k0.toNat 0+a.getD k0.toNat 0:=by omega
      refine nm ((carry+v1) % 1048576:Int) fun n5 hn5=>?_;refine nm (out.getD k0.toNat default:Int) fun v4 hv4=>?_;refine nm (out.set k0.toNat n5:List Int) fun l3 hl3=>?_;refine V.gf [.u 3,.andm g0 (carry+v1) 1048575 n5 20 (by decide) rfl (by rw [hn5];rfl),.iX (kO 3 0 out outs) k0,.se g0 5 0 3 true out (fun _=>outs) k0 none v4 n5 hv4 true l3 hl3 (fun _=>⟨by omega,by omega⟩) (fun _=>rfl) [] (fun _ _ _ _=>trivial)] fun _ _ G15=>?_;intro S_ s_
      refine nm ((carry+v1) / 1048576:Int) fun n6 hn6=>?_;refine V.gf [.u 1,.shrm g0 .i64 .u64 (carry+v1) n6 20 (by decide) (by rw [hn6];rfl),.u 1] fun _ _ G16=>?_;intro S_ s_
      refine V.gf [.aa (k0+1),.u 1] fun _ _ G17=>?_;intro S_ s_
      refine V.rn hZ1 (l3,outs,n6,k0+1) [0,1] ?_ ?_
      · refine ⟨?_,?_,?_⟩
        · show 0≤(k0+1)
          first | omega | rfl | (simp;done) | (subst_vars;simp;done)
        · show (k0+1)≤(b.length:Int)
          first | omega | rfl | (simp;done) | (subst_vars;simp;done)
        show Bg.AddI b a l3 (k0+1).toNat n6;rw [hl3,hn5,hn6,show (k0+1).toNat=k0.toNat+1 by omega];exact Bg.add_step hf3 hdb hda (by omega) hxx
      show ((b.length:Int)-(k0+1)).toNat < ((b.length:Int)-k0).toNat;omega
    have hkl:k0.toNat=b.length:=by omega
    have hen:=hf3;rw [hkl] at hen;obtain ⟨hen1,hen2⟩:=Bg.add_end hen (by omega);refine nm (out.getD (b.length:Int).toNat default:Int) fun v5 hv5=>?_;refine nm (out.set (b.length:Int).toNat carry:List Int) fun l4 hl4=>?_;refine V.gf [.u 2,.ln (kF 0 b bs),.u 1,.iX (kO 3 0 out outs) (b.length:Int),.se g0 5 0 3 true out (fun _=>outs) (b.length:Int) none v5 carry hv5 true l4 hl4 (fun _=>⟨by omega,by omega⟩) (fun _=>rfl) [] (fun _ _ _ _=>trivial)] fun _ _ G18=>?_;intro S_ s_
    have hl2e:l4=out.set b.length carry:=by rw [hl4];congr 1
    rw [←hl2e] at hen1 hen2;refine V.frz 0 true 3 l4 outs (by kernel_rfl) ?_;refine V.gf [.u 1,.ctT g0 1 125 [kB 2 l4 outs] (fun _ G=>trim_ct l4 outs hen1),.u 1] fun _ _ G19=>?_;intro S_ s_
    have e0:Bg.dig (Bg.nv l4)=Bg.dig (Bg.nv a+Bg.nv b):=by rw [hen2];rw [Nat.add_comm]
    rw [←e0];exact V.rS [0] [(G19 1).ss 0] [] [] [3] []
  refine nm ((a.length:Int)+1:Int) fun n7 hn7=>?_;refine nm (List.replicate n7.toNat (0:Int):List Int) fun l5 hl5=>?_;refine V.gf [.u 1,.ln (kF 0 a as_),.aR ((a.length:Int)+1) n7 hn7,.mks 3 0 3 8 n7 l5 hl5 (by omega) (by omega) (by omega),.u 1] fun _ _ G20=>?_;intro S_ s_
  refine V.gf [.u 1] fun _ _ G21=>?_;intro S_ s_
  refine V.gf [.u 1,.ln (kF 0 a as_),.u 1] fun _ _ G22=>?_;intro S_ s_
  refine V.lp (γ:=List Int × SV × Int × Int) (fun ⟨out_1,out_1s,carry_1,k0_1⟩=>⟨[(0,as_.v),(1,bs.v),(5,out_1s.v),(6,iv carry_1),(20,as_.v),(21,iv (a.length:Int)),(22,iv k0_1)],[fs false a as_,fs false b bs],[os true 3 out_1 out_1s]⟩) (fun ⟨out_1,out_1s,carry_1,k0_1⟩=>(0≤k0_1)∧(k0_1≤(a.length:Int))∧(Bg.AddI a b out_1 k0_1.toNat carry_1)) (fun ⟨out_1,out_1s,carry_1,k0_1⟩=>((a.length:Int)-k0_1).toNat) (l5,(G20 3).s,0,0) [0,1] ?_ ?_
  · refine ⟨?_,?_,?_⟩
    · show 0≤(0:Int)
      first | omega | rfl | (simp;done) | (subst_vars;simp;done)
    · show (0:Int)≤(a.length:Int)
      first | omega | rfl | (simp;done) | (subst_vars;simp;done)
    show Bg.AddI a b l5 (0:Int).toNat (0:Int);rw [hl5,show n7.toNat=a.length+1 by omega];exact Bg.add_start _ _
  rintro ⟨out_1,out_1s,carry_1,k0_1⟩ hF2 kw24 Z2 hZ2;have hF2:(0≤k0_1)∧(k0_1≤(a.length:Int))∧(Bg.AddI a b out_1 k0_1.toNat carry_1):=hF2;obtain ⟨hf4,hf5,hf6⟩:=hF2;have hol:=hf6.len;have hc0:=hf6.c0;have hda_:=hda.get' k0_1.toNat;have hdb_:=hdb.get' k0_1.toNat;refine V.gf [.u 1] fun _ _ G23=>?_;intro S_ s_;refine V.cn (b:=decide (k0_1 < (a.length:Int))) iDT iDF (fun q7=>?_) (fun q8=>?_)
  · refine nm (a.getD k0_1.toNat default:Int) fun v6 hv6=>?_;refine V.gf [.u 1,.iX (kF 0 a as_) k0_1,.lE (kF 0 a as_) k0_1 false v6 hv6 false,.u 2] fun _ _ G24=>?_;intro S_ s_
    have e1:a.getD k0_1.toNat 0=v6:=hv6.symm;refine V.gf [.u 2,.aa (carry_1+v6),.u 1] fun _ _ G25=>?_;intro S_ s_
    refine V.gf [.u 2,.ln (kF 1 b bs),.u 1] fun _ _ G26=>?_;intro S_ s_
    refine V.cn (b:=decide (k0_1 < (b.length:Int))) iDT iDF (fun q9=>?_) (fun q10=>?_)
    · refine nm (b.getD k0_1.toNat default:Int) fun v7 hv7=>?_;refine nm (carry_1+v6+v7:Int) fun n8 hn8=>?_;have e2:b.getD k0_1.toNat 0=v7:=hv7.symm
      refine V.gf [.u 3,.iX (kF 1 b bs) k0_1,.lE (kF 1 b bs) k0_1 false v7 hv7 false,.aR (carry_1+v6+v7) n8 hn8,.u 1] fun _ _ G27=>?_;intro S_ s_
      have hxx:n8=carry_1+a.getD k0_1.toNat 0+b.getD k0_1.toNat 0:=by omega
      refine nm (n8 % 1048576:Int) fun n9 hn9=>?_;refine nm (out_1.getD k0_1.toNat default:Int) fun v8 hv8=>?_;refine nm (out_1.set k0_1.toNat n9:List Int) fun l6 hl6=>?_;refine V.gf [.u 3,.andm g0 n8 1048575 n9 20 (by decide) rfl (by rw [hn9];rfl),.iX (kO 3 0 out_1 out_1s) k0_1,.se g0 5 0 3 true out_1 (fun _=>out_1s) k0_1 none v8 n9 hv8 true l6 hl6 (fun _=>⟨by omega,by omega⟩) (fun _=>rfl) [] (fun _ _ _ _=>trivial)] fun _ _ G28=>?_;intro S_ s_
      refine nm (n8 / 1048576:Int) fun n10 hn10=>?_;refine V.gf [.u 1,.shrm g0 .i64 .u64 n8 n10 20 (by decide) (by rw [hn10];rfl),.u 1] fun _ _ G29=>?_;intro S_ s_
      refine V.gf [.aa (k0_1+1),.u 1] fun _ _ G30=>?_;intro S_ s_
      refine V.rn hZ2 (l6,out_1s,n10,k0_1+1) [0,1] ?_ ?_
      · refine ⟨?_,?_,?_⟩
        · show 0≤(k0_1+1)
          first | omega | rfl | (simp;done) | (subst_vars;simp;done)
        · show (k0_1+1)≤(a.length:Int)
          first | omega | rfl | (simp;done) | (subst_vars;simp;done)
        show Bg.AddI a b l6 (k0_1+1).toNat n10;rw [hl6,hn9,hn10,show (k0_1+1).toNat=k0_1.toNat+1 by omega];exact Bg.add_step hf6 hda hdb (by omega) hxx
      show ((a.length:Int)-(k0_1+1)).toNat < ((a.length:Int)-k0_1).toNat;omega
    have e2:=Bg.getD_out (l:=b) (i:=k0_1.toNat) (by omega);have hxx:carry_1+v6=carry_1+a.getD k0_1.toNat 0+b.getD k0_1.toNat 0:=by omega
    refine nm ((carry_1+v6) % 1048576:Int) fun n11 hn11=>?_;refine nm (out_1.getD k0_1.toNat default:Int) fun v9 hv9=>?_;refine nm (out_1.set k0_1.toNat n11:List Int) fun l7 hl7=>?_;refine V.gf [.u 3,.andm g0 (carry_1+v6) 1048575 n11 20 (by decide) rfl (by rw [hn11];rfl),.iX (kO 3 0 out_1 out_1s) k0_1,.se g0 5 0 3 true out_1 (fun _=>out_1s) k0_1 none v9 n11 hv9 true l7 hl7 (fun _=>⟨by omega,by omega⟩) (fun _=>rfl) [] (fun _ _ _ _=>trivial)] fun _ _ G31=>?_;intro S_ s_
    refine nm ((carry_1+v6) / 1048576:Int) fun n12 hn12=>?_;refine V.gf [.u 1,.shrm g0 .i64 .u64 (carry_1+v6) n12 20 (by decide) (by rw [hn12];rfl),.u 1] fun _ _ G32=>?_;intro S_ s_
    refine V.gf [.aa (k0_1+1),.u 1] fun _ _ G33=>?_;intro S_ s_
    refine V.rn hZ2 (l7,out_1s,n12,k0_1+1) [0,1] ?_ ?_
    · refine ⟨?_,?_,?_⟩
      · show 0≤(k0_1+1)
        first | omega | rfl | (simp;done) | (subst_vars;simp;done)
      · show (k0_1+1)≤(a.length:Int)
        first | omega | rfl | (simp;done) | (subst_vars;simp;done)
      show Bg.AddI a b l7 (k0_1+1).toNat n12;rw [hl7,hn11,hn12,show (k0_1+1).toNat=k0_1.toNat+1 by omega];exact Bg.add_step hf6 hda hdb (by omega) hxx
    show ((a.length:Int)-(k0_1+1)).toNat < ((a.length:Int)-k0_1).toNat;omega
  have hkl:k0_1.toNat=a.length:=by omega
  have hen:=hf6;rw [hkl] at hen;obtain ⟨hen1,hen2⟩:=Bg.add_end hen (by omega);refine nm (out_1.getD (a.length:Int).toNat default:Int) fun v10 hv10=>?_;refine nm (out_1.set (a.length:Int).toNat carry_1:List Int) fun l8 hl8=>?_;refine V.gf [.u 2,.ln (kF 0 a as_),.u 1,.iX (kO 3 0 out_1 out_1s) (a.length:Int),.se g0 5 0 3 true out_1 (fun _=>out_1s) (a.length:Int) none v10 carry_1 hv10 true l8 hl8 (fun _=>⟨by omega,by omega⟩) (fun _=>rfl) [] (fun _ _ _ _=>trivial)] fun _ _ G34=>?_;intro S_ s_
  have hl2e:l8=out_1.set a.length carry_1:=by rw [hl8];congr 1
  rw [←hl2e] at hen1 hen2;refine V.frz 0 true 3 l8 out_1s (by kernel_rfl) ?_;refine V.gf [.u 1,.ctT g0 1 125 [kB 2 l8 out_1s] (fun _ G=>trim_ct l8 out_1s hen1),.u 1] fun _ _ G35=>?_;intro S_ s_
  have e0:Bg.dig (Bg.nv l8)=Bg.dig (Bg.nv a+Bg.nv b):=by rw [hen2]
  rw [←e0];exact V.rS [0] [(G35 1).ss 0] [] [] [3] []
theorem add_ctv (a:List Int) (as_:SV) (b:List Int) (bs:SV) (hda:Bg.Dg a) (hdb:Bg.Dg b) (hla:a.length≤1099511627776) (hlb:b.length≤1099511627776) (rv0:List Int) (erv0:rv0=Bg.dig (Bg.nv a+Bg.nv b)) :
    Ct Tryz.prog 118 #[as_.v,bs.v] [fs true a as_,fs true b bs] [] (fun g=>((g.ss 0)).v) (fun g=>[fs true rv0 (g.ss 0)]) (fun g=>[]) (fun g=>[]):=by
  subst erv0;exact add_ct a as_ b bs hda hdb hla hlb
set_option maxRecDepth 10000 in
theorem sub_ct (a:List Int) (as_:SV) (b:List Int) (bs:SV) (hda:Bg.Dg a) (hdb:Bg.Dg b) (hla:a.length≤1099511627776) (hlb:b.length≤1099511627776) (hzb:Bg.Nz b) (hle:Bg.nv b≤Bg.nv a) :
    Ct Tryz.prog 119 #[as_.v,bs.v] [fs true a as_,fs true b bs] [] (fun g=>((g.ss 0)).v) (fun g=>[fs true (Bg.dig (Bg.nv a-Bg.nv b)) (g.ss 0)]) (fun g=>[]) (fun g=>[]):=by
  refine V.fo mo Tryz.func119 43 1 fun w H ε k0=>?_;clear k0
  refine V.gf [.u 1] fun _ _ G1=>?_;intro S s
  refine V.gf [.u 1,.cB 1 48 false [] [0] [kA 0 a as_] fun G=>clonei_ct a as_ (by omega),.u 1] fun _ _ G2=>?_;intro S s
  refine V.gf [.u 1] fun _ _ G3=>?_;intro S s
  refine V.gf [.u 1,.ln (kO 3 0 a ((G2 1).ss 0)),.u 1] fun _ _ G4=>?_;intro S s
  refine V.lp (γ:=List Int × SV × Int × Int) (fun ⟨out,outs,borrow,k0⟩=>⟨[(1,bs.v),(5,outs.v),(6,iv borrow),(12,iv (a.length:Int)),(13,iv k0)],[fs false b bs],[os true 3 out outs]⟩) (fun ⟨out,outs,borrow,k0⟩=>(0≤k0)∧(k0≤(a.length:Int))∧(Bg.SubI a b out k0.toNat borrow)) (fun ⟨out,outs,borrow,k0⟩=>((a.length:Int)-k0).toNat) (a,(G2 1).ss 0,0,0) [1] ?_ ?_
  · refine ⟨?_,?_,?_⟩
    · show 0≤(0:Int)
      first | omega | rfl | (simp;done) | (subst_vars;simp;done)
    · show (0:Int)≤(a.length:Int)
      first | omega | rfl | (simp;done) | (subst_vars;simp;done)
    show Bg.SubI a b a (0:Int).toNat (0:Int);exact Bg.sub_start _ _ hda
  rintro ⟨out,outs,borrow,k0⟩ hF1 kw5 Z1 hZ1;have hF1:(0≤k0)∧(k0≤(a.length:Int))∧(Bg.SubI a b out k0.toNat borrow):=hF1;obtain ⟨hf1,hf2,hf3⟩:=hF1;have hol:=hf3.len;have hc0:=hf3.c0;have hda_:=hf3.dg.get' k0.toNat;have hdb_:=hdb.get' k0.toNat;refine V.gf [.u 1] fun _ _ G5=>?_;intro S s;refine V.cn (b:=decide (k0 < (a.length:Int))) iDT iDF (fun q1=>?_) (fun q2=>?_)
  · refine V.gf [.u 2] fun _ _ G6=>?_;intro S s
    refine nm (out.getD k0.toNat default:Int) fun v1 hv1=>?_;have e1:out.getD k0.toNat 0=v1:=hv1.symm
    refine V.gf [.u 2,.iX (kO 3 0 out outs) k0,.lE (kO 3 0 out outs) k0 false v1 hv1 false,.u 1,.aa (v1-borrow),.u 1] fun _ _ G7=>?_;intro S s
    refine V.gf [.u 2,.ln (kF 0 b bs),.u 1] fun _ _ G8=>?_;intro S s
    refine V.cn (b:=decide (k0 < (b.length:Int))) iDT iDF (fun q3=>?_) (fun q4=>?_)
    · refine nm (b.getD k0.toNat default:Int) fun v2 hv2=>?_;refine nm (v1-borrow-v2:Int) fun n1 hn1=>?_;have e2:b.getD k0.toNat 0=v2:=hv2.symm
      refine V.gf [.u 3,.iX (kF 0 b bs) k0,.lE (kF 0 b bs) k0 false v2 hv2 false,.aR (v1-borrow-v2) n1 hn1,.u 1] fun _ _ G9=>?_;intro S s
      have hxx:n1=out.getD k0.toNat 0-borrow-b.getD k0.toNat 0:=by omega
      refine nm (n1 / 1048576:Int) fun n2 hn2=>?_;refine nm (n2 % 2:Int) fun n3 hn3=>?_;refine V.gf [.u 1,.shrm g0 .i64 .u64 n1 n2 20 (by decide) (by rw [hn2];rfl),.andm g0 n2 1 n3 1 (by decide) rfl (by rw [hn3];rfl),.u 1] fun _ _ G10=>?_;intro S s
      refine nm (n1 % 1048576:Int) fun n4 hn4=>?_;refine nm (out.set k0.toNat n4:List Int) fun l1 hl1=>?_;refine V.gf [.u 3,.andm g0 n1 1048575 n4 20 (by decide) rfl (by rw [hn4];rfl),.iX (kO 3 0 out outs) k0,.se g0 5 0 3 true out (fun _=>outs) k0 none v1 n4 hv1 true l1 hl1 (fun _=>⟨by omega,by omega⟩) (fun _=>rfl) [] (fun _ _ _ _=>trivial)] fun _ _ G11=>?_;intro S s
      refine V.gf [.aa (k0+1),.u 1] fun _ _ G12=>?_;intro S s
      refine V.rn hZ1 (l1,outs,n3,k0+1) [0] ?_ ?_
      · refine ⟨?_,?_,?_⟩
        · show 0≤(k0+1)
          first | omega | rfl | (simp;done) | (subst_vars;simp;done)
        · show (k0+1)≤(a.length:Int)
          first | omega | rfl | (simp;done) | (subst_vars;simp;done)
        show Bg.SubI a b l1 (k0+1).toNat n3;rw [hl1,hn4,hn3,hn2,show (k0+1).toNat=k0.toNat+1 by omega];exact Bg.sub_step hf3 hdb (by omega) hxx
      show ((a.length:Int)-(k0+1)).toNat < ((a.length:Int)-k0).toNat;omega
    have e2:=Bg.getD_out (l:=b) (i:=k0.toNat) (by omega);have hxx:v1-borrow=out.getD k0.toNat 0-borrow-b.getD k0.toNat 0:=by omega
    refine nm ((v1-borrow) / 1048576:Int) fun n5 hn5=>?_;refine nm (n5 % 2:Int) fun n6 hn6=>?_;refine V.gf [.u 1,.shrm g0 .i64 .u64 (v1-borrow) n5 20 (by decide) (by rw [hn5];rfl),.andm g0 n5 1 n6 1 (by decide) rfl (by rw [hn6];rfl),.u 1] fun _ _ G13=>?_;intro S s
    refine nm ((v1-borrow) % 1048576:Int) fun n7 hn7=>?_;refine nm (out.set k0.toNat n7:List Int) fun l2 hl2=>?_;refine V.gf [.u 3,.andm g0 (v1-borrow) 1048575 n7 20 (by decide) rfl (by rw [hn7];rfl),.iX (kO 3 0 out outs) k0,.se g0 5 0 3 true out (fun _=>outs) k0 none v1 n7 hv1 true l2 hl2 (fun _=>⟨by omega,by omega⟩) (fun _=>rfl) [] (fun _ _ _ _=>trivial)] fun _ _ G14=>?_;intro S s
    refine V.gf [.aa (k0+1),.u 1] fun _ _ G15=>?_;intro S s
    refine V.rn hZ1 (l2,outs,n6,k0+1) [0] ?_ ?_
    · refine ⟨?_,?_,?_⟩
      · show 0≤(k0+1)
        first | omega | rfl | (simp;done) | (subst_vars;simp;done)
      · show (k0+1)≤(a.length:Int)
        first | omega | rfl | (simp;done) | (subst_vars;simp;done)
      show Bg.SubI a b l2 (k0+1).toNat n6;rw [hl2,hn7,hn6,hn5,show (k0+1).toNat=k0.toNat+1 by omega];exact Bg.sub_step hf3 hdb (by omega) hxx
    show ((a.length:Int)-(k0+1)).toNat < ((a.length:Int)-k0).toNat;omega
  have hen:=hf3;rw [show k0.toNat=a.length by omega] at hen;have hse:=Bg.sub_end hen (Bg.len_le hda hdb hzb hle) hle;have hsd:=hen.dg;refine V.frz 0 true 3 out outs (by kernel_rfl) ?_;refine V.gf [.u 1,.ctT g0 1 125 [kB 1 out outs] (fun _ G=>trim_ct out outs hsd),.u 1] fun _ _ G16=>?_;intro S s
  have e0:Bg.dig (Bg.nv out)=Bg.dig (Bg.nv a-Bg.nv b):=by rw [hse]
  rw [←e0];exact V.rS [0] [(G16 1).ss 0] [] [] [2] []
theorem sub_ctv (a:List Int) (as_:SV) (b:List Int) (bs:SV) (hda:Bg.Dg a) (hdb:Bg.Dg b) (hla:a.length≤1099511627776) (hlb:b.length≤1099511627776) (hzb:Bg.Nz b) (hle:Bg.nv b≤Bg.nv a) (rv0:List Int) (erv0:rv0=Bg.dig (Bg.nv a - Bg.nv b)) :
    Ct Tryz.prog 119 #[as_.v,bs.v] [fs true a as_,fs true b bs] [] (fun g=>((g.ss 0)).v) (fun g=>[fs true rv0 (g.ss 0)]) (fun g=>[]) (fun g=>[]):=by
  subst erv0;exact sub_ct a as_ b bs hda hdb hla hlb hzb hle

open Go Go.Proofs
set_option maxRecDepth 10000 in
theorem mulo_ct (a:List Int) (as_:SV) (b:List Int) (bs:SV) (hda:Bg.Dg a) (hdb:Bg.Dg b) (hla:a.length≤1099511627776) (hlb:b.length≤1099511627776) :
    Ct Tryz.prog 126 #[as_.v,bs.v] [fs true a as_,fs true b bs] [] (fun g=>((g.ss 0)).v) (fun g=>[]) (fun g=>[os true 3 (Bg.dig (Bg.nv a * Bg.nv b)) (g.ss 0)]) (fun g=>[]):=by
  refine V.fo mo Tryz.func126 67 1 fun w H ε k0=>?_;clear k0
  refine V.gf [.u 1] fun _ _ G1=>?_;intro S_ s_
  refine nm ((a.length:Int)+(b.length:Int):Int) fun n1 hn1=>?_;refine nm (List.replicate n1.toNat (0:Int):List Int) fun l1 hl1=>?_;refine V.gf [.u 1,.ln (kF 0 a as_),.u 1,.ln (kF 1 b bs),.aR ((a.length:Int)+(b.length:Int)) n1 hn1,.mks 5 0 3 8 n1 l1 hl1 (by omega) (by omega) (by omega),.u 1] fun _ _ G2=>?_;intro S_ s_
  refine V.gf [.u 1,.ln (kF 0 a as_),.u 1] fun _ _ G3=>?_;intro S_ s_
  refine V.lp (γ:=List Int × SV × Int) (fun ⟨out,outs,k0⟩=>⟨[(1,bs.v),(5,outs.v),(18,as_.v),(19,iv (a.length:Int)),(20,iv k0)],[fs false b bs,fs false a as_],[os true 3 out outs]⟩) (fun ⟨out,outs,k0⟩=>(0≤k0)∧(k0≤(a.length:Int))∧(Bg.MulO a b out k0.toNat)) (fun ⟨out,outs,k0⟩=>((a.length:Int)-k0).toNat) (l1,(G2 5).s,0) [1,0] ?_ ?_
  · refine ⟨?_,?_,?_⟩
    · show 0≤(0:Int)
      first | omega | rfl | (simp;done) | (subst_vars;simp;done)
    · show (0:Int)≤(a.length:Int)
      first | omega | rfl | (simp;done) | (subst_vars;simp;done)
    show Bg.MulO a b l1 (0:Int).toNat;rw [hl1,show n1.toNat=a.length+b.length by omega];exact Bg.mul_start _ _
  rintro ⟨out,outs,k0⟩ hF1 kw4 Z1 hZ1;have hF1:(0≤k0)∧(k0≤(a.length:Int))∧(Bg.MulO a b out k0.toNat):=hF1;obtain ⟨hf1,hf2,hf3⟩:=hF1;refine V.gf [.u 1] fun _ _ G4=>?_;intro S_ s_;refine V.cn (b:=decide (k0 < (a.length:Int))) iDT iDF (fun q1=>?_) (fun q2=>?_)
  · refine nm (a.getD k0.toNat default:Int) fun v1 hv1=>?_;refine V.gf [.u 1,.iX (kF 1 a as_) k0,.lE (kF 1 a as_) k0 false v1 hv1 false,.u 2] fun _ _ G5=>?_;intro S_ s_
    refine V.gf [.u 1] fun _ _ G6=>?_;intro S_ s_
    refine V.gf [.u 1,.ln (kF 0 b bs),.u 1] fun _ _ G7=>?_;intro S_ s_
    refine V.lp (γ:=List Int × SV × Int × Int) (fun ⟨out_1,out_1s,carry,k1⟩=>⟨[(1,bs.v),(5,out_1s.v),(6,iv k0),(7,iv v1),(8,iv carry),(18,as_.v),(19,iv (a.length:Int)),(20,iv k0),(25,bs.v),(26,iv (b.length:Int)),(27,iv k1)],[fs false b bs,fs false a as_],[os true 3 out_1 out_1s]⟩) (fun ⟨out_1,out_1s,carry,k1⟩=>(0≤k1)∧(k1≤(b.length:Int))∧(Bg.MulI a b out_1 k0.toNat k1.toNat carry)) (fun ⟨out_1,out_1s,carry,k1⟩=>((b.length:Int)-k1).toNat) (out,outs,0,0) [0,1] ?_ ?_
    · refine ⟨?_,?_,?_⟩
      · show 0≤(0:Int)
        first | omega | rfl | (simp;done) | (subst_vars;simp;done)
      · show (0:Int)≤(b.length:Int)
        first | omega | rfl | (simp;done) | (subst_vars;simp;done)
      show Bg.MulI a b out k0.toNat (0:Int).toNat (0:Int);exact Bg.MulO.inner hf3
    rintro ⟨out_1,out_1s,carry,k1⟩ hF2 kw9 Z2 hZ2;have hF2:(0≤k1)∧(k1≤(b.length:Int))∧(Bg.MulI a b out_1 k0.toNat k1.toNat carry):=hF2;obtain ⟨hf4,hf5,hf6⟩:=hF2;have hol2:=hf6.len;refine V.gf [.u 1] fun _ _ G8=>?_;intro S_ s_;refine V.cn (b:=decide (k1 < (b.length:Int))) iDT iDF (fun q3=>?_) (fun q4=>?_)
    · refine nm (b.getD k1.toNat default:Int) fun v2 hv2=>?_;refine V.gf [.u 1,.iX (kF 0 b bs) k1,.lE (kF 0 b bs) k1 false v2 hv2 false,.u 2] fun _ _ G9=>?_;intro S_ s_
      refine nm (out_1.getD (k0+k1).toNat default:Int) fun v3 hv3=>?_;refine nm (v1 * v2:Int) fun n2 hn2=>?_;refine nm (v3+n2+carry:Int) fun n3 hn3=>?_;have ex:a.getD k0.toNat 0=v1:=hv1.symm
      have ey:b.getD k1.toNat 0=v2:=hv2.symm;have eo:out_1.getD (k0+k1).toNat 0=v3:=hv3.symm;have bx:=hda.get' k0.toNat;have by_:=hdb.get' k1.toNat;have bo:=hf6.dg.get' (k0+k1).toNat;have bc:=hf6.c0;rw [ex] at bx;rw [ey] at by_;rw [eo] at bo;have bp:=Bg.dmul bx by_;refine V.gf [.u 3,.aa (k0+k1),.iX (kO 3 0 out_1 out_1s) (k0+k1),.lE (kO 3 0 out_1 out_1s) (k0+k1) false v3 hv3 false,.u 2,.aR (v1 * v2) n2 hn2,.aa (v3+n2),.u 1,.aR (v3+n2+carry) n3 hn3,.u 1] fun _ _ G10=>?_;intro S_ s_
      have hxx:n3=out_1.getD (k0.toNat+k1.toNat) 0+a.getD k0.toNat 0 * b.getD k1.toNat 0+carry:=by rw [ex,ey,show k0.toNat+k1.toNat=(k0+k1).toNat by omega,eo];omega
      have stp:=Bg.mul_step hf6 hda hdb (by omega) (by omega) hxx;have stp1:=stp.1;have stp2:=stp.2;clear stp;refine nm (n3 % 1048576:Int) fun n4 hn4=>?_;refine nm (n3 / 1048576:Int) fun n5 hn5=>?_;refine nm (out_1.set (k0+k1).toNat n4:List Int) fun l2 hl2=>?_;refine V.gf [.u 3,.aa (k0+k1),.u 1,.andm g0 n3 1048575 n4 20 (by decide) rfl (by rw [hn4];rfl),.u 1,.shrm g0 .i64 .u64 n3 n5 20 (by decide) (by rw [hn5];rfl),.iX (kO 3 0 out_1 out_1s) (k0+k1),.se g0 9 0 3 true out_1 (fun _=>out_1s) (k0+k1) none v3 n4 hv3 true l2 hl2 (fun _=>⟨by omega,by omega⟩) (fun _=>rfl) [] (fun _ _ _ _=>trivial),.u 1] fun _ _ G11=>?_;intro S_ s_
      refine V.gf [.aa (k1+1),.u 1] fun _ _ G12=>?_;intro S_ s_
      refine V.rn hZ2 (l2,out_1s,n5,k1+1) [0,1] ?_ ?_
      · refine ⟨?_,?_,?_⟩
        · show 0≤(k1+1)
          first | omega | rfl | (simp;done) | (subst_vars;simp;done)
        · show (k1+1)≤(b.length:Int)
          first | omega | rfl | (simp;done) | (subst_vars;simp;done)
        show Bg.MulI a b l2 k0.toNat (k1+1).toNat n5;rw [hl2,hn4,hn5,show (k0+k1).toNat=k0.toNat+k1.toNat by omega,show (k1+1).toNat=k1.toNat+1 by omega];exact stp2
      show ((b.length:Int)-(k1+1)).toNat < ((b.length:Int)-k1).toNat;omega
    refine nm (k0+(b.length:Int):Int) fun n6 hn6=>?_;refine nm (out_1.getD n6.toNat default:Int) fun v4 hv4=>?_;refine nm (out_1.set n6.toNat (v4+carry):List Int) fun l3 hl3=>?_;have hml:=hf6
    rw [show k1.toNat=b.length by omega] at hml;have eo:out_1.getD n6.toNat 0=v4:=hv4.symm;have bo:=hml.dg.get' n6.toNat;have bc:=hml.c0;have hol3:=hml.len;rw [eo] at bo;refine V.gf [.u 3,.ln (kF 0 b bs),.aR (k0+(b.length:Int)) n6 hn6,.iX (kO 3 0 out_1 out_1s) n6,.lE (kO 3 0 out_1 out_1s) n6 false v4 hv4 false,.u 1,.aa (v4+carry),.iX (kO 3 0 out_1 out_1s) n6,.se g0 10 0 3 true out_1 (fun _=>out_1s) n6 none v4 (v4+carry) hv4 true l3 hl3 (fun _=>⟨by omega,by omega⟩) (fun _=>rfl) [] (fun _ _ _ _=>trivial)] fun _ _ G13=>?_;intro S_ s_
    refine V.gf [.aa (k0+1),.u 1] fun _ _ G14=>?_;intro S_ s_
    refine V.rn hZ1 (l3,out_1s,k0+1) [0,1] ?_ ?_
    · refine ⟨?_,?_,?_⟩
      · show 0≤(k0+1)
        first | omega | rfl | (simp;done) | (subst_vars;simp;done)
      · show (k0+1)≤(a.length:Int)
        first | omega | rfl | (simp;done) | (subst_vars;simp;done)
      show Bg.MulO a b l3 (k0+1).toNat;have hme:=Bg.mul_end (x:=(v4+carry)) hml (by omega) (by rw [show k0.toNat+b.length=n6.toNat by omega,eo]);rw [hl3,show n6.toNat=k0.toNat+b.length by omega,show (k0+1).toNat=k0.toNat+1 by omega];exact hme
    show ((a.length:Int)-(k0+1)).toNat < ((a.length:Int)-k0).toNat;omega
  have hen:=hf3;rw [show k0.toNat=a.length by omega] at hen;have hsd:=hen.dg;have hse:=hen.sum;rw [List.take_length] at hse;refine V.gf [.u 1,.cB 1 125 false [0] [] [] fun G=>trimo_ct out outs hsd,.u 1] fun _ _ G15=>?_;intro S_ s_
  have e0:Bg.dig (Bg.nv out)=Bg.dig (Bg.nv a * Bg.nv b):=by rw [hse]
  rw [←e0];exact V.rS [0] [(G15 1).ss 0] [] [] [] [0]
set_option maxRecDepth 10000 in
theorem mul_ct (a:List Int) (as_:SV) (b:List Int) (bs:SV) (hda:Bg.Dg a) (hdb:Bg.Dg b) (hla:a.length≤1099511627776) (hlb:b.length≤1099511627776) :
    Ct Tryz.prog 126 #[as_.v,bs.v] [fs true a as_,fs true b bs] [] (fun g=>((g.ss 0)).v) (fun g=>[fs true (Bg.dig (Bg.nv a * Bg.nv b)) (g.ss 0)]) (fun g=>[]) (fun g=>[]):=by
  refine V.fo mo Tryz.func126 67 1 fun w H ε k0=>?_;clear k0
  refine V.gf [.u 1] fun _ _ G1=>?_;intro S_ s_
  refine nm ((a.length:Int)+(b.length:Int):Int) fun n1 hn1=>?_;refine nm (List.replicate n1.toNat (0:Int):List Int) fun l1 hl1=>?_;refine V.gf [.u 1,.ln (kF 0 a as_),.u 1,.ln (kF 1 b bs),.aR ((a.length:Int)+(b.length:Int)) n1 hn1,.mks 5 0 3 8 n1 l1 hl1 (by omega) (by omega) (by omega),.u 1] fun _ _ G2=>?_;intro S_ s_
  refine V.gf [.u 1,.ln (kF 0 a as_),.u 1] fun _ _ G3=>?_;intro S_ s_
  refine V.lp (γ:=List Int × SV × Int) (fun ⟨out,outs,k0⟩=>⟨[(1,bs.v),(5,outs.v),(18,as_.v),(19,iv (a.length:Int)),(20,iv k0)],[fs false b bs,fs false a as_],[os true 3 out outs]⟩) (fun ⟨out,outs,k0⟩=>(0≤k0)∧(k0≤(a.length:Int))∧(Bg.MulO a b out k0.toNat)) (fun ⟨out,outs,k0⟩=>((a.length:Int)-k0).toNat) (l1,(G2 5).s,0) [1,0] ?_ ?_
  · refine ⟨?_,?_,?_⟩
    · show 0≤(0:Int)
      first | omega | rfl | (simp;done) | (subst_vars;simp;done)
    · show (0:Int)≤(a.length:Int)
      first | omega | rfl | (simp;done) | (subst_vars;simp;done)
    show Bg.MulO a b l1 (0:Int).toNat;rw [hl1,show n1.toNat=a.length+b.length by omega];exact Bg.mul_start _ _
  rintro ⟨out,outs,k0⟩ hF1 kw4 Z1 hZ1;have hF1:(0≤k0)∧(k0≤(a.length:Int))∧(Bg.MulO a b out k0.toNat):=hF1;obtain ⟨hf1,hf2,hf3⟩:=hF1;refine V.gf [.u 1] fun _ _ G4=>?_;intro S_ s_;refine V.cn (b:=decide (k0 < (a.length:Int))) iDT iDF (fun q1=>?_) (fun q2=>?_)
  · refine nm (a.getD k0.toNat default:Int) fun v1 hv1=>?_;refine V.gf [.u 1,.iX (kF 1 a as_) k0,.lE (kF 1 a as_) k0 false v1 hv1 false,.u 2] fun _ _ G5=>?_;intro S_ s_
    refine V.gf [.u 1] fun _ _ G6=>?_;intro S_ s_
    refine V.gf [.u 1,.ln (kF 0 b bs),.u 1] fun _ _ G7=>?_;intro S_ s_
    refine V.lp (γ:=List Int × SV × Int × Int) (fun ⟨out_1,out_1s,carry,k1⟩=>⟨[(1,bs.v),(5,out_1s.v),(6,iv k0),(7,iv v1),(8,iv carry),(18,as_.v),(19,iv (a.length:Int)),(20,iv k0),(25,bs.v),(26,iv (b.length:Int)),(27,iv k1)],[fs false b bs,fs false a as_],[os true 3 out_1 out_1s]⟩) (fun ⟨out_1,out_1s,carry,k1⟩=>(0≤k1)∧(k1≤(b.length:Int))∧(Bg.MulI a b out_1 k0.toNat k1.toNat carry)) (fun ⟨out_1,out_1s,carry,k1⟩=>((b.length:Int)-k1).toNat) (out,outs,0,0) [0,1] ?_ ?_
    · refine ⟨?_,?_,?_⟩
      · show 0≤(0:Int)
        first | omega | rfl | (simp;done) | (subst_vars;simp;done)
      · show (0:Int)≤(b.length:Int)
        first | omega | rfl | (simp;done) | (subst_vars;simp;done)
      show Bg.MulI a b out k0.toNat (0:Int).toNat (0:Int);exact Bg.MulO.inner hf3
    rintro ⟨out_1,out_1s,carry,k1⟩ hF2 kw9 Z2 hZ2;have hF2:(0≤k1)∧(k1≤(b.length:Int))∧(Bg.MulI a b out_1 k0.toNat k1.toNat carry):=hF2;obtain ⟨hf4,hf5,hf6⟩:=hF2;have hol2:=hf6.len;refine V.gf [.u 1] fun _ _ G8=>?_;intro S_ s_;refine V.cn (b:=decide (k1 < (b.length:Int))) iDT iDF (fun q3=>?_) (fun q4=>?_)
    · refine nm (b.getD k1.toNat default:Int) fun v2 hv2=>?_;refine V.gf [.u 1,.iX (kF 0 b bs) k1,.lE (kF 0 b bs) k1 false v2 hv2 false,.u 2] fun _ _ G9=>?_;intro S_ s_
      refine nm (out_1.getD (k0+k1).toNat default:Int) fun v3 hv3=>?_;refine nm (v1 * v2:Int) fun n2 hn2=>?_;refine nm (v3+n2+carry:Int) fun n3 hn3=>?_;have ex:a.getD k0.toNat 0=v1:=hv1.symm
      have ey:b.getD k1.toNat 0=v2:=hv2.symm;have eo:out_1.getD (k0+k1).toNat 0=v3:=hv3.symm;have bx:=hda.get' k0.toNat;have by_:=hdb.get' k1.toNat;have bo:=hf6.dg.get' (k0+k1).toNat;have bc:=hf6.c0;rw [ex] at bx;rw [ey] at by_;rw [eo] at bo;have bp:=Bg.dmul bx by_;refine V.gf [.u 3,.aa (k0+k1),.iX (kO 3 0 out_1 out_1s) (k0+k1),.lE (kO 3 0 out_1 out_1s) (k0+k1) false v3 hv3 false,.u 2,.aR (v1 * v2) n2 hn2,.aa (v3+n2),.u 1,.aR (v3+n2+carry) n3 hn3,.u 1] fun _ _ G10=>?_;intro S_ s_
      have hxx:n3=out_1.getD (k0.toNat+k1.toNat) 0+a.getD k0.toNat 0 * b.getD k1.toNat 0+carry:=by rw [ex,ey,show k0.toNat+k1.toNat=(k0+k1).toNat by omega,eo];omega
      have stp:=Bg.mul_step hf6 hda hdb (by omega) (by omega) hxx;have stp1:=stp.1;have stp2:=stp.2;clear stp;refine nm (n3 % 1048576:Int) fun n4 hn4=>?_;refine nm (n3 / 1048576:Int) fun n5 hn5=>?_;refine nm (out_1.set (k0+k1).toNat n4:List Int) fun l2 hl2=>?_;refine V.gf [.u 3,.aa (k0+k1),.u 1,.andm g0 n3 1048575 n4 20 (by decide) rfl (by rw [hn4];rfl),.u 1,.shrm g0 .i64 .u64 n3 n5 20 (by decide) (by rw [hn5];rfl),.iX (kO 3 0 out_1 out_1s) (k0+k1),.se g0 9 0 3 true out_1 (fun _=>out_1s) (k0+k1) none v3 n4 hv3 true l2 hl2 (fun _=>⟨by omega,by omega⟩) (fun _=>rfl) [] (fun _ _ _ _=>trivial),.u 1] fun _ _ G11=>?_;intro S_ s_
      refine V.gf [.aa (k1+1),.u 1] fun _ _ G12=>?_;intro S_ s_
      refine V.rn hZ2 (l2,out_1s,n5,k1+1) [0,1] ?_ ?_
      · refine ⟨?_,?_,?_⟩
        · show 0≤(k1+1)
          first | omega | rfl | (simp;done) | (subst_vars;simp;done)
        · show (k1+1)≤(b.length:Int)
          first | omega | rfl | (simp;done) | (subst_vars;simp;done)
        show Bg.MulI a b l2 k0.toNat (k1+1).toNat n5;rw [hl2,hn4,hn5,show (k0+k1).toNat=k0.toNat+k1.toNat by omega,show (k1+1).toNat=k1.toNat+1 by omega];exact stp2
      show ((b.length:Int)-(k1+1)).toNat < ((b.length:Int)-k1).toNat;omega
    refine nm (k0+(b.length:Int):Int) fun n6 hn6=>?_;refine nm (out_1.getD n6.toNat default:Int) fun v4 hv4=>?_;refine nm (out_1.set n6.toNat (v4+carry):List Int) fun l3 hl3=>?_;have hml:=hf6
    rw [show k1.toNat=b.length by omega] at hml;have eo:out_1.getD n6.toNat 0=v4:=hv4.symm;have bo:=hml.dg.get' n6.toNat;have bc:=hml.c0;have hol3:=hml.len;rw [eo] at bo;refine V.gf [.u 3,.ln (kF 0 b bs),.aR (k0+(b.length:Int)) n6 hn6,.iX (kO 3 0 out_1 out_1s) n6,.lE (kO 3 0 out_1 out_1s) n6 false v4 hv4 false,.u 1,.aa (v4+carry),.iX (kO 3 0 out_1 out_1s) n6,.se g0 10 0 3 true out_1 (fun _=>out_1s) n6 none v4 (v4+carry) hv4 true l3 hl3 (fun _=>⟨by omega,by omega⟩) (fun _=>rfl) [] (fun _ _ _ _=>trivial)] fun _ _ G13=>?_;intro S_ s_
    refine V.gf [.aa (k0+1),.u 1] fun _ _ G14=>?_;intro S_ s_
    refine V.rn hZ1 (l3,out_1s,k0+1) [0,1] ?_ ?_
    · refine ⟨?_,?_,?_⟩
      · show 0≤(k0+1)
        first | omega | rfl | (simp;done) | (subst_vars;simp;done)
      · show (k0+1)≤(a.length:Int)
        first | omega | rfl | (simp;done) | (subst_vars;simp;done)
      show Bg.MulO a b l3 (k0+1).toNat;have hme:=Bg.mul_end (x:=(v4+carry)) hml (by omega) (by rw [show k0.toNat+b.length=n6.toNat by omega,eo]);rw [hl3,show n6.toNat=k0.toNat+b.length by omega,show (k0+1).toNat=k0.toNat+1 by omega];exact hme
    show ((a.length:Int)-(k0+1)).toNat < ((a.length:Int)-k0).toNat;omega
  have hen:=hf3;rw [show k0.toNat=a.length by omega] at hen;have hsd:=hen.dg;have hse:=hen.sum;rw [List.take_length] at hse;refine V.frz 0 true 3 out outs (by kernel_rfl) ?_;refine V.gf [.u 1,.ctT g0 1 125 [kB 2 out outs] (fun _ G=>trim_ct out outs hsd),.u 1] fun _ _ G15=>?_;intro S_ s_
  have e0:Bg.dig (Bg.nv out)=Bg.dig (Bg.nv a * Bg.nv b):=by rw [hse]
  rw [←e0];exact V.rS [0] [(G15 1).ss 0] [] [] [3] []
theorem mul_ctv (a:List Int) (as_:SV) (b:List Int) (bs:SV) (hda:Bg.Dg a) (hdb:Bg.Dg b) (hla:a.length≤1099511627776) (hlb:b.length≤1099511627776) (rv0:List Int) (erv0:rv0=Bg.dig (Bg.nv a * Bg.nv b)) :
    Ct Tryz.prog 126 #[as_.v,bs.v] [fs true a as_,fs true b bs] [] (fun g=>((g.ss 0)).v) (fun g=>[fs true rv0 (g.ss 0)]) (fun g=>[]) (fun g=>[]):=by
  subst erv0;exact mul_ct a as_ b bs hda hdb hla hlb
set_option maxRecDepth 10000 in
theorem short_ct (a:List Int) (as_:SV) (d:Int) (hda:Bg.Dg a) (hdd:0 < d∧d < 1048576) (hla:a.length≤1099511627776) :
    Ct Tryz.prog 124 #[as_.v,iv d] [fs true a as_] [] (fun g=>.tuple #[((g.ss 0)).v,iv ((Bg.nv a % d.toNat:Nat):Int)]) (fun g=>[fs true (Bg.dig (Bg.nv a / d.toNat)) (g.ss 0)]) (fun g=>[]) (fun g=>[]):=by
  refine V.fo mo Tryz.func124 38 1 fun w H ε k0=>?_;clear k0
  refine V.gf [.u 2] fun _ _ G1=>?_;intro S_ s_
  refine nm (List.replicate (a.length:Int).toNat (0:Int):List Int) fun l1 hl1=>?_;refine V.gf [.u 1,.ln (kF 0 a as_),.mks 2 0 3 8 (a.length:Int) l1 hl1 (by omega) (by omega) (by omega),.u 1] fun _ _ G2=>?_;intro S_ s_
  refine V.gf [.u 1] fun _ _ G3=>?_;intro S_ s_
  refine nm ((a.length:Int)-1:Int) fun n1 hn1=>?_;refine V.gf [.u 1,.ln (kF 0 a as_),.aR ((a.length:Int)-1) n1 hn1,.u 1] fun _ _ G4=>?_;intro S_ s_
  refine V.lp (γ:=List Int × SV × Int × Int) (fun ⟨out,outs,r,i⟩=>⟨[(0,as_.v),(1,iv d),(6,outs.v),(7,iv r),(8,iv i)],[fs false a as_],[os true 3 out outs]⟩) (fun ⟨out,outs,r,i⟩=>(-1≤i)∧(i < (a.length:Int))∧(Bg.ShoI a out d (i+1).toNat r)) (fun ⟨out,outs,r,i⟩=>(i+1).toNat) (l1,(G2 2).s,0,n1) [0] ?_ ?_
  · refine ⟨?_,?_,?_⟩
    · show -1≤n1;omega
    · show n1 < (a.length:Int);omega
    show Bg.ShoI a l1 d (n1+1).toNat (0:Int);rw [show (n1+1).toNat=a.length by omega,hl1,show ((a.length:Int)).toNat=a.length by omega];exact Bg.sho_start _ hdd.1
  rintro ⟨out,outs,r,i⟩ hF1 kw5 Z1 hZ1;have hF1:(-1≤i)∧(i < (a.length:Int))∧(Bg.ShoI a out d (i+1).toNat r):=hF1;obtain ⟨hf1,hf2,hf3⟩:=hF1;refine V.gf [.u 2] fun _ _ G5=>?_;intro S_ s_;refine V.cn (b:=decide (0≤i)) iDT iDF (fun q1=>?_) (fun q2=>?_)
  · refine nm (r * 1048576:Int) fun n2 hn2=>?_;refine nm (a.getD i.toNat default:Int) fun v1 hv1=>?_;refine nm (n2+v1:Int) fun n3 hn3=>?_;have ea:a.getD i.toNat 0=v1:=hv1.symm
    have ba:=hda.get' i.toNat;rw [ea] at ba;have br:=hf3.r0;have hol:=hf3.len;refine V.gf [.u 1,.shlm g0 .i64 .u64 r 20 n2 20 (fun _=>⟨rfl,by decide,by show _=IntKind.i64.wrap (r * 1048576);rw [IntKind.wrap_i64];omega⟩),.u 2,.iX (kF 0 a as_) i,.lE (kF 0 a as_) i false v1 hv1 false,.orm g0 n2 r v1 n3 20 (by rw [hn2];rfl) (fun _=>⟨by decide,by omega,⟨by omega,by show _ < (1048576:Int);omega⟩,by rw [hn3,hn2];rfl,by omega⟩),.u 1] fun _ _ G6=>?_;intro S_ s_
    have hsf:=hf3;rw [show (i+1).toNat=i.toNat+1 by omega] at hsf;have stp:=Bg.sho_step (x:=n3) hsf hda hdd (by omega) (by rw [ea];omega);have stp1:=stp.1;have stp2:=stp.2.1;have stp3:=stp.2.2;clear stp;refine nm (n3 / d:Int) fun n4 hn4=>?_;refine nm (out.getD i.toNat default:Int) fun v2 hv2=>?_;refine nm (out.set i.toNat n4:List Int) fun l2 hl2=>?_;refine V.gf [.u 4,.qov g0 n3 d n4 hn4 (fun _=>⟨by omega,by omega⟩) (fun _=>by omega),.iX (kO 3 0 out outs) i,.se g0 6 0 3 true out (fun _=>outs) i none v2 n4 hv2 true l2 hl2 (fun _=>⟨by omega,by omega⟩) (fun _=>rfl) [] (fun _ _ _ _=>trivial)] fun _ _ G7=>?_;intro S_ s_
    refine nm (n3 % d:Int) fun n5 hn5=>?_;refine V.gf [.u 2,.rmv g0 n3 d n5 hn5 (fun _=>⟨by omega,by omega⟩),.u 1] fun _ _ G8=>?_;intro S_ s_
    refine V.gf [.u 1,.aa (i-1),.u 1] fun _ _ G9=>?_;intro S_ s_
    refine V.rn hZ1 (l2,outs,n5,i-1) [0] ?_ ?_
    · refine ⟨?_,?_,?_⟩
      · show -1≤(i-1);omega
      · show (i-1) < (a.length:Int);omega
      show Bg.ShoI a l2 d ((i-1)+1).toNat n5;rw [hl2,hn4,hn5,show (i-1+1).toNat=i.toNat by omega];exact stp3
    show ((i-1)+1).toNat < (i+1).toNat;omega
  have hen:=hf3;rw [show (i+1).toNat=0 by omega] at hen;have hsd:=hen.dg;obtain ⟨hse,hsr⟩:=Bg.sho_end hen;refine V.frz 0 true 3 out outs (by kernel_rfl) ?_;refine V.gf [.u 1,.ctT g0 1 125 [kB 1 out outs] (fun _ G=>trim_ct out outs hsd),.u 3] fun _ _ G10=>?_;intro S_ s_
  have e0:Bg.dig (Bg.nv out)=Bg.dig (Bg.nv a / d.toNat):=by rw [hse]
  rw [←e0];have e1:r=((Bg.nv a % d.toNat:Nat):Int):=hsr;exact V.rT [0,0] [(G10 1).ss 0] [] [] [2] [] (cong1 (fun (xz1:Int)=>(.tuple #[((G10 1).ss 0).v,iv xz1]:Value)) e1)

open Go Go.Proofs
set_option maxRecDepth 10000 in
theorem checkedT_ct (c:Int) (a:List Int) (b:SV) :
    Ct Tryz.prog 83 #[bv true,ag (DBig.mk c ⟨a,b⟩)] [fs true a b] [] (fun g=>.tuple #[ag (DBig.mk c ⟨a,(g.ss 0)⟩),iv 0]) (fun g=>[fs false a (g.ss 0)]) (fun g=>[]) (fun g=>[]):=by
  refine V.fo mo Tryz.func83 10 2 fun w H ε k0=>?_;clear k0
  refine V.gf [.n 0,.n 1,.u 1] fun _ _ G1=>?_;intro S_ s_
  refine V.g [.kb true,.kb false] fun _ _ G2=>?_;intro S_ s_
  refine V.condF (by kernel_rfl) ?_;refine V.gf [.l 0,.s 1,.u 1] fun _ _ G3=>?_;intro S_ s_
  exact V.rS [1,0] [b] [] [] [0] []
set_option maxRecDepth 10000 in
theorem checkedF_ct (c:Int) (a:List Int) (b:SV) :
    Ct Tryz.prog 83 #[bv false,ag (DBig.mk c ⟨a,b⟩)] [fs true a b] [] (fun g=>.tuple #[ag (DBig.mk 0 ⟨([]:List Int),(g.ss 0)⟩),iv 1]) (fun g=>[fs false ([]:List Int) (g.ss 0)]) (fun g=>[]) (fun g=>[]):=by
  refine V.fo mo Tryz.func83 10 2 fun w H ε k0=>?_;clear k0
  refine V.gf [.n 0,.n 1,.u 1] fun _ _ G1=>?_;intro S_ s_
  refine V.g [.kb false,.kb true] fun _ _ G2=>?_;intro S_ s_
  refine V.condT (by kernel_rfl) ?_;refine V.gf [.u 1,.s 1,.u 1] fun _ _ G3=>?_;intro S_ s_
  refine V.nilF (α:=Int) ?_;exact V.rS [1,0] [] [] [] [1] []
theorem checkedF_ctv (c:Int) (a:List Int) (b:SV) (rv1:List Int) (erv1:rv1=([]:List Int)) :
    Ct Tryz.prog 83 #[bv false,ag (DBig.mk c ⟨a,b⟩)] [fs true a b] [] (fun g=>.tuple #[ag (DBig.mk 0 ⟨rv1,(g.ss 0)⟩),iv 1]) (fun g=>[fs false rv1 (g.ss 0)]) (fun g=>[]) (fun g=>[]):=by
  subst erv1;exact checkedF_ct c a b 
set_option maxRecDepth 10000 in
theorem Add_ct (e:Int) (c:List Int) (i:SV) (f:Int) (d:List Int) (j:SV) (hla:c.length≤274877906944) (hlb:d.length≤274877906944) :
    Ct Tryz.prog 107 #[ag (DBig.mk e ⟨c,i⟩),ag (DBig.mk f ⟨d,j⟩)] [fs true c i,fs true d j] [] (fun g=>.tuple #[ag (DBig.mk (Bg.oS (Bg.RtB e c∧Bg.RtB f d) (Bg.zv e c+Bg.zv f d)) ⟨Bg.oD (Bg.RtB e c∧Bg.RtB f d) (Bg.zv e c+Bg.zv f d),(g.ss 0)⟩),iv (if (Bg.RtB e c∧Bg.RtB f d) then (0:Int) else 1)]) (fun g=>[fs true (Bg.oD (Bg.RtB e c∧Bg.RtB f d) (Bg.zv e c+Bg.zv f d)) (g.ss 0)]) (fun g=>[]) (fun g=>[]):=by
  refine V.fo mo Tryz.func107 69 3 fun w H ε k0=>?_;clear k0
  refine V.gf [.n 0,.n 1,.n 2,.u 1] fun _ _ G1=>?_;intro S_ s_
  refine nm ((!(decide (Bg.RtB e c))) || (!(decide (Bg.RtB f d))):Bool) fun p1 hp1=>?_;refine V.gf [.l 0,.cP 1 45 [kA 0 c i] fun G=>bright_ct e c i,.u 2,.l 1,.cp (gF (b:=!(decide (Bg.RtB e c))) (iNF iDT)) 5 45 [kA 1 d j] (fun hg G=>bright_ct f d j),.u 1,.orn g0 false (!(decide (Bg.RtB e c))) (!(decide (Bg.RtB f d))) p1 hp1] fun _ _ G2=>?_;intro S_ s_
  refine V.cn (b:=p1) (iN hp1 (iOT (iNT iDF) (iNT iDF))) (iN hp1 (iOF (iNF iDT) (iNF iDT))) (fun q1=>?_) (fun q2=>?_)
  · have hNR:¬ (Bg.RtB e c∧Bg.RtB f d):=by rintro ⟨h1,h2⟩;rcases q1 with h | h;exact h h1;exact h h2
    refine nm (([]:List Int):List Int) fun l1 hl1=>?_;refine V.gf [.u 1,.ctT g0 1 83 [(knil (α:=Int)).a] (fun _ G=>checkedF_ctv (0:Int) ([]:List Int) ({}) l1 hl1),.u 2,.s 2,.u 1] fun _ _ G3=>?_;intro S_ s_
    have e1:l1=Bg.oD (Bg.RtB e c∧Bg.RtB f d) (Bg.zv e c+Bg.zv f d):=by
      rw [hl1];exact (Bg.oD_n hNR _).symm
    subst e1;have e0:(0:Int)=Bg.oS (Bg.RtB e c∧Bg.RtB f d) (Bg.zv e c+Bg.zv f d):=(Bg.oS_n hNR _).symm;have e2:(1:Int)=if (Bg.RtB e c∧Bg.RtB f d) then (0:Int) else 1:=(if_neg hNR).symm
    exact V.rT [2,0] [(G3 1).ss 0] [] [] [2] [] (cong2 (fun (xz0 xz2:Int)=>(.tuple #[.agg #[iv xz0,((G3 1).ss 0).v],iv xz2]:Value)) e0 e2)
  have hRR:(Bg.RtB e c∧Bg.RtB f d):=by first | exact q2 | exact ⟨Decidable.not_not.1 (q2).1,Decidable.not_not.1 (q2).2⟩
  have hsm:=Bg.sml hRR.1 hRR.2;refine nm (e * f:Int) fun n1 hn1=>?_;refine V.gf [.u 1,.l 0,.u 1,.l 1,.ar (e * f) n1 hn1 (by rw [hn1];exact hsm.1) (by rw [hn1];exact hsm.2),.u 2] fun _ _ G4=>?_;intro S_ s_
  refine V.cn (b:=decide (0≤n1)) iDT iDF (fun q3=>?_) (fun q4=>?_)
  · have hss:0≤e * f:=by omega
    refine nm (Bg.orL [e,f]:Int) fun n2 hn2=>?_;refine nm (Bg.dig (Bg.nv c+Bg.nv d):List Int) fun l2 hl2=>?_;refine nm (Bg.sg0 (Bg.nv l2) n2:Int) fun n3 hn3=>?_;refine nm (Bg.dig (Bg.nv l2):List Int) fun l3 hl3=>?_;refine V.gf [.u 1,.l 0,.u 1,.l 1,.nr 4 true 3 [e,f] [] (fun _ _ _ _ _=>trivial) (fun _=>#[iv e,iv f]),.cP 5 138 [(kf true (.g 4 0) [e,f] (fun G=>⟨atB (G 4).b,2,2⟩)).a] fun G=>or_ctv [e,f] ⟨atB (G 4).b,2,2⟩ n2 hn2,.u 1,.l 0,.u 1,.l 1,.cA 10 118 [kA 0 c i,kA 1 d j] fun G=>add_ctv c i d j hRR.1.dg hRR.2.dg (by omega) (by omega) l2 hl2,.ctT g0 11 85 [(kf true (.g 10 0) l2 (fun G=>(G 10).ss 0)).a] (fun _ G=>signed_ctv n2 l2 ((G 10).ss 0) (by subst_vars;exact Bg.dig_Dg _) n3 hn3 l3 hl3),.ctT g0 12 83 [(kf true (.g 11 0) l3 (fun G=>(G 11).ss 0)).a] (fun _ G=>checkedT_ct n3 l3 ((G 11).ss 0)),.u 2,.s 2,.u 1] fun _ _ G5=>?_;intro S_ s_
    have e1:l3=Bg.oD (Bg.RtB e c∧Bg.RtB f d) (Bg.zv e c+Bg.zv f d):=by
      rw [hl3,hl2];rw [Bg.oD_y hRR];exact Bg.addD hRR.1 hRR.2 hss
    subst e1;have e0:n3=Bg.oS (Bg.RtB e c∧Bg.RtB f d) (Bg.zv e c+Bg.zv f d):=by
      rw [hn3,hl2,hn2];rw [Bg.oS_y hRR];exact Bg.addS hRR.1 hRR.2 hss
    have e2:(0:Int)=if (Bg.RtB e c∧Bg.RtB f d) then (0:Int) else 1:=(if_pos hRR).symm
    exact V.rT [2,0] [(G5 12).ss 0] [] [] [5] [] (cong2 (fun (xz0 xz2:Int)=>(.tuple #[.agg #[iv xz0,((G5 12).ss 0).v],iv xz2]:Value)) e0 e2)
  have hss:¬ 0≤e * f:=by omega
  refine nm (Bg.cmpI (Bg.nv c) (Bg.nv d):Int) fun n4 hn4=>?_;refine V.gf [.u 1,.l 0,.u 1,.l 1,.cP 4 123 [kA 0 c i,kA 1 d j] fun G=>cmpd_ctv c i d j hRR.1.dg hRR.2.dg hRR.1.nz hRR.2.nz n4 hn4,.u 2] fun _ _ G6=>?_;intro S_ s_
  refine V.cn (b:=decide (n4 < 0)) iDT iDF (fun q5=>?_) (fun q6=>?_)
  · have hlt:Bg.nv c < Bg.nv d:=by have hqq:=q5;subst_vars;have:=Bg.cmp_lt.1 hqq;omega
    refine nm (Bg.dig (Bg.nv d-Bg.nv c):List Int) fun l4 hl4=>?_;refine nm (Bg.sg0 (Bg.nv l4) f:Int) fun n5 hn5=>?_;refine nm (Bg.dig (Bg.nv l4):List Int) fun l5 hl5=>?_;refine V.gf [.u 1,.l 1,.u 1,.l 1,.u 1,.l 0,.cA 6 119 [kA 1 d j,kA 0 c i] fun G=>sub_ctv d j c i hRR.2.dg hRR.1.dg (by omega) (by omega) hRR.1.nz (by omega) l4 hl4,.ctT g0 7 85 [(kf true (.g 6 0) l4 (fun G=>(G 6).ss 0)).a] (fun _ G=>signed_ctv f l4 ((G 6).ss 0) (by subst_vars;exact Bg.dig_Dg _) n5 hn5 l5 hl5),.ctT g0 8 83 [(kf true (.g 7 0) l5 (fun G=>(G 7).ss 0)).a] (fun _ G=>checkedT_ct n5 l5 ((G 7).ss 0)),.u 2,.s 2,.u 1] fun _ _ G7=>?_;intro S_ s_
    have e1:l5=Bg.oD (Bg.RtB e c∧Bg.RtB f d) (Bg.zv e c+Bg.zv f d):=by
      rw [hl5,hl4];rw [Bg.oD_y hRR];exact Bg.lessD hRR.1 hRR.2 hss hlt
    subst e1;have e0:n5=Bg.oS (Bg.RtB e c∧Bg.RtB f d) (Bg.zv e c+Bg.zv f d):=by
      rw [hn5,hl4];rw [Bg.oS_y hRR];exact Bg.lessS hRR.1 hRR.2 hss hlt
    have e2:(0:Int)=if (Bg.RtB e c∧Bg.RtB f d) then (0:Int) else 1:=(if_pos hRR).symm
    exact V.rT [2,0] [(G7 8).ss 0] [] [] [4] [] (cong2 (fun (xz0 xz2:Int)=>(.tuple #[.agg #[iv xz0,((G7 8).ss 0).v],iv xz2]:Value)) e0 e2)
  have hge:Bg.nv d≤Bg.nv c:=by have hqq:=q6;subst_vars;exact Nat.not_lt.1 fun h=>hqq (Bg.cmp_lt.2 (by omega))
  refine nm (Bg.dig (Bg.nv c-Bg.nv d):List Int) fun l6 hl6=>?_;refine nm (Bg.sg0 (Bg.nv l6) e:Int) fun n6 hn6=>?_;refine nm (Bg.dig (Bg.nv l6):List Int) fun l7 hl7=>?_;refine V.gf [.u 1,.l 0,.u 1,.l 0,.u 1,.l 1,.cA 6 119 [kA 0 c i,kA 1 d j] fun G=>sub_ctv c i d j hRR.1.dg hRR.2.dg (by omega) (by omega) hRR.2.nz (by omega) l6 hl6,.ctT g0 7 85 [(kf true (.g 6 0) l6 (fun G=>(G 6).ss 0)).a] (fun _ G=>signed_ctv e l6 ((G 6).ss 0) (by subst_vars;exact Bg.dig_Dg _) n6 hn6 l7 hl7),.ctT g0 8 83 [(kf true (.g 7 0) l7 (fun G=>(G 7).ss 0)).a] (fun _ G=>checkedT_ct n6 l7 ((G 7).ss 0)),.u 2,.s 2,.u 1] fun _ _ G8=>?_;intro S_ s_
  have e1:l7=Bg.oD (Bg.RtB e c∧Bg.RtB f d) (Bg.zv e c+Bg.zv f d):=by
    rw [hl7,hl6];rw [Bg.oD_y hRR];exact Bg.moreD hRR.1 hRR.2 hss hge
  subst e1;have e0:n6=Bg.oS (Bg.RtB e c∧Bg.RtB f d) (Bg.zv e c+Bg.zv f d):=by
    rw [hn6,hl6];rw [Bg.oS_y hRR];exact Bg.moreS hRR.1 hRR.2 hss hge
  have e2:(0:Int)=if (Bg.RtB e c∧Bg.RtB f d) then (0:Int) else 1:=(if_pos hRR).symm
  exact V.rT [2,0] [(G8 8).ss 0] [] [] [4] [] (cong2 (fun (xz0 xz2:Int)=>(.tuple #[.agg #[iv xz0,((G8 8).ss 0).v],iv xz2]:Value)) e0 e2)
theorem Add_ctv (c:Int) (a:List Int) (e:SV) (d:Int) (b:List Int) (f:SV) (hla:a.length≤274877906944) (hlb:b.length≤274877906944) (rv0:Int) (erv0:rv0=Bg.oS (Bg.RtB c a∧Bg.RtB d b) (Bg.zv c a+Bg.zv d b)) (rv1:List Int) (erv1:rv1=Bg.oD (Bg.RtB c a∧Bg.RtB d b) (Bg.zv c a+Bg.zv d b)) (rv2:Int) (erv2:rv2=if (Bg.RtB c a∧Bg.RtB d b) then (0:Int) else 1) :
    Ct Tryz.prog 107 #[ag (DBig.mk c ⟨a,e⟩),ag (DBig.mk d ⟨b,f⟩)] [fs true a e,fs true b f] [] (fun g=>.tuple #[ag (DBig.mk rv0 ⟨rv1,(g.ss 0)⟩),iv rv2]) (fun g=>[fs true rv1 (g.ss 0)]) (fun g=>[]) (fun g=>[]):=by
  subst erv0 erv1 erv2;exact Add_ct c a e d b f hla hlb
set_option maxRecDepth 10000 in
theorem Mul_ct (e:Int) (c:List Int) (i:SV) (f:Int) (d:List Int) (j:SV) (hla:c.length≤274877906944) (hlb:d.length≤274877906944) :
    Ct Tryz.prog 117 #[ag (DBig.mk e ⟨c,i⟩),ag (DBig.mk f ⟨d,j⟩)] [fs true c i,fs true d j] [] (fun g=>.tuple #[ag (DBig.mk (Bg.oS (Bg.RtB e c∧Bg.RtB f d) (Bg.zv e c * Bg.zv f d)) ⟨Bg.oD (Bg.RtB e c∧Bg.RtB f d) (Bg.zv e c * Bg.zv f d),(g.ss 0)⟩),iv (if (Bg.RtB e c∧Bg.RtB f d) then (0:Int) else 1)]) (fun g=>[fs true (Bg.oD (Bg.RtB e c∧Bg.RtB f d) (Bg.zv e c * Bg.zv f d)) (g.ss 0)]) (fun g=>[]) (fun g=>[]):=by
  refine V.fo mo Tryz.func117 32 3 fun w H ε k0=>?_;clear k0
  refine V.gf [.n 0,.n 1,.n 2,.u 1] fun _ _ G1=>?_;intro S_ s_
  refine nm ((!(decide (Bg.RtB e c))) || (!(decide (Bg.RtB f d))):Bool) fun p1 hp1=>?_;refine V.gf [.l 0,.cP 1 45 [kA 0 c i] fun G=>bright_ct e c i,.u 2,.l 1,.cp (gF (b:=!(decide (Bg.RtB e c))) (iNF iDT)) 5 45 [kA 1 d j] (fun hg G=>bright_ct f d j),.u 1,.orn g0 false (!(decide (Bg.RtB e c))) (!(decide (Bg.RtB f d))) p1 hp1] fun _ _ G2=>?_;intro S_ s_
  refine V.cn (b:=p1) (iN hp1 (iOT (iNT iDF) (iNT iDF))) (iN hp1 (iOF (iNF iDT) (iNF iDT))) (fun q1=>?_) (fun q2=>?_)
  · have hNR:¬ (Bg.RtB e c∧Bg.RtB f d):=by rintro ⟨h1,h2⟩;rcases q1 with h | h;exact h h1;exact h h2
    refine nm (([]:List Int):List Int) fun l1 hl1=>?_;refine V.gf [.u 1,.ctT g0 1 83 [(knil (α:=Int)).a] (fun _ G=>checkedF_ctv (0:Int) ([]:List Int) ({}) l1 hl1),.u 2,.s 2,.u 1] fun _ _ G3=>?_;intro S_ s_
    have e1:l1=Bg.oD (Bg.RtB e c∧Bg.RtB f d) (Bg.zv e c * Bg.zv f d):=by
      rw [hl1];exact (Bg.oD_n hNR _).symm
    subst e1;have e0:(0:Int)=Bg.oS (Bg.RtB e c∧Bg.RtB f d) (Bg.zv e c * Bg.zv f d):=(Bg.oS_n hNR _).symm;have e2:(1:Int)=if (Bg.RtB e c∧Bg.RtB f d) then (0:Int) else 1:=(if_neg hNR).symm
    exact V.rT [2,0] [(G3 1).ss 0] [] [] [2] [] (cong2 (fun (xz0 xz2:Int)=>(.tuple #[.agg #[iv xz0,((G3 1).ss 0).v],iv xz2]:Value)) e0 e2)
  have hRR:(Bg.RtB e c∧Bg.RtB f d):=by first | exact q2 | exact ⟨Decidable.not_not.1 (q2).1,Decidable.not_not.1 (q2).2⟩
  have hsm:=Bg.sml hRR.1 hRR.2;refine nm (e * f:Int) fun n1 hn1=>?_;refine nm (Bg.dig (Bg.nv c * Bg.nv d):List Int) fun l2 hl2=>?_;refine nm (Bg.sg0 (Bg.nv l2) n1:Int) fun n2 hn2=>?_;refine nm (Bg.dig (Bg.nv l2):List Int) fun l3 hl3=>?_;refine V.gf [.u 1,.l 0,.u 1,.l 1,.ar (e * f) n1 hn1 (by rw [hn1];exact hsm.1) (by rw [hn1];exact hsm.2),.u 1,.l 0,.u 1,.l 1,.cA 9 126 [kA 0 c i,kA 1 d j] fun G=>mul_ctv c i d j hRR.1.dg hRR.2.dg (by omega) (by omega) l2 hl2,.ctT g0 10 85 [(kf true (.g 9 0) l2 (fun G=>(G 9).ss 0)).a] (fun _ G=>signed_ctv n1 l2 ((G 9).ss 0) (by subst_vars;exact Bg.dig_Dg _) n2 hn2 l3 hl3),.ctT g0 11 83 [(kf true (.g 10 0) l3 (fun G=>(G 10).ss 0)).a] (fun _ G=>checkedT_ct n2 l3 ((G 10).ss 0)),.u 2,.s 2,.u 1] fun _ _ G4=>?_;intro S_ s_
  have e1:l3=Bg.oD (Bg.RtB e c∧Bg.RtB f d) (Bg.zv e c * Bg.zv f d):=by
    rw [hl3,hl2];rw [Bg.oD_y hRR];exact Bg.mulD hRR.1 hRR.2
  subst e1;have e0:n2=Bg.oS (Bg.RtB e c∧Bg.RtB f d) (Bg.zv e c * Bg.zv f d):=by
    rw [hn2,hl2,hn1];rw [Bg.oS_y hRR];exact Bg.mulS hRR.1 hRR.2
  have e2:(0:Int)=if (Bg.RtB e c∧Bg.RtB f d) then (0:Int) else 1:=(if_pos hRR).symm
  exact V.rT [2,0] [(G4 11).ss 0] [] [] [4] [] (cong2 (fun (xz0 xz2:Int)=>(.tuple #[.agg #[iv xz0,((G4 11).ss 0).v],iv xz2]:Value)) e0 e2)
theorem Mul_ctv (c:Int) (a:List Int) (e:SV) (d:Int) (b:List Int) (f:SV) (hla:a.length≤274877906944) (hlb:b.length≤274877906944) (rv0:Int) (erv0:rv0=Bg.oS (Bg.RtB c a∧Bg.RtB d b) (Bg.zv c a * Bg.zv d b)) (rv1:List Int) (erv1:rv1=Bg.oD (Bg.RtB c a∧Bg.RtB d b) (Bg.zv c a * Bg.zv d b)) (rv2:Int) (erv2:rv2=if (Bg.RtB c a∧Bg.RtB d b) then (0:Int) else 1) :
    Ct Tryz.prog 117 #[ag (DBig.mk c ⟨a,e⟩),ag (DBig.mk d ⟨b,f⟩)] [fs true a e,fs true b f] [] (fun g=>.tuple #[ag (DBig.mk rv0 ⟨rv1,(g.ss 0)⟩),iv rv2]) (fun g=>[fs true rv1 (g.ss 0)]) (fun g=>[]) (fun g=>[]):=by
  subst erv0 erv1 erv2;exact Mul_ct c a e d b f hla hlb

open Go Go.Proofs
set_option maxRecDepth 10000 in
theorem settle_ct (ul:List Int) (us:SV) (ulo uhi:Nat) (ua u ub v:List Int) (vs:SV) (guess:Int) (hul:ul=ua ++u ++ub) (hulo:ulo=ua.length) (huhi:uhi=ua.length+u.length) (hdu:Bg.Dg u) (hdv:Bg.Dg v) (hlv:v.length≤u.length) (hg:0≤guess∧guess < 1048576) (h1:(guess.toNat-1) * Bg.nv v≤Bg.nv u) (hlu:u.length≤4398046511104) :
    Ct Tryz.prog 127 #[(us.sub 1 ulo uhi).v,vs.v,iv guess] [fs true v vs] [os false 3 ul us] (fun g=>iv (Bg.setG u v guess)) (fun g=>[]) (fun g=>[os true 3 (ua ++(Bg.setP u v guess) ++ub) us]) (fun g=>[]):=by
  subst hul hulo huhi;refine V.fo mo Tryz.func127 78 0 fun w H ε k0=>?_;clear k0
  refine V.tro 3 (ua ++u ++ub) us 0 (by kernel_rfl) (fun _ _=>trivial) ?_;refine V.gf [.u 1] fun _ _ G1=>?_;intro S s
  refine V.gf [.u 1] fun _ _ G2=>?_;intro S s
  refine V.gf [.u 1,.ln (kop true 3 0 ua u ub u.length (by omega) (fun _=>us)),.u 1] fun _ _ G3=>?_;intro S s
  refine V.lp (γ:=List Int × Int × Int) (fun ⟨cur,borrow,k0⟩=>⟨[(0,(us.sub 1 ua.length (ua.length+u.length)).v),(1,vs.v),(2,iv guess),(7,iv borrow),(13,iv (u.length:Int)),(14,iv k0)],[fs false v vs],[os true 3 (ua ++cur ++ub) us]⟩) (fun ⟨cur,borrow,k0⟩=>(0≤k0)∧(k0≤(u.length:Int))∧(Bg.SetI u v cur guess k0.toNat borrow)) (fun ⟨cur,borrow,k0⟩=>((u.length:Int)-k0).toNat) (u,0,0) [0] ?_ ?_
  · refine ⟨?_,?_,?_⟩
    · show 0≤(0:Int)
      first | omega | rfl | (simp;done) | (subst_vars;simp;done)
    · show (0:Int)≤(u.length:Int)
      first | omega | rfl | (simp;done) | (subst_vars;simp;done)
    show Bg.SetI u v u guess (0:Int).toNat (0:Int);exact Bg.set_start _ _ _ hdu
  rintro ⟨cur,borrow,k0⟩ hF1 kw4 Z1 hZ1;have hF1:(0≤k0)∧(k0≤(u.length:Int))∧(Bg.SetI u v cur guess k0.toNat borrow):=hF1;obtain ⟨hf1,hf2,hf3⟩:=hF1;clear kw4;have hol:=hf3.len;have hc0:=hf3.c0;have hda_:=hf3.dg.get' k0.toNat;refine V.gf [.u 1] fun _ _ G4=>?_;intro S s;refine V.cn (b:=decide (k0 < (u.length:Int))) iDT iDF (fun q1=>?_) (fun q2=>?_)
  · refine V.gf [.u 2] fun _ _ G5=>?_;intro S s
    refine nm (cur.getD k0.toNat default:Int) fun v1 hv1=>?_;have e1:cur.getD k0.toNat 0=v1:=hv1.symm
    refine V.gf [.u 2,.iX (kop true 3 0 ua cur ub u.length (by omega) (fun _=>us)) k0,.lE (kop true 3 0 ua cur ub u.length (by omega) (fun _=>us)) k0 false v1 hv1 false,.u 1,.aa (v1-borrow),.u 1] fun _ _ G6=>?_;intro S s
    refine V.gf [.u 2,.ln (kF 0 v vs),.u 1] fun _ _ G7=>?_;intro S s
    refine V.cn (b:=decide (k0 < (v.length:Int))) iDT iDF (fun q3=>?_) (fun q4=>?_)
    · refine nm (v.getD k0.toNat default:Int) fun v2 hv2=>?_;refine nm (guess * v2:Int) fun n1 hn1=>?_;refine nm (v1-borrow-n1:Int) fun n2 hn2=>?_;have e2:v.getD k0.toNat 0=v2:=hv2.symm
      have hdv_:=hdv.get' k0.toNat;rw [e2] at hdv_;have bp:=Bg.dmul hg hdv_;refine V.gf [.u 4,.iX (kF 0 v vs) k0,.lE (kF 0 v vs) k0 false v2 hv2 false,.aR (guess * v2) n1 hn1,.aR (v1-borrow-n1) n2 hn2,.u 1] fun _ _ G8=>?_;intro S s
      have hxx:n2=cur.getD k0.toNat 0-borrow-guess * v.getD k0.toNat 0:=by rw [e1,e2];omega
      have stp:=Bg.set_step hf3 hdv hg (by omega) hxx;have stp1:=stp.1;have stp2:=stp.2;clear stp;refine nm (n2 % 1048576:Int) fun n3 hn3=>?_;refine nm (cur.set k0.toNat n3:List Int) fun l1 hl1=>?_;refine V.gf [.u 3,.andm g0 n2 1048575 n3 20 (by decide) rfl (by rw [hn3];rfl),.iX (kop true 3 0 ua cur ub u.length (by omega) (fun _=>us)) k0,.sep g0 5 0 3 true ua cur ub u.length (by omega) (fun _=>us) k0 n3 l1 hl1 (fun _=>⟨by omega,by omega⟩) (fun _=>trivial)] fun _ _ G9=>?_;intro S s
      refine nm (n2 / 1048576:Int) fun n4 hn4=>?_;refine V.gf [.u 1,.shrm g0 .i64 .u64 n2 n4 20 (by decide) (by rw [hn4];rfl),.ng n4 (-n4) rfl (by omega) (by omega),.u 1] fun _ _ G10=>?_;intro S s
      refine V.gf [.aa (k0+1),.u 1] fun _ _ G11=>?_;intro S s
      refine V.rn hZ1 (l1, -n4,k0+1) [0] ?_ ?_
      · refine ⟨?_,?_,?_⟩
        · show 0≤(k0+1)
          first | omega | rfl | (simp;done) | (subst_vars;simp;done)
        · show (k0+1)≤(u.length:Int)
          first | omega | rfl | (simp;done) | (subst_vars;simp;done)
        show Bg.SetI u v l1 guess (k0+1).toNat (-n4);rw [hl1,hn3,show (k0+1).toNat=k0.toNat+1 by omega];rw [hn4];exact stp2
      show ((u.length:Int)-(k0+1)).toNat < ((u.length:Int)-k0).toNat;omega
    have e2:=Bg.getD_out (l:=v) (i:=k0.toNat) (by omega);have hxx:v1-borrow=cur.getD k0.toNat 0-borrow-guess * v.getD k0.toNat 0:=by rw [e1,e2];omega
    have stp:=Bg.set_step hf3 hdv hg (by omega) hxx;have stp1:=stp.1;have stp2:=stp.2;clear stp;refine nm ((v1-borrow) % 1048576:Int) fun n5 hn5=>?_;refine nm (cur.set k0.toNat n5:List Int) fun l2 hl2=>?_;refine V.gf [.u 3,.andm g0 (v1-borrow) 1048575 n5 20 (by decide) rfl (by rw [hn5];rfl),.iX (kop true 3 0 ua cur ub u.length (by omega) (fun _=>us)) k0,.sep g0 5 0 3 true ua cur ub u.length (by omega) (fun _=>us) k0 n5 l2 hl2 (fun _=>⟨by omega,by omega⟩) (fun _=>trivial)] fun _ _ G12=>?_;intro S s
    refine nm ((v1-borrow) / 1048576:Int) fun n6 hn6=>?_;refine V.gf [.u 1,.shrm g0 .i64 .u64 (v1-borrow) n6 20 (by decide) (by rw [hn6];rfl),.ng n6 (-n6) rfl (by omega) (by omega),.u 1] fun _ _ G13=>?_;intro S s
    refine V.gf [.aa (k0+1),.u 1] fun _ _ G14=>?_;intro S s
    refine V.rn hZ1 (l2, -n6,k0+1) [0] ?_ ?_
    · refine ⟨?_,?_,?_⟩
      · show 0≤(k0+1)
        first | omega | rfl | (simp;done) | (subst_vars;simp;done)
      · show (k0+1)≤(u.length:Int)
        first | omega | rfl | (simp;done) | (subst_vars;simp;done)
      show Bg.SetI u v l2 guess (k0+1).toNat (-n6);rw [hl2,hn5,show (k0+1).toNat=k0.toNat+1 by omega];rw [hn6];exact stp2
    show ((u.length:Int)-(k0+1)).toNat < ((u.length:Int)-k0).toNat;omega
  have hmd:=hf3;rw [show k0.toNat=u.length by omega] at hmd;have hm2:=Bg.set_mid hmd hlv hg.1;refine V.gf [.u 2] fun _ _ G15=>?_;intro S s
  refine V.cn (b:=decide (borrow=0)) iDT iDF (fun q5=>?_) (fun q6=>?_)
  · refine V.gf [.u 2] fun _ _ G16=>?_;intro S s
    have e0:guess=Bg.setG u v guess:=by
      have h0:=hm2.1.1 q5;unfold Bg.setG;rw [if_pos h0]
    have eL0:cur=Bg.setP u v guess:=hm2.2 q5;refine V.alt (fun (zz1:List Int)=>(⟨[(6,iv guess)],[fs false v vs],[os true 3 (ua ++zz1 ++ub) us]⟩:St)) eL0 [0] (by kernel_rfl) ?_;exact V.rT [0] [] [] [] [] [0] (cong1 (fun (xz0:Int)=>(iv xz0:Value)) e0)
  refine V.gf [.u 1] fun _ _ G17=>?_;intro S s
  refine V.gf [.u 1,.ln (kop true 3 0 ua cur ub u.length (by omega) (fun _=>us)),.u 1] fun _ _ G18=>?_;intro S s
  refine V.lp (γ:=List Int × Int × Int) (fun ⟨cur2,carry,k1⟩=>⟨[(0,(us.sub 1 ua.length (ua.length+u.length)).v),(1,vs.v),(2,iv guess),(10,iv carry),(48,iv (cur.length:Int)),(49,iv k1)],[fs false v vs],[os true 3 (ua ++cur2 ++ub) us]⟩) (fun ⟨cur2,carry,k1⟩=>(0≤k1)∧(k1≤(cur.length:Int))∧(Bg.BakI cur v cur2 k1.toNat carry)) (fun ⟨cur2,carry,k1⟩=>((cur.length:Int)-k1).toNat) (cur,0,0) [0] ?_ ?_
  · refine ⟨?_,?_,?_⟩
    · show 0≤(0:Int)
      first | omega | rfl | (simp;done) | (subst_vars;simp;done)
    · show (0:Int)≤(cur.length:Int)
      first | omega | rfl | (simp;done) | (subst_vars;simp;done)
    show Bg.BakI cur v cur (0:Int).toNat (0:Int);exact Bg.bak_start _ _ hmd.dg
  rintro ⟨cur2,carry,k1⟩ hF2 kw20 Z2 hZ2;have hF2:(0≤k1)∧(k1≤(cur.length:Int))∧(Bg.BakI cur v cur2 k1.toNat carry):=hF2;obtain ⟨hf4,hf5,hf6⟩:=hF2;clear kw20;have hol:=hf6.len;have hc0:=hf6.c0;have hda_:=hf6.dg.get' k1.toNat;have hdb_:=hdv.get' k1.toNat;refine V.gf [.u 1] fun _ _ G19=>?_;intro S s;refine V.cn (b:=decide (k1 < (cur.length:Int))) iDT iDF (fun q7=>?_) (fun q8=>?_)
  · refine V.gf [.u 2] fun _ _ G20=>?_;intro S s
    refine nm (cur2.getD k1.toNat default:Int) fun v3 hv3=>?_;have e1:cur2.getD k1.toNat 0=v3:=hv3.symm
    refine V.gf [.u 3,.iX (kop true 3 0 ua cur2 ub u.length (by omega) (fun _=>us)) k1,.lE (kop true 3 0 ua cur2 ub u.length (by omega) (fun _=>us)) k1 false v3 hv3 false,.aa (carry+v3),.u 1] fun _ _ G21=>?_;intro S s
    refine V.gf [.u 2,.ln (kF 0 v vs),.u 1] fun _ _ G22=>?_;intro S s
    refine V.cn (b:=decide (k1 < (v.length:Int))) iDT iDF (fun q9=>?_) (fun q10=>?_)
    · refine nm (v.getD k1.toNat default:Int) fun v4 hv4=>?_;refine nm (carry+v3+v4:Int) fun n7 hn7=>?_;have e2:v.getD k1.toNat 0=v4:=hv4.symm
      refine V.gf [.u 3,.iX (kF 0 v vs) k1,.lE (kF 0 v vs) k1 false v4 hv4 false,.aR (carry+v3+v4) n7 hn7,.u 1] fun _ _ G23=>?_;intro S s
      have hxx:n7=carry+cur2.getD k1.toNat 0+v.getD k1.toNat 0:=by rw [e1,e2];omega
      refine nm (n7 % 1048576:Int) fun n8 hn8=>?_;refine nm (cur2.set k1.toNat n8:List Int) fun l3 hl3=>?_;refine V.gf [.u 3,.andm g0 n7 1048575 n8 20 (by decide) rfl (by rw [hn8];rfl),.iX (kop true 3 0 ua cur2 ub u.length (by omega) (fun _=>us)) k1,.sep g0 5 0 3 true ua cur2 ub u.length (by omega) (fun _=>us) k1 n8 l3 hl3 (fun _=>⟨by omega,by omega⟩) (fun _=>trivial)] fun _ _ G24=>?_;intro S s
      refine nm (n7 / 1048576:Int) fun n9 hn9=>?_;refine V.gf [.u 1,.shrm g0 .i64 .u64 n7 n9 20 (by decide) (by rw [hn9];rfl),.u 1] fun _ _ G25=>?_;intro S s
      refine V.gf [.aa (k1+1),.u 1] fun _ _ G26=>?_;intro S s
      refine V.rn hZ2 (l3,n9,k1+1) [0] ?_ ?_
      · refine ⟨?_,?_,?_⟩
        · show 0≤(k1+1)
          first | omega | rfl | (simp;done) | (subst_vars;simp;done)
        · show (k1+1)≤(cur.length:Int)
          first | omega | rfl | (simp;done) | (subst_vars;simp;done)
        show Bg.BakI cur v l3 (k1+1).toNat n9;rw [hl3,hn8,hn9,show (k1+1).toNat=k1.toNat+1 by omega];exact Bg.bak_step hf6 hdv (by omega) hxx
      show ((cur.length:Int)-(k1+1)).toNat < ((cur.length:Int)-k1).toNat;omega
    have e2:=Bg.getD_out (l:=v) (i:=k1.toNat) (by omega);have hxx:carry+v3=carry+cur2.getD k1.toNat 0+v.getD k1.toNat 0:=by rw [e1,e2];omega
    refine nm ((carry+v3) % 1048576:Int) fun n10 hn10=>?_;refine nm (cur2.set k1.toNat n10:List Int) fun l4 hl4=>?_;refine V.gf [.u 3,.andm g0 (carry+v3) 1048575 n10 20 (by decide) rfl (by rw [hn10];rfl),.iX (kop true 3 0 ua cur2 ub u.length (by omega) (fun _=>us)) k1,.sep g0 5 0 3 true ua cur2 ub u.length (by omega) (fun _=>us) k1 n10 l4 hl4 (fun _=>⟨by omega,by omega⟩) (fun _=>trivial)] fun _ _ G27=>?_;intro S s
    refine nm ((carry+v3) / 1048576:Int) fun n11 hn11=>?_;refine V.gf [.u 1,.shrm g0 .i64 .u64 (carry+v3) n11 20 (by decide) (by rw [hn11];rfl),.u 1] fun _ _ G28=>?_;intro S s
    refine V.gf [.aa (k1+1),.u 1] fun _ _ G29=>?_;intro S s
    refine V.rn hZ2 (l4,n11,k1+1) [0] ?_ ?_
    · refine ⟨?_,?_,?_⟩
      · show 0≤(k1+1)
        first | omega | rfl | (simp;done) | (subst_vars;simp;done)
      · show (k1+1)≤(cur.length:Int)
        first | omega | rfl | (simp;done) | (subst_vars;simp;done)
      show Bg.BakI cur v l4 (k1+1).toNat n11;rw [hl4,hn10,hn11,show (k1+1).toNat=k1.toNat+1 by omega];exact Bg.bak_step hf6 hdv (by omega) hxx
    show ((cur.length:Int)-(k1+1)).toNat < ((cur.length:Int)-k1).toNat;omega
  have hbk:=hf6;rw [show k1.toNat=u.length by omega] at hbk;obtain ⟨hE1,hE2⟩:=Bg.set_end hmd hbk hdu hlv hg.1 q6 h1;refine V.gf [.u 1,.aa (guess-1),.u 1] fun _ _ G30=>?_;intro S s
  have e0:(guess-1)=Bg.setG u v guess:=by first | exact hE1 | (rw [←hE1])
  have eL0:cur2=Bg.setP u v guess:=hE2;refine V.alt (fun (zz2:List Int)=>(⟨[(6,iv (guess-1))],[fs false v vs],[os true 3 (ua ++zz2 ++ub) us]⟩:St)) eL0 [0] (by kernel_rfl) ?_;exact V.rT [0] [] [] [] [] [0] (cong1 (fun (xz0:Int)=>(iv xz0:Value)) e0)

open Go Go.Proofs
set_option maxRecDepth 10000 in
set_option maxHeartbeats 4000000 in
theorem div_ct (a:List Int) (as_:SV) (b:List Int) (bs:SV) (hda:Bg.Dg a) (hdb:Bg.Dg b) (hza:Bg.Nz a) (hzb:Bg.Nz b) (hnb:b≠[]) (hla:a.length≤549755813888) (hlb:b.length≤549755813888) :
    Ct Tryz.prog 84 #[as_.v,bs.v] [fs true a as_,fs true b bs] [] (fun g=>.tuple #[((g.ss 0)).v,((g.ss 1)).v]) (fun g=>[fs true (Bg.dig (Bg.nv a / Bg.nv b)) (g.ss 0),fs true (Bg.dig (Bg.nv a % Bg.nv b)) (g.ss 1)]) (fun g=>[]) (fun g=>[]):=by
  refine V.fo mo Tryz.func84 170 2 fun w H ε k0=>?_;clear k0
  refine V.gf [.u 2] fun _ _ G1=>?_;intro S_ s_
  refine V.gf [.u 2,.cP 2 123 [kA 0 a as_,kA 1 b bs] fun G=>cmpd_ct a as_ b bs (by assumption) (by assumption) (by assumption) (by assumption),.u 1] fun _ _ G2=>?_;intro S_ s_
  refine V.cn (b:=decide (Bg.cmpI (Bg.nv a) (Bg.nv b) < 0)) iDT iDF (fun q1=>?_) (fun q2=>?_)
  · have hlt:=Bg.cmp_lt.1 q1;have hlt:Bg.nv a < Bg.nv b:=by omega
    refine V.gf [.u 1,.cA 1 48 [kA 0 a as_] fun G=>clonef_ct a as_ (by omega),.u 2] fun _ _ G3=>?_;intro S_ s_
    refine V.nilF (α:=Int) ?_;have e0:([]:List Int)=Bg.dig (Bg.nv a / Bg.nv b):=by rw [(Bg.div_less hlt).1]
    rw [←e0];have e1:a=Bg.dig (Bg.nv a % Bg.nv b):=Bg.dig_self hda hza (Bg.div_less hlt).2;rw [←e1];exact V.rS [0,0] [{},(G3 1).ss 0] [] [] [3,2] []
  have hge:Bg.nv b≤Bg.nv a:=Nat.not_lt.1 fun h=>q2 (Bg.cmp_lt.2 (by omega))
  refine V.gf [.u 1,.ln (kF 1 b bs),.u 1] fun _ _ G4=>?_;intro S_ s_
  refine V.cn (b:=decide ((b.length:Int)=1)) iDT iDF (fun q3=>?_) (fun q4=>?_)
  · have hnb0:=Bg.nv_len1 (l:=b) (by omega);have hbt0:=Bg.top_pos hnb hdb hzb;rw [show b.length-1=0 by omega] at hbt0;have hbd0:=hdb.get' 0;refine nm (b.getD (0:Int).toNat default:Int) fun v1 hv1=>?_;have ev:b.getD 0 0=v1:=hv1.symm
    rw [ev] at hbt0 hbd0 hnb0;refine V.gf [.u 2,.iX (kF 1 b bs) 0,.lE (kF 1 b bs) (0:Int) false v1 hv1 false,.cA 4 124 [kA 0 a as_] fun G=>short_ct a as_ v1 hda (by omega) (by omega),.u 5] fun _ _ G5=>?_;intro S_ s_
    have hrr:=Bg.nv_r (a:=Bg.nv a) (d:=v1.toNat) (by omega) (by omega);have hnb1:v1.toNat=Bg.nv b:=hnb0.symm;refine V.gf [.u 2,.nr 2 true 3 [((Bg.nv a % v1.toNat:Nat):Int)] [] (fun _ _ _ _ _=>trivial) (fun _=>#[iv ((Bg.nv a % v1.toNat:Nat):Int)]),.ctT g0 3 125 [(kf true (.g 2 0) [((Bg.nv a % v1.toNat:Nat):Int)] (fun G=>⟨atB (G 2).b,1,1⟩)).a] (fun _ G=>trim_ct [((Bg.nv a % v1.toNat:Nat):Int)] ⟨atB (G 2).b,1,1⟩ hrr.1),.u 2] fun _ _ G6=>?_;intro S_ s_
    have e0:Bg.dig (Bg.nv a / v1.toNat)=Bg.dig (Bg.nv a / Bg.nv b):=by rw [hnb1]
    rw [←e0];have e1:Bg.dig (Bg.nv [((Bg.nv a % v1.toNat:Nat):Int)])=Bg.dig (Bg.nv a % Bg.nv b):=by rw [hrr.2,hnb1]
    rw [←e1];exact V.rS [0,0] [(G5 4).ss 0,(G6 3).ss 0] [] [] [2,4] []
  have hbt:=Bg.top_pos hnb hdb hzb;have hbl2:2≤b.length:=by have:b.length≠0:=fun e=>hnb (List.eq_nil_of_length_eq_zero e);omega
  have hbd:=hdb.get' (b.length-1);refine V.gf [.u 1] fun _ _ G7=>?_;intro S_ s_
  refine V.lp (γ:=Int) (fun shift=>⟨[(0,as_.v),(1,bs.v),(8,iv shift)],[fs false a as_,fs false b bs],[.no,.no]⟩) (fun shift=>(1≤shift)∧(b.getD (b.length-1) 0 * shift < 1048576)) (fun shift=>(1048576-shift).toNat) 1 [0,1] ?_ ?_
  · refine ⟨?_,?_⟩
    · show 1≤(1:Int);omega
    show b.getD (b.length-1) 0 * (1:Int) < 1048576;omega
  rintro shift hF1 kw8 Z1 hZ1;have hF1:(1≤shift)∧(b.getD (b.length-1) 0 * shift < 1048576):=hF1;obtain ⟨hf1,hf2⟩:=hF1;clear kw8;refine nm ((b.length:Int)-1:Int) fun n1 hn1=>?_;refine nm (b.getD n1.toNat default:Int) fun v2 hv2=>?_;refine nm (v2 * shift:Int) fun n2 hn2=>?_;have eb:b.getD (b.length-1) 0=v2:=by rw [show b.length-1=n1.toNat by omega];exact hv2.symm
  have hbs:=hf2;rw [eb] at hbs;have hsl1:=Bg.sh_lt (b:=v2) (by omega) hf1 hbs;have hbp:=Bg.dmul (x:=v2) (y:=shift) (by omega) (by omega);refine V.gf [.u 2,.ln (kF 1 b bs),.aR ((b.length:Int)-1) n1 hn1,.iX (kF 1 b bs) n1,.lE (kF 1 b bs) n1 false v2 hv2 false,.u 1,.aR (v2 * shift) n2 hn2,.u 1] fun _ _ G8=>?_;intro S_ s_
  refine V.cn (b:=decide (n2 < 524288)) iDT iDF (fun q5=>?_) (fun q6=>?_)
  · refine nm (shift * 2:Int) fun n3 hn3=>?_;refine V.gf [.u 1,.aR (shift * 2) n3 hn3,.u 1] fun _ _ G9=>?_;intro S_ s_
    refine V.rn hZ1 n3 [0,1] ?_ ?_
    · refine ⟨?_,?_⟩
      · show 1≤n3;omega
      show b.getD (b.length-1) 0 * n3 < 1048576;rw [eb];rw [hn3];exact Bg.sh_step hn2 q5
    show (1048576-n3).toNat < (1048576-shift).toNat;omega
  have hdsh:Bg.Dg [shift]:=Bg.Dg.one (by omega);have enS:=Bg.nv_one shift;have hS0:0 < Bg.nv [shift]:=by omega
  have hAl:a.length≤(Bg.dig (Bg.nv a * Bg.nv [shift])).length:=Bg.dig_len_mono hda hza (Nat.le_mul_of_pos_right _ hS0);have hVl:b.length≤(Bg.dig (Bg.nv b * Bg.nv [shift])).length:=Bg.dig_len_mono hdb hzb (Nat.le_mul_of_pos_right _ hS0);have hAu:=Bg.mul_dig_len a [shift] hda hdsh;have hVu:=Bg.mul_dig_len b [shift] hdb hdsh;simp only [List.length_cons,List.length_nil] at hAu hVu;have hvd:Bg.Dg (Bg.dig (Bg.nv b * Bg.nv [shift])):=Bg.dig_Dg _;have hvz:Bg.Nz (Bg.dig (Bg.nv b * Bg.nv [shift])):=Bg.dig_Nz _;have hvn:(Bg.dig (Bg.nv b * Bg.nv [shift]))≠[]:=fun e=>by have:=congrArg List.length e;simp only [List.length_nil] at this;omega
  have hvt:=Bg.top_pos hvn hvd hvz;have hVA:(Bg.dig (Bg.nv b * Bg.nv [shift])).length≤(Bg.dig (Bg.nv a * Bg.nv [shift])).length:=Bg.len_le (Bg.dig_Dg _) hvd hvz (by rw [Bg.nv_dig,Bg.nv_dig];exact Nat.mul_le_mul_right _ hge);refine nm ((Bg.dig (Bg.nv a * Bg.nv [shift])) ++([0]:List Int):List Int) fun l1 hl1=>?_;have hl1n:=congrArg List.length hl1;try simp only [List.length_append,List.length_cons,List.length_nil,List.length_replicate,List.length_set,List.length_take,List.length_drop,List.length_map,List.length_reverse,List.length_range] at hl1n
  refine V.gf [.u 2,.nr 2 true 3 [shift] [] (fun _ _ _ _ _=>trivial) (fun _=>#[iv shift]),.cB 3 126 false [] [0] [kA 0 a as_,(kf true (.g 2 0) [shift] (fun G=>⟨atB (G 2).b,1,1⟩)).a] fun G=>mulo_ct a as_ [shift] ⟨atB (G 2).b,1,1⟩ hda hdsh (by omega) (by simp),.nr 4 true 3 ([0]:List Int) [] (fun _ _ _ _ _=>trivial) (fun _=>#[iv 0]),.ap 5 0 3 8 false true (Bg.dig (Bg.nv a * Bg.nv [shift])) (fun G=>(G 3).ss 0) (kf true (.g 4 0) ([0]:List Int) (fun G=>⟨atB (G 4).b,1,1⟩)) true l1 hl1 (by (try simp only [List.length_append,List.length_cons,List.length_nil,List.length_replicate,List.length_set,List.length_take,List.length_drop,List.length_map,List.length_reverse,List.length_range]);omega) (fun h=>by cases h) (.inr fun _ _=>trivial),.u 2,.nr 8 true 3 [shift] [] (fun _ _ _ _ _=>trivial) (fun _=>#[iv shift]),.cA 9 126 [kA 1 b bs,(kf true (.g 8 0) [shift] (fun G=>⟨atB (G 8).b,1,1⟩)).a] fun G=>mul_ct b bs [shift] ⟨atB (G 8).b,1,1⟩ hdb hdsh (by omega) (by simp),.u 2] fun _ _ G10=>?_;intro S_ s_
  refine V.gf [.u 1,.ln (kO 3 0 l1 (G10 5).s),.u 1,.ln (kF 0 a as_),.u 1] fun _ _ G11=>?_;intro S_ s_
  refine V.cn (b:=decide ((l1.length:Int)=(a.length:Int))) iDT iDF (fun q7=>?_) (fun q8=>?_)
  · exfalso;omega
  refine V.gf [.u 1,.ln (kG 5 (Bg.dig (Bg.nv b * Bg.nv [shift])) ((G10 9).ss 0)),.u 1] fun _ _ G12=>?_;intro S_ s_
  refine nm ((l1.length:Int)-((Bg.dig (Bg.nv b * Bg.nv [shift])).length:Int):Int) fun n4 hn4=>?_;refine nm (List.replicate n4.toNat (0:Int):List Int) fun l2 hl2=>?_;have hl2n:=congrArg List.length hl2;try simp only [List.length_append,List.length_cons,List.length_nil,List.length_replicate,List.length_set,List.length_take,List.length_drop,List.length_map,List.length_reverse,List.length_range] at hl2n
  refine V.gf [.u 1,.ln (kO 3 0 l1 (G10 5).s),.u 1,.aR ((l1.length:Int)-((Bg.dig (Bg.nv b * Bg.nv [shift])).length:Int)) n4 hn4,.mks 4 1 3 8 n4 l2 hl2 (by omega) (by omega) (by omega),.u 1] fun _ _ G13=>?_;intro S_ s_
  refine nm ((l2.length:Int)-1:Int) fun n5 hn5=>?_;refine V.gf [.u 1,.ln (kO 3 1 l2 (G13 4).s),.aR ((l2.length:Int)-1) n5 hn5,.u 1] fun _ _ G14=>?_;intro S_ s_
  refine V.lp (γ:=List Int × SV × List Int × SV × Int) (fun ⟨u,us,q,qs,i⟩=>⟨[(8,iv shift),(9,us.v),(10,((G10 9).ss 0).v),(11,iv ((Bg.dig (Bg.nv b * Bg.nv [shift])).length:Int)),(12,qs.v),(13,iv i)],[fs true (Bg.dig (Bg.nv b * Bg.nv [shift])) ((G10 9).ss 0)],[os true 3 u us,os true 3 q qs]⟩) (fun ⟨u,us,q,qs,i⟩=>(-1≤i)∧(i < (q.length:Int))∧(Bg.DivI (Bg.dig (Bg.nv a * Bg.nv [shift]) ++[0]) (Bg.dig (Bg.nv b * Bg.nv [shift])) u q (i+1).toNat)∧(q.length+(Bg.dig (Bg.nv b * Bg.nv [shift])).length≤a.length+2)) (fun ⟨u,us,q,qs,i⟩=>(i+1).toNat) (l1,(G10 5).s,l2,(G13 4).s,n5) [5] ?_ ?_
  · refine ⟨?_,?_,?_,?_⟩
    · show -1≤n5;omega
    · show n5 < (l2.length:Int);omega
    · show Bg.DivI (Bg.dig (Bg.nv a * Bg.nv [shift]) ++[0]) (Bg.dig (Bg.nv b * Bg.nv [shift])) l1 l2 (n5+1).toNat;have hds:=Bg.div_start (a:=Bg.dig (Bg.nv a * Bg.nv [shift])) (q:=l2) (Bg.dig_Dg _) hvd hvz hvn hVA (by rw [hl2];congr 1;omega);rw [show (n5+1).toNat=l2.length by omega,hl1];exact hds
    show l2.length+(Bg.dig (Bg.nv b * Bg.nv [shift])).length≤a.length+2
    first | omega | rfl | (simp;done) | (subst_vars;simp;done)
  rintro ⟨u,us,q,qs,i⟩ hF2 kw16 Z2 hZ2;have hF2:(-1≤i)∧(i < (q.length:Int))∧(Bg.DivI (Bg.dig (Bg.nv a * Bg.nv [shift]) ++[0]) (Bg.dig (Bg.nv b * Bg.nv [shift])) u q (i+1).toNat)∧(q.length+(Bg.dig (Bg.nv b * Bg.nv [shift])).length≤a.length+2):=hF2;obtain ⟨hf3,hf4,hf5,hf6⟩:=hF2;have hdl:=hf5.len;have hud:=hf5.dg;refine V.gf [.u 2] fun _ _ G15=>?_;intro S_ s_;refine V.cn (b:=decide (0≤i)) iDT iDF (fun q9=>?_) (fun q10=>?_)
  · refine nm (i+((Bg.dig (Bg.nv b * Bg.nv [shift])).length:Int):Int) fun n6 hn6=>?_;refine nm (u.getD n6.toNat default:Int) fun v3 hv3=>?_;refine nm (v3 * 1048576:Int) fun n7 hn7=>?_;refine nm (u.getD (n6-1).toNat default:Int) fun v4 hv4=>?_;refine nm (n7+v4:Int) fun n8 hn8=>?_;have hdi:=hf5
    rw [show (i+1).toNat=i.toNat+1 by omega] at hdi;have e_v3:u.getD (i.toNat+(Bg.dig (Bg.nv b * Bg.nv [shift])).length) 0=v3:=by rw [show i.toNat+(Bg.dig (Bg.nv b * Bg.nv [shift])).length=n6.toNat by omega];exact hv3.symm
    have b_v3:=hud.get' (i.toNat+(Bg.dig (Bg.nv b * Bg.nv [shift])).length);rw [e_v3] at b_v3;have e_v4:u.getD (i.toNat+(Bg.dig (Bg.nv b * Bg.nv [shift])).length-1) 0=v4:=by rw [show i.toNat+(Bg.dig (Bg.nv b * Bg.nv [shift])).length-1=(n6-1).toNat by omega];exact hv4.symm
    have b_v4:=hud.get' (i.toNat+(Bg.dig (Bg.nv b * Bg.nv [shift])).length-1);rw [e_v4] at b_v4;refine V.gf [.u 3,.aR (i+((Bg.dig (Bg.nv b * Bg.nv [shift])).length:Int)) n6 hn6,.iX (kO 3 0 u us) n6,.lE (kO 3 0 u us) n6 false v3 hv3 false,.shlm g0 .i64 .u64 v3 20 n7 20 (fun _=>⟨rfl,by decide,by show _=IntKind.i64.wrap (v3 * 1048576);rw [IntKind.wrap_i64];omega⟩),.u 3,.aR (i+((Bg.dig (Bg.nv b * Bg.nv [shift])).length:Int)) n6 hn6,.aa (n6-1),.iX (kO 3 0 u us) (n6-1),.lE (kO 3 0 u us) (n6-1) false v4 hv4 false,.orm g0 n7 v3 v4 n8 20 (by rw [hn7];rfl) (fun _=>⟨by decide,by omega,⟨by omega,by show _ < (1048576:Int);omega⟩,by rw [hn8,hn7];rfl,by omega⟩),.u 1] fun _ _ G16=>?_;intro S_ s_
    refine nm (((Bg.dig (Bg.nv b * Bg.nv [shift])).length:Int)-1:Int) fun n9 hn9=>?_;refine nm ((Bg.dig (Bg.nv b * Bg.nv [shift])).getD n9.toNat default:Int) fun v5 hv5=>?_;refine nm (n8 / v5:Int) fun n10 hn10=>?_;refine nm (n8 % v5:Int) fun n11 hn11=>?_;have e_v5:(Bg.dig (Bg.nv b * Bg.nv [shift])).getD ((Bg.dig (Bg.nv b * Bg.nv [shift])).length-1) 0=v5:=by rw [show (Bg.dig (Bg.nv b * Bg.nv [shift])).length-1=n9.toNat by omega];exact hv5.symm
    have b_v5:=hvd.get' ((Bg.dig (Bg.nv b * Bg.nv [shift])).length-1);rw [e_v5] at b_v5 hvt;have hq1:=Int.ediv_nonneg (show 0≤n8 by omega) (show 0≤v5 by omega);have hq2:=Int.ediv_le_self v5 (show 0≤n8 by omega);refine V.gf [.u 3,.aR (((Bg.dig (Bg.nv b * Bg.nv [shift])).length:Int)-1) n9 hn9,.iX (kG 0 (Bg.dig (Bg.nv b * Bg.nv [shift])) ((G10 9).ss 0)) n9,.lE (kG 0 (Bg.dig (Bg.nv b * Bg.nv [shift])) ((G10 9).ss 0)) n9 false v5 hv5 false,.qov g0 n8 v5 n10 hn10 (fun _=>⟨by omega,by omega⟩) (fun _=>by omega),.u 3,.aR (((Bg.dig (Bg.nv b * Bg.nv [shift])).length:Int)-1) n9 hn9,.iX (kG 0 (Bg.dig (Bg.nv b * Bg.nv [shift])) ((G10 9).ss 0)) n9,.lE (kG 0 (Bg.dig (Bg.nv b * Bg.nv [shift])) ((G10 9).ss 0)) n9 false v5 hv5 false,.rmv g0 n8 v5 n11 hn11 (fun _=>⟨by omega,by omega⟩),.u 2] fun _ _ G17=>?_;intro S_ s_
    refine V.lp (γ:=Int × Int) (fun ⟨guess,rest⟩=>⟨[(8,iv shift),(9,us.v),(10,((G10 9).ss 0).v),(11,iv ((Bg.dig (Bg.nv b * Bg.nv [shift])).length:Int)),(12,qs.v),(13,iv i),(15,iv guess),(16,iv rest)],[fs true (Bg.dig (Bg.nv b * Bg.nv [shift])) ((G10 9).ss 0)],[os true 3 u us,os true 3 q qs]⟩) (fun ⟨guess,rest⟩=>(Bg.Gss (Bg.dig (Bg.nv b * Bg.nv [shift])) u i.toNat guess rest)) (fun ⟨guess,rest⟩=>guess.toNat) (n10,n11) [0] ?_ ?_
    · · show Bg.Gss (Bg.dig (Bg.nv b * Bg.nv [shift])) u i.toNat n10 n11;exact Bg.gss_start hdi hvd (by omega) (by omega) (by omega) (t:=n8) (by rw [e_v3,e_v4];omega) (by rw [e_v5,hn10]) (by rw [e_v5,hn11])
    rintro ⟨guess,rest⟩ hF3 kw20 Z3 hZ3;have hf7:Bg.Gss (Bg.dig (Bg.nv b * Bg.nv [shift])) u i.toNat guess rest:=hF3;clear kw20;have hg0:=hf7.g0;have hg1:=hf7.g1;have hr0:=hf7.r0;refine nm (((Bg.dig (Bg.nv b * Bg.nv [shift])).length:Int)-2:Int) fun n12 hn12=>?_;refine nm ((Bg.dig (Bg.nv b * Bg.nv [shift])).getD n12.toNat default:Int) fun v6 hv6=>?_;refine nm (guess * v6:Int) fun n13 hn13=>?_;refine nm (rest * 1048576:Int) fun n14 hn14=>?_;refine nm (i+((Bg.dig (Bg.nv b * Bg.nv [shift])).length:Int):Int) fun n15 hn15=>?_;refine nm (u.getD (n15-2).toNat default:Int) fun v7 hv7=>?_;refine nm (n14+v7:Int) fun n16 hn16=>?_;refine nm ((decide (rest < 1048576)) && (decide (n16 < n13)):Bool) fun p1 hp1=>?_;have e_v6:(Bg.dig (Bg.nv b * Bg.nv [shift])).getD ((Bg.dig (Bg.nv b * Bg.nv [shift])).length-2) 0=v6:=by rw [show (Bg.dig (Bg.nv b * Bg.nv [shift])).length-2=n12.toNat by omega];exact hv6.symm
    have b_v6:=hvd.get' ((Bg.dig (Bg.nv b * Bg.nv [shift])).length-2);rw [e_v6] at b_v6;have e_v7:u.getD (i.toNat+(Bg.dig (Bg.nv b * Bg.nv [shift])).length-2) 0=v7:=by rw [show i.toNat+(Bg.dig (Bg.nv b * Bg.nv [shift])).length-2=(n15-2).toNat by omega];exact hv7.symm
    have b_v7:=hud.get' (i.toNat+(Bg.dig (Bg.nv b * Bg.nv [shift])).length-2);rw [e_v7] at b_v7;have bm:=Bg.gmul ⟨hg0,hg1⟩ b_v6;refine V.gf [.u 9,.arg ((gF (b:=decide (1048576≤guess)) iDF).T (b:=decide (rest < 1048576)) iDT) (((Bg.dig (Bg.nv b * Bg.nv [shift])).length:Int)-2) n12 hn12 (fun hg=>by omega),.ix ((gF (b:=decide (1048576≤guess)) iDF).T (b:=decide (rest < 1048576)) iDT) (kG 0 (Bg.dig (Bg.nv b * Bg.nv [shift])) ((G10 9).ss 0)) n12 (fun hg=>⟨by omega,by omega⟩),.le ((gF (b:=decide (1048576≤guess)) iDF).T (b:=decide (rest < 1048576)) iDT) (kG 0 (Bg.dig (Bg.nv b * Bg.nv [shift])) ((G10 9).ss 0)) n12 none false v6 hv6 (fun hg=>⟨by omega,by omega⟩) false (fun _=>[iv v6]),.arg ((gF (b:=decide (1048576≤guess)) iDF).T (b:=decide (rest < 1048576)) iDT) (guess * v6) n13 hn13 (fun hg=>by omega),.u 1,.shlm ((gF (b:=decide (1048576≤guess)) iDF).T (b:=decide (rest < 1048576)) iDT) .i64 .u64 rest 20 n14 20 (fun hg=>⟨rfl,by decide,by show _=IntKind.i64.wrap (rest * 1048576);rw [IntKind.wrap_i64];omega⟩),.u 3,.arg ((gF (b:=decide (1048576≤guess)) iDF).T (b:=decide (rest < 1048576)) iDT) (i+((Bg.dig (Bg.nv b * Bg.nv [shift])).length:Int)) n15 hn15 (fun hg=>by omega),.arg ((gF (b:=decide (1048576≤guess)) iDF).T (b:=decide (rest < 1048576)) iDT) (n15-2) (n15-2) rfl (fun hg=>by omega),.ix ((gF (b:=decide (1048576≤guess)) iDF).T (b:=decide (rest < 1048576)) iDT) (kO 3 0 u us) (n15-2) (fun hg=>⟨by omega,by omega⟩),.le ((gF (b:=decide (1048576≤guess)) iDF).T (b:=decide (rest < 1048576)) iDT) (kO 3 0 u us) (n15-2) none false v7 hv7 (fun hg=>⟨by omega,by omega⟩) false (fun _=>[iv v7]),.orm ((gF (b:=decide (1048576≤guess)) iDF).T (b:=decide (rest < 1048576)) iDT) n14 rest v7 n16 20 (by rw [hn14];rfl) (fun hg=>⟨by decide,by omega,⟨by omega,by show _ < (1048576:Int);omega⟩,by rw [hn16,hn14];rfl,by omega⟩),.u 1,.andn (gF (b:=decide (1048576≤guess)) iDF) false (decide (rest < 1048576)) (decide (n16 < n13)) p1 hp1,.or g0 false (decide (1048576≤guess)) p1] fun _ _ G18=>?_;intro S_ s_
    refine V.cn (b:=(decide (1048576≤guess)) || p1) (iOT iDT (iN hp1 (iAT iDT iDT))) (iOF iDF (iN hp1 (iAF iDF iDF))) (fun q11=>?_) (fun q12=>?_)
    · have hcnd:1048576≤guess∨rest < 1048576∧rest * 1048576+u.getD (i.toNat+(Bg.dig (Bg.nv b * Bg.nv [shift])).length-2) 0 < guess * (Bg.dig (Bg.nv b * Bg.nv [shift])).getD ((Bg.dig (Bg.nv b * Bg.nv [shift])).length-2) 0:=by rw [e_v6,e_v7];omega
      refine V.gf [.u 1,.aa (guess-1),.u 1] fun _ _ G19=>?_;intro S_ s_
      refine nm (((Bg.dig (Bg.nv b * Bg.nv [shift])).length:Int)-1:Int) fun n17 hn17=>?_;refine nm ((Bg.dig (Bg.nv b * Bg.nv [shift])).getD n17.toNat default:Int) fun v8 hv8=>?_;have e_v8:(Bg.dig (Bg.nv b * Bg.nv [shift])).getD ((Bg.dig (Bg.nv b * Bg.nv [shift])).length-1) 0=v8:=by rw [show (Bg.dig (Bg.nv b * Bg.nv [shift])).length-1=n17.toNat by omega];exact hv8.symm
      have b_v8:=hvd.get' ((Bg.dig (Bg.nv b * Bg.nv [shift])).length-1);rw [e_v8] at b_v8;have gq:=Bg.gss_nat hf7 hud hvd;refine V.gf [.u 3,.aR (((Bg.dig (Bg.nv b * Bg.nv [shift])).length:Int)-1) n17 hn17,.iX (kG 0 (Bg.dig (Bg.nv b * Bg.nv [shift])) ((G10 9).ss 0)) n17,.lE (kG 0 (Bg.dig (Bg.nv b * Bg.nv [shift])) ((G10 9).ss 0)) n17 false v8 hv8 false,.aa (rest+v8),.u 1] fun _ _ G20=>?_;intro S_ s_
      refine V.rn hZ3 (guess-1,rest+v8) [0] ?_ ?_
      · · show Bg.Gss (Bg.dig (Bg.nv b * Bg.nv [shift])) u i.toNat (guess-1) (rest+v8);have hl:=(Bg.gss_less hf7 hdi hvd (by omega) (by omega) (by omega) hcnd).1;rw [e_v8] at hl;rw [show guess-1=guess-1 from rfl];exact hl
      show (guess-1).toNat < guess.toNat;have hl:=(Bg.gss_less hf7 hdi hvd (by omega) (by omega) (by omega) hcnd).2;omega
    have hcnf:¬ 1048576≤guess∧(¬rest < 1048576∨¬ rest * 1048576+u.getD (i.toNat+(Bg.dig (Bg.nv b * Bg.nv [shift])).length-2) 0 < guess * (Bg.dig (Bg.nv b * Bg.nv [shift])).getD ((Bg.dig (Bg.nv b * Bg.nv [shift])).length-2) 0):=by rw [e_v6,e_v7];omega
    refine nm ((u.take (n15+1).toNat).drop i.toNat:List Int) fun l3 hl3=>?_;refine nm (q.getD i.toNat default:Int) fun v9 hv9=>?_;refine nm (q.set i.toNat (Bg.setG ((u.take (n15+1).toNat).drop i.toNat) (Bg.dig (Bg.nv b * Bg.nv [shift])) guess):List Int) fun l4 hl4=>?_;have hl4n:=congrArg List.length hl4;try simp only [List.length_append,List.length_cons,List.length_nil,List.length_replicate,List.length_set,List.length_take,List.length_drop,List.length_map,List.length_reverse,List.length_range] at hl4n
    have hgE:=Bg.gss_end hf7 hdi hvd (by omega) (by omega) (by omega) hcnf;have hwin:(u.take (n15+1).toNat).drop i.toNat=Bg.win u i.toNat (Bg.dig (Bg.nv b * Bg.nv [shift])).length:=Bg.win_is (by omega);have hwl:=Bg.win_len hdi (by omega);refine V.gf [.u 6,.aR (i+((Bg.dig (Bg.nv b * Bg.nv [shift])).length:Int)) n15 hn15,.aa (n15+1),.slv g0 (kO 3 0 u us) (some i) (some (n15+1)) i (n15+1) rfl rfl (fun _=>⟨by omega,by omega,by omega⟩),.u 2,.cB 11 127 false [0] [] [kB 0 (Bg.dig (Bg.nv b * Bg.nv [shift])) ((G10 9).ss 0)] fun G=>settle_ct u us i.toNat ((n15+1).toNat) (u.take i.toNat) ((u.take (n15+1).toNat).drop i.toNat) (u.drop (n15+1).toNat) (Bg.dig (Bg.nv b * Bg.nv [shift])) ((G10 9).ss 0) guess (cut3 (by omega) (by omega)) (cutlo (by omega)) (cuthi (by omega) (by omega)) (by rw [hwin];exact (hud.drop _).take _) hvd (by rw [hwin,hwl];omega) hgE.1 (by rw [hwin];exact hgE.2.1) (by rw [hwin,hwl];omega),.iX (kO 3 1 q qs) i,.se g0 13 1 3 true q (fun _=>qs) i none v9 (Bg.setG ((u.take (n15+1).toNat).drop i.toNat) (Bg.dig (Bg.nv b * Bg.nv [shift])) guess) hv9 true l4 hl4 (fun _=>⟨by omega,by omega⟩) (fun _=>rfl) [] (fun _ _ _ _=>trivial)] fun _ _ G21=>?_;intro S_ s_
    refine V.gf [.u 1,.aa (i-1),.u 1] fun _ _ G22=>?_;intro S_ s_
    refine V.rn hZ2 ((u.take i.toNat) ++(Bg.setP ((u.take (n15+1).toNat).drop i.toNat) (Bg.dig (Bg.nv b * Bg.nv [shift])) guess) ++(u.drop (n15+1).toNat),us,l4,qs,i-1) [0] ?_ ?_
    · refine ⟨?_,?_,?_,?_⟩
      · show -1≤(i-1);omega
      · show (i-1) < (l4.length:Int);omega
      · show Bg.DivI (Bg.dig (Bg.nv a * Bg.nv [shift]) ++[0]) (Bg.dig (Bg.nv b * Bg.nv [shift])) ((u.take i.toNat) ++(Bg.setP ((u.take (n15+1).toNat).drop i.toNat) (Bg.dig (Bg.nv b * Bg.nv [shift])) guess) ++(u.drop (n15+1).toNat)) l4 ((i-1)+1).toNat;have hst:=Bg.div_step (x:=(Bg.setG ((u.take (n15+1).toNat).drop i.toNat) (Bg.dig (Bg.nv b * Bg.nv [shift])) guess)) hdi hvd (by omega) hgE.2.2 (by rw [hwin]);rw [hl4,show (i-1+1).toNat=i.toNat by omega];rw [hwin];rw [hwin] at hst;unfold Bg.nxtU at hst;rw [show (n15+1).toNat=i.toNat+(Bg.dig (Bg.nv b * Bg.nv [shift])).length+1 by omega];exact hst
      show l4.length+(Bg.dig (Bg.nv b * Bg.nv [shift])).length≤a.length+2;omega
    show ((i-1)+1).toNat < (i+1).toNat;omega
  have hen:=hf5;rw [show (i+1).toNat=0 by omega] at hen;obtain ⟨hdv1,hdv2⟩:=Bg.dvals (s:=Bg.nv [shift]) (A:=Bg.nv a) (B:=Bg.nv b) hen hS0 (by rw [Bg.nv_app0,Bg.nv_dig]) (by rw [Bg.nv_dig]);have hul:=hen.len;have hud2:=hen.dg;have hqd2:=hen.qd;have hud3:=Bg.dig_le hud2;refine V.frz 0 true 3 u us (by kernel_rfl) ?_;refine V.gf [.u 1,.ctT g0 1 125 [kB 1 u us] (fun _ G=>trim_ct u us hud2),.u 1,.cA 3 124 [(kf true (.g 1 0) (Bg.dig (Bg.nv u)) (fun G=>(G 1).ss 0)).a] fun G=>short_ct (Bg.dig (Bg.nv u)) ((G 1).ss 0) shift (Bg.dig_Dg _) (by omega) (by omega),.u 5] fun _ _ G23=>?_;intro S_ s_
  refine V.frz 1 true 3 q qs (by kernel_rfl) ?_;refine V.gf [.u 1,.ctT g0 1 125 [kB 4 q qs] (fun _ G=>trim_ct q qs hqd2),.u 3] fun _ _ G24=>?_;intro S_ s_
  have e0:Bg.dig (Bg.nv q)=Bg.dig (Bg.nv a / Bg.nv b):=by rw [hdv1]
  rw [←e0];have e1:Bg.dig (Bg.nv (Bg.dig (Bg.nv u)) / shift.toNat)=Bg.dig (Bg.nv a % Bg.nv b):=by rw [Bg.nv_dig,← enS,hdv2]
  rw [←e1];exact V.rS [0,0] [(G24 1).ss 0,(G23 3).ss 0] [] [] [5,3] []
theorem div_ctv (a:List Int) (as_:SV) (b:List Int) (bs:SV) (hda:Bg.Dg a) (hdb:Bg.Dg b) (hza:Bg.Nz a) (hzb:Bg.Nz b) (hnb:b≠[]) (hla:a.length≤549755813888) (hlb:b.length≤549755813888) (rv0:List Int) (erv0:rv0=Bg.dig (Bg.nv a / Bg.nv b)) (rv1:List Int) (erv1:rv1=Bg.dig (Bg.nv a % Bg.nv b)) :
    Ct Tryz.prog 84 #[as_.v,bs.v] [fs true a as_,fs true b bs] [] (fun g=>.tuple #[((g.ss 0)).v,((g.ss 1)).v]) (fun g=>[fs true rv0 (g.ss 0),fs true rv1 (g.ss 1)]) (fun g=>[]) (fun g=>[]):=by
  subst erv0 erv1;exact div_ct a as_ b bs hda hdb hza hzb hnb hla hlb

open Go Go.Proofs
set_option maxRecDepth 10000 in
theorem Gcd_ct (f:Int) (c:List Int) (j:SV) (i:Int) (d:List Int) (k:SV) (hla:c.length≤274877906944) (hlb:d.length≤274877906944) :
    Ct Tryz.prog 46 #[ag (DBig.mk f ⟨c,j⟩),ag (DBig.mk i ⟨d,k⟩)] [fs true c j,fs true d k] [] (fun g=>.tuple #[ag (DBig.mk (Bg.oS (Bg.RtB f c∧Bg.RtB i d) ((Nat.gcd (Bg.nv c) (Bg.nv d):Int))) ⟨Bg.oD (Bg.RtB f c∧Bg.RtB i d) ((Nat.gcd (Bg.nv c) (Bg.nv d):Int)),(g.ss 0)⟩),iv (if (Bg.RtB f c∧Bg.RtB i d) then (0:Int) else 1)]) (fun g=>[fs true (Bg.oD (Bg.RtB f c∧Bg.RtB i d) ((Nat.gcd (Bg.nv c) (Bg.nv d):Int))) (g.ss 0)]) (fun g=>[]) (fun g=>[]):=by
  refine V.fo mo Tryz.func46 44 3 fun w H ε k0=>?_;clear k0
  refine V.gf [.n 0,.n 1,.n 2,.u 1] fun _ _ G1=>?_;intro S_ s_
  refine nm ((!(decide (Bg.RtB f c))) || (!(decide (Bg.RtB i d))):Bool) fun p1 hp1=>?_;refine V.gf [.l 0,.cP 1 45 [kA 0 c j] fun G=>bright_ct f c j,.u 2,.l 1,.cp (gF (b:=!(decide (Bg.RtB f c))) (iNF iDT)) 5 45 [kA 1 d k] (fun hg G=>bright_ct i d k),.u 1,.orn g0 false (!(decide (Bg.RtB f c))) (!(decide (Bg.RtB i d))) p1 hp1] fun _ _ G2=>?_;intro S_ s_
  refine V.cn (b:=p1) (iN hp1 (iOT (iNT iDF) (iNT iDF))) (iN hp1 (iOF (iNF iDT) (iNF iDT))) (fun q1=>?_) (fun q2=>?_)
  · have hNR:¬ (Bg.RtB f c∧Bg.RtB i d):=by rintro ⟨h1,h2⟩;rcases q1 with h | h;exact h h1;exact h h2
    refine nm (([]:List Int):List Int) fun l1 hl1=>?_;refine V.gf [.u 1,.ctT g0 1 83 [(knil (α:=Int)).a] (fun _ G=>checkedF_ctv (0:Int) ([]:List Int) ({}) l1 hl1),.u 2,.s 2,.u 1] fun _ _ G3=>?_;intro S_ s_
    have e1:l1=Bg.oD (Bg.RtB f c∧Bg.RtB i d) ((Nat.gcd (Bg.nv c) (Bg.nv d):Int)):=by
      rw [hl1];exact (Bg.oD_n hNR _).symm
    subst e1;have e0:(0:Int)=Bg.oS (Bg.RtB f c∧Bg.RtB i d) ((Nat.gcd (Bg.nv c) (Bg.nv d):Int)):=(Bg.oS_n hNR _).symm;have e2:(1:Int)=if (Bg.RtB f c∧Bg.RtB i d) then (0:Int) else 1:=(if_neg hNR).symm
    exact V.rT [2,0] [(G3 1).ss 0] [] [] [2] [] (cong2 (fun (xz0 xz2:Int)=>(.tuple #[.agg #[iv xz0,((G3 1).ss 0).v],iv xz2]:Value)) e0 e2)
  have hRR:(Bg.RtB f c∧Bg.RtB i d):=by first | exact q2 | exact ⟨Decidable.not_not.1 (q2).1,Decidable.not_not.1 (q2).2⟩
  refine V.gf [.u 1,.l 0,.cA 2 48 [kA 0 c j] fun G=>clonef_ct c j (by omega),.u 1,.l 1,.u 2] fun _ _ G4=>?_;intro S_ s_
  refine V.lp (γ:=List Int × SV × List Int × SV) (fun ⟨x,xs,y,ys⟩=>⟨[(4,pp ((G1 2).b) 0),(6,xs.v),(7,ys.v)],[fs false x xs,fs false y ys,fs false c j,fs false d k],[.blk ((G1 0).b) (ca (DBig.mk f ⟨c,j⟩)) 50,.blk ((G1 1).b) (ca (DBig.mk i ⟨d,k⟩)) 50,.blk ((G1 2).b) (ca (DBig.mk 0 ⟨[],{}⟩)) 50]⟩) (fun ⟨x,xs,y,ys⟩=>(Bg.Dg x)∧(Bg.Nz x)∧(Bg.Dg y)∧(Bg.Nz y)∧(Nat.gcd (Bg.nv x) (Bg.nv y)=Nat.gcd (Bg.nv c) (Bg.nv d))∧(x.length≤274877906944)∧(y.length≤274877906944)) (fun ⟨x,xs,y,ys⟩=>Bg.nv y) (c,(G4 2).ss 0,d,k) [2,1,0,1] ?_ ?_
  · refine ⟨?_,?_,?_,?_,?_,?_,?_⟩
    · show Bg.Dg c;exact hRR.1.dg
    · show Bg.Nz c;exact hRR.1.nz
    · show Bg.Dg d;exact hRR.2.dg
    · show Bg.Nz d;exact hRR.2.nz
    · show Nat.gcd (Bg.nv c) (Bg.nv d)=Nat.gcd (Bg.nv c) (Bg.nv d);rfl
    · show c.length≤274877906944;omega
    show d.length≤274877906944;omega
  rintro ⟨x,xs,y,ys⟩ hF1 kw5 Z1 hZ1;have hF1:(Bg.Dg x)∧(Bg.Nz x)∧(Bg.Dg y)∧(Bg.Nz y)∧(Nat.gcd (Bg.nv x) (Bg.nv y)=Nat.gcd (Bg.nv c) (Bg.nv d))∧(x.length≤274877906944)∧(y.length≤274877906944):=hF1;obtain ⟨hf1,hf2,hf3,hf4,hf5,hf6,hf7⟩:=hF1;refine V.gf [.u 1,.ln (kF 1 y ys),.u 1] fun _ _ G5=>?_;intro S_ s_;refine V.cn (b:=decide (0 < (y.length:Int))) iDT iDF (fun q3=>?_) (fun q4=>?_)
  · have hyn:y≠[]:=fun e=>by have:=congrArg List.length e;simp only [List.length_nil] at this;omega
    have hyp:=Bg.nv_ne hf3 hf4 hyn;have hmd:=Nat.mod_lt (Bg.nv x) (Nat.pos_of_ne_zero hyp);refine nm (Bg.dig (Bg.nv x / Bg.nv y):List Int) fun l2 hl2=>?_;refine nm (Bg.dig (Bg.nv x % Bg.nv y):List Int) fun l3 hl3=>?_;refine V.gf [.u 2,.cA 2 84 [kA 0 x xs,kA 1 y ys] fun G=>div_ctv x xs y ys hf1 hf3 hf2 hf4 hyn (by omega) (by omega) l2 hl2 l3 hl3,.u 5] fun _ _ G6=>?_;intro S_ s_
    refine V.gf [.u 4] fun _ _ G7=>?_;intro S_ s_
    refine V.rn hZ1 (y,ys,l3,(G6 2).ss 1) [1,5,2,3] ?_ ?_
    · refine ⟨?_,?_,?_,?_,?_,?_,?_⟩
      · show Bg.Dg y;exact hf3
      · show Bg.Nz y;exact hf4
      · show Bg.Dg l3;rw [hl3];exact Bg.dig_Dg _
      · show Bg.Nz l3;rw [hl3];exact Bg.dig_Nz _
      · show Nat.gcd (Bg.nv y) (Bg.nv l3)=Nat.gcd (Bg.nv c) (Bg.nv d);rw [hl3];rw [Bg.nv_dig];exact Bg.gcd_step hf5
      · show y.length≤274877906944;omega
      show l3.length≤274877906944;rw [hl3];exact Nat.le_trans (Bg.dig_len_mono' (Nat.le_of_lt hmd)) (Nat.le_trans (Bg.dig_le hf3) hf7)
    show Bg.nv l3 < Bg.nv y;rw [hl3];rw [Bg.nv_dig];exact hmd
  have hxd:=hf1;have hgx:=hf5;have hy0:y=[]:=List.eq_nil_of_length_eq_zero (by omega);rw [hy0,show Bg.nv []=0 from rfl,Nat.gcd_zero_right] at hgx;have hgS:=Bg.gcdS (Nat.gcd (Bg.nv c) (Bg.nv d));have hgD:=Bg.gcdD (Nat.gcd (Bg.nv c) (Bg.nv d));rw [←hgx,Bg.nv_dig] at hgS hgD;refine nm (Bg.sg0 (Bg.nv x) (1:Int):Int) fun n1 hn1=>?_;refine nm (Bg.dig (Bg.nv x):List Int) fun l4 hl4=>?_;refine V.gf [.u 1,.cA 1 48 [kA 0 x xs] fun G=>clonef_ct x xs (by omega),.ctT g0 2 85 [(kf true (.g 1 0) x (fun G=>(G 1).ss 0)).a] (fun _ G=>signed_ctv (1:Int) x ((G 1).ss 0) (by first | assumption | exact hxd) n1 hn1 l4 hl4),.ctT g0 3 83 [(kf true (.g 2 0) l4 (fun G=>(G 2).ss 0)).a] (fun _ G=>checkedT_ct n1 l4 ((G 2).ss 0)),.u 2,.s 2,.u 1] fun _ _ G8=>?_;intro S_ s_
  have e1:l4=Bg.oD (Bg.RtB f c∧Bg.RtB i d) ((Nat.gcd (Bg.nv c) (Bg.nv d):Int)):=by
    rw [hl4];rw [Bg.oD_y hRR];rw [←hgx];exact hgD
  subst e1;have e0:n1=Bg.oS (Bg.RtB f c∧Bg.RtB i d) ((Nat.gcd (Bg.nv c) (Bg.nv d):Int)):=by
    rw [hn1];rw [Bg.oS_y hRR];rw [←hgx];exact hgS
  have e2:(0:Int)=if (Bg.RtB f c∧Bg.RtB i d) then (0:Int) else 1:=(if_pos hRR).symm
  exact V.rT [2,0] [(G8 3).ss 0] [] [] [6] [] (cong2 (fun (xz0 xz2:Int)=>(.tuple #[.agg #[iv xz0,((G8 3).ss 0).v],iv xz2]:Value)) e0 e2)
theorem Gcd_ctv (c:Int) (a:List Int) (e:SV) (d:Int) (b:List Int) (f:SV) (hla:a.length≤274877906944) (hlb:b.length≤274877906944) (rv0:Int) (erv0:rv0=Bg.oS (Bg.RtB c a∧Bg.RtB d b) ((Nat.gcd (Bg.nv a) (Bg.nv b):Int))) (rv1:List Int) (erv1:rv1=Bg.oD (Bg.RtB c a∧Bg.RtB d b) ((Nat.gcd (Bg.nv a) (Bg.nv b):Int))) (rv2:Int) (erv2:rv2=if (Bg.RtB c a∧Bg.RtB d b) then (0:Int) else 1) :
    Ct Tryz.prog 46 #[ag (DBig.mk c ⟨a,e⟩),ag (DBig.mk d ⟨b,f⟩)] [fs true a e,fs true b f] [] (fun g=>.tuple #[ag (DBig.mk rv0 ⟨rv1,(g.ss 0)⟩),iv rv2]) (fun g=>[fs true rv1 (g.ss 0)]) (fun g=>[]) (fun g=>[]):=by
  subst erv0 erv1 erv2;exact Gcd_ct c a e d b f hla hlb

namespace Bg
section
variable {s t : Int} {l m : List Int}
theorem dqS (h:RtB s l) (k:RtB t m) (ht:nv m≠0) (hs:s * t < 0) (h0:nv l % nv m≠0):(if nv (dig (nv (dig (nv l / nv m))+nv [1]))=0 then 0 else -1)=sgn (flo (zv s l) (zv t m)):=by
  rw [nv_dig,nv_dig,nv_one,if_neg (show ¬ (nv l / nv m+(1:Int).toNat=0) from Nat.succ_ne_zero _)];exact (div_diff h k ht hs h0).2.2.1
theorem dqD (h:RtB s l) (k:RtB t m) (ht:nv m≠0) (hs:s * t < 0) (h0:nv l % nv m≠0):dig (nv (dig (nv (dig (nv l / nv m))+nv [1])))=dig (flo (zv s l) (zv t m)).natAbs:=by
  rw [nv_dig,nv_dig,nv_one,(div_diff h k ht hs h0).1];rfl
theorem drS (h:RtB s l) (k:RtB t m) (ht:nv m≠0) (hs:s * t < 0) (h0:nv l % nv m≠0):(if nv (dig (nv m - nv (dig (nv l % nv m))))=0 then 0 else t)=sgn (fmo (zv s l) (zv t m)):=by
  have:=Nat.mod_lt (nv l) (Nat.pos_of_ne_zero ht)
  rw [nv_dig,nv_dig,if_neg (by omega)];exact (div_diff h k ht hs h0).2.2.2
theorem drD (h:RtB s l) (k:RtB t m) (ht:nv m≠0) (hs:s * t < 0) (h0:nv l % nv m≠0):dig (nv (dig (nv m - nv (dig (nv l % nv m)))))=dig (fmo (zv s l) (zv t m)).natAbs:=by
  rw [nv_dig,nv_dig,(div_diff h k ht hs h0).2.1]
end
end Bg

open Go Go.Proofs
set_option maxRecDepth 10000 in
theorem Div_ct (i:Int) (f:List Int) (k:SV) (c:Int) (d:List Int) (j:SV) (hla:f.length≤274877906944) (hlb:d.length≤274877906944) :
    Ct Tryz.prog 78 #[ag (DBig.mk i ⟨f,k⟩),ag (DBig.mk c ⟨d,j⟩)] [fs true f k,fs true d j] [] (fun g=>.tuple #[ag (DBig.mk (Bg.oS ((Bg.RtB i f∧Bg.RtB c d)∧c≠0) (Bg.flo (Bg.zv i f) (Bg.zv c d))) ⟨Bg.oD ((Bg.RtB i f∧Bg.RtB c d)∧c≠0) (Bg.flo (Bg.zv i f) (Bg.zv c d)),(g.ss 0)⟩),ag (DBig.mk (Bg.oS ((Bg.RtB i f∧Bg.RtB c d)∧c≠0) (Bg.fmo (Bg.zv i f) (Bg.zv c d))) ⟨Bg.oD ((Bg.RtB i f∧Bg.RtB c d)∧c≠0) (Bg.fmo (Bg.zv i f) (Bg.zv c d)),(g.ss 1)⟩),iv (if ¬ (Bg.RtB i f∧Bg.RtB c d) then (1:Int) else if c=0 then 15 else 0)]) (fun g=>[fs true (Bg.oD ((Bg.RtB i f∧Bg.RtB c d)∧c≠0) (Bg.flo (Bg.zv i f) (Bg.zv c d))) (g.ss 0),fs true (Bg.oD ((Bg.RtB i f∧Bg.RtB c d)∧c≠0) (Bg.fmo (Bg.zv i f) (Bg.zv c d))) (g.ss 1)]) (fun g=>[]) (fun g=>[]):=by
  refine V.fo mo Tryz.func78 67 4 fun w H ε k0=>?_;clear k0
  refine V.gf [.n 0,.n 1,.n 2,.n 3,.u 1] fun _ _ G1=>?_;intro S_ s_
  refine nm ((!(decide (Bg.RtB i f))) || (!(decide (Bg.RtB c d))):Bool) fun p1 hp1=>?_;refine V.gf [.l 0,.cP 1 45 [kA 0 f k] fun G=>bright_ct i f k,.u 2,.l 1,.cp (gF (b:=!(decide (Bg.RtB i f))) (iNF iDT)) 5 45 [kA 1 d j] (fun hg G=>bright_ct c d j),.u 1,.orn g0 false (!(decide (Bg.RtB i f))) (!(decide (Bg.RtB c d))) p1 hp1,.u 1] fun _ _ G2=>?_;intro S_ s_
  refine V.cn (b:=p1) (iN hp1 (iOT (iNT iDF) (iNT iDF))) (iN hp1 (iOF (iNF iDT) (iNF iDT))) (fun q1=>?_) (fun q2=>?_)
  · have hNR:¬ (Bg.RtB i f∧Bg.RtB c d):=by rintro ⟨h1,h2⟩;rcases q1 with h | h;exact h h1;exact h h2
    refine V.gf [.u 2,.s 2,.s 3,.u 1] fun _ _ G3=>?_;intro S_ s_
    refine V.nilF (α:=Int) ?_;refine V.nilF (α:=Int) ?_;have e1:([]:List Int)=Bg.oD ((Bg.RtB i f∧Bg.RtB c d)∧c≠0) (Bg.flo (Bg.zv i f) (Bg.zv c d)):=(Bg.oD_n (fun h=>hNR h.1) _).symm;rw [←e1];have e3:([]:List Int)=Bg.oD ((Bg.RtB i f∧Bg.RtB c d)∧c≠0) (Bg.fmo (Bg.zv i f) (Bg.zv c d)):=(Bg.oD_n (fun h=>hNR h.1) _).symm;rw [←e3];have e0:(0:Int)=Bg.oS ((Bg.RtB i f∧Bg.RtB c d)∧c≠0) (Bg.flo (Bg.zv i f) (Bg.zv c d)):=(Bg.oS_n (fun h=>hNR h.1) _).symm;have e2:(0:Int)=Bg.oS ((Bg.RtB i f∧Bg.RtB c d)∧c≠0) (Bg.fmo (Bg.zv i f) (Bg.zv c d)):=(Bg.oS_n (fun h=>hNR h.1) _).symm;have e4:(1:Int)=if ¬ (Bg.RtB i f∧Bg.RtB c d) then (1:Int) else if c=0 then 15 else 0:=(if_pos hNR).symm
    exact V.rT [2,3,0] [] [] [] [2,3] [] (cong3 (fun (xz0 xz2 xz4:Int)=>(.tuple #[.agg #[iv xz0,SV.v ({})],.agg #[iv xz2,SV.v ({})],iv xz4]:Value)) e0 e2 e4)
  have hRR:(Bg.RtB i f∧Bg.RtB c d):=by first | exact q2 | exact ⟨Decidable.not_not.1 (q2).1,Decidable.not_not.1 (q2).2⟩
  have hsm:=Bg.sml hRR.1 hRR.2;refine V.gf [.u 1,.l 1,.u 2] fun _ _ G4=>?_;intro S_ s_
  refine V.cn (b:=decide (c=0)) iDT iDF (fun q3=>?_) (fun q4=>?_)
  · have hz0:c=0:=q3;refine V.gf [.u 2,.s 2,.s 3,.u 1] fun _ _ G5=>?_;intro S_ s_
    refine V.nilF (α:=Int) ?_;refine V.nilF (α:=Int) ?_;have e1:([]:List Int)=Bg.oD ((Bg.RtB i f∧Bg.RtB c d)∧c≠0) (Bg.flo (Bg.zv i f) (Bg.zv c d)):=(Bg.oD_n (fun h=>h.2 hz0) _).symm;rw [←e1];have e3:([]:List Int)=Bg.oD ((Bg.RtB i f∧Bg.RtB c d)∧c≠0) (Bg.fmo (Bg.zv i f) (Bg.zv c d)):=(Bg.oD_n (fun h=>h.2 hz0) _).symm;rw [←e3];have e0:(0:Int)=Bg.oS ((Bg.RtB i f∧Bg.RtB c d)∧c≠0) (Bg.flo (Bg.zv i f) (Bg.zv c d)):=(Bg.oS_n (fun h=>h.2 hz0) _).symm;have e2:(0:Int)=Bg.oS ((Bg.RtB i f∧Bg.RtB c d)∧c≠0) (Bg.fmo (Bg.zv i f) (Bg.zv c d)):=(Bg.oS_n (fun h=>h.2 hz0) _).symm;have e4:(15:Int)=if ¬ (Bg.RtB i f∧Bg.RtB c d) then (1:Int) else if c=0 then 15 else 0:=by rw [if_neg (fun h=>h hRR),if_pos hz0]
    exact V.rT [2,3,0] [] [] [] [2,3] [] (cong3 (fun (xz0 xz2 xz4:Int)=>(.tuple #[.agg #[iv xz0,SV.v ({})],.agg #[iv xz2,SV.v ({})],iv xz4]:Value)) e0 e2 e4)
  have hz0:¬ c=0:=q4;have hPD:((Bg.RtB i f∧Bg.RtB c d)∧c≠0):=⟨hRR,hz0⟩;have hnz:=Bg.nv_pos hRR.2 hz0;have hml:=Nat.mod_lt (Bg.nv f) (Nat.pos_of_ne_zero hnz.1);have hmle:Bg.nv (Bg.dig (Bg.nv f % Bg.nv d))≤Bg.nv d:=by rw [Bg.nv_dig];omega
  have hll1:=Bg.dig_len_mono' (Nat.div_le_self (Bg.nv f) (Bg.nv d));have hll2:=Bg.dig_len_mono' (Nat.mod_le (Bg.nv f) (Bg.nv d));have hll3:=Bg.dig_le hRR.1.dg;refine nl (Bg.dig (Bg.nv f / Bg.nv d)) fun l1 hl1 hl1n=>?_;refine nl (Bg.dig (Bg.nv f % Bg.nv d)) fun l2 hl2 hl2n=>?_;refine V.gf [.u 1,.l 0,.u 1,.l 1,.cA 4 84 [kA 0 f k,kA 1 d j] fun G=>div_ctv f k d j hRR.1.dg hRR.2.dg hRR.1.nz hRR.2.nz hnz.2 (by omega) (by omega) l1 hl1 l2 hl2,.u 5] fun _ _ G6=>?_;intro S_ s_
  refine nm (i * c:Int) fun n1 hn1=>?_;refine nm ((decide (n1 < 0)) && (decide (0 < (l2.length:Int))):Bool) fun p2 hp2=>?_;refine V.gf [.u 1,.l 0,.u 1,.l 1,.ar (i * c) n1 hn1 (by rw [hn1];exact hsm.1) (by rw [hn1];exact hsm.2),.u 3,.ln (kG 3 l2 ((G6 4).ss 1)),.u 1,.andn g0 false (decide (n1 < 0)) (decide (0 < (l2.length:Int))) p2 hp2] fun _ _ G7=>?_;intro S_ s_
  refine V.cn (b:=p2) (iN hp2 (iAT iDT iDT)) (iN hp2 (iAF iDF iDF)) (fun q5=>?_) (fun q6=>?_)
  · have hng:i * c < 0:=by have:=q5;omega
    have hr0:Bg.nv f % Bg.nv d≠0:=fun e=>by have:=q5;subst_vars;rw [e,Bg.dig_zero] at this;simp at this
    refine nm (Bg.dig (Bg.nv l1+Bg.nv ([1]:List Int)):List Int) fun l3 hl3=>?_;refine nm (Bg.sg0 (Bg.nv l3) (-1:Int):Int) fun n2 hn2=>?_;refine nm (Bg.dig (Bg.nv l3):List Int) fun l4 hl4=>?_;refine nm (Bg.dig (Bg.nv d-Bg.nv l2):List Int) fun l5 hl5=>?_;refine nm (Bg.sg0 (Bg.nv l5) c:Int) fun n3 hn3=>?_;refine nm (Bg.dig (Bg.nv l5):List Int) fun l6 hl6=>?_;refine V.gf [.u 1,.nr 1 true 3 ([1]:List Int) [] (fun _ _ _ _ _=>trivial) (fun _=>#[iv 1]),.cA 2 118 [kB 2 l1 ((G6 4).ss 0),(kf true (.g 1 0) ([1]:List Int) (fun G=>⟨atB (G 1).b,1,1⟩)).a] fun G=>add_ctv l1 ((G6 4).ss 0) ([1]:List Int) ⟨atB (G 1).b,1,1⟩ (by subst_vars;exact Bg.dig_Dg _) (Bg.Dg.one (by omega)) (by omega) (by simp) l3 hl3,.ctT g0 3 85 [(kf true (.g 2 0) l3 (fun G=>(G 2).ss 0)).a] (fun _ G=>signed_ctv (-1:Int) l3 ((G 2).ss 0) (by subst_vars;exact Bg.dig_Dg _) n2 hn2 l4 hl4),.u 1,.l 1,.u 1,.l 1,.u 1,.cA 9 119 [kA 1 d j,kB 3 l2 ((G6 4).ss 1)] fun G=>sub_ctv d j l2 ((G6 4).ss 1) hRR.2.dg (by subst_vars;exact Bg.dig_Dg _) (by omega) (by omega) (by subst_vars;exact Bg.dig_Nz _) (by subst_vars;exact hmle) l5 hl5,.ctT g0 10 85 [(kf true (.g 9 0) l5 (fun G=>(G 9).ss 0)).a] (fun _ G=>signed_ctv c l5 ((G 9).ss 0) (by subst_vars;exact Bg.dig_Dg _) n3 hn3 l6 hl6),.s 2,.s 3,.u 1] fun _ _ G8=>?_;intro S_ s_
    have e1:l4=Bg.oD ((Bg.RtB i f∧Bg.RtB c d)∧c≠0) (Bg.flo (Bg.zv i f) (Bg.zv c d)):=by
      rw [hl4,hl3,hl1];rw [Bg.oD_y hPD];exact Bg.dqD hRR.1 hRR.2 hnz.1 hng hr0
    subst e1;have e3:l6=Bg.oD ((Bg.RtB i f∧Bg.RtB c d)∧c≠0) (Bg.fmo (Bg.zv i f) (Bg.zv c d)):=by
      rw [hl6,hl5,hl2];rw [Bg.oD_y hPD];exact Bg.drD hRR.1 hRR.2 hnz.1 hng hr0
    subst e3;have e0:n2=Bg.oS ((Bg.RtB i f∧Bg.RtB c d)∧c≠0) (Bg.flo (Bg.zv i f) (Bg.zv c d)):=by
      rw [hn2,hl3,hl1];rw [Bg.oS_y hPD];exact Bg.dqS hRR.1 hRR.2 hnz.1 hng hr0
    have e2:n3=Bg.oS ((Bg.RtB i f∧Bg.RtB c d)∧c≠0) (Bg.fmo (Bg.zv i f) (Bg.zv c d)):=by
      rw [hn3,hl5,hl2];rw [Bg.oS_y hPD];exact Bg.drS hRR.1 hRR.2 hnz.1 hng hr0
    have e4:(0:Int)=if ¬ (Bg.RtB i f∧Bg.RtB c d) then (1:Int) else if c=0 then 15 else 0:=by rw [if_neg (fun h=>h hRR),if_neg hz0]
    exact V.rT [2,3,0] [(G8 3).ss 0,(G8 10).ss 0] [] [] [6,8] [] (cong3 (fun (xz0 xz2 xz4:Int)=>(.tuple #[.agg #[iv xz0,((G8 3).ss 0).v],.agg #[iv xz2,((G8 10).ss 0).v],iv xz4]:Value)) e0 e2 e4)
  have hnn:0≤i * c∨Bg.nv f % Bg.nv d=0:=by have hqq:=q6;rcases hqq with h | h;left;omega;right;exact Bg.len_dig0.1 (by omega)
  refine nm (Bg.sg0 (Bg.nv l1) n1:Int) fun n4 hn4=>?_;refine nm (Bg.dig (Bg.nv l1):List Int) fun l7 hl7=>?_;refine nm (Bg.sg0 (Bg.nv l2) i:Int) fun n5 hn5=>?_;refine nm (Bg.dig (Bg.nv l2):List Int) fun l8 hl8=>?_;refine V.gf [.u 1,.l 0,.u 1,.l 1,.ar (i * c) n1 hn1 (by rw [hn1];exact hsm.1) (by rw [hn1];exact hsm.2),.u 1,.ctT g0 6 85 [kB 2 l1 ((G6 4).ss 0)] (fun _ G=>signed_ctv n1 l1 ((G6 4).ss 0) (by subst_vars;exact Bg.dig_Dg _) n4 hn4 l7 hl7),.u 1,.l 0,.u 1,.ctT g0 10 85 [kB 3 l2 ((G6 4).ss 1)] (fun _ G=>signed_ctv i l2 ((G6 4).ss 1) (by subst_vars;exact Bg.dig_Dg _) n5 hn5 l8 hl8),.s 2,.s 3,.u 1] fun _ _ G9=>?_;intro S_ s_
  have e1:l7=Bg.oD ((Bg.RtB i f∧Bg.RtB c d)∧c≠0) (Bg.flo (Bg.zv i f) (Bg.zv c d)):=by
    rw [hl7,hl1];rw [Bg.oD_y hPD];exact Bg.qD hRR.1 hRR.2 hnz.1 hnn
  subst e1;have e3:l8=Bg.oD ((Bg.RtB i f∧Bg.RtB c d)∧c≠0) (Bg.fmo (Bg.zv i f) (Bg.zv c d)):=by
    rw [hl8,hl2];rw [Bg.oD_y hPD];exact Bg.rD hRR.1 hRR.2 hnz.1 hnn
  subst e3;have e0:n4=Bg.oS ((Bg.RtB i f∧Bg.RtB c d)∧c≠0) (Bg.flo (Bg.zv i f) (Bg.zv c d)):=by
    rw [hn4,hn1,hl1];rw [Bg.oS_y hPD];exact Bg.qS hRR.1 hRR.2 hnz.1 hnn
  have e2:n5=Bg.oS ((Bg.RtB i f∧Bg.RtB c d)∧c≠0) (Bg.fmo (Bg.zv i f) (Bg.zv c d)):=by
    rw [hn5,hl2];rw [Bg.oS_y hPD];exact Bg.rS hRR.1 hRR.2 hnz.1 hnn
  have e4:(0:Int)=if ¬ (Bg.RtB i f∧Bg.RtB c d) then (1:Int) else if c=0 then 15 else 0:=by rw [if_neg (fun h=>h hRR),if_neg hz0]
  exact V.rT [2,3,0] [(G9 6).ss 0,(G9 10).ss 0] [] [] [4,5] [] (cong3 (fun (xz0 xz2 xz4:Int)=>(.tuple #[.agg #[iv xz0,((G9 6).ss 0).v],.agg #[iv xz2,((G9 10).ss 0).v],iv xz4]:Value)) e0 e2 e4)
theorem Div_ctv (d:Int) (b:List Int) (e:SV) (a:Int) (c:List Int) (f:SV) (hla:b.length≤274877906944) (hlb:c.length≤274877906944) (rv0:Int) (erv0:rv0=Bg.oS ((Bg.RtB d b∧Bg.RtB a c)∧a≠0) (Bg.flo (Bg.zv d b) (Bg.zv a c))) (rv1:List Int) (erv1:rv1=Bg.oD ((Bg.RtB d b∧Bg.RtB a c)∧a≠0) (Bg.flo (Bg.zv d b) (Bg.zv a c))) (rv2:Int) (erv2:rv2=Bg.oS ((Bg.RtB d b∧Bg.RtB a c)∧a≠0) (Bg.fmo (Bg.zv d b) (Bg.zv a c))) (rv3:List Int) (erv3:rv3=Bg.oD ((Bg.RtB d b∧Bg.RtB a c)∧a≠0) (Bg.fmo (Bg.zv d b) (Bg.zv a c))) (rv4:Int) (erv4:rv4=if ¬ (Bg.RtB d b∧Bg.RtB a c) then (1:Int) else if a=0 then 15 else 0) :
    Ct Tryz.prog 78 #[ag (DBig.mk d ⟨b,e⟩),ag (DBig.mk a ⟨c,f⟩)] [fs true b e,fs true c f] [] (fun g=>.tuple #[ag (DBig.mk rv0 ⟨rv1,(g.ss 0)⟩),ag (DBig.mk rv2 ⟨rv3,(g.ss 1)⟩),iv rv4]) (fun g=>[fs true rv1 (g.ss 0),fs true rv3 (g.ss 1)]) (fun g=>[]) (fun g=>[]):=by
  subst erv0 erv1 erv2 erv3 erv4;exact Div_ct d b e a c f hla hlb

namespace Fr
open Bg
def FrB (ps:Int) (pd:List Int) (qs:Int) (qd:List Int):Prop:=RtB ps pd∧RtB qs qd∧qs=1∧Nat.gcd (nv pd) (nv qd)=1
instance (ps : Int) (pd : List Int) (qs : Int) (qd : List Int) : Decidable (FrB ps pd qs qd) := by unfold FrB; infer_instance
def fq (ps:Int) (pd qd:List Int):Rat:=mkRat (zv ps pd) (nv qd)
def rS (p:Prop) [Decidable p] (r:Rat):Int:=if p then sgn r.num else 0
def rD (p:Prop) [Decidable p] (r:Rat):List Int:=if p then dig r.num.natAbs else []
def rT (p:Prop) [Decidable p]:Int:=if p then 1 else 0
def rE (p:Prop) [Decidable p] (r:Rat):List Int:=if p then dig r.den else []
section
variable {p : Prop} [Decidable p]
theorem rS_y (h:p) (r:Rat):rS p r=sgn r.num:=if_pos h
theorem rD_y (h:p) (r:Rat):rD p r=dig r.num.natAbs:=if_pos h
theorem rT_y (h:p):rT p=1:=if_pos h
theorem rE_y (h:p) (r:Rat):rE p r=dig r.den:=if_pos h
theorem rS_n (h:¬ p) (r:Rat):rS p r=0:=if_neg h
theorem rD_n (h:¬ p) (r:Rat):rD p r=[]:=if_neg h
theorem rT_n (h:¬ p):rT p=0:=if_neg h
theorem rE_n (h:¬ p) (r:Rat):rE p r=[]:=if_neg h
end
section
variable {ps qs : Int} {pd qd : List Int}
theorem FrB.q0 (h:FrB ps pd qs qd):nv qd≠0:=by
  obtain ⟨h1,h2,h3,h4⟩:=h
  rcases h2.cases with ⟨_,e⟩ | ⟨e,_⟩ | ⟨e,_⟩ <;> omega
theorem FrB.q1 (h:FrB ps pd qs qd):zv qs qd=(nv qd:Int):=by
  obtain ⟨_,_,h3,_⟩:=h
  subst h3;unfold zv;omega
theorem FrB.is (h:FrB ps pd qs qd):(fq ps pd qd).num=zv ps pd∧(fq ps pd qd).den=nv qd:=by
  have hq:=h.q0
  obtain ⟨h1,h2,h3,h4⟩:=h
  have hc:(zv ps pd).natAbs.Coprime (nv qd):=by rw [h1.abs];exact h4
  have e:fq ps pd qd=⟨zv ps pd,nv qd,hq,hc⟩:=(Rat.mk_eq_mkRat _ _ hq hc).symm
  rw [e];exact ⟨rfl,rfl⟩
theorem FrB.num (h:FrB ps pd qs qd):(fq ps pd qd).num=zv ps pd:=h.is.1
theorem FrB.den (h:FrB ps pd qs qd):(fq ps pd qd).den=nv qd:=h.is.2
theorem FrB.eqs (h:FrB ps pd qs qd):ps=sgn (fq ps pd qd).num∧pd=dig (fq ps pd qd).num.natAbs∧qs=1∧qd=dig (fq ps pd qd).den:=by
  rw [h.num,h.den]
  exact ⟨h.1.sg.symm,h.1.eqd,h.2.2.1,h.2.1.eq⟩
theorem FrB.of (r:Rat):FrB (sgn r.num) (dig r.num.natAbs) 1 (dig r.den) :=
  ⟨RtB.of _,RtB.of1 r.den_nz,rfl,by rw [nv_dig,nv_dig];exact r.reduced⟩
theorem fq_of (r:Rat):fq (sgn r.num) (dig r.num.natAbs) (dig r.den)=r:=by
  unfold fq;rw [zv_of,nv_dig];exact Rat.mkRat_self r
theorem FrB.inj {ps' qs':Int} {pd' qd':List Int} (h:FrB ps pd qs qd) (k:FrB ps' pd' qs' qd') (e:fq ps pd qd=fq ps' pd' qd'):ps=ps'∧pd=pd'∧qs=qs'∧qd=qd':=by
  obtain ⟨a1,a2,a3,a4⟩:=h.eqs
  obtain ⟨b1,b2,b3,b4⟩:=k.eqs
  rw [e] at a1 a2 a4
  exact ⟨a1.trans b1.symm,a2.trans b2.symm,a3.trans b3.symm,a4.trans b4.symm⟩
theorem FrB.r {p:Prop} [Decidable p] (h:p) (r:Rat):FrB (rS p r) (rD p r) (rT p) (rE p r):=by
  rw [rS_y h,rD_y h,rT_y h,rE_y h];exact FrB.of r
theorem fq_r {p:Prop} [Decidable p] (h:p) (r:Rat):fq (rS p r) (rD p r) (rE p r)=r:=by
  rw [rS_y h,rD_y h,rE_y h];exact fq_of r
end
def Hb (r:Rat) (k:Nat):Prop:=r.num.natAbs < 1048576 ^ k∧r.den < 1048576 ^ k
theorem FrB.hb {ps qs:Int} {pd qd:List Int} (h:FrB ps pd qs qd) {k:Nat} (h1:pd.length≤k) (h2:qd.length≤k):Hb (fq ps pd qd) k:=by
  unfold Hb;rw [h.num,h.den,h.1.abs]
  exact ⟨Nat.lt_of_lt_of_le (nv_lt h.1.dg) (Nat.pow_le_pow_right (by omega) h1),Nat.lt_of_lt_of_le (nv_lt h.2.1.dg) (Nat.pow_le_pow_right (by omega) h2)⟩
theorem Hb.mono {r:Rat} {k m:Nat} (h:Hb r k) (e:k≤m):Hb r m :=
  ⟨Nat.lt_of_lt_of_le h.1 (Nat.pow_le_pow_right (by omega) e),Nat.lt_of_lt_of_le h.2 (Nat.pow_le_pow_right (by omega) e)⟩
theorem plt {a b A B:Nat} (h:a < A) (k:b < B):a * b < A * B:=by
  have h1:a * b≤a * B:=Nat.mul_le_mul_left a (Nat.le_of_lt k)
  have h2:a * B < A * B:=Nat.mul_lt_mul_of_pos_right h (by omega)
  omega
theorem Hb.pos {r:Rat} {k:Nat} (h:Hb r k):0 < k:=by
  rcases Nat.eq_zero_or_pos k with rfl | e
  · have h2:r.den < 1:=h.2
    have:=r.den_nz;omega
  · exact e
theorem Hb.mk {n:Int} {d k:Nat} (hk:0 < k) (h:n.natAbs < 1048576 ^ k) (e:d < 1048576 ^ k):Hb (mkRat n d) k:=by
  have hp:=Nat.pow_pos (n:=k) (show 0 < 1048576 by omega)
  unfold Hb
  rw [Rat.num_mkRat,Rat.den_mkRat]
  by_cases h0:d=0
  · rw [if_pos h0,if_pos h0]
    cases k with
    | zero=>omega
    | succ k=>refine ⟨hp,?_⟩;rw [pow_succ'];have:=Nat.pow_pos (n:=k) (show 0 < 1048576 by omega);omega
  · rw [if_neg h0,if_neg h0]
    refine ⟨Nat.lt_of_le_of_lt ?_ h,Nat.lt_of_le_of_lt (Nat.div_le_self _ _) e⟩
    exact Int.natAbs_ediv_le_natAbs _ _
theorem Hb.divI {n d:Int} {k:Nat} (hk:0 < k) (h:n.natAbs < 1048576 ^ k) (e:d.natAbs < 1048576 ^ k):Hb (Rat.divInt n d) k:=by
  rcases Int.lt_or_le d 0 with hd | hd
  · have:Rat.divInt n d=mkRat (-n) d.natAbs:=by
      rw [←Rat.divInt_ofNat,← Rat.neg_divInt_neg,show -d=(d.natAbs:Int) by omega]
    rw [this];exact Hb.mk hk (by rw [Int.natAbs_neg];exact h) e
  · have:Rat.divInt n d=mkRat n d.natAbs:=by rw [←Rat.divInt_ofNat,show d=(d.natAbs:Int) by omega];rfl
    rw [this];exact Hb.mk hk h e
theorem Hb.mul {a b:Rat} {i j:Nat} (h:Hb a i) (k:Hb b j):Hb (a * b) (i+j):=by
  rw [Rat.mul_def']
  have:=h.pos
  refine Hb.mk (by omega) ?_ ?_ <;> rw [Nat.pow_add]
  · rw [Int.natAbs_mul];exact plt h.1 k.1
  · exact plt h.2 k.2
theorem div_is (a b:Rat):a / b=Rat.divInt (a.num * b.den) (a.den * b.num):=by
  rw [Rat.div_def,Rat.inv_def]
  conv=>lhs;rw [←Rat.num_divInt_den a]
  exact Rat.divInt_mul_divInt _ _
theorem Hb.div {a b:Rat} {i j:Nat} (h:Hb a i) (k:Hb b j):Hb (a / b) (i+j):=by
  rw [div_is]
  have:=h.pos
  refine Hb.divI (by omega) ?_ ?_ <;> rw [Nat.pow_add,Int.natAbs_mul,Int.natAbs_natCast]
  · exact plt h.1 k.2
  · exact plt h.2 k.1
theorem Hb.neg {a:Rat} {i:Nat} (h:Hb a i):Hb (-a) i:=by
  unfold Hb;rw [Rat.neg_num,Rat.neg_den,Int.natAbs_neg];exact h
theorem Hb.add {a b:Rat} {i j:Nat} (h:Hb a i) (k:Hb b j):Hb (a+b) (i+j+1):=by
  rw [Rat.add_def']
  have h1:=plt h.1 k.2;have h2:=plt k.1 h.2;have h3:=plt h.2 k.2
  rw [←Nat.pow_add] at h1 h3
  rw [←Nat.pow_add,Nat.add_comm j i] at h2
  have hp:1048576 ^ (i+j+1)=1048576 * 1048576 ^ (i+j):=pow_succ' _
  refine Hb.mk (by omega) ?_ (by omega)
  have h4:=Int.natAbs_add_le (a.num * (b.den:Int)) (b.num * (a.den:Int))
  rw [Int.natAbs_mul,Int.natAbs_mul,Int.natAbs_natCast,Int.natAbs_natCast] at h4
  omega
theorem Hb.sub {a b:Rat} {i j:Nat} (h:Hb a i) (k:Hb b j):Hb (a - b) (i+j+1):=by
  rw [Rat.sub_eq_add_neg];exact h.add k.neg
theorem Hb.int {n:Int} (h: -9223372036854775808≤n∧n≤9223372036854775807):Hb (n:Rat) 4:=by
  unfold Hb;rw [Rat.num_intCast,Rat.den_intCast]
  have:(1048576:Nat) ^ 4=1208925819614629174706176:=by decide
  omega
def cmpQ (a b:Rat):Int:=if a < b then -1 else if a=b then 0 else 1
theorem cmpQ_is (a b:Rat):cmpI (a.num * b.den) (b.num * a.den)=cmpQ a b:=by
  unfold cmpI cmpQ
  by_cases h:a < b
  · rw [if_pos h,if_pos ((Rat.lt_iff a b).1 h)]
  · rw [if_neg h,if_neg fun k=>h ((Rat.lt_iff a b).2 k)]
    by_cases e:a=b
    · rw [if_pos e,if_pos (Rat.eq_iff_mul_eq_mul.1 e)]
    · rw [if_neg e,if_neg fun k=>e (Rat.eq_iff_mul_eq_mul.2 k)]
theorem red {n d:Int} (hd:0 < d):(Rat.divInt n d).num=n / (Nat.gcd n.natAbs d.natAbs:Int)∧((Rat.divInt n d).den:Int)=d / (Nat.gcd n.natAbs d.natAbs:Int):=by
  have e:Rat.divInt n d=mkRat n d.natAbs:=by rw [←Rat.divInt_ofNat,show d=(d.natAbs:Int) by omega];rfl
  rw [e,Rat.num_mkRat,Rat.den_mkRat,if_neg (by omega),if_neg (by omega),Nat.gcd_comm d.natAbs]
  refine ⟨rfl,?_⟩
  rw [Int.natCast_ediv,show ((d.natAbs:Nat):Int)=d by omega]
theorem flo_pos {a b:Int} (h:0 < b):flo a b=a / b:=if_pos h
end Fr

namespace Fr
open Bg
structure Bz (s:Int) (l:List Int) (z:Int):Prop where
  rt:RtB s l
  v:zv s l=z
section
variable {s t u x y : Int} {l m n : List Int}
theorem RtB.z (h:RtB s l):Bz s l (zv s l):=⟨h,rfl⟩
theorem Bz.of {p:Prop} [Decidable p] (h:p) (hs:s=oS p x) (hl:l=oD p x):Bz s l x:=by
  rw [oS_y h] at hs;rw [oD_y h] at hl;subst hs hl
  exact ⟨RtB.of x,zv_of x⟩
theorem Bz.nat (h:Bz s l x):nv l=x.natAbs:=by rw [←h.v,h.rt.abs]
theorem Bz.eqs (h:Bz s l x):s=sgn x∧l=dig x.natAbs:=by rw [←h.v];exact ⟨h.rt.sg.symm,h.rt.eqd⟩
theorem Bz.lt (h:Bz s l x):x.natAbs < 1048576 ^ l.length:=by rw [←h.nat];exact nv_lt h.rt.dg
theorem Bz.len (h:Bz s l x) {k:Nat} (e:x.natAbs < 1048576 ^ k):l.length≤k:=by rw [h.eqs.2];exact dig_lt e
theorem Bz.pos (h:Bz s l x) (e:0 < s):0 < x:=by
  rcases h.rt.cases with ⟨_,e'⟩ | ⟨a,e'⟩ | ⟨_,e'⟩
  · omega
  · have:=h.v;unfold zv at this;subst e';omega
  · omega
theorem Bz.neg0 (h:Bz s l x) (e:s < 0):x < 0:=by
  rcases h.rt.cases with ⟨_,e'⟩ | ⟨a,e'⟩ | ⟨a,e'⟩
  · omega
  · omega
  · have:=h.v;unfold zv at this;subst e';omega
theorem Bz.ne (h:Bz s l x):s≠0↔x≠0:=by
  rcases h.rt.cases with ⟨a,e'⟩ | ⟨a,e'⟩ | ⟨a,e'⟩ <;> have:=h.v <;> unfold zv at this <;> subst e' <;> omega
theorem Bz.mul (a:Bz s l x) (b:Bz t m y) (hs:u=oS (RtB s l∧RtB t m) (zv s l * zv t m)) (hl:n=oD (RtB s l∧RtB t m) (zv s l * zv t m)):Bz u n (x * y)∧n.length≤l.length+m.length:=by
  have h:=Bz.of ⟨a.rt,b.rt⟩ hs hl
  rw [a.v,b.v] at h
  refine ⟨h,h.len ?_⟩
  rw [Int.natAbs_mul,Nat.pow_add];exact plt a.lt b.lt
theorem Bz.add (a:Bz s l x) (b:Bz t m y) (hs:u=oS (RtB s l∧RtB t m) (zv s l+zv t m)) (hl:n=oD (RtB s l∧RtB t m) (zv s l+zv t m)):Bz u n (x+y)∧n.length≤l.length+m.length+1:=by
  have h:=Bz.of ⟨a.rt,b.rt⟩ hs hl
  rw [a.v,b.v] at h
  refine ⟨h,h.len ?_⟩
  have h1:=Nat.lt_of_lt_of_le a.lt (Nat.pow_le_pow_right (n:=1048576) (by omega) (Nat.le_add_right l.length m.length))
  have h2:=Nat.lt_of_lt_of_le b.lt (Nat.pow_le_pow_right (n:=1048576) (by omega) (Nat.le_add_left m.length l.length))
  rw [pow_succ']
  have:=Int.natAbs_add_le x y
  omega
theorem Bz.neg (a:Bz s l x) (hs:u=oS (RtB s l) (-zv s l)) (hl:n=oD (RtB s l) (-zv s l)):Bz u n (-x)∧n.length=l.length:=by
  have h:=Bz.of a.rt hs hl
  rw [a.v] at h
  refine ⟨h,?_⟩
  rw [h.eqs.2,a.eqs.2,Int.natAbs_neg]
theorem Bz.int {k:Int} (hs:u=sgn k) (hl:n=dig k.natAbs):Bz u n k:=by subst hs hl;exact ⟨RtB.of k,zv_of k⟩
theorem Bz.int_len {k:Int} (h:Bz u n k) (hk: -9223372036854775808≤k∧k≤9223372036854775807):n.length≤4:=by
  refine h.len ?_
  have:(1048576:Nat) ^ 4=1208925819614629174706176:=by decide
  omega
theorem Bz.gcd (a:Bz s l x) (b:Bz t m y) (hs:u=oS (RtB s l∧RtB t m) ((Nat.gcd (nv l) (nv m):Nat):Int)) (hl:n=oD (RtB s l∧RtB t m) ((Nat.gcd (nv l) (nv m):Nat):Int)):Bz u n ((Nat.gcd x.natAbs y.natAbs:Nat):Int):=by
  have h:=Bz.of ⟨a.rt,b.rt⟩ hs hl
  rw [a.nat,b.nat] at h;exact h
theorem Bz.div (a:Bz s l x) (b:Bz t m y) (hy:0 < y) (hs:u=oS ((RtB s l∧RtB t m)∧t≠0) (flo (zv s l) (zv t m))) (hl:n=oD ((RtB s l∧RtB t m)∧t≠0) (flo (zv s l) (zv t m))):Bz u n (x / y):=by
  have h:=Bz.of ⟨⟨a.rt,b.rt⟩,b.ne.2 (by omega)⟩ hs hl
  rw [a.v,b.v,flo_pos hy] at h;exact h
theorem Bz.gcd_len (a:Bz s l x) (b:Bz t m y) (hy:0 < y) (h:Bz u n ((Nat.gcd x.natAbs y.natAbs:Nat):Int)):n.length≤m.length:=by
  refine h.len (Nat.lt_of_le_of_lt ?_ b.lt)
  rw [Int.natAbs_natCast];exact Nat.le_of_dvd (by omega) (Nat.gcd_dvd_right _ _)
theorem Bz.inI (h:Bz s l x):Bg.inI s l↔ -9223372036854775808≤x∧x≤9223372036854775807:=by
  unfold Bg.inI;rw [h.v];exact ⟨fun k=>k.2,fun k=>⟨h.rt,k⟩⟩
theorem Bz.intV (h:Bz s l x) (k: -9223372036854775808≤x∧x≤9223372036854775807):Bg.intV s l=x:=by
  rw [intV_y (h.inI.2 k),h.v]
theorem one_is (h:Bz s l x):Bg.intV s l=1↔x=1:=by
  unfold Bg.intV
  by_cases k:Bg.inI s l
  · rw [if_pos k,h.v]
  · rw [if_neg k]
    exact ⟨fun e=>by omega,fun e=>(k (h.inI.2 (by omega))).elim⟩
end
structure Fz (ps:Int) (pd:List Int) (qs:Int) (qd:List Int) (r:Rat):Prop where
  rt:FrB ps pd qs qd
  v:fq ps pd qd=r
section
variable {ps qs : Int} {pd qd : List Int} {r r' : Rat}
theorem FrB.z (h:FrB ps pd qs qd):Fz ps pd qs qd (fq ps pd qd):=⟨h,rfl⟩
theorem Fz.of {p:Prop} [Decidable p] (h:p) (e1:ps=rS p r) (e2:pd=rD p r) (e3:qs=rT p) (e4:qd=rE p r):Fz ps pd qs qd r:=by
  subst e1 e2 e3 e4;exact ⟨FrB.r h r,fq_r h r⟩
theorem Fz.p (h:Fz ps pd qs qd r):Bz ps pd r.num:=⟨h.rt.1,by rw [←h.v,h.rt.num]⟩
theorem Fz.q (h:Fz ps pd qs qd r):Bz qs qd (r.den:Int):=⟨h.rt.2.1,by rw [←h.v,h.rt.den,h.rt.q1]⟩
theorem Fz.eqs (h:Fz ps pd qs qd r):ps=sgn r.num∧pd=dig r.num.natAbs∧qs=1∧qd=dig r.den:=by rw [←h.v];exact h.rt.eqs
theorem Fz.ret {p:Prop} [Decidable p] (h:Fz ps pd qs qd r) (hp:p) (e:r=r'):ps=rS p r'∧pd=rD p r'∧qs=rT p∧qd=rE p r':=by
  rw [rS_y hp,rD_y hp,rT_y hp,rE_y hp,← e];exact h.eqs
theorem Fz.no {p:Prop} [Decidable p] (hp:¬ p) (r':Rat):0=rS p r'∧[]=rD p r'∧0=rT p∧[]=rE p r':=by
  rw [rS_n hp,rD_n hp,rT_n hp,rE_n hp];exact ⟨rfl,rfl,rfl,rfl⟩
theorem Fz.inj {ps' qs':Int} {pd' qd':List Int} (h:Fz ps pd qs qd r) (k:Fz ps' pd' qs' qd' r):ps=ps'∧pd=pd'∧qs=qs'∧qd=qd':=h.rt.inj k.rt (h.v.trans k.v.symm)
theorem Fz.hb (h:Fz ps pd qs qd r) {k:Nat} (h1:pd.length≤k) (h2:qd.length≤k):Hb r k:=by rw [←h.v];exact h.rt.hb h1 h2
theorem Fz.len (h:Fz ps pd qs qd r) {k:Nat} (e:Hb r k):pd.length≤k∧qd.length≤k:=⟨h.p.len e.1,h.q.len (by rw [Int.natAbs_natCast];exact e.2)⟩
theorem Fz.den (h:Fz ps pd qs qd r):(r.den:Int)≠0:=by have:=r.den_nz;omega
end
section
variable {s t x y ps qs : Int} {l m pd qd : List Int}
theorem new_fin {gs sa sb:Int} {gd ad bd:List Int} (a:Bz s l x) (b:Bz t m y) (hy:0 < y) (g:Bz gs gd ((Nat.gcd x.natAbs y.natAbs:Nat):Int)) (ha:Bz sa ad (x / (Nat.gcd x.natAbs y.natAbs:Nat))) (hb:Bz sb bd (y / (Nat.gcd x.natAbs y.natAbs:Nat))):Fz sa ad sb bd (Rat.divInt x y):=by
  obtain ⟨e1,e2⟩:=red (n:=x) hy
  rw [←e1] at ha;rw [←e2] at hb
  obtain ⟨h1,h2⟩:=ha.eqs
  obtain ⟨h3,h4⟩:=hb.eqs
  have hd:sgn ((Rat.divInt x y).den:Int)=1:=by
    have:=(Rat.divInt x y).den_nz
    unfold sgn;rw [if_neg (by omega),if_neg (by omega)]
  rw [hd] at h3;rw [Int.natAbs_natCast] at h4
  subst h1 h2 h3 h4
  exact ⟨FrB.of _,fq_of _⟩
theorem new_is (a:Bz s l x) (b:Bz t m y) (hy:y≠0) (e1:ps=rS ((RtB s l∧RtB t m)∧t≠0) (Rat.divInt (zv s l) (zv t m))) (e2:pd=rD ((RtB s l∧RtB t m)∧t≠0) (Rat.divInt (zv s l) (zv t m)))
    (e3:qs=rT ((RtB s l∧RtB t m)∧t≠0)) (e4:qd=rE ((RtB s l∧RtB t m)∧t≠0) (Rat.divInt (zv s l) (zv t m))):Fz ps pd qs qd (Rat.divInt x y):=by
  have h:=Fz.of ⟨⟨a.rt,b.rt⟩,b.ne.2 hy⟩ e1 e2 e3 e4
  rw [a.v,b.v] at h;exact h
end
theorem gcd_pos {x y gs:Int} {gd:List Int} (g:Bz gs gd ((Nat.gcd x.natAbs y.natAbs:Nat):Int)) (hy:0 < y):0 < ((Nat.gcd x.natAbs y.natAbs:Nat):Int) :=
  Int.natCast_pos.2 (Nat.gcd_pos_of_pos_right _ (by omega))
theorem of_all {s t p q ps qs e:Int} {l m pd qd:List Int} (a:Bz s l p) (b:Bz t m q) (e1:ps=rS ((RtB s l∧RtB t m)∧t≠0) (Rat.divInt (zv s l) (zv t m))) (e2:pd=rD ((RtB s l∧RtB t m)∧t≠0) (Rat.divInt (zv s l) (zv t m)))
    (e3:qs=rT ((RtB s l∧RtB t m)∧t≠0)) (e4:qd=rE ((RtB s l∧RtB t m)∧t≠0) (Rat.divInt (zv s l) (zv t m))) (e5:e=if ¬ (RtB s l∧RtB t m) then 1 else if t=0 then 15 else 0) :
    ps=rS (q≠0) (Rat.divInt p q)∧pd=rD (q≠0) (Rat.divInt p q)∧qs=rT (q≠0)∧qd=rE (q≠0) (Rat.divInt p q)∧e=if q=0 then 15 else 0:=by
  have h0:=b.ne
  rw [if_neg (fun h=>h ⟨a.rt,b.rt⟩)] at e5
  by_cases hq:q=0
  · have ht:t=0:=Classical.byContradiction fun k=>h0.1 k hq
    rw [rS_n (fun h=>h.2 ht)] at e1;rw [rD_n (fun h=>h.2 ht)] at e2;rw [rT_n (fun h=>h.2 ht)] at e3;rw [rE_n (fun h=>h.2 ht)] at e4
    rw [if_pos ht] at e5
    rw [rS_n (fun h=>h hq),rD_n (fun h=>h hq),rT_n (fun h=>h hq),rE_n (fun h=>h hq),if_pos hq]
    exact ⟨e1,e2,e3,e4,e5⟩
  · have ht:¬ t=0:=h0.2 hq
    obtain ⟨a1,a2,a3,a4⟩:=(new_is a b hq e1 e2 e3 e4).ret (p:=q≠0) (r':=Rat.divInt p q) hq rfl
    rw [if_neg ht] at e5;rw [if_neg hq]
    exact ⟨a1,a2,a3,a4,e5⟩
theorem add_is (a b:Rat):Rat.divInt (a.num * b.den+b.num * a.den) (a.den * b.den)=a+b:=by
  rw [Rat.add_def',← Rat.divInt_ofNat,Int.natCast_mul]
theorem mul_is (a b:Rat):Rat.divInt (a.num * b.num) (a.den * b.den)=a * b:=by
  rw [Rat.mul_def',← Rat.divInt_ofNat,Int.natCast_mul]
theorem FrB.neg {ps qs:Int} {pd qd:List Int} {u:Int} {n:List Int} {r:Rat} (h:Fz ps pd qs qd r) (hs:u=oS (RtB ps pd) (-zv ps pd)) (hl:n=oD (RtB ps pd) (-zv ps pd)):Fz u n qs qd (-r):=by
  have k:=h.p.neg hs hl
  have e1:=k.1.eqs
  have e2:=h.eqs
  obtain ⟨rfl,rfl⟩:=e1
  obtain ⟨_,_,rfl,rfl⟩:=e2
  exact ⟨FrB.of (-r),fq_of (-r)⟩
theorem sgn_num {r:Rat}:(sgn r.num < 0↔r < 0)∧(sgn r.num=0↔r=0)∧(0 < sgn r.num↔0 < r):=by
  have h1:r < 0↔r.num < 0:=by rw [Rat.lt_iff];simp
  have h2:r=0↔r.num=0:=Rat.num_eq_zero.symm
  have h3:0 < r↔0 < r.num:=by rw [Rat.lt_iff];simp
  rw [h1,h2,h3];unfold sgn
  refine ⟨?_,?_,?_⟩ <;> split <;> (try split) <;> omega
end Fr

open Go Go.Proofs
set_option maxRecDepth 10000 in
theorem one_ct (b:Int) (a:List Int) (c:SV) :
    Cp Tryz.prog 47 #[ag (DBig.mk b ⟨a,c⟩)] [fs true a c] (bv (decide (Bg.intV b a=1))):=by
  refine V.fo mo Tryz.func47 15 1 fun w H ε k0=>?_;clear k0
  refine V.gf [.n 0,.kb false] fun _ _ G1=>?_;intro S s
  refine nm (Bg.intV b a:Int) fun n1 hn1=>?_;refine V.gf [.l 0,.cP 1 38 [kA 0 a c] fun G=>int_ctv b a c n1 hn1,.u 5] fun _ _ G2=>?_;intro S s
  refine nm ((decide (Bg.inI b a)) && (decide (n1=1)):Bool) fun p1 hp1=>?_;refine V.gf [.u 4,.andn g0 false (decide (Bg.inI b a)) (decide (n1=1)) p1 hp1,.u 1] fun _ _ G3=>?_;intro S s
  have e0:p1=(decide (Bg.intV b a=1)):=by
    refine Bool.eq_iff_iff.2 (Iff.trans (iN hp1 (iAT iDT iDT)) (Iff.trans ?_ decide_eq_true_iff.symm))
    subst_vars
    exact ⟨fun h=>h.2,fun h=>⟨Classical.byContradiction fun k=>by rw [Bg.intV_n k] at h;omega,h⟩⟩
  exact V.rT [0] [] [] [] [] [] (cong1 (fun (xz0:Bool)=>(bv xz0:Value)) e0)
set_option maxRecDepth 10000 in
theorem right_ct (e:Int) (a:List Int) (f:SV) (d:Int) (c:List Int) (i:SV) (hfP:a.length≤274877906944) (hfQ:c.length≤274877906944) :
    Cp Tryz.prog 17 #[ag (DFrac.mk ⟨e,a,f⟩ ⟨d,c,i⟩)] [fs true a f,fs true c i] (bv (decide (Fr.FrB e a d c))):=by
  refine V.fo mo Tryz.func17 35 2 fun w H ε k0=>?_;clear k0
  refine V.gf [.n 0,.kb false] fun _ _ G1=>?_;intro S_ s_
  refine nm ((!(decide (Bg.RtB e a))) || (!(decide (Bg.RtB d c))):Bool) fun p1 hp1=>?_;refine V.gf [.u 1,.l 0,.cP 2 45 [kA 0 a f] fun G=>bright_ct e a f,.u 3,.l 0,.cp (gF (b:=!(decide (Bg.RtB e a))) (iNF iDT)) 7 45 [kA 1 c i] (fun hg G=>bright_ct d c i),.u 1,.orn g0 false (!(decide (Bg.RtB e a))) (!(decide (Bg.RtB d c))) p1 hp1,.u 3,.l 0,.u 1,.or g0 false p1 (!(decide (d=1)))] fun _ _ G2=>?_;intro S_ s_
  refine V.cn (b:=p1 || (!(decide (d=1)))) (iOT (iN hp1 (iOT (iNT iDF) (iNT iDF))) (iNT iDF)) (iOF (iN hp1 (iOF (iNF iDT) (iNF iDT))) (iNF iDT)) (fun q1=>?_) (fun q2=>?_)
  · refine V.g [.kb false] fun _ _ G3=>?_;intro S_ s_
    have e0:false=decide (Fr.FrB e a d c):=by exact (decide_eq_false fun h=>by have hqq:=q1;rcases hqq with (h1 | h1) | h1;exact h1 h.1;exact h1 h.2.1;exact h1 h.2.2.1).symm
    exact V.rT [0] [] [] [] [] [] (cong1 (fun (xz0:Bool)=>(bv xz0:Value)) e0)
  have hR:(Bg.RtB e a∧Bg.RtB d c)∧d=1:=by have hqq:=q2;first | exact hqq | exact ⟨⟨Decidable.not_not.1 hqq.1.1,Decidable.not_not.1 hqq.1.2⟩,Decidable.not_not.1 hqq.2⟩
  obtain ⟨⟨hR1,hR2⟩,hR3⟩:=hR;refine nm (Bg.oS (Bg.RtB e a∧Bg.RtB d c) ((Nat.gcd (Bg.nv a) (Bg.nv c):Int)):Int) fun n1 hn1=>?_;refine nm (Bg.oD (Bg.RtB e a∧Bg.RtB d c) ((Nat.gcd (Bg.nv a) (Bg.nv c):Int)):List Int) fun l1 hl1=>?_;refine nm (if (Bg.RtB e a∧Bg.RtB d c) then (0:Int) else 1:Int) fun n2 hn2=>?_;have zg:=Fr.Bz.gcd (Fr.RtB.z hR1) (Fr.RtB.z hR2) hn1 hl1;have hge:n2=0:=by rw [hn2];exact if_pos ⟨hR1,hR2⟩
  have hga:Nat.gcd (Bg.zv e a).natAbs (Bg.zv d c).natAbs=Nat.gcd (Bg.nv a) (Bg.nv c):=by rw [(Fr.RtB.z hR1).nat,(Fr.RtB.z hR2).nat]
  have hgn:((Nat.gcd (Bg.zv e a).natAbs (Bg.zv d c).natAbs:Nat):Int)=1→Nat.gcd (Bg.nv a) (Bg.nv c)=1:=fun h=>by omega
  have hgm:Nat.gcd (Bg.nv a) (Bg.nv c)=1→((Nat.gcd (Bg.zv e a).natAbs (Bg.zv d c).natAbs:Nat):Int)=1:=fun h=>by omega
  refine V.gf [.u 1,.l 0,.u 1,.l 0,.cA 4 46 [kA 0 a f,kA 1 c i] fun G=>Gcd_ctv e a f d c i (by omega) (by omega) n1 hn1 l1 hl1 n2 hn2,.u 3,.n 1,.s 1,.u 1] fun _ _ G4=>?_;intro S_ s_
  refine nm ((decide (n2=0)) && (decide (Bg.intV n1 l1=1)):Bool) fun p2 hp2=>?_;refine V.gf [.u 3,.l 1,.cp (gT (b:=decide (n2=0)) iDT) 4 47 [kB 2 l1 ((G4 4).ss 0)] (fun hg G=>one_ct n1 l1 ((G4 4).ss 0)),.andn g0 false (decide (n2=0)) (decide (Bg.intV n1 l1=1)) p2 hp2,.u 1] fun _ _ G5=>?_;intro S_ s_
  have e0:p2=decide (Fr.FrB e a d c):=by
    refine Bool.eq_iff_iff.2 (Iff.trans (iN hp2 (iAT iDT iDT)) (Iff.trans ?_ decide_eq_true_iff.symm));rw [Fr.one_is zg,hge];constructor
    · rintro ⟨_,h⟩;exact ⟨hR1,hR2,hR3,hgn h⟩
    intro h;exact ⟨rfl,hgm h.2.2.2⟩
  exact V.rT [0] [] [] [] [] [] (cong1 (fun (xz0:Bool)=>(bv xz0:Value)) e0)
set_option maxRecDepth 10000 in
theorem times_ct (c:Int) (a:List Int) (e:SV) (d:Int) (b:List Int) (f:SV) (hla:a.length≤274877906944) (hlb:b.length≤274877906944) :
    Ct Tryz.prog 75 #[ag (DBig.mk c ⟨a,e⟩),ag (DBig.mk d ⟨b,f⟩)] [fs true a e,fs true b f] [] (fun g=>ag (DBig.mk (Bg.oS (Bg.RtB c a∧Bg.RtB d b) (Bg.zv c a * Bg.zv d b)) ⟨Bg.oD (Bg.RtB c a∧Bg.RtB d b) (Bg.zv c a * Bg.zv d b),(g.ss 0)⟩)) (fun g=>[fs true (Bg.oD (Bg.RtB c a∧Bg.RtB d b) (Bg.zv c a * Bg.zv d b)) (g.ss 0)]) (fun g=>[]) (fun g=>[]):=by
  refine V.fo mo Tryz.func75 14 4 fun w H ε k0=>?_;clear k0
  refine V.gf [.n 0,.n 1,.n 2] fun _ _ G1=>?_;intro S_ s_
  refine nm (Bg.oS (Bg.RtB c a∧Bg.RtB d b) (Bg.zv c a * Bg.zv d b):Int) fun n1 hn1=>?_;refine nm (Bg.oD (Bg.RtB c a∧Bg.RtB d b) (Bg.zv c a * Bg.zv d b):List Int) fun l1 hl1=>?_;refine nm (if (Bg.RtB c a∧Bg.RtB d b) then (0:Int) else 1:Int) fun n2 hn2=>?_;refine V.gf [.l 0,.l 1,.cA 2 117 [kA 0 a e,kA 1 b f] fun G=>Mul_ctv c a e d b f (by omega) (by omega) n1 hn1 l1 hl1 n2 hn2,.u 3,.n 3,.s 3,.u 1] fun _ _ G2=>?_;intro S_ s_
  refine V.gf [.l 3,.s 2] fun _ _ G3=>?_;intro S_ s_
  have e1:l1=Bg.oD (Bg.RtB c a∧Bg.RtB d b) (Bg.zv c a * Bg.zv d b):=by rw [hl1]
  subst e1;have e0:n1=Bg.oS (Bg.RtB c a∧Bg.RtB d b) (Bg.zv c a * Bg.zv d b):=by rw [hn1]
  exact V.rT [2] [(G2 2).ss 0] [] [] [2] [] (cong1 (fun (xz0:Int)=>(.agg #[iv xz0,((G2 2).ss 0).v]:Value)) e0)
theorem times_ctv (c:Int) (a:List Int) (e:SV) (d:Int) (b:List Int) (f:SV) (hla:a.length≤274877906944) (hlb:b.length≤274877906944) (rv0:Int) (erv0:rv0=Bg.oS (Bg.RtB c a∧Bg.RtB d b) (Bg.zv c a * Bg.zv d b)) (rv1:List Int) (erv1:rv1=Bg.oD (Bg.RtB c a∧Bg.RtB d b) (Bg.zv c a * Bg.zv d b)) :
    Ct Tryz.prog 75 #[ag (DBig.mk c ⟨a,e⟩),ag (DBig.mk d ⟨b,f⟩)] [fs true a e,fs true b f] [] (fun g=>ag (DBig.mk rv0 ⟨rv1,(g.ss 0)⟩)) (fun g=>[fs true rv1 (g.ss 0)]) (fun g=>[]) (fun g=>[]):=by
  subst erv0 erv1;exact times_ct c a e d b f hla hlb
set_option maxRecDepth 10000 in
theorem new_ct (e:Int) (d:List Int) (f:SV) (a:Int) (c:List Int) (i:SV) (hlp:d.length≤274877906944) (hlq:c.length≤274877906944) :
    Ct Tryz.prog 74 #[ag (DBig.mk e ⟨d,f⟩),ag (DBig.mk a ⟨c,i⟩)] [fs true d f,fs true c i] [] (fun g=>.tuple #[ag (DFrac.mk ⟨(Fr.rS ((Bg.RtB e d∧Bg.RtB a c)∧a≠0) (Rat.divInt (Bg.zv e d) (Bg.zv a c))),Fr.rD ((Bg.RtB e d∧Bg.RtB a c)∧a≠0) (Rat.divInt (Bg.zv e d) (Bg.zv a c)),(g.ss 0)⟩ ⟨(Fr.rT ((Bg.RtB e d∧Bg.RtB a c)∧a≠0)),Fr.rE ((Bg.RtB e d∧Bg.RtB a c)∧a≠0) (Rat.divInt (Bg.zv e d) (Bg.zv a c)),(g.ss 1)⟩),iv (if ¬ (Bg.RtB e d∧Bg.RtB a c) then (1:Int) else if a=0 then 15 else 0)]) (fun g=>[fs true (Fr.rD ((Bg.RtB e d∧Bg.RtB a c)∧a≠0) (Rat.divInt (Bg.zv e d) (Bg.zv a c))) (g.ss 0),fs true (Fr.rE ((Bg.RtB e d∧Bg.RtB a c)∧a≠0) (Rat.divInt (Bg.zv e d) (Bg.zv a c))) (g.ss 1)]) (fun g=>[]) (fun g=>[]):=by
  refine V.fo mo Tryz.func74 60 8 fun w H ε k0=>?_;clear k0
  refine V.gf [.n 0,.n 1,.n 2,.u 1] fun _ _ G1=>?_;intro S_ s_
  refine nm ((!(decide (Bg.RtB e d))) || (!(decide (Bg.RtB a c))):Bool) fun p1 hp1=>?_;refine V.gf [.l 0,.cP 1 45 [kA 0 d f] fun G=>bright_ct e d f,.u 2,.l 1,.cp (gF (b:=!(decide (Bg.RtB e d))) (iNF iDT)) 5 45 [kA 1 c i] (fun hg G=>bright_ct a c i),.u 1,.orn g0 false (!(decide (Bg.RtB e d))) (!(decide (Bg.RtB a c))) p1 hp1,.u 1] fun _ _ G2=>?_;intro S_ s_
  refine V.cn (b:=p1) (iN hp1 (iOT (iNT iDF) (iNT iDF))) (iN hp1 (iOF (iNF iDT) (iNF iDT))) (fun q1=>?_) (fun q2=>?_)
  · have hNR:¬ (Bg.RtB e d∧Bg.RtB a c):=by rintro ⟨h1,h2⟩;rcases q1 with h | h;exact h h1;exact h h2
    refine V.gf [.u 1,.s 2,.u 1] fun _ _ G3=>?_;intro S_ s_
    refine V.nilF (α:=Int) ?_;refine V.nilF (α:=Int) ?_;have e1:([]:List Int)=Fr.rD ((Bg.RtB e d∧Bg.RtB a c)∧a≠0) (Rat.divInt (Bg.zv e d) (Bg.zv a c)):=(Fr.Fz.no (fun h=>hNR h.1) (Rat.divInt (Bg.zv e d) (Bg.zv a c))).2.1;rw [←e1];have e3:([]:List Int)=Fr.rE ((Bg.RtB e d∧Bg.RtB a c)∧a≠0) (Rat.divInt (Bg.zv e d) (Bg.zv a c)):=(Fr.Fz.no (fun h=>hNR h.1) (Rat.divInt (Bg.zv e d) (Bg.zv a c))).2.2.2;rw [←e3];have e0:(0:Int)=Fr.rS ((Bg.RtB e d∧Bg.RtB a c)∧a≠0) (Rat.divInt (Bg.zv e d) (Bg.zv a c)):=(Fr.Fz.no (fun h=>hNR h.1) (Rat.divInt (Bg.zv e d) (Bg.zv a c))).1;have e2:(0:Int)=Fr.rT ((Bg.RtB e d∧Bg.RtB a c)∧a≠0):=(Fr.Fz.no (fun h=>hNR h.1) (Rat.divInt (Bg.zv e d) (Bg.zv a c))).2.2.1;have e4:(1:Int)=if ¬ (Bg.RtB e d∧Bg.RtB a c) then (1:Int) else if a=0 then 15 else 0:=(if_pos hNR).symm
    exact V.rT [2,0] [] [] [] [2,3] [] (cong3 (fun (xz0 xz2 xz4:Int)=>(.tuple #[.agg #[iv xz0,SV.v ({}),iv xz2,SV.v ({})],iv xz4]:Value)) e0 e2 e4)
  have hRR:(Bg.RtB e d∧Bg.RtB a c):=by first | exact q2 | exact ⟨Decidable.not_not.1 (q2).1,Decidable.not_not.1 (q2).2⟩
  refine V.gf [.u 1,.l 1,.u 2] fun _ _ G4=>?_;intro S_ s_
  refine V.cn (b:=decide (a=0)) iDT iDF (fun q3=>?_) (fun q4=>?_)
  · have hz0:a=0:=q3;refine V.gf [.u 1,.s 2,.u 1] fun _ _ G5=>?_;intro S_ s_
    refine V.nilF (α:=Int) ?_;refine V.nilF (α:=Int) ?_;have e1:([]:List Int)=Fr.rD ((Bg.RtB e d∧Bg.RtB a c)∧a≠0) (Rat.divInt (Bg.zv e d) (Bg.zv a c)):=(Fr.Fz.no (fun h=>h.2 hz0) (Rat.divInt (Bg.zv e d) (Bg.zv a c))).2.1;rw [←e1];have e3:([]:List Int)=Fr.rE ((Bg.RtB e d∧Bg.RtB a c)∧a≠0) (Rat.divInt (Bg.zv e d) (Bg.zv a c)):=(Fr.Fz.no (fun h=>h.2 hz0) (Rat.divInt (Bg.zv e d) (Bg.zv a c))).2.2.2;rw [←e3];have e0:(0:Int)=Fr.rS ((Bg.RtB e d∧Bg.RtB a c)∧a≠0) (Rat.divInt (Bg.zv e d) (Bg.zv a c)):=(Fr.Fz.no (fun h=>h.2 hz0) (Rat.divInt (Bg.zv e d) (Bg.zv a c))).1;have e2:(0:Int)=Fr.rT ((Bg.RtB e d∧Bg.RtB a c)∧a≠0):=(Fr.Fz.no (fun h=>h.2 hz0) (Rat.divInt (Bg.zv e d) (Bg.zv a c))).2.2.1;have e4:(15:Int)=if ¬ (Bg.RtB e d∧Bg.RtB a c) then (1:Int) else if a=0 then 15 else 0:=by rw [if_neg (fun h=>h hRR),if_pos hz0]
    exact V.rT [2,0] [] [] [] [2,3] [] (cong3 (fun (xz0 xz2 xz4:Int)=>(.tuple #[.agg #[iv xz0,SV.v ({}),iv xz2,SV.v ({})],iv xz4]:Value)) e0 e2 e4)
  have hz0:¬ a=0:=q4;refine V.gf [.u 1,.l 1,.u 2] fun _ _ G6=>?_;intro S_ s_
  refine V.cn (b:=decide (a < 0)) iDT iDF (fun q5=>?_) (fun q6=>?_)
  · refine nm (Bg.oS (Bg.RtB e d) (-Bg.zv e d):Int) fun n1 hn1=>?_;refine nm (Bg.oD (Bg.RtB e d) (-Bg.zv e d):List Int) fun l1 hl1=>?_;refine nm (Bg.oS (Bg.RtB a c) (-Bg.zv a c):Int) fun n2 hn2=>?_;refine nm (Bg.oD (Bg.RtB a c) (-Bg.zv a c):List Int) fun l2 hl2=>?_;obtain ⟨zp,zpl⟩:=Fr.Bz.neg (Fr.RtB.z hRR.1) hn1 hl1
    obtain ⟨zq,zql⟩:=Fr.Bz.neg (Fr.RtB.z hRR.2) hn2 hl2;have hyp:0 < -(Bg.zv a c):=by have:=(Fr.RtB.z hRR.2).neg0 q5;omega
    have hdv:Rat.divInt (-(Bg.zv e d)) (-(Bg.zv a c))=Rat.divInt (Bg.zv e d) (Bg.zv a c):=Rat.neg_divInt_neg _ _;refine V.gf [.l 0,.cA 1 79 [kA 0 d f] fun G=>neg_ctv e d f (by omega) n1 hn1 l1 hl1,.l 1,.cA 3 79 [kA 1 c i] fun G=>neg_ctv a c i (by omega) n2 hn2 l2 hl2,.s 0,.s 1] fun _ _ G7=>?_;intro S_ s_
    refine nm (Bg.oS (Bg.RtB n1 l1∧Bg.RtB n2 l2) ((Nat.gcd (Bg.nv l1) (Bg.nv l2):Int)):Int) fun n3 hn3=>?_;refine nm (Bg.oD (Bg.RtB n1 l1∧Bg.RtB n2 l2) ((Nat.gcd (Bg.nv l1) (Bg.nv l2):Int)):List Int) fun l3 hl3=>?_;refine nm (if (Bg.RtB n1 l1∧Bg.RtB n2 l2) then (0:Int) else 1:Int) fun n4 hn4=>?_;have zg:=Fr.Bz.gcd zp zq hn3 hl3
    have zgl:=Fr.Bz.gcd_len zp zq hyp zg;have hg0:=Fr.gcd_pos zg hyp;refine V.gf [.l 0,.l 1,.cA 2 46 [kB 2 l1 ((G7 1).ss 0),kB 3 l2 ((G7 3).ss 0)] fun G=>Gcd_ctv n1 l1 ((G7 1).ss 0) n2 l2 ((G7 3).ss 0) (by omega) (by omega) n3 hn3 l3 hl3 n4 hn4,.u 3,.n 3,.s 3,.u 1] fun _ _ G8=>?_;intro S_ s_
    refine nm (Bg.oS ((Bg.RtB n1 l1∧Bg.RtB n3 l3)∧n3≠0) (Bg.flo (Bg.zv n1 l1) (Bg.zv n3 l3)):Int) fun n5 hn5=>?_;refine nm (Bg.oD ((Bg.RtB n1 l1∧Bg.RtB n3 l3)∧n3≠0) (Bg.flo (Bg.zv n1 l1) (Bg.zv n3 l3)):List Int) fun l4 hl4=>?_;refine nm (Bg.oS ((Bg.RtB n1 l1∧Bg.RtB n3 l3)∧n3≠0) (Bg.fmo (Bg.zv n1 l1) (Bg.zv n3 l3)):Int) fun n6 hn6=>?_;refine nm (Bg.oD ((Bg.RtB n1 l1∧Bg.RtB n3 l3)∧n3≠0) (Bg.fmo (Bg.zv n1 l1) (Bg.zv n3 l3)):List Int) fun l5 hl5=>?_;refine nm (if ¬ (Bg.RtB n1 l1∧Bg.RtB n3 l3) then (1:Int) else if n3=0 then 15 else 0:Int) fun n7 hn7=>?_;have za:=Fr.Bz.div zp zg hg0 hn5 hl4
    refine V.gf [.l 0,.l 3,.cA 2 78 [kB 2 l1 ((G7 1).ss 0),kB 4 l3 ((G8 2).ss 0)] fun G=>Div_ctv n1 l1 ((G7 1).ss 0) n3 l3 ((G8 2).ss 0) (by omega) (by omega) n5 hn5 l4 hl4 n6 hn6 l5 hl5 n7 hn7,.u 4,.n 4,.n 5,.s 4,.s 5,.u 1] fun _ _ G9=>?_;intro S_ s_
    refine nm (Bg.oS ((Bg.RtB n2 l2∧Bg.RtB n3 l3)∧n3≠0) (Bg.flo (Bg.zv n2 l2) (Bg.zv n3 l3)):Int) fun n8 hn8=>?_;refine nm (Bg.oD ((Bg.RtB n2 l2∧Bg.RtB n3 l3)∧n3≠0) (Bg.flo (Bg.zv n2 l2) (Bg.zv n3 l3)):List Int) fun l6 hl6=>?_;refine nm (Bg.oS ((Bg.RtB n2 l2∧Bg.RtB n3 l3)∧n3≠0) (Bg.fmo (Bg.zv n2 l2) (Bg.zv n3 l3)):Int) fun n9 hn9=>?_;refine nm (Bg.oD ((Bg.RtB n2 l2∧Bg.RtB n3 l3)∧n3≠0) (Bg.fmo (Bg.zv n2 l2) (Bg.zv n3 l3)):List Int) fun l7 hl7=>?_;refine nm (if ¬ (Bg.RtB n2 l2∧Bg.RtB n3 l3) then (1:Int) else if n3=0 then 15 else 0:Int) fun n10 hn10=>?_;have zb:=Fr.Bz.div zq zg hg0 hn8 hl6
    refine V.gf [.l 1,.l 3,.cA 2 78 [kB 3 l2 ((G7 3).ss 0),kB 4 l3 ((G8 2).ss 0)] fun G=>Div_ctv n2 l2 ((G7 3).ss 0) n3 l3 ((G8 2).ss 0) (by omega) (by omega) n8 hn8 l6 hl6 n9 hn9 l7 hl7 n10 hn10,.u 4,.n 6,.n 7,.s 6,.s 7,.u 1] fun _ _ G10=>?_;intro S_ s_
    refine V.gf [.l 4,.l 6,.u 1,.s 2,.u 1] fun _ _ G11=>?_;intro S_ s_
    have e1:l4=Fr.rD ((Bg.RtB e d∧Bg.RtB a c)∧a≠0) (Rat.divInt (Bg.zv e d) (Bg.zv a c)):=(Fr.Fz.ret (Fr.new_fin zp zq hyp zg za zb) ⟨hRR,hz0⟩ (hdv)).2.1;subst e1;have e3:l6=Fr.rE ((Bg.RtB e d∧Bg.RtB a c)∧a≠0) (Rat.divInt (Bg.zv e d) (Bg.zv a c)):=(Fr.Fz.ret (Fr.new_fin zp zq hyp zg za zb) ⟨hRR,hz0⟩ (hdv)).2.2.2;subst e3;have e0:n5=Fr.rS ((Bg.RtB e d∧Bg.RtB a c)∧a≠0) (Rat.divInt (Bg.zv e d) (Bg.zv a c)):=(Fr.Fz.ret (Fr.new_fin zp zq hyp zg za zb) ⟨hRR,hz0⟩ (hdv)).1;have e2:n8=Fr.rT ((Bg.RtB e d∧Bg.RtB a c)∧a≠0):=(Fr.Fz.ret (Fr.new_fin zp zq hyp zg za zb) ⟨hRR,hz0⟩ (hdv)).2.2.1;have e4:(0:Int)=if ¬ (Bg.RtB e d∧Bg.RtB a c) then (1:Int) else if a=0 then 15 else 0:=by rw [if_neg (fun h=>h hRR),if_neg hz0]
    exact V.rT [2,0] [(G9 2).ss 0,(G10 2).ss 0] [] [] [5,7] [] (cong3 (fun (xz0 xz2 xz4:Int)=>(.tuple #[.agg #[iv xz0,((G9 2).ss 0).v,iv xz2,((G10 2).ss 0).v],iv xz4]:Value)) e0 e2 e4)
  have zp:=Fr.RtB.z hRR.1;have zq:=Fr.RtB.z hRR.2;have hyp:0 < (Bg.zv a c):=zq.pos (by omega);have hdv:Rat.divInt (Bg.zv e d) (Bg.zv a c)=Rat.divInt (Bg.zv e d) (Bg.zv a c):=rfl;refine nm (Bg.oS (Bg.RtB e d∧Bg.RtB a c) ((Nat.gcd (Bg.nv d) (Bg.nv c):Int)):Int) fun n11 hn11=>?_;refine nm (Bg.oD (Bg.RtB e d∧Bg.RtB a c) ((Nat.gcd (Bg.nv d) (Bg.nv c):Int)):List Int) fun l8 hl8=>?_;refine nm (if (Bg.RtB e d∧Bg.RtB a c) then (0:Int) else 1:Int) fun n12 hn12=>?_;have zg:=Fr.Bz.gcd zp zq hn11 hl8
  have zgl:=Fr.Bz.gcd_len zp zq hyp zg;have hg0:=Fr.gcd_pos zg hyp;refine V.gf [.l 0,.l 1,.cA 2 46 [kA 0 d f,kA 1 c i] fun G=>Gcd_ctv e d f a c i (by omega) (by omega) n11 hn11 l8 hl8 n12 hn12,.u 3,.n 3,.s 3,.u 1] fun _ _ G12=>?_;intro S_ s_
  refine nm (Bg.oS ((Bg.RtB e d∧Bg.RtB n11 l8)∧n11≠0) (Bg.flo (Bg.zv e d) (Bg.zv n11 l8)):Int) fun n13 hn13=>?_;refine nm (Bg.oD ((Bg.RtB e d∧Bg.RtB n11 l8)∧n11≠0) (Bg.flo (Bg.zv e d) (Bg.zv n11 l8)):List Int) fun l9 hl9=>?_;refine nm (Bg.oS ((Bg.RtB e d∧Bg.RtB n11 l8)∧n11≠0) (Bg.fmo (Bg.zv e d) (Bg.zv n11 l8)):Int) fun n14 hn14=>?_;refine nm (Bg.oD ((Bg.RtB e d∧Bg.RtB n11 l8)∧n11≠0) (Bg.fmo (Bg.zv e d) (Bg.zv n11 l8)):List Int) fun l10 hl10=>?_;refine nm (if ¬ (Bg.RtB e d∧Bg.RtB n11 l8) then (1:Int) else if n11=0 then 15 else 0:Int) fun n15 hn15=>?_;have za:=Fr.Bz.div zp zg hg0 hn13 hl9
  refine V.gf [.l 0,.l 3,.cA 2 78 [kA 0 d f,kB 2 l8 ((G12 2).ss 0)] fun G=>Div_ctv e d f n11 l8 ((G12 2).ss 0) (by omega) (by omega) n13 hn13 l9 hl9 n14 hn14 l10 hl10 n15 hn15,.u 4,.n 4,.n 5,.s 4,.s 5,.u 1] fun _ _ G13=>?_;intro S_ s_
  refine nm (Bg.oS ((Bg.RtB a c∧Bg.RtB n11 l8)∧n11≠0) (Bg.flo (Bg.zv a c) (Bg.zv n11 l8)):Int) fun n16 hn16=>?_;refine nm (Bg.oD ((Bg.RtB a c∧Bg.RtB n11 l8)∧n11≠0) (Bg.flo (Bg.zv a c) (Bg.zv n11 l8)):List Int) fun l11 hl11=>?_;refine nm (Bg.oS ((Bg.RtB a c∧Bg.RtB n11 l8)∧n11≠0) (Bg.fmo (Bg.zv a c) (Bg.zv n11 l8)):Int) fun n17 hn17=>?_;refine nm (Bg.oD ((Bg.RtB a c∧Bg.RtB n11 l8)∧n11≠0) (Bg.fmo (Bg.zv a c) (Bg.zv n11 l8)):List Int) fun l12 hl12=>?_;refine nm (if ¬ (Bg.RtB a c∧Bg.RtB n11 l8) then (1:Int) else if n11=0 then 15 else 0:Int) fun n18 hn18=>?_;have zb:=Fr.Bz.div zq zg hg0 hn16 hl11
  refine V.gf [.l 1,.l 3,.cA 2 78 [kA 1 c i,kB 2 l8 ((G12 2).ss 0)] fun G=>Div_ctv a c i n11 l8 ((G12 2).ss 0) (by omega) (by omega) n16 hn16 l11 hl11 n17 hn17 l12 hl12 n18 hn18,.u 4,.n 6,.n 7,.s 6,.s 7,.u 1] fun _ _ G14=>?_;intro S_ s_
  refine V.gf [.l 4,.l 6,.u 1,.s 2,.u 1] fun _ _ G15=>?_;intro S_ s_
  have e1:l9=Fr.rD ((Bg.RtB e d∧Bg.RtB a c)∧a≠0) (Rat.divInt (Bg.zv e d) (Bg.zv a c)):=(Fr.Fz.ret (Fr.new_fin zp zq hyp zg za zb) ⟨hRR,hz0⟩ (hdv)).2.1;subst e1;have e3:l11=Fr.rE ((Bg.RtB e d∧Bg.RtB a c)∧a≠0) (Rat.divInt (Bg.zv e d) (Bg.zv a c)):=(Fr.Fz.ret (Fr.new_fin zp zq hyp zg za zb) ⟨hRR,hz0⟩ (hdv)).2.2.2;subst e3;have e0:n13=Fr.rS ((Bg.RtB e d∧Bg.RtB a c)∧a≠0) (Rat.divInt (Bg.zv e d) (Bg.zv a c)):=(Fr.Fz.ret (Fr.new_fin zp zq hyp zg za zb) ⟨hRR,hz0⟩ (hdv)).1;have e2:n16=Fr.rT ((Bg.RtB e d∧Bg.RtB a c)∧a≠0):=(Fr.Fz.ret (Fr.new_fin zp zq hyp zg za zb) ⟨hRR,hz0⟩ (hdv)).2.2.1;have e4:(0:Int)=if ¬ (Bg.RtB e d∧Bg.RtB a c) then (1:Int) else if a=0 then 15 else 0:=by rw [if_neg (fun h=>h hRR),if_neg hz0]
  exact V.rT [2,0] [(G13 2).ss 0,(G14 2).ss 0] [] [] [3,5] [] (cong3 (fun (xz0 xz2 xz4:Int)=>(.tuple #[.agg #[iv xz0,((G13 2).ss 0).v,iv xz2,((G14 2).ss 0).v],iv xz4]:Value)) e0 e2 e4)
theorem new_ctv (d:Int) (b:List Int) (e:SV) (a:Int) (c:List Int) (f:SV) (hlp:b.length≤274877906944) (hlq:c.length≤274877906944) (rv0:Int) (erv0:rv0=Fr.rS ((Bg.RtB d b∧Bg.RtB a c)∧a≠0) (Rat.divInt (Bg.zv d b) (Bg.zv a c))) (rv1:List Int) (erv1:rv1=Fr.rD ((Bg.RtB d b∧Bg.RtB a c)∧a≠0) (Rat.divInt (Bg.zv d b) (Bg.zv a c))) (rv2:Int) (erv2:rv2=Fr.rT ((Bg.RtB d b∧Bg.RtB a c)∧a≠0)) (rv3:List Int) (erv3:rv3=Fr.rE ((Bg.RtB d b∧Bg.RtB a c)∧a≠0) (Rat.divInt (Bg.zv d b) (Bg.zv a c))) (rv4:Int) (erv4:rv4=if ¬ (Bg.RtB d b∧Bg.RtB a c) then (1:Int) else if a=0 then 15 else 0) :
    Ct Tryz.prog 74 #[ag (DBig.mk d ⟨b,e⟩),ag (DBig.mk a ⟨c,f⟩)] [fs true b e,fs true c f] [] (fun g=>.tuple #[ag (DFrac.mk ⟨rv0,rv1,(g.ss 0)⟩ ⟨rv2,rv3,(g.ss 1)⟩),iv rv4]) (fun g=>[fs true rv1 (g.ss 0),fs true rv3 (g.ss 1)]) (fun g=>[]) (fun g=>[]):=by
  subst erv0 erv1 erv2 erv3 erv4;exact new_ct d b e a c f hlp hlq
set_option maxRecDepth 10000 in
theorem fof_ct (p q:Int) (hp: -9223372036854775808≤p∧p≤9223372036854775807) (hq: -9223372036854775808≤q∧q≤9223372036854775807) :
    Ct Tryz.prog 34 #[iv p,iv q] [] [] (fun g=>.tuple #[ag (DFrac.mk ⟨(Fr.rS (q≠0) (Rat.divInt p q)),Fr.rD (q≠0) (Rat.divInt p q),(g.ss 0)⟩ ⟨(Fr.rT (q≠0)),Fr.rE (q≠0) (Rat.divInt p q),(g.ss 1)⟩),iv (if q=0 then (15:Int) else 0)]) (fun g=>[fs true (Fr.rD (q≠0) (Rat.divInt p q)) (g.ss 0),fs true (Fr.rE (q≠0) (Rat.divInt p q)) (g.ss 1)]) (fun g=>[]) (fun g=>[]):=by
  refine V.fo mo Tryz.func34 13 1 fun w H ε k0=>?_;clear k0
  refine V.gf [.n 0,.u 1] fun _ _ G1=>?_;intro S_ s_
  refine nm (Bg.sgn p:Int) fun n1 hn1=>?_;refine nm (Bg.dig p.natAbs:List Int) fun l1 hl1=>?_;refine nm (Bg.sgn q:Int) fun n2 hn2=>?_;refine nm (Bg.dig q.natAbs:List Int) fun l2 hl2=>?_;refine nm (Fr.rS ((Bg.RtB n1 l1∧Bg.RtB n2 l2)∧n2≠0) (Rat.divInt (Bg.zv n1 l1) (Bg.zv n2 l2)):Int) fun n3 hn3=>?_;refine nm (Fr.rD ((Bg.RtB n1 l1∧Bg.RtB n2 l2)∧n2≠0) (Rat.divInt (Bg.zv n1 l1) (Bg.zv n2 l2)):List Int) fun l3 hl3=>?_;refine nm (Fr.rT ((Bg.RtB n1 l1∧Bg.RtB n2 l2)∧n2≠0):Int) fun n4 hn4=>?_;refine nm (Fr.rE ((Bg.RtB n1 l1∧Bg.RtB n2 l2)∧n2≠0) (Rat.divInt (Bg.zv n1 l1) (Bg.zv n2 l2)):List Int) fun l4 hl4=>?_;refine nm (if ¬ (Bg.RtB n1 l1∧Bg.RtB n2 l2) then (1:Int) else if n2=0 then 15 else 0:Int) fun n5 hn5=>?_;have zp:=Fr.Bz.int hn1 hl1
  have zq:=Fr.Bz.int hn2 hl2;have zpl:=zp.int_len hp;have zql:=zq.int_len hq;obtain ⟨en1,en2,en3,en4,en5⟩:=Fr.of_all zp zq hn3 hl3 hn4 hl4 hn5;refine V.gf [.u 1,.cA 1 77 [] fun G=>of_ctv p (by omega) n1 hn1 l1 hl1,.u 1,.cA 3 77 [] fun G=>of_ctv q (by omega) n2 hn2 l2 hl2,.cA 4 74 [(kf true (.g 1 0) l1 (fun G=>(G 1).ss 0)).a,(kf true (.g 3 0) l2 (fun G=>(G 3).ss 0)).a] fun G=>new_ctv n1 l1 ((G 1).ss 0) n2 l2 ((G 3).ss 0) (by omega) (by omega) n3 hn3 l3 hl3 n4 hn4 l4 hl4 n5 hn5,.u 2,.s 0,.u 1] fun _ _ G2=>?_;intro S_ s_
  have e1:l3=Fr.rD (q≠0) (Rat.divInt p q):=en2;subst e1;have e3:l4=Fr.rE (q≠0) (Rat.divInt p q):=en4;subst e3;have e0:n3=Fr.rS (q≠0) (Rat.divInt p q):=en1;have e2:n4=Fr.rT (q≠0):=en3;have e4:n5=if q=0 then (15:Int) else 0:=en5
  exact V.rT [0,0] [(G2 4).ss 0,(G2 4).ss 1] [] [] [2,3] [] (cong3 (fun (xz0 xz2 xz4:Int)=>(.tuple #[.agg #[iv xz0,((G2 4).ss 0).v,iv xz2,((G2 4).ss 1).v],iv xz4]:Value)) e0 e2 e4)
theorem fof_ctv (p q:Int) (hp: -9223372036854775808≤p∧p≤9223372036854775807) (hq: -9223372036854775808≤q∧q≤9223372036854775807) (rv0:Int) (erv0:rv0=Fr.rS (q≠0) (Rat.divInt p q)) (rv1:List Int) (erv1:rv1=Fr.rD (q≠0) (Rat.divInt p q)) (rv2:Int) (erv2:rv2=Fr.rT (q≠0)) (rv3:List Int) (erv3:rv3=Fr.rE (q≠0) (Rat.divInt p q)) (rv4:Int) (erv4:rv4=if q=0 then (15:Int) else 0) :
    Ct Tryz.prog 34 #[iv p,iv q] [] [] (fun g=>.tuple #[ag (DFrac.mk ⟨rv0,rv1,(g.ss 0)⟩ ⟨rv2,rv3,(g.ss 1)⟩),iv rv4]) (fun g=>[fs true rv1 (g.ss 0),fs true rv3 (g.ss 1)]) (fun g=>[]) (fun g=>[]):=by
  subst erv0 erv1 erv2 erv3 erv4;exact fof_ct p q hp hq
set_option maxRecDepth 10000 in
theorem fint_ct (n:Int) (hn: -9223372036854775808≤n∧n≤9223372036854775807) :
    Ct Tryz.prog 37 #[iv n] [] [] (fun g=>ag (DFrac.mk ⟨(Bg.sgn n),Bg.dig n.natAbs,(g.ss 0)⟩ ⟨1,Bg.dig 1,(g.ss 1)⟩)) (fun g=>[fs true (Bg.dig n.natAbs) (g.ss 0),fs true (Bg.dig 1) (g.ss 1)]) (fun g=>[]) (fun g=>[]):=by
  refine V.fo mo Tryz.func37 7 1 fun w H ε k0=>?_;clear k0
  refine V.gf [.n 0] fun _ _ G1=>?_;intro S_ s_
  refine nm (Bg.sgn n:Int) fun n1 hn1=>?_;refine nm (Bg.dig n.natAbs:List Int) fun l1 hl1=>?_;refine nm (Bg.sgn (1:Int):Int) fun n2 hn2=>?_;refine nm (Bg.dig (1:Int).natAbs:List Int) fun l2 hl2=>?_;refine V.gf [.u 1,.cA 1 77 [] fun G=>of_ctv n (by omega) n1 hn1 l1 hl1,.cA 2 77 [] fun G=>of_ctv (1:Int) (by omega) n2 hn2 l2 hl2,.u 1,.s 0] fun _ _ G2=>?_;intro S_ s_
  have e1:l1=Bg.dig n.natAbs:=by subst_vars;rfl
  subst e1;have e3:l2=Bg.dig 1:=by subst_vars;rfl
  subst e3;have e0:n1=Bg.sgn n:=by subst_vars;rfl
  have e2:n2=1:=by subst_vars;rfl
  exact V.rT [0] [(G2 1).ss 0,(G2 2).ss 0] [] [] [0,1] [] (cong2 (fun (xz0 xz2:Int)=>(.agg #[iv xz0,((G2 1).ss 0).v,iv xz2,((G2 2).ss 0).v]:Value)) e0 e2)
theorem fint_ctv (n:Int) (hn: -9223372036854775808≤n∧n≤9223372036854775807) (rv0:Int) (erv0:rv0=Bg.sgn n) (rv1:List Int) (erv1:rv1=Bg.dig n.natAbs) (rv3:List Int) (erv3:rv3=Bg.dig 1) :
    Ct Tryz.prog 37 #[iv n] [] [] (fun g=>ag (DFrac.mk ⟨rv0,rv1,(g.ss 0)⟩ ⟨1,rv3,(g.ss 1)⟩)) (fun g=>[fs true rv1 (g.ss 0),fs true rv3 (g.ss 1)]) (fun g=>[]) (fun g=>[]):=by
  subst erv0 erv1 erv3;exact fint_ct n hn
set_option maxRecDepth 10000 in
theorem fadd_ct (i:Int) (e:List Int) (t:SV) (k:Int) (c:List Int) (o:SV) (j:Int) (f:List Int) (x:SV) (m:Int) (d:List Int) (r:SV) (haP:e.length≤17179869184) (haQ:c.length≤17179869184) (hbP:f.length≤17179869184) (hbQ:d.length≤17179869184) :
    Ct Tryz.prog 64 #[ag (DFrac.mk ⟨i,e,t⟩ ⟨k,c,o⟩),ag (DFrac.mk ⟨j,f,x⟩ ⟨m,d,r⟩)] [fs true e t,fs true c o,fs true f x,fs true d r] [] (fun g=>.tuple #[ag (DFrac.mk ⟨(Fr.rS (Fr.FrB i e k c∧Fr.FrB j f m d) ((Fr.fq i e c)+(Fr.fq j f d))),Fr.rD (Fr.FrB i e k c∧Fr.FrB j f m d) ((Fr.fq i e c)+(Fr.fq j f d)),(g.ss 0)⟩ ⟨(Fr.rT (Fr.FrB i e k c∧Fr.FrB j f m d)),Fr.rE (Fr.FrB i e k c∧Fr.FrB j f m d) ((Fr.fq i e c)+(Fr.fq j f d)),(g.ss 1)⟩),iv (if ¬ (Fr.FrB i e k c∧Fr.FrB j f m d) then (1:Int) else 0)]) (fun g=>[fs true (Fr.rD (Fr.FrB i e k c∧Fr.FrB j f m d) ((Fr.fq i e c)+(Fr.fq j f d))) (g.ss 0),fs true (Fr.rE (Fr.FrB i e k c∧Fr.FrB j f m d) ((Fr.fq i e c)+(Fr.fq j f d))) (g.ss 1)]) (fun g=>[]) (fun g=>[]):=by
  refine V.fo mo Tryz.func64 40 4 fun w H ε k0=>?_;clear k0
  refine V.gf [.n 0,.n 1,.n 2,.u 1] fun _ _ G1=>?_;intro S_ s_
  refine nm ((!(decide (Fr.FrB i e k c))) || (!(decide (Fr.FrB j f m d))):Bool) fun p1 hp1=>?_;refine V.gf [.l 0,.cP 1 17 [kA 0 e t,kA 1 c o] fun G=>right_ct i e t k c o (by omega) (by omega),.u 2,.l 1,.cp (gF (b:=!(decide (Fr.FrB i e k c))) (iNF iDT)) 5 17 [kA 2 f x,kA 3 d r] (fun hg G=>right_ct j f x m d r (by omega) (by omega)),.u 1,.orn g0 false (!(decide (Fr.FrB i e k c))) (!(decide (Fr.FrB j f m d))) p1 hp1] fun _ _ G2=>?_;intro S_ s_
  refine V.cn (b:=p1) (iN hp1 (iOT (iNT iDF) (iNT iDF))) (iN hp1 (iOF (iNF iDT) (iNF iDT))) (fun q1=>?_) (fun q2=>?_)
  · have hNR:¬ (Fr.FrB i e k c∧Fr.FrB j f m d):=by rintro ⟨h1,h2⟩;rcases q1 with h | h;exact h h1;exact h h2
    refine V.gf [.u 1,.s 2,.u 1] fun _ _ G3=>?_;intro S_ s_
    refine V.nilF (α:=Int) ?_;refine V.nilF (α:=Int) ?_;have e1:([]:List Int)=Fr.rD (Fr.FrB i e k c∧Fr.FrB j f m d) ((Fr.fq i e c)+(Fr.fq j f d)):=(Fr.Fz.no hNR ((Fr.fq i e c)+(Fr.fq j f d))).2.1;rw [←e1];have e3:([]:List Int)=Fr.rE (Fr.FrB i e k c∧Fr.FrB j f m d) ((Fr.fq i e c)+(Fr.fq j f d)):=(Fr.Fz.no hNR ((Fr.fq i e c)+(Fr.fq j f d))).2.2.2;rw [←e3];have e0:(0:Int)=Fr.rS (Fr.FrB i e k c∧Fr.FrB j f m d) ((Fr.fq i e c)+(Fr.fq j f d)):=(Fr.Fz.no hNR ((Fr.fq i e c)+(Fr.fq j f d))).1;have e2:(0:Int)=Fr.rT (Fr.FrB i e k c∧Fr.FrB j f m d):=(Fr.Fz.no hNR ((Fr.fq i e c)+(Fr.fq j f d))).2.2.1;have e4:(1:Int)=if ¬ (Fr.FrB i e k c∧Fr.FrB j f m d) then (1:Int) else 0:=(if_pos hNR).symm
    exact V.rT [2,0] [] [] [] [4,5] [] (cong3 (fun (xz0 xz2 xz4:Int)=>(.tuple #[.agg #[iv xz0,SV.v ({}),iv xz2,SV.v ({})],iv xz4]:Value)) e0 e2 e4)
  have hRR:Fr.FrB i e k c∧Fr.FrB j f m d:=by first | exact q2 | exact ⟨Decidable.not_not.1 (q2).1,Decidable.not_not.1 (q2).2⟩
  have fa:=Fr.FrB.z hRR.1;have fb:=Fr.FrB.z hRR.2;refine nm (Bg.oS (Bg.RtB i e∧Bg.RtB m d) (Bg.zv i e * Bg.zv m d):Int) fun n1 hn1=>?_;refine nm (Bg.oD (Bg.RtB i e∧Bg.RtB m d) (Bg.zv i e * Bg.zv m d):List Int) fun l1 hl1=>?_;refine nm (Bg.oS (Bg.RtB j f∧Bg.RtB k c) (Bg.zv j f * Bg.zv k c):Int) fun n2 hn2=>?_;refine nm (Bg.oD (Bg.RtB j f∧Bg.RtB k c) (Bg.zv j f * Bg.zv k c):List Int) fun l2 hl2=>?_;refine nm (Bg.oS (Bg.RtB n1 l1∧Bg.RtB n2 l2) (Bg.zv n1 l1+Bg.zv n2 l2):Int) fun n3 hn3=>?_;refine nm (Bg.oD (Bg.RtB n1 l1∧Bg.RtB n2 l2) (Bg.zv n1 l1+Bg.zv n2 l2):List Int) fun l3 hl3=>?_;refine nm (if (Bg.RtB n1 l1∧Bg.RtB n2 l2) then (0:Int) else 1:Int) fun n4 hn4=>?_;obtain ⟨z4,z4l⟩:=Fr.Bz.mul fa.p fb.q hn1 hl1
  obtain ⟨z9,z9l⟩:=Fr.Bz.mul fb.p fa.q hn2 hl2;obtain ⟨zA,zAl⟩:=Fr.Bz.add z4 z9 hn3 hl3;refine V.gf [.u 1,.l 0,.u 1,.l 1,.cA 4 75 [kA 0 e t,kA 3 d r] fun G=>times_ctv i e t m d r (by omega) (by omega) n1 hn1 l1 hl1,.u 1,.l 1,.u 1,.l 0,.cA 9 75 [kA 2 f x,kA 1 c o] fun G=>times_ctv j f x k c o (by omega) (by omega) n2 hn2 l2 hl2,.cA 10 107 [(kf true (.g 4 0) l1 (fun G=>(G 4).ss 0)).a,(kf true (.g 9 0) l2 (fun G=>(G 9).ss 0)).a] fun G=>Add_ctv n1 l1 ((G 4).ss 0) n2 l2 ((G 9).ss 0) (by omega) (by omega) n3 hn3 l3 hl3 n4 hn4,.u 3,.n 3,.s 3,.u 1] fun _ _ G4=>?_;intro S_ s_;refine nm (Bg.oS (Bg.RtB k c∧Bg.RtB m d) (Bg.zv k c * Bg.zv m d):Int) fun n5 hn5=>?_;refine nm (Bg.oD (Bg.RtB k c∧Bg.RtB m d) (Bg.zv k c * Bg.zv m d):List Int) fun l4 hl4=>?_;refine nm (Fr.rS ((Bg.RtB n3 l3∧Bg.RtB n5 l4)∧n5≠0) (Rat.divInt (Bg.zv n3 l3) (Bg.zv n5 l4)):Int) fun n6 hn6=>?_;refine nm (Fr.rD ((Bg.RtB n3 l3∧Bg.RtB n5 l4)∧n5≠0) (Rat.divInt (Bg.zv n3 l3) (Bg.zv n5 l4)):List Int) fun l5 hl5=>?_;refine nm (Fr.rT ((Bg.RtB n3 l3∧Bg.RtB n5 l4)∧n5≠0):Int) fun n7 hn7=>?_;refine nm (Fr.rE ((Bg.RtB n3 l3∧Bg.RtB n5 l4)∧n5≠0) (Rat.divInt (Bg.zv n3 l3) (Bg.zv n5 l4)):List Int) fun l6 hl6=>?_;refine nm (if ¬ (Bg.RtB n3 l3∧Bg.RtB n5 l4) then (1:Int) else if n5=0 then 15 else 0:Int) fun n8 hn8=>?_;obtain ⟨z5,z5l⟩:=Fr.Bz.mul fa.q fb.q hn5 hl4;have hy0:((((Fr.fq i e c)).den:Int) * (((Fr.fq j f d)).den:Int))≠0:=Int.mul_ne_zero fa.den fb.den;have zf:=Fr.new_is zA z5 hy0 hn6 hl5 hn7 hl6;have hEr:n8=0:=by rw [hn8,if_neg (fun h=>h ⟨zA.rt,z5.rt⟩),if_neg (z5.ne.2 hy0)]
  have heq:=Fr.add_is (Fr.fq i e c) (Fr.fq j f d);refine V.gf [.l 3,.u 1,.l 0,.u 1,.l 1,.cA 5 75 [kA 1 c o,kA 3 d r] fun G=>times_ctv k c o m d r (by omega) (by omega) n5 hn5 l4 hl4,.cA 6 74 [kB 6 l3 ((G4 10).ss 0),(kf true (.g 5 0) l4 (fun G=>(G 5).ss 0)).a] fun G=>new_ctv n3 l3 ((G4 10).ss 0) n5 l4 ((G 5).ss 0) (by omega) (by omega) n6 hn6 l5 hl5 n7 hn7 l6 hl6 n8 hn8,.u 2,.s 2,.u 1] fun _ _ G5=>?_;intro S_ s_
  have e1:l5=Fr.rD (Fr.FrB i e k c∧Fr.FrB j f m d) ((Fr.fq i e c)+(Fr.fq j f d)):=(Fr.Fz.ret zf hRR (heq)).2.1;subst e1;have e3:l6=Fr.rE (Fr.FrB i e k c∧Fr.FrB j f m d) ((Fr.fq i e c)+(Fr.fq j f d)):=(Fr.Fz.ret zf hRR (heq)).2.2.2;subst e3;have e0:n6=Fr.rS (Fr.FrB i e k c∧Fr.FrB j f m d) ((Fr.fq i e c)+(Fr.fq j f d)):=(Fr.Fz.ret zf hRR (heq)).1;have e2:n7=Fr.rT (Fr.FrB i e k c∧Fr.FrB j f m d):=(Fr.Fz.ret zf hRR (heq)).2.2.1;have e4:n8=if ¬ (Fr.FrB i e k c∧Fr.FrB j f m d) then (1:Int) else 0:=by rw [if_neg (fun h=>h hRR)];exact hEr
  exact V.rT [2,0] [(G5 6).ss 0,(G5 6).ss 1] [] [] [8,9] [] (cong3 (fun (xz0 xz2 xz4:Int)=>(.tuple #[.agg #[iv xz0,((G5 6).ss 0).v,iv xz2,((G5 6).ss 1).v],iv xz4]:Value)) e0 e2 e4)
theorem fadd_ctv (e:Int) (a:List Int) (j:SV) (h:Int) (b:List Int) (k:SV) (f:Int) (c:List Int) (l:SV) (i:Int) (d:List Int) (m:SV) (haP:a.length≤17179869184) (haQ:b.length≤17179869184) (hbP:c.length≤17179869184) (hbQ:d.length≤17179869184) (rv0:Int) (erv0:rv0=Fr.rS (Fr.FrB e a h b∧Fr.FrB f c i d) ((Fr.fq e a b)+(Fr.fq f c d))) (rv1:List Int) (erv1:rv1=Fr.rD (Fr.FrB e a h b∧Fr.FrB f c i d) ((Fr.fq e a b)+(Fr.fq f c d))) (rv2:Int) (erv2:rv2=Fr.rT (Fr.FrB e a h b∧Fr.FrB f c i d)) (rv3:List Int) (erv3:rv3=Fr.rE (Fr.FrB e a h b∧Fr.FrB f c i d) ((Fr.fq e a b)+(Fr.fq f c d))) (rv4:Int) (erv4:rv4=if ¬ (Fr.FrB e a h b∧Fr.FrB f c i d) then (1:Int) else 0) :
    Ct Tryz.prog 64 #[ag (DFrac.mk ⟨e,a,j⟩ ⟨h,b,k⟩),ag (DFrac.mk ⟨f,c,l⟩ ⟨i,d,m⟩)] [fs true a j,fs true b k,fs true c l,fs true d m] [] (fun g=>.tuple #[ag (DFrac.mk ⟨rv0,rv1,(g.ss 0)⟩ ⟨rv2,rv3,(g.ss 1)⟩),iv rv4]) (fun g=>[fs true rv1 (g.ss 0),fs true rv3 (g.ss 1)]) (fun g=>[]) (fun g=>[]):=by
  subst erv0 erv1 erv2 erv3 erv4;exact fadd_ct e a j h b k f c l i d m haP haQ hbP hbQ
set_option maxRecDepth 10000 in
theorem fmul_ct (i:Int) (c:List Int) (o:SV) (k:Int) (d:List Int) (r:SV) (j:Int) (e:List Int) (t:SV) (m:Int) (f:List Int) (x:SV) (haP:c.length≤17179869184) (haQ:d.length≤17179869184) (hbP:e.length≤17179869184) (hbQ:f.length≤17179869184) :
    Ct Tryz.prog 36 #[ag (DFrac.mk ⟨i,c,o⟩ ⟨k,d,r⟩),ag (DFrac.mk ⟨j,e,t⟩ ⟨m,f,x⟩)] [fs true c o,fs true d r,fs true e t,fs true f x] [] (fun g=>.tuple #[ag (DFrac.mk ⟨(Fr.rS (Fr.FrB i c k d∧Fr.FrB j e m f) ((Fr.fq i c d) * (Fr.fq j e f))),Fr.rD (Fr.FrB i c k d∧Fr.FrB j e m f) ((Fr.fq i c d) * (Fr.fq j e f)),(g.ss 0)⟩ ⟨(Fr.rT (Fr.FrB i c k d∧Fr.FrB j e m f)),Fr.rE (Fr.FrB i c k d∧Fr.FrB j e m f) ((Fr.fq i c d) * (Fr.fq j e f)),(g.ss 1)⟩),iv (if ¬ (Fr.FrB i c k d∧Fr.FrB j e m f) then (1:Int) else 0)]) (fun g=>[fs true (Fr.rD (Fr.FrB i c k d∧Fr.FrB j e m f) ((Fr.fq i c d) * (Fr.fq j e f))) (g.ss 0),fs true (Fr.rE (Fr.FrB i c k d∧Fr.FrB j e m f) ((Fr.fq i c d) * (Fr.fq j e f))) (g.ss 1)]) (fun g=>[]) (fun g=>[]):=by
  refine V.fo mo Tryz.func36 28 3 fun w H ε k0=>?_;clear k0
  refine V.gf [.n 0,.n 1,.n 2,.u 1] fun _ _ G1=>?_;intro S_ s_
  refine nm ((!(decide (Fr.FrB i c k d))) || (!(decide (Fr.FrB j e m f))):Bool) fun p1 hp1=>?_;refine V.gf [.l 0,.cP 1 17 [kA 0 c o,kA 1 d r] fun G=>right_ct i c o k d r (by omega) (by omega),.u 2,.l 1,.cp (gF (b:=!(decide (Fr.FrB i c k d))) (iNF iDT)) 5 17 [kA 2 e t,kA 3 f x] (fun hg G=>right_ct j e t m f x (by omega) (by omega)),.u 1,.orn g0 false (!(decide (Fr.FrB i c k d))) (!(decide (Fr.FrB j e m f))) p1 hp1] fun _ _ G2=>?_;intro S_ s_
  refine V.cn (b:=p1) (iN hp1 (iOT (iNT iDF) (iNT iDF))) (iN hp1 (iOF (iNF iDT) (iNF iDT))) (fun q1=>?_) (fun q2=>?_)
  · have hNR:¬ (Fr.FrB i c k d∧Fr.FrB j e m f):=by rintro ⟨h1,h2⟩;rcases q1 with h | h;exact h h1;exact h h2
    refine V.gf [.u 1,.s 2,.u 1] fun _ _ G3=>?_;intro S_ s_
    refine V.nilF (α:=Int) ?_;refine V.nilF (α:=Int) ?_;have e1:([]:List Int)=Fr.rD (Fr.FrB i c k d∧Fr.FrB j e m f) ((Fr.fq i c d) * (Fr.fq j e f)):=(Fr.Fz.no hNR ((Fr.fq i c d) * (Fr.fq j e f))).2.1;rw [←e1];have e3:([]:List Int)=Fr.rE (Fr.FrB i c k d∧Fr.FrB j e m f) ((Fr.fq i c d) * (Fr.fq j e f)):=(Fr.Fz.no hNR ((Fr.fq i c d) * (Fr.fq j e f))).2.2.2;rw [←e3];have e0:(0:Int)=Fr.rS (Fr.FrB i c k d∧Fr.FrB j e m f) ((Fr.fq i c d) * (Fr.fq j e f)):=(Fr.Fz.no hNR ((Fr.fq i c d) * (Fr.fq j e f))).1;have e2:(0:Int)=Fr.rT (Fr.FrB i c k d∧Fr.FrB j e m f):=(Fr.Fz.no hNR ((Fr.fq i c d) * (Fr.fq j e f))).2.2.1;have e4:(1:Int)=if ¬ (Fr.FrB i c k d∧Fr.FrB j e m f) then (1:Int) else 0:=(if_pos hNR).symm
    exact V.rT [2,0] [] [] [] [4,5] [] (cong3 (fun (xz0 xz2 xz4:Int)=>(.tuple #[.agg #[iv xz0,SV.v ({}),iv xz2,SV.v ({})],iv xz4]:Value)) e0 e2 e4)
  have hRR:Fr.FrB i c k d∧Fr.FrB j e m f:=by first | exact q2 | exact ⟨Decidable.not_not.1 (q2).1,Decidable.not_not.1 (q2).2⟩
  have fa:=Fr.FrB.z hRR.1;have fb:=Fr.FrB.z hRR.2;refine nm (Bg.oS (Bg.RtB i c∧Bg.RtB j e) (Bg.zv i c * Bg.zv j e):Int) fun n1 hn1=>?_;refine nm (Bg.oD (Bg.RtB i c∧Bg.RtB j e) (Bg.zv i c * Bg.zv j e):List Int) fun l1 hl1=>?_;refine nm (Bg.oS (Bg.RtB k d∧Bg.RtB m f) (Bg.zv k d * Bg.zv m f):Int) fun n2 hn2=>?_;refine nm (Bg.oD (Bg.RtB k d∧Bg.RtB m f) (Bg.zv k d * Bg.zv m f):List Int) fun l2 hl2=>?_;refine nm (Fr.rS ((Bg.RtB n1 l1∧Bg.RtB n2 l2)∧n2≠0) (Rat.divInt (Bg.zv n1 l1) (Bg.zv n2 l2)):Int) fun n3 hn3=>?_;refine nm (Fr.rD ((Bg.RtB n1 l1∧Bg.RtB n2 l2)∧n2≠0) (Rat.divInt (Bg.zv n1 l1) (Bg.zv n2 l2)):List Int) fun l3 hl3=>?_;refine nm (Fr.rT ((Bg.RtB n1 l1∧Bg.RtB n2 l2)∧n2≠0):Int) fun n4 hn4=>?_;refine nm (Fr.rE ((Bg.RtB n1 l1∧Bg.RtB n2 l2)∧n2≠0) (Rat.divInt (Bg.zv n1 l1) (Bg.zv n2 l2)):List Int) fun l4 hl4=>?_;refine nm (if ¬ (Bg.RtB n1 l1∧Bg.RtB n2 l2) then (1:Int) else if n2=0 then 15 else 0:Int) fun n5 hn5=>?_;obtain ⟨z4,z4l⟩:=Fr.Bz.mul fa.p fb.p hn1 hl1
  obtain ⟨z9,z9l⟩:=Fr.Bz.mul fa.q fb.q hn2 hl2;have hy0:((((Fr.fq i c d)).den:Int) * (((Fr.fq j e f)).den:Int))≠0:=Int.mul_ne_zero fa.den fb.den;have zf:=Fr.new_is z4 z9 hy0 hn3 hl3 hn4 hl4;have hEr:n5=0:=by rw [hn5,if_neg (fun h=>h ⟨z4.rt,z9.rt⟩),if_neg (z9.ne.2 hy0)]
  have heq:=Fr.mul_is (Fr.fq i c d) (Fr.fq j e f);refine V.gf [.u 1,.l 0,.u 1,.l 1,.cA 4 75 [kA 0 c o,kA 2 e t] fun G=>times_ctv i c o j e t (by omega) (by omega) n1 hn1 l1 hl1,.u 1,.l 0,.u 1,.l 1,.cA 9 75 [kA 1 d r,kA 3 f x] fun G=>times_ctv k d r m f x (by omega) (by omega) n2 hn2 l2 hl2,.cA 10 74 [(kf true (.g 4 0) l1 (fun G=>(G 4).ss 0)).a,(kf true (.g 9 0) l2 (fun G=>(G 9).ss 0)).a] fun G=>new_ctv n1 l1 ((G 4).ss 0) n2 l2 ((G 9).ss 0) (by omega) (by omega) n3 hn3 l3 hl3 n4 hn4 l4 hl4 n5 hn5,.u 2,.s 2,.u 1] fun _ _ G4=>?_;intro S_ s_
  have e1:l3=Fr.rD (Fr.FrB i c k d∧Fr.FrB j e m f) ((Fr.fq i c d) * (Fr.fq j e f)):=(Fr.Fz.ret zf hRR (heq)).2.1;subst e1;have e3:l4=Fr.rE (Fr.FrB i c k d∧Fr.FrB j e m f) ((Fr.fq i c d) * (Fr.fq j e f)):=(Fr.Fz.ret zf hRR (heq)).2.2.2;subst e3;have e0:n3=Fr.rS (Fr.FrB i c k d∧Fr.FrB j e m f) ((Fr.fq i c d) * (Fr.fq j e f)):=(Fr.Fz.ret zf hRR (heq)).1;have e2:n4=Fr.rT (Fr.FrB i c k d∧Fr.FrB j e m f):=(Fr.Fz.ret zf hRR (heq)).2.2.1;have e4:n5=if ¬ (Fr.FrB i c k d∧Fr.FrB j e m f) then (1:Int) else 0:=by rw [if_neg (fun h=>h hRR)];exact hEr
  exact V.rT [2,0] [(G4 10).ss 0,(G4 10).ss 1] [] [] [6,7] [] (cong3 (fun (xz0 xz2 xz4:Int)=>(.tuple #[.agg #[iv xz0,((G4 10).ss 0).v,iv xz2,((G4 10).ss 1).v],iv xz4]:Value)) e0 e2 e4)
theorem fmul_ctv (e:Int) (a:List Int) (j:SV) (h:Int) (b:List Int) (k:SV) (f:Int) (c:List Int) (l:SV) (i:Int) (d:List Int) (m:SV) (haP:a.length≤17179869184) (haQ:b.length≤17179869184) (hbP:c.length≤17179869184) (hbQ:d.length≤17179869184) (rv0:Int) (erv0:rv0=Fr.rS (Fr.FrB e a h b∧Fr.FrB f c i d) ((Fr.fq e a b) * (Fr.fq f c d))) (rv1:List Int) (erv1:rv1=Fr.rD (Fr.FrB e a h b∧Fr.FrB f c i d) ((Fr.fq e a b) * (Fr.fq f c d))) (rv2:Int) (erv2:rv2=Fr.rT (Fr.FrB e a h b∧Fr.FrB f c i d)) (rv3:List Int) (erv3:rv3=Fr.rE (Fr.FrB e a h b∧Fr.FrB f c i d) ((Fr.fq e a b) * (Fr.fq f c d))) (rv4:Int) (erv4:rv4=if ¬ (Fr.FrB e a h b∧Fr.FrB f c i d) then (1:Int) else 0) :
    Ct Tryz.prog 36 #[ag (DFrac.mk ⟨e,a,j⟩ ⟨h,b,k⟩),ag (DFrac.mk ⟨f,c,l⟩ ⟨i,d,m⟩)] [fs true a j,fs true b k,fs true c l,fs true d m] [] (fun g=>.tuple #[ag (DFrac.mk ⟨rv0,rv1,(g.ss 0)⟩ ⟨rv2,rv3,(g.ss 1)⟩),iv rv4]) (fun g=>[fs true rv1 (g.ss 0),fs true rv3 (g.ss 1)]) (fun g=>[]) (fun g=>[]):=by
  subst erv0 erv1 erv2 erv3 erv4;exact fmul_ct e a j h b k f c l i d m haP haQ hbP hbQ
set_option maxRecDepth 10000 in
theorem fsub_ct (f:Int) (c:List Int) (o:SV) (k:Int) (d:List Int) (q:SV) (j:Int) (i:List Int) (r:SV) (m:Int) (e:List Int) (t:SV) (haP:c.length≤17179869184) (haQ:d.length≤17179869184) (hbP:i.length≤17179869184) (hbQ:e.length≤17179869184) :
    Ct Tryz.prog 40 #[ag (DFrac.mk ⟨f,c,o⟩ ⟨k,d,q⟩),ag (DFrac.mk ⟨j,i,r⟩ ⟨m,e,t⟩)] [fs true c o,fs true d q,fs true i r,fs true e t] [] (fun g=>.tuple #[ag (DFrac.mk ⟨(Fr.rS (Fr.FrB f c k d∧Fr.FrB j i m e) ((Fr.fq f c d)-(Fr.fq j i e))),Fr.rD (Fr.FrB f c k d∧Fr.FrB j i m e) ((Fr.fq f c d)-(Fr.fq j i e)),(g.ss 0)⟩ ⟨(Fr.rT (Fr.FrB f c k d∧Fr.FrB j i m e)),Fr.rE (Fr.FrB f c k d∧Fr.FrB j i m e) ((Fr.fq f c d)-(Fr.fq j i e)),(g.ss 1)⟩),iv (if ¬ (Fr.FrB f c k d∧Fr.FrB j i m e) then (1:Int) else 0)]) (fun g=>[fs true (Fr.rD (Fr.FrB f c k d∧Fr.FrB j i m e) ((Fr.fq f c d)-(Fr.fq j i e))) (g.ss 0),fs true (Fr.rE (Fr.FrB f c k d∧Fr.FrB j i m e) ((Fr.fq f c d)-(Fr.fq j i e))) (g.ss 1)]) (fun g=>[]) (fun g=>[]):=by
  refine V.fo mo Tryz.func40 25 3 fun w H ε k0=>?_;clear k0
  refine V.gf [.n 0,.n 1,.n 2,.u 1] fun _ _ G1=>?_;intro S_ s_
  refine nm ((!(decide (Fr.FrB f c k d))) || (!(decide (Fr.FrB j i m e))):Bool) fun p1 hp1=>?_;refine V.gf [.l 0,.cP 1 17 [kA 0 c o,kA 1 d q] fun G=>right_ct f c o k d q (by omega) (by omega),.u 2,.l 1,.cp (gF (b:=!(decide (Fr.FrB f c k d))) (iNF iDT)) 5 17 [kA 2 i r,kA 3 e t] (fun hg G=>right_ct j i r m e t (by omega) (by omega)),.u 1,.orn g0 false (!(decide (Fr.FrB f c k d))) (!(decide (Fr.FrB j i m e))) p1 hp1] fun _ _ G2=>?_;intro S_ s_
  refine V.cn (b:=p1) (iN hp1 (iOT (iNT iDF) (iNT iDF))) (iN hp1 (iOF (iNF iDT) (iNF iDT))) (fun q1=>?_) (fun q2=>?_)
  · have hNR:¬ (Fr.FrB f c k d∧Fr.FrB j i m e):=by rintro ⟨h1,h2⟩;rcases q1 with h | h;exact h h1;exact h h2
    refine V.gf [.u 1,.s 2,.u 1] fun _ _ G3=>?_;intro S_ s_
    refine V.nilF (α:=Int) ?_;refine V.nilF (α:=Int) ?_;have e1:([]:List Int)=Fr.rD (Fr.FrB f c k d∧Fr.FrB j i m e) ((Fr.fq f c d)-(Fr.fq j i e)):=(Fr.Fz.no hNR ((Fr.fq f c d)-(Fr.fq j i e))).2.1;rw [←e1];have e3:([]:List Int)=Fr.rE (Fr.FrB f c k d∧Fr.FrB j i m e) ((Fr.fq f c d)-(Fr.fq j i e)):=(Fr.Fz.no hNR ((Fr.fq f c d)-(Fr.fq j i e))).2.2.2;rw [←e3];have e0:(0:Int)=Fr.rS (Fr.FrB f c k d∧Fr.FrB j i m e) ((Fr.fq f c d)-(Fr.fq j i e)):=(Fr.Fz.no hNR ((Fr.fq f c d)-(Fr.fq j i e))).1;have e2:(0:Int)=Fr.rT (Fr.FrB f c k d∧Fr.FrB j i m e):=(Fr.Fz.no hNR ((Fr.fq f c d)-(Fr.fq j i e))).2.2.1;have e4:(1:Int)=if ¬ (Fr.FrB f c k d∧Fr.FrB j i m e) then (1:Int) else 0:=(if_pos hNR).symm
    exact V.rT [2,0] [] [] [] [4,5] [] (cong3 (fun (xz0 xz2 xz4:Int)=>(.tuple #[.agg #[iv xz0,SV.v ({}),iv xz2,SV.v ({})],iv xz4]:Value)) e0 e2 e4)
  have hRR:Fr.FrB f c k d∧Fr.FrB j i m e:=by first | exact q2 | exact ⟨Decidable.not_not.1 (q2).1,Decidable.not_not.1 (q2).2⟩
  have fa:=Fr.FrB.z hRR.1;have fb:=Fr.FrB.z hRR.2;refine nm (Bg.oS (Bg.RtB j i) (-Bg.zv j i):Int) fun n1 hn1=>?_;refine nm (Bg.oD (Bg.RtB j i) (-Bg.zv j i):List Int) fun l1 hl1=>?_;refine nm (Fr.rS (Fr.FrB f c k d∧Fr.FrB n1 l1 m e) ((Fr.fq f c d)+(Fr.fq n1 l1 e)):Int) fun n2 hn2=>?_;refine nm (Fr.rD (Fr.FrB f c k d∧Fr.FrB n1 l1 m e) ((Fr.fq f c d)+(Fr.fq n1 l1 e)):List Int) fun l2 hl2=>?_;refine nm (Fr.rT (Fr.FrB f c k d∧Fr.FrB n1 l1 m e):Int) fun n3 hn3=>?_;refine nm (Fr.rE (Fr.FrB f c k d∧Fr.FrB n1 l1 m e) ((Fr.fq f c d)+(Fr.fq n1 l1 e)):List Int) fun l3 hl3=>?_;refine nm (if ¬ (Fr.FrB f c k d∧Fr.FrB n1 l1 m e) then (1:Int) else 0:Int) fun n4 hn4=>?_;have fn:=Fr.FrB.neg fb hn1 hl1
  have fnl:=(fb.p.neg hn1 hl1).2;have hRN:=And.intro hRR.1 fn.rt;have zf:=Fr.Fz.of hRN hn2 hl2 hn3 hl3;rw [fn.v] at zf;have hEr:n4=0:=by rw [hn4,if_neg (fun h=>h hRN)]
  have heq:=(Rat.sub_eq_add_neg (Fr.fq f c d) (Fr.fq j i e)).symm;refine V.gf [.l 0,.u 1,.l 1,.cA 3 79 [kA 2 i r] fun G=>neg_ctv j i r (by omega) n1 hn1 l1 hl1,.u 1,.l 1,.u 1,.cA 7 64 [kA 0 c o,kA 1 d q,(kf true (.g 3 0) l1 (fun G=>(G 3).ss 0)).a,kA 3 e t] fun G=>fadd_ctv f c o k d q n1 l1 ((G 3).ss 0) m e t (by omega) (by omega) (by omega) (by omega) n2 hn2 l2 hl2 n3 hn3 l3 hl3 n4 hn4,.u 2,.s 2,.u 1] fun _ _ G4=>?_;intro S_ s_
  have e1:l2=Fr.rD (Fr.FrB f c k d∧Fr.FrB j i m e) ((Fr.fq f c d)-(Fr.fq j i e)):=(Fr.Fz.ret zf hRR (heq)).2.1;subst e1;have e3:l3=Fr.rE (Fr.FrB f c k d∧Fr.FrB j i m e) ((Fr.fq f c d)-(Fr.fq j i e)):=(Fr.Fz.ret zf hRR (heq)).2.2.2;subst e3;have e0:n2=Fr.rS (Fr.FrB f c k d∧Fr.FrB j i m e) ((Fr.fq f c d)-(Fr.fq j i e)):=(Fr.Fz.ret zf hRR (heq)).1;have e2:n3=Fr.rT (Fr.FrB f c k d∧Fr.FrB j i m e):=(Fr.Fz.ret zf hRR (heq)).2.2.1;have e4:n4=if ¬ (Fr.FrB f c k d∧Fr.FrB j i m e) then (1:Int) else 0:=by rw [if_neg (fun h=>h hRR)];exact hEr
  exact V.rT [2,0] [(G4 7).ss 0,(G4 7).ss 1] [] [] [5,6] [] (cong3 (fun (xz0 xz2 xz4:Int)=>(.tuple #[.agg #[iv xz0,((G4 7).ss 0).v,iv xz2,((G4 7).ss 1).v],iv xz4]:Value)) e0 e2 e4)
theorem fsub_ctv (e:Int) (a:List Int) (j:SV) (h:Int) (b:List Int) (k:SV) (f:Int) (c:List Int) (l:SV) (i:Int) (d:List Int) (m:SV) (haP:a.length≤17179869184) (haQ:b.length≤17179869184) (hbP:c.length≤17179869184) (hbQ:d.length≤17179869184) (rv0:Int) (erv0:rv0=Fr.rS (Fr.FrB e a h b∧Fr.FrB f c i d) ((Fr.fq e a b) - (Fr.fq f c d))) (rv1:List Int) (erv1:rv1=Fr.rD (Fr.FrB e a h b∧Fr.FrB f c i d) ((Fr.fq e a b) - (Fr.fq f c d))) (rv2:Int) (erv2:rv2=Fr.rT (Fr.FrB e a h b∧Fr.FrB f c i d)) (rv3:List Int) (erv3:rv3=Fr.rE (Fr.FrB e a h b∧Fr.FrB f c i d) ((Fr.fq e a b) - (Fr.fq f c d))) (rv4:Int) (erv4:rv4=if ¬ (Fr.FrB e a h b∧Fr.FrB f c i d) then (1:Int) else 0) :
    Ct Tryz.prog 40 #[ag (DFrac.mk ⟨e,a,j⟩ ⟨h,b,k⟩),ag (DFrac.mk ⟨f,c,l⟩ ⟨i,d,m⟩)] [fs true a j,fs true b k,fs true c l,fs true d m] [] (fun g=>.tuple #[ag (DFrac.mk ⟨rv0,rv1,(g.ss 0)⟩ ⟨rv2,rv3,(g.ss 1)⟩),iv rv4]) (fun g=>[fs true rv1 (g.ss 0),fs true rv3 (g.ss 1)]) (fun g=>[]) (fun g=>[]):=by
  subst erv0 erv1 erv2 erv3 erv4;exact fsub_ct e a j h b k f c l i d m haP haQ hbP hbQ
set_option maxRecDepth 10000 in
theorem fdiv_ct (j:Int) (d:List Int) (o:SV) (k:Int) (e:List Int) (r:SV) (c:Int) (f:List Int) (t:SV) (m:Int) (i:List Int) (x:SV) (haP:d.length≤17179869184) (haQ:e.length≤17179869184) (hbP:f.length≤17179869184) (hbQ:i.length≤17179869184) :
    Ct Tryz.prog 32 #[ag (DFrac.mk ⟨j,d,o⟩ ⟨k,e,r⟩),ag (DFrac.mk ⟨c,f,t⟩ ⟨m,i,x⟩)] [fs true d o,fs true e r,fs true f t,fs true i x] [] (fun g=>.tuple #[ag (DFrac.mk ⟨(Fr.rS ((Fr.FrB j d k e∧Fr.FrB c f m i)∧c≠0) ((Fr.fq j d e) / (Fr.fq c f i))),Fr.rD ((Fr.FrB j d k e∧Fr.FrB c f m i)∧c≠0) ((Fr.fq j d e) / (Fr.fq c f i)),(g.ss 0)⟩ ⟨(Fr.rT ((Fr.FrB j d k e∧Fr.FrB c f m i)∧c≠0)),Fr.rE ((Fr.FrB j d k e∧Fr.FrB c f m i)∧c≠0) ((Fr.fq j d e) / (Fr.fq c f i)),(g.ss 1)⟩),iv (if ¬ (Fr.FrB j d k e∧Fr.FrB c f m i) then (1:Int) else if c=0 then 15 else 0)]) (fun g=>[fs true (Fr.rD ((Fr.FrB j d k e∧Fr.FrB c f m i)∧c≠0) ((Fr.fq j d e) / (Fr.fq c f i))) (g.ss 0),fs true (Fr.rE ((Fr.FrB j d k e∧Fr.FrB c f m i)∧c≠0) ((Fr.fq j d e) / (Fr.fq c f i))) (g.ss 1)]) (fun g=>[]) (fun g=>[]):=by
  refine V.fo mo Tryz.func32 35 3 fun w H ε k0=>?_;clear k0
  refine V.gf [.n 0,.n 1,.n 2,.u 1] fun _ _ G1=>?_;intro S_ s_
  refine nm ((!(decide (Fr.FrB j d k e))) || (!(decide (Fr.FrB c f m i))):Bool) fun p1 hp1=>?_;refine V.gf [.l 0,.cP 1 17 [kA 0 d o,kA 1 e r] fun G=>right_ct j d o k e r (by omega) (by omega),.u 2,.l 1,.cp (gF (b:=!(decide (Fr.FrB j d k e))) (iNF iDT)) 5 17 [kA 2 f t,kA 3 i x] (fun hg G=>right_ct c f t m i x (by omega) (by omega)),.u 1,.orn g0 false (!(decide (Fr.FrB j d k e))) (!(decide (Fr.FrB c f m i))) p1 hp1,.u 1] fun _ _ G2=>?_;intro S_ s_
  refine V.cn (b:=p1) (iN hp1 (iOT (iNT iDF) (iNT iDF))) (iN hp1 (iOF (iNF iDT) (iNF iDT))) (fun q1=>?_) (fun q2=>?_)
  · have hNR:¬ (Fr.FrB j d k e∧Fr.FrB c f m i):=by rintro ⟨h1,h2⟩;rcases q1 with h | h;exact h h1;exact h h2
    refine V.gf [.u 1,.s 2,.u 1] fun _ _ G3=>?_;intro S_ s_
    refine V.nilF (α:=Int) ?_;refine V.nilF (α:=Int) ?_;have e1:([]:List Int)=Fr.rD ((Fr.FrB j d k e∧Fr.FrB c f m i)∧c≠0) ((Fr.fq j d e) / (Fr.fq c f i)):=(Fr.Fz.no (fun h=>hNR h.1) ((Fr.fq j d e) / (Fr.fq c f i))).2.1;rw [←e1];have e3:([]:List Int)=Fr.rE ((Fr.FrB j d k e∧Fr.FrB c f m i)∧c≠0) ((Fr.fq j d e) / (Fr.fq c f i)):=(Fr.Fz.no (fun h=>hNR h.1) ((Fr.fq j d e) / (Fr.fq c f i))).2.2.2;rw [←e3];have e0:(0:Int)=Fr.rS ((Fr.FrB j d k e∧Fr.FrB c f m i)∧c≠0) ((Fr.fq j d e) / (Fr.fq c f i)):=(Fr.Fz.no (fun h=>hNR h.1) ((Fr.fq j d e) / (Fr.fq c f i))).1;have e2:(0:Int)=Fr.rT ((Fr.FrB j d k e∧Fr.FrB c f m i)∧c≠0):=(Fr.Fz.no (fun h=>hNR h.1) ((Fr.fq j d e) / (Fr.fq c f i))).2.2.1;have e4:(1:Int)=if ¬ (Fr.FrB j d k e∧Fr.FrB c f m i) then (1:Int) else if c=0 then 15 else 0:=(if_pos hNR).symm
    exact V.rT [2,0] [] [] [] [4,5] [] (cong3 (fun (xz0 xz2 xz4:Int)=>(.tuple #[.agg #[iv xz0,SV.v ({}),iv xz2,SV.v ({})],iv xz4]:Value)) e0 e2 e4)
  have hRR:Fr.FrB j d k e∧Fr.FrB c f m i:=by first | exact q2 | exact ⟨Decidable.not_not.1 (q2).1,Decidable.not_not.1 (q2).2⟩
  have fa:=Fr.FrB.z hRR.1;have fb:=Fr.FrB.z hRR.2;refine V.gf [.u 2,.l 1,.u 2] fun _ _ G4=>?_;intro S_ s_
  refine V.cn (b:=decide (c=0)) iDT iDF (fun q3=>?_) (fun q4=>?_)
  · have hz0:c=0:=q3;refine V.gf [.u 1,.s 2,.u 1] fun _ _ G5=>?_;intro S_ s_
    refine V.nilF (α:=Int) ?_;refine V.nilF (α:=Int) ?_;have e1:([]:List Int)=Fr.rD ((Fr.FrB j d k e∧Fr.FrB c f m i)∧c≠0) ((Fr.fq j d e) / (Fr.fq c f i)):=(Fr.Fz.no (fun h=>h.2 hz0) ((Fr.fq j d e) / (Fr.fq c f i))).2.1;rw [←e1];have e3:([]:List Int)=Fr.rE ((Fr.FrB j d k e∧Fr.FrB c f m i)∧c≠0) ((Fr.fq j d e) / (Fr.fq c f i)):=(Fr.Fz.no (fun h=>h.2 hz0) ((Fr.fq j d e) / (Fr.fq c f i))).2.2.2;rw [←e3];have e0:(0:Int)=Fr.rS ((Fr.FrB j d k e∧Fr.FrB c f m i)∧c≠0) ((Fr.fq j d e) / (Fr.fq c f i)):=(Fr.Fz.no (fun h=>h.2 hz0) ((Fr.fq j d e) / (Fr.fq c f i))).1;have e2:(0:Int)=Fr.rT ((Fr.FrB j d k e∧Fr.FrB c f m i)∧c≠0):=(Fr.Fz.no (fun h=>h.2 hz0) ((Fr.fq j d e) / (Fr.fq c f i))).2.2.1;have e4:(15:Int)=if ¬ (Fr.FrB j d k e∧Fr.FrB c f m i) then (1:Int) else if c=0 then 15 else 0:=by rw [if_neg (fun h=>h hRR),if_pos hz0]
    exact V.rT [2,0] [] [] [] [4,5] [] (cong3 (fun (xz0 xz2 xz4:Int)=>(.tuple #[.agg #[iv xz0,SV.v ({}),iv xz2,SV.v ({})],iv xz4]:Value)) e0 e2 e4)
  have hz0:¬ c=0:=q4;refine nm (Bg.oS (Bg.RtB j d∧Bg.RtB m i) (Bg.zv j d * Bg.zv m i):Int) fun n1 hn1=>?_;refine nm (Bg.oD (Bg.RtB j d∧Bg.RtB m i) (Bg.zv j d * Bg.zv m i):List Int) fun l1 hl1=>?_;refine nm (Bg.oS (Bg.RtB k e∧Bg.RtB c f) (Bg.zv k e * Bg.zv c f):Int) fun n2 hn2=>?_;refine nm (Bg.oD (Bg.RtB k e∧Bg.RtB c f) (Bg.zv k e * Bg.zv c f):List Int) fun l2 hl2=>?_;refine nm (Fr.rS ((Bg.RtB n1 l1∧Bg.RtB n2 l2)∧n2≠0) (Rat.divInt (Bg.zv n1 l1) (Bg.zv n2 l2)):Int) fun n3 hn3=>?_;refine nm (Fr.rD ((Bg.RtB n1 l1∧Bg.RtB n2 l2)∧n2≠0) (Rat.divInt (Bg.zv n1 l1) (Bg.zv n2 l2)):List Int) fun l3 hl3=>?_;refine nm (Fr.rT ((Bg.RtB n1 l1∧Bg.RtB n2 l2)∧n2≠0):Int) fun n4 hn4=>?_;refine nm (Fr.rE ((Bg.RtB n1 l1∧Bg.RtB n2 l2)∧n2≠0) (Rat.divInt (Bg.zv n1 l1) (Bg.zv n2 l2)):List Int) fun l4 hl4=>?_;refine nm (if ¬ (Bg.RtB n1 l1∧Bg.RtB n2 l2) then (1:Int) else if n2=0 then 15 else 0:Int) fun n5 hn5=>?_;obtain ⟨z4,z4l⟩:=Fr.Bz.mul fa.p fb.q hn1 hl1
  obtain ⟨z9,z9l⟩:=Fr.Bz.mul fa.q fb.p hn2 hl2;have hy0:(((Fr.fq j d e)).den:Int) * ((Fr.fq c f i)).num≠0:=Int.mul_ne_zero fa.den (fb.p.ne.1 hz0);have zf:=Fr.new_is z4 z9 hy0 hn3 hl3 hn4 hl4;have hEr:n5=0:=by rw [hn5,if_neg (fun h=>h ⟨z4.rt,z9.rt⟩),if_neg (z9.ne.2 hy0)]
  have heq:=(Fr.div_is (Fr.fq j d e) (Fr.fq c f i)).symm;refine V.gf [.u 1,.l 0,.u 1,.l 1,.cA 4 75 [kA 0 d o,kA 3 i x] fun G=>times_ctv j d o m i x (by omega) (by omega) n1 hn1 l1 hl1,.u 1,.l 0,.u 1,.l 1,.cA 9 75 [kA 1 e r,kA 2 f t] fun G=>times_ctv k e r c f t (by omega) (by omega) n2 hn2 l2 hl2,.cA 10 74 [(kf true (.g 4 0) l1 (fun G=>(G 4).ss 0)).a,(kf true (.g 9 0) l2 (fun G=>(G 9).ss 0)).a] fun G=>new_ctv n1 l1 ((G 4).ss 0) n2 l2 ((G 9).ss 0) (by omega) (by omega) n3 hn3 l3 hl3 n4 hn4 l4 hl4 n5 hn5,.u 2,.s 2,.u 1] fun _ _ G6=>?_;intro S_ s_
  have e1:l3=Fr.rD ((Fr.FrB j d k e∧Fr.FrB c f m i)∧c≠0) ((Fr.fq j d e) / (Fr.fq c f i)):=(Fr.Fz.ret zf ⟨hRR,hz0⟩ (heq)).2.1;subst e1;have e3:l4=Fr.rE ((Fr.FrB j d k e∧Fr.FrB c f m i)∧c≠0) ((Fr.fq j d e) / (Fr.fq c f i)):=(Fr.Fz.ret zf ⟨hRR,hz0⟩ (heq)).2.2.2;subst e3;have e0:n3=Fr.rS ((Fr.FrB j d k e∧Fr.FrB c f m i)∧c≠0) ((Fr.fq j d e) / (Fr.fq c f i)):=(Fr.Fz.ret zf ⟨hRR,hz0⟩ (heq)).1;have e2:n4=Fr.rT ((Fr.FrB j d k e∧Fr.FrB c f m i)∧c≠0):=(Fr.Fz.ret zf ⟨hRR,hz0⟩ (heq)).2.2.1;have e4:n5=if ¬ (Fr.FrB j d k e∧Fr.FrB c f m i) then (1:Int) else if c=0 then 15 else 0:=by rw [if_neg (fun h=>h hRR),if_neg hz0];exact hEr
  exact V.rT [2,0] [(G6 10).ss 0,(G6 10).ss 1] [] [] [6,7] [] (cong3 (fun (xz0 xz2 xz4:Int)=>(.tuple #[.agg #[iv xz0,((G6 10).ss 0).v,iv xz2,((G6 10).ss 1).v],iv xz4]:Value)) e0 e2 e4)
theorem fdiv_ctv (f:Int) (b:List Int) (j:SV) (h:Int) (c:List Int) (k:SV) (a:Int) (d:List Int) (l:SV) (i:Int) (e:List Int) (m:SV) (haP:b.length≤17179869184) (haQ:c.length≤17179869184) (hbP:d.length≤17179869184) (hbQ:e.length≤17179869184) (rv0:Int) (erv0:rv0=Fr.rS ((Fr.FrB f b h c∧Fr.FrB a d i e)∧a≠0) ((Fr.fq f b c) / (Fr.fq a d e))) (rv1:List Int) (erv1:rv1=Fr.rD ((Fr.FrB f b h c∧Fr.FrB a d i e)∧a≠0) ((Fr.fq f b c) / (Fr.fq a d e))) (rv2:Int) (erv2:rv2=Fr.rT ((Fr.FrB f b h c∧Fr.FrB a d i e)∧a≠0)) (rv3:List Int) (erv3:rv3=Fr.rE ((Fr.FrB f b h c∧Fr.FrB a d i e)∧a≠0) ((Fr.fq f b c) / (Fr.fq a d e))) (rv4:Int) (erv4:rv4=if ¬ (Fr.FrB f b h c∧Fr.FrB a d i e) then (1:Int) else if a=0 then 15 else 0) :
    Ct Tryz.prog 32 #[ag (DFrac.mk ⟨f,b,j⟩ ⟨h,c,k⟩),ag (DFrac.mk ⟨a,d,l⟩ ⟨i,e,m⟩)] [fs true b j,fs true c k,fs true d l,fs true e m] [] (fun g=>.tuple #[ag (DFrac.mk ⟨rv0,rv1,(g.ss 0)⟩ ⟨rv2,rv3,(g.ss 1)⟩),iv rv4]) (fun g=>[fs true rv1 (g.ss 0),fs true rv3 (g.ss 1)]) (fun g=>[]) (fun g=>[]):=by
  subst erv0 erv1 erv2 erv3 erv4;exact fdiv_ct f b j h c k a d l i e m haP haQ hbP hbQ
set_option maxRecDepth 10000 in
theorem fsign_ct (a:Int) (c:List Int) (f:SV) (e:Int) (d:List Int) (g:SV) (hfP:c.length≤17179869184) (hfQ:d.length≤17179869184) :
    Cp Tryz.prog 31 #[ag (DFrac.mk ⟨a,c,f⟩ ⟨e,d,g⟩)] [fs true c f,fs true d g] (iv (if Fr.FrB a c e d then a else 0)):=by
  refine V.fo mo Tryz.func31 9 1 fun w H ε k0=>?_;clear k0
  refine V.gf [.n 0,.u 1] fun _ _ G1=>?_;intro S s
  refine V.gf [.l 0,.cP 1 17 [kA 0 c f,kA 1 d g] fun G=>right_ct a c f e d g (by omega) (by omega),.u 1] fun _ _ G2=>?_;intro S s
  refine V.cn (b:=!(decide (Fr.FrB a c e d))) (iNT iDF) (iNF iDT) (fun q1=>?_) (fun q2=>?_)
  · refine V.gf [.u 1] fun _ _ G3=>?_;intro S s
    have e0:(0:Int)=if Fr.FrB a c e d then a else 0:=(if_neg q1).symm
    exact V.rT [0] [] [] [] [] [] (cong1 (fun (xz0:Int)=>(iv xz0:Value)) e0)
  refine V.gf [.u 2,.l 0,.u 1] fun _ _ G4=>?_;intro S s
  have e0:a=if Fr.FrB a c e d then a else 0:=(if_pos (by first | exact q2 | exact Decidable.not_not.1 q2)).symm
  exact V.rT [0] [] [] [] [] [] (cong1 (fun (xz0:Int)=>(iv xz0:Value)) e0)
theorem fsign_ctv (c:Int) (a:List Int) (d:SV) (e:Int) (b:List Int) (f:SV) (hfP:a.length≤17179869184) (hfQ:b.length≤17179869184) (rv0:Int) (erv0:rv0=if Fr.FrB c a e b then c else 0) :
    Cp Tryz.prog 31 #[ag (DFrac.mk ⟨c,a,d⟩ ⟨e,b,f⟩)] [fs true a d,fs true b f] (iv rv0):=by
  subst erv0;exact fsign_ct c a d e b f hfP hfQ
set_option maxRecDepth 10000 in
theorem fcmp_ct (i:Int) (c:List Int) (o:SV) (k:Int) (d:List Int) (r:SV) (j:Int) (e:List Int) (t:SV) (m:Int) (f:List Int) (x:SV) (haP:c.length≤17179869184) (haQ:d.length≤17179869184) (hbP:e.length≤17179869184) (hbQ:f.length≤17179869184) :
    Cp Tryz.prog 43 #[ag (DFrac.mk ⟨i,c,o⟩ ⟨k,d,r⟩),ag (DFrac.mk ⟨j,e,t⟩ ⟨m,f,x⟩)] [fs true c o,fs true d r,fs true e t,fs true f x] (iv (if Fr.FrB i c k d∧Fr.FrB j e m f then Fr.cmpQ (Fr.fq i c d) (Fr.fq j e f) else 0)):=by
  refine V.fo mo Tryz.func43 24 2 fun w H ε k0=>?_;clear k0
  refine V.gf [.n 0,.n 1,.u 1] fun _ _ G1=>?_;intro S s
  refine nm ((!(decide (Fr.FrB i c k d))) || (!(decide (Fr.FrB j e m f))):Bool) fun p1 hp1=>?_;refine V.gf [.l 0,.cP 1 17 [kA 0 c o,kA 1 d r] fun G=>right_ct i c o k d r (by omega) (by omega),.u 2,.l 1,.cp (gF (b:=!(decide (Fr.FrB i c k d))) (iNF iDT)) 5 17 [kA 2 e t,kA 3 f x] (fun hg G=>right_ct j e t m f x (by omega) (by omega)),.u 1,.orn g0 false (!(decide (Fr.FrB i c k d))) (!(decide (Fr.FrB j e m f))) p1 hp1] fun _ _ G2=>?_;intro S s
  refine V.cn (b:=p1) (iN hp1 (iOT (iNT iDF) (iNT iDF))) (iN hp1 (iOF (iNF iDT) (iNF iDT))) (fun q1=>?_) (fun q2=>?_)
  · have hNR:¬ (Fr.FrB i c k d∧Fr.FrB j e m f):=by rintro ⟨h1,h2⟩;rcases q1 with h | h;exact h h1;exact h h2
    refine V.gf [.u 1] fun _ _ G3=>?_;intro S s
    have e0:(0:Int)=if Fr.FrB i c k d∧Fr.FrB j e m f then Fr.cmpQ (Fr.fq i c d) (Fr.fq j e f) else 0:=(if_neg hNR).symm
    exact V.rT [0] [] [] [] [] [] (cong1 (fun (xz0:Int)=>(iv xz0:Value)) e0)
  have hRR:Fr.FrB i c k d∧Fr.FrB j e m f:=by first | exact q2 | exact ⟨Decidable.not_not.1 (q2).1,Decidable.not_not.1 (q2).2⟩
  have fa:=Fr.FrB.z hRR.1;have fb:=Fr.FrB.z hRR.2;refine nm (Bg.oS (Bg.RtB i c∧Bg.RtB m f) (Bg.zv i c * Bg.zv m f):Int) fun n1 hn1=>?_;refine nm (Bg.oD (Bg.RtB i c∧Bg.RtB m f) (Bg.zv i c * Bg.zv m f):List Int) fun l1 hl1=>?_;refine nm (Bg.oS (Bg.RtB j e∧Bg.RtB k d) (Bg.zv j e * Bg.zv k d):Int) fun n2 hn2=>?_;refine nm (Bg.oD (Bg.RtB j e∧Bg.RtB k d) (Bg.zv j e * Bg.zv k d):List Int) fun l2 hl2=>?_;refine nm (if (Bg.RtB n1 l1∧Bg.RtB n2 l2) then Bg.cmpI (Bg.zv n1 l1) (Bg.zv n2 l2) else 0:Int) fun n3 hn3=>?_;obtain ⟨z4,z4l⟩:=Fr.Bz.mul fa.p fb.q hn1 hl1
  obtain ⟨z9,z9l⟩:=Fr.Bz.mul fb.p fa.q hn2 hl2;refine V.gf [.u 1,.l 0,.u 1,.l 1,.cA 4 75 [kA 0 c o,kA 3 f x] fun G=>times_ctv i c o m f x (by omega) (by omega) n1 hn1 l1 hl1,.u 1,.l 1,.u 1,.l 0,.cA 9 75 [kA 2 e t,kA 1 d r] fun G=>times_ctv j e t k d r (by omega) (by omega) n2 hn2 l2 hl2,.cP 10 81 [(kf true (.g 4 0) l1 (fun G=>(G 4).ss 0)).a,(kf true (.g 9 0) l2 (fun G=>(G 9).ss 0)).a] fun G=>Cmp_ctv n1 l1 ((G 4).ss 0) n2 l2 ((G 9).ss 0) n3 hn3,.u 1] fun _ _ G4=>?_;intro S s;have e0:n3=if Fr.FrB i c k d∧Fr.FrB j e m f then Fr.cmpQ (Fr.fq i c d) (Fr.fq j e f) else 0:=by rw [if_pos hRR,hn3,if_pos ⟨z4.rt,z9.rt⟩,z4.v,z9.v];exact Fr.cmpQ_is _ _
  exact V.rT [0] [] [] [] [] [] (cong1 (fun (xz0:Int)=>(iv xz0:Value)) e0)
theorem fcmp_ctv (e:Int) (a:List Int) (g:SV) (h:Int) (b:List Int) (i:SV) (f:Int) (c:List Int) (j:SV) (k:Int) (d:List Int) (l:SV) (haP:a.length≤17179869184) (haQ:b.length≤17179869184) (hbP:c.length≤17179869184) (hbQ:d.length≤17179869184) (rv0:Int) (erv0:rv0=if Fr.FrB e a h b∧Fr.FrB f c k d then Fr.cmpQ (Fr.fq e a b) (Fr.fq f c d) else 0) :
    Cp Tryz.prog 43 #[ag (DFrac.mk ⟨e,a,g⟩ ⟨h,b,i⟩),ag (DFrac.mk ⟨f,c,j⟩ ⟨k,d,l⟩)] [fs true a g,fs true b i,fs true c j,fs true d l] (iv rv0):=by
  subst erv0;exact fcmp_ct e a g h b i f c j k d l haP haQ hbP hbQ
set_option maxRecDepth 10000 in
theorem ffloor_ct (d:Int) (a:List Int) (f:SV) (e:Int) (c:List Int) (h:SV) (hfP:a.length≤17179869184) (hfQ:c.length≤17179869184) :
    Ct Tryz.prog 39 #[ag (DFrac.mk ⟨d,a,f⟩ ⟨e,c,h⟩)] [fs true a f,fs true c h] [] (fun g=>ag (DBig.mk (Bg.oS (Fr.FrB d a e c) (Fr.fq d a c).floor) ⟨Bg.oD (Fr.FrB d a e c) (Fr.fq d a c).floor,(g.ss 0)⟩)) (fun g=>[fs true (Bg.oD (Fr.FrB d a e c) (Fr.fq d a c).floor) (g.ss 0)]) (fun g=>[]) (fun g=>[]):=by
  refine V.fo mo Tryz.func39 20 4 fun w H ε k0=>?_;clear k0
  refine V.gf [.n 0,.n 1] fun _ _ G1=>?_;intro S_ s_
  refine V.gf [.l 0,.cP 1 17 [kA 0 a f,kA 1 c h] fun G=>right_ct d a f e c h (by omega) (by omega),.u 1] fun _ _ G2=>?_;intro S_ s_
  refine V.cn (b:=!(decide (Fr.FrB d a e c))) (iNT iDF) (iNF iDT) (fun q1=>?_) (fun q2=>?_)
  · refine V.gf [.u 1,.s 1] fun _ _ G3=>?_;intro S_ s_
    refine V.nilF (α:=Int) ?_;have e1:([]:List Int)=Bg.oD (Fr.FrB d a e c) (Fr.fq d a c).floor:=(Bg.oD_n q1 _).symm;rw [←e1];have e0:(0:Int)=Bg.oS (Fr.FrB d a e c) (Fr.fq d a c).floor:=(Bg.oS_n q1 _).symm;exact V.rT [1] [] [] [] [2] [] (cong1 (fun (xz0:Int)=>(.agg #[iv xz0,SV.v ({})]:Value)) e0)
  refine nm (Bg.oS ((Bg.RtB d a∧Bg.RtB e c)∧e≠0) (Bg.flo (Bg.zv d a) (Bg.zv e c)):Int) fun n1 hn1=>?_;refine nm (Bg.oD ((Bg.RtB d a∧Bg.RtB e c)∧e≠0) (Bg.flo (Bg.zv d a) (Bg.zv e c)):List Int) fun l1 hl1=>?_;refine nm (Bg.oS ((Bg.RtB d a∧Bg.RtB e c)∧e≠0) (Bg.fmo (Bg.zv d a) (Bg.zv e c)):Int) fun n2 hn2=>?_;refine nm (Bg.oD ((Bg.RtB d a∧Bg.RtB e c)∧e≠0) (Bg.fmo (Bg.zv d a) (Bg.zv e c)):List Int) fun l2 hl2=>?_;refine nm (if ¬ (Bg.RtB d a∧Bg.RtB e c) then (1:Int) else if e=0 then 15 else 0:Int) fun n3 hn3=>?_;have hFF:Fr.FrB d a e c:=by first | exact q2 | exact Decidable.not_not.1 q2
  have ff:=Fr.FrB.z hFF;have zd:=Fr.Bz.div ff.p ff.q (by have:=(Fr.fq d a c).den_pos;omega) hn1 hl1;have hfe:=Rat.floor_def (Fr.fq d a c);rw [←hfe] at zd;have hfe:(Fr.fq d a c).floor=(Fr.fq d a c).floor:=rfl;refine V.gf [.u 1,.l 0,.u 1,.l 0,.cA 4 78 [kA 0 a f,kA 1 c h] fun G=>Div_ctv d a f e c h (by omega) (by omega) n1 hn1 l1 hl1 n2 hn2 l2 hl2 n3 hn3,.u 4,.n 2,.n 3,.s 2,.s 3,.u 1] fun _ _ G4=>?_;intro S_ s_
  refine V.gf [.l 2,.s 1] fun _ _ G5=>?_;intro S_ s_
  have e1:l1=Bg.oD (Fr.FrB d a e c) (Fr.fq d a c).floor:=by rw [Bg.oD_y hFF,← hfe];exact zd.eqs.2
  subst e1;have e0:n1=Bg.oS (Fr.FrB d a e c) (Fr.fq d a c).floor:=by rw [Bg.oS_y hFF,← hfe];exact zd.eqs.1
  exact V.rT [1] [(G4 4).ss 0] [] [] [2] [] (cong1 (fun (xz0:Int)=>(.agg #[iv xz0,((G4 4).ss 0).v]:Value)) e0)
theorem ffloor_ctv (c:Int) (a:List Int) (e:SV) (d:Int) (b:List Int) (f:SV) (hfP:a.length≤17179869184) (hfQ:b.length≤17179869184) (rv0:Int) (erv0:rv0=Bg.oS (Fr.FrB c a d b) (Fr.fq c a b).floor) (rv1:List Int) (erv1:rv1=Bg.oD (Fr.FrB c a d b) (Fr.fq c a b).floor) :
    Ct Tryz.prog 39 #[ag (DFrac.mk ⟨c,a,e⟩ ⟨d,b,f⟩)] [fs true a e,fs true b f] [] (fun g=>ag (DBig.mk rv0 ⟨rv1,(g.ss 0)⟩)) (fun g=>[fs true rv1 (g.ss 0)]) (fun g=>[]) (fun g=>[]):=by
  subst erv0 erv1;exact ffloor_ct c a e d b f hfP hfQ
set_option maxRecDepth 10000 in
theorem fsame_ct (f:Int) (a:List Int) (j:SV) (h:Int) (d:List Int) (k:SV) (g:Int) (c:List Int) (m:SV) (i:Int) (e:List Int) (o:SV) :
    Cp Tryz.prog 11 #[ag (DFrac.mk ⟨f,a,j⟩ ⟨h,d,k⟩),ag (DFrac.mk ⟨g,c,m⟩ ⟨i,e,o⟩)] [fs true a j,fs true d k,fs true c m,fs true e o] (bv (decide (f=g∧a=c∧h=i∧d=e))):=by
  refine V.fo mo Tryz.func11 17 2 fun w H ε k0=>?_;clear k0
  refine V.gf [.n 0,.n 1,.kb false] fun _ _ G1=>?_;intro S s
  refine nm ((decide (f=g∧a=c)) && (decide (h=i∧d=e)):Bool) fun p1 hp1=>?_;refine V.gf [.u 1,.l 0,.u 1,.l 1,.cP 4 33 [kA 0 a j,kA 2 c m] fun G=>same_ct f a j g c m,.u 2,.l 0,.u 1,.l 1,.cp (gT (b:=decide (f=g∧a=c)) iDT) 10 33 [kA 1 d k,kA 3 e o] (fun hg G=>same_ct h d k i e o),.andn g0 false (decide (f=g∧a=c)) (decide (h=i∧d=e)) p1 hp1,.u 1] fun _ _ G2=>?_;intro S s
  have e0:p1=(decide (f=g∧a=c∧h=i∧d=e)):=by
    refine Bool.eq_iff_iff.2 (Iff.trans (iN hp1 (iAT iDT iDT)) (Iff.trans ?_ decide_eq_true_iff.symm));exact and_assoc
  exact V.rT [0] [] [] [] [] [] (cong1 (fun (xz0:Bool)=>(bv xz0:Value)) e0)

open Go
theorem cpost_turn {w w':World} {H:Heaplet} {L L':List LE} {ε:Nat→Ent} {v:Value} (hst:StW w (blks (ents L ε)) [H] (ents L ε) w) (hbase:Base (blks (ents L ε)) w w')
    (hent:∀ (k b:Nat) (o:Obj),(ents L' ε)[k]?=some (some (b,o))→w'.heap[b]?=some o∧∃ o',(ents L ε)[k]?=some (some (b,o'))) (hown:∀ (k:Nat) (x:LE),L'[k]?=some x→x.at (ε k) (fun _=>none) H) :
    CPost w w' H (ents L ε) (fun _=>v) (fun _=>[]) (fun _=>L') (fun _=>[]) (.returned v) { es:=ε }:=by
  have hin:∀ (k b:Nat) (o:Obj),(ents L ε)[k]?=some (some (b,o))→b ∈ blks (ents L ε):=fun k b o h =>
    List.mem_filterMap.2 ⟨_,List.mem_of_getElem? h,rfl⟩
  refine { ret:=rfl,base:=hbase,agr:=fun b o h=>(by cases h),new:=fun b h=>absurd rfl h,facts:=fun f hf=>(by cases hf),ent:=fun k b o h=>?_,dis:=fun k l b o o' h h'=>?_,own:=fun k x h=>hown k x h,pu:=trivial }
  · obtain ⟨h1,o',h2⟩:=hent k b o h
    exact ⟨h1,.inr (hin k b o' h2),rfl⟩
  · obtain ⟨_,o1,h1⟩:=hent k b o h
    obtain ⟨_,o2,h2⟩:=hent l b o' h'
    exact hst.dis k l b o1 o2 h1 h2
theorem setCell_blk {w:World} {b T:Nat} {arr:Array Value} {off:Nat} {v:Value} (hb:w.heap[b]?=some (.cells arr T)):w.setCell ⟨b,off,none⟩ v=setBlk w b (.cells (arr.setIfInBounds off v) T):=by
  have hlt:=RC.heap_lt hb
  unfold World.setCell setBlk
  congr 1
  apply Array.ext_getElem?
  intro k
  simp only [Array.getElem?_modify,Array.getElem?_setIfInBounds]
  have hg:w.heap[b]=.cells arr T:=(Array.getElem?_eq_some_iff.1 hb).2
  by_cases e:b=k
  · subst e;simp [hlt,hg]
  · simp [e]
def fidx {α:Type} (p:α→Bool) (l:List α):Int:=if l.any p=true then (l.findIdx p:Int) else -1
section
variable {α : Type} [Inhabited α] {p : α → Bool} {l : List α} {k : Int} {x : α}
theorem getD_of {k:Nat} (h:k < l.length):l.getD k default=l[k]:=by
  rw [List.getD_eq_getElem?_getD,List.getElem?_eq_getElem h];rfl
theorem fidx_at (h0:0≤k) (hk:k < l.length) (hx:x=l.getD k.toNat default) (h:∀ j,j < k.toNat→p (l.getD j default)=false) (e:p x=true):fidx p l=k:=by
  have hk':k.toNat < l.length:=by omega
  have e1:p l[k.toNat]=true:=by rw [←getD_of hk',← hx];exact e
  have e2:l.any p=true:=List.any_eq_true.2 ⟨_,List.getElem_mem hk',e1⟩
  have e3:l.findIdx p=k.toNat:=by
    rw [List.findIdx_eq hk']
    exact ⟨e1,fun j hj=>by rw [←getD_of (by omega)];exact h j hj⟩
  unfold fidx
  rw [if_pos e2,e3];omega
theorem any_no (h:∀ j,j < l.length→p (l.getD j default)=false):l.any p=false:=by
  rw [List.any_eq_false]
  intro y hy
  obtain ⟨j,hj,rfl⟩:=List.getElem_of_mem hy
  rw [←getD_of hj,h j hj];simp
theorem fidx_no (h:∀ j,j < l.length→p (l.getD j default)=false):fidx p l= -1:=by
  unfold fidx;rw [any_no h];rfl
theorem fidx_nn:0≤fidx p l↔l.any p=true:=by
  unfold fidx
  split
  · rename_i h;exact ⟨fun _=>h,fun _=>Int.natCast_nonneg _⟩
  · rename_i h;exact ⟨fun k=>by omega,fun k=>absurd k h⟩
theorem fidx_step (h:∀ j,j < k.toNat→p (l.getD j default)=false) (h0:0≤k) (hx:x=l.getD k.toNat default) (e:p x=false):∀ j,j < (k+1).toNat→p (l.getD j default)=false:=fun j hj=>by
  by_cases e2:j < k.toNat
  · exact h j e2
  · rw [show j=k.toNat by omega,← hx];exact e
end
end Kb
namespace Go.Proofs
open Go.Shelf
def Tryz.lays240_ren:Go.Shelf.Ren:=⟨fun | 240=>167 | 276=>168 | n=>n,fun | 70=>242 | 9=>9 | 0=>0 | 4=>4 | 20=>20 | 72=>245 | 164=>251 | 37=>243 | n=>n,fun | n=>n⟩
theorem Tryz.lays240:Go.Proofs.Lays.n240 Tryz.prog Tryz.lays240_ren:={
  mixed:=by kernel_rfl
  f240:=Tryz.func167.trans (congrArg some (by kernel_rfl))
  f276:=Tryz.func168.trans (congrArg some (by kernel_rfl))
  t0:=Tryz.underlying0
  a0:=Tryz.isAgg0
  z0:=Tryz.sizeOf0
  v0:=Tryz.zeroValue0
  t4:=Tryz.underlying4
  a4:=Tryz.isAgg4
  z4:=Tryz.sizeOf4
  v4:=Tryz.zeroValue4
  t9:=Tryz.underlying9
  a9:=Tryz.isAgg9
  z9:=Tryz.sizeOf9
  v9:=Tryz.zeroValue9
  t20:=Tryz.underlying20
  a20:=Tryz.isAgg20
  z20:=Tryz.sizeOf20
  v20:=Tryz.zeroValue20
  t70:=Tryz.underlying242
  a70:=Tryz.isAgg242
  z70:=Tryz.sizeOf242
  v70:=Tryz.zeroValue242
  t72:=Tryz.underlying245
  a72:=Tryz.isAgg245
  z72:=Tryz.sizeOf245
  v72:=Tryz.zeroValue245
  t164:=Tryz.underlying251
  a164:=Tryz.isAgg251
  z164:=Tryz.sizeOf251
  v164:=Tryz.zeroValue251 }
theorem Tryz.Builder_X72_240:Builder.X72 Tryz.prog Tryz.lays240_ren:={
  sizeBuilder:=by kernel_rfl
  liesBuilder:=by kernel_rfl }
def Tryz.lays169_ren:Go.Shelf.Ren:=⟨fun | 169=>166 | n=>n,fun | 70=>242 | 9=>9 | 0=>0 | 72=>245 | 37=>243 | 127=>250 | 3=>3 | 5=>5 | n=>n,fun | n=>n⟩
theorem Tryz.lays169:Go.Proofs.Lays.n169 Tryz.prog Tryz.lays169_ren:={
  mixed:=by kernel_rfl
  f169:=Tryz.func166.trans (congrArg some (by kernel_rfl))
  t0:=Tryz.underlying0
  a0:=Tryz.isAgg0
  z0:=Tryz.sizeOf0
  v0:=Tryz.zeroValue0
  t3:=Tryz.underlying3
  a3:=Tryz.isAgg3
  z3:=Tryz.sizeOf3
  v3:=Tryz.zeroValue3
  t9:=Tryz.underlying9
  a9:=Tryz.isAgg9
  z9:=Tryz.sizeOf9
  v9:=Tryz.zeroValue9
  t37:=Tryz.underlying243
  a37:=Tryz.isAgg243
  z37:=Tryz.sizeOf243
  v37:=Tryz.zeroValue243
  t70:=Tryz.underlying242
  a70:=Tryz.isAgg242
  z70:=Tryz.sizeOf242
  v70:=Tryz.zeroValue242
  t72:=Tryz.underlying245
  a72:=Tryz.isAgg245
  z72:=Tryz.sizeOf245
  v72:=Tryz.zeroValue245
  t127:=Tryz.underlying250
  a127:=Tryz.isAgg250
  z127:=Tryz.sizeOf250
  v127:=Tryz.zeroValue250 }
theorem Tryz.Builder_Extra_169:Builder.Extra Tryz.prog Tryz.lays169_ren:={
  sizeBuilder:=by kernel_rfl
  liesBuilder:=by kernel_rfl
  t5:=Tryz.underlying5
  a5:=Tryz.isAgg5
  z5:=Tryz.sizeOf5
  v5:=Tryz.zeroValue5
  infoByte:=by kernel_rfl
  cellsByte:=by kernel_rfl
  sizeByte:=by kernel_rfl
  neB5:=by decide }
variable {P : Program} {ρ : Ren}
set_option maxHeartbeats 2000000 in
set_option maxRecDepth 100000 in
theorem Builder_String_exact (L:Lays.n169 P ρ) (X:Builder.Extra P ρ) (b g cap:Nat) (p:Value) (cur:Array Value) (l:List UInt8) (w:World) (h0:l≠[]) (hbk:w.heap[b]?=some (.cells #[p,.slice (some ⟨g,0,none⟩) l.length cap] (ρ.t 72))) (hg:w.heap[g]?=some (.cells cur (ρ.t 5)))
    (hnc:l.length≤cap) (hcm:cap≤maxLen) (hcs:cur.size=cap) (hcell:∀ (j:Nat) (x:UInt8),l[j]?=some x→w.cell? ((⟨g,0,none⟩:Addr).add j)=some (.int .u8 x.toNat)) :
    Calls P (ρ.f 169) #[.pointer (some ⟨b,0,none⟩)] w fun e w'=>e=.returned (.string ⟨l.toArray⟩)∧w'=w.drew.freeze ⟨g,0,none⟩ l.length:=by
  have hl0:l.length≠0:=by simpa using h0
  have c1:w.drew.cell? ⟨b,1,none⟩=some (.slice (some ⟨g,0,none⟩) l.length cap):=by
    have:w.drew.heap[b]?=some (.cells #[p,.slice (some ⟨g,0,none⟩) l.length cap] (ρ.t 72)):=hbk
    rw [Lib.cell_of_heap this];rfl
  have hSD:(Builtin.unsafeSliceData_ #[(ρ.t 37)] (ρ.t 127) #[.slice (some ⟨g,0,none⟩) l.length cap]).run P w.drew=.ok (.pointer (some ⟨g,0,none⟩)) w.drew :=
    Lib.run_unsafeSliceData_row _ _ _ _ _ _ (by omega)
  have hUS:(Builtin.unsafeString_ #[(ρ.t 127),(ρ.t 3)] (ρ.t 9) #[.pointer (some ⟨g,0,none⟩),.int .i64 l.length]).run P w.drew=.ok (.string ⟨l.toArray⟩) (w.drew.freeze ⟨g,0,none⟩ l.length) :=
    Lib.run_unsafeString_row w.drew (ρ.t 127) (ρ.t 3) (ρ.t 9) (ρ.t 5) L.t127 X.cellsByte g cur.size (by have hg':w.drew.heap[g]?=some (.cells cur (ρ.t 5)):=hg;simp [World.shape?,hg']) l h0 (by omega) (by unfold maxLen at hcm;omega) (fun j x hx=>hcell j x hx)
  have mixed:=L.mixed
  have t72:=L.t72;have a72:=L.a72;have z72:=L.z72;have v72:=L.v72;have u72:=run_underlying L.t72
  have t70:=L.t70;have a70:=L.a70;have z70:=L.z70;have v70:=L.v70;have u70:=run_underlying L.t70
  have t37:=L.t37;have a37:=L.a37;have z37:=L.z37;have v37:=L.v37;have u37:=run_underlying L.t37
  have t127:=L.t127;have a127:=L.a127;have z127:=L.z127;have v127:=L.v127;have u127:=run_underlying L.t127
  have t3:=L.t3;have a3:=L.a3;have z3:=L.z3;have v3:=L.v3;have u3:=run_underlying L.t3
  have t9:=L.t9;have a9:=L.a9;have z9:=L.z9;have v9:=L.v9;have u9:=run_underlying L.t9
  have t5:=X.t5;have a5:=X.a5;have z5:=X.z5;have v5:=X.v5;have u5:=run_underlying X.t5
  go_enter L.f169,Body.n169_ntmps ρ
  go_wp2
  go_region_o
  all_goals (go_wp2;go_ret;exact ⟨rfl,rfl⟩)
end Go.Proofs
namespace Kb
open Go Go.Proofs Go.Shelf
theorem bccf_ct (b:Nat) (l:List UInt8) (s:SV):Ct Tryz.prog 167 #[pp b 0] [] [.blk b #[.pointer none,s.v] 245,os false 5 l s] (fun _=>.tuple #[]) (fun _=>[]) (fun _=>[.blk b #[pp b 0,s.v] 245,os true 5 l s]) (fun _=>[]):=fun w H ε _ _ hst hown=>by
  have hb:w.heap[b]?=some (.cells #[.pointer none,s.v] 245):=(hst.ent 0 b _ rfl).1
  refine (Any.Builder_copyCheck_fresh Tryz.lays240 Tryz.Builder_X72_240 b w (by simp [World.cell?,hb]) (by simp [World.shape?,hb];rfl) (by simp [World.frozen?,hb])).mono fun e w' h=>?_
  obtain ⟨rfl,rfl⟩:=h
  rw [setCell_blk hb]
  have hlt:=RC.heap_lt hb
  refine ⟨{ es:=ε },cpost_turn hst ⟨rfl,rfl,rfl,by simp [setBlk],fun k hk hn=>?_⟩ (fun k c o h=>?_) fun k x h=>?_⟩
  · have hne:b≠k:=fun e=>hn (e ▸ List.mem_filterMap.2 ⟨_,List.mem_of_getElem? (show (ents _ ε)[0]?=_ from rfl),rfl⟩)
    simp [setBlk,Array.getElem?_setIfInBounds_ne hne]
  · match k,h with
    | 0,h =>
      have h:some (some (b,Obj.cells #[pp b 0,s.v] 245))=some (some (c,o)):=h
      cases h
      exact ⟨by simp [setBlk,hlt],_,rfl⟩
    | 1,h =>
      have h1:=hst.ent 1 c o h
      have hne:b≠c:=fun e=>by subst e;have:=hst.dis 0 1 b _ o rfl h;cases this
      exact ⟨by simp [setBlk,Array.getElem?_setIfInBounds_ne hne];exact h1.1,o,h⟩
    | k+2,h=>cases h
  · match k,h with
    | 0,h=>cases h;trivial
    | 1,h=>cases h;have ho:OSl 5 H l s.v (ε 1):=hown 1 _ rfl;exact (⟨ho.sl,fun _ _=>trivial⟩:OSl 5 (fun _=>none) l s.v (ε 1))
    | k+2,h=>cases h
theorem bccu_ct (b:Nat) (l:List UInt8) (s:SV):Ct Tryz.prog 167 #[pp b 0] [] [.blk b #[pp b 0,s.v] 245,os false 5 l s] (fun _=>.tuple #[]) (fun _=>[]) (fun _=>[.blk b #[pp b 0,s.v] 245,os true 5 l s]) (fun _=>[]):=fun w H ε _ _ hst hown=>by
  have hb:w.heap[b]?=some (.cells #[pp b 0,s.v] 245):=(hst.ent 0 b _ rfl).1
  refine (Any.Builder_copyCheck_used Tryz.lays240 Tryz.Builder_X72_240 b w (by simp [World.cell?,hb])).mono fun e w' h=>?_
  obtain ⟨rfl,rfl⟩:=h
  exact ⟨{ es:=ε },cpost_turn hst (Base.refl _ _) (fun k c o h=>⟨(hst.ent k c o h).1,o,h⟩) fun k x h=>by
    match k,h with
    | 0,h=>cases h;trivial
    | 1,h=>cases h;have ho:OSl 5 H l s.v (ε 1):=hown 1 _ rfl;exact (⟨ho.sl,fun _ _=>trivial⟩:OSl 5 (fun _=>none) l s.v (ε 1))
    | k+2,h=>cases h⟩
theorem rows_bytes:∀ l:List UInt8,(rows l).flatten=l.map fun c=>Value.int .u8 c.toNat
  | []=>rfl
  | a :: l=>by show Value.int .u8 a.toNat :: (rows l).flatten=_;rw [rows_bytes l];rfl
theorem bstr_ct (b:Nat) (p:Value) (l:List UInt8) (s:SV) (h0:l≠[]):Ct Tryz.prog 166 #[pp b 0] [] [.blk b #[p,s.v] 245,os false 5 l s] (fun _=>.string ⟨l.toArray⟩) (fun _=>[]) (fun _=>[.blk b #[p,s.v] 245,.no]) (fun _=>[]):=fun w H ε _ _ hst hown=>by
  have hb:w.heap[b]?=some (.cells #[p,s.v] 245):=(hst.ent 0 b _ rfl).1
  have ho:OSl 5 H l s.v (ε 1):=hown 1 _ rfl
  rcases ho.sl.val with ⟨_,hn,_⟩ | ⟨g,cap,cur,hv,hε,h1,h2,h3,h4⟩
  · exact absurd (by simpa [rows] using hn) h0
  · rw [rows_length] at hv h1
    have hE:(ents [.blk b #[p,s.v] 245,os false 5 l s] ε)[1]?=some (some (g,.cells cur 5)):=by rw [←hε];rfl
    have hg:w.heap[g]?=some (.cells cur 5):=(hst.ent 1 g _ hE).1
    have hbg:b≠g:=fun e=>by subst e;have:=hst.dis 0 1 b _ _ rfl hE;cases this
    have hown2:=ho.sl.owns (w:=w) (fun c o e=>by rw [hε] at e;cases e;exact hg)
    have hcell:∀ (j:Nat) (x:UInt8),l[j]?=some x→w.cell? ((⟨g,0,none⟩:Addr).add j)=some (.int .u8 x.toNat):=fun j x hx=>by
      have hf:(rows l).flatten[j]?=some (.int .u8 x.toNat):=by
        rw [rows_bytes,List.getElem?_map,hx];rfl
      exact World.ownsRow.cells hown2 (g:=g) (by rw [hv];rfl) j _ hf
    have hb':w.heap[b]?=some (.cells #[p,.slice (some ⟨g,0,none⟩) l.length cap] 245):=by rw [hb];show _=some (Obj.cells #[p,_] _);rw [←hv]
    refine (Builder_String_exact Tryz.lays169 Tryz.Builder_Extra_169 b g cap p cur l w h0 hb' hg h1 h2 (by rw [h3];exact Nat.mul_one _) hcell).mono fun e w' h=>?_
    obtain ⟨rfl,rfl⟩:=h
    have key:∀ k,k≠g→(w.drew.freeze ⟨g,0,none⟩ l.length).heap[k]?=w.heap[k]?:=fun k hk=>by
      unfold World.freeze
      split
      · rfl
      · simp only [Array.getElem?_modify,if_neg (fun e:g=k=>hk e.symm)];rfl
    have hsz:(w.drew.freeze ⟨g,0,none⟩ l.length).heap.size=w.heap.size:=by
      unfold World.freeze
      split
      · rfl
      · simp only [Array.size_modify];rfl
    refine ⟨{ es:=ε },cpost_turn hst ?_ (fun k c o h=>?_) fun k x h=>?_⟩
    · have hos:(w.drew.freeze ⟨g,0,none⟩ l.length).os=w.os∧(w.drew.freeze ⟨g,0,none⟩ l.length).tape=w.tape∧(w.drew.freeze ⟨g,0,none⟩ l.length).output=w.output:=by
        unfold World.freeze;split <;> exact ⟨rfl,rfl,rfl⟩
      refine ⟨hos.1,hos.2.1,hos.2.2,by rw [hsz];exact Nat.le_refl _,fun k hk hn=>key k fun e=>hn ?_⟩
      exact List.mem_filterMap.2 ⟨_,List.mem_of_getElem? hE,by rw [e];rfl⟩
    · match k,h with
      | 0,h =>
        have h:some (some (b,Obj.cells #[p,s.v] 245))=some (some (c,o)):=h
        cases h
        exact ⟨by rw [key b hbg];exact hb,_,rfl⟩
      | 1,h=>cases h
      | k+2,h=>cases h
    · match k,h with
      | 0,h=>cases h;trivial
      | 1,h=>cases h;trivial
      | k+2,h=>cases h
theorem bstru_ct (b:Nat) (l:List UInt8) (s:SV) (h0:l≠[]):Ct Tryz.prog 166 #[pp b 0] [] [.blk b #[pp b 0,s.v] 245,os false 5 l s] (fun _=>.string ⟨l.toArray⟩) (fun _=>[]) (fun _=>[.blk b #[pp b 0,s.v] 245,.no]) (fun _=>[]):=bstr_ct b _ l s h0

open Go
namespace Dm
def Rt (l:List Int):Prop:=∀ x ∈ l, -9≤x∧x≤9
instance (l : List Int) : Decidable (Rt l) := by unfold Rt; infer_instance
theorem Rt6 {a b c d e f:Int}:Rt [a,b,c,d,e,f]↔(-9≤a∧a≤9)∧(-9≤b∧b≤9)∧(-9≤c∧c≤9)∧(-9≤d∧d≤9)∧(-9≤e∧e≤9)∧ -9≤f∧f≤9:=by
  unfold Rt;simp
def cpB (s p:ByteArray):Prop:=(p.size:Int)≤s.size∧s.extract 0 p.size=p
instance (s p : ByteArray) : Decidable (cpB s p) := by unfold cpB; infer_instance
def cpR (s p:ByteArray):ByteArray:=if cpB s p then s.extract p.size s.size else s
theorem cpR_size {s p:ByteArray}:(cpR s p).size≤s.size:=by
  unfold cpR;split
  · rw [ByteArray.size_extract];omega
  · omega
theorem size_ne {r:ByteArray} (h:¬ r=ByteArray.empty):r.size≠0:=fun h0=>h (by
  apply bl_inj
  rw [bl_empty]
  exact List.eq_nil_of_length_eq_zero (by rw [bl_len];exact h0))
theorem Rt_all {l:List Int} (hl:l.length=6) (h:∀ j:Nat,j < 6→ -9≤l.getD j 0∧l.getD j 0≤9):Rt l:=fun x hx=>by
  obtain ⟨j,hj,rfl⟩:=List.mem_iff_getElem.1 hx
  have:=h j (by omega)
  simpa [List.getD_eq_getElem?_getD,hj] using this
theorem upto_succ {P:Nat→Prop} {k n:Nat} (hk:k=n) (h:∀ j,j < k→P j) (hp:P n):∀ j,j < n+1→P j:=fun j hj=>by
  by_cases e:j < k
  · exact h j e
  · have:j=n:=by omega
    subst this;exact hp
end Dm

open Go Go.Proofs
set_option maxRecDepth 10000 in
theorem dright_ct (d0 d1 d2 d3 d4 d5:Int) :
    Cp Tryz.prog 144 #[.agg #[iv d0,iv d1,iv d2,iv d3,iv d4,iv d5]] [] (bv (decide (Dm.Rt [d0,d1,d2,d3,d4,d5]))):=by
  refine V.fo mo Tryz.func144 16 1 fun w H ε k0=>?_;clear k0
  refine V.gf [.n 0,.kb false] fun _ _ G1=>?_;intro S s
  refine V.gf [.l 0,.u 1] fun _ _ G2=>?_;intro S s
  refine V.lp (γ:=Int) (fun k0=>⟨[(5,.agg #[iv d0,iv d1,iv d2,iv d3,iv d4,iv d5]),(6,iv k0)],[],[.blk ((G1 0).b) #[iv d0,iv d1,iv d2,iv d3,iv d4,iv d5] 208]⟩) (fun k0=>(0≤k0)∧(k0≤6)∧(∀ j:Nat,j < k0.toNat→ -9≤[d0,d1,d2,d3,d4,d5].getD j 0∧[d0,d1,d2,d3,d4,d5].getD j 0≤9)) (fun k0=>(6-k0).toNat) 0 [] ?_ ?_
  · refine ⟨?_,?_,?_⟩
    · show 0≤(0:Int)
      first | omega | rfl | (simp;done) | (subst_vars;simp;done)
    · show (0:Int)≤6
      first | omega | rfl | (simp;done) | (subst_vars;simp;done)
    show ∀ j:Nat,j < (0:Int).toNat→ -9≤[d0,d1,d2,d3,d4,d5].getD j 0∧[d0,d1,d2,d3,d4,d5].getD j 0≤9;intro j hj;simp at hj
  rintro k0 hF1 kw3 Z1 hZ1;have hF1:(0≤k0)∧(k0≤6)∧(∀ j:Nat,j < k0.toNat→ -9≤[d0,d1,d2,d3,d4,d5].getD j 0∧[d0,d1,d2,d3,d4,d5].getD j 0≤9):=hF1;obtain ⟨hf1,hf2,hf3⟩:=hF1;clear kw3;refine V.gf [.u 1] fun _ _ G3=>?_;intro S s;refine V.cn (b:=decide (k0 < 6)) iDT iDF (fun q1=>?_) (fun q2=>?_)
  · rcases (by omega:k0=0∨k0=1∨k0=2∨k0=3∨k0=4∨k0=5) with hcs1 | hcs2 | hcs3 | hcs4 | hcs5 | hcs6
    · refine V.alt (fun (zz:Int)=>(⟨[(5,.agg #[iv d0,iv d1,iv d2,iv d3,iv d4,iv d5]),(6,iv zz),(7,bv (decide (k0 < 6)))],[],[.blk ((G1 0).b) #[iv d0,iv d1,iv d2,iv d3,iv d4,iv d5] 208]⟩:St)) hcs1 [] (by kernel_rfl) ?_;refine V.gf [.u 2] fun _ _ G4=>?_;intro S s
      refine V.gf [.u 5,.or g0 false (decide (d0 < (-9))) (decide (9 < d0))] fun _ _ G5=>?_;intro S s
      refine V.cn (b:=(decide (d0 < (-9))) || (decide (9 < d0))) (iOT iDT iDT) (iOF iDF iDF) (fun q3=>?_) (fun q4=>?_)
      · refine V.g [.kb false] fun _ _ G6=>?_;intro S s
        have e0:false=decide (Dm.Rt [d0,d1,d2,d3,d4,d5]):=by symm;rw [decide_eq_false_iff_not,Dm.Rt6];omega
        exact V.rT [0] [] [] [] [] [] (cong1 (fun (xz0:Bool)=>(bv xz0:Value)) e0)
      refine V.gf [.u 2] fun _ _ G7=>?_;intro S s
      refine V.rn hZ1 1 [] ?_ ?_
      · refine ⟨?_,?_,?_⟩
        · show 0≤(1:Int);omega
        · show (1:Int)≤6;omega
        show ∀ j:Nat,j < (1:Int).toNat→ -9≤[d0,d1,d2,d3,d4,d5].getD j 0∧[d0,d1,d2,d3,d4,d5].getD j 0≤9;exact Dm.upto_succ (P:=fun j=> -9≤[d0,d1,d2,d3,d4,d5].getD j 0∧[d0,d1,d2,d3,d4,d5].getD j 0≤9) (n:=0) (by omega) hf3 (by show -9≤d0∧d0≤9;omega)
      show (6-(1:Int)).toNat < (6-k0).toNat;omega
    · refine V.alt (fun (zz:Int)=>(⟨[(5,.agg #[iv d0,iv d1,iv d2,iv d3,iv d4,iv d5]),(6,iv zz),(7,bv (decide (k0 < 6)))],[],[.blk ((G1 0).b) #[iv d0,iv d1,iv d2,iv d3,iv d4,iv d5] 208]⟩:St)) hcs2 [] (by kernel_rfl) ?_;refine V.gf [.u 2] fun _ _ G8=>?_;intro S s
      refine V.gf [.u 5,.or g0 false (decide (d1 < (-9))) (decide (9 < d1))] fun _ _ G9=>?_;intro S s
      refine V.cn (b:=(decide (d1 < (-9))) || (decide (9 < d1))) (iOT iDT iDT) (iOF iDF iDF) (fun q5=>?_) (fun q6=>?_)
      · refine V.g [.kb false] fun _ _ G10=>?_;intro S s
        have e0:false=decide (Dm.Rt [d0,d1,d2,d3,d4,d5]):=by symm;rw [decide_eq_false_iff_not,Dm.Rt6];omega
        exact V.rT [0] [] [] [] [] [] (cong1 (fun (xz0:Bool)=>(bv xz0:Value)) e0)
      refine V.gf [.u 2] fun _ _ G11=>?_;intro S s
      refine V.rn hZ1 2 [] ?_ ?_
      · refine ⟨?_,?_,?_⟩
        · show 0≤(2:Int);omega
        · show (2:Int)≤6;omega
        show ∀ j:Nat,j < (2:Int).toNat→ -9≤[d0,d1,d2,d3,d4,d5].getD j 0∧[d0,d1,d2,d3,d4,d5].getD j 0≤9;exact Dm.upto_succ (P:=fun j=> -9≤[d0,d1,d2,d3,d4,d5].getD j 0∧[d0,d1,d2,d3,d4,d5].getD j 0≤9) (n:=1) (by omega) hf3 (by show -9≤d1∧d1≤9;omega)
      show (6-(2:Int)).toNat < (6-k0).toNat;omega
    · refine V.alt (fun (zz:Int)=>(⟨[(5,.agg #[iv d0,iv d1,iv d2,iv d3,iv d4,iv d5]),(6,iv zz),(7,bv (decide (k0 < 6)))],[],[.blk ((G1 0).b) #[iv d0,iv d1,iv d2,iv d3,iv d4,iv d5] 208]⟩:St)) hcs3 [] (by kernel_rfl) ?_;refine V.gf [.u 2] fun _ _ G12=>?_;intro S s
      refine V.gf [.u 5,.or g0 false (decide (d2 < (-9))) (decide (9 < d2))] fun _ _ G13=>?_;intro S s
      refine V.cn (b:=(decide (d2 < (-9))) || (decide (9 < d2))) (iOT iDT iDT) (iOF iDF iDF) (fun q7=>?_) (fun q8=>?_)
      · refine V.g [.kb false] fun _ _ G14=>?_;intro S s
        have e0:false=decide (Dm.Rt [d0,d1,d2,d3,d4,d5]):=by symm;rw [decide_eq_false_iff_not,Dm.Rt6];omega
        exact V.rT [0] [] [] [] [] [] (cong1 (fun (xz0:Bool)=>(bv xz0:Value)) e0)
      refine V.gf [.u 2] fun _ _ G15=>?_;intro S s
      refine V.rn hZ1 3 [] ?_ ?_
      · refine ⟨?_,?_,?_⟩
        · show 0≤(3:Int);omega
        · show (3:Int)≤6;omega
        show ∀ j:Nat,j < (3:Int).toNat→ -9≤[d0,d1,d2,d3,d4,d5].getD j 0∧[d0,d1,d2,d3,d4,d5].getD j 0≤9;exact Dm.upto_succ (P:=fun j=> -9≤[d0,d1,d2,d3,d4,d5].getD j 0∧[d0,d1,d2,d3,d4,d5].getD j 0≤9) (n:=2) (by omega) hf3 (by show -9≤d2∧d2≤9;omega)
      show (6-(3:Int)).toNat < (6-k0).toNat;omega
    · refine V.alt (fun (zz:Int)=>(⟨[(5,.agg #[iv d0,iv d1,iv d2,iv d3,iv d4,iv d5]),(6,iv zz),(7,bv (decide (k0 < 6)))],[],[.blk ((G1 0).b) #[iv d0,iv d1,iv d2,iv d3,iv d4,iv d5] 208]⟩:St)) hcs4 [] (by kernel_rfl) ?_;refine V.gf [.u 2] fun _ _ G16=>?_;intro S s
      refine V.gf [.u 5,.or g0 false (decide (d3 < (-9))) (decide (9 < d3))] fun _ _ G17=>?_;intro S s
      refine V.cn (b:=(decide (d3 < (-9))) || (decide (9 < d3))) (iOT iDT iDT) (iOF iDF iDF) (fun q9=>?_) (fun q10=>?_)
      · refine V.g [.kb false] fun _ _ G18=>?_;intro S s
        have e0:false=decide (Dm.Rt [d0,d1,d2,d3,d4,d5]):=by symm;rw [decide_eq_false_iff_not,Dm.Rt6];omega
        exact V.rT [0] [] [] [] [] [] (cong1 (fun (xz0:Bool)=>(bv xz0:Value)) e0)
      refine V.gf [.u 2] fun _ _ G19=>?_;intro S s
      refine V.rn hZ1 4 [] ?_ ?_
      · refine ⟨?_,?_,?_⟩
        · show 0≤(4:Int);omega
        · show (4:Int)≤6;omega
        show ∀ j:Nat,j < (4:Int).toNat→ -9≤[d0,d1,d2,d3,d4,d5].getD j 0∧[d0,d1,d2,d3,d4,d5].getD j 0≤9;exact Dm.upto_succ (P:=fun j=> -9≤[d0,d1,d2,d3,d4,d5].getD j 0∧[d0,d1,d2,d3,d4,d5].getD j 0≤9) (n:=3) (by omega) hf3 (by show -9≤d3∧d3≤9;omega)
      show (6-(4:Int)).toNat < (6-k0).toNat;omega
    · refine V.alt (fun (zz:Int)=>(⟨[(5,.agg #[iv d0,iv d1,iv d2,iv d3,iv d4,iv d5]),(6,iv zz),(7,bv (decide (k0 < 6)))],[],[.blk ((G1 0).b) #[iv d0,iv d1,iv d2,iv d3,iv d4,iv d5] 208]⟩:St)) hcs5 [] (by kernel_rfl) ?_;refine V.gf [.u 2] fun _ _ G20=>?_;intro S s
      refine V.gf [.u 5,.or g0 false (decide (d4 < (-9))) (decide (9 < d4))] fun _ _ G21=>?_;intro S s
      refine V.cn (b:=(decide (d4 < (-9))) || (decide (9 < d4))) (iOT iDT iDT) (iOF iDF iDF) (fun q11=>?_) (fun q12=>?_)
      · refine V.g [.kb false] fun _ _ G22=>?_;intro S s
        have e0:false=decide (Dm.Rt [d0,d1,d2,d3,d4,d5]):=by symm;rw [decide_eq_false_iff_not,Dm.Rt6];omega
        exact V.rT [0] [] [] [] [] [] (cong1 (fun (xz0:Bool)=>(bv xz0:Value)) e0)
      refine V.gf [.u 2] fun _ _ G23=>?_;intro S s
      refine V.rn hZ1 5 [] ?_ ?_
      · refine ⟨?_,?_,?_⟩
        · show 0≤(5:Int);omega
        · show (5:Int)≤6;omega
        show ∀ j:Nat,j < (5:Int).toNat→ -9≤[d0,d1,d2,d3,d4,d5].getD j 0∧[d0,d1,d2,d3,d4,d5].getD j 0≤9;exact Dm.upto_succ (P:=fun j=> -9≤[d0,d1,d2,d3,d4,d5].getD j 0∧[d0,d1,d2,d3,d4,d5].getD j 0≤9) (n:=4) (by omega) hf3 (by show -9≤d4∧d4≤9;omega)
      show (6-(5:Int)).toNat < (6-k0).toNat;omega
    refine V.alt (fun (zz:Int)=>(⟨[(5,.agg #[iv d0,iv d1,iv d2,iv d3,iv d4,iv d5]),(6,iv zz),(7,bv (decide (k0 < 6)))],[],[.blk ((G1 0).b) #[iv d0,iv d1,iv d2,iv d3,iv d4,iv d5] 208]⟩:St)) hcs6 [] (by kernel_rfl) ?_;refine V.gf [.u 2] fun _ _ G24=>?_;intro S s
    refine V.gf [.u 5,.or g0 false (decide (d5 < (-9))) (decide (9 < d5))] fun _ _ G25=>?_;intro S s
    refine V.cn (b:=(decide (d5 < (-9))) || (decide (9 < d5))) (iOT iDT iDT) (iOF iDF iDF) (fun q13=>?_) (fun q14=>?_)
    · refine V.g [.kb false] fun _ _ G26=>?_;intro S s
      have e0:false=decide (Dm.Rt [d0,d1,d2,d3,d4,d5]):=by symm;rw [decide_eq_false_iff_not,Dm.Rt6];omega
      exact V.rT [0] [] [] [] [] [] (cong1 (fun (xz0:Bool)=>(bv xz0:Value)) e0)
    refine V.gf [.u 2] fun _ _ G27=>?_;intro S s
    refine V.rn hZ1 6 [] ?_ ?_
    · refine ⟨?_,?_,?_⟩
      · show 0≤(6:Int);omega
      · show (6:Int)≤6;omega
      show ∀ j:Nat,j < (6:Int).toNat→ -9≤[d0,d1,d2,d3,d4,d5].getD j 0∧[d0,d1,d2,d3,d4,d5].getD j 0≤9;exact Dm.upto_succ (P:=fun j=> -9≤[d0,d1,d2,d3,d4,d5].getD j 0∧[d0,d1,d2,d3,d4,d5].getD j 0≤9) (n:=5) (by omega) hf3 (by show -9≤d5∧d5≤9;omega)
    show (6-(6:Int)).toNat < (6-k0).toNat;omega
  refine V.g [.kb true] fun _ _ G28=>?_;intro S s
  have e0:true=decide (Dm.Rt [d0,d1,d2,d3,d4,d5]):=by symm;rw [decide_eq_true_iff];exact Dm.Rt_all rfl fun j hj=>hf3 j (by omega)
  exact V.rT [0] [] [] [] [] [] (cong1 (fun (xz0:Bool)=>(bv xz0:Value)) e0)
end Kb
