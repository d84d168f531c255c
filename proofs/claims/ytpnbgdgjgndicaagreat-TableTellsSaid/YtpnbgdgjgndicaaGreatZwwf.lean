/- Texts for the claim, put together: the calculus of regions, its rules, and contracts of the functions that the law reaches. -/
import Derived.Test.YtpnbgdgjgndicaaGreatZwwe
import Derived.ChangeSame
import Derived.ChangeArms
import Derived.WideKeyArgs
import Derived.Carry
import Derived.OpenShut
set_option linter.unusedVariables false
set_option linter.unusedSectionVars false
set_option linter.unusedSimpArgs false
namespace Kb
open Go Go.Proofs
set_option maxRecDepth 10000 in
theorem split9_ct (s:ByteArray) (at_:Int) (hs:s.size≤1000000) (ha:0≤at_∧at_≤(s.size:Int)) :
    Cp Tryz.prog 105 #[tv s,iv at_] [] (.tuple #[ag (DItem.mk (if 0 < Un.nl (Un.ofs s at_.toNat) then Un.cuW (Un.ofs s at_.toNat) else ByteArray.empty) (if 0 < Un.nl (Un.ofs s at_.toNat) then Un.cuE (Un.ofs s at_.toNat) else 0)),iv (if 0 < Un.nl (Un.ofs s at_.toNat) then (Un.spN s at_.toNat:Int) else at_),bv (decide (0 < Un.nl (Un.ofs s at_.toNat)))]):=by
  refine V.fn mo Tryz.func105 70 2 (by kernel_rfl) fun w H ε k0=>?_;clear k0
  refine V.g [.nb 0 0 (fun b=>pp b 0) 81 (fun _=>ca (DItem.mk ByteArray.empty 0)),.k (iv 0),.kb false] fun _ _ G1=>?_;intro S_ s_
  refine V.g [.k (iv at_),.k (iv at_)] fun _ _ G2=>?_;intro S_ s_
  refine V.loop (γ:=Int) (fun i=>⟨[(0,tv s),(1,iv at_),(4,pp ((G1 0).b) 0),(7,iv i)],[],[.blk ((G1 0).b) (ca (DItem.mk ByteArray.empty 0)) 81,.no]⟩) (fun i=>(at_≤i)∧(i≤(s.size:Int))∧(∀ j,at_.toNat≤j→j < i.toNat→Un.ltr (((bl s).getD j default).toNat:Int))) (fun i=>((s.size:Int)-i).toNat) at_ (by kernel_rfl) [] (by kernel_rfl) ?_ ?_
  · refine ⟨?_,?_,?_⟩
    · show at_≤at_;omega
    · show at_≤(s.size:Int);omega
    show ∀ j,at_.toNat≤j→j < at_.toNat→Un.ltr (((bl s).getD j default).toNat:Int);intro j h1 h2;omega
  rintro i hF1 kw3 Z1 hZ1;have hF1:(at_≤i)∧(i≤(s.size:Int))∧(∀ j,at_.toNat≤j→j < i.toNat→Un.ltr (((bl s).getD j default).toNat:Int)):=hF1;obtain ⟨hf1,hf2,hf3⟩:=hF1;clear kw3;refine nm ((s.size:Int)-1:Int) fun n1 hn1=>?_;refine nm ((bl s).getD (min i n1).toNat default:UInt8) fun c1 hc1=>?_;refine nm ((decide (i < (s.size:Int))) && (decide (Un.ltr (c1.toNat:Int))):Bool) fun p1 hp1=>?_;refine V.g [.k (iv i),.k (tv s),.k (iv (s.size:Int)),.k (bv (decide (i < (s.size:Int)))),.k (bv (decide (i < (s.size:Int)))),.k (tv s),.k (iv i),.k (tv s),.k (iv (s.size:Int)),.arg (gT (b:=decide (i < (s.size:Int))) iDT) ((s.size:Int)-1) n1 hn1 (fun hg=>by omega),.mn i n1,.sid (gT (b:=decide (i < (s.size:Int))) iDT) s (min i n1) c1 hc1 (fun hg=>⟨by omega,by omega⟩),.cp (gT (b:=decide (i < (s.size:Int))) iDT) 12 140 [] (fun hg G=>ltr9_ct (c1.toNat:Int)),.andn g0 false (decide (i < (s.size:Int))) (decide (Un.ltr (c1.toNat:Int))) p1 hp1] fun _ _ G3=>?_;intro S_ s_;refine V.cn (b:=p1) (iN hp1 (iAT iDT iDT)) (iN hp1 (iAF iDF iDF)) (fun q1=>?_) (fun q2=>?_)
  · refine V.g [.k (iv i),.a (i+1) (by omega) (by omega),.k (iv (i+1))] fun _ _ G4=>?_;intro S_ s_
    refine V.rnd hZ1 (i+1) [] (by kernel_rfl) ?_ ?_
    · refine ⟨?_,?_,?_⟩
      · show at_≤(i+1);omega
      · show (i+1)≤(s.size:Int);omega
      show ∀ j,at_.toNat≤j→j < (i+1).toNat→Un.ltr (((bl s).getD j default).toNat:Int);intro j hj1 hj2;by_cases e:j < i.toNat
      · exact hf3 j hj1 e
      have hqq:=q1;have h:=hqq.2;rw [hc1] at h;rw [show (min i n1).toNat=i.toNat by omega] at h;rw [show j=i.toNat by omega];exact h
    show ((s.size:Int)-(i+1)).toNat < ((s.size:Int)-i).toNat;omega
  have hSx:i.toNat=s.size∨¬ Un.ltr (((bl s).getD i.toNat default).toNat:Int):=by
    have hqq:=q2;by_cases hiz:i < (s.size:Int)
    · right;rcases hqq with h | h;exact absurd hiz h;rw [hc1] at h;rw [show (min i n1).toNat=i.toNat by omega] at h;exact h
    left;omega
  have hSp:Un.Spl s at_.toNat i.toNat:=⟨Un.nl_ofs (by omega) (by omega) hf3 hSx,by omega,by omega⟩;refine nm (s.extract at_.toNat i.toNat:ByteArray) fun t1 ht1=>?_;have ht1n:t1.size=min i.toNat s.size-at_.toNat:=by rw [ht1,ByteArray.size_extract]
  refine V.g [.k (tv s),.k (iv at_),.k (iv i),.ssl g0 s (some at_) (some i) at_ i rfl rfl t1 ht1 (fun _=>⟨by omega,by omega,by omega⟩),.k (ag (DItem.mk t1 1)),.nb 5 1 (fun b=>pp b 0) 81 (fun _=>ca (DItem.mk ByteArray.empty 0)),.st 1 (fun G=>.blk ((G 5).b) (ca (DItem.mk t1 1)) 81)] fun _ _ G5=>?_;intro S_ s_
  refine V.g [.k (iv i),.k (iv at_),.k (bv (decide (i=at_)))] fun _ _ G6=>?_;intro S_ s_
  refine V.cn (b:=decide (i=at_)) iDT iDF (fun q3=>?_) (fun q4=>?_)
  · have hz:¬ 0 < Un.nl (Un.ofs s at_.toNat):=by have h:=hSp.n;have hqq:=q3;omega
    refine V.g [.k (ag (DItem.mk ByteArray.empty 0)),.k (iv at_),.st 0 (fun _=>.blk ((G1 0).b) (ca (DItem.mk ByteArray.empty 0)) 81),.k (iv at_),.kb false] fun _ _ G7=>?_;intro S_ s_
    have e0:ByteArray.empty=if 0 < Un.nl (Un.ofs s at_.toNat) then Un.cuW (Un.ofs s at_.toNat) else ByteArray.empty:=(if_neg hz).symm
    have e1:(0:Int)=if 0 < Un.nl (Un.ofs s at_.toNat) then Un.cuE (Un.ofs s at_.toNat) else 0:=(if_neg hz).symm
    have e2:at_=if 0 < Un.nl (Un.ofs s at_.toNat) then (Un.spN s at_.toNat:Int) else at_:=(if_neg hz).symm
    have e3:false=decide (0 < Un.nl (Un.ofs s at_.toNat)):=(decide_eq_false hz).symm;exact V.rt [0,0,0] [] [] [] [] [] (.tuple #[ag (DItem.mk ByteArray.empty 0),iv at_,bv false]) (cong4 (fun (x0:ByteArray) (x1 x2:Int) (x3:Bool)=>(.tuple #[.agg #[tv x0,iv x1],iv x2,bv x3]:Value)) e0 e1 e2 e3)
  have hz:0 < Un.nl (Un.ofs s at_.toNat):=by have h:=hSp.n;have hqq:=q4;omega
  refine nm ((decide (i < (s.size:Int))) && (decide (50≤(c1.toNat:Int))):Bool) fun p2 hp2=>?_;refine V.g [.k (iv i),.k (tv s),.k (iv (s.size:Int)),.k (bv (decide (i < (s.size:Int)))),.k (bv (decide (i < (s.size:Int)))),.k (tv s),.k (iv i),.k (tv s),.k (iv (s.size:Int)),.arg (gT (b:=decide (i < (s.size:Int))) iDT) ((s.size:Int)-1) n1 hn1 (fun hg=>by omega),.mn i n1,.sid (gT (b:=decide (i < (s.size:Int))) iDT) s (min i n1) c1 hc1 (fun hg=>⟨by omega,by omega⟩),.k (bv (decide (50≤(c1.toNat:Int)))),.andn g0 false (decide (i < (s.size:Int))) (decide (50≤(c1.toNat:Int))) p2 hp2,.k (bv p2),.k (tv s),.k (iv i),.k (tv s),.k (iv (s.size:Int)),.arg (gT (b:=p2) (iN hp2 (iAT iDT iDT))) ((s.size:Int)-1) n1 hn1 (fun hg=>by omega),.mn i n1,.sid (gT (b:=p2) (iN hp2 (iAT iDT iDT))) s (min i n1) c1 hc1 (fun hg=>⟨by omega,by omega⟩),.k (bv (decide ((c1.toNat:Int)≤57))),.and g0 false p2 (decide ((c1.toNat:Int)≤57))] fun _ _ G8=>?_;intro S_ s_
  refine V.cn (b:=p2 && (decide ((c1.toNat:Int)≤57))) (iAT (iN hp2 (iAT iDT iDT)) iDT) (iAF (iN hp2 (iAF iDF iDF)) iDF) (fun q5=>?_) (fun q6=>?_)
  · have hqq:=q5;obtain ⟨⟨hia,hib⟩,hic⟩:=hqq;rw [hc1] at hib;rw [hc1] at hic;rw [show (min i n1).toNat=i.toNat by omega] at hib hic;have hy:=hSp.y (by omega) hib hic;refine nm ((bl s).getD i.toNat default:UInt8) fun c2 hc2=>?_;refine nm ((c2.toNat:Int)-48:Int) fun n2 hn2=>?_;have hc50:50≤(c2.toNat:Int)∧(c2.toNat:Int)≤57:=by rw [hc2];exact ⟨hib,hic⟩
    refine V.g [.k (tv s),.k (iv i),.sid g0 s i c2 hc2 (fun _=>⟨by omega,by omega⟩),.ek g0 .u8 ((c2.toNat:Int)-48) n2 (fun _=>by rw [wrapU8];omega),.arg g0 n2 n2 rfl (fun _=>by omega),.k (pp ((G5 5).b) 1),.st 1 (fun _=>.blk ((G5 5).b) (ca (DItem.mk t1 n2)) 81)] fun _ _ G9=>?_;intro S_ s_
    refine V.g [.k (iv i),.a (i+1) (by omega) (by omega),.k (iv (i+1))] fun _ _ G10=>?_;intro S_ s_
    refine V.g [.ld 1 0 true (fun _=>Dat.cells (DItem.mk t1 n2)),.k (iv (i+1)),.st 0 (fun _=>.blk ((G1 0).b) (ca (DItem.mk t1 n2)) 81),.k (iv (i+1)),.kb true] fun _ _ G11=>?_;intro S_ s_
    have e0:t1=if 0 < Un.nl (Un.ofs s at_.toNat) then Un.cuW (Un.ofs s at_.toNat) else ByteArray.empty:=by rw [if_pos hz,Un.cuW_ofs hSp.n hSp.le hSp.sz];exact ht1
    have e1:n2=if 0 < Un.nl (Un.ofs s at_.toNat) then Un.cuE (Un.ofs s at_.toNat) else 0:=by rw [if_pos hz,hy.1];rw [hn2,hc2]
    have e2:(i+1)=if 0 < Un.nl (Un.ofs s at_.toNat) then (Un.spN s at_.toNat:Int) else at_:=by rw [if_pos hz,hy.2];omega
    have e3:true=decide (0 < Un.nl (Un.ofs s at_.toNat)):=(decide_eq_true hz).symm;exact V.rt [0,0,0] [] [] [] [] [] (.tuple #[ag (DItem.mk t1 n2),iv (i+1),bv true]) (cong4 (fun (x0:ByteArray) (x1 x2:Int) (x3:Bool)=>(.tuple #[.agg #[tv x0,iv x1],iv x2,bv x3]:Value)) e0 e1 e2 e3)
  have hqq:=q6;have hmi:(min i n1).toNat=i.toNat∨¬ i < (s.size:Int):=by omega
  have hn:=hSp.no (by
    rintro ⟨h1,h2,h3⟩;have hmi:=hmi.resolve_right (by omega);rw [hc1,hmi] at hqq;rcases hqq with (h | h) | h
    · omega
    · exact h h2
    exact h h3)
  refine V.g [.ld 1 0 true (fun _=>Dat.cells (DItem.mk t1 1)),.k (iv i),.st 0 (fun _=>.blk ((G1 0).b) (ca (DItem.mk t1 1)) 81),.k (iv i),.kb true] fun _ _ G12=>?_;intro S_ s_
  have e0:t1=if 0 < Un.nl (Un.ofs s at_.toNat) then Un.cuW (Un.ofs s at_.toNat) else ByteArray.empty:=by rw [if_pos hz,Un.cuW_ofs hSp.n hSp.le hSp.sz];exact ht1
  have e1:(1:Int)=if 0 < Un.nl (Un.ofs s at_.toNat) then Un.cuE (Un.ofs s at_.toNat) else 0:=by rw [if_pos hz,hn.1]
  have e2:i=if 0 < Un.nl (Un.ofs s at_.toNat) then (Un.spN s at_.toNat:Int) else at_:=by rw [if_pos hz,hn.2];omega
  have e3:true=decide (0 < Un.nl (Un.ofs s at_.toNat)):=(decide_eq_true hz).symm;exact V.rt [0,0,0] [] [] [] [] [] (.tuple #[ag (DItem.mk t1 1),iv i,bv true]) (cong4 (fun (x0:ByteArray) (x1 x2:Int) (x3:Bool)=>(.tuple #[.agg #[tv x0,iv x1],iv x2,bv x3]:Value)) e0 e1 e2 e3)
theorem split9_ctv (s:ByteArray) (at_:Int) (hs:s.size≤1000000) (ha:0≤at_∧at_≤(s.size:Int)) (rv0:ByteArray) (erv0:rv0=if 0 < Un.nl (Un.ofs s at_.toNat) then Un.cuW (Un.ofs s at_.toNat) else ByteArray.empty) (rv1:Int) (erv1:rv1=if 0 < Un.nl (Un.ofs s at_.toNat) then Un.cuE (Un.ofs s at_.toNat) else 0) (rv2:Int) (erv2:rv2=if 0 < Un.nl (Un.ofs s at_.toNat) then (Un.spN s at_.toNat:Int) else at_) :
    Cp Tryz.prog 105 #[tv s,iv at_] [] (.tuple #[ag (DItem.mk rv0 rv1),iv rv2,bv (decide (0 < Un.nl (Un.ofs s at_.toNat)))]):=by
  subst erv0 erv1 erv2;exact split9_ct s at_ hs ha
set_option maxRecDepth 10000 in
set_option maxHeartbeats 4000000 in
theorem items9_ct (s:ByteArray) (hs:s.size≤1000000) :
    Ct Tryz.prog 64 #[tv s] [] [] (fun g=>.tuple #[((g.ss 0)).v,bv ((Un.itG s).isSome)]) (fun g=>[fs true ((Un.itG s).getD []) (g.ss 0)]) (fun g=>[]) (fun g=>[]):=by
  refine V.fn mo Tryz.func64 72 3 (by kernel_rfl) fun w H ε k0=>?_;clear k0
  refine V.g [.k (.slice none 0 0),.kb false] fun _ _ G1=>?_;intro S_ s_
  refine V.g [.k (.slice none 0 0)] fun _ _ G2=>?_;intro S_ s_
  refine V.g [.k (tv s),.seq s ByteArray.empty] fun _ _ G3=>?_;intro S_ s_
  refine V.cn (b:=decide (s=ByteArray.empty)) iDT iDF (fun q1=>?_) (fun q2=>?_)
  · refine V.g [.k (.slice none 0 0),.k (.slice none 0 0),.kb true] fun _ _ G4=>?_;intro S_ s_
    refine V.nilF (α:=DItem) ?_;have e0:([]:List DItem)=((Un.itG s).getD []):=by rw [Un.itG_nil q1];rfl
    rw [←e0];have e1:true=(Un.itG s).isSome:=by rw [Un.itG_nil q1];rfl
    exact V.rt [0,0] [{}] [fun _=>{}] [] [0] [] (.tuple #[SV.v ({}),bv true]) (cong1 (fun (x1:Bool)=>(.tuple #[SV.v ({}),bv x1]:Value)) e1)
  have hne:¬ s=ByteArray.empty:=q2;have hsz:=Dm.size_ne hne;refine V.g [.k (tv s),.k (iv (s.size:Int)),.k (bv (decide (40 < (s.size:Int))))] fun _ _ G5=>?_;intro S_ s_
  refine V.cn (b:=decide (40 < (s.size:Int))) iDT iDF (fun q3=>?_) (fun q4=>?_)
  · refine V.g [.k (.slice none 0 0),.kb false] fun _ _ G6=>?_;intro S_ s_
    refine V.nilF (α:=DItem) ?_;have e0:([]:List DItem)=((Un.itG s).getD []):=by rw [Un.itG_far hne (by have hqq:=q3;omega)];rfl
    rw [←e0];have e1:false=(Un.itG s).isSome:=by rw [Un.itG_far hne (by have hqq:=q3;omega)];rfl
    exact V.rt [0,0] [{}] [fun _=>{}] [] [0] [] (.tuple #[SV.v ({}),bv false]) (cong1 (fun (x1:Bool)=>(.tuple #[SV.v ({}),bv x1]:Value)) e1)
  have h40:=q4;refine V.g [.k (iv 1)] fun _ _ G7=>?_;intro S_ s_
  refine nm ((bl s).getD (0:Int).toNat default:UInt8) fun c1 hc1=>?_;refine V.g [.k (tv s),.sid g0 s (0:Int) c1 hc1 (fun _=>⟨by omega,by omega⟩),.k (bv (!(decide ((c1.toNat:Int)=49))))] fun _ _ G8=>?_;intro S_ s_
  refine V.cn (b:=!(decide ((c1.toNat:Int)=49))) (iNT iDF) (iNF iDT) (fun q5=>?_) (fun q6=>?_)
  · refine nm (if 0 < Un.nl (Un.ofs s (0:Int).toNat) then Un.cuW (Un.ofs s (0:Int).toNat) else ByteArray.empty:ByteArray) fun t1 ht1=>?_;refine nm (if 0 < Un.nl (Un.ofs s (0:Int).toNat) then Un.cuE (Un.ofs s (0:Int).toNat) else 0:Int) fun n1 hn1=>?_;refine nm (if 0 < Un.nl (Un.ofs s (0:Int).toNat) then (Un.spN s (0:Int).toNat:Int) else (0:Int):Int) fun n2 hn2=>?_;have hcw:=Un.itG_w hne (by have hqq:=h40;omega) (by have hqq:=q5;rw [hc1] at hqq;exact hqq)
    refine V.g [.k (tv s),.cp g0 1 105 [] (fun _ G=>split9_ctv s (0:Int) (by omega) ⟨by omega,by omega⟩ t1 ht1 n1 hn1 n2 hn2),.k (.tuple #[ag (DItem.mk t1 n1),iv n2,bv (decide (0 < Un.nl (Un.ofs s (0:Int).toNat)))]),.k (ag (DItem.mk t1 n1)),.k (iv n2),.k (bv (decide (0 < Un.nl (Un.ofs s (0:Int).toNat)))),.nb 6 0 (fun b=>pp b 0) 81 (fun _=>ca (DItem.mk ByteArray.empty 0)),.st 0 (fun G=>.blk ((G 6).b) (ca (DItem.mk t1 n1)) 81),.k (iv n2),.k (bv (decide (0 < Un.nl (Un.ofs s (0:Int).toNat))))] fun _ _ G9=>?_;intro S_ s_
    refine V.g [.k (bv (decide (0 < Un.nl (Un.ofs s (0:Int).toNat)))),.k (bv (!(decide (0 < Un.nl (Un.ofs s (0:Int).toNat)))))] fun _ _ G10=>?_;intro S_ s_
    refine V.cn (b:=!(decide (0 < Un.nl (Un.ofs s (0:Int).toNat)))) (iNT iDF) (iNF iDT) (fun q7=>?_) (fun q8=>?_)
    · refine V.g [.k (.slice none 0 0),.kb false] fun _ _ G11=>?_;intro S_ s_
      refine V.nilF (α:=DItem) ?_;have e0:([]:List DItem)=((Un.itG s).getD []):=by rw [hcw.1 (by have hqq:=q7;rw [show Un.ofs s (0:Int).toNat=s from Un.ofs_0] at hqq;exact hqq)];rfl
      rw [←e0];have e1:false=(Un.itG s).isSome:=by rw [hcw.1 (by have hqq:=q7;rw [show Un.ofs s (0:Int).toNat=s from Un.ofs_0] at hqq;exact hqq)];rfl
      exact V.rt [0,0] [{}] [fun _=>{}] [] [0] [] (.tuple #[SV.v ({}),bv false]) (cong1 (fun (x1:Bool)=>(.tuple #[SV.v ({}),bv x1]:Value)) e1)
    refine nm (([]:List DItem) ++([DItem.mk t1 n1]:List DItem):List DItem) fun l1 hl1=>?_;have hl1n:=congrArg List.length hl1;try simp only [List.length_append,List.length_cons,List.length_nil,List.length_replicate,List.length_set,List.length_take,List.length_drop,List.length_map,List.length_reverse,List.length_range] at hl1n
    refine V.r [.k (.slice none 0 0),.ld 0 0 true (fun _=>Dat.cells (DItem.mk t1 n1)),.nr 2 true 81 ([DItem.mk t1 n1]:List DItem) [] (fun _ _ _ _ _=>trivial) (fun _=>#[tv t1,iv n1]),.ap 3 1 81 24 true true [] (fun _=>{}) (kf true (.g 2 0) ([DItem.mk t1 n1]:List DItem) (fun G=>⟨atB (G 2).b,1,1⟩)) true l1 hl1 (by (try simp only [List.length_append,List.length_cons,List.length_nil,List.length_replicate,List.length_set,List.length_take,List.length_drop,List.length_map,List.length_reverse,List.length_range]);omega) (fun _=>⟨rfl,fun _=>rfl⟩) (.inr fun _ _=>trivial),.v fun G=>((G 3).s).v] fun _ _ G12 kw12=>?_;intro S_ s_
    obtain ⟨⟨kl1, -⟩, -⟩:Lq ([DItem.mk t1 n1]:List DItem) (SV.v ⟨atB (G12 2).b,1,1⟩)∧Lq l1 (((G12 3).s).v)∧True:=kq kw12;clear kw12;refine V.g [.k (iv n2),.k (iv n2)] fun _ _ G13=>?_;intro S_ s_;refine V.loop (γ:=List DItem × SV × Int) (fun ⟨out,outs,at_⟩=>⟨[(0,tv s),(4,outs.v),(5,iv at_)],[],[.blk ((G9 6).b) (ca (DItem.mk t1 n1)) 81,os true 81 out outs,.no]⟩) (fun ⟨out,outs,at_⟩=>(0≤at_)∧(at_≤(s.size:Int))∧(Un.itR out (Un.ofs s at_.toNat)=Un.itG s)∧((out.length:Int)≤at_)) (fun ⟨out,outs,at_⟩=>((s.size:Int)-at_).toNat) (l1,(G12 3).s,n2) (by kernel_rfl) [] (by kernel_rfl) ?_ ?_
    · refine ⟨?_,?_,?_,?_⟩
      · show 0≤n2
        first | omega | (have hp:=q8;rw [show Un.ofs s (0:Int).toNat=s from Un.ofs_0] at hp;have hle:=Un.spN_le (s:=s) (a:=0) (by rw [Un.ofs_0];first | exact hp | exact Decidable.not_not.1 hp);rw [hn2,show (0:Int).toNat=0 from rfl,Un.ofs_0,if_pos (by first | exact hp | exact Decidable.not_not.1 hp)];omega)
      · show n2≤(s.size:Int)
        first | omega | (have hp:=q8;rw [show Un.ofs s (0:Int).toNat=s from Un.ofs_0] at hp;have hle:=Un.spN_le (s:=s) (a:=0) (by rw [Un.ofs_0];first | exact hp | exact Decidable.not_not.1 hp);rw [hn2,show (0:Int).toNat=0 from rfl,Un.ofs_0,if_pos (by first | exact hp | exact Decidable.not_not.1 hp)];omega)
      · show Un.itR l1 (Un.ofs s n2.toNat)=Un.itG s;have hp:=q8;rw [show Un.ofs s (0:Int).toNat=s from Un.ofs_0] at hp;have hp:0 < Un.nl s:=by first | exact hp | exact Decidable.not_not.1 hp
        have hr:=hcw.2 hp;rw [hl1,ht1,hn1,hn2,show (0:Int).toNat=0 from rfl,Un.ofs_0,if_pos hp,if_pos hp,if_pos hp,Int.toNat_natCast];exact hr
      show (l1.length:Int)≤n2
      first | omega | (have hp:=q8;rw [show Un.ofs s (0:Int).toNat=s from Un.ofs_0] at hp;have hle:=Un.spN_le (s:=s) (a:=0) (by rw [Un.ofs_0];first | exact hp | exact Decidable.not_not.1 hp);rw [hn2,show (0:Int).toNat=0 from rfl,Un.ofs_0,if_pos (by first | exact hp | exact Decidable.not_not.1 hp)];omega)
    rintro ⟨out,outs,at_⟩ hF1 kw14 Z1 hZ1;have hF1:(0≤at_)∧(at_≤(s.size:Int))∧(Un.itR out (Un.ofs s at_.toNat)=Un.itG s)∧((out.length:Int)≤at_):=hF1;obtain ⟨hf1,hf2,hf3,hf4⟩:=hF1;obtain ⟨⟨kl2, -⟩, -⟩:Lq out outs.v∧True:=kq kw14;clear kw14;refine V.g [.k (iv at_),.k (tv s),.k (iv (s.size:Int)),.k (bv (decide (at_ < (s.size:Int))))] fun _ _ G14=>?_;intro S_ s_;refine V.cn (b:=decide (at_ < (s.size:Int))) iDT iDF (fun q9=>?_) (fun q10=>?_)
    · refine nm ((bl s).getD at_.toNat default:UInt8) fun c2 hc2=>?_;refine V.g [.k (tv s),.k (iv at_),.sid g0 s at_ c2 hc2 (fun _=>⟨by omega,by omega⟩),.k (.int .u8 (c2.toNat:Int))] fun _ _ G15=>?_;intro S_ s_
      refine nm (if 0 < Un.nl (Un.ofs s (at_+1).toNat) then Un.cuW (Un.ofs s (at_+1).toNat) else ByteArray.empty:ByteArray) fun t2 ht2=>?_;refine nm (if 0 < Un.nl (Un.ofs s (at_+1).toNat) then Un.cuE (Un.ofs s (at_+1).toNat) else 0:Int) fun n3 hn3=>?_;refine nm (if 0 < Un.nl (Un.ofs s (at_+1).toNat) then (Un.spN s (at_+1).toNat:Int) else (at_+1):Int) fun n4 hn4=>?_;refine V.g [.k (tv s),.k (iv at_),.a (at_+1) (by omega) (by omega),.cp g0 3 105 [] (fun _ G=>split9_ctv s (at_+1) (by omega) ⟨by omega,by omega⟩ t2 ht2 n3 hn3 n4 hn4),.k (.tuple #[ag (DItem.mk t2 n3),iv n4,bv (decide (0 < Un.nl (Un.ofs s (at_+1).toNat)))]),.k (ag (DItem.mk t2 n3)),.k (iv n4),.k (bv (decide (0 < Un.nl (Un.ofs s (at_+1).toNat)))),.nb 8 2 (fun b=>pp b 0) 81 (fun _=>ca (DItem.mk ByteArray.empty 0)),.st 2 (fun G=>.blk ((G 8).b) (ca (DItem.mk t2 n3)) 81),.k (iv n4),.k (bv (decide (0 < Un.nl (Un.ofs s (at_+1).toNat))))] fun _ _ G16=>?_;intro S_ s_
      refine nm ((!(decide ((c2.toNat:Int)=42))) && (!(decide ((c2.toNat:Int)=47))):Bool) fun p1 hp1=>?_;refine nm (p1 || (!(decide (0 < Un.nl (Un.ofs s (at_+1).toNat)))):Bool) fun p2 hp2=>?_;refine V.g [.k (.int .u8 (c2.toNat:Int)),.k (bv (!(decide ((c2.toNat:Int)=42)))),.k (bv (!(decide ((c2.toNat:Int)=42)))),.k (.int .u8 (c2.toNat:Int)),.k (bv (!(decide ((c2.toNat:Int)=47)))),.andn g0 false (!(decide ((c2.toNat:Int)=42))) (!(decide ((c2.toNat:Int)=47))) p1 hp1,.k (bv p1),.k (bv (decide (0 < Un.nl (Un.ofs s (at_+1).toNat)))),.k (bv (!(decide (0 < Un.nl (Un.ofs s (at_+1).toNat))))),.orn g0 false p1 (!(decide (0 < Un.nl (Un.ofs s (at_+1).toNat)))) p2 hp2] fun _ _ G17=>?_;intro S_ s_
      refine V.cn (b:=p2) (iN hp2 (iOT (iN hp1 (iAT (iNT iDF) (iNT iDF))) (iNT iDF))) (iN hp2 (iOF (iN hp1 (iAF (iNF iDT) (iNF iDT))) (iNF iDT))) (fun q11=>?_) (fun q12=>?_)
      · have hbad:Un.itG s=none:=by
          rw [←hf3];exact Un.itR_bad (by omega) (by
            rw [show at_.toNat+1=(at_+1).toNat by omega];rintro ⟨h1,h2⟩;have hqq:=q11;rw [hc2] at hqq;rcases hqq with ⟨h,hb⟩ | h
            · rcases h2 with h2 | h2;exact h h2;exact hb h2
            exact h h1)
        refine V.g [.k (.slice none 0 0),.kb false] fun _ _ G18=>?_;intro S_ s_
        refine V.nilF (α:=DItem) ?_;have e0:([]:List DItem)=((Un.itG s).getD []):=by rw [hbad];rfl
        rw [←e0];have e1:false=(Un.itG s).isSome:=by rw [hbad];rfl
        exact V.rt [0,0] [{}] [fun _=>{}] [] [0] [] (.tuple #[SV.v ({}),bv false]) (cong1 (fun (x1:Bool)=>(.tuple #[SV.v ({}),bv x1]:Value)) e1)
      have hqq:=q12;obtain ⟨hsg,hpn⟩:=hqq;have hpn1:0 < Un.nl (Un.ofs s (at_.toNat+1)):=by rw [show at_.toNat+1=(at_+1).toNat by omega];first | exact hpn | exact Decidable.not_not.1 hpn
      have hsg2:(((bl s).getD at_.toNat default).toNat:Int)=42∨(((bl s).getD at_.toNat default).toNat:Int)=47:=by rw [←hc2];omega
      have hle:=Un.spN_le hpn1;have hv0:t2=Un.cuW (Un.ofs s (at_.toNat+1)):=by rw [ht2,show (at_+1).toNat=at_.toNat+1 by omega,if_pos hpn1]
      have hv1:n3=Un.cuE (Un.ofs s (at_.toNat+1)):=by rw [hn3,show (at_+1).toNat=at_.toNat+1 by omega,if_pos hpn1]
      have hv2:n4=(Un.spN s (at_.toNat+1):Int):=by rw [hn4,show (at_+1).toNat=at_.toNat+1 by omega,if_pos hpn1]
      have hce:=Un.cuE_rg (Un.ofs s (at_.toNat+1));rw [←hv1] at hce;refine V.g [.k (.int .u8 (c2.toNat:Int)),.k (bv (decide ((c2.toNat:Int)=47)))] fun _ _ G19=>?_;intro S_ s_
      refine V.cn (b:=decide ((c2.toNat:Int)=47)) iDT iDF (fun q13=>?_) (fun q14=>?_)
      · have hx:(DItem.mk t2 (-n3))=⟨Un.cuW (Un.ofs s (at_.toNat+1)),if (((bl s).getD at_.toNat default).toNat:Int)=47 then -Un.cuE (Un.ofs s (at_.toNat+1)) else Un.cuE (Un.ofs s (at_.toNat+1))⟩:=by rw [hv0,hv1,← hc2,if_pos q13]
        refine V.g [.k (pp ((G16 8).b) 1),.ld 2 1 false (fun _=>[iv n3]),.ng n3 (-n3) rfl (by omega) (by omega),.k (pp ((G16 8).b) 1),.st 2 (fun _=>.blk ((G16 8).b) (ca (DItem.mk t2 (-n3))) 81)] fun _ _ G20=>?_;intro S_ s_
        refine nm (out ++([DItem.mk t2 (-n3)]:List DItem):List DItem) fun l2 hl2=>?_;have hl2n:=congrArg List.length hl2;try simp only [List.length_append,List.length_cons,List.length_nil,List.length_replicate,List.length_set,List.length_take,List.length_drop,List.length_map,List.length_reverse,List.length_range] at hl2n
        refine V.r [.k (outs.v),.ld 2 0 true (fun _=>Dat.cells (DItem.mk t2 (-n3))),.nr 2 true 81 ([DItem.mk t2 (-n3)]:List DItem) [] (fun _ _ _ _ _=>trivial) (fun _=>#[tv t2,iv (-n3)]),.ap 3 1 81 24 false true out (fun _=>outs) (kf true (.g 2 0) ([DItem.mk t2 (-n3)]:List DItem) (fun G=>⟨atB (G 2).b,1,1⟩)) true l2 hl2 (by (try simp only [List.length_append,List.length_cons,List.length_nil,List.length_replicate,List.length_set,List.length_take,List.length_drop,List.length_map,List.length_reverse,List.length_range]);omega) (fun h=>by cases h) (.inr fun _ _=>trivial),.v fun G=>((G 3).s).v] fun _ _ G21 kw22=>?_;intro S_ s_
        obtain ⟨⟨kl3, -⟩, -⟩:Lq ([DItem.mk t2 (-n3)]:List DItem) (SV.v ⟨atB (G21 2).b,1,1⟩)∧Lq l2 (((G21 3).s).v)∧True:=kq kw22;clear kw22;refine V.g [.k (iv n4),.k (iv n4)] fun _ _ G22=>?_;intro S_ s_;refine V.rnd hZ1 (l2,(G21 3).s,n4) [] (by kernel_rfl) ?_ ?_
        · refine ⟨?_,?_,?_,?_⟩
          · show 0≤n4;omega
          · show n4≤(s.size:Int);omega
          · show Un.itR l2 (Un.ofs s n4.toNat)=Un.itG s;rw [hl2,hv2];exact (Un.itR_step (by omega) ⟨hpn1,hsg2⟩ hx).trans hf3
          show (l2.length:Int)≤n4;omega
        show ((s.size:Int)-n4).toNat < ((s.size:Int)-at_).toNat;rw [hn4];omega
      have hx:(DItem.mk t2 (n3))=⟨Un.cuW (Un.ofs s (at_.toNat+1)),if (((bl s).getD at_.toNat default).toNat:Int)=47 then -Un.cuE (Un.ofs s (at_.toNat+1)) else Un.cuE (Un.ofs s (at_.toNat+1))⟩:=by rw [hv0,hv1,← hc2,if_neg q14]
      refine nm (out ++([DItem.mk t2 n3]:List DItem):List DItem) fun l3 hl3=>?_;have hl3n:=congrArg List.length hl3;try simp only [List.length_append,List.length_cons,List.length_nil,List.length_replicate,List.length_set,List.length_take,List.length_drop,List.length_map,List.length_reverse,List.length_range] at hl3n
      refine V.r [.k (outs.v),.ld 2 0 true (fun _=>Dat.cells (DItem.mk t2 n3)),.nr 2 true 81 ([DItem.mk t2 n3]:List DItem) [] (fun _ _ _ _ _=>trivial) (fun _=>#[tv t2,iv n3]),.ap 3 1 81 24 false true out (fun _=>outs) (kf true (.g 2 0) ([DItem.mk t2 n3]:List DItem) (fun G=>⟨atB (G 2).b,1,1⟩)) true l3 hl3 (by (try simp only [List.length_append,List.length_cons,List.length_nil,List.length_replicate,List.length_set,List.length_take,List.length_drop,List.length_map,List.length_reverse,List.length_range]);omega) (fun h=>by cases h) (.inr fun _ _=>trivial),.v fun G=>((G 3).s).v] fun _ _ G23 kw24=>?_;intro S_ s_
      obtain ⟨⟨kl4, -⟩, -⟩:Lq ([DItem.mk t2 n3]:List DItem) (SV.v ⟨atB (G23 2).b,1,1⟩)∧Lq l3 (((G23 3).s).v)∧True:=kq kw24;clear kw24;refine V.g [.k (iv n4),.k (iv n4)] fun _ _ G24=>?_;intro S_ s_;refine V.rnd hZ1 (l3,(G23 3).s,n4) [] (by kernel_rfl) ?_ ?_
      · refine ⟨?_,?_,?_,?_⟩
        · show 0≤n4;omega
        · show n4≤(s.size:Int);omega
        · show Un.itR l3 (Un.ofs s n4.toNat)=Un.itG s;rw [hl3,hv2];exact (Un.itR_step (by omega) ⟨hpn1,hsg2⟩ hx).trans hf3
        show (l3.length:Int)≤n4;omega
      show ((s.size:Int)-n4).toNat < ((s.size:Int)-at_).toNat;rw [hn4];omega
    refine V.g [.k (outs.v),.k (outs.v),.kb true] fun _ _ G25=>?_;intro S_ s_
    refine V.frz 1 true 81 out outs (by kernel_rfl) ?_;have e0:out=((Un.itG s).getD []):=by rw [←hf3,Un.itR_end (by omega)];rfl
    subst e0;have e1:true=(Un.itG s).isSome:=by rw [←hf3,Un.itR_end (by omega)];rfl
    exact V.rt [0,0] [outs] [fun _=>{}] [] [0] [] (.tuple #[outs.v,bv true]) (cong1 (fun (x1:Bool)=>(.tuple #[outs.v,bv x1]:Value)) e1)
  refine V.on (α:=DItem) 1 81 (by kernel_rfl) ?_;refine V.loop (γ:=List DItem × SV × Int) (fun ⟨out_1,out_1s,at__1⟩=>⟨[(0,tv s),(4,out_1s.v),(5,iv at__1)],[],[.no,os true 81 out_1 out_1s,.no]⟩) (fun ⟨out_1,out_1s,at__1⟩=>(0≤at__1)∧(at__1≤(s.size:Int))∧(Un.itR out_1 (Un.ofs s at__1.toNat)=Un.itG s)∧((out_1.length:Int)≤at__1)) (fun ⟨out_1,out_1s,at__1⟩=>((s.size:Int)-at__1).toNat) (([]:List DItem),{},1) (by kernel_rfl) [] (by kernel_rfl) ?_ ?_
  · refine ⟨?_,?_,?_,?_⟩
    · show 0≤(1:Int);omega
    · show (1:Int)≤(s.size:Int);omega
    · show Un.itR ([]:List DItem) (Un.ofs s (1:Int).toNat)=Un.itG s;exact Un.itG_1 hne (by omega) (by have hqq:=q6;rw [hc1] at hqq;first | exact hqq | exact Decidable.not_not.1 hqq)
    show (([]:List DItem).length:Int)≤(1:Int);decide
  rintro ⟨out_1,out_1s,at__1⟩ hF2 kw27 Z2 hZ2;have hF2:(0≤at__1)∧(at__1≤(s.size:Int))∧(Un.itR out_1 (Un.ofs s at__1.toNat)=Un.itG s)∧((out_1.length:Int)≤at__1):=hF2;obtain ⟨hf5,hf6,hf7,hf8⟩:=hF2;obtain ⟨⟨kl5, -⟩, -⟩:Lq out_1 out_1s.v∧True:=kq kw27;clear kw27;refine V.g [.k (iv at__1),.k (tv s),.k (iv (s.size:Int)),.k (bv (decide (at__1 < (s.size:Int))))] fun _ _ G26=>?_;intro S_ s_;refine V.cn (b:=decide (at__1 < (s.size:Int))) iDT iDF (fun q15=>?_) (fun q16=>?_)
  · refine nm ((bl s).getD at__1.toNat default:UInt8) fun c3 hc3=>?_;refine V.g [.k (tv s),.k (iv at__1),.sid g0 s at__1 c3 hc3 (fun _=>⟨by omega,by omega⟩),.k (.int .u8 (c3.toNat:Int))] fun _ _ G27=>?_;intro S_ s_
    refine nm (if 0 < Un.nl (Un.ofs s (at__1+1).toNat) then Un.cuW (Un.ofs s (at__1+1).toNat) else ByteArray.empty:ByteArray) fun t3 ht3=>?_;refine nm (if 0 < Un.nl (Un.ofs s (at__1+1).toNat) then Un.cuE (Un.ofs s (at__1+1).toNat) else 0:Int) fun n5 hn5=>?_;refine nm (if 0 < Un.nl (Un.ofs s (at__1+1).toNat) then (Un.spN s (at__1+1).toNat:Int) else (at__1+1):Int) fun n6 hn6=>?_;refine V.g [.k (tv s),.k (iv at__1),.a (at__1+1) (by omega) (by omega),.cp g0 3 105 [] (fun _ G=>split9_ctv s (at__1+1) (by omega) ⟨by omega,by omega⟩ t3 ht3 n5 hn5 n6 hn6),.k (.tuple #[ag (DItem.mk t3 n5),iv n6,bv (decide (0 < Un.nl (Un.ofs s (at__1+1).toNat)))]),.k (ag (DItem.mk t3 n5)),.k (iv n6),.k (bv (decide (0 < Un.nl (Un.ofs s (at__1+1).toNat)))),.nb 8 2 (fun b=>pp b 0) 81 (fun _=>ca (DItem.mk ByteArray.empty 0)),.st 2 (fun G=>.blk ((G 8).b) (ca (DItem.mk t3 n5)) 81),.k (iv n6),.k (bv (decide (0 < Un.nl (Un.ofs s (at__1+1).toNat))))] fun _ _ G28=>?_;intro S_ s_
    refine nm ((!(decide ((c3.toNat:Int)=42))) && (!(decide ((c3.toNat:Int)=47))):Bool) fun p3 hp3=>?_;refine nm (p3 || (!(decide (0 < Un.nl (Un.ofs s (at__1+1).toNat)))):Bool) fun p4 hp4=>?_;refine V.g [.k (.int .u8 (c3.toNat:Int)),.k (bv (!(decide ((c3.toNat:Int)=42)))),.k (bv (!(decide ((c3.toNat:Int)=42)))),.k (.int .u8 (c3.toNat:Int)),.k (bv (!(decide ((c3.toNat:Int)=47)))),.andn g0 false (!(decide ((c3.toNat:Int)=42))) (!(decide ((c3.toNat:Int)=47))) p3 hp3,.k (bv p3),.k (bv (decide (0 < Un.nl (Un.ofs s (at__1+1).toNat)))),.k (bv (!(decide (0 < Un.nl (Un.ofs s (at__1+1).toNat))))),.orn g0 false p3 (!(decide (0 < Un.nl (Un.ofs s (at__1+1).toNat)))) p4 hp4] fun _ _ G29=>?_;intro S_ s_
    refine V.cn (b:=p4) (iN hp4 (iOT (iN hp3 (iAT (iNT iDF) (iNT iDF))) (iNT iDF))) (iN hp4 (iOF (iN hp3 (iAF (iNF iDT) (iNF iDT))) (iNF iDT))) (fun q17=>?_) (fun q18=>?_)
    · have hbad:Un.itG s=none:=by
        rw [←hf7];exact Un.itR_bad (by omega) (by
          rw [show at__1.toNat+1=(at__1+1).toNat by omega];rintro ⟨h1,h2⟩;have hqq:=q17;rw [hc3] at hqq;rcases hqq with ⟨h,hb⟩ | h
          · rcases h2 with h2 | h2;exact h h2;exact hb h2
          exact h h1)
      refine V.g [.k (.slice none 0 0),.kb false] fun _ _ G30=>?_;intro S_ s_
      refine V.nilF (α:=DItem) ?_;have e0:([]:List DItem)=((Un.itG s).getD []):=by rw [hbad];rfl
      rw [←e0];have e1:false=(Un.itG s).isSome:=by rw [hbad];rfl
      exact V.rt [0,0] [{}] [fun _=>{}] [] [0] [] (.tuple #[SV.v ({}),bv false]) (cong1 (fun (x1:Bool)=>(.tuple #[SV.v ({}),bv x1]:Value)) e1)
    have hqq:=q18;obtain ⟨hsg,hpn⟩:=hqq;have hpn1:0 < Un.nl (Un.ofs s (at__1.toNat+1)):=by rw [show at__1.toNat+1=(at__1+1).toNat by omega];first | exact hpn | exact Decidable.not_not.1 hpn
    have hsg2:(((bl s).getD at__1.toNat default).toNat:Int)=42∨(((bl s).getD at__1.toNat default).toNat:Int)=47:=by rw [←hc3];omega
    have hle:=Un.spN_le hpn1;have hv0:t3=Un.cuW (Un.ofs s (at__1.toNat+1)):=by rw [ht3,show (at__1+1).toNat=at__1.toNat+1 by omega,if_pos hpn1]
    have hv1:n5=Un.cuE (Un.ofs s (at__1.toNat+1)):=by rw [hn5,show (at__1+1).toNat=at__1.toNat+1 by omega,if_pos hpn1]
    have hv2:n6=(Un.spN s (at__1.toNat+1):Int):=by rw [hn6,show (at__1+1).toNat=at__1.toNat+1 by omega,if_pos hpn1]
    have hce:=Un.cuE_rg (Un.ofs s (at__1.toNat+1));rw [←hv1] at hce;refine V.g [.k (.int .u8 (c3.toNat:Int)),.k (bv (decide ((c3.toNat:Int)=47)))] fun _ _ G31=>?_;intro S_ s_
    refine V.cn (b:=decide ((c3.toNat:Int)=47)) iDT iDF (fun q19=>?_) (fun q20=>?_)
    · have hx:(DItem.mk t3 (-n5))=⟨Un.cuW (Un.ofs s (at__1.toNat+1)),if (((bl s).getD at__1.toNat default).toNat:Int)=47 then -Un.cuE (Un.ofs s (at__1.toNat+1)) else Un.cuE (Un.ofs s (at__1.toNat+1))⟩:=by rw [hv0,hv1,← hc3,if_pos q19]
      refine V.g [.k (pp ((G28 8).b) 1),.ld 2 1 false (fun _=>[iv n5]),.ng n5 (-n5) rfl (by omega) (by omega),.k (pp ((G28 8).b) 1),.st 2 (fun _=>.blk ((G28 8).b) (ca (DItem.mk t3 (-n5))) 81)] fun _ _ G32=>?_;intro S_ s_
      refine nm (out_1 ++([DItem.mk t3 (-n5)]:List DItem):List DItem) fun l4 hl4=>?_;have hl4n:=congrArg List.length hl4;try simp only [List.length_append,List.length_cons,List.length_nil,List.length_replicate,List.length_set,List.length_take,List.length_drop,List.length_map,List.length_reverse,List.length_range] at hl4n
      refine V.r [.k (out_1s.v),.ld 2 0 true (fun _=>Dat.cells (DItem.mk t3 (-n5))),.nr 2 true 81 ([DItem.mk t3 (-n5)]:List DItem) [] (fun _ _ _ _ _=>trivial) (fun _=>#[tv t3,iv (-n5)]),.ap 3 1 81 24 false true out_1 (fun _=>out_1s) (kf true (.g 2 0) ([DItem.mk t3 (-n5)]:List DItem) (fun G=>⟨atB (G 2).b,1,1⟩)) true l4 hl4 (by (try simp only [List.length_append,List.length_cons,List.length_nil,List.length_replicate,List.length_set,List.length_take,List.length_drop,List.length_map,List.length_reverse,List.length_range]);omega) (fun h=>by cases h) (.inr fun _ _=>trivial),.v fun G=>((G 3).s).v] fun _ _ G33 kw35=>?_;intro S_ s_
      obtain ⟨⟨kl6, -⟩, -⟩:Lq ([DItem.mk t3 (-n5)]:List DItem) (SV.v ⟨atB (G33 2).b,1,1⟩)∧Lq l4 (((G33 3).s).v)∧True:=kq kw35;clear kw35;refine V.g [.k (iv n6),.k (iv n6)] fun _ _ G34=>?_;intro S_ s_;refine V.rnd hZ2 (l4,(G33 3).s,n6) [] (by kernel_rfl) ?_ ?_
      · refine ⟨?_,?_,?_,?_⟩
        · show 0≤n6;omega
        · show n6≤(s.size:Int);omega
        · show Un.itR l4 (Un.ofs s n6.toNat)=Un.itG s;rw [hl4,hv2];exact (Un.itR_step (by omega) ⟨hpn1,hsg2⟩ hx).trans hf7
        show (l4.length:Int)≤n6;omega
      show ((s.size:Int)-n6).toNat < ((s.size:Int)-at__1).toNat;rw [hn6];omega
    have hx:(DItem.mk t3 (n5))=⟨Un.cuW (Un.ofs s (at__1.toNat+1)),if (((bl s).getD at__1.toNat default).toNat:Int)=47 then -Un.cuE (Un.ofs s (at__1.toNat+1)) else Un.cuE (Un.ofs s (at__1.toNat+1))⟩:=by rw [hv0,hv1,← hc3,if_neg q20]
    refine nm (out_1 ++([DItem.mk t3 n5]:List DItem):List DItem) fun l5 hl5=>?_;have hl5n:=congrArg List.length hl5;try simp only [List.length_append,List.length_cons,List.length_nil,List.length_replicate,List.length_set,List.length_take,List.length_drop,List.length_map,List.length_reverse,List.length_range] at hl5n
    refine V.r [.k (out_1s.v),.ld 2 0 true (fun _=>Dat.cells (DItem.mk t3 n5)),.nr 2 true 81 ([DItem.mk t3 n5]:List DItem) [] (fun _ _ _ _ _=>trivial) (fun _=>#[tv t3,iv n5]),.ap 3 1 81 24 false true out_1 (fun _=>out_1s) (kf true (.g 2 0) ([DItem.mk t3 n5]:List DItem) (fun G=>⟨atB (G 2).b,1,1⟩)) true l5 hl5 (by (try simp only [List.length_append,List.length_cons,List.length_nil,List.length_replicate,List.length_set,List.length_take,List.length_drop,List.length_map,List.length_reverse,List.length_range]);omega) (fun h=>by cases h) (.inr fun _ _=>trivial),.v fun G=>((G 3).s).v] fun _ _ G35 kw37=>?_;intro S_ s_
    obtain ⟨⟨kl7, -⟩, -⟩:Lq ([DItem.mk t3 n5]:List DItem) (SV.v ⟨atB (G35 2).b,1,1⟩)∧Lq l5 (((G35 3).s).v)∧True:=kq kw37;clear kw37;refine V.g [.k (iv n6),.k (iv n6)] fun _ _ G36=>?_;intro S_ s_;refine V.rnd hZ2 (l5,(G35 3).s,n6) [] (by kernel_rfl) ?_ ?_
    · refine ⟨?_,?_,?_,?_⟩
      · show 0≤n6;omega
      · show n6≤(s.size:Int);omega
      · show Un.itR l5 (Un.ofs s n6.toNat)=Un.itG s;rw [hl5,hv2];exact (Un.itR_step (by omega) ⟨hpn1,hsg2⟩ hx).trans hf7
      show (l5.length:Int)≤n6;omega
    show ((s.size:Int)-n6).toNat < ((s.size:Int)-at__1).toNat;rw [hn6];omega
  refine V.g [.k (out_1s.v),.k (out_1s.v),.kb true] fun _ _ G37=>?_;intro S_ s_
  refine V.frz 1 true 81 out_1 out_1s (by kernel_rfl) ?_;have e0:out_1=((Un.itG s).getD []):=by rw [←hf7,Un.itR_end (by omega)];rfl
  subst e0;have e1:true=(Un.itG s).isSome:=by rw [←hf7,Un.itR_end (by omega)];rfl
  exact V.rt [0,0] [out_1s] [fun _=>{}] [] [0] [] (.tuple #[out_1s.v,bv true]) (cong1 (fun (x1:Bool)=>(.tuple #[out_1s.v,bv x1]:Value)) e1)
theorem items9_ctv (s:ByteArray) (hs:s.size≤1000000) (rv0:List DItem) (erv0:rv0=((Un.itG s).getD [])) :
    Ct Tryz.prog 64 #[tv s] [] [] (fun g=>.tuple #[((g.ss 0)).v,bv ((Un.itG s).isSome)]) (fun g=>[fs true rv0 (g.ss 0)]) (fun g=>[]) (fun g=>[]):=by
  subst erv0;exact items9_ct s hs

open Go Go.Proofs
set_option maxRecDepth 10000 in
set_option maxHeartbeats 4000000 in
theorem read9_ct (s:ByteArray) (hs:s.size≤1000000) :
    Ct Tryz.prog 20 #[tv s] [] [] (fun g=>.tuple #[.agg #[iv (Un.dv ((Un.read s).1) 0),iv (Un.dv ((Un.read s).1) 1),iv (Un.dv ((Un.read s).1) 2),iv (Un.dv ((Un.read s).1) 3),iv (Un.dv ((Un.read s).1) 4),iv (Un.dv ((Un.read s).1) 5),iv (Fr.rS (((Un.read s).1).isSome=true) (Un.fv ((Un.read s).1))),((g.ss 0)).v,iv (Fr.rT (((Un.read s).1).isSome=true)),((g.ss 1)).v],iv ((Un.read s).2)]) (fun g=>[fs true (Fr.rD (((Un.read s).1).isSome=true) (Un.fv ((Un.read s).1))) (g.ss 0),fs true (Fr.rE (((Un.read s).1).isSome=true) (Un.fv ((Un.read s).1))) (g.ss 1)]) (fun g=>[]) (fun g=>[]):=by
  refine V.fn mo Tryz.func20 82 3 (by kernel_rfl) fun w H ε k0=>?_;clear k0
  refine V.g [.nb 0 0 (fun b=>pp b 0) 42 (fun _=>#[iv 0,iv 0,iv 0,iv 0,iv 0,iv 0,iv 0,.slice none 0 0,iv 0,.slice none 0 0]),.k (iv 0)] fun _ _ G1=>?_;intro S_ s_
  refine nm (((Un.itG s).getD []):List DItem) fun l1 hl1=>?_;have hl1n:=congrArg List.length hl1
  refine V.r [.k (tv s),.ct g0 1 64 false [] [] [] (fun _ G=>items9_ctv s (by omega) l1 hl1),.v fun G=>.tuple #[((G 1).ss 0).v,bv ((Un.itG s).isSome)],.v fun G=>((G 1).ss 0).v,.k (bv ((Un.itG s).isSome)),.v fun G=>((G 1).ss 0).v,.k (bv ((Un.itG s).isSome))] fun _ _ G2 kw2=>?_;intro S_ s_
  obtain ⟨⟨kl1, -⟩, -⟩:Lq l1 (((G2 1).ss 0).v)∧True:=kq kw2;clear kw2;refine V.g [.k (bv ((Un.itG s).isSome)),.k (bv (!((Un.itG s).isSome)))] fun _ _ G3=>?_;intro S_ s_;refine V.cn (b:=!((Un.itG s).isSome)) (iNT Iff.rfl) (iNF Iff.rfl) (fun q1=>?_) (fun q2=>?_)
  · have hrd:=Un.read_syn (s:=s) (by have hqq:=q1;intro h;unfold Un.itG at hqq;rw [Option.isSome_map,h] at hqq;simp at hqq);refine V.g [.k (.agg #[iv 0,iv 0,iv 0,iv 0,iv 0,iv 0,iv 0,.slice none 0 0,iv 0,.slice none 0 0]),.st 0 (fun _=>.blk ((G1 0).b) #[iv 0,iv 0,iv 0,iv 0,iv 0,iv 0,iv 0,.slice none 0 0,iv 0,.slice none 0 0] 42),.k (iv 12)] fun _ _ G4=>?_;intro S_ s_
    refine V.nilF (α:=Int) ?_;refine V.nilF (α:=Int) ?_;have e7:([]:List Int)=Fr.rD (((Un.read s).1).isSome=true) (Un.fv ((Un.read s).1)):=(Fr.Fz.no (Un.is_n (by rw [hrd])) (Un.fv (Un.read s).1)).2.1;rw [←e7];have e9:([]:List Int)=Fr.rE (((Un.read s).1).isSome=true) (Un.fv ((Un.read s).1)):=(Fr.Fz.no (Un.is_n (by rw [hrd])) (Un.fv (Un.read s).1)).2.2.2;rw [←e9];have e0:(0:Int)=Un.dv ((Un.read s).1) 0:=(Un.dv_n (by rw [hrd]) 0).symm;have e1:(0:Int)=Un.dv ((Un.read s).1) 1:=(Un.dv_n (by rw [hrd]) 1).symm;have e2:(0:Int)=Un.dv ((Un.read s).1) 2:=(Un.dv_n (by rw [hrd]) 2).symm;have e3:(0:Int)=Un.dv ((Un.read s).1) 3:=(Un.dv_n (by rw [hrd]) 3).symm;have e4:(0:Int)=Un.dv ((Un.read s).1) 4:=(Un.dv_n (by rw [hrd]) 4).symm;have e5:(0:Int)=Un.dv ((Un.read s).1) 5:=(Un.dv_n (by rw [hrd]) 5).symm;have e6:(0:Int)=Fr.rS (((Un.read s).1).isSome=true) (Un.fv ((Un.read s).1)):=(Fr.Fz.no (Un.is_n (by rw [hrd])) (Un.fv (Un.read s).1)).1;have e8:(0:Int)=Fr.rT (((Un.read s).1).isSome=true):=(Fr.Fz.no (Un.is_n (by rw [hrd])) (Un.fv (Un.read s).1)).2.2.1;have e10:(12:Int)=(Un.read s).2:=by rw [hrd]
    exact V.rt [0,0] [{},{}] [fun _=>{},fun _=>{}] [] [1,2] [] (.tuple #[.agg #[iv 0,iv 0,iv 0,iv 0,iv 0,iv 0,iv 0,SV.v ({}),iv 0,SV.v ({})],iv 12]) (cong9 (fun (x0 x1 x2 x3 x4 x5 x6 x8 x10:Int)=>(.tuple #[.agg #[iv x0,iv x1,iv x2,iv x3,iv x4,iv x5,iv x6,SV.v ({}),iv x8,SV.v ({})],iv x10]:Value)) e0 e1 e2 e3 e4 e5 e6 e8 e10)
  have hsg:(Un.itG s).isSome=true:=by have hqq:=q2;first | exact hqq | simpa using hqq
  have hsm:(Un.items s).isSome=true:=by unfold Un.itG at hsg;rw [Option.isSome_map] at hsg;exact hsg
  have hie:Un.items s=some ((Un.items s).getD []):=Un.its hsm;have hio:=Un.items_ok hie;have hlm:l1=((Un.items s).getD []).map Un.ri:=by rw [hl1];unfold Un.itG;rw [hie];rfl
  have hml:l1.length=((Un.items s).getD []).length:=by rw [hlm,List.length_map]
  have hil:=hio.1;refine nm (Bg.sgn (1:Int):Int) fun n1 hn1=>?_;refine nl (Bg.dig (1:Int).natAbs) fun l2 hl2 hl2n=>?_;refine nl (Bg.dig 1) fun l3 hl3 hl3n=>?_;refine V.r [.ct g0 0 33 false [] [] [] (fun _ G=>r5int_ctv (1:Int) (by omega) n1 hn1 l2 hl2 l3 hl3),.v fun G=>.agg #[iv 0,iv 0,iv 0,iv 0,iv 0,iv 0,iv n1,((G 0).ss 0).v,iv 1,((G 0).ss 1).v],.nb 2 1 (fun b=>pp b 0) 42 (fun _=>#[iv 0,iv 0,iv 0,iv 0,iv 0,iv 0,iv 0,.slice none 0 0,iv 0,.slice none 0 0]),.st 1 (fun G=>.blk ((G 2).b) #[iv 0,iv 0,iv 0,iv 0,iv 0,iv 0,iv n1,((G 0).ss 0).v,iv 1,((G 0).ss 1).v] 42)] fun _ _ G5 kw5=>?_;intro S_ s_
  obtain ⟨⟨kl2, -⟩,⟨kl3, -⟩, -⟩:Lq l2 (((G5 0).ss 0).v)∧Lq l3 (((G5 0).ss 1).v)∧True:=kq kw5;clear kw5;refine V.g [.k (iv 0)] fun _ _ G6=>?_;intro S_ s_;refine V.loop (γ:=Int × Int × Int × Int × Int × Int × Int × Int × List Int × SV × Int × List Int × SV) (fun ⟨i,out_0,out_1,out_2,out_3,out_4,out_5,out_6,out_7,out_7s,out_8,out_9,out_9s⟩=>⟨[(2,pp ((G1 0).b) 0),(4,((G2 1).ss 0).v),(6,pp ((G5 2).b) 0),(7,iv i)],[fs true l1 ((G2 1).ss 0),fs true out_7 out_7s,fs true out_9 out_9s],[.blk ((G1 0).b) #[iv 0,iv 0,iv 0,iv 0,iv 0,iv 0,iv 0,.slice none 0 0,iv 0,.slice none 0 0] 42,.blk ((G5 2).b) #[iv out_0,iv out_1,iv out_2,iv out_3,iv out_4,iv out_5,iv out_6,out_7s.v,iv out_8,out_9s.v] 42,.no]⟩) (fun ⟨i,out_0,out_1,out_2,out_3,out_4,out_5,out_6,out_7,out_7s,out_8,out_9,out_9s⟩=>(0≤i)∧(i≤(l1.length:Int))∧(Un.acc (((Un.items s).getD []).drop i.toNat) ([out_0,out_1,out_2,out_3,out_4,out_5],(Fr.fq out_6 out_7 out_9))=Un.acc ((Un.items s).getD []) ([0,0,0,0,0,0],1))∧(Fr.FrB out_6 out_7 out_8 out_9)∧(Un.R27 i out_0)∧(Un.R27 i out_1)∧(Un.R27 i out_2)∧(Un.R27 i out_3)∧(Un.R27 i out_4)∧(Un.R27 i out_5)∧(out_7.length≤1+36 * i.toNat∧out_9.length≤1+36 * i.toNat)) (fun ⟨i,out_0,out_1,out_2,out_3,out_4,out_5,out_6,out_7,out_7s,out_8,out_9,out_9s⟩=>((l1.length:Int)-i).toNat) (0,0,0,0,0,0,0,n1,l2,(G5 0).ss 0,1,l3,(G5 0).ss 1) (by kernel_rfl) [0,1,2] (by kernel_rfl) ?_ ?_
  · refine ⟨?_,?_,?_,?_,?_,?_,?_,?_,?_,?_,?_⟩
    · show 0≤(0:Int);omega
    · show (0:Int)≤(l1.length:Int);omega
    · show Un.acc (((Un.items s).getD []).drop (0:Int).toNat) ([(0:Int),(0:Int),(0:Int),(0:Int),(0:Int),(0:Int)],(Fr.fq n1 l2 l3))=Un.acc ((Un.items s).getD []) ([0,0,0,0,0,0],1);rw [hn1,hl2,hl3];show Un.acc ((Un.items s).getD []) ([0,0,0,0,0,0],Fr.fq (Bg.sgn (1:Rat).num) (Bg.dig (1:Rat).num.natAbs) (Bg.dig (1:Rat).den))=_;rw [Fr.fq_of]
    · show Fr.FrB n1 l2 (1:Int) l3;rw [hn1,hl2,hl3];exact Fr.FrB.of 1
    · show Un.R27 (0:Int) (0:Int);exact Un.R27.zero
    · show Un.R27 (0:Int) (0:Int);exact Un.R27.zero
    · show Un.R27 (0:Int) (0:Int);exact Un.R27.zero
    · show Un.R27 (0:Int) (0:Int);exact Un.R27.zero
    · show Un.R27 (0:Int) (0:Int);exact Un.R27.zero
    · show Un.R27 (0:Int) (0:Int);exact Un.R27.zero
    show l2.length≤1+36 * (0:Int).toNat∧l3.length≤1+36 * (0:Int).toNat
    subst_vars;exact ⟨Bg.dig_lt (k:=1) (by decide),Bg.dig_lt (k:=1) (by decide)⟩
  rintro ⟨i,out_0,out_1,out_2,out_3,out_4,out_5,out_6,out_7,out_7s,out_8,out_9,out_9s⟩ hF1 kw7 Z1 hZ1;have hF1:(0≤i)∧(i≤(l1.length:Int))∧(Un.acc (((Un.items s).getD []).drop i.toNat) ([out_0,out_1,out_2,out_3,out_4,out_5],(Fr.fq out_6 out_7 out_9))=Un.acc ((Un.items s).getD []) ([0,0,0,0,0,0],1))∧(Fr.FrB out_6 out_7 out_8 out_9)∧(Un.R27 i out_0)∧(Un.R27 i out_1)∧(Un.R27 i out_2)∧(Un.R27 i out_3)∧(Un.R27 i out_4)∧(Un.R27 i out_5)∧(out_7.length≤1+36 * i.toNat∧out_9.length≤1+36 * i.toNat):=hF1;obtain ⟨hf1,hf2,hf3,hf4,hf5,hf6,hf7,hf8,hf9,hf10,hf11⟩:=hF1;obtain ⟨-,⟨kl4, -⟩,⟨kl5, -⟩, -⟩:Lq l1 (((G2 1).ss 0).v)∧Lq out_7 out_7s.v∧Lq out_9 out_9s.v∧True:=kq kw7;clear kw7;refine V.g [.k (iv i),.k (((G2 1).ss 0).v),.ln (kf true (.f 0) l1 (fun _=>(G2 1).ss 0)),.k (bv (decide (i < (l1.length:Int))))] fun _ _ G7=>?_;intro S_ s_;refine V.cn (b:=decide (i < (l1.length:Int))) iDT iDF (fun q3=>?_) (fun q4=>?_)
  · refine nm (l1.getD i.toNat default:DItem) fun x1 hx1=>?_;refine nm (Un.dv (Un.word x1.Word) 0:Int) fun n2 hn2=>?_;refine nm (Un.dv (Un.word x1.Word) 1:Int) fun n3 hn3=>?_;refine nm (Un.dv (Un.word x1.Word) 2:Int) fun n4 hn4=>?_;refine nm (Un.dv (Un.word x1.Word) 3:Int) fun n5 hn5=>?_;refine nm (Un.dv (Un.word x1.Word) 4:Int) fun n6 hn6=>?_;refine nm (Un.dv (Un.word x1.Word) 5:Int) fun n7 hn7=>?_;refine nm (Fr.rS ((Un.word x1.Word).isSome=true) (Un.fv (Un.word x1.Word)):Int) fun n8 hn8=>?_;refine nl (Fr.rD ((Un.word x1.Word).isSome=true) (Un.fv (Un.word x1.Word))) fun l4 hl4 hl4n=>?_;refine nm (Fr.rT ((Un.word x1.Word).isSome=true):Int) fun n9 hn9=>?_;refine nl (Fr.rE ((Un.word x1.Word).isSome=true) (Un.fv (Un.word x1.Word))) fun l5 hl5 hl5n=>?_;refine nm (((Un.items s).getD []).getD i.toNat default:Ditem) fun X hX=>?_;have hxX:x1=Un.ri X:=by rw [hx1,hlm,hX];exact Un.ri_get _ _
    have hX1:x1.Word=X.word:=by rw [hxX];rfl
    have hX2:x1.Exp=X.exp:=by rw [hxX];rfl
    have hXm:=getD_mem (l:=((Un.items s).getD [])) (k:=i.toNat) (by omega) hX;have hXo:=hio.2 _ hXm;have hxo2: -9≤x1.Exp∧x1.Exp≤9:=by rw [hX2];exact hXo.2
    refine V.r [.k (((G2 1).ss 0).v),.k (iv i),.ix g0 (kf true (.f 0) l1 (fun _=>(G2 1).ss 0)) i (fun _=>⟨by omega,by omega⟩),.k (.pointer (some ((elemAddr (((G2 1).ss 0).v) (i.toNat * 2)).add 0))),.le g0 (kf true (.f 0) l1 (fun _=>(G2 1).ss 0)) i (some 0) false x1 hx1 (fun _=>⟨by omega,by omega⟩) false (fun _=>[tv x1.Word]),.ct g0 5 65 false [] [] [] (fun _ G=>word9_ctv x1.Word n2 hn2 n3 hn3 n4 hn4 n5 hn5 n6 hn6 n7 hn7 n8 hn8 l4 hl4 n9 hn9 l5 hl5),.v fun G=>.tuple #[.agg #[iv n2,iv n3,iv n4,iv n5,iv n6,iv n7,iv n8,((G 5).ss 0).v,iv n9,((G 5).ss 1).v],bv ((Un.word x1.Word).isSome)],.v fun G=>.agg #[iv n2,iv n3,iv n4,iv n5,iv n6,iv n7,iv n8,((G 5).ss 0).v,iv n9,((G 5).ss 1).v],.k (bv ((Un.word x1.Word).isSome)),.nb 9 2 (fun b=>pp b 0) 42 (fun _=>#[iv 0,iv 0,iv 0,iv 0,iv 0,iv 0,iv 0,.slice none 0 0,iv 0,.slice none 0 0]),.st 2 (fun G=>.blk ((G 9).b) #[iv n2,iv n3,iv n4,iv n5,iv n6,iv n7,iv n8,((G 5).ss 0).v,iv n9,((G 5).ss 1).v] 42),.k (bv ((Un.word x1.Word).isSome))] fun _ _ G8 kw9=>?_;intro S_ s_
    obtain ⟨⟨kl6, -⟩,⟨kl7, -⟩, -⟩:Lq l4 (((G8 5).ss 0).v)∧Lq l5 (((G8 5).ss 1).v)∧True:=kq kw9;clear kw9;refine V.g [.k (bv ((Un.word x1.Word).isSome)),.k (bv (!((Un.word x1.Word).isSome)))] fun _ _ G9=>?_;intro S_ s_;refine V.cn (b:=!((Un.word x1.Word).isSome)) (iNT Iff.rfl) (iNF Iff.rfl) (fun q5=>?_) (fun q6=>?_)
    · have hrd:=Un.read_nam hsm (by rw [←hf3,Un.acc_drop (by omega),← hX,← hX1,if_neg (by have hqq:=q5;simpa using hqq)]);refine V.g [.k (.agg #[iv 0,iv 0,iv 0,iv 0,iv 0,iv 0,iv 0,.slice none 0 0,iv 0,.slice none 0 0]),.st 0 (fun _=>.blk ((G1 0).b) #[iv 0,iv 0,iv 0,iv 0,iv 0,iv 0,iv 0,.slice none 0 0,iv 0,.slice none 0 0] 42),.k (iv 11)] fun _ _ G10=>?_;intro S_ s_
      refine V.nilF (α:=Int) ?_;refine V.nilF (α:=Int) ?_;have e7:([]:List Int)=Fr.rD (((Un.read s).1).isSome=true) (Un.fv ((Un.read s).1)):=(Fr.Fz.no (Un.is_n (by rw [hrd])) (Un.fv (Un.read s).1)).2.1;rw [←e7];have e9:([]:List Int)=Fr.rE (((Un.read s).1).isSome=true) (Un.fv ((Un.read s).1)):=(Fr.Fz.no (Un.is_n (by rw [hrd])) (Un.fv (Un.read s).1)).2.2.2;rw [←e9];have e0:(0:Int)=Un.dv ((Un.read s).1) 0:=(Un.dv_n (by rw [hrd]) 0).symm;have e1:(0:Int)=Un.dv ((Un.read s).1) 1:=(Un.dv_n (by rw [hrd]) 1).symm;have e2:(0:Int)=Un.dv ((Un.read s).1) 2:=(Un.dv_n (by rw [hrd]) 2).symm;have e3:(0:Int)=Un.dv ((Un.read s).1) 3:=(Un.dv_n (by rw [hrd]) 3).symm;have e4:(0:Int)=Un.dv ((Un.read s).1) 4:=(Un.dv_n (by rw [hrd]) 4).symm;have e5:(0:Int)=Un.dv ((Un.read s).1) 5:=(Un.dv_n (by rw [hrd]) 5).symm;have e6:(0:Int)=Fr.rS (((Un.read s).1).isSome=true) (Un.fv ((Un.read s).1)):=(Fr.Fz.no (Un.is_n (by rw [hrd])) (Un.fv (Un.read s).1)).1;have e8:(0:Int)=Fr.rT (((Un.read s).1).isSome=true):=(Fr.Fz.no (Un.is_n (by rw [hrd])) (Un.fv (Un.read s).1)).2.2.1;have e10:(11:Int)=(Un.read s).2:=by rw [hrd]
      exact V.rt [0,0] [{},{}] [fun _=>{},fun _=>{}] [] [5,6] [] (.tuple #[.agg #[iv 0,iv 0,iv 0,iv 0,iv 0,iv 0,iv 0,SV.v ({}),iv 0,SV.v ({})],iv 11]) (cong9 (fun (x0 x1 x2 x3 x4 x5 x6 x8 x10:Int)=>(.tuple #[.agg #[iv x0,iv x1,iv x2,iv x3,iv x4,iv x5,iv x6,SV.v ({}),iv x8,SV.v ({})],iv x10]:Value)) e0 e1 e2 e3 e4 e5 e6 e8 e10)
    have hws:(Un.word x1.Word).isSome=true:=by have hqq:=q6;first | exact hqq | simpa using hqq
    have zw:=Fr.Fz.of hws hn8 hl4 hn9 hl5;have hwo:=Un.word_ok (Un.some_of hws);have hzw:=zw.len hwo.2.2.2;have hzw1:=hzw.1;have hzw2:=hzw.2;have hw0:n8≠0:=by have:=(Fr.sgn_num (r:=Un.fv (Un.word x1.Word))).2.2.2 hwo.2.2.1;rw [←zw.eqs.1] at this;omega
    have hk41:0≤i∧i≤41:=⟨by omega,by omega⟩;refine V.g [.k (iv 0)] fun _ _ G11=>?_;intro S_ s_
    refine V.unrollL 99 (by kernel_rfl) ?_;intro L_1;refine V.g [.k (iv 0),.kb true] fun _ _ G12=>?_;intro S_ s_
    refine V.condT (by kernel_rfl) ?_;refine nm (n2 * x1.Exp:Int) fun n10 hn10=>?_;refine V.g [.k (iv 0),.k (iv 0),.k (pp ((G5 2).b) 0),.k (pp ((G5 2).b) 0),.ld 1 0 false (fun _=>[iv out_0]),.k (iv 0),.k (pp ((G8 9).b) 0),.k (pp ((G8 9).b) 0),.ld 2 0 false (fun _=>[iv n2]),.k (((G2 1).ss 0).v),.k (iv i),.ix g0 (kf true (.f 0) l1 (fun _=>(G2 1).ss 0)) i (fun _=>⟨by omega,by omega⟩),.k (.pointer (some ((elemAddr (((G2 1).ss 0).v) (i.toNat * 2)).add 1))),.le g0 (kf true (.f 0) l1 (fun _=>(G2 1).ss 0)) i (some 1) false x1 hx1 (fun _=>⟨by omega,by omega⟩) false (fun _=>[iv x1.Exp]),.ar (n2 * x1.Exp) n10 hn10 (Un.R27.r64 (.mul (by rw [hn2];exact Un.word_rg x1.Word 0) hxo2 hn10)).1 (Un.R27.r64 (.mul (by rw [hn2];exact Un.word_rg x1.Word 0) hxo2 hn10)).2,.a (out_0+n10) (Un.R27.a64 hf5 (.mul (by rw [hn2];exact Un.word_rg x1.Word 0) hxo2 hn10) hk41).1 (Un.R27.a64 hf5 (.mul (by rw [hn2];exact Un.word_rg x1.Word 0) hxo2 hn10) hk41).2,.k (pp ((G5 2).b) 0),.k (pp ((G5 2).b) 0),.st 1 (fun _=>.blk ((G5 2).b) #[iv (out_0+n10),iv out_1,iv out_2,iv out_3,iv out_4,iv out_5,iv out_6,out_7s.v,iv out_8,out_9s.v] 42)] fun _ _ G13=>?_;intro S_ s_
    refine V.g [.k (iv 0),.k (iv 1),.k (iv 1)] fun _ _ G14=>?_;intro S_ s_
    refine V.againL L_1 98 (by kernel_rfl) ?_;refine V.g [.k (iv 1),.kb true] fun _ _ G15=>?_;intro S_ s_
    refine V.condT (by kernel_rfl) ?_;refine nm (n3 * x1.Exp:Int) fun n11 hn11=>?_;refine V.g [.k (iv 1),.k (iv 1),.k (pp ((G5 2).b) 0),.k (pp ((G5 2).b) 1),.ld 1 1 false (fun _=>[iv out_1]),.k (iv 1),.k (pp ((G8 9).b) 0),.k (pp ((G8 9).b) 1),.ld 2 1 false (fun _=>[iv n3]),.k (((G2 1).ss 0).v),.k (iv i),.ix g0 (kf true (.f 0) l1 (fun _=>(G2 1).ss 0)) i (fun _=>⟨by omega,by omega⟩),.k (.pointer (some ((elemAddr (((G2 1).ss 0).v) (i.toNat * 2)).add 1))),.le g0 (kf true (.f 0) l1 (fun _=>(G2 1).ss 0)) i (some 1) false x1 hx1 (fun _=>⟨by omega,by omega⟩) false (fun _=>[iv x1.Exp]),.ar (n3 * x1.Exp) n11 hn11 (Un.R27.r64 (.mul (by rw [hn3];exact Un.word_rg x1.Word 1) hxo2 hn11)).1 (Un.R27.r64 (.mul (by rw [hn3];exact Un.word_rg x1.Word 1) hxo2 hn11)).2,.a (out_1+n11) (Un.R27.a64 hf6 (.mul (by rw [hn3];exact Un.word_rg x1.Word 1) hxo2 hn11) hk41).1 (Un.R27.a64 hf6 (.mul (by rw [hn3];exact Un.word_rg x1.Word 1) hxo2 hn11) hk41).2,.k (pp ((G5 2).b) 0),.k (pp ((G5 2).b) 1),.st 1 (fun _=>.blk ((G5 2).b) #[iv (out_0+n10),iv (out_1+n11),iv out_2,iv out_3,iv out_4,iv out_5,iv out_6,out_7s.v,iv out_8,out_9s.v] 42)] fun _ _ G16=>?_;intro S_ s_
    refine V.g [.k (iv 1),.k (iv 2),.k (iv 2)] fun _ _ G17=>?_;intro S_ s_
    refine V.againL L_1 97 (by kernel_rfl) ?_;refine V.g [.k (iv 2),.kb true] fun _ _ G18=>?_;intro S_ s_
    refine V.condT (by kernel_rfl) ?_;refine nm (n4 * x1.Exp:Int) fun n12 hn12=>?_;refine V.g [.k (iv 2),.k (iv 2),.k (pp ((G5 2).b) 0),.k (pp ((G5 2).b) 2),.ld 1 2 false (fun _=>[iv out_2]),.k (iv 2),.k (pp ((G8 9).b) 0),.k (pp ((G8 9).b) 2),.ld 2 2 false (fun _=>[iv n4]),.k (((G2 1).ss 0).v),.k (iv i),.ix g0 (kf true (.f 0) l1 (fun _=>(G2 1).ss 0)) i (fun _=>⟨by omega,by omega⟩),.k (.pointer (some ((elemAddr (((G2 1).ss 0).v) (i.toNat * 2)).add 1))),.le g0 (kf true (.f 0) l1 (fun _=>(G2 1).ss 0)) i (some 1) false x1 hx1 (fun _=>⟨by omega,by omega⟩) false (fun _=>[iv x1.Exp]),.ar (n4 * x1.Exp) n12 hn12 (Un.R27.r64 (.mul (by rw [hn4];exact Un.word_rg x1.Word 2) hxo2 hn12)).1 (Un.R27.r64 (.mul (by rw [hn4];exact Un.word_rg x1.Word 2) hxo2 hn12)).2,.a (out_2+n12) (Un.R27.a64 hf7 (.mul (by rw [hn4];exact Un.word_rg x1.Word 2) hxo2 hn12) hk41).1 (Un.R27.a64 hf7 (.mul (by rw [hn4];exact Un.word_rg x1.Word 2) hxo2 hn12) hk41).2,.k (pp ((G5 2).b) 0),.k (pp ((G5 2).b) 2),.st 1 (fun _=>.blk ((G5 2).b) #[iv (out_0+n10),iv (out_1+n11),iv (out_2+n12),iv out_3,iv out_4,iv out_5,iv out_6,out_7s.v,iv out_8,out_9s.v] 42)] fun _ _ G19=>?_;intro S_ s_
    refine V.g [.k (iv 2),.k (iv 3),.k (iv 3)] fun _ _ G20=>?_;intro S_ s_
    refine V.againL L_1 96 (by kernel_rfl) ?_;refine V.g [.k (iv 3),.kb true] fun _ _ G21=>?_;intro S_ s_
    refine V.condT (by kernel_rfl) ?_;refine nm (n5 * x1.Exp:Int) fun n13 hn13=>?_;refine V.g [.k (iv 3),.k (iv 3),.k (pp ((G5 2).b) 0),.k (pp ((G5 2).b) 3),.ld 1 3 false (fun _=>[iv out_3]),.k (iv 3),.k (pp ((G8 9).b) 0),.k (pp ((G8 9).b) 3),.ld 2 3 false (fun _=>[iv n5]),.k (((G2 1).ss 0).v),.k (iv i),.ix g0 (kf true (.f 0) l1 (fun _=>(G2 1).ss 0)) i (fun _=>⟨by omega,by omega⟩),.k (.pointer (some ((elemAddr (((G2 1).ss 0).v) (i.toNat * 2)).add 1))),.le g0 (kf true (.f 0) l1 (fun _=>(G2 1).ss 0)) i (some 1) false x1 hx1 (fun _=>⟨by omega,by omega⟩) false (fun _=>[iv x1.Exp]),.ar (n5 * x1.Exp) n13 hn13 (Un.R27.r64 (.mul (by rw [hn5];exact Un.word_rg x1.Word 3) hxo2 hn13)).1 (Un.R27.r64 (.mul (by rw [hn5];exact Un.word_rg x1.Word 3) hxo2 hn13)).2,.a (out_3+n13) (Un.R27.a64 hf8 (.mul (by rw [hn5];exact Un.word_rg x1.Word 3) hxo2 hn13) hk41).1 (Un.R27.a64 hf8 (.mul (by rw [hn5];exact Un.word_rg x1.Word 3) hxo2 hn13) hk41).2,.k (pp ((G5 2).b) 0),.k (pp ((G5 2).b) 3),.st 1 (fun _=>.blk ((G5 2).b) #[iv (out_0+n10),iv (out_1+n11),iv (out_2+n12),iv (out_3+n13),iv out_4,iv out_5,iv out_6,out_7s.v,iv out_8,out_9s.v] 42)] fun _ _ G22=>?_;intro S_ s_
    refine V.g [.k (iv 3),.k (iv 4),.k (iv 4)] fun _ _ G23=>?_;intro S_ s_
    refine V.againL L_1 95 (by kernel_rfl) ?_;refine V.g [.k (iv 4),.kb true] fun _ _ G24=>?_;intro S_ s_
    refine V.condT (by kernel_rfl) ?_;refine nm (n6 * x1.Exp:Int) fun n14 hn14=>?_;refine V.g [.k (iv 4),.k (iv 4),.k (pp ((G5 2).b) 0),.k (pp ((G5 2).b) 4),.ld 1 4 false (fun _=>[iv out_4]),.k (iv 4),.k (pp ((G8 9).b) 0),.k (pp ((G8 9).b) 4),.ld 2 4 false (fun _=>[iv n6]),.k (((G2 1).ss 0).v),.k (iv i),.ix g0 (kf true (.f 0) l1 (fun _=>(G2 1).ss 0)) i (fun _=>⟨by omega,by omega⟩),.k (.pointer (some ((elemAddr (((G2 1).ss 0).v) (i.toNat * 2)).add 1))),.le g0 (kf true (.f 0) l1 (fun _=>(G2 1).ss 0)) i (some 1) false x1 hx1 (fun _=>⟨by omega,by omega⟩) false (fun _=>[iv x1.Exp]),.ar (n6 * x1.Exp) n14 hn14 (Un.R27.r64 (.mul (by rw [hn6];exact Un.word_rg x1.Word 4) hxo2 hn14)).1 (Un.R27.r64 (.mul (by rw [hn6];exact Un.word_rg x1.Word 4) hxo2 hn14)).2,.a (out_4+n14) (Un.R27.a64 hf9 (.mul (by rw [hn6];exact Un.word_rg x1.Word 4) hxo2 hn14) hk41).1 (Un.R27.a64 hf9 (.mul (by rw [hn6];exact Un.word_rg x1.Word 4) hxo2 hn14) hk41).2,.k (pp ((G5 2).b) 0),.k (pp ((G5 2).b) 4),.st 1 (fun _=>.blk ((G5 2).b) #[iv (out_0+n10),iv (out_1+n11),iv (out_2+n12),iv (out_3+n13),iv (out_4+n14),iv out_5,iv out_6,out_7s.v,iv out_8,out_9s.v] 42)] fun _ _ G25=>?_;intro S_ s_
    refine V.g [.k (iv 4),.k (iv 5),.k (iv 5)] fun _ _ G26=>?_;intro S_ s_
    refine V.againL L_1 94 (by kernel_rfl) ?_;refine V.g [.k (iv 5),.kb true] fun _ _ G27=>?_;intro S_ s_
    refine V.condT (by kernel_rfl) ?_;refine nm (n7 * x1.Exp:Int) fun n15 hn15=>?_;refine V.g [.k (iv 5),.k (iv 5),.k (pp ((G5 2).b) 0),.k (pp ((G5 2).b) 5),.ld 1 5 false (fun _=>[iv out_5]),.k (iv 5),.k (pp ((G8 9).b) 0),.k (pp ((G8 9).b) 5),.ld 2 5 false (fun _=>[iv n7]),.k (((G2 1).ss 0).v),.k (iv i),.ix g0 (kf true (.f 0) l1 (fun _=>(G2 1).ss 0)) i (fun _=>⟨by omega,by omega⟩),.k (.pointer (some ((elemAddr (((G2 1).ss 0).v) (i.toNat * 2)).add 1))),.le g0 (kf true (.f 0) l1 (fun _=>(G2 1).ss 0)) i (some 1) false x1 hx1 (fun _=>⟨by omega,by omega⟩) false (fun _=>[iv x1.Exp]),.ar (n7 * x1.Exp) n15 hn15 (Un.R27.r64 (.mul (by rw [hn7];exact Un.word_rg x1.Word 5) hxo2 hn15)).1 (Un.R27.r64 (.mul (by rw [hn7];exact Un.word_rg x1.Word 5) hxo2 hn15)).2,.a (out_5+n15) (Un.R27.a64 hf10 (.mul (by rw [hn7];exact Un.word_rg x1.Word 5) hxo2 hn15) hk41).1 (Un.R27.a64 hf10 (.mul (by rw [hn7];exact Un.word_rg x1.Word 5) hxo2 hn15) hk41).2,.k (pp ((G5 2).b) 0),.k (pp ((G5 2).b) 5),.st 1 (fun _=>.blk ((G5 2).b) #[iv (out_0+n10),iv (out_1+n11),iv (out_2+n12),iv (out_3+n13),iv (out_4+n14),iv (out_5+n15),iv out_6,out_7s.v,iv out_8,out_9s.v] 42)] fun _ _ G28=>?_;intro S_ s_
    refine V.g [.k (iv 5),.k (iv 6),.k (iv 6)] fun _ _ G29=>?_;intro S_ s_
    refine V.againL L_1 93 (by kernel_rfl) ?_;refine V.g [.k (iv 6),.kb false] fun _ _ G30=>?_;intro S_ s_
    refine V.condF (by kernel_rfl) ?_;refine nm (Fr.rS (True) (Un.tm 1 (Fr.fq n8 l4 l5) x1.Exp):Int) fun n16 hn16=>?_;refine nl (Fr.rD (True) (Un.tm 1 (Fr.fq n8 l4 l5) x1.Exp)) fun l6 hl6 hl6n=>?_;refine nm (Fr.rT (True):Int) fun n17 hn17=>?_;refine nl (Fr.rE (True) (Un.tm 1 (Fr.fq n8 l4 l5) x1.Exp)) fun l7 hl7 hl7n=>?_;refine nm (Fr.rS (Fr.FrB out_6 out_7 out_8 out_9∧Fr.FrB n16 l6 n17 l7) ((Fr.fq out_6 out_7 out_9) * (Fr.fq n16 l6 l7)):Int) fun n18 hn18=>?_;refine nl (Fr.rD (Fr.FrB out_6 out_7 out_8 out_9∧Fr.FrB n16 l6 n17 l7) ((Fr.fq out_6 out_7 out_9) * (Fr.fq n16 l6 l7))) fun l8 hl8 hl8n=>?_;refine nm (Fr.rT (Fr.FrB out_6 out_7 out_8 out_9∧Fr.FrB n16 l6 n17 l7):Int) fun n19 hn19=>?_;refine nl (Fr.rE (Fr.FrB out_6 out_7 out_8 out_9∧Fr.FrB n16 l6 n17 l7) ((Fr.fq out_6 out_7 out_9) * (Fr.fq n16 l6 l7))) fun l9 hl9 hl9n=>?_;refine nm (if ¬ (Fr.FrB out_6 out_7 out_8 out_9∧Fr.FrB n16 l6 n17 l7) then (1:Int) else 0:Int) fun n20 hn20=>?_;have zpw:=Fr.Fz.of True.intro hn16 hl6 hn17 hl7
    rw [zw.v] at zpw;have hzp:=zpw.len (Un.tm_hb (show Fr.Hb 1 1 by decide +kernel) hwo.2.2.2 hxo2);have hzp1:=hzp.1;have hzp2:=hzp.2;have zt:=Fr.Fz.of (And.intro hf4 zpw.rt) hn18 hl8 hn19 hl9;rw [zpw.v,← Un.tm_mul,Rat.mul_one] at zt;have hzt:=zt.len (Un.tm_hb (hf4.hb hf11.1 hf11.2) hwo.2.2.2 hxo2);have hzt1:=hzt.1;have hzt2:=hzt.2;refine V.r [.k (pp ((G5 2).b) 6),.ld 1 6 true (fun _=>Dat.cells (DFrac.mk ⟨out_6,out_7,out_7s⟩ ⟨out_8,out_9,out_9s⟩)),.k (pp ((G8 9).b) 6),.ld 2 6 true (fun _=>Dat.cells (DFrac.mk ⟨n8,l4,(G8 5).ss 0⟩ ⟨n9,l5,(G8 5).ss 1⟩)),.k (((G2 1).ss 0).v),.k (iv i),.ix g0 (kf true (.f 0) l1 (fun _=>(G2 1).ss 0)) i (fun _=>⟨by omega,by omega⟩),.k (.pointer (some ((elemAddr (((G2 1).ss 0).v) (i.toNat * 2)).add 1))),.le g0 (kf true (.f 0) l1 (fun _=>(G2 1).ss 0)) i (some 1) false x1 hx1 (fun _=>⟨by omega,by omega⟩) false (fun _=>[iv x1.Exp]),.ct g0 9 66 false [] [] [(kf true (.f 3) l4 (fun _=>(G8 5).ss 0)).a,(kf true (.f 4) l5 (fun _=>(G8 5).ss 1)).a] (fun _ G=>power9_ctv n8 l4 ((G8 5).ss 0) n9 l5 ((G8 5).ss 1) x1.Exp zw.rt hw0 hxo2 ⟨by omega,by omega⟩ n16 hn16 l6 hl6 n17 hn17 l7 hl7),.ct g0 10 50 false [] [] [(kf true (.f 1) out_7 (fun _=>out_7s)).a,(kf true (.f 2) out_9 (fun _=>out_9s)).a,(kf true (.g 9 0) l6 (fun G=>(G 9).ss 0)).a,(kf true (.g 9 1) l7 (fun G=>(G 9).ss 1)).a] (fun _ G=>r5mul_ctv out_6 out_7 out_7s out_8 out_9 out_9s n16 l6 ((G 9).ss 0) n17 l7 ((G 9).ss 1) (by omega) (by omega) (by omega) (by omega) n18 hn18 l8 hl8 n19 hn19 l9 hl9 n20 hn20),.v fun G=>.tuple #[ag (DFrac.mk ⟨n18,l8,(G 10).ss 0⟩ ⟨n19,l9,(G 10).ss 1⟩),iv n20],.v fun G=>ag (DFrac.mk ⟨n18,l8,(G 10).ss 0⟩ ⟨n19,l9,(G 10).ss 1⟩),.k (iv n20),.k (pp ((G5 2).b) 6),.st 1 (fun G=>.blk ((G5 2).b) #[iv (out_0+n10),iv (out_1+n11),iv (out_2+n12),iv (out_3+n13),iv (out_4+n14),iv (out_5+n15),iv n18,((G 10).ss 0).v,iv n19,((G 10).ss 1).v] 42)] fun _ _ G31 kw32=>?_;intro S_ s_
    obtain ⟨⟨kl8, -⟩,⟨kl9, -⟩,⟨kl10, -⟩,⟨kl11, -⟩, -⟩:Lq l6 (((G31 9).ss 0).v)∧Lq l7 (((G31 9).ss 1).v)∧Lq l8 (((G31 10).ss 0).v)∧Lq l9 (((G31 10).ss 1).v)∧True:=kq kw32;clear kw32;refine V.g [.k (iv i),.a (i+1) (by omega) (by omega),.k (iv (i+1))] fun _ _ G32=>?_;intro S_ s_;refine V.rnd hZ1 (i+1,out_0+n10,out_1+n11,out_2+n12,out_3+n13,out_4+n14,out_5+n15,n18,l8,(G31 10).ss 0,n19,l9,(G31 10).ss 1) [0,7,8] (by kernel_rfl) ?_ ?_
    · refine ⟨?_,?_,?_,?_,?_,?_,?_,?_,?_,?_,?_⟩
      · show 0≤(i+1);omega
      · show (i+1)≤(l1.length:Int);omega
      · show Un.acc (((Un.items s).getD []).drop (i+1).toNat) ([(out_0+n10),(out_1+n11),(out_2+n12),(out_3+n13),(out_4+n14),(out_5+n15)],(Fr.fq n18 l8 l9))=Un.acc ((Un.items s).getD []) ([0,0,0,0,0,0],1);rw [show (i+1).toNat=i.toNat+1 by omega,← hf3,Un.acc_drop (k:=i.toNat) (by omega),← hX,← hX1,← hX2,if_pos hws,zt.v,hn10,hn11,hn12,hn13,hn14,hn15,hn2,hn3,hn4,hn5,hn6,hn7];rfl
      · show Fr.FrB n18 l8 n19 l9;exact zt.rt
      · show Un.R27 (i+1) (out_0+n10);exact Un.R27.add hf5 (.mul (by rw [hn2];exact Un.word_rg x1.Word 0) hxo2 hn10)
      · show Un.R27 (i+1) (out_1+n11);exact Un.R27.add hf6 (.mul (by rw [hn3];exact Un.word_rg x1.Word 1) hxo2 hn11)
      · show Un.R27 (i+1) (out_2+n12);exact Un.R27.add hf7 (.mul (by rw [hn4];exact Un.word_rg x1.Word 2) hxo2 hn12)
      · show Un.R27 (i+1) (out_3+n13);exact Un.R27.add hf8 (.mul (by rw [hn5];exact Un.word_rg x1.Word 3) hxo2 hn13)
      · show Un.R27 (i+1) (out_4+n14);exact Un.R27.add hf9 (.mul (by rw [hn6];exact Un.word_rg x1.Word 4) hxo2 hn14)
      · show Un.R27 (i+1) (out_5+n15);exact Un.R27.add hf10 (.mul (by rw [hn7];exact Un.word_rg x1.Word 5) hxo2 hn15)
      show l8.length≤1+36 * (i+1).toNat∧l9.length≤1+36 * (i+1).toNat;omega
    show ((l1.length:Int)-(i+1)).toNat < ((l1.length:Int)-i).toNat;omega
  have hfin:Un.acc ((Un.items s).getD []) ([0,0,0,0,0,0],1)=some ([out_0,out_1,out_2,out_3,out_4,out_5],(Fr.fq out_6 out_7 out_9)):=by rw [←hf3,List.drop_of_length_le (by omega)];rfl
  refine V.g [.k (pp ((G5 2).b) 0),.ld 1 0 true (fun _=>[iv out_0,iv out_1,iv out_2,iv out_3,iv out_4,iv out_5]),.cp g0 2 67 [] (fun _ G=>r8right_ct out_0 out_1 out_2 out_3 out_4 out_5),.k (bv (!(decide (Dm.Rt [out_0,out_1,out_2,out_3,out_4,out_5]))))] fun _ _ G33=>?_;intro S_ s_
  refine V.cn (b:=!(decide (Dm.Rt [out_0,out_1,out_2,out_3,out_4,out_5]))) (iNT iDF) (iNF iDT) (fun q7=>?_) (fun q8=>?_)
  · have hrd:=Un.read_rng hsm hfin q7;refine V.g [.k (.agg #[iv 0,iv 0,iv 0,iv 0,iv 0,iv 0,iv 0,.slice none 0 0,iv 0,.slice none 0 0]),.st 0 (fun _=>.blk ((G1 0).b) #[iv 0,iv 0,iv 0,iv 0,iv 0,iv 0,iv 0,.slice none 0 0,iv 0,.slice none 0 0] 42),.k (iv 3)] fun _ _ G34=>?_;intro S_ s_
    refine V.nilF (α:=Int) ?_;refine V.nilF (α:=Int) ?_;have e7:([]:List Int)=Fr.rD (((Un.read s).1).isSome=true) (Un.fv ((Un.read s).1)):=(Fr.Fz.no (Un.is_n (by rw [hrd])) (Un.fv (Un.read s).1)).2.1;rw [←e7];have e9:([]:List Int)=Fr.rE (((Un.read s).1).isSome=true) (Un.fv ((Un.read s).1)):=(Fr.Fz.no (Un.is_n (by rw [hrd])) (Un.fv (Un.read s).1)).2.2.2;rw [←e9];have e0:(0:Int)=Un.dv ((Un.read s).1) 0:=(Un.dv_n (by rw [hrd]) 0).symm;have e1:(0:Int)=Un.dv ((Un.read s).1) 1:=(Un.dv_n (by rw [hrd]) 1).symm;have e2:(0:Int)=Un.dv ((Un.read s).1) 2:=(Un.dv_n (by rw [hrd]) 2).symm;have e3:(0:Int)=Un.dv ((Un.read s).1) 3:=(Un.dv_n (by rw [hrd]) 3).symm;have e4:(0:Int)=Un.dv ((Un.read s).1) 4:=(Un.dv_n (by rw [hrd]) 4).symm;have e5:(0:Int)=Un.dv ((Un.read s).1) 5:=(Un.dv_n (by rw [hrd]) 5).symm;have e6:(0:Int)=Fr.rS (((Un.read s).1).isSome=true) (Un.fv ((Un.read s).1)):=(Fr.Fz.no (Un.is_n (by rw [hrd])) (Un.fv (Un.read s).1)).1;have e8:(0:Int)=Fr.rT (((Un.read s).1).isSome=true):=(Fr.Fz.no (Un.is_n (by rw [hrd])) (Un.fv (Un.read s).1)).2.2.1;have e10:(3:Int)=(Un.read s).2:=by rw [hrd]
    exact V.rt [0,0] [{},{}] [fun _=>{},fun _=>{}] [] [3,4] [] (.tuple #[.agg #[iv 0,iv 0,iv 0,iv 0,iv 0,iv 0,iv 0,SV.v ({}),iv 0,SV.v ({})],iv 3]) (cong9 (fun (x0 x1 x2 x3 x4 x5 x6 x8 x10:Int)=>(.tuple #[.agg #[iv x0,iv x1,iv x2,iv x3,iv x4,iv x5,iv x6,SV.v ({}),iv x8,SV.v ({})],iv x10]:Value)) e0 e1 e2 e3 e4 e5 e6 e8 e10)
  have hrd:=Un.read_ok hsm hfin (by have hqq:=q8;first | exact hqq | exact Decidable.not_not.1 hqq);have hr1:(Un.read s).1=some ([out_0,out_1,out_2,out_3,out_4,out_5],(Fr.fq out_6 out_7 out_9)):=by rw [hrd]
  refine V.g [.ld 1 0 true (fun _=>[iv out_0,iv out_1,iv out_2,iv out_3,iv out_4,iv out_5,iv out_6,out_7s.v,iv out_8,out_9s.v]),.st 0 (fun _=>.blk ((G1 0).b) #[iv out_0,iv out_1,iv out_2,iv out_3,iv out_4,iv out_5,iv out_6,out_7s.v,iv out_8,out_9s.v] 42),.k (iv 0)] fun _ _ G35=>?_;intro S_ s_
  have e7:out_7=Fr.rD (((Un.read s).1).isSome=true) (Un.fv ((Un.read s).1)):=(Fr.Fz.ret (Fr.FrB.z hf4) (Un.is_s hr1) (Un.fv_s hr1).symm).2.1;subst e7;have e9:out_9=Fr.rE (((Un.read s).1).isSome=true) (Un.fv ((Un.read s).1)):=(Fr.Fz.ret (Fr.FrB.z hf4) (Un.is_s hr1) (Un.fv_s hr1).symm).2.2.2;subst e9;have e0:out_0=Un.dv ((Un.read s).1) 0:=(Un.dv_s hr1 0).symm;have e1:out_1=Un.dv ((Un.read s).1) 1:=(Un.dv_s hr1 1).symm;have e2:out_2=Un.dv ((Un.read s).1) 2:=(Un.dv_s hr1 2).symm;have e3:out_3=Un.dv ((Un.read s).1) 3:=(Un.dv_s hr1 3).symm;have e4:out_4=Un.dv ((Un.read s).1) 4:=(Un.dv_s hr1 4).symm;have e5:out_5=Un.dv ((Un.read s).1) 5:=(Un.dv_s hr1 5).symm;have e6:out_6=Fr.rS (((Un.read s).1).isSome=true) (Un.fv ((Un.read s).1)):=(Fr.Fz.ret (Fr.FrB.z hf4) (Un.is_s hr1) (Un.fv_s hr1).symm).1;have e8:out_8=Fr.rT (((Un.read s).1).isSome=true):=(Fr.Fz.ret (Fr.FrB.z hf4) (Un.is_s hr1) (Un.fv_s hr1).symm).2.2.1;have e10:(0:Int)=(Un.read s).2:=by rw [hrd]
  exact V.rt [0,0] [out_7s,out_9s] [fun _=>{},fun _=>{}] [] [1,2] [] (.tuple #[.agg #[iv out_0,iv out_1,iv out_2,iv out_3,iv out_4,iv out_5,iv out_6,out_7s.v,iv out_8,out_9s.v],iv 0]) (cong9 (fun (x0 x1 x2 x3 x4 x5 x6 x8 x10:Int)=>(.tuple #[.agg #[iv x0,iv x1,iv x2,iv x3,iv x4,iv x5,iv x6,out_7s.v,iv x8,out_9s.v],iv x10]:Value)) e0 e1 e2 e3 e4 e5 e6 e8 e10)
theorem read9_ctv (s:ByteArray) (hs:s.size≤1000000) (rv0:Int) (erv0:rv0=Un.dv ((Un.read s).1) 0) (rv1:Int) (erv1:rv1=Un.dv ((Un.read s).1) 1) (rv2:Int) (erv2:rv2=Un.dv ((Un.read s).1) 2) (rv3:Int) (erv3:rv3=Un.dv ((Un.read s).1) 3) (rv4:Int) (erv4:rv4=Un.dv ((Un.read s).1) 4) (rv5:Int) (erv5:rv5=Un.dv ((Un.read s).1) 5) (rv6:Int) (erv6:rv6=Fr.rS (((Un.read s).1).isSome=true) (Un.fv ((Un.read s).1))) (rv7:List Int) (erv7:rv7=Fr.rD (((Un.read s).1).isSome=true) (Un.fv ((Un.read s).1))) (rv8:Int) (erv8:rv8=Fr.rT (((Un.read s).1).isSome=true)) (rv9:List Int) (erv9:rv9=Fr.rE (((Un.read s).1).isSome=true) (Un.fv ((Un.read s).1))) (rv10:Int) (erv10:rv10=(Un.read s).2) :
    Ct Tryz.prog 20 #[tv s] [] [] (fun g=>.tuple #[.agg #[iv rv0,iv rv1,iv rv2,iv rv3,iv rv4,iv rv5,iv rv6,((g.ss 0)).v,iv rv8,((g.ss 1)).v],iv rv10]) (fun g=>[fs true rv7 (g.ss 0),fs true rv9 (g.ss 1)]) (fun g=>[]) (fun g=>[]):=by
  subst erv0 erv1 erv2 erv3 erv4 erv5 erv6 erv7 erv8 erv9 erv10;exact read9_ct s hs

open Go Go.RowKit Go.WideShapes Go.ChangeShapes
section
variable {H : Type} {enc : TypeId × Value → H} {P : Program}
theorem law_post {f:Func} {s:ChangeSpec} {apart fresh handsOn again:Bool} {W W':World} {args:Array Value} {v:Value} {ds gs:List (DataW H)} {before pa pv:List MemPlace}
    (hW:DataW.Whole enc P f.params.toList s.vars apart W args.toList ds gs before)
    (hres:∀ (b:Nat) (sp:Nat→Bool) (hd:Bool),DataW.TrodAll enc P W' b sp hd f.resultTypes.toList (v.resultList f.resultTypes.size) (s.fn H (ds ++gs)).results [])
    (hargs:∀ sp:Nat→Bool,(∀ p ∈ before,sp p.block=true)→DataW.TrodAll enc P W' 0 sp true f.params.toList args.toList (s.fn H (ds ++gs)).args pa)
    (hvars:∀ sp:Nat→Bool,(∀ p ∈ before,sp p.block=true)→DataW.TrodVars enc P W' sp s.vars (s.fn H (ds ++gs)).vars pv)
    (hps:before=pa ++pv) (hb:Base [] W W')
    (hok:∀ (j:Nat) (t:TypeId) (r:Value),f.resultTypes[j]?=some t→(v.resultList f.resultTypes.size)[j]?=some r→Value.okWide P W' .any 0 t r) :
    s.post enc P f apart fresh handsOn again W args v W':=by
  have low:∀ p ∈ before,p.block < W.heap.size:=fun p hp=>hW.lt p hp
  have mark:∀ p ∈ before,(fun b=>decide (b < W.heap.size)) p.block=true:=fun p hp=>decide_eq_true (low p hp)
  have back:=hb.below
  refine ⟨ds,gs,before,[],pa,pv,hW,hres _ _ _,hargs _ mark,hvars _ mark,World.keptBut_mono (fun p hp=>⟨hp,by rw [hps,List.mem_append] at hp;exact Or.inr hp⟩) (back.frame (· ∈ before)),fun _=>?_⟩
  obtain ⟨_,_,_,_,_,hz,hn⟩:=hW
  refine ⟨hok,_,_,([] ++pa) ++pv,⟨[] ++pa,pv,trodAll_append (hargs _ fun _ _=>rfl) (hres _ _ _),hvars _ fun _ _=>rfl,rfl,fun b off hp=>?_,fun ha=>?_⟩,fun p hp _=>?_⟩
  · have hin:MemPlace.cell b off ∈ before:=by rw [hps];simpa using hp
    rw [back.frozen (low _ hin)]
    exact hz b off hin
  · have:=hn ha
    rw [hps] at this;simpa using this
  · rw [hps];simpa using hp
end

open Go Go.RowKit Go.WideShapes Go.ChangeShapes
theorem whole_agrees (w:World):Agrees w (whole w):=fun _ _ h=>h
theorem hcells_of {w:World} {a:Addr} {vs:List Value} (h0:vs≠[]) (h:∀ (j:Nat) (v:Value),vs[j]?=some v→w.cell? (a.add j)=some v):HCells (whole w) a vs:=by
  obtain ⟨v0,vs',rfl⟩:=List.exists_cons_of_ne_nil h0
  have h1:=h 0 v0 rfl
  have e0:a.add 0=a:=by simp [Addr.add]
  rw [e0] at h1
  have hs:=World.cell?_spot h1
  unfold World.cell? at h1
  split at h1
  · rename_i c T fr hb
    refine ⟨hs,c,T,fr,hb,fun j v hj=>?_⟩
    have h2:=h j v hj
    rw [add_eq hs] at h2
    simpa [World.cell?,hb] using h2
  · cases h1
structure Opens (P:Program) (w:World) (e:TypeId) (α:Type) [Dat α]:Prop where
  cells:P.cellsOf e=Dat.size α
  full:0 < Dat.size α
  data:∀ {H:Type} {enc:TypeId × Value→H} {base:Nat} {sp:Nat→Bool} {held:Bool} {n:Nat} {cs:List Value} {x:DataW H × List MemPlace},DataW.trod enc P w base sp held n e cs=some x→∃ y:α,cs=Dat.cells y∧Dat.good (whole w) y
section
variable {H : Type} {enc : TypeId × Value → H} {P : Program} {w : World} {base : Nat} {sp : Nat → Bool} {held : Bool}
theorem cells_get {a:Addr} {n:Nat} {cs:List Value} (h:w.cells? base a n=some cs):∀ (j:Nat) (v:Value),cs[j]?=some v→w.cell? (a.add j)=some v:=by
  intro j v hj
  unfold World.cells? at h
  split at h
  · have hl:=mapM_some_length h
    have hlt:=(List.getElem?_eq_some_iff.1 hj).1
    rw [hl,List.length_range] at hlt
    have:=mapM_some_get h j j (by simp [hlt])
    rw [this,hj]
  · cases h
theorem opens_slice {α:Type} [Dat α] {t e:TypeId} (ht:P.underlying t=some (.slice e)) (o:Opens P w e α) {fuel:Nat} {cs:List Value} {x:DataW H × List MemPlace} (h:DataW.trod enc P w base sp held fuel t cs=some x) :
    ∃ (l:List α) (s:SV),cs=[s.v]∧RSl (whole w) l s.v:=by
  rcases DataW.trod_slice ht h with ⟨rfl,_⟩ | ⟨a,len,cap,elems,rest,n,_,rfl,_,_,hl,hm,hlen,hel,_⟩
  · exact ⟨[],{},rfl,RSl.nil⟩
  · have each:∀ i,i < len→∃ y:α,w.cells? base (a.add (i * Dat.size α)) (Dat.size α)=some (Dat.cells y)∧Dat.good (whole w) y:=fun i hi=>by
      have h1:=hel i hi
      rw [o.cells,List.getElem?_eq_getElem (by omega),Option.bind_eq_some_iff] at h1
      obtain ⟨cs',h2,h3⟩:=h1
      obtain ⟨y,rfl,hg⟩:=o.data h3
      exact ⟨y,h2,hg⟩
    have ⟨f,hf⟩:∃ f:Nat→α,∀ i,i < len→w.cells? base (a.add (i * Dat.size α)) (Dat.size α)=some (Dat.cells (f i))∧Dat.good (whole w) (f i) :=
      ⟨fun i=>if hi:i < len then Classical.choose (each i hi) else default,fun i hi=>by simp only [dif_pos hi];exact Classical.choose_spec (each i hi)⟩
    refine ⟨(List.range len).map f,⟨some a,len,cap⟩,rfl,⟨⟨?_,?_,some a,cap,?_,?_,hm,?_,?_⟩,?_⟩⟩
    · intro r hr;simp [rows] at hr;obtain ⟨i,_,rfl⟩:=hr;exact Dat.len _
    · intro r hr;simp [rows] at hr;obtain ⟨i,hi,rfl⟩:=hr;exact Dat.one _ _ (hf i hi).2
    · simp [SV.v]
    · simpa using hl
    · intro h;cases h
    · intro b hb hne
      cases hb
      have hrl:∀ r ∈ rows ((List.range len).map f),r.length=Dat.size α:=by intro r hr;simp [rows] at hr;obtain ⟨i,_,rfl⟩:=hr;exact Dat.len _
      have h0:0 < len:=by
        rcases Nat.eq_zero_or_pos len with h | h
        · subst h;simp [rows] at hne
        · exact h
      have hfl:=flatten_len hrl
      simp only [rows_length,List.length_map,List.length_range] at hfl
      have hsz:=o.full
      have hspot:a.spot=none:=by
        have h1:=cells_get (hf 0 h0).1
        have h2:(Dat.cells (f 0)).length=Dat.size α:=Dat.len _
        have h3:=h1 0 _ (List.getElem?_eq_getElem (by omega))
        have:=World.cell?_spot h3
        simpa [Addr.add] using this
      refine hcells_of (fun e=>?_) fun j v hj=>?_
      · rw [e] at hfl
        have:=Nat.mul_pos h0 hsz
        simp at hfl;omega
      · have hj2:=(List.getElem?_eq_some_iff.1 hj).1
        rw [hfl] at hj2
        have hk:j / Dat.size α < len:=Nat.div_lt_of_lt_mul (by rwa [Nat.mul_comm])
        have hr:j % Dat.size α < Dat.size α:=Nat.mod_lt _ hsz
        have h2:(Dat.cells (f (j / Dat.size α))).length=Dat.size α:=Dat.len _
        have e1:(rows ((List.range len).map f))[j / Dat.size α]?=some (Dat.cells (f (j / Dat.size α))):=by simp [rows,hk]
        have e2:=List.getElem?_eq_getElem (l:=Dat.cells (f (j / Dat.size α))) (i:=j % Dat.size α) (by omega)
        have e3:=flatten_get hrl _ _ _ _ e1 e2
        have ej:j / Dat.size α * Dat.size α+j % Dat.size α=j:=by rw [Nat.mul_comm];exact Nat.div_add_mod j _
        rw [ej,hj] at e3
        have h4:=cells_get (hf _ hk).1 _ _ e2
        rw [←Option.some.inj e3] at h4
        rw [←h4,add_eq hspot,add_eq (a:=a.add _) (by rw [add_eq hspot]),add_eq hspot]
        simp only [Nat.add_assoc,ej]
    · intro y hy;simp at hy;obtain ⟨i,hi,rfl⟩:=hy;exact (hf i hi).2
theorem Opens.field {α:Type} [Dat α] {t:TypeId} {fs:Array Field} (ht:P.underlying t=some (.struct fs)) {fuel:Nat} {cs:List Value} {x:DataW H × List MemPlace} (h:DataW.trod enc P w base sp held fuel t cs=some x)
    (i:Nat) {f:Field} (hi:fs[i]?=some f) (o:Opens P w f.type α):∃ y:α,(cs.drop f.offset).take (Dat.size α)=Dat.cells y∧Dat.good (whole w) y:=by
  obtain ⟨xs,n,_,_,_,hx,hf⟩:=DataW.trod_struct ht h
  have h1:=hf i f hi
  have hlt:=(Array.getElem?_eq_some_iff.1 hi).1
  rw [List.getElem?_eq_getElem (by omega),o.cells] at h1
  exact o.data h1
theorem struct_len {t:TypeId} {fs:Array Field} (ht:P.underlying t=some (.struct fs)) {fuel:Nat} {cs:List Value} {x:DataW H × List MemPlace} (h:DataW.trod enc P w base sp held fuel t cs=some x):cs.length=P.cellsOf t:=by
  obtain ⟨xs,n,_,_,hl,_⟩:=DataW.trod_struct ht h
  exact hl
theorem keep_all (hl:laidOutB P=true) {W W':World} (hb:Below W.heap.size W W'):∀ {ts:List TypeId} {vs:List Value} {ds:List (DataW H)} {ps:List MemPlace},(ts.all fun t=>P.readableRec t && decide (t < P.types.size))=true →
    DataW.TrodAll enc P W 0 (fun _=>true) true ts vs ds ps→(∀ x ∈ ps,x.block < W.heap.size)→∀ sp':Nat→Bool,(∀ x ∈ ps,sp' x.block=true)→DataW.TrodAll enc P W' 0 sp' true ts vs ds ps
  | [],[],[],_,_,h,_,_,_=>h
  | t :: ts,_ :: _,_ :: _,_,ht,⟨p,q,h1,h2,e⟩,hlt,sp',hs=>by
    simp only [List.all_cons,Bool.and_eq_true,decide_eq_true_eq] at ht
    refine ⟨p,q,WideElems.Trod_stays hl ht.1.1 ht.1.2 h1 (fun x hx=>hb.same (hlt x (by rw [e];exact List.mem_append_left _ hx))) (fun x hx=>hs x (by rw [e];exact List.mem_append_left _ hx)),keep_all hl hb (by simpa using ht.2) h2 (fun x hx=>hlt x (by rw [e];exact List.mem_append_right _ hx)) sp' (fun x hx=>hs x (by rw [e];exact List.mem_append_right _ hx)),e⟩
theorem opens_fat {α:Type} [Dat α] {k e:TypeId} (ht:P.underlying k=some (.slice e)) (hc:P.cellsOf k=1) (o:Opens P w e α):Opens P w k (Fat α) :=
  ⟨hc,by show 0 < 1;decide,fun h=>by
    obtain ⟨l,s,rfl,hr⟩:=opens_slice ht o h
    exact ⟨⟨l,s⟩,rfl,hr⟩⟩
theorem Cp.law {P:Program} {f:FuncId} {args:Array Value} {F:List FP} {v:Value} (h:Cp P f args F v) (W:World) (hF:conjL (F.map fun q=>q.p (whole W))):Calls P f args W fun e w'=>e=.returned v∧Base [] W w':=by
  refine (h W (whole W) (fun _=>none) (whole_agrees W) (fun q hq=>conjL_mem hF _ (List.mem_map_of_mem hq)) ⟨Base.refl _ _,fun K hK=>?_,fun k b o hk=>?_,fun k l b o o' hk _=>?_⟩ fun r x hx=>?_).mono ?_
  · have:K=whole W:=by simpa using hK
    subst this;exact whole_agrees W
  · simp [ents] at hk
  · simp [ents] at hk
  · simp at hx
  · rintro e w' ⟨g,C⟩
    exact ⟨C.ret,C.base⟩
theorem opens_int {k:TypeId} (ht:P.underlying k=some (.int .i64)) (hc:P.cellsOf k=1):Opens P w k Int :=
  ⟨hc,by decide,fun h=>by obtain ⟨n,rfl,_,_⟩:=DataW.trod_int ht h;exact ⟨n,rfl,trivial⟩⟩
end

open Go Go.RowKit Go.WideShapes Go.ChangeShapes
structure Six where
  a:Int:=0
  b:Int:=0
  c:Int:=0
  d:Int:=0
  e:Int:=0
  f:Int:=0
instance : Dat Six where
  default := {}
  size := 6
  cells x := [.int .i64 x.a, .int .i64 x.b, .int .i64 x.c, .int .i64 x.d, .int .i64 x.e, .int .i64 x.f]
  good H x := True
  len _ := rfl
  one H x h u hu := by
    simp only [List.mem_cons, List.not_mem_nil, or_false] at hu
    rcases hu with rfl | rfl | rfl | rfl | rfl | rfl <;> rfl
  mono _ _ _ _ h := h
  zero _ := trivial
section
variable {H : Type} {enc : TypeId × Value → H} {P : Program} {w : World} {base : Nat} {sp : Nat → Bool} {held : Bool}
theorem arg_agg {α:Type} [Dat α] {r:Reach} {b0:Nat} {t:TypeId} {fs:Array Field} (ht:P.underlying t=some (.struct fs)) (o:Opens P w t α)
    {v:Value} {d:DataW H} {ps:List MemPlace} (hv:Value.okWide P w r b0 t v) (h:DataW.Trod enc P w base sp held t v d ps) :
    ∃ x:α,v=.agg (Dat.cells x).toArray∧Dat.good (whole w) x:=by
  obtain ⟨n,hn⟩:=h
  obtain ⟨cs,rfl,hl⟩:=okWide_struct ht hv
  obtain ⟨x,h1,h2⟩:=o.data hn
  refine ⟨x,?_,h2⟩
  have h1':cs.toList=Dat.cells x:=h1
  rw [←h1']
end
end Kb
