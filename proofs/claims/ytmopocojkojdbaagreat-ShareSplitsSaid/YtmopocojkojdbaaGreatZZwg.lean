/- Texts for the claim, put together: the calculus of regions, its rules, and contracts of the functions that the law reaches. -/
import Derived.Test.YtmopocojkojdbaaGreatZZwf
import Derived.ChangeSame
import Derived.ChangeArms
import Derived.WideKeyArgs
import Derived.Carry
import Derived.OpenShut
import Derived.Test.YtmopocojkojdbaaGreatChecked
set_option linter.unusedVariables false
set_option linter.unusedSectionVars false
set_option linter.unusedSimpArgs false
namespace Kb
open Go Go.Proofs
set_option maxRecDepth 10000 in
theorem clo_ct (a b:Int) (rsb:Nat) (rs:List DFrac) (rss:SV) (hV:∀ x ∈ rs,Fr.rt x∧Fr.ln 2000000 x) (ha:0≤a∧a < (rs.length:Int)) (hb:0≤b∧b < (rs.length:Int)) :
    Cp Tryz.prog 42 #[iv a,iv b,pp rsb 0] [fs true ([⟨rs,rss⟩]:List (Fat DFrac)) ⟨atB rsb,1,1⟩] (iv (Fr.cmpQ (Fr.qv (rs.getD b.toNat default)) (Fr.qv (rs.getD a.toNat default)))):=by
  refine V.fo mo Tryz.func42 15 0 fun w H ε k0=>?_;clear k0
  refine V.gf [.u 1] fun _ _ G1=>?_;intro S_ s_
  refine nm (rs.getD b.toNat default:DFrac) fun x1 hx1=>?_;refine nm (rs.getD a.toNat default:DFrac) fun x2 hx2=>?_;refine nm (if Fr.FrB x1.P.Sign x1.P.Digits.l x1.Q.Sign x1.Q.Digits.l∧Fr.FrB x2.P.Sign x2.P.Digits.l x2.Q.Sign x2.Q.Digits.l then Fr.cmpQ (Fr.fq x1.P.Sign x1.P.Digits.l x1.Q.Digits.l) (Fr.fq x2.P.Sign x2.P.Digits.l x2.Q.Digits.l) else 0:Int) fun n1 hn1=>?_;have hx1m:=hV _ (getD_mem (by omega) hx1);have hx11:=hx1m.2.1;have hx12:=hx1m.2.2
  have hx2m:=hV _ (getD_mem (by omega) hx2);have hx21:=hx2m.2.1;have hx22:=hx2m.2.2;refine V.gf [.le g0 (kF 0 ([⟨rs,rss⟩]:List (Fat DFrac)) ⟨atB rsb,1,1⟩) (0:Int) none true (⟨rs,rss⟩:Fat DFrac) rfl (fun _=>⟨Int.le_refl 0,Int.zero_lt_one⟩) false (fun _=>Dat.cells (⟨rs,rss⟩:Fat DFrac)),.u 1,.iX (kx false (.g 0 0) (⟨rs,rss⟩:Fat DFrac) rs (fun _=>rss) (fun _ _ h=>h)) b,.lE (kx false (.g 0 0) (⟨rs,rss⟩:Fat DFrac) rs (fun _=>rss) (fun _ _ h=>h)) b true x1 hx1 true,.le g0 (kF 0 ([⟨rs,rss⟩]:List (Fat DFrac)) ⟨atB rsb,1,1⟩) (0:Int) none true (⟨rs,rss⟩:Fat DFrac) rfl (fun _=>⟨Int.le_refl 0,Int.zero_lt_one⟩) false (fun _=>Dat.cells (⟨rs,rss⟩:Fat DFrac)),.u 1,.iX (kx false (.g 4 0) (⟨rs,rss⟩:Fat DFrac) rs (fun _=>rss) (fun _ _ h=>h)) a,.lE (kx false (.g 4 0) (⟨rs,rss⟩:Fat DFrac) rs (fun _=>rss) (fun _ _ h=>h)) a true x2 hx2 true,.cP 8 43 [(kx false (.g 3 0) x1 x1.P.Digits.l (fun _=>x1.P.Digits.s) (fun _ H (h:Dat.good H (x1:DFrac))=>h.1)).a,(kx false (.g 3 0) x1 x1.Q.Digits.l (fun _=>x1.Q.Digits.s) (fun _ H (h:Dat.good H (x1:DFrac))=>h.2)).a,(kx false (.g 7 0) x2 x2.P.Digits.l (fun _=>x2.P.Digits.s) (fun _ H (h:Dat.good H (x2:DFrac))=>h.1)).a,(kx false (.g 7 0) x2 x2.Q.Digits.l (fun _=>x2.Q.Digits.s) (fun _ H (h:Dat.good H (x2:DFrac))=>h.2)).a] fun G=>fcmp_ctv x1.P.Sign x1.P.Digits.l x1.P.Digits.s x1.Q.Sign x1.Q.Digits.l x1.Q.Digits.s x2.P.Sign x2.P.Digits.l x2.P.Digits.s x2.Q.Sign x2.Q.Digits.l x2.Q.Digits.s (by omega) (by omega) (by omega) (by omega) n1 hn1,.u 1] fun _ _ G2=>?_;intro S_ s_
  have e0:n1=Fr.cmpQ (Fr.qv (rs.getD b.toNat default)) (Fr.qv (rs.getD a.toNat default)):=by rw [hn1,if_pos ⟨hx1m.1,hx2m.1⟩,← hx1,← hx2];rfl
  exact V.rT [0] [] [] [] [] [] (cong1 (fun (xz0:Int)=>(iv xz0:Value)) e0)
theorem clo_ctv (a b:Int) (rsb:Nat) (rs:List DFrac) (rss:SV) (hV:∀ x ∈ rs,Fr.rt x∧Fr.ln 2000000 x) (ha:0≤a∧a < (rs.length:Int)) (hb:0≤b∧b < (rs.length:Int)) (rv0:Int) (erv0:rv0=Fr.cmpQ (Fr.qv (rs.getD b.toNat default)) (Fr.qv (rs.getD a.toNat default))) :
    Cp Tryz.prog 42 #[iv a,iv b,pp rsb 0] [fs true ([⟨rs,rss⟩]:List (Fat DFrac)) ⟨atB rsb,1,1⟩] (iv rv0):=by
  subst erv0;exact clo_ct a b rsb rs rss hV ha hb
set_option maxRecDepth 10000 in
theorem ins_ct (data:List Int) (datas:SV) (a b:Int) (rsb:Nat) (rs:List DFrac) (rss:SV) (hV:∀ x ∈ rs,Fr.rt x∧Fr.ln 2000000 x) (hl:data.length=rs.length) (hD:(a=0∧b=(data.length:Int)∧data=Fr.iota data.length)∨(a=b∧a=(data.length:Int)∧data=Fr.ord (rs.map Fr.qv))) (hr:rs.length < 1000) :
    Ct Tryz.prog 120 #[datas.v,iv a,iv b,.func (.func 42) #[] #[pp rsb 0]] [fs true ([⟨rs,rss⟩]:List (Fat DFrac)) ⟨atB rsb,1,1⟩] [os false 3 data datas] (fun g=>.tuple #[]) (fun g=>[]) (fun g=>[os true 3 (Fr.ord (rs.map Fr.qv)) datas]) (fun g=>[]):=by
  refine V.fo mo Tryz.func120 53 0 fun w H ε k0=>?_;clear k0
  refine V.tro 3 data datas 0 (by kernel_rfl) (fun _ _=>trivial) ?_;refine V.gf [.u 1,.aa (a+1),.u 1] fun _ _ G1=>?_;intro S s
  refine V.lp (γ:=List Int × Int) (fun ⟨data_1,i⟩=>⟨[(0,datas.v),(1,iv a),(2,iv b),(3,.func (.func 42) #[] #[pp rsb 0]),(8,iv i)],[fs false ([⟨rs,rss⟩]:List (Fat DFrac)) ⟨atB rsb,1,1⟩],[os true 3 data_1 datas]⟩) (fun ⟨data_1,i⟩=>(a+1≤i)∧((a=0∧i≤b+1∧Fr.InsI (rs.map Fr.qv) data_1 i.toNat)∨(a=b∧data_1=Fr.ord (rs.map Fr.qv)))) (fun ⟨data_1,i⟩=>(b-i).toNat) (data,a+1) [0] ?_ ?_
  · refine ⟨?_,?_⟩
    · show a+1≤(a+1);omega
    show (a=0∧(a+1)≤b+1∧Fr.InsI (rs.map Fr.qv) data (a+1).toNat)∨(a=b∧data=Fr.ord (rs.map Fr.qv));rcases hD with ⟨h1,h2,h3⟩ | ⟨h1,_,h2⟩
    · left;refine ⟨h1,by omega,?_⟩;rw [h1,show ((0:Int)+1).toNat=1 from rfl,h3,hl,show rs.length=(rs.map Fr.qv).length by rw [List.length_map]];exact Fr.ins_start
    right;exact ⟨h1,h2⟩
  rintro ⟨data_1,i⟩ hF1 kw2 Z1 hZ1;have hF1:(a+1≤i)∧((a=0∧i≤b+1∧Fr.InsI (rs.map Fr.qv) data_1 i.toNat)∨(a=b∧data_1=Fr.ord (rs.map Fr.qv))):=hF1;obtain ⟨hf1,hf2⟩:=hF1;refine V.gf [.u 3] fun _ _ G2=>?_;intro S s;refine V.cn (b:=decide (i < b)) iDT iDF (fun q1=>?_) (fun q2=>?_)
  · obtain ⟨ha0,hib,hI⟩:a=0∧i≤b+1∧Fr.InsI (rs.map Fr.qv) data_1 i.toNat:=by rcases hf2 with h | h;exact h;omega
    have hIl:=hI.len;rw [List.length_map] at hIl;refine V.gf [.u 2] fun _ _ G3=>?_;intro S s
    refine V.lp (γ:=List Int × Int) (fun ⟨data_2,j⟩=>⟨[(0,datas.v),(1,iv a),(2,iv b),(3,.func (.func 42) #[] #[pp rsb 0]),(8,iv i),(9,iv j)],[fs false ([⟨rs,rss⟩]:List (Fat DFrac)) ⟨atB rsb,1,1⟩],[os true 3 data_2 datas]⟩) (fun ⟨data_2,j⟩=>(0≤j)∧(j≤i)∧(Fr.InsJ (rs.map Fr.qv) data_2 i.toNat j.toNat)) (fun ⟨data_2,j⟩=>j.toNat) (data_1,i) [0] ?_ ?_
    · refine ⟨?_,?_,?_⟩
      · show 0≤i;omega
      · show i≤i;omega
      show Fr.InsJ (rs.map Fr.qv) data_1 i.toNat i.toNat;exact Fr.ins_in hI (by rw [List.length_map];omega)
    rintro ⟨data_2,j⟩ hF2 kw5 Z2 hZ2;have hF2:(0≤j)∧(j≤i)∧(Fr.InsJ (rs.map Fr.qv) data_2 i.toNat j.toNat):=hF2;obtain ⟨hf3,hf4,hf5⟩:=hF2;have hJl:=hf5.len (by rw [List.length_map];omega);rw [List.length_map] at hJl;refine nm (data_2.getD j.toNat default:Int) fun v1 hv1=>?_;refine nm (data_2.getD (j-1).toNat default:Int) fun v2 hv2=>?_;refine nm (Fr.cmpQ (Fr.qv (rs.getD v2.toNat default)) (Fr.qv (rs.getD v1.toNat default)):Int) fun n1 hn1=>?_;have hat:=fun (hj:0 < j)=>Fr.insJ_at hf5 (by omega:0 < j.toNat);have hv2c:v2=_:=hv2;rw [show (j-1).toNat=j.toNat-1 by omega] at hv2c;have hva:0 < j→v1=i:=fun hj=>by have:=(hat hj).1;omega
    have hvb:0 < j→0≤v2∧v2 < i:=fun hj=>by have:=(hat hj).2;omega
    refine V.gf [.u 7,.ix (gT (b:=decide (a < j)) iDT) (kO 3 0 data_2 datas) j (fun hg=>⟨by omega,by omega⟩),.le (gT (b:=decide (a < j)) iDT) (kO 3 0 data_2 datas) j none false v1 hv1 (fun hg=>⟨by omega,by omega⟩) false (fun _=>[iv v1]),.u 2,.arg (gT (b:=decide (a < j)) iDT) (j-1) (j-1) rfl (fun hg=>by omega),.ix (gT (b:=decide (a < j)) iDT) (kO 3 0 data_2 datas) (j-1) (fun hg=>⟨by omega,by omega⟩),.le (gT (b:=decide (a < j)) iDT) (kO 3 0 data_2 datas) (j-1) none false v2 hv2 (fun hg=>⟨by omega,by omega⟩) false (fun _=>[iv v2]),.cp (gT (b:=decide (a < j)) iDT) 14 42 [kA 0 ([⟨rs,rss⟩]:List (Fat DFrac)) ⟨atB rsb,1,1⟩] (fun hg G=>clo_ctv v1 v2 rsb rs rss hV (by have:=hva (by omega);omega) (by have:=hvb (by omega);omega) n1 hn1),.u 1,.and g0 false (decide (a < j)) (decide (n1 < 0))] fun _ _ G4=>?_;intro S s
    refine V.cn (b:=(decide (a < j)) && (decide (n1 < 0))) (iAT iDT iDT) (iAF iDF iDF) (fun q3=>?_) (fun q4=>?_)
    · refine nm (data_2.set j.toNat v2:List Int) fun l1 hl1=>?_;have hl1n:=congrArg List.length hl1;try simp only [List.length_append,List.length_cons,List.length_nil,List.length_replicate,List.length_set,List.length_take,List.length_drop,List.length_map,List.length_reverse,List.length_range] at hl1n
      refine nm (l1.getD (j-1).toNat default:Int) fun v3 hv3=>?_;refine nm (l1.set (j-1).toNat v1:List Int) fun l2 hl2=>?_;refine V.gf [.u 4,.aa (j-1),.u 2,.aa (j-1),.iX (kO 3 0 data_2 datas) (j-1),.lE (kO 3 0 data_2 datas) (j-1) false v2 hv2 false,.u 2,.iX (kO 3 0 data_2 datas) j,.lE (kO 3 0 data_2 datas) j false v1 hv1 false,.iX (kO 3 0 data_2 datas) j,.se g0 15 0 3 true data_2 (fun _=>datas) j none v1 v2 hv1 true l1 hl1 (fun _=>⟨by omega,by omega⟩) (fun _=>rfl) [] (fun _ _ _ _=>trivial),.iX (kO 3 0 l1 datas) (j-1),.se g0 17 0 3 true l1 (fun _=>datas) (j-1) none v3 v1 hv3 true l2 hl2 (fun _=>⟨by omega,by omega⟩) (fun _=>rfl) [] (fun _ _ _ _=>trivial)] fun _ _ G5=>?_;intro S s
      refine V.gf [.u 1,.aa (j-1),.u 1] fun _ _ G6=>?_;intro S s
      refine V.rn hZ2 (l2,j-1) [0] ?_ ?_
      · refine ⟨?_,?_,?_⟩
        · show 0≤(j-1);omega
        · show (j-1)≤i;omega
        show Fr.InsJ (rs.map Fr.qv) l2 i.toNat (j-1).toNat;have hst:=Fr.ins_step hf5 (by omega) ((Fr.cmp_ltR hf5 (by omega) (by omega) hv1 hv2c hn1).1 q3.2);rw [show j.toNat-1=(j-1).toNat by omega,← hv2,← hv1] at hst;rw [hl2,hl1];exact hst
      show (j-1).toNat < j.toNat;omega
    refine V.gf [.u 1,.aa (i+1),.u 1] fun _ _ G7=>?_;intro S s
    refine V.rn hZ1 (data_2,i+1) [0] ?_ ?_
    · refine ⟨?_,?_⟩
      · show a+1≤(i+1);omega
      show (a=0∧(i+1)≤b+1∧Fr.InsI (rs.map Fr.qv) data_2 (i+1).toNat)∨(a=b∧data_2=Fr.ord (rs.map Fr.qv))
      left;refine ⟨ha0,by omega,?_⟩
      rw [show (i+1).toNat=i.toNat+1 by omega];refine Fr.ins_stop hf5 (by omega) hv1 hv2c hn1 ?_;have hqq:=q4;rcases hqq with h | h
      · left;omega
      right;exact h
    show (b-(i+1)).toNat < (b-i).toNat;omega
  have eL0:data_1=Fr.ord (rs.map Fr.qv):=by
    rcases hf2 with ⟨h1,h2,h3⟩ | ⟨h1,h2⟩
    · exact Fr.ins_end h3 (by rw [List.length_map];omega)
    exact h2
  subst eL0;exact V.rS [] [] [] [] [] [0]
set_option maxRecDepth 10000 in
theorem stable_ct (data:List Int) (datas:SV) (n:Int) (rsb:Nat) (rs:List DFrac) (rss:SV) (hV:∀ x ∈ rs,Fr.rt x∧Fr.ln 2000000 x) (hl:data.length=rs.length) (hn:n=(data.length:Int)) (hr:rs.length≤20) (hD:data=Fr.iota rs.length) :
    Ct Tryz.prog 80 #[datas.v,iv n,.func (.func 42) #[] #[pp rsb 0]] [fs true ([⟨rs,rss⟩]:List (Fat DFrac)) ⟨atB rsb,1,1⟩] [os false 3 data datas] (fun g=>.tuple #[]) (fun g=>[]) (fun g=>[os true 3 (Fr.ord (rs.map Fr.qv)) datas]) (fun g=>[]):=by
  refine V.fo mo Tryz.func80 63 0 fun w H ε k0=>?_;clear k0
  refine V.tro 3 data datas 0 (by kernel_rfl) (fun _ _=>trivial) ?_;refine V.gf [.u 1] fun _ _ G1=>?_;intro S s
  refine V.gf [.u 3] fun _ _ G2=>?_;intro S s
  refine V.lp (γ:=List Int × Int × Int) (fun ⟨data_1,a,b⟩=>⟨[(0,datas.v),(1,iv n),(2,.func (.func 42) #[] #[pp rsb 0]),(6,iv 20),(7,iv a),(8,iv b)],[fs false ([⟨rs,rss⟩]:List (Fat DFrac)) ⟨atB rsb,1,1⟩],[os true 3 data_1 datas]⟩) (fun ⟨data_1,a,b⟩=>((a=0∧b=20∧data_1=Fr.iota rs.length)∨(a=20∧b=40∧n=20∧data_1=Fr.ord (rs.map Fr.qv)))) (fun ⟨data_1,a,b⟩=>(40-b).toNat) (data,0,20) [0] ?_ ?_
  · · show ((0:Int)=0∧(20:Int)=20∧data=Fr.iota rs.length)∨((0:Int)=20∧(20:Int)=40∧n=20∧data=Fr.ord (rs.map Fr.qv))
      left;exact ⟨rfl,rfl,hD⟩
  rintro ⟨data_1,a,b⟩ hF1 kw3 Z1 hZ1;have hf1:(a=0∧b=20∧data_1=Fr.iota rs.length)∨(a=20∧b=40∧n=20∧data_1=Fr.ord (rs.map Fr.qv)):=hF1;refine V.gf [.u 3] fun _ _ G3=>?_;intro S s;refine V.cn (b:=decide (b≤n)) iDT iDF (fun q1=>?_) (fun q2=>?_)
  · obtain ⟨hdl,ha0,hb20⟩:data_1=Fr.iota rs.length∧a=0∧b=20:=by rcases hf1 with h | h;exact ⟨h.2.2,h.1,h.2.1⟩;omega
    have hdn:data_1.length=rs.length:=by rw [hdl,Fr.iota_len]
    refine V.gf [.u 4,.cB 4 120 false [0] [] [kA 0 ([⟨rs,rss⟩]:List (Fat DFrac)) ⟨atB rsb,1,1⟩] fun G=>ins_ct data_1 datas a b rsb rs rss hV hdn (.inl ⟨ha0,by omega,by rw [hdn];exact hdl⟩) (by omega)] fun _ _ G4=>?_;intro S s
    refine V.gf [.u 2] fun _ _ G5=>?_;intro S s
    refine V.gf [.u 2,.aa (b+20),.u 1] fun _ _ G6=>?_;intro S s
    refine V.rn hZ1 (Fr.ord (rs.map Fr.qv),b,b+20) [0] ?_ ?_
    · · show (b=0∧(b+20)=20∧(Fr.ord (rs.map Fr.qv))=Fr.iota rs.length)∨(b=20∧(b+20)=40∧n=20∧(Fr.ord (rs.map Fr.qv))=Fr.ord (rs.map Fr.qv))
        right;exact ⟨by omega,by omega,by omega,rfl⟩
    show (40-(b+20)).toNat < (40-b).toNat;omega
  have hdn:data_1.length=rs.length:=by rcases hf1 with h | h;rw [h.2.2,Fr.iota_len];rw [h.2.2.2,Fr.ord_len,List.length_map]
  refine V.gf [.u 4,.cB 4 120 false [0] [] [kA 0 ([⟨rs,rss⟩]:List (Fat DFrac)) ⟨atB rsb,1,1⟩] fun G=>ins_ct data_1 datas a n rsb rs rss hV hdn (by rcases hf1 with h | h;exact .inl ⟨h.1,by omega,by rw [hdn];exact h.2.2⟩;exact .inr ⟨by omega,by omega,h.2.2.2⟩) (by omega)] fun _ _ G7=>?_;intro S s
  refine V.lp (γ:=Int) (fun blockSize=>⟨[(0,datas.v),(1,iv n),(2,.func (.func 42) #[] #[pp rsb 0]),(6,iv blockSize)],[fs false ([⟨rs,rss⟩]:List (Fat DFrac)) ⟨atB rsb,1,1⟩],[os true 3 (Fr.ord (rs.map Fr.qv)) datas]⟩) (fun blockSize=>(blockSize=20)) (fun blockSize=>0) 20 [0] ?_ ?_
  · · show (20:Int)=20;rfl
  rintro blockSize hF2 kw9 Z2 hZ2;clear kw9;refine V.gf [.u 3] fun _ _ G8=>?_;intro S s;refine V.cn (b:=decide (blockSize < n)) iDT iDF (fun q3=>?_) (fun q4=>?_)
  · exfalso;omega
  exact V.rS [] [] [] [] [] [0]
set_option maxRecDepth 10000 in
theorem sorts_ct (x:List Int) (xs:SV) (rsb:Nat) (rs:List DFrac) (rss:SV) (hV:∀ x ∈ rs,Fr.rt x∧Fr.ln 2000000 x) (hl:x.length=rs.length) (hr:rs.length≤20) (hD:x=Fr.iota rs.length) :
    Ct Tryz.prog 41 #[xs.v,.func (.func 42) #[] #[pp rsb 0]] [fs true ([⟨rs,rss⟩]:List (Fat DFrac)) ⟨atB rsb,1,1⟩] [os false 3 x xs] (fun g=>.tuple #[]) (fun g=>[]) (fun g=>[os true 3 (Fr.ord (rs.map Fr.qv)) xs]) (fun g=>[]):=by
  refine V.fo mo Tryz.func41 9 0 fun w H ε k0=>?_;clear k0
  refine V.tro 3 x xs 0 (by kernel_rfl) (fun _ _=>trivial) ?_;refine V.gf [.u 2,.ln (kO 3 0 x xs),.u 1,.cB 4 80 false [0] [] [kA 0 ([⟨rs,rss⟩]:List (Fat DFrac)) ⟨atB rsb,1,1⟩] fun G=>stable_ct x xs (x.length:Int) rsb rs rss hV hl rfl hr hD] fun _ _ G1=>?_;intro S s
  exact V.rS [] [] [] [] [] [0]

open Go Go.Proofs
set_option maxRecDepth 10000 in
theorem shs_ct (l:List DFrac) (ls:SV) (hW:Fr.Wb l) :
    Cp Tryz.prog 35 #[ls.v] [fs true l ls] (bv (decide (Fr.isSh l))):=by
  refine V.fo mo Tryz.func35 18 0 fun w H ε k0=>?_;clear k0
  refine V.g [.kb false] fun _ _ G1=>?_;intro S s
  refine nm (Bg.sgn (Fr.sumW l).num:Int) fun n1 hn1=>?_;refine nm (Bg.dig (Fr.sumW l).num.natAbs:List Int) fun l1 hl1=>?_;refine nm (Bg.dig (Fr.sumW l).den:List Int) fun l2 hl2=>?_;refine nm (Bg.sgn (1:Int):Int) fun n2 hn2=>?_;refine nm (Bg.dig (1:Int).natAbs:List Int) fun l3 hl3=>?_;refine nm (Bg.dig 1:List Int) fun l4 hl4=>?_;refine nm (if Fr.FrB n1 l1 (1:Int) l2∧Fr.FrB n2 l3 (1:Int) l4 then Fr.cmpQ (Fr.fq n1 l1 l2) (Fr.fq n2 l3 l4) else 0:Int) fun n3 hn3=>?_;refine nm (((!(l.any Fr.wrongB)) && (!(l.any Fr.negB))) && (decide (n3=0)):Bool) fun p1 hp1=>?_;have zw:Fr.Fz n1 l1 1 l2 (Fr.sumW l):=by subst_vars;exact ⟨Fr.FrB.of _,Fr.fq_of _⟩
  have zo:Fr.Fz n2 l3 1 l4 ((1:Int):Rat):=by subst_vars;exact Fr.intz 1
  have hcmp:(∀ x ∈ l,Fr.rt x)→n3=Fr.cmpQ (Fr.sumW l) 1:=fun hR=>by rw [hn3,if_pos ⟨zw.rt,zo.rt⟩,zw.v,zo.v];rfl
  have hzo:=zo.len (Fr.Hb.int (by omega));have hzo1:=hzo.1;have hzo2:=hzo.2;have hzl:=fun (hR:∀ x ∈ l,Fr.rt x)=>zw.len (hW.hbW hR)
  refine V.gf [.u 1,.cP 1 27 [kA 0 l ls] fun G=>conw_ct l ls (by first | assumption | exact Fr.Wb.lf (by assumption)),.u 3,.cp (gT (b:=!(l.any Fr.wrongB)) (iNT Iff.rfl)) 5 27 [kA 0 l ls] (fun hg G=>conn_ct l ls (by first | assumption | exact Fr.Wb.lf (by assumption))),.u 1,.and g0 false (!(l.any Fr.wrongB)) (!(l.any Fr.negB)),.u 2,.ct (gT (b:=(!(l.any Fr.wrongB)) && (!(l.any Fr.negB))) (iAT (iNT Iff.rfl) (iNT Iff.rfl))) 10 30 false [] [] [kA 0 l ls] (fun hg G=>sum_ctv l ls hW (Fr.anyW.1 (by simpa using hg.1)) n1 hn1 l1 hl1 l2 hl2),.ct (gT (b:=(!(l.any Fr.wrongB)) && (!(l.any Fr.negB))) (iAT (iNT Iff.rfl) (iNT Iff.rfl))) 11 37 false [] [] [] (fun hg G=>fint_ctv (1:Int) (by omega) n2 hn2 l3 hl3 l4 hl4),.cp (gT (b:=(!(l.any Fr.wrongB)) && (!(l.any Fr.negB))) (iAT (iNT Iff.rfl) (iNT Iff.rfl))) 12 43 [(kf true (.g 10 0) l1 (fun G=>(G 10).ss 0)).a,(kf true (.g 10 1) l2 (fun G=>(G 10).ss 1)).a,(kf true (.g 11 0) l3 (fun G=>(G 11).ss 0)).a,(kf true (.g 11 1) l4 (fun G=>(G 11).ss 1)).a] (fun hg G=>fcmp_ctv n1 l1 ((G 10).ss 0) (1:Int) l2 ((G 10).ss 1) n2 l3 ((G 11).ss 0) (1:Int) l4 ((G 11).ss 1) (by have:=(hzl (Fr.anyW.1 (by simpa using hg.1))).1;omega) (by have:=(hzl (Fr.anyW.1 (by simpa using hg.1))).2;omega) (by omega) (by omega) n3 hn3),.u 1,.andn g0 false ((!(l.any Fr.wrongB)) && (!(l.any Fr.negB))) (decide (n3=0)) p1 hp1,.u 1] fun _ _ G2=>?_;intro S s
  have e0:p1=decide (Fr.isSh l):=by
    refine Bool.eq_iff_iff.2 (Iff.trans (iN hp1 (iAT (iAT (iNT Iff.rfl) (iNT Iff.rfl)) iDT)) (Iff.trans ?_ decide_eq_true_iff.symm));have h:=Fr.isSh_is hcmp;rw [Bool.not_eq_true,Bool.not_eq_true] at h;exact h
  exact V.rT [0] [] [] [] [] [] (cong1 (fun (xz0:Bool)=>(bv xz0:Value)) e0)
set_option maxRecDepth 10000 in
theorem round_ct (total:Int) (l:List DFrac) (ls:SV) (hW:Fr.Wb l) (hl:l.length≤20) :
    Ct Tryz.prog 13 #[iv total,ls.v] [fs true l ls] [] (fun g=>.tuple #[((g.ss 0)).v,iv (if Fr.rndOk total l then (0:Int) else 1)]) (fun g=>[fs true (Fr.rndL total l) (g.ss 0)]) (fun g=>[]) (fun g=>[]):=by
  refine V.fo mo Tryz.func13 100 6 fun w H ε k0=>?_;clear k0
  refine V.gf [.u 2] fun _ _ G1=>?_;intro S_ s_
  refine nm ((decide (total < 0)) || (decide (1099511627776 < total)):Bool) fun p1 hp1=>?_;refine V.gf [.u 5,.orn g0 false (decide (total < 0)) (decide (1099511627776 < total)) p1 hp1,.u 2,.cp (gF (b:=p1) (iN hp1 (iOF iDF iDF))) 8 35 [kA 0 l ls] (fun hg G=>shs_ct l ls hW),.u 1,.or g0 false p1 (!(decide (Fr.isSh l)))] fun _ _ G2=>?_;intro S_ s_
  refine V.cn (b:=p1 || (!(decide (Fr.isSh l)))) (iOT (iN hp1 (iOT iDT iDT)) (iNT iDF)) (iOF (iN hp1 (iOF iDF iDF)) (iNF iDT)) (fun q1=>?_) (fun q2=>?_)
  · have hNo:¬ Fr.rndOk total l:=by have hqq:=q1;rintro ⟨h1,h2⟩;rcases hqq with (h | h) | h;omega;omega;exact h h2
    refine V.gf [.u 2] fun _ _ G3=>?_;intro S_ s_
    refine V.nilF (α:=Int) ?_;have e0:([]:List Int)=Fr.rndL total l:=(Fr.rndL_n hNo).symm;rw [←e0];have e1:(1:Int)=if Fr.rndOk total l then (0:Int) else 1:=(if_neg hNo).symm
    exact V.rT [0,0] [] [] [] [1] [] (cong1 (fun (xz1:Int)=>(.tuple #[SV.v ({}),iv xz1]:Value)) e1)
  have hOk:Fr.rndOk total l:=by have hqq:=q2;exact ⟨by omega,by first | exact hqq.2 | exact Decidable.not_not.1 hqq.2⟩
  have hOk1:=hOk.1;refine nm (List.replicate (l.length:Int).toNat (0:Int):List Int) fun l1 hl1=>?_;have hl1n:=congrArg List.length hl1;try simp only [List.length_append,List.length_cons,List.length_nil,List.length_replicate,List.length_set,List.length_take,List.length_drop,List.length_map,List.length_reverse,List.length_range] at hl1n
  refine V.gf [.u 1,.ln (kF 0 l ls),.mks 2 0 3 8 (l.length:Int) l1 hl1 (by omega) (by omega) (by omega),.u 1] fun _ _ G4=>?_;intro S_ s_
  refine nm (List.replicate (l.length:Int).toNat (default:DFrac):List DFrac) fun l2 hl2=>?_;have hl2n:=congrArg List.length hl2;try simp only [List.length_append,List.length_cons,List.length_nil,List.length_replicate,List.length_set,List.length_take,List.length_drop,List.length_map,List.length_reverse,List.length_range] at hl2n
  refine V.gf [.u 1,.ln (kF 0 l ls),.mks 2 1 52 64 (l.length:Int) l2 hl2 (by omega) (by omega) (by omega),.n 2,.s 2] fun _ _ G5=>?_;intro S_ s_
  refine V.gf [.u 1] fun _ _ G6=>?_;intro S_ s_
  refine V.gf [.u 2] fun _ _ G7=>?_;intro S_ s_
  refine V.gf [.u 1,.ln (kF 0 l ls),.u 1] fun _ _ G8=>?_;intro S_ s_
  refine V.on (α:=Int) 5 3 (by kernel_rfl) ?_;refine V.lp (γ:=List Int × SV × List Int × SV × Int × Int × List DFrac × SV) (fun ⟨out,outs,order,orders,left,k0,rests,restss⟩=>⟨[(0,iv total),(6,outs.v),(7,pp ((G5 3).b) 0),(8,orders.v),(9,iv left),(34,ls.v),(35,iv (l.length:Int)),(36,iv k0)],[fs false l ls],[os true 3 out outs,os true 52 rests restss,.blk ((G5 3).b) #[restss.v] 22,.no,.no,os true 3 order orders]⟩) (fun ⟨out,outs,order,orders,left,k0,rests,restss⟩=>(0≤k0)∧(k0≤(l.length:Int))∧(Fr.RI total l out rests order left k0.toNat)) (fun ⟨out,outs,order,orders,left,k0,rests,restss⟩=>((l.length:Int)-k0).toNat) (l1,(G4 2).s,([]:List Int),{},total,0,l2,(G5 2).s) [0] ?_ ?_
  · refine ⟨?_,?_,?_⟩
    · show 0≤(0:Int)
      first | omega | rfl | (simp;done) | (subst_vars;simp;done)
    · show (0:Int)≤(l.length:Int)
      first | omega | rfl | (simp;done) | (subst_vars;simp;done)
    show Fr.RI total l l1 l2 ([]:List Int) total (0:Int).toNat;rw [hl1,hl2,Int.toNat_natCast];exact Fr.RI.start total l hOk.1
  rintro ⟨out,outs,order,orders,left,k0,rests,restss⟩ hF1 kw9 Z1 hZ1;have hF1:(0≤k0)∧(k0≤(l.length:Int))∧(Fr.RI total l out rests order left k0.toNat):=hF1;obtain ⟨hf1,hf2,hf3⟩:=hF1;obtain ⟨-,⟨kl2, -⟩,⟨kl3, -⟩,⟨kl4, -⟩, -⟩:Lq l ls.v∧Lq out outs.v∧Lq rests restss.v∧Lq order orders.v∧True:=kq kw9;clear kw9;have hRol:=hf3.ol;have hRrl:=hf3.rl;have hRlr:=hf3.lr;have hodn:=congrArg List.length hf3.od;rw [Fr.iota_len] at hodn;refine V.gf [.u 1] fun _ _ G9=>?_;intro S_ s_;refine V.cn (b:=decide (k0 < (l.length:Int))) iDT iDF (fun q3=>?_) (fun q4=>?_)
  · refine nm (l.getD k0.toNat default:DFrac) fun x1 hx1=>?_;refine V.rf [.u 1,.iX (kF 0 l ls) k0,.lE (kF 0 l ls) k0 true x1 hx1 true,.n 3,.u 1,.s 3] fun _ _ G10 kw11=>?_;intro S_ s_
    obtain ⟨⟨⟨kl5, -⟩,⟨kl6, -⟩⟩, -⟩:(Lq x1.P.Digits.l x1.P.Digits.s.v∧Lq x1.Q.Digits.l x1.Q.Digits.s.v)∧Lq out outs.v∧Lq rests restss.v∧Lq order orders.v∧True:=kq kw11;clear kw11;refine nm (Bg.sgn total:Int) fun n1 hn1=>?_;refine nl (Bg.dig total.natAbs) fun l3 hl3 hl3n=>?_;refine nm (Bg.dig 1:List Int) fun l4 hl4=>?_;refine nm (Fr.rS (Fr.FrB x1.P.Sign x1.P.Digits.l x1.Q.Sign x1.Q.Digits.l∧Fr.FrB n1 l3 (1:Int) l4) ((Fr.fq x1.P.Sign x1.P.Digits.l x1.Q.Digits.l) * (Fr.fq n1 l3 l4)):Int) fun n2 hn2=>?_;refine nm (Fr.rD (Fr.FrB x1.P.Sign x1.P.Digits.l x1.Q.Sign x1.Q.Digits.l∧Fr.FrB n1 l3 (1:Int) l4) ((Fr.fq x1.P.Sign x1.P.Digits.l x1.Q.Digits.l) * (Fr.fq n1 l3 l4)):List Int) fun l5 hl5=>?_;refine nm (Fr.rT (Fr.FrB x1.P.Sign x1.P.Digits.l x1.Q.Sign x1.Q.Digits.l∧Fr.FrB n1 l3 (1:Int) l4):Int) fun n3 hn3=>?_;refine nm (Fr.rE (Fr.FrB x1.P.Sign x1.P.Digits.l x1.Q.Sign x1.Q.Digits.l∧Fr.FrB n1 l3 (1:Int) l4) ((Fr.fq x1.P.Sign x1.P.Digits.l x1.Q.Digits.l) * (Fr.fq n1 l3 l4)):List Int) fun l6 hl6=>?_;refine nm (if ¬ (Fr.FrB x1.P.Sign x1.P.Digits.l x1.Q.Sign x1.Q.Digits.l∧Fr.FrB n1 l3 (1:Int) l4) then (1:Int) else 0:Int) fun n4 hn4=>?_;have hxm:=getD_mem (l:=l) (k:=k0.toNat) (by omega) hx1;have hxr:=hOk.2.1 _ hxm;have hxl:=hW.2 _ hxm;have hxl1:=hxl.1;have hxl2:=hxl.2;have hx01:=hOk.2.one hxm;have hflr:=Fr.fl_rng (t:=total) (r:=Fr.qv x1) hOk.1.1 hx01.1 hx01.2;have zt:Fr.Fz n1 l3 1 l4 ((total:Int):Rat):=by subst_vars;exact Fr.intz total
    have hzt:=zt.len (Fr.Hb.int (by omega));have hzt1:=hzt.1;have hzt2:=hzt.2;have zx:=Fr.Fz.of ⟨hxr,zt.rt⟩ hn2 hl5 hn3 hl6;rw [zt.v] at zx;have zxb:=(hxr.z.hb hxl.1 hxl.2).mul (Fr.Hb.int (n:=total) (by omega));have hzx:=zx.len zxb;have hzx1:=hzx.1;have hzx2:=hzx.2;refine V.gf [.l 3,.u 1,.cA 2 37 [] fun G=>fint_ctv total (by omega) n1 hn1 l3 hl3 l4 hl4,.cA 3 36 [(kx false (.f 1) x1 x1.P.Digits.l (fun _=>x1.P.Digits.s) (fun _ H (h:Dat.good H (x1:DFrac))=>h.1)).a,(kx false (.f 1) x1 x1.Q.Digits.l (fun _=>x1.Q.Digits.s) (fun _ H (h:Dat.good H (x1:DFrac))=>h.2)).a,(kf true (.g 2 0) l3 (fun G=>(G 2).ss 0)).a,(kf true (.g 2 1) l4 (fun G=>(G 2).ss 1)).a] fun G=>fmul_ctv x1.P.Sign x1.P.Digits.l x1.P.Digits.s x1.Q.Sign x1.Q.Digits.l x1.Q.Digits.s n1 l3 ((G 2).ss 0) (1:Int) l4 ((G 2).ss 1) (by omega) (by omega) (by omega) (by omega) n2 hn2 l5 hl5 n3 hn3 l6 hl6 n4 hn4,.u 3,.n 4,.s 4,.u 1] fun _ _ G11=>?_;intro S_ s_
    refine nm (Bg.oS (Fr.FrB n2 l5 n3 l6) (Fr.fq n2 l5 l6).floor:Int) fun n5 hn5=>?_;refine nm (Bg.oD (Fr.FrB n2 l5 n3 l6) (Fr.fq n2 l5 l6).floor:List Int) fun l7 hl7=>?_;refine nm (Bg.intV n5 l7:Int) fun n6 hn6=>?_;refine nm (out.getD k0.toNat default:Int) fun v1 hv1=>?_;refine nm (out.set k0.toNat n6:List Int) fun l8 hl8=>?_;have hl8n:=congrArg List.length hl8;try simp only [List.length_append,List.length_cons,List.length_nil,List.length_replicate,List.length_set,List.length_take,List.length_drop,List.length_map,List.length_reverse,List.length_range] at hl8n
    have zf:=Fr.Bz.of zx.rt hn5 hl7;rw [zx.v] at zf;have hfl:n6=Fr.fl total (Fr.qv x1):=by rw [hn6];exact zf.intV (by have h1:=hflr.1;have h2:=hflr.2;unfold Fr.fl Fr.qv at h1 h2;omega)
    have hfr:0≤n6∧n6≤1099511627776:=by rw [hfl];omega
    refine V.gf [.u 2,.l 4,.cA 3 39 [kB 4 l5 ((G11 3).ss 0),kB 5 l6 ((G11 3).ss 1)] fun G=>ffloor_ctv n2 l5 ((G11 3).ss 0) n3 l6 ((G11 3).ss 1) (by omega) (by omega) n5 hn5 l7 hl7,.cP 4 38 [(kf true (.g 3 0) l7 (fun G=>(G 3).ss 0)).a] fun G=>int_ctv n5 l7 ((G 3).ss 0) n6 hn6,.u 3,.iX (kO 3 0 out outs) k0,.se g0 9 0 3 true out (fun _=>outs) k0 none v1 n6 hv1 true l8 hl8 (fun _=>⟨by omega,by omega⟩) (fun _=>rfl) [] (fun _ _ _ _=>trivial)] fun _ _ G12=>?_;intro S_ s_
    refine nm (l8.getD k0.toNat default:Int) fun v2 hv2=>?_;refine nm (Bg.sgn v2:Int) fun n7 hn7=>?_;refine nm (Bg.dig v2.natAbs:List Int) fun l9 hl9=>?_;refine nm (Fr.rS (Fr.FrB n2 l5 n3 l6∧Fr.FrB n7 l9 (1:Int) l4) ((Fr.fq n2 l5 l6)-(Fr.fq n7 l9 l4)):Int) fun n8 hn8=>?_;refine nm (Fr.rD (Fr.FrB n2 l5 n3 l6∧Fr.FrB n7 l9 (1:Int) l4) ((Fr.fq n2 l5 l6)-(Fr.fq n7 l9 l4)):List Int) fun l10 hl10=>?_;refine nm (Fr.rT (Fr.FrB n2 l5 n3 l6∧Fr.FrB n7 l9 (1:Int) l4):Int) fun n9 hn9=>?_;refine nm (Fr.rE (Fr.FrB n2 l5 n3 l6∧Fr.FrB n7 l9 (1:Int) l4) ((Fr.fq n2 l5 l6)-(Fr.fq n7 l9 l4)):List Int) fun l11 hl11=>?_;refine nm (if ¬ (Fr.FrB n2 l5 n3 l6∧Fr.FrB n7 l9 (1:Int) l4) then (1:Int) else 0:Int) fun n10 hn10=>?_;refine nm (rests.getD k0.toNat default:DFrac) fun x2 hx2=>?_;have hv:v2=n6:=by rw [hv2,hl8,Fr.getD_set' (by have:=hf3.ol;omega),if_pos rfl]
    have zi:Fr.Fz n7 l9 1 l4 ((v2:Int):Rat):=by subst_vars;exact Fr.intz _
    have hzi:=zi.len (Fr.Hb.int (by omega));have hzi1:=hzi.1;have hzi2:=hzi.2;have zr:=Fr.Fz.of ⟨zx.rt,zi.rt⟩ hn8 hl10 hn9 hl11;rw [zx.v,zi.v,hv,hfl] at zr;have zrb:=Fr.Hb.sub zxb (Fr.Hb.int (n:=Fr.fl total (Fr.qv x1)) (by omega));have hzr:=zr.len (zrb.mono (show _≤2000000 by omega));refine V.gf [.l 2,.u 1,.l 4,.u 2,.iX (kO 3 0 l8 outs) k0,.lE (kO 3 0 l8 outs) k0 false v2 hv2 false,.cA 7 37 [] fun G=>fint_ctv v2 (by omega) n7 hn7 l9 hl9 l4 hl4,.cA 8 40 [kB 4 l5 ((G11 3).ss 0),kB 5 l6 ((G11 3).ss 1),(kf true (.g 7 0) l9 (fun G=>(G 7).ss 0)).a,(kf true (.g 7 1) l4 (fun G=>(G 7).ss 1)).a] fun G=>fsub_ctv n2 l5 ((G11 3).ss 0) n3 l6 ((G11 3).ss 1) n7 l9 ((G 7).ss 0) (1:Int) l4 ((G 7).ss 1) (by omega) (by omega) (by omega) (by omega) n8 hn8 l10 hl10 n9 hn9 l11 hl11 n10 hn10,.u 3,.iX (kO 52 1 rests restss) k0,.seG g0 13 1 52 true rests (fun _=>restss) k0 none x2 (fun G=>(DFrac.mk ⟨n8,l10,(G 8).ss 0⟩ ⟨n9,l11,(G 8).ss 1⟩:DFrac)) hx2 true (fun _=>⟨by omega,by omega⟩) (fun _=>rfl) [(kf true (.g 8 0) l10 (fun G=>(G 8).ss 0)).a,(kf true (.g 8 1) l11 (fun G=>(G 8).ss 1)).a] (fun _ _ ho h=>(And.intro h.1 h.2.1))] fun _ _ G13=>?_;intro S_ s_
    refine nm (order ++[k0]:List Int) fun l12 hl12=>?_;refine V.gf [.u 2,.nr 2 true 3 [k0] [] (fun _ _ _ _ _=>trivial) (fun _=>#[iv k0]),.ap 3 5 3 8 false true order (fun _=>orders) (kf true (.g 2 0) [k0] (fun G=>⟨atB (G 2).b,1,1⟩)) true l12 hl12 (by (try simp only [List.length_append,List.length_cons,List.length_nil,List.length_replicate,List.length_set,List.length_take,List.length_drop,List.length_map,List.length_reverse,List.length_range]);omega) (fun h=>by cases h) (.inr fun _ _=>trivial),.u 1] fun _ _ G14=>?_;intro S_ s_
    refine V.gf [.u 3,.iX (kO 3 0 l8 outs) k0,.lE (kO 3 0 l8 outs) k0 false v2 hv2 false,.aa (left-v2),.u 1] fun _ _ G15=>?_;intro S_ s_
    refine V.gf [.aa (k0+1),.u 1] fun _ _ G16=>?_;intro S_ s_
    refine V.rn hZ1 (l8,outs,l12,(G14 3).s,left-v2,k0+1,rests.set k0.toNat (DFrac.mk ⟨n8,l10,(G13 8).ss 0⟩ ⟨n9,l11,(G13 8).ss 1⟩),restss) [0] ?_ ?_
    · refine ⟨?_,?_,?_⟩
      · show 0≤(k0+1)
        first | omega | rfl | (simp;done) | (subst_vars;simp;done)
      · show (k0+1)≤(l.length:Int)
        first | omega | rfl | (simp;done) | (subst_vars;simp;done)
      show Fr.RI total l l8 (rests.set k0.toNat (DFrac.mk ⟨n8,l10,(G13 8).ss 0⟩ ⟨n9,l11,(G13 8).ss 1⟩)) l12 (left-v2) (k0+1).toNat;have hk:((k0.toNat:Nat):Int)=k0:=by omega
      have hst:=Fr.RI.step (y:=(DFrac.mk ⟨n8,l10,(G13 8).ss 0⟩ ⟨n9,l11,(G13 8).ss 1⟩)) hf3 (by omega) hx1 hfl zr.rt hzr zr.v hfr;rw [hk] at hst;rw [hv];rw [hl8,hl12,show (k0+1).toNat=k0.toNat+1 by omega];exact hst
    show ((l.length:Int)-(k0+1)).toNat < ((l.length:Int)-k0).toNat;omega
  have hE:=hf3.end (by omega);have hrl:rests.length=l.length:=by have:=congrArg List.length hE.rq;simpa using this
  have hodl:order.length=rests.length:=by rw [hE.od,Fr.iota_len,List.length_map]
  have hL:=Fr.left_rng (t:=total) (q:=l.map Fr.qv) hOk.2.2.2;rw [←hE.lf,List.length_map] at hL;have hOr:(Fr.ord (rests.map Fr.qv)).length=l.length:=by rw [Fr.ord_len,List.length_map,hrl]
  refine V.frz 1 true 52 rests restss (by kernel_rfl) ?_;refine V.frzB 2 ((G5 3).b) #[restss.v] 22 (⟨rests,restss⟩:Fat DFrac) true 1 (fs true rests restss) (by kernel_rfl) (fun _ h=>h) ?_;refine V.gf [.u 2,.ct g0 2 41 false [5] [] [kB 2 ([⟨rests,restss⟩]:List (Fat DFrac)) ⟨atB (G5 3).b,1,1⟩] (fun _ G=>sorts_ct order orders ((G5 3).b) rests restss (fun x hx=>hE.r x hx) hodl (by omega) (by have h:=hE.od;rw [List.length_map] at h;exact h))] fun _ _ G17=>?_;intro S_ s_
  refine nm ((Fr.ord (rests.map Fr.qv)).take left.toNat:List Int) fun l13 hl13=>?_;have hl13n:=congrArg List.length hl13;try simp only [List.length_append,List.length_cons,List.length_nil,List.length_replicate,List.length_set,List.length_take,List.length_drop,List.length_map,List.length_reverse,List.length_range] at hl13n
  refine V.gf [.u 2,.fro 2 5 3 true (Fr.ord (rests.map Fr.qv)) (fun _=>orders) left l13 hl13 (by omega) (by omega),.ln (kO 3 5 l13 (orders.sub 1 0 left.toNat)),.u 1] fun _ _ G18=>?_;intro S_ s_
  refine V.lp (γ:=List Int × SV × Int) (fun ⟨out2,out2s,k1⟩=>⟨[(6,out2s.v),(86,(orders.sub 1 0 left.toNat).v),(87,iv (l13.length:Int)),(88,iv k1)],[],[os true 3 out2 out2s,.no,.no,.no,.no,os true 3 l13 (orders.sub 1 0 left.toNat)]⟩) (fun ⟨out2,out2s,k1⟩=>(0≤k1)∧(k1≤(l13.length:Int))∧(out2=Fr.bump out (l13.take k1.toNat))) (fun ⟨out2,out2s,k1⟩=>((l13.length:Int)-k1).toNat) (out,outs,0) [] ?_ ?_
  · refine ⟨?_,?_,?_⟩
    · show 0≤(0:Int)
      first | omega | rfl | (simp;done) | (subst_vars;simp;done)
    · show (0:Int)≤(l13.length:Int)
      first | omega | rfl | (simp;done) | (subst_vars;simp;done)
    show out=Fr.bump out (l13.take (0:Int).toNat);rfl
  rintro ⟨out2,out2s,k1⟩ hF2 kw20 Z2 hZ2;have hF2:(0≤k1)∧(k1≤(l13.length:Int))∧(out2=Fr.bump out (l13.take k1.toNat)):=hF2;obtain ⟨hf4,hf5,hf6⟩:=hF2;have hol:out2.length=l.length:=by rw [hf6,Fr.bump_len,hE.o];simp
  refine V.gf [.u 1] fun _ _ G19=>?_;intro S_ s_
  refine V.cn (b:=decide (k1 < (l13.length:Int))) iDT iDF (fun q5=>?_) (fun q6=>?_)
  · refine nm (l13.getD k1.toNat default:Int) fun v3 hv3=>?_;have hvm:v3 ∈ l13:=getD_mem (by omega) hv3
    have hvo:0≤v3∧v3 < (l.length:Int):=by rw [hl13] at hvm;have:=Fr.ord_mem.1 (List.mem_of_mem_take hvm);rw [List.length_map,hrl] at this;exact this
    refine V.gf [.iX (kO 3 5 l13 (orders.sub 1 0 left.toNat)) k1,.lE (kO 3 5 l13 (orders.sub 1 0 left.toNat)) k1 false v3 hv3 false,.u 1] fun _ _ G20=>?_;intro S_ s_
    refine nm (out2.getD v3.toNat default:Int) fun v4 hv4=>?_;refine nm (out2.set v3.toNat (v4+1):List Int) fun l14 hl14=>?_;have hwr:=Fr.bump_rng (o:=out) (l:=l13.take k1.toNat) (b:=1099511627776) (fun x hx=>by rw [hE.o] at hx;obtain ⟨r,hr,rfl⟩:=List.mem_map.1 hx;obtain ⟨y,hy,rfl⟩:=List.mem_map.1 hr;have h01:=hOk.2.one hy;have:=Fr.fl_rng (t:=total) hOk.1.1 h01.1 h01.2;omega) (fun i hi=>by have h1:=List.mem_of_mem_take hi;rw [hl13] at h1;have:=Fr.ord_mem.1 (List.mem_of_mem_take h1);rw [List.length_map,hrl] at this;rw [hE.o];simpa using this) v4 (by rw [←hf6];exact getD_mem (by omega) hv4)
    have htl:(l13.take k1.toNat).length≤l13.length:=by rw [List.length_take];omega
    refine V.gf [.u 2,.iX (kO 3 0 out2 out2s) v3,.lE (kO 3 0 out2 out2s) v3 false v4 hv4 false,.aa (v4+1),.iX (kO 3 0 out2 out2s) v3,.se g0 6 0 3 true out2 (fun _=>out2s) v3 none v4 (v4+1) hv4 true l14 hl14 (fun _=>⟨by omega,by omega⟩) (fun _=>rfl) [] (fun _ _ _ _=>trivial)] fun _ _ G21=>?_;intro S_ s_
    refine V.gf [.aa (k1+1),.u 1] fun _ _ G22=>?_;intro S_ s_
    refine V.rn hZ2 (l14,out2s,k1+1) [] ?_ ?_
    · refine ⟨?_,?_,?_⟩
      · show 0≤(k1+1)
        first | omega | rfl | (simp;done) | (subst_vars;simp;done)
      · show (k1+1)≤(l13.length:Int)
        first | omega | rfl | (simp;done) | (subst_vars;simp;done)
      show l14=Fr.bump out (l13.take (k1+1).toNat);rw [hl14,show (k1+1).toNat=k1.toNat+1 by omega,Fr.take_step (by omega),Fr.bump_snoc,← hf6,← hv3];rw [←hv4]
    show ((l13.length:Int)-(k1+1)).toNat < ((l13.length:Int)-k1).toNat;omega
  refine V.gf [.u 3] fun _ _ G23=>?_;intro S_ s_
  refine V.frz 0 true 3 out2 out2s (by kernel_rfl) ?_;have e0:out2=Fr.rndL total l:=by rw [Fr.rndL_y hOk,hf6];unfold Fr.rndQ;rw [←hE.o,← hE.rq,← hE.lf,hl13,List.take_of_length_le (by simp only [List.length_take];omega)]
  subst e0;have e1:(0:Int)=if Fr.rndOk total l then (0:Int) else 1:=(if_pos hOk).symm
  exact V.rT [0,0] [out2s] [] [] [0] [] (cong1 (fun (xz1:Int)=>(.tuple #[out2s.v,iv xz1]:Value)) e1)
theorem round_ctv (total:Int) (l:List DFrac) (ls:SV) (hW:Fr.Wb l) (hl:l.length≤20) (rv0:List Int) (erv0:rv0=Fr.rndL total l) (rv1:Int) (erv1:rv1=if Fr.rndOk total l then (0:Int) else 1) :
    Ct Tryz.prog 13 #[iv total,ls.v] [fs true l ls] [] (fun g=>.tuple #[((g.ss 0)).v,iv rv1]) (fun g=>[fs true rv0 (g.ss 0)]) (fun g=>[]) (fun g=>[]):=by
  subst erv0 erv1;exact round_ct total l ls hW hl

open Go Go.Proofs
set_option maxRecDepth 10000 in
theorem few5_ct (e:Int) (a:List Int) (c:SV) (f:Int) (b:List Int) (d:SV) (n:Int) :
    Cp Tryz.prog 16 #[ag (DFrac.mk ⟨e,a,c⟩ ⟨f,b,d⟩),iv n] [fs true a c,fs true b d] (bv (decide ((a.length:Int)≤n∧(b.length:Int)≤n))):=by
  refine V.fo mo Tryz.func16 19 1 fun w H ε k0=>?_;clear k0
  refine V.gf [.n 0,.kb false] fun _ _ G1=>?_;intro S s
  refine nm ((decide ((a.length:Int)≤n)) && (decide ((b.length:Int)≤n)):Bool) fun p1 hp1=>?_;refine V.gf [.u 2,.l 0,.ln (kF 0 a c),.u 5,.l 0,.ln (kF 1 b d),.u 2,.andn g0 false (decide ((a.length:Int)≤n)) (decide ((b.length:Int)≤n)) p1 hp1,.u 1] fun _ _ G2=>?_;intro S s
  have e0:p1=decide ((a.length:Int)≤n∧(b.length:Int)≤n):=by
    refine Bool.eq_iff_iff.2 (Iff.trans (iN hp1 (iAT iDT iDT)) (Iff.trans ?_ decide_eq_true_iff.symm));exact Iff.rfl
  exact V.rT [0] [] [] [] [] [] (cong1 (fun (xz0:Bool)=>(bv xz0:Value)) e0)
set_option maxRecDepth 10000 in
theorem samebig_ct (f:Int) (a:List Int) (d:SV) (k:Int) (c:List Int) (m:SV) :
    Cp Tryz.prog 82 #[ag (DBig.mk f ⟨a,d⟩),ag (DBig.mk k ⟨c,m⟩)] [fs true a d,fs true c m] (bv (decide (f=k∧a=c))):=by
  refine V.fo mo Tryz.func82 38 2 fun w H ε k0=>?_;obtain ⟨⟨kl1, -⟩,⟨kl2, -⟩, -⟩:Lq a d.v∧Lq c m.v∧True:=kq k0
  clear k0;refine V.gf [.n 0,.n 1,.kb false] fun _ _ G1=>?_;intro S s
  refine nm ((!(decide (f=k))) || (!(decide ((a.length:Int)=(c.length:Int)))):Bool) fun p1 hp1=>?_;refine V.gf [.u 1,.l 0,.u 1,.l 1,.u 3,.l 0,.ln (kF 0 a d),.u 1,.l 1,.ln (kF 1 c m),.u 1,.orn g0 false (!(decide (f=k))) (!(decide ((a.length:Int)=(c.length:Int)))) p1 hp1] fun _ _ G2=>?_;intro S s
  refine V.cn (b:=p1) (iN hp1 (iOT (iNT iDF) (iNT iDF))) (iN hp1 (iOF (iNF iDT) (iNF iDT))) (fun q1=>?_) (fun q2=>?_)
  · refine V.g [.kb false] fun _ _ G3=>?_;intro S s
    have e0:false=(decide (f=k∧a=c)):=by exact (decide_eq_false fun h=>by have hqq:=q1;rcases hqq with h1 | h1;exact h1 h.1;exact h1 (by rw [h.2])).symm
    exact V.rT [0] [] [] [] [] [] (cong1 (fun (xz0:Bool)=>(bv xz0:Value)) e0)
  refine V.gf [.u 1] fun _ _ G4=>?_;intro S s
  refine V.lp (γ:=Int) (fun i=>⟨[(2,pp ((G1 0).b) 0),(3,pp ((G1 1).b) 0),(5,iv i)],[fs false a d,fs false c m],[.blk ((G1 0).b) (ca (DBig.mk f ⟨a,d⟩)) 50,.blk ((G1 1).b) (ca (DBig.mk k ⟨c,m⟩)) 50]⟩) (fun i=>(0≤i)∧(i≤(a.length:Int))∧(0≤i)∧(i≤(a.length:Int))∧(∀ j,j < i.toNat→a.getD j default=c.getD j default)) (fun i=>((a.length:Int)-i).toNat) 0 [0,1] ?_ ?_
  · refine ⟨?_,?_,?_,?_,?_⟩
    · show 0≤(0:Int)
      first | omega | rfl | (simp;done) | (subst_vars;simp;done)
    · show (0:Int)≤(a.length:Int)
      first | omega | rfl | (simp;done) | (subst_vars;simp;done)
    · show 0≤(0:Int);omega
    · show (0:Int)≤(a.length:Int);omega
    show ∀ j,j < (0:Int).toNat→a.getD j default=c.getD j default;intro j hj;simp at hj
  rintro i hF1 kw5 Z1 hZ1;have hF1:(0≤i)∧(i≤(a.length:Int))∧(0≤i)∧(i≤(a.length:Int))∧(∀ j,j < i.toNat→a.getD j default=c.getD j default):=hF1;obtain ⟨hf1,hf2,hf3,hf4,hf5⟩:=hF1;clear kw5;refine V.gf [.u 2,.l 0,.ln (kF 0 a d),.u 1] fun _ _ G5=>?_;intro S s;refine V.cn (b:=decide (i < (a.length:Int))) iDT iDF (fun q3=>?_) (fun q4=>?_)
  · refine nm (a.getD i.toNat default:Int) fun v1 hv1=>?_;refine nm (c.getD i.toNat default:Int) fun v2 hv2=>?_;refine V.gf [.u 1,.l 0,.u 1,.iX (kF 0 a d) i,.lE (kF 0 a d) i false v1 hv1 false,.u 1,.l 1,.u 1,.iX (kF 1 c m) i,.lE (kF 1 c m) i false v2 hv2 false,.u 1] fun _ _ G6=>?_;intro S s
    refine V.cn (b:=!(decide (v1=v2))) (iNT iDF) (iNF iDT) (fun q5=>?_) (fun q6=>?_)
    · refine V.g [.kb false] fun _ _ G7=>?_;intro S s
      have e0:false=(decide (f=k∧a=c)):=(decide_eq_false fun h=>q5 (by rw [hv1,hv2,h.2])).symm;exact V.rT [0] [] [] [] [] [] (cong1 (fun (xz0:Bool)=>(bv xz0:Value)) e0)
    refine V.gf [.u 1,.aa (i+1),.u 1] fun _ _ G8=>?_;intro S s
    refine V.rn hZ1 (i+1) [0,1] ?_ ?_
    · refine ⟨?_,?_,?_,?_,?_⟩
      · show 0≤(i+1);omega
      · show (i+1)≤(a.length:Int);omega
      · show 0≤(i+1);omega
      · show (i+1)≤(a.length:Int);omega
      show ∀ j,j < (i+1).toNat→a.getD j default=c.getD j default;intro j hj;by_cases e:j < i.toNat
      · exact hf5 j e
      rw [show j=i.toNat by omega,← hv1,← hv2];exact (by have hqq:=q6;first | exact hqq | exact Decidable.not_not.1 hqq)
    show ((a.length:Int)-(i+1)).toNat < ((a.length:Int)-i).toNat;omega
  refine V.g [.kb true] fun _ _ G9=>?_;intro S s
  have e0:true=(decide (f=k∧a=c)):=(decide_eq_true ⟨by omega,Bg.eq_of_getD (by omega) fun j hj=>hf5 j (by omega)⟩).symm;exact V.rT [0] [] [] [] [] [] (cong1 (fun (xz0:Bool)=>(bv xz0:Value)) e0)
set_option maxRecDepth 10000 in
theorem same5_ct (f:Int) (a:List Int) (j:SV) (h:Int) (d:List Int) (k:SV) (g:Int) (c:List Int) (m:SV) (i:Int) (e:List Int) (o:SV) :
    Cp Tryz.prog 44 #[ag (DFrac.mk ⟨f,a,j⟩ ⟨h,d,k⟩),ag (DFrac.mk ⟨g,c,m⟩ ⟨i,e,o⟩)] [fs true a j,fs true d k,fs true c m,fs true e o] (bv (decide (f=g∧a=c∧h=i∧d=e))):=by
  refine V.fo mo Tryz.func44 17 2 fun w H ε k0=>?_;clear k0
  refine V.gf [.n 0,.n 1,.kb false] fun _ _ G1=>?_;intro S s
  refine nm ((decide (f=g∧a=c)) && (decide (h=i∧d=e)):Bool) fun p1 hp1=>?_;refine V.gf [.u 1,.l 0,.u 1,.l 1,.cP 4 82 [kA 0 a j,kA 2 c m] fun G=>samebig_ct f a j g c m,.u 2,.l 0,.u 1,.l 1,.cp (gT (b:=decide (f=g∧a=c)) iDT) 10 82 [kA 1 d k,kA 3 e o] (fun hg G=>samebig_ct h d k i e o),.andn g0 false (decide (f=g∧a=c)) (decide (h=i∧d=e)) p1 hp1,.u 1] fun _ _ G2=>?_;intro S s
  have e0:p1=(decide (f=g∧a=c∧h=i∧d=e)):=by
    refine Bool.eq_iff_iff.2 (Iff.trans (iN hp1 (iAT iDT iDT)) (Iff.trans ?_ decide_eq_true_iff.symm));exact and_assoc
  exact V.rT [0] [] [] [] [] [] (cong1 (fun (xz0:Bool)=>(bv xz0:Value)) e0)
set_option maxRecDepth 10000 in
theorem few30_ct (l:List DFrac) (ls:SV) :
    Cp Tryz.prog 5 #[ls.v] [fs true l ls] (bv (decide (Fr.few30 l))):=by
  refine V.fo mo Tryz.func5 23 0 fun w H ε k0=>?_;clear k0
  refine V.g [.kb false] fun _ _ G1=>?_;intro S_ s_
  refine V.gf [.u 1] fun _ _ G2=>?_;intro S_ s_
  refine V.lp (γ:=Int) (fun i=>⟨[(0,ls.v),(3,iv i)],[fs false l ls],[]⟩) (fun i=>(0≤i)∧(i≤(l.length:Int)∧i≤21)∧(∀ j,j < i.toNat→Fr.ln 6 (l.getD j default))) (fun i=>((l.length:Int)-i).toNat) 0 [0] ?_ ?_
  · refine ⟨?_,?_,?_⟩
    · show 0≤(0:Int);omega
    · show (0:Int)≤(l.length:Int)∧(0:Int)≤21;omega
    show ∀ j,j < (0:Int).toNat→Fr.ln 6 (l.getD j default);intro j hj;simp at hj
  rintro i hF1 kw3 Z1 hZ1;have hF1:(0≤i)∧(i≤(l.length:Int)∧i≤21)∧(∀ j,j < i.toNat→Fr.ln 6 (l.getD j default)):=hF1;obtain ⟨hf1,hf2,hf3⟩:=hF1;clear kw3;refine nm ((decide (i < (l.length:Int))) && (decide (i < 21)):Bool) fun p1 hp1=>?_;refine V.gf [.u 2,.ln (kF 0 l ls),.u 4,.andn g0 false (decide (i < (l.length:Int))) (decide (i < 21)) p1 hp1] fun _ _ G3=>?_;intro S_ s_;refine V.cn (b:=p1) (iN hp1 (iAT iDT iDT)) (iN hp1 (iAF iDF iDF)) (fun q1=>?_) (fun q2=>?_)
  · refine nm (l.getD i.toNat default:DFrac) fun x1 hx1=>?_;refine V.gf [.u 2,.iX (kF 0 l ls) i,.lE (kF 0 l ls) i true x1 hx1 true,.cP 4 16 [(kx false (.g 3 0) x1 x1.P.Digits.l (fun _=>x1.P.Digits.s) (fun _ H (h:Dat.good H (x1:DFrac))=>h.1)).a,(kx false (.g 3 0) x1 x1.Q.Digits.l (fun _=>x1.Q.Digits.s) (fun _ H (h:Dat.good H (x1:DFrac))=>h.2)).a] fun G=>few5_ct x1.P.Sign x1.P.Digits.l x1.P.Digits.s x1.Q.Sign x1.Q.Digits.l x1.Q.Digits.s (6:Int),.u 1] fun _ _ G4=>?_;intro S_ s_
    refine V.cn (b:=!(decide ((x1.P.Digits.l.length:Int)≤(6:Int)∧(x1.Q.Digits.l.length:Int)≤(6:Int)))) (iNT iDF) (iNF iDT) (fun q3=>?_) (fun q4=>?_)
    · refine V.g [.kb false] fun _ _ G5=>?_;intro S_ s_
      have e0:false=decide (Fr.few30 l):=by exact (decide_eq_false (Fr.few30_no (k:=i.toNat) (by omega) hx1 (by have hqq:=q3;omega))).symm
      exact V.rT [0] [] [] [] [] [] (cong1 (fun (xz0:Bool)=>(bv xz0:Value)) e0)
    refine V.gf [.u 1,.aa (i+1),.u 1] fun _ _ G6=>?_;intro S_ s_
    refine V.rn hZ1 (i+1) [0] ?_ ?_
    · refine ⟨?_,?_,?_⟩
      · show 0≤(i+1);omega
      · show (i+1)≤(l.length:Int)∧(i+1)≤21;omega
      show ∀ j,j < (i+1).toNat→Fr.ln 6 (l.getD j default);intro j hj;by_cases e:j < i.toNat
      · exact hf3 j e
      rw [show j=i.toNat by omega,← hx1];have hqq:=q4;unfold Fr.ln;omega
    show ((l.length:Int)-(i+1)).toNat < ((l.length:Int)-i).toNat;omega
  refine V.gf [.u 1,.ln (kF 0 l ls),.u 2] fun _ _ G7=>?_;intro S_ s_
  have e0:(decide ((l.length:Int)≤20))=decide (Fr.few30 l):=by
    refine Bool.eq_iff_iff.2 (Iff.trans iDT (Iff.trans ?_ decide_eq_true_iff.symm));exact ⟨fun h=>Fr.few30_yes (by omega) fun k hk=>hf3 k (by omega),fun h=>by have:=h.1;omega⟩
  exact V.rT [0] [] [] [] [] [] (cong1 (fun (xz0:Bool)=>(bv xz0:Value)) e0)
set_option maxRecDepth 10000 in
theorem same30_ct (a:List DFrac) (as_:SV) (b:List DFrac) (bs:SV) :
    Cp Tryz.prog 14 #[as_.v,bs.v] [fs true a as_,fs true b bs] (bv (decide (a.map Fr.sh4=b.map Fr.sh4))):=by
  refine V.fo mo Tryz.func14 27 0 fun w H ε k0=>?_;obtain ⟨⟨kl1, -⟩,⟨kl2, -⟩, -⟩:Lq a as_.v∧Lq b bs.v∧True:=kq k0
  clear k0;refine V.g [.kb false] fun _ _ G1=>?_;intro S_ s_
  refine V.gf [.u 1,.ln (kF 0 a as_),.u 1,.ln (kF 1 b bs),.u 1] fun _ _ G2=>?_;intro S_ s_
  refine V.cn (b:=!(decide ((a.length:Int)=(b.length:Int)))) (iNT iDF) (iNF iDT) (fun q1=>?_) (fun q2=>?_)
  · refine V.g [.kb false] fun _ _ G3=>?_;intro S_ s_
    have e0:false=(decide (a.map Fr.sh4=b.map Fr.sh4)):=by exact (decide_eq_false fun h=>q1 (by have:=congrArg List.length h;simp only [List.length_map] at this;omega)).symm
    exact V.rT [0] [] [] [] [] [] (cong1 (fun (xz0:Bool)=>(bv xz0:Value)) e0)
  refine V.gf [.u 1] fun _ _ G4=>?_;intro S_ s_
  refine V.lp (γ:=Int) (fun i=>⟨[(0,as_.v),(1,bs.v),(5,iv i)],[fs false a as_,fs false b bs],[]⟩) (fun i=>(0≤i)∧(i≤(a.length:Int))∧(0≤i)∧(i≤(a.length:Int))∧(∀ j,j < i.toNat→Fr.sh4 (a.getD j default)=Fr.sh4 (b.getD j default))) (fun i=>((a.length:Int)-i).toNat) 0 [0,1] ?_ ?_
  · refine ⟨?_,?_,?_,?_,?_⟩
    · show 0≤(0:Int)
      first | omega | rfl | (simp;done) | (subst_vars;simp;done)
    · show (0:Int)≤(a.length:Int)
      first | omega | rfl | (simp;done) | (subst_vars;simp;done)
    · show 0≤(0:Int);omega
    · show (0:Int)≤(a.length:Int);omega
    show ∀ j,j < (0:Int).toNat→Fr.sh4 (a.getD j default)=Fr.sh4 (b.getD j default);intro j hj;simp at hj
  rintro i hF1 kw5 Z1 hZ1;have hF1:(0≤i)∧(i≤(a.length:Int))∧(0≤i)∧(i≤(a.length:Int))∧(∀ j,j < i.toNat→Fr.sh4 (a.getD j default)=Fr.sh4 (b.getD j default)):=hF1;obtain ⟨hf1,hf2,hf3,hf4,hf5⟩:=hF1;clear kw5;refine V.gf [.u 2,.ln (kF 0 a as_),.u 1] fun _ _ G5=>?_;intro S_ s_;refine V.cn (b:=decide (i < (a.length:Int))) iDT iDF (fun q3=>?_) (fun q4=>?_)
  · refine nm (a.getD i.toNat default:DFrac) fun x1 hx1=>?_;refine nm (b.getD i.toNat default:DFrac) fun x2 hx2=>?_;refine V.gf [.u 2,.iX (kF 0 a as_) i,.lE (kF 0 a as_) i true x1 hx1 true,.u 2,.iX (kF 1 b bs) i,.lE (kF 1 b bs) i true x2 hx2 true,.cP 8 44 [(kx false (.g 3 0) x1 x1.P.Digits.l (fun _=>x1.P.Digits.s) (fun _ H (h:Dat.good H (x1:DFrac))=>h.1)).a,(kx false (.g 3 0) x1 x1.Q.Digits.l (fun _=>x1.Q.Digits.s) (fun _ H (h:Dat.good H (x1:DFrac))=>h.2)).a,(kx false (.g 7 0) x2 x2.P.Digits.l (fun _=>x2.P.Digits.s) (fun _ H (h:Dat.good H (x2:DFrac))=>h.1)).a,(kx false (.g 7 0) x2 x2.Q.Digits.l (fun _=>x2.Q.Digits.s) (fun _ H (h:Dat.good H (x2:DFrac))=>h.2)).a] fun G=>same5_ct x1.P.Sign x1.P.Digits.l x1.P.Digits.s x1.Q.Sign x1.Q.Digits.l x1.Q.Digits.s x2.P.Sign x2.P.Digits.l x2.P.Digits.s x2.Q.Sign x2.Q.Digits.l x2.Q.Digits.s,.u 1] fun _ _ G6=>?_;intro S_ s_
    refine V.cn (b:=!(decide (x1.P.Sign=x2.P.Sign∧x1.P.Digits.l=x2.P.Digits.l∧x1.Q.Sign=x2.Q.Sign∧x1.Q.Digits.l=x2.Q.Digits.l))) (iNT iDF) (iNF iDT) (fun q5=>?_) (fun q6=>?_)
    · refine V.g [.kb false] fun _ _ G7=>?_;intro S_ s_
      have e0:false=(decide (a.map Fr.sh4=b.map Fr.sh4)):=by exact (decide_eq_false fun h=>q5 (by have h1:=Fr.sh4_get (k:=i.toNat) (by omega) (by omega) h;rw [←hx1,← hx2] at h1;unfold Fr.sh4 at h1;simpa using h1)).symm
      exact V.rT [0] [] [] [] [] [] (cong1 (fun (xz0:Bool)=>(bv xz0:Value)) e0)
    refine V.gf [.u 1,.aa (i+1),.u 1] fun _ _ G8=>?_;intro S_ s_
    refine V.rn hZ1 (i+1) [0,1] ?_ ?_
    · refine ⟨?_,?_,?_,?_,?_⟩
      · show 0≤(i+1);omega
      · show (i+1)≤(a.length:Int);omega
      · show 0≤(i+1);omega
      · show (i+1)≤(a.length:Int);omega
      show ∀ j,j < (i+1).toNat→Fr.sh4 (a.getD j default)=Fr.sh4 (b.getD j default);intro j hj;by_cases e:j < i.toNat
      · exact hf5 j e
      rw [show j=i.toNat by omega,← hx1,← hx2];have hqq:=q6;unfold Fr.sh4;obtain ⟨h1,h2,h3,h4⟩:_∧_∧_∧_:=by first | exact hqq | exact Decidable.not_not.1 hqq
      rw [h1,h2,h3,h4]
    show ((a.length:Int)-(i+1)).toNat < ((a.length:Int)-i).toNat;omega
  refine V.g [.kb true] fun _ _ G9=>?_;intro S_ s_
  have e0:true=(decide (a.map Fr.sh4=b.map Fr.sh4)):=(decide_eq_true (Fr.sh4_eq (by omega) fun j hj=>hf5 j (by omega))).symm;exact V.rT [0] [] [] [] [] [] (cong1 (fun (xz0:Bool)=>(bv xz0:Value)) e0)
set_option maxRecDepth 10000 in
theorem sameints_ct (a:List Int) (as_:SV) (b:List Int) (bs:SV) :
    Cp Tryz.prog 15 #[as_.v,bs.v] [fs true a as_,fs true b bs] (bv (decide (a=b))):=by
  refine V.fo mo Tryz.func15 26 0 fun w H ε k0=>?_;obtain ⟨⟨kl1, -⟩,⟨kl2, -⟩, -⟩:Lq a as_.v∧Lq b bs.v∧True:=kq k0
  clear k0;refine V.g [.kb false] fun _ _ G1=>?_;intro S s
  refine V.gf [.u 1,.ln (kF 0 a as_),.u 1,.ln (kF 1 b bs),.u 1] fun _ _ G2=>?_;intro S s
  refine V.cn (b:=!(decide ((a.length:Int)=(b.length:Int)))) (iNT iDF) (iNF iDT) (fun q1=>?_) (fun q2=>?_)
  · refine V.g [.kb false] fun _ _ G3=>?_;intro S s
    have e0:false=(decide (a=b)):=(decide_eq_false fun h=>q1 (by rw [h])).symm;exact V.rT [0] [] [] [] [] [] (cong1 (fun (xz0:Bool)=>(bv xz0:Value)) e0)
  refine V.gf [.u 1] fun _ _ G4=>?_;intro S s
  refine V.lp (γ:=Int) (fun i=>⟨[(0,as_.v),(1,bs.v),(5,iv i)],[fs false a as_,fs false b bs],[]⟩) (fun i=>(0≤i)∧(i≤(a.length:Int))∧(0≤i)∧(i≤(a.length:Int))∧(∀ j,j < i.toNat→a.getD j default=b.getD j default)) (fun i=>((a.length:Int)-i).toNat) 0 [0,1] ?_ ?_
  · refine ⟨?_,?_,?_,?_,?_⟩
    · show 0≤(0:Int)
      first | omega | rfl | (simp;done) | (subst_vars;simp;done)
    · show (0:Int)≤(a.length:Int)
      first | omega | rfl | (simp;done) | (subst_vars;simp;done)
    · show 0≤(0:Int);omega
    · show (0:Int)≤(a.length:Int);omega
    show ∀ j,j < (0:Int).toNat→a.getD j default=b.getD j default;intro j hj;simp at hj
  rintro i hF1 kw5 Z1 hZ1;have hF1:(0≤i)∧(i≤(a.length:Int))∧(0≤i)∧(i≤(a.length:Int))∧(∀ j,j < i.toNat→a.getD j default=b.getD j default):=hF1;obtain ⟨hf1,hf2,hf3,hf4,hf5⟩:=hF1;clear kw5;refine V.gf [.u 2,.ln (kF 0 a as_),.u 1] fun _ _ G5=>?_;intro S s;refine V.cn (b:=decide (i < (a.length:Int))) iDT iDF (fun q3=>?_) (fun q4=>?_)
  · refine nm (a.getD i.toNat default:Int) fun v1 hv1=>?_;refine nm (b.getD i.toNat default:Int) fun v2 hv2=>?_;refine V.gf [.u 2,.iX (kF 0 a as_) i,.lE (kF 0 a as_) i false v1 hv1 false,.u 2,.iX (kF 1 b bs) i,.lE (kF 1 b bs) i false v2 hv2 false,.u 1] fun _ _ G6=>?_;intro S s
    refine V.cn (b:=!(decide (v1=v2))) (iNT iDF) (iNF iDT) (fun q5=>?_) (fun q6=>?_)
    · refine V.g [.kb false] fun _ _ G7=>?_;intro S s
      have e0:false=(decide (a=b)):=(decide_eq_false fun h=>q5 (by rw [hv1,hv2,h])).symm;exact V.rT [0] [] [] [] [] [] (cong1 (fun (xz0:Bool)=>(bv xz0:Value)) e0)
    refine V.gf [.u 1,.aa (i+1),.u 1] fun _ _ G8=>?_;intro S s
    refine V.rn hZ1 (i+1) [0,1] ?_ ?_
    · refine ⟨?_,?_,?_,?_,?_⟩
      · show 0≤(i+1);omega
      · show (i+1)≤(a.length:Int);omega
      · show 0≤(i+1);omega
      · show (i+1)≤(a.length:Int);omega
      show ∀ j,j < (i+1).toNat→a.getD j default=b.getD j default;intro j hj;by_cases e:j < i.toNat
      · exact hf5 j e
      rw [show j=i.toNat by omega,← hv1,← hv2];exact (by have hqq:=q6;first | exact hqq | exact Decidable.not_not.1 hqq)
    show ((a.length:Int)-(i+1)).toNat < ((a.length:Int)-i).toNat;omega
  refine V.g [.kb true] fun _ _ G9=>?_;intro S s
  have e0:true=(decide (a=b)):=(decide_eq_true (Bg.eq_of_getD (by omega) fun j hj=>hf5 j (by omega))).symm;exact V.rT [0] [] [] [] [] [] (cong1 (fun (xz0:Bool)=>(bv xz0:Value)) e0)
set_option maxRecDepth 10000 in
theorem lof_ct (p q:Int) (hp: -9223372036854775808≤p∧p≤9223372036854775807) (hq: -9223372036854775808≤q∧q≤9223372036854775807) :
    Ct Tryz.prog 12 #[iv p,iv q] [] [] (fun g=>ag (DFrac.mk ⟨(Fr.rS (q≠0) (Rat.divInt p q)),Fr.rD (q≠0) (Rat.divInt p q),(g.ss 0)⟩ ⟨(Fr.rT (q≠0)),Fr.rE (q≠0) (Rat.divInt p q),(g.ss 1)⟩)) (fun g=>[fs true (Fr.rD (q≠0) (Rat.divInt p q)) (g.ss 0),fs true (Fr.rE (q≠0) (Rat.divInt p q)) (g.ss 1)]) (fun g=>[]) (fun g=>[]):=by
  refine V.fo mo Tryz.func12 14 2 fun w H ε k0=>?_;clear k0
  refine V.gf [.n 0] fun _ _ G1=>?_;intro S_ s_
  refine nm (Fr.rS (q≠0) (Rat.divInt p q):Int) fun n1 hn1=>?_;refine nm (Fr.rD (q≠0) (Rat.divInt p q):List Int) fun l1 hl1=>?_;refine nm (Fr.rT (q≠0):Int) fun n2 hn2=>?_;refine nm (Fr.rE (q≠0) (Rat.divInt p q):List Int) fun l2 hl2=>?_;refine nm (if q=0 then (15:Int) else 0:Int) fun n3 hn3=>?_;refine V.gf [.u 2,.cA 2 34 [] fun G=>fof_ctv p q (by omega) (by omega) n1 hn1 l1 hl1 n2 hn2 l2 hl2 n3 hn3,.u 3,.n 1,.s 1,.u 1] fun _ _ G2=>?_;intro S_ s_
  refine V.gf [.l 1,.s 0] fun _ _ G3=>?_;intro S_ s_
  have e1:l1=Fr.rD (q≠0) (Rat.divInt p q):=by rw [hl1]
  subst e1;have e3:l2=Fr.rE (q≠0) (Rat.divInt p q):=by rw [hl2]
  subst e3;have e0:n1=Fr.rS (q≠0) (Rat.divInt p q):=by rw [hn1]
  have e2:n2=Fr.rT (q≠0):=by rw [hn2]
  exact V.rT [0] [(G2 2).ss 0,(G2 2).ss 1] [] [] [0,1] [] (cong2 (fun (xz0 xz2:Int)=>(.agg #[iv xz0,((G2 2).ss 0).v,iv xz2,((G2 2).ss 1).v]:Value)) e0 e2)
theorem lof_ctv (p q:Int) (hp: -9223372036854775808≤p∧p≤9223372036854775807) (hq: -9223372036854775808≤q∧q≤9223372036854775807) (rv0:Int) (erv0:rv0=Fr.rS (q≠0) (Rat.divInt p q)) (rv1:List Int) (erv1:rv1=Fr.rD (q≠0) (Rat.divInt p q)) (rv2:Int) (erv2:rv2=Fr.rT (q≠0)) (rv3:List Int) (erv3:rv3=Fr.rE (q≠0) (Rat.divInt p q)) :
    Ct Tryz.prog 12 #[iv p,iv q] [] [] (fun g=>ag (DFrac.mk ⟨rv0,rv1,(g.ss 0)⟩ ⟨rv2,rv3,(g.ss 1)⟩)) (fun g=>[fs true rv1 (g.ss 0),fs true rv3 (g.ss 1)]) (fun g=>[]) (fun g=>[]):=by
  subst erv0 erv1 erv2 erv3;exact lof_ct p q hp hq
theorem same30t_ct (a:List DFrac) (as_:SV) (b:List DFrac) (bs:SV) (hT:a.map Fr.sh4=b.map Fr.sh4) :
    Cp Tryz.prog 14 #[as_.v,bs.v] [fs true a as_,fs true b bs] (bv (true)):=by
  have h:=same30_ct  a as_ b bs ; rw [decide_eq_true hT] at h;exact h
theorem sameintst_ct (a:List Int) (as_:SV) (b:List Int) (bs:SV) (hT:a=b) :
    Cp Tryz.prog 15 #[as_.v,bs.v] [fs true a as_,fs true b bs] (bv (true)):=by
  have h:=sameints_ct  a as_ b bs ; rw [decide_eq_true hT] at h;exact h

open Go Go.Proofs
set_option maxRecDepth 10000 in
theorem sane30_ct :
    Cp Tryz.prog 4 #[] [] (bv true):=by
  refine V.fo mo Tryz.func4 117 0 fun w H ε k0=>?_;clear k0
  refine V.g [.kb false] fun _ _ G1=>?_;intro S s
  refine nm (Fr.rS ((1:Int)≠0) (Rat.divInt (1:Int) (1:Int)):Int) fun n1 hn1=>?_;refine nm (Fr.rD ((1:Int)≠0) (Rat.divInt (1:Int) (1:Int)):List Int) fun l1 hl1=>?_;refine nm (Fr.rT ((1:Int)≠0):Int) fun n2 hn2=>?_;refine nm (Fr.rE ((1:Int)≠0) (Rat.divInt (1:Int) (1:Int)):List Int) fun l2 hl2=>?_;refine nm (Fr.rS ((1:Int)≠0) (Rat.divInt (2:Int) (1:Int)):Int) fun n3 hn3=>?_;refine nm (Fr.rD ((1:Int)≠0) (Rat.divInt (2:Int) (1:Int)):List Int) fun l3 hl3=>?_;refine nm (Fr.rE ((1:Int)≠0) (Rat.divInt (2:Int) (1:Int)):List Int) fun l4 hl4=>?_;refine nm (Fr.rS ((1:Int)≠0) (Rat.divInt (0:Int) (1:Int)):Int) fun n4 hn4=>?_;refine nm (Fr.rD ((1:Int)≠0) (Rat.divInt (0:Int) (1:Int)):List Int) fun l5 hl5=>?_;refine nm (Fr.rE ((1:Int)≠0) (Rat.divInt (0:Int) (1:Int)):List Int) fun l6 hl6=>?_;refine nm (Fr.rS ((2:Int)≠0) (Rat.divInt (3:Int) (2:Int)):Int) fun n5 hn5=>?_;refine nm (Fr.rD ((2:Int)≠0) (Rat.divInt (3:Int) (2:Int)):List Int) fun l7 hl7=>?_;refine nm (Fr.rT ((2:Int)≠0):Int) fun n6 hn6=>?_;refine nm (Fr.rE ((2:Int)≠0) (Rat.divInt (3:Int) (2:Int)):List Int) fun l8 hl8=>?_;have z1_0:Fr.Fz n1 l1 n2 l2 (Rat.divInt (1:Int) (1:Int)):=Fr.Fz.of (by decide:(1:Int)≠0) hn1 hl1 hn2 hl2
  have z1_1:Fr.Fz n3 l3 n2 l4 (Rat.divInt (2:Int) (1:Int)):=Fr.Fz.of (by decide:(1:Int)≠0) hn3 hl3 hn2 hl4;have z1_2:Fr.Fz n4 l5 n2 l6 (Rat.divInt (0:Int) (1:Int)):=Fr.Fz.of (by decide:(1:Int)≠0) hn4 hl5 hn2 hl6;have z1_3:Fr.Fz n5 l7 n6 l8 (Rat.divInt (3:Int) (2:Int)):=Fr.Fz.of (by decide:(2:Int)≠0) hn5 hl7 hn6 hl8;refine V.gf [.cA 0 12 [] fun G=>lof_ctv (1:Int) (1:Int) (by omega) (by omega) n1 hn1 l1 hl1 n2 hn2 l2 hl2,.cA 1 12 [] fun G=>lof_ctv (2:Int) (1:Int) (by omega) (by omega) n3 hn3 l3 hl3 n2 hn2 l4 hl4,.cA 2 12 [] fun G=>lof_ctv (0:Int) (1:Int) (by omega) (by omega) n4 hn4 l5 hl5 n2 hn2 l6 hl6,.cA 3 12 [] fun G=>lof_ctv (3:Int) (2:Int) (by omega) (by omega) n5 hn5 l7 hl7 n6 hn6 l8 hl8,.nrG 4 true 52 (fun G=>([DFrac.mk ⟨n1,l1,(G 0).ss 0⟩ ⟨n2,l2,(G 0).ss 1⟩,DFrac.mk ⟨n3,l3,(G 1).ss 0⟩ ⟨n2,l4,(G 1).ss 1⟩,DFrac.mk ⟨n4,l5,(G 2).ss 0⟩ ⟨n2,l6,(G 2).ss 1⟩,DFrac.mk ⟨n5,l7,(G 3).ss 0⟩ ⟨n6,l8,(G 3).ss 1⟩]:List DFrac)) 4 (fun _=>rfl) [(kf true (.g 0 0) l1 (fun G=>(G 0).ss 0)).a,(kf true (.g 0 1) l2 (fun G=>(G 0).ss 1)).a,(kf true (.g 1 0) l3 (fun G=>(G 1).ss 0)).a,(kf true (.g 1 1) l4 (fun G=>(G 1).ss 1)).a,(kf true (.g 2 0) l5 (fun G=>(G 2).ss 0)).a,(kf true (.g 2 1) l6 (fun G=>(G 2).ss 1)).a,(kf true (.g 3 0) l7 (fun G=>(G 3).ss 0)).a,(kf true (.g 3 1) l8 (fun G=>(G 3).ss 1)).a] (fun _ _ h=>(List.forall_mem_cons.2 ⟨(And.intro h.1 h.2.1),(List.forall_mem_cons.2 ⟨(And.intro h.2.2.1 h.2.2.2.1),(List.forall_mem_cons.2 ⟨(And.intro h.2.2.2.2.1 h.2.2.2.2.2.1),(List.forall_mem_cons.2 ⟨(And.intro h.2.2.2.2.2.2.1 h.2.2.2.2.2.2.2.1),(List.forall_mem_nil _)⟩)⟩)⟩)⟩)) (fun G=>#[iv n1,((G 0).ss 0).v,iv n2,((G 0).ss 1).v,iv n3,((G 1).ss 0).v,iv n2,((G 1).ss 1).v,iv n4,((G 2).ss 0).v,iv n2,((G 2).ss 1).v,iv n5,((G 3).ss 0).v,iv n6,((G 3).ss 1).v]),.cA 5 10 [(kg true (.g 4 0) (fun G=>([DFrac.mk ⟨n1,l1,(G 0).ss 0⟩ ⟨n2,l2,(G 0).ss 1⟩,DFrac.mk ⟨n3,l3,(G 1).ss 0⟩ ⟨n2,l4,(G 1).ss 1⟩,DFrac.mk ⟨n4,l5,(G 2).ss 0⟩ ⟨n2,l6,(G 2).ss 1⟩,DFrac.mk ⟨n5,l7,(G 3).ss 0⟩ ⟨n6,l8,(G 3).ss 1⟩]:List DFrac)) (fun G=>⟨atB (G 4).b,4,4⟩))] fun G=>shares_ctv ([DFrac.mk ⟨n1,l1,(G 0).ss 0⟩ ⟨n2,l2,(G 0).ss 1⟩,DFrac.mk ⟨n3,l3,(G 1).ss 0⟩ ⟨n2,l4,(G 1).ss 1⟩,DFrac.mk ⟨n4,l5,(G 2).ss 0⟩ ⟨n2,l6,(G 2).ss 1⟩,DFrac.mk ⟨n5,l7,(G 3).ss 0⟩ ⟨n6,l8,(G 3).ss 1⟩]:List DFrac) ⟨atB (G 4).b,4,4⟩ (Fr.Frs.wb (Fr.Frs.cons z1_0.rt z1_0.v (Fr.Frs.cons z1_1.rt z1_1.v (Fr.Frs.cons z1_2.rt z1_2.v (Fr.Frs.cons z1_3.rt z1_3.v Fr.Frs.nil)))) (by decide) (by decide +kernel)) (Fr.shE ([DFrac.mk ⟨n1,l1,(G 0).ss 0⟩ ⟨n2,l2,(G 0).ss 1⟩,DFrac.mk ⟨n3,l3,(G 1).ss 0⟩ ⟨n2,l4,(G 1).ss 1⟩,DFrac.mk ⟨n4,l5,(G 2).ss 0⟩ ⟨n2,l6,(G 2).ss 1⟩,DFrac.mk ⟨n5,l7,(G 3).ss 0⟩ ⟨n6,l8,(G 3).ss 1⟩]:List DFrac)) rfl,.u 5] fun _ _ G2=>?_;intro S s
  have hF1:Fr.Frs ([DFrac.mk ⟨n1,l1,(G2 0).ss 0⟩ ⟨n2,l2,(G2 0).ss 1⟩,DFrac.mk ⟨n3,l3,(G2 1).ss 0⟩ ⟨n2,l4,(G2 1).ss 1⟩,DFrac.mk ⟨n4,l5,(G2 2).ss 0⟩ ⟨n2,l6,(G2 2).ss 1⟩,DFrac.mk ⟨n5,l7,(G2 3).ss 0⟩ ⟨n6,l8,(G2 3).ss 1⟩]:List DFrac) ([Rat.divInt (1:Int) (1:Int),Rat.divInt (2:Int) (1:Int),Rat.divInt (0:Int) (1:Int),Rat.divInt (3:Int) (2:Int)]:List Rat):=(Fr.Frs.cons z1_0.rt z1_0.v (Fr.Frs.cons z1_1.rt z1_1.v (Fr.Frs.cons z1_2.rt z1_2.v (Fr.Frs.cons z1_3.rt z1_3.v Fr.Frs.nil))));have hE1:Fr.shE ([DFrac.mk ⟨n1,l1,(G2 0).ss 0⟩ ⟨n2,l2,(G2 0).ss 1⟩,DFrac.mk ⟨n3,l3,(G2 1).ss 0⟩ ⟨n2,l4,(G2 1).ss 1⟩,DFrac.mk ⟨n4,l5,(G2 2).ss 0⟩ ⟨n2,l6,(G2 2).ss 1⟩,DFrac.mk ⟨n5,l7,(G2 3).ss 0⟩ ⟨n6,l8,(G2 3).ss 1⟩]:List DFrac)=0:=(Fr.shE_q hF1).trans (by decide +kernel);have z2_0:Fr.Fz n4 l5 n2 l6 (Rat.divInt (0:Int) (1:Int)):=Fr.Fz.of (by decide:(1:Int)≠0) hn4 hl5 hn2 hl6;have z2_1:Fr.Fz n4 l5 n2 l6 (Rat.divInt (0:Int) (1:Int)):=Fr.Fz.of (by decide:(1:Int)≠0) hn4 hl5 hn2 hl6;refine V.gf [.cA 0 12 [] fun G=>lof_ctv (0:Int) (1:Int) (by omega) (by omega) n4 hn4 l5 hl5 n2 hn2 l6 hl6,.cA 1 12 [] fun G=>lof_ctv (0:Int) (1:Int) (by omega) (by omega) n4 hn4 l5 hl5 n2 hn2 l6 hl6,.nrG 2 true 52 (fun G=>([DFrac.mk ⟨n4,l5,(G 0).ss 0⟩ ⟨n2,l6,(G 0).ss 1⟩,DFrac.mk ⟨n4,l5,(G 1).ss 0⟩ ⟨n2,l6,(G 1).ss 1⟩]:List DFrac)) 2 (fun _=>rfl) [(kf true (.g 0 0) l5 (fun G=>(G 0).ss 0)).a,(kf true (.g 0 1) l6 (fun G=>(G 0).ss 1)).a,(kf true (.g 1 0) l5 (fun G=>(G 1).ss 0)).a,(kf true (.g 1 1) l6 (fun G=>(G 1).ss 1)).a] (fun _ _ h=>(List.forall_mem_cons.2 ⟨(And.intro h.1 h.2.1),(List.forall_mem_cons.2 ⟨(And.intro h.2.2.1 h.2.2.2.1),(List.forall_mem_nil _)⟩)⟩)) (fun G=>#[iv n4,((G 0).ss 0).v,iv n2,((G 0).ss 1).v,iv n4,((G 1).ss 0).v,iv n2,((G 1).ss 1).v]),.cA 3 10 [(kg true (.g 2 0) (fun G=>([DFrac.mk ⟨n4,l5,(G 0).ss 0⟩ ⟨n2,l6,(G 0).ss 1⟩,DFrac.mk ⟨n4,l5,(G 1).ss 0⟩ ⟨n2,l6,(G 1).ss 1⟩]:List DFrac)) (fun G=>⟨atB (G 2).b,2,2⟩))] fun G=>shares_ctv ([DFrac.mk ⟨n4,l5,(G 0).ss 0⟩ ⟨n2,l6,(G 0).ss 1⟩,DFrac.mk ⟨n4,l5,(G 1).ss 0⟩ ⟨n2,l6,(G 1).ss 1⟩]:List DFrac) ⟨atB (G 2).b,2,2⟩ (Fr.Frs.wb (Fr.Frs.cons z2_0.rt z2_0.v (Fr.Frs.cons z2_1.rt z2_1.v Fr.Frs.nil)) (by decide) (by decide +kernel)) (Fr.shE ([DFrac.mk ⟨n4,l5,(G 0).ss 0⟩ ⟨n2,l6,(G 0).ss 1⟩,DFrac.mk ⟨n4,l5,(G 1).ss 0⟩ ⟨n2,l6,(G 1).ss 1⟩]:List DFrac)) rfl,.u 5] fun _ _ G3=>?_;intro S s
  have hF2:Fr.Frs ([DFrac.mk ⟨n4,l5,(G3 0).ss 0⟩ ⟨n2,l6,(G3 0).ss 1⟩,DFrac.mk ⟨n4,l5,(G3 1).ss 0⟩ ⟨n2,l6,(G3 1).ss 1⟩]:List DFrac) ([Rat.divInt (0:Int) (1:Int),Rat.divInt (0:Int) (1:Int)]:List Rat):=(Fr.Frs.cons z2_0.rt z2_0.v (Fr.Frs.cons z2_1.rt z2_1.v Fr.Frs.nil));have hE2:Fr.shE ([DFrac.mk ⟨n4,l5,(G3 0).ss 0⟩ ⟨n2,l6,(G3 0).ss 1⟩,DFrac.mk ⟨n4,l5,(G3 1).ss 0⟩ ⟨n2,l6,(G3 1).ss 1⟩]:List DFrac)=15:=(Fr.shE_q hF2).trans (by decide +kernel);refine nm (Fr.rS ((1:Int)≠0) (Rat.divInt (-1:Int) (1:Int)):Int) fun n7 hn7=>?_;refine nm (Fr.rD ((1:Int)≠0) (Rat.divInt (-1:Int) (1:Int)):List Int) fun l9 hl9=>?_;refine nm (Fr.rE ((1:Int)≠0) (Rat.divInt (-1:Int) (1:Int)):List Int) fun l10 hl10=>?_;have z3_0:Fr.Fz n1 l1 n2 l2 (Rat.divInt (1:Int) (1:Int)):=Fr.Fz.of (by decide:(1:Int)≠0) hn1 hl1 hn2 hl2
  have z3_1:Fr.Fz n7 l9 n2 l10 (Rat.divInt (-1:Int) (1:Int)):=Fr.Fz.of (by decide:(1:Int)≠0) hn7 hl9 hn2 hl10;refine V.gf [.cA 0 12 [] fun G=>lof_ctv (1:Int) (1:Int) (by omega) (by omega) n1 hn1 l1 hl1 n2 hn2 l2 hl2,.cA 1 12 [] fun G=>lof_ctv (-1:Int) (1:Int) (by omega) (by omega) n7 hn7 l9 hl9 n2 hn2 l10 hl10,.nrG 2 true 52 (fun G=>([DFrac.mk ⟨n1,l1,(G 0).ss 0⟩ ⟨n2,l2,(G 0).ss 1⟩,DFrac.mk ⟨n7,l9,(G 1).ss 0⟩ ⟨n2,l10,(G 1).ss 1⟩]:List DFrac)) 2 (fun _=>rfl) [(kf true (.g 0 0) l1 (fun G=>(G 0).ss 0)).a,(kf true (.g 0 1) l2 (fun G=>(G 0).ss 1)).a,(kf true (.g 1 0) l9 (fun G=>(G 1).ss 0)).a,(kf true (.g 1 1) l10 (fun G=>(G 1).ss 1)).a] (fun _ _ h=>(List.forall_mem_cons.2 ⟨(And.intro h.1 h.2.1),(List.forall_mem_cons.2 ⟨(And.intro h.2.2.1 h.2.2.2.1),(List.forall_mem_nil _)⟩)⟩)) (fun G=>#[iv n1,((G 0).ss 0).v,iv n2,((G 0).ss 1).v,iv n7,((G 1).ss 0).v,iv n2,((G 1).ss 1).v]),.cA 3 10 [(kg true (.g 2 0) (fun G=>([DFrac.mk ⟨n1,l1,(G 0).ss 0⟩ ⟨n2,l2,(G 0).ss 1⟩,DFrac.mk ⟨n7,l9,(G 1).ss 0⟩ ⟨n2,l10,(G 1).ss 1⟩]:List DFrac)) (fun G=>⟨atB (G 2).b,2,2⟩))] fun G=>shares_ctv ([DFrac.mk ⟨n1,l1,(G 0).ss 0⟩ ⟨n2,l2,(G 0).ss 1⟩,DFrac.mk ⟨n7,l9,(G 1).ss 0⟩ ⟨n2,l10,(G 1).ss 1⟩]:List DFrac) ⟨atB (G 2).b,2,2⟩ (Fr.Frs.wb (Fr.Frs.cons z3_0.rt z3_0.v (Fr.Frs.cons z3_1.rt z3_1.v Fr.Frs.nil)) (by decide) (by decide +kernel)) (Fr.shE ([DFrac.mk ⟨n1,l1,(G 0).ss 0⟩ ⟨n2,l2,(G 0).ss 1⟩,DFrac.mk ⟨n7,l9,(G 1).ss 0⟩ ⟨n2,l10,(G 1).ss 1⟩]:List DFrac)) rfl,.u 5] fun _ _ G4=>?_;intro S s
  have hF3:Fr.Frs ([DFrac.mk ⟨n1,l1,(G4 0).ss 0⟩ ⟨n2,l2,(G4 0).ss 1⟩,DFrac.mk ⟨n7,l9,(G4 1).ss 0⟩ ⟨n2,l10,(G4 1).ss 1⟩]:List DFrac) ([Rat.divInt (1:Int) (1:Int),Rat.divInt (-1:Int) (1:Int)]:List Rat):=(Fr.Frs.cons z3_0.rt z3_0.v (Fr.Frs.cons z3_1.rt z3_1.v Fr.Frs.nil));have hE3:Fr.shE ([DFrac.mk ⟨n1,l1,(G4 0).ss 0⟩ ⟨n2,l2,(G4 0).ss 1⟩,DFrac.mk ⟨n7,l9,(G4 1).ss 0⟩ ⟨n2,l10,(G4 1).ss 1⟩]:List DFrac)=3:=(Fr.shE_q hF3).trans (by decide +kernel);refine nm (Fr.rS ((3:Int)≠0) (Rat.divInt (1:Int) (3:Int)):Int) fun n8 hn8=>?_;refine nm (Fr.rD ((3:Int)≠0) (Rat.divInt (1:Int) (3:Int)):List Int) fun l11 hl11=>?_;refine nm (Fr.rT ((3:Int)≠0):Int) fun n9 hn9=>?_;refine nm (Fr.rE ((3:Int)≠0) (Rat.divInt (1:Int) (3:Int)):List Int) fun l12 hl12=>?_;have z4_0:Fr.Fz n8 l11 n9 l12 (Rat.divInt (1:Int) (3:Int)):=Fr.Fz.of (by decide:(3:Int)≠0) hn8 hl11 hn9 hl12
  have z4_1:Fr.Fz n8 l11 n9 l12 (Rat.divInt (1:Int) (3:Int)):=Fr.Fz.of (by decide:(3:Int)≠0) hn8 hl11 hn9 hl12;have z4_2:Fr.Fz n8 l11 n9 l12 (Rat.divInt (1:Int) (3:Int)):=Fr.Fz.of (by decide:(3:Int)≠0) hn8 hl11 hn9 hl12;refine V.gf [.cA 0 12 [] fun G=>lof_ctv (1:Int) (3:Int) (by omega) (by omega) n8 hn8 l11 hl11 n9 hn9 l12 hl12,.cA 1 12 [] fun G=>lof_ctv (1:Int) (3:Int) (by omega) (by omega) n8 hn8 l11 hl11 n9 hn9 l12 hl12,.cA 2 12 [] fun G=>lof_ctv (1:Int) (3:Int) (by omega) (by omega) n8 hn8 l11 hl11 n9 hn9 l12 hl12,.nrG 3 true 52 (fun G=>([DFrac.mk ⟨n8,l11,(G 0).ss 0⟩ ⟨n9,l12,(G 0).ss 1⟩,DFrac.mk ⟨n8,l11,(G 1).ss 0⟩ ⟨n9,l12,(G 1).ss 1⟩,DFrac.mk ⟨n8,l11,(G 2).ss 0⟩ ⟨n9,l12,(G 2).ss 1⟩]:List DFrac)) 3 (fun _=>rfl) [(kf true (.g 0 0) l11 (fun G=>(G 0).ss 0)).a,(kf true (.g 0 1) l12 (fun G=>(G 0).ss 1)).a,(kf true (.g 1 0) l11 (fun G=>(G 1).ss 0)).a,(kf true (.g 1 1) l12 (fun G=>(G 1).ss 1)).a,(kf true (.g 2 0) l11 (fun G=>(G 2).ss 0)).a,(kf true (.g 2 1) l12 (fun G=>(G 2).ss 1)).a] (fun _ _ h=>(List.forall_mem_cons.2 ⟨(And.intro h.1 h.2.1),(List.forall_mem_cons.2 ⟨(And.intro h.2.2.1 h.2.2.2.1),(List.forall_mem_cons.2 ⟨(And.intro h.2.2.2.2.1 h.2.2.2.2.2.1),(List.forall_mem_nil _)⟩)⟩)⟩)) (fun G=>#[iv n8,((G 0).ss 0).v,iv n9,((G 0).ss 1).v,iv n8,((G 1).ss 0).v,iv n9,((G 1).ss 1).v,iv n8,((G 2).ss 0).v,iv n9,((G 2).ss 1).v]),.cA 4 13 [(kg true (.g 3 0) (fun G=>([DFrac.mk ⟨n8,l11,(G 0).ss 0⟩ ⟨n9,l12,(G 0).ss 1⟩,DFrac.mk ⟨n8,l11,(G 1).ss 0⟩ ⟨n9,l12,(G 1).ss 1⟩,DFrac.mk ⟨n8,l11,(G 2).ss 0⟩ ⟨n9,l12,(G 2).ss 1⟩]:List DFrac)) (fun G=>⟨atB (G 3).b,3,3⟩))] fun G=>round_ctv (10:Int) ([DFrac.mk ⟨n8,l11,(G 0).ss 0⟩ ⟨n9,l12,(G 0).ss 1⟩,DFrac.mk ⟨n8,l11,(G 1).ss 0⟩ ⟨n9,l12,(G 1).ss 1⟩,DFrac.mk ⟨n8,l11,(G 2).ss 0⟩ ⟨n9,l12,(G 2).ss 1⟩]:List DFrac) ⟨atB (G 3).b,3,3⟩ (Fr.Frs.wb (Fr.Frs.cons z4_0.rt z4_0.v (Fr.Frs.cons z4_1.rt z4_1.v (Fr.Frs.cons z4_2.rt z4_2.v Fr.Frs.nil))) (by decide) (by decide +kernel)) (by simp) (Fr.rndL (10:Int) ([DFrac.mk ⟨n8,l11,(G 0).ss 0⟩ ⟨n9,l12,(G 0).ss 1⟩,DFrac.mk ⟨n8,l11,(G 1).ss 0⟩ ⟨n9,l12,(G 1).ss 1⟩,DFrac.mk ⟨n8,l11,(G 2).ss 0⟩ ⟨n9,l12,(G 2).ss 1⟩]:List DFrac)) rfl (if Fr.rndOk (10:Int) ([DFrac.mk ⟨n8,l11,(G 0).ss 0⟩ ⟨n9,l12,(G 0).ss 1⟩,DFrac.mk ⟨n8,l11,(G 1).ss 0⟩ ⟨n9,l12,(G 1).ss 1⟩,DFrac.mk ⟨n8,l11,(G 2).ss 0⟩ ⟨n9,l12,(G 2).ss 1⟩]:List DFrac) then (0:Int) else 1) rfl,.u 5] fun _ _ G5=>?_;intro S s
  have hF4:Fr.Frs ([DFrac.mk ⟨n8,l11,(G5 0).ss 0⟩ ⟨n9,l12,(G5 0).ss 1⟩,DFrac.mk ⟨n8,l11,(G5 1).ss 0⟩ ⟨n9,l12,(G5 1).ss 1⟩,DFrac.mk ⟨n8,l11,(G5 2).ss 0⟩ ⟨n9,l12,(G5 2).ss 1⟩]:List DFrac) ([Rat.divInt (1:Int) (3:Int),Rat.divInt (1:Int) (3:Int),Rat.divInt (1:Int) (3:Int)]:List Rat):=(Fr.Frs.cons z4_0.rt z4_0.v (Fr.Frs.cons z4_1.rt z4_1.v (Fr.Frs.cons z4_2.rt z4_2.v Fr.Frs.nil)));have hR4:Fr.rndL 10 ([DFrac.mk ⟨n8,l11,(G5 0).ss 0⟩ ⟨n9,l12,(G5 0).ss 1⟩,DFrac.mk ⟨n8,l11,(G5 1).ss 0⟩ ⟨n9,l12,(G5 1).ss 1⟩,DFrac.mk ⟨n8,l11,(G5 2).ss 0⟩ ⟨n9,l12,(G5 2).ss 1⟩]:List DFrac)=[4,3,3]:=(Fr.rndL_q hF4).trans (by decide +kernel);have hO4:Fr.rndOk 10 ([DFrac.mk ⟨n8,l11,(G5 0).ss 0⟩ ⟨n9,l12,(G5 0).ss 1⟩,DFrac.mk ⟨n8,l11,(G5 1).ss 0⟩ ⟨n9,l12,(G5 1).ss 1⟩,DFrac.mk ⟨n8,l11,(G5 2).ss 0⟩ ⟨n9,l12,(G5 2).ss 1⟩]:List DFrac):=(Fr.rndOk_q hF4).2 (by decide +kernel);refine nm (Fr.rS ((2:Int)≠0) (Rat.divInt (1:Int) (2:Int)):Int) fun n10 hn10=>?_;refine nm (Fr.rD ((2:Int)≠0) (Rat.divInt (1:Int) (2:Int)):List Int) fun l13 hl13=>?_;refine nm (Fr.rE ((2:Int)≠0) (Rat.divInt (1:Int) (2:Int)):List Int) fun l14 hl14=>?_;refine nm (Fr.rS ((4:Int)≠0) (Rat.divInt (1:Int) (4:Int)):Int) fun n11 hn11=>?_;refine nm (Fr.rD ((4:Int)≠0) (Rat.divInt (1:Int) (4:Int)):List Int) fun l15 hl15=>?_;refine nm (Fr.rT ((4:Int)≠0):Int) fun n12 hn12=>?_;refine nm (Fr.rE ((4:Int)≠0) (Rat.divInt (1:Int) (4:Int)):List Int) fun l16 hl16=>?_;have z5_0:Fr.Fz n10 l13 n6 l14 (Rat.divInt (1:Int) (2:Int)):=Fr.Fz.of (by decide:(2:Int)≠0) hn10 hl13 hn6 hl14
  have z5_1:Fr.Fz n11 l15 n12 l16 (Rat.divInt (1:Int) (4:Int)):=Fr.Fz.of (by decide:(4:Int)≠0) hn11 hl15 hn12 hl16;have z5_2:Fr.Fz n11 l15 n12 l16 (Rat.divInt (1:Int) (4:Int)):=Fr.Fz.of (by decide:(4:Int)≠0) hn11 hl15 hn12 hl16;refine V.gf [.cA 0 12 [] fun G=>lof_ctv (1:Int) (2:Int) (by omega) (by omega) n10 hn10 l13 hl13 n6 hn6 l14 hl14,.cA 1 12 [] fun G=>lof_ctv (1:Int) (4:Int) (by omega) (by omega) n11 hn11 l15 hl15 n12 hn12 l16 hl16,.cA 2 12 [] fun G=>lof_ctv (1:Int) (4:Int) (by omega) (by omega) n11 hn11 l15 hl15 n12 hn12 l16 hl16,.nrG 3 true 52 (fun G=>([DFrac.mk ⟨n10,l13,(G 0).ss 0⟩ ⟨n6,l14,(G 0).ss 1⟩,DFrac.mk ⟨n11,l15,(G 1).ss 0⟩ ⟨n12,l16,(G 1).ss 1⟩,DFrac.mk ⟨n11,l15,(G 2).ss 0⟩ ⟨n12,l16,(G 2).ss 1⟩]:List DFrac)) 3 (fun _=>rfl) [(kf true (.g 0 0) l13 (fun G=>(G 0).ss 0)).a,(kf true (.g 0 1) l14 (fun G=>(G 0).ss 1)).a,(kf true (.g 1 0) l15 (fun G=>(G 1).ss 0)).a,(kf true (.g 1 1) l16 (fun G=>(G 1).ss 1)).a,(kf true (.g 2 0) l15 (fun G=>(G 2).ss 0)).a,(kf true (.g 2 1) l16 (fun G=>(G 2).ss 1)).a] (fun _ _ h=>(List.forall_mem_cons.2 ⟨(And.intro h.1 h.2.1),(List.forall_mem_cons.2 ⟨(And.intro h.2.2.1 h.2.2.2.1),(List.forall_mem_cons.2 ⟨(And.intro h.2.2.2.2.1 h.2.2.2.2.2.1),(List.forall_mem_nil _)⟩)⟩)⟩)) (fun G=>#[iv n10,((G 0).ss 0).v,iv n6,((G 0).ss 1).v,iv n11,((G 1).ss 0).v,iv n12,((G 1).ss 1).v,iv n11,((G 2).ss 0).v,iv n12,((G 2).ss 1).v]),.cA 4 13 [(kg true (.g 3 0) (fun G=>([DFrac.mk ⟨n10,l13,(G 0).ss 0⟩ ⟨n6,l14,(G 0).ss 1⟩,DFrac.mk ⟨n11,l15,(G 1).ss 0⟩ ⟨n12,l16,(G 1).ss 1⟩,DFrac.mk ⟨n11,l15,(G 2).ss 0⟩ ⟨n12,l16,(G 2).ss 1⟩]:List DFrac)) (fun G=>⟨atB (G 3).b,3,3⟩))] fun G=>round_ctv (7:Int) ([DFrac.mk ⟨n10,l13,(G 0).ss 0⟩ ⟨n6,l14,(G 0).ss 1⟩,DFrac.mk ⟨n11,l15,(G 1).ss 0⟩ ⟨n12,l16,(G 1).ss 1⟩,DFrac.mk ⟨n11,l15,(G 2).ss 0⟩ ⟨n12,l16,(G 2).ss 1⟩]:List DFrac) ⟨atB (G 3).b,3,3⟩ (Fr.Frs.wb (Fr.Frs.cons z5_0.rt z5_0.v (Fr.Frs.cons z5_1.rt z5_1.v (Fr.Frs.cons z5_2.rt z5_2.v Fr.Frs.nil))) (by decide) (by decide +kernel)) (by simp) (Fr.rndL (7:Int) ([DFrac.mk ⟨n10,l13,(G 0).ss 0⟩ ⟨n6,l14,(G 0).ss 1⟩,DFrac.mk ⟨n11,l15,(G 1).ss 0⟩ ⟨n12,l16,(G 1).ss 1⟩,DFrac.mk ⟨n11,l15,(G 2).ss 0⟩ ⟨n12,l16,(G 2).ss 1⟩]:List DFrac)) rfl (if Fr.rndOk (7:Int) ([DFrac.mk ⟨n10,l13,(G 0).ss 0⟩ ⟨n6,l14,(G 0).ss 1⟩,DFrac.mk ⟨n11,l15,(G 1).ss 0⟩ ⟨n12,l16,(G 1).ss 1⟩,DFrac.mk ⟨n11,l15,(G 2).ss 0⟩ ⟨n12,l16,(G 2).ss 1⟩]:List DFrac) then (0:Int) else 1) rfl,.u 5] fun _ _ G6=>?_;intro S s
  have hF5:Fr.Frs ([DFrac.mk ⟨n10,l13,(G6 0).ss 0⟩ ⟨n6,l14,(G6 0).ss 1⟩,DFrac.mk ⟨n11,l15,(G6 1).ss 0⟩ ⟨n12,l16,(G6 1).ss 1⟩,DFrac.mk ⟨n11,l15,(G6 2).ss 0⟩ ⟨n12,l16,(G6 2).ss 1⟩]:List DFrac) ([Rat.divInt (1:Int) (2:Int),Rat.divInt (1:Int) (4:Int),Rat.divInt (1:Int) (4:Int)]:List Rat):=(Fr.Frs.cons z5_0.rt z5_0.v (Fr.Frs.cons z5_1.rt z5_1.v (Fr.Frs.cons z5_2.rt z5_2.v Fr.Frs.nil)));have hR5:Fr.rndL 7 ([DFrac.mk ⟨n10,l13,(G6 0).ss 0⟩ ⟨n6,l14,(G6 0).ss 1⟩,DFrac.mk ⟨n11,l15,(G6 1).ss 0⟩ ⟨n12,l16,(G6 1).ss 1⟩,DFrac.mk ⟨n11,l15,(G6 2).ss 0⟩ ⟨n12,l16,(G6 2).ss 1⟩]:List DFrac)=[3,2,2]:=(Fr.rndL_q hF5).trans (by decide +kernel);have hO5:Fr.rndOk 7 ([DFrac.mk ⟨n10,l13,(G6 0).ss 0⟩ ⟨n6,l14,(G6 0).ss 1⟩,DFrac.mk ⟨n11,l15,(G6 1).ss 0⟩ ⟨n12,l16,(G6 1).ss 1⟩,DFrac.mk ⟨n11,l15,(G6 2).ss 0⟩ ⟨n12,l16,(G6 2).ss 1⟩]:List DFrac):=(Fr.rndOk_q hF5).2 (by decide +kernel);have z6_0:Fr.Fz n1 l1 n2 l2 (Rat.divInt (1:Int) (1:Int)):=Fr.Fz.of (by decide:(1:Int)≠0) hn1 hl1 hn2 hl2;refine V.gf [.cA 0 12 [] fun G=>lof_ctv (1:Int) (1:Int) (by omega) (by omega) n1 hn1 l1 hl1 n2 hn2 l2 hl2,.nrG 1 true 52 (fun G=>([DFrac.mk ⟨n1,l1,(G 0).ss 0⟩ ⟨n2,l2,(G 0).ss 1⟩]:List DFrac)) 1 (fun _=>rfl) [(kf true (.g 0 0) l1 (fun G=>(G 0).ss 0)).a,(kf true (.g 0 1) l2 (fun G=>(G 0).ss 1)).a] (fun _ _ h=>(List.forall_mem_cons.2 ⟨(And.intro h.1 h.2.1),(List.forall_mem_nil _)⟩)) (fun G=>#[iv n1,((G 0).ss 0).v,iv n2,((G 0).ss 1).v]),.cA 2 13 [(kg true (.g 1 0) (fun G=>([DFrac.mk ⟨n1,l1,(G 0).ss 0⟩ ⟨n2,l2,(G 0).ss 1⟩]:List DFrac)) (fun G=>⟨atB (G 1).b,1,1⟩))] fun G=>round_ctv (0:Int) ([DFrac.mk ⟨n1,l1,(G 0).ss 0⟩ ⟨n2,l2,(G 0).ss 1⟩]:List DFrac) ⟨atB (G 1).b,1,1⟩ (Fr.Frs.wb (Fr.Frs.cons z6_0.rt z6_0.v Fr.Frs.nil) (by decide) (by decide +kernel)) (by simp) (Fr.rndL (0:Int) ([DFrac.mk ⟨n1,l1,(G 0).ss 0⟩ ⟨n2,l2,(G 0).ss 1⟩]:List DFrac)) rfl (if Fr.rndOk (0:Int) ([DFrac.mk ⟨n1,l1,(G 0).ss 0⟩ ⟨n2,l2,(G 0).ss 1⟩]:List DFrac) then (0:Int) else 1) rfl,.u 5] fun _ _ G7=>?_;intro S s
  have hF6:Fr.Frs ([DFrac.mk ⟨n1,l1,(G7 0).ss 0⟩ ⟨n2,l2,(G7 0).ss 1⟩]:List DFrac) ([Rat.divInt (1:Int) (1:Int)]:List Rat):=(Fr.Frs.cons z6_0.rt z6_0.v Fr.Frs.nil);have hR6:Fr.rndL 0 ([DFrac.mk ⟨n1,l1,(G7 0).ss 0⟩ ⟨n2,l2,(G7 0).ss 1⟩]:List DFrac)=[0]:=(Fr.rndL_q hF6).trans (by decide +kernel);have hO6:Fr.rndOk 0 ([DFrac.mk ⟨n1,l1,(G7 0).ss 0⟩ ⟨n2,l2,(G7 0).ss 1⟩]:List DFrac):=(Fr.rndOk_q hF6).2 (by decide +kernel);have z7_0:Fr.Fz n10 l13 n6 l14 (Rat.divInt (1:Int) (2:Int)):=Fr.Fz.of (by decide:(2:Int)≠0) hn10 hl13 hn6 hl14;have z7_1:Fr.Fz n8 l11 n9 l12 (Rat.divInt (1:Int) (3:Int)):=Fr.Fz.of (by decide:(3:Int)≠0) hn8 hl11 hn9 hl12;refine V.gf [.cA 0 12 [] fun G=>lof_ctv (1:Int) (2:Int) (by omega) (by omega) n10 hn10 l13 hl13 n6 hn6 l14 hl14,.cA 1 12 [] fun G=>lof_ctv (1:Int) (3:Int) (by omega) (by omega) n8 hn8 l11 hl11 n9 hn9 l12 hl12,.nrG 2 true 52 (fun G=>([DFrac.mk ⟨n10,l13,(G 0).ss 0⟩ ⟨n6,l14,(G 0).ss 1⟩,DFrac.mk ⟨n8,l11,(G 1).ss 0⟩ ⟨n9,l12,(G 1).ss 1⟩]:List DFrac)) 2 (fun _=>rfl) [(kf true (.g 0 0) l13 (fun G=>(G 0).ss 0)).a,(kf true (.g 0 1) l14 (fun G=>(G 0).ss 1)).a,(kf true (.g 1 0) l11 (fun G=>(G 1).ss 0)).a,(kf true (.g 1 1) l12 (fun G=>(G 1).ss 1)).a] (fun _ _ h=>(List.forall_mem_cons.2 ⟨(And.intro h.1 h.2.1),(List.forall_mem_cons.2 ⟨(And.intro h.2.2.1 h.2.2.2.1),(List.forall_mem_nil _)⟩)⟩)) (fun G=>#[iv n10,((G 0).ss 0).v,iv n6,((G 0).ss 1).v,iv n8,((G 1).ss 0).v,iv n9,((G 1).ss 1).v]),.cA 3 13 [(kg true (.g 2 0) (fun G=>([DFrac.mk ⟨n10,l13,(G 0).ss 0⟩ ⟨n6,l14,(G 0).ss 1⟩,DFrac.mk ⟨n8,l11,(G 1).ss 0⟩ ⟨n9,l12,(G 1).ss 1⟩]:List DFrac)) (fun G=>⟨atB (G 2).b,2,2⟩))] fun G=>round_ctv (5:Int) ([DFrac.mk ⟨n10,l13,(G 0).ss 0⟩ ⟨n6,l14,(G 0).ss 1⟩,DFrac.mk ⟨n8,l11,(G 1).ss 0⟩ ⟨n9,l12,(G 1).ss 1⟩]:List DFrac) ⟨atB (G 2).b,2,2⟩ (Fr.Frs.wb (Fr.Frs.cons z7_0.rt z7_0.v (Fr.Frs.cons z7_1.rt z7_1.v Fr.Frs.nil)) (by decide) (by decide +kernel)) (by simp) (Fr.rndL (5:Int) ([DFrac.mk ⟨n10,l13,(G 0).ss 0⟩ ⟨n6,l14,(G 0).ss 1⟩,DFrac.mk ⟨n8,l11,(G 1).ss 0⟩ ⟨n9,l12,(G 1).ss 1⟩]:List DFrac)) rfl (if Fr.rndOk (5:Int) ([DFrac.mk ⟨n10,l13,(G 0).ss 0⟩ ⟨n6,l14,(G 0).ss 1⟩,DFrac.mk ⟨n8,l11,(G 1).ss 0⟩ ⟨n9,l12,(G 1).ss 1⟩]:List DFrac) then (0:Int) else 1) rfl,.u 5] fun _ _ G8=>?_;intro S s
  have hF7:Fr.Frs ([DFrac.mk ⟨n10,l13,(G8 0).ss 0⟩ ⟨n6,l14,(G8 0).ss 1⟩,DFrac.mk ⟨n8,l11,(G8 1).ss 0⟩ ⟨n9,l12,(G8 1).ss 1⟩]:List DFrac) ([Rat.divInt (1:Int) (2:Int),Rat.divInt (1:Int) (3:Int)]:List Rat):=(Fr.Frs.cons z7_0.rt z7_0.v (Fr.Frs.cons z7_1.rt z7_1.v Fr.Frs.nil));have hO7:¬ Fr.rndOk 5 ([DFrac.mk ⟨n10,l13,(G8 0).ss 0⟩ ⟨n6,l14,(G8 0).ss 1⟩,DFrac.mk ⟨n8,l11,(G8 1).ss 0⟩ ⟨n9,l12,(G8 1).ss 1⟩]:List DFrac):=fun h=>absurd ((Fr.rndOk_q hF7).1 h) (by decide +kernel)
  refine nm ((!(decide (Fr.shE ([DFrac.mk ⟨n1,l1,(G2 0).ss 0⟩ ⟨n2,l2,(G2 0).ss 1⟩,DFrac.mk ⟨n3,l3,(G2 1).ss 0⟩ ⟨n2,l4,(G2 1).ss 1⟩,DFrac.mk ⟨n4,l5,(G2 2).ss 0⟩ ⟨n2,l6,(G2 2).ss 1⟩,DFrac.mk ⟨n5,l7,(G2 3).ss 0⟩ ⟨n6,l8,(G2 3).ss 1⟩]:List DFrac)=0))) || (!(decide (Fr.shE ([DFrac.mk ⟨n4,l5,(G3 0).ss 0⟩ ⟨n2,l6,(G3 0).ss 1⟩,DFrac.mk ⟨n4,l5,(G3 1).ss 0⟩ ⟨n2,l6,(G3 1).ss 1⟩]:List DFrac)=15))):Bool) fun p1 hp1=>?_;refine nm (p1 || (!(decide (Fr.shE ([DFrac.mk ⟨n1,l1,(G4 0).ss 0⟩ ⟨n2,l2,(G4 0).ss 1⟩,DFrac.mk ⟨n7,l9,(G4 1).ss 0⟩ ⟨n2,l10,(G4 1).ss 1⟩]:List DFrac)=3))):Bool) fun p2 hp2=>?_;refine nm (p2 || (!(decide ((if Fr.rndOk (10:Int) ([DFrac.mk ⟨n8,l11,(G5 0).ss 0⟩ ⟨n9,l12,(G5 0).ss 1⟩,DFrac.mk ⟨n8,l11,(G5 1).ss 0⟩ ⟨n9,l12,(G5 1).ss 1⟩,DFrac.mk ⟨n8,l11,(G5 2).ss 0⟩ ⟨n9,l12,(G5 2).ss 1⟩]:List DFrac) then (0:Int) else 1)=0))):Bool) fun p3 hp3=>?_;refine nm (p3 || (!(decide ((if Fr.rndOk (7:Int) ([DFrac.mk ⟨n10,l13,(G6 0).ss 0⟩ ⟨n6,l14,(G6 0).ss 1⟩,DFrac.mk ⟨n11,l15,(G6 1).ss 0⟩ ⟨n12,l16,(G6 1).ss 1⟩,DFrac.mk ⟨n11,l15,(G6 2).ss 0⟩ ⟨n12,l16,(G6 2).ss 1⟩]:List DFrac) then (0:Int) else 1)=0))):Bool) fun p4 hp4=>?_;refine nm (p4 || (!(decide ((if Fr.rndOk (0:Int) ([DFrac.mk ⟨n1,l1,(G7 0).ss 0⟩ ⟨n2,l2,(G7 0).ss 1⟩]:List DFrac) then (0:Int) else 1)=0))):Bool) fun p5 hp5=>?_;refine nm (p5 || (!(decide ((if Fr.rndOk (5:Int) ([DFrac.mk ⟨n10,l13,(G8 0).ss 0⟩ ⟨n6,l14,(G8 0).ss 1⟩,DFrac.mk ⟨n8,l11,(G8 1).ss 0⟩ ⟨n9,l12,(G8 1).ss 1⟩]:List DFrac) then (0:Int) else 1)=1))):Bool) fun p6 hp6=>?_;refine V.gf [.u 5,.orn g0 false (!(decide (Fr.shE ([DFrac.mk ⟨n1,l1,(G2 0).ss 0⟩ ⟨n2,l2,(G2 0).ss 1⟩,DFrac.mk ⟨n3,l3,(G2 1).ss 0⟩ ⟨n2,l4,(G2 1).ss 1⟩,DFrac.mk ⟨n4,l5,(G2 2).ss 0⟩ ⟨n2,l6,(G2 2).ss 1⟩,DFrac.mk ⟨n5,l7,(G2 3).ss 0⟩ ⟨n6,l8,(G2 3).ss 1⟩]:List DFrac)=0))) (!(decide (Fr.shE ([DFrac.mk ⟨n4,l5,(G3 0).ss 0⟩ ⟨n2,l6,(G3 0).ss 1⟩,DFrac.mk ⟨n4,l5,(G3 1).ss 0⟩ ⟨n2,l6,(G3 1).ss 1⟩]:List DFrac)=15))) p1 hp1,.u 3,.orn g0 false p1 (!(decide (Fr.shE ([DFrac.mk ⟨n1,l1,(G4 0).ss 0⟩ ⟨n2,l2,(G4 0).ss 1⟩,DFrac.mk ⟨n7,l9,(G4 1).ss 0⟩ ⟨n2,l10,(G4 1).ss 1⟩]:List DFrac)=3))) p2 hp2,.u 3,.orn g0 false p2 (!(decide ((if Fr.rndOk (10:Int) ([DFrac.mk ⟨n8,l11,(G5 0).ss 0⟩ ⟨n9,l12,(G5 0).ss 1⟩,DFrac.mk ⟨n8,l11,(G5 1).ss 0⟩ ⟨n9,l12,(G5 1).ss 1⟩,DFrac.mk ⟨n8,l11,(G5 2).ss 0⟩ ⟨n9,l12,(G5 2).ss 1⟩]:List DFrac) then (0:Int) else 1)=0))) p3 hp3,.u 3,.orn g0 false p3 (!(decide ((if Fr.rndOk (7:Int) ([DFrac.mk ⟨n10,l13,(G6 0).ss 0⟩ ⟨n6,l14,(G6 0).ss 1⟩,DFrac.mk ⟨n11,l15,(G6 1).ss 0⟩ ⟨n12,l16,(G6 1).ss 1⟩,DFrac.mk ⟨n11,l15,(G6 2).ss 0⟩ ⟨n12,l16,(G6 2).ss 1⟩]:List DFrac) then (0:Int) else 1)=0))) p4 hp4,.u 3,.orn g0 false p4 (!(decide ((if Fr.rndOk (0:Int) ([DFrac.mk ⟨n1,l1,(G7 0).ss 0⟩ ⟨n2,l2,(G7 0).ss 1⟩]:List DFrac) then (0:Int) else 1)=0))) p5 hp5,.u 3,.orn g0 false p5 (!(decide ((if Fr.rndOk (5:Int) ([DFrac.mk ⟨n10,l13,(G8 0).ss 0⟩ ⟨n6,l14,(G8 0).ss 1⟩,DFrac.mk ⟨n8,l11,(G8 1).ss 0⟩ ⟨n9,l12,(G8 1).ss 1⟩]:List DFrac) then (0:Int) else 1)=1))) p6 hp6] fun _ _ G9=>?_;intro S s
  refine V.cn (b:=p6) (iN hp6 (iOT (iN hp5 (iOT (iN hp4 (iOT (iN hp3 (iOT (iN hp2 (iOT (iN hp1 (iOT (iNT iDF) (iNT iDF))) (iNT iDF))) (iNT iDF))) (iNT iDF))) (iNT iDF))) (iNT iDF))) (iN hp6 (iOF (iN hp5 (iOF (iN hp4 (iOF (iN hp3 (iOF (iN hp2 (iOF (iN hp1 (iOF (iNF iDT) (iNF iDT))) (iNF iDT))) (iNF iDT))) (iNF iDT))) (iNF iDT))) (iNF iDT))) (fun q1=>?_) (fun q2=>?_)
  · exfalso;have hqq:=q1;rw [if_pos hO4,if_pos hO5,if_pos hO6,if_neg hO7] at hqq;omega
  refine nm (Fr.rS ((9:Int)≠0) (Rat.divInt (2:Int) (9:Int)):Int) fun n13 hn13=>?_;refine nm (Fr.rD ((9:Int)≠0) (Rat.divInt (2:Int) (9:Int)):List Int) fun l17 hl17=>?_;refine nm (Fr.rT ((9:Int)≠0):Int) fun n14 hn14=>?_;refine nm (Fr.rE ((9:Int)≠0) (Rat.divInt (2:Int) (9:Int)):List Int) fun l18 hl18=>?_;refine nm (Fr.rS ((9:Int)≠0) (Rat.divInt (4:Int) (9:Int)):Int) fun n15 hn15=>?_;refine nm (Fr.rD ((9:Int)≠0) (Rat.divInt (4:Int) (9:Int)):List Int) fun l19 hl19=>?_;refine nm (Fr.rE ((9:Int)≠0) (Rat.divInt (4:Int) (9:Int)):List Int) fun l20 hl20=>?_;have z10_1:Fr.Fz n13 l17 n14 l18 (Rat.divInt (2:Int) (9:Int)):=Fr.Fz.of (by decide:(9:Int)≠0) hn13 hl17 hn14 hl18
  have z10_2:Fr.Fz n15 l19 n14 l20 (Rat.divInt (4:Int) (9:Int)):=Fr.Fz.of (by decide:(9:Int)≠0) hn15 hl19 hn14 hl20;have z10_3:Fr.Fz n4 l5 n2 l6 (Rat.divInt (0:Int) (1:Int)):=Fr.Fz.of (by decide:(1:Int)≠0) hn4 hl5 hn2 hl6;have z10_4:Fr.Fz n8 l11 n9 l12 (Rat.divInt (1:Int) (3:Int)):=Fr.Fz.of (by decide:(3:Int)≠0) hn8 hl11 hn9 hl12;refine V.gf [.u 1,.cA 1 12 [] fun G=>lof_ctv (2:Int) (9:Int) (by omega) (by omega) n13 hn13 l17 hl17 n14 hn14 l18 hl18,.cA 2 12 [] fun G=>lof_ctv (4:Int) (9:Int) (by omega) (by omega) n15 hn15 l19 hl19 n14 hn14 l20 hl20,.cA 3 12 [] fun G=>lof_ctv (0:Int) (1:Int) (by omega) (by omega) n4 hn4 l5 hl5 n2 hn2 l6 hl6,.cA 4 12 [] fun G=>lof_ctv (1:Int) (3:Int) (by omega) (by omega) n8 hn8 l11 hl11 n9 hn9 l12 hl12,.nrG 5 true 52 (fun G=>([DFrac.mk ⟨n13,l17,(G 1).ss 0⟩ ⟨n14,l18,(G 1).ss 1⟩,DFrac.mk ⟨n15,l19,(G 2).ss 0⟩ ⟨n14,l20,(G 2).ss 1⟩,DFrac.mk ⟨n4,l5,(G 3).ss 0⟩ ⟨n2,l6,(G 3).ss 1⟩,DFrac.mk ⟨n8,l11,(G 4).ss 0⟩ ⟨n9,l12,(G 4).ss 1⟩]:List DFrac)) 4 (fun _=>rfl) [(kf true (.g 1 0) l17 (fun G=>(G 1).ss 0)).a,(kf true (.g 1 1) l18 (fun G=>(G 1).ss 1)).a,(kf true (.g 2 0) l19 (fun G=>(G 2).ss 0)).a,(kf true (.g 2 1) l20 (fun G=>(G 2).ss 1)).a,(kf true (.g 3 0) l5 (fun G=>(G 3).ss 0)).a,(kf true (.g 3 1) l6 (fun G=>(G 3).ss 1)).a,(kf true (.g 4 0) l11 (fun G=>(G 4).ss 0)).a,(kf true (.g 4 1) l12 (fun G=>(G 4).ss 1)).a] (fun _ _ h=>(List.forall_mem_cons.2 ⟨(And.intro h.1 h.2.1),(List.forall_mem_cons.2 ⟨(And.intro h.2.2.1 h.2.2.2.1),(List.forall_mem_cons.2 ⟨(And.intro h.2.2.2.2.1 h.2.2.2.2.2.1),(List.forall_mem_cons.2 ⟨(And.intro h.2.2.2.2.2.2.1 h.2.2.2.2.2.2.2.1),(List.forall_mem_nil _)⟩)⟩)⟩)⟩)) (fun G=>#[iv n13,((G 1).ss 0).v,iv n14,((G 1).ss 1).v,iv n15,((G 2).ss 0).v,iv n14,((G 2).ss 1).v,iv n4,((G 3).ss 0).v,iv n2,((G 3).ss 1).v,iv n8,((G 4).ss 0).v,iv n9,((G 4).ss 1).v]),.cP 6 14 [kB 9 (Fr.frs (Fr.shQ ([DFrac.mk ⟨n1,l1,(G2 0).ss 0⟩ ⟨n2,l2,(G2 0).ss 1⟩,DFrac.mk ⟨n3,l3,(G2 1).ss 0⟩ ⟨n2,l4,(G2 1).ss 1⟩,DFrac.mk ⟨n4,l5,(G2 2).ss 0⟩ ⟨n2,l6,(G2 2).ss 1⟩,DFrac.mk ⟨n5,l7,(G2 3).ss 0⟩ ⟨n6,l8,(G2 3).ss 1⟩]:List DFrac)) ((G2 5).sl 0)) ((G2 5).ss 0),(kg true (.g 5 0) (fun G=>([DFrac.mk ⟨n13,l17,(G 1).ss 0⟩ ⟨n14,l18,(G 1).ss 1⟩,DFrac.mk ⟨n15,l19,(G 2).ss 0⟩ ⟨n14,l20,(G 2).ss 1⟩,DFrac.mk ⟨n4,l5,(G 3).ss 0⟩ ⟨n2,l6,(G 3).ss 1⟩,DFrac.mk ⟨n8,l11,(G 4).ss 0⟩ ⟨n9,l12,(G 4).ss 1⟩]:List DFrac)) (fun G=>⟨atB (G 5).b,4,4⟩))] fun G=>same30t_ct (Fr.frs (Fr.shQ ([DFrac.mk ⟨n1,l1,(G2 0).ss 0⟩ ⟨n2,l2,(G2 0).ss 1⟩,DFrac.mk ⟨n3,l3,(G2 1).ss 0⟩ ⟨n2,l4,(G2 1).ss 1⟩,DFrac.mk ⟨n4,l5,(G2 2).ss 0⟩ ⟨n2,l6,(G2 2).ss 1⟩,DFrac.mk ⟨n5,l7,(G2 3).ss 0⟩ ⟨n6,l8,(G2 3).ss 1⟩]:List DFrac)) ((G2 5).sl 0)) ((G2 5).ss 0) ([DFrac.mk ⟨n13,l17,(G 1).ss 0⟩ ⟨n14,l18,(G 1).ss 1⟩,DFrac.mk ⟨n15,l19,(G 2).ss 0⟩ ⟨n14,l20,(G 2).ss 1⟩,DFrac.mk ⟨n4,l5,(G 3).ss 0⟩ ⟨n2,l6,(G 3).ss 1⟩,DFrac.mk ⟨n8,l11,(G 4).ss 0⟩ ⟨n9,l12,(G 4).ss 1⟩]:List DFrac) ⟨atB (G 5).b,4,4⟩ ((Fr.Frs.of _ _).sm (Fr.Frs.cons z10_1.rt z10_1.v (Fr.Frs.cons z10_2.rt z10_2.v (Fr.Frs.cons z10_3.rt z10_3.v (Fr.Frs.cons z10_4.rt z10_4.v Fr.Frs.nil)))) ((Fr.shQ_q hF1).trans (by decide +kernel))),.kb true,.u 1,.nr 9 true 3 ([4,3,3]:List Int) [] (fun _ _ _ _ _=>trivial) (fun _=>#[iv 4,iv 3,iv 3]),.cP 10 15 [kB 29 (Fr.rndL (10:Int) ([DFrac.mk ⟨n8,l11,(G5 0).ss 0⟩ ⟨n9,l12,(G5 0).ss 1⟩,DFrac.mk ⟨n8,l11,(G5 1).ss 0⟩ ⟨n9,l12,(G5 1).ss 1⟩,DFrac.mk ⟨n8,l11,(G5 2).ss 0⟩ ⟨n9,l12,(G5 2).ss 1⟩]:List DFrac)) ((G5 4).ss 0),(kf true (.g 9 0) ([4,3,3]:List Int) (fun G=>⟨atB (G 9).b,3,3⟩)).a] fun G=>sameintst_ct (Fr.rndL (10:Int) ([DFrac.mk ⟨n8,l11,(G5 0).ss 0⟩ ⟨n9,l12,(G5 0).ss 1⟩,DFrac.mk ⟨n8,l11,(G5 1).ss 0⟩ ⟨n9,l12,(G5 1).ss 1⟩,DFrac.mk ⟨n8,l11,(G5 2).ss 0⟩ ⟨n9,l12,(G5 2).ss 1⟩]:List DFrac)) ((G5 4).ss 0) ([4,3,3]:List Int) ⟨atB (G 9).b,3,3⟩ hR4,.kb true,.kb true] fun _ _ G10=>?_;intro S s
  refine V.gf [.kb true,.kb true,.u 1,.nr 3 true 3 ([3,2,2]:List Int) [] (fun _ _ _ _ _=>trivial) (fun _=>#[iv 3,iv 2,iv 2]),.cP 4 15 [kB 37 (Fr.rndL (7:Int) ([DFrac.mk ⟨n10,l13,(G6 0).ss 0⟩ ⟨n6,l14,(G6 0).ss 1⟩,DFrac.mk ⟨n11,l15,(G6 1).ss 0⟩ ⟨n12,l16,(G6 1).ss 1⟩,DFrac.mk ⟨n11,l15,(G6 2).ss 0⟩ ⟨n12,l16,(G6 2).ss 1⟩]:List DFrac)) ((G6 4).ss 0),(kf true (.g 3 0) ([3,2,2]:List Int) (fun G=>⟨atB (G 3).b,3,3⟩)).a] fun G=>sameintst_ct (Fr.rndL (7:Int) ([DFrac.mk ⟨n10,l13,(G6 0).ss 0⟩ ⟨n6,l14,(G6 0).ss 1⟩,DFrac.mk ⟨n11,l15,(G6 1).ss 0⟩ ⟨n12,l16,(G6 1).ss 1⟩,DFrac.mk ⟨n11,l15,(G6 2).ss 0⟩ ⟨n12,l16,(G6 2).ss 1⟩]:List DFrac)) ((G6 4).ss 0) ([3,2,2]:List Int) ⟨atB (G 3).b,3,3⟩ hR5,.kb true,.kb true,.u 1,.nr 8 true 3 ([0]:List Int) [] (fun _ _ _ _ _=>trivial) (fun _=>#[iv 0]),.cP 9 15 [kB 41 (Fr.rndL (0:Int) ([DFrac.mk ⟨n1,l1,(G7 0).ss 0⟩ ⟨n2,l2,(G7 0).ss 1⟩]:List DFrac)) ((G7 2).ss 0),(kf true (.g 8 0) ([0]:List Int) (fun G=>⟨atB (G 8).b,1,1⟩)).a] fun G=>sameintst_ct (Fr.rndL (0:Int) ([DFrac.mk ⟨n1,l1,(G7 0).ss 0⟩ ⟨n2,l2,(G7 0).ss 1⟩]:List DFrac)) ((G7 2).ss 0) ([0]:List Int) ⟨atB (G 8).b,1,1⟩ hR6,.kb true,.kb true] fun _ _ G11=>?_;intro S s
  exact V.rS [0] [] [] [] [] []

open Go
section
variable {P : Program} {E : Env P} {S : Stop} {t : St}
theorem V.reO {α β:Type} [Dat α] [Dat β] (r:Nat) (b:Bool) (T:TypeId) (l:List α) (l':List β) (s:SV) (js:List (Nat × FP)) (h:(t.L[r]?,js.map (fun p=>t.F[p.1]?))=(some (os b T l s),js.map fun p=>some p.2))
    (hz:Dat.size α=Dat.size β) (hrow:rows l=rows l') (hg:∀ K,conjL (js.map fun p=>p.2.p K)→∀ x ∈ l',Dat.good K x) (k:V E S ⟨t.sl,t.F,t.L.set r (os false T l' s)⟩):V E S t:=fun N ε a w hin=>by
  simp only [Prod.mk.injEq] at h
  obtain ⟨hr,hf0⟩:=h
  have hfl:∀ p ∈ js,t.F[p.1]?=some p.2:=map_eq hf0
  have hK:∀ x ∈ l',Dat.good (hun N E.H) x:=hg _ (conjL_of fun q hq=>by
    obtain ⟨p,hp,rfl⟩:=List.mem_map.1 hq
    exact FP.to (hin.facts p.2 (List.mem_of_getElem? (hfl p hp))) hun_left (Sub.refl _))
  have hents:∀ (j c:Nat) (o:Obj),(ents (t.L.set r (os false T l' s)) ε)[j]?=some (some (c,o))→(ents t.L ε)[j]?=some (some (c,o)):=fun j c o h=>by
    rw [ents_get,Option.map_eq_some_iff] at h
    obtain ⟨y,hy,he⟩:=h
    rcases set_get hy with ⟨rfl,rfl⟩ | ⟨hj,hy⟩
    · rw [ents_get,hr];exact congrArg some he
    · rw [ents_get,hy,← he];rfl
  refine k N ε a w ⟨hin.slots,⟨hin.st.base,hin.st.agr,fun j c o h=>hin.st.ent j c o (hents j c o h),fun j j' c o o' h h'=>hin.st.dis j j' c o o' (hents _ _ _ h) (hents _ _ _ h')⟩,hin.new,hin.facts,fun j y hy=>?_⟩
  rcases set_get hy with ⟨rfl,rfl⟩ | ⟨hj,hy⟩
  · have h:=hin.own _ _ hr
    have key:∀ J:Heaplet,OSl T J l s.v (ε j)→OwnS T (Dat.size β) (rows l') s.v (ε j):=fun J h=>by
      rw [←hrow,← hz];exact h.sl
    unfold os ow LE.at at h
    show OSl T (hun N E.H) l' s.v (ε j)
    cases b
    · exact ⟨key _ h,hK⟩
    · exact ⟨key _ h,hK⟩
  · exact hin.own j y hy
end

open Go Go.Proofs
set_option maxRecDepth 10000 in
theorem ldig_ct (letter:ByteArray) (i:Int) (c:UInt8) (hc:letter=⟨#[c]⟩) (hi:0≤i∧i < 10) :
    Cp Tryz.prog 6 #[tv letter,iv i] [] (tv (Rc.dg c i.toNat)):=by
  refine V.fo mo Tryz.func6 11 0 fun w H ε k0=>?_;clear k0
  have hcz:letter.size=1:=by rw [hc];rfl
  refine V.gf [.u 1] fun _ _ G1=>?_;intro S s
  have hz1:(⟨#[48,49,50,51,52,53,54,55,56,57]⟩:ByteArray).size=10:=rfl;refine nm ((⟨#[48,49,50,51,52,53,54,55,56,57]⟩:ByteArray).extract i.toNat (i+1).toNat:ByteArray) fun t1 ht1=>?_;have ht1n:t1.size=min (i+1).toNat (⟨#[48,49,50,51,52,53,54,55,56,57]⟩:ByteArray).size-i.toNat:=by rw [ht1,ByteArray.size_extract]
  refine nm (letter ++t1:ByteArray) fun t2 ht2=>?_;refine V.gf [.u 3,.aa (i+1),.ssl g0 ⟨#[48,49,50,51,52,53,54,55,56,57]⟩ (some i) (some (i+1)) i (i+1) rfl rfl t1 ht1 (fun _=>⟨by omega,by omega,by omega⟩),.sad g0 letter t1 t2 ht2 (fun _=>by omega),.u 1] fun _ _ G2=>?_;intro S s
  have e0:t2=Rc.dg c i.toNat:=by rw [ht2,ht1,hc];exact Rd.dig_is hi.1 hi.2
  exact V.rT [0] [] [] [] [] [] (cong1 (fun (xz0:ByteArray)=>(tv xz0:Value)) e0)
set_option maxRecDepth 10000 in
theorem splits_ct (weights:List DFrac) (weightss:SV) :
    Cp Tryz.prog 3 #[weightss.v] [fs true weights weightss] (bv true):=by
  refine V.fo mo Tryz.func3 162 13 fun w H ε k0=>?_;clear k0
  refine V.g [.kb false] fun _ _ G1=>?_;intro S_ s_
  refine V.g [.cP 0 4 [] fun G=>sane30_ct ,.kb true] fun _ _ G2=>?_;intro S_ s_
  refine nm ((!(decide (Fr.few30 weights))) || (decide ((weights.length:Int)=0)):Bool) fun p1 hp1=>?_;refine V.gf [.u 1,.cP 1 5 [kA 0 weights weightss] fun G=>few30_ct weights weightss,.u 3,.ln (kF 0 weights weightss),.u 1,.orn g0 false (!(decide (Fr.few30 weights))) (decide ((weights.length:Int)=0)) p1 hp1,.u 2,.ln (kF 0 weights weightss),.u 1,.or g0 false p1 (decide (8 < (weights.length:Int)))] fun _ _ G3=>?_;intro S_ s_
  refine V.cn (b:=p1 || (decide (8 < (weights.length:Int)))) (iOT (iN hp1 (iOT (iNT iDF) iDT)) iDT) (iOF (iN hp1 (iOF (iNF iDT) iDF)) iDF) (fun q1=>?_) (fun q2=>?_)
  · refine V.g [.kb true,.kb true] fun _ _ G4=>?_;intro S_ s_
    exact V.rS [0] [] [] [] [] []
  have hF:Fr.few30 weights:=by have hqq:=q2;first | exact hqq | exact Decidable.not_not.1 hqq | exact hqq.1 | exact Decidable.not_not.1 hqq.1 | exact hqq.1.1 | exact Decidable.not_not.1 hqq.1.1 | exact hqq.1.1.1 | exact Decidable.not_not.1 hqq.1.1.1
  refine V.gf [.u 1,.nr 1 true 26 ([DInput.mk ⟨#[105,110]⟩ ⟨#[74]⟩ ⟨#[101,110,101,114,103,121]⟩]:List DInput) [] (fun _ _ _ _ _=>trivial) (fun _=>#[tv ⟨#[105,110]⟩,tv ⟨#[74]⟩,tv ⟨#[101,110,101,114,103,121]⟩]),.u 1,.n 0,.s 0] fun _ _ G5=>?_;intro S_ s_
  refine V.gf [.nr 0 true 9 ([⟨#[97,108,108]⟩]:List ByteArray) [] (fun _ _ _ _ _=>trivial) (fun _=>#[tv ⟨#[97,108,108]⟩]),.u 1,.n 1,.s 1] fun _ _ G6=>?_;intro S_ s_
  refine V.gf [.nr 0 true 9 ([⟨#[97,108,108]⟩]:List ByteArray) [] (fun _ _ _ _ _=>trivial) (fun _=>#[tv ⟨#[97,108,108]⟩]),.u 1,.nlG 2 2 true 39 (fun G=>([DStep.mk 0 ⟨[],{}⟩ ⟨([⟨#[97,108,108]⟩]:List ByteArray),⟨atB (G 0).b,1,1⟩⟩ ⟨#[105,110]⟩ ⟨[],{}⟩ 0]:List DStep)) 1 (fun _=>rfl) [(kf true (.g 0 0) ([⟨#[97,108,108]⟩]:List ByteArray) (fun G=>⟨atB (G 0).b,1,1⟩)).a] (fun _ _ h=>(List.forall_mem_cons.2 ⟨(And.intro RSl.nil (And.intro h.1 RSl.nil)),(List.forall_mem_nil _)⟩)) (fun G=>#[iv 0,.slice none 0 0,SV.v ⟨atB (G 0).b,1,1⟩,tv ⟨#[105,110]⟩,.slice none 0 0,iv 0]),.u 1] fun _ _ G7=>?_;intro S_ s_
  refine V.gf [.nl 0 3 true 39 ([]:List DStep) [] (fun _ _ h=>(List.forall_mem_nil _)) (fun _=>#[]),.u 1] fun _ _ G8=>?_;intro S_ s_
  refine V.gf [.nl 0 4 true 54 ([]:List DSpan) [] (fun _ _ h=>(List.forall_mem_nil _)) (fun _=>#[]),.u 1] fun _ _ G9=>?_;intro S_ s_
  refine V.gf [.u 1] fun _ _ G10=>?_;intro S_ s_
  refine V.on (α:=DCell) 5 47 (by kernel_rfl) ?_;refine V.on (α:=ByteArray) 6 9 (by kernel_rfl) ?_;refine V.on (α:=ByteArray) 7 9 (by kernel_rfl) ?_;refine V.lp (γ:=List DStep × SV × List DSpan × SV × Int × List DCell × SV × List ByteArray × SV × List ByteArray × SV) (fun ⟨losses,lossess,cells,cellss,i,s_5,s_5s,split_2,split_2s,split_4,split_4s⟩=>⟨[(0,weightss.v),(3,bv true),(4,pp ((G5 3).b) 0),(5,pp ((G6 2).b) 0),(6,SV.v ⟨atB (G7 2).b,1,1⟩),(7,lossess.v),(8,cellss.v),(9,iv i)],[fs false weights weightss,fs true ([DInput.mk ⟨#[105,110]⟩ ⟨#[74]⟩ ⟨#[101,110,101,114,103,121]⟩]:List DInput) ⟨atB (G5 1).b,1,1⟩,fs true ([⟨#[97,108,108]⟩]:List ByteArray) ⟨atB (G6 0).b,1,1⟩],[.blk ((G5 3).b) (ca (DSheet.mk ⟨#[97]⟩ ⟨[],{}⟩ ⟨([DInput.mk ⟨#[105,110]⟩ ⟨#[74]⟩ ⟨#[101,110,101,114,103,121]⟩]:List DInput),⟨atB (G5 1).b,1,1⟩⟩ ⟨[],{}⟩ ⟨[],{}⟩ ⟨s_5,s_5s⟩ ⟨[],{}⟩ ⟨[],{}⟩ ⟨[],{}⟩)) 36,.blk ((G6 2).b) (ca (DStep.mk 3 ⟨([⟨#[97,108,108]⟩]:List ByteArray),⟨atB (G6 0).b,1,1⟩⟩ ⟨split_2,split_2s⟩ ByteArray.empty ⟨split_4,split_4s⟩ 0)) 39,os true 39 ([DStep.mk 0 ⟨[],{}⟩ ⟨([⟨#[97,108,108]⟩]:List ByteArray),⟨atB (G7 0).b,1,1⟩⟩ ⟨#[105,110]⟩ ⟨[],{}⟩ 0]:List DStep) ⟨atB (G7 2).b,1,1⟩,os true 39 losses lossess,os true 54 cells cellss,os true 47 s_5 s_5s,os true 9 split_2 split_2s,os true 9 split_4 split_4s,.no,.no,.no,.no,.no]⟩) (fun ⟨losses,lossess,cells,cellss,i,s_5,s_5s,split_2,split_2s,split_4,split_4s⟩=>(0≤i)∧(i≤(weights.length:Int))∧(s_5=(List.range i.toNat).map Rd.cel)∧(split_2=(List.range i.toNat).map (Rc.dg 112))∧(split_4=(List.range i.toNat).map (Rc.dg 99))∧(losses.map Rd.sh=(List.range i.toNat).map Rd.los)∧(Rc.pts (weights.take i.toNat) cells)) (fun ⟨losses,lossess,cells,cellss,i,s_5,s_5s,split_2,split_2s,split_4,split_4s⟩=>((weights.length:Int)-i).toNat) (([]:List DStep),⟨atB (G8 0).b,0,0⟩,([]:List DSpan),⟨atB (G9 0).b,0,0⟩,0,([]:List DCell),{},([]:List ByteArray),{},([]:List ByteArray),{}) [0,1,2] ?_ ?_
  · refine ⟨?_,?_,?_,?_,?_,?_,?_⟩
    · show 0≤(0:Int)
      first | omega | rfl | (simp;done) | (subst_vars;simp;done)
    · show (0:Int)≤(weights.length:Int)
      first | omega | rfl | (simp;done) | (subst_vars;simp;done)
    · show ([]:List DCell)=(List.range (0:Int).toNat).map Rd.cel;rfl
    · show ([]:List ByteArray)=(List.range (0:Int).toNat).map (Rc.dg 112);rfl
    · show ([]:List ByteArray)=(List.range (0:Int).toNat).map (Rc.dg 99);rfl
    · show ([]:List DStep).map Rd.sh=(List.range (0:Int).toNat).map Rd.los;rfl
    show Rc.pts (weights.take (0:Int).toNat) ([]:List DSpan);exact trivial
  rintro ⟨losses,lossess,cells,cellss,i,s_5,s_5s,split_2,split_2s,split_4,split_4s⟩ hF1 kw11 Z1 hZ1;have hF1:(0≤i)∧(i≤(weights.length:Int))∧(s_5=(List.range i.toNat).map Rd.cel)∧(split_2=(List.range i.toNat).map (Rc.dg 112))∧(split_4=(List.range i.toNat).map (Rc.dg 99))∧(losses.map Rd.sh=(List.range i.toNat).map Rd.los)∧(Rc.pts (weights.take i.toNat) cells):=hF1;obtain ⟨hf1,hf2,hf3,hf4,hf5,hf6,hf7⟩:=hF1;have hL0:=congrArg List.length hf3;have hL1:=congrArg List.length hf4;have hL2:=congrArg List.length hf5;have hL3:=congrArg List.length hf6;have hL4:=hf7.len;simp only [List.length_map,List.length_range,List.length_take] at hL0 hL1 hL2 hL3 hL4;refine V.gf [.u 2,.ln (kF 0 weights weightss),.u 1] fun _ _ G11=>?_;intro S_ s_;refine V.cn (b:=decide (i < (weights.length:Int))) iDT iDF (fun q3=>?_) (fun q4=>?_)
  · refine nm (s_5 ++([DCell.mk (Rc.dg (99:UInt8) i.toNat) ByteArray.empty (DExpr.mk 0 i ByteArray.empty ByteArray.empty ⟨[],{}⟩)]:List DCell):List DCell) fun l1 hl1=>?_;refine V.gf [.u 1,.l 0,.u 1,.cP 3 6 [] fun G=>ldig_ct ⟨#[99]⟩ i (99:UInt8) rfl ⟨by omega,by omega⟩,.u 3,.nr 7 true 47 ([DCell.mk (Rc.dg (99:UInt8) i.toNat) ByteArray.empty (DExpr.mk 0 i ByteArray.empty ByteArray.empty ⟨[],{}⟩)]:List DCell) [] (fun _ _ h=>(List.forall_mem_cons.2 ⟨(exI RSl.nil),(List.forall_mem_nil _)⟩)) (fun _=>#[tv (Rc.dg (99:UInt8) i.toNat),tv ByteArray.empty,iv 0,iv i,tv ByteArray.empty,tv ByteArray.empty,.slice none 0 0]),.ap 8 5 47 104 false true s_5 (fun _=>s_5s) (kf true (.g 7 0) ([DCell.mk (Rc.dg (99:UInt8) i.toNat) ByteArray.empty (DExpr.mk 0 i ByteArray.empty ByteArray.empty ⟨[],{}⟩)]:List DCell) (fun G=>⟨atB (G 7).b,1,1⟩)) true l1 hl1 (by (try simp only [List.length_append,List.length_cons,List.length_nil,List.length_replicate,List.length_set,List.length_take,List.length_drop,List.length_map,List.length_reverse,List.length_range]);omega) (fun h=>by cases h) (.inl fun _=>⟨rfl,rfl⟩),.u 1,.s 0] fun _ _ G12=>?_;intro S_ s_
    refine nm (split_2 ++([Rc.dg (112:UInt8) i.toNat]:List ByteArray):List ByteArray) fun l2 hl2=>?_;refine V.gf [.u 1,.l 1,.u 1,.cP 3 6 [] fun G=>ldig_ct ⟨#[112]⟩ i (112:UInt8) rfl ⟨by omega,by omega⟩,.nr 4 true 9 ([Rc.dg (112:UInt8) i.toNat]:List ByteArray) [] (fun _ _ _ _ _=>trivial) (fun _=>#[tv (Rc.dg (112:UInt8) i.toNat)]),.ap 5 6 9 16 false true split_2 (fun _=>split_2s) (kf true (.g 4 0) ([Rc.dg (112:UInt8) i.toNat]:List ByteArray) (fun G=>⟨atB (G 4).b,1,1⟩)) true l2 hl2 (by (try simp only [List.length_append,List.length_cons,List.length_nil,List.length_replicate,List.length_set,List.length_take,List.length_drop,List.length_map,List.length_reverse,List.length_range]);omega) (fun h=>by cases h) (.inr fun _ _=>trivial),.u 1,.s 1] fun _ _ G13=>?_;intro S_ s_
    refine nm (split_4 ++([Rc.dg (99:UInt8) i.toNat]:List ByteArray):List ByteArray) fun l3 hl3=>?_;refine V.gf [.u 1,.l 1,.u 1,.cP 3 6 [] fun G=>ldig_ct ⟨#[99]⟩ i (99:UInt8) rfl ⟨by omega,by omega⟩,.nr 4 true 9 ([Rc.dg (99:UInt8) i.toNat]:List ByteArray) [] (fun _ _ _ _ _=>trivial) (fun _=>#[tv (Rc.dg (99:UInt8) i.toNat)]),.ap 5 7 9 16 false true split_4 (fun _=>split_4s) (kf true (.g 4 0) ([Rc.dg (99:UInt8) i.toNat]:List ByteArray) (fun G=>⟨atB (G 4).b,1,1⟩)) true l3 hl3 (by (try simp only [List.length_append,List.length_cons,List.length_nil,List.length_replicate,List.length_set,List.length_take,List.length_drop,List.length_map,List.length_reverse,List.length_range]);omega) (fun h=>by cases h) (.inr fun _ _=>trivial),.u 1,.s 1] fun _ _ G14=>?_;intro S_ s_
    refine V.gf [.u 2,.cP 2 6 [] fun G=>ldig_ct ⟨#[112]⟩ i (112:UInt8) rfl ⟨by omega,by omega⟩,.nr 3 true 9 ([Rc.dg (112:UInt8) i.toNat]:List ByteArray) [] (fun _ _ _ _ _=>trivial) (fun _=>#[tv (Rc.dg (112:UInt8) i.toNat)]),.u 1,.cP 5 6 [] fun G=>ldig_ct ⟨#[108]⟩ i (108:UInt8) rfl ⟨by omega,by omega⟩,.u 1,.nrG 7 true 39 (fun G=>([DStep.mk 7 ⟨([Rc.dg (112:UInt8) i.toNat]:List ByteArray),⟨atB (G 3).b,1,1⟩⟩ ⟨[],{}⟩ (Rc.dg (108:UInt8) i.toNat) ⟨[],{}⟩ 0]:List DStep)) 1 (fun _=>rfl) [(kf true (.g 3 0) ([Rc.dg (112:UInt8) i.toNat]:List ByteArray) (fun G=>⟨atB (G 3).b,1,1⟩)).a] (fun _ _ h=>(List.forall_mem_cons.2 ⟨(And.intro h.1 (And.intro RSl.nil RSl.nil)),(List.forall_mem_nil _)⟩)) (fun G=>#[iv 7,SV.v ⟨atB (G 3).b,1,1⟩,.slice none 0 0,tv (Rc.dg (108:UInt8) i.toNat),.slice none 0 0,iv 0]),.apG 8 3 39 104 false true losses (fun _=>lossess) (.g 7 0) true (fun G=>([DStep.mk 7 ⟨([Rc.dg (112:UInt8) i.toNat]:List ByteArray),⟨atB (G 3).b,1,1⟩⟩ ⟨[],{}⟩ (Rc.dg (108:UInt8) i.toNat) ⟨[],{}⟩ 0]:List DStep)) 1 (fun _=>rfl) (fun G=>⟨atB (G 7).b,1,1⟩) true (by (try simp only [List.length_append,List.length_cons,List.length_nil,List.length_replicate,List.length_set,List.length_take,List.length_drop,List.length_map,List.length_reverse,List.length_range]);omega) (fun h=>by cases h) (fun _=>⟨rfl,rfl⟩),.u 1] fun _ _ G15=>?_;intro S_ s_
    refine nm (weights.getD i.toNat default:DFrac) fun x1 hx1=>?_;have hxw:=hF.2 _ (getD_mem (by omega) hx1)
    have hxw1:=hxw.1;have hxw2:=hxw.2;refine V.gf [.u 3,.iX (kF 0 weights weightss) i,.lE (kF 0 weights weightss) i true x1 hx1 true,.cA 5 7 [(kx false (.g 4 0) x1 x1.P.Digits.l (fun _=>x1.P.Digits.s) (fun _ H (h:Dat.good H (x1:DFrac))=>h.1)).a,(kx false (.g 4 0) x1 x1.Q.Digits.l (fun _=>x1.Q.Digits.s) (fun _ H (h:Dat.good H (x1:DFrac))=>h.2)).a] fun G=>spp_ct x1.P.Sign x1.P.Digits.l x1.P.Digits.s x1.Q.Sign x1.Q.Digits.l x1.Q.Digits.s (by omega) (by omega),.nrG 6 true 54 (fun G=>([DSpan.mk (DFrac.mk ⟨(Rc.pi (Fr.FrB x1.P.Sign x1.P.Digits.l x1.Q.Sign x1.Q.Digits.l) x1.P.Sign),Rc.pl (Fr.FrB x1.P.Sign x1.P.Digits.l x1.Q.Sign x1.Q.Digits.l) x1.P.Digits.l,(G 5).ss 0⟩ ⟨(Rc.pi (Fr.FrB x1.P.Sign x1.P.Digits.l x1.Q.Sign x1.Q.Digits.l) x1.Q.Sign),Rc.pl (Fr.FrB x1.P.Sign x1.P.Digits.l x1.Q.Sign x1.Q.Digits.l) x1.Q.Digits.l,(G 5).ss 1⟩) (DFrac.mk ⟨(Rc.pi (Fr.FrB x1.P.Sign x1.P.Digits.l x1.Q.Sign x1.Q.Digits.l) x1.P.Sign),Rc.pl (Fr.FrB x1.P.Sign x1.P.Digits.l x1.Q.Sign x1.Q.Digits.l) x1.P.Digits.l,(G 5).ss 2⟩ ⟨(Rc.pi (Fr.FrB x1.P.Sign x1.P.Digits.l x1.Q.Sign x1.Q.Digits.l) x1.Q.Sign),Rc.pl (Fr.FrB x1.P.Sign x1.P.Digits.l x1.Q.Sign x1.Q.Digits.l) x1.Q.Digits.l,(G 5).ss 3⟩)]:List DSpan)) 1 (fun _=>rfl) [(kf true (.g 5 0) (Rc.pl (Fr.FrB x1.P.Sign x1.P.Digits.l x1.Q.Sign x1.Q.Digits.l) x1.P.Digits.l) (fun G=>(G 5).ss 0)).a,(kf true (.g 5 1) (Rc.pl (Fr.FrB x1.P.Sign x1.P.Digits.l x1.Q.Sign x1.Q.Digits.l) x1.Q.Digits.l) (fun G=>(G 5).ss 1)).a,(kf true (.g 5 2) (Rc.pl (Fr.FrB x1.P.Sign x1.P.Digits.l x1.Q.Sign x1.Q.Digits.l) x1.P.Digits.l) (fun G=>(G 5).ss 2)).a,(kf true (.g 5 3) (Rc.pl (Fr.FrB x1.P.Sign x1.P.Digits.l x1.Q.Sign x1.Q.Digits.l) x1.Q.Digits.l) (fun G=>(G 5).ss 3)).a] (fun _ _ h=>(List.forall_mem_cons.2 ⟨(And.intro (And.intro h.1 h.2.1) (And.intro h.2.2.1 h.2.2.2.1)),(List.forall_mem_nil _)⟩)) (fun G=>#[iv (Rc.pi (Fr.FrB x1.P.Sign x1.P.Digits.l x1.Q.Sign x1.Q.Digits.l) x1.P.Sign),((G 5).ss 0).v,iv (Rc.pi (Fr.FrB x1.P.Sign x1.P.Digits.l x1.Q.Sign x1.Q.Digits.l) x1.Q.Sign),((G 5).ss 1).v,iv (Rc.pi (Fr.FrB x1.P.Sign x1.P.Digits.l x1.Q.Sign x1.Q.Digits.l) x1.P.Sign),((G 5).ss 2).v,iv (Rc.pi (Fr.FrB x1.P.Sign x1.P.Digits.l x1.Q.Sign x1.Q.Digits.l) x1.Q.Sign),((G 5).ss 3).v]),.apG 7 4 54 128 false true cells (fun _=>cellss) (.g 6 0) true (fun G=>([DSpan.mk (DFrac.mk ⟨(Rc.pi (Fr.FrB x1.P.Sign x1.P.Digits.l x1.Q.Sign x1.Q.Digits.l) x1.P.Sign),Rc.pl (Fr.FrB x1.P.Sign x1.P.Digits.l x1.Q.Sign x1.Q.Digits.l) x1.P.Digits.l,(G 5).ss 0⟩ ⟨(Rc.pi (Fr.FrB x1.P.Sign x1.P.Digits.l x1.Q.Sign x1.Q.Digits.l) x1.Q.Sign),Rc.pl (Fr.FrB x1.P.Sign x1.P.Digits.l x1.Q.Sign x1.Q.Digits.l) x1.Q.Digits.l,(G 5).ss 1⟩) (DFrac.mk ⟨(Rc.pi (Fr.FrB x1.P.Sign x1.P.Digits.l x1.Q.Sign x1.Q.Digits.l) x1.P.Sign),Rc.pl (Fr.FrB x1.P.Sign x1.P.Digits.l x1.Q.Sign x1.Q.Digits.l) x1.P.Digits.l,(G 5).ss 2⟩ ⟨(Rc.pi (Fr.FrB x1.P.Sign x1.P.Digits.l x1.Q.Sign x1.Q.Digits.l) x1.Q.Sign),Rc.pl (Fr.FrB x1.P.Sign x1.P.Digits.l x1.Q.Sign x1.Q.Digits.l) x1.Q.Digits.l,(G 5).ss 3⟩)]:List DSpan)) 1 (fun _=>rfl) (fun G=>⟨atB (G 6).b,1,1⟩) true (by (try simp only [List.length_append,List.length_cons,List.length_nil,List.length_replicate,List.length_set,List.length_take,List.length_drop,List.length_map,List.length_reverse,List.length_range]);omega) (fun h=>by cases h) (fun _=>⟨rfl,rfl⟩),.u 1] fun _ _ G16=>?_;intro S_ s_
    refine V.gf [.u 1,.aa (i+1),.u 1] fun _ _ G17=>?_;intro S_ s_
    refine V.rn hZ1 (losses ++([DStep.mk 7 ⟨([Rc.dg (112:UInt8) i.toNat]:List ByteArray),⟨atB (G15 3).b,1,1⟩⟩ ⟨[],{}⟩ (Rc.dg (108:UInt8) i.toNat) ⟨[],{}⟩ 0]:List DStep),(G15 8).s,cells ++([DSpan.mk (DFrac.mk ⟨(Rc.pi (Fr.FrB x1.P.Sign x1.P.Digits.l x1.Q.Sign x1.Q.Digits.l) x1.P.Sign),Rc.pl (Fr.FrB x1.P.Sign x1.P.Digits.l x1.Q.Sign x1.Q.Digits.l) x1.P.Digits.l,(G16 5).ss 0⟩ ⟨(Rc.pi (Fr.FrB x1.P.Sign x1.P.Digits.l x1.Q.Sign x1.Q.Digits.l) x1.Q.Sign),Rc.pl (Fr.FrB x1.P.Sign x1.P.Digits.l x1.Q.Sign x1.Q.Digits.l) x1.Q.Digits.l,(G16 5).ss 1⟩) (DFrac.mk ⟨(Rc.pi (Fr.FrB x1.P.Sign x1.P.Digits.l x1.Q.Sign x1.Q.Digits.l) x1.P.Sign),Rc.pl (Fr.FrB x1.P.Sign x1.P.Digits.l x1.Q.Sign x1.Q.Digits.l) x1.P.Digits.l,(G16 5).ss 2⟩ ⟨(Rc.pi (Fr.FrB x1.P.Sign x1.P.Digits.l x1.Q.Sign x1.Q.Digits.l) x1.Q.Sign),Rc.pl (Fr.FrB x1.P.Sign x1.P.Digits.l x1.Q.Sign x1.Q.Digits.l) x1.Q.Digits.l,(G16 5).ss 3⟩)]:List DSpan),(G16 7).s,i+1,l1,(G12 8).s,l2,(G13 5).s,l3,(G14 5).s) [0,1,2] ?_ ?_
    · refine ⟨?_,?_,?_,?_,?_,?_,?_⟩
      · show 0≤(i+1);omega
      · show (i+1)≤(weights.length:Int);omega
      · show l1=(List.range (i+1).toNat).map Rd.cel;rw [hl1,hf3,← Rd.range_snoc (f:=Rd.cel) (by omega)];unfold Rd.cel;rw [show ((i.toNat:Nat):Int)=i by omega]
      · show l2=(List.range (i+1).toNat).map (Rc.dg 112);rw [hl2,hf4,← Rd.range_snoc (f:=Rc.dg 112) (by omega)]
      · show l3=(List.range (i+1).toNat).map (Rc.dg 99);rw [hl3,hf5,← Rd.range_snoc (f:=Rc.dg 99) (by omega)]
      · show (losses ++([DStep.mk 7 ⟨([Rc.dg (112:UInt8) i.toNat]:List ByteArray),⟨atB (G15 3).b,1,1⟩⟩ ⟨[],{}⟩ (Rc.dg (108:UInt8) i.toNat) ⟨[],{}⟩ 0]:List DStep)).map Rd.sh=(List.range (i+1).toNat).map Rd.los;rw [List.map_append,hf6,← Rd.range_snoc (f:=Rd.los) (by omega)];rfl
      show Rc.pts (weights.take (i+1).toNat) (cells ++([DSpan.mk (DFrac.mk ⟨(Rc.pi (Fr.FrB x1.P.Sign x1.P.Digits.l x1.Q.Sign x1.Q.Digits.l) x1.P.Sign),Rc.pl (Fr.FrB x1.P.Sign x1.P.Digits.l x1.Q.Sign x1.Q.Digits.l) x1.P.Digits.l,(G16 5).ss 0⟩ ⟨(Rc.pi (Fr.FrB x1.P.Sign x1.P.Digits.l x1.Q.Sign x1.Q.Digits.l) x1.Q.Sign),Rc.pl (Fr.FrB x1.P.Sign x1.P.Digits.l x1.Q.Sign x1.Q.Digits.l) x1.Q.Digits.l,(G16 5).ss 1⟩) (DFrac.mk ⟨(Rc.pi (Fr.FrB x1.P.Sign x1.P.Digits.l x1.Q.Sign x1.Q.Digits.l) x1.P.Sign),Rc.pl (Fr.FrB x1.P.Sign x1.P.Digits.l x1.Q.Sign x1.Q.Digits.l) x1.P.Digits.l,(G16 5).ss 2⟩ ⟨(Rc.pi (Fr.FrB x1.P.Sign x1.P.Digits.l x1.Q.Sign x1.Q.Digits.l) x1.Q.Sign),Rc.pl (Fr.FrB x1.P.Sign x1.P.Digits.l x1.Q.Sign x1.Q.Digits.l) x1.Q.Digits.l,(G16 5).ss 3⟩)]:List DSpan));rw [Rd.take_snoc (by omega) (by omega) hx1];exact Rc.pts.snoc ⟨⟨rfl,rfl,rfl,rfl⟩,⟨rfl,rfl,rfl,rfl⟩⟩ _ _ hf7
    show ((weights.length:Int)-(i+1)).toNat < ((weights.length:Int)-i).toNat;omega
  refine V.frz 6 true 9 split_2 split_2s (by kernel_rfl) ?_;refine V.frz 7 true 9 split_4 split_4s (by kernel_rfl) ?_;refine nm (([DStep.mk 0 ⟨[],{}⟩ ⟨([⟨#[97,108,108]⟩]:List ByteArray),⟨atB (G7 0).b,1,1⟩⟩ ⟨#[105,110]⟩ ⟨[],{}⟩ 0]:List DStep) ++([DStep.mk 3 ⟨([⟨#[97,108,108]⟩]:List ByteArray),⟨atB (G6 0).b,1,1⟩⟩ ⟨split_2,split_2s⟩ ByteArray.empty ⟨split_4,split_4s⟩ 0]:List DStep):List DStep) fun l4 hl4=>?_;have hl4n:=congrArg List.length hl4;try simp only [List.length_append,List.length_cons,List.length_nil,List.length_replicate,List.length_set,List.length_take,List.length_drop,List.length_map,List.length_reverse,List.length_range] at hl4n
  refine nm (l4 ++losses:List DStep) fun l5 hl5=>?_;refine V.gf [.u 1,.l 1,.nr 2 true 39 ([DStep.mk 3 ⟨([⟨#[97,108,108]⟩]:List ByteArray),⟨atB (G6 0).b,1,1⟩⟩ ⟨split_2,split_2s⟩ ByteArray.empty ⟨split_4,split_4s⟩ 0]:List DStep) [kB 2 ([⟨#[97,108,108]⟩]:List ByteArray) ⟨atB (G6 0).b,1,1⟩,kB 3 split_2 split_2s,kB 4 split_4 split_4s] (fun _ _ h=>(List.forall_mem_cons.2 ⟨(And.intro h.1 (And.intro h.2.1 h.2.2.1)),(List.forall_mem_nil _)⟩)) (fun _=>#[iv 3,SV.v ⟨atB (G6 0).b,1,1⟩,split_2s.v,tv ByteArray.empty,split_4s.v,iv 0]),.ap 3 2 39 104 false true ([DStep.mk 0 ⟨[],{}⟩ ⟨([⟨#[97,108,108]⟩]:List ByteArray),⟨atB (G7 0).b,1,1⟩⟩ ⟨#[105,110]⟩ ⟨[],{}⟩ 0]:List DStep) (fun _=>⟨atB (G7 2).b,1,1⟩) (kf true (.g 2 0) ([DStep.mk 3 ⟨([⟨#[97,108,108]⟩]:List ByteArray),⟨atB (G6 0).b,1,1⟩⟩ ⟨split_2,split_2s⟩ ByteArray.empty ⟨split_4,split_4s⟩ 0]:List DStep) (fun G=>⟨atB (G 2).b,1,1⟩)) true l4 hl4 (by (try simp only [List.length_append,List.length_cons,List.length_nil,List.length_replicate,List.length_set,List.length_take,List.length_drop,List.length_map,List.length_reverse,List.length_range]);omega) (fun h=>by cases h) (.inl fun _=>⟨rfl,rfl⟩),.u 1,.ap 5 2 39 104 false true l4 (fun G=>(G 3).s) (kO 39 3 losses lossess) true l5 hl5 (by (try simp only [List.length_append,List.length_cons,List.length_nil,List.length_replicate,List.length_set,List.length_take,List.length_drop,List.length_map,List.length_reverse,List.length_range]);omega) (fun h=>by cases h) (.inl fun _=>⟨rfl,rfl⟩),.u 1,.nlG 7 8 true 57 (fun G=>([(⟨⟨#[101,110,101,114,103,121]⟩,(G 5).s⟩:DRecB)]:List DRecB)) 1 (fun _=>rfl) [] (fun _ _ _ _ _=>trivial) (fun G=>#[tv ⟨#[101,110,101,114,103,121]⟩,((G 5).s).v]),.u 1,.s 0] fun _ _ G18=>?_;intro S_ s_
  refine V.frz 2 true 39 l5 ((G18 5).s) (by kernel_rfl) ?_;refine V.reO 8 true 57 ([(⟨⟨#[101,110,101,114,103,121]⟩,(G18 5).s⟩:DRecB)]:List DRecB) ([DRecipe.mk ⟨#[101,110,101,114,103,121]⟩ ⟨l5,(G18 5).s⟩]:List DRecipe) ⟨atB (G18 7).b,1,1⟩ [(6,fs true l5 ((G18 5).s))] (by kernel_rfl) rfl rfl (fun K h x hx=>by rw [List.mem_singleton.1 hx];exact h.1) ?_;have hin:i.toNat=weights.length:=by omega
  have hcan:l5.map Rd.sh=Rd.can weights.length:=by rw [hl5,hl4];exact Rd.steps_can rfl (by rw [hf4,hf5,hin];rfl) (by rw [←hin];exact hf6)
  have hcel:s_5=Rd.cels weights.length:=by rw [hf3,hin];rfl
  have hpts:Rc.pts weights cells:=by have h:=hf7;rwa [hin,List.take_length] at h
  have hcl:=hpts.len;have h9:weights.length < 9:=by omega
  refine V.gf [.l 0,.cP 1 8 [(knil (α:=DImport)).a,kB 1 ([DInput.mk ⟨#[105,110]⟩ ⟨#[74]⟩ ⟨#[101,110,101,114,103,121]⟩]:List DInput) ⟨atB (G5 1).b,1,1⟩,(knil (α:=DTable)).a,(knil (α:=DFunc)).a,(kO 47 5 s_5 s_5s).a,(knil (α:=DPort)).a,(knil (α:=DStore)).a,(ko false 57 8 ([DRecipe.mk ⟨#[101,110,101,114,103,121]⟩ ⟨l5,(G18 5).s⟩]:List DRecipe) (fun _=>⟨atB (G18 7).b,1,1⟩)).a] fun G=>pchk_ct ⟨#[97]⟩ ([]:List DImport) ({}) ([DInput.mk ⟨#[105,110]⟩ ⟨#[74]⟩ ⟨#[101,110,101,114,103,121]⟩]:List DInput) ⟨atB (G5 1).b,1,1⟩ ([]:List DTable) ({}) ([]:List DFunc) ({}) s_5 s_5s ([]:List DPort) ({}) ([]:List DStore) ({}) ([DRecipe.mk ⟨#[101,110,101,114,103,121]⟩ ⟨l5,(G18 5).s⟩]:List DRecipe) ⟨atB (G18 7).b,1,1⟩ (0:Int) (by rw [hcel];exact Rd.Sml_n hcan h9 _) (by simp;omega) (by rw [hcel];exact Rd.Rt_n hcan h9 (by omega) _) (by simp) (by rw [hcel];exact Rd.good_n hcan h9 (by omega) _),.u 5] fun _ _ G19=>?_;intro S_ s_
  refine V.frz 4 true 54 cells cellss (by kernel_rfl) ?_;refine V.frz 5 true 47 s_5 s_5s (by kernel_rfl) ?_;refine V.frz 8 false 57 ([DRecipe.mk ⟨#[101,110,101,114,103,121]⟩ ⟨l5,(G18 5).s⟩]:List DRecipe) ⟨atB (G18 7).b,1,1⟩ (by kernel_rfl) ?_;refine V.gf [.l 0,.u 1,.cB 2 9 true [] [9,10,11] [(knil (α:=DImport)).a,kB 1 ([DInput.mk ⟨#[105,110]⟩ ⟨#[74]⟩ ⟨#[101,110,101,114,103,121]⟩]:List DInput) ⟨atB (G5 1).b,1,1⟩,(knil (α:=DTable)).a,(knil (α:=DFunc)).a,kB 8 s_5 s_5s,(knil (α:=DPort)).a,(knil (α:=DStore)).a,kA 9 ([DRecipe.mk ⟨#[101,110,101,114,103,121]⟩ ⟨l5,(G18 5).s⟩]:List DRecipe) ⟨atB (G18 7).b,1,1⟩,kB 7 cells cellss] fun G=>wflow_ct ⟨#[97]⟩ ([]:List DImport) ({}) ([DInput.mk ⟨#[105,110]⟩ ⟨#[74]⟩ ⟨#[101,110,101,114,103,121]⟩]:List DInput) ⟨atB (G5 1).b,1,1⟩ ([]:List DTable) ({}) ([]:List DFunc) ({}) s_5 s_5s ([]:List DPort) ({}) ([]:List DStore) ({}) ([DRecipe.mk ⟨#[101,110,101,114,103,121]⟩ ⟨l5,(G18 5).s⟩]:List DRecipe) ⟨atB (G18 7).b,1,1⟩ (0:Int) cells cellss 0 (by rw [hcel];exact Rd.Sml_n hcan h9 _) (by simp;omega) (by rw [hcel];exact Rd.Rt_n hcan h9 (by omega) _) (by simp) (by rw [hcel];exact Rd.good_n hcan h9 (by omega) _) (by omega) (by rw [hcel,hcl];exact Rd.spl_n hcan h9) (by omega) (Fr.few30_wb (Rd.few_low hpts hF)) (Rd.sam_all hpts) (Rd.ln_both hpts hF (by decide)) (Rd.hb_all hpts hF),.u 4,.n 12,.s 12,.u 2] fun _ _ G20=>?_;intro S_ s_
  refine V.opO (α:=DSource) 9 false 137 (fun _:List DSource=>True) ((G20 2).ss 0) (by kernel_rfl) fun l6 hl6=>?_;refine V.opO (α:=DOut) 10 false 141 (fun _:List DOut=>True) ((G20 2).ss 1) (by kernel_rfl) fun l7 hl7=>?_;refine V.opO (α:=Fat DFrac) 11 false 22 (fun l=>Rc.flE cells=0→Rc.rws l (Fr.shQ (cells.map (·.Low)))) ((G20 2).ss 2) (by kernel_rfl) fun l8 hl8=>?_;refine V.rf [.u 1,.cA 1 10 [kA 0 weights weightss] fun G=>shares_ct weights weightss (Fr.few30_wb hF),.u 5] fun _ _ G21 kw22=>?_;intro S_ s_
  obtain ⟨⟨kl23, -⟩, -⟩:Lq (Fr.frs (Fr.shQ weights) ((G21 1).sl 0)) (((G21 1).ss 0).v)∧Lq losses lossess.v∧Lq l6 (((G20 2).ss 0).v)∧Lq l7 (((G20 2).ss 1).v)∧Lq l8 (((G20 2).ss 2).v)∧True:=kq kw22;clear kw22;refine V.gf [.u 1,.kb false] fun _ _ G22=>?_;intro S_ s_;refine V.condF (by kernel_rfl) ?_;refine V.gf [.u 2] fun _ _ G23=>?_;intro S_ s_;refine V.cn (b:=!(decide (Fr.shE weights=0))) (iNT iDF) (iNF iDT) (fun q5=>?_) (fun q6=>?_)
  · have hsN:Fr.shE weights≠0:=q5;refine V.gf [.kb true,.kb true,.u 4] fun _ _ G24=>?_;intro S_ s_
    have e0:(!(decide (Rc.flE cells=0)))=true:=by
      refine (iNT iDF).2 ?_;exact fun h=>hsN ((Rd.fl_all hpts).1.1 h)
    exact V.rT [0] [] [] [] [] [] (cong1 (fun (xz0:Bool)=>(bv xz0:Value)) e0)
  have hs0:Fr.shE weights=0:=by have hqq:=q6;first | exact hqq | exact Decidable.not_not.1 hqq
  have hf0:=(Rd.fl_all hpts).1.2 hs0;have hrw:Rc.rws l8 (Fr.shQ weights):=by rw [←(Rd.fl_all hpts).2 hs0];exact hl8 hf0
  have hrl:=hrw.1;have hlf:(Fr.frs (Fr.shQ weights) ((G21 1).sl 0)).length=(Fr.shQ weights).length:=Fr.frs_len _ _;refine nm ((!(decide (Rc.flE cells=0))) || (!(decide ((l8.length:Int)=((Fr.frs (Fr.shQ weights) ((G21 1).sl 0)).length:Int)))):Bool) fun p2 hp2=>?_;refine V.gf [.u 4,.l 12,.ln (ko false 22 11 l8 (fun _=>(G20 2).ss 2)),.u 1,.ln (kG 10 (Fr.frs (Fr.shQ weights) ((G21 1).sl 0)) ((G21 1).ss 0)),.u 1,.orn g0 false (!(decide (Rc.flE cells=0))) (!(decide ((l8.length:Int)=((Fr.frs (Fr.shQ weights) ((G21 1).sl 0)).length:Int)))) p2 hp2] fun _ _ G25=>?_;intro S_ s_
  refine V.cn (b:=p2) (iN hp2 (iOT (iNT iDF) (iNT iDF))) (iN hp2 (iOF (iNF iDT) (iNF iDT))) (fun q7=>?_) (fun q8=>?_)
  · exfalso;have hqq:=q7;rcases hqq with h | h;exact h hf0;omega
  refine V.gf [.u 1] fun _ _ G26=>?_;intro S_ s_
  refine V.lp (γ:=Int) (fun i_1=>⟨[(3,bv true),(12,pp ((G20 7).b) 0),(15,((G21 1).ss 0).v),(17,iv i_1)],[fs true (Fr.frs (Fr.shQ weights) ((G21 1).sl 0)) ((G21 1).ss 0),fs true ([DInput.mk ⟨#[105,110]⟩ ⟨#[74]⟩ ⟨#[101,110,101,114,103,121]⟩]:List DInput) ⟨atB (G5 1).b,1,1⟩,fs true s_5 s_5s,fs false ([DRecipe.mk ⟨#[101,110,101,114,103,121]⟩ ⟨l5,(G18 5).s⟩]:List DRecipe) ⟨atB (G18 7).b,1,1⟩,fs true ([⟨#[97,108,108]⟩]:List ByteArray) ⟨atB (G6 0).b,1,1⟩,fs true split_2 split_2s,fs true split_4 split_4s],[.blk ((G5 3).b) (ca (DSheet.mk ⟨#[97]⟩ ⟨[],{}⟩ ⟨([DInput.mk ⟨#[105,110]⟩ ⟨#[74]⟩ ⟨#[101,110,101,114,103,121]⟩]:List DInput),⟨atB (G5 1).b,1,1⟩⟩ ⟨[],{}⟩ ⟨[],{}⟩ ⟨s_5,s_5s⟩ ⟨[],{}⟩ ⟨[],{}⟩ ⟨([DRecipe.mk ⟨#[101,110,101,114,103,121]⟩ ⟨l5,(G18 5).s⟩]:List DRecipe),⟨atB (G18 7).b,1,1⟩⟩)) 36,.blk ((G6 2).b) (ca (DStep.mk 3 ⟨([⟨#[97,108,108]⟩]:List ByteArray),⟨atB (G6 0).b,1,1⟩⟩ ⟨split_2,split_2s⟩ ByteArray.empty ⟨split_4,split_4s⟩ 0)) 39,.no,os true 39 losses lossess,.no,.no,.no,.no,.no,os false 137 l6 ((G20 2).ss 0),os false 141 l7 ((G20 2).ss 1),os false 22 l8 ((G20 2).ss 2),.blk ((G20 7).b) (ca (DFlow.mk ⟨l6,(G20 2).ss 0⟩ ⟨l7,(G20 2).ss 1⟩ ⟨l8,(G20 2).ss 2⟩)) 65]⟩) (fun i_1=>(0≤i_1)∧(i_1≤((Fr.frs (Fr.shQ weights) ((G21 1).sl 0)).length:Int))) (fun i_1=>(((Fr.frs (Fr.shQ weights) ((G21 1).sl 0)).length:Int)-i_1).toNat) 0 [10,1,8,9,2,3,4] ?_ ?_
  · refine ⟨?_,?_⟩
    · show 0≤(0:Int)
      first | omega | rfl | (simp;done) | (subst_vars;simp;done)
    show (0:Int)≤((Fr.frs (Fr.shQ weights) ((G21 1).sl 0)).length:Int)
    first | omega | rfl | (simp;done) | (subst_vars;simp;done)
  rintro i_1 hF2 kw28 Z2 hZ2;have hF2:(0≤i_1)∧(i_1≤((Fr.frs (Fr.shQ weights) ((G21 1).sl 0)).length:Int)):=hF2;obtain ⟨hf8,hf9⟩:=hF2;clear kw28;refine V.gf [.u 2,.ln (kG 0 (Fr.frs (Fr.shQ weights) ((G21 1).sl 0)) ((G21 1).ss 0)),.u 1] fun _ _ G27=>?_;intro S_ s_;refine V.cn (b:=decide (i_1 < ((Fr.frs (Fr.shQ weights) ((G21 1).sl 0)).length:Int))) iDT iDF (fun q9=>?_) (fun q10=>?_)
  · refine nm (l8.getD i_1.toNat default:Fat DFrac) fun x2 hx2=>?_;refine V.gf [.u 1,.l 12,.u 1,.iX (ko false 22 11 l8 (fun _=>(G20 2).ss 2)) i_1,.lE (ko false 22 11 l8 (fun _=>(G20 2).ss 2)) i_1 true x2 hx2 false,.ln (kx false (.g 4 0) x2 x2.l (fun _=>x2.s) (fun _ _ h=>h)),.u 1] fun _ _ G28=>?_;intro S_ s_
    have hrx:=hrw.2 i_1.toNat (by omega);rw [←hx2] at hrx;have hxl:=Rc.row_len hrx;refine V.cn (b:=!(decide ((x2.l.length:Int)=1))) (iNT iDF) (iNF iDT) (fun q11=>?_) (fun q12=>?_)
    · exfalso;have hqq:=q11;omega
    refine nm (x2.l.getD (0:Int).toNat default:DFrac) fun x3 hx3=>?_;refine nm ((Fr.frs (Fr.shQ weights) ((G21 1).sl 0)).getD i_1.toNat default:DFrac) fun x4 hx4=>?_;have hyf:=Rc.frs_at (V:=Fr.shQ weights) (σ:=((G21 1).sl 0)) (j:=i_1.toNat) (by omega)
    rw [←hx4] at hyf;have hsame:=Rd.row_same hrx hyf.1 hyf.2;simp only at hsame;rw [show (0:Nat)=(0:Int).toNat from rfl,← hx3] at hsame;refine V.gf [.u 1,.l 12,.u 1,.iX (ko false 22 11 l8 (fun _=>(G20 2).ss 2)) i_1,.lE (ko false 22 11 l8 (fun _=>(G20 2).ss 2)) i_1 true x2 hx2 false,.iX (kx false (.g 4 0) x2 x2.l (fun _=>x2.s) (fun _ _ h=>h)) 0,.lE (kx false (.g 4 0) x2 x2.l (fun _=>x2.s) (fun _ _ h=>h)) (0:Int) true x3 hx3 true,.u 2,.iX (kG 0 (Fr.frs (Fr.shQ weights) ((G21 1).sl 0)) ((G21 1).ss 0)) i_1,.lE (kG 0 (Fr.frs (Fr.shQ weights) ((G21 1).sl 0)) ((G21 1).ss 0)) i_1 true x4 hx4 true,.cP 11 11 [(kx false (.g 6 0) x3 x3.P.Digits.l (fun _=>x3.P.Digits.s) (fun _ H (h:Dat.good H (x3:DFrac))=>h.1)).a,(kx false (.g 6 0) x3 x3.Q.Digits.l (fun _=>x3.Q.Digits.s) (fun _ H (h:Dat.good H (x3:DFrac))=>h.2)).a,(kx true (.g 10 0) x4 x4.P.Digits.l (fun _=>x4.P.Digits.s) (fun _ H (h:Dat.good H (x4:DFrac))=>h.1)).a,(kx true (.g 10 0) x4 x4.Q.Digits.l (fun _=>x4.Q.Digits.s) (fun _ H (h:Dat.good H (x4:DFrac))=>h.2)).a] fun G=>fsame_ct x3.P.Sign x3.P.Digits.l x3.P.Digits.s x3.Q.Sign x3.Q.Digits.l x3.Q.Digits.s x4.P.Sign x4.P.Digits.l x4.P.Digits.s x4.Q.Sign x4.Q.Digits.l x4.Q.Digits.s,.u 1] fun _ _ G29=>?_;intro S_ s_
    refine V.cn (b:=!(decide (x3.P.Sign=x4.P.Sign∧x3.P.Digits.l=x4.P.Digits.l∧x3.Q.Sign=x4.Q.Sign∧x3.Q.Digits.l=x4.Q.Digits.l))) (iNT iDF) (iNF iDT) (fun q13=>?_) (fun q14=>?_)
    · exfalso;exact q13 hsame
    refine V.gf [.u 1,.aa (i_1+1),.u 1] fun _ _ G30=>?_;intro S_ s_
    refine V.rn hZ2 (i_1+1) [0,1,2,3,4,5,6] ?_ ?_
    · refine ⟨?_,?_⟩
      · show 0≤(i_1+1)
        first | omega | rfl | (simp;done) | (subst_vars;simp;done)
      show (i_1+1)≤((Fr.frs (Fr.shQ weights) ((G21 1).sl 0)).length:Int)
      first | omega | rfl | (simp;done) | (subst_vars;simp;done)
    show (((Fr.frs (Fr.shQ weights) ((G21 1).sl 0)).length:Int)-(i_1+1)).toNat < (((Fr.frs (Fr.shQ weights) ((G21 1).sl 0)).length:Int)-i_1).toNat;omega
  refine V.g [.kb true,.kb true] fun _ _ G31=>?_;intro S_ s_
  exact V.rS [0] [] [] [] [] []

open Go Go.RowKit Go.WideShapes Go.ChangeShapes
section
variable {H : Type} {enc : TypeId × Value → H} {P : Program}
theorem law_post {f:Func} {s:ChangeSpec} {apart fresh handsOn again:Bool} {W W':World} {args:Array Value} {v:Value} {ds gs:List (DataW H)} {before pa pv:List MemPlace}
    (hW:DataW.Whole enc P f.params.toList s.vars apart W args.toList ds gs before)
    (hres:∀ (b:Nat) (sp:Nat→Bool) (hd:Bool),DataW.TrodAll enc P W' b sp hd f.resultTypes.toList (v.resultList f.resultTypes.size) (s.fn H (ds ++gs)).results [])
    (hargs:∀ sp:Nat→Bool,(∀ p ∈ before,sp p.block=true)→DataW.TrodAll enc P W' 0 sp true f.params.toList args.toList (s.fn H (ds ++gs)).args pa)
    (hvars:∀ sp:Nat→Bool,(∀ p ∈ before,sp p.block=true)→DataW.TrodVars enc P W' sp s.vars (s.fn H (ds ++gs)).vars pv)
    (hps:before=pa ++pv) (hb:Base [] W W')
    (hok:∀ (j:Nat) (t:TypeId) (r:Value),f.resultTypes[j]?=some t→(v.resultList f.resultTypes.size)[j]?=some r→Value.okWide P W' .any 0 t r) :
    s.post enc P f apart fresh handsOn again W args v W':=by
  have low:∀ p ∈ before,p.block < W.heap.size:=fun p hp=>hW.lt p hp
  have mark:∀ p ∈ before,(fun b=>decide (b < W.heap.size)) p.block=true:=fun p hp=>decide_eq_true (low p hp)
  have back:=hb.below
  refine ⟨ds,gs,before,[],pa,pv,hW,hres _ _ _,hargs _ mark,hvars _ mark,World.keptBut_mono (fun p hp=>⟨hp,by rw [hps,List.mem_append] at hp;exact Or.inr hp⟩) (back.frame (· ∈ before)),fun _=>?_⟩
  obtain ⟨_,_,_,_,_,hz,hn⟩:=hW
  refine ⟨hok,_,_,([] ++pa) ++pv,⟨[] ++pa,pv,trodAll_append (hargs _ fun _ _=>rfl) (hres _ _ _),hvars _ fun _ _=>rfl,rfl,fun b off hp=>?_,fun ha=>?_⟩,fun p hp _=>?_⟩
  · have hin:MemPlace.cell b off ∈ before:=by rw [hps];simpa using hp
    rw [back.frozen (low _ hin)]
    exact hz b off hin
  · have:=hn ha
    rw [hps] at this;simpa using this
  · rw [hps];simpa using hp
end

open Go Go.RowKit Go.WideShapes Go.ChangeShapes
theorem whole_agrees (w:World):Agrees w (whole w):=fun _ _ h=>h
theorem hcells_of {w:World} {a:Addr} {vs:List Value} (h0:vs≠[]) (h:∀ (j:Nat) (v:Value),vs[j]?=some v→w.cell? (a.add j)=some v):HCells (whole w) a vs:=by
  obtain ⟨v0,vs',rfl⟩:=List.exists_cons_of_ne_nil h0
  have h1:=h 0 v0 rfl
  have e0:a.add 0=a:=by simp [Addr.add]
  rw [e0] at h1
  have hs:=World.cell?_spot h1
  unfold World.cell? at h1
  split at h1
  · rename_i c T fr hb
    refine ⟨hs,c,T,fr,hb,fun j v hj=>?_⟩
    have h2:=h j v hj
    rw [add_eq hs] at h2
    simpa [World.cell?,hb] using h2
  · cases h1
structure Opens (P:Program) (w:World) (e:TypeId) (α:Type) [Dat α]:Prop where
  cells:P.cellsOf e=Dat.size α
  full:0 < Dat.size α
  data:∀ {H:Type} {enc:TypeId × Value→H} {base:Nat} {sp:Nat→Bool} {held:Bool} {n:Nat} {cs:List Value} {x:DataW H × List MemPlace},DataW.trod enc P w base sp held n e cs=some x→∃ y:α,cs=Dat.cells y∧Dat.good (whole w) y
section
variable {H : Type} {enc : TypeId × Value → H} {P : Program} {w : World} {base : Nat} {sp : Nat → Bool} {held : Bool}
theorem cells_get {a:Addr} {n:Nat} {cs:List Value} (h:w.cells? base a n=some cs):∀ (j:Nat) (v:Value),cs[j]?=some v→w.cell? (a.add j)=some v:=by
  intro j v hj
  unfold World.cells? at h
  split at h
  · have hl:=mapM_some_length h
    have hlt:=(List.getElem?_eq_some_iff.1 hj).1
    rw [hl,List.length_range] at hlt
    have:=mapM_some_get h j j (by simp [hlt])
    rw [this,hj]
  · cases h
theorem opens_slice {α:Type} [Dat α] {t e:TypeId} (ht:P.underlying t=some (.slice e)) (o:Opens P w e α) {fuel:Nat} {cs:List Value} {x:DataW H × List MemPlace} (h:DataW.trod enc P w base sp held fuel t cs=some x) :
    ∃ (l:List α) (s:SV),cs=[s.v]∧RSl (whole w) l s.v:=by
  rcases DataW.trod_slice ht h with ⟨rfl,_⟩ | ⟨a,len,cap,elems,rest,n,_,rfl,_,_,hl,hm,hlen,hel,_⟩
  · exact ⟨[],{},rfl,RSl.nil⟩
  · have each:∀ i,i < len→∃ y:α,w.cells? base (a.add (i * Dat.size α)) (Dat.size α)=some (Dat.cells y)∧Dat.good (whole w) y:=fun i hi=>by
      have h1:=hel i hi
      rw [o.cells,List.getElem?_eq_getElem (by omega),Option.bind_eq_some_iff] at h1
      obtain ⟨cs',h2,h3⟩:=h1
      obtain ⟨y,rfl,hg⟩:=o.data h3
      exact ⟨y,h2,hg⟩
    have ⟨f,hf⟩:∃ f:Nat→α,∀ i,i < len→w.cells? base (a.add (i * Dat.size α)) (Dat.size α)=some (Dat.cells (f i))∧Dat.good (whole w) (f i) :=
      ⟨fun i=>if hi:i < len then Classical.choose (each i hi) else default,fun i hi=>by simp only [dif_pos hi];exact Classical.choose_spec (each i hi)⟩
    refine ⟨(List.range len).map f,⟨some a,len,cap⟩,rfl,⟨⟨?_,?_,some a,cap,?_,?_,hm,?_,?_⟩,?_⟩⟩
    · intro r hr;simp [rows] at hr;obtain ⟨i,_,rfl⟩:=hr;exact Dat.len _
    · intro r hr;simp [rows] at hr;obtain ⟨i,hi,rfl⟩:=hr;exact Dat.one _ _ (hf i hi).2
    · simp [SV.v]
    · simpa using hl
    · intro h;cases h
    · intro b hb hne
      cases hb
      have hrl:∀ r ∈ rows ((List.range len).map f),r.length=Dat.size α:=by intro r hr;simp [rows] at hr;obtain ⟨i,_,rfl⟩:=hr;exact Dat.len _
      have h0:0 < len:=by
        rcases Nat.eq_zero_or_pos len with h | h
        · subst h;simp [rows] at hne
        · exact h
      have hfl:=flatten_len hrl
      simp only [rows_length,List.length_map,List.length_range] at hfl
      have hsz:=o.full
      have hspot:a.spot=none:=by
        have h1:=cells_get (hf 0 h0).1
        have h2:(Dat.cells (f 0)).length=Dat.size α:=Dat.len _
        have h3:=h1 0 _ (List.getElem?_eq_getElem (by omega))
        have:=World.cell?_spot h3
        simpa [Addr.add] using this
      refine hcells_of (fun e=>?_) fun j v hj=>?_
      · rw [e] at hfl
        have:=Nat.mul_pos h0 hsz
        simp at hfl;omega
      · have hj2:=(List.getElem?_eq_some_iff.1 hj).1
        rw [hfl] at hj2
        have hk:j / Dat.size α < len:=Nat.div_lt_of_lt_mul (by rwa [Nat.mul_comm])
        have hr:j % Dat.size α < Dat.size α:=Nat.mod_lt _ hsz
        have h2:(Dat.cells (f (j / Dat.size α))).length=Dat.size α:=Dat.len _
        have e1:(rows ((List.range len).map f))[j / Dat.size α]?=some (Dat.cells (f (j / Dat.size α))):=by simp [rows,hk]
        have e2:=List.getElem?_eq_getElem (l:=Dat.cells (f (j / Dat.size α))) (i:=j % Dat.size α) (by omega)
        have e3:=flatten_get hrl _ _ _ _ e1 e2
        have ej:j / Dat.size α * Dat.size α+j % Dat.size α=j:=by rw [Nat.mul_comm];exact Nat.div_add_mod j _
        rw [ej,hj] at e3
        have h4:=cells_get (hf _ hk).1 _ _ e2
        rw [←Option.some.inj e3] at h4
        rw [←h4,add_eq hspot,add_eq (a:=a.add _) (by rw [add_eq hspot]),add_eq hspot]
        simp only [Nat.add_assoc,ej]
    · intro y hy;simp at hy;obtain ⟨i,hi,rfl⟩:=hy;exact (hf i hi).2
theorem Opens.field {α:Type} [Dat α] {t:TypeId} {fs:Array Field} (ht:P.underlying t=some (.struct fs)) {fuel:Nat} {cs:List Value} {x:DataW H × List MemPlace} (h:DataW.trod enc P w base sp held fuel t cs=some x)
    (i:Nat) {f:Field} (hi:fs[i]?=some f) (o:Opens P w f.type α):∃ y:α,(cs.drop f.offset).take (Dat.size α)=Dat.cells y∧Dat.good (whole w) y:=by
  obtain ⟨xs,n,_,_,_,hx,hf⟩:=DataW.trod_struct ht h
  have h1:=hf i f hi
  have hlt:=(Array.getElem?_eq_some_iff.1 hi).1
  rw [List.getElem?_eq_getElem (by omega),o.cells] at h1
  exact o.data h1
theorem struct_len {t:TypeId} {fs:Array Field} (ht:P.underlying t=some (.struct fs)) {fuel:Nat} {cs:List Value} {x:DataW H × List MemPlace} (h:DataW.trod enc P w base sp held fuel t cs=some x):cs.length=P.cellsOf t:=by
  obtain ⟨xs,n,_,_,hl,_⟩:=DataW.trod_struct ht h
  exact hl
theorem arg_slice {α:Type} [Dat α] {r:Reach} {b0:Nat} {t e:TypeId} (ht:P.underlying t=some (.slice e)) (o:Opens P w e α) {v:Value} {d:DataW H} {ps:List MemPlace} (hv:Value.okWide P w r b0 t v) (h:DataW.Trod enc P w base sp held t v d ps) :
    ∃ (l:List α) (s:SV),v=s.v∧RSl (whole w) l s.v:=by
  obtain ⟨n,hn⟩:=h
  obtain ⟨a,len,cap,rfl⟩:=okWide_slice ht hv
  obtain ⟨l,u,h1,h2⟩:=opens_slice ht o hn
  exact ⟨l,u,by injection h1,h2⟩
theorem keep_all (hl:laidOutB P=true) {W W':World} (hb:Below W.heap.size W W'):∀ {ts:List TypeId} {vs:List Value} {ds:List (DataW H)} {ps:List MemPlace},(ts.all fun t=>P.readableRec t && decide (t < P.types.size))=true →
    DataW.TrodAll enc P W 0 (fun _=>true) true ts vs ds ps→(∀ x ∈ ps,x.block < W.heap.size)→∀ sp':Nat→Bool,(∀ x ∈ ps,sp' x.block=true)→DataW.TrodAll enc P W' 0 sp' true ts vs ds ps
  | [],[],[],_,_,h,_,_,_=>h
  | t :: ts,_ :: _,_ :: _,_,ht,⟨p,q,h1,h2,e⟩,hlt,sp',hs=>by
    simp only [List.all_cons,Bool.and_eq_true,decide_eq_true_eq] at ht
    refine ⟨p,q,WideElems.Trod_stays hl ht.1.1 ht.1.2 h1 (fun x hx=>hb.same (hlt x (by rw [e];exact List.mem_append_left _ hx))) (fun x hx=>hs x (by rw [e];exact List.mem_append_left _ hx)),keep_all hl hb (by simpa using ht.2) h2 (fun x hx=>hlt x (by rw [e];exact List.mem_append_right _ hx)) sp' (fun x hx=>hs x (by rw [e];exact List.mem_append_right _ hx)),e⟩
theorem opens_fat {α:Type} [Dat α] {k e:TypeId} (ht:P.underlying k=some (.slice e)) (hc:P.cellsOf k=1) (o:Opens P w e α):Opens P w k (Fat α) :=
  ⟨hc,by show 0 < 1;decide,fun h=>by
    obtain ⟨l,s,rfl,hr⟩:=opens_slice ht o h
    exact ⟨⟨l,s⟩,rfl,hr⟩⟩
theorem Cp.law {P:Program} {f:FuncId} {args:Array Value} {F:List FP} {v:Value} (h:Cp P f args F v) (W:World) (hF:conjL (F.map fun q=>q.p (whole W))):Calls P f args W fun e w'=>e=.returned v∧Base [] W w':=by
  refine (h W (whole W) (fun _=>none) (whole_agrees W) (fun q hq=>conjL_mem hF _ (List.mem_map_of_mem hq)) ⟨Base.refl _ _,fun K hK=>?_,fun k b o hk=>?_,fun k l b o o' hk _=>?_⟩ fun r x hx=>?_).mono ?_
  · have:K=whole W:=by simpa using hK
    subst this;exact whole_agrees W
  · simp [ents] at hk
  · simp [ents] at hk
  · simp at hx
  · rintro e w' ⟨g,C⟩
    exact ⟨C.ret,C.base⟩
theorem opens_int {k:TypeId} (ht:P.underlying k=some (.int .i64)) (hc:P.cellsOf k=1):Opens P w k Int :=
  ⟨hc,by decide,fun h=>by obtain ⟨n,rfl,_,_⟩:=DataW.trod_int ht h;exact ⟨n,rfl,trivial⟩⟩
end

open Go Go.Proofs
theorem opens_50 (w:World):Opens Tryz.prog w 50 DBig:=⟨by kernel_rfl,by decide,fun {_ _ _ _ _ _ cs _} h=>by
  have hl:cs.length=2:=(struct_len Tryz.underlying50 h).trans (by kernel_rfl)
  obtain ⟨y0,e0,g0⟩:=Opens.field Tryz.underlying50 h 0 rfl (Kb.opens_int Tryz.underlying3 (by kernel_rfl))
  obtain ⟨y1,e1,g1⟩:=Opens.field Tryz.underlying50 h 1 rfl (Kb.opens_fat Tryz.underlying48 (by kernel_rfl) (Kb.opens_int Tryz.underlying3 (by kernel_rfl)))
  obtain ⟨c0,c1,rfl⟩:∃ c0 c1,cs=[c0,c1]:=by
    rcases cs with _ | ⟨c0,_ | ⟨c1,_ | ⟨_,_⟩⟩⟩
    all_goals first | exact ⟨_,_,rfl⟩ | (simp at hl;done) | (simp at hl;omega)
  simp [Dat.cells,Dat.size] at e0 e1
  refine ⟨⟨y0,y1⟩,?_,g1⟩
  simp [Dat.cells,e0,e1]⟩
theorem opens_52 (w:World):Opens Tryz.prog w 52 DFrac:=⟨by kernel_rfl,by decide,fun {_ _ _ _ _ _ cs _} h=>by
  have hl:cs.length=4:=(struct_len Tryz.underlying52 h).trans (by kernel_rfl)
  obtain ⟨y0,e0,g0⟩:=Opens.field Tryz.underlying52 h 0 rfl (Kb.opens_50 w)
  obtain ⟨y1,e1,g1⟩:=Opens.field Tryz.underlying52 h 1 rfl (Kb.opens_50 w)
  obtain ⟨c0,c1,c2,c3,rfl⟩:∃ c0 c1 c2 c3,cs=[c0,c1,c2,c3]:=by
    rcases cs with _ | ⟨c0,_ | ⟨c1,_ | ⟨c2,_ | ⟨c3,_ | ⟨_,_⟩⟩⟩⟩⟩
    all_goals first | exact ⟨_,_,_,_,rfl⟩ | (simp at hl;done) | (simp at hl;omega)
  simp [Dat.cells,Dat.size] at e0 e1
  refine ⟨⟨y0,y1⟩,?_,⟨g0,g1⟩⟩
  simp [Dat.cells,e0,e1]⟩
end Kb
