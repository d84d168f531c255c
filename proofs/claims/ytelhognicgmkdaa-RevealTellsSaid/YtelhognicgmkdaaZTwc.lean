/- Texts for the claim, put together: the calculus of regions, its rules, and contracts of the functions that the law reaches. -/
import Derived.Test.YtelhognicgmkdaaZTwb
set_option linter.unusedVariables false
set_option linter.unusedSimpArgs false
namespace Kb
open Go Go.Proofs
set_option maxRecDepth 10000 in
theorem isLeaf_ct (c:ByteArray) (d e a f:Int) :
    Cp Try.prog 55 #[ag (DThing.mk c d e a f)] [] (bv (decide (a= -1))):=by
  refine V.fn mo Try.func55 6 1 (by kernel_rfl) fun w H ε k0=>?_;clear k0
  refine V.g [.nb 0 0 (fun b=>pp b 0) 41 (fun _=>ca (DThing.mk c d e a f)),.kb false] fun _ _ G1=>?_;intro S s
  refine V.g [.k (pp ((G1 0).b) 3),.ld 0 3 false (fun _=>[iv a]),.k (bv (decide (a=(-1)))),.k (bv (decide (a=(-1))))] fun _ _ G2=>?_;intro S s
  have e0:(decide (a=(-1)))=decide (a= -1):=by
    refine Bool.eq_iff_iff.2 (Iff.trans iDT (Iff.trans ?_ decide_eq_true_iff.symm));exact Iff.rfl
  exact V.rt [0] [] [] [] [] [] (bv (decide (a=(-1)))) (cong1 (fun (x0:Bool)=>(bv x0:Value)) e0)
set_option maxRecDepth 10000 in
theorem has_ct (v:List DThing) (vs:SV) (i:Int) :
    Cp Try.prog 37 #[ag (DVault.mk ⟨v,vs⟩),iv i] [fs true v vs] (bv (decide (0≤i∧i < (v.length:Int)))):=by
  refine V.fn mo Try.func37 14 1 (by kernel_rfl) fun w H ε k0=>?_;obtain ⟨⟨kl1, -⟩, -⟩:Lq v vs.v∧True:=kq k0
  clear k0;refine V.g [.nb 0 0 (fun b=>pp b 0) 24 (fun _=>ca (DVault.mk ⟨v,vs⟩)),.kb false] fun _ _ G1=>?_;intro S s
  refine nm ((decide (0≤i)) && (decide (i < (v.length:Int))):Bool) fun p1 hp1=>?_;refine V.g [.k (iv i),.k (bv (decide (0≤i))),.k (bv (decide (0≤i))),.k (iv i),.k (pp ((G1 0).b) 0),.ld 0 0 false (fun _=>[vs.v]),.ln (kf false (.f 0) v (fun _=>vs)),.k (bv (decide (i < (v.length:Int)))),.andn g0 false (decide (0≤i)) (decide (i < (v.length:Int))) p1 hp1,.k (bv p1)] fun _ _ G2=>?_;intro S s
  have e0:p1=decide (0≤i∧i < (v.length:Int)):=by
    refine Bool.eq_iff_iff.2 (Iff.trans (iN hp1 (iAT iDT iDT)) (Iff.trans ?_ decide_eq_true_iff.symm));exact Iff.rfl
  exact V.rt [0] [] [] [] [] [] (bv p1) (cong1 (fun (x0:Bool)=>(bv x0:Value)) e0)
set_option maxRecDepth 10000 in
theorem tleaf_ct (text:ByteArray) (value blind:Int) :
    Cp Try.prog 49 #[tv text,iv value,iv blind] [] (ag (DThing.mk text value blind (-1) (-1))):=by
  refine V.fn mo Try.func49 11 1 (by kernel_rfl) fun w H ε k0=>?_;clear k0
  refine V.g [.nb 0 0 (fun b=>pp b 0) 41 (fun _=>ca (DThing.mk ByteArray.empty 0 0 0 0))] fun _ _ G1=>?_;intro S s
  refine V.g [.k (tv text),.k (iv value),.k (iv blind),.k (ag (DThing.mk text value blind (-1) (-1))),.st 0 (fun _=>.blk ((G1 0).b) (ca (DThing.mk text value blind (-1) (-1))) 41)] fun _ _ G2=>?_;intro S s
  exact V.rs [0] [] [] [] [] [] (ag (DThing.mk text value blind (-1) (-1)))
set_option maxRecDepth 10000 in
theorem walks_ct (v:List DThing) (vs:SV) (path:List Int) (paths:SV) :
    Cp Try.prog 40 #[ag (DVault.mk ⟨v,vs⟩),paths.v] [fs true v vs,fs true path paths] (bv (decide (Tm.Walks v path))):=by
  refine V.fn mo Try.func40 49 2 (by kernel_rfl) fun w H ε k0=>?_;obtain ⟨⟨kl1, -⟩,⟨kl2, -⟩, -⟩:Lq v vs.v∧Lq path paths.v∧True:=kq k0
  clear k0;refine V.g [.nb 0 0 (fun b=>pp b 0) 24 (fun _=>ca (DVault.mk ⟨v,vs⟩)),.kb false] fun _ _ G1=>?_;intro S s
  refine nm ((!(decide (Tm.Sound v))) || (decide ((path.length:Int)=0)):Bool) fun p1 hp1=>?_;refine V.g [.ld 0 0 true (fun _=>Dat.cells (DVault.mk ⟨v,vs⟩)),.cp g0 1 18 [(kf false (.f 0) v (fun _=>vs)).a] (fun _ G=>sound_ct v vs),.k (bv (!(decide (Tm.Sound v)))),.k (bv (!(decide (Tm.Sound v)))),.k (paths.v),.ln (kf false (.f 1) path (fun _=>paths)),.k (bv (decide ((path.length:Int)=0))),.orn g0 false (!(decide (Tm.Sound v))) (decide ((path.length:Int)=0)) p1 hp1] fun _ _ G2=>?_;intro S s
  refine V.cn (b:=p1) (iN hp1 (iOT (iNT iDF) iDT)) (iN hp1 (iOF (iNF iDT) iDF)) (fun q1=>?_) (fun q2=>?_)
  · refine V.g [.kb false] fun _ _ G3=>?_;intro S s
    have e0:false=decide (Tm.Walks v path):=by
      symm;rw [decide_eq_false_iff_not];rintro ⟨h1,h2,_⟩;rcases q1 with h | h
      · exact h h1
      omega
    exact V.rt [0] [] [] [] [] [] (bv false) (cong1 (fun (x0:Bool)=>(bv x0:Value)) e0)
  refine V.g [.k (paths.v),.ln (kf false (.f 1) path (fun _=>paths)),.k (iv 0)] fun _ _ G4=>?_;intro S s
  refine V.loop (γ:=Int) (fun k0=>⟨[(1,paths.v),(2,pp ((G1 0).b) 0),(16,paths.v),(17,iv (path.length:Int)),(18,iv k0)],[fs false path paths,fs false v vs],[.blk ((G1 0).b) (ca (DVault.mk ⟨v,vs⟩)) 24,.no]⟩) (fun k0=>(0≤k0)∧(k0≤(path.length:Int))∧(Tm.walksTo v path k0.toNat)) (fun k0=>((path.length:Int)-k0).toNat) 0 (by kernel_rfl) [1,0] (by kernel_rfl) ?_ ?_
  · refine ⟨?_,?_,?_⟩
    · show 0≤(0:Int)
      first | omega | rfl | (simp;done) | (subst_vars;simp;done)
    · show (0:Int)≤(path.length:Int)
      first | omega | rfl | (simp;done) | (subst_vars;simp;done)
    show Tm.walksTo v path (0:Int).toNat;intro i hi;simp at hi
  rintro k0 hF1 kw5 Z1 hZ1;have hF1:(0≤k0)∧(k0≤(path.length:Int))∧(Tm.walksTo v path k0.toNat):=hF1;obtain ⟨hf1,hf2,hf3⟩:=hF1;clear kw5;refine V.g [.k (bv (decide (k0 < (path.length:Int))))] fun _ _ G5=>?_;intro S s;refine V.cn (b:=decide (k0 < (path.length:Int))) iDT iDF (fun q3=>?_) (fun q4=>?_)
  · refine nm (path.getD k0.toNat default:Int) fun v1 hv1=>?_;refine V.g [.k (iv k0),.ix g0 (kf false (.f 0) path (fun _=>paths)) k0 (fun _=>⟨by omega,by omega⟩),.le g0 (kf false (.f 0) path (fun _=>paths)) k0 none false v1 hv1 (fun _=>⟨by omega,by omega⟩) false (fun _=>[iv v1]),.k (iv k0),.k (iv v1)] fun _ _ G6=>?_;intro S s
    refine V.g [.ld 0 0 true (fun _=>Dat.cells (DVault.mk ⟨v,vs⟩)),.k (iv v1),.cp g0 2 37 [(kf false (.f 1) v (fun _=>vs)).a] (fun _ G=>has_ct v vs v1),.k (bv (!(decide (0≤v1∧v1 < (v.length:Int)))))] fun _ _ G7=>?_;intro S s
    refine V.cn (b:=!(decide (0≤v1∧v1 < (v.length:Int)))) (iNT iDF) (iNF iDT) (fun q5=>?_) (fun q6=>?_)
    · refine V.g [.kb false] fun _ _ G8=>?_;intro S s
      have e0:false=decide (Tm.Walks v path):=Tm.walks_no_has (k:=k0) (by omega) (by omega) (by assumption) q5;exact V.rt [0] [] [] [] [] [] (bv false) (cong1 (fun (x0:Bool)=>(bv x0:Value)) e0)
    refine V.g [.k (iv k0),.k (bv (decide (0 < k0)))] fun _ _ G9=>?_;intro S s
    refine V.cn (b:=decide (0 < k0)) iDT iDF (fun q7=>?_) (fun q8=>?_)
    · refine nm (path.getD (k0-1).toNat default:Int) fun v2 hv2=>?_;refine nm (v.getD v2.toNat default:DThing) fun x1 hx1=>?_;have hpv:=Tm.walks_prev (k:=k0) (by assumption) (by omega) rfl (by assumption)
      refine V.g [.k (pp ((G1 0).b) 0),.ld 0 0 false (fun _=>[vs.v]),.k (paths.v),.k (iv k0),.a (k0-1) (by omega) (by omega),.ix g0 (kf false (.f 0) path (fun _=>paths)) (k0-1) (fun _=>⟨by omega,by omega⟩),.le g0 (kf false (.f 0) path (fun _=>paths)) (k0-1) none false v2 hv2 (fun _=>⟨by omega,by omega⟩) false (fun _=>[iv v2]),.ix g0 (kf false (.f 1) v (fun _=>vs)) v2 (fun _=>⟨by omega,by omega⟩),.le g0 (kf false (.f 1) v (fun _=>vs)) v2 none false x1 hx1 (fun _=>⟨by omega,by omega⟩) true (fun _=>Dat.cells x1),.nb 9 1 (fun b=>pp b 0) 41 (fun _=>ca (DThing.mk ByteArray.empty 0 0 0 0)),.st 1 (fun G=>.blk ((G 9).b) (ca x1) 41)] fun _ _ G10=>?_;intro S s
      refine nm ((!(decide (x1.Left=v1))) && (!(decide (x1.Right=v1))):Bool) fun p2 hp2=>?_;refine V.g [.k (pp ((G10 9).b) 3),.ld 1 3 false (fun _=>[iv x1.Left]),.k (iv v1),.k (bv (!(decide (x1.Left=v1)))),.k (bv (!(decide (x1.Left=v1)))),.k (pp ((G10 9).b) 4),.ld 1 4 false (fun _=>[iv x1.Right]),.k (iv v1),.k (bv (!(decide (x1.Right=v1)))),.andn g0 false (!(decide (x1.Left=v1))) (!(decide (x1.Right=v1))) p2 hp2] fun _ _ G11=>?_;intro S s
      refine V.cn (b:=p2) (iN hp2 (iAT (iNT iDF) (iNT iDF))) (iN hp2 (iAF (iNF iDT) (iNF iDT))) (fun q9=>?_) (fun q10=>?_)
      · refine V.g [.kb false] fun _ _ G12=>?_;intro S s
        have e0:false=decide (Tm.Walks v path):=Tm.walks_no_step (k:=k0) (by omega) (by omega) (by assumption) rfl (by assumption) (by assumption) q9;exact V.rt [0] [] [] [] [] [] (bv false) (cong1 (fun (x0:Bool)=>(bv x0:Value)) e0)
      refine V.g [.a (k0+1) (by omega) (by omega),.k (iv (k0+1))] fun _ _ G13=>?_;intro S s
      refine V.rnd hZ1 (k0+1) [0,1] (by kernel_rfl) ?_ ?_
      · refine ⟨?_,?_,?_⟩
        · show 0≤(k0+1)
          first | omega | rfl | (simp;done) | (subst_vars;simp;done)
        · show (k0+1)≤(path.length:Int)
          first | omega | rfl | (simp;done) | (subst_vars;simp;done)
        show Tm.walksTo v path (k0+1).toNat;refine Tm.walks_step (by assumption) (by assumption) rfl (by assumption) (by assumption) ?_;intro h;exact ⟨_,_,_,rfl,by assumption,by assumption,by omega⟩
      show ((path.length:Int)-(k0+1)).toNat < ((path.length:Int)-k0).toNat;omega
    refine V.g [.a (k0+1) (by omega) (by omega),.k (iv (k0+1))] fun _ _ G14=>?_;intro S s
    refine V.rnd hZ1 (k0+1) [0,1] (by kernel_rfl) ?_ ?_
    · refine ⟨?_,?_,?_⟩
      · show 0≤(k0+1)
        first | omega | rfl | (simp;done) | (subst_vars;simp;done)
      · show (k0+1)≤(path.length:Int)
        first | omega | rfl | (simp;done) | (subst_vars;simp;done)
      show Tm.walksTo v path (k0+1).toNat;refine Tm.walks_step (by assumption) (by assumption) rfl (by assumption) (by assumption) ?_;intro h;omega
    show ((path.length:Int)-(k0+1)).toNat < ((path.length:Int)-k0).toNat;omega
  refine V.g [.kb true] fun _ _ G15=>?_;intro S s
  have e0:true=decide (Tm.Walks v path):=by
    symm;rw [decide_eq_true_iff]
    refine ⟨by rcases q2 with ⟨h,_⟩;first | exact h | exact Decidable.not_not.1 h,by omega,?_⟩
    rwa [show path.length=k0.toNat by omega]
  exact V.rt [0] [] [] [] [] [] (bv true) (cong1 (fun (x0:Bool)=>(bv x0:Value)) e0)
set_option maxRecDepth 10000 in
theorem reach_ct (v:List DThing) (vs:SV) (leaf:Int) (hS:Tm.Sound v) (hh:0≤leaf∧leaf < (v.length:Int)) :
    Ct Try.prog 38 #[ag (DVault.mk ⟨v,vs⟩),iv leaf] [fs true v vs] [] (fun g=>((g.ss 0)).v) (fun g=>[fs true (Tm.reachF v leaf) (g.ss 0)]) (fun g=>[]) (fun g=>[]):=by
  refine V.fn mo Try.func38 49 3 (by kernel_rfl) fun w H ε k0=>?_;obtain ⟨⟨kl1, -⟩, -⟩:Lq v vs.v∧True:=kq k0
  clear k0;have hS1:=hS.1;refine V.g [.nb 0 0 (fun b=>pp b 0) 24 (fun _=>ca (DVault.mk ⟨v,vs⟩)),.k (.slice none 0 0)] fun _ _ G1=>?_;intro S_ s_
  refine nm (List.replicate (v.length:Int).toNat false:List Bool) fun l1 hl1=>?_;have hl1n:=congrArg List.length hl1;try simp only [List.length_append,List.length_cons,List.length_nil,List.length_replicate,List.length_set,List.length_take,List.length_drop,List.length_map,List.length_reverse,List.length_range] at hl1n
  refine V.g [.k (pp ((G1 0).b) 0),.ld 0 0 false (fun _=>[vs.v]),.ln (kf false (.f 0) v (fun _=>vs)),.mks 3 1 4 1 (v.length:Int) l1 hl1 (by omega) (by omega) (by omega),.v fun G=>((G 3).s).v] fun _ _ G2=>?_;intro S_ s_
  refine nm (l1.getD leaf.toNat default:Bool) fun x1 hx1=>?_;refine nm (l1.set leaf.toNat true:List Bool) fun l2 hl2=>?_;have hl2n:=congrArg List.length hl2;try simp only [List.length_append,List.length_cons,List.length_nil,List.length_replicate,List.length_set,List.length_take,List.length_drop,List.length_map,List.length_reverse,List.length_range] at hl2n
  refine V.g [.k (((G2 3).s).v),.k (iv leaf),.ix g0 (ko true 4 1 l1 (fun _=>(G2 3).s)) leaf (fun _=>⟨by omega,by omega⟩),.se g0 3 1 4 true l1 (fun _=>(G2 3).s) leaf none x1 true hx1 true l2 hl2 (fun _=>⟨by omega,by omega⟩) (fun _=>rfl) [] (fun _ _ _ _=>trivial)] fun _ _ G3=>?_;intro S_ s_
  refine V.g [.k (iv leaf),.a (leaf+1) (by omega) (by omega),.k (iv (leaf+1))] fun _ _ G4=>?_;intro S_ s_
  refine V.loop (γ:=List Bool × SV × Int) (fun ⟨out,outs,i⟩=>⟨[(2,pp ((G1 0).b) 0),(5,outs.v),(6,iv i)],[fs false v vs],[.blk ((G1 0).b) (ca (DVault.mk ⟨v,vs⟩)) 24,os true 4 out outs,.no]⟩) (fun ⟨out,outs,i⟩=>(leaf < i)∧(i≤(v.length:Int))∧(out=Tm.reachW v leaf i.toNat)) (fun ⟨out,outs,i⟩=>((v.length:Int)-i).toNat) (l2,(G2 3).s,leaf+1) (by kernel_rfl) [0] (by kernel_rfl) ?_ ?_
  · refine ⟨?_,?_,?_⟩
    · show leaf < (leaf+1)
      first | omega | rfl | (simp;done) | (subst_vars;simp;done)
    · show (leaf+1)≤(v.length:Int)
      first | omega | rfl | (simp;done) | (subst_vars;simp;done)
    show l2=Tm.reachW v leaf (leaf+1).toNat;rw [←Tm.reachW_start hh.1 hh.2]
    subst_vars
    simp
  rintro ⟨out,outs,i⟩ hF1 kw5 Z1 hZ1;have hF1:(leaf < i)∧(i≤(v.length:Int))∧(out=Tm.reachW v leaf i.toNat):=hF1;obtain ⟨hf1,hf2,hf3⟩:=hF1;obtain ⟨-,⟨kl2, -⟩, -⟩:Lq v vs.v∧Lq out outs.v∧True:=kq kw5;clear kw5;have hol:out.length=v.length:=by rw [hf3];exact Tm.reachW_length (by omega)
  refine V.g [.k (iv i),.k (outs.v),.ln (ko true 4 1 out (fun _=>outs)),.k (bv (decide (i < (out.length:Int))))] fun _ _ G5=>?_;intro S_ s_
  refine V.cn (b:=decide (i < (out.length:Int))) iDT iDF (fun q1=>?_) (fun q2=>?_)
  · refine nm (v.getD i.toNat default:DThing) fun x2 hx2=>?_;refine V.g [.k (pp ((G1 0).b) 0),.ld 0 0 false (fun _=>[vs.v]),.k (iv i),.ix g0 (kf false (.f 0) v (fun _=>vs)) i (fun _=>⟨by omega,by omega⟩),.le g0 (kf false (.f 0) v (fun _=>vs)) i none false x2 hx2 (fun _=>⟨by omega,by omega⟩) true (fun _=>Dat.cells x2),.nb 5 2 (fun b=>pp b 0) 41 (fun _=>ca (DThing.mk ByteArray.empty 0 0 0 0)),.st 2 (fun G=>.blk ((G 5).b) (ca x2) 41)] fun _ _ G6=>?_;intro S_ s_
    refine nm (out.getD x2.Left.toNat default:Bool) fun x3 hx3=>?_;refine nm (out.getD x2.Right.toNat default:Bool) fun x4 hx4=>?_;refine nm (out.getD i.toNat default:Bool) fun x5 hx5=>?_;refine nm (out.set i.toNat ((!(decide (x2.Left= -1))) && (x3 || x4)):List Bool) fun l3 hl3=>?_;have hl3n:=congrArg List.length hl3;try simp only [List.length_append,List.length_cons,List.length_nil,List.length_replicate,List.length_set,List.length_take,List.length_drop,List.length_map,List.length_reverse,List.length_range] at hl3n
    refine V.g [.k (outs.v),.k (iv i),.ld 2 0 true (fun _=>Dat.cells x2),.cp g0 3 55 [] (fun _ G=>isLeaf_ct x2.Text x2.Value x2.Blind x2.Left x2.Right),.k (bv (!(decide (x2.Left= -1)))),.k (bv (!(decide (x2.Left= -1)))),.k (outs.v),.k (pp ((G6 5).b) 3),.ld 2 3 false (fun _=>[iv x2.Left]),.ix (gT (b:=!(decide (x2.Left= -1))) (iNT iDF)) (ko true 4 1 out (fun _=>outs)) x2.Left (fun hg=>(by have hsp:=Tm.sound_pair hS (k:=i) (by omega) (by omega) (by assumption) hg;constructor <;> omega)),.le (gT (b:=!(decide (x2.Left= -1))) (iNT iDF)) (ko true 4 1 out (fun _=>outs)) x2.Left none false x3 hx3 (fun hg=>(by have hsp:=Tm.sound_pair hS (k:=i) (by omega) (by omega) (by assumption) hg;constructor <;> omega)) false (fun _=>[bv x3]),.k (bv x3),.k (outs.v),.k (pp ((G6 5).b) 4),.ld 2 4 false (fun _=>[iv x2.Right]),.ix ((gT (b:=!(decide (x2.Left= -1))) (iNT iDF)).F (b:=x3) Iff.rfl) (ko true 4 1 out (fun _=>outs)) x2.Right (fun hg=>(by have hsp:=Tm.sound_pair hS (k:=i) (by omega) (by omega) (by assumption) hg.1;constructor <;> omega)),.le ((gT (b:=!(decide (x2.Left= -1))) (iNT iDF)).F (b:=x3) Iff.rfl) (ko true 4 1 out (fun _=>outs)) x2.Right none false x4 hx4 (fun hg=>(by have hsp:=Tm.sound_pair hS (k:=i) (by omega) (by omega) (by assumption) hg.1;constructor <;> omega)) false (fun _=>[bv x4]),.or (gT (b:=!(decide (x2.Left= -1))) (iNT iDF)) false x3 x4,.and g0 false (!(decide (x2.Left= -1))) (x3 || x4),.ix g0 (ko true 4 1 out (fun _=>outs)) i (fun _=>⟨by omega,by omega⟩),.se g0 20 1 4 true out (fun _=>outs) i none x5 ((!(decide (x2.Left= -1))) && (x3 || x4)) hx5 true l3 hl3 (fun _=>⟨by omega,by omega⟩) (fun _=>rfl) [] (fun _ _ _ _=>trivial)] fun _ _ G7=>?_;intro S_ s_
    refine V.g [.k (iv i),.a (i+1) (by omega) (by omega),.k (iv (i+1))] fun _ _ G8=>?_;intro S_ s_
    refine V.rnd hZ1 (l3,outs,i+1) [0] (by kernel_rfl) ?_ ?_
    · refine ⟨?_,?_,?_⟩
      · show leaf < (i+1)
        first | omega | rfl | (simp;done) | (subst_vars;simp;done)
      · show (i+1)≤(v.length:Int)
        first | omega | rfl | (simp;done) | (subst_vars;simp;done)
      show l3=Tm.reachW v leaf (i+1).toNat;rw [hl3];exact Tm.reach_round hS hh.1 (by omega) (by omega) (by assumption) hf3 (by first | rfl | (subst_vars;rfl)) rfl
    show ((v.length:Int)-(i+1)).toNat < ((v.length:Int)-i).toNat;omega
  refine V.g [.k (outs.v),.k (outs.v)] fun _ _ G9=>?_;intro S_ s_
  refine V.frz 1 true 4 out outs (by kernel_rfl) ?_;have e0:out=Tm.reachF v leaf:=by
    rw [hf3];exact Tm.reachW_end (by omega)
  subst e0;exact V.rs [0] [outs] [fun _=>{}] [] [1] [] (outs.v)
set_option maxRecDepth 10000 in
theorem path_ct (v:List DThing) (vs:SV) (root leaf:Int) :
    Ct Try.prog 19 #[ag (DVault.mk ⟨v,vs⟩),iv root,iv leaf] [fs true v vs] [] (fun g=>((g.ss 0)).v) (fun g=>[fs true (Tm.pathF v root leaf) (g.ss 0)]) (fun g=>[]) (fun g=>[]):=by
  refine V.fn mo Try.func19 69 3 (by kernel_rfl) fun w H ε k0=>?_;obtain ⟨⟨kl1, -⟩, -⟩:Lq v vs.v∧True:=kq k0
  clear k0;refine V.g [.nb 0 0 (fun b=>pp b 0) 24 (fun _=>ca (DVault.mk ⟨v,vs⟩)),.k (.slice none 0 0)] fun _ _ G1=>?_;intro S_ s_
  refine nm ((!(decide (Tm.Sound v))) || (!(decide (0≤root∧root < (v.length:Int)))):Bool) fun p1 hp1=>?_;refine nm (p1 || (!(decide (0≤leaf∧leaf < (v.length:Int)))):Bool) fun p2 hp2=>?_;refine V.g [.ld 0 0 true (fun _=>Dat.cells (DVault.mk ⟨v,vs⟩)),.cp g0 1 18 [(kf false (.f 0) v (fun _=>vs)).a] (fun _ G=>sound_ct v vs),.k (bv (!(decide (Tm.Sound v)))),.k (bv (!(decide (Tm.Sound v)))),.ld 0 0 true (fun _=>Dat.cells (DVault.mk ⟨v,vs⟩)),.k (iv root),.cp (gF (b:=!(decide (Tm.Sound v))) (iNF iDT)) 6 37 [(kf false (.f 0) v (fun _=>vs)).a] (fun hg G=>has_ct v vs root),.k (bv (!(decide (0≤root∧root < (v.length:Int))))),.orn g0 false (!(decide (Tm.Sound v))) (!(decide (0≤root∧root < (v.length:Int)))) p1 hp1,.k (bv p1),.ld 0 0 true (fun _=>Dat.cells (DVault.mk ⟨v,vs⟩)),.k (iv leaf),.cp (gF (b:=p1) (iN hp1 (iOF (iNF iDT) (iNF iDT)))) 12 37 [(kf false (.f 0) v (fun _=>vs)).a] (fun hg G=>has_ct v vs leaf),.k (bv (!(decide (0≤leaf∧leaf < (v.length:Int))))),.orn g0 false p1 (!(decide (0≤leaf∧leaf < (v.length:Int)))) p2 hp2] fun _ _ G2=>?_;intro S_ s_
  refine V.cn (b:=p2) (iN hp2 (iOT (iN hp1 (iOT (iNT iDF) (iNT iDF))) (iNT iDF))) (iN hp2 (iOF (iN hp1 (iOF (iNF iDT) (iNF iDT))) (iNF iDT))) (fun q1=>?_) (fun q2=>?_)
  · refine V.g [.k (.slice none 0 0)] fun _ _ G3=>?_;intro S_ s_
    refine V.nilF (α:=Int) ?_;have e0:([]:List Int)=Tm.pathF v root leaf:=by
      symm;refine Tm.pathF_no ?_;rintro ⟨h1,h2,h3,_⟩;unfold Tm.has at h2 h3;rcases q1 with (h | h) | h
      · exact h h1
      · omega
      omega
    rw [←e0];exact V.rs [0] [{}] [fun _=>{}] [] [1] [] (SV.v ({}))
  have hS:Tm.Sound v:=by rcases q2 with ⟨⟨h,_⟩,_⟩;first | exact h | exact Decidable.not_not.1 h
  have hS1:=hS.1;have hnear:(Tm.reachF v leaf).length=v.length:=Tm.reachF_length _ _;refine V.r [.ld 0 0 true (fun _=>Dat.cells (DVault.mk ⟨v,vs⟩)),.k (iv leaf),.ct g0 2 38 false [] [] [(kf false (.f 0) v (fun _=>vs)).a] (fun _ G=>reach_ct v vs leaf hS (by omega)),.v fun G=>((G 2).ss 0).v] fun _ _ G4 kw4=>?_;intro S_ s_
  obtain ⟨⟨kl2, -⟩, -⟩:Lq (Tm.reachF v leaf) (((G4 2).ss 0).v)∧True:=kq kw4;clear kw4;refine nm ((Tm.reachF v leaf).getD root.toNat default:Bool) fun x1 hx1=>?_;refine V.g [.k (((G4 2).ss 0).v),.k (iv root),.ix g0 (kf true (.f 1) (Tm.reachF v leaf) (fun _=>(G4 2).ss 0)) root (fun _=>⟨by omega,by omega⟩),.le g0 (kf true (.f 1) (Tm.reachF v leaf) (fun _=>(G4 2).ss 0)) root none false x1 hx1 (fun _=>⟨by omega,by omega⟩) false (fun _=>[bv x1]),.k (bv (!x1))] fun _ _ G5=>?_;intro S_ s_;have hnv:x1=Tm.near v leaf root:=by rw [hx1];exact Tm.reachF_at rfl _
  refine V.cn (b:=!x1) (iNT Iff.rfl) (iNF Iff.rfl) (fun q3=>?_) (fun q4=>?_)
  · refine V.g [.k (.slice none 0 0)] fun _ _ G6=>?_;intro S_ s_
    refine V.nilF (α:=Int) ?_;have e0:([]:List Int)=Tm.pathF v root leaf:=by symm;refine Tm.pathF_no ?_;rintro ⟨_,_,_,h4⟩;rw [hnv,h4] at q3;cases q3
    rw [←e0];exact V.rs [0] [{}] [fun _=>{}] [] [2] [] (SV.v ({}))
  have hroot:Tm.near v leaf root=true:=by rw [←hnv];exact q4
  refine V.g [.k (iv root),.nl 1 1 true 3 [root] [] (fun _ _ _ _ _=>trivial) (fun _=>#[iv root]),.v fun G=>SV.v ⟨atB (G 1).b,1,1⟩] fun _ _ G7=>?_;intro S_ s_
  refine V.g [.k (iv root),.k (iv root)] fun _ _ G8=>?_;intro S_ s_
  refine V.loop (γ:=List Int × SV × Int) (fun ⟨path,paths,cur⟩=>⟨[(2,iv leaf),(3,pp ((G1 0).b) 0),(7,((G4 2).ss 0).v),(8,paths.v),(9,iv cur)],[fs true (Tm.reachF v leaf) ((G4 2).ss 0),fs false v vs],[.blk ((G1 0).b) (ca (DVault.mk ⟨v,vs⟩)) 24,os true 3 path paths,.no]⟩) (fun ⟨path,paths,cur⟩=>(0≤cur)∧(cur < (v.length:Int))∧(Tm.near v leaf cur=true)∧(leaf≤cur)∧((path.length:Int)+cur≤root+1)∧(∃ pre,path=pre ++[cur]∧Tm.rest v leaf root=pre ++Tm.rest v leaf cur)) (fun ⟨path,paths,cur⟩=>cur.toNat) ([root],⟨atB (G7 1).b,1,1⟩,root) (by kernel_rfl) [1,0] (by kernel_rfl) ?_ ?_
  · refine ⟨?_,?_,?_,?_,?_,?_⟩
    · show 0≤root
      first | omega | rfl | (simp;done) | (subst_vars;simp;done)
    · show root < (v.length:Int)
      first | omega | rfl | (simp;done) | (subst_vars;simp;done)
    · show Tm.near v leaf root=true;exact hroot
    · show leaf≤root;exact Tm.near_ge (by omega) (by omega) hroot
    · show ([root].length:Int)+root≤root+1;simp <;> omega
    show ∃ pre,[root]=pre ++[root]∧Tm.rest v leaf root=pre ++Tm.rest v leaf root;exact ⟨[],rfl,rfl⟩
  rintro ⟨path,paths,cur⟩ hF1 kw9 Z1 hZ1;have hF1:(0≤cur)∧(cur < (v.length:Int))∧(Tm.near v leaf cur=true)∧(leaf≤cur)∧((path.length:Int)+cur≤root+1)∧(∃ pre,path=pre ++[cur]∧Tm.rest v leaf root=pre ++Tm.rest v leaf cur):=hF1;obtain ⟨hf1,hf2,hf3,hf4,hf5,hf6⟩:=hF1;obtain ⟨-, -,⟨kl3, -⟩, -⟩:Lq (Tm.reachF v leaf) (((G4 2).ss 0).v)∧Lq v vs.v∧Lq path paths.v∧True:=kq kw9;clear kw9;refine V.g [.k (iv cur),.k (iv leaf),.k (bv (!(decide (cur=leaf))))] fun _ _ G9=>?_;intro S_ s_;refine V.cn (b:=!(decide (cur=leaf))) (iNT iDF) (iNF iDT) (fun q5=>?_) (fun q6=>?_)
  · refine nm (v.getD cur.toNat default:DThing) fun x2 hx2=>?_;refine V.g [.k (pp ((G1 0).b) 0),.ld 0 0 false (fun _=>[vs.v]),.k (iv cur),.ix g0 (kf false (.f 1) v (fun _=>vs)) cur (fun _=>⟨by omega,by omega⟩),.le g0 (kf false (.f 1) v (fun _=>vs)) cur none false x2 hx2 (fun _=>⟨by omega,by omega⟩) true (fun _=>Dat.cells x2),.nb 5 2 (fun b=>pp b 0) 41 (fun _=>ca (DThing.mk ByteArray.empty 0 0 0 0)),.st 2 (fun G=>.blk ((G 5).b) (ca x2) 41)] fun _ _ G10=>?_;intro S_ s_
    refine V.g [.k (pp ((G10 5).b) 3),.ld 2 3 false (fun _=>[iv x2.Left]),.k (pp ((G10 5).b) 4),.ld 2 4 false (fun _=>[iv x2.Right]),.mn x2.Left x2.Right,.k (pp ((G10 5).b) 3),.ld 2 3 false (fun _=>[iv x2.Left]),.k (pp ((G10 5).b) 4),.ld 2 4 false (fun _=>[iv x2.Right]),.mx x2.Left x2.Right,.k (iv (min x2.Left x2.Right)),.k (iv (max x2.Left x2.Right))] fun _ _ G11=>?_;intro S_ s_
    have hdn:=Tm.down hS (i:=cur) (leaf:=leaf) (by omega) (by assumption) (by assumption) (by assumption) q5 (by assumption) (rfl:_=min x2.Left x2.Right) (rfl:_=max x2.Left x2.Right);refine V.g [.k (iv (min x2.Left x2.Right)),.k (iv (min x2.Left x2.Right))] fun _ _ G12=>?_;intro S_ s_
    refine nm ((Tm.reachF v leaf).getD (min x2.Left x2.Right).toNat default:Bool) fun x3 hx3=>?_;refine V.g [.k (((G4 2).ss 0).v),.k (iv (min x2.Left x2.Right)),.ix g0 (kf true (.f 0) (Tm.reachF v leaf) (fun _=>(G4 2).ss 0)) (min x2.Left x2.Right) (fun _=>⟨by omega,by omega⟩),.le g0 (kf true (.f 0) (Tm.reachF v leaf) (fun _=>(G4 2).ss 0)) (min x2.Left x2.Right) none false x3 hx3 (fun _=>⟨by omega,by omega⟩) false (fun _=>[bv x3]),.k (bv (!x3))] fun _ _ G13=>?_;intro S_ s_
    refine V.cn (b:=!x3) (iNT Iff.rfl) (iNF Iff.rfl) (fun q7=>?_) (fun q8=>?_)
    · have hz:=Tm.reachF_at (rfl:Tm.reachF v leaf=Tm.reachF v leaf) (min x2.Left x2.Right);rw [hx3,hz] at q7;have hnx:=hdn.2.2.2.2.1;rw [q7] at hnx;simp only [Bool.false_eq_true,if_false] at hnx;refine V.g [.k (iv (max x2.Left x2.Right)),.k (iv (max x2.Left x2.Right))] fun _ _ G14=>?_;intro S_ s_
      refine nm (path ++[max x2.Left x2.Right]:List Int) fun l1 hl1=>?_;have hl1n:=congrArg List.length hl1;try simp only [List.length_append,List.length_cons,List.length_nil,List.length_replicate,List.length_set,List.length_take,List.length_drop,List.length_map,List.length_reverse,List.length_range] at hl1n
      refine V.r [.k (paths.v),.k (iv (max x2.Left x2.Right)),.nr 2 true 3 [max x2.Left x2.Right] [] (fun _ _ _ _ _=>trivial) (fun _=>#[iv (max x2.Left x2.Right)]),.ap 3 1 3 8 false true path (fun _=>paths) (kf true (.g 2 0) [max x2.Left x2.Right] (fun G=>⟨atB (G 2).b,1,1⟩)) true l1 hl1 (by (try simp only [List.length_append,List.length_cons,List.length_nil,List.length_replicate,List.length_set,List.length_take,List.length_drop,List.length_map,List.length_reverse,List.length_range]);omega) (fun h=>by cases h) (.inr fun _ _=>trivial),.v fun G=>((G 3).s).v] fun _ _ G15 kw16=>?_;intro S_ s_
      obtain ⟨⟨kl4, -⟩, -⟩:Lq [max x2.Left x2.Right] (SV.v ⟨atB (G15 2).b,1,1⟩)∧Lq l1 (((G15 3).s).v)∧True:=kq kw16;clear kw16;refine V.rnd hZ1 (l1,(G15 3).s,max x2.Left x2.Right) [0,1] (by kernel_rfl) ?_ ?_
      · refine ⟨?_,?_,?_,?_,?_,?_⟩
        · show 0≤(max x2.Left x2.Right);omega
        · show (max x2.Left x2.Right) < (v.length:Int);omega
        · show Tm.near v leaf (max x2.Left x2.Right)=true;rw [←hnx];exact hdn.2.2.2.2.2.1
        · show leaf≤(max x2.Left x2.Right);rw [←hnx];exact hdn.2.2.2.2.2.2.1
        · show (l1.length:Int)+(max x2.Left x2.Right)≤root+1;omega
        show ∃ pre,l1=pre ++[(max x2.Left x2.Right)]∧Tm.rest v leaf root=pre ++Tm.rest v leaf (max x2.Left x2.Right);obtain ⟨pre,hp1,hp2⟩:=hf6;exact ⟨pre ++[cur],by rw [hl1,hp1],by rw [hp2,hdn.2.2.2.2.2.2.2,hnx];simp⟩
      show (max x2.Left x2.Right).toNat < cur.toNat;omega
    have hz:=Tm.reachF_at (rfl:Tm.reachF v leaf=Tm.reachF v leaf) (min x2.Left x2.Right);rw [hx3,hz] at q8;have hnx:=hdn.2.2.2.2.1;rw [q8] at hnx;simp only [if_true] at hnx;refine nm (path ++[min x2.Left x2.Right]:List Int) fun l2 hl2=>?_;have hl2n:=congrArg List.length hl2;try simp only [List.length_append,List.length_cons,List.length_nil,List.length_replicate,List.length_set,List.length_take,List.length_drop,List.length_map,List.length_reverse,List.length_range] at hl2n
    refine V.r [.k (paths.v),.k (iv (min x2.Left x2.Right)),.nr 2 true 3 [min x2.Left x2.Right] [] (fun _ _ _ _ _=>trivial) (fun _=>#[iv (min x2.Left x2.Right)]),.ap 3 1 3 8 false true path (fun _=>paths) (kf true (.g 2 0) [min x2.Left x2.Right] (fun G=>⟨atB (G 2).b,1,1⟩)) true l2 hl2 (by (try simp only [List.length_append,List.length_cons,List.length_nil,List.length_replicate,List.length_set,List.length_take,List.length_drop,List.length_map,List.length_reverse,List.length_range]);omega) (fun h=>by cases h) (.inr fun _ _=>trivial),.v fun G=>((G 3).s).v] fun _ _ G16 kw17=>?_;intro S_ s_
    obtain ⟨⟨kl5, -⟩, -⟩:Lq [min x2.Left x2.Right] (SV.v ⟨atB (G16 2).b,1,1⟩)∧Lq l2 (((G16 3).s).v)∧True:=kq kw17;clear kw17;refine V.rnd hZ1 (l2,(G16 3).s,min x2.Left x2.Right) [0,1] (by kernel_rfl) ?_ ?_
    · refine ⟨?_,?_,?_,?_,?_,?_⟩
      · show 0≤(min x2.Left x2.Right);omega
      · show (min x2.Left x2.Right) < (v.length:Int);omega
      · show Tm.near v leaf (min x2.Left x2.Right)=true;rw [←hnx];exact hdn.2.2.2.2.2.1
      · show leaf≤(min x2.Left x2.Right);rw [←hnx];exact hdn.2.2.2.2.2.2.1
      · show (l2.length:Int)+(min x2.Left x2.Right)≤root+1;omega
      show ∃ pre,l2=pre ++[(min x2.Left x2.Right)]∧Tm.rest v leaf root=pre ++Tm.rest v leaf (min x2.Left x2.Right);obtain ⟨pre,hp1,hp2⟩:=hf6;exact ⟨pre ++[cur],by rw [hl2,hp1],by rw [hp2,hdn.2.2.2.2.2.2.2,hnx];simp⟩
    show (min x2.Left x2.Right).toNat < cur.toNat;omega
  refine V.g [.k (paths.v),.k (paths.v)] fun _ _ G17=>?_;intro S_ s_
  refine V.frz 1 true 3 path paths (by kernel_rfl) ?_;have e0:path=Tm.pathF v root leaf:=by
    obtain ⟨pre,hp1,hp2⟩:=hf6;rw [Tm.pathF_yes hS (by unfold Tm.has;omega) (by unfold Tm.has;omega) hroot,hp2,hp1,show cur=leaf by omega,Tm.rest_self]
  subst e0;exact V.rs [0] [paths] [fun _=>{}] [] [2] [] (paths.v)
set_option maxRecDepth 10000 in
theorem view_ct (v:List DThing) (vs:SV) (path:List Int) (paths:SV) (hp:path.length≤5000000000000) :
    Ct Try.prog 21 #[ag (DVault.mk ⟨v,vs⟩),paths.v] [fs true v vs,fs true path paths] [] (fun g=>((g.ss 0)).v) (fun g=>[fs true (Tm.viewF v path) (g.ss 0)]) (fun g=>[]) (fun g=>[]):=by
  refine V.fn mo Try.func21 49 2 (by kernel_rfl) fun w H ε k0=>?_;obtain ⟨⟨kl1, -⟩,⟨kl2, -⟩, -⟩:Lq v vs.v∧Lq path paths.v∧True:=kq k0
  clear k0;refine V.g [.nb 0 0 (fun b=>pp b 0) 24 (fun _=>ca (DVault.mk ⟨v,vs⟩)),.k (.slice none 0 0)] fun _ _ G1=>?_;intro S_ s_
  refine V.g [.ld 0 0 true (fun _=>Dat.cells (DVault.mk ⟨v,vs⟩)),.k (paths.v),.cp g0 2 40 [(kf false (.f 0) v (fun _=>vs)).a,(kf false (.f 1) path (fun _=>paths)).a] (fun _ G=>walks_ct v vs path paths),.k (bv (!(decide (Tm.Walks v path))))] fun _ _ G2=>?_;intro S_ s_
  refine V.cn (b:=!(decide (Tm.Walks v path))) (iNT iDF) (iNF iDT) (fun q1=>?_) (fun q2=>?_)
  · refine V.g [.k (.slice none 0 0)] fun _ _ G3=>?_;intro S_ s_
    refine V.nilF (α:=DThing) ?_;have e0:([]:List DThing)=Tm.viewF v path:=(Tm.viewF_no q1).symm;rw [←e0];exact V.rs [0] [{}] [fun _=>{}] [] [2] [] (SV.v ({}))
  have hW:=q2;refine nm (List.replicate (path.length:Int).toNat (default:DThing):List DThing) fun l1 hl1=>?_;have hl1n:=congrArg List.length hl1;try simp only [List.length_append,List.length_cons,List.length_nil,List.length_replicate,List.length_set,List.length_take,List.length_drop,List.length_map,List.length_reverse,List.length_range] at hl1n
  refine V.g [.k (paths.v),.ln (kf false (.f 1) path (fun _=>paths)),.mks 2 1 41 48 (path.length:Int) l1 hl1 (by omega) (by omega) (by omega),.v fun G=>((G 2).s).v] fun _ _ G4=>?_;intro S_ s_
  refine V.g [.k (paths.v),.ln (kf false (.f 1) path (fun _=>paths)),.k (iv 0)] fun _ _ G5=>?_;intro S_ s_
  refine V.loop (γ:=List DThing × SV × Int) (fun ⟨out,outs,k0⟩=>⟨[(1,paths.v),(2,pp ((G1 0).b) 0),(5,outs.v),(15,paths.v),(16,iv (path.length:Int)),(17,iv k0)],[fs false path paths,fs false v vs],[.blk ((G1 0).b) (ca (DVault.mk ⟨v,vs⟩)) 24,os true 41 out outs]⟩) (fun ⟨out,outs,k0⟩=>(0≤k0)∧(k0≤(path.length:Int))∧(out=Tm.viewW v path k0.toNat)) (fun ⟨out,outs,k0⟩=>((path.length:Int)-k0).toNat) (l1,(G4 2).s,0) (by kernel_rfl) [1,0] (by kernel_rfl) ?_ ?_
  · refine ⟨?_,?_,?_⟩
    · show 0≤(0:Int)
      first | omega | rfl | (simp;done) | (subst_vars;simp;done)
    · show (0:Int)≤(path.length:Int)
      first | omega | rfl | (simp;done) | (subst_vars;simp;done)
    show l1=Tm.viewW v path (0:Int).toNat
    subst_vars
    exact (Tm.viewW_zero v path).symm
  rintro ⟨out,outs,k0⟩ hF1 kw6 Z1 hZ1;have hF1:(0≤k0)∧(k0≤(path.length:Int))∧(out=Tm.viewW v path k0.toNat):=hF1;obtain ⟨hf1,hf2,hf3⟩:=hF1;obtain ⟨-, -,⟨kl3, -⟩, -⟩:Lq path paths.v∧Lq v vs.v∧Lq out outs.v∧True:=kq kw6;clear kw6;have hol:out.length=path.length:=by rw [hf3];exact Tm.viewW_length (by omega)
  refine V.g [.k (bv (decide (k0 < (path.length:Int))))] fun _ _ G6=>?_;intro S_ s_
  refine V.cn (b:=decide (k0 < (path.length:Int))) iDT iDF (fun q3=>?_) (fun q4=>?_)
  · refine nm (path.getD k0.toNat default:Int) fun v1 hv1=>?_;refine V.g [.k (iv k0),.ix g0 (kf false (.f 0) path (fun _=>paths)) k0 (fun _=>⟨by omega,by omega⟩),.le g0 (kf false (.f 0) path (fun _=>paths)) k0 none false v1 hv1 (fun _=>⟨by omega,by omega⟩) false (fun _=>[iv v1]),.k (iv k0),.k (iv v1)] fun _ _ G7=>?_;intro S_ s_
    refine nm (v.getD v1.toNat default:DThing) fun x1 hx1=>?_;refine nm (out.getD k0.toNat default:DThing) fun x2 hx2=>?_;refine nm (out.set k0.toNat x1:List DThing) fun l2 hl2=>?_;have hl2n:=congrArg List.length hl2;try simp only [List.length_append,List.length_cons,List.length_nil,List.length_replicate,List.length_set,List.length_take,List.length_drop,List.length_map,List.length_reverse,List.length_range] at hl2n
    have hwh:=Tm.walks_has hW (k:=k0) (by omega) (by omega) (by assumption);refine V.g [.k (outs.v),.k (iv k0),.k (pp ((G1 0).b) 0),.ld 0 0 false (fun _=>[vs.v]),.k (iv v1),.ix g0 (kf false (.f 1) v (fun _=>vs)) v1 (fun _=>⟨by omega,by omega⟩),.le g0 (kf false (.f 1) v (fun _=>vs)) v1 none false x1 hx1 (fun _=>⟨by omega,by omega⟩) true (fun _=>Dat.cells x1),.ix g0 (ko true 41 1 out (fun _=>outs)) k0 (fun _=>⟨by omega,by omega⟩),.se g0 8 1 41 true out (fun _=>outs) k0 none x2 x1 hx2 true l2 hl2 (fun _=>⟨by omega,by omega⟩) (fun _=>rfl) [] (fun _ _ _ _=>trivial)] fun _ _ G8=>?_;intro S_ s_
    refine nm ((path.length:Int)-1:Int) fun n1 hn1=>?_;refine V.g [.k (iv k0),.k (bv (decide (0 < k0))),.k (bv (decide (0 < k0))),.k (iv k0),.k (paths.v),.ln (kf false (.f 0) path (fun _=>paths)),.arg (gT (b:=decide (0 < k0)) iDT) ((path.length:Int)-1) n1 hn1 (fun hg=>by omega),.k (bv (decide (k0 < n1))),.and g0 false (decide (0 < k0)) (decide (k0 < n1))] fun _ _ G9=>?_;intro S_ s_
    refine V.cn (b:=(decide (0 < k0)) && (decide (k0 < n1))) (iAT iDT iDT) (iAF iDF iDF) (fun q5=>?_) (fun q6=>?_)
    · refine nm (l2.getD k0.toNat default:DThing) fun x3 hx3=>?_;refine nm (l2.set k0.toNat (DThing.mk x3.Text (-1) x3.Blind x3.Left x3.Right):List DThing) fun l3 hl3=>?_;have hl3n:=congrArg List.length hl3;try simp only [List.length_append,List.length_cons,List.length_nil,List.length_replicate,List.length_set,List.length_take,List.length_drop,List.length_map,List.length_reverse,List.length_range] at hl3n
      refine nm (l3.getD k0.toNat default:DThing) fun x4 hx4=>?_;refine nm (l3.set k0.toNat (DThing.mk x4.Text x4.Value (-1) x4.Left x4.Right):List DThing) fun l4 hl4=>?_;have hl4n:=congrArg List.length hl4;try simp only [List.length_append,List.length_cons,List.length_nil,List.length_replicate,List.length_set,List.length_take,List.length_drop,List.length_map,List.length_reverse,List.length_range] at hl4n
      refine V.g [.k (outs.v),.k (iv k0),.k (outs.v),.k (iv k0),.ix g0 (ko true 41 1 l2 (fun _=>outs)) k0 (fun _=>⟨by omega,by omega⟩),.k (.pointer (some ((elemAddr outs.v (k0.toNat * 5)).add 1))),.se g0 6 1 41 true l2 (fun _=>outs) k0 (some 1) x3 (DThing.mk x3.Text (-1) x3.Blind x3.Left x3.Right) hx3 true l3 hl3 (fun _=>⟨by omega,by omega⟩) (fun _=>rfl) [] (fun _ _ _ _=>trivial),.ix g0 (ko true 41 1 l3 (fun _=>outs)) k0 (fun _=>⟨by omega,by omega⟩),.k (.pointer (some ((elemAddr outs.v (k0.toNat * 5)).add 2))),.se g0 9 1 41 true l3 (fun _=>outs) k0 (some 2) x4 (DThing.mk x4.Text x4.Value (-1) x4.Left x4.Right) hx4 true l4 hl4 (fun _=>⟨by omega,by omega⟩) (fun _=>rfl) [] (fun _ _ _ _=>trivial)] fun _ _ G10=>?_;intro S_ s_
      refine V.g [.a (k0+1) (by omega) (by omega),.k (iv (k0+1))] fun _ _ G11=>?_;intro S_ s_
      refine V.rnd hZ1 (l4,outs,k0+1) [0,1] (by kernel_rfl) ?_ ?_
      · refine ⟨?_,?_,?_⟩
        · show 0≤(k0+1)
          first | omega | rfl | (simp;done) | (subst_vars;simp;done)
        · show (k0+1)≤(path.length:Int)
          first | omega | rfl | (simp;done) | (subst_vars;simp;done)
        show l4=Tm.viewW v path (k0+1).toNat;exact Tm.view_mid (k:=k0) (by omega) (by omega) (by assumption) (by assumption) hf3 (by assumption) (by assumption) (by assumption) (by assumption) (by assumption) rfl (by omega)
      show ((path.length:Int)-(k0+1)).toNat < ((path.length:Int)-k0).toNat;omega
    refine V.g [.a (k0+1) (by omega) (by omega),.k (iv (k0+1))] fun _ _ G12=>?_;intro S_ s_
    refine V.rnd hZ1 (l2,outs,k0+1) [0,1] (by kernel_rfl) ?_ ?_
    · refine ⟨?_,?_,?_⟩
      · show 0≤(k0+1)
        first | omega | rfl | (simp;done) | (subst_vars;simp;done)
      · show (k0+1)≤(path.length:Int)
        first | omega | rfl | (simp;done) | (subst_vars;simp;done)
      show l2=Tm.viewW v path (k0+1).toNat;exact Tm.view_end (k:=k0) (by omega) (by omega) (by assumption) (by assumption) hf3 (by assumption) rfl (by omega)
    show ((path.length:Int)-(k0+1)).toNat < ((path.length:Int)-k0).toNat;omega
  refine V.g [.k (outs.v),.k (outs.v)] fun _ _ G13=>?_;intro S_ s_
  refine V.frz 1 true 41 out outs (by kernel_rfl) ?_;have e0:out=Tm.viewF v path:=Tm.viewF_yes hW hf3 (by omega);subst e0;exact V.rs [0] [outs] [fun _=>{}] [] [2] [] (outs.v)
set_option maxRecDepth 10000 in
theorem clone_ct (s:List DThing) (ss:SV) (hb:s.length≤1000000000) :
    Ct Try.prog 50 #[ss.v] [fs true s ss] [] (fun g=>((g.ss 0)).v) (fun g=>[]) (fun g=>[os true 41 s (g.ss 0)]) (fun g=>[]):=by
  refine V.fn mo Try.func50 8 2 (by kernel_rfl) fun w H ε k0=>?_;obtain ⟨⟨kl1,kn1⟩, -⟩:Lq s ss.v∧True:=kq k0
  clear k0;refine V.g [.k (.slice none 0 0)] fun _ _ G1=>?_;intro S_ s_
  refine V.g [.k (ss.v),.isn false (fun _=>ss)] fun _ _ G2=>?_;intro S_ s_
  refine V.cn (b:=ss.a.isNone) Iff.rfl Iff.rfl (fun q1=>?_) (fun q2=>?_)
  · refine V.g [.k (.slice none 0 0)] fun _ _ G3=>?_;intro S_ s_
    refine V.on (α:=DThing) 0 41 (by kernel_rfl) ?_;have e0:([]:List DThing)=s:=(kn1 _ rfl q1).symm;rw [←e0];exact V.rs [0] [{}] [fun _=>{}] [] [] [0] (SV.v ({}))
  refine nm (([]:List DThing) ++s:List DThing) fun l1 hl1=>?_;have hl1n:=congrArg List.length hl1;try simp only [List.length_append,List.length_cons,List.length_nil,List.length_replicate,List.length_set,List.length_take,List.length_drop,List.length_map,List.length_reverse,List.length_range] at hl1n
  refine V.g [.nl 0 1 true 41 ([]:List DThing) [] (fun _ _ _ _ _=>trivial) (fun _=>#[]),.k (ss.v),.ap 2 1 41 48 false true ([]:List DThing) (fun G=>⟨atB (G 0).b,0,0⟩) (kf false (.f 0) s (fun _=>ss)) true l1 hl1 (by (try simp only [List.length_append,List.length_cons,List.length_nil,List.length_replicate,List.length_set,List.length_take,List.length_drop,List.length_map,List.length_reverse,List.length_range]);omega) (fun h=>by cases h) (.inr fun _ _=>trivial),.v fun G=>((G 2).s).v] fun _ _ G4=>?_;intro S_ s_
  have e0:l1=s:=by rw [hl1];simp
  replace e0:=e0.symm
  subst e0;exact V.rs [0] [(G4 2).s] [fun _=>{}] [] [] [1] (((G4 2).s).v)
set_option maxRecDepth 10000 in
theorem clonei_ct (s:List Int) (ss:SV) (hb:s.length≤1000000000) :
    Ct Try.prog 52 #[ss.v] [fs true s ss] [] (fun g=>((g.ss 0)).v) (fun g=>[]) (fun g=>[os true 3 s (g.ss 0)]) (fun g=>[]):=by
  refine V.fn mo Try.func52 8 2 (by kernel_rfl) fun w H ε k0=>?_;obtain ⟨⟨kl1,kn1⟩, -⟩:Lq s ss.v∧True:=kq k0
  clear k0;refine V.g [.k (.slice none 0 0)] fun _ _ G1=>?_;intro S_ s_
  refine V.g [.k (ss.v),.isn false (fun _=>ss)] fun _ _ G2=>?_;intro S_ s_
  refine V.cn (b:=ss.a.isNone) Iff.rfl Iff.rfl (fun q1=>?_) (fun q2=>?_)
  · refine V.g [.k (.slice none 0 0)] fun _ _ G3=>?_;intro S_ s_
    refine V.on (α:=Int) 0 3 (by kernel_rfl) ?_;have e0:([]:List Int)=s:=(kn1 _ rfl q1).symm;rw [←e0];exact V.rs [0] [{}] [fun _=>{}] [] [] [0] (SV.v ({}))
  refine nm (([]:List Int) ++s:List Int) fun l1 hl1=>?_;have hl1n:=congrArg List.length hl1;try simp only [List.length_append,List.length_cons,List.length_nil,List.length_replicate,List.length_set,List.length_take,List.length_drop,List.length_map,List.length_reverse,List.length_range] at hl1n
  refine V.g [.nl 0 1 true 3 ([]:List Int) [] (fun _ _ _ _ _=>trivial) (fun _=>#[]),.k (ss.v),.ap 2 1 3 8 false true ([]:List Int) (fun G=>⟨atB (G 0).b,0,0⟩) (kf false (.f 0) s (fun _=>ss)) true l1 hl1 (by (try simp only [List.length_append,List.length_cons,List.length_nil,List.length_replicate,List.length_set,List.length_take,List.length_drop,List.length_map,List.length_reverse,List.length_range]);omega) (fun h=>by cases h) (.inr fun _ _=>trivial),.v fun G=>((G 2).s).v] fun _ _ G4=>?_;intro S_ s_
  have e0:l1=s:=by rw [hl1];simp
  replace e0:=e0.symm
  subst e0;exact V.rs [0] [(G4 2).s] [fun _=>{}] [] [] [1] (((G4 2).s).v)
set_option maxRecDepth 10000 in
theorem add_ct (bb:Nat) (bl:List DThing) (bls:SV) (a:ByteArray) (c d e f:Int) (hb:bl.length≤100000) :
    Ct Try.prog 51 #[pp bb 0,ag (DThing.mk a c d e f)] [] [.blk bb (ca (Dbuilder.mk (DVault.mk ⟨bl,bls⟩))) 77,os false 41 bl bls] (fun g=>iv (bl.length:Int)) (fun g=>[]) (fun g=>[.blk bb (ca (Dbuilder.mk (DVault.mk ⟨bl ++[DThing.mk a c d e f],(g.ss 0)⟩))) 77,os true 41 (bl ++[DThing.mk a c d e f]) (g.ss 0)]) (fun g=>[]):=by
  refine V.fn mo Try.func51 24 1 (by kernel_rfl) fun w H ε k0=>?_;obtain ⟨⟨kl1, -⟩, -⟩:Lq bl bls.v∧True:=kq k0
  clear k0;refine V.g [.nb 0 2 (fun b=>pp b 0) 41 (fun _=>ca (DThing.mk a c d e f)),.k (iv 0)] fun _ _ G1=>?_;intro S_ s_
  refine nm (bl ++([DThing.mk a c d e f]:List DThing):List DThing) fun l1 hl1=>?_;have hl1n:=congrArg List.length hl1;try simp only [List.length_append,List.length_cons,List.length_nil,List.length_replicate,List.length_set,List.length_take,List.length_drop,List.length_map,List.length_reverse,List.length_range] at hl1n
  refine V.r [.k (pp bb 0),.k (pp bb 0),.k (pp bb 0),.k (pp bb 0),.k (pp bb 0),.ld 0 0 false (fun _=>[bls.v]),.ld 2 0 true (fun _=>Dat.cells (DThing.mk a c d e f)),.nr 7 true 41 ([DThing.mk a c d e f]:List DThing) [] (fun _ _ _ _ _=>trivial) (fun _=>#[tv a,iv c,iv d,iv e,iv f]),.ap 8 1 41 48 false false bl (fun _=>bls) (kf true (.g 7 0) ([DThing.mk a c d e f]:List DThing) (fun G=>⟨atB (G 7).b,1,1⟩)) true l1 hl1 (by (try simp only [List.length_append,List.length_cons,List.length_nil,List.length_replicate,List.length_set,List.length_take,List.length_drop,List.length_map,List.length_reverse,List.length_range]);omega) (fun h=>by cases h) (.inr fun _ _=>trivial),.k (pp bb 0),.k (pp bb 0),.k (pp bb 0),.st 0 (fun G=>.blk bb (ca (Dbuilder.mk (DVault.mk ⟨l1,(G 8).s⟩))) 77)] fun _ _ G2 kw2=>?_;intro S_ s_
  obtain ⟨⟨kl2, -⟩, -⟩:Lq ([DThing.mk a c d e f]:List DThing) (SV.v ⟨atB (G2 7).b,1,1⟩)∧Lq l1 (((G2 8).s).v)∧True:=kq kw2;clear kw2;refine nm ((l1.length:Int)-1:Int) fun n1 hn1=>?_;refine V.g [.k (pp bb 0),.k (pp bb 0),.k (pp bb 0),.k (pp bb 0),.ld 0 0 false (fun _=>[((G2 8).s).v]),.ln (ko true 41 1 l1 (fun _=>(G2 8).s)),.ar ((l1.length:Int)-1) n1 hn1 (by omega) (by omega),.k (iv n1)] fun _ _ G3=>?_;intro S_ s_;have e0:n1=(bl.length:Int):=by omega
  have eL1:l1=bl ++[DThing.mk a c d e f]:=by assumption
  subst eL1;exact V.rt [0] [(G2 8).s] [] [] [] [0,1] (iv n1) (cong1 (fun (x0:Int)=>(iv x0:Value)) e0)
set_option maxRecDepth 10000 in
theorem bpair_ct (bb:Nat) (bl:List DThing) (bls:SV) (left right:Int) (hb:bl.length≤90000) (h1:0≤left∧left < (bl.length:Int)) (h2:0≤right∧right < (bl.length:Int)) (hB1:Tm.Bd (Tm.el bl left)) (hB2:Tm.Bd (Tm.el bl right)) :
    Ct Try.prog 53 #[pp bb 0,iv left,iv right] [] [.blk bb (ca (Dbuilder.mk (DVault.mk ⟨bl,bls⟩))) 77,os false 41 bl bls] (fun g=>iv (bl.length:Int)) (fun g=>[]) (fun g=>[.blk bb (ca (Dbuilder.mk (DVault.mk ⟨bl ++[Tm.pairX bl left right],(g.ss 0)⟩))) 77,os true 41 (bl ++[Tm.pairX bl left right]) (g.ss 0)]) (fun g=>[]):=by
  refine V.fn mo Try.func53 40 2 (by kernel_rfl) fun w H ε k0=>?_;obtain ⟨⟨kl1, -⟩, -⟩:Lq bl bls.v∧True:=kq k0
  clear k0;refine V.g [.k (iv 0)] fun _ _ G1=>?_;intro S s
  refine nm (bl.getD left.toNat default:DThing) fun x1 hx1=>?_;refine nm (bl.getD right.toNat default:DThing) fun x2 hx2=>?_;refine V.g [.k (pp bb 0),.k (pp bb 0),.k (pp bb 0),.k (pp bb 0),.ld 0 0 false (fun _=>[bls.v]),.k (iv left),.ix g0 (ko false 41 1 bl (fun _=>bls)) left (fun _=>⟨by omega,by omega⟩),.le g0 (ko false 41 1 bl (fun _=>bls)) left none false x1 hx1 (fun _=>⟨by omega,by omega⟩) true (fun _=>Dat.cells x1),.k (pp bb 0),.k (pp bb 0),.k (pp bb 0),.k (pp bb 0),.ld 0 0 false (fun _=>[bls.v]),.k (iv right),.ix g0 (ko false 41 1 bl (fun _=>bls)) right (fun _=>⟨by omega,by omega⟩),.le g0 (ko false 41 1 bl (fun _=>bls)) right none false x2 hx2 (fun _=>⟨by omega,by omega⟩) true (fun _=>Dat.cells x2),.nb 16 2 (fun b=>pp b 0) 41 (fun _=>ca (DThing.mk ByteArray.empty 0 0 0 0)),.nb 17 3 (fun b=>pp b 0) 41 (fun _=>ca (DThing.mk ByteArray.empty 0 0 0 0)),.st 2 (fun G=>.blk ((G 16).b) (ca x1) 41),.st 3 (fun G=>.blk ((G 17).b) (ca x2) 41)] fun _ _ G2=>?_;intro S s
  have hb1:=hB1;have hb2:=hB2;unfold Tm.Bd Tm.el at hb1 hb2;rw [←hx1] at hb1;rw [←hx2] at hb2;refine nm (x1.Value+x2.Value:Int) fun n1 hn1=>?_;refine nm (x1.Blind+x2.Blind:Int) fun n2 hn2=>?_;refine V.g [.k (pp bb 0),.k (pp ((G2 16).b) 1),.ld 2 1 false (fun _=>[iv x1.Value]),.k (pp ((G2 17).b) 1),.ld 3 1 false (fun _=>[iv x2.Value]),.ar (x1.Value+x2.Value) n1 hn1 (by omega) (by omega),.k (pp ((G2 16).b) 2),.ld 2 2 false (fun _=>[iv x1.Blind]),.k (pp ((G2 17).b) 2),.ld 3 2 false (fun _=>[iv x2.Blind]),.ar (x1.Blind+x2.Blind) n2 hn2 (by omega) (by omega),.k (iv left),.k (iv right),.k (ag (DThing.mk ByteArray.empty n1 n2 left right)),.ct g0 14 51 false [0,1] [] [] (fun _ G=>add_ct bb bl bls ByteArray.empty n1 n2 left right (by omega)),.k (iv (bl.length:Int))] fun _ _ G3=>?_;intro S s
  have eL1:bl ++[DThing.mk ByteArray.empty n1 n2 left right]=bl ++[Tm.pairX bl left right]:=by subst_vars;rfl
  rw [←eL1];exact V.rs [0] [(G3 14).ss 0] [] [] [] [0,1] (iv (bl.length:Int))

open Go Go.Proofs
set_option maxRecDepth 10000 in
theorem form_ct (paths:List (Fat Int)) (pathss:SV) (seen:List (Fat DThing)) (seens:SV) :
    Cp Try.prog 26 #[pathss.v,seens.v] [fs true paths pathss,fs true seen seens] (bv (decide (Rv.Form (Rv.ls paths) (Rv.ls seen)))):=by
  refine V.fn mo Try.func26 87 3 (by kernel_rfl) fun w H ε k0=>?_;obtain ⟨⟨kl1, -⟩,⟨kl2, -⟩, -⟩:Lq paths pathss.v∧Lq seen seens.v∧True:=kq k0
  clear k0;refine V.g [.kb false] fun _ _ G1=>?_;intro S_ s_
  refine nm ((decide ((paths.length:Int)=0)) || (decide (64 < (paths.length:Int))):Bool) fun p1 hp1=>?_;refine nm (p1 || (!(decide ((seen.length:Int)=(paths.length:Int)))):Bool) fun p2 hp2=>?_;refine V.g [.k (pathss.v),.ln (kf false (.f 0) paths (fun _=>pathss)),.k (bv (decide ((paths.length:Int)=0))),.k (bv (decide ((paths.length:Int)=0))),.k (pathss.v),.ln (kf false (.f 0) paths (fun _=>pathss)),.k (bv (decide (64 < (paths.length:Int)))),.orn g0 false (decide ((paths.length:Int)=0)) (decide (64 < (paths.length:Int))) p1 hp1,.k (bv p1),.k (seens.v),.ln (kf false (.f 1) seen (fun _=>seens)),.k (pathss.v),.ln (kf false (.f 0) paths (fun _=>pathss)),.k (bv (!(decide ((seen.length:Int)=(paths.length:Int))))),.orn g0 false p1 (!(decide ((seen.length:Int)=(paths.length:Int)))) p2 hp2] fun _ _ G2=>?_;intro S_ s_
  refine V.cn (b:=p2) (iN hp2 (iOT (iN hp1 (iOT iDT iDT)) (iNT iDF))) (iN hp2 (iOF (iN hp1 (iOF iDF iDF)) (iNF iDT))) (fun q1=>?_) (fun q2=>?_)
  · refine V.g [.kb false] fun _ _ G3=>?_;intro S_ s_
    have e0:false=decide (Rv.Form (Rv.ls paths) (Rv.ls seen)):=by
      symm;rw [decide_eq_false_iff_not]
      rintro ⟨h1,h2,h3,_⟩;rw [Rv.ls_length] at h1 h2;rw [Rv.ls_length,Rv.ls_length] at h3;omega
    exact V.rt [0] [] [] [] [] [] (bv false) (cong1 (fun (x0:Bool)=>(bv x0:Value)) e0)
  refine V.g [.mm Int Bool 0 0 false,.v fun G=>.map (some ((G 0).b))] fun _ _ G4=>?_;intro S_ s_
  refine V.g [.k (pathss.v),.ln (kf false (.f 0) paths (fun _=>pathss)),.k (iv 0)] fun _ _ G5=>?_;intro S_ s_
  refine V.loop (γ:=Int × List (Int × Bool)) (fun ⟨k0,m0⟩=>⟨[(0,pathss.v),(1,seens.v),(5,.map (some ((G4 0).b))),(26,pathss.v),(27,iv (paths.length:Int)),(28,iv k0)],[fs false paths pathss,fs false seen seens],[mp true false m0 ((G4 0).b),.no,.no]⟩) (fun ⟨k0,m0⟩=>(0≤k0)∧(k0≤(paths.length:Int))∧(∀ i,i < k0.toNat→Rv.row (Rv.ls paths) (Rv.ls seen) i)∧(m0=Rv.endm ((Rv.ls paths).take k0.toNat))) (fun ⟨k0,m0⟩=>((paths.length:Int)-k0).toNat) (0,([]:List (Int × Bool))) (by kernel_rfl) [0,1] (by kernel_rfl) ?_ ?_
  · refine ⟨?_,?_,?_,?_⟩
    · show 0≤(0:Int)
      first | omega | rfl | (simp;done) | (subst_vars;simp;done)
    · show (0:Int)≤(paths.length:Int)
      first | omega | rfl | (simp;done) | (subst_vars;simp;done)
    · show ∀ i,i < (0:Int).toNat→Rv.row (Rv.ls paths) (Rv.ls seen) i;intro i hi;simp at hi
    show ([]:List (Int × Bool))=Rv.endm ((Rv.ls paths).take (0:Int).toNat)
    first | omega | rfl | (simp;done) | (subst_vars;simp;done)
  rintro ⟨k0,m0⟩ hF1 kw6 Z1 hZ1;have hF1:(0≤k0)∧(k0≤(paths.length:Int))∧(∀ i,i < k0.toNat→Rv.row (Rv.ls paths) (Rv.ls seen) i)∧(m0=Rv.endm ((Rv.ls paths).take k0.toNat)):=hF1;obtain ⟨hf1,hf2,hf3,hf4⟩:=hF1;clear kw6;refine V.g [.k (bv (decide (k0 < (paths.length:Int))))] fun _ _ G6=>?_;intro S_ s_;refine V.cn (b:=decide (k0 < (paths.length:Int))) iDT iDF (fun q3=>?_) (fun q4=>?_)
  · refine nm (paths.getD k0.toNat default:Fat Int) fun x1 hx1=>?_;refine V.r [.k (iv k0),.ix g0 (kf false (.f 0) paths (fun _=>pathss)) k0 (fun _=>⟨by omega,by omega⟩),.le g0 (kf false (.f 0) paths (fun _=>pathss)) k0 none true x1 hx1 (fun _=>⟨by omega,by omega⟩) false (fun _=>[x1.s.v]),.k (iv k0),.k (x1.s.v)] fun _ _ G7 kw8=>?_;intro S_ s_
    obtain ⟨⟨kl3, -⟩, -⟩:Lq x1.l x1.s.v∧True∧True:=kq kw8;clear kw8;refine nm (seen.getD k0.toNat default:Fat DThing) fun x2 hx2=>?_;refine nm (x1.l.getD (0:Int).toNat default:Int) fun v1 hv1=>?_;refine nm (paths.getD (0:Int).toNat default:Fat Int) fun x3 hx3=>?_;refine nm (x3.l.getD (0:Int).toNat default:Int) fun v2 hv2=>?_;refine nm ((!(decide (Rv.walk x1.l x2.l))) || (!(decide (v1=v2))):Bool) fun p3 hp3=>?_;refine V.r [.k (x1.s.v),.k (seens.v),.k (iv k0),.ix g0 (kf false (.f 1) seen (fun _=>seens)) k0 (fun _=>⟨by omega,by omega⟩),.le g0 (kf false (.f 1) seen (fun _=>seens)) k0 none true x2 hx2 (fun _=>⟨by omega,by omega⟩) false (fun _=>[x2.s.v]),.cp g0 5 45 [(kx false (.f 2) x1 x1.l (fun _=>x1.s) (fun _ _ h=>h)).a,(kx false (.g 4 0) x2 x2.l (fun _=>x2.s) (fun _ _ h=>h)).a] (fun _ G=>walk_ct x1.l x1.s x2.l x2.s),.k (bv (!(decide (Rv.walk x1.l x2.l)))),.k (bv (!(decide (Rv.walk x1.l x2.l)))),.k (x1.s.v),.ix (gF (b:=!(decide (Rv.walk x1.l x2.l))) (iNF iDT)) (kx false (.f 2) x1 x1.l (fun _=>x1.s) (fun _ _ h=>h)) 0 (fun hg=>⟨by omega,by have:=hg.1;omega⟩),.le (gF (b:=!(decide (Rv.walk x1.l x2.l))) (iNF iDT)) (kx false (.f 2) x1 x1.l (fun _=>x1.s) (fun _ _ h=>h)) (0:Int) none false v1 hv1 (fun hg=>⟨by omega,by have:=hg.1;omega⟩) false (fun _=>[iv v1]),.k (pathss.v),.ix (gF (b:=!(decide (Rv.walk x1.l x2.l))) (iNF iDT)) (kf false (.f 0) paths (fun _=>pathss)) 0 (fun hg=>⟨by omega,by omega⟩),.le (gF (b:=!(decide (Rv.walk x1.l x2.l))) (iNF iDT)) (kf false (.f 0) paths (fun _=>pathss)) (0:Int) none true x3 hx3 (fun hg=>⟨by omega,by omega⟩) false (fun _=>[x3.s.v]),.ix (gF (b:=!(decide (Rv.walk x1.l x2.l))) (iNF iDT)) (kx false (.g 13 0) x3 x3.l (fun _=>x3.s) (fun _ _ h=>h)) 0 (fun hg=>⟨by omega,by have:=Rv.head_ne (by omega) hf3 hx1 hx2 hg hx3;omega⟩),.le (gF (b:=!(decide (Rv.walk x1.l x2.l))) (iNF iDT)) (kx false (.g 13 0) x3 x3.l (fun _=>x3.s) (fun _ _ h=>h)) (0:Int) none false v2 hv2 (fun hg=>⟨by omega,by have:=Rv.head_ne (by omega) hf3 hx1 hx2 hg hx3;omega⟩) false (fun _=>[iv v2]),.k (bv (!(decide (v1=v2)))),.orn g0 false (!(decide (Rv.walk x1.l x2.l))) (!(decide (v1=v2))) p3 hp3] fun _ _ G8 kw9=>?_;intro S_ s_;obtain ⟨⟨kl4, -⟩, -⟩:Lq x2.l x2.s.v∧True∧True:=kq kw9;clear kw9;refine V.cn (b:=p3) (iN hp3 (iOT (iNT iDF) (iNT iDF))) (iN hp3 (iOF (iNF iDT) (iNF iDT))) (fun q5=>?_) (fun q6=>?_)
    · refine V.g [.kb false] fun _ _ G9=>?_;intro S_ s_
      have e0:false=decide (Rv.Form (Rv.ls paths) (Rv.ls seen)):=by
        symm;rw [decide_eq_false_iff_not]
        refine Rv.form_no (k:=k0.toNat) (by simp;omega) fun hr=>?_;have hr2:=(Rv.row_iff hx1 hx2 hv1 hx3 hv2 rfl rfl rfl).1 hr
        rcases q5 with h | h
        · exact h hr2.1.1
        exact h hr2.1.2
      exact V.rt [0] [] [] [] [] [] (bv false) (cong1 (fun (x0:Bool)=>(bv x0:Value)) e0)
    have hw:=q6.1;have hw1:=hw.1;have hw2:x2.l.length≠0:=by rw [hw.2.1];exact hw.1
    refine nm (seen.getD (0:Int).toNat default:Fat DThing) fun x4 hx4=>?_;refine nm (x4.l.getD (0:Int).toNat default:DThing) fun x5 hx5=>?_;refine nm (x2.l.getD (0:Int).toNat default:DThing) fun x6 hx6=>?_;refine V.r [.k (seens.v),.ix g0 (kf false (.f 1) seen (fun _=>seens)) 0 (fun _=>⟨by omega,by omega⟩),.le g0 (kf false (.f 1) seen (fun _=>seens)) (0:Int) none true x4 hx4 (fun _=>⟨by omega,by omega⟩) false (fun _=>[x4.s.v]),.ix g0 (kx false (.g 2 0) x4 x4.l (fun _=>x4.s) (fun _ _ h=>h)) 0 (fun _=>⟨by omega,by have:=Rv.head_ne2 (by omega) hf3 hx1 hx2 hw hx4;omega⟩),.le g0 (kx false (.g 2 0) x4 x4.l (fun _=>x4.s) (fun _ _ h=>h)) (0:Int) none false x5 hx5 (fun _=>⟨by omega,by have:=Rv.head_ne2 (by omega) hf3 hx1 hx2 hw hx4;omega⟩) true (fun _=>Dat.cells x5),.k (seens.v),.k (iv k0),.ix g0 (kf false (.f 1) seen (fun _=>seens)) k0 (fun _=>⟨by omega,by omega⟩),.le g0 (kf false (.f 1) seen (fun _=>seens)) k0 none true x2 hx2 (fun _=>⟨by omega,by omega⟩) false (fun _=>[x2.s.v]),.ix g0 (kx false (.g 8 0) x2 x2.l (fun _=>x2.s) (fun _ _ h=>h)) 0 (fun _=>⟨by omega,by have:=hw2;omega⟩),.le g0 (kx false (.g 8 0) x2 x2.l (fun _=>x2.s) (fun _ _ h=>h)) (0:Int) none false x6 hx6 (fun _=>⟨by omega,by have:=hw2;omega⟩) true (fun _=>Dat.cells x6),.nb 11 1 (fun b=>pp b 0) 41 (fun _=>ca (DThing.mk ByteArray.empty 0 0 0 0)),.nb 12 2 (fun b=>pp b 0) 41 (fun _=>ca (DThing.mk ByteArray.empty 0 0 0 0)),.st 1 (fun G=>.blk ((G 11).b) (ca x5) 41),.st 2 (fun G=>.blk ((G 12).b) (ca x6) 41)] fun _ _ G10 kw11=>?_;intro S_ s_
    obtain ⟨⟨kl5, -⟩,⟨kl6, -⟩, -⟩:Lq x4.l x4.s.v∧Lq x2.l x2.s.v∧True∧True:=kq kw11;clear kw11;refine nm ((!(decide (x5.Value=x6.Value))) || (!(decide (x5.Blind=x6.Blind))):Bool) fun p4 hp4=>?_;refine V.g [.k (pp ((G10 11).b) 1),.ld 1 1 false (fun _=>[iv x5.Value]),.k (pp ((G10 12).b) 1),.ld 2 1 false (fun _=>[iv x6.Value]),.k (bv (!(decide (x5.Value=x6.Value)))),.k (bv (!(decide (x5.Value=x6.Value)))),.k (pp ((G10 11).b) 2),.ld 1 2 false (fun _=>[iv x5.Blind]),.k (pp ((G10 12).b) 2),.ld 2 2 false (fun _=>[iv x6.Blind]),.k (bv (!(decide (x5.Blind=x6.Blind)))),.orn g0 false (!(decide (x5.Value=x6.Value))) (!(decide (x5.Blind=x6.Blind))) p4 hp4] fun _ _ G11=>?_;intro S_ s_;refine V.cn (b:=p4) (iN hp4 (iOT (iNT iDF) (iNT iDF))) (iN hp4 (iOF (iNF iDT) (iNF iDT))) (fun q7=>?_) (fun q8=>?_)
    · refine V.g [.kb false] fun _ _ G12=>?_;intro S_ s_
      have e0:false=decide (Rv.Form (Rv.ls paths) (Rv.ls seen)):=by
        symm;rw [decide_eq_false_iff_not]
        refine Rv.form_no (k:=k0.toNat) (by simp;omega) fun hr=>?_;have hr2:=(Rv.row_iff hx1 hx2 hv1 hx3 hv2 hx4 hx5 hx6).1 hr
        rcases q7 with h | h
        · exact h hr2.2.1
        exact h hr2.2.2
      exact V.rt [0] [] [] [] [] [] (bv false) (cong1 (fun (x0:Bool)=>(bv x0:Value)) e0)
    refine nm ((x1.l.length:Int)-1:Int) fun n1 hn1=>?_;refine nm (x1.l.getD n1.toNat default:Int) fun v3 hv3=>?_;refine nm (mupd v3 true m0:List (Int × Bool)) fun m1 hm1=>?_;refine V.g [.k (.map (some ((G4 0).b))),.k (x1.s.v),.k (x1.s.v),.ln (kx false (.f 2) x1 x1.l (fun _=>x1.s) (fun _ _ h=>h)),.ar ((x1.l.length:Int)-1) n1 hn1 (by omega) (by omega),.ix g0 (kx false (.f 2) x1 x1.l (fun _=>x1.s) (fun _ _ h=>h)) n1 (fun _=>⟨by omega,by omega⟩),.le g0 (kx false (.f 2) x1 x1.l (fun _=>x1.s) (fun _ _ h=>h)) n1 none false v3 hv3 (fun _=>⟨by omega,by omega⟩) false (fun _=>[iv v3]),.mu 7 0 66 3 4 true false m0 (fun _=>(G4 0).b) v3 true m1 hm1 true (fun _=>rfl) [] (fun _ _ _=>trivial)] fun _ _ G13=>?_;intro S_ s_
    refine V.g [.a (k0+1) (by omega) (by omega),.k (iv (k0+1))] fun _ _ G14=>?_;intro S_ s_
    refine V.rnd hZ1 (k0+1,m1) [0,1] (by kernel_rfl) ?_ ?_
    · refine ⟨?_,?_,?_,?_⟩
      · show 0≤(k0+1)
        first | omega | rfl | (simp;done) | (subst_vars;simp;done)
      · show (k0+1)≤(paths.length:Int)
        first | omega | rfl | (simp;done) | (subst_vars;simp;done)
      · show ∀ i,i < (k0+1).toNat→Rv.row (Rv.ls paths) (Rv.ls seen) i;exact Rv.row_step (by omega) hf3 ((Rv.row_iff hx1 hx2 hv1 hx3 hv2 hx4 hx5 hx6).2 ⟨q6,q8⟩)
      show m1=Rv.endm ((Rv.ls paths).take (k0+1).toNat);exact Rv.endm_step (by omega) (by omega) hf4 hx1 hn1 hw.1 hv3 hm1
    show ((paths.length:Int)-(k0+1)).toNat < ((paths.length:Int)-k0).toNat;omega
  refine V.g [.k (.map (some ((G4 0).b))),.ml 0 66 3 4 true false m0 (fun _=>(G4 0).b),.k (pathss.v),.ln (kf false (.f 0) paths (fun _=>pathss)),.k (bv (decide ((m0.length:Int)=(paths.length:Int)))),.k (bv (decide ((m0.length:Int)=(paths.length:Int))))] fun _ _ G15=>?_;intro S_ s_
  have e0:(decide ((m0.length:Int)=(paths.length:Int)))=decide (Rv.Form (Rv.ls paths) (Rv.ls seen)):=by
    refine Bool.eq_iff_iff.2 (Iff.trans iDT (Iff.trans ?_ decide_eq_true_iff.symm));exact Rv.form_fin (by omega) (by omega) (by omega) hf3 (by omega) hf4
  exact V.rt [0] [] [] [] [] [] (bv (decide ((m0.length:Int)=(paths.length:Int)))) (cong1 (fun (x0:Bool)=>(bv x0:Value)) e0)
set_option maxRecDepth 10000 in
theorem rcheck_ct (v:List DThing) (vs:SV) (paths:List (Fat Int)) (pathss:SV) (seen:List (Fat DThing)) (seens:SV) (hp:∀ x ∈ paths,x.l.length≤5000000000000) :
    Cp Try.prog 12 #[ag (DVault.mk ⟨v,vs⟩),pathss.v,seens.v] [fs true v vs,fs true paths pathss,fs true seen seens] (bv (decide (Rv.CheckP v (Rv.ls paths) (Rv.ls seen)))):=by
  refine V.fn mo Try.func12 30 1 (by kernel_rfl) fun w H ε k0=>?_;obtain ⟨⟨kl1, -⟩,⟨kl2, -⟩,⟨kl3, -⟩, -⟩:Lq v vs.v∧Lq paths pathss.v∧Lq seen seens.v∧True:=kq k0
  clear k0;refine V.g [.nb 0 0 (fun b=>pp b 0) 24 (fun _=>ca (DVault.mk ⟨v,vs⟩)),.kb false] fun _ _ G1=>?_;intro S_ s_
  refine V.g [.k (pathss.v),.k (seens.v),.cp g0 2 26 [(kf false (.f 1) paths (fun _=>pathss)).a,(kf false (.f 2) seen (fun _=>seens)).a] (fun _ G=>form_ct paths pathss seen seens),.k (bv (!(decide (Rv.Form (Rv.ls paths) (Rv.ls seen)))))] fun _ _ G2=>?_;intro S_ s_
  refine V.cn (b:=!(decide (Rv.Form (Rv.ls paths) (Rv.ls seen)))) (iNT iDF) (iNF iDT) (fun q1=>?_) (fun q2=>?_)
  · refine V.g [.kb false] fun _ _ G3=>?_;intro S_ s_
    have e0:false=decide (Rv.CheckP v (Rv.ls paths) (Rv.ls seen)):=by
      symm;rw [decide_eq_false_iff_not]
      exact fun h=>q1 h.1
    exact V.rt [0] [] [] [] [] [] (bv false) (cong1 (fun (x0:Bool)=>(bv x0:Value)) e0)
  have hF:Rv.Form (Rv.ls paths) (Rv.ls seen):=by first | exact q2 | exact Decidable.not_not.1 q2
  have hq1:seen.length=paths.length:=by have:=hF.2.2.1;rwa [Rv.ls_length,Rv.ls_length] at this
  refine V.g [.k (pathss.v),.ln (kf false (.f 1) paths (fun _=>pathss)),.k (iv 0)] fun _ _ G4=>?_;intro S_ s_
  refine V.loop (γ:=Int) (fun k0=>⟨[(2,seens.v),(3,pp ((G1 0).b) 0),(13,pathss.v),(14,iv (paths.length:Int)),(15,iv k0)],[fs false seen seens,fs false paths pathss,fs false v vs],[.blk ((G1 0).b) (ca (DVault.mk ⟨v,vs⟩)) 24]⟩) (fun k0=>(0≤k0)∧(k0≤(paths.length:Int))∧(∀ i,i < k0.toNat→Tm.viewF v (Rv.pl (Rv.ls paths) i)=Rv.sl (Rv.ls seen) i)) (fun k0=>((paths.length:Int)-k0).toNat) 0 (by kernel_rfl) [2,1,0] (by kernel_rfl) ?_ ?_
  · refine ⟨?_,?_,?_⟩
    · show 0≤(0:Int)
      first | omega | rfl | (simp;done) | (subst_vars;simp;done)
    · show (0:Int)≤(paths.length:Int)
      first | omega | rfl | (simp;done) | (subst_vars;simp;done)
    show ∀ i,i < (0:Int).toNat→Tm.viewF v (Rv.pl (Rv.ls paths) i)=Rv.sl (Rv.ls seen) i;intro i hi;simp at hi
  rintro k0 hF1 kw5 Z1 hZ1;have hF1:(0≤k0)∧(k0≤(paths.length:Int))∧(∀ i,i < k0.toNat→Tm.viewF v (Rv.pl (Rv.ls paths) i)=Rv.sl (Rv.ls seen) i):=hF1;obtain ⟨hf1,hf2,hf3⟩:=hF1;clear kw5;refine V.g [.k (bv (decide (k0 < (paths.length:Int))))] fun _ _ G5=>?_;intro S_ s_;refine V.cn (b:=decide (k0 < (paths.length:Int))) iDT iDF (fun q3=>?_) (fun q4=>?_)
  · refine nm (paths.getD k0.toNat default:Fat Int) fun x1 hx1=>?_;refine V.r [.k (iv k0),.ix g0 (kf false (.f 1) paths (fun _=>pathss)) k0 (fun _=>⟨by omega,by omega⟩),.le g0 (kf false (.f 1) paths (fun _=>pathss)) k0 none true x1 hx1 (fun _=>⟨by omega,by omega⟩) false (fun _=>[x1.s.v]),.k (iv k0),.k (x1.s.v)] fun _ _ G6 kw7=>?_;intro S_ s_
    obtain ⟨⟨kl4, -⟩, -⟩:Lq x1.l x1.s.v∧True:=kq kw7;clear kw7;refine nm (seen.getD k0.toNat default:Fat DThing) fun x2 hx2=>?_;refine V.r [.ld 0 0 true (fun _=>Dat.cells (DVault.mk ⟨v,vs⟩)),.k (x1.s.v),.ct g0 2 21 false [] [] [(kf false (.f 2) v (fun _=>vs)).a,(kx false (.f 3) x1 x1.l (fun _=>x1.s) (fun _ _ h=>h)).a] (fun _ G=>view_ct v vs x1.l x1.s (hp _ (getD_mem (by omega) hx1))),.k (seens.v),.k (iv k0),.ix g0 (kf false (.f 0) seen (fun _=>seens)) k0 (fun _=>⟨by omega,by omega⟩),.le g0 (kf false (.f 0) seen (fun _=>seens)) k0 none true x2 hx2 (fun _=>⟨by omega,by omega⟩) false (fun _=>[x2.s.v]),.cp g0 7 29 [(kf true (.g 2 0) (Tm.viewF v x1.l) (fun G=>(G 2).ss 0)).a,(kx false (.g 6 0) x2 x2.l (fun _=>x2.s) (fun _ _ h=>h)).a] (fun _ G=>equal_ct (Tm.viewF v x1.l) ((G 2).ss 0) x2.l x2.s),.k (bv (!(decide ((Tm.viewF v x1.l)=x2.l))))] fun _ _ G7 kw8=>?_;intro S_ s_;obtain ⟨⟨kl5, -⟩,⟨kl6, -⟩, -⟩:Lq (Tm.viewF v x1.l) (((G7 2).ss 0).v)∧Lq x2.l x2.s.v∧True:=kq kw8;clear kw8;refine V.cn (b:=!(decide ((Tm.viewF v x1.l)=x2.l))) (iNT iDF) (iNF iDT) (fun q5=>?_) (fun q6=>?_)
    · refine V.g [.kb false] fun _ _ G8=>?_;intro S_ s_
      have e0:false=decide (Rv.CheckP v (Rv.ls paths) (Rv.ls seen)):=by
        symm;rw [decide_eq_false_iff_not]
        intro h;apply q5;have h2:=h.2 k0.toNat (by simp;omega);rw [Rv.pl_ls hx1,Rv.sl_ls hx2] at h2;exact h2
      exact V.rt [0] [] [] [] [] [] (bv false) (cong1 (fun (x0:Bool)=>(bv x0:Value)) e0)
    refine V.g [.a (k0+1) (by omega) (by omega),.k (iv (k0+1))] fun _ _ G9=>?_;intro S_ s_
    refine V.rnd hZ1 (k0+1) [0,1,2] (by kernel_rfl) ?_ ?_
    · refine ⟨?_,?_,?_⟩
      · show 0≤(k0+1)
        first | omega | rfl | (simp;done) | (subst_vars;simp;done)
      · show (k0+1)≤(paths.length:Int)
        first | omega | rfl | (simp;done) | (subst_vars;simp;done)
      show ∀ i,i < (k0+1).toNat→Tm.viewF v (Rv.pl (Rv.ls paths) i)=Rv.sl (Rv.ls seen) i;exact Rv.check_step (by omega) hf3 hx1 hx2 q6
    show ((paths.length:Int)-(k0+1)).toNat < ((paths.length:Int)-k0).toNat;omega
  refine V.g [.kb true] fun _ _ G10=>?_;intro S_ s_
  have e0:true=decide (Rv.CheckP v (Rv.ls paths) (Rv.ls seen)):=by symm;rw [decide_eq_true_iff];exact ⟨hF,fun i hi=>hf3 i (by rw [Rv.ls_length] at hi;omega)⟩
  exact V.rt [0] [] [] [] [] [] (bv true) (cong1 (fun (x0:Bool)=>(bv x0:Value)) e0)
set_option maxRecDepth 10000 in
theorem rest_ct (paths:List (Fat Int)) (pathss:SV) (seen:List (Fat DThing)) (seens:SV) :
    Cp Try.prog 9 #[pathss.v,seens.v] [fs true paths pathss,fs true seen seens] (.tuple #[iv (Rv.restV (Rv.ls paths) (Rv.ls seen)),bv (decide (Rv.restB (Rv.ls paths) (Rv.ls seen)))]):=by
  refine V.fn mo Try.func9 38 0 (by kernel_rfl) fun w H ε k0=>?_;obtain ⟨⟨kl1, -⟩,⟨kl2, -⟩, -⟩:Lq paths pathss.v∧Lq seen seens.v∧True:=kq k0
  clear k0;refine V.g [.k (iv 0),.kb false] fun _ _ G1=>?_;intro S_ s_
  refine V.g [.k (pathss.v),.k (seens.v),.cp g0 2 26 [(kf false (.f 0) paths (fun _=>pathss)).a,(kf false (.f 1) seen (fun _=>seens)).a] (fun _ G=>form_ct paths pathss seen seens),.k (bv (!(decide (Rv.Form (Rv.ls paths) (Rv.ls seen)))))] fun _ _ G2=>?_;intro S_ s_
  refine V.cn (b:=!(decide (Rv.Form (Rv.ls paths) (Rv.ls seen)))) (iNT iDF) (iNF iDT) (fun q1=>?_) (fun q2=>?_)
  · refine V.g [.k (iv 0),.kb false] fun _ _ G3=>?_;intro S_ s_
    have e0:(0:Int)=Rv.restV (Rv.ls paths) (Rv.ls seen):=(Rv.restV_no fun h=>q1 h.1).symm;have e1:false=decide (Rv.restB (Rv.ls paths) (Rv.ls seen)):=by
      symm;rw [decide_eq_false_iff_not]
      exact fun h=>q1 h.1
    exact V.rt [0,0] [] [] [] [] [] (.tuple #[iv 0,bv false]) (cong2 (fun (x0:Int) (x1:Bool)=>(.tuple #[iv x0,bv x1]:Value)) e0 e1)
  have hF:Rv.Form (Rv.ls paths) (Rv.ls seen):=by first | exact q2 | exact Decidable.not_not.1 q2
  have hq1:=Rv.form_q hF;refine nm (seen.getD (0:Int).toNat default:Fat DThing) fun x1 hx1=>?_;refine nm (x1.l.getD (0:Int).toNat default:DThing) fun x2 hx2=>?_;have hl0:=Rv.len_ne hF (k:=0) (by omega) (by omega) hx1
  have hb0:=(Rv.form_lst hF (i:=0) (by rw [Rv.ls_length];omega)).2.2;rw [show Rv.te (Rv.sl (Rv.ls seen) 0) 0=x2 by rw [hx2,hx1,Rv.sl_ls'];rfl] at hb0;unfold Tm.Bd at hb0;refine V.r [.k (seens.v),.ix g0 (kf false (.f 1) seen (fun _=>seens)) 0 (fun _=>⟨by omega,by omega⟩),.le g0 (kf false (.f 1) seen (fun _=>seens)) (0:Int) none true x1 hx1 (fun _=>⟨by omega,by omega⟩) false (fun _=>[x1.s.v]),.ix g0 (kx false (.g 2 0) x1 x1.l (fun _=>x1.s) (fun _ _ h=>h)) 0 (fun _=>⟨by omega,by omega⟩),.k (.pointer (some ((elemAddr x1.s.v ((0:Int).toNat * 5)).add 1))),.le g0 (kx false (.g 2 0) x1 x1.l (fun _=>x1.s) (fun _ _ h=>h)) (0:Int) (some 1) false x2 hx2 (fun _=>⟨by omega,by omega⟩) false (fun _=>[iv x2.Value]),.k (iv x2.Value)] fun _ _ G4 kw4=>?_;intro S_ s_
  obtain ⟨⟨kl3, -⟩, -⟩:Lq x1.l x1.s.v∧True:=kq kw4;clear kw4;refine V.g [.k (seens.v),.ln (kf false (.f 1) seen (fun _=>seens)),.k (iv 0)] fun _ _ G5=>?_;intro S_ s_;refine V.loop (γ:=Int × Int) (fun ⟨rest,k0⟩=>⟨[(6,iv rest),(19,seens.v),(20,iv (seen.length:Int)),(21,iv k0)],[fs false seen seens],[]⟩) (fun ⟨rest,k0⟩=>(0≤k0)∧(k0≤(seen.length:Int))∧(rest=x2.Value-Rv.opn (Rv.ls seen) k0.toNat)∧(-1125899906842624 * k0≤rest)∧(rest≤1125899906842624)) (fun ⟨rest,k0⟩=>((seen.length:Int)-k0).toNat) (x2.Value,0) (by kernel_rfl) [1] (by kernel_rfl) ?_ ?_
  · refine ⟨?_,?_,?_,?_,?_⟩
    · show 0≤(0:Int);omega
    · show (0:Int)≤(seen.length:Int);omega
    · show x2.Value=x2.Value-Rv.opn (Rv.ls seen) (0:Int).toNat;simp [Rv.opn]
    · show -1125899906842624 * (0:Int)≤x2.Value;omega
    show x2.Value≤1125899906842624;omega
  rintro ⟨rest,k0⟩ hF1 kw6 Z1 hZ1;have hF1:(0≤k0)∧(k0≤(seen.length:Int))∧(rest=x2.Value-Rv.opn (Rv.ls seen) k0.toNat)∧(-1125899906842624 * k0≤rest)∧(rest≤1125899906842624):=hF1;obtain ⟨hf1,hf2,hf3,hf4,hf5⟩:=hF1;clear kw6;refine V.g [.k (bv (decide (k0 < (seen.length:Int))))] fun _ _ G6=>?_;intro S_ s_;refine V.cn (b:=decide (k0 < (seen.length:Int))) iDT iDF (fun q3=>?_) (fun q4=>?_)
  · refine nm (seen.getD k0.toNat default:Fat DThing) fun x3 hx3=>?_;refine V.r [.ix g0 (kf false (.f 0) seen (fun _=>seens)) k0 (fun _=>⟨by omega,by omega⟩),.le g0 (kf false (.f 0) seen (fun _=>seens)) k0 none true x3 hx3 (fun _=>⟨by omega,by omega⟩) false (fun _=>[x3.s.v]),.k (x3.s.v)] fun _ _ G7 kw8=>?_;intro S_ s_
    obtain ⟨⟨kl4, -⟩, -⟩:Lq x3.l x3.s.v∧True:=kq kw8;clear kw8;refine nm ((x3.l.length:Int)-1:Int) fun n1 hn1=>?_;refine nm (x3.l.getD n1.toNat default:DThing) fun x4 hx4=>?_;refine nm (rest-x4.Value:Int) fun n2 hn2=>?_;have hl1:=Rv.len_ne hF (by omega) (by omega) hx3;have hb1:=Rv.last_bd hF (by omega) (by omega) hx3 hn1 hx4;unfold Tm.Bd at hb1;refine V.g [.k (iv rest),.k (x3.s.v),.k (x3.s.v),.ln (kx false (.f 1) x3 x3.l (fun _=>x3.s) (fun _ _ h=>h)),.ar ((x3.l.length:Int)-1) n1 hn1 (by omega) (by omega),.ix g0 (kx false (.f 1) x3 x3.l (fun _=>x3.s) (fun _ _ h=>h)) n1 (fun _=>⟨by omega,by omega⟩),.k (.pointer (some ((elemAddr x3.s.v (n1.toNat * 5)).add 1))),.le g0 (kx false (.f 1) x3 x3.l (fun _=>x3.s) (fun _ _ h=>h)) n1 (some 1) false x4 hx4 (fun _=>⟨by omega,by omega⟩) false (fun _=>[iv x4.Value]),.ar (rest-x4.Value) n2 hn2 (by omega) (by omega),.k (iv n2)] fun _ _ G8=>?_;intro S_ s_;refine V.g [.a (k0+1) (by omega) (by omega),.k (iv (k0+1))] fun _ _ G9=>?_;intro S_ s_;refine V.rnd hZ1 (n2,k0+1) [0] (by kernel_rfl) ?_ ?_
    · refine ⟨?_,?_,?_,?_,?_⟩
      · show 0≤(k0+1);omega
      · show (k0+1)≤(seen.length:Int);omega
      · show n2=x2.Value-Rv.opn (Rv.ls seen) (k0+1).toNat;rw [Rv.opn_step (by omega) (by omega) hx3 hn1 hx4];omega
      · show -1125899906842624 * (k0+1)≤n2;omega
      show n2≤1125899906842624;omega
    show ((seen.length:Int)-(k0+1)).toNat < ((seen.length:Int)-k0).toNat;omega
  refine V.g [.k (iv rest),.k (bv (decide (rest < 0)))] fun _ _ G10=>?_;intro S_ s_
  refine V.cn (b:=decide (rest < 0)) iDT iDF (fun q5=>?_) (fun q6=>?_)
  · refine V.g [.k (iv 0),.kb false] fun _ _ G11=>?_;intro S_ s_
    have e0:(0:Int)=Rv.restV (Rv.ls paths) (Rv.ls seen):=by
      have hR:=Rv.rest_eq (k:=k0) hx1 hx2 hf3 (by omega);exact (Rv.restV_no fun h=>by have:=h.2;omega).symm
    have e1:false=decide (Rv.restB (Rv.ls paths) (Rv.ls seen)):=by
      have hR:=Rv.rest_eq (k:=k0) hx1 hx2 hf3 (by omega)
      symm;rw [decide_eq_false_iff_not]
      exact fun h=>by have:=h.2;omega
    exact V.rt [0,0] [] [] [] [] [] (.tuple #[iv 0,bv false]) (cong2 (fun (x0:Int) (x1:Bool)=>(.tuple #[iv x0,bv x1]:Value)) e0 e1)
  refine V.g [.k (iv rest),.k (iv rest),.kb true] fun _ _ G12=>?_;intro S_ s_
  have e0:rest=Rv.restV (Rv.ls paths) (Rv.ls seen):=by
    have hR:=Rv.rest_eq (k:=k0) hx1 hx2 hf3 (by omega);rw [Rv.restV_yes ⟨hF,by omega⟩];exact hR
  have e1:true=decide (Rv.restB (Rv.ls paths) (Rv.ls seen)):=by
    have hR:=Rv.rest_eq (k:=k0) hx1 hx2 hf3 (by omega)
    symm;rw [decide_eq_true_iff];exact ⟨hF,by omega⟩
  exact V.rt [0,0] [] [] [] [] [] (.tuple #[iv rest,bv true]) (cong2 (fun (x0:Int) (x1:Bool)=>(.tuple #[iv x0,bv x1]:Value)) e0 e1)
set_option maxRecDepth 10000 in
theorem put_ct (k_halves:List (Int × DThing)) (k_halvesb:Nat) (k_open:List (Int × DThing)) (k_openb:Nat) (at_:Int) (e:ByteArray) (d f a c:Int) :
    Ct Try.prog 32 #[.agg #[.map (some k_halvesb),.map (some k_openb)],iv at_,ag (DThing.mk e d f a c)] [] [mp false true k_halves k_halvesb,mp false true k_open k_openb] (fun g=>bv (decide (Rv.putB k_halves k_open at_ ⟨e,d,f,a,c⟩))) (fun g=>[]) (fun g=>[mp true true (Rv.putH k_halves at_ ⟨e,d,f,a,c⟩) k_halvesb,mp true true (Rv.putO k_halves k_open at_ ⟨e,d,f,a,c⟩) k_openb]) (fun g=>[]):=by
  refine V.fn mo Try.func32 54 5 (by kernel_rfl) fun w H ε k0=>?_;clear k0
  refine V.trm true k_halves k_halvesb 0 (by kernel_rfl) (fun _ _=>trivial) ?_;refine V.trm true k_open k_openb 1 (by kernel_rfl) (fun _ _=>trivial) ?_;refine V.g [.nb 0 2 (fun b=>pp b 0) 51 (fun _=>#[.map (some k_halvesb),.map (some k_openb)]),.nb 1 3 (fun b=>pp b 0) 41 (fun _=>ca (DThing.mk e d f a c)),.kb false] fun _ _ G1=>?_;intro S s
  refine V.g [.k (pp ((G1 1).b) 3),.ld 3 3 false (fun _=>[iv a]),.k (pp ((G1 1).b) 4),.ld 3 4 false (fun _=>[iv c]),.k (ag (DThing.mk ByteArray.empty 0 0 a c)),.nb 5 4 (fun b=>pp b 0) 41 (fun _=>ca (DThing.mk ByteArray.empty 0 0 0 0)),.st 4 (fun G=>.blk ((G 5).b) (ca (DThing.mk ByteArray.empty 0 0 a c)) 41)] fun _ _ G2=>?_;intro S s
  refine nm ((mlook at_ k_halves).getD default:DThing) fun x1 hx1=>?_;refine nm ((mlook at_ k_halves).isSome:Bool) fun is1 his1=>?_;refine V.g [.k (pp ((G1 0).b) 0),.ld 2 0 false (fun _=>[.map (some k_halvesb)]),.k (iv at_),.lk 0 49 3 41 true true true k_halves (fun _=>k_halvesb) at_ x1 hx1 is1 his1 false,.k (.tuple #[ag x1,bv is1]),.k (ag x1),.k (bv is1),.nb 7 5 (fun b=>pp b 0) 41 (fun _=>ca (DThing.mk ByteArray.empty 0 0 0 0)),.st 5 (fun G=>.blk ((G 7).b) (ca x1) 41),.k (bv is1)] fun _ _ G3=>?_;intro S s
  refine nm (is1 && (!(decide (x1.Text=ByteArray.empty∧x1.Value=0∧x1.Blind=0∧x1.Left=a∧x1.Right=c))):Bool) fun p1 hp1=>?_;refine V.g [.k (bv is1),.k (bv is1),.ld 5 0 true (fun _=>Dat.cells x1),.ld 4 0 true (fun _=>Dat.cells (DThing.mk ByteArray.empty 0 0 a c)),.aeq true 41 (ca x1) (ca (DThing.mk ByteArray.empty 0 0 a c)) _ fun w=>thing_equal w x1.Text x1.Value x1.Blind x1.Left x1.Right ByteArray.empty 0 0 a c,.andn g0 false is1 (!(decide (x1.Text=ByteArray.empty∧x1.Value=0∧x1.Blind=0∧x1.Left=a∧x1.Right=c))) p1 hp1] fun _ _ G4=>?_;intro S s
  refine V.cn (b:=p1) (iN hp1 (iAT Iff.rfl (iNT iDF))) (iN hp1 (iAF Iff.rfl (iNF iDT))) (fun q1=>?_) (fun q2=>?_)
  · have hP:=Rv.put_1 (o:=k_open) (x:=⟨e,d,f,a,c⟩) hx1 his1 q1;refine V.g [.kb false] fun _ _ G5=>?_;intro S s
    have e0:false=decide (Rv.putB k_halves k_open at_ ⟨e,d,f,a,c⟩):=(decide_eq_false hP.1).symm;have eL0:k_halves=Rv.putH k_halves at_ ⟨e,d,f,a,c⟩:=hP.2.1.symm;refine V.alt (fun (zz1:List (Int × DThing))=>(⟨[(6,bv false)],[],[mp true true zz1 k_halvesb,mp true true k_open k_openb,.blk ((G1 0).b) #[.map (some k_halvesb),.map (some k_openb)] 51,.blk ((G1 1).b) (ca (DThing.mk e d f a c)) 41,.blk ((G2 5).b) (ca (DThing.mk ByteArray.empty 0 0 a c)) 41,.blk ((G3 7).b) (ca x1) 41,.no]⟩:St)) eL0 [] (by kernel_rfl) ?_;have eL1:k_open=Rv.putO k_halves k_open at_ ⟨e,d,f,a,c⟩:=hP.2.2.symm;refine V.alt (fun (zz2:List (Int × DThing))=>(⟨[(6,bv false)],[],[mp true true (Rv.putH k_halves at_ ⟨e,d,f,a,c⟩) k_halvesb,mp true true zz2 k_openb,.blk ((G1 0).b) #[.map (some k_halvesb),.map (some k_openb)] 51,.blk ((G1 1).b) (ca (DThing.mk e d f a c)) 41,.blk ((G2 5).b) (ca (DThing.mk ByteArray.empty 0 0 a c)) 41,.blk ((G3 7).b) (ca x1) 41,.no]⟩:St)) eL1 [] (by kernel_rfl) ?_;exact V.rt [0] [] [] [] [] [0,1] (bv false) (cong1 (fun (x0:Bool)=>(bv x0:Value)) e0)
  have hP2:=Rv.put_2 (o:=k_open) (x:=⟨e,d,f,a,c⟩) hx1 his1 q2;refine nm (mupd at_ (DThing.mk ByteArray.empty 0 0 a c) k_halves:List (Int × DThing)) fun m1 hm1=>?_;refine V.g [.k (pp ((G1 0).b) 0),.ld 2 0 false (fun _=>[.map (some k_halvesb)]),.k (iv at_),.ld 4 0 true (fun _=>Dat.cells (DThing.mk ByteArray.empty 0 0 a c)),.mu 4 0 49 3 41 true true k_halves (fun _=>k_halvesb) at_ (DThing.mk ByteArray.empty 0 0 a c) m1 hm1 true (fun _=>rfl) [] (fun _ _ _=>trivial)] fun _ _ G6=>?_;intro S s
  refine V.g [.k (pp ((G1 1).b) 1),.ld 3 1 false (fun _=>[iv d]),.k (bv (decide (d=(-1))))] fun _ _ G7=>?_;intro S s
  refine V.cn (b:=decide (d=(-1))) iDT iDF (fun q3=>?_) (fun q4=>?_)
  · have hP:=Rv.put_3 (o:=k_open) hP2.1 q3;refine V.g [.kb true] fun _ _ G8=>?_;intro S s
    have e0:true=decide (Rv.putB k_halves k_open at_ ⟨e,d,f,a,c⟩):=(decide_eq_true hP.1).symm;have eL0:m1=Rv.putH k_halves at_ ⟨e,d,f,a,c⟩:=by rw [hm1];exact hP2.2.symm
    subst eL0;have eL1:k_open=Rv.putO k_halves k_open at_ ⟨e,d,f,a,c⟩:=hP.2.symm;refine V.alt (fun (zz3:List (Int × DThing))=>(⟨[(6,bv true)],[],[mp true true (Rv.putH k_halves at_ ⟨e,d,f,a,c⟩) k_halvesb,mp true true zz3 k_openb,.blk ((G1 0).b) #[.map (some k_halvesb),.map (some k_openb)] 51,.blk ((G1 1).b) (ca (DThing.mk e d f a c)) 41,.blk ((G2 5).b) (ca (DThing.mk ByteArray.empty 0 0 a c)) 41,.blk ((G3 7).b) (ca x1) 41,.no]⟩:St)) eL1 [] (by kernel_rfl) ?_;exact V.rt [0] [] [] [] [] [0,1] (bv true) (cong1 (fun (x0:Bool)=>(bv x0:Value)) e0)
  refine nm ((mlook at_ k_open).getD default:DThing) fun x2 hx2=>?_;refine nm ((mlook at_ k_open).isSome:Bool) fun is2 his2=>?_;refine V.g [.k (pp ((G1 0).b) 1),.ld 2 1 false (fun _=>[.map (some k_openb)]),.k (iv at_),.lk 1 49 3 41 true true true k_open (fun _=>k_openb) at_ x2 hx2 is2 his2 false,.k (.tuple #[ag x2,bv is2]),.k (ag x2),.k (bv is2),.nb 7 6 (fun b=>pp b 0) 41 (fun _=>ca (DThing.mk ByteArray.empty 0 0 0 0)),.st 6 (fun G=>.blk ((G 7).b) (ca x2) 41),.k (bv is2)] fun _ _ G9=>?_;intro S s
  refine nm (is2 && (!(decide (x2.Text=e∧x2.Value=d∧x2.Blind=f∧x2.Left=a∧x2.Right=c))):Bool) fun p2 hp2=>?_;refine V.g [.k (bv is2),.k (bv is2),.ld 6 0 true (fun _=>Dat.cells x2),.ld 3 0 true (fun _=>Dat.cells (DThing.mk e d f a c)),.aeq true 41 (ca x2) (ca (DThing.mk e d f a c)) _ fun w=>thing_equal w x2.Text x2.Value x2.Blind x2.Left x2.Right e d f a c,.andn g0 false is2 (!(decide (x2.Text=e∧x2.Value=d∧x2.Blind=f∧x2.Left=a∧x2.Right=c))) p2 hp2] fun _ _ G10=>?_;intro S s
  refine V.cn (b:=p2) (iN hp2 (iAT Iff.rfl (iNT iDF))) (iN hp2 (iAF Iff.rfl (iNF iDT))) (fun q5=>?_) (fun q6=>?_)
  · have hP:=Rv.put_4 (x:=⟨e,d,f,a,c⟩) hP2.1 q4 hx2 his2 q5;refine V.g [.kb false] fun _ _ G11=>?_;intro S s
    have e0:false=decide (Rv.putB k_halves k_open at_ ⟨e,d,f,a,c⟩):=(decide_eq_false hP.1).symm;have eL0:m1=Rv.putH k_halves at_ ⟨e,d,f,a,c⟩:=by rw [hm1];exact hP2.2.symm
    subst eL0;have eL1:k_open=Rv.putO k_halves k_open at_ ⟨e,d,f,a,c⟩:=hP.2.symm;refine V.alt (fun (zz4:List (Int × DThing))=>(⟨[(6,bv false)],[],[mp true true (Rv.putH k_halves at_ ⟨e,d,f,a,c⟩) k_halvesb,mp true true zz4 k_openb,.blk ((G1 0).b) #[.map (some k_halvesb),.map (some k_openb)] 51,.blk ((G1 1).b) (ca (DThing.mk e d f a c)) 41,.blk ((G2 5).b) (ca (DThing.mk ByteArray.empty 0 0 a c)) 41,.blk ((G3 7).b) (ca x1) 41,.blk ((G9 7).b) (ca x2) 41]⟩:St)) eL1 [] (by kernel_rfl) ?_;exact V.rt [0] [] [] [] [] [0,1] (bv false) (cong1 (fun (x0:Bool)=>(bv x0:Value)) e0)
  have hP:=Rv.put_5 (x:=⟨e,d,f,a,c⟩) hP2.1 q4 hx2 his2 q6;refine nm (mupd at_ (DThing.mk e d f a c) k_open:List (Int × DThing)) fun m2 hm2=>?_;refine V.g [.k (pp ((G1 0).b) 1),.ld 2 1 false (fun _=>[.map (some k_openb)]),.k (iv at_),.ld 3 0 true (fun _=>Dat.cells (DThing.mk e d f a c)),.mu 4 1 49 3 41 true true k_open (fun _=>k_openb) at_ (DThing.mk e d f a c) m2 hm2 true (fun _=>rfl) [] (fun _ _ _=>trivial)] fun _ _ G12=>?_;intro S s
  refine V.g [.kb true] fun _ _ G13=>?_;intro S s
  have e0:true=decide (Rv.putB k_halves k_open at_ ⟨e,d,f,a,c⟩):=(decide_eq_true hP.1).symm;have eL0:m1=Rv.putH k_halves at_ ⟨e,d,f,a,c⟩:=by rw [hm1];exact hP2.2.symm
  subst eL0;have eL1:m2=Rv.putO k_halves k_open at_ ⟨e,d,f,a,c⟩:=by rw [hm2];exact hP.2.symm
  subst eL1;exact V.rt [0] [] [] [] [] [0,1] (bv true) (cong1 (fun (x0:Bool)=>(bv x0:Value)) e0)

open Go Go.Proofs
set_option maxRecDepth 10000 in
theorem growt_ct (n:Int) (h0:0≤n) (hb:n≤1000) :
    Ct Try.prog 47 #[.slice none 0 0,iv n] [] [] (fun g=>((g.ss 0)).v) (fun g=>[]) (fun g=>[os true 22 ([]:List (Fat DThing)) (g.ss 0)]) (fun g=>[]):=by
  refine V.fn mo Try.func47 27 2 (by kernel_rfl) fun w H ε k0=>?_;clear k0
  refine V.g [.k (.slice none 0 0)] fun _ _ G1=>?_;intro S_ s_
  refine V.g [.k (iv n),.k (bv (decide (n < 0)))] fun _ _ G2=>?_;intro S_ s_
  refine V.cn (b:=decide (n < 0)) iDT iDF (fun q1=>?_) (fun q2=>?_)
  · exfalso;omega
  refine V.g [.k (iv n),.k (.slice none 0 0),.k (iv 0),.k (.slice none 0 0),.k (iv 0),.k (iv 0),.a (n-0) (by omega) (by omega),.k (iv (n-0))] fun _ _ G3=>?_;intro S_ s_
  refine V.g [.k (iv (n-0)),.k (bv (decide (0 < n-0)))] fun _ _ G4=>?_;intro S_ s_
  refine V.cn (b:=decide (0 < n-0)) iDT iDF (fun q3=>?_) (fun q4=>?_)
  · refine nm (List.replicate (n-0).toNat (default:Fat DThing):List (Fat DThing)) fun l1 hl1=>?_;have hl1n:=congrArg List.length hl1;try simp only [List.length_append,List.length_cons,List.length_nil,List.length_replicate,List.length_set,List.length_take,List.length_drop,List.length_map,List.length_reverse,List.length_range] at hl1n
    refine nm (l1.take (0:Int).toNat:List (Fat DThing)) fun l2 hl2=>?_;have hl2n:=congrArg List.length hl2;try simp only [List.length_append,List.length_cons,List.length_nil,List.length_replicate,List.length_set,List.length_take,List.length_drop,List.length_map,List.length_reverse,List.length_range] at hl2n
    refine V.g [.k (.slice none 0 0),.k (.slice none 0 0),.k (iv 0),.k (.slice none 0 0),.k (iv (n-0)),.apz 5 0 27 3 22 24 (n-0) l1 hl1 (by omega) (by omega) (by omega),.k (.slice none 0 0),.k (iv 0),.fro 8 0 22 true l1 (fun G=>(G 5).s) 0 l2 hl2 (by omega) (by omega),.v fun G=>(((G 5).s).sub 1 0 (0:Int).toNat).v] fun _ _ G5=>?_;intro S_ s_
    refine V.g [.k ((((G5 5).s).sub 1 0 (0:Int).toNat).v),.k ((((G5 5).s).sub 1 0 (0:Int).toNat).v)] fun _ _ G6=>?_;intro S_ s_
    have e0:l2=([]:List (Fat DThing)):=by rw [hl2];rfl
    subst e0;exact V.rs [0] [(((G5 5).s).sub 1 0 (0:Int).toNat)] [fun _=>{}] [] [] [0] ((((G5 5).s).sub 1 0 (0:Int).toNat).v)
  refine V.g [.k (.slice none 0 0),.k (.slice none 0 0)] fun _ _ G7=>?_;intro S_ s_
  refine V.on (α:=Fat DThing) 0 22 (by kernel_rfl) ?_;exact V.rs [0] [{}] [fun _=>{}] [] [] [0] (SV.v ({}))
set_option maxRecDepth 10000 in
theorem growi_ct (n:Int) (h0:0≤n) (hb:n≤1000) :
    Ct Try.prog 48 #[.slice none 0 0,iv n] [] [] (fun g=>((g.ss 0)).v) (fun g=>[]) (fun g=>[os true 25 ([]:List (Fat Int)) (g.ss 0)]) (fun g=>[]):=by
  refine V.fn mo Try.func48 27 2 (by kernel_rfl) fun w H ε k0=>?_;clear k0
  refine V.g [.k (.slice none 0 0)] fun _ _ G1=>?_;intro S_ s_
  refine V.g [.k (iv n),.k (bv (decide (n < 0)))] fun _ _ G2=>?_;intro S_ s_
  refine V.cn (b:=decide (n < 0)) iDT iDF (fun q1=>?_) (fun q2=>?_)
  · exfalso;omega
  refine V.g [.k (iv n),.k (.slice none 0 0),.k (iv 0),.k (.slice none 0 0),.k (iv 0),.k (iv 0),.a (n-0) (by omega) (by omega),.k (iv (n-0))] fun _ _ G3=>?_;intro S_ s_
  refine V.g [.k (iv (n-0)),.k (bv (decide (0 < n-0)))] fun _ _ G4=>?_;intro S_ s_
  refine V.cn (b:=decide (0 < n-0)) iDT iDF (fun q3=>?_) (fun q4=>?_)
  · refine nm (List.replicate (n-0).toNat (default:Fat Int):List (Fat Int)) fun l1 hl1=>?_;have hl1n:=congrArg List.length hl1;try simp only [List.length_append,List.length_cons,List.length_nil,List.length_replicate,List.length_set,List.length_take,List.length_drop,List.length_map,List.length_reverse,List.length_range] at hl1n
    refine nm (l1.take (0:Int).toNat:List (Fat Int)) fun l2 hl2=>?_;have hl2n:=congrArg List.length hl2;try simp only [List.length_append,List.length_cons,List.length_nil,List.length_replicate,List.length_set,List.length_take,List.length_drop,List.length_map,List.length_reverse,List.length_range] at hl2n
    refine V.g [.k (.slice none 0 0),.k (.slice none 0 0),.k (iv 0),.k (.slice none 0 0),.k (iv (n-0)),.apz 5 0 26 3 25 24 (n-0) l1 hl1 (by omega) (by omega) (by omega),.k (.slice none 0 0),.k (iv 0),.fro 8 0 25 true l1 (fun G=>(G 5).s) 0 l2 hl2 (by omega) (by omega),.v fun G=>(((G 5).s).sub 1 0 (0:Int).toNat).v] fun _ _ G5=>?_;intro S_ s_
    refine V.g [.k ((((G5 5).s).sub 1 0 (0:Int).toNat).v),.k ((((G5 5).s).sub 1 0 (0:Int).toNat).v)] fun _ _ G6=>?_;intro S_ s_
    have e0:l2=([]:List (Fat Int)):=by rw [hl2];rfl
    subst e0;exact V.rs [0] [(((G5 5).s).sub 1 0 (0:Int).toNat)] [fun _=>{}] [] [] [0] ((((G5 5).s).sub 1 0 (0:Int).toNat).v)
  refine V.g [.k (.slice none 0 0),.k (.slice none 0 0)] fun _ _ G7=>?_;intro S_ s_
  refine V.on (α:=Fat Int) 0 25 (by kernel_rfl) ?_;exact V.rs [0] [{}] [fun _=>{}] [] [] [0] (SV.v ({}))
set_option maxRecDepth 10000 in
theorem concatt_ct (slices:List (Fat (Fat DThing))) (slicess:SV) (hn:slices.length≤2) (hb:∀ x ∈ slices,x.l.length≤100) :
    Ct Try.prog 30 #[slicess.v] [fs true slices slicess] [] (fun g=>((g.ss 0)).v) (fun g=>[]) (fun g=>[os false 22 (Rv.cat slices) (g.ss 0)]) (fun g=>[]):=by
  refine V.fn mo Try.func30 36 1 (by kernel_rfl) fun w H ε k0=>?_;obtain ⟨⟨kl1, -⟩, -⟩:Lq slices slicess.v∧True:=kq k0
  clear k0;refine V.g [.k (.slice none 0 0)] fun _ _ G1=>?_;intro S_ s_
  refine V.g [.k (iv 0)] fun _ _ G2=>?_;intro S_ s_
  refine V.g [.k (slicess.v),.ln (kf false (.f 0) slices (fun _=>slicess)),.k (iv 0)] fun _ _ G3=>?_;intro S_ s_
  refine V.loop (γ:=Int × Int) (fun ⟨size,k0⟩=>⟨[(0,slicess.v),(3,iv size),(9,slicess.v),(10,iv (slices.length:Int)),(11,iv k0)],[fs false slices slicess],[.no]⟩) (fun ⟨size,k0⟩=>(0≤k0)∧(k0≤(slices.length:Int))∧(0≤size)∧(size≤100 * k0)) (fun ⟨size,k0⟩=>((slices.length:Int)-k0).toNat) (0,0) (by kernel_rfl) [0] (by kernel_rfl) ?_ ?_
  · refine ⟨?_,?_,?_,?_⟩
    · show 0≤(0:Int)
      first | omega | rfl | (simp;done) | (subst_vars;simp;done)
    · show (0:Int)≤(slices.length:Int)
      first | omega | rfl | (simp;done) | (subst_vars;simp;done)
    · show 0≤(0:Int)
      first | omega | rfl | (simp;done) | (subst_vars;simp;done)
    show (0:Int)≤100 * (0:Int)
    first | omega | rfl | (simp;done) | (subst_vars;simp;done)
  rintro ⟨size,k0⟩ hF1 kw4 Z1 hZ1;have hF1:(0≤k0)∧(k0≤(slices.length:Int))∧(0≤size)∧(size≤100 * k0):=hF1;obtain ⟨hf1,hf2,hf3,hf4⟩:=hF1;clear kw4;refine V.g [.k (bv (decide (k0 < (slices.length:Int))))] fun _ _ G4=>?_;intro S_ s_;refine V.cn (b:=decide (k0 < (slices.length:Int))) iDT iDF (fun q1=>?_) (fun q2=>?_)
  · refine nm (slices.getD k0.toNat default:Fat (Fat DThing)) fun x1 hx1=>?_;refine V.r [.ix g0 (kf false (.f 0) slices (fun _=>slicess)) k0 (fun _=>⟨by omega,by omega⟩),.le g0 (kf false (.f 0) slices (fun _=>slicess)) k0 none true x1 hx1 (fun _=>⟨by omega,by omega⟩) false (fun _=>[x1.s.v]),.k (x1.s.v)] fun _ _ G5 kw6=>?_;intro S_ s_
    obtain ⟨⟨kl2, -⟩, -⟩:Lq x1.l x1.s.v∧True:=kq kw6;clear kw6;have hbx:=hb _ (getD_mem (by omega) hx1);refine nm (size+(x1.l.length:Int):Int) fun n1 hn1=>?_;refine V.g [.k (iv size),.k (x1.s.v),.ln (kx false (.f 1) x1 x1.l (fun _=>x1.s) (fun _ _ h=>h)),.ar (size+(x1.l.length:Int)) n1 hn1 (by omega) (by omega),.k (iv n1)] fun _ _ G6=>?_;intro S_ s_;refine V.g [.k (iv n1),.k (bv (decide (n1 < 0)))] fun _ _ G7=>?_;intro S_ s_;refine V.cn (b:=decide (n1 < 0)) iDT iDF (fun q3=>?_) (fun q4=>?_)
    · exfalso;omega
    refine V.g [.a (k0+1) (by omega) (by omega),.k (iv (k0+1))] fun _ _ G8=>?_;intro S_ s_
    refine V.rnd hZ1 (n1,k0+1) [0] (by kernel_rfl) ?_ ?_
    · refine ⟨?_,?_,?_,?_⟩
      · show 0≤(k0+1);omega
      · show (k0+1)≤(slices.length:Int);omega
      · show 0≤n1;omega
      show n1≤100 * (k0+1);omega
    show ((slices.length:Int)-(k0+1)).toNat < ((slices.length:Int)-k0).toNat;omega
  refine V.g [.k (iv size),.ct g0 1 47 false [] [0] [] (fun _ G=>growt_ct size (by omega) (by omega)),.v fun G=>((G 1).ss 0).v] fun _ _ G9=>?_;intro S_ s_
  refine V.g [.k (slicess.v),.ln (kf false (.f 0) slices (fun _=>slicess)),.k (iv 0)] fun _ _ G10=>?_;intro S_ s_
  refine V.loop (γ:=List (Fat DThing) × SV × Int) (fun ⟨newslice,newslices,k1⟩=>⟨[(6,newslices.v),(25,slicess.v),(26,iv (slices.length:Int)),(27,iv k1)],[fs false slices slicess],[os false 22 newslice newslices]⟩) (fun ⟨newslice,newslices,k1⟩=>(0≤k1)∧(k1≤(slices.length:Int))∧(newslice=Rv.cat (slices.take k1.toNat))∧((newslice.length:Int)≤100 * k1)) (fun ⟨newslice,newslices,k1⟩=>((slices.length:Int)-k1).toNat) (([]:List (Fat DThing)),(G9 1).ss 0,0) (by kernel_rfl) [0] (by kernel_rfl) ?_ ?_
  · refine ⟨?_,?_,?_,?_⟩
    · show 0≤(0:Int)
      first | omega | simp
    · show (0:Int)≤(slices.length:Int)
      first | omega | simp
    · show ([]:List (Fat DThing))=Rv.cat (slices.take (0:Int).toNat);rfl
    show (([]:List (Fat DThing)).length:Int)≤100 * (0:Int)
    first | omega | simp
  rintro ⟨newslice,newslices,k1⟩ hF2 kw12 Z2 hZ2;have hF2:(0≤k1)∧(k1≤(slices.length:Int))∧(newslice=Rv.cat (slices.take k1.toNat))∧((newslice.length:Int)≤100 * k1):=hF2;obtain ⟨hf5,hf6,hf7,hf8⟩:=hF2;obtain ⟨-,⟨kl3, -⟩, -⟩:Lq slices slicess.v∧Lq newslice newslices.v∧True:=kq kw12;clear kw12;refine V.g [.k (bv (decide (k1 < (slices.length:Int))))] fun _ _ G11=>?_;intro S_ s_;refine V.cn (b:=decide (k1 < (slices.length:Int))) iDT iDF (fun q5=>?_) (fun q6=>?_)
  · refine nm (slices.getD k1.toNat default:Fat (Fat DThing)) fun x2 hx2=>?_;refine V.r [.ix g0 (kf false (.f 0) slices (fun _=>slicess)) k1 (fun _=>⟨by omega,by omega⟩),.le g0 (kf false (.f 0) slices (fun _=>slicess)) k1 none true x2 hx2 (fun _=>⟨by omega,by omega⟩) false (fun _=>[x2.s.v]),.k (x2.s.v)] fun _ _ G12 kw14=>?_;intro S_ s_
    obtain ⟨⟨kl4, -⟩, -⟩:Lq x2.l x2.s.v∧Lq newslice newslices.v∧True:=kq kw14;clear kw14;have hbx:=hb _ (getD_mem (by omega) hx2);refine nm (newslice ++x2.l:List (Fat DThing)) fun l1 hl1=>?_;have hl1n:=congrArg List.length hl1;try simp only [List.length_append,List.length_cons,List.length_nil,List.length_replicate,List.length_set,List.length_take,List.length_drop,List.length_map,List.length_reverse,List.length_range] at hl1n
    refine V.g [.k (newslices.v),.k (x2.s.v),.ap 2 0 22 24 false false newslice (fun _=>newslices) (kx false (.f 1) x2 x2.l (fun _=>x2.s) (fun _ _ h=>h)) false l1 hl1 (by (try simp only [List.length_append,List.length_cons,List.length_nil,List.length_replicate,List.length_set,List.length_take,List.length_drop,List.length_map,List.length_reverse,List.length_range]);omega) (fun h=>by cases h) (.inl fun h=>by cases h),.v fun G=>((G 2).s).v] fun _ _ G13=>?_;intro S_ s_
    refine V.g [.a (k1+1) (by omega) (by omega),.k (iv (k1+1))] fun _ _ G14=>?_;intro S_ s_
    refine V.rnd hZ2 (l1,(G13 2).s,k1+1) [0] (by kernel_rfl) ?_ ?_
    · refine ⟨?_,?_,?_,?_⟩
      · show 0≤(k1+1)
        first | omega | rfl | (simp;done) | (subst_vars;simp;done)
      · show (k1+1)≤(slices.length:Int)
        first | omega | rfl | (simp;done) | (subst_vars;simp;done)
      · show l1=Rv.cat (slices.take (k1+1).toNat);exact Rv.cat_step (by omega) (by omega) hf7 hx2 hl1
      show (l1.length:Int)≤100 * (k1+1);omega
    show ((slices.length:Int)-(k1+1)).toNat < ((slices.length:Int)-k1).toNat;omega
  refine V.g [.k (newslices.v),.k (newslices.v)] fun _ _ G15=>?_;intro S_ s_
  have e0:newslice=Rv.cat slices:=by rw [hf7,List.take_of_length_le (by omega)]
  subst e0;exact V.rs [0] [newslices] [fun _=>{}] [] [] [0] (newslices.v)
set_option maxRecDepth 10000 in
theorem concati_ct (slices:List (Fat (Fat Int))) (slicess:SV) (hn:slices.length≤2) (hb:∀ x ∈ slices,x.l.length≤100) :
    Ct Try.prog 31 #[slicess.v] [fs true slices slicess] [] (fun g=>((g.ss 0)).v) (fun g=>[]) (fun g=>[os false 25 (Rv.cat slices) (g.ss 0)]) (fun g=>[]):=by
  refine V.fn mo Try.func31 36 1 (by kernel_rfl) fun w H ε k0=>?_;obtain ⟨⟨kl1, -⟩, -⟩:Lq slices slicess.v∧True:=kq k0
  clear k0;refine V.g [.k (.slice none 0 0)] fun _ _ G1=>?_;intro S_ s_
  refine V.g [.k (iv 0)] fun _ _ G2=>?_;intro S_ s_
  refine V.g [.k (slicess.v),.ln (kf false (.f 0) slices (fun _=>slicess)),.k (iv 0)] fun _ _ G3=>?_;intro S_ s_
  refine V.loop (γ:=Int × Int) (fun ⟨size,k0⟩=>⟨[(0,slicess.v),(3,iv size),(9,slicess.v),(10,iv (slices.length:Int)),(11,iv k0)],[fs false slices slicess],[.no]⟩) (fun ⟨size,k0⟩=>(0≤k0)∧(k0≤(slices.length:Int))∧(0≤size)∧(size≤100 * k0)) (fun ⟨size,k0⟩=>((slices.length:Int)-k0).toNat) (0,0) (by kernel_rfl) [0] (by kernel_rfl) ?_ ?_
  · refine ⟨?_,?_,?_,?_⟩
    · show 0≤(0:Int)
      first | omega | rfl | (simp;done) | (subst_vars;simp;done)
    · show (0:Int)≤(slices.length:Int)
      first | omega | rfl | (simp;done) | (subst_vars;simp;done)
    · show 0≤(0:Int)
      first | omega | rfl | (simp;done) | (subst_vars;simp;done)
    show (0:Int)≤100 * (0:Int)
    first | omega | rfl | (simp;done) | (subst_vars;simp;done)
  rintro ⟨size,k0⟩ hF1 kw4 Z1 hZ1;have hF1:(0≤k0)∧(k0≤(slices.length:Int))∧(0≤size)∧(size≤100 * k0):=hF1;obtain ⟨hf1,hf2,hf3,hf4⟩:=hF1;clear kw4;refine V.g [.k (bv (decide (k0 < (slices.length:Int))))] fun _ _ G4=>?_;intro S_ s_;refine V.cn (b:=decide (k0 < (slices.length:Int))) iDT iDF (fun q1=>?_) (fun q2=>?_)
  · refine nm (slices.getD k0.toNat default:Fat (Fat Int)) fun x1 hx1=>?_;refine V.r [.ix g0 (kf false (.f 0) slices (fun _=>slicess)) k0 (fun _=>⟨by omega,by omega⟩),.le g0 (kf false (.f 0) slices (fun _=>slicess)) k0 none true x1 hx1 (fun _=>⟨by omega,by omega⟩) false (fun _=>[x1.s.v]),.k (x1.s.v)] fun _ _ G5 kw6=>?_;intro S_ s_
    obtain ⟨⟨kl2, -⟩, -⟩:Lq x1.l x1.s.v∧True:=kq kw6;clear kw6;have hbx:=hb _ (getD_mem (by omega) hx1);refine nm (size+(x1.l.length:Int):Int) fun n1 hn1=>?_;refine V.g [.k (iv size),.k (x1.s.v),.ln (kx false (.f 1) x1 x1.l (fun _=>x1.s) (fun _ _ h=>h)),.ar (size+(x1.l.length:Int)) n1 hn1 (by omega) (by omega),.k (iv n1)] fun _ _ G6=>?_;intro S_ s_;refine V.g [.k (iv n1),.k (bv (decide (n1 < 0)))] fun _ _ G7=>?_;intro S_ s_;refine V.cn (b:=decide (n1 < 0)) iDT iDF (fun q3=>?_) (fun q4=>?_)
    · exfalso;omega
    refine V.g [.a (k0+1) (by omega) (by omega),.k (iv (k0+1))] fun _ _ G8=>?_;intro S_ s_
    refine V.rnd hZ1 (n1,k0+1) [0] (by kernel_rfl) ?_ ?_
    · refine ⟨?_,?_,?_,?_⟩
      · show 0≤(k0+1);omega
      · show (k0+1)≤(slices.length:Int);omega
      · show 0≤n1;omega
      show n1≤100 * (k0+1);omega
    show ((slices.length:Int)-(k0+1)).toNat < ((slices.length:Int)-k0).toNat;omega
  refine V.g [.k (iv size),.ct g0 1 48 false [] [0] [] (fun _ G=>growi_ct size (by omega) (by omega)),.v fun G=>((G 1).ss 0).v] fun _ _ G9=>?_;intro S_ s_
  refine V.g [.k (slicess.v),.ln (kf false (.f 0) slices (fun _=>slicess)),.k (iv 0)] fun _ _ G10=>?_;intro S_ s_
  refine V.loop (γ:=List (Fat Int) × SV × Int) (fun ⟨newslice,newslices,k1⟩=>⟨[(6,newslices.v),(25,slicess.v),(26,iv (slices.length:Int)),(27,iv k1)],[fs false slices slicess],[os false 25 newslice newslices]⟩) (fun ⟨newslice,newslices,k1⟩=>(0≤k1)∧(k1≤(slices.length:Int))∧(newslice=Rv.cat (slices.take k1.toNat))∧((newslice.length:Int)≤100 * k1)) (fun ⟨newslice,newslices,k1⟩=>((slices.length:Int)-k1).toNat) (([]:List (Fat Int)),(G9 1).ss 0,0) (by kernel_rfl) [0] (by kernel_rfl) ?_ ?_
  · refine ⟨?_,?_,?_,?_⟩
    · show 0≤(0:Int)
      first | omega | simp
    · show (0:Int)≤(slices.length:Int)
      first | omega | simp
    · show ([]:List (Fat Int))=Rv.cat (slices.take (0:Int).toNat);rfl
    show (([]:List (Fat Int)).length:Int)≤100 * (0:Int)
    first | omega | simp
  rintro ⟨newslice,newslices,k1⟩ hF2 kw12 Z2 hZ2;have hF2:(0≤k1)∧(k1≤(slices.length:Int))∧(newslice=Rv.cat (slices.take k1.toNat))∧((newslice.length:Int)≤100 * k1):=hF2;obtain ⟨hf5,hf6,hf7,hf8⟩:=hF2;obtain ⟨-,⟨kl3, -⟩, -⟩:Lq slices slicess.v∧Lq newslice newslices.v∧True:=kq kw12;clear kw12;refine V.g [.k (bv (decide (k1 < (slices.length:Int))))] fun _ _ G11=>?_;intro S_ s_;refine V.cn (b:=decide (k1 < (slices.length:Int))) iDT iDF (fun q5=>?_) (fun q6=>?_)
  · refine nm (slices.getD k1.toNat default:Fat (Fat Int)) fun x2 hx2=>?_;refine V.r [.ix g0 (kf false (.f 0) slices (fun _=>slicess)) k1 (fun _=>⟨by omega,by omega⟩),.le g0 (kf false (.f 0) slices (fun _=>slicess)) k1 none true x2 hx2 (fun _=>⟨by omega,by omega⟩) false (fun _=>[x2.s.v]),.k (x2.s.v)] fun _ _ G12 kw14=>?_;intro S_ s_
    obtain ⟨⟨kl4, -⟩, -⟩:Lq x2.l x2.s.v∧Lq newslice newslices.v∧True:=kq kw14;clear kw14;have hbx:=hb _ (getD_mem (by omega) hx2);refine nm (newslice ++x2.l:List (Fat Int)) fun l1 hl1=>?_;have hl1n:=congrArg List.length hl1;try simp only [List.length_append,List.length_cons,List.length_nil,List.length_replicate,List.length_set,List.length_take,List.length_drop,List.length_map,List.length_reverse,List.length_range] at hl1n
    refine V.g [.k (newslices.v),.k (x2.s.v),.ap 2 0 25 24 false false newslice (fun _=>newslices) (kx false (.f 1) x2 x2.l (fun _=>x2.s) (fun _ _ h=>h)) false l1 hl1 (by (try simp only [List.length_append,List.length_cons,List.length_nil,List.length_replicate,List.length_set,List.length_take,List.length_drop,List.length_map,List.length_reverse,List.length_range]);omega) (fun h=>by cases h) (.inl fun h=>by cases h),.v fun G=>((G 2).s).v] fun _ _ G13=>?_;intro S_ s_
    refine V.g [.a (k1+1) (by omega) (by omega),.k (iv (k1+1))] fun _ _ G14=>?_;intro S_ s_
    refine V.rnd hZ2 (l1,(G13 2).s,k1+1) [0] (by kernel_rfl) ?_ ?_
    · refine ⟨?_,?_,?_,?_⟩
      · show 0≤(k1+1)
        first | omega | rfl | (simp;done) | (subst_vars;simp;done)
      · show (k1+1)≤(slices.length:Int)
        first | omega | rfl | (simp;done) | (subst_vars;simp;done)
      · show l1=Rv.cat (slices.take (k1+1).toNat);exact Rv.cat_step (by omega) (by omega) hf7 hx2 hl1
      show (l1.length:Int)≤100 * (k1+1);omega
    show ((slices.length:Int)-(k1+1)).toNat < ((slices.length:Int)-k1).toNat;omega
  refine V.g [.k (newslices.v),.k (newslices.v)] fun _ _ G15=>?_;intro S_ s_
  have e0:newslice=Rv.cat slices:=by rw [hf7,List.take_of_length_le (by omega)]
  subst e0;exact V.rs [0] [newslices] [fun _=>{}] [] [] [0] (newslices.v)

open Go (Value)
namespace Tm
def refOK (l:List DThing) (i:Int) (x:DThing):Prop:=x.Text=ByteArray.empty∧(0≤x.Left∧x.Left < i)∧(0≤x.Right∧x.Right < i)∧x.Value=(el l x.Left).Value+(el l x.Right).Value∧x.Blind=(el l x.Left).Blind+(el l x.Right).Blind∧x.Value≤1125899906842624∧x.Blind≤1125899906842624
theorem pair_iff {l:List DThing} {i:Nat} (hi:i≤l.length) {x:DThing}:(pairE (l.take i) x.Left x.Right=0∧x=pairX (l.take i) x.Left x.Right)↔refOK l i x:=by
  have e:∀ a:Int,0≤a→a < i→el (l.take i) a=el l a:=fun a h0 h=>el_take h0 h
  constructor
  · rintro ⟨h1,h2⟩
    have hh:has (l.take i) x.Left∧has (l.take i) x.Right:=by
      unfold pairE at h1
      split at h1
      · omega
      · rename_i hh;exact Decidable.not_not.1 hh
    have hb:¬ (1125899906842624 < (pairX (l.take i) x.Left x.Right).Value∨1125899906842624 < (pairX (l.take i) x.Left x.Right).Blind):=by
      unfold pairE at h1
      rw [if_neg (by simpa using hh)] at h1
      split at h1
      · omega
      · assumption
    rw [has_take hi,has_take hi] at hh
    rw [←h2] at hb
    refine ⟨congrArg DThing.Text h2,hh.1,hh.2,?_,?_,by omega,by omega⟩
    · rw [←e _ hh.1.1 hh.1.2,← e _ hh.2.1 hh.2.2];exact congrArg DThing.Value h2
    · rw [←e _ hh.1.1 hh.1.2,← e _ hh.2.1 hh.2.2];exact congrArg DThing.Blind h2
  · rintro ⟨h1,h2,h3,h4,h5,h6,h7⟩
    have hx:x=pairX (l.take i) x.Left x.Right:=by
      rw [thing_ext]
      unfold pairX
      rw [e _ h2.1 h2.2,e _ h3.1 h3.2]
      exact ⟨h1,h4,h5,rfl,rfl⟩
    refine ⟨?_,hx⟩
    unfold pairE
    rw [if_neg (by rw [has_take hi,has_take hi];simp;omega)]
    rw [←hx,if_neg (by omega)]
theorem okT_ref {l:List DThing} {k:Int} {x:DThing} (h0:0≤k) (hk:k≤l.length):okT (l.take k.toNat) x↔isLeaf x∨refOK l k x:=by
  unfold okT
  rw [pair_iff (by omega),show ((k.toNat:Nat):Int)=k by omega]
theorem sound_no_ref {l:List DThing} {k:Int} {x:DThing} (h0:0≤k) (hk:k < l.length) (hx:x=l.getD k.toNat default) (h1:¬ isLeaf x) (h2:¬ refOK l k x):false=decide (Sound l):=by
  symm;rw [decide_eq_false_iff_not];intro hs
  have:=hs.2 k.toNat (by omega)
  rw [←hx,okT_ref h0 (by omega)] at this
  rcases this with h | h
  · exact h1 h
  · exact h2 h
def fewP (v:List DThing) (most:Int):Prop:=(∀ i,i < v.length→(i:Int) < most→(v.getD i default).Text.size≤100)∧(v.length:Int)≤most
instance (v : List DThing) (most : Int) : Decidable (fewP v most) := by unfold fewP; infer_instance
theorem few_step {v:List DThing} {k k':Int} {s:Int} {x:DThing} (hp:∀ i,i < k.toNat→(v.getD i default).Text.size≤100) (h0:0≤k) (hk':k'=k+1) (hx:x=v.getD k.toNat default) (hs:s=x.Text.size) (h:¬ 100 < s):∀ i,i < k'.toNat→(v.getD i default).Text.size≤100:=by
  intro i hi
  by_cases e:i=k.toNat
  · subst e;rw [←hx];omega
  · exact hp i (by omega)
theorem few_no {v:List DThing} {most k s:Int} {x:DThing} (h0:0≤k) (hk:k < v.length) (hm:k < most) (hx:x=v.getD k.toNat default) (hs:s=x.Text.size) (h:100 < s):false=decide (fewP v most):=by
  symm;rw [decide_eq_false_iff_not];rintro ⟨h1,_⟩
  have:=h1 k.toNat (by omega) (by omega)
  rw [←hx] at this
  omega
theorem few_end {v:List DThing} {most k n:Int} {p:Bool} (hp:∀ i,i < k.toNat→(v.getD i default).Text.size≤100) (h0:0≤k) (hk:¬ (k < v.length∧k < most)) (hn:n=v.length) (hpp:p=decide (n≤most)):p=decide (fewP v most):=by
  subst hpp hn
  rw [Bool.eq_iff_iff,decide_eq_true_iff,decide_eq_true_iff]
  exact ⟨fun h=>⟨fun i hi hm=>hp i (by omega),h⟩,fun h=>h.2⟩
def longT (n:Int):Prop:=100 < n∧(n≤8000∨8100 < n)
instance (n : Int) : Decidable (longT n) := by unfold longT; infer_instance
def fewS (texts:List ByteArray) (most:Int):Prop:=(∀ i,i < texts.length→(i:Int)≤most→¬ longT (texts.getD i default).size)∧(texts.length:Int)≤most
instance (texts : List ByteArray) (most : Int) : Decidable (fewS texts most) := by unfold fewS; infer_instance
theorem same_no_len {α:Type} [DecidableEq α] {a b:List α} {m n:Int} (hm:m=a.length) (hn:n=b.length) (h:¬ m=n):false=decide (a=b):=by
  symm;rw [decide_eq_false_iff_not];intro e;subst e;omega
theorem same_no {α:Type} [Inhabited α] [DecidableEq α] {a b:List α} {k:Int} {x y:α} (hx:x=a.getD k.toNat default) (hy:y=b.getD k.toNat default) (h:¬ x=y):false=decide (a=b):=by
  symm;rw [decide_eq_false_iff_not];intro e;subst e;exact h (hx.trans hy.symm)
theorem same_step {α:Type} [Inhabited α] {a b:List α} {k k':Int} {x y:α} (hp:∀ i,i < k.toNat→a.getD i default=b.getD i default) (h0:0≤k) (hk':k'=k+1) (hx:x=a.getD k.toNat default) (hy:y=b.getD k.toNat default) (h:x=y):∀ i,i < k'.toNat→a.getD i default=b.getD i default:=by
  intro i hi
  by_cases e:i=k.toNat
  · subst e;rw [←hx,← hy];exact h
  · exact hp i (by omega)
theorem same_yes {α:Type} [Inhabited α] [DecidableEq α] {a b:List α} {k:Int} (hp:∀ i,i < k.toNat→a.getD i default=b.getD i default) (hl:a.length=b.length) (hk:(a.length:Int)≤k):true=decide (a=b):=by
  symm;rw [decide_eq_true_iff]
  refine List.ext_getElem hl fun i h1 h2=>?_
  have:=hp i (by omega)
  simpa [h1,h2] using this
theorem rest_len (l:List DThing) (leaf:Int):∀ (n:Nat) (i:Int),1≤(pathN l leaf n i).length∧(pathN l leaf n i).length≤n+1
  | 0,i=>by simp [pathN]
  | n+1,i=>by
    have ih:=rest_len l leaf n (nxt l leaf i)
    rw [pathN]
    split
    · simp
    · simp;omega
def tabOK (l:List DThing) (leaf:Int) (tab:List (Fat Int)) (i:Int):Prop :=
  tab.length=l.length∧∀ j:Nat,j < l.length→(tab.getD j default).l=if (j:Int) < i∧near l leaf j=true then rest l leaf j else []
theorem tab_start {l:List DThing} {leaf:Int} {v:SV} (h0:0≤leaf) (h:leaf < l.length) {t:List (Fat Int)} (ht:t=(List.replicate l.length default).set leaf.toNat ⟨[leaf],v⟩):tabOK l leaf t (leaf+1):=by
  subst ht
  refine ⟨by simp,fun j hj=>?_⟩
  by_cases e:j=leaf.toNat
  · subst e
    have ej:((leaf.toNat:Nat):Int)=leaf:=by omega
    rw [ej,if_pos ⟨by omega,near_self h0 h⟩,rest_self]
    simp [hj]
  · have:((List.replicate l.length (default:Fat Int)).set leaf.toNat ⟨[leaf],v⟩).getD j default=default:=by
      rw [List.getD_eq_getElem?_getD,List.getElem?_set_ne (fun h=>e h.symm)]
      simp [hj]
    rw [this]
    symm
    refine if_neg ?_
    rintro ⟨h1,h2⟩
    have:=near_ge (by omega) (by omega) h2
    omega
theorem tab_get {l:List DThing} {leaf i a:Int} {tab:List (Fat Int)} {x:Fat Int} (h:tabOK l leaf tab i) (h0:0≤a) (ha:a < i) (hi:i≤l.length) (hx:x=tab.getD a.toNat default):x.l=if near l leaf a=true then rest l leaf a else []:=by
  have:=h.2 a.toNat (by omega)
  rw [←hx,show ((a.toNat:Nat):Int)=a by omega] at this
  rw [this]
  by_cases hn:near l leaf a=true
  · rw [if_pos ⟨ha,hn⟩,if_pos hn]
  · rw [if_neg (fun h=>hn h.2),if_neg hn]
theorem tab_near {l:List DThing} {leaf i a n:Int} {tab:List (Fat Int)} {x:Fat Int} (h:tabOK l leaf tab i) (h0:0≤a) (ha:a < i) (hi:i≤l.length) (hx:x=tab.getD a.toNat default) (hn:n=x.l.length):(0 < n↔near l leaf a=true)∧(0 < n→x.l=rest l leaf a)∧n≤l.length:=by
  have e:=tab_get h h0 ha hi hx
  have hl:=rest_len l leaf a.toNat a
  unfold rest at e
  by_cases hq:near l leaf a=true
  · rw [if_pos hq] at e
    rw [hn,e]
    exact ⟨⟨fun _=>hq,fun _=>by omega⟩,fun _=>rfl,by omega⟩
  · rw [if_neg hq] at e
    rw [hn,e]
    exact ⟨⟨fun h=>by simp at h,fun h=>absurd h hq⟩,fun h=>by simp at h,by simp⟩
theorem tab_next {l:List DThing} {leaf i i':Int} {tab tab':List (Fat Int)} (h:tabOK l leaf tab i) (hl:tab'.length=tab.length) (hi':i'=i+1) (h0:0≤i) (hi:i < l.length) (he:∀ j:Nat,j≠i.toNat→tab'.getD j default=tab.getD j default)
    (hn:(tab'.getD i.toNat default).l=if near l leaf i=true then rest l leaf i else []):tabOK l leaf tab' i':=by
  subst hi'
  refine ⟨hl.trans h.1,fun j hj=>?_⟩
  by_cases e:j=i.toNat
  · subst e
    have ej:((i.toNat:Nat):Int)=i:=by omega
    rw [hn,ej]
    by_cases hq:near l leaf i=true
    · rw [if_pos hq,if_pos ⟨by omega,hq⟩]
    · rw [if_neg hq,if_neg (fun h=>hq h.2)]
  · rw [he j e,h.2 j hj]
    by_cases hq:near l leaf j=true
    · by_cases hji:(j:Int) < i
      · rw [if_pos ⟨hji,hq⟩,if_pos ⟨by omega,hq⟩]
      · rw [if_neg (fun h=>hji h.1),if_neg (fun h=>hji (by omega))]
    · rw [if_neg (fun h=>hq h.2),if_neg (fun h=>hq h.2)]
theorem tab_same {l:List DThing} {leaf i i':Int} {tab:List (Fat Int)} (h:tabOK l leaf tab i) (hi':i'=i+1) (h0:0≤i) (hi:i < l.length) (hn:near l leaf i=false):tabOK l leaf tab i':=by
  refine tab_next h rfl hi' h0 hi (fun _ _=>rfl) ?_
  rw [h.2 i.toNat (by omega),if_neg (by omega),hn];rfl
theorem tab_skip {l:List DThing} {leaf i i':Int} {tab:List (Fat Int)} {x:DThing} (hS:Sound l) (h:tabOK l leaf tab i) (hl:0≤leaf) (hli:leaf < i) (hi:i < l.length) (hx:x=l.getD i.toNat default) (hi':i'=i+1) (hq:x.Left= -1):tabOK l leaf tab i':=by
  refine tab_same h hi' (by omega) hi ?_
  rw [near_up hS hl hli hi,show el l i=x from hx.symm,hq];rfl
theorem near_not {l:List DThing} {leaf i:Int} {x:DThing} (hS:Sound l) (hl:0≤leaf) (hli:leaf < i) (hi:i < l.length) (hx:x=l.getD i.toNat default) (hq:¬ x.Left= -1):(near l leaf i=true↔near l leaf (min x.Left x.Right)=true∨near l leaf (max x.Left x.Right)=true):=by
  rw [near_up hS hl hli hi,show el l i=x from hx.symm,Bool.and_eq_true,Bool.or_eq_true]
  rcases Int.le_total x.Left x.Right with h | h
  · rw [Int.min_eq_left h,Int.max_eq_right h];simp [hq]
  · rw [Int.min_eq_right h,Int.max_eq_left h];simp [hq,or_comm]
theorem tab_none {l : List DThing} {leaf i i' a b : Int} {tab : List (Fat Int)} {x : DThing} (hS : Sound l) (h : tabOK l leaf tab i) (hl : 0 ≤ leaf) (hli : leaf < i) (hi : i < l.length) (hx : x = l.getD i.toNat default) (hi' : i' = i + 1) (hq : ¬ x.Left = -1) (ha : a = min x.Left x.Right) (hb : b = max x.Left x.Right)
    (h1 : ¬ near l leaf a = true) (h2 : ¬ near l leaf b = true) : tabOK l leaf tab i' := by
  refine tab_same h hi' (by omega) hi ?_
  have := near_not hS hl hli hi hx hq
  rw [← ha, ← hb] at this
  cases hn : near l leaf i with
  | false => rfl
  | true => rcases this.1 hn with h | h
            · exact absurd h h1
            · exact absurd h h2
theorem tab_set {l:List DThing} {leaf i i' a b c:Int} {tab tab':List (Fat Int)} {x:DThing} {p:List Int} {v:SV} (hS:Sound l) (h:tabOK l leaf tab i) (hl:0≤leaf) (hli:leaf < i) (hi:i < l.length) (hx:x=l.getD i.toNat default) (hi':i'=i+1) (hq:¬ x.Left= -1) (ha:a=min x.Left x.Right) (hb:b=max x.Left x.Right)
    (hc:(c=a∧near l leaf a=true)∨(c=b∧¬ near l leaf a=true∧near l leaf b=true)) (hp:p=i :: rest l leaf c) (ht:tab'=tab.set i.toNat ⟨p,v⟩):tabOK l leaf tab' i':=by
  subst ht
  have hn:near l leaf i=true:=by
    rw [near_not hS hl hli hi hx hq,← ha,← hb]
    rcases hc with h | h
    · exact .inl h.2
    · exact .inr h.2.2
  have hlt:i.toNat < tab.length:=by have:=h.1;omega
  refine tab_next h (by simp) hi' (by omega) hi (fun j hj=>?_) ?_
  · rw [List.getD_eq_getElem?_getD,List.getElem?_set_ne (fun h=>hj h.symm),← List.getD_eq_getElem?_getD]
  · rw [if_pos hn]
    have:((tab.set i.toNat ⟨p,v⟩).getD i.toNat default).l=p:=by simp [hlt]
    rw [this,rest_step hS hl (by omega) hi hn (by omega),hp]
    have hnx:nxt l leaf i=c:=by
      unfold nxt
      rw [show el l i=x from hx.symm,← ha,← hb]
      rcases hc with h | h
      · rw [if_pos h.2,h.1]
      · rw [if_neg h.2.1,h.1]
    rw [hnx]
theorem tab_end {l:List DThing} {leaf root i:Int} {tab:List (Fat Int)} {x:Fat Int} (hS:Sound l) (h:tabOK l leaf tab i) (h1:0≤root∧root < l.length) (h2:0≤leaf∧leaf < l.length) (hi:root < i) (hx:x=tab.getD root.toNat default):x.l=pathF l root leaf:=by
  have:=h.2 root.toNat (by omega)
  rw [←hx,show ((root.toNat:Nat):Int)=root by omega] at this
  rw [this]
  by_cases hn:near l leaf root=true
  · rw [if_pos ⟨hi,hn⟩,pathF_yes hS h1 h2 hn]
  · rw [if_neg (fun h=>hn h.2),pathF_no (fun h=>hn h.2.2.2)]
def exT:List DThing:=[⟨⟨#[97]⟩,30,7, -1, -1⟩,⟨⟨#[98]⟩,20,8, -1, -1⟩,⟨⟨#[99]⟩,10,9, -1, -1⟩,⟨ByteArray.empty,50,15,0,1⟩,⟨ByteArray.empty,60,24,3,2⟩]
end Tm

namespace Tm
theorem last_of {p:List Int} {n m x:Int} (hn:n=p.length) (hm:m=n - 1) (h0:0 < p.length) (hx:x=p.getD m.toNat default):lastI p=x:=by
  subst hm hn hx
  unfold lastI pe
  rw [show ((p.length:Int) - 1).toNat=p.length - 1 by omega];rfl
end Tm

namespace Tm
theorem pathF_cond {l:List DThing} {root leaf:Int} (h:(pathF l root leaf).length≠0):Sound l∧has l root∧has l leaf∧near l leaf root=true:=by
  refine Decidable.by_contra fun hc=>?_
  rw [pathF_no hc] at h;exact h rfl
theorem pathF_len (l:List DThing) (root leaf:Int):(pathF l root leaf).length≤2001:=by
  by_cases h:(pathF l root leaf).length=0
  · omega
  · obtain ⟨hS,h1,h2,h3⟩:=pathF_cond h
    rw [pathF_yes hS h1 h2 h3]
    have:=(rest_len l leaf root.toNat root).2
    have:=hS.1
    unfold has at h1
    unfold rest;omega
end Tm

open Go
namespace Rv
open Tm
def oe (o:List Int) (i:Nat):Int:=o.getD i default
def argS (v:List DThing) (r:Int) (o:List Int):Prop:=Sound v∧(0≤r∧r < v.length)∧o.length≠0∧o.length≤64
instance (v : List DThing) (r : Int) (o : List Int) : Decidable (argS v r o) := by unfold argS; infer_instance
def stepE (v:List DThing) (r:Int) (o:List Int) (i:Nat):Int:=if (pathF v r (oe o i)).length=0∨¬ (el v (oe o i)).Left= -1 then 4 else if oe o i ∈ o.take i then 5 else 0
def scanE (v:List DThing) (r:Int) (o:List Int):Nat→Int
  | 0=>0
  | n+1=>if scanE v r o n=0 then stepE v r o n else scanE v r o n
def showE (v:List DThing) (r:Int) (o:List Int):Int:=if argS v r o then scanE v r o o.length else 1
def showP (v:List DThing) (r:Int) (o:List Int):List (List Int):=if showE v r o=0 then o.map (pathF v r) else []
def showS (v:List DThing) (r:Int) (o:List Int):List (List DThing):=if showE v r o=0 then o.map fun a=>viewF v (pathF v r a) else []
theorem scan_stop {v:List DThing} {r:Int} {o:List Int} {k:Nat} (h:scanE v r o k=0) (hs:stepE v r o k≠0):∀ n,k < n→scanE v r o n=stepE v r o k
  | n+1,hn=>by
    unfold scanE
    by_cases e:k=n
    · subst e;rw [if_pos h]
    · rw [scan_stop h hs n (by omega),if_neg hs]
section
variable {v : List DThing} {r : Int} {o : List Int} {k a : Int} {x : DThing}
theorem show_arg (h:¬ argS v r o):showE v r o=1∧showP v r o=[]∧showS v r o=[]:=by
  have e:showE v r o=1:=by unfold showE;rw [if_neg h]
  exact ⟨e,by unfold showP;rw [e];rfl,by unfold showS;rw [e];rfl⟩
theorem show_stop (h:argS v r o) (hk:k.toNat < o.length) (hs:scanE v r o k.toNat=0) {e:Int} (he:stepE v r o k.toNat=e) (hn:e≠0):showE v r o=e∧showP v r o=[]∧showS v r o=[]:=by
  have e1:showE v r o=e:=by unfold showE;rw [if_pos h,scan_stop hs (by rw [he];exact hn) _ hk,he]
  exact ⟨e1,by unfold showP;rw [e1,if_neg hn],by unfold showS;rw [e1,if_neg hn]⟩
theorem show_ok (h:argS v r o) (hk:k.toNat=o.length) (hs:scanE v r o k.toNat=0):showE v r o=0∧showP v r o=o.map (pathF v r)∧showS v r o=o.map fun a=>viewF v (pathF v r a):=by
  have e1:showE v r o=0:=by unfold showE;rw [if_pos h,← hk,hs]
  exact ⟨e1,by unfold showP;rw [e1,if_pos rfl],by unfold showS;rw [e1,if_pos rfl]⟩
theorem step_4 (ha:a=o.getD k.toNat default) (hx:x=v.getD a.toNat default) (hq:((pathF v r a).length:Int)=0∨¬ x.Left= -1):stepE v r o k.toNat=4:=by
  unfold stepE oe el
  rw [←ha,← hx,if_pos (by rcases hq with h | h;exact .inl (by omega);exact .inr h)]
theorem step_5 (ha:a=o.getD k.toNat default) (hx:x=v.getD a.toNat default) (hq:¬ ((pathF v r a).length:Int)=0∧x.Left= -1) (hm:a ∈ o.take k.toNat):stepE v r o k.toNat=5:=by
  unfold stepE oe el
  rw [←ha,← hx,if_neg (by rintro (h | h);exact hq.1 (by omega);exact h hq.2),if_pos hm]
theorem step_0 (ha:a=o.getD k.toNat default) (hx:x=v.getD a.toNat default) (hq:¬ ((pathF v r a).length:Int)=0∧x.Left= -1) (hm:¬ a ∈ o.take k.toNat) (h0:0≤k) (hs:scanE v r o k.toNat=0):scanE v r o (k+1).toNat=0:=by
  rw [show (k+1).toNat=k.toNat+1 by omega]
  unfold scanE
  rw [if_pos hs]
  unfold stepE oe el
  rw [←ha,← hx,if_neg (by rintro (h | h);exact hq.1 (by omega);exact h hq.2),if_neg hm]
theorem path_has (h:¬ ((pathF v r a).length:Int)=0):0≤a∧a < v.length:=(pathF_cond (l:=v) (root:=r) (leaf:=a) (fun e=>h (by omega))).2.2.1
theorem take_map {β:Type} {f:Int→List β} {m m2:List (Fat β)} {s:SV} (h0:0≤k) (hk:k < o.length) (ha:a=o.getD k.toNat default) (h:m.map (·.l)=(o.take k.toNat).map f) (h2:m2=m ++[⟨f a,s⟩]):m2.map (·.l)=(o.take (k+1).toNat).map f:=by
  rw [show (k+1).toNat=k.toNat+1 by omega]
  have hk':k.toNat < o.length:=by omega
  have e:o[k.toNat]=a:=by rw [ha,List.getD_eq_getElem?_getD,List.getElem?_eq_getElem hk'];rfl
  rw [List.take_add_one,List.getElem?_eq_getElem hk',e,h2,List.map_append,h]
  simp
end
end Rv

open Go Go.Proofs
set_option maxRecDepth 10000 in
theorem show_ct (v:List DThing) (vs:SV) (root:Int) (open_:List Int) (open_s:SV) :
    Ct Try.prog 7 #[ag (DVault.mk ⟨v,vs⟩),iv root,open_s.v] [fs true v vs,fs true open_ open_s] [] (fun g=>.tuple #[((g.ss 0)).v,((g.ss 1)).v,iv (Rv.showE v root open_)]) (fun g=>[fs true (fats (Rv.showP v root open_) (g.sl 0)) (g.ss 0),fs true (fats (Rv.showS v root open_) (g.sl 1)) (g.ss 1)]) (fun g=>[]) (fun g=>[]):=by
  refine V.fn mo Try.func7 79 3 (by kernel_rfl) fun w H ε k0=>?_;obtain ⟨⟨kl1, -⟩,⟨kl2, -⟩, -⟩:Lq v vs.v∧Lq open_ open_s.v∧True:=kq k0
  clear k0;refine V.g [.nb 0 0 (fun b=>pp b 0) 24 (fun _=>ca (DVault.mk ⟨v,vs⟩)),.k (.slice none 0 0),.k (.slice none 0 0),.k (iv 0)] fun _ _ G1=>?_;intro S_ s_
  refine nm ((!(decide (Tm.Sound v))) || (decide (root < 0)):Bool) fun p1 hp1=>?_;refine nm ((p1 || (decide ((v.length:Int)≤root))) || (decide ((open_.length:Int)=0)):Bool) fun p2 hp2=>?_;refine V.g [.ld 0 0 true (fun _=>Dat.cells (DVault.mk ⟨v,vs⟩)),.cp g0 1 18 [(kf false (.f 0) v (fun _=>vs)).a] (fun _ G=>sound_ct v vs),.k (bv (!(decide (Tm.Sound v)))),.k (bv (!(decide (Tm.Sound v)))),.k (iv root),.k (bv (decide (root < 0))),.orn g0 false (!(decide (Tm.Sound v))) (decide (root < 0)) p1 hp1,.k (bv p1),.k (iv root),.k (pp ((G1 0).b) 0),.ld 0 0 false (fun _=>[vs.v]),.ln (kf false (.f 0) v (fun _=>vs)),.k (bv (decide ((v.length:Int)≤root))),.or g0 false p1 (decide ((v.length:Int)≤root)),.k (bv (p1 || (decide ((v.length:Int)≤root)))),.k (open_s.v),.ln (kf false (.f 1) open_ (fun _=>open_s)),.k (bv (decide ((open_.length:Int)=0))),.orn g0 false (p1 || (decide ((v.length:Int)≤root))) (decide ((open_.length:Int)=0)) p2 hp2,.k (bv p2),.k (open_s.v),.ln (kf false (.f 1) open_ (fun _=>open_s)),.k (bv (decide (64 < (open_.length:Int)))),.or g0 false p2 (decide (64 < (open_.length:Int)))] fun _ _ G2=>?_;intro S_ s_
  refine V.cn (b:=p2 || (decide (64 < (open_.length:Int)))) (iOT (iN hp2 (iOT (iOT (iN hp1 (iOT (iNT iDF) iDT)) iDT) iDT)) iDT) (iOF (iN hp2 (iOF (iOF (iN hp1 (iOF (iNF iDT) iDF)) iDF) iDF)) iDF) (fun q1=>?_) (fun q2=>?_)
  · have hno:=Rv.show_arg (v:=v) (r:=root) (o:=open_) (by rintro ⟨h1,h2,h3,h4⟩;rcases q1 with (((h | h) | h) | h) | h <;> first | exact h h1 | omega);refine V.g [.k (.slice none 0 0),.k (.slice none 0 0),.k (iv 1)] fun _ _ G3=>?_;intro S_ s_
    refine V.nilF (α:=Fat Int) ?_;refine V.nilF (α:=Fat DThing) ?_;have e0:([]:List (Fat Int)).map (·.l)=(Rv.showP v root open_):=by rw [hno.2.1];rfl
    rw [←e0];have e1:([]:List (Fat DThing)).map (·.l)=(Rv.showS v root open_):=by rw [hno.2.2];rfl
    rw [←e1];have e2:(1:Int)=Rv.showE v root open_:=hno.1.symm;exact V.rt [0,0,0] [{},{}] [fun _=>{},fun _=>{}] [] [2,3] [] (.tuple #[SV.v ({}),SV.v ({}),iv 1]) (cong1 (fun (x2:Int)=>(.tuple #[SV.v ({}),SV.v ({}),iv x2]:Value)) e2)
  have hA:Rv.argS v root open_:=⟨by rcases q2 with ⟨⟨⟨⟨h,_⟩,_⟩,_⟩,_⟩;first | exact h | exact Decidable.not_not.1 h,by omega,by omega,by omega⟩;refine V.g [.k (open_s.v),.ln (kf false (.f 1) open_ (fun _=>open_s)),.k (iv 0)] fun _ _ G4=>?_;intro S_ s_
  refine V.on (α:=Fat Int) 1 25 (by kernel_rfl) ?_;refine V.on (α:=Fat DThing) 2 22 (by kernel_rfl) ?_;refine V.loop (γ:=List (Fat Int) × SV × List (Fat DThing) × SV × Int) (fun ⟨paths,pathss,seen,seens,k0⟩=>⟨[(1,iv root),(2,open_s.v),(3,pp ((G1 0).b) 0),(6,pathss.v),(7,seens.v),(36,open_s.v),(37,iv (open_.length:Int)),(38,iv k0)],[fs false open_ open_s,fs false v vs],[.blk ((G1 0).b) (ca (DVault.mk ⟨v,vs⟩)) 24,os true 25 paths pathss,os true 22 seen seens]⟩) (fun ⟨paths,pathss,seen,seens,k0⟩=>(0≤k0)∧(k0≤(open_.length:Int))∧(Rv.scanE v root open_ k0.toNat=0)∧(paths.map (·.l)=(open_.take k0.toNat).map (Tm.pathF v root))∧(seen.map (·.l)=(open_.take k0.toNat).map (fun a=>Tm.viewF v (Tm.pathF v root a)))) (fun ⟨paths,pathss,seen,seens,k0⟩=>((open_.length:Int)-k0).toNat) (([]:List (Fat Int)),{},([]:List (Fat DThing)),{},0) (by kernel_rfl) [1,0] (by kernel_rfl) ?_ ?_
  · refine ⟨?_,?_,?_,?_,?_⟩
    · show 0≤(0:Int)
      first | omega | rfl | (simp;done) | (subst_vars;simp;done)
    · show (0:Int)≤(open_.length:Int)
      first | omega | rfl | (simp;done) | (subst_vars;simp;done)
    · show Rv.scanE v root open_ (0:Int).toNat=0;rfl
    · show ([]:List (Fat Int)).map (·.l)=(open_.take (0:Int).toNat).map (Tm.pathF v root);rfl
    show ([]:List (Fat DThing)).map (·.l)=(open_.take (0:Int).toNat).map (fun a=>Tm.viewF v (Tm.pathF v root a));rfl
  rintro ⟨paths,pathss,seen,seens,k0⟩ hF1 kw5 Z1 hZ1;have hF1:(0≤k0)∧(k0≤(open_.length:Int))∧(Rv.scanE v root open_ k0.toNat=0)∧(paths.map (·.l)=(open_.take k0.toNat).map (Tm.pathF v root))∧(seen.map (·.l)=(open_.take k0.toNat).map (fun a=>Tm.viewF v (Tm.pathF v root a))):=hF1;obtain ⟨hf1,hf2,hf3,hf4,hf5⟩:=hF1;obtain ⟨-, -,⟨kl3, -⟩,⟨kl4, -⟩, -⟩:Lq open_ open_s.v∧Lq v vs.v∧Lq paths pathss.v∧Lq seen seens.v∧True:=kq kw5;clear kw5;have hln1:=congrArg List.length hf4;simp only [List.length_map,List.length_take] at hln1;have hln2:=congrArg List.length hf5;simp only [List.length_map,List.length_take] at hln2;refine V.g [.k (bv (decide (k0 < (open_.length:Int))))] fun _ _ G5=>?_;intro S_ s_;refine V.cn (b:=decide (k0 < (open_.length:Int))) iDT iDF (fun q3=>?_) (fun q4=>?_)
  · refine nm (open_.getD k0.toNat default:Int) fun v1 hv1=>?_;refine V.g [.k (iv k0),.ix g0 (kf false (.f 0) open_ (fun _=>open_s)) k0 (fun _=>⟨by omega,by omega⟩),.le g0 (kf false (.f 0) open_ (fun _=>open_s)) k0 none false v1 hv1 (fun _=>⟨by omega,by omega⟩) false (fun _=>[iv v1]),.k (iv k0),.k (iv v1)] fun _ _ G6=>?_;intro S_ s_
    refine V.r [.ld 0 0 true (fun _=>Dat.cells (DVault.mk ⟨v,vs⟩)),.k (iv root),.k (iv v1),.ct g0 3 19 false [] [] [(kf false (.f 1) v (fun _=>vs)).a] (fun _ G=>path_ct v vs root v1),.v fun G=>((G 3).ss 0).v] fun _ _ G7 kw8=>?_;intro S_ s_
    obtain ⟨⟨kl5, -⟩, -⟩:Lq (Tm.pathF v root v1) (((G7 3).ss 0).v)∧Lq paths pathss.v∧Lq seen seens.v∧True:=kq kw8;clear kw8;refine nm (v.getD v1.toNat default:DThing) fun x1 hx1=>?_;refine nm ((decide (((Tm.pathF v root v1).length:Int)=0)) || (!(decide (x1.Left=(-1)))):Bool) fun p3 hp3=>?_;refine V.g [.k (((G7 3).ss 0).v),.ln (kf true (.f 2) (Tm.pathF v root v1) (fun _=>(G7 3).ss 0)),.k (bv (decide (((Tm.pathF v root v1).length:Int)=0))),.k (bv (decide (((Tm.pathF v root v1).length:Int)=0))),.k (pp ((G1 0).b) 0),.ld 0 0 false (fun _=>[vs.v]),.k (iv v1),.ix (gF (b:=decide (((Tm.pathF v root v1).length:Int)=0)) iDF) (kf false (.f 1) v (fun _=>vs)) v1 (fun hg=>⟨(Rv.path_has hg).1,(Rv.path_has hg).2⟩),.k (.pointer (some ((elemAddr vs.v (v1.toNat * 5)).add 3))),.le (gF (b:=decide (((Tm.pathF v root v1).length:Int)=0)) iDF) (kf false (.f 1) v (fun _=>vs)) v1 (some 3) false x1 hx1 (fun hg=>⟨(Rv.path_has hg).1,(Rv.path_has hg).2⟩) false (fun _=>[iv x1.Left]),.k (bv (!(decide (x1.Left=(-1))))),.orn g0 false (decide (((Tm.pathF v root v1).length:Int)=0)) (!(decide (x1.Left=(-1)))) p3 hp3,.k (bv p3)] fun _ _ G8=>?_;intro S_ s_;refine V.cn (b:=p3) (iN hp3 (iOT iDT (iNT iDF))) (iN hp3 (iOF iDF (iNF iDT))) (fun q5=>?_) (fun q6=>?_)
    · have hno:=Rv.show_stop hA (by omega) hf3 (Rv.step_4 hv1 hx1 q5) (by decide);refine V.g [.k (.slice none 0 0),.k (.slice none 0 0),.k (iv 4)] fun _ _ G9=>?_;intro S_ s_
      refine V.nilF (α:=Fat Int) ?_;refine V.nilF (α:=Fat DThing) ?_;have e0:([]:List (Fat Int)).map (·.l)=(Rv.showP v root open_):=by rw [hno.2.1];rfl
      rw [←e0];have e1:([]:List (Fat DThing)).map (·.l)=(Rv.showS v root open_):=by rw [hno.2.2];rfl
      rw [←e1];have e2:(4:Int)=Rv.showE v root open_:=hno.1.symm;exact V.rt [0,0,0] [{},{}] [fun _=>{},fun _=>{}] [] [3,4] [] (.tuple #[SV.v ({}),SV.v ({}),iv 4]) (cong1 (fun (x2:Int)=>(.tuple #[SV.v ({}),SV.v ({}),iv x2]:Value)) e2)
    refine nm (open_.take k0.toNat:List Int) fun l1 hl1=>?_;have hl1n:=congrArg List.length hl1;try simp only [List.length_append,List.length_cons,List.length_nil,List.length_replicate,List.length_set,List.length_take,List.length_drop,List.length_map,List.length_reverse,List.length_range] at hl1n
    refine V.r [.k (open_s.v),.k (iv k0),.sl g0 (kf false (.f 0) open_ (fun _=>open_s)) rfl none (some k0) 0 k0 rfl rfl l1 (by rw [hl1];simp) (fun _=>⟨by omega,by omega,by omega⟩),.k (iv v1),.cp g0 4 20 [(kf false (.g 2 0) l1 (fun _=>(open_s.sub 1 (0:Int).toNat k0.toNat))).a] (fun _ G=>contains_ct l1 (open_s.sub 1 (0:Int).toNat k0.toNat) v1),.k (bv (decide (v1 ∈ l1)))] fun _ _ G10 kw11=>?_;intro S_ s_
    obtain ⟨⟨kl6, -⟩, -⟩:Lq l1 ((open_s.sub 1 (0:Int).toNat k0.toNat).v)∧Lq paths pathss.v∧Lq seen seens.v∧True:=kq kw11;clear kw11;refine V.cn (b:=decide (v1 ∈ l1)) iDT iDF (fun q7=>?_) (fun q8=>?_)
    · have hno:=Rv.show_stop hA (by omega) hf3 (Rv.step_5 hv1 hx1 q6 (hl1 ▸ q7)) (by decide);refine V.g [.k (.slice none 0 0),.k (.slice none 0 0),.k (iv 5)] fun _ _ G11=>?_;intro S_ s_
      refine V.nilF (α:=Fat Int) ?_;refine V.nilF (α:=Fat DThing) ?_;have e0:([]:List (Fat Int)).map (·.l)=(Rv.showP v root open_):=by rw [hno.2.1];rfl
      rw [←e0];have e1:([]:List (Fat DThing)).map (·.l)=(Rv.showS v root open_):=by rw [hno.2.2];rfl
      rw [←e1];have e2:(5:Int)=Rv.showE v root open_:=hno.1.symm;exact V.rt [0,0,0] [{},{}] [fun _=>{},fun _=>{}] [] [4,5] [] (.tuple #[SV.v ({}),SV.v ({}),iv 5]) (cong1 (fun (x2:Int)=>(.tuple #[SV.v ({}),SV.v ({}),iv x2]:Value)) e2)
    refine nm (paths ++([⟨Tm.pathF v root v1,(G7 3).ss 0⟩]:List (Fat Int)):List (Fat Int)) fun l2 hl2=>?_;have hl2n:=congrArg List.length hl2;try simp only [List.length_append,List.length_cons,List.length_nil,List.length_replicate,List.length_set,List.length_take,List.length_drop,List.length_map,List.length_reverse,List.length_range] at hl2n
    refine V.r [.k (pathss.v),.k (((G7 3).ss 0).v),.nr 2 true 25 ([⟨Tm.pathF v root v1,(G7 3).ss 0⟩]:List (Fat Int)) [(kf true (.f 2) (Tm.pathF v root v1) (fun _=>(G7 3).ss 0)).a] (fun _ _ h=>(List.forall_mem_cons.2 ⟨h.1,(List.forall_mem_nil _)⟩)) (fun _=>#[((G7 3).ss 0).v]),.ap 3 1 25 24 false true paths (fun _=>pathss) (kf true (.g 2 0) ([⟨Tm.pathF v root v1,(G7 3).ss 0⟩]:List (Fat Int)) (fun G=>⟨atB (G 2).b,1,1⟩)) true l2 hl2 (by (try simp only [List.length_append,List.length_cons,List.length_nil,List.length_replicate,List.length_set,List.length_take,List.length_drop,List.length_map,List.length_reverse,List.length_range]);omega) (fun h=>by cases h) (.inl fun _=>⟨rfl,rfl⟩),.k (seens.v),.ld 0 0 true (fun _=>Dat.cells (DVault.mk ⟨v,vs⟩)),.k (((G7 3).ss 0).v),.ct g0 7 21 false [] [] [(kf false (.f 1) v (fun _=>vs)).a,(kf true (.f 2) (Tm.pathF v root v1) (fun _=>(G7 3).ss 0)).a] (fun _ G=>view_ct v vs (Tm.pathF v root v1) ((G7 3).ss 0) (by have:=Tm.pathF_len v root v1;omega)),.nrG 8 true 22 (fun G=>([⟨Tm.viewF v (Tm.pathF v root v1),(G 7).ss 0⟩]:List (Fat DThing))) 1 (fun _=>rfl) [(kf true (.g 7 0) (Tm.viewF v (Tm.pathF v root v1)) (fun G=>(G 7).ss 0)).a] (fun _ _ h=>(List.forall_mem_cons.2 ⟨h.1,(List.forall_mem_nil _)⟩)) (fun G=>#[((G 7).ss 0).v]),.apG 9 2 22 24 false true seen (fun _=>seens) (.g 8 0) true (fun G=>([⟨Tm.viewF v (Tm.pathF v root v1),(G 7).ss 0⟩]:List (Fat DThing))) 1 (fun _=>rfl) (fun G=>⟨atB (G 8).b,1,1⟩) true (by (try simp only [List.length_append,List.length_cons,List.length_nil,List.length_replicate,List.length_set,List.length_take,List.length_drop,List.length_map,List.length_reverse,List.length_range]);omega) (fun h=>by cases h) (fun _=>⟨rfl,rfl⟩),.v fun G=>((G 3).s).v,.v fun G=>((G 9).s).v] fun _ _ G12 kw13=>?_;intro S_ s_
    obtain ⟨⟨kl7, -⟩,⟨kl8, -⟩,⟨kl9, -⟩, -⟩:Lq ([⟨Tm.pathF v root v1,(G7 3).ss 0⟩]:List (Fat Int)) (SV.v ⟨atB (G12 2).b,1,1⟩)∧Lq (Tm.viewF v (Tm.pathF v root v1)) (((G12 7).ss 0).v)∧Lq ([⟨Tm.viewF v (Tm.pathF v root v1),(G12 7).ss 0⟩]:List (Fat DThing)) (SV.v ⟨atB (G12 8).b,1,1⟩)∧Lq l2 (((G12 3).s).v)∧Lq (seen ++([⟨Tm.viewF v (Tm.pathF v root v1),(G12 7).ss 0⟩]:List (Fat DThing))) (((G12 9).s).v)∧True:=kq kw13;clear kw13;refine V.g [.a (k0+1) (by omega) (by omega),.k (iv (k0+1))] fun _ _ G13=>?_;intro S_ s_;refine V.rnd hZ1 (l2,(G12 3).s,seen ++([⟨Tm.viewF v (Tm.pathF v root v1),(G12 7).ss 0⟩]:List (Fat DThing)),(G12 9).s,k0+1) [0,1] (by kernel_rfl) ?_ ?_
    · refine ⟨?_,?_,?_,?_,?_⟩
      · show 0≤(k0+1)
        first | omega | rfl | (simp;done) | (subst_vars;simp;done)
      · show (k0+1)≤(open_.length:Int)
        first | omega | rfl | (simp;done) | (subst_vars;simp;done)
      · show Rv.scanE v root open_ (k0+1).toNat=0;exact Rv.step_0 hv1 hx1 q6 (hl1 ▸ q8) (by omega) hf3
      · show l2.map (·.l)=(open_.take (k0+1).toNat).map (Tm.pathF v root);exact Rv.take_map (by omega) (by omega) hv1 hf4 hl2
      show (seen ++([⟨Tm.viewF v (Tm.pathF v root v1),(G12 7).ss 0⟩]:List (Fat DThing))).map (·.l)=(open_.take (k0+1).toNat).map (fun a=>Tm.viewF v (Tm.pathF v root a));exact Rv.take_map (f:=fun a=>Tm.viewF v (Tm.pathF v root a)) (by omega) (by omega) hv1 hf5 rfl
    show ((open_.length:Int)-(k0+1)).toNat < ((open_.length:Int)-k0).toNat;omega
  have hno:=Rv.show_ok hA (k:=k0) (by omega) hf3;refine V.g [.k (pathss.v),.k (seens.v),.k (pathss.v),.k (seens.v),.k (iv 0)] fun _ _ G14=>?_;intro S_ s_
  refine V.frz 1 true 25 paths pathss (by kernel_rfl) ?_;refine V.frz 2 true 22 seen seens (by kernel_rfl) ?_;have e0:paths.map (·.l)=(Rv.showP v root open_):=by rw [hno.2.1,← List.take_of_length_le (l:=open_) (i:=k0.toNat) (by omega)];exact hf4
  obtain ⟨σ0,E0⟩:=fats_ex e0;subst E0;clear e0;have e1:seen.map (·.l)=(Rv.showS v root open_):=by rw [hno.2.2,← List.take_of_length_le (l:=open_) (i:=k0.toNat) (by omega)];exact hf5
  obtain ⟨σ1,E1⟩:=fats_ex e1;subst E1;clear e1;have e2:(0:Int)=Rv.showE v root open_:=hno.1.symm;exact V.rt [0,0,0] [pathss,seens] [σ0,σ1] [] [2,3] [] (.tuple #[pathss.v,seens.v,iv 0]) (cong1 (fun (x2:Int)=>(.tuple #[pathss.v,seens.v,iv x2]:Value)) e2)

open Go
namespace Rv
open Tm
section
variable {α : Type} [Dat α] {a b : List (Fat α)} {k : Int} {x y : Fat α}
theorem ls_at (hx:x=a.getD k.toNat default):(ls a).getD k.toNat []=x.l:=by rw [hx];exact getD_l a k.toNat
theorem ls_ne (hx:x=a.getD k.toNat default) (hy:y=b.getD k.toNat default) (h:¬ x.l=y.l):¬ ls a=ls b:=fun e=>h (by rw [←ls_at hx,← ls_at hy,e])
theorem ls_step (h:∀ j,j < k.toNat→(a.getD j default).l=(b.getD j default).l) (h0:0≤k) (hx:x=a.getD k.toNat default) (hy:y=b.getD k.toNat default) (e:x.l=y.l):∀ j,j < (k+1).toNat→(a.getD j default).l=(b.getD j default).l:=fun j hj=>by
  by_cases e2:j < k.toNat
  · exact h j e2
  · rw [show j=k.toNat by omega,← hx,← hy];exact e
theorem ls_eq (h:∀ j,j < k.toNat→(a.getD j default).l=(b.getD j default).l) (hl:a.length=b.length) (hk:(a.length:Int)≤k):ls a=ls b:=by
  refine List.ext_getElem? fun j=>?_
  unfold ls
  rw [List.getElem?_map,List.getElem?_map]
  by_cases hj:j < a.length
  · have:=h j (by omega)
    simp only [List.getD_eq_getElem?_getD] at this
    rw [List.getElem?_eq_getElem hj,List.getElem?_eq_getElem (by omega)] at this ⊢
    exact congrArg some this
  · rw [List.getElem?_eq_none (by omega),List.getElem?_eq_none (by omega)]
theorem all_step {P:Fat α→Prop} (h:∀ j,j < k.toNat→P (a.getD j default)) (h0:0≤k) (hx:x=a.getD k.toNat default) (e:P x):∀ j,j < (k+1).toNat→P (a.getD j default):=fun j hj=>by
  by_cases e2:j < k.toNat
  · exact h j e2
  · rw [show j=k.toNat by omega,← hx];exact e
end
def rowF (s:List DThing):Prop:=s.length≤10∧∀ k,k < s.length→¬ longT (te s k).Text.size
instance (s : List DThing) : Decidable (rowF s) := by unfold rowF; infer_instance
def fewD (P:List (List Int)) (S:List (List DThing)):Prop:=(∀ i,i < P.length→i < 71→(pl P i).length≤10)∧(∀ i,i < S.length→i < 71→rowF (sl S i))∧(P.length≤8∨64 < P.length)∧P.length≤70∧S.length≤70
instance (P : List (List Int)) (S : List (List DThing)) : Decidable (fewD P S) := by unfold fewD; infer_instance
section
variable {p : List (Fat Int)} {q : List (Fat DThing)} {k j : Int} {x : Fat Int} {y : Fat DThing} {z : DThing}
theorem fewD_no1 (h0:0≤k) (hk:k < p.length) (h71:k < 71) (hx:x=p.getD k.toNat default) (h:10 < (x.l.length:Int)):¬ fewD (ls p) (ls q):=fun f=>by
  have:=f.1 k.toNat (by rw [ls_length];omega) (by omega)
  rw [pl_ls hx] at this;omega
theorem fewD_no2 (h0:0≤k) (hk:k < q.length) (h71:k < 71) (hy:y=q.getD k.toNat default) (h:¬ rowF y.l):¬ fewD (ls p) (ls q):=fun f=>by
  have:=f.2.1 k.toNat (by rw [ls_length];omega) (by omega)
  rw [sl_ls hy] at this;exact h this
theorem rowF_no (h0:0≤j) (hj:j < y.l.length) (hz:z=y.l.getD j.toNat default) (h:100 < (z.Text.size:Int)∧((z.Text.size:Int)≤8000∨8100 < (z.Text.size:Int))):¬ rowF y.l:=fun f=>f.2 j.toNat (by omega) (by
  have e:te y.l j.toNat=z:=by rw [hz];rfl
  rw [e];unfold longT;exact h)
theorem rowF_step (hp:∀ i,i < j.toNat→¬ longT (te y.l i).Text.size) (h0:0≤j) (hz:z=y.l.getD j.toNat default) (h:¬ 100 < (z.Text.size:Int)∨(¬(z.Text.size:Int)≤8000∧¬ 8100 < (z.Text.size:Int))):∀ i,i < (j+1).toNat→¬ longT (te y.l i).Text.size:=fun i hi=>by
  by_cases e:i < j.toNat
  · exact hp i e
  · rw [show i=j.toNat by omega]
    have e:te y.l j.toNat=z:=by rw [hz];rfl
    rw [e];unfold longT;omega
theorem fewD_end {k2:Int} (hp:∀ i,i < k.toNat→(p.getD i default).l.length≤10) (hk:¬ (k < p.length∧k < 71)) (hq:∀ i,i < k2.toNat→rowF (q.getD i default).l) (hk2:¬ (k2 < q.length∧k2 < 71)) (h0:0≤k) (h2:0≤k2) :
    fewD (ls p) (ls q)↔(((p.length:Int)≤8∨64 < (p.length:Int))∧(p.length:Int)≤70)∧(q.length:Int)≤70:=by
  unfold fewD
  rw [ls_length,ls_length]
  constructor
  · rintro ⟨_,_,a,b,c⟩;omega
  · rintro ⟨⟨a,b⟩,c⟩
    exact ⟨fun i hi _=>by rw [pl_ls'];exact hp i (by omega),fun i hi _=>by rw [sl_ls'];exact hq i (by omega),by omega,by omega,by omega⟩
end
end Rv

open Go Go.Proofs
set_option maxRecDepth 10000 in
theorem fewv_ct (v:List DThing) (vs:SV) (most:Int) :
    Cp Try.prog 5 #[ag (DVault.mk ⟨v,vs⟩),iv most] [fs true v vs] (bv (decide (Tm.fewP v most))):=by
  refine V.fn mo Try.func5 31 1 (by kernel_rfl) fun w H ε k0=>?_;obtain ⟨⟨kl1, -⟩, -⟩:Lq v vs.v∧True:=kq k0
  clear k0;refine V.g [.nb 0 0 (fun b=>pp b 0) 24 (fun _=>ca (DVault.mk ⟨v,vs⟩)),.kb false] fun _ _ G1=>?_;intro S s
  refine V.g [.k (iv 0)] fun _ _ G2=>?_;intro S s
  refine V.loop (γ:=Int) (fun i=>⟨[(1,iv most),(2,pp ((G1 0).b) 0),(5,iv i)],[fs false v vs],[.blk ((G1 0).b) (ca (DVault.mk ⟨v,vs⟩)) 24]⟩) (fun i=>(0≤i)∧(∀ j,j < i.toNat→(v.getD j default).Text.size≤100)) (fun i=>((v.length:Int)-i).toNat) 0 (by kernel_rfl) [0] (by kernel_rfl) ?_ ?_
  · refine ⟨?_,?_⟩
    · show 0≤(0:Int)
      first | omega | rfl | (simp;done) | (subst_vars;simp;done)
    show ∀ j,j < (0:Int).toNat→(v.getD j default).Text.size≤100;intro j hj;simp at hj
  rintro i hF1 kw3 Z1 hZ1;have hF1:(0≤i)∧(∀ j,j < i.toNat→(v.getD j default).Text.size≤100):=hF1;obtain ⟨hf1,hf2⟩:=hF1;clear kw3;refine nm ((decide (i < (v.length:Int))) && (decide (i < most)):Bool) fun p1 hp1=>?_;refine V.g [.k (iv i),.k (pp ((G1 0).b) 0),.ld 0 0 false (fun _=>[vs.v]),.ln (kf false (.f 0) v (fun _=>vs)),.k (bv (decide (i < (v.length:Int)))),.k (bv (decide (i < (v.length:Int)))),.k (iv i),.k (iv most),.k (bv (decide (i < most))),.andn g0 false (decide (i < (v.length:Int))) (decide (i < most)) p1 hp1] fun _ _ G3=>?_;intro S s;refine V.cn (b:=p1) (iN hp1 (iAT iDT iDT)) (iN hp1 (iAF iDF iDF)) (fun q1=>?_) (fun q2=>?_)
  · refine nm (v.getD i.toNat default:DThing) fun x1 hx1=>?_;refine V.g [.k (pp ((G1 0).b) 0),.ld 0 0 false (fun _=>[vs.v]),.k (iv i),.ix g0 (kf false (.f 0) v (fun _=>vs)) i (fun _=>⟨by omega,by omega⟩),.k (.pointer (some ((elemAddr vs.v (i.toNat * 5)).add 0))),.le g0 (kf false (.f 0) v (fun _=>vs)) i (some 0) false x1 hx1 (fun _=>⟨by omega,by omega⟩) false (fun _=>[tv x1.Text]),.k (iv (x1.Text.size:Int)),.k (bv (decide (100 < (x1.Text.size:Int))))] fun _ _ G4=>?_;intro S s
    refine V.cn (b:=decide (100 < (x1.Text.size:Int))) iDT iDF (fun q3=>?_) (fun q4=>?_)
    · refine V.g [.kb false] fun _ _ G5=>?_;intro S s
      have e0:false=decide (Tm.fewP v most):=Tm.few_no (k:=i) (by omega) (by omega) (by omega) hx1 rfl (by omega);exact V.rt [0] [] [] [] [] [] (bv false) (cong1 (fun (x0:Bool)=>(bv x0:Value)) e0)
    refine V.g [.k (iv i),.a (i+1) (by omega) (by omega),.k (iv (i+1))] fun _ _ G6=>?_;intro S s
    refine V.rnd hZ1 (i+1) [0] (by kernel_rfl) ?_ ?_
    · refine ⟨?_,?_⟩
      · show 0≤(i+1);omega
      show ∀ j,j < (i+1).toNat→(v.getD j default).Text.size≤100;exact Tm.few_step hf2 (by omega) rfl hx1 rfl (by omega)
    show ((v.length:Int)-(i+1)).toNat < ((v.length:Int)-i).toNat;omega
  refine V.g [.k (pp ((G1 0).b) 0),.ld 0 0 false (fun _=>[vs.v]),.ln (kf false (.f 0) v (fun _=>vs)),.k (iv most),.k (bv (decide ((v.length:Int)≤most))),.k (bv (decide ((v.length:Int)≤most)))] fun _ _ G7=>?_;intro S s
  have e0:(decide ((v.length:Int)≤most))=decide (Tm.fewP v most):=Tm.few_end (k:=i) (n:=(v.length:Int)) hf2 (by omega) (by omega) rfl rfl;exact V.rt [0] [] [] [] [] [] (bv (decide ((v.length:Int)≤most))) (cong1 (fun (x0:Bool)=>(bv x0:Value)) e0)
set_option maxRecDepth 10000 in
theorem same_ct (a:List DThing) (as_:SV) (b:List DThing) (bs:SV) :
    Cp Try.prog 28 #[as_.v,bs.v] [fs true a as_,fs true b bs] (bv (decide (a=b))):=by
  refine V.fn mo Try.func28 26 0 (by kernel_rfl) fun w H ε k0=>?_;obtain ⟨⟨kl1, -⟩,⟨kl2, -⟩, -⟩:Lq a as_.v∧Lq b bs.v∧True:=kq k0
  clear k0;refine V.g [.kb false] fun _ _ G1=>?_;intro S s
  refine V.g [.k (as_.v),.ln (kf false (.f 0) a (fun _=>as_)),.k (bs.v),.ln (kf false (.f 1) b (fun _=>bs)),.k (bv (!(decide ((a.length:Int)=(b.length:Int)))))] fun _ _ G2=>?_;intro S s
  refine V.cn (b:=!(decide ((a.length:Int)=(b.length:Int)))) (iNT iDF) (iNF iDT) (fun q1=>?_) (fun q2=>?_)
  · refine V.g [.kb false] fun _ _ G3=>?_;intro S s
    have e0:false=decide (a=b):=Tm.same_no_len rfl rfl q1;exact V.rt [0] [] [] [] [] [] (bv false) (cong1 (fun (x0:Bool)=>(bv x0:Value)) e0)
  refine V.g [.k (iv 0)] fun _ _ G4=>?_;intro S s
  refine V.loop (γ:=Int) (fun i=>⟨[(0,as_.v),(1,bs.v),(5,iv i)],[fs false a as_,fs false b bs],[]⟩) (fun i=>(0≤i)∧(i≤(a.length:Int))∧(∀ j,j < i.toNat→a.getD j default=b.getD j default)) (fun i=>((a.length:Int)-i).toNat) 0 (by kernel_rfl) [0,1] (by kernel_rfl) ?_ ?_
  · refine ⟨?_,?_,?_⟩
    · show 0≤(0:Int)
      first | omega | rfl | (simp;done) | (subst_vars;simp;done)
    · show (0:Int)≤(a.length:Int)
      first | omega | rfl | (simp;done) | (subst_vars;simp;done)
    show ∀ j,j < (0:Int).toNat→a.getD j default=b.getD j default;intro j hj;simp at hj
  rintro i hF1 kw5 Z1 hZ1;have hF1:(0≤i)∧(i≤(a.length:Int))∧(∀ j,j < i.toNat→a.getD j default=b.getD j default):=hF1;obtain ⟨hf1,hf2,hf3⟩:=hF1;clear kw5;refine V.g [.k (iv i),.k (as_.v),.ln (kf false (.f 0) a (fun _=>as_)),.k (bv (decide (i < (a.length:Int))))] fun _ _ G5=>?_;intro S s;refine V.cn (b:=decide (i < (a.length:Int))) iDT iDF (fun q3=>?_) (fun q4=>?_)
  · refine nm (a.getD i.toNat default:DThing) fun x1 hx1=>?_;refine nm (b.getD i.toNat default:DThing) fun x2 hx2=>?_;refine V.g [.k (as_.v),.k (iv i),.ix g0 (kf false (.f 0) a (fun _=>as_)) i (fun _=>⟨by omega,by omega⟩),.le g0 (kf false (.f 0) a (fun _=>as_)) i none false x1 hx1 (fun _=>⟨by omega,by omega⟩) true (fun _=>Dat.cells x1),.k (bs.v),.k (iv i),.ix g0 (kf false (.f 1) b (fun _=>bs)) i (fun _=>⟨by omega,by omega⟩),.le g0 (kf false (.f 1) b (fun _=>bs)) i none false x2 hx2 (fun _=>⟨by omega,by omega⟩) true (fun _=>Dat.cells x2),.aeq true 41 (ca x1) (ca x2) _ fun w=>thing_equal w x1.Text x1.Value x1.Blind x1.Left x1.Right x2.Text x2.Value x2.Blind x2.Left x2.Right] fun _ _ G6=>?_;intro S s
    refine V.cn (b:=!(decide (x1.Text=x2.Text∧x1.Value=x2.Value∧x1.Blind=x2.Blind∧x1.Left=x2.Left∧x1.Right=x2.Right))) (iNT iDF) (iNF iDT) (fun q5=>?_) (fun q6=>?_)
    · refine V.g [.kb false] fun _ _ G7=>?_;intro S s
      have e0:false=decide (a=b):=Tm.same_no (k:=i) hx1 hx2 (fun e=>q5 ((Tm.thing_ext _ _).1 e));exact V.rt [0] [] [] [] [] [] (bv false) (cong1 (fun (x0:Bool)=>(bv x0:Value)) e0)
    refine V.g [.k (iv i),.a (i+1) (by omega) (by omega),.k (iv (i+1))] fun _ _ G8=>?_;intro S s
    refine V.rnd hZ1 (i+1) [0,1] (by kernel_rfl) ?_ ?_
    · refine ⟨?_,?_,?_⟩
      · show 0≤(i+1)
        first | omega | rfl | (simp;done) | (subst_vars;simp;done)
      · show (i+1)≤(a.length:Int)
        first | omega | rfl | (simp;done) | (subst_vars;simp;done)
      show ∀ j,j < (i+1).toNat→a.getD j default=b.getD j default;exact Tm.same_step hf3 (by omega) rfl hx1 hx2 ((Tm.thing_ext _ _).2 q6)
    show ((a.length:Int)-(i+1)).toNat < ((a.length:Int)-i).toNat;omega
  refine V.g [.kb true] fun _ _ G9=>?_;intro S s
  have e0:true=decide (a=b):=Tm.same_yes (k:=i) hf3 (by omega) (by omega);exact V.rt [0] [] [] [] [] [] (bv true) (cong1 (fun (x0:Bool)=>(bv x0:Value)) e0)
set_option maxRecDepth 10000 in
theorem samei_ct (a:List Int) (as_:SV) (b:List Int) (bs:SV) :
    Cp Try.prog 17 #[as_.v,bs.v] [fs true a as_,fs true b bs] (bv (decide (a=b))):=by
  refine V.fn mo Try.func17 26 0 (by kernel_rfl) fun w H ε k0=>?_;obtain ⟨⟨kl1, -⟩,⟨kl2, -⟩, -⟩:Lq a as_.v∧Lq b bs.v∧True:=kq k0
  clear k0;refine V.g [.kb false] fun _ _ G1=>?_;intro S s
  refine V.g [.k (as_.v),.ln (kf false (.f 0) a (fun _=>as_)),.k (bs.v),.ln (kf false (.f 1) b (fun _=>bs)),.k (bv (!(decide ((a.length:Int)=(b.length:Int)))))] fun _ _ G2=>?_;intro S s
  refine V.cn (b:=!(decide ((a.length:Int)=(b.length:Int)))) (iNT iDF) (iNF iDT) (fun q1=>?_) (fun q2=>?_)
  · refine V.g [.kb false] fun _ _ G3=>?_;intro S s
    have e0:false=decide (a=b):=Tm.same_no_len rfl rfl q1;exact V.rt [0] [] [] [] [] [] (bv false) (cong1 (fun (x0:Bool)=>(bv x0:Value)) e0)
  refine V.g [.k (iv 0)] fun _ _ G4=>?_;intro S s
  refine V.loop (γ:=Int) (fun i=>⟨[(0,as_.v),(1,bs.v),(5,iv i)],[fs false a as_,fs false b bs],[]⟩) (fun i=>(0≤i)∧(i≤(a.length:Int))∧(∀ j,j < i.toNat→a.getD j default=b.getD j default)) (fun i=>((a.length:Int)-i).toNat) 0 (by kernel_rfl) [0,1] (by kernel_rfl) ?_ ?_
  · refine ⟨?_,?_,?_⟩
    · show 0≤(0:Int)
      first | omega | rfl | (simp;done) | (subst_vars;simp;done)
    · show (0:Int)≤(a.length:Int)
      first | omega | rfl | (simp;done) | (subst_vars;simp;done)
    show ∀ j,j < (0:Int).toNat→a.getD j default=b.getD j default;intro j hj;simp at hj
  rintro i hF1 kw5 Z1 hZ1;have hF1:(0≤i)∧(i≤(a.length:Int))∧(∀ j,j < i.toNat→a.getD j default=b.getD j default):=hF1;obtain ⟨hf1,hf2,hf3⟩:=hF1;clear kw5;refine V.g [.k (iv i),.k (as_.v),.ln (kf false (.f 0) a (fun _=>as_)),.k (bv (decide (i < (a.length:Int))))] fun _ _ G5=>?_;intro S s;refine V.cn (b:=decide (i < (a.length:Int))) iDT iDF (fun q3=>?_) (fun q4=>?_)
  · refine nm (a.getD i.toNat default:Int) fun v1 hv1=>?_;refine nm (b.getD i.toNat default:Int) fun v2 hv2=>?_;refine V.g [.k (as_.v),.k (iv i),.ix g0 (kf false (.f 0) a (fun _=>as_)) i (fun _=>⟨by omega,by omega⟩),.le g0 (kf false (.f 0) a (fun _=>as_)) i none false v1 hv1 (fun _=>⟨by omega,by omega⟩) false (fun _=>[iv v1]),.k (bs.v),.k (iv i),.ix g0 (kf false (.f 1) b (fun _=>bs)) i (fun _=>⟨by omega,by omega⟩),.le g0 (kf false (.f 1) b (fun _=>bs)) i none false v2 hv2 (fun _=>⟨by omega,by omega⟩) false (fun _=>[iv v2]),.k (bv (!(decide (v1=v2))))] fun _ _ G6=>?_;intro S s
    refine V.cn (b:=!(decide (v1=v2))) (iNT iDF) (iNF iDT) (fun q5=>?_) (fun q6=>?_)
    · refine V.g [.kb false] fun _ _ G7=>?_;intro S s
      have e0:false=decide (a=b):=Tm.same_no (k:=i) hv1 hv2 q5;exact V.rt [0] [] [] [] [] [] (bv false) (cong1 (fun (x0:Bool)=>(bv x0:Value)) e0)
    refine V.g [.k (iv i),.a (i+1) (by omega) (by omega),.k (iv (i+1))] fun _ _ G8=>?_;intro S s
    refine V.rnd hZ1 (i+1) [0,1] (by kernel_rfl) ?_ ?_
    · refine ⟨?_,?_,?_⟩
      · show 0≤(i+1)
        first | omega | rfl | (simp;done) | (subst_vars;simp;done)
      · show (i+1)≤(a.length:Int)
        first | omega | rfl | (simp;done) | (subst_vars;simp;done)
      show ∀ j,j < (i+1).toNat→a.getD j default=b.getD j default;exact Tm.same_step hf3 (by omega) rfl hv1 hv2 q6
    show ((a.length:Int)-(i+1)).toNat < ((a.length:Int)-i).toNat;omega
  refine V.g [.kb true] fun _ _ G9=>?_;intro S s
  have e0:true=decide (a=b):=Tm.same_yes (k:=i) hf3 (by omega) (by omega);exact V.rt [0] [] [] [] [] [] (bv true) (cong1 (fun (x0:Bool)=>(bv x0:Value)) e0)
set_option maxRecDepth 10000 in
theorem same49_ct (paths:List (Fat Int)) (pathss:SV) (seen:List (Fat DThing)) (seens:SV) (others:List (Fat Int)) (otherss:SV) (shown:List (Fat DThing)) (showns:SV) :
    Cp Try.prog 11 #[pathss.v,seens.v,otherss.v,showns.v] [fs true paths pathss,fs true seen seens,fs true others otherss,fs true shown showns] (bv (decide (Rv.ls paths=Rv.ls others∧Rv.ls seen=Rv.ls shown))):=by
  refine V.fn mo Try.func11 55 0 (by kernel_rfl) fun w H ε k0=>?_;obtain ⟨⟨kl1, -⟩,⟨kl2, -⟩,⟨kl3, -⟩,⟨kl4, -⟩, -⟩:Lq paths pathss.v∧Lq seen seens.v∧Lq others otherss.v∧Lq shown showns.v∧True:=kq k0
  clear k0;refine V.g [.kb false] fun _ _ G1=>?_;intro S_ s_
  refine nm ((!(decide ((paths.length:Int)=(others.length:Int)))) || (!(decide ((seen.length:Int)=(shown.length:Int)))):Bool) fun p1 hp1=>?_;refine V.g [.k (pathss.v),.ln (kf false (.f 0) paths (fun _=>pathss)),.k (otherss.v),.ln (kf false (.f 2) others (fun _=>otherss)),.k (bv (!(decide ((paths.length:Int)=(others.length:Int))))),.k (bv (!(decide ((paths.length:Int)=(others.length:Int))))),.k (seens.v),.ln (kf false (.f 1) seen (fun _=>seens)),.k (showns.v),.ln (kf false (.f 3) shown (fun _=>showns)),.k (bv (!(decide ((seen.length:Int)=(shown.length:Int))))),.orn g0 false (!(decide ((paths.length:Int)=(others.length:Int)))) (!(decide ((seen.length:Int)=(shown.length:Int)))) p1 hp1] fun _ _ G2=>?_;intro S_ s_
  refine V.cn (b:=p1) (iN hp1 (iOT (iNT iDF) (iNT iDF))) (iN hp1 (iOF (iNF iDT) (iNF iDT))) (fun q1=>?_) (fun q2=>?_)
  · refine V.g [.kb false] fun _ _ G3=>?_;intro S_ s_
    have e0:false=decide (Rv.ls paths=Rv.ls others∧Rv.ls seen=Rv.ls shown):=by
      symm;rw [decide_eq_false_iff_not];rintro ⟨h1,h2⟩
      have h3:=congrArg List.length h1;have h4:=congrArg List.length h2;simp only [Rv.ls_length] at h3 h4;omega
    exact V.rt [0] [] [] [] [] [] (bv false) (cong1 (fun (x0:Bool)=>(bv x0:Value)) e0)
  refine V.g [.k (iv 0)] fun _ _ G4=>?_;intro S_ s_
  refine V.loop (γ:=Int) (fun i=>⟨[(0,pathss.v),(1,seens.v),(2,otherss.v),(3,showns.v),(9,iv i)],[fs false paths pathss,fs false seen seens,fs false others otherss,fs false shown showns],[]⟩) (fun i=>(0≤i)∧(i≤(paths.length:Int))∧(∀ j,j < i.toNat→(paths.getD j default).l=(others.getD j default).l)) (fun i=>((paths.length:Int)-i).toNat) 0 (by kernel_rfl) [0,1,2,3] (by kernel_rfl) ?_ ?_
  · refine ⟨?_,?_,?_⟩
    · show 0≤(0:Int)
      first | omega | rfl | (simp;done) | (subst_vars;simp;done)
    · show (0:Int)≤(paths.length:Int)
      first | omega | rfl | (simp;done) | (subst_vars;simp;done)
    show ∀ j,j < (0:Int).toNat→(paths.getD j default).l=(others.getD j default).l;intro j hj;simp at hj
  rintro i hF1 kw5 Z1 hZ1;have hF1:(0≤i)∧(i≤(paths.length:Int))∧(∀ j,j < i.toNat→(paths.getD j default).l=(others.getD j default).l):=hF1;obtain ⟨hf1,hf2,hf3⟩:=hF1;clear kw5;refine V.g [.k (iv i),.k (pathss.v),.ln (kf false (.f 0) paths (fun _=>pathss)),.k (bv (decide (i < (paths.length:Int))))] fun _ _ G5=>?_;intro S_ s_;refine V.cn (b:=decide (i < (paths.length:Int))) iDT iDF (fun q3=>?_) (fun q4=>?_)
  · refine nm (paths.getD i.toNat default:Fat Int) fun x1 hx1=>?_;refine nm (others.getD i.toNat default:Fat Int) fun x2 hx2=>?_;refine V.r [.k (pathss.v),.k (iv i),.ix g0 (kf false (.f 0) paths (fun _=>pathss)) i (fun _=>⟨by omega,by omega⟩),.le g0 (kf false (.f 0) paths (fun _=>pathss)) i none true x1 hx1 (fun _=>⟨by omega,by omega⟩) false (fun _=>[x1.s.v]),.k (otherss.v),.k (iv i),.ix g0 (kf false (.f 2) others (fun _=>otherss)) i (fun _=>⟨by omega,by omega⟩),.le g0 (kf false (.f 2) others (fun _=>otherss)) i none true x2 hx2 (fun _=>⟨by omega,by omega⟩) false (fun _=>[x2.s.v]),.cp g0 8 17 [(kx false (.g 3 0) x1 x1.l (fun _=>x1.s) (fun _ _ h=>h)).a,(kx false (.g 7 0) x2 x2.l (fun _=>x2.s) (fun _ _ h=>h)).a] (fun _ G=>samei_ct x1.l x1.s x2.l x2.s),.k (bv (!(decide (x1.l=x2.l))))] fun _ _ G6 kw7=>?_;intro S_ s_
    obtain ⟨⟨kl5, -⟩,⟨kl6, -⟩, -⟩:Lq x1.l x1.s.v∧Lq x2.l x2.s.v∧True:=kq kw7;clear kw7;refine V.cn (b:=!(decide (x1.l=x2.l))) (iNT iDF) (iNF iDT) (fun q5=>?_) (fun q6=>?_)
    · refine V.g [.kb false] fun _ _ G7=>?_;intro S_ s_
      have e0:false=decide (Rv.ls paths=Rv.ls others∧Rv.ls seen=Rv.ls shown):=by
        symm;rw [decide_eq_false_iff_not];rintro ⟨h1,h2⟩
        exact Rv.ls_ne hx1 hx2 q5 h1
      exact V.rt [0] [] [] [] [] [] (bv false) (cong1 (fun (x0:Bool)=>(bv x0:Value)) e0)
    refine V.g [.k (iv i),.a (i+1) (by omega) (by omega),.k (iv (i+1))] fun _ _ G8=>?_;intro S_ s_
    refine V.rnd hZ1 (i+1) [0,1,2,3] (by kernel_rfl) ?_ ?_
    · refine ⟨?_,?_,?_⟩
      · show 0≤(i+1)
        first | omega | rfl | (simp;done) | (subst_vars;simp;done)
      · show (i+1)≤(paths.length:Int)
        first | omega | rfl | (simp;done) | (subst_vars;simp;done)
      show ∀ j,j < (i+1).toNat→(paths.getD j default).l=(others.getD j default).l;exact Rv.ls_step hf3 (by omega) hx1 hx2 q6
    show ((paths.length:Int)-(i+1)).toNat < ((paths.length:Int)-i).toNat;omega
  refine V.g [.k (iv 0)] fun _ _ G9=>?_;intro S_ s_
  refine V.loop (γ:=Int) (fun i_1=>⟨[(1,seens.v),(3,showns.v),(10,iv i_1)],[fs false seen seens,fs false shown showns],[]⟩) (fun i_1=>(0≤i_1)∧(i_1≤(seen.length:Int))∧(∀ j,j < i_1.toNat→(seen.getD j default).l=(shown.getD j default).l)) (fun i_1=>((seen.length:Int)-i_1).toNat) 0 (by kernel_rfl) [1,3] (by kernel_rfl) ?_ ?_
  · refine ⟨?_,?_,?_⟩
    · show 0≤(0:Int)
      first | omega | rfl | (simp;done) | (subst_vars;simp;done)
    · show (0:Int)≤(seen.length:Int)
      first | omega | rfl | (simp;done) | (subst_vars;simp;done)
    show ∀ j,j < (0:Int).toNat→(seen.getD j default).l=(shown.getD j default).l;intro j hj;simp at hj
  rintro i_1 hF2 kw11 Z2 hZ2;have hF2:(0≤i_1)∧(i_1≤(seen.length:Int))∧(∀ j,j < i_1.toNat→(seen.getD j default).l=(shown.getD j default).l):=hF2;obtain ⟨hf4,hf5,hf6⟩:=hF2;clear kw11;refine V.g [.k (iv i_1),.k (seens.v),.ln (kf false (.f 0) seen (fun _=>seens)),.k (bv (decide (i_1 < (seen.length:Int))))] fun _ _ G10=>?_;intro S_ s_;refine V.cn (b:=decide (i_1 < (seen.length:Int))) iDT iDF (fun q7=>?_) (fun q8=>?_)
  · refine nm (seen.getD i_1.toNat default:Fat DThing) fun x3 hx3=>?_;refine nm (shown.getD i_1.toNat default:Fat DThing) fun x4 hx4=>?_;refine V.r [.k (seens.v),.k (iv i_1),.ix g0 (kf false (.f 0) seen (fun _=>seens)) i_1 (fun _=>⟨by omega,by omega⟩),.le g0 (kf false (.f 0) seen (fun _=>seens)) i_1 none true x3 hx3 (fun _=>⟨by omega,by omega⟩) false (fun _=>[x3.s.v]),.k (showns.v),.k (iv i_1),.ix g0 (kf false (.f 1) shown (fun _=>showns)) i_1 (fun _=>⟨by omega,by omega⟩),.le g0 (kf false (.f 1) shown (fun _=>showns)) i_1 none true x4 hx4 (fun _=>⟨by omega,by omega⟩) false (fun _=>[x4.s.v]),.cp g0 8 28 [(kx false (.g 3 0) x3 x3.l (fun _=>x3.s) (fun _ _ h=>h)).a,(kx false (.g 7 0) x4 x4.l (fun _=>x4.s) (fun _ _ h=>h)).a] (fun _ G=>same_ct x3.l x3.s x4.l x4.s),.k (bv (!(decide (x3.l=x4.l))))] fun _ _ G11 kw13=>?_;intro S_ s_
    obtain ⟨⟨kl7, -⟩,⟨kl8, -⟩, -⟩:Lq x3.l x3.s.v∧Lq x4.l x4.s.v∧True:=kq kw13;clear kw13;refine V.cn (b:=!(decide (x3.l=x4.l))) (iNT iDF) (iNF iDT) (fun q9=>?_) (fun q10=>?_)
    · refine V.g [.kb false] fun _ _ G12=>?_;intro S_ s_
      have e0:false=decide (Rv.ls paths=Rv.ls others∧Rv.ls seen=Rv.ls shown):=by
        symm;rw [decide_eq_false_iff_not];rintro ⟨h1,h2⟩
        exact Rv.ls_ne hx3 hx4 q9 h2
      exact V.rt [0] [] [] [] [] [] (bv false) (cong1 (fun (x0:Bool)=>(bv x0:Value)) e0)
    refine V.g [.k (iv i_1),.a (i_1+1) (by omega) (by omega),.k (iv (i_1+1))] fun _ _ G13=>?_;intro S_ s_
    refine V.rnd hZ2 (i_1+1) [0,1] (by kernel_rfl) ?_ ?_
    · refine ⟨?_,?_,?_⟩
      · show 0≤(i_1+1)
        first | omega | rfl | (simp;done) | (subst_vars;simp;done)
      · show (i_1+1)≤(seen.length:Int)
        first | omega | rfl | (simp;done) | (subst_vars;simp;done)
      show ∀ j,j < (i_1+1).toNat→(seen.getD j default).l=(shown.getD j default).l;exact Rv.ls_step hf6 (by omega) hx3 hx4 q10
    show ((seen.length:Int)-(i_1+1)).toNat < ((seen.length:Int)-i_1).toNat;omega
  refine V.g [.kb true] fun _ _ G14=>?_;intro S_ s_
  have e0:true=decide (Rv.ls paths=Rv.ls others∧Rv.ls seen=Rv.ls shown):=by symm;rw [decide_eq_true_iff];exact ⟨Rv.ls_eq hf3 (by omega) (by omega),Rv.ls_eq hf6 (by omega) (by omega)⟩
  exact V.rt [0] [] [] [] [] [] (bv true) (cong1 (fun (x0:Bool)=>(bv x0:Value)) e0)
set_option maxRecDepth 10000 in
theorem few49_ct (paths:List (Fat Int)) (pathss:SV) (seen:List (Fat DThing)) (seens:SV) :
    Cp Try.prog 6 #[pathss.v,seens.v] [fs true paths pathss,fs true seen seens] (bv (decide (Rv.fewD (Rv.ls paths) (Rv.ls seen)))):=by
  refine V.fn mo Try.func6 87 0 (by kernel_rfl) fun w H ε k0=>?_;obtain ⟨⟨kl1, -⟩,⟨kl2, -⟩, -⟩:Lq paths pathss.v∧Lq seen seens.v∧True:=kq k0
  clear k0;refine V.g [.kb false] fun _ _ G1=>?_;intro S_ s_
  refine V.g [.k (iv 0)] fun _ _ G2=>?_;intro S_ s_
  refine V.loop (γ:=Int) (fun i=>⟨[(0,pathss.v),(1,seens.v),(5,iv i)],[fs false paths pathss,fs false seen seens],[]⟩) (fun i=>(0≤i)∧(∀ j,j < i.toNat→(paths.getD j default).l.length≤10)) (fun i=>((paths.length:Int)-i).toNat) 0 (by kernel_rfl) [0,1] (by kernel_rfl) ?_ ?_
  · refine ⟨?_,?_⟩
    · show 0≤(0:Int)
      first | omega | rfl | (simp;done) | (subst_vars;simp;done)
    show ∀ j,j < (0:Int).toNat→(paths.getD j default).l.length≤10;intro j hj;simp at hj
  rintro i hF1 kw3 Z1 hZ1;have hF1:(0≤i)∧(∀ j,j < i.toNat→(paths.getD j default).l.length≤10):=hF1;obtain ⟨hf1,hf2⟩:=hF1;clear kw3;refine nm ((decide (i < (paths.length:Int))) && (decide (i < 71)):Bool) fun p1 hp1=>?_;refine V.g [.k (iv i),.k (pathss.v),.ln (kf false (.f 0) paths (fun _=>pathss)),.k (bv (decide (i < (paths.length:Int)))),.k (bv (decide (i < (paths.length:Int)))),.k (iv i),.k (bv (decide (i < 71))),.andn g0 false (decide (i < (paths.length:Int))) (decide (i < 71)) p1 hp1] fun _ _ G3=>?_;intro S_ s_;refine V.cn (b:=p1) (iN hp1 (iAT iDT iDT)) (iN hp1 (iAF iDF iDF)) (fun q1=>?_) (fun q2=>?_)
  · refine nm (paths.getD i.toNat default:Fat Int) fun x1 hx1=>?_;refine V.r [.k (pathss.v),.k (iv i),.ix g0 (kf false (.f 0) paths (fun _=>pathss)) i (fun _=>⟨by omega,by omega⟩),.le g0 (kf false (.f 0) paths (fun _=>pathss)) i none true x1 hx1 (fun _=>⟨by omega,by omega⟩) false (fun _=>[x1.s.v]),.ln (kx false (.g 3 0) x1 x1.l (fun _=>x1.s) (fun _ _ h=>h)),.k (bv (decide (10 < (x1.l.length:Int))))] fun _ _ G4 kw5=>?_;intro S_ s_
    obtain ⟨⟨kl3, -⟩, -⟩:Lq x1.l x1.s.v∧True:=kq kw5;clear kw5;refine V.cn (b:=decide (10 < (x1.l.length:Int))) iDT iDF (fun q3=>?_) (fun q4=>?_)
    · refine V.g [.kb false] fun _ _ G5=>?_;intro S_ s_
      have e0:false=decide (Rv.fewD (Rv.ls paths) (Rv.ls seen)):=by
        symm;rw [decide_eq_false_iff_not]
        exact Rv.fewD_no1 (by omega) (by omega) (by omega) hx1 q3
      exact V.rt [0] [] [] [] [] [] (bv false) (cong1 (fun (x0:Bool)=>(bv x0:Value)) e0)
    refine V.g [.k (iv i),.a (i+1) (by omega) (by omega),.k (iv (i+1))] fun _ _ G6=>?_;intro S_ s_
    refine V.rnd hZ1 (i+1) [0,1] (by kernel_rfl) ?_ ?_
    · refine ⟨?_,?_⟩
      · show 0≤(i+1);omega
      show ∀ j,j < (i+1).toNat→(paths.getD j default).l.length≤10;exact Rv.all_step (P:=fun x=>x.l.length≤10) hf2 (by omega) hx1 (by omega)
    show ((paths.length:Int)-(i+1)).toNat < ((paths.length:Int)-i).toNat;omega
  refine V.g [.k (iv 0)] fun _ _ G7=>?_;intro S_ s_
  refine V.loop (γ:=Int) (fun i_1=>⟨[(0,pathss.v),(1,seens.v),(6,iv i_1)],[fs false paths pathss,fs false seen seens],[]⟩) (fun i_1=>(0≤i_1)∧(∀ j,j < i_1.toNat→Rv.rowF (seen.getD j default).l)) (fun i_1=>((seen.length:Int)-i_1).toNat) 0 (by kernel_rfl) [0,1] (by kernel_rfl) ?_ ?_
  · refine ⟨?_,?_⟩
    · show 0≤(0:Int)
      first | omega | rfl | (simp;done) | (subst_vars;simp;done)
    show ∀ j,j < (0:Int).toNat→Rv.rowF (seen.getD j default).l;intro j hj;simp at hj
  rintro i_1 hF2 kw9 Z2 hZ2;have hF2:(0≤i_1)∧(∀ j,j < i_1.toNat→Rv.rowF (seen.getD j default).l):=hF2;obtain ⟨hf3,hf4⟩:=hF2;clear kw9;refine nm ((decide (i_1 < (seen.length:Int))) && (decide (i_1 < 71)):Bool) fun p2 hp2=>?_;refine V.g [.k (iv i_1),.k (seens.v),.ln (kf false (.f 1) seen (fun _=>seens)),.k (bv (decide (i_1 < (seen.length:Int)))),.k (bv (decide (i_1 < (seen.length:Int)))),.k (iv i_1),.k (bv (decide (i_1 < 71))),.andn g0 false (decide (i_1 < (seen.length:Int))) (decide (i_1 < 71)) p2 hp2] fun _ _ G8=>?_;intro S_ s_;refine V.cn (b:=p2) (iN hp2 (iAT iDT iDT)) (iN hp2 (iAF iDF iDF)) (fun q5=>?_) (fun q6=>?_)
  · refine nm (seen.getD i_1.toNat default:Fat DThing) fun x2 hx2=>?_;refine V.r [.k (seens.v),.k (iv i_1),.ix g0 (kf false (.f 1) seen (fun _=>seens)) i_1 (fun _=>⟨by omega,by omega⟩),.le g0 (kf false (.f 1) seen (fun _=>seens)) i_1 none true x2 hx2 (fun _=>⟨by omega,by omega⟩) false (fun _=>[x2.s.v]),.ln (kx false (.g 3 0) x2 x2.l (fun _=>x2.s) (fun _ _ h=>h)),.k (bv (decide (10 < (x2.l.length:Int))))] fun _ _ G9 kw11=>?_;intro S_ s_
    obtain ⟨⟨kl4, -⟩, -⟩:Lq x2.l x2.s.v∧True:=kq kw11;clear kw11;refine V.cn (b:=decide (10 < (x2.l.length:Int))) iDT iDF (fun q7=>?_) (fun q8=>?_)
    · refine V.g [.kb false] fun _ _ G10=>?_;intro S_ s_
      have e0:false=decide (Rv.fewD (Rv.ls paths) (Rv.ls seen)):=by
        symm;rw [decide_eq_false_iff_not]
        exact Rv.fewD_no2 (by omega) (by omega) (by omega) hx2 (fun h=>by have:=h.1;omega)
      exact V.rt [0] [] [] [] [] [] (bv false) (cong1 (fun (x0:Bool)=>(bv x0:Value)) e0)
    refine V.g [.k (iv 0)] fun _ _ G11=>?_;intro S_ s_
    refine V.loop (γ:=Int) (fun k=>⟨[(0,pathss.v),(1,seens.v),(6,iv i_1),(7,iv k)],[fs false paths pathss,fs false seen seens],[]⟩) (fun k=>(0≤k)∧(∀ j,j < k.toNat→¬ Tm.longT (Rv.te (seen.getD i_1.toNat default).l j).Text.size)) (fun k=>(((seen.getD i_1.toNat default).l.length:Int)-k).toNat) 0 (by kernel_rfl) [0,1] (by kernel_rfl) ?_ ?_
    · refine ⟨?_,?_⟩
      · show 0≤(0:Int)
        first | omega | rfl | (simp;done) | (subst_vars;simp;done)
      show ∀ j,j < (0:Int).toNat→¬ Tm.longT (Rv.te (seen.getD i_1.toNat default).l j).Text.size;intro j hj;simp at hj
    rintro k hF3 kw14 Z3 hZ3;have hF3:(0≤k)∧(∀ j,j < k.toNat→¬ Tm.longT (Rv.te (seen.getD i_1.toNat default).l j).Text.size):=hF3;obtain ⟨hf5,hf6⟩:=hF3;clear kw14;refine nm (seen.getD i_1.toNat default:Fat DThing) fun x3 hx3=>?_;refine V.r [.k (iv k),.k (seens.v),.k (iv i_1),.ix g0 (kf false (.f 1) seen (fun _=>seens)) i_1 (fun _=>⟨by omega,by omega⟩),.le g0 (kf false (.f 1) seen (fun _=>seens)) i_1 none true x3 hx3 (fun _=>⟨by omega,by omega⟩) false (fun _=>[x3.s.v]),.ln (kx false (.g 4 0) x3 x3.l (fun _=>x3.s) (fun _ _ h=>h)),.k (bv (decide (k < (x3.l.length:Int))))] fun _ _ G12 kw15=>?_;intro S_ s_;obtain ⟨⟨kl5, -⟩, -⟩:Lq x3.l x3.s.v∧True:=kq kw15;clear kw15;have hxl:(seen.getD i_1.toNat default).l.length=x3.l.length:=by rw [hx3]
    refine V.cn (b:=decide (k < (x3.l.length:Int))) iDT iDF (fun q9=>?_) (fun q10=>?_)
    · refine nm (x3.l.getD k.toNat default:DThing) fun x4 hx4=>?_;refine V.r [.k (seens.v),.k (iv i_1),.ix g0 (kf false (.f 1) seen (fun _=>seens)) i_1 (fun _=>⟨by omega,by omega⟩),.le g0 (kf false (.f 1) seen (fun _=>seens)) i_1 none true x3 hx3 (fun _=>⟨by omega,by omega⟩) false (fun _=>[x3.s.v]),.k (iv k),.ix g0 (kx false (.g 3 0) x3 x3.l (fun _=>x3.s) (fun _ _ h=>h)) k (fun _=>⟨by omega,by omega⟩),.k (.pointer (some ((elemAddr x3.s.v (k.toNat * 5)).add 0))),.le g0 (kx false (.g 3 0) x3 x3.l (fun _=>x3.s) (fun _ _ h=>h)) k (some 0) false x4 hx4 (fun _=>⟨by omega,by omega⟩) false (fun _=>[tv x4.Text]),.k (iv (x4.Text.size:Int)),.k (iv (x4.Text.size:Int))] fun _ _ G13 kw16=>?_;intro S_ s_
      obtain ⟨⟨kl6, -⟩, -⟩:Lq x3.l x3.s.v∧True:=kq kw16;clear kw16;refine nm ((decide ((x4.Text.size:Int)≤8000)) || (decide (8100 < (x4.Text.size:Int))):Bool) fun p3 hp3=>?_;refine V.g [.k (iv (x4.Text.size:Int)),.k (bv (decide (100 < (x4.Text.size:Int)))),.k (bv (decide (100 < (x4.Text.size:Int)))),.k (iv (x4.Text.size:Int)),.k (bv (decide ((x4.Text.size:Int)≤8000))),.k (bv (decide ((x4.Text.size:Int)≤8000))),.k (iv (x4.Text.size:Int)),.k (bv (decide (8100 < (x4.Text.size:Int)))),.orn (gT (b:=decide (100 < (x4.Text.size:Int))) iDT) false (decide ((x4.Text.size:Int)≤8000)) (decide (8100 < (x4.Text.size:Int))) p3 hp3,.and g0 false (decide (100 < (x4.Text.size:Int))) p3] fun _ _ G14=>?_;intro S_ s_;refine V.cn (b:=(decide (100 < (x4.Text.size:Int))) && p3) (iAT iDT (iN hp3 (iOT iDT iDT))) (iAF iDF (iN hp3 (iOF iDF iDF))) (fun q11=>?_) (fun q12=>?_)
      · refine V.g [.kb false] fun _ _ G15=>?_;intro S_ s_
        have e0:false=decide (Rv.fewD (Rv.ls paths) (Rv.ls seen)):=by
          symm;rw [decide_eq_false_iff_not]
          exact Rv.fewD_no2 (by omega) (by omega) (by omega) hx3 (Rv.rowF_no (by omega) (by omega) hx4 q11)
        exact V.rt [0] [] [] [] [] [] (bv false) (cong1 (fun (x0:Bool)=>(bv x0:Value)) e0)
      refine V.g [.k (iv k),.a (k+1) (by omega) (by omega),.k (iv (k+1))] fun _ _ G16=>?_;intro S_ s_
      refine V.rnd hZ3 (k+1) [0,1] (by kernel_rfl) ?_ ?_
      · refine ⟨?_,?_⟩
        · show 0≤(k+1);omega
        show ∀ j,j < (k+1).toNat→¬ Tm.longT (Rv.te (seen.getD i_1.toNat default).l j).Text.size;have hfe:=hf6;rw [←hx3] at hfe ⊢;exact Rv.rowF_step hfe (by omega) hx4 q12
      show (((seen.getD i_1.toNat default).l.length:Int)-(k+1)).toNat < (((seen.getD i_1.toNat default).l.length:Int)-k).toNat;omega
    refine V.g [.k (iv i_1),.a (i_1+1) (by omega) (by omega),.k (iv (i_1+1))] fun _ _ G17=>?_;intro S_ s_
    refine V.rnd hZ2 (i_1+1) [0,1] (by kernel_rfl) ?_ ?_
    · refine ⟨?_,?_⟩
      · show 0≤(i_1+1);omega
      show ∀ j,j < (i_1+1).toNat→Rv.rowF (seen.getD j default).l;exact Rv.all_step (P:=fun x=>Rv.rowF x.l) hf4 (by omega) hx2 ⟨by omega,fun k hk=>by have hz:=hf6 k (by rw [←hx2] at hxl;omega);rw [←hx2] at hz;exact hz⟩
    show ((seen.length:Int)-(i_1+1)).toNat < ((seen.length:Int)-i_1).toNat;omega
  refine nm ((decide ((paths.length:Int)≤8)) || (decide (64 < (paths.length:Int))):Bool) fun p4 hp4=>?_;refine nm ((p4 && (decide ((paths.length:Int)≤70))) && (decide ((seen.length:Int)≤70)):Bool) fun p5 hp5=>?_;refine V.g [.k (pathss.v),.ln (kf false (.f 0) paths (fun _=>pathss)),.k (bv (decide ((paths.length:Int)≤8))),.k (bv (decide ((paths.length:Int)≤8))),.k (pathss.v),.ln (kf false (.f 0) paths (fun _=>pathss)),.k (bv (decide (64 < (paths.length:Int)))),.orn g0 false (decide ((paths.length:Int)≤8)) (decide (64 < (paths.length:Int))) p4 hp4,.k (bv p4),.k (pathss.v),.ln (kf false (.f 0) paths (fun _=>pathss)),.k (bv (decide ((paths.length:Int)≤70))),.and g0 false p4 (decide ((paths.length:Int)≤70)),.k (bv (p4 && (decide ((paths.length:Int)≤70)))),.k (seens.v),.ln (kf false (.f 1) seen (fun _=>seens)),.k (bv (decide ((seen.length:Int)≤70))),.andn g0 false (p4 && (decide ((paths.length:Int)≤70))) (decide ((seen.length:Int)≤70)) p5 hp5,.k (bv p5)] fun _ _ G18=>?_;intro S_ s_
  have e0:p5=decide (Rv.fewD (Rv.ls paths) (Rv.ls seen)):=by
    refine Bool.eq_iff_iff.2 (Iff.trans (iN hp5 (iAT (iAT (iN hp4 (iOT iDT iDT)) iDT) iDT)) (Iff.trans ?_ decide_eq_true_iff.symm));exact (Rv.fewD_end hf2 (by omega) hf4 (by omega) (by omega) (by omega)).symm
  exact V.rt [0] [] [] [] [] [] (bv p5) (cong1 (fun (x0:Bool)=>(bv x0:Value)) e0)

open Go Go.Proofs
set_option maxRecDepth 10000 in
theorem rin_ct (n low high:Int) :
    Cp Try.prog 42 #[iv n,iv low,iv high] [] (bv (decide (low≤n∧n≤high))):=by
  refine V.fn mo Try.func42 15 0 (by kernel_rfl) fun w H ε k0=>?_;clear k0
  refine V.g [.kb false] fun _ _ G1=>?_;intro S s
  refine V.g [.k (iv n),.k (iv low),.k (bv (decide (low≤n))),.k (bv (decide (low≤n))),.k (iv n),.k (iv high),.k (bv (decide (n≤high))),.and g0 false (decide (low≤n)) (decide (n≤high)),.k (bv ((decide (low≤n)) && (decide (n≤high))))] fun _ _ G2=>?_;intro S s
  have e0:((decide (low≤n)) && (decide (n≤high)))=decide (low≤n∧n≤high):=by
    refine Bool.eq_iff_iff.2 (Iff.trans (iAT iDT iDT) (Iff.trans ?_ decide_eq_true_iff.symm));exact Iff.rfl
  exact V.rt [0] [] [] [] [] [] (bv ((decide (low≤n)) && (decide (n≤high)))) (cong1 (fun (x0:Bool)=>(bv x0:Value)) e0)
set_option maxRecDepth 10000 in
theorem leafy_ct (d:ByteArray) (e f a c:Int) :
    Cp Try.prog 24 #[ag (DThing.mk d e f a c)] [] (bv (decide (a= -1∧c= -1))):=by
  refine V.fn mo Try.func24 11 1 (by kernel_rfl) fun w H ε k0=>?_;clear k0
  refine V.g [.nb 0 0 (fun b=>pp b 0) 41 (fun _=>ca (DThing.mk d e f a c)),.kb false] fun _ _ G1=>?_;intro S s
  refine nm ((decide (a=(-1))) && (decide (c=(-1))):Bool) fun p1 hp1=>?_;refine V.g [.k (pp ((G1 0).b) 3),.ld 0 3 false (fun _=>[iv a]),.k (bv (decide (a=(-1)))),.k (bv (decide (a=(-1)))),.k (pp ((G1 0).b) 4),.ld 0 4 false (fun _=>[iv c]),.k (bv (decide (c=(-1)))),.andn g0 false (decide (a=(-1))) (decide (c=(-1))) p1 hp1,.k (bv p1)] fun _ _ G2=>?_;intro S s
  have e0:p1=decide (a= -1∧c= -1):=by
    refine Bool.eq_iff_iff.2 (Iff.trans (iN hp1 (iAT iDT iDT)) (Iff.trans ?_ decide_eq_true_iff.symm));exact Iff.rfl
  exact V.rt [0] [] [] [] [] [] (bv p1) (cong1 (fun (x0:Bool)=>(bv x0:Value)) e0)
set_option maxRecDepth 10000 in
theorem rleaf_ct (d:ByteArray) (a c e f:Int) :
    Cp Try.prog 41 #[ag (DThing.mk d a c e f)] [] (bv (decide (Tm.isLeaf ⟨d,a,c,e,f⟩))):=by
  refine V.fn mo Try.func41 21 1 (by kernel_rfl) fun w H ε k0=>?_;clear k0
  refine V.g [.nb 0 0 (fun b=>pp b 0) 41 (fun _=>ca (DThing.mk d a c e f)),.kb false] fun _ _ G1=>?_;intro S s
  refine nm ((decide (e= -1∧f= -1)) && (decide ((d.size:Int)≤8000)):Bool) fun p1 hp1=>?_;refine nm (p1 && (decide ((0:Int)≤a∧a≤(1099511627776:Int))):Bool) fun p2 hp2=>?_;refine nm (p2 && (decide ((0:Int)≤c∧c≤(1099511627776:Int))):Bool) fun p3 hp3=>?_;refine V.g [.ld 0 0 true (fun _=>Dat.cells (DThing.mk d a c e f)),.cp g0 1 24 [] (fun _ G=>leafy_ct d a c e f),.k (bv (decide (e= -1∧f= -1))),.k (pp ((G1 0).b) 0),.ld 0 0 false (fun _=>[tv d]),.k (iv (d.size:Int)),.k (bv (decide ((d.size:Int)≤8000))),.andn g0 false (decide (e= -1∧f= -1)) (decide ((d.size:Int)≤8000)) p1 hp1,.k (bv p1),.k (pp ((G1 0).b) 1),.ld 0 1 false (fun _=>[iv a]),.cp (gT (b:=p1) (iN hp1 (iAT iDT iDT))) 11 42 [] (fun hg G=>rin_ct a (0:Int) (1099511627776:Int)),.andn g0 false p1 (decide ((0:Int)≤a∧a≤(1099511627776:Int))) p2 hp2,.k (bv p2),.k (pp ((G1 0).b) 2),.ld 0 2 false (fun _=>[iv c]),.cp (gT (b:=p2) (iN hp2 (iAT (iN hp1 (iAT iDT iDT)) iDT))) 16 42 [] (fun hg G=>rin_ct c (0:Int) (1099511627776:Int)),.andn g0 false p2 (decide ((0:Int)≤c∧c≤(1099511627776:Int))) p3 hp3,.k (bv p3)] fun _ _ G2=>?_;intro S s
  have e0:p3=decide (Tm.isLeaf ⟨d,a,c,e,f⟩):=by
    refine Bool.eq_iff_iff.2 (Iff.trans (iN hp3 (iAT (iN hp2 (iAT (iN hp1 (iAT iDT iDT)) iDT)) iDT)) (Iff.trans ?_ decide_eq_true_iff.symm));simp only [Tm.isLeaf];omega
  exact V.rt [0] [] [] [] [] [] (bv p3) (cong1 (fun (x0:Bool)=>(bv x0:Value)) e0)
set_option maxRecDepth 10000 in
theorem rsound_ct (v:List DThing) (vs:SV) :
    Cp Try.prog 22 #[ag (DVault.mk ⟨v,vs⟩)] [fs true v vs] (bv (decide (Tm.Sound v))):=by
  refine V.fn mo Try.func22 84 4 (by kernel_rfl) fun w H ε k0=>?_;obtain ⟨⟨kl1, -⟩, -⟩:Lq v vs.v∧True:=kq k0
  clear k0;refine V.g [.nb 0 0 (fun b=>pp b 0) 24 (fun _=>ca (DVault.mk ⟨v,vs⟩)),.kb false] fun _ _ G1=>?_;intro S s
  refine V.g [.k (pp ((G1 0).b) 0),.ld 0 0 false (fun _=>[vs.v]),.ln (kf false (.f 0) v (fun _=>vs)),.k (bv (decide (2000 < (v.length:Int))))] fun _ _ G2=>?_;intro S s
  refine V.cn (b:=decide (2000 < (v.length:Int))) iDT iDF (fun q1=>?_) (fun q2=>?_)
  · refine V.g [.kb false] fun _ _ G3=>?_;intro S s
    have e0:false=decide (Tm.Sound v):=Tm.sound_len (by omega);exact V.rt [0] [] [] [] [] [] (bv false) (cong1 (fun (x0:Bool)=>(bv x0:Value)) e0)
  refine V.g [.k (iv 0)] fun _ _ G4=>?_;intro S s
  refine V.loop (γ:=Int) (fun i=>⟨[(1,pp ((G1 0).b) 0),(3,iv i)],[fs false v vs],[.blk ((G1 0).b) (ca (DVault.mk ⟨v,vs⟩)) 24,.no,.no,.no]⟩) (fun i=>(0≤i)∧(i≤(v.length:Int))∧(Tm.okTo v i.toNat)) (fun i=>((v.length:Int)-i).toNat) 0 (by kernel_rfl) [0] (by kernel_rfl) ?_ ?_
  · refine ⟨?_,?_,?_⟩
    · show 0≤(0:Int)
      first | omega | rfl | (simp;done) | (subst_vars;simp;done)
    · show (0:Int)≤(v.length:Int)
      first | omega | rfl | (simp;done) | (subst_vars;simp;done)
    show Tm.okTo v (0:Int).toNat;intro i hi;simp at hi
  rintro i hF1 kw5 Z1 hZ1;have hF1:(0≤i)∧(i≤(v.length:Int))∧(Tm.okTo v i.toNat):=hF1;obtain ⟨hf1,hf2,hf3⟩:=hF1;clear kw5;refine V.g [.k (iv i),.k (pp ((G1 0).b) 0),.ld 0 0 false (fun _=>[vs.v]),.ln (kf false (.f 0) v (fun _=>vs)),.k (bv (decide (i < (v.length:Int))))] fun _ _ G5=>?_;intro S s;refine V.cn (b:=decide (i < (v.length:Int))) iDT iDF (fun q3=>?_) (fun q4=>?_)
  · refine nm (v.getD i.toNat default:DThing) fun x1 hx1=>?_;refine V.g [.k (pp ((G1 0).b) 0),.ld 0 0 false (fun _=>[vs.v]),.k (iv i),.ix g0 (kf false (.f 0) v (fun _=>vs)) i (fun _=>⟨by omega,by omega⟩),.le g0 (kf false (.f 0) v (fun _=>vs)) i none false x1 hx1 (fun _=>⟨by omega,by omega⟩) true (fun _=>Dat.cells x1),.nb 5 1 (fun b=>pp b 0) 41 (fun _=>ca (DThing.mk ByteArray.empty 0 0 0 0)),.st 1 (fun G=>.blk ((G 5).b) (ca x1) 41)] fun _ _ G6=>?_;intro S s
    refine V.g [.ld 1 0 true (fun _=>Dat.cells x1),.cp g0 1 41 [] (fun _ G=>rleaf_ct x1.Text x1.Value x1.Blind x1.Left x1.Right)] fun _ _ G7=>?_;intro S s
    refine V.cn (b:=decide (Tm.isLeaf ⟨x1.Text,x1.Value,x1.Blind,x1.Left,x1.Right⟩)) iDT iDF (fun q5=>?_) (fun q6=>?_)
    · refine V.g [.k (iv i),.a (i+1) (by omega) (by omega),.k (iv (i+1))] fun _ _ G8=>?_;intro S s
      refine V.rnd hZ1 (i+1) [0] (by kernel_rfl) ?_ ?_
      · refine ⟨?_,?_,?_⟩
        · show 0≤(i+1)
          first | omega | rfl | (simp;done) | (subst_vars;simp;done)
        · show (i+1)≤(v.length:Int)
          first | omega | rfl | (simp;done) | (subst_vars;simp;done)
        show Tm.okTo v (i+1).toNat;refine Tm.sound_step (k:=i) hf3 (by omega) hx1 rfl ((Tm.okT_ref (by omega) (by omega)).2 ?_);exact .inl (by assumption)
      show ((v.length:Int)-(i+1)).toNat < ((v.length:Int)-i).toNat;omega
    refine nm ((!(decide (x1.Text=ByteArray.empty))) || (!(decide ((0:Int)≤x1.Left∧x1.Left≤(i-1)))):Bool) fun p1 hp1=>?_;refine nm (p1 || (!(decide ((0:Int)≤x1.Right∧x1.Right≤(i-1)))):Bool) fun p2 hp2=>?_;refine V.g [.k (pp ((G6 5).b) 0),.ld 1 0 false (fun _=>[tv x1.Text]),.sne x1.Text ByteArray.empty,.k (bv (!(decide (x1.Text=ByteArray.empty)))),.k (pp ((G6 5).b) 3),.ld 1 3 false (fun _=>[iv x1.Left]),.k (iv i),.arg (gF (b:=!(decide (x1.Text=ByteArray.empty))) (iNF iDT)) (i-1) (i-1) rfl (fun hg=>by omega),.cp (gF (b:=!(decide (x1.Text=ByteArray.empty))) (iNF iDT)) 8 42 [] (fun hg G=>rin_ct x1.Left (0:Int) (i-1)),.k (bv (!(decide ((0:Int)≤x1.Left∧x1.Left≤(i-1))))),.orn g0 false (!(decide (x1.Text=ByteArray.empty))) (!(decide ((0:Int)≤x1.Left∧x1.Left≤(i-1)))) p1 hp1,.k (bv p1),.k (pp ((G6 5).b) 4),.ld 1 4 false (fun _=>[iv x1.Right]),.k (iv i),.arg (gF (b:=p1) (iN hp1 (iOF (iNF iDT) (iNF iDT)))) (i-1) (i-1) rfl (fun hg=>by omega),.cp (gF (b:=p1) (iN hp1 (iOF (iNF iDT) (iNF iDT)))) 16 42 [] (fun hg G=>rin_ct x1.Right (0:Int) (i-1)),.k (bv (!(decide ((0:Int)≤x1.Right∧x1.Right≤(i-1))))),.orn g0 false p1 (!(decide ((0:Int)≤x1.Right∧x1.Right≤(i-1)))) p2 hp2] fun _ _ G9=>?_;intro S s
    refine V.cn (b:=p2) (iN hp2 (iOT (iN hp1 (iOT (iNT iDF) (iNT iDF))) (iNT iDF))) (iN hp2 (iOF (iN hp1 (iOF (iNF iDT) (iNF iDT))) (iNF iDT))) (fun q7=>?_) (fun q8=>?_)
    · refine V.g [.kb false] fun _ _ G10=>?_;intro S s
      have e0:false=decide (Tm.Sound v):=by
        refine Tm.sound_no_ref (k:=i) (by omega) (by omega) hx1 (by assumption) ?_;rintro ⟨h1,h2,h3,h4,h5,h6,h7⟩;unfold Tm.el at h4 h5;rcases q7 with h | h <;> first | (rcases h with h | h <;> first | (rcases h with h | h <;> first | exact h h1 | omega) | exact h h1 | omega) | omega
      exact V.rt [0] [] [] [] [] [] (bv false) (cong1 (fun (x0:Bool)=>(bv x0:Value)) e0)
    refine nm (v.getD x1.Left.toNat default:DThing) fun x2 hx2=>?_;refine V.g [.k (pp ((G1 0).b) 0),.ld 0 0 false (fun _=>[vs.v]),.k (pp ((G6 5).b) 3),.ld 1 3 false (fun _=>[iv x1.Left]),.ix g0 (kf false (.f 0) v (fun _=>vs)) x1.Left (fun _=>⟨by omega,by omega⟩),.le g0 (kf false (.f 0) v (fun _=>vs)) x1.Left none false x2 hx2 (fun _=>⟨by omega,by omega⟩) true (fun _=>Dat.cells x2),.nb 6 2 (fun b=>pp b 0) 41 (fun _=>ca (DThing.mk ByteArray.empty 0 0 0 0)),.st 2 (fun G=>.blk ((G 6).b) (ca x2) 41)] fun _ _ G11=>?_;intro S s
    refine nm (v.getD x1.Right.toNat default:DThing) fun x3 hx3=>?_;refine V.g [.k (pp ((G1 0).b) 0),.ld 0 0 false (fun _=>[vs.v]),.k (pp ((G6 5).b) 4),.ld 1 4 false (fun _=>[iv x1.Right]),.ix g0 (kf false (.f 0) v (fun _=>vs)) x1.Right (fun _=>⟨by omega,by omega⟩),.le g0 (kf false (.f 0) v (fun _=>vs)) x1.Right none false x3 hx3 (fun _=>⟨by omega,by omega⟩) true (fun _=>Dat.cells x3),.nb 6 3 (fun b=>pp b 0) 41 (fun _=>ca (DThing.mk ByteArray.empty 0 0 0 0)),.st 3 (fun G=>.blk ((G 6).b) (ca x3) 41)] fun _ _ G12=>?_;intro S s
    have hba:=Tm.bd_of hf3 (by omega) x1.Left.toNat (by omega);have hbb:=Tm.bd_of hf3 (by omega) x1.Right.toNat (by omega);rw [←hx2] at hba;rw [←hx3] at hbb;unfold Tm.Bd at hba hbb;refine nm (x2.Value+x3.Value:Int) fun n1 hn1=>?_;refine nm (x2.Blind+x3.Blind:Int) fun n2 hn2=>?_;refine nm ((!(decide (x1.Value=n1))) || (!(decide (x1.Blind=n2))):Bool) fun p3 hp3=>?_;refine nm ((p3 || (decide (1125899906842624 < x1.Value))) || (decide (1125899906842624 < x1.Blind)):Bool) fun p4 hp4=>?_;refine V.g [.k (pp ((G6 5).b) 1),.ld 1 1 false (fun _=>[iv x1.Value]),.k (pp ((G11 6).b) 1),.ld 2 1 false (fun _=>[iv x2.Value]),.k (pp ((G12 6).b) 1),.ld 3 1 false (fun _=>[iv x3.Value]),.ar (x2.Value+x3.Value) n1 hn1 (by omega) (by omega),.k (bv (!(decide (x1.Value=n1)))),.k (bv (!(decide (x1.Value=n1)))),.k (pp ((G6 5).b) 2),.ld 1 2 false (fun _=>[iv x1.Blind]),.k (pp ((G11 6).b) 2),.ld 2 2 false (fun _=>[iv x2.Blind]),.k (pp ((G12 6).b) 2),.ld 3 2 false (fun _=>[iv x3.Blind]),.arg (gF (b:=!(decide (x1.Value=n1))) (iNF iDT)) (x2.Blind+x3.Blind) n2 hn2 (fun hg=>by omega),.k (bv (!(decide (x1.Blind=n2)))),.orn g0 false (!(decide (x1.Value=n1))) (!(decide (x1.Blind=n2))) p3 hp3,.k (bv p3),.k (pp ((G6 5).b) 1),.ld 1 1 false (fun _=>[iv x1.Value]),.k (bv (decide (1125899906842624 < x1.Value))),.or g0 false p3 (decide (1125899906842624 < x1.Value)),.k (bv (p3 || (decide (1125899906842624 < x1.Value)))),.k (pp ((G6 5).b) 2),.ld 1 2 false (fun _=>[iv x1.Blind]),.k (bv (decide (1125899906842624 < x1.Blind))),.orn g0 false (p3 || (decide (1125899906842624 < x1.Value))) (decide (1125899906842624 < x1.Blind)) p4 hp4] fun _ _ G13=>?_;intro S s
    refine V.cn (b:=p4) (iN hp4 (iOT (iOT (iN hp3 (iOT (iNT iDF) (iNT iDF))) iDT) iDT)) (iN hp4 (iOF (iOF (iN hp3 (iOF (iNF iDT) (iNF iDT))) iDF) iDF)) (fun q9=>?_) (fun q10=>?_)
    · refine V.g [.kb false] fun _ _ G14=>?_;intro S s
      have e0:false=decide (Tm.Sound v):=by
        refine Tm.sound_no_ref (k:=i) (by omega) (by omega) hx1 (by assumption) ?_;rintro ⟨h1,h2,h3,h4,h5,h6,h7⟩;unfold Tm.el at h4 h5;rw [←hx2] at h4 h5;rw [←hx3] at h4 h5;rcases q9 with h | h <;> first | (rcases h with h | h <;> first | (rcases h with h | h <;> first | exact h h1 | omega) | exact h h1 | omega) | omega
      exact V.rt [0] [] [] [] [] [] (bv false) (cong1 (fun (x0:Bool)=>(bv x0:Value)) e0)
    refine V.g [.k (iv i),.a (i+1) (by omega) (by omega),.k (iv (i+1))] fun _ _ G15=>?_;intro S s
    refine V.rnd hZ1 (i+1) [0] (by kernel_rfl) ?_ ?_
    · refine ⟨?_,?_,?_⟩
      · show 0≤(i+1)
        first | omega | rfl | (simp;done) | (subst_vars;simp;done)
      · show (i+1)≤(v.length:Int)
        first | omega | rfl | (simp;done) | (subst_vars;simp;done)
      show Tm.okTo v (i+1).toNat;refine Tm.sound_step (k:=i) hf3 (by omega) hx1 rfl ((Tm.okT_ref (by omega) (by omega)).2 ?_)
      right;unfold Tm.refOK Tm.el;rw [←hx2,← hx3];refine ⟨by first | exact q8.1.1 | exact Decidable.not_not.1 q8.1.1,?_⟩;omega
    show ((v.length:Int)-(i+1)).toNat < ((v.length:Int)-i).toNat;omega
  refine V.g [.kb true] fun _ _ G16=>?_;intro S s
  have e0:true=decide (Tm.Sound v):=Tm.sound_yes (k:=i) (by assumption) (by omega) (rfl:(v.length:Int)=_) (by omega) (by omega) (by omega);exact V.rt [0] [] [] [] [] [] (bv true) (cong1 (fun (x0:Bool)=>(bv x0:Value)) e0)
set_option maxRecDepth 10000 in
theorem r36in_ct (v:List DThing) (vs:SV) (i:Int) :
    Cp Try.prog 43 #[ag (DVault.mk ⟨v,vs⟩),iv i] [fs true v vs] (bv (decide (0≤i∧i < (v.length:Int)))):=by
  refine V.fn mo Try.func43 14 1 (by kernel_rfl) fun w H ε k0=>?_;obtain ⟨⟨kl1, -⟩, -⟩:Lq v vs.v∧True:=kq k0
  clear k0;refine V.g [.nb 0 0 (fun b=>pp b 0) 24 (fun _=>ca (DVault.mk ⟨v,vs⟩)),.kb false] fun _ _ G1=>?_;intro S s
  refine nm ((decide (0≤i)) && (decide (i < (v.length:Int))):Bool) fun p1 hp1=>?_;refine V.g [.k (iv i),.k (bv (decide (0≤i))),.k (bv (decide (0≤i))),.k (iv i),.k (pp ((G1 0).b) 0),.ld 0 0 false (fun _=>[vs.v]),.ln (kf false (.f 0) v (fun _=>vs)),.k (bv (decide (i < (v.length:Int)))),.andn g0 false (decide (0≤i)) (decide (i < (v.length:Int))) p1 hp1,.k (bv p1)] fun _ _ G2=>?_;intro S s
  have e0:p1=decide (0≤i∧i < (v.length:Int)):=by
    refine Bool.eq_iff_iff.2 (Iff.trans (iN hp1 (iAT iDT iDT)) (Iff.trans ?_ decide_eq_true_iff.symm));exact Iff.rfl
  exact V.rt [0] [] [] [] [] [] (bv p1) (cong1 (fun (x0:Bool)=>(bv x0:Value)) e0)

open Go Go.Proofs
set_option maxRecDepth 10000 in
theorem rwalks_ct (v:List DThing) (vs:SV) (path:List Int) (paths:SV) :
    Cp Try.prog 44 #[ag (DVault.mk ⟨v,vs⟩),paths.v] [fs true v vs,fs true path paths] (bv (decide (Tm.Walks v path))):=by
  refine V.fn mo Try.func44 55 2 (by kernel_rfl) fun w H ε k0=>?_;obtain ⟨⟨kl1, -⟩,⟨kl2, -⟩, -⟩:Lq v vs.v∧Lq path paths.v∧True:=kq k0
  clear k0;refine V.g [.nb 0 0 (fun b=>pp b 0) 24 (fun _=>ca (DVault.mk ⟨v,vs⟩)),.kb false] fun _ _ G1=>?_;intro S s
  refine nm ((!(decide (Tm.Sound v))) || (decide ((path.length:Int)=0)):Bool) fun p1 hp1=>?_;refine V.g [.ld 0 0 true (fun _=>Dat.cells (DVault.mk ⟨v,vs⟩)),.cp g0 1 22 [(kf false (.f 0) v (fun _=>vs)).a] (fun _ G=>rsound_ct v vs),.k (bv (!(decide (Tm.Sound v)))),.k (bv (!(decide (Tm.Sound v)))),.k (paths.v),.ln (kf false (.f 1) path (fun _=>paths)),.k (bv (decide ((path.length:Int)=0))),.orn g0 false (!(decide (Tm.Sound v))) (decide ((path.length:Int)=0)) p1 hp1] fun _ _ G2=>?_;intro S s
  refine V.cn (b:=p1) (iN hp1 (iOT (iNT iDF) iDT)) (iN hp1 (iOF (iNF iDT) iDF)) (fun q1=>?_) (fun q2=>?_)
  · refine V.g [.kb false] fun _ _ G3=>?_;intro S s
    have e0:false=decide (Tm.Walks v path):=by
      symm;rw [decide_eq_false_iff_not];rintro ⟨h1,h2,_⟩;rcases q1 with h | h
      · exact h h1
      omega
    exact V.rt [0] [] [] [] [] [] (bv false) (cong1 (fun (x0:Bool)=>(bv x0:Value)) e0)
  refine V.g [.k (iv 0)] fun _ _ G4=>?_;intro S s
  refine V.loop (γ:=Int) (fun i=>⟨[(1,paths.v),(2,pp ((G1 0).b) 0),(5,iv i)],[fs false path paths,fs false v vs],[.blk ((G1 0).b) (ca (DVault.mk ⟨v,vs⟩)) 24,.no]⟩) (fun i=>(0≤i)∧(i≤(path.length:Int))∧(Tm.walksTo v path i.toNat)) (fun i=>((path.length:Int)-i).toNat) 0 (by kernel_rfl) [1,0] (by kernel_rfl) ?_ ?_
  · refine ⟨?_,?_,?_⟩
    · show 0≤(0:Int)
      first | omega | rfl | (simp;done) | (subst_vars;simp;done)
    · show (0:Int)≤(path.length:Int)
      first | omega | rfl | (simp;done) | (subst_vars;simp;done)
    show Tm.walksTo v path (0:Int).toNat;intro j hj;simp at hj
  rintro i hF1 kw5 Z1 hZ1;have hF1:(0≤i)∧(i≤(path.length:Int))∧(Tm.walksTo v path i.toNat):=hF1;obtain ⟨hf1,hf2,hf3⟩:=hF1;clear kw5;refine V.g [.k (iv i),.k (paths.v),.ln (kf false (.f 0) path (fun _=>paths)),.k (bv (decide (i < (path.length:Int))))] fun _ _ G5=>?_;intro S s;refine V.cn (b:=decide (i < (path.length:Int))) iDT iDF (fun q3=>?_) (fun q4=>?_)
  · refine nm (path.getD i.toNat default:Int) fun v1 hv1=>?_;refine V.g [.ld 0 0 true (fun _=>Dat.cells (DVault.mk ⟨v,vs⟩)),.k (paths.v),.k (iv i),.ix g0 (kf false (.f 0) path (fun _=>paths)) i (fun _=>⟨by omega,by omega⟩),.le g0 (kf false (.f 0) path (fun _=>paths)) i none false v1 hv1 (fun _=>⟨by omega,by omega⟩) false (fun _=>[iv v1]),.cp g0 5 43 [(kf false (.f 1) v (fun _=>vs)).a] (fun _ G=>r36in_ct v vs v1),.k (bv (!(decide (0≤v1∧v1 < (v.length:Int)))))] fun _ _ G6=>?_;intro S s
    refine V.cn (b:=!(decide (0≤v1∧v1 < (v.length:Int)))) (iNT iDF) (iNF iDT) (fun q5=>?_) (fun q6=>?_)
    · refine V.g [.kb false] fun _ _ G7=>?_;intro S s
      have e0:false=decide (Tm.Walks v path):=Tm.walks_no_has (k:=i) (by omega) (by omega) (by assumption) q5;exact V.rt [0] [] [] [] [] [] (bv false) (cong1 (fun (x0:Bool)=>(bv x0:Value)) e0)
    refine V.g [.k (iv i),.k (bv (decide (0 < i)))] fun _ _ G8=>?_;intro S s
    refine V.cn (b:=decide (0 < i)) iDT iDF (fun q7=>?_) (fun q8=>?_)
    · refine nm (path.getD (i-1).toNat default:Int) fun v2 hv2=>?_;refine nm (v.getD v2.toNat default:DThing) fun x1 hx1=>?_;have hpv:=Tm.walks_prev (k:=i) (by assumption) (by omega) rfl (by assumption)
      refine V.g [.k (pp ((G1 0).b) 0),.ld 0 0 false (fun _=>[vs.v]),.k (paths.v),.k (iv i),.a (i-1) (by omega) (by omega),.ix g0 (kf false (.f 0) path (fun _=>paths)) (i-1) (fun _=>⟨by omega,by omega⟩),.le g0 (kf false (.f 0) path (fun _=>paths)) (i-1) none false v2 hv2 (fun _=>⟨by omega,by omega⟩) false (fun _=>[iv v2]),.ix g0 (kf false (.f 1) v (fun _=>vs)) v2 (fun _=>⟨by omega,by omega⟩),.le g0 (kf false (.f 1) v (fun _=>vs)) v2 none false x1 hx1 (fun _=>⟨by omega,by omega⟩) true (fun _=>Dat.cells x1),.nb 9 1 (fun b=>pp b 0) 41 (fun _=>ca (DThing.mk ByteArray.empty 0 0 0 0)),.st 1 (fun G=>.blk ((G 9).b) (ca x1) 41)] fun _ _ G9=>?_;intro S s
      refine nm ((!(decide (x1.Left=v1))) && (!(decide (x1.Right=v1))):Bool) fun p2 hp2=>?_;refine V.g [.k (pp ((G9 9).b) 3),.ld 1 3 false (fun _=>[iv x1.Left]),.k (paths.v),.k (iv i),.ix g0 (kf false (.f 0) path (fun _=>paths)) i (fun _=>⟨by omega,by omega⟩),.le g0 (kf false (.f 0) path (fun _=>paths)) i none false v1 hv1 (fun _=>⟨by omega,by omega⟩) false (fun _=>[iv v1]),.k (bv (!(decide (x1.Left=v1)))),.k (bv (!(decide (x1.Left=v1)))),.k (pp ((G9 9).b) 4),.ld 1 4 false (fun _=>[iv x1.Right]),.k (paths.v),.k (iv i),.ix (gT (b:=!(decide (x1.Left=v1))) (iNT iDF)) (kf false (.f 0) path (fun _=>paths)) i (fun hg=>⟨by omega,by omega⟩),.le (gT (b:=!(decide (x1.Left=v1))) (iNT iDF)) (kf false (.f 0) path (fun _=>paths)) i none false v1 hv1 (fun hg=>⟨by omega,by omega⟩) false (fun _=>[iv v1]),.k (bv (!(decide (x1.Right=v1)))),.andn g0 false (!(decide (x1.Left=v1))) (!(decide (x1.Right=v1))) p2 hp2] fun _ _ G10=>?_;intro S s
      refine V.cn (b:=p2) (iN hp2 (iAT (iNT iDF) (iNT iDF))) (iN hp2 (iAF (iNF iDT) (iNF iDT))) (fun q9=>?_) (fun q10=>?_)
      · refine V.g [.kb false] fun _ _ G11=>?_;intro S s
        have e0:false=decide (Tm.Walks v path):=Tm.walks_no_step (k:=i) (by omega) (by omega) (by assumption) rfl (by assumption) (by assumption) q9;exact V.rt [0] [] [] [] [] [] (bv false) (cong1 (fun (x0:Bool)=>(bv x0:Value)) e0)
      refine V.g [.k (iv i),.a (i+1) (by omega) (by omega),.k (iv (i+1))] fun _ _ G12=>?_;intro S s
      refine V.rnd hZ1 (i+1) [0,1] (by kernel_rfl) ?_ ?_
      · refine ⟨?_,?_,?_⟩
        · show 0≤(i+1)
          first | omega | rfl | (simp;done) | (subst_vars;simp;done)
        · show (i+1)≤(path.length:Int)
          first | omega | rfl | (simp;done) | (subst_vars;simp;done)
        show Tm.walksTo v path (i+1).toNat;refine Tm.walks_step (by assumption) (by assumption) rfl (by assumption) (by assumption) ?_;intro h;exact ⟨_,_,_,rfl,by assumption,by assumption,by omega⟩
      show ((path.length:Int)-(i+1)).toNat < ((path.length:Int)-i).toNat;omega
    refine V.g [.k (iv i),.a (i+1) (by omega) (by omega),.k (iv (i+1))] fun _ _ G13=>?_;intro S s
    refine V.rnd hZ1 (i+1) [0,1] (by kernel_rfl) ?_ ?_
    · refine ⟨?_,?_,?_⟩
      · show 0≤(i+1)
        first | omega | rfl | (simp;done) | (subst_vars;simp;done)
      · show (i+1)≤(path.length:Int)
        first | omega | rfl | (simp;done) | (subst_vars;simp;done)
      show Tm.walksTo v path (i+1).toNat;refine Tm.walks_step (by assumption) (by assumption) rfl (by assumption) (by assumption) ?_;intro h;omega
    show ((path.length:Int)-(i+1)).toNat < ((path.length:Int)-i).toNat;omega
  refine V.g [.kb true] fun _ _ G14=>?_;intro S s
  have e0:true=decide (Tm.Walks v path):=by
    symm;rw [decide_eq_true_iff]
    refine ⟨by rcases q2 with ⟨h,_⟩;first | exact h | exact Decidable.not_not.1 h,by omega,?_⟩
    rwa [show path.length=i.toNat by omega]
  exact V.rt [0] [] [] [] [] [] (bv true) (cong1 (fun (x0:Bool)=>(bv x0:Value)) e0)
set_option maxRecDepth 10000 in
theorem rview_ct (v:List DThing) (vs:SV) (path:List Int) (paths:SV) (hp:path.length≤1000000) :
    Ct Try.prog 25 #[ag (DVault.mk ⟨v,vs⟩),paths.v] [fs true v vs,fs true path paths] [] (fun g=>((g.ss 0)).v) (fun g=>[fs true (Tm.viewF v path) (g.ss 0)]) (fun g=>[]) (fun g=>[]):=by
  refine V.fn mo Try.func25 42 3 (by kernel_rfl) fun w H ε k0=>?_;obtain ⟨⟨kl1, -⟩,⟨kl2, -⟩, -⟩:Lq v vs.v∧Lq path paths.v∧True:=kq k0
  clear k0;refine V.g [.nb 0 0 (fun b=>pp b 0) 24 (fun _=>ca (DVault.mk ⟨v,vs⟩)),.k (.slice none 0 0)] fun _ _ G1=>?_;intro S_ s_
  refine V.g [.ld 0 0 true (fun _=>Dat.cells (DVault.mk ⟨v,vs⟩)),.k (paths.v),.cp g0 2 44 [(kf false (.f 0) v (fun _=>vs)).a,(kf false (.f 1) path (fun _=>paths)).a] (fun _ G=>rwalks_ct v vs path paths),.k (bv (!(decide (Tm.Walks v path))))] fun _ _ G2=>?_;intro S_ s_
  refine V.cn (b:=!(decide (Tm.Walks v path))) (iNT iDF) (iNF iDT) (fun q1=>?_) (fun q2=>?_)
  · refine V.g [.k (.slice none 0 0)] fun _ _ G3=>?_;intro S_ s_
    refine V.nilF (α:=DThing) ?_;have e0:([]:List DThing)=Tm.viewF v path:=(Tm.viewF_no q1).symm;rw [←e0];exact V.rs [0] [{}] [fun _=>{}] [] [2] [] (SV.v ({}))
  have hW:=q2;refine V.g [.k (.slice none 0 0)] fun _ _ G4=>?_;intro S_ s_
  refine V.g [.k (iv 0)] fun _ _ G5=>?_;intro S_ s_
  refine V.on (α:=DThing) 2 41 (by kernel_rfl) ?_;refine V.loop (γ:=List DThing × SV × Int) (fun ⟨out,outs,i⟩=>⟨[(1,paths.v),(2,pp ((G1 0).b) 0),(5,outs.v),(6,iv i)],[fs false path paths,fs false v vs],[.blk ((G1 0).b) (ca (DVault.mk ⟨v,vs⟩)) 24,.no,os true 41 out outs]⟩) (fun ⟨out,outs,i⟩=>(0≤i)∧(i≤(path.length:Int))∧(out=Tm.viewN v path i.toNat)) (fun ⟨out,outs,i⟩=>((path.length:Int)-i).toNat) (([]:List DThing),{},0) (by kernel_rfl) [1,0] (by kernel_rfl) ?_ ?_
  · refine ⟨?_,?_,?_⟩
    · show 0≤(0:Int)
      first | omega | rfl | (simp;done) | (subst_vars;simp;done)
    · show (0:Int)≤(path.length:Int)
      first | omega | rfl | (simp;done) | (subst_vars;simp;done)
    show ([]:List DThing)=Tm.viewN v path (0:Int).toNat;rfl
  rintro ⟨out,outs,i⟩ hF1 kw6 Z1 hZ1;have hF1:(0≤i)∧(i≤(path.length:Int))∧(out=Tm.viewN v path i.toNat):=hF1;obtain ⟨hf1,hf2,hf3⟩:=hF1;obtain ⟨-, -,⟨kl3, -⟩, -⟩:Lq path paths.v∧Lq v vs.v∧Lq out outs.v∧True:=kq kw6;clear kw6;have hol:out.length=i.toNat:=by rw [hf3];simp
  refine V.g [.k (iv i),.k (paths.v),.ln (kf false (.f 0) path (fun _=>paths)),.k (bv (decide (i < (path.length:Int))))] fun _ _ G6=>?_;intro S_ s_
  refine V.cn (b:=decide (i < (path.length:Int))) iDT iDF (fun q3=>?_) (fun q4=>?_)
  · refine nm (path.getD i.toNat default:Int) fun v1 hv1=>?_;refine nm (v.getD v1.toNat default:DThing) fun x1 hx1=>?_;have hwh:=Tm.walks_has hW (k:=i) (by omega) (by omega) (by assumption)
    refine V.g [.k (pp ((G1 0).b) 0),.ld 0 0 false (fun _=>[vs.v]),.k (paths.v),.k (iv i),.ix g0 (kf false (.f 0) path (fun _=>paths)) i (fun _=>⟨by omega,by omega⟩),.le g0 (kf false (.f 0) path (fun _=>paths)) i none false v1 hv1 (fun _=>⟨by omega,by omega⟩) false (fun _=>[iv v1]),.ix g0 (kf false (.f 1) v (fun _=>vs)) v1 (fun _=>⟨by omega,by omega⟩),.le g0 (kf false (.f 1) v (fun _=>vs)) v1 none false x1 hx1 (fun _=>⟨by omega,by omega⟩) true (fun _=>Dat.cells x1),.nb 8 1 (fun b=>pp b 0) 41 (fun _=>ca (DThing.mk ByteArray.empty 0 0 0 0)),.st 1 (fun G=>.blk ((G 8).b) (ca x1) 41)] fun _ _ G7=>?_;intro S_ s_
    refine nm ((path.length:Int)-1:Int) fun n1 hn1=>?_;refine V.g [.k (iv i),.k (bv (decide (0 < i))),.k (bv (decide (0 < i))),.k (iv i),.k (paths.v),.ln (kf false (.f 0) path (fun _=>paths)),.arg (gT (b:=decide (0 < i)) iDT) ((path.length:Int)-1) n1 hn1 (fun hg=>by omega),.k (bv (decide (i < n1))),.and g0 false (decide (0 < i)) (decide (i < n1))] fun _ _ G8=>?_;intro S_ s_
    refine V.cn (b:=(decide (0 < i)) && (decide (i < n1))) (iAT iDT iDT) (iAF iDF iDF) (fun q5=>?_) (fun q6=>?_)
    · refine V.g [.k (pp ((G7 8).b) 1),.st 1 (fun _=>.blk ((G7 8).b) (ca (DThing.mk x1.Text (-1) x1.Blind x1.Left x1.Right)) 41)] fun _ _ G9=>?_;intro S_ s_
      refine V.g [.k (pp ((G7 8).b) 2),.st 1 (fun _=>.blk ((G7 8).b) (ca (DThing.mk x1.Text (-1) (-1) x1.Left x1.Right)) 41)] fun _ _ G10=>?_;intro S_ s_
      refine nm (out ++([DThing.mk x1.Text (-1) (-1) x1.Left x1.Right]:List DThing):List DThing) fun l1 hl1=>?_;have hl1n:=congrArg List.length hl1;try simp only [List.length_append,List.length_cons,List.length_nil,List.length_replicate,List.length_set,List.length_take,List.length_drop,List.length_map,List.length_reverse,List.length_range] at hl1n
      refine V.r [.k (outs.v),.ld 1 0 true (fun _=>Dat.cells (DThing.mk x1.Text (-1) (-1) x1.Left x1.Right)),.nr 2 true 41 ([DThing.mk x1.Text (-1) (-1) x1.Left x1.Right]:List DThing) [] (fun _ _ _ _ _=>trivial) (fun _=>#[tv x1.Text,iv (-1),iv (-1),iv x1.Left,iv x1.Right]),.ap 3 2 41 48 false true out (fun _=>outs) (kf true (.g 2 0) ([DThing.mk x1.Text (-1) (-1) x1.Left x1.Right]:List DThing) (fun G=>⟨atB (G 2).b,1,1⟩)) true l1 hl1 (by (try simp only [List.length_append,List.length_cons,List.length_nil,List.length_replicate,List.length_set,List.length_take,List.length_drop,List.length_map,List.length_reverse,List.length_range]);omega) (fun h=>by cases h) (.inr fun _ _=>trivial),.v fun G=>((G 3).s).v] fun _ _ G11 kw12=>?_;intro S_ s_
      obtain ⟨⟨kl4, -⟩, -⟩:Lq ([DThing.mk x1.Text (-1) (-1) x1.Left x1.Right]:List DThing) (SV.v ⟨atB (G11 2).b,1,1⟩)∧Lq l1 (((G11 3).s).v)∧True:=kq kw12;clear kw12;refine V.g [.k (iv i),.a (i+1) (by omega) (by omega),.k (iv (i+1))] fun _ _ G12=>?_;intro S_ s_;refine V.rnd hZ1 (l1,(G11 3).s,i+1) [0,1] (by kernel_rfl) ?_ ?_
      · refine ⟨?_,?_,?_⟩
        · show 0≤(i+1)
          first | omega | rfl | (simp;done) | (subst_vars;simp;done)
        · show (i+1)≤(path.length:Int)
          first | omega | rfl | (simp;done) | (subst_vars;simp;done)
        show l1=Tm.viewN v path (i+1).toNat;rw [show (i+1).toNat=i.toNat+1 by omega];unfold Tm.viewN;rw [List.range_succ,List.map_append,hl1,hf3];unfold Tm.viewN;congr 1;show [_]=[Tm.viewEl v path i.toNat];congr 1;unfold Tm.viewEl;rw [if_pos (by omega),show Tm.pe path i.toNat=v1 from hv1.symm,show Tm.el v v1=x1 from hx1.symm]
      show ((path.length:Int)-(i+1)).toNat < ((path.length:Int)-i).toNat;omega
    refine nm (out ++([x1]:List DThing):List DThing) fun l2 hl2=>?_;have hl2n:=congrArg List.length hl2;try simp only [List.length_append,List.length_cons,List.length_nil,List.length_replicate,List.length_set,List.length_take,List.length_drop,List.length_map,List.length_reverse,List.length_range] at hl2n
    refine V.r [.k (outs.v),.ld 1 0 true (fun _=>Dat.cells x1),.nr 2 true 41 ([x1]:List DThing) [] (fun _ _ _ _ _=>trivial) (fun _=>#[tv x1.Text,iv x1.Value,iv x1.Blind,iv x1.Left,iv x1.Right]),.ap 3 2 41 48 false true out (fun _=>outs) (kf true (.g 2 0) ([x1]:List DThing) (fun G=>⟨atB (G 2).b,1,1⟩)) true l2 hl2 (by (try simp only [List.length_append,List.length_cons,List.length_nil,List.length_replicate,List.length_set,List.length_take,List.length_drop,List.length_map,List.length_reverse,List.length_range]);omega) (fun h=>by cases h) (.inr fun _ _=>trivial),.v fun G=>((G 3).s).v] fun _ _ G13 kw14=>?_;intro S_ s_
    obtain ⟨⟨kl5, -⟩, -⟩:Lq ([x1]:List DThing) (SV.v ⟨atB (G13 2).b,1,1⟩)∧Lq l2 (((G13 3).s).v)∧True:=kq kw14;clear kw14;refine V.g [.k (iv i),.a (i+1) (by omega) (by omega),.k (iv (i+1))] fun _ _ G14=>?_;intro S_ s_;refine V.rnd hZ1 (l2,(G13 3).s,i+1) [0,1] (by kernel_rfl) ?_ ?_
    · refine ⟨?_,?_,?_⟩
      · show 0≤(i+1)
        first | omega | rfl | (simp;done) | (subst_vars;simp;done)
      · show (i+1)≤(path.length:Int)
        first | omega | rfl | (simp;done) | (subst_vars;simp;done)
      show l2=Tm.viewN v path (i+1).toNat;rw [show (i+1).toNat=i.toNat+1 by omega];unfold Tm.viewN;rw [List.range_succ,List.map_append,hl2,hf3];unfold Tm.viewN;congr 1;show [_]=[Tm.viewEl v path i.toNat];congr 1;unfold Tm.viewEl;rw [if_neg (by omega),show Tm.pe path i.toNat=v1 from hv1.symm,show Tm.el v v1=x1 from hx1.symm]
    show ((path.length:Int)-(i+1)).toNat < ((path.length:Int)-i).toNat;omega
  refine V.g [.k (outs.v),.k (outs.v)] fun _ _ G15=>?_;intro S_ s_
  refine V.frz 2 true 41 out outs (by kernel_rfl) ?_;have e0:out=Tm.viewF v path:=by unfold Tm.viewF;rw [if_pos hW,hf3];congr 1;omega
  subst e0;exact V.rs [0] [outs] [fun _=>{}] [] [2] [] (outs.v)

open Go
namespace Rv
open Tm
def clash (x y:DThing):Prop:=(x.Left≠y.Left∨x.Right≠y.Right)∨((x.Value≠ -1∧y.Value≠ -1)∧x≠y)
instance (x y : DThing) : Decidable (clash x y) := by unfold clash; infer_instance
def Good (l:List (Int × DThing)):Prop:=∀ a ∈ l,∀ b ∈ l,a.1=b.1→¬ clash a.2 b.2
theorem clash_symm {x y:DThing} (h:clash x y):clash y x:=by
  rcases h with (h | h) | ⟨⟨h1,h2⟩,h3⟩
  · exact .inl (.inl fun e=>h e.symm)
  · exact .inl (.inr fun e=>h e.symm)
  · exact .inr ⟨⟨h2,h1⟩,fun e=>h3 e.symm⟩
theorem clash_self (x:DThing):¬ clash x x:=by
  rintro ((h | h) | ⟨-,h⟩) <;> exact h rfl
theorem hx_eq {x y:DThing}:hx x=hx y↔x.Left=y.Left∧x.Right=y.Right:=by
  unfold hx;simp
structure Kept (l:List (Int × DThing)) (h o:TM):Prop where
  good:Good l
  h1:∀ a ∈ l,mlook a.1 h=some (hx a.2)
  h2:∀ k y,mlook k h=some y→∃ a ∈ l,a.1=k∧hx a.2=y
  o1:∀ a ∈ l,a.2.Value≠ -1→mlook a.1 o=some a.2
  o2:∀ k y,mlook k o=some y→∃ a ∈ l,a.1=k∧a.2=y∧y.Value≠ -1
theorem okM_some {m:TM} {k:Int} {y z:DThing} (h:okM m k y) (e:mlook k m=some z):z=y:=by
  have:=h (by rw [e];rfl)
  rw [e] at this;exact this
theorem okM_not {m:TM} {k:Int} {y:DThing} (h:¬ okM m k y):∃ z,mlook k m=some z∧z≠y:=by
  cases e:mlook k m with
  | none=>exact absurd (fun hs=>by rw [e] at hs;cases hs) h
  | some z=>exact ⟨z,rfl,fun hz=>h fun _=>by rw [e];exact hz⟩
theorem Kept.yes {l:List (Int × DThing)} {h o:TM} (K:Kept l h o) {e:Int × DThing} (hb:putB h o e.1 e.2):Kept (l ++[e]) (putH h e.1 e.2) (putO h o e.1 e.2):=by
  obtain ⟨k,x⟩:=e
  have hb1:okM h k (hx x):=hb.1
  have eH:putH h k x=mupd k (hx x) h:=by unfold putH;rw [if_pos hb1]
  have sameH:∀ a ∈ l,a.1=k→hx a.2=hx x:=fun a ha e=>by
    have:=K.h1 a ha;rw [e] at this;exact okM_some hb1 this
  have sameO:∀ a ∈ l,a.1=k→a.2.Value≠ -1→x.Value≠ -1→a.2=x:=fun a ha e h1 h2=>by
    have:=K.o1 a ha h1;rw [e] at this
    rcases hb.2 with h3 | h3
    · exact absurd h3 h2
    · exact okM_some h3 this
  have noC:∀ a ∈ l,a.1=k→¬ clash a.2 x:=fun a ha e hc=>by
    have hs:=hx_eq.1 (sameH a ha e)
    rcases hc with (h | h) | ⟨⟨h1,h2⟩,h3⟩
    · exact h hs.1
    · exact h hs.2
    · exact h3 (sameO a ha e h1 h2)
  show Kept (l ++[(k,x)]) (putH h k x) (putO h o k x)
  rw [eH]
  refine ⟨?_,?_,?_,?_,?_⟩
  · intro a ha b hb2 e
    rcases List.mem_append.1 ha with ha | ha <;> rcases List.mem_append.1 hb2 with hb2 | hb2
    · exact K.good a ha b hb2 e
    · rw [List.mem_singleton] at hb2;subst hb2;exact noC a ha e
    · rw [List.mem_singleton] at ha;subst ha;exact fun hc=>noC b hb2 e.symm (clash_symm hc)
    · rw [List.mem_singleton] at ha hb2;subst ha;subst hb2;exact clash_self _
  · intro a ha
    rw [mlook_upd]
    rcases List.mem_append.1 ha with ha | ha
    · split
      · next e=>rw [sameH a ha e]
      · exact K.h1 a ha
    · rw [List.mem_singleton] at ha;subst ha;rw [if_pos rfl]
  · intro j y hy
    rw [mlook_upd] at hy
    split at hy
    · next e=>exact ⟨(k,x),by simp,e.symm,Option.some.inj hy⟩
    · obtain ⟨a,ha,h1⟩:=K.h2 j y hy
      exact ⟨a,List.mem_append_left _ ha,h1⟩
  · intro a ha hv
    unfold putO
    rcases List.mem_append.1 ha with ha | ha
    · split
      · next hc =>
        rw [mlook_upd];split
        · next e=>rw [sameO a ha e hv hc.2]
        · exact K.o1 a ha hv
      · exact K.o1 a ha hv
    · rw [List.mem_singleton] at ha;subst ha;rw [if_pos ⟨hb,hv⟩,mlook_upd,if_pos rfl]
  · intro j y hy
    unfold putO at hy
    split at hy
    · next hc =>
      rw [mlook_upd] at hy
      split at hy
      · next e=>have e2:=Option.some.inj hy;subst e2;exact ⟨(k,x),by simp,e.symm,rfl,hc.2⟩
      · obtain ⟨a,ha,h1⟩:=K.o2 j y hy
        exact ⟨a,List.mem_append_left _ ha,h1⟩
    · obtain ⟨a,ha,h1⟩:=K.o2 j y hy
      exact ⟨a,List.mem_append_left _ ha,h1⟩
theorem Kept.no {l:List (Int × DThing)} {h o:TM} (K:Kept l h o) {e:Int × DThing} (hb:¬ putB h o e.1 e.2):¬ Good (l ++[e]):=fun g=>by
  obtain ⟨k,x⟩:=e
  by_cases h1:okM h k (hx x)
  · have h2:¬ (x.Value= -1∨okM o k x):=fun h2=>hb ⟨h1,h2⟩
    obtain ⟨z,hz,hn⟩:=okM_not (fun h3=>h2 (.inr h3))
    obtain ⟨a,ha,e1,e2,e3⟩:=K.o2 k z hz
    exact g a (List.mem_append_left _ ha) (k,x) (by simp) e1 (.inr ⟨⟨by rw [e2];exact e3,fun h=>h2 (.inl h)⟩,by rw [e2];exact hn⟩)
  · obtain ⟨z,hz,hn⟩:=okM_not h1
    obtain ⟨a,ha,e1,e2⟩:=K.h2 k z hz
    refine g a (List.mem_append_left _ ha) (k,x) (by simp) e1 (.inl ?_)
    by_cases h3:a.2.Left=x.Left
    · exact .inr fun h4=>hn (by rw [←e2];exact hx_eq.2 ⟨h3,h4⟩)
    · exact .inl h3
theorem runs_kept (l:List (Int × DThing)):(∃ s,runs l=some s∧Kept l s.1 s.2)∨(runs l=none∧¬ Good l):=by
  refine snoc_ind (motive:=fun l=>(∃ s,runs l=some s∧Kept l s.1 s.2)∨(runs l=none∧¬ Good l)) ?_ (fun l e ih=>?_) l
  · refine .inl ⟨([],[]),rfl,?_,?_,?_,?_,?_⟩
    · intro a ha;simp at ha
    · intro a ha;simp at ha
    · intro k y h;simp [mlook] at h
    · intro a ha;simp at ha
    · intro k y h;simp [mlook] at h
  · rw [runs_snoc]
    rcases ih with ⟨s,hs,K⟩ | ⟨hs,hn⟩
    · rw [hs]
      show (∃ t,put1 s e=some t∧_)∨(put1 s e=none∧_)
      unfold put1
      by_cases hb:putB s.1 s.2 e.1 e.2
      · rw [if_pos hb];exact .inl ⟨_,rfl,K.yes hb⟩
      · rw [if_neg hb];exact .inr ⟨rfl,K.no hb⟩
    · rw [hs];exact .inr ⟨rfl,fun g=>hn fun a ha b hb=>g a (List.mem_append_left _ ha) b (List.mem_append_left _ hb)⟩
theorem runs_iff (l:List (Int × DThing)):(runs l).isSome=true↔Good l:=by
  rcases runs_kept l with ⟨s,hs,K⟩ | ⟨hs,hn⟩
  · rw [hs];exact ⟨fun _=>K.good,fun _=>rfl⟩
  · rw [hs];exact ⟨fun h=>(by cases h),fun h=>absurd h hn⟩
def agr (P:List (List Int)) (S:List (List DThing)) (a i b k:Nat):Prop:=pe (pl P a) i=pe (pl P b) k→¬ clash (te (sl S a) i) (te (sl S b) k)
theorem mem_flat {P:List (List Int)} {S:List (List DThing)} (hS:S.length=P.length) (hl:∀ a,a < P.length→(sl S a).length=(pl P a).length) {e:Int × DThing} :
    e ∈ flat P S↔∃ a,a < P.length∧∃ i,i < (pl P a).length∧e=(pe (pl P a) i,te (sl S a) i):=by
  unfold flat
  rw [List.mem_flatMap]
  constructor
  · rintro ⟨⟨p,s⟩,hm,he⟩
    obtain ⟨a,ha,e1⟩:=List.getElem_of_mem hm
    rw [List.length_zip] at ha
    have hp:p=pl P a:=by
      have:=congrArg Prod.fst e1;simp only [List.getElem_zip] at this
      unfold pl;rw [List.getD_eq_getElem?_getD,List.getElem?_eq_getElem (by omega)];exact this.symm
    have hs:s=sl S a:=by
      have:=congrArg Prod.snd e1;simp only [List.getElem_zip] at this
      unfold sl;rw [List.getD_eq_getElem?_getD,List.getElem?_eq_getElem (by omega)];exact this.symm
    obtain ⟨i,hi,e2⟩:=List.getElem_of_mem he
    rw [List.length_zip] at hi;dsimp only at hi
    refine ⟨a,by omega,i,by rw [←hp];omega,?_⟩
    rw [←e2,← hp,← hs]
    simp only [List.getElem_zip]
    unfold pe te
    rw [List.getD_eq_getElem?_getD,List.getD_eq_getElem?_getD,List.getElem?_eq_getElem (by omega),List.getElem?_eq_getElem (by omega)];rfl
  · rintro ⟨a,ha,i,hi,rfl⟩
    have h2:=hl a ha
    refine ⟨(pl P a,sl S a),?_,?_⟩
    · refine List.mem_iff_getElem.2 ⟨a,by rw [List.length_zip];omega,?_⟩
      rw [List.getElem_zip];unfold pl sl
      rw [List.getD_eq_getElem?_getD,List.getD_eq_getElem?_getD,List.getElem?_eq_getElem (by omega),List.getElem?_eq_getElem (by omega)];rfl
    · refine List.mem_iff_getElem.2 ⟨i,by rw [List.length_zip];show i < min (pl P a).length (sl S a).length;omega,?_⟩
      simp only [List.getElem_zip];unfold pe te
      rw [List.getD_eq_getElem?_getD,List.getD_eq_getElem?_getD,List.getElem?_eq_getElem (by omega),List.getElem?_eq_getElem (by omega)];rfl
theorem runs_flat {P:List (List Int)} {S:List (List DThing)} (hS:S.length=P.length) (hl:∀ a,a < P.length→(sl S a).length=(pl P a).length) :
    (runs (flat P S)).isSome=true↔∀ a,a < P.length→∀ i,i < (pl P a).length→∀ b,b < P.length→∀ k,k < (pl P b).length→agr P S a i b k:=by
  rw [runs_iff]
  constructor
  · intro g a ha i hi b hb k hk e
    exact g _ ((mem_flat hS hl).2 ⟨a,ha,i,hi,rfl⟩) _ ((mem_flat hS hl).2 ⟨b,hb,k,hk,rfl⟩) e
  · intro g x hx y hy e
    obtain ⟨a,ha,i,hi,rfl⟩:=(mem_flat hS hl).1 hx
    obtain ⟨b,hb,k,hk,rfl⟩:=(mem_flat hS hl).1 hy
    exact g a ha i hi b hb k hk e
theorem upto_step {Q:Nat→Prop} {k:Int} (h:∀ j,j < k.toNat→Q j) (h0:0≤k) (e:Q k.toNat):∀ j,j < (k+1).toNat→Q j:=fun j hj=>by
  by_cases e2:j < k.toNat
  · exact h j e2
  · rw [show j=k.toNat by omega];exact e
def thingP (p:List Int) (i:Nat) (x:DThing):Prop :=
  (i+1=p.length→x.Left= -1∧x.Right= -1∧x.Text.size≤8000)∧(i+1 < p.length→x.Text=ByteArray.empty∧(x.Left=pe p (i+1)∨x.Right=pe p (i+1))) ∧
  (i=0∨i+1=p.length→Bd x)∧(¬(i=0∨i+1=p.length)→hid x)
instance (p : List Int) (i : Nat) (x : DThing) : Decidable (thingP p i x) := by unfold thingP; infer_instance
theorem walk_things {p:List Int} {s:List DThing} (h0:p.length≠0) (hs:s.length=p.length):walk p s↔∀ k,k < p.length→thingP p k (te s k):=by
  unfold walk thingP mid endT
  constructor
  · rintro ⟨-, -,h1,h2,h3,h4,h5,h6⟩ k hk
    by_cases e:k+1=p.length
    · have ek:p.length - 1=k:=by omega
      rw [ek] at h3 h4 h5 h6
      exact ⟨fun _=>⟨h4,h5,h6⟩,fun h=>by omega,fun _=>h3,fun h=>absurd (.inr e) h⟩
    · have hm:=h1 k (by omega)
      refine ⟨fun h=>absurd h e,fun _=>⟨hm.1,hm.2.1⟩,fun h=>?_,fun h=>hm.2.2 (by omega)⟩
      rcases h with h | h
      · rw [h];exact h2
      · exact absurd h e
  · intro h
    have hl:=h (p.length - 1) (by omega)
    refine ⟨h0,hs,fun i hi=>?_,(h 0 (by omega)).2.2.1 (.inl rfl),hl.2.2.1 (.inr (by omega)),hl.1 (by omega)⟩
    have hk:=h i (by omega)
    have h2:=hk.2.1 (by omega)
    exact ⟨h2.1,h2.2,fun h3=>hk.2.2.2 (by omega)⟩
theorem nodup_last {P:List (List Int)}:(P.map lastI).Nodup↔∀ i,i < P.length→∀ k,k < i→lastI (pl P k)≠lastI (pl P i):=by
  rw [List.Nodup,List.pairwise_iff_getElem]
  have hg:∀ i,(hi:i < P.length)→lastI (pl P i)=(P.map lastI)[i]'(by simpa using hi):=fun i hi=>by
    unfold pl;rw [List.getD_eq_getElem?_getD,List.getElem?_eq_getElem hi,List.getElem_map];rfl
  constructor
  · intro h i hi k hk e
    exact h k i (by simp;omega) (by simp;omega) hk (by rw [←hg k (by omega),← hg i hi];exact e)
  · intro h i j hi hj hij e
    simp only [List.length_map] at hi hj
    exact h j hj i hij (by rw [hg i hi,hg j hj];exact e)
def refRow (P:List (List Int)) (S:List (List DThing)) (i:Nat):Prop:=row P S i∧∀ k,k < i→lastI (pl P k)≠lastI (pl P i)
theorem form_ref {P:List (List Int)} {S:List (List DThing)} (h0:P.length≠0) (h1:P.length≤64) (h2:S.length=P.length):Form P S↔∀ i,i < P.length→refRow P S i:=by
  unfold Form refRow
  rw [nodup_last]
  exact ⟨fun h i hi=>⟨h.2.2.2.1 i hi,h.2.2.2.2 i hi⟩,fun h=>⟨h0,h1,h2,fun i hi=>(h i hi).1,fun i hi=>(h i hi).2⟩⟩
def ag4 (P:List (List Int)) (S:List (List DThing)) (a i b:Nat):Prop:=∀ k,k < (pl P b).length→agr P S a i b k
def ag3 (P:List (List Int)) (S:List (List DThing)) (a i:Nat):Prop:=∀ b,b < P.length→ag4 P S a i b
def ag2 (P:List (List Int)) (S:List (List DThing)) (a:Nat):Prop:=∀ i,i < (pl P a).length→ag3 P S a i
def ag1 (P:List (List Int)) (S:List (List DThing)):Prop:=∀ a,a < P.length→ag2 P S a
theorem ag_no {P:List (List Int)} {S:List (List DThing)} {a i b k:Nat} (ha:a < P.length) (hi:i < (pl P a).length) (hb:b < P.length) (hk:k < (pl P b).length) (h:¬ agr P S a i b k):¬ ag1 P S :=
  fun g=>h (g a ha i hi b hb k hk)
theorem ag_runs {P:List (List Int)} {S:List (List DThing)} (hS:S.length=P.length) (hl:∀ a,a < P.length→(sl S a).length=(pl P a).length):(runs (flat P S)).isSome=true↔ag1 P S:=runs_flat hS hl
end Rv

open Go Go.Proofs
set_option maxRecDepth 10000 in
theorem r49in_ct (n:Int) :
    Cp Try.prog 58 #[iv n] [] (bv (decide (0≤n∧n≤1125899906842624))):=by
  refine V.fn mo Try.func58 9 0 (by kernel_rfl) fun w H ε k0=>?_;clear k0
  refine V.g [.kb false] fun _ _ G1=>?_;intro S s
  refine nm ((decide (0≤n)) && (decide (n≤1125899906842624)):Bool) fun p1 hp1=>?_;refine V.g [.k (iv n),.k (bv (decide (0≤n))),.k (bv (decide (0≤n))),.k (iv n),.k (bv (decide (n≤1125899906842624))),.andn g0 false (decide (0≤n)) (decide (n≤1125899906842624)) p1 hp1,.k (bv p1)] fun _ _ G2=>?_;intro S s
  have e0:p1=decide (0≤n∧n≤1125899906842624):=by
    refine Bool.eq_iff_iff.2 (Iff.trans (iN hp1 (iAT iDT iDT)) (Iff.trans ?_ decide_eq_true_iff.symm));exact Iff.rfl
  exact V.rt [0] [] [] [] [] [] (bv p1) (cong1 (fun (x0:Bool)=>(bv x0:Value)) e0)
set_option maxRecDepth 10000 in
theorem clash_ct (j:ByteArray) (a l c e:Int) (m:ByteArray) (f n d i:Int) :
    Cp Try.prog 33 #[ag (DThing.mk j a l c e),ag (DThing.mk m f n d i)] [] (bv (decide (Rv.clash ⟨j,a,l,c,e⟩ ⟨m,f,n,d,i⟩))):=by
  refine V.fn mo Try.func33 30 2 (by kernel_rfl) fun w H ε k0=>?_;clear k0
  refine V.g [.nb 0 0 (fun b=>pp b 0) 41 (fun _=>ca (DThing.mk j a l c e)),.nb 1 1 (fun b=>pp b 0) 41 (fun _=>ca (DThing.mk m f n d i)),.kb false] fun _ _ G1=>?_;intro S s
  refine nm ((!(decide (c=d))) || (!(decide (e=i))):Bool) fun p1 hp1=>?_;refine V.g [.k (pp ((G1 0).b) 3),.ld 0 3 false (fun _=>[iv c]),.k (pp ((G1 1).b) 3),.ld 1 3 false (fun _=>[iv d]),.k (bv (!(decide (c=d)))),.k (bv (!(decide (c=d)))),.k (pp ((G1 0).b) 4),.ld 0 4 false (fun _=>[iv e]),.k (pp ((G1 1).b) 4),.ld 1 4 false (fun _=>[iv i]),.k (bv (!(decide (e=i)))),.orn g0 false (!(decide (c=d))) (!(decide (e=i))) p1 hp1] fun _ _ G2=>?_;intro S s
  refine V.cn (b:=p1) (iN hp1 (iOT (iNT iDF) (iNT iDF))) (iN hp1 (iOF (iNF iDT) (iNF iDT))) (fun q1=>?_) (fun q2=>?_)
  · refine V.g [.kb true] fun _ _ G3=>?_;intro S s
    have e0:true=decide (Rv.clash ⟨j,a,l,c,e⟩ ⟨m,f,n,d,i⟩):=(decide_eq_true (.inl q1)).symm;exact V.rt [0] [] [] [] [] [] (bv true) (cong1 (fun (x0:Bool)=>(bv x0:Value)) e0)
  refine nm ((!(decide (a=(-1)))) && (!(decide (f=(-1)))):Bool) fun p2 hp2=>?_;refine nm (p2 && (!(decide (j=m∧a=f∧l=n∧c=d∧e=i))):Bool) fun p3 hp3=>?_;refine V.g [.k (pp ((G1 0).b) 1),.ld 0 1 false (fun _=>[iv a]),.k (bv (!(decide (a=(-1))))),.k (bv (!(decide (a=(-1))))),.k (pp ((G1 1).b) 1),.ld 1 1 false (fun _=>[iv f]),.k (bv (!(decide (f=(-1))))),.andn g0 false (!(decide (a=(-1)))) (!(decide (f=(-1)))) p2 hp2,.k (bv p2),.ld 0 0 true (fun _=>Dat.cells (DThing.mk j a l c e)),.ld 1 0 true (fun _=>Dat.cells (DThing.mk m f n d i)),.aeq true 41 (ca (DThing.mk j a l c e)) (ca (DThing.mk m f n d i)) _ fun w=>thing_equal w j a l c e m f n d i,.andn g0 false p2 (!(decide (j=m∧a=f∧l=n∧c=d∧e=i))) p3 hp3,.k (bv p3)] fun _ _ G4=>?_;intro S s
  have e0:p3=decide (Rv.clash ⟨j,a,l,c,e⟩ ⟨m,f,n,d,i⟩):=by
    refine Bool.eq_iff_iff.2 (Iff.trans (iN hp3 (iAT (iN hp2 (iAT (iNT iDF) (iNT iDF))) (iNT iDF))) (Iff.trans ?_ decide_eq_true_iff.symm));unfold Rv.clash;rw [show ((⟨j,a,l,c,e⟩:DThing)≠⟨m,f,n,d,i⟩)=¬ _ from rfl,Tm.thing_ext];have hqq:=q2;exact ⟨fun h=>.inr h,fun h=>h.resolve_left fun h2=>by rcases h2 with h2 | h2;exact h2 hqq.1;exact h2 hqq.2⟩
  exact V.rt [0] [] [] [] [] [] (bv p3) (cong1 (fun (x0:Bool)=>(bv x0:Value)) e0)
set_option maxRecDepth 10000 in
theorem thing_ct (path:List Int) (paths:SV) (i:Int) (a:ByteArray) (d j c l:Int) (hi:0≤i∧i < (path.length:Int)) :
    Cp Try.prog 46 #[paths.v,iv i,ag (DThing.mk a d j c l)] [fs true path paths] (bv (decide (Rv.thingP path i.toNat ⟨a,d,j,c,l⟩))):=by
  refine V.fn mo Try.func46 86 1 (by kernel_rfl) fun w H ε k0=>?_;obtain ⟨⟨kl1, -⟩, -⟩:Lq path paths.v∧True:=kq k0
  clear k0;refine V.g [.nb 0 0 (fun b=>pp b 0) 41 (fun _=>ca (DThing.mk a d j c l)),.kb false] fun _ _ G1=>?_;intro S s
  refine nm ((path.length:Int)-1:Int) fun n1 hn1=>?_;refine V.g [.k (iv i),.k (paths.v),.ln (kf false (.f 0) path (fun _=>paths)),.ar ((path.length:Int)-1) n1 hn1 (by omega) (by omega),.k (bv (decide (i=n1))),.k (bv (decide (i=n1)))] fun _ _ G2=>?_;intro S s
  refine nm ((!(decide (c=(-1)))) || (!(decide (l=(-1)))):Bool) fun p1 hp1=>?_;refine nm ((decide (i=n1)) && (p1 || (decide (8000 < (a.size:Int)))):Bool) fun p2 hp2=>?_;refine V.g [.k (bv (decide (i=n1))),.k (bv (decide (i=n1))),.k (pp ((G1 0).b) 3),.ld 0 3 false (fun _=>[iv c]),.k (bv (!(decide (c=(-1))))),.k (bv (!(decide (c=(-1))))),.k (pp ((G1 0).b) 4),.ld 0 4 false (fun _=>[iv l]),.k (bv (!(decide (l=(-1))))),.orn (gT (b:=decide (i=n1)) iDT) false (!(decide (c=(-1)))) (!(decide (l=(-1)))) p1 hp1,.k (bv p1),.k (pp ((G1 0).b) 0),.ld 0 0 false (fun _=>[tv a]),.k (iv (a.size:Int)),.k (bv (decide (8000 < (a.size:Int)))),.or (gT (b:=decide (i=n1)) iDT) false p1 (decide (8000 < (a.size:Int))),.andn g0 false (decide (i=n1)) (p1 || (decide (8000 < (a.size:Int)))) p2 hp2] fun _ _ G3=>?_;intro S s
  refine V.cn (b:=p2) (iN hp2 (iAT iDT (iOT (iN hp1 (iOT (iNT iDF) (iNT iDF))) iDT))) (iN hp2 (iAF iDF (iOF (iN hp1 (iOF (iNF iDT) (iNF iDT))) iDF))) (fun q1=>?_) (fun q2=>?_)
  · refine V.g [.kb false] fun _ _ G4=>?_;intro S s
    have e0:false=decide (Rv.thingP path i.toNat ⟨a,d,j,c,l⟩):=by symm;rw [decide_eq_false_iff_not];intro h;unfold Rv.thingP Rv.hid Tm.Bd at h;dsimp only at h;have h1:=h.1 (by omega);have hqq:=q1;omega
    exact V.rt [0] [] [] [] [] [] (bv false) (cong1 (fun (x0:Bool)=>(bv x0:Value)) e0)
  refine nm (path.getD (min (i+1) n1).toNat default:Int) fun v1 hv1=>?_;refine nm ((!(decide (c=v1))) && (!(decide (l=v1))):Bool) fun p3 hp3=>?_;refine nm ((!(decide (i=n1))) && ((!(decide (a=ByteArray.empty))) || p3):Bool) fun p4 hp4=>?_;refine V.g [.k (bv (decide (i=n1))),.k (bv (!(decide (i=n1)))),.k (bv (!(decide (i=n1)))),.k (pp ((G1 0).b) 0),.ld 0 0 false (fun _=>[tv a]),.sne a ByteArray.empty,.k (bv (!(decide (a=ByteArray.empty)))),.k (pp ((G1 0).b) 3),.ld 0 3 false (fun _=>[iv c]),.k (paths.v),.k (iv i),.arg ((gT (b:=!(decide (i=n1))) (iNT iDF)).F (b:=!(decide (a=ByteArray.empty))) (iNF iDT)) (i+1) (i+1) rfl (fun hg=>by omega),.k (paths.v),.ln (kf false (.f 0) path (fun _=>paths)),.arg ((gT (b:=!(decide (i=n1))) (iNT iDF)).F (b:=!(decide (a=ByteArray.empty))) (iNF iDT)) ((path.length:Int)-1) n1 hn1 (fun hg=>by omega),.mn (i+1) n1,.ix ((gT (b:=!(decide (i=n1))) (iNT iDF)).F (b:=!(decide (a=ByteArray.empty))) (iNF iDT)) (kf false (.f 0) path (fun _=>paths)) (min (i+1) n1) (fun hg=>⟨by omega,by omega⟩),.le ((gT (b:=!(decide (i=n1))) (iNT iDF)).F (b:=!(decide (a=ByteArray.empty))) (iNF iDT)) (kf false (.f 0) path (fun _=>paths)) (min (i+1) n1) none false v1 hv1 (fun hg=>⟨by omega,by omega⟩) false (fun _=>[iv v1]),.k (bv (!(decide (c=v1)))),.k (bv (!(decide (c=v1)))),.k (pp ((G1 0).b) 4),.ld 0 4 false (fun _=>[iv l]),.k (paths.v),.k (iv i),.arg (((gT (b:=!(decide (i=n1))) (iNT iDF)).F (b:=!(decide (a=ByteArray.empty))) (iNF iDT)).T (b:=!(decide (c=v1))) (iNT iDF)) (i+1) (i+1) rfl (fun hg=>by omega),.k (paths.v),.ln (kf false (.f 0) path (fun _=>paths)),.arg (((gT (b:=!(decide (i=n1))) (iNT iDF)).F (b:=!(decide (a=ByteArray.empty))) (iNF iDT)).T (b:=!(decide (c=v1))) (iNT iDF)) ((path.length:Int)-1) n1 hn1 (fun hg=>by omega),.mn (i+1) n1,.ix (((gT (b:=!(decide (i=n1))) (iNT iDF)).F (b:=!(decide (a=ByteArray.empty))) (iNF iDT)).T (b:=!(decide (c=v1))) (iNT iDF)) (kf false (.f 0) path (fun _=>paths)) (min (i+1) n1) (fun hg=>⟨by omega,by omega⟩),.le (((gT (b:=!(decide (i=n1))) (iNT iDF)).F (b:=!(decide (a=ByteArray.empty))) (iNF iDT)).T (b:=!(decide (c=v1))) (iNT iDF)) (kf false (.f 0) path (fun _=>paths)) (min (i+1) n1) none false v1 hv1 (fun hg=>⟨by omega,by omega⟩) false (fun _=>[iv v1]),.k (bv (!(decide (l=v1)))),.andn ((gT (b:=!(decide (i=n1))) (iNT iDF)).F (b:=!(decide (a=ByteArray.empty))) (iNF iDT)) false (!(decide (c=v1))) (!(decide (l=v1))) p3 hp3,.or (gT (b:=!(decide (i=n1))) (iNT iDF)) false (!(decide (a=ByteArray.empty))) p3,.andn g0 false (!(decide (i=n1))) ((!(decide (a=ByteArray.empty))) || p3) p4 hp4] fun _ _ G5=>?_;intro S s
  refine V.cn (b:=p4) (iN hp4 (iAT (iNT iDF) (iOT (iNT iDF) (iN hp3 (iAT (iNT iDF) (iNT iDF)))))) (iN hp4 (iAF (iNF iDT) (iOF (iNF iDT) (iN hp3 (iAF (iNF iDT) (iNF iDT)))))) (fun q3=>?_) (fun q4=>?_)
  · refine V.g [.kb false] fun _ _ G6=>?_;intro S s
    have e0:false=decide (Rv.thingP path i.toNat ⟨a,d,j,c,l⟩):=by
      symm;rw [decide_eq_false_iff_not];intro h;unfold Rv.thingP Rv.hid Tm.Bd at h;dsimp only at h
      have hqq:=q3;have hn:i+1 < path.length→Tm.pe path (i.toNat+1)=v1:=fun e=>by rw [hv1];show path.getD (i.toNat+1) default=_;congr 1;omega
      have h1:=h.2.1 (by omega);rw [hn (by omega)] at h1;rcases hqq.2 with h2 | ⟨h2,h3⟩
      · exact h2 h1.1
      rcases h1.2 with h4 | h4;exact h2 h4;exact h3 h4
    exact V.rt [0] [] [] [] [] [] (bv false) (cong1 (fun (x0:Bool)=>(bv x0:Value)) e0)
  have hn:i+1 < path.length→Tm.pe path (i.toNat+1)=v1:=fun e=>by rw [hv1];show path.getD (i.toNat+1) default=_;congr 1;omega
  have hA:i.toNat+1=path.length→c= -1∧l= -1∧a.size≤8000:=fun e=>by have hqq:=q2;omega
  have hB:i.toNat+1 < path.length→a=ByteArray.empty∧(c=Tm.pe path (i.toNat+1)∨l=Tm.pe path (i.toNat+1)):=fun e=>by rw [hn (by omega)];have hqq:=q4;rcases hqq with h | h;omega;exact h
  refine V.g [.k (iv i),.k (bv (decide (i=0))),.k (bv (decide (i=0))),.k (bv (decide (i=n1))),.or g0 false (decide (i=0)) (decide (i=n1))] fun _ _ G7=>?_;intro S s
  refine V.cn (b:=(decide (i=0)) || (decide (i=n1))) (iOT iDT iDT) (iOF iDF iDF) (fun q5=>?_) (fun q6=>?_)
  · refine nm ((decide (0≤d∧d≤1125899906842624)) && (decide (0≤j∧j≤1125899906842624)):Bool) fun p5 hp5=>?_;refine V.g [.k (pp ((G1 0).b) 1),.ld 0 1 false (fun _=>[iv d]),.cp g0 2 58 [] (fun _ G=>r49in_ct d),.k (bv (decide (0≤d∧d≤1125899906842624))),.k (pp ((G1 0).b) 2),.ld 0 2 false (fun _=>[iv j]),.cp (gT (b:=decide (0≤d∧d≤1125899906842624)) iDT) 6 58 [] (fun hg G=>r49in_ct j),.andn g0 false (decide (0≤d∧d≤1125899906842624)) (decide (0≤j∧j≤1125899906842624)) p5 hp5,.k (bv p5)] fun _ _ G8=>?_;intro S s
    have e0:p5=decide (Rv.thingP path i.toNat ⟨a,d,j,c,l⟩):=by
      refine Bool.eq_iff_iff.2 (Iff.trans (iN hp5 (iAT iDT iDT)) (Iff.trans ?_ decide_eq_true_iff.symm));unfold Rv.thingP Rv.hid Tm.Bd;have hqq:=q5;exact ⟨fun h=>⟨hA,hB,fun _=>by dsimp only;omega,fun e=>absurd (by omega) e⟩,fun h=>by have h1:=h.2.2.1 (by omega);dsimp only at h1;omega⟩
    exact V.rt [0] [] [] [] [] [] (bv p5) (cong1 (fun (x0:Bool)=>(bv x0:Value)) e0)
  refine nm ((decide (d=(-1))) && (decide (j=(-1))):Bool) fun p6 hp6=>?_;refine V.g [.k (pp ((G1 0).b) 1),.ld 0 1 false (fun _=>[iv d]),.k (bv (decide (d=(-1)))),.k (bv (decide (d=(-1)))),.k (pp ((G1 0).b) 2),.ld 0 2 false (fun _=>[iv j]),.k (bv (decide (j=(-1)))),.andn g0 false (decide (d=(-1))) (decide (j=(-1))) p6 hp6,.k (bv p6)] fun _ _ G9=>?_;intro S s
  have e0:p6=decide (Rv.thingP path i.toNat ⟨a,d,j,c,l⟩):=by
    refine Bool.eq_iff_iff.2 (Iff.trans (iN hp6 (iAT iDT iDT)) (Iff.trans ?_ decide_eq_true_iff.symm));unfold Rv.thingP Rv.hid Tm.Bd;have hqq:=q6;exact ⟨fun h=>⟨hA,hB,fun e=>by omega,fun _=>h⟩,fun h=>h.2.2.2 (by omega)⟩
  exact V.rt [0] [] [] [] [] [] (bv p6) (cong1 (fun (x0:Bool)=>(bv x0:Value)) e0)
end Kb
