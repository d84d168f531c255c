/- Texts for the claim, put together: the calculus of regions, its rules, and contracts of the functions that the law reaches. -/
import Derived.Test.YtjcgaaalpcofhaaZSwe
import Derived.Laws.Cover3
import Derived.ChangeSame
set_option linter.unusedVariables false
set_option linter.unusedSimpArgs false
namespace Kb
namespace Tm
theorem check_iff {l:List DThing} {p:List Int} {total blind value own a k b:Int} {text:ByteArray} {x y:DThing} (hW:Walks l p) (ha:a=p.getD (0:Int).toNat default) (hx:x=l.getD a.toNat default) (hk:k=(p.length:Int) - 1) (hb:b=p.getD k.toNat default) (hy:y=l.getD b.toNat default) :
    checkP l p total blind text value own↔((x.Value=total∧x.Blind=blind)∧y.Left= -1)∧opensP l b text value own:=by
  have hne:=hW.2.1
  have e1:pe p 0=a:=ha.symm
  have e2:lastI p=b:=by rw [hb,hk];unfold lastI pe;rw [show ((p.length:Int) - 1).toNat=p.length - 1 by omega];rfl
  unfold checkP
  rw [e1,e2,show el l a=x from hx.symm,show el l b=y from hy.symm]
  constructor
  · rintro ⟨_,h1,h2,h3,h4⟩;exact ⟨⟨⟨h1,h2⟩,h3⟩,h4⟩
  · rintro ⟨⟨⟨h1,h2⟩,h3⟩,h4⟩;exact ⟨hW,h1,h2,h3,h4⟩
end Tm
end Kb
set_option linter.unusedSectionVars false
namespace Kb
open Go
namespace Hint
variable {P : Program}
def seq (a b:ByteArray):Hint P:=e g0 (.bool (a.toList == b.toList)) (.bool (decide (a=b))) fun _=>by rw [toList_bytes]
end Hint

open Go Go.Proofs
set_option maxRecDepth 10000 in
theorem opens_ct (v:List DThing) (vs:SV) (i:Int) (text:ByteArray) (value blind:Int) :
    Cp Try.prog 67 #[ag (DVault.mk ⟨v,vs⟩),iv i,tv text,iv value,iv blind] [fs true v vs] (bv (decide (Tm.opensP v i text value blind))):=by
  refine V.fn mo Try.func67 45 2 (by kernel_rfl) fun w H ε k0=>?_;obtain ⟨⟨kl1, -⟩, -⟩:Lq v vs.v∧True:=kq k0
  clear k0;refine V.g [.nb 0 0 (fun b=>pp b 0) 51 (fun _=>ca (DVault.mk ⟨v,vs⟩)),.kb false] fun _ _ G1=>?_;intro S s
  refine nm ((v.length:Int)-1:Int) fun n1 hn1=>?_;refine nm ((!(decide (Tm.Sound v))) || (!(decide (0≤i∧i≤n1))):Bool) fun p1 hp1=>?_;refine V.g [.ld 0 0 true (fun _=>Dat.cells (DVault.mk ⟨v,vs⟩)),.cp g0 1 59 [(kf false (.f 0) v (fun _=>vs)).a] (fun _ G=>sound_ct v vs),.k (bv (!(decide (Tm.Sound v)))),.k (bv (!(decide (Tm.Sound v)))),.k (iv i),.k (pp ((G1 0).b) 0),.ld 0 0 false (fun _=>[vs.v]),.ln (kf false (.f 0) v (fun _=>vs)),.arg (gF (b:=!(decide (Tm.Sound v))) (iNF iDT)) ((v.length:Int)-1) n1 hn1 (fun hg=>by omega),.cp (gF (b:=!(decide (Tm.Sound v))) (iNF iDT)) 9 92 [] (fun hg G=>within_ct i n1),.k (bv (!(decide (0≤i∧i≤n1)))),.orn g0 false (!(decide (Tm.Sound v))) (!(decide (0≤i∧i≤n1))) p1 hp1] fun _ _ G2=>?_;intro S s
  refine V.cn (b:=p1) (iN hp1 (iOT (iNT iDF) (iNT iDF))) (iN hp1 (iOF (iNF iDT) (iNF iDT))) (fun q1=>?_) (fun q2=>?_)
  · refine V.g [.kb false] fun _ _ G3=>?_;intro S s
    have e0:false=decide (Tm.opensP v i text value blind):=by
      symm;rw [decide_eq_false_iff_not];rintro ⟨h1,h2,_⟩;simp only [Tm.has] at h2;rcases q1 with h | h
      · exact h h1
      omega
    exact V.rt [0] [] [] [] [] [] (bv false) (cong1 (fun (x0:Bool)=>(bv x0:Value)) e0)
  refine nm (v.getD i.toNat default:DThing) fun x1 hx1=>?_;refine V.g [.k (pp ((G1 0).b) 0),.ld 0 0 false (fun _=>[vs.v]),.k (iv i),.ix g0 (kf false (.f 0) v (fun _=>vs)) i (fun _=>⟨by omega,by omega⟩),.le g0 (kf false (.f 0) v (fun _=>vs)) i none false x1 hx1 (fun _=>⟨by omega,by omega⟩) true (fun _=>Dat.cells x1),.nb 5 1 (fun b=>pp b 0) 88 (fun _=>ca (DThing.mk ByteArray.empty 0 0 0 0)),.st 1 (fun G=>.blk ((G 5).b) (ca x1) 88)] fun _ _ G4=>?_;intro S s
  refine nm ((decide (x1.Text=text)) && (decide (x1.Value=value)):Bool) fun p2 hp2=>?_;refine V.g [.k (pp ((G4 5).b) 0),.ld 1 0 false (fun _=>[tv x1.Text]),.k (tv text),.seq x1.Text text,.k (bv (decide (x1.Text=text))),.k (pp ((G4 5).b) 1),.ld 1 1 false (fun _=>[iv x1.Value]),.k (iv value),.k (bv (decide (x1.Value=value))),.andn g0 false (decide (x1.Text=text)) (decide (x1.Value=value)) p2 hp2,.k (bv p2),.k (pp ((G4 5).b) 2),.ld 1 2 false (fun _=>[iv x1.Blind]),.k (iv blind),.k (bv (decide (x1.Blind=blind))),.and g0 false p2 (decide (x1.Blind=blind)),.k (bv (p2 && (decide (x1.Blind=blind))))] fun _ _ G5=>?_;intro S s
  have e0:(p2 && (decide (x1.Blind=blind)))=decide (Tm.opensP v i text value blind):=by
    refine Bool.eq_iff_iff.2 (Iff.trans (iAT (iN hp2 (iAT iDT iDT)) iDT) (Iff.trans ?_ decide_eq_true_iff.symm));unfold Tm.opensP Tm.has Tm.el;rw [←hx1];have hS:Tm.Sound v:=by rcases q2 with ⟨h,_⟩;first | exact h | exact Decidable.not_not.1 h
    constructor
    · intro h;exact ⟨hS,by omega,h.1.1,h.1.2,h.2⟩
    rintro ⟨_,_,h1,h2,h3⟩;exact ⟨⟨h1,h2⟩,h3⟩
  exact V.rt [0] [] [] [] [] [] (bv (p2 && (decide (x1.Blind=blind)))) (cong1 (fun (x0:Bool)=>(bv x0:Value)) e0)

open Go Go.Proofs
set_option maxRecDepth 10000 in
theorem check_ct (v:List DThing) (vs:SV) (path:List Int) (paths:SV) (total blind:Int) (text:ByteArray) (value own:Int) :
    Cp Try.prog 24 #[ag (DVault.mk ⟨v,vs⟩),paths.v,iv total,iv blind,tv text,iv value,iv own] [fs true v vs,fs true path paths] (bv (decide (Tm.checkP v path total blind text value own))):=by
  refine V.fn mo Try.func24 60 2 (by kernel_rfl) fun w H ε k0=>?_;obtain ⟨⟨kl1, -⟩,⟨kl2, -⟩, -⟩:Lq v vs.v∧Lq path paths.v∧True:=kq k0
  clear k0;refine V.g [.nb 0 0 (fun b=>pp b 0) 51 (fun _=>ca (DVault.mk ⟨v,vs⟩)),.kb false] fun _ _ G1=>?_;intro S s
  refine V.g [.ld 0 0 true (fun _=>Dat.cells (DVault.mk ⟨v,vs⟩)),.k (paths.v),.cp g0 2 65 [(kf false (.f 0) v (fun _=>vs)).a,(kf false (.f 1) path (fun _=>paths)).a] (fun _ G=>walks_ct v vs path paths),.k (bv (!(decide (Tm.Walks v path))))] fun _ _ G2=>?_;intro S s
  refine V.cn (b:=!(decide (Tm.Walks v path))) (iNT iDF) (iNF iDT) (fun q1=>?_) (fun q2=>?_)
  · refine V.g [.kb false] fun _ _ G3=>?_;intro S s
    have e0:false=decide (Tm.checkP v path total blind text value own):=by symm;rw [decide_eq_false_iff_not];rintro ⟨h,_⟩;exact q1 h
    exact V.rt [0] [] [] [] [] [] (bv false) (cong1 (fun (x0:Bool)=>(bv x0:Value)) e0)
  have hW:=q2;have hne:=hW.2.1;refine nm (path.getD (0:Int).toNat default:Int) fun v1 hv1=>?_;refine nm (v.getD v1.toNat default:DThing) fun x1 hx1=>?_;refine nm ((path.length:Int)-1:Int) fun n1 hn1=>?_;refine nm (path.getD n1.toNat default:Int) fun v2 hv2=>?_;have hh0:=Tm.walks_has hW (k:=(0:Int)) (by omega) (by omega) hv1
  have hh1:=Tm.walks_has hW (k:=n1) (by omega) (by omega) hv2;refine V.g [.k (pp ((G1 0).b) 0),.ld 0 0 false (fun _=>[vs.v]),.k (paths.v),.ix g0 (kf false (.f 1) path (fun _=>paths)) 0 (fun _=>⟨by omega,by omega⟩),.le g0 (kf false (.f 1) path (fun _=>paths)) (0:Int) none false v1 hv1 (fun _=>⟨by omega,by omega⟩) false (fun _=>[iv v1]),.ix g0 (kf false (.f 0) v (fun _=>vs)) v1 (fun _=>hh0),.le g0 (kf false (.f 0) v (fun _=>vs)) v1 none false x1 hx1 (fun _=>hh0) true (fun _=>Dat.cells x1),.k (paths.v),.k (paths.v),.ln (kf false (.f 1) path (fun _=>paths)),.ar ((path.length:Int)-1) n1 hn1 (by omega) (by omega),.ix g0 (kf false (.f 1) path (fun _=>paths)) n1 (fun _=>⟨by omega,by omega⟩),.le g0 (kf false (.f 1) path (fun _=>paths)) n1 none false v2 hv2 (fun _=>⟨by omega,by omega⟩) false (fun _=>[iv v2]),.nb 13 1 (fun b=>pp b 0) 88 (fun _=>ca (DThing.mk ByteArray.empty 0 0 0 0)),.st 1 (fun G=>.blk ((G 13).b) (ca x1) 88),.k (iv v2)] fun _ _ G4=>?_;intro S s
  refine nm ((decide (x1.Value=total)) && (decide (x1.Blind=blind)):Bool) fun p1 hp1=>?_;refine nm (v.getD v2.toNat default:DThing) fun x2 hx2=>?_;refine nm ((p1 && (decide (x2.Left= -1))) && (decide (Tm.opensP v v2 text value own)):Bool) fun p2 hp2=>?_;refine V.g [.k (pp ((G4 13).b) 1),.ld 1 1 false (fun _=>[iv x1.Value]),.k (iv total),.k (bv (decide (x1.Value=total))),.k (bv (decide (x1.Value=total))),.k (pp ((G4 13).b) 2),.ld 1 2 false (fun _=>[iv x1.Blind]),.k (iv blind),.k (bv (decide (x1.Blind=blind))),.andn g0 false (decide (x1.Value=total)) (decide (x1.Blind=blind)) p1 hp1,.k (bv p1),.k (pp ((G1 0).b) 0),.ld 0 0 false (fun _=>[vs.v]),.k (iv v2),.ix (gT (b:=p1) (iN hp1 (iAT iDT iDT))) (kf false (.f 0) v (fun _=>vs)) v2 (fun hg=>hh1),.le (gT (b:=p1) (iN hp1 (iAT iDT iDT))) (kf false (.f 0) v (fun _=>vs)) v2 none false x2 hx2 (fun hg=>hh1) true (fun _=>Dat.cells x2),.cp (gT (b:=p1) (iN hp1 (iAT iDT iDT))) 16 66 [] (fun hg G=>isLeaf_ct x2.Text x2.Value x2.Blind x2.Left x2.Right),.and g0 false p1 (decide (x2.Left= -1)),.k (bv (p1 && (decide (x2.Left= -1)))),.ld 0 0 true (fun _=>Dat.cells (DVault.mk ⟨v,vs⟩)),.k (iv v2),.k (tv text),.k (iv value),.k (iv own),.cp (gT (b:=p1 && (decide (x2.Left= -1))) (iAT (iN hp1 (iAT iDT iDT)) iDT)) 24 67 [(kf false (.f 0) v (fun _=>vs)).a] (fun hg G=>opens_ct v vs v2 text value own),.andn g0 false (p1 && (decide (x2.Left= -1))) (decide (Tm.opensP v v2 text value own)) p2 hp2,.k (bv p2)] fun _ _ G5=>?_;intro S s
  have e0:p2=decide (Tm.checkP v path total blind text value own):=by
    refine Bool.eq_iff_iff.2 (Iff.trans (iN hp2 (iAT (iAT (iN hp1 (iAT iDT iDT)) iDT) iDT)) (Iff.trans ?_ decide_eq_true_iff.symm));exact (Tm.check_iff (k:=n1) hW hv1 hx1 hn1 hv2 hx2).symm
  exact V.rt [0] [] [] [] [] [] (bv p2) (cong1 (fun (x0:Bool)=>(bv x0:Value)) e0)

open Go Go.Proofs
set_option maxRecDepth 10000 in
theorem tsame_ct (a:List DThing) (as_:SV) (b:List DThing) (bs:SV) :
    Cp Try.prog 56 #[as_.v,bs.v] [fs true a as_,fs true b bs] (bv (decide (a=b))):=by
  refine V.fn mo Try.func56 26 0 (by kernel_rfl) fun w H ε k0=>?_;obtain ⟨⟨kl1, -⟩,⟨kl2, -⟩, -⟩:Lq a as_.v∧Lq b bs.v∧True:=kq k0
  clear k0;refine V.g [.kb false] fun _ _ G1=>?_;intro S s
  refine V.g [.k (as_.v),.ln (kf false (.f 0) a (fun _=>as_)),.k (bs.v),.ln (kf false (.f 1) b (fun _=>bs)),.k (bv (!(decide ((a.length:Int)=(b.length:Int)))))] fun _ _ G2=>?_;intro S s
  refine V.cn (b:=!(decide ((a.length:Int)=(b.length:Int)))) (iNT iDF) (iNF iDT) (fun q1=>?_) (fun q2=>?_)
  · refine V.g [.kb false] fun _ _ G3=>?_;intro S s
    have e0:false=decide (a=b):=Tm.same_no_len rfl rfl q1;exact V.rt [0] [] [] [] [] [] (bv false) (cong1 (fun (x0:Bool)=>(bv x0:Value)) e0)
  refine V.g [.k (iv 0)] fun _ _ G4=>?_;intro S s
  refine V.loop (γ:=Int) (fun i=>⟨[(0,as_.v),(1,bs.v),(5,iv i)],[fs false a as_,fs false b bs],[]⟩) (fun i=>(0≤i)∧(i≤(a.length:Int))∧(∀ j,j < i.toNat→a.getD j default=b.getD j default)) (fun i=>((a.length:Int)-i).toNat) 0 (by kernel_rfl) [0,1] (by kernel_rfl) ?_ ?_
  · refine ⟨?_,?_,?_⟩
    · show 0≤(0:Int)
      first | omega | rfl | (simp;done) | (subst_vars;simp;done)
    · show (0:Int)≤(a.length:Int)
      first | omega | rfl | (simp;done) | (subst_vars;simp;done)
    show ∀ j,j < (0:Int).toNat→a.getD j default=b.getD j default;intro j hj;simp at hj
  rintro i hF1 kw5 Z1 hZ1;have hF1:(0≤i)∧(i≤(a.length:Int))∧(∀ j,j < i.toNat→a.getD j default=b.getD j default):=hF1;obtain ⟨hf1,hf2,hf3⟩:=hF1;clear kw5;refine V.g [.k (iv i),.k (as_.v),.ln (kf false (.f 0) a (fun _=>as_)),.k (bv (decide (i < (a.length:Int))))] fun _ _ G5=>?_;intro S s;refine V.cn (b:=decide (i < (a.length:Int))) iDT iDF (fun q3=>?_) (fun q4=>?_)
  · refine nm (a.getD i.toNat default:DThing) fun x1 hx1=>?_;refine nm (b.getD i.toNat default:DThing) fun x2 hx2=>?_;refine V.g [.k (as_.v),.k (iv i),.ix g0 (kf false (.f 0) a (fun _=>as_)) i (fun _=>⟨by omega,by omega⟩),.le g0 (kf false (.f 0) a (fun _=>as_)) i none false x1 hx1 (fun _=>⟨by omega,by omega⟩) true (fun _=>Dat.cells x1),.k (bs.v),.k (iv i),.ix g0 (kf false (.f 1) b (fun _=>bs)) i (fun _=>⟨by omega,by omega⟩),.le g0 (kf false (.f 1) b (fun _=>bs)) i none false x2 hx2 (fun _=>⟨by omega,by omega⟩) true (fun _=>Dat.cells x2),.aeq true 88 (ca x1) (ca x2) _ fun w=>thing_equal w x1.Text x1.Value x1.Blind x1.Left x1.Right x2.Text x2.Value x2.Blind x2.Left x2.Right] fun _ _ G6=>?_;intro S s
    refine V.cn (b:=!(decide (x1.Text=x2.Text∧x1.Value=x2.Value∧x1.Blind=x2.Blind∧x1.Left=x2.Left∧x1.Right=x2.Right))) (iNT iDF) (iNF iDT) (fun q5=>?_) (fun q6=>?_)
    · refine V.g [.kb false] fun _ _ G7=>?_;intro S s
      have e0:false=decide (a=b):=Tm.same_no (k:=i) hx1 hx2 (fun e=>q5 ((Tm.thing_ext _ _).1 e));exact V.rt [0] [] [] [] [] [] (bv false) (cong1 (fun (x0:Bool)=>(bv x0:Value)) e0)
    refine V.g [.k (iv i),.a (i+1) (by omega) (by omega),.k (iv (i+1))] fun _ _ G8=>?_;intro S s
    refine V.rnd hZ1 (i+1) [0,1] (by kernel_rfl) ?_ ?_
    · refine ⟨?_,?_,?_⟩
      · show 0≤(i+1)
        first | omega | rfl | (simp;done) | (subst_vars;simp;done)
      · show (i+1)≤(a.length:Int)
        first | omega | rfl | (simp;done) | (subst_vars;simp;done)
      show ∀ j,j < (i+1).toNat→a.getD j default=b.getD j default;exact Tm.same_step hf3 (by omega) rfl hx1 hx2 ((Tm.thing_ext _ _).2 q6)
    show ((a.length:Int)-(i+1)).toNat < ((a.length:Int)-i).toNat;omega
  refine V.g [.kb true] fun _ _ G9=>?_;intro S s
  have e0:true=decide (a=b):=Tm.same_yes (k:=i) hf3 (by omega) (by omega);exact V.rt [0] [] [] [] [] [] (bv true) (cong1 (fun (x0:Bool)=>(bv x0:Value)) e0)

open Go Go.Proofs
set_option maxRecDepth 10000 in
theorem things_ct :
    Ct Try.prog 57 #[] [] [] (fun g=>((g.ss 0)).v) (fun g=>[fs true Tm.exT (g.ss 0)]) (fun g=>[]) (fun g=>[]):=by
  refine V.fn mo Try.func57 14 1 (by kernel_rfl) fun w H ε k0=>?_;clear k0
  refine V.g [.k (.slice none 0 0)] fun _ _ G1=>?_;intro S s
  refine V.g [.k (iv (-1))] fun _ _ G2=>?_;intro S s
  refine V.g [.k (iv (-1)),.k (iv (-1)),.k (ag (DThing.mk ⟨#[97]⟩ 30 7 (-1) (-1))),.k (iv (-1)),.k (iv (-1)),.k (ag (DThing.mk ⟨#[98]⟩ 20 8 (-1) (-1))),.k (iv (-1)),.k (iv (-1)),.k (ag (DThing.mk ⟨#[99]⟩ 10 9 (-1) (-1))),.k (ag (DThing.mk ByteArray.empty 50 15 0 1)),.k (ag (DThing.mk ByteArray.empty 60 24 3 2)),.nl 11 0 true 88 ([DThing.mk ⟨#[97]⟩ 30 7 (-1) (-1),DThing.mk ⟨#[98]⟩ 20 8 (-1) (-1),DThing.mk ⟨#[99]⟩ 10 9 (-1) (-1),DThing.mk ByteArray.empty 50 15 0 1,DThing.mk ByteArray.empty 60 24 3 2]:List DThing) [] (fun _ _ _ _ _=>trivial) (fun _=>#[tv ⟨#[97]⟩,iv 30,iv 7,iv (-1),iv (-1),tv ⟨#[98]⟩,iv 20,iv 8,iv (-1),iv (-1),tv ⟨#[99]⟩,iv 10,iv 9,iv (-1),iv (-1),tv ByteArray.empty,iv 50,iv 15,iv 0,iv 1,tv ByteArray.empty,iv 60,iv 24,iv 3,iv 2]),.v fun G=>SV.v ⟨atB (G 11).b,5,5⟩] fun _ _ G3=>?_;intro S s
  refine V.frz 0 true 88 ([DThing.mk ⟨#[97]⟩ 30 7 (-1) (-1),DThing.mk ⟨#[98]⟩ 20 8 (-1) (-1),DThing.mk ⟨#[99]⟩ 10 9 (-1) (-1),DThing.mk ByteArray.empty 50 15 0 1,DThing.mk ByteArray.empty 60 24 3 2]:List DThing) ⟨atB (G3 11).b,5,5⟩ (by kernel_rfl) ?_;have e0:([DThing.mk ⟨#[97]⟩ 30 7 (-1) (-1),DThing.mk ⟨#[98]⟩ 20 8 (-1) (-1),DThing.mk ⟨#[99]⟩ 10 9 (-1) (-1),DThing.mk ByteArray.empty 50 15 0 1,DThing.mk ByteArray.empty 60 24 3 2]:List DThing)=Tm.exT:=by rfl
  rw [←e0];exact V.rs [0] [⟨atB (G3 11).b,5,5⟩] [fun _=>{}] [] [0] [] (SV.v ⟨atB (G3 11).b,5,5⟩)
theorem build_ctw (v:List DThing) (vs:SV) (texts:List ByteArray) (textss:SV) (values:List Int) (valuess:SV) (blinds:List Int) (blindss:SV) (rT:List DThing) (rR:Int) (rL:List Int) (rE:Int) (erT:Tm.buildT v texts values blinds=rT) (erR:Tm.buildR v texts values blinds=rR) (erL:Tm.buildL v texts values blinds=rL) (erE:Tm.buildE v texts values blinds=rE) :
    Ct Try.prog 23 #[ag (DVault.mk ⟨v,vs⟩),textss.v,valuess.v,blindss.v] [fs true v vs,fs true texts textss,fs true values valuess,fs true blinds blindss] [] (fun g=>.tuple #[ag (DVault.mk ⟨rT,(g.ss 0)⟩),iv (rR),((g.ss 1)).v,iv (rE)]) (fun g=>[fs true (rT) (g.ss 0),fs true (rL) (g.ss 1)]) (fun g=>[]) (fun g=>[]):=by
  subst erT erR erL erE;exact build_ct v vs texts textss values valuess blinds blindss 
theorem path_ctw (v:List DThing) (vs:SV) (root leaf:Int) (rP:List Int) (erP:Tm.pathF v root leaf=rP) :
    Ct Try.prog 25 #[ag (DVault.mk ⟨v,vs⟩),iv root,iv leaf] [fs true v vs] [] (fun g=>((g.ss 0)).v) (fun g=>[fs true (rP) (g.ss 0)]) (fun g=>[]) (fun g=>[]):=by
  subst erP;exact path_ct v vs root leaf 
theorem view_ctw (v:List DThing) (vs:SV) (path:List Int) (paths:SV) (rV:List DThing) (hp:path.length≤5000000000000) (erV:Tm.viewF v path=rV) :
    Ct Try.prog 58 #[ag (DVault.mk ⟨v,vs⟩),paths.v] [fs true v vs,fs true path paths] [] (fun g=>((g.ss 0)).v) (fun g=>[fs true (rV) (g.ss 0)]) (fun g=>[]) (fun g=>[]):=by
  subst erV;exact view_ct v vs path paths hp
theorem check_ctw (v:List DThing) (vs:SV) (path:List Int) (paths:SV) (total blind:Int) (text:ByteArray) (value own:Int) (rB:Bool) (erB:decide (Tm.checkP v path total blind text value own)=rB) :
    Cp Try.prog 24 #[ag (DVault.mk ⟨v,vs⟩),paths.v,iv total,iv blind,tv text,iv value,iv own] [fs true v vs,fs true path paths] (bv (rB)):=by
  subst erB;exact check_ct v vs path paths total blind text value own 
theorem samei_ctw (a:List Int) (as_:SV) (b:List Int) (bs:SV) (rB:Bool) (erB:decide (a=b)=rB) :
    Cp Try.prog 55 #[as_.v,bs.v] [fs true a as_,fs true b bs] (bv (rB)):=by
  subst erB;exact samei_ct a as_ b bs 
theorem tsame_ctw (a:List DThing) (as_:SV) (b:List DThing) (bs:SV) (rB:Bool) (erB:decide (a=b)=rB) :
    Cp Try.prog 56 #[as_.v,bs.v] [fs true a as_,fs true b bs] (bv (rB)):=by
  subst erB;exact tsame_ct a as_ b bs 
set_option maxRecDepth 10000 in
theorem sane36_ct :
    Cp Try.prog 22 #[] [] (bv true):=by
  refine V.fn mo Try.func22 81 2 (by kernel_rfl) fun w H ε k0=>?_;clear k0
  refine V.g [.kb false] fun _ _ G1=>?_;intro S s
  refine V.r [.k (ag (DVault.mk ⟨[],{}⟩)),.nr 1 true 9 ([⟨#[97]⟩,⟨#[98]⟩,⟨#[99]⟩]:List ByteArray) [] (fun _ _ _ _ _=>trivial) (fun _=>#[tv ⟨#[97]⟩,tv ⟨#[98]⟩,tv ⟨#[99]⟩]),.nr 2 true 3 ([30,20,10]:List Int) [] (fun _ _ _ _ _=>trivial) (fun _=>#[iv 30,iv 20,iv 10]),.nr 3 true 3 ([7,8,9]:List Int) [] (fun _ _ _ _ _=>trivial) (fun _=>#[iv 7,iv 8,iv 9]),.ct g0 4 23 false [] [] [(knil (α:=DThing)).a,(kf true (.g 1 0) ([⟨#[97]⟩,⟨#[98]⟩,⟨#[99]⟩]:List ByteArray) (fun G=>⟨atB (G 1).b,3,3⟩)).a,(kf true (.g 2 0) ([30,20,10]:List Int) (fun G=>⟨atB (G 2).b,3,3⟩)).a,(kf true (.g 3 0) ([7,8,9]:List Int) (fun G=>⟨atB (G 3).b,3,3⟩)).a] (fun _ G=>build_ctw ([]:List DThing) ({}) ([⟨#[97]⟩,⟨#[98]⟩,⟨#[99]⟩]:List ByteArray) ⟨atB (G 1).b,3,3⟩ ([30,20,10]:List Int) ⟨atB (G 2).b,3,3⟩ ([7,8,9]:List Int) ⟨atB (G 3).b,3,3⟩ Tm.exT 4 ([0,1,2]:List Int) 0 (by kernel_rfl) (by kernel_rfl) (by kernel_rfl) (by kernel_rfl)),.v fun G=>.tuple #[ag (DVault.mk ⟨Tm.exT,(G 4).ss 0⟩),iv (4:Int),((G 4).ss 1).v,iv (0:Int)],.v fun G=>ag (DVault.mk ⟨Tm.exT,(G 4).ss 0⟩),.k (iv (4:Int)),.v fun G=>((G 4).ss 1).v,.k (iv (0:Int)),.nb 10 0 (fun b=>pp b 0) 51 (fun _=>ca (DVault.mk ⟨[],{}⟩)),.st 0 (fun G=>.blk ((G 10).b) (ca (DVault.mk ⟨Tm.exT,(G 4).ss 0⟩)) 51),.k (iv (4:Int)),.v fun G=>((G 4).ss 1).v,.k (iv (0:Int))] fun _ _ G2 kw2=>?_;intro S s
  obtain ⟨⟨kl1, -⟩,⟨kl2, -⟩,⟨kl3, -⟩,⟨kl4, -⟩,⟨kl5, -⟩, -⟩:Lq ([⟨#[97]⟩,⟨#[98]⟩,⟨#[99]⟩]:List ByteArray) (SV.v ⟨atB (G2 1).b,3,3⟩)∧Lq ([30,20,10]:List Int) (SV.v ⟨atB (G2 2).b,3,3⟩)∧Lq ([7,8,9]:List Int) (SV.v ⟨atB (G2 3).b,3,3⟩)∧Lq Tm.exT (((G2 4).ss 0).v)∧Lq ([0,1,2]:List Int) (((G2 4).ss 1).v)∧True:=kq kw2;clear kw2;refine nm ((!(decide ((0:Int)=0))) || (!(decide ((4:Int)=4))):Bool) fun p1 hp1=>?_;refine V.g [.k (iv (0:Int)),.k (bv (!(decide ((0:Int)=0)))),.k (bv (!(decide ((0:Int)=0)))),.k (iv (4:Int)),.k (bv (!(decide ((4:Int)=4)))),.orn g0 false (!(decide ((0:Int)=0))) (!(decide ((4:Int)=4))) p1 hp1,.k (bv p1),.k (((G2 4).ss 1).v),.nr 8 true 3 ([0,1,2]:List Int) [] (fun _ _ _ _ _=>trivial) (fun _=>#[iv 0,iv 1,iv 2]),.cp (gF (b:=p1) (iN hp1 (iOF (iNF iDT) (iNF iDT)))) 9 55 [(kf true (.f 4) ([0,1,2]:List Int) (fun _=>(G2 4).ss 1)).a,(kf true (.g 8 0) ([0,1,2]:List Int) (fun G=>⟨atB (G 8).b,3,3⟩)).a] (fun hg G=>samei_ctw ([0,1,2]:List Int) ((G2 4).ss 1) ([0,1,2]:List Int) ⟨atB (G 8).b,3,3⟩ true (by kernel_rfl)),.kb false,.or g0 false p1 false,.k (bv (p1 || false)),.k (pp ((G2 10).b) 0),.ld 0 0 false (fun _=>[((G2 4).ss 0).v]),.ct (gF (b:=p1 || false) (iOF (iN hp1 (iOF (iNF iDT) (iNF iDT))) iFF)) 15 57 false [] [] [] (fun hg G=>things_ct ),.cp (gF (b:=p1 || false) (iOF (iN hp1 (iOF (iNF iDT) (iNF iDT))) iFF)) 16 56 [(kf true (.f 3) Tm.exT (fun _=>(G2 4).ss 0)).a,(kf true (.g 15 0) Tm.exT (fun G=>(G 15).ss 0)).a] (fun hg G=>tsame_ctw Tm.exT ((G2 4).ss 0) Tm.exT ((G 15).ss 0) true (by kernel_rfl)),.kb false,.or g0 false (p1 || false) false] fun _ _ G3=>?_;intro S s;refine V.cn (b:=(p1 || false) || false) (iOT (iOT (iN hp1 (iOT (iNT iDF) (iNT iDF))) iFT) iFT) (iOF (iOF (iN hp1 (iOF (iNF iDT) (iNF iDT))) iFF) iFF) (fun q1=>?_) (fun q2=>?_)
  · exact absurd q1 (by simp)
  refine V.r [.ld 0 0 true (fun _=>Dat.cells (DVault.mk ⟨Tm.exT,(G2 4).ss 0⟩)),.ct g0 1 25 false [] [] [(kf true (.f 3) Tm.exT (fun _=>(G2 4).ss 0)).a] (fun _ G=>path_ctw Tm.exT ((G2 4).ss 0) (4:Int) (1:Int) ([4,3,1]:List Int) (by kernel_rfl)),.v fun G=>((G 1).ss 0).v] fun _ _ G4 kw4=>?_;intro S s
  obtain ⟨⟨kl6, -⟩, -⟩:Lq ([4,3,1]:List Int) (((G4 1).ss 0).v)∧True:=kq kw4;clear kw4;refine V.g [.k (iv (-1))] fun _ _ G5=>?_;intro S s;refine V.g [.k (ag (DThing.mk ByteArray.empty 60 24 3 2)),.k (iv (-1)),.k (iv (-1)),.k (ag (DThing.mk ByteArray.empty (-1) (-1) 0 1)),.k (iv (-1)),.k (iv (-1)),.k (ag (DThing.mk ⟨#[98]⟩ 20 8 (-1) (-1))),.nl 7 1 true 88 ([DThing.mk ByteArray.empty 60 24 3 2,DThing.mk ByteArray.empty (-1) (-1) 0 1,DThing.mk ⟨#[98]⟩ 20 8 (-1) (-1)]:List DThing) [] (fun _ _ _ _ _=>trivial) (fun _=>#[tv ByteArray.empty,iv 60,iv 24,iv 3,iv 2,tv ByteArray.empty,iv (-1),iv (-1),iv 0,iv 1,tv ⟨#[98]⟩,iv 20,iv 8,iv (-1),iv (-1)]),.v fun G=>SV.v ⟨atB (G 7).b,3,3⟩] fun _ _ G6=>?_;intro S s;refine nm ((decide (0 < (([]:List Int).length:Int))) || false:Bool) fun p2 hp2=>?_;refine V.r [.k (((G4 1).ss 0).v),.nr 1 true 3 ([4,3,1]:List Int) [] (fun _ _ _ _ _=>trivial) (fun _=>#[iv 4,iv 3,iv 1]),.cp g0 2 55 [(kf true (.f 5) ([4,3,1]:List Int) (fun _=>(G4 1).ss 0)).a,(kf true (.g 1 0) ([4,3,1]:List Int) (fun G=>⟨atB (G 1).b,3,3⟩)).a] (fun _ G=>samei_ctw ([4,3,1]:List Int) ((G4 1).ss 0) ([4,3,1]:List Int) ⟨atB (G 1).b,3,3⟩ true (by kernel_rfl)),.kb false,.kb false,.ld 0 0 true (fun _=>Dat.cells (DVault.mk ⟨Tm.exT,(G2 4).ss 0⟩)),.ct g0 6 25 false [] [] [(kf true (.f 3) Tm.exT (fun _=>(G2 4).ss 0)).a] (fun _ G=>path_ctw Tm.exT ((G2 4).ss 0) (4:Int) (2:Int) ([4,2]:List Int) (by kernel_rfl)),.nr 7 true 3 ([4,2]:List Int) [] (fun _ _ _ _ _=>trivial) (fun _=>#[iv 4,iv 2]),.cp g0 8 55 [(kf true (.g 6 0) ([4,2]:List Int) (fun G=>(G 6).ss 0)).a,(kf true (.g 7 0) ([4,2]:List Int) (fun G=>⟨atB (G 7).b,2,2⟩)).a] (fun _ G=>samei_ctw ([4,2]:List Int) ((G 6).ss 0) ([4,2]:List Int) ⟨atB (G 7).b,2,2⟩ true (by kernel_rfl)),.kb false,.kb false,.kb false,.ld 0 0 true (fun _=>Dat.cells (DVault.mk ⟨Tm.exT,(G2 4).ss 0⟩)),.ct g0 13 25 false [] [] [(kf true (.f 3) Tm.exT (fun _=>(G2 4).ss 0)).a] (fun _ G=>path_ctw Tm.exT ((G2 4).ss 0) (3:Int) (2:Int) ([]:List Int) (by kernel_rfl)),.ln (kf true (.g 13 0) ([]:List Int) (fun G=>(G 13).ss 0)),.k (bv (decide (0 < (([]:List Int).length:Int)))),.k (bv (decide (0 < (([]:List Int).length:Int)))),.k (bv (decide (0 < (([]:List Int).length:Int)))),.ld 0 0 true (fun _=>Dat.cells (DVault.mk ⟨Tm.exT,(G2 4).ss 0⟩)),.k (((G4 1).ss 0).v),.ct (gF (b:=decide (0 < (([]:List Int).length:Int))) iDF) 20 58 false [] [] [(kf true (.f 3) Tm.exT (fun _=>(G2 4).ss 0)).a,(kf true (.f 5) ([4,3,1]:List Int) (fun _=>(G4 1).ss 0)).a] (fun hg G=>view_ctw Tm.exT ((G2 4).ss 0) ([4,3,1]:List Int) ((G4 1).ss 0) ([⟨ByteArray.empty,60,24,3,2⟩,⟨ByteArray.empty, -1, -1,0,1⟩,⟨⟨#[98]⟩,20,8, -1, -1⟩]:List DThing) (by simp) (by kernel_rfl)),.k (SV.v ⟨atB (G6 7).b,3,3⟩),.cp (gF (b:=decide (0 < (([]:List Int).length:Int))) iDF) 22 56 [(kf true (.g 20 0) ([⟨ByteArray.empty,60,24,3,2⟩,⟨ByteArray.empty, -1, -1,0,1⟩,⟨⟨#[98]⟩,20,8, -1, -1⟩]:List DThing) (fun G=>(G 20).ss 0)).a,(ko true 88 1 ([DThing.mk ByteArray.empty 60 24 3 2,DThing.mk ByteArray.empty (-1) (-1) 0 1,DThing.mk ⟨#[98]⟩ 20 8 (-1) (-1)]:List DThing) (fun _=>⟨atB (G6 7).b,3,3⟩)).a] (fun hg G=>tsame_ctw ([⟨ByteArray.empty,60,24,3,2⟩,⟨ByteArray.empty, -1, -1,0,1⟩,⟨⟨#[98]⟩,20,8, -1, -1⟩]:List DThing) ((G 20).ss 0) ([DThing.mk ByteArray.empty 60 24 3 2,DThing.mk ByteArray.empty (-1) (-1) 0 1,DThing.mk ⟨#[98]⟩ 20 8 (-1) (-1)]:List DThing) ⟨atB (G6 7).b,3,3⟩ true (by kernel_rfl)),.kb false,.orn g0 false (decide (0 < (([]:List Int).length:Int))) false p2 hp2] fun _ _ G7 kw7=>?_;intro S s;obtain ⟨⟨kl7, -⟩, -⟩:Lq ([4,3,1]:List Int) (SV.v ⟨atB (G7 1).b,3,3⟩)∧Lq ([DThing.mk ByteArray.empty 60 24 3 2,DThing.mk ByteArray.empty (-1) (-1) 0 1,DThing.mk ⟨#[98]⟩ 20 8 (-1) (-1)]:List DThing) (SV.v ⟨atB (G6 7).b,3,3⟩)∧True:=kq kw7;clear kw7;refine V.cn (b:=p2) (iN hp2 (iOT iDT iFT)) (iN hp2 (iOF iDF iFF)) (fun q3=>?_) (fun q4=>?_)
  · exact absurd q3 (by simp)
  refine V.g [.ld 0 0 true (fun _=>Dat.cells (DVault.mk ⟨Tm.exT,(G2 4).ss 0⟩)),.k (((G4 1).ss 0).v),.cp g0 2 24 [(kf true (.f 3) Tm.exT (fun _=>(G2 4).ss 0)).a,(kf true (.f 5) ([4,3,1]:List Int) (fun _=>(G4 1).ss 0)).a] (fun _ G=>check_ctw Tm.exT ((G2 4).ss 0) ([4,3,1]:List Int) ((G4 1).ss 0) (60:Int) (24:Int) ⟨#[98]⟩ (20:Int) (8:Int) true (by kernel_rfl)),.kb true,.ld 0 0 true (fun _=>Dat.cells (DVault.mk ⟨Tm.exT,(G2 4).ss 0⟩)),.k (((G4 1).ss 0).v),.cp g0 6 24 [(kf true (.f 3) Tm.exT (fun _=>(G2 4).ss 0)).a,(kf true (.f 5) ([4,3,1]:List Int) (fun _=>(G4 1).ss 0)).a] (fun _ G=>check_ctw Tm.exT ((G2 4).ss 0) ([4,3,1]:List Int) ((G4 1).ss 0) (60:Int) (24:Int) ⟨#[97]⟩ (20:Int) (8:Int) false (by kernel_rfl)),.kb true,.kb true,.kb true] fun _ _ G8=>?_;intro S s
  exact V.rs [0] [] [] [] [] [] (bv true)

namespace Tm
theorem whole_check {v:List DThing} {texts:List ByteArray} {values blinds:List Int} (he:buildE v texts values blinds=0) {i:Nat} (hi:i < texts.length) {p:List Int} (hp:p=pathF (buildT v texts values blinds) (buildR v texts values blinds) ((v.length+i:Nat):Int)) {total blind value own:Int} {text:ByteArray} :
    checkP (buildT v texts values blinds) p total blind text value own↔total=totV values texts.length∧blind=totV blinds texts.length∧text=texts.getD i default∧value=values.getD i default∧own=blinds.getD i default:=by
  obtain ⟨hOK,_,hS,hl,_,hr,h1,h2,_,hd⟩:=built_is he
  obtain ⟨d1,d2⟩:=hd i hi
  have hn:=near_of hS d1
  have hlen:p.length≠0:=by
    rw [hp,pathF_yes hS hr d1.has2 hn]
    have:=(rest_len (buildT v texts values blinds) ((v.length+i:Nat):Int) (buildR v texts values blinds).toNat (buildR v texts values blinds)).1
    unfold rest;omega
  obtain ⟨hW,e0,e1,_⟩:=path_is hp hlen
  unfold checkP opensP
  rw [e0,e1,h1,h2,d2]
  refine ⟨fun ⟨_,a,b,_,_,_,c,d,e⟩=>⟨a.symm,b.symm,c.symm,d.symm,e.symm⟩,fun ⟨a,b,c,d,e⟩=>⟨hW,a.symm,b.symm,rfl,hS,d1.has2,c.symm,d.symm,e.symm⟩⟩
end Tm

open Go
namespace Tm
theorem totV_rep {b:Int}:∀ n:Nat,∀ m,n≤m→totV (List.replicate m b) n=n * b
  | 0,m,_=>by simp [totV]
  | n+1,m,h=>by
    rw [totV_succ,totV_rep n m (by omega),rep_get (by omega)]
    have:((n+1:Nat):Int)=(n:Int)+1:=by omega
    rw [this,Int.add_mul];simp
theorem ids0_get {n i:Nat} (h:i < n):(idsN 0 n).getD i default=((0+i:Nat):Int):=by
  unfold idsN
  rw [List.getD_eq_getElem?_getD,List.getElem?_map,List.getElem?_range h];rfl
theorem parts_check {t b a:Int} {n:Nat} {l:List Int} {x:ByteArray} (h:Parts t n l) (ht:t≤1099511627776) (hb:0≤b∧b≤65535) (hx:(x.size:Int)≤8000) (h0:n≠0) (h20:n≤20) {i:Int} (hi0:0≤i) (hi:i < n) (ha:a=n * b)
    {v k:Int} (hv:v=l.getD i.toNat default) (hk:k=(buildL [] (List.replicate n x) l (List.replicate n b)).getD i.toNat default) :
    checkP (buildT [] (List.replicate n x) l (List.replicate n b)) (pathF (buildT [] (List.replicate n x) l (List.replicate n b)) (buildR [] (List.replicate n x) l (List.replicate n b)) k) t a x v b:=by
  have he:=parts_args h ht hb hx h0 h20
  have hL:=(built_is he).2.2.2.2.2.2.2.2.1
  have hk2:k=((0+i.toNat:Nat):Int):=by rw [hk,hL];simp only [List.length_nil,List.length_replicate];exact ids0_get (by omega)
  refine (whole_check he (i:=i.toNat) (by simp;omega) (by rw [hk2];rfl)).2 ⟨?_,?_,?_,hv,?_⟩
  · rw [List.length_replicate];exact h.sum.symm
  · rw [List.length_replicate,totV_rep n n (Nat.le_refl _)];exact ha
  · exact (rep_get (by omega)).symm
  · exact (rep_get (by omega)).symm
theorem parts_leaves {t b:Int} {n:Nat} {l:List Int} {x:ByteArray} (h:Parts t n l) (ht:t≤1099511627776) (hb:0≤b∧b≤65535) (hx:(x.size:Int)≤8000) (h0:n≠0) (h20:n≤20):(buildL [] (List.replicate n x) l (List.replicate n b)).length=n:=by
  rw [(built_is (parts_args h ht hb hx h0 h20)).2.2.2.2.2.2.2.2.1];simp
end Tm

open Go Go.Proofs
set_option maxRecDepth 10000 in
theorem tshares_ct (weights:List DFrac) (weightss:SV) (total blind:Int) (hw:0≤blind∧blind≤65535) :
    Cp Try.prog 6 #[weightss.v,iv total,.int .u16 blind] [fs true weights weightss] (bv true):=by
  refine V.fn mo Try.func6 109 3 (by kernel_rfl) fun w H ε k0=>?_;obtain ⟨⟨kl1, -⟩, -⟩:Lq weights weightss.v∧True:=kq k0
  clear k0;refine V.g [.kb false] fun _ _ G1=>?_;intro S_ s_
  refine V.g [.cp g0 0 22 [] (fun _ G=>sane36_ct ),.kb true] fun _ _ G2=>?_;intro S_ s_
  refine V.g [.k (weightss.v),.cp g0 1 9 [(kf false (.f 0) weights (fun _=>weightss)).a] (fun _ G=>few30_ct weights weightss),.k (bv (!(decide (Fr.few30 weights))))] fun _ _ G3=>?_;intro S_ s_
  refine V.cn (b:=!(decide (Fr.few30 weights))) (iNT iDF) (iNF iDT) (fun q1=>?_) (fun q2=>?_)
  · refine V.g [.kb true,.kb true] fun _ _ G4=>?_;intro S_ s_
    exact V.rs [0] [] [] [] [] [] (bv true)
  have hF:Fr.few30 weights:=by have hqq:=q2;first | exact hqq | exact Decidable.not_not.1 hqq | exact hqq.1 | exact Decidable.not_not.1 hqq.1
  refine V.r [.k (weightss.v),.ct g0 1 10 false [] [] [(kf false (.f 0) weights (fun _=>weightss)).a] (fun _ G=>shares_ct weights weightss (Fr.few30_wb hF)),.v fun G=>.tuple #[((G 1).ss 0).v,iv (Fr.shE weights)],.v fun G=>((G 1).ss 0).v,.k (iv (Fr.shE weights)),.v fun G=>((G 1).ss 0).v,.k (iv (Fr.shE weights))] fun _ _ G5 kw5=>?_;intro S_ s_
  obtain ⟨⟨kl2, -⟩, -⟩:Lq (Fr.frs (Fr.shQ weights) ((G5 1).sl 0)) (((G5 1).ss 0).v)∧True:=kq kw5;clear kw5;refine V.r [.k (iv total),.k (((G5 1).ss 0).v),.ct g0 2 15 false [] [] [(kf true (.f 1) (Fr.frs (Fr.shQ weights) ((G5 1).sl 0)) (fun _=>(G5 1).ss 0)).a] (fun _ G=>round_ct total (Fr.frs (Fr.shQ weights) ((G5 1).sl 0)) ((G5 1).ss 0) (Tm.shQ_wb0 hF _) (Tm.shQ_l20 hF _)),.v fun G=>.tuple #[((G 2).ss 0).v,iv (if Fr.rndOk total (Fr.frs (Fr.shQ weights) ((G5 1).sl 0)) then (0:Int) else 1)],.v fun G=>((G 2).ss 0).v,.k (iv (if Fr.rndOk total (Fr.frs (Fr.shQ weights) ((G5 1).sl 0)) then (0:Int) else 1)),.v fun G=>((G 2).ss 0).v,.k (iv (if Fr.rndOk total (Fr.frs (Fr.shQ weights) ((G5 1).sl 0)) then (0:Int) else 1))] fun _ _ G6 kw6=>?_;intro S_ s_;obtain ⟨⟨kl3, -⟩, -⟩:Lq (Fr.rndL total (Fr.frs (Fr.shQ weights) ((G5 1).sl 0))) (((G6 2).ss 0).v)∧True:=kq kw6;clear kw6;refine nm ((!(decide (Fr.shE weights=0))) || (!(decide ((if Fr.rndOk total (Fr.frs (Fr.shQ weights) ((G5 1).sl 0)) then (0:Int) else 1)=0))):Bool) fun p1 hp1=>?_;refine V.g [.k (iv (Fr.shE weights)),.k (bv (!(decide (Fr.shE weights=0)))),.k (bv (!(decide (Fr.shE weights=0)))),.k (iv (if Fr.rndOk total (Fr.frs (Fr.shQ weights) ((G5 1).sl 0)) then (0:Int) else 1)),.k (bv (!(decide ((if Fr.rndOk total (Fr.frs (Fr.shQ weights) ((G5 1).sl 0)) then (0:Int) else 1)=0)))),.orn g0 false (!(decide (Fr.shE weights=0))) (!(decide ((if Fr.rndOk total (Fr.frs (Fr.shQ weights) ((G5 1).sl 0)) then (0:Int) else 1)=0))) p1 hp1] fun _ _ G7=>?_;intro S_ s_;refine V.cn (b:=p1) (iN hp1 (iOT (iNT iDF) (iNT iDF))) (iN hp1 (iOF (iNF iDT) (iNF iDT))) (fun q3=>?_) (fun q4=>?_)
  · refine V.g [.kb true,.kb true] fun _ _ G8=>?_;intro S_ s_
    exact V.rs [0] [] [] [] [] [] (bv true)
  have hqq:=q4;have hE:Fr.shE weights=0:=hqq.1;have hOk:Fr.rndOk total (Fr.frs (Fr.shQ weights) ((G5 1).sl 0)):=by have h:=hqq.2;split at h;assumption;omega
  have hLl:(Fr.frs (Fr.shQ weights) ((G5 1).sl 0)).length=weights.length:=by rw [Fr.frs_len,Fr.shQ_len hE]
  have hL20:=hF.1;have hP:=Tm.parts_of hOk;rw [hLl] at hP;have hPl:=hP.len;have hT:=hOk.1;have hn0:weights.length≠0:=fun h=>(Fr.shE_is hE).1 (List.eq_nil_of_length_eq_zero h)
  refine V.g [.nl 0 0 true 9 ([]:List ByteArray) [] (fun _ _ _ _ _=>trivial) (fun _=>#[]),.v fun G=>SV.v ⟨atB (G 0).b,0,0⟩] fun _ _ G9=>?_;intro S_ s_
  refine V.g [.nl 0 1 true 3 ([]:List Int) [] (fun _ _ _ _ _=>trivial) (fun _=>#[]),.v fun G=>SV.v ⟨atB (G 0).b,0,0⟩] fun _ _ G10=>?_;intro S_ s_
  refine V.g [.k (iv 0)] fun _ _ G11=>?_;intro S_ s_
  refine V.loop (γ:=List ByteArray × SV × List Int × SV × Int) (fun ⟨texts,textss,blinds,blindss,i⟩=>⟨[(1,iv total),(2,.int .u16 blind),(7,bv true),(10,((G6 2).ss 0).v),(12,textss.v),(13,blindss.v),(14,iv i)],[fs true (Fr.rndL total (Fr.frs (Fr.shQ weights) ((G5 1).sl 0))) ((G6 2).ss 0)],[os true 9 texts textss,os true 3 blinds blindss,.no]⟩) (fun ⟨texts,textss,blinds,blindss,i⟩=>(0≤i)∧(i≤((Fr.rndL total (Fr.frs (Fr.shQ weights) ((G5 1).sl 0))).length:Int))∧(texts=List.replicate i.toNat (⟨#[112,97,114,116]⟩:ByteArray))∧(blinds=List.replicate i.toNat blind)) (fun ⟨texts,textss,blinds,blindss,i⟩=>(((Fr.rndL total (Fr.frs (Fr.shQ weights) ((G5 1).sl 0))).length:Int)-i).toNat) (([]:List ByteArray),⟨atB (G9 0).b,0,0⟩,([]:List Int),⟨atB (G10 0).b,0,0⟩,0) (by kernel_rfl) [2] (by kernel_rfl) ?_ ?_
  · refine ⟨?_,?_,?_,?_⟩
    · show 0≤(0:Int)
      first | omega | rfl | (simp;done) | (subst_vars;simp;done)
    · show (0:Int)≤((Fr.rndL total (Fr.frs (Fr.shQ weights) ((G5 1).sl 0))).length:Int)
      first | omega | rfl | (simp;done) | (subst_vars;simp;done)
    · show ([]:List ByteArray)=List.replicate (0:Int).toNat (⟨#[112,97,114,116]⟩:ByteArray);rfl
    show ([]:List Int)=List.replicate (0:Int).toNat blind;rfl
  rintro ⟨texts,textss,blinds,blindss,i⟩ hF1 kw12 Z1 hZ1;have hF1:(0≤i)∧(i≤((Fr.rndL total (Fr.frs (Fr.shQ weights) ((G5 1).sl 0))).length:Int))∧(texts=List.replicate i.toNat (⟨#[112,97,114,116]⟩:ByteArray))∧(blinds=List.replicate i.toNat blind):=hF1;obtain ⟨hf1,hf2,hf3,hf4⟩:=hF1;obtain ⟨-,⟨kl4, -⟩,⟨kl5, -⟩, -⟩:Lq (Fr.rndL total (Fr.frs (Fr.shQ weights) ((G5 1).sl 0))) (((G6 2).ss 0).v)∧Lq texts textss.v∧Lq blinds blindss.v∧True:=kq kw12;clear kw12;have htl:texts.length=i.toNat:=by rw [hf3];simp
  have hbl:blinds.length=i.toNat:=by rw [hf4];simp
  refine V.g [.k (iv i),.k (((G6 2).ss 0).v),.ln (kf true (.f 0) (Fr.rndL total (Fr.frs (Fr.shQ weights) ((G5 1).sl 0))) (fun _=>(G6 2).ss 0)),.k (bv (decide (i < ((Fr.rndL total (Fr.frs (Fr.shQ weights) ((G5 1).sl 0))).length:Int))))] fun _ _ G12=>?_;intro S_ s_
  refine V.cn (b:=decide (i < ((Fr.rndL total (Fr.frs (Fr.shQ weights) ((G5 1).sl 0))).length:Int))) iDT iDF (fun q5=>?_) (fun q6=>?_)
  · refine nm (texts ++([⟨#[112,97,114,116]⟩]:List ByteArray):List ByteArray) fun l1 hl1=>?_;have hl1n:=congrArg List.length hl1;try simp only [List.length_append,List.length_cons,List.length_nil,List.length_replicate,List.length_set,List.length_take,List.length_drop,List.length_map,List.length_reverse,List.length_range] at hl1n
    refine V.r [.k (textss.v),.nr 1 true 9 ([⟨#[112,97,114,116]⟩]:List ByteArray) [] (fun _ _ _ _ _=>trivial) (fun _=>#[tv ⟨#[112,97,114,116]⟩]),.ap 2 0 9 16 false true texts (fun _=>textss) (kf true (.g 1 0) ([⟨#[112,97,114,116]⟩]:List ByteArray) (fun G=>⟨atB (G 1).b,1,1⟩)) true l1 hl1 (by (try simp only [List.length_append,List.length_cons,List.length_nil,List.length_replicate,List.length_set,List.length_take,List.length_drop,List.length_map,List.length_reverse,List.length_range]);omega) (fun h=>by cases h) (.inr fun _ _=>trivial),.v fun G=>((G 2).s).v] fun _ _ G13 kw14=>?_;intro S_ s_
    obtain ⟨⟨kl6, -⟩, -⟩:Lq ([⟨#[112,97,114,116]⟩]:List ByteArray) (SV.v ⟨atB (G13 1).b,1,1⟩)∧Lq l1 (((G13 2).s).v)∧Lq blinds blindss.v∧True:=kq kw14;clear kw14;refine nm (blinds ++[blind]:List Int) fun l2 hl2=>?_;have hl2n:=congrArg List.length hl2;try simp only [List.length_append,List.length_cons,List.length_nil,List.length_replicate,List.length_set,List.length_take,List.length_drop,List.length_map,List.length_reverse,List.length_range] at hl2n
    refine V.r [.k (blindss.v),.k (.int .u16 blind),.ek g0 .i64 blind blind (fun _=>by rw [IntKind.wrap_i64];omega),.nr 3 true 3 [blind] [] (fun _ _ _ _ _=>trivial) (fun _=>#[iv blind]),.ap 4 1 3 8 false true blinds (fun _=>blindss) (kf true (.g 3 0) [blind] (fun G=>⟨atB (G 3).b,1,1⟩)) true l2 hl2 (by (try simp only [List.length_append,List.length_cons,List.length_nil,List.length_replicate,List.length_set,List.length_take,List.length_drop,List.length_map,List.length_reverse,List.length_range]);omega) (fun h=>by cases h) (.inr fun _ _=>trivial),.v fun G=>((G 4).s).v] fun _ _ G14 kw15=>?_;intro S_ s_
    obtain ⟨⟨kl7, -⟩, -⟩:Lq [blind] (SV.v ⟨atB (G14 3).b,1,1⟩)∧Lq l1 (((G13 2).s).v)∧Lq l2 (((G14 4).s).v)∧True:=kq kw15;clear kw15;refine V.g [.k (iv i),.a (i+1) (by omega) (by omega),.k (iv (i+1))] fun _ _ G15=>?_;intro S_ s_;refine V.rnd hZ1 (l1,(G13 2).s,l2,(G14 4).s,i+1) [0] (by kernel_rfl) ?_ ?_
    · refine ⟨?_,?_,?_,?_⟩
      · show 0≤(i+1)
        first | omega | rfl | (simp;done) | (subst_vars;simp;done)
      · show (i+1)≤((Fr.rndL total (Fr.frs (Fr.shQ weights) ((G5 1).sl 0))).length:Int)
        first | omega | rfl | (simp;done) | (subst_vars;simp;done)
      · show l1=List.replicate (i+1).toNat (⟨#[112,97,114,116]⟩:ByteArray);rw [hl1,hf3,show (i+1).toNat=i.toNat+1 by omega,List.replicate_succ']
      show l2=List.replicate (i+1).toNat blind;rw [hl2,hf4,show (i+1).toNat=i.toNat+1 by omega,List.replicate_succ']
    show (((Fr.rndL total (Fr.frs (Fr.shQ weights) ((G5 1).sl 0))).length:Int)-(i+1)).toNat < (((Fr.rndL total (Fr.frs (Fr.shQ weights) ((G5 1).sl 0))).length:Int)-i).toNat;omega
  have hpn:i.toNat=weights.length:=by omega
  have htx:=hf3;have hbx:=hf4;rw [hpn] at htx hbx;have hBE:=Tm.parts_args hP hT.2 hw (by decide:(((⟨#[112,97,114,116]⟩:ByteArray)).size:Int)≤8000) hn0 (by omega);have hBL:=Tm.parts_leaves hP hT.2 hw (by decide:(((⟨#[112,97,114,116]⟩:ByteArray)).size:Int)≤8000) hn0 (by omega);rw [←htx,← hbx] at hBE hBL;refine V.r [.k (ag (DVault.mk ⟨[],{}⟩)),.k (textss.v),.k (((G6 2).ss 0).v),.k (blindss.v),.ct g0 4 23 false [] [] [(knil (α:=DThing)).a,(ko true 9 0 texts (fun _=>textss)).a,(kf true (.f 0) (Fr.rndL total (Fr.frs (Fr.shQ weights) ((G5 1).sl 0))) (fun _=>(G6 2).ss 0)).a,(ko true 3 1 blinds (fun _=>blindss)).a] (fun _ G=>build_ct ([]:List DThing) ({}) texts textss (Fr.rndL total (Fr.frs (Fr.shQ weights) ((G5 1).sl 0))) ((G6 2).ss 0) blinds blindss),.v fun G=>.tuple #[ag (DVault.mk ⟨Tm.buildT ([]:List DThing) texts (Fr.rndL total (Fr.frs (Fr.shQ weights) ((G5 1).sl 0))) blinds,(G 4).ss 0⟩),iv (Tm.buildR ([]:List DThing) texts (Fr.rndL total (Fr.frs (Fr.shQ weights) ((G5 1).sl 0))) blinds),((G 4).ss 1).v,iv (Tm.buildE ([]:List DThing) texts (Fr.rndL total (Fr.frs (Fr.shQ weights) ((G5 1).sl 0))) blinds)],.v fun G=>ag (DVault.mk ⟨Tm.buildT ([]:List DThing) texts (Fr.rndL total (Fr.frs (Fr.shQ weights) ((G5 1).sl 0))) blinds,(G 4).ss 0⟩),.k (iv (Tm.buildR ([]:List DThing) texts (Fr.rndL total (Fr.frs (Fr.shQ weights) ((G5 1).sl 0))) blinds)),.v fun G=>((G 4).ss 1).v,.k (iv (Tm.buildE ([]:List DThing) texts (Fr.rndL total (Fr.frs (Fr.shQ weights) ((G5 1).sl 0))) blinds)),.nb 10 2 (fun b=>pp b 0) 51 (fun _=>ca (DVault.mk ⟨[],{}⟩)),.st 2 (fun G=>.blk ((G 10).b) (ca (DVault.mk ⟨Tm.buildT ([]:List DThing) texts (Fr.rndL total (Fr.frs (Fr.shQ weights) ((G5 1).sl 0))) blinds,(G 4).ss 0⟩)) 51),.k (iv (Tm.buildR ([]:List DThing) texts (Fr.rndL total (Fr.frs (Fr.shQ weights) ((G5 1).sl 0))) blinds)),.v fun G=>((G 4).ss 1).v,.k (iv (Tm.buildE ([]:List DThing) texts (Fr.rndL total (Fr.frs (Fr.shQ weights) ((G5 1).sl 0))) blinds))] fun _ _ G16 kw17=>?_;intro S_ s_
  obtain ⟨⟨kl8, -⟩,⟨kl9, -⟩, -⟩:Lq (Tm.buildT ([]:List DThing) texts (Fr.rndL total (Fr.frs (Fr.shQ weights) ((G5 1).sl 0))) blinds) (((G16 4).ss 0).v)∧Lq (Tm.buildL ([]:List DThing) texts (Fr.rndL total (Fr.frs (Fr.shQ weights) ((G5 1).sl 0))) blinds) (((G16 4).ss 1).v)∧Lq texts textss.v∧Lq blinds blindss.v∧True:=kq kw17;clear kw17;refine nm ((!(decide (Tm.buildE ([]:List DThing) texts (Fr.rndL total (Fr.frs (Fr.shQ weights) ((G5 1).sl 0))) blinds=0))) || (!(decide (((Tm.buildL ([]:List DThing) texts (Fr.rndL total (Fr.frs (Fr.shQ weights) ((G5 1).sl 0))) blinds).length:Int)=((Fr.rndL total (Fr.frs (Fr.shQ weights) ((G5 1).sl 0))).length:Int)))):Bool) fun p2 hp2=>?_;refine V.g [.k (iv (Tm.buildE ([]:List DThing) texts (Fr.rndL total (Fr.frs (Fr.shQ weights) ((G5 1).sl 0))) blinds)),.k (bv (!(decide (Tm.buildE ([]:List DThing) texts (Fr.rndL total (Fr.frs (Fr.shQ weights) ((G5 1).sl 0))) blinds=0)))),.k (bv (!(decide (Tm.buildE ([]:List DThing) texts (Fr.rndL total (Fr.frs (Fr.shQ weights) ((G5 1).sl 0))) blinds=0)))),.k (((G16 4).ss 1).v),.ln (kf true (.f 2) (Tm.buildL ([]:List DThing) texts (Fr.rndL total (Fr.frs (Fr.shQ weights) ((G5 1).sl 0))) blinds) (fun _=>(G16 4).ss 1)),.k (((G6 2).ss 0).v),.ln (kf true (.f 0) (Fr.rndL total (Fr.frs (Fr.shQ weights) ((G5 1).sl 0))) (fun _=>(G6 2).ss 0)),.k (bv (!(decide (((Tm.buildL ([]:List DThing) texts (Fr.rndL total (Fr.frs (Fr.shQ weights) ((G5 1).sl 0))) blinds).length:Int)=((Fr.rndL total (Fr.frs (Fr.shQ weights) ((G5 1).sl 0))).length:Int))))),.orn g0 false (!(decide (Tm.buildE ([]:List DThing) texts (Fr.rndL total (Fr.frs (Fr.shQ weights) ((G5 1).sl 0))) blinds=0))) (!(decide (((Tm.buildL ([]:List DThing) texts (Fr.rndL total (Fr.frs (Fr.shQ weights) ((G5 1).sl 0))) blinds).length:Int)=((Fr.rndL total (Fr.frs (Fr.shQ weights) ((G5 1).sl 0))).length:Int)))) p2 hp2] fun _ _ G17=>?_;intro S_ s_;refine V.cn (b:=p2) (iN hp2 (iOT (iNT iDF) (iNT iDF))) (iN hp2 (iOF (iNF iDT) (iNF iDT))) (fun q7=>?_) (fun q8=>?_)
  · rcases q7 with h | h
    · exact (h hBE).elim
    omega
  refine nm (((Fr.rndL total (Fr.frs (Fr.shQ weights) ((G5 1).sl 0))).length:Int) * blind:Int) fun n1 hn1=>?_;have hmul:0≤((Fr.rndL total (Fr.frs (Fr.shQ weights) ((G5 1).sl 0))).length:Int) * blind∧((Fr.rndL total (Fr.frs (Fr.shQ weights) ((G5 1).sl 0))).length:Int) * blind≤20 * 65535:=⟨Int.mul_nonneg (by omega) hw.1,Int.mul_le_mul (by omega) hw.2 hw.1 (by omega)⟩
  refine V.g [.k (((G6 2).ss 0).v),.ln (kf true (.f 0) (Fr.rndL total (Fr.frs (Fr.shQ weights) ((G5 1).sl 0))) (fun _=>(G6 2).ss 0)),.k (.int .u16 blind),.ek g0 .i64 blind blind (fun _=>by rw [IntKind.wrap_i64];omega),.ar (((Fr.rndL total (Fr.frs (Fr.shQ weights) ((G5 1).sl 0))).length:Int) * blind) n1 hn1 (by omega) (by omega),.k (iv n1)] fun _ _ G18=>?_;intro S_ s_
  refine V.g [.k (iv 0)] fun _ _ G19=>?_;intro S_ s_
  refine V.loop (γ:=Int) (fun j=>⟨[(1,iv total),(2,.int .u16 blind),(7,bv true),(10,((G6 2).ss 0).v),(15,pp ((G16 10).b) 0),(16,iv (Tm.buildR ([]:List DThing) texts (Fr.rndL total (Fr.frs (Fr.shQ weights) ((G5 1).sl 0))) blinds)),(17,((G16 4).ss 1).v),(19,iv n1),(20,iv j)],[fs true (Fr.rndL total (Fr.frs (Fr.shQ weights) ((G5 1).sl 0))) ((G6 2).ss 0),fs true (Tm.buildL ([]:List DThing) texts (Fr.rndL total (Fr.frs (Fr.shQ weights) ((G5 1).sl 0))) blinds) ((G16 4).ss 1),fs true (Tm.buildT ([]:List DThing) texts (Fr.rndL total (Fr.frs (Fr.shQ weights) ((G5 1).sl 0))) blinds) ((G16 4).ss 0)],[os true 9 texts textss,os true 3 blinds blindss,.blk ((G16 10).b) (ca (DVault.mk ⟨Tm.buildT ([]:List DThing) texts (Fr.rndL total (Fr.frs (Fr.shQ weights) ((G5 1).sl 0))) blinds,(G16 4).ss 0⟩)) 51]⟩) (fun j=>(0≤j)∧(j≤((Fr.rndL total (Fr.frs (Fr.shQ weights) ((G5 1).sl 0))).length:Int))) (fun j=>(((Fr.rndL total (Fr.frs (Fr.shQ weights) ((G5 1).sl 0))).length:Int)-j).toNat) 0 (by kernel_rfl) [0,2,1] (by kernel_rfl) ?_ ?_
  · refine ⟨?_,?_⟩
    · show 0≤(0:Int)
      first | omega | rfl | (simp;done) | (subst_vars;simp;done)
    show (0:Int)≤((Fr.rndL total (Fr.frs (Fr.shQ weights) ((G5 1).sl 0))).length:Int)
    first | omega | rfl | (simp;done) | (subst_vars;simp;done)
  rintro j hF2 kw21 Z2 hZ2;have hF2:(0≤j)∧(j≤((Fr.rndL total (Fr.frs (Fr.shQ weights) ((G5 1).sl 0))).length:Int)):=hF2;obtain ⟨hf5,hf6⟩:=hF2;clear kw21;refine V.g [.k (iv j),.k (((G6 2).ss 0).v),.ln (kf true (.f 0) (Fr.rndL total (Fr.frs (Fr.shQ weights) ((G5 1).sl 0))) (fun _=>(G6 2).ss 0)),.k (bv (decide (j < ((Fr.rndL total (Fr.frs (Fr.shQ weights) ((G5 1).sl 0))).length:Int))))] fun _ _ G20=>?_;intro S_ s_;refine V.cn (b:=decide (j < ((Fr.rndL total (Fr.frs (Fr.shQ weights) ((G5 1).sl 0))).length:Int))) iDT iDF (fun q9=>?_) (fun q10=>?_)
  · refine nm ((Tm.buildL ([]:List DThing) texts (Fr.rndL total (Fr.frs (Fr.shQ weights) ((G5 1).sl 0))) blinds).getD j.toNat default:Int) fun v1 hv1=>?_;refine nm ((Fr.rndL total (Fr.frs (Fr.shQ weights) ((G5 1).sl 0))).getD j.toNat default:Int) fun v2 hv2=>?_;refine V.r [.ld 2 0 true (fun _=>Dat.cells (DVault.mk ⟨Tm.buildT ([]:List DThing) texts (Fr.rndL total (Fr.frs (Fr.shQ weights) ((G5 1).sl 0))) blinds,(G16 4).ss 0⟩)),.ld 2 0 true (fun _=>Dat.cells (DVault.mk ⟨Tm.buildT ([]:List DThing) texts (Fr.rndL total (Fr.frs (Fr.shQ weights) ((G5 1).sl 0))) blinds,(G16 4).ss 0⟩)),.k (iv (Tm.buildR ([]:List DThing) texts (Fr.rndL total (Fr.frs (Fr.shQ weights) ((G5 1).sl 0))) blinds)),.k (((G16 4).ss 1).v),.k (iv j),.ix g0 (kf true (.f 1) (Tm.buildL ([]:List DThing) texts (Fr.rndL total (Fr.frs (Fr.shQ weights) ((G5 1).sl 0))) blinds) (fun _=>(G16 4).ss 1)) j (fun _=>⟨by omega,by omega⟩),.le g0 (kf true (.f 1) (Tm.buildL ([]:List DThing) texts (Fr.rndL total (Fr.frs (Fr.shQ weights) ((G5 1).sl 0))) blinds) (fun _=>(G16 4).ss 1)) j none false v1 hv1 (fun _=>⟨by omega,by omega⟩) false (fun _=>[iv v1]),.ct g0 7 25 false [] [] [(kf true (.f 2) (Tm.buildT ([]:List DThing) texts (Fr.rndL total (Fr.frs (Fr.shQ weights) ((G5 1).sl 0))) blinds) (fun _=>(G16 4).ss 0)).a] (fun _ G=>path_ct (Tm.buildT ([]:List DThing) texts (Fr.rndL total (Fr.frs (Fr.shQ weights) ((G5 1).sl 0))) blinds) ((G16 4).ss 0) (Tm.buildR ([]:List DThing) texts (Fr.rndL total (Fr.frs (Fr.shQ weights) ((G5 1).sl 0))) blinds) v1),.k (iv total),.k (iv n1),.k (((G6 2).ss 0).v),.k (iv j),.ix g0 (kf true (.f 0) (Fr.rndL total (Fr.frs (Fr.shQ weights) ((G5 1).sl 0))) (fun _=>(G6 2).ss 0)) j (fun _=>⟨by omega,by omega⟩),.le g0 (kf true (.f 0) (Fr.rndL total (Fr.frs (Fr.shQ weights) ((G5 1).sl 0))) (fun _=>(G6 2).ss 0)) j none false v2 hv2 (fun _=>⟨by omega,by omega⟩) false (fun _=>[iv v2]),.k (.int .u16 blind),.ek g0 .i64 blind blind (fun _=>by rw [IntKind.wrap_i64];omega),.cp g0 16 24 [(kf true (.f 2) (Tm.buildT ([]:List DThing) texts (Fr.rndL total (Fr.frs (Fr.shQ weights) ((G5 1).sl 0))) blinds) (fun _=>(G16 4).ss 0)).a,(kf true (.g 7 0) (Tm.pathF (Tm.buildT ([]:List DThing) texts (Fr.rndL total (Fr.frs (Fr.shQ weights) ((G5 1).sl 0))) blinds) (Tm.buildR ([]:List DThing) texts (Fr.rndL total (Fr.frs (Fr.shQ weights) ((G5 1).sl 0))) blinds) v1) (fun G=>(G 7).ss 0)).a] (fun _ G=>check_ct (Tm.buildT ([]:List DThing) texts (Fr.rndL total (Fr.frs (Fr.shQ weights) ((G5 1).sl 0))) blinds) ((G16 4).ss 0) (Tm.pathF (Tm.buildT ([]:List DThing) texts (Fr.rndL total (Fr.frs (Fr.shQ weights) ((G5 1).sl 0))) blinds) (Tm.buildR ([]:List DThing) texts (Fr.rndL total (Fr.frs (Fr.shQ weights) ((G5 1).sl 0))) blinds) v1) ((G 7).ss 0) total n1 ⟨#[112,97,114,116]⟩ v2 blind),.k (bv (!(decide (Tm.checkP (Tm.buildT ([]:List DThing) texts (Fr.rndL total (Fr.frs (Fr.shQ weights) ((G5 1).sl 0))) blinds) (Tm.pathF (Tm.buildT ([]:List DThing) texts (Fr.rndL total (Fr.frs (Fr.shQ weights) ((G5 1).sl 0))) blinds) (Tm.buildR ([]:List DThing) texts (Fr.rndL total (Fr.frs (Fr.shQ weights) ((G5 1).sl 0))) blinds) v1) total n1 ⟨#[112,97,114,116]⟩ v2 blind))))] fun _ _ G21 kw23=>?_;intro S_ s_
    obtain ⟨⟨kl10, -⟩, -⟩:Lq (Tm.pathF (Tm.buildT ([]:List DThing) texts (Fr.rndL total (Fr.frs (Fr.shQ weights) ((G5 1).sl 0))) blinds) (Tm.buildR ([]:List DThing) texts (Fr.rndL total (Fr.frs (Fr.shQ weights) ((G5 1).sl 0))) blinds) v1) (((G21 7).ss 0).v)∧Lq texts textss.v∧Lq blinds blindss.v∧True:=kq kw23;clear kw23;have hck:=Tm.parts_check (n:=weights.length) hP hT.2 hw (by decide:(((⟨#[112,97,114,116]⟩:ByteArray)).size:Int)≤8000) hn0 (by omega) (i:=j) (by omega) (by omega) (a:=n1) (by rw [hn1,hPl]) hv2 (k:=v1) (by rw [←htx,← hbx];exact hv1);rw [←htx,← hbx] at hck;refine V.cn (b:=!(decide (Tm.checkP (Tm.buildT ([]:List DThing) texts (Fr.rndL total (Fr.frs (Fr.shQ weights) ((G5 1).sl 0))) blinds) (Tm.pathF (Tm.buildT ([]:List DThing) texts (Fr.rndL total (Fr.frs (Fr.shQ weights) ((G5 1).sl 0))) blinds) (Tm.buildR ([]:List DThing) texts (Fr.rndL total (Fr.frs (Fr.shQ weights) ((G5 1).sl 0))) blinds) v1) total n1 ⟨#[112,97,114,116]⟩ v2 blind))) (iNT iDF) (iNF iDT) (fun q11=>?_) (fun q12=>?_)
    · exact (q11 hck).elim
    refine V.g [.k (iv j),.a (j+1) (by omega) (by omega),.k (iv (j+1))] fun _ _ G22=>?_;intro S_ s_
    refine V.rnd hZ2 (j+1) [0,1,2] (by kernel_rfl) ?_ ?_
    · refine ⟨?_,?_⟩
      · show 0≤(j+1)
        first | omega | rfl | (simp;done) | (subst_vars;simp;done)
      show (j+1)≤((Fr.rndL total (Fr.frs (Fr.shQ weights) ((G5 1).sl 0))).length:Int)
      first | omega | rfl | (simp;done) | (subst_vars;simp;done)
    show (((Fr.rndL total (Fr.frs (Fr.shQ weights) ((G5 1).sl 0))).length:Int)-(j+1)).toNat < (((Fr.rndL total (Fr.frs (Fr.shQ weights) ((G5 1).sl 0))).length:Int)-j).toNat;omega
  refine V.g [.kb true,.kb true] fun _ _ G23=>?_;intro S_ s_
  exact V.rs [0] [] [] [] [] [] (bv true)

open Go Go.RowKit Go.WideShapes Go.ChangeShapes
theorem wf16 {a:Int} (h:(Lit.int .u16 a).wf=true):0≤a∧a≤65535:=by
  simp [Lit.wf,IntKind.min,IntKind.max,IntKind.signed,IntKind.bits] at h
  omega
end Kb
