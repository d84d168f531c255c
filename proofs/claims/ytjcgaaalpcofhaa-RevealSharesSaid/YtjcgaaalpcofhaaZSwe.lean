/- Texts for the claim, put together: the calculus of regions, its rules, and contracts of the functions that the law reaches. -/
import Derived.Test.YtjcgaaalpcofhaaZSwd
import Derived.ChangeSame
import Derived.ChangeArms
import Derived.WideKeyArgs
import Derived.Carry
import Derived.OpenShut
import Derived.Test.YtjcgaaalpcofhaaChecked
set_option linter.unusedVariables false
set_option linter.unusedSectionVars false
set_option linter.unusedSimpArgs false
namespace Kb
open Go Go.Proofs
set_option maxRecDepth 10000 in
theorem shs_ct (l:List DFrac) (ls:SV) (hW:Fr.Wb l) :
    Cp Try.prog 43 #[ls.v] [fs true l ls] (bv (decide (Fr.isSh l))):=by
  refine V.fn mo Try.func43 18 0 (by kernel_rfl) fun w H ε k0=>?_;obtain ⟨⟨kl1, -⟩, -⟩:Lq l ls.v∧True:=kq k0
  clear k0;refine V.g [.kb false] fun _ _ G1=>?_;intro S s
  refine nm (Bg.sgn (Fr.sumW l).num:Int) fun n1 hn1=>?_;refine nl (Bg.dig (Fr.sumW l).num.natAbs) fun l1 hl1 hl1n=>?_;refine nl (Bg.dig (Fr.sumW l).den) fun l2 hl2 hl2n=>?_;refine nm (Bg.sgn (1:Int):Int) fun n2 hn2=>?_;refine nl (Bg.dig (1:Int).natAbs) fun l3 hl3 hl3n=>?_;refine nl (Bg.dig 1) fun l4 hl4 hl4n=>?_;refine nm (if Fr.FrB n1 l1 (1:Int) l2∧Fr.FrB n2 l3 (1:Int) l4 then Fr.cmpQ (Fr.fq n1 l1 l2) (Fr.fq n2 l3 l4) else 0:Int) fun n3 hn3=>?_;refine nm (((!(l.any Fr.wrongB)) && (!(l.any Fr.negB))) && (decide (n3=0)):Bool) fun p1 hp1=>?_;have zw:Fr.Fz n1 l1 1 l2 (Fr.sumW l):=by subst_vars;exact ⟨Fr.FrB.of _,Fr.fq_of _⟩
  have zo:Fr.Fz n2 l3 1 l4 ((1:Int):Rat):=by subst_vars;exact Fr.intz 1
  have hcmp:(∀ x ∈ l,Fr.rt x)→n3=Fr.cmpQ (Fr.sumW l) 1:=fun hR=>by rw [hn3,if_pos ⟨zw.rt,zo.rt⟩,zw.v,zo.v];rfl
  have hzo:=zo.len (Fr.Hb.int (by omega));have hzo1:=hzo.1;have hzo2:=hzo.2;have hzl:=fun (hR:∀ x ∈ l,Fr.rt x)=>zw.len (hW.hbW hR)
  refine V.g [.k (ls.v),.cp g0 1 33 [(kf false (.f 0) l (fun _=>ls)).a] (fun _ G=>conw_ct l ls (by first | assumption | exact Fr.Wb.lf (by assumption))),.k (bv (!(l.any Fr.wrongB))),.k (bv (!(l.any Fr.wrongB))),.k (ls.v),.cp (gT (b:=!(l.any Fr.wrongB)) (iNT Iff.rfl)) 5 33 [(kf false (.f 0) l (fun _=>ls)).a] (fun hg G=>conn_ct l ls (by first | assumption | exact Fr.Wb.lf (by assumption))),.k (bv (!(l.any Fr.negB))),.and g0 false (!(l.any Fr.wrongB)) (!(l.any Fr.negB)),.k (bv ((!(l.any Fr.wrongB)) && (!(l.any Fr.negB)))),.k (ls.v),.ct (gT (b:=(!(l.any Fr.wrongB)) && (!(l.any Fr.negB))) (iAT (iNT Iff.rfl) (iNT Iff.rfl))) 10 36 false [] [] [(kf false (.f 0) l (fun _=>ls)).a] (fun hg G=>sum_ctv l ls hW (Fr.anyW.1 (by simpa using hg.1)) n1 hn1 l1 hl1 l2 hl2),.ct (gT (b:=(!(l.any Fr.wrongB)) && (!(l.any Fr.negB))) (iAT (iNT Iff.rfl) (iNT Iff.rfl))) 11 18 false [] [] [] (fun hg G=>fint_ctv (1:Int) (by omega) n2 hn2 l3 hl3 l4 hl4),.cp (gT (b:=(!(l.any Fr.wrongB)) && (!(l.any Fr.negB))) (iAT (iNT Iff.rfl) (iNT Iff.rfl))) 12 49 [(kf true (.g 10 0) l1 (fun G=>(G 10).ss 0)).a,(kf true (.g 10 1) l2 (fun G=>(G 10).ss 1)).a,(kf true (.g 11 0) l3 (fun G=>(G 11).ss 0)).a,(kf true (.g 11 1) l4 (fun G=>(G 11).ss 1)).a] (fun hg G=>fcmp_ctv n1 l1 ((G 10).ss 0) (1:Int) l2 ((G 10).ss 1) n2 l3 ((G 11).ss 0) (1:Int) l4 ((G 11).ss 1) (by have:=(hzl (Fr.anyW.1 (by simpa using hg.1))).1;omega) (by have:=(hzl (Fr.anyW.1 (by simpa using hg.1))).2;omega) (by omega) (by omega) n3 hn3),.k (bv (decide (n3=0))),.andn g0 false ((!(l.any Fr.wrongB)) && (!(l.any Fr.negB))) (decide (n3=0)) p1 hp1,.k (bv p1)] fun _ _ G2=>?_;intro S s
  have e0:p1=decide (Fr.isSh l):=by
    refine Bool.eq_iff_iff.2 (Iff.trans (iN hp1 (iAT (iAT (iNT Iff.rfl) (iNT Iff.rfl)) iDT)) (Iff.trans ?_ decide_eq_true_iff.symm));have h:=Fr.isSh_is hcmp;rw [Bool.not_eq_true,Bool.not_eq_true] at h;exact h
  exact V.rt [0] [] [] [] [] [] (bv p1) (cong1 (fun (x0:Bool)=>(bv x0:Value)) e0)
set_option maxRecDepth 10000 in
theorem round_ct (total:Int) (l:List DFrac) (ls:SV) (hW:Fr.Wb l) (hl:l.length≤20) :
    Ct Try.prog 15 #[iv total,ls.v] [fs true l ls] [] (fun g=>.tuple #[((g.ss 0)).v,iv (if Fr.rndOk total l then (0:Int) else 1)]) (fun g=>[fs true (Fr.rndL total l) (g.ss 0)]) (fun g=>[]) (fun g=>[]):=by
  refine V.fn mo Try.func15 100 6 (by kernel_rfl) fun w H ε k0=>?_;obtain ⟨⟨kl1, -⟩, -⟩:Lq l ls.v∧True:=kq k0
  clear k0;refine V.g [.k (.slice none 0 0),.k (iv 0)] fun _ _ G1=>?_;intro S_ s_
  refine nm ((decide (total < 0)) || (decide (1099511627776 < total)):Bool) fun p1 hp1=>?_;refine V.g [.k (iv total),.k (bv (decide (total < 0))),.k (bv (decide (total < 0))),.k (iv total),.k (bv (decide (1099511627776 < total))),.orn g0 false (decide (total < 0)) (decide (1099511627776 < total)) p1 hp1,.k (bv p1),.k (ls.v),.cp (gF (b:=p1) (iN hp1 (iOF iDF iDF))) 8 43 [(kf false (.f 0) l (fun _=>ls)).a] (fun hg G=>shs_ct l ls hW),.k (bv (!(decide (Fr.isSh l)))),.or g0 false p1 (!(decide (Fr.isSh l)))] fun _ _ G2=>?_;intro S_ s_
  refine V.cn (b:=p1 || (!(decide (Fr.isSh l)))) (iOT (iN hp1 (iOT iDT iDT)) (iNT iDF)) (iOF (iN hp1 (iOF iDF iDF)) (iNF iDT)) (fun q1=>?_) (fun q2=>?_)
  · have hNo:¬ Fr.rndOk total l:=by have hqq:=q1;rintro ⟨h1,h2⟩;rcases hqq with (h | h) | h;omega;omega;exact h h2
    refine V.g [.k (.slice none 0 0),.k (iv 1)] fun _ _ G3=>?_;intro S_ s_
    refine V.nilF (α:=Int) ?_;have e0:([]:List Int)=Fr.rndL total l:=(Fr.rndL_n hNo).symm;rw [←e0];have e1:(1:Int)=if Fr.rndOk total l then (0:Int) else 1:=(if_neg hNo).symm
    exact V.rt [0,0] [{}] [fun _=>{}] [] [1] [] (.tuple #[SV.v ({}),iv 1]) (cong1 (fun (x1:Int)=>(.tuple #[SV.v ({}),iv x1]:Value)) e1)
  have hOk:Fr.rndOk total l:=by have hqq:=q2;exact ⟨by omega,by first | exact hqq.2 | exact Decidable.not_not.1 hqq.2⟩
  have hOk1:=hOk.1;refine nm (List.replicate (l.length:Int).toNat (0:Int):List Int) fun l1 hl1=>?_;have hl1n:=congrArg List.length hl1;try simp only [List.length_append,List.length_cons,List.length_nil,List.length_replicate,List.length_set,List.length_take,List.length_drop,List.length_map,List.length_reverse,List.length_range] at hl1n
  refine V.g [.k (ls.v),.ln (kf false (.f 0) l (fun _=>ls)),.mks 2 0 3 8 (l.length:Int) l1 hl1 (by omega) (by omega) (by omega),.v fun G=>((G 2).s).v] fun _ _ G4=>?_;intro S_ s_
  refine nm (List.replicate (l.length:Int).toNat (default:DFrac):List DFrac) fun l2 hl2=>?_;have hl2n:=congrArg List.length hl2;try simp only [List.length_append,List.length_cons,List.length_nil,List.length_replicate,List.length_set,List.length_take,List.length_drop,List.length_map,List.length_reverse,List.length_range] at hl2n
  refine V.g [.k (ls.v),.ln (kf false (.f 0) l (fun _=>ls)),.mks 2 1 33 64 (l.length:Int) l2 hl2 (by omega) (by omega) (by omega),.nb 3 2 (fun b=>pp b 0) 22 (fun _=>#[.slice none 0 0]),.st 2 (fun G=>.blk ((G 3).b) #[((G 2).s).v] 22)] fun _ _ G5=>?_;intro S_ s_
  refine V.g [.k (.slice none 0 0)] fun _ _ G6=>?_;intro S_ s_
  refine V.g [.k (iv total),.k (iv total)] fun _ _ G7=>?_;intro S_ s_
  refine V.g [.k (ls.v),.ln (kf false (.f 0) l (fun _=>ls)),.k (iv 0)] fun _ _ G8=>?_;intro S_ s_
  refine V.on (α:=Int) 5 3 (by kernel_rfl) ?_;refine V.loop (γ:=List Int × SV × List Int × SV × Int × Int × List DFrac × SV) (fun ⟨out,outs,order,orders,left,k0,rests,restss⟩=>⟨[(0,iv total),(6,outs.v),(7,pp ((G5 3).b) 0),(8,orders.v),(9,iv left),(34,ls.v),(35,iv (l.length:Int)),(36,iv k0)],[fs false l ls],[os true 3 out outs,os true 33 rests restss,.blk ((G5 3).b) #[restss.v] 22,.no,.no,os true 3 order orders]⟩) (fun ⟨out,outs,order,orders,left,k0,rests,restss⟩=>(0≤k0)∧(k0≤(l.length:Int))∧(Fr.RI total l out rests order left k0.toNat)) (fun ⟨out,outs,order,orders,left,k0,rests,restss⟩=>((l.length:Int)-k0).toNat) (l1,(G4 2).s,([]:List Int),{},total,0,l2,(G5 2).s) (by kernel_rfl) [0] (by kernel_rfl) ?_ ?_
  · refine ⟨?_,?_,?_⟩
    · show 0≤(0:Int)
      first | omega | rfl | (simp;done) | (subst_vars;simp;done)
    · show (0:Int)≤(l.length:Int)
      first | omega | rfl | (simp;done) | (subst_vars;simp;done)
    show Fr.RI total l l1 l2 ([]:List Int) total (0:Int).toNat;rw [hl1,hl2,Int.toNat_natCast];exact Fr.RI.start total l hOk.1
  rintro ⟨out,outs,order,orders,left,k0,rests,restss⟩ hF1 kw9 Z1 hZ1;have hF1:(0≤k0)∧(k0≤(l.length:Int))∧(Fr.RI total l out rests order left k0.toNat):=hF1;obtain ⟨hf1,hf2,hf3⟩:=hF1;obtain ⟨-,⟨kl2, -⟩,⟨kl3, -⟩,⟨kl4, -⟩, -⟩:Lq l ls.v∧Lq out outs.v∧Lq rests restss.v∧Lq order orders.v∧True:=kq kw9;clear kw9;have hRol:=hf3.ol;have hRrl:=hf3.rl;have hRlr:=hf3.lr;have hodn:=congrArg List.length hf3.od;rw [Fr.iota_len] at hodn;refine V.g [.k (bv (decide (k0 < (l.length:Int))))] fun _ _ G9=>?_;intro S_ s_;refine V.cn (b:=decide (k0 < (l.length:Int))) iDT iDF (fun q3=>?_) (fun q4=>?_)
  · refine nm (l.getD k0.toNat default:DFrac) fun x1 hx1=>?_;refine V.r [.k (iv k0),.ix g0 (kf false (.f 0) l (fun _=>ls)) k0 (fun _=>⟨by omega,by omega⟩),.le g0 (kf false (.f 0) l (fun _=>ls)) k0 none true x1 hx1 (fun _=>⟨by omega,by omega⟩) true (fun _=>Dat.cells x1),.nb 3 3 (fun b=>pp b 0) 33 (fun _=>ca (DFrac.mk ⟨0,[],{}⟩ ⟨0,[],{}⟩)),.k (iv k0),.st 3 (fun G=>.blk ((G 3).b) (ca x1) 33)] fun _ _ G10 kw11=>?_;intro S_ s_
    obtain ⟨⟨⟨kl5, -⟩,⟨kl6, -⟩⟩, -⟩:(Lq x1.P.Digits.l x1.P.Digits.s.v∧Lq x1.Q.Digits.l x1.Q.Digits.s.v)∧Lq out outs.v∧Lq rests restss.v∧Lq order orders.v∧True:=kq kw11;clear kw11;refine nm (Bg.sgn total:Int) fun n1 hn1=>?_;refine nl (Bg.dig total.natAbs) fun l3 hl3 hl3n=>?_;refine nl (Bg.dig 1) fun l4 hl4 hl4n=>?_;refine nm (Fr.rS (Fr.FrB x1.P.Sign x1.P.Digits.l x1.Q.Sign x1.Q.Digits.l∧Fr.FrB n1 l3 (1:Int) l4) ((Fr.fq x1.P.Sign x1.P.Digits.l x1.Q.Digits.l) * (Fr.fq n1 l3 l4)):Int) fun n2 hn2=>?_;refine nl (Fr.rD (Fr.FrB x1.P.Sign x1.P.Digits.l x1.Q.Sign x1.Q.Digits.l∧Fr.FrB n1 l3 (1:Int) l4) ((Fr.fq x1.P.Sign x1.P.Digits.l x1.Q.Digits.l) * (Fr.fq n1 l3 l4))) fun l5 hl5 hl5n=>?_;refine nm (Fr.rT (Fr.FrB x1.P.Sign x1.P.Digits.l x1.Q.Sign x1.Q.Digits.l∧Fr.FrB n1 l3 (1:Int) l4):Int) fun n3 hn3=>?_;refine nl (Fr.rE (Fr.FrB x1.P.Sign x1.P.Digits.l x1.Q.Sign x1.Q.Digits.l∧Fr.FrB n1 l3 (1:Int) l4) ((Fr.fq x1.P.Sign x1.P.Digits.l x1.Q.Digits.l) * (Fr.fq n1 l3 l4))) fun l6 hl6 hl6n=>?_;refine nm (if ¬ (Fr.FrB x1.P.Sign x1.P.Digits.l x1.Q.Sign x1.Q.Digits.l∧Fr.FrB n1 l3 (1:Int) l4) then (1:Int) else 0:Int) fun n4 hn4=>?_;have hxm:=getD_mem (l:=l) (k:=k0.toNat) (by omega) hx1;have hxr:=hOk.2.1 _ hxm;have hxl:=hW.2 _ hxm;have hxl1:=hxl.1;have hxl2:=hxl.2;have hx01:=hOk.2.one hxm;have hflr:=Fr.fl_rng (t:=total) (r:=Fr.qv x1) hOk.1.1 hx01.1 hx01.2;have zt:Fr.Fz n1 l3 1 l4 ((total:Int):Rat):=by subst_vars;exact Fr.intz total
    have hzt:=zt.len (Fr.Hb.int (by omega));have hzt1:=hzt.1;have hzt2:=hzt.2;have zx:=Fr.Fz.of ⟨hxr,zt.rt⟩ hn2 hl5 hn3 hl6;rw [zt.v] at zx;have zxb:=(hxr.z.hb hxl.1 hxl.2).mul (Fr.Hb.int (n:=total) (by omega));have hzx:=zx.len zxb;have hzx1:=hzx.1;have hzx2:=hzx.2;refine V.r [.ld 3 0 true (fun _=>Dat.cells x1),.k (iv total),.ct g0 2 18 false [] [] [] (fun _ G=>fint_ctv total (by omega) n1 hn1 l3 hl3 l4 hl4),.ct g0 3 11 false [] [] [(kx false (.f 1) x1 x1.P.Digits.l (fun _=>x1.P.Digits.s) (fun _ H (h:Dat.good H (x1:DFrac))=>h.1)).a,(kx false (.f 1) x1 x1.Q.Digits.l (fun _=>x1.Q.Digits.s) (fun _ H (h:Dat.good H (x1:DFrac))=>h.2)).a,(kf true (.g 2 0) l3 (fun G=>(G 2).ss 0)).a,(kf true (.g 2 1) l4 (fun G=>(G 2).ss 1)).a] (fun _ G=>fmul_ctv x1.P.Sign x1.P.Digits.l x1.P.Digits.s x1.Q.Sign x1.Q.Digits.l x1.Q.Digits.s n1 l3 ((G 2).ss 0) (1:Int) l4 ((G 2).ss 1) (by omega) (by omega) (by omega) (by omega) n2 hn2 l5 hl5 n3 hn3 l6 hl6 n4 hn4),.v fun G=>.tuple #[ag (DFrac.mk ⟨n2,l5,(G 3).ss 0⟩ ⟨n3,l6,(G 3).ss 1⟩),iv n4],.v fun G=>ag (DFrac.mk ⟨n2,l5,(G 3).ss 0⟩ ⟨n3,l6,(G 3).ss 1⟩),.k (iv n4),.nb 7 4 (fun b=>pp b 0) 33 (fun _=>ca (DFrac.mk ⟨0,[],{}⟩ ⟨0,[],{}⟩)),.st 4 (fun G=>.blk ((G 7).b) (ca (DFrac.mk ⟨n2,l5,(G 3).ss 0⟩ ⟨n3,l6,(G 3).ss 1⟩)) 33),.k (iv n4)] fun _ _ G11 kw12=>?_;intro S_ s_
    obtain ⟨⟨kl7, -⟩,⟨kl8, -⟩,⟨kl9, -⟩,⟨kl10, -⟩, -⟩:Lq l3 (((G11 2).ss 0).v)∧Lq l4 (((G11 2).ss 1).v)∧Lq l5 (((G11 3).ss 0).v)∧Lq l6 (((G11 3).ss 1).v)∧Lq out outs.v∧Lq rests restss.v∧Lq order orders.v∧True:=kq kw12;clear kw12;refine nm (Bg.oS (Fr.FrB n2 l5 n3 l6) (Fr.fq n2 l5 l6).floor:Int) fun n5 hn5=>?_;refine nl (Bg.oD (Fr.FrB n2 l5 n3 l6) (Fr.fq n2 l5 l6).floor) fun l7 hl7 hl7n=>?_;refine nm (Bg.intV n5 l7:Int) fun n6 hn6=>?_;refine nm (out.getD k0.toNat default:Int) fun v1 hv1=>?_;refine nm (out.set k0.toNat n6:List Int) fun l8 hl8=>?_;have hl8n:=congrArg List.length hl8;try simp only [List.length_append,List.length_cons,List.length_nil,List.length_replicate,List.length_set,List.length_take,List.length_drop,List.length_map,List.length_reverse,List.length_range] at hl8n
    have zf:=Fr.Bz.of zx.rt hn5 hl7;rw [zx.v] at zf;have hfl:n6=Fr.fl total (Fr.qv x1):=by rw [hn6];exact zf.intV (by have h1:=hflr.1;have h2:=hflr.2;unfold Fr.fl Fr.qv at h1 h2;omega)
    have hfr:0≤n6∧n6≤1099511627776:=by rw [hfl];omega
    refine V.r [.k (outs.v),.k (iv k0),.ld 4 0 true (fun _=>Dat.cells (DFrac.mk ⟨n2,l5,(G11 3).ss 0⟩ ⟨n3,l6,(G11 3).ss 1⟩)),.ct g0 3 45 false [] [] [(kf true (.f 4) l5 (fun _=>(G11 3).ss 0)).a,(kf true (.f 5) l6 (fun _=>(G11 3).ss 1)).a] (fun _ G=>ffloor_ctv n2 l5 ((G11 3).ss 0) n3 l6 ((G11 3).ss 1) (by omega) (by omega) n5 hn5 l7 hl7),.cp g0 4 44 [(kf true (.g 3 0) l7 (fun G=>(G 3).ss 0)).a] (fun _ G=>int_ctv n5 l7 ((G 3).ss 0) n6 hn6),.k (.tuple #[iv n6,bv (decide (Bg.inI n5 l7))]),.k (iv n6),.k (bv (decide (Bg.inI n5 l7))),.ix g0 (ko true 3 0 out (fun _=>outs)) k0 (fun _=>⟨by omega,by omega⟩),.se g0 9 0 3 true out (fun _=>outs) k0 none v1 n6 hv1 true l8 hl8 (fun _=>⟨by omega,by omega⟩) (fun _=>rfl) [] (fun _ _ _ _=>trivial)] fun _ _ G12 kw13=>?_;intro S_ s_
    obtain ⟨⟨kl11, -⟩, -⟩:Lq l7 (((G12 3).ss 0).v)∧Lq l8 outs.v∧Lq rests restss.v∧Lq order orders.v∧True:=kq kw13;clear kw13;refine nm (l8.getD k0.toNat default:Int) fun v2 hv2=>?_;refine nm (Bg.sgn v2:Int) fun n7 hn7=>?_;refine nl (Bg.dig v2.natAbs) fun l9 hl9 hl9n=>?_;refine nm (Fr.rS (Fr.FrB n2 l5 n3 l6∧Fr.FrB n7 l9 (1:Int) l4) ((Fr.fq n2 l5 l6)-(Fr.fq n7 l9 l4)):Int) fun n8 hn8=>?_;refine nl (Fr.rD (Fr.FrB n2 l5 n3 l6∧Fr.FrB n7 l9 (1:Int) l4) ((Fr.fq n2 l5 l6)-(Fr.fq n7 l9 l4))) fun l10 hl10 hl10n=>?_;refine nm (Fr.rT (Fr.FrB n2 l5 n3 l6∧Fr.FrB n7 l9 (1:Int) l4):Int) fun n9 hn9=>?_;refine nl (Fr.rE (Fr.FrB n2 l5 n3 l6∧Fr.FrB n7 l9 (1:Int) l4) ((Fr.fq n2 l5 l6)-(Fr.fq n7 l9 l4))) fun l11 hl11 hl11n=>?_;refine nm (if ¬ (Fr.FrB n2 l5 n3 l6∧Fr.FrB n7 l9 (1:Int) l4) then (1:Int) else 0:Int) fun n10 hn10=>?_;refine nm (rests.getD k0.toNat default:DFrac) fun x2 hx2=>?_;have hv:v2=n6:=by rw [hv2,hl8,Fr.getD_set' (by have:=hf3.ol;omega),if_pos rfl]
    have zi:Fr.Fz n7 l9 1 l4 ((v2:Int):Rat):=by subst_vars;exact Fr.intz _
    have hzi:=zi.len (Fr.Hb.int (by omega));have hzi1:=hzi.1;have hzi2:=hzi.2;have zr:=Fr.Fz.of ⟨zx.rt,zi.rt⟩ hn8 hl10 hn9 hl11;rw [zx.v,zi.v,hv,hfl] at zr;have zrb:=Fr.Hb.sub zxb (Fr.Hb.int (n:=Fr.fl total (Fr.qv x1)) (by omega));have hzr:=zr.len (zrb.mono (show _≤2000000 by omega));refine V.r [.ld 2 0 false (fun _=>[restss.v]),.k (iv k0),.ld 4 0 true (fun _=>Dat.cells (DFrac.mk ⟨n2,l5,(G11 3).ss 0⟩ ⟨n3,l6,(G11 3).ss 1⟩)),.k (outs.v),.k (iv k0),.ix g0 (ko true 3 0 l8 (fun _=>outs)) k0 (fun _=>⟨by omega,by omega⟩),.le g0 (ko true 3 0 l8 (fun _=>outs)) k0 none false v2 hv2 (fun _=>⟨by omega,by omega⟩) false (fun _=>[iv v2]),.ct g0 7 18 false [] [] [] (fun _ G=>fint_ctv v2 (by omega) n7 hn7 l9 hl9 l4 hl4),.ct g0 8 46 false [] [] [(kf true (.f 4) l5 (fun _=>(G11 3).ss 0)).a,(kf true (.f 5) l6 (fun _=>(G11 3).ss 1)).a,(kf true (.g 7 0) l9 (fun G=>(G 7).ss 0)).a,(kf true (.g 7 1) l4 (fun G=>(G 7).ss 1)).a] (fun _ G=>fsub_ctv n2 l5 ((G11 3).ss 0) n3 l6 ((G11 3).ss 1) n7 l9 ((G 7).ss 0) (1:Int) l4 ((G 7).ss 1) (by omega) (by omega) (by omega) (by omega) n8 hn8 l10 hl10 n9 hn9 l11 hl11 n10 hn10),.v fun G=>.tuple #[ag (DFrac.mk ⟨n8,l10,(G 8).ss 0⟩ ⟨n9,l11,(G 8).ss 1⟩),iv n10],.v fun G=>ag (DFrac.mk ⟨n8,l10,(G 8).ss 0⟩ ⟨n9,l11,(G 8).ss 1⟩),.k (iv n10),.ix g0 (ko true 33 1 rests (fun _=>restss)) k0 (fun _=>⟨by omega,by omega⟩),.seG g0 13 1 33 true rests (fun _=>restss) k0 none x2 (fun G=>(DFrac.mk ⟨n8,l10,(G 8).ss 0⟩ ⟨n9,l11,(G 8).ss 1⟩:DFrac)) hx2 true (fun _=>⟨by omega,by omega⟩) (fun _=>rfl) [(kf true (.g 8 0) l10 (fun G=>(G 8).ss 0)).a,(kf true (.g 8 1) l11 (fun G=>(G 8).ss 1)).a] (fun _ _ ho h=>(And.intro h.1 h.2.1))] fun _ _ G13 kw14=>?_;intro S_ s_
    obtain ⟨⟨kl12, -⟩,⟨kl13, -⟩,⟨kl14, -⟩,⟨kl15, -⟩, -⟩:Lq l9 (((G13 7).ss 0).v)∧Lq l4 (((G13 7).ss 1).v)∧Lq l10 (((G13 8).ss 0).v)∧Lq l11 (((G13 8).ss 1).v)∧Lq l8 outs.v∧Lq (rests.set k0.toNat (DFrac.mk ⟨n8,l10,(G13 8).ss 0⟩ ⟨n9,l11,(G13 8).ss 1⟩)) restss.v∧Lq order orders.v∧True:=kq kw14;clear kw14;refine nm (order ++[k0]:List Int) fun l12 hl12=>?_;have hl12n:=congrArg List.length hl12;try simp only [List.length_append,List.length_cons,List.length_nil,List.length_replicate,List.length_set,List.length_take,List.length_drop,List.length_map,List.length_reverse,List.length_range] at hl12n
    refine V.r [.k (orders.v),.k (iv k0),.nr 2 true 3 [k0] [] (fun _ _ _ _ _=>trivial) (fun _=>#[iv k0]),.ap 3 5 3 8 false true order (fun _=>orders) (kf true (.g 2 0) [k0] (fun G=>⟨atB (G 2).b,1,1⟩)) true l12 hl12 (by (try simp only [List.length_append,List.length_cons,List.length_nil,List.length_replicate,List.length_set,List.length_take,List.length_drop,List.length_map,List.length_reverse,List.length_range]);omega) (fun h=>by cases h) (.inr fun _ _=>trivial),.v fun G=>((G 3).s).v] fun _ _ G14 kw15=>?_;intro S_ s_
    obtain ⟨⟨kl16, -⟩, -⟩:Lq [k0] (SV.v ⟨atB (G14 2).b,1,1⟩)∧Lq l8 outs.v∧Lq (rests.set k0.toNat (DFrac.mk ⟨n8,l10,(G13 8).ss 0⟩ ⟨n9,l11,(G13 8).ss 1⟩)) restss.v∧Lq l12 (((G14 3).s).v)∧True:=kq kw15;clear kw15;refine V.g [.k (iv left),.k (outs.v),.k (iv k0),.ix g0 (ko true 3 0 l8 (fun _=>outs)) k0 (fun _=>⟨by omega,by omega⟩),.le g0 (ko true 3 0 l8 (fun _=>outs)) k0 none false v2 hv2 (fun _=>⟨by omega,by omega⟩) false (fun _=>[iv v2]),.a (left-v2) (by omega) (by omega),.k (iv (left-v2))] fun _ _ G15=>?_;intro S_ s_;refine V.g [.a (k0+1) (by omega) (by omega),.k (iv (k0+1))] fun _ _ G16=>?_;intro S_ s_;refine V.rnd hZ1 (l8,outs,l12,(G14 3).s,left-v2,k0+1,rests.set k0.toNat (DFrac.mk ⟨n8,l10,(G13 8).ss 0⟩ ⟨n9,l11,(G13 8).ss 1⟩),restss) [0] (by kernel_rfl) ?_ ?_
    · refine ⟨?_,?_,?_⟩
      · show 0≤(k0+1)
        first | omega | rfl | (simp;done) | (subst_vars;simp;done)
      · show (k0+1)≤(l.length:Int)
        first | omega | rfl | (simp;done) | (subst_vars;simp;done)
      show Fr.RI total l l8 (rests.set k0.toNat (DFrac.mk ⟨n8,l10,(G13 8).ss 0⟩ ⟨n9,l11,(G13 8).ss 1⟩)) l12 (left-v2) (k0+1).toNat;have hk:((k0.toNat:Nat):Int)=k0:=by omega
      have hst:=Fr.RI.step (y:=(DFrac.mk ⟨n8,l10,(G13 8).ss 0⟩ ⟨n9,l11,(G13 8).ss 1⟩)) hf3 (by omega) hx1 hfl zr.rt hzr zr.v hfr;rw [hk] at hst;rw [hv];rw [hl8,hl12,show (k0+1).toNat=k0.toNat+1 by omega];exact hst
    show ((l.length:Int)-(k0+1)).toNat < ((l.length:Int)-k0).toNat;omega
  have hE:=hf3.end (by omega);have hrl:rests.length=l.length:=by have:=congrArg List.length hE.rq;simpa using this
  have hodl:order.length=rests.length:=by rw [hE.od,Fr.iota_len,List.length_map]
  have hL:=Fr.left_rng (t:=total) (q:=l.map Fr.qv) hOk.2.2.2;rw [←hE.lf,List.length_map] at hL;have hL1:=hL.1;have hL2:=hL.2.1;have hOr:(Fr.ord (rests.map Fr.qv)).length=l.length:=by rw [Fr.ord_len,List.length_map,hrl]
  refine V.frz 1 true 33 rests restss (by kernel_rfl) ?_;refine V.frzB 2 ((G5 3).b) #[restss.v] 22 (⟨rests,restss⟩:Fat DFrac) true 1 (fs true rests restss) (by kernel_rfl) (fun _ h=>h) ?_;refine V.g [.k (orders.v),.k (.func (.func 48) #[] #[pp ((G5 3).b) 0]),.ct g0 2 47 false [5] [] [(kf true (.f 2) ([⟨rests,restss⟩]:List (Fat DFrac)) (fun _=>⟨atB (G5 3).b,1,1⟩)).a] (fun _ G=>sorts_ct order orders ((G5 3).b) rests restss (fun x hx=>hE.r x hx) hodl (by omega) (by have h:=hE.od;rw [List.length_map] at h;exact h))] fun _ _ G17=>?_;intro S_ s_
  refine nm ((Fr.ord (rests.map Fr.qv)).take left.toNat:List Int) fun l13 hl13=>?_;have hl13n:=congrArg List.length hl13;try simp only [List.length_append,List.length_cons,List.length_nil,List.length_replicate,List.length_set,List.length_take,List.length_drop,List.length_map,List.length_reverse,List.length_range] at hl13n
  refine V.g [.k (orders.v),.k (iv left),.fro 2 5 3 true (Fr.ord (rests.map Fr.qv)) (fun _=>orders) left l13 hl13 (by omega) (by omega),.ln (ko true 3 5 l13 (fun _=>(orders.sub 1 0 left.toNat))),.k (iv 0)] fun _ _ G18=>?_;intro S_ s_
  refine V.loop (γ:=List Int × SV × Int) (fun ⟨out2,out2s,k1⟩=>⟨[(6,out2s.v),(86,(orders.sub 1 0 left.toNat).v),(87,iv (l13.length:Int)),(88,iv k1)],[],[os true 3 out2 out2s,.no,.no,.no,.no,os true 3 l13 (orders.sub 1 0 left.toNat)]⟩) (fun ⟨out2,out2s,k1⟩=>(0≤k1)∧(k1≤(l13.length:Int))∧(out2=Fr.bump out (l13.take k1.toNat))) (fun ⟨out2,out2s,k1⟩=>((l13.length:Int)-k1).toNat) (out,outs,0) (by kernel_rfl) [] (by kernel_rfl) ?_ ?_
  · refine ⟨?_,?_,?_⟩
    · show 0≤(0:Int)
      first | omega | rfl | (simp;done) | (subst_vars;simp;done)
    · show (0:Int)≤(l13.length:Int)
      first | omega | rfl | (simp;done) | (subst_vars;simp;done)
    show out=Fr.bump out (l13.take (0:Int).toNat);rfl
  rintro ⟨out2,out2s,k1⟩ hF2 kw20 Z2 hZ2;have hF2:(0≤k1)∧(k1≤(l13.length:Int))∧(out2=Fr.bump out (l13.take k1.toNat)):=hF2;obtain ⟨hf4,hf5,hf6⟩:=hF2;obtain ⟨⟨kl17, -⟩, -, -⟩:Lq out2 out2s.v∧Lq l13 ((orders.sub 1 0 left.toNat).v)∧True:=kq kw20;clear kw20;have hol:out2.length=l.length:=by rw [hf6,Fr.bump_len,hE.o];simp
  refine V.g [.k (bv (decide (k1 < (l13.length:Int))))] fun _ _ G19=>?_;intro S_ s_
  refine V.cn (b:=decide (k1 < (l13.length:Int))) iDT iDF (fun q5=>?_) (fun q6=>?_)
  · refine nm (l13.getD k1.toNat default:Int) fun v3 hv3=>?_;have hvm:v3 ∈ l13:=getD_mem (by omega) hv3
    have hvo:0≤v3∧v3 < (l.length:Int):=by rw [hl13] at hvm;have:=Fr.ord_mem.1 (List.mem_of_mem_take hvm);rw [List.length_map,hrl] at this;exact this
    refine V.g [.ix g0 (ko true 3 5 l13 (fun _=>(orders.sub 1 0 left.toNat))) k1 (fun _=>⟨by omega,by omega⟩),.le g0 (ko true 3 5 l13 (fun _=>(orders.sub 1 0 left.toNat))) k1 none false v3 hv3 (fun _=>⟨by omega,by omega⟩) false (fun _=>[iv v3]),.k (iv v3)] fun _ _ G20=>?_;intro S_ s_
    refine nm (out2.getD v3.toNat default:Int) fun v4 hv4=>?_;refine nm (out2.set v3.toNat (v4+1):List Int) fun l14 hl14=>?_;have hl14n:=congrArg List.length hl14;try simp only [List.length_append,List.length_cons,List.length_nil,List.length_replicate,List.length_set,List.length_take,List.length_drop,List.length_map,List.length_reverse,List.length_range] at hl14n
    have hwr:=Fr.bump_rng (o:=out) (l:=l13.take k1.toNat) (b:=1099511627776) (fun x hx=>by rw [hE.o] at hx;obtain ⟨r,hr,rfl⟩:=List.mem_map.1 hx;obtain ⟨y,hy,rfl⟩:=List.mem_map.1 hr;have h01:=hOk.2.one hy;have:=Fr.fl_rng (t:=total) hOk.1.1 h01.1 h01.2;omega) (fun i hi=>by have h1:=List.mem_of_mem_take hi;rw [hl13] at h1;have:=Fr.ord_mem.1 (List.mem_of_mem_take h1);rw [List.length_map,hrl] at this;rw [hE.o];simpa using this) v4 (by rw [←hf6];exact getD_mem (by omega) hv4);have htl:(l13.take k1.toNat).length≤l13.length:=by rw [List.length_take];omega
    refine V.g [.k (out2s.v),.k (iv v3),.ix g0 (ko true 3 0 out2 (fun _=>out2s)) v3 (fun _=>⟨by omega,by omega⟩),.le g0 (ko true 3 0 out2 (fun _=>out2s)) v3 none false v4 hv4 (fun _=>⟨by omega,by omega⟩) false (fun _=>[iv v4]),.a (v4+1) (by omega) (by omega),.ix g0 (ko true 3 0 out2 (fun _=>out2s)) v3 (fun _=>⟨by omega,by omega⟩),.se g0 6 0 3 true out2 (fun _=>out2s) v3 none v4 (v4+1) hv4 true l14 hl14 (fun _=>⟨by omega,by omega⟩) (fun _=>rfl) [] (fun _ _ _ _=>trivial)] fun _ _ G21=>?_;intro S_ s_
    refine V.g [.a (k1+1) (by omega) (by omega),.k (iv (k1+1))] fun _ _ G22=>?_;intro S_ s_
    refine V.rnd hZ2 (l14,out2s,k1+1) [] (by kernel_rfl) ?_ ?_
    · refine ⟨?_,?_,?_⟩
      · show 0≤(k1+1)
        first | omega | rfl | (simp;done) | (subst_vars;simp;done)
      · show (k1+1)≤(l13.length:Int)
        first | omega | rfl | (simp;done) | (subst_vars;simp;done)
      show l14=Fr.bump out (l13.take (k1+1).toNat);rw [hl14,show (k1+1).toNat=k1.toNat+1 by omega,Fr.take_step (by omega),Fr.bump_snoc,← hf6,← hv3];rw [←hv4]
    show ((l13.length:Int)-(k1+1)).toNat < ((l13.length:Int)-k1).toNat;omega
  refine V.g [.k (out2s.v),.k (out2s.v),.k (iv 0)] fun _ _ G23=>?_;intro S_ s_
  refine V.frz 0 true 3 out2 out2s (by kernel_rfl) ?_;have e0:out2=Fr.rndL total l:=by rw [Fr.rndL_y hOk,hf6];unfold Fr.rndQ;rw [←hE.o,← hE.rq,← hE.lf,hl13,List.take_of_length_le (by simp only [List.length_take];omega)]
  subst e0;have e1:(0:Int)=if Fr.rndOk total l then (0:Int) else 1:=(if_pos hOk).symm
  exact V.rt [0,0] [out2s] [fun _=>{}] [] [0] [] (.tuple #[out2s.v,iv 0]) (cong1 (fun (x1:Int)=>(.tuple #[out2s.v,iv x1]:Value)) e1)

namespace Fr
open Bg
def rndOkq (t:Int) (m:List Rat):Prop:=(0≤t∧t≤1099511627776)∧(∀ r ∈ m,0≤r)∧sumQ m=1
instance (t : Int) (m : List Rat) : Decidable (rndOkq t m) := by unfold rndOkq; infer_instance
theorem Frs.sum {l:List DFrac} {m:List Rat} (h:Frs l m):sumW l=sumQ m:=by unfold sumW;rw [h.2]
theorem Frs.len {l:List DFrac} {m:List Rat} (h:Frs l m):l.length=m.length:=by rw [←h.2,List.length_map]
def sh4 (x:DFrac):Int × List Int × Int × List Int:=(x.P.Sign,x.P.Digits.l,x.Q.Sign,x.Q.Digits.l)
theorem Frs.same {l m:List DFrac} {a:List Rat} (h:Frs l a) (k:Frs m a):l.map sh4=m.map sh4:=Frs.eq_of h k
instance (l : List DFrac) : Decidable (∀ x ∈ l, ln 6 x) := by unfold ln; infer_instance
def few30 (l:List DFrac):Prop:=l.length≤20∧∀ x ∈ l,ln 6 x
instance (l : List DFrac) : Decidable (few30 l) := by unfold few30; infer_instance
theorem few30_wb {l:List DFrac} (h:few30 l):Wb l:=⟨by have:=h.1;omega,fun x hx=>by have:=h.2 x hx;unfold ln at this ⊢;omega⟩
theorem few30_no {l:List DFrac} {k:Nat} {x:DFrac} (hk:k < l.length) (hx:x=l.getD k default) (h:¬ ((x.P.Digits.l.length:Int)≤6∧(x.Q.Digits.l.length:Int)≤6)):¬ few30 l:=fun f=>by
  have:=f.2 x (getD_mem hk hx);unfold ln at this;omega
theorem few30_yes {l:List DFrac} (h:l.length≤20) (hs:∀ i,i < l.length→ln 6 (l.getD i default)):few30 l:=⟨h,fun x hx=>by
  obtain ⟨i,hi,rfl⟩:=List.getElem_of_mem hx
  have:=hs i hi
  rw [List.getD_eq_getElem?_getD,List.getElem?_eq_getElem hi] at this;exact this⟩
theorem shQ_hb {l:List DFrac} (h:few30 l) (he:shE l=0):∀ r ∈ shQ l,Hb r 147:=fun r hr=>by
  obtain ⟨_,hr1,_,_⟩:=shE_is he
  rw [shQ_y he] at hr
  obtain ⟨x,hx,rfl⟩:=List.mem_map.1 hr
  have h1:∀ r ∈ l.map qv,Hb r 6:=fun r hr'=>by
    obtain ⟨y,hy,rfl⟩:=List.mem_map.1 hr'
    exact (hr1 y hy).z.hb (h.2 y hy).1 (h.2 y hy).2
  have h2:=sumQ_hb h1
  have h3:Hb (sumW l) 141:=h2.mono (by rw [List.length_map];have:=h.1;have:=Nat.mul_le_mul_right (6+1) this;omega)
  exact (h1 _ (List.mem_map_of_mem hx)).div h3
theorem shQ_len {l:List DFrac} (he:shE l=0):(shQ l).length=l.length:=by rw [shQ_y he,List.length_map]
theorem shQ_wb {l:List DFrac} (h:few30 l) (he:shE l=0) (σ:Nat→SV):Wb (frs (shQ l) σ):=by
  refine ⟨by rw [frs_len,shQ_len he];have:=h.1;omega,fun x hx=>?_⟩
  have:=frs_ln (fun r hr=>(shQ_hb h he r hr).mono (show 147≤1000000 by omega)) x hx
  exact this
theorem sumI_take {l:List Int} {k:Nat} (h:k < l.length):sumI (l.take (k+1))=sumI (l.take k)+l.getD k default:=by
  rw [take_step h,sumI_app];simp [sumI]
instance (r : Rat) (k : Nat) : Decidable (Hb r k) := by unfold Hb; infer_instance
end Fr

open Go Go.Proofs
set_option maxRecDepth 10000 in
theorem few5_ct (h:Int) (a:List Int) (d:SV) (i:Int) (c:List Int) (e:SV) (n:Int) :
    Cp Try.prog 32 #[ag (DFrac.mk ⟨h,a,d⟩ ⟨i,c,e⟩),iv n] [fs true a d,fs true c e] (bv (decide ((a.length:Int)≤n∧(c.length:Int)≤n))):=by
  refine V.fn mo Try.func32 19 1 (by kernel_rfl) fun w H ε k0=>?_;obtain ⟨⟨kl1, -⟩,⟨kl2, -⟩, -⟩:Lq a d.v∧Lq c e.v∧True:=kq k0
  clear k0;refine V.g [.nb 0 0 (fun b=>pp b 0) 33 (fun _=>ca (DFrac.mk ⟨h,a,d⟩ ⟨i,c,e⟩)),.kb false] fun _ _ G1=>?_;intro S s
  refine nm ((decide ((a.length:Int)≤n)) && (decide ((c.length:Int)≤n)):Bool) fun p1 hp1=>?_;refine V.g [.k (pp ((G1 0).b) 0),.k (pp ((G1 0).b) 1),.ld 0 1 false (fun _=>[d.v]),.ln (kf false (.f 0) a (fun _=>d)),.k (iv n),.k (bv (decide ((a.length:Int)≤n))),.k (bv (decide ((a.length:Int)≤n))),.k (pp ((G1 0).b) 2),.k (pp ((G1 0).b) 3),.ld 0 3 false (fun _=>[e.v]),.ln (kf false (.f 1) c (fun _=>e)),.k (iv n),.k (bv (decide ((c.length:Int)≤n))),.andn g0 false (decide ((a.length:Int)≤n)) (decide ((c.length:Int)≤n)) p1 hp1,.k (bv p1)] fun _ _ G2=>?_;intro S s
  have e0:p1=decide ((a.length:Int)≤n∧(c.length:Int)≤n):=by
    refine Bool.eq_iff_iff.2 (Iff.trans (iN hp1 (iAT iDT iDT)) (Iff.trans ?_ decide_eq_true_iff.symm));exact Iff.rfl
  exact V.rt [0] [] [] [] [] [] (bv p1) (cong1 (fun (x0:Bool)=>(bv x0:Value)) e0)
set_option maxRecDepth 10000 in
theorem few30_ct (l:List DFrac) (ls:SV) :
    Cp Try.prog 9 #[ls.v] [fs true l ls] (bv (decide (Fr.few30 l))):=by
  refine V.fn mo Try.func9 23 0 (by kernel_rfl) fun w H ε k0=>?_;obtain ⟨⟨kl1, -⟩, -⟩:Lq l ls.v∧True:=kq k0
  clear k0;refine V.g [.kb false] fun _ _ G1=>?_;intro S_ s_
  refine V.g [.k (iv 0)] fun _ _ G2=>?_;intro S_ s_
  refine V.loop (γ:=Int) (fun i=>⟨[(0,ls.v),(3,iv i)],[fs false l ls],[]⟩) (fun i=>(0≤i)∧(i≤(l.length:Int)∧i≤21)∧(∀ j,j < i.toNat→Fr.ln 6 (l.getD j default))) (fun i=>((l.length:Int)-i).toNat) 0 (by kernel_rfl) [0] (by kernel_rfl) ?_ ?_
  · refine ⟨?_,?_,?_⟩
    · show 0≤(0:Int);omega
    · show (0:Int)≤(l.length:Int)∧(0:Int)≤21;omega
    show ∀ j,j < (0:Int).toNat→Fr.ln 6 (l.getD j default);intro j hj;simp at hj
  rintro i hF1 kw3 Z1 hZ1;have hF1:(0≤i)∧(i≤(l.length:Int)∧i≤21)∧(∀ j,j < i.toNat→Fr.ln 6 (l.getD j default)):=hF1;obtain ⟨hf1,hf2,hf3⟩:=hF1;clear kw3;refine nm ((decide (i < (l.length:Int))) && (decide (i < 21)):Bool) fun p1 hp1=>?_;refine V.g [.k (iv i),.k (ls.v),.ln (kf false (.f 0) l (fun _=>ls)),.k (bv (decide (i < (l.length:Int)))),.k (bv (decide (i < (l.length:Int)))),.k (iv i),.k (bv (decide (i < 21))),.andn g0 false (decide (i < (l.length:Int))) (decide (i < 21)) p1 hp1] fun _ _ G3=>?_;intro S_ s_;refine V.cn (b:=p1) (iN hp1 (iAT iDT iDT)) (iN hp1 (iAF iDF iDF)) (fun q1=>?_) (fun q2=>?_)
  · refine nm (l.getD i.toNat default:DFrac) fun x1 hx1=>?_;refine V.r [.k (ls.v),.k (iv i),.ix g0 (kf false (.f 0) l (fun _=>ls)) i (fun _=>⟨by omega,by omega⟩),.le g0 (kf false (.f 0) l (fun _=>ls)) i none true x1 hx1 (fun _=>⟨by omega,by omega⟩) true (fun _=>Dat.cells x1),.cp g0 4 32 [(kx false (.g 3 0) x1 x1.P.Digits.l (fun _=>x1.P.Digits.s) (fun _ H (h:Dat.good H (x1:DFrac))=>h.1)).a,(kx false (.g 3 0) x1 x1.Q.Digits.l (fun _=>x1.Q.Digits.s) (fun _ H (h:Dat.good H (x1:DFrac))=>h.2)).a] (fun _ G=>few5_ct x1.P.Sign x1.P.Digits.l x1.P.Digits.s x1.Q.Sign x1.Q.Digits.l x1.Q.Digits.s (6:Int)),.k (bv (!(decide ((x1.P.Digits.l.length:Int)≤(6:Int)∧(x1.Q.Digits.l.length:Int)≤(6:Int)))))] fun _ _ G4 kw5=>?_;intro S_ s_
    obtain ⟨⟨⟨kl2, -⟩,⟨kl3, -⟩⟩, -⟩:(Lq x1.P.Digits.l x1.P.Digits.s.v∧Lq x1.Q.Digits.l x1.Q.Digits.s.v)∧True:=kq kw5;clear kw5;refine V.cn (b:=!(decide ((x1.P.Digits.l.length:Int)≤(6:Int)∧(x1.Q.Digits.l.length:Int)≤(6:Int)))) (iNT iDF) (iNF iDT) (fun q3=>?_) (fun q4=>?_)
    · refine V.g [.kb false] fun _ _ G5=>?_;intro S_ s_
      have e0:false=decide (Fr.few30 l):=by exact (decide_eq_false (Fr.few30_no (k:=i.toNat) (by omega) hx1 (by have hqq:=q3;omega))).symm
      exact V.rt [0] [] [] [] [] [] (bv false) (cong1 (fun (x0:Bool)=>(bv x0:Value)) e0)
    refine V.g [.k (iv i),.a (i+1) (by omega) (by omega),.k (iv (i+1))] fun _ _ G6=>?_;intro S_ s_
    refine V.rnd hZ1 (i+1) [0] (by kernel_rfl) ?_ ?_
    · refine ⟨?_,?_,?_⟩
      · show 0≤(i+1);omega
      · show (i+1)≤(l.length:Int)∧(i+1)≤21;omega
      show ∀ j,j < (i+1).toNat→Fr.ln 6 (l.getD j default);intro j hj;by_cases e:j < i.toNat
      · exact hf3 j e
      rw [show j=i.toNat by omega,← hx1];have hqq:=q4;unfold Fr.ln;omega
    show ((l.length:Int)-(i+1)).toNat < ((l.length:Int)-i).toNat;omega
  refine V.g [.k (ls.v),.ln (kf false (.f 0) l (fun _=>ls)),.k (bv (decide ((l.length:Int)≤20))),.k (bv (decide ((l.length:Int)≤20)))] fun _ _ G7=>?_;intro S_ s_
  have e0:(decide ((l.length:Int)≤20))=decide (Fr.few30 l):=by
    refine Bool.eq_iff_iff.2 (Iff.trans iDT (Iff.trans ?_ decide_eq_true_iff.symm));exact ⟨fun h=>Fr.few30_yes (by omega) fun k hk=>hf3 k (by omega),fun h=>by have:=h.1;omega⟩
  exact V.rt [0] [] [] [] [] [] (bv (decide ((l.length:Int)≤20))) (cong1 (fun (x0:Bool)=>(bv x0:Value)) e0)

namespace Tm
theorem Down.append {l t:List DThing} {r a:Int} (h:Down l r a):Down (l ++t) r a:=by
  induction h with
  | refl h=>exact .refl (has_append h)
  | step hr hc hx hd ih=>exact .step (has_append hr) (has_append hc) (by rw [el_append_more hr];exact hx) ih
theorem Down.trans {l:List DThing} {r c a:Int} (h:Down l r c) (k:Down l c a):Down l r a:=by
  induction h with
  | refl _=>exact k
  | step hr hc hx hd ih=>exact .step hr hc hx (ih k)
theorem near_of {l:List DThing} (hS:Sound l) {r a:Int} (h:Down l r a):near l a r=true:=by
  induction h with
  | refl h=>exact near_self h.1 h.2
  | @step r c a hr hc hx hd ih =>
    have h1:=half hS hr hc hx
    have h2:=near_ge hc.1 hc.2 ih
    have ha:=hd.has2
    rw [near_up hS ha.1 (by omega) hr.2]
    rcases hx with e | e <;> rw [e] <;> rw [e] at h1 <;> simp [ih] <;> omega
theorem pairUp_inv {S B:Int} (hSc:S≤1125899906842624) (hBc:B≤1125899906842624):∀ (n:Nat) (th:List DThing) (l pre:List Int),l.length≤n→Lev th (pre ++l) S B→Sound th→th.length+l.length≤2001 →
    Lev (pairUp th l).1 (pre ++(pairUp th l).2) S B∧Sound (pairUp th l).1∧(∃ t,(pairUp th l).1=th ++t)∧(pairUp th l).1.length+(pairUp th l).2.length=th.length+l.length∧∀ a ∈ l,∃ r ∈ (pairUp th l).2,Down (pairUp th l).1 r a
  | _,th,[],pre,_,hL,hS,_=>⟨hL,hS,⟨[],by simp [pairUp]⟩,rfl,fun a h=>by cases h⟩
  | _,th,[x],pre,_,hL,hS,_=>⟨hL,hS,⟨[],by simp [pairUp]⟩,rfl,fun a h=>⟨x,by simp [pairUp],by
      have:a=x:=by simpa using h
      subst this
      exact .refl (hL.has a (by simp)).1⟩⟩
  | 0,th,x :: y :: rest,pre,h,_,_,_=>by simp at h
  | n+1,th,x :: y :: rest,pre,h,hL,hS,hlen=>by
    simp only [List.length_cons] at h hlen
    have hx:=(hL.has x (by simp)).1
    have hy:=(hL.has y (by simp)).1
    have h2:=hL.two_le rfl
    have hS1:Sound (th ++[pairX th x y]):=sound_append hS (by omega) (okT_pair ⟨hx,hy⟩ (by simp only [pairX];omega))
    have hL1:=hL.pair
    rw [show pre ++(th.length:Int) :: rest=(pre ++[(th.length:Int)]) ++rest by simp] at hL1
    obtain ⟨a1,a2,⟨t,a3⟩,a4,a5⟩:=pairUp_inv hSc hBc n (th ++[pairX th x y]) rest _ (by omega) hL1 hS1 (by simp;omega)
    have e1:(pairUp th (x :: y :: rest)).1=(pairUp (th ++[pairX th x y]) rest).1:=by rw [pairUp]
    have e2:(pairUp th (x :: y :: rest)).2=(th.length:Int) :: (pairUp (th ++[pairX th x y]) rest).2:=by rw [pairUp]
    rw [e1,e2]
    have hT:has (th ++[pairX th x y]) (th.length:Int):=by unfold has;simp;omega
    refine ⟨by simpa using a1,a2,⟨pairX th x y :: t,by rw [a3];simp⟩,?_,fun a ha=>?_⟩
    · simp only [List.length_cons,List.length_append,List.length_nil] at a4 ⊢;omega
    · simp only [List.mem_cons] at ha
      rcases ha with rfl | rfl | ha
      · refine ⟨_,List.mem_cons_self ..,?_⟩
        rw [a3];exact (Down.step hT (has_append hx) (.inl (by rw [el_last];rfl)) (.refl (has_append hx))).append
      · refine ⟨_,List.mem_cons_self ..,?_⟩
        rw [a3];exact (Down.step hT (has_append hy) (.inr (by rw [el_last];rfl)) (.refl (has_append hy))).append
      · obtain ⟨r,hr,hd⟩:=a5 a ha
        exact ⟨r,List.mem_cons_of_mem _ hr,hd⟩
theorem up_inv {S B:Int} (hSc:S≤1125899906842624) (hBc:B≤1125899906842624):∀ (n:Nat) (th:List DThing) (l:List Int),1≤l.length→l.length≤n+1→Lev th l S B→Sound th→th.length+l.length≤2001 →
    ∃ r,(up n th l).2=[r]∧Lev (up n th l).1 [r] S B∧Sound (up n th l).1∧(∃ t,(up n th l).1=th ++t)∧(up n th l).1.length+1=th.length+l.length∧∀ a ∈ l,Down (up n th l).1 r a:=by
  have one:∀ (th:List DThing) (l:List Int),l.length=1→Lev th l S B→Sound th→∃ r,l=[r]∧Lev th [r] S B∧Sound th∧(∃ t,th=th ++t)∧th.length+1=th.length+l.length∧∀ a ∈ l,Down th r a:=by
    intro th l hl hL hS
    obtain ⟨r,rfl⟩:=List.length_eq_one_iff.1 hl
    refine ⟨r,rfl,hL,hS,⟨[],by simp⟩,rfl,fun a ha=>?_⟩
    have:a=r:=by simpa using ha
    subst this
    exact .refl (hL.has a (by simp)).1
  intro n
  induction n with
  | zero=>intro th l h1 h2 hL hS _;exact one th l (by omega) hL hS
  | succ n ih =>
    intro th l h1 h2 hL hS hlen
    rw [up]
    split
    · rename_i hlt
      obtain ⟨a1,a2,⟨t,a3⟩,a4,a5⟩:=pairUp_inv hSc hBc _ th l [] (Nat.le_refl _) hL hS hlen
      have hpl:=pairUp_length th l
      obtain ⟨r,b1,b2,b3,⟨t',b4⟩,b5,b6⟩:=ih (pairUp th l).1 (pairUp th l).2 (by omega) (by omega) a1 a2 (by omega)
      refine ⟨r,b1,b2,b3,⟨t ++t',by rw [b4,a3];simp⟩,by omega,fun a ha=>?_⟩
      obtain ⟨c,hc,hd⟩:=a5 a ha
      refine (b6 c hc).trans ?_
      rw [b4];exact hd.append
    · exact one th l (by omega) hL hS
theorem sound_leaves {v:List DThing} {texts:List ByteArray} {values blinds:List Int} (h:argsOK v texts values blinds) (hl:v.length+texts.length≤2000):∀ n,n≤texts.length→Sound (v ++leavesN texts values blinds n)
  | 0,_=>by simpa [leavesN] using h.1
  | n+1,hn=>by
    have ih:=sound_leaves h hl n (by omega)
    have:v ++leavesN texts values blinds (n+1)=(v ++leavesN texts values blinds n) ++[leafAt texts values blinds n]:=by simp [leavesN,List.range_succ]
    rw [this]
    exact sound_append ih (by simp [leavesN];omega) (okT_leaf (h.2.2.2.2 n (by omega)))
theorem built_is {v:List DThing} {texts:List ByteArray} {values blinds:List Int} (he:buildE v texts values blinds=0) :
    argsOK v texts values blinds∧texts.length≤64∧Sound (buildT v texts values blinds)∧(buildT v texts values blinds).length+1=v.length+2 * texts.length∧(buildT v texts values blinds).take v.length=v ∧
    has (buildT v texts values blinds) (buildR v texts values blinds)∧(el (buildT v texts values blinds) (buildR v texts values blinds)).Value=totV values texts.length∧(el (buildT v texts values blinds) (buildR v texts values blinds)).Blind=totV blinds texts.length ∧
    buildL v texts values blinds=idsN v.length texts.length ∧
    ∀ i,i < texts.length→Down (buildT v texts values blinds) (buildR v texts values blinds) ((v.length+i:Nat):Int)∧el (buildT v texts values blinds) ((v.length+i:Nat):Int)=leafAt texts values blinds i:=by
  have hOK:argsOK v texts values blinds:=by
    refine Decidable.by_contra fun h=>?_
    rw [(build_arg h).1] at he;omega
  have hlim:¬ (64 < texts.length∨2000 < (v.length:Int)+2 * texts.length - 1):=fun h=>by
    unfold buildE at he;rw [if_neg (fun h=>h hOK),if_pos h] at he;omega
  have eT:buildT v texts values blinds=(built v texts values blinds).1:=by unfold buildT;rw [if_pos he]
  have eR:buildR v texts values blinds=(built v texts values blinds).2.getD 0 default:=by unfold buildR;rw [if_pos he]
  have eL:buildL v texts values blinds=idsN v.length texts.length:=by unfold buildL;rw [if_pos he]
  have hTB:=tot_bound hOK
  have hn:=hOK.2.1
  have hll:(leavesN texts values blinds texts.length).length=texts.length:=by simp [leavesN]
  have hil:(idsN v.length texts.length).length=texts.length:=by simp [idsN]
  obtain ⟨r,b1,b2,b3,⟨t,b4⟩,b5,b6⟩:=up_inv (S:=totV values texts.length) (B:=totV blinds texts.length) (by omega) (by omega) texts.length (v ++leavesN texts values blinds texts.length) (idsN v.length texts.length) (by omega) (by omega) (lev_start hOK) (sound_leaves hOK (by omega) _ (Nat.le_refl _)) (by rw [List.length_append];omega)
  have eR2:buildR v texts values blinds=r:=by rw [eR];unfold built;rw [b1];rfl
  have eT2:buildT v texts values blinds=(v ++leavesN texts values blinds texts.length) ++t:=by rw [eT];exact b4
  have eT3:(up texts.length (v ++leavesN texts values blinds texts.length) (idsN v.length texts.length)).1=buildT v texts values blinds:=by rw [eT];rfl
  rw [eT3] at b2 b3 b5 b6
  refine ⟨hOK,by omega,b3,?_,?_,?_,?_,?_,eL,fun i hi=>⟨?_,?_⟩⟩
  · rw [List.length_append] at b5;omega
  · rw [eT2,List.append_assoc,List.take_left'];rfl
  · rw [eR2];exact (b2.has r (by simp)).1
  · rw [eR2];have:=b2.v;simpa [sumV] using this
  · rw [eR2];have:=b2.b;simpa [sumB] using this
  · rw [eR2];exact b6 _ (by simp [idsN];exact ⟨i,hi,rfl⟩)
  · rw [eT2,el_append_more (by unfold has;rw [List.length_append];omega)]
    exact el_leaf hi
theorem totV_succ (values:List Int) (n:Nat):totV values (n+1)=totV values n+values.getD n default:=by
  unfold totV;rw [List.range_succ,List.map_append,List.sum_append];simp
end Tm

open Go
namespace Tm
theorem sumI_totV (l:List Int):∀ n,n≤l.length→Fr.sumI (l.take n)=totV l n
  | 0,_=>by simp [Fr.sumI,totV]
  | n+1,h=>by rw [Fr.sumI_take (by omega),sumI_totV l n (by omega),totV_succ]
theorem totV_all (l:List Int):totV l l.length=Fr.sumI l:=by rw [←sumI_totV l l.length (Nat.le_refl _),List.take_length]
theorem totV_le {l:List Int} (h:∀ i,i < l.length→0≤l.getD i default):∀ n,n≤l.length→0≤totV l n∧∀ i,i < n→l.getD i default≤totV l n
  | 0,_=>⟨by simp [totV],fun i hi=>by omega⟩
  | n+1,hn=>by
    obtain ⟨h1,h2⟩:=totV_le h n (by omega)
    have h3:=h n (by omega)
    rw [totV_succ]
    refine ⟨by omega,fun i hi=>?_⟩
    by_cases e:i=n
    · subst e;omega
    · have:=h2 i (by omega);omega
theorem shQ_no {l:List DFrac} (h:¬ Fr.shE l=0):Fr.shQ l=[]:=if_neg h
theorem shQ_wb0 {l:List DFrac} (h:Fr.few30 l) (σ:Nat→SV):Fr.Wb (Fr.frs (Fr.shQ l) σ):=by
  by_cases he:Fr.shE l=0
  · exact Fr.shQ_wb h he σ
  · rw [shQ_no he];exact ⟨by rw [Fr.frs_len];simp,fun x hx=>by have:=congrArg (x ∈ ·) (List.eq_nil_of_length_eq_zero (Fr.frs_len [] σ));simp only [List.not_mem_nil] at this;exact (this ▸ hx).elim⟩
theorem shQ_l20 {l:List DFrac} (h:Fr.few30 l) (σ:Nat→SV):(Fr.frs (Fr.shQ l) σ).length≤20:=by
  rw [Fr.frs_len]
  by_cases he:Fr.shE l=0
  · rw [Fr.shQ_len he];have:=h.1;omega
  · rw [shQ_no he];simp
structure Parts (t:Int) (n:Nat) (l:List Int):Prop where
  len:l.length=n
  pos:∀ i,i < n→0≤l.getD i default
  sum:totV l n=t
theorem parts_of {t:Int} {l:List DFrac} (h:Fr.rndOk t l):Parts t l.length (Fr.rndL t l):=by
  have e:=Fr.rndL_y h
  have hl:(Fr.rndL t l).length=l.length:=by rw [e,Fr.rnd_len,List.length_map]
  refine ⟨hl,fun i hi=>?_,?_⟩
  · rw [e]
    refine Fr.rnd_nonneg h.1.1 (by simpa using hi) ?_
    rw [Fr.getD_qv hi]
    refine h.2.2.1 _ ?_
    rw [List.getD_eq_getElem?_getD,List.getElem?_eq_getElem hi];exact List.getElem_mem hi
  · rw [←hl,totV_all,e,Fr.rnd_sum h.2.2.2]
theorem Parts.le {t:Int} {n:Nat} {l:List Int} (h:Parts t n l) {i:Nat} (hi:i < n):l.getD i default≤t:=by
  have:=(totV_le (l:=l) (fun i hi=>h.pos i (by rw [←h.len];exact hi)) n (by rw [h.len];exact Nat.le_refl _)).2 i hi
  rw [h.sum] at this;exact this
theorem rep_get {α:Type} [Inhabited α] {n i:Nat} {x:α} (h:i < n):(List.replicate n x).getD i default=x:=by
  rw [List.getD_eq_getElem?_getD,List.getElem?_eq_getElem (by simpa using h)];simp
theorem parts_args {t b:Int} {n:Nat} {l:List Int} {x:ByteArray} (h:Parts t n l) (ht:t≤1099511627776) (hb:0≤b∧b≤65535) (hx:(x.size:Int)≤8000) (h0:n≠0) (h20:n≤20):buildE [] (List.replicate n x) l (List.replicate n b)=0:=by
  refine (build_ok ⟨⟨by simp,fun i hi=>by simp at hi⟩,by simpa using h0,by rw [h.len];simp,by simp,fun i hi=>?_⟩ (by simp;omega)).1
  simp only [List.length_replicate] at hi
  have h1:=h.pos i hi;have h2:=h.le hi
  unfold leafAt leafT isLeaf
  rw [rep_get hi,rep_get hi]
  exact ⟨rfl,rfl,hx,h1,by show l.getD i default≤_;omega,hb.1,by show b≤_;omega⟩
end Tm

open Go Go.RowKit Go.WideShapes Go.ChangeShapes
section
variable {H : Type} {enc : TypeId × Value → H} {P : Program}
theorem law_post {f:Func} {s:ChangeSpec} {apart fresh handsOn again:Bool} {W W':World} {args:Array Value} {v:Value} {ds gs:List (DataW H)} {before pa pv:List MemPlace}
    (hW:DataW.Whole enc P f.params.toList s.vars apart W args.toList ds gs before)
    (hres:∀ (b:Nat) (sp:Nat→Bool) (hd:Bool),DataW.TrodAll enc P W' b sp hd f.resultTypes.toList (v.resultList f.resultTypes.size) (s.fn H (ds ++gs)).results [])
    (hargs:∀ sp:Nat→Bool,(∀ p ∈ before,sp p.block=true)→DataW.TrodAll enc P W' 0 sp true f.params.toList args.toList (s.fn H (ds ++gs)).args pa)
    (hvars:∀ sp:Nat→Bool,(∀ p ∈ before,sp p.block=true)→DataW.TrodVars enc P W' sp s.vars (s.fn H (ds ++gs)).vars pv)
    (hps:before=pa ++pv) (hb:Base [] W W')
    (hok:∀ (j:Nat) (t:TypeId) (r:Value),f.resultTypes[j]?=some t→(v.resultList f.resultTypes.size)[j]?=some r→Value.okWide P W' .any 0 t r) :
    s.post enc P f apart fresh handsOn again W args v W':=by
  have low:∀ p ∈ before,p.block < W.heap.size:=fun p hp=>hW.lt p hp
  have mark:∀ p ∈ before,(fun b=>decide (b < W.heap.size)) p.block=true:=fun p hp=>decide_eq_true (low p hp)
  have back:=hb.below
  refine ⟨ds,gs,before,[],pa,pv,hW,hres _ _ _,hargs _ mark,hvars _ mark,World.keptBut_mono (fun p hp=>⟨hp,by rw [hps,List.mem_append] at hp;exact Or.inr hp⟩) (back.frame (· ∈ before)),fun _=>?_⟩
  obtain ⟨_,_,_,_,_,hz,hn⟩:=hW
  refine ⟨hok,_,_,([] ++pa) ++pv,⟨[] ++pa,pv,trodAll_append (hargs _ fun _ _=>rfl) (hres _ _ _),hvars _ fun _ _=>rfl,rfl,fun b off hp=>?_,fun ha=>?_⟩,fun p hp _=>?_⟩
  · have hin:MemPlace.cell b off ∈ before:=by rw [hps];simpa using hp
    rw [back.frozen (low _ hin)]
    exact hz b off hin
  · have:=hn ha
    rw [hps] at this;simpa using this
  · rw [hps];simpa using hp
end

open Go Go.RowKit Go.WideShapes Go.ChangeShapes
theorem whole_agrees (w:World):Agrees w (whole w):=fun _ _ h=>h
theorem hcells_of {w:World} {a:Addr} {vs:List Value} (h0:vs≠[]) (h:∀ (j:Nat) (v:Value),vs[j]?=some v→w.cell? (a.add j)=some v):HCells (whole w) a vs:=by
  obtain ⟨v0,vs',rfl⟩:=List.exists_cons_of_ne_nil h0
  have h1:=h 0 v0 rfl
  have e0:a.add 0=a:=by simp [Addr.add]
  rw [e0] at h1
  have hs:=World.cell?_spot h1
  unfold World.cell? at h1
  split at h1
  · rename_i c T fr hb
    refine ⟨hs,c,T,fr,hb,fun j v hj=>?_⟩
    have h2:=h j v hj
    rw [add_eq hs] at h2
    simpa [World.cell?,hb] using h2
  · cases h1
structure Opens (P:Program) (w:World) (e:TypeId) (α:Type) [Dat α]:Prop where
  cells:P.cellsOf e=Dat.size α
  full:0 < Dat.size α
  data:∀ {H:Type} {enc:TypeId × Value→H} {base:Nat} {sp:Nat→Bool} {held:Bool} {n:Nat} {cs:List Value} {x:DataW H × List MemPlace},DataW.trod enc P w base sp held n e cs=some x→∃ y:α,cs=Dat.cells y∧Dat.good (whole w) y
section
variable {H : Type} {enc : TypeId × Value → H} {P : Program} {w : World} {base : Nat} {sp : Nat → Bool} {held : Bool}
theorem cells_get {a:Addr} {n:Nat} {cs:List Value} (h:w.cells? base a n=some cs):∀ (j:Nat) (v:Value),cs[j]?=some v→w.cell? (a.add j)=some v:=by
  intro j v hj
  unfold World.cells? at h
  split at h
  · have hl:=mapM_some_length h
    have hlt:=(List.getElem?_eq_some_iff.1 hj).1
    rw [hl,List.length_range] at hlt
    have:=mapM_some_get h j j (by simp [hlt])
    rw [this,hj]
  · cases h
theorem opens_slice {α:Type} [Dat α] {t e:TypeId} (ht:P.underlying t=some (.slice e)) (o:Opens P w e α) {fuel:Nat} {cs:List Value} {x:DataW H × List MemPlace} (h:DataW.trod enc P w base sp held fuel t cs=some x) :
    ∃ (l:List α) (s:SV),cs=[s.v]∧RSl (whole w) l s.v:=by
  rcases DataW.trod_slice ht h with ⟨rfl,_⟩ | ⟨a,len,cap,elems,rest,n,_,rfl,_,_,hl,hm,hlen,hel,_⟩
  · exact ⟨[],{},rfl,RSl.nil⟩
  · have each:∀ i,i < len→∃ y:α,w.cells? base (a.add (i * Dat.size α)) (Dat.size α)=some (Dat.cells y)∧Dat.good (whole w) y:=fun i hi=>by
      have h1:=hel i hi
      rw [o.cells,List.getElem?_eq_getElem (by omega),Option.bind_eq_some_iff] at h1
      obtain ⟨cs',h2,h3⟩:=h1
      obtain ⟨y,rfl,hg⟩:=o.data h3
      exact ⟨y,h2,hg⟩
    have ⟨f,hf⟩:∃ f:Nat→α,∀ i,i < len→w.cells? base (a.add (i * Dat.size α)) (Dat.size α)=some (Dat.cells (f i))∧Dat.good (whole w) (f i) :=
      ⟨fun i=>if hi:i < len then Classical.choose (each i hi) else default,fun i hi=>by simp only [dif_pos hi];exact Classical.choose_spec (each i hi)⟩
    refine ⟨(List.range len).map f,⟨some a,len,cap⟩,rfl,⟨⟨?_,?_,some a,cap,?_,?_,hm,?_,?_⟩,?_⟩⟩
    · intro r hr;simp [rows] at hr;obtain ⟨i,_,rfl⟩:=hr;exact Dat.len _
    · intro r hr;simp [rows] at hr;obtain ⟨i,hi,rfl⟩:=hr;exact Dat.one _ _ (hf i hi).2
    · simp [SV.v]
    · simpa using hl
    · intro h;cases h
    · intro b hb hne
      cases hb
      have hrl:∀ r ∈ rows ((List.range len).map f),r.length=Dat.size α:=by intro r hr;simp [rows] at hr;obtain ⟨i,_,rfl⟩:=hr;exact Dat.len _
      have h0:0 < len:=by
        rcases Nat.eq_zero_or_pos len with h | h
        · subst h;simp [rows] at hne
        · exact h
      have hfl:=flatten_len hrl
      simp only [rows_length,List.length_map,List.length_range] at hfl
      have hsz:=o.full
      have hspot:a.spot=none:=by
        have h1:=cells_get (hf 0 h0).1
        have h2:(Dat.cells (f 0)).length=Dat.size α:=Dat.len _
        have h3:=h1 0 _ (List.getElem?_eq_getElem (by omega))
        have:=World.cell?_spot h3
        simpa [Addr.add] using this
      refine hcells_of (fun e=>?_) fun j v hj=>?_
      · rw [e] at hfl
        have:=Nat.mul_pos h0 hsz
        simp at hfl;omega
      · have hj2:=(List.getElem?_eq_some_iff.1 hj).1
        rw [hfl] at hj2
        have hk:j / Dat.size α < len:=Nat.div_lt_of_lt_mul (by rwa [Nat.mul_comm])
        have hr:j % Dat.size α < Dat.size α:=Nat.mod_lt _ hsz
        have h2:(Dat.cells (f (j / Dat.size α))).length=Dat.size α:=Dat.len _
        have e1:(rows ((List.range len).map f))[j / Dat.size α]?=some (Dat.cells (f (j / Dat.size α))):=by simp [rows,hk]
        have e2:=List.getElem?_eq_getElem (l:=Dat.cells (f (j / Dat.size α))) (i:=j % Dat.size α) (by omega)
        have e3:=flatten_get hrl _ _ _ _ e1 e2
        have ej:j / Dat.size α * Dat.size α+j % Dat.size α=j:=by rw [Nat.mul_comm];exact Nat.div_add_mod j _
        rw [ej,hj] at e3
        have h4:=cells_get (hf _ hk).1 _ _ e2
        rw [←Option.some.inj e3] at h4
        rw [←h4,add_eq hspot,add_eq (a:=a.add _) (by rw [add_eq hspot]),add_eq hspot]
        simp only [Nat.add_assoc,ej]
    · intro y hy;simp at hy;obtain ⟨i,hi,rfl⟩:=hy;exact (hf i hi).2
theorem Opens.field {α:Type} [Dat α] {t:TypeId} {fs:Array Field} (ht:P.underlying t=some (.struct fs)) {fuel:Nat} {cs:List Value} {x:DataW H × List MemPlace} (h:DataW.trod enc P w base sp held fuel t cs=some x)
    (i:Nat) {f:Field} (hi:fs[i]?=some f) (o:Opens P w f.type α):∃ y:α,(cs.drop f.offset).take (Dat.size α)=Dat.cells y∧Dat.good (whole w) y:=by
  obtain ⟨xs,n,_,_,_,hx,hf⟩:=DataW.trod_struct ht h
  have h1:=hf i f hi
  have hlt:=(Array.getElem?_eq_some_iff.1 hi).1
  rw [List.getElem?_eq_getElem (by omega),o.cells] at h1
  exact o.data h1
theorem struct_len {t:TypeId} {fs:Array Field} (ht:P.underlying t=some (.struct fs)) {fuel:Nat} {cs:List Value} {x:DataW H × List MemPlace} (h:DataW.trod enc P w base sp held fuel t cs=some x):cs.length=P.cellsOf t:=by
  obtain ⟨xs,n,_,_,hl,_⟩:=DataW.trod_struct ht h
  exact hl
theorem arg_slice {α:Type} [Dat α] {r:Reach} {b0:Nat} {t e:TypeId} (ht:P.underlying t=some (.slice e)) (o:Opens P w e α) {v:Value} {d:DataW H} {ps:List MemPlace} (hv:Value.okWide P w r b0 t v) (h:DataW.Trod enc P w base sp held t v d ps) :
    ∃ (l:List α) (s:SV),v=s.v∧RSl (whole w) l s.v:=by
  obtain ⟨n,hn⟩:=h
  obtain ⟨a,len,cap,rfl⟩:=okWide_slice ht hv
  obtain ⟨l,u,h1,h2⟩:=opens_slice ht o hn
  exact ⟨l,u,by injection h1,h2⟩
theorem arg_int {r:Reach} {b0:Nat} {t:TypeId} {k:IntKind} (ht:P.underlying t=some (.int k)) {v:Value} {d:DataW H} {ps:List MemPlace} (hv:Value.okWide P w r b0 t v) (h:DataW.Trod enc P w base sp held t v d ps):∃ n,v=.int k n∧(Lit.int k n).wf=true:=by
  obtain ⟨n,hn⟩:=h
  obtain ⟨m,rfl⟩:=okWide_int ht hv
  obtain ⟨n,h1,_,h2⟩:=DataW.trod_int ht hn
  cases h1
  exact ⟨_,rfl,h2⟩
theorem keep_all (hl:laidOutB P=true) {W W':World} (hb:Below W.heap.size W W'):∀ {ts:List TypeId} {vs:List Value} {ds:List (DataW H)} {ps:List MemPlace},(ts.all fun t=>P.readableRec t && decide (t < P.types.size))=true →
    DataW.TrodAll enc P W 0 (fun _=>true) true ts vs ds ps→(∀ x ∈ ps,x.block < W.heap.size)→∀ sp':Nat→Bool,(∀ x ∈ ps,sp' x.block=true)→DataW.TrodAll enc P W' 0 sp' true ts vs ds ps
  | [],[],[],_,_,h,_,_,_=>h
  | t :: ts,_ :: _,_ :: _,_,ht,⟨p,q,h1,h2,e⟩,hlt,sp',hs=>by
    simp only [List.all_cons,Bool.and_eq_true,decide_eq_true_eq] at ht
    refine ⟨p,q,WideElems.Trod_stays hl ht.1.1 ht.1.2 h1 (fun x hx=>hb.same (hlt x (by rw [e];exact List.mem_append_left _ hx))) (fun x hx=>hs x (by rw [e];exact List.mem_append_left _ hx)),keep_all hl hb (by simpa using ht.2) h2 (fun x hx=>hlt x (by rw [e];exact List.mem_append_right _ hx)) sp' (fun x hx=>hs x (by rw [e];exact List.mem_append_right _ hx)),e⟩
theorem opens_fat {α:Type} [Dat α] {k e:TypeId} (ht:P.underlying k=some (.slice e)) (hc:P.cellsOf k=1) (o:Opens P w e α):Opens P w k (Fat α) :=
  ⟨hc,by show 0 < 1;decide,fun h=>by
    obtain ⟨l,s,rfl,hr⟩:=opens_slice ht o h
    exact ⟨⟨l,s⟩,rfl,hr⟩⟩
theorem Cp.law {P:Program} {f:FuncId} {args:Array Value} {F:List FP} {v:Value} (h:Cp P f args F v) (W:World) (hF:conjL (F.map fun q=>q.p (whole W))):Calls P f args W fun e w'=>e=.returned v∧Base [] W w':=by
  refine (h W (whole W) (fun _=>none) (whole_agrees W) (fun q hq=>conjL_mem hF _ (List.mem_map_of_mem hq)) ⟨Base.refl _ _,fun K hK=>?_,fun k b o hk=>?_,fun k l b o o' hk _=>?_⟩ fun r x hx=>?_).mono ?_
  · have:K=whole W:=by simpa using hK
    subst this;exact whole_agrees W
  · simp [ents] at hk
  · simp [ents] at hk
  · simp at hx
  · rintro e w' ⟨g,C⟩
    exact ⟨C.ret,C.base⟩
theorem opens_int {k:TypeId} (ht:P.underlying k=some (.int .i64)) (hc:P.cellsOf k=1):Opens P w k Int :=
  ⟨hc,by decide,fun h=>by obtain ⟨n,rfl,_,_⟩:=DataW.trod_int ht h;exact ⟨n,rfl,trivial⟩⟩
end

open Go Go.Proofs
theorem opens_31 (w:World):Opens Try.prog w 31 DBig:=⟨by kernel_rfl,by decide,fun {_ _ _ _ _ _ cs _} h=>by
  have hl:cs.length=2:=(struct_len Try.underlying31 h).trans (by kernel_rfl)
  obtain ⟨y0,e0,g0⟩:=Opens.field Try.underlying31 h 0 rfl (Kb.opens_int Try.underlying3 (by kernel_rfl))
  obtain ⟨y1,e1,g1⟩:=Opens.field Try.underlying31 h 1 rfl (Kb.opens_fat Try.underlying29 (by kernel_rfl) (Kb.opens_int Try.underlying3 (by kernel_rfl)))
  obtain ⟨c0,c1,rfl⟩:∃ c0 c1,cs=[c0,c1]:=by
    rcases cs with _ | ⟨c0,_ | ⟨c1,_ | ⟨_,_⟩⟩⟩
    all_goals first | exact ⟨_,_,rfl⟩ | (simp at hl;done) | (simp at hl;omega)
  simp [Dat.cells,Dat.size] at e0 e1
  refine ⟨⟨y0,y1⟩,?_,g1⟩
  simp [Dat.cells,e0,e1]⟩
theorem opens_33 (w:World):Opens Try.prog w 33 DFrac:=⟨by kernel_rfl,by decide,fun {_ _ _ _ _ _ cs _} h=>by
  have hl:cs.length=4:=(struct_len Try.underlying33 h).trans (by kernel_rfl)
  obtain ⟨y0,e0,g0⟩:=Opens.field Try.underlying33 h 0 rfl (Kb.opens_31 w)
  obtain ⟨y1,e1,g1⟩:=Opens.field Try.underlying33 h 1 rfl (Kb.opens_31 w)
  obtain ⟨c0,c1,c2,c3,rfl⟩:∃ c0 c1 c2 c3,cs=[c0,c1,c2,c3]:=by
    rcases cs with _ | ⟨c0,_ | ⟨c1,_ | ⟨c2,_ | ⟨c3,_ | ⟨_,_⟩⟩⟩⟩⟩
    all_goals first | exact ⟨_,_,_,_,rfl⟩ | (simp at hl;done) | (simp at hl;omega)
  simp [Dat.cells,Dat.size] at e0 e1
  refine ⟨⟨y0,y1⟩,?_,⟨g0,g1⟩⟩
  simp [Dat.cells,e0,e1]⟩
end Kb
