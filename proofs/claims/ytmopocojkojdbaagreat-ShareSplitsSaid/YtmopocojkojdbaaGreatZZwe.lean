/- Texts for the claim, put together: the calculus of regions, its rules, and contracts of the functions that the law reaches. -/
import Derived.Test.YtmopocojkojdbaaGreatZZwd
set_option linter.unusedVariables false
set_option linter.unusedSectionVars false
set_option linter.unusedSimpArgs false
namespace Kb
open Go Go.Proofs
set_option maxRecDepth 10000 in
theorem srds_ct (s:ByteArray) (hs:s.size≤9223372036854775807) :
    Cp Tryz.prog 98 #[tv s] [] (bv (decide (Sx.rds s))):=by
  refine V.fo mo Tryz.func98 12 1 fun w H ε k0=>?_;clear k0
  refine V.g [.kb false] fun _ _ G1=>?_;intro S_ s_
  refine nm (Un.dv ((Un.read s).1) 0:Int) fun n1 hn1=>?_;refine nm (Un.dv ((Un.read s).1) 1:Int) fun n2 hn2=>?_;refine nm (Un.dv ((Un.read s).1) 2:Int) fun n3 hn3=>?_;refine nm (Un.dv ((Un.read s).1) 3:Int) fun n4 hn4=>?_;refine nm (Un.dv ((Un.read s).1) 4:Int) fun n5 hn5=>?_;refine nm (Un.dv ((Un.read s).1) 5:Int) fun n6 hn6=>?_;refine nm (Fr.rS (((Un.read s).1).isSome=true) (Un.fv ((Un.read s).1)):Int) fun n7 hn7=>?_;refine nm (Fr.rD (((Un.read s).1).isSome=true) (Un.fv ((Un.read s).1)):List Int) fun l1 hl1=>?_;refine nm (Fr.rT (((Un.read s).1).isSome=true):Int) fun n8 hn8=>?_;refine nm (Fr.rE (((Un.read s).1).isSome=true) (Un.fv ((Un.read s).1)):List Int) fun l2 hl2=>?_;refine nm ((Un.read s).2:Int) fun n9 hn9=>?_;refine V.gf [.u 1,.cA 1 129 [] fun G=>uread_ctv s (by omega) n1 hn1 n2 hn2 n3 hn3 n4 hn4 n5 hn5 n6 hn6 n7 hn7 l1 hl1 n8 hn8 l2 hl2 n9 hn9,.u 3,.n 0,.s 0,.u 1] fun _ _ G2=>?_;intro S_ s_
  refine V.gf [.u 3] fun _ _ G3=>?_;intro S_ s_
  have e0:(decide (n9=0))=decide (Sx.rds s):=by
    rw [hn9];refine Bool.eq_iff_iff.2 (Iff.trans iDT (Iff.trans ?_ decide_eq_true_iff.symm));exact Iff.rfl
  exact V.rT [0] [] [] [] [] [] (cong1 (fun (xz0:Bool)=>(bv xz0:Value)) e0)
set_option maxRecDepth 10000 in
theorem samt_ct (n:Int) :
    Cp Tryz.prog 99 #[iv n] [] (bv (decide (Sx.amt n))):=by
  refine V.fo mo Tryz.func99 9 0 fun w H ε k0=>?_;clear k0
  refine V.g [.kb false] fun _ _ G1=>?_;intro S s
  refine nm ((decide (1≤n)) && (decide (n≤1099511627776)):Bool) fun p1 hp1=>?_;refine V.gf [.u 5,.andn g0 false (decide (1≤n)) (decide (n≤1099511627776)) p1 hp1,.u 1] fun _ _ G2=>?_;intro S s
  have e0:p1=decide (Sx.amt n):=by
    refine Bool.eq_iff_iff.2 (Iff.trans (iN hp1 (iAT iDT iDT)) (Iff.trans ?_ decide_eq_true_iff.symm));exact Iff.rfl
  exact V.rT [0] [] [] [] [] [] (cong1 (fun (xz0:Bool)=>(bv xz0:Value)) e0)
set_option maxRecDepth 10000 in
theorem snmc_ct (s:ByteArray) (hs:s.size≤9223372036854775807) :
    Cp Tryz.prog 137 #[tv s] [] (bv (!decide (Fx.fre s))):=by
  refine V.fo mo Tryz.func137 6 0 fun w H ε k0=>?_;clear k0
  refine V.g [.kb false] fun _ _ G1=>?_;intro S_ s_
  refine V.gf [.u 1,.cP 1 54 [] fun G=>sfre_ct s (by omega),.u 2] fun _ _ G2=>?_;intro S_ s_
  have e0:(!(decide (Fx.fre s)))=!decide (Fx.fre s):=by first | rfl | omega | simp_all
  exact V.rT [0] [] [] [] [] [] (cong1 (fun (xz0:Bool)=>(bv xz0:Value)) e0)
set_option maxRecDepth 10000 in
theorem snmi_ct (s:List ByteArray) (ss:SV) (hS:∀ x ∈ s,ByteArray.size x≤9223372036854775807) :
    Cp Tryz.prog 128 #[ss.v,.func (.func 137) #[] #[]] [fs true s ss] (iv (fidx (fun y:ByteArray=>!decide (Fx.fre y)) s)):=by
  refine V.fo mo Tryz.func128 19 0 fun w H ε k0=>?_;obtain ⟨⟨kl1, -⟩, -⟩:Lq s ss.v∧True:=kq k0
  clear k0;refine V.gf [.u 1] fun _ _ G1=>?_;intro S_ s_
  refine V.gf [.u 1,.ln (kF 0 s ss),.u 1] fun _ _ G2=>?_;intro S_ s_
  refine V.lp (γ:=Int) (fun k0=>⟨[(0,ss.v),(1,.func (.func 137) #[] #[]),(7,iv (s.length:Int)),(8,iv k0)],[fs false s ss],[]⟩) (fun k0=>(0≤k0)∧(k0≤(s.length:Int))∧(∀ j,j < k0.toNat→(fun y:ByteArray=>!decide (Fx.fre y)) (s.getD j default)=false)) (fun k0=>((s.length:Int)-k0).toNat) 0 [0] ?_ ?_
  · refine ⟨?_,?_,?_⟩
    · show 0≤(0:Int)
      first | omega | rfl | (simp;done) | (subst_vars;simp;done)
    · show (0:Int)≤(s.length:Int)
      first | omega | rfl | (simp;done) | (subst_vars;simp;done)
    show ∀ j,j < (0:Int).toNat→(fun y:ByteArray=>!decide (Fx.fre y)) (s.getD j default)=false;intro j hj;simp at hj
  rintro k0 hF1 kw3 Z1 hZ1;have hF1:(0≤k0)∧(k0≤(s.length:Int))∧(∀ j,j < k0.toNat→(fun y:ByteArray=>!decide (Fx.fre y)) (s.getD j default)=false):=hF1;obtain ⟨hf1,hf2,hf3⟩:=hF1;clear kw3;refine V.gf [.u 1] fun _ _ G3=>?_;intro S_ s_;refine V.cn (b:=decide (k0 < (s.length:Int))) iDT iDF (fun q1=>?_) (fun q2=>?_)
  · refine V.gf [.u 2] fun _ _ G4=>?_;intro S_ s_
    refine nm (s.getD k0.toNat default:ByteArray) fun x1 hx1=>?_;refine V.gf [.u 3,.iX (kF 0 s ss) k0,.lE (kF 0 s ss) k0 false x1 hx1 false,.cP 5 137 [] fun G=>snmc_ct x1 (hS _ (getD_mem (by omega) hx1))] fun _ _ G5=>?_;intro S_ s_
    refine V.cn (b:=!decide (Fx.fre x1)) Iff.rfl Iff.rfl (fun q3=>?_) (fun q4=>?_)
    · refine V.gf [.u 2] fun _ _ G6=>?_;intro S_ s_
      have e0:k0=fidx (fun y:ByteArray=>!decide (Fx.fre y)) s:=by rw [fidx_at (p:=(fun y:ByteArray=>!decide (Fx.fre y))) (k:=k0) (by omega) (by omega) hx1 hf3 (by have hqq:=q3;simpa using hqq)]
      exact V.rT [0] [] [] [] [] [] (cong1 (fun (xz0:Int)=>(iv xz0:Value)) e0)
    refine V.gf [.aa (k0+1),.u 1] fun _ _ G7=>?_;intro S_ s_
    refine V.rn hZ1 (k0+1) [0] ?_ ?_
    · refine ⟨?_,?_,?_⟩
      · show 0≤(k0+1)
        first | omega | rfl | (simp;done) | (subst_vars;simp;done)
      · show (k0+1)≤(s.length:Int)
        first | omega | rfl | (simp;done) | (subst_vars;simp;done)
      show ∀ j,j < (k0+1).toNat→(fun y:ByteArray=>!decide (Fx.fre y)) (s.getD j default)=false;exact fidx_step (p:=(fun y:ByteArray=>!decide (Fx.fre y))) hf3 (by omega) hx1 (by have hqq:=q4;simpa using hqq)
    show ((s.length:Int)-(k0+1)).toNat < ((s.length:Int)-k0).toNat;omega
  refine V.gf [.u 1] fun _ _ G8=>?_;intro S_ s_
  have e0:(-1:Int)=fidx (fun y:ByteArray=>!decide (Fx.fre y)) s:=(fidx_no fun j hj=>hf3 j (by omega)).symm;exact V.rT [0] [] [] [] [] [] (cong1 (fun (xz0:Int)=>(iv xz0:Value)) e0)
theorem snmi_ctv (s:List ByteArray) (ss:SV) (hS:∀ x ∈ s,ByteArray.size x≤9223372036854775807) (rv0:Int) (erv0:rv0=fidx (fun y:ByteArray=>!decide (Fx.fre y)) s) :
    Cp Tryz.prog 128 #[ss.v,.func (.func 137) #[] #[]] [fs true s ss] (iv rv0):=by
  subst erv0;exact snmi_ct s ss hS
set_option maxRecDepth 10000 in
theorem snmk_ct (s:List ByteArray) (ss:SV) (hS:∀ x ∈ s,ByteArray.size x≤9223372036854775807) :
    Cp Tryz.prog 86 #[ss.v,.func (.func 137) #[] #[]] [fs true s ss] (bv (s.any (fun y:ByteArray=>!decide (Fx.fre y)))):=by
  refine V.fo mo Tryz.func86 9 0 fun w H ε k0=>?_;clear k0
  refine V.g [.kb false] fun _ _ G1=>?_;intro S_ s_
  refine nm (fidx (fun y:ByteArray=>!decide (Fx.fre y)) s:Int) fun n1 hn1=>?_;refine V.gf [.u 2,.cP 2 128 [kA 0 s ss] fun G=>snmi_ctv s ss (by assumption) n1 hn1,.u 2] fun _ _ G2=>?_;intro S_ s_
  have e0:(decide (0≤n1))=s.any (fun y:ByteArray=>!decide (Fx.fre y)):=by
    refine Bool.eq_iff_iff.2 (Iff.trans iDT (Iff.trans ?_ Iff.rfl));have hfi:=hn1;rw [hfi];exact fidx_nn
  exact V.rT [0] [] [] [] [] [] (cong1 (fun (xz0:Bool)=>(bv xz0:Value)) e0)
set_option maxRecDepth 10000 in
theorem snms_ct (l:List ByteArray) (ls:SV) (low high:Int) (hS:∀ x ∈ l,ByteArray.size x≤9223372036854775807) :
    Cp Tryz.prog 106 #[ls.v,iv low,iv high] [fs true l ls] (bv (decide (Sx.nms l low high))):=by
  refine V.fo mo Tryz.func106 22 0 fun w H ε k0=>?_;clear k0
  refine V.g [.kb false] fun _ _ G1=>?_;intro S s
  refine nm ((decide (low≤(l.length:Int))) && (decide ((l.length:Int)≤high)):Bool) fun p1 hp1=>?_;refine nm (p1 && (!(l.any (fun y:ByteArray=>!decide (Fx.fre y)))):Bool) fun p2 hp2=>?_;refine V.gf [.u 1,.ln (kF 0 l ls),.u 4,.ln (kF 0 l ls),.u 2,.andn g0 false (decide (low≤(l.length:Int))) (decide ((l.length:Int)≤high)) p1 hp1,.u 2,.cp (gT (b:=p1) (iN hp1 (iAT iDT iDT))) 12 86 [kA 0 l ls] (fun hg G=>snmk_ct l ls (by assumption)),.u 1,.andn g0 false p1 (!(l.any (fun y:ByteArray=>!decide (Fx.fre y)))) p2 hp2,.u 1] fun _ _ G2=>?_;intro S s
  have e0:p2=decide (Sx.nms l low high):=by
    refine Bool.eq_iff_iff.2 (Iff.trans (iN hp2 (iAT (iN hp1 (iAT iDT iDT)) (iNT Iff.rfl))) (Iff.trans ?_ decide_eq_true_iff.symm));unfold Sx.nms;grind
  exact V.rT [0] [] [] [] [] [] (cong1 (fun (xz0:Bool)=>(bv xz0:Value)) e0)
set_option maxRecDepth 10000 in
theorem tin_ct (n:Int) :
    Cp Tryz.prog 133 #[iv n] [] (bv (decide (Tb.inR n))):=by
  refine V.fo mo Tryz.func133 9 0 fun w H ε k0=>?_;clear k0
  refine V.g [.kb false] fun _ _ G1=>?_;intro S s
  refine nm ((decide ((-1099511627776)≤n)) && (decide (n≤1099511627776)):Bool) fun p1 hp1=>?_;refine V.gf [.u 5,.andn g0 false (decide ((-1099511627776)≤n)) (decide (n≤1099511627776)) p1 hp1,.u 1] fun _ _ G2=>?_;intro S s
  have e0:p1=decide (Tb.inR n):=by
    refine Bool.eq_iff_iff.2 (Iff.trans (iN hp1 (iAT iDT iDT)) (Iff.trans ?_ decide_eq_true_iff.symm));exact Iff.rfl
  exact V.rT [0] [] [] [] [] [] (cong1 (fun (xz0:Bool)=>(bv xz0:Value)) e0)
set_option maxRecDepth 10000 in
theorem tright_ct (d c:ByteArray) (a:List DRow) (f:SV) (hs:c.size≤9223372036854775807) (hs2:d.size≤9223372036854775807) :
    Cp Tryz.prog 100 #[ag (DTable.mk d c ⟨a,f⟩)] [fs true a f] (bv (decide (Tb.RtT d c a))):=by
  refine V.fo mo Tryz.func100 62 3 fun w H ε k0=>?_;clear k0
  refine V.gf [.n 0,.kb false] fun _ _ G1=>?_;intro S_ s_
  refine nm (Un.dv ((Un.read c).1) 0:Int) fun n1 hn1=>?_;refine nm (Un.dv ((Un.read c).1) 1:Int) fun n2 hn2=>?_;refine nm (Un.dv ((Un.read c).1) 2:Int) fun n3 hn3=>?_;refine nm (Un.dv ((Un.read c).1) 3:Int) fun n4 hn4=>?_;refine nm (Un.dv ((Un.read c).1) 4:Int) fun n5 hn5=>?_;refine nm (Un.dv ((Un.read c).1) 5:Int) fun n6 hn6=>?_;refine nm (Fr.rS (((Un.read c).1).isSome=true) (Un.fv ((Un.read c).1)):Int) fun n7 hn7=>?_;refine nm (Fr.rD (((Un.read c).1).isSome=true) (Un.fv ((Un.read c).1)):List Int) fun l1 hl1=>?_;refine nm (Fr.rT (((Un.read c).1).isSome=true):Int) fun n8 hn8=>?_;refine nm (Fr.rE (((Un.read c).1).isSome=true) (Un.fv ((Un.read c).1)):List Int) fun l2 hl2=>?_;refine nm ((Un.read c).2:Int) fun n9 hn9=>?_;refine V.gf [.u 1,.l 0,.cA 2 129 [] fun G=>uread_ctv c (by omega) n1 hn1 n2 hn2 n3 hn3 n4 hn4 n5 hn5 n6 hn6 n7 hn7 l1 hl1 n8 hn8 l2 hl2 n9 hn9,.u 3,.n 1,.s 1,.u 1] fun _ _ G2=>?_;intro S_ s_
  refine nm ((!(decide (n9=0))) || (!(decide (Tb.Nm d))):Bool) fun p1 hp1=>?_;refine V.gf [.u 4,.l 0,.cp (gF (b:=!(decide (n9=0))) (iNF iDT)) 5 96 [] (fun hg G=>lname_ct d (by omega)),.u 1,.orn g0 false (!(decide (n9=0))) (!(decide (Tb.Nm d))) p1 hp1,.u 2,.l 0,.ln (kF 0 a f),.u 1,.or g0 false p1 (decide (100 < (a.length:Int)))] fun _ _ G3=>?_;intro S_ s_
  refine V.cn (b:=p1 || (decide (100 < (a.length:Int)))) (iOT (iN hp1 (iOT (iNT iDF) (iNT iDF))) iDT) (iOF (iN hp1 (iOF (iNF iDT) (iNF iDT))) iDF) (fun q1=>?_) (fun q2=>?_)
  · refine V.g [.kb false] fun _ _ G4=>?_;intro S_ s_
    have e0:false=decide (Tb.RtT d c a):=by exact (decide_eq_false fun h=>by have hqq:=q1;rw [hn9] at hqq;rcases hqq with (h1 | h1) | h1;exact h1 h.1.1.1;exact h1 h.1.1.2;have:=h.1.2;omega).symm
    exact V.rT [0] [] [] [] [] [] (cong1 (fun (xz0:Bool)=>(bv xz0:Value)) e0)
  have hH:((Un.read c).2=0∧Tb.Nm d)∧(a.length:Int)≤100:=by have hqq:=q2;rw [hn9] at hqq;exact ⟨hqq.1,by have:=hqq.2;omega⟩
  refine V.gf [.u 1,.l 0,.ln (kF 0 a f),.u 1] fun _ _ G5=>?_;intro S_ s_
  refine V.lp (γ:=Int) (fun k0=>⟨[(1,pp ((G1 0).b) 0),(28,f.v),(29,iv (a.length:Int)),(30,iv k0)],[fs false a f,fs true l1 ((G2 2).ss 0),fs true l2 ((G2 2).ss 1)],[.blk ((G1 0).b) (ca (DTable.mk d c ⟨a,f⟩)) 175,.blk ((G2 6).b) #[iv n1,iv n2,iv n3,iv n4,iv n5,iv n6,iv n7,((G2 2).ss 0).v,iv n8,((G2 2).ss 1).v] 210,.no]⟩) (fun k0=>(0≤k0)∧(k0≤(a.length:Int))∧(∀ j,j < k0.toNat→Tb.RowOk a j)) (fun k0=>((a.length:Int)-k0).toNat) 0 [0,1,2] ?_ ?_
  · refine ⟨?_,?_,?_⟩
    · show 0≤(0:Int)
      first | omega | rfl | (simp;done) | (subst_vars;simp;done)
    · show (0:Int)≤(a.length:Int)
      first | omega | rfl | (simp;done) | (subst_vars;simp;done)
    show ∀ j,j < (0:Int).toNat→Tb.RowOk a j;intro j hj;simp at hj
  rintro k0 hF1 kw6 Z1 hZ1;have hF1:(0≤k0)∧(k0≤(a.length:Int))∧(∀ j,j < k0.toNat→Tb.RowOk a j):=hF1;obtain ⟨hf1,hf2,hf3⟩:=hF1;clear kw6;refine V.gf [.u 1] fun _ _ G6=>?_;intro S_ s_;refine V.cn (b:=decide (k0 < (a.length:Int))) iDT iDF (fun q3=>?_) (fun q4=>?_)
  · refine nm (a.getD k0.toNat default:DRow) fun x1 hx1=>?_;refine V.gf [.u 1,.iX (kF 0 a f) k0,.lE (kF 0 a f) k0 false x1 hx1 true,.n 2,.u 1,.s 2] fun _ _ G7=>?_;intro S_ s_
    refine nm ((!(decide (Tb.inR x1.Key))) || (!(decide (Tb.inR x1.Value))):Bool) fun p2 hp2=>?_;refine nm (a.getD (k0-1).toNat default:DRow) fun x2 hx2=>?_;refine nm ((decide (0 < k0)) && (decide (x1.Key≤x2.Key)):Bool) fun p3 hp3=>?_;have hkx:Tb.ky a k0.toNat=x1.Key:=by rw [hx1];rfl
    have hvx:Tb.vl a k0.toNat=x1.Value:=by rw [hx1];rfl
    have hky:0 < k0→Tb.ky a (k0.toNat-1)=x2.Key:=fun h=>by rw [hx2,show ((k0-1)).toNat=k0.toNat-1 by omega];rfl
    refine V.gf [.u 1,.l 2,.cP 2 133 [] fun G=>tin_ct x1.Key,.u 3,.l 2,.cp (gF (b:=!(decide (Tb.inR x1.Key))) (iNF iDT)) 7 133 [] (fun hg G=>tin_ct x1.Value),.u 1,.orn g0 false (!(decide (Tb.inR x1.Key))) (!(decide (Tb.inR x1.Value))) p2 hp2,.u 5,.l 2,.u 1,.l 0,.u 1,.arg ((gF (b:=p2) (iN hp2 (iOF (iNF iDT) (iNF iDT)))).T (b:=decide (0 < k0)) iDT) (k0-1) (k0-1) rfl (fun hg=>by omega),.ix ((gF (b:=p2) (iN hp2 (iOF (iNF iDT) (iNF iDT)))).T (b:=decide (0 < k0)) iDT) (kF 0 a f) (k0-1) (fun hg=>⟨by omega,by omega⟩),.u 1,.le ((gF (b:=p2) (iN hp2 (iOF (iNF iDT) (iNF iDT)))).T (b:=decide (0 < k0)) iDT) (kF 0 a f) (k0-1) (some 0) false x2 hx2 (fun hg=>⟨by omega,by omega⟩) false (fun _=>[iv x2.Key]),.u 1,.andn (gF (b:=p2) (iN hp2 (iOF (iNF iDT) (iNF iDT)))) false (decide (0 < k0)) (decide (x1.Key≤x2.Key)) p3 hp3,.or g0 false p2 p3] fun _ _ G8=>?_;intro S_ s_
    refine V.cn (b:=p2 || p3) (iOT (iN hp2 (iOT (iNT iDF) (iNT iDF))) (iN hp3 (iAT iDT iDT))) (iOF (iN hp2 (iOF (iNF iDT) (iNF iDT))) (iN hp3 (iAF iDF iDF))) (fun q5=>?_) (fun q6=>?_)
    · refine V.g [.kb false] fun _ _ G9=>?_;intro S_ s_
      have e0:false=decide (Tb.RtT d c a):=by
        refine (decide_eq_false fun h=>?_).symm;have h1:=h.2 k0.toNat (by omega);unfold Tb.RowOk at h1;rw [hkx,hvx] at h1;have hqq:=q5;rcases hqq with (h2 | h2) | ⟨h2,h3⟩
        · exact h2 h1.1.1
        · exact h2 h1.1.2
        have h4:=h1.2 (by omega);rw [hky h2] at h4;omega
      exact V.rT [0] [] [] [] [] [] (cong1 (fun (xz0:Bool)=>(bv xz0:Value)) e0)
    refine V.gf [.aa (k0+1),.u 1] fun _ _ G10=>?_;intro S_ s_
    refine V.rn hZ1 (k0+1) [0,1,2] ?_ ?_
    · refine ⟨?_,?_,?_⟩
      · show 0≤(k0+1);omega
      · show (k0+1)≤(a.length:Int);omega
      show ∀ j,j < (k0+1).toNat→Tb.RowOk a j;intro j hj;by_cases e:j < k0.toNat
      · exact hf3 j e
      rw [show j=k0.toNat by omega];have hqq:=q6;unfold Tb.RowOk;rw [hkx,hvx];refine ⟨hqq.1,fun h=>?_⟩;have h0:0 < k0:=by omega
      rw [hky h0];rcases hqq.2 with h1 | h1 <;> omega
    show ((a.length:Int)-(k0+1)).toNat < ((a.length:Int)-k0).toNat;omega
  refine V.g [.kb true] fun _ _ G11=>?_;intro S_ s_
  have e0:true=decide (Tb.RtT d c a):=(decide_eq_true ⟨hH,fun i hi=>hf3 i (by omega)⟩).symm;exact V.rT [0] [] [] [] [] [] (cong1 (fun (xz0:Bool)=>(bv xz0:Value)) e0)

open Go Go.Proofs
set_option maxRecDepth 10000 in
theorem sshp_ct :
    Cp Tryz.prog 105 #[] [] (.agg #[tv ⟨#[109,101,116,101,114]⟩,iv 0,iv 0,iv 1,iv 1,bv true,bv false,bv false,tv ⟨#[116,97,107,101]⟩,iv 0,iv 0,iv 1,iv 1,bv true,bv false,bv false,tv ⟨#[100,114,97,119]⟩,iv 0,iv 0,iv 1,iv 1,bv true,bv false,bv true,tv ⟨#[115,112,108,105,116]⟩,iv 1,iv 1,iv 1,iv 100,bv false,bv true,bv false,tv ⟨#[106,111,105,110]⟩,iv 1,iv 100,iv 1,iv 1,bv false,bv false,bv false,tv ⟨#[103,105,118,101]⟩,iv 1,iv 1,iv 0,iv 0,bv true,bv false,bv false,tv ⟨#[112,117,116]⟩,iv 1,iv 1,iv 0,iv 0,bv true,bv false,bv true,tv ⟨#[108,111,115,101]⟩,iv 1,iv 1,iv 0,iv 0,bv true,bv false,bv false,tv ⟨#[114,101,115,116]⟩,iv 1,iv 1,iv 0,iv 0,bv false,bv false,bv false]):=by
  refine V.fo mo Tryz.func105 35 4 fun w H ε k0=>?_;clear k0
  refine V.gf [.n 0] fun _ _ G1=>?_;intro S_ s_
  refine V.gf [.u 3,.n 1,.n 2,.n 3,.s 1,.s 2,.s 3] fun _ _ G2=>?_;intro S_ s_
  refine V.gf [.l 1,.l 2,.u 1,.l 1,.l 2,.u 1,.l 1,.l 2,.u 1,.l 2,.l 3,.u 1,.l 3,.l 2,.u 1,.l 2,.l 1,.u 1,.l 2,.l 1,.u 1,.l 2,.l 1,.u 1,.l 2,.l 1,.u 2,.s 0] fun _ _ G3=>?_;intro S_ s_
  exact V.rS [0] [] [] [] [] []
set_option maxRecDepth 10000 in
theorem sstp_ct (k:Int) (a:List ByteArray) (i:SV) (c:List ByteArray) (h:SV) (e:ByteArray) (d:List ByteArray) (j:SV) (f:Int) (hN:e.size≤9223372036854775807) (hI:∀ x ∈ a,ByteArray.size x≤9223372036854775807) (hO:∀ x ∈ c,ByteArray.size x≤9223372036854775807) (hC:∀ x ∈ d,ByteArray.size x≤9223372036854775807) :
    Cp Tryz.prog 60 #[ag (DStep.mk k ⟨a,i⟩ ⟨c,h⟩ e ⟨d,j⟩ f)] [fs true a i,fs true c h,fs true d j] (bv (decide (Sx.stp k a c e d f))):=by
  refine V.fo mo Tryz.func60 89 2 fun w H ε k0=>?_;clear k0
  refine V.gf [.n 0,.kb false] fun _ _ G1=>?_;intro S_ s_
  refine nm ((decide (k < 0)) || (decide (9≤k)):Bool) fun p1 hp1=>?_;refine V.gf [.u 1,.l 0,.u 3,.l 0,.u 1,.orn g0 false (decide (k < 0)) (decide (9≤k)) p1 hp1] fun _ _ G2=>?_;intro S_ s_
  refine V.cn (b:=p1) (iN hp1 (iOT iDT iDT)) (iN hp1 (iOF iDF iDF)) (fun q1=>?_) (fun q2=>?_)
  · refine V.g [.kb false] fun _ _ G3=>?_;intro S_ s_
    have e0:false=decide (Sx.stp k a c e d f):=by
      refine Bool.eq_iff_iff.2 (Iff.trans iFT (Iff.trans ?_ decide_eq_true_iff.symm));unfold Sx.stp;grind
    exact V.rT [0] [] [] [] [] [] (cong1 (fun (xz0:Bool)=>(bv xz0:Value)) e0)
  rcases (by omega:k=0∨k=1∨k=2∨k=3∨k=4∨k=5∨k=6∨k=7∨k=8) with rfl | rfl | rfl | rfl | rfl | rfl | rfl | rfl | rfl
  · refine V.gf [.cP 0 105 [] fun G=>sshp_ct ,.u 1,.l 0,.u 1,.n 1,.s 1] fun _ _ G4=>?_;intro S_ s_
    refine V.gf [.u 1] fun _ _ G5=>?_;intro S_ s_
    refine V.gf [.u 1,.l 1] fun _ _ G6=>?_;intro S_ s_
    refine V.condF (by kernel_rfl) ?_;refine nm ((!(decide (Sx.nms a (0:Int) (0:Int)))) || (!(decide (Sx.nms c (1:Int) (1:Int)))):Bool) fun p2 hp2=>?_;refine nm (p2 || (!(decide (Sx.nms d (0:Int) (0:Int)))):Bool) fun p3 hp3=>?_;refine V.gf [.u 1,.l 0,.u 2,.l 1,.u 2,.l 1,.cP 8 106 [kA 0 a i] fun G=>snms_ct a i (0:Int) (0:Int) hI,.u 3,.l 0,.u 2,.l 1,.u 2,.l 1,.cp (gF (b:=!(decide (Sx.nms a (0:Int) (0:Int)))) (iNF iDT)) 19 106 [kA 1 c h] (fun hg G=>snms_ct c h (1:Int) (1:Int) hO),.u 1,.orn g0 false (!(decide (Sx.nms a (0:Int) (0:Int)))) (!(decide (Sx.nms c (1:Int) (1:Int)))) p2 hp2,.u 2,.l 0,.u 2,.cp (gF (b:=p2) (iN hp2 (iOF (iNF iDT) (iNF iDT)))) 27 106 [kA 2 d j] (fun hg G=>snms_ct d j (0:Int) (0:Int) hC),.u 1,.orn g0 false p2 (!(decide (Sx.nms d (0:Int) (0:Int)))) p3 hp3,.u 1] fun _ _ G7=>?_;intro S_ s_
    refine V.cn (b:=p3) (iN hp3 (iOT (iN hp2 (iOT (iNT iDF) (iNT iDF))) (iNT iDF))) (iN hp3 (iOF (iN hp2 (iOF (iNF iDT) (iNF iDT))) (iNF iDT))) (fun q3=>?_) (fun q4=>?_)
    · refine V.g [.kb false] fun _ _ G8=>?_;intro S_ s_
      have e0:false=decide (Sx.stp (0:Int) a c e d f):=by
        refine Bool.eq_iff_iff.2 (Iff.trans iFT (Iff.trans ?_ decide_eq_true_iff.symm));unfold Sx.stp;grind
      exact V.rT [0] [] [] [] [] [] (cong1 (fun (xz0:Bool)=>(bv xz0:Value)) e0)
    refine V.gf [.u 1,.l 1,.kb true,.u 1,.l 0,.cP 5 54 [] fun G=>sfre_ct e hN,.u 4,.l 1,.kb false,.kb false,.u 1,.l 0,.sne e ByteArray.empty,.kb false,.or g0 false (!(decide (Fx.fre e))) false,.u 1] fun _ _ G9=>?_;intro S_ s_
    refine V.cn (b:=(!(decide (Fx.fre e))) || false) (iOT (iNT iDF) iFT) (iOF (iNF iDT) iFF) (fun q5=>?_) (fun q6=>?_)
    · refine V.g [.kb false] fun _ _ G10=>?_;intro S_ s_
      have e0:false=decide (Sx.stp (0:Int) a c e d f):=by
        refine Bool.eq_iff_iff.2 (Iff.trans iFT (Iff.trans ?_ decide_eq_true_iff.symm));unfold Sx.stp;grind
      exact V.rT [0] [] [] [] [] [] (cong1 (fun (xz0:Bool)=>(bv xz0:Value)) e0)
    refine V.gf [.u 1,.l 1,.kb false,.dead,.dead,.dead,.kb false,.kb false,.u 1,.l 1,.kb true,.kb true,.u 1,.l 0,.u 4] fun _ _ G11=>?_;intro S_ s_
    have e0:(decide (f=0))=decide (Sx.stp (0:Int) a c e d f):=by
      refine Bool.eq_iff_iff.2 (Iff.trans iDT (Iff.trans ?_ decide_eq_true_iff.symm));unfold Sx.stp;grind
    exact V.rT [0] [] [] [] [] [] (cong1 (fun (xz0:Bool)=>(bv xz0:Value)) e0)
  · refine V.gf [.cP 0 105 [] fun G=>sshp_ct ,.u 1,.l 0,.u 1,.n 1,.s 1] fun _ _ G12=>?_;intro S_ s_
    refine V.gf [.u 1] fun _ _ G13=>?_;intro S_ s_
    refine V.gf [.u 1,.l 1] fun _ _ G14=>?_;intro S_ s_
    refine V.condF (by kernel_rfl) ?_;refine nm ((!(decide (Sx.nms a (0:Int) (0:Int)))) || (!(decide (Sx.nms c (1:Int) (1:Int)))):Bool) fun p4 hp4=>?_;refine nm (p4 || (!(decide (Sx.nms d (0:Int) (0:Int)))):Bool) fun p5 hp5=>?_;refine V.gf [.u 1,.l 0,.u 2,.l 1,.u 2,.l 1,.cP 8 106 [kA 0 a i] fun G=>snms_ct a i (0:Int) (0:Int) hI,.u 3,.l 0,.u 2,.l 1,.u 2,.l 1,.cp (gF (b:=!(decide (Sx.nms a (0:Int) (0:Int)))) (iNF iDT)) 19 106 [kA 1 c h] (fun hg G=>snms_ct c h (1:Int) (1:Int) hO),.u 1,.orn g0 false (!(decide (Sx.nms a (0:Int) (0:Int)))) (!(decide (Sx.nms c (1:Int) (1:Int)))) p4 hp4,.u 2,.l 0,.u 2,.cp (gF (b:=p4) (iN hp4 (iOF (iNF iDT) (iNF iDT)))) 27 106 [kA 2 d j] (fun hg G=>snms_ct d j (0:Int) (0:Int) hC),.u 1,.orn g0 false p4 (!(decide (Sx.nms d (0:Int) (0:Int)))) p5 hp5,.u 1] fun _ _ G15=>?_;intro S_ s_
    refine V.cn (b:=p5) (iN hp5 (iOT (iN hp4 (iOT (iNT iDF) (iNT iDF))) (iNT iDF))) (iN hp5 (iOF (iN hp4 (iOF (iNF iDT) (iNF iDT))) (iNF iDT))) (fun q7=>?_) (fun q8=>?_)
    · refine V.g [.kb false] fun _ _ G16=>?_;intro S_ s_
      have e0:false=decide (Sx.stp (1:Int) a c e d f):=by
        refine Bool.eq_iff_iff.2 (Iff.trans iFT (Iff.trans ?_ decide_eq_true_iff.symm));unfold Sx.stp;grind
      exact V.rT [0] [] [] [] [] [] (cong1 (fun (xz0:Bool)=>(bv xz0:Value)) e0)
    refine V.gf [.u 1,.l 1,.kb true,.u 1,.l 0,.cP 5 54 [] fun G=>sfre_ct e hN,.u 4,.l 1,.kb false,.kb false,.u 1,.l 0,.sne e ByteArray.empty,.kb false,.or g0 false (!(decide (Fx.fre e))) false,.u 1] fun _ _ G17=>?_;intro S_ s_
    refine V.cn (b:=(!(decide (Fx.fre e))) || false) (iOT (iNT iDF) iFT) (iOF (iNF iDT) iFF) (fun q9=>?_) (fun q10=>?_)
    · refine V.g [.kb false] fun _ _ G18=>?_;intro S_ s_
      have e0:false=decide (Sx.stp (1:Int) a c e d f):=by
        refine Bool.eq_iff_iff.2 (Iff.trans iFT (Iff.trans ?_ decide_eq_true_iff.symm));unfold Sx.stp;grind
      exact V.rT [0] [] [] [] [] [] (cong1 (fun (xz0:Bool)=>(bv xz0:Value)) e0)
    refine V.gf [.u 1,.l 1,.kb false,.dead,.dead,.dead,.kb false,.kb false,.u 1,.l 1,.kb true,.kb true,.u 1,.l 0,.u 4] fun _ _ G19=>?_;intro S_ s_
    have e0:(decide (f=0))=decide (Sx.stp (1:Int) a c e d f):=by
      refine Bool.eq_iff_iff.2 (Iff.trans iDT (Iff.trans ?_ decide_eq_true_iff.symm));unfold Sx.stp;grind
    exact V.rT [0] [] [] [] [] [] (cong1 (fun (xz0:Bool)=>(bv xz0:Value)) e0)
  · refine V.gf [.cP 0 105 [] fun G=>sshp_ct ,.u 1,.l 0,.u 1,.n 1,.s 1] fun _ _ G20=>?_;intro S_ s_
    refine V.gf [.u 1] fun _ _ G21=>?_;intro S_ s_
    refine V.gf [.u 1,.l 1] fun _ _ G22=>?_;intro S_ s_
    refine V.condF (by kernel_rfl) ?_;refine nm ((!(decide (Sx.nms a (0:Int) (0:Int)))) || (!(decide (Sx.nms c (1:Int) (1:Int)))):Bool) fun p6 hp6=>?_;refine nm (p6 || (!(decide (Sx.nms d (0:Int) (0:Int)))):Bool) fun p7 hp7=>?_;refine V.gf [.u 1,.l 0,.u 2,.l 1,.u 2,.l 1,.cP 8 106 [kA 0 a i] fun G=>snms_ct a i (0:Int) (0:Int) hI,.u 3,.l 0,.u 2,.l 1,.u 2,.l 1,.cp (gF (b:=!(decide (Sx.nms a (0:Int) (0:Int)))) (iNF iDT)) 19 106 [kA 1 c h] (fun hg G=>snms_ct c h (1:Int) (1:Int) hO),.u 1,.orn g0 false (!(decide (Sx.nms a (0:Int) (0:Int)))) (!(decide (Sx.nms c (1:Int) (1:Int)))) p6 hp6,.u 2,.l 0,.u 2,.cp (gF (b:=p6) (iN hp6 (iOF (iNF iDT) (iNF iDT)))) 27 106 [kA 2 d j] (fun hg G=>snms_ct d j (0:Int) (0:Int) hC),.u 1,.orn g0 false p6 (!(decide (Sx.nms d (0:Int) (0:Int)))) p7 hp7,.u 1] fun _ _ G23=>?_;intro S_ s_
    refine V.cn (b:=p7) (iN hp7 (iOT (iN hp6 (iOT (iNT iDF) (iNT iDF))) (iNT iDF))) (iN hp7 (iOF (iN hp6 (iOF (iNF iDT) (iNF iDT))) (iNF iDT))) (fun q11=>?_) (fun q12=>?_)
    · refine V.g [.kb false] fun _ _ G24=>?_;intro S_ s_
      have e0:false=decide (Sx.stp (2:Int) a c e d f):=by
        refine Bool.eq_iff_iff.2 (Iff.trans iFT (Iff.trans ?_ decide_eq_true_iff.symm));unfold Sx.stp;grind
      exact V.rT [0] [] [] [] [] [] (cong1 (fun (xz0:Bool)=>(bv xz0:Value)) e0)
    refine V.gf [.u 1,.l 1,.kb true,.u 1,.l 0,.cP 5 54 [] fun G=>sfre_ct e hN,.u 4,.l 1,.kb false,.kb false,.u 1,.l 0,.sne e ByteArray.empty,.kb false,.or g0 false (!(decide (Fx.fre e))) false,.u 1] fun _ _ G25=>?_;intro S_ s_
    refine V.cn (b:=(!(decide (Fx.fre e))) || false) (iOT (iNT iDF) iFT) (iOF (iNF iDT) iFF) (fun q13=>?_) (fun q14=>?_)
    · refine V.g [.kb false] fun _ _ G26=>?_;intro S_ s_
      have e0:false=decide (Sx.stp (2:Int) a c e d f):=by
        refine Bool.eq_iff_iff.2 (Iff.trans iFT (Iff.trans ?_ decide_eq_true_iff.symm));unfold Sx.stp;grind
      exact V.rT [0] [] [] [] [] [] (cong1 (fun (xz0:Bool)=>(bv xz0:Value)) e0)
    refine V.gf [.u 1,.l 1,.kb true,.u 1,.l 0,.cP 5 99 [] fun G=>samt_ct f,.u 3,.l 1,.kb false,.kb false,.u 1,.l 0,.u 1,.kb false,.or g0 false (decide (Sx.amt f)) false,.u 1] fun _ _ G27=>?_;intro S_ s_
    have e0:((decide (Sx.amt f)) || false)=decide (Sx.stp (2:Int) a c e d f):=by
      refine Bool.eq_iff_iff.2 (Iff.trans (iOT iDT iFT) (Iff.trans ?_ decide_eq_true_iff.symm));unfold Sx.stp;grind
    exact V.rT [0] [] [] [] [] [] (cong1 (fun (xz0:Bool)=>(bv xz0:Value)) e0)
  · refine V.gf [.cP 0 105 [] fun G=>sshp_ct ,.u 1,.l 0,.u 1,.n 1,.s 1] fun _ _ G28=>?_;intro S_ s_
    refine V.gf [.u 1] fun _ _ G29=>?_;intro S_ s_
    refine V.gf [.u 1,.l 1] fun _ _ G30=>?_;intro S_ s_
    refine V.condT (by kernel_rfl) ?_;refine V.gf [.u 1,.l 0,.ln (kF 1 c h),.u 1] fun _ _ G31=>?_;intro S_ s_
    refine nm ((!(decide (Sx.nms a (1:Int) (1:Int)))) || (!(decide (Sx.nms c (1:Int) (100:Int)))):Bool) fun p8 hp8=>?_;refine nm (p8 || (!(decide (Sx.nms d (c.length:Int) (c.length:Int)))):Bool) fun p9 hp9=>?_;refine V.gf [.u 1,.l 0,.u 2,.l 1,.u 2,.l 1,.cP 8 106 [kA 0 a i] fun G=>snms_ct a i (1:Int) (1:Int) hI,.u 3,.l 0,.u 2,.l 1,.u 2,.l 1,.cp (gF (b:=!(decide (Sx.nms a (1:Int) (1:Int)))) (iNF iDT)) 19 106 [kA 1 c h] (fun hg G=>snms_ct c h (1:Int) (100:Int) hO),.u 1,.orn g0 false (!(decide (Sx.nms a (1:Int) (1:Int)))) (!(decide (Sx.nms c (1:Int) (100:Int)))) p8 hp8,.u 2,.l 0,.u 2,.cp (gF (b:=p8) (iN hp8 (iOF (iNF iDT) (iNF iDT)))) 27 106 [kA 2 d j] (fun hg G=>snms_ct d j (c.length:Int) (c.length:Int) hC),.u 1,.orn g0 false p8 (!(decide (Sx.nms d (c.length:Int) (c.length:Int)))) p9 hp9,.u 1] fun _ _ G32=>?_;intro S_ s_
    refine V.cn (b:=p9) (iN hp9 (iOT (iN hp8 (iOT (iNT iDF) (iNT iDF))) (iNT iDF))) (iN hp9 (iOF (iN hp8 (iOF (iNF iDT) (iNF iDT))) (iNF iDT))) (fun q15=>?_) (fun q16=>?_)
    · refine V.g [.kb false] fun _ _ G33=>?_;intro S_ s_
      have e0:false=decide (Sx.stp (3:Int) a c e d f):=by
        refine Bool.eq_iff_iff.2 (Iff.trans iFT (Iff.trans ?_ decide_eq_true_iff.symm));unfold Sx.stp;grind
      exact V.rT [0] [] [] [] [] [] (cong1 (fun (xz0:Bool)=>(bv xz0:Value)) e0)
    refine V.gf [.u 1,.l 1,.kb false,.dead,.dead,.dead,.dead,.kb false,.kb false,.u 1,.l 1,.kb true,.kb true,.u 1,.l 0,.sne e ByteArray.empty,.u 3] fun _ _ G34=>?_;intro S_ s_
    refine V.cn (b:=!(decide (e=ByteArray.empty))) (iNT iDF) (iNF iDT) (fun q17=>?_) (fun q18=>?_)
    · refine V.g [.kb false] fun _ _ G35=>?_;intro S_ s_
      have e0:false=decide (Sx.stp (3:Int) a c e d f):=by
        refine Bool.eq_iff_iff.2 (Iff.trans iFT (Iff.trans ?_ decide_eq_true_iff.symm));unfold Sx.stp;grind
      exact V.rT [0] [] [] [] [] [] (cong1 (fun (xz0:Bool)=>(bv xz0:Value)) e0)
    refine V.gf [.u 1,.l 1,.kb false,.dead,.dead,.dead,.kb false,.kb false,.u 1,.l 1,.kb true,.kb true,.u 1,.l 0,.u 4] fun _ _ G36=>?_;intro S_ s_
    have e0:(decide (f=0))=decide (Sx.stp (3:Int) a c e d f):=by
      refine Bool.eq_iff_iff.2 (Iff.trans iDT (Iff.trans ?_ decide_eq_true_iff.symm));unfold Sx.stp;grind
    exact V.rT [0] [] [] [] [] [] (cong1 (fun (xz0:Bool)=>(bv xz0:Value)) e0)
  · refine V.gf [.cP 0 105 [] fun G=>sshp_ct ,.u 1,.l 0,.u 1,.n 1,.s 1] fun _ _ G37=>?_;intro S_ s_
    refine V.gf [.u 1] fun _ _ G38=>?_;intro S_ s_
    refine V.gf [.u 1,.l 1] fun _ _ G39=>?_;intro S_ s_
    refine V.condF (by kernel_rfl) ?_;refine nm ((!(decide (Sx.nms a (1:Int) (100:Int)))) || (!(decide (Sx.nms c (1:Int) (1:Int)))):Bool) fun p10 hp10=>?_;refine nm (p10 || (!(decide (Sx.nms d (0:Int) (0:Int)))):Bool) fun p11 hp11=>?_;refine V.gf [.u 1,.l 0,.u 2,.l 1,.u 2,.l 1,.cP 8 106 [kA 0 a i] fun G=>snms_ct a i (1:Int) (100:Int) hI,.u 3,.l 0,.u 2,.l 1,.u 2,.l 1,.cp (gF (b:=!(decide (Sx.nms a (1:Int) (100:Int)))) (iNF iDT)) 19 106 [kA 1 c h] (fun hg G=>snms_ct c h (1:Int) (1:Int) hO),.u 1,.orn g0 false (!(decide (Sx.nms a (1:Int) (100:Int)))) (!(decide (Sx.nms c (1:Int) (1:Int)))) p10 hp10,.u 2,.l 0,.u 2,.cp (gF (b:=p10) (iN hp10 (iOF (iNF iDT) (iNF iDT)))) 27 106 [kA 2 d j] (fun hg G=>snms_ct d j (0:Int) (0:Int) hC),.u 1,.orn g0 false p10 (!(decide (Sx.nms d (0:Int) (0:Int)))) p11 hp11,.u 1] fun _ _ G40=>?_;intro S_ s_
    refine V.cn (b:=p11) (iN hp11 (iOT (iN hp10 (iOT (iNT iDF) (iNT iDF))) (iNT iDF))) (iN hp11 (iOF (iN hp10 (iOF (iNF iDT) (iNF iDT))) (iNF iDT))) (fun q19=>?_) (fun q20=>?_)
    · refine V.g [.kb false] fun _ _ G41=>?_;intro S_ s_
      have e0:false=decide (Sx.stp (4:Int) a c e d f):=by
        refine Bool.eq_iff_iff.2 (Iff.trans iFT (Iff.trans ?_ decide_eq_true_iff.symm));unfold Sx.stp;grind
      exact V.rT [0] [] [] [] [] [] (cong1 (fun (xz0:Bool)=>(bv xz0:Value)) e0)
    refine V.gf [.u 1,.l 1,.kb false,.dead,.dead,.dead,.dead,.kb false,.kb false,.u 1,.l 1,.kb true,.kb true,.u 1,.l 0,.sne e ByteArray.empty,.u 3] fun _ _ G42=>?_;intro S_ s_
    refine V.cn (b:=!(decide (e=ByteArray.empty))) (iNT iDF) (iNF iDT) (fun q21=>?_) (fun q22=>?_)
    · refine V.g [.kb false] fun _ _ G43=>?_;intro S_ s_
      have e0:false=decide (Sx.stp (4:Int) a c e d f):=by
        refine Bool.eq_iff_iff.2 (Iff.trans iFT (Iff.trans ?_ decide_eq_true_iff.symm));unfold Sx.stp;grind
      exact V.rT [0] [] [] [] [] [] (cong1 (fun (xz0:Bool)=>(bv xz0:Value)) e0)
    refine V.gf [.u 1,.l 1,.kb false,.dead,.dead,.dead,.kb false,.kb false,.u 1,.l 1,.kb true,.kb true,.u 1,.l 0,.u 4] fun _ _ G44=>?_;intro S_ s_
    have e0:(decide (f=0))=decide (Sx.stp (4:Int) a c e d f):=by
      refine Bool.eq_iff_iff.2 (Iff.trans iDT (Iff.trans ?_ decide_eq_true_iff.symm));unfold Sx.stp;grind
    exact V.rT [0] [] [] [] [] [] (cong1 (fun (xz0:Bool)=>(bv xz0:Value)) e0)
  · refine V.gf [.cP 0 105 [] fun G=>sshp_ct ,.u 1,.l 0,.u 1,.n 1,.s 1] fun _ _ G45=>?_;intro S_ s_
    refine V.gf [.u 1] fun _ _ G46=>?_;intro S_ s_
    refine V.gf [.u 1,.l 1] fun _ _ G47=>?_;intro S_ s_
    refine V.condF (by kernel_rfl) ?_;refine nm ((!(decide (Sx.nms a (1:Int) (1:Int)))) || (!(decide (Sx.nms c (0:Int) (0:Int)))):Bool) fun p12 hp12=>?_;refine nm (p12 || (!(decide (Sx.nms d (0:Int) (0:Int)))):Bool) fun p13 hp13=>?_;refine V.gf [.u 1,.l 0,.u 2,.l 1,.u 2,.l 1,.cP 8 106 [kA 0 a i] fun G=>snms_ct a i (1:Int) (1:Int) hI,.u 3,.l 0,.u 2,.l 1,.u 2,.l 1,.cp (gF (b:=!(decide (Sx.nms a (1:Int) (1:Int)))) (iNF iDT)) 19 106 [kA 1 c h] (fun hg G=>snms_ct c h (0:Int) (0:Int) hO),.u 1,.orn g0 false (!(decide (Sx.nms a (1:Int) (1:Int)))) (!(decide (Sx.nms c (0:Int) (0:Int)))) p12 hp12,.u 2,.l 0,.u 2,.cp (gF (b:=p12) (iN hp12 (iOF (iNF iDT) (iNF iDT)))) 27 106 [kA 2 d j] (fun hg G=>snms_ct d j (0:Int) (0:Int) hC),.u 1,.orn g0 false p12 (!(decide (Sx.nms d (0:Int) (0:Int)))) p13 hp13,.u 1] fun _ _ G48=>?_;intro S_ s_
    refine V.cn (b:=p13) (iN hp13 (iOT (iN hp12 (iOT (iNT iDF) (iNT iDF))) (iNT iDF))) (iN hp13 (iOF (iN hp12 (iOF (iNF iDT) (iNF iDT))) (iNF iDT))) (fun q23=>?_) (fun q24=>?_)
    · refine V.g [.kb false] fun _ _ G49=>?_;intro S_ s_
      have e0:false=decide (Sx.stp (5:Int) a c e d f):=by
        refine Bool.eq_iff_iff.2 (Iff.trans iFT (Iff.trans ?_ decide_eq_true_iff.symm));unfold Sx.stp;grind
      exact V.rT [0] [] [] [] [] [] (cong1 (fun (xz0:Bool)=>(bv xz0:Value)) e0)
    refine V.gf [.u 1,.l 1,.kb true,.u 1,.l 0,.cP 5 54 [] fun G=>sfre_ct e hN,.u 4,.l 1,.kb false,.kb false,.u 1,.l 0,.sne e ByteArray.empty,.kb false,.or g0 false (!(decide (Fx.fre e))) false,.u 1] fun _ _ G50=>?_;intro S_ s_
    refine V.cn (b:=(!(decide (Fx.fre e))) || false) (iOT (iNT iDF) iFT) (iOF (iNF iDT) iFF) (fun q25=>?_) (fun q26=>?_)
    · refine V.g [.kb false] fun _ _ G51=>?_;intro S_ s_
      have e0:false=decide (Sx.stp (5:Int) a c e d f):=by
        refine Bool.eq_iff_iff.2 (Iff.trans iFT (Iff.trans ?_ decide_eq_true_iff.symm));unfold Sx.stp;grind
      exact V.rT [0] [] [] [] [] [] (cong1 (fun (xz0:Bool)=>(bv xz0:Value)) e0)
    refine V.gf [.u 1,.l 1,.kb false,.dead,.dead,.dead,.kb false,.kb false,.u 1,.l 1,.kb true,.kb true,.u 1,.l 0,.u 4] fun _ _ G52=>?_;intro S_ s_
    have e0:(decide (f=0))=decide (Sx.stp (5:Int) a c e d f):=by
      refine Bool.eq_iff_iff.2 (Iff.trans iDT (Iff.trans ?_ decide_eq_true_iff.symm));unfold Sx.stp;grind
    exact V.rT [0] [] [] [] [] [] (cong1 (fun (xz0:Bool)=>(bv xz0:Value)) e0)
  · refine V.gf [.cP 0 105 [] fun G=>sshp_ct ,.u 1,.l 0,.u 1,.n 1,.s 1] fun _ _ G53=>?_;intro S_ s_
    refine V.gf [.u 1] fun _ _ G54=>?_;intro S_ s_
    refine V.gf [.u 1,.l 1] fun _ _ G55=>?_;intro S_ s_
    refine V.condF (by kernel_rfl) ?_;refine nm ((!(decide (Sx.nms a (1:Int) (1:Int)))) || (!(decide (Sx.nms c (0:Int) (0:Int)))):Bool) fun p14 hp14=>?_;refine nm (p14 || (!(decide (Sx.nms d (0:Int) (0:Int)))):Bool) fun p15 hp15=>?_;refine V.gf [.u 1,.l 0,.u 2,.l 1,.u 2,.l 1,.cP 8 106 [kA 0 a i] fun G=>snms_ct a i (1:Int) (1:Int) hI,.u 3,.l 0,.u 2,.l 1,.u 2,.l 1,.cp (gF (b:=!(decide (Sx.nms a (1:Int) (1:Int)))) (iNF iDT)) 19 106 [kA 1 c h] (fun hg G=>snms_ct c h (0:Int) (0:Int) hO),.u 1,.orn g0 false (!(decide (Sx.nms a (1:Int) (1:Int)))) (!(decide (Sx.nms c (0:Int) (0:Int)))) p14 hp14,.u 2,.l 0,.u 2,.cp (gF (b:=p14) (iN hp14 (iOF (iNF iDT) (iNF iDT)))) 27 106 [kA 2 d j] (fun hg G=>snms_ct d j (0:Int) (0:Int) hC),.u 1,.orn g0 false p14 (!(decide (Sx.nms d (0:Int) (0:Int)))) p15 hp15,.u 1] fun _ _ G56=>?_;intro S_ s_
    refine V.cn (b:=p15) (iN hp15 (iOT (iN hp14 (iOT (iNT iDF) (iNT iDF))) (iNT iDF))) (iN hp15 (iOF (iN hp14 (iOF (iNF iDT) (iNF iDT))) (iNF iDT))) (fun q27=>?_) (fun q28=>?_)
    · refine V.g [.kb false] fun _ _ G57=>?_;intro S_ s_
      have e0:false=decide (Sx.stp (6:Int) a c e d f):=by
        refine Bool.eq_iff_iff.2 (Iff.trans iFT (Iff.trans ?_ decide_eq_true_iff.symm));unfold Sx.stp;grind
      exact V.rT [0] [] [] [] [] [] (cong1 (fun (xz0:Bool)=>(bv xz0:Value)) e0)
    refine V.gf [.u 1,.l 1,.kb true,.u 1,.l 0,.cP 5 54 [] fun G=>sfre_ct e hN,.u 4,.l 1,.kb false,.kb false,.u 1,.l 0,.sne e ByteArray.empty,.kb false,.or g0 false (!(decide (Fx.fre e))) false,.u 1] fun _ _ G58=>?_;intro S_ s_
    refine V.cn (b:=(!(decide (Fx.fre e))) || false) (iOT (iNT iDF) iFT) (iOF (iNF iDT) iFF) (fun q29=>?_) (fun q30=>?_)
    · refine V.g [.kb false] fun _ _ G59=>?_;intro S_ s_
      have e0:false=decide (Sx.stp (6:Int) a c e d f):=by
        refine Bool.eq_iff_iff.2 (Iff.trans iFT (Iff.trans ?_ decide_eq_true_iff.symm));unfold Sx.stp;grind
      exact V.rT [0] [] [] [] [] [] (cong1 (fun (xz0:Bool)=>(bv xz0:Value)) e0)
    refine V.gf [.u 1,.l 1,.kb true,.u 1,.l 0,.cP 5 99 [] fun G=>samt_ct f,.u 3,.l 1,.kb false,.kb false,.u 1,.l 0,.u 1,.kb false,.or g0 false (decide (Sx.amt f)) false,.u 1] fun _ _ G60=>?_;intro S_ s_
    have e0:((decide (Sx.amt f)) || false)=decide (Sx.stp (6:Int) a c e d f):=by
      refine Bool.eq_iff_iff.2 (Iff.trans (iOT iDT iFT) (Iff.trans ?_ decide_eq_true_iff.symm));unfold Sx.stp;grind
    exact V.rT [0] [] [] [] [] [] (cong1 (fun (xz0:Bool)=>(bv xz0:Value)) e0)
  · refine V.gf [.cP 0 105 [] fun G=>sshp_ct ,.u 1,.l 0,.u 1,.n 1,.s 1] fun _ _ G61=>?_;intro S_ s_
    refine V.gf [.u 1] fun _ _ G62=>?_;intro S_ s_
    refine V.gf [.u 1,.l 1] fun _ _ G63=>?_;intro S_ s_
    refine V.condF (by kernel_rfl) ?_;refine nm ((!(decide (Sx.nms a (1:Int) (1:Int)))) || (!(decide (Sx.nms c (0:Int) (0:Int)))):Bool) fun p16 hp16=>?_;refine nm (p16 || (!(decide (Sx.nms d (0:Int) (0:Int)))):Bool) fun p17 hp17=>?_;refine V.gf [.u 1,.l 0,.u 2,.l 1,.u 2,.l 1,.cP 8 106 [kA 0 a i] fun G=>snms_ct a i (1:Int) (1:Int) hI,.u 3,.l 0,.u 2,.l 1,.u 2,.l 1,.cp (gF (b:=!(decide (Sx.nms a (1:Int) (1:Int)))) (iNF iDT)) 19 106 [kA 1 c h] (fun hg G=>snms_ct c h (0:Int) (0:Int) hO),.u 1,.orn g0 false (!(decide (Sx.nms a (1:Int) (1:Int)))) (!(decide (Sx.nms c (0:Int) (0:Int)))) p16 hp16,.u 2,.l 0,.u 2,.cp (gF (b:=p16) (iN hp16 (iOF (iNF iDT) (iNF iDT)))) 27 106 [kA 2 d j] (fun hg G=>snms_ct d j (0:Int) (0:Int) hC),.u 1,.orn g0 false p16 (!(decide (Sx.nms d (0:Int) (0:Int)))) p17 hp17,.u 1] fun _ _ G64=>?_;intro S_ s_
    refine V.cn (b:=p17) (iN hp17 (iOT (iN hp16 (iOT (iNT iDF) (iNT iDF))) (iNT iDF))) (iN hp17 (iOF (iN hp16 (iOF (iNF iDT) (iNF iDT))) (iNF iDT))) (fun q31=>?_) (fun q32=>?_)
    · refine V.g [.kb false] fun _ _ G65=>?_;intro S_ s_
      have e0:false=decide (Sx.stp (7:Int) a c e d f):=by
        refine Bool.eq_iff_iff.2 (Iff.trans iFT (Iff.trans ?_ decide_eq_true_iff.symm));unfold Sx.stp;grind
      exact V.rT [0] [] [] [] [] [] (cong1 (fun (xz0:Bool)=>(bv xz0:Value)) e0)
    refine V.gf [.u 1,.l 1,.kb true,.u 1,.l 0,.cP 5 54 [] fun G=>sfre_ct e hN,.u 4,.l 1,.kb false,.kb false,.u 1,.l 0,.sne e ByteArray.empty,.kb false,.or g0 false (!(decide (Fx.fre e))) false,.u 1] fun _ _ G66=>?_;intro S_ s_
    refine V.cn (b:=(!(decide (Fx.fre e))) || false) (iOT (iNT iDF) iFT) (iOF (iNF iDT) iFF) (fun q33=>?_) (fun q34=>?_)
    · refine V.g [.kb false] fun _ _ G67=>?_;intro S_ s_
      have e0:false=decide (Sx.stp (7:Int) a c e d f):=by
        refine Bool.eq_iff_iff.2 (Iff.trans iFT (Iff.trans ?_ decide_eq_true_iff.symm));unfold Sx.stp;grind
      exact V.rT [0] [] [] [] [] [] (cong1 (fun (xz0:Bool)=>(bv xz0:Value)) e0)
    refine V.gf [.u 1,.l 1,.kb false,.dead,.dead,.dead,.kb false,.kb false,.u 1,.l 1,.kb true,.kb true,.u 1,.l 0,.u 4] fun _ _ G68=>?_;intro S_ s_
    have e0:(decide (f=0))=decide (Sx.stp (7:Int) a c e d f):=by
      refine Bool.eq_iff_iff.2 (Iff.trans iDT (Iff.trans ?_ decide_eq_true_iff.symm));unfold Sx.stp;grind
    exact V.rT [0] [] [] [] [] [] (cong1 (fun (xz0:Bool)=>(bv xz0:Value)) e0)
  refine V.gf [.cP 0 105 [] fun G=>sshp_ct ,.u 1,.l 0,.u 1,.n 1,.s 1] fun _ _ G69=>?_;intro S_ s_
  refine V.gf [.u 1] fun _ _ G70=>?_;intro S_ s_
  refine V.gf [.u 1,.l 1] fun _ _ G71=>?_;intro S_ s_
  refine V.condF (by kernel_rfl) ?_;refine nm ((!(decide (Sx.nms a (1:Int) (1:Int)))) || (!(decide (Sx.nms c (0:Int) (0:Int)))):Bool) fun p18 hp18=>?_;refine nm (p18 || (!(decide (Sx.nms d (0:Int) (0:Int)))):Bool) fun p19 hp19=>?_;refine V.gf [.u 1,.l 0,.u 2,.l 1,.u 2,.l 1,.cP 8 106 [kA 0 a i] fun G=>snms_ct a i (1:Int) (1:Int) hI,.u 3,.l 0,.u 2,.l 1,.u 2,.l 1,.cp (gF (b:=!(decide (Sx.nms a (1:Int) (1:Int)))) (iNF iDT)) 19 106 [kA 1 c h] (fun hg G=>snms_ct c h (0:Int) (0:Int) hO),.u 1,.orn g0 false (!(decide (Sx.nms a (1:Int) (1:Int)))) (!(decide (Sx.nms c (0:Int) (0:Int)))) p18 hp18,.u 2,.l 0,.u 2,.cp (gF (b:=p18) (iN hp18 (iOF (iNF iDT) (iNF iDT)))) 27 106 [kA 2 d j] (fun hg G=>snms_ct d j (0:Int) (0:Int) hC),.u 1,.orn g0 false p18 (!(decide (Sx.nms d (0:Int) (0:Int)))) p19 hp19,.u 1] fun _ _ G72=>?_;intro S_ s_
  refine V.cn (b:=p19) (iN hp19 (iOT (iN hp18 (iOT (iNT iDF) (iNT iDF))) (iNT iDF))) (iN hp19 (iOF (iN hp18 (iOF (iNF iDT) (iNF iDT))) (iNF iDT))) (fun q35=>?_) (fun q36=>?_)
  · refine V.g [.kb false] fun _ _ G73=>?_;intro S_ s_
    have e0:false=decide (Sx.stp (8:Int) a c e d f):=by
      refine Bool.eq_iff_iff.2 (Iff.trans iFT (Iff.trans ?_ decide_eq_true_iff.symm));unfold Sx.stp;grind
    exact V.rT [0] [] [] [] [] [] (cong1 (fun (xz0:Bool)=>(bv xz0:Value)) e0)
  refine V.gf [.u 1,.l 1,.kb false,.dead,.dead,.dead,.dead,.kb false,.kb false,.u 1,.l 1,.kb true,.kb true,.u 1,.l 0,.sne e ByteArray.empty,.u 3] fun _ _ G74=>?_;intro S_ s_
  refine V.cn (b:=!(decide (e=ByteArray.empty))) (iNT iDF) (iNF iDT) (fun q37=>?_) (fun q38=>?_)
  · refine V.g [.kb false] fun _ _ G75=>?_;intro S_ s_
    have e0:false=decide (Sx.stp (8:Int) a c e d f):=by
      refine Bool.eq_iff_iff.2 (Iff.trans iFT (Iff.trans ?_ decide_eq_true_iff.symm));unfold Sx.stp;grind
    exact V.rT [0] [] [] [] [] [] (cong1 (fun (xz0:Bool)=>(bv xz0:Value)) e0)
  refine V.gf [.u 1,.l 1,.kb false,.dead,.dead,.dead,.kb false,.kb false,.u 1,.l 1,.kb true,.kb true,.u 1,.l 0,.u 4] fun _ _ G76=>?_;intro S_ s_
  have e0:(decide (f=0))=decide (Sx.stp (8:Int) a c e d f):=by
    refine Bool.eq_iff_iff.2 (Iff.trans iDT (Iff.trans ?_ decide_eq_true_iff.symm));unfold Sx.stp;grind
  exact V.rT [0] [] [] [] [] [] (cong1 (fun (xz0:Bool)=>(bv xz0:Value)) e0)

open Go Go.Proofs
set_option maxRecDepth 10000 in
theorem suse_ct (cb:Nat) (cl_used:List (ByteArray × Bool)) (cl_usedb:Nat) (cl_ok:Bool) (name:ByteArray) (units more:Bool) (hs:name.size≤9223372036854775807) :
    Ct Tryz.prog 57 #[pp cb 0,tv name,bv units,bv more] [] [.blk cb #[.map (some cl_usedb),bv cl_ok] 126,mp false false cl_used cl_usedb] (fun g=>.tuple #[]) (fun g=>[]) (fun g=>[.blk cb #[.map (some cl_usedb),bv ((Sx.useS (cl_used,cl_ok) name units more).2)] 126,mp true false ((Sx.useS (cl_used,cl_ok) name units more).1) cl_usedb]) (fun g=>[]):=by
  refine V.fo mo Tryz.func57 39 0 fun w H ε k0=>?_;clear k0
  refine V.trm false cl_used cl_usedb 1 (by kernel_rfl) (fun _ _=>trivial) ?_;refine nm (((cl_ok && units) && more) && (decide (Fx.fre name)):Bool) fun p1 hp1=>?_;refine nm ((mlook name cl_used).getD default:Bool) fun x1 hx1=>?_;refine nm ((mlook name cl_used).isSome:Bool) fun is1 his1=>?_;refine V.gf [.u 4,.l 0,.u 2,.and g0 false cl_ok units,.u 2,.and g0 false (cl_ok && units) more,.u 2,.cp (gT (b:=(cl_ok && units) && more) (iAT (iAT Iff.rfl Iff.rfl) Iff.rfl)) 13 54 [] (fun hg G=>sfre_ct name (by omega)),.andn g0 false ((cl_ok && units) && more) (decide (Fx.fre name)) p1 hp1,.u 4,.l 0,.u 1,.lk 1 123 9 4 true false false cl_used (fun _=>cl_usedb) name x1 hx1 is1 his1 false,.u 1,.and g0 false p1 (!x1),.u 2,.s 0] fun _ _ G1=>?_;intro S_ s_
  refine nm (mupd name true cl_used:List (ByteArray × Bool)) fun m1 hm1=>?_;refine V.gf [.u 3,.l 0,.u 1,.mu 5 1 123 9 4 true false cl_used (fun _=>cl_usedb) name true m1 hm1 true (fun _=>rfl) [] (fun _ _ _=>trivial)] fun _ _ G2=>?_;intro S_ s_
  have eL1:m1=(Sx.useS (cl_used,cl_ok) name units more).1:=by subst_vars;rfl
  subst eL1;have eC0_1:(p1 && (!x1))=(Sx.useS (cl_used,cl_ok) name units more).2:=by subst_vars;rfl
  refine V.alt (fun (zz:Bool)=>(⟨[],[],[.blk cb #[.map (some cl_usedb),bv zz] 126,mp true false ((Sx.useS (cl_used,cl_ok) name units more).1) cl_usedb]⟩:St)) eC0_1 [] (by kernel_rfl) ?_;exact V.rS [] [] [] [] [] [0,1]

open Go Go.Proofs
set_option maxRecDepth 10000 in
theorem sfoc_ct (a c:ByteArray) (hn:a.size≤9223372036854775807) (hu:c.size≤9223372036854775807) :
    Cp Tryz.prog 102 #[ag (DParam.mk a c)] [] (bv ((!decide (Fx.fre a)) || (!decide (Sx.rds c)))):=by
  refine V.fo mo Tryz.func102 13 1 fun w H ε k0=>?_;clear k0
  refine V.gf [.n 0,.kb false] fun _ _ G1=>?_;intro S s
  refine nm ((!(decide (Fx.fre a))) || (!(decide (Sx.rds c))):Bool) fun p1 hp1=>?_;refine V.gf [.u 1,.l 0,.cP 2 54 [] fun G=>sfre_ct a (by omega),.u 3,.l 0,.cp (gF (b:=!(decide (Fx.fre a))) (iNF iDT)) 7 98 [] (fun hg G=>srds_ct c (by omega)),.u 1,.orn g0 false (!(decide (Fx.fre a))) (!(decide (Sx.rds c))) p1 hp1,.u 1] fun _ _ G2=>?_;intro S s
  have e0:p1=((!decide (Fx.fre a)) || (!decide (Sx.rds c))):=by subst_vars;rfl
  exact V.rT [0] [] [] [] [] [] (cong1 (fun (xz0:Bool)=>(bv xz0:Value)) e0)
set_option maxRecDepth 10000 in
theorem sfoi_ct (s:List DParam) (ss:SV) (hS:∀ x ∈ s,Sx.tx x.Name∧Sx.tx x.Unit) :
    Cp Tryz.prog 134 #[ss.v,.func (.func 102) #[] #[]] [fs true s ss] (iv (fidx (fun y:DParam=>Sx.parO y) s)):=by
  refine V.fo mo Tryz.func134 19 0 fun w H ε k0=>?_;obtain ⟨⟨kl1, -⟩, -⟩:Lq s ss.v∧True:=kq k0
  clear k0;refine V.gf [.u 1] fun _ _ G1=>?_;intro S_ s_
  refine V.gf [.u 1,.ln (kF 0 s ss),.u 1] fun _ _ G2=>?_;intro S_ s_
  refine V.lp (γ:=Int) (fun k0=>⟨[(0,ss.v),(1,.func (.func 102) #[] #[]),(7,iv (s.length:Int)),(8,iv k0)],[fs false s ss],[]⟩) (fun k0=>(0≤k0)∧(k0≤(s.length:Int))∧(∀ j,j < k0.toNat→(fun y:DParam=>Sx.parO y) (s.getD j default)=false)) (fun k0=>((s.length:Int)-k0).toNat) 0 [0] ?_ ?_
  · refine ⟨?_,?_,?_⟩
    · show 0≤(0:Int)
      first | omega | rfl | (simp;done) | (subst_vars;simp;done)
    · show (0:Int)≤(s.length:Int)
      first | omega | rfl | (simp;done) | (subst_vars;simp;done)
    show ∀ j,j < (0:Int).toNat→(fun y:DParam=>Sx.parO y) (s.getD j default)=false;intro j hj;simp at hj
  rintro k0 hF1 kw3 Z1 hZ1;have hF1:(0≤k0)∧(k0≤(s.length:Int))∧(∀ j,j < k0.toNat→(fun y:DParam=>Sx.parO y) (s.getD j default)=false):=hF1;obtain ⟨hf1,hf2,hf3⟩:=hF1;clear kw3;refine V.gf [.u 1] fun _ _ G3=>?_;intro S_ s_;refine V.cn (b:=decide (k0 < (s.length:Int))) iDT iDF (fun q1=>?_) (fun q2=>?_)
  · refine V.gf [.u 2] fun _ _ G4=>?_;intro S_ s_
    refine nm (s.getD k0.toNat default:DParam) fun x1 hx1=>?_;refine V.gf [.u 3,.iX (kF 0 s ss) k0,.lE (kF 0 s ss) k0 false x1 hx1 true,.cP 5 102 [] fun G=>sfoc_ct x1.Name x1.Unit (hS _ (getD_mem (by omega) hx1)).1 (hS _ (getD_mem (by omega) hx1)).2] fun _ _ G5=>?_;intro S_ s_
    refine V.cn (b:=(!decide (Fx.fre x1.Name)) || (!decide (Sx.rds x1.Unit))) Iff.rfl Iff.rfl (fun q3=>?_) (fun q4=>?_)
    · refine V.gf [.u 2] fun _ _ G6=>?_;intro S_ s_
      have e0:k0=fidx (fun y:DParam=>Sx.parO y) s:=by rw [fidx_at (p:=(fun y:DParam=>Sx.parO y)) (k:=k0) (by omega) (by omega) hx1 hf3 (by have hqq:=q3;simpa [Sx.parO] using hqq)]
      exact V.rT [0] [] [] [] [] [] (cong1 (fun (xz0:Int)=>(iv xz0:Value)) e0)
    refine V.gf [.aa (k0+1),.u 1] fun _ _ G7=>?_;intro S_ s_
    refine V.rn hZ1 (k0+1) [0] ?_ ?_
    · refine ⟨?_,?_,?_⟩
      · show 0≤(k0+1)
        first | omega | rfl | (simp;done) | (subst_vars;simp;done)
      · show (k0+1)≤(s.length:Int)
        first | omega | rfl | (simp;done) | (subst_vars;simp;done)
      show ∀ j,j < (k0+1).toNat→(fun y:DParam=>Sx.parO y) (s.getD j default)=false;exact fidx_step (p:=(fun y:DParam=>Sx.parO y)) hf3 (by omega) hx1 (by have hqq:=q4;simpa [Sx.parO] using hqq)
    show ((s.length:Int)-(k0+1)).toNat < ((s.length:Int)-k0).toNat;omega
  refine V.gf [.u 1] fun _ _ G8=>?_;intro S_ s_
  have e0:(-1:Int)=fidx (fun y:DParam=>Sx.parO y) s:=(fidx_no fun j hj=>hf3 j (by omega)).symm;exact V.rT [0] [] [] [] [] [] (cong1 (fun (xz0:Int)=>(iv xz0:Value)) e0)
theorem sfoi_ctv (s:List DParam) (ss:SV) (hS:∀ x ∈ s,Sx.tx x.Name∧Sx.tx x.Unit) (rv0:Int) (erv0:rv0=fidx (fun y:DParam=>Sx.parO y) s) :
    Cp Tryz.prog 134 #[ss.v,.func (.func 102) #[] #[]] [fs true s ss] (iv rv0):=by
  subst erv0;exact sfoi_ct s ss hS
set_option maxRecDepth 10000 in
theorem sfok_ct (s:List DParam) (ss:SV) (hS:∀ x ∈ s,Sx.tx x.Name∧Sx.tx x.Unit) :
    Cp Tryz.prog 101 #[ss.v,.func (.func 102) #[] #[]] [fs true s ss] (bv (s.any (fun y:DParam=>Sx.parO y))):=by
  refine V.fo mo Tryz.func101 9 0 fun w H ε k0=>?_;clear k0
  refine V.g [.kb false] fun _ _ G1=>?_;intro S_ s_
  refine nm (fidx (fun y:DParam=>Sx.parO y) s:Int) fun n1 hn1=>?_;refine V.gf [.u 2,.cP 2 134 [kA 0 s ss] fun G=>sfoi_ctv s ss (by assumption) n1 hn1,.u 2] fun _ _ G2=>?_;intro S_ s_
  have e0:(decide (0≤n1))=s.any (fun y:DParam=>Sx.parO y):=by
    refine Bool.eq_iff_iff.2 (Iff.trans iDT (Iff.trans ?_ Iff.rfl));have hfi:=hn1;rw [hfi];exact fidx_nn
  exact V.rT [0] [] [] [] [] [] (cong1 (fun (xz0:Bool)=>(bv xz0:Value)) e0)
set_option maxRecDepth 10000 in
theorem sgoo_ct (cb:Nat) (cl_used:List (ByteArray × Bool)) (cl_usedb:Nat) (cl_ok:Bool) (A:ByteArray) (a:List DImport) (i:SV) (c:List DInput) (j:SV) (m:List DTable) (o:SV) (p:List DFunc) (q:SV) (r:List DCell) (t:SV) (d:List DPort) (k:SV) (e:List DStore) (h:SV) (y:List DRecipe) (z:SV) (hI:∀ x ∈ a,Sx.tx x.Name∧Sx.tx x.Unit∧Sx.tx x.Port) (hN:∀ x ∈ c,Sx.tx x.Name∧Sx.tx x.Unit∧Sx.tx x.Kind) (hP:∀ x ∈ d,Sx.tx x.Name∧Sx.tx x.Unit) (hD:∀ x ∈ e,Sx.tx x.Name∧Sx.tx x.Unit) :
    Ct Tryz.prog 55 #[pp cb 0,ag (DSheet.mk A ⟨a,i⟩ ⟨c,j⟩ ⟨m,o⟩ ⟨p,q⟩ ⟨r,t⟩ ⟨d,k⟩ ⟨e,h⟩ ⟨y,z⟩)] [fs true a i,fs true c j,fs true m o,fs true p q,fs true r t,fs true d k,fs true e h,fs true y z] [.blk cb #[.map (some cl_usedb),bv cl_ok] 126,mp false false cl_used cl_usedb] (fun g=>.tuple #[]) (fun g=>[]) (fun g=>[.blk cb #[.map (some cl_usedb),bv ((Sx.useL (cl_used,cl_ok) (Sx.goodsL a c d e)).2)] 126,mp true false ((Sx.useL (cl_used,cl_ok) (Sx.goodsL a c d e)).1) cl_usedb]) (fun g=>[]):=by
  refine V.fo mo Tryz.func55 119 5 fun w H ε k0=>?_;obtain ⟨⟨kl1, -⟩,⟨kl2, -⟩,⟨kl3, -⟩,⟨kl4, -⟩,⟨kl5, -⟩,⟨kl6, -⟩,⟨kl7, -⟩,⟨kl8, -⟩, -, -⟩:Lq a i.v∧Lq c j.v∧Lq m o.v∧Lq p q.v∧Lq r t.v∧Lq d k.v∧Lq e h.v∧Lq y z.v∧True∧True:=kq k0
  clear k0;refine V.trm false cl_used cl_usedb 1 (by kernel_rfl) (fun _ _=>trivial) ?_;refine V.gf [.n 2] fun _ _ G1=>?_;intro S_ s_
  refine V.gf [.u 1,.l 2,.ln (kF 0 a i),.u 1] fun _ _ G2=>?_;intro S_ s_
  refine V.lp (γ:=Int × Bool × List (ByteArray × Bool)) (fun ⟨k0,c_1,m1⟩=>⟨[(0,pp cb 0),(3,pp ((G1 0).b) 0),(13,i.v),(14,iv (a.length:Int)),(15,iv k0)],[fs false a i,fs false c j,fs false m o,fs false p q,fs false r t,fs false d k,fs false e h,fs false y z],[.blk cb #[.map (some cl_usedb),bv c_1] 126,mp true false m1 cl_usedb,.blk ((G1 0).b) (ca (DSheet.mk A ⟨a,i⟩ ⟨c,j⟩ ⟨m,o⟩ ⟨p,q⟩ ⟨r,t⟩ ⟨d,k⟩ ⟨e,h⟩ ⟨y,z⟩)) 36,.no,.no,.no,.no]⟩) (fun ⟨k0,c_1,m1⟩=>(0≤k0)∧(k0≤(a.length:Int))∧(((m1,c_1):Sx.US)=Sx.useL (cl_used,cl_ok) ((a.take k0.toNat).map Sx.impI))) (fun ⟨k0,c_1,m1⟩=>((a.length:Int)-k0).toNat) (0,cl_ok,cl_used) [0,1,2,3,4,5,6,7] ?_ ?_
  · refine ⟨?_,?_,?_⟩
    · show 0≤(0:Int)
      first | omega | rfl | (simp;done) | (subst_vars;simp;done)
    · show (0:Int)≤(a.length:Int)
      first | omega | rfl | (simp;done) | (subst_vars;simp;done)
    show ((cl_used,cl_ok):Sx.US)=Sx.useL (cl_used,cl_ok) ((a.take (0:Int).toNat).map Sx.impI);rfl
  rintro ⟨k0,c_1,m1⟩ hF1 kw3 Z1 hZ1;have hF1:(0≤k0)∧(k0≤(a.length:Int))∧(((m1,c_1):Sx.US)=Sx.useL (cl_used,cl_ok) ((a.take k0.toNat).map Sx.impI)):=hF1;obtain ⟨hf1,hf2,hf3⟩:=hF1;clear kw3;refine V.gf [.u 1] fun _ _ G3=>?_;intro S_ s_;refine V.cn (b:=decide (k0 < (a.length:Int))) iDT iDF (fun q1=>?_) (fun q2=>?_)
  · refine nm (a.getD k0.toNat default:DImport) fun x1 hx1=>?_;refine V.gf [.iX (kF 0 a i) k0,.lE (kF 0 a i) k0 false x1 hx1 true,.n 3,.s 3] fun _ _ G4=>?_;intro S_ s_
    refine nm ((decide (Sx.amt x1.Amount)) && (decide (0≤x1.House)):Bool) fun p1 hp1=>?_;refine nm ((p1 && (decide (x1.House < 400))) && (decide (0≤x1.Version)):Bool) fun p2 hp2=>?_;refine nm ((p2 && (decide (x1.Version≤2000))) && (decide (Fx.fre x1.Port)):Bool) fun p3 hp3=>?_;refine V.gf [.u 2,.l 3,.u 1,.l 3,.cP 5 98 [] fun G=>srds_ct x1.Unit (hI _ (getD_mem (by omega) hx1)).2.1,.u 1,.l 3,.cP 8 99 [] fun G=>samt_ct x1.Amount,.u 2,.l 3,.u 1,.andn g0 false (decide (Sx.amt x1.Amount)) (decide (0≤x1.House)) p1 hp1,.u 2,.l 3,.u 1,.and g0 false p1 (decide (x1.House < 400)),.u 2,.l 3,.u 1,.andn g0 false (p1 && (decide (x1.House < 400))) (decide (0≤x1.Version)) p2 hp2,.u 2,.l 3,.u 1,.and g0 false p2 (decide (x1.Version≤2000)),.u 2,.l 3,.cp (gT (b:=p2 && (decide (x1.Version≤2000))) (iAT (iN hp2 (iAT (iAT (iN hp1 (iAT iDT iDT)) iDT) iDT)) iDT)) 32 54 [] (fun hg G=>sfre_ct x1.Port (hI _ (getD_mem (by omega) hx1)).2.2),.andn g0 false (p2 && (decide (x1.Version≤2000))) (decide (Fx.fre x1.Port)) p3 hp3,.cB 34 57 false [0,1] [] [] fun G=>suse_ct cb m1 cl_usedb c_1 x1.Name (decide (Sx.rds x1.Unit)) p3 (hI _ (getD_mem (by omega) hx1)).1] fun _ _ G5=>?_;intro S_ s_
    refine V.gf [.aa (k0+1),.u 1] fun _ _ G6=>?_;intro S_ s_
    refine V.rn hZ1 (k0+1,(Sx.useS (m1,c_1) x1.Name (decide (Sx.rds x1.Unit)) p3).2,(Sx.useS (m1,c_1) x1.Name (decide (Sx.rds x1.Unit)) p3).1) [0,1,2,3,4,5,6,7] ?_ ?_
    · refine ⟨?_,?_,?_⟩
      · show 0≤(k0+1);omega
      · show (k0+1)≤(a.length:Int);omega
      show ((((Sx.useS (m1,c_1) x1.Name (decide (Sx.rds x1.Unit)) p3).1),((Sx.useS (m1,c_1) x1.Name (decide (Sx.rds x1.Unit)) p3).2)):Sx.US)=Sx.useL (cl_used,cl_ok) ((a.take (k0+1).toNat).map Sx.impI);have hus:=Sx.useL_step (f:=Sx.impI) hf3 (by omega) (by omega) hx1;rw [hp3,hp2,hp1];exact hus
    show ((a.length:Int)-(k0+1)).toNat < ((a.length:Int)-k0).toNat;omega
  refine V.gf [.u 1,.l 2,.ln (kF 1 c j),.u 1] fun _ _ G7=>?_;intro S_ s_
  refine V.lp (γ:=Int × Bool × List (ByteArray × Bool)) (fun ⟨k1,c_1_1,m1_1⟩=>⟨[(0,pp cb 0),(3,pp ((G1 0).b) 0),(56,j.v),(57,iv (c.length:Int)),(58,iv k1)],[fs false c j,fs false a i,fs false m o,fs false p q,fs false r t,fs false d k,fs false e h,fs false y z],[.blk cb #[.map (some cl_usedb),bv c_1_1] 126,mp true false m1_1 cl_usedb,.blk ((G1 0).b) (ca (DSheet.mk A ⟨a,i⟩ ⟨c,j⟩ ⟨m,o⟩ ⟨p,q⟩ ⟨r,t⟩ ⟨d,k⟩ ⟨e,h⟩ ⟨y,z⟩)) 36,.no,.no,.no,.no]⟩) (fun ⟨k1,c_1_1,m1_1⟩=>(0≤k1)∧(k1≤(c.length:Int))∧(((m1_1,c_1_1):Sx.US)=Sx.useL (Sx.useL (cl_used,cl_ok) (a.map Sx.impI)) ((c.take k1.toNat).map Sx.inpI))) (fun ⟨k1,c_1_1,m1_1⟩=>((c.length:Int)-k1).toNat) (0,c_1,m1) [1,0,2,3,4,5,6,7] ?_ ?_
  · refine ⟨?_,?_,?_⟩
    · show 0≤(0:Int)
      first | omega | rfl | (simp;done) | (subst_vars;simp;done)
    · show (0:Int)≤(c.length:Int)
      first | omega | rfl | (simp;done) | (subst_vars;simp;done)
    show ((m1,c_1):Sx.US)=Sx.useL (Sx.useL (cl_used,cl_ok) (a.map Sx.impI)) ((c.take (0:Int).toNat).map Sx.inpI);exact (Sx.useL_all hf3 (by omega)).trans rfl
  rintro ⟨k1,c_1_1,m1_1⟩ hF2 kw9 Z2 hZ2;have hF2:(0≤k1)∧(k1≤(c.length:Int))∧(((m1_1,c_1_1):Sx.US)=Sx.useL (Sx.useL (cl_used,cl_ok) (a.map Sx.impI)) ((c.take k1.toNat).map Sx.inpI)):=hF2;obtain ⟨hf4,hf5,hf6⟩:=hF2;clear kw9;refine V.gf [.u 1] fun _ _ G8=>?_;intro S_ s_;refine V.cn (b:=decide (k1 < (c.length:Int))) iDT iDF (fun q3=>?_) (fun q4=>?_)
  · refine nm (c.getD k1.toNat default:DInput) fun x2 hx2=>?_;refine V.gf [.iX (kF 0 c j) k1,.lE (kF 0 c j) k1 false x2 hx2 true,.n 4,.s 4] fun _ _ G9=>?_;intro S_ s_
    refine nm ((decide (x2.Kind=ByteArray.empty)) || (decide (Fx.fre x2.Kind)):Bool) fun p4 hp4=>?_;refine V.gf [.u 2,.l 4,.u 1,.l 4,.cP 5 98 [] fun G=>srds_ct x2.Unit (hN _ (getD_mem (by omega) hx2)).2.1,.u 1,.l 4,.seq x2.Kind ByteArray.empty,.u 2,.l 4,.cp (gF (b:=decide (x2.Kind=ByteArray.empty)) iDF) 12 54 [] (fun hg G=>sfre_ct x2.Kind (hN _ (getD_mem (by omega) hx2)).2.2),.orn g0 false (decide (x2.Kind=ByteArray.empty)) (decide (Fx.fre x2.Kind)) p4 hp4,.cB 14 57 false [0,1] [] [] fun G=>suse_ct cb m1_1 cl_usedb c_1_1 x2.Name (decide (Sx.rds x2.Unit)) p4 (hN _ (getD_mem (by omega) hx2)).1] fun _ _ G10=>?_;intro S_ s_
    refine V.gf [.aa (k1+1),.u 1] fun _ _ G11=>?_;intro S_ s_
    refine V.rn hZ2 (k1+1,(Sx.useS (m1_1,c_1_1) x2.Name (decide (Sx.rds x2.Unit)) p4).2,(Sx.useS (m1_1,c_1_1) x2.Name (decide (Sx.rds x2.Unit)) p4).1) [0,1,2,3,4,5,6,7] ?_ ?_
    · refine ⟨?_,?_,?_⟩
      · show 0≤(k1+1);omega
      · show (k1+1)≤(c.length:Int);omega
      show ((((Sx.useS (m1_1,c_1_1) x2.Name (decide (Sx.rds x2.Unit)) p4).1),((Sx.useS (m1_1,c_1_1) x2.Name (decide (Sx.rds x2.Unit)) p4).2)):Sx.US)=Sx.useL (Sx.useL (cl_used,cl_ok) (a.map Sx.impI)) ((c.take (k1+1).toNat).map Sx.inpI);have hus:=Sx.useL_step (f:=Sx.inpI) hf6 (by omega) (by omega) hx2;rw [hp4];exact hus
    show ((c.length:Int)-(k1+1)).toNat < ((c.length:Int)-k1).toNat;omega
  refine V.gf [.u 1,.l 2,.ln (kF 5 d k),.u 1] fun _ _ G12=>?_;intro S_ s_
  refine V.lp (γ:=Int × Bool × List (ByteArray × Bool)) (fun ⟨k2,c_1_2,m1_2⟩=>⟨[(0,pp cb 0),(3,pp ((G1 0).b) 0),(79,k.v),(80,iv (d.length:Int)),(81,iv k2)],[fs false d k,fs false a i,fs false c j,fs false m o,fs false p q,fs false r t,fs false e h,fs false y z],[.blk cb #[.map (some cl_usedb),bv c_1_2] 126,mp true false m1_2 cl_usedb,.blk ((G1 0).b) (ca (DSheet.mk A ⟨a,i⟩ ⟨c,j⟩ ⟨m,o⟩ ⟨p,q⟩ ⟨r,t⟩ ⟨d,k⟩ ⟨e,h⟩ ⟨y,z⟩)) 36,.no,.no,.no,.no]⟩) (fun ⟨k2,c_1_2,m1_2⟩=>(0≤k2)∧(k2≤(d.length:Int))∧(((m1_2,c_1_2):Sx.US)=Sx.useL (Sx.useL (Sx.useL (cl_used,cl_ok) (a.map Sx.impI)) (c.map Sx.inpI)) ((d.take k2.toNat).map Sx.porI))) (fun ⟨k2,c_1_2,m1_2⟩=>((d.length:Int)-k2).toNat) (0,c_1_1,m1_1) [5,1,0,2,3,4,6,7] ?_ ?_
  · refine ⟨?_,?_,?_⟩
    · show 0≤(0:Int)
      first | omega | rfl | (simp;done) | (subst_vars;simp;done)
    · show (0:Int)≤(d.length:Int)
      first | omega | rfl | (simp;done) | (subst_vars;simp;done)
    show ((m1_1,c_1_1):Sx.US)=Sx.useL (Sx.useL (Sx.useL (cl_used,cl_ok) (a.map Sx.impI)) (c.map Sx.inpI)) ((d.take (0:Int).toNat).map Sx.porI);exact (Sx.useL_all hf6 (by omega)).trans rfl
  rintro ⟨k2,c_1_2,m1_2⟩ hF3 kw15 Z3 hZ3;have hF3:(0≤k2)∧(k2≤(d.length:Int))∧(((m1_2,c_1_2):Sx.US)=Sx.useL (Sx.useL (Sx.useL (cl_used,cl_ok) (a.map Sx.impI)) (c.map Sx.inpI)) ((d.take k2.toNat).map Sx.porI)):=hF3;obtain ⟨hf7,hf8,hf9⟩:=hF3;clear kw15;refine V.gf [.u 1] fun _ _ G13=>?_;intro S_ s_;refine V.cn (b:=decide (k2 < (d.length:Int))) iDT iDF (fun q5=>?_) (fun q6=>?_)
  · refine nm (d.getD k2.toNat default:DPort) fun x3 hx3=>?_;refine V.gf [.iX (kF 0 d k) k2,.lE (kF 0 d k) k2 false x3 hx3 true,.n 5,.s 5] fun _ _ G14=>?_;intro S_ s_
    refine V.gf [.u 2,.l 5,.u 1,.l 5,.cP 5 98 [] fun G=>srds_ct x3.Unit (hP _ (getD_mem (by omega) hx3)).2,.u 1,.l 5,.cP 8 99 [] fun G=>samt_ct x3.Amount,.cB 9 57 false [0,1] [] [] fun G=>suse_ct cb m1_2 cl_usedb c_1_2 x3.Name (decide (Sx.rds x3.Unit)) (decide (Sx.amt x3.Amount)) (hP _ (getD_mem (by omega) hx3)).1] fun _ _ G15=>?_;intro S_ s_
    refine V.gf [.aa (k2+1),.u 1] fun _ _ G16=>?_;intro S_ s_
    refine V.rn hZ3 (k2+1,(Sx.useS (m1_2,c_1_2) x3.Name (decide (Sx.rds x3.Unit)) (decide (Sx.amt x3.Amount))).2,(Sx.useS (m1_2,c_1_2) x3.Name (decide (Sx.rds x3.Unit)) (decide (Sx.amt x3.Amount))).1) [0,1,2,3,4,5,6,7] ?_ ?_
    · refine ⟨?_,?_,?_⟩
      · show 0≤(k2+1);omega
      · show (k2+1)≤(d.length:Int);omega
      show ((((Sx.useS (m1_2,c_1_2) x3.Name (decide (Sx.rds x3.Unit)) (decide (Sx.amt x3.Amount))).1),((Sx.useS (m1_2,c_1_2) x3.Name (decide (Sx.rds x3.Unit)) (decide (Sx.amt x3.Amount))).2)):Sx.US)=Sx.useL (Sx.useL (Sx.useL (cl_used,cl_ok) (a.map Sx.impI)) (c.map Sx.inpI)) ((d.take (k2+1).toNat).map Sx.porI);have hus:=Sx.useL_step (f:=Sx.porI) hf9 (by omega) (by omega) hx3;exact hus
    show ((d.length:Int)-(k2+1)).toNat < ((d.length:Int)-k2).toNat;omega
  refine V.gf [.u 1,.l 2,.ln (kF 6 e h),.u 1] fun _ _ G17=>?_;intro S_ s_
  refine V.lp (γ:=Int × Bool × List (ByteArray × Bool)) (fun ⟨k3,c_1_3,m1_3⟩=>⟨[(0,pp cb 0),(97,h.v),(98,iv (e.length:Int)),(99,iv k3)],[fs false e h,fs false a i,fs false c j,fs false m o,fs false p q,fs false r t,fs false d k,fs false y z],[.blk cb #[.map (some cl_usedb),bv c_1_3] 126,mp true false m1_3 cl_usedb,.blk ((G1 0).b) (ca (DSheet.mk A ⟨a,i⟩ ⟨c,j⟩ ⟨m,o⟩ ⟨p,q⟩ ⟨r,t⟩ ⟨d,k⟩ ⟨e,h⟩ ⟨y,z⟩)) 36,.no,.no,.no,.no]⟩) (fun ⟨k3,c_1_3,m1_3⟩=>(0≤k3)∧(k3≤(e.length:Int))∧(((m1_3,c_1_3):Sx.US)=Sx.useL (Sx.useL (Sx.useL (Sx.useL (cl_used,cl_ok) (a.map Sx.impI)) (c.map Sx.inpI)) (d.map Sx.porI)) ((e.take k3.toNat).map Sx.stoI))) (fun ⟨k3,c_1_3,m1_3⟩=>((e.length:Int)-k3).toNat) (0,c_1_2,m1_2) [6,1,2,3,4,5,0,7] ?_ ?_
  · refine ⟨?_,?_,?_⟩
    · show 0≤(0:Int)
      first | omega | rfl | (simp;done) | (subst_vars;simp;done)
    · show (0:Int)≤(e.length:Int)
      first | omega | rfl | (simp;done) | (subst_vars;simp;done)
    show ((m1_2,c_1_2):Sx.US)=Sx.useL (Sx.useL (Sx.useL (Sx.useL (cl_used,cl_ok) (a.map Sx.impI)) (c.map Sx.inpI)) (d.map Sx.porI)) ((e.take (0:Int).toNat).map Sx.stoI);exact (Sx.useL_all hf9 (by omega)).trans rfl
  rintro ⟨k3,c_1_3,m1_3⟩ hF4 kw21 Z4 hZ4;have hF4:(0≤k3)∧(k3≤(e.length:Int))∧(((m1_3,c_1_3):Sx.US)=Sx.useL (Sx.useL (Sx.useL (Sx.useL (cl_used,cl_ok) (a.map Sx.impI)) (c.map Sx.inpI)) (d.map Sx.porI)) ((e.take k3.toNat).map Sx.stoI)):=hF4;obtain ⟨hf10,hf11,hf12⟩:=hF4;clear kw21;refine V.gf [.u 1] fun _ _ G18=>?_;intro S_ s_;refine V.cn (b:=decide (k3 < (e.length:Int))) iDT iDF (fun q7=>?_) (fun q8=>?_)
  · refine nm (e.getD k3.toNat default:DStore) fun x4 hx4=>?_;refine V.gf [.iX (kF 0 e h) k3,.lE (kF 0 e h) k3 false x4 hx4 true,.n 6,.s 6] fun _ _ G19=>?_;intro S_ s_
    refine nm ((decide (0≤x4.Rule)) && (decide (x4.Rule < 3)):Bool) fun p5 hp5=>?_;refine V.gf [.u 2,.l 6,.u 1,.l 6,.cP 5 98 [] fun G=>srds_ct x4.Unit (hD _ (getD_mem (by omega) hx4)).2,.u 1,.l 6,.u 3,.l 6,.u 1,.andn g0 false (decide (0≤x4.Rule)) (decide (x4.Rule < 3)) p5 hp5,.cB 14 57 false [0,1] [] [] fun G=>suse_ct cb m1_3 cl_usedb c_1_3 x4.Name (decide (Sx.rds x4.Unit)) p5 (hD _ (getD_mem (by omega) hx4)).1] fun _ _ G20=>?_;intro S_ s_
    refine V.gf [.aa (k3+1),.u 1] fun _ _ G21=>?_;intro S_ s_
    refine V.rn hZ4 (k3+1,(Sx.useS (m1_3,c_1_3) x4.Name (decide (Sx.rds x4.Unit)) p5).2,(Sx.useS (m1_3,c_1_3) x4.Name (decide (Sx.rds x4.Unit)) p5).1) [0,1,2,3,4,5,6,7] ?_ ?_
    · refine ⟨?_,?_,?_⟩
      · show 0≤(k3+1);omega
      · show (k3+1)≤(e.length:Int);omega
      show ((((Sx.useS (m1_3,c_1_3) x4.Name (decide (Sx.rds x4.Unit)) p5).1),((Sx.useS (m1_3,c_1_3) x4.Name (decide (Sx.rds x4.Unit)) p5).2)):Sx.US)=Sx.useL (Sx.useL (Sx.useL (Sx.useL (cl_used,cl_ok) (a.map Sx.impI)) (c.map Sx.inpI)) (d.map Sx.porI)) ((e.take (k3+1).toNat).map Sx.stoI);have hus:=Sx.useL_step (f:=Sx.stoI) hf12 (by omega) (by omega) hx4;rw [hp5];exact hus
    show ((e.length:Int)-(k3+1)).toNat < ((e.length:Int)-k3).toNat;omega
  have gz:=Sx.useL_all hf12 (by omega);have hfin:((m1_3,c_1_3):Sx.US)=Sx.useL (cl_used,cl_ok) (Sx.goodsL a c d e):=by unfold Sx.goodsL;rw [Sx.useL_app,Sx.useL_app,Sx.useL_app];exact gz
  have eL1:m1_3=(Sx.useL (cl_used,cl_ok) (Sx.goodsL a c d e)).1:=congrArg Prod.fst hfin;subst eL1;have eC0_1:c_1_3=(Sx.useL (cl_used,cl_ok) (Sx.goodsL a c d e)).2:=congrArg Prod.snd hfin;refine V.alt (fun (zz:Bool)=>(⟨[(0,pp cb 0),(97,h.v),(98,iv (e.length:Int)),(99,iv k3),(100,bv (decide (k3 < (e.length:Int))))],[fs false e h,fs false a i,fs false c j,fs false m o,fs false p q,fs false r t,fs false d k,fs false y z],[.blk cb #[.map (some cl_usedb),bv zz] 126,mp true false ((Sx.useL (cl_used,cl_ok) (Sx.goodsL a c d e)).1) cl_usedb,.blk ((G1 0).b) (ca (DSheet.mk A ⟨a,i⟩ ⟨c,j⟩ ⟨m,o⟩ ⟨p,q⟩ ⟨r,t⟩ ⟨d,k⟩ ⟨e,h⟩ ⟨y,z⟩)) 36,.no,.no,.no,.no]⟩:St)) eC0_1 [0,1,2,3,4,5,6,7] (by kernel_rfl) ?_;exact V.rS [] [] [] [] [] [0,1]

open Go Go.Proofs
set_option maxRecDepth 10000 in
theorem sfor_ct (cb:Nat) (cl_used:List (ByteArray × Bool)) (cl_usedb:Nat) (cl_ok:Bool) (E:ByteArray) (m:List DImport) (o:SV) (p:List DInput) (r:SV) (c:List DTable) (j:SV) (d:List DFunc) (k:SV) (e:List DCell) (i:SV) (t:List DPort) (z:SV) (A:List DStore) (B:SV) (C:List DRecipe) (D:SV) (hT:∀ x ∈ c,Sx.tx x.Name∧Sx.tx x.Unit) (hF:∀ x ∈ d,Sx.tx x.Name∧(∀ q ∈ x.Params.l,Sx.tx q.Name∧Sx.tx q.Unit)∧Fx.sm (er x.Body)) (hC:∀ x ∈ e,Sx.tx x.Name∧Sx.tx x.Unit∧Fx.sm (er x.Def)) :
    Ct Tryz.prog 56 #[pp cb 0,ag (DSheet.mk E ⟨m,o⟩ ⟨p,r⟩ ⟨c,j⟩ ⟨d,k⟩ ⟨e,i⟩ ⟨t,z⟩ ⟨A,B⟩ ⟨C,D⟩)] [fs true m o,fs true p r,fs true c j,fs true d k,fs true e i,fs true t z,fs true A B,fs true C D] [.blk cb #[.map (some cl_usedb),bv cl_ok] 126,mp false false cl_used cl_usedb] (fun g=>.tuple #[]) (fun g=>[]) (fun g=>[.blk cb #[.map (some cl_usedb),bv ((Sx.useL (cl_used,cl_ok) (Sx.formsL c d e)).2)] 126,mp true false ((Sx.useL (cl_used,cl_ok) (Sx.formsL c d e)).1) cl_usedb]) (fun g=>[]):=by
  refine V.fo mo Tryz.func56 75 4 fun w H ε k0=>?_;obtain ⟨⟨kl1, -⟩,⟨kl2, -⟩,⟨kl3, -⟩,⟨kl4, -⟩,⟨kl5, -⟩,⟨kl6, -⟩,⟨kl7, -⟩,⟨kl8, -⟩, -, -⟩:Lq m o.v∧Lq p r.v∧Lq c j.v∧Lq d k.v∧Lq e i.v∧Lq t z.v∧Lq A B.v∧Lq C D.v∧True∧True:=kq k0
  clear k0;refine V.trm false cl_used cl_usedb 1 (by kernel_rfl) (fun _ _=>trivial) ?_;refine V.gf [.n 2] fun _ _ G1=>?_;intro S_ s_
  refine V.gf [.u 1,.l 2,.ln (kF 2 c j),.u 1] fun _ _ G2=>?_;intro S_ s_
  refine V.lp (γ:=Int × Bool × List (ByteArray × Bool)) (fun ⟨k0,c_1,m1⟩=>⟨[(0,pp cb 0),(3,pp ((G1 0).b) 0),(12,j.v),(13,iv (c.length:Int)),(14,iv k0)],[fs false c j,fs false m o,fs false p r,fs false d k,fs false e i,fs false t z,fs false A B,fs false C D],[.blk cb #[.map (some cl_usedb),bv c_1] 126,mp true false m1 cl_usedb,.blk ((G1 0).b) (ca (DSheet.mk E ⟨m,o⟩ ⟨p,r⟩ ⟨c,j⟩ ⟨d,k⟩ ⟨e,i⟩ ⟨t,z⟩ ⟨A,B⟩ ⟨C,D⟩)) 36,.no,.no,.no]⟩) (fun ⟨k0,c_1,m1⟩=>(0≤k0)∧(k0≤(c.length:Int))∧(((m1,c_1):Sx.US)=Sx.useL (cl_used,cl_ok) ((c.take k0.toNat).map Sx.tabI))) (fun ⟨k0,c_1,m1⟩=>((c.length:Int)-k0).toNat) (0,cl_ok,cl_used) [2,0,1,3,4,5,6,7] ?_ ?_
  · refine ⟨?_,?_,?_⟩
    · show 0≤(0:Int)
      first | omega | rfl | (simp;done) | (subst_vars;simp;done)
    · show (0:Int)≤(c.length:Int)
      first | omega | rfl | (simp;done) | (subst_vars;simp;done)
    show ((cl_used,cl_ok):Sx.US)=Sx.useL (cl_used,cl_ok) ((c.take (0:Int).toNat).map Sx.tabI);rfl
  rintro ⟨k0,c_1,m1⟩ hF1 kw3 Z1 hZ1;have hF1:(0≤k0)∧(k0≤(c.length:Int))∧(((m1,c_1):Sx.US)=Sx.useL (cl_used,cl_ok) ((c.take k0.toNat).map Sx.tabI)):=hF1;obtain ⟨hf1,hf2,hf3⟩:=hF1;clear kw3;refine V.gf [.u 1] fun _ _ G3=>?_;intro S_ s_;refine V.cn (b:=decide (k0 < (c.length:Int))) iDT iDF (fun q1=>?_) (fun q2=>?_)
  · refine nm (c.getD k0.toNat default:DTable) fun x1 hx1=>?_;refine V.gf [.iX (kF 0 c j) k0,.lE (kF 0 c j) k0 true x1 hx1 true,.n 3,.s 3] fun _ _ G4=>?_;intro S_ s_
    refine V.gf [.u 2,.l 3,.l 3,.cP 4 100 [(kx false (.f 8) x1 x1.Rows.l (fun _=>x1.Rows.s) (fun _ _ h=>h)).a] fun G=>tright_ct x1.Name x1.Unit x1.Rows.l x1.Rows.s (hT _ (getD_mem (by omega) hx1)).2 (hT _ (getD_mem (by omega) hx1)).1,.cB 5 57 false [0,1] [] [] fun G=>suse_ct cb m1 cl_usedb c_1 x1.Name true (decide (Tb.RtT x1.Name x1.Unit x1.Rows.l)) (hT _ (getD_mem (by omega) hx1)).1] fun _ _ G5=>?_;intro S_ s_
    refine V.gf [.aa (k0+1),.u 1] fun _ _ G6=>?_;intro S_ s_
    refine V.rn hZ1 (k0+1,(Sx.useS (m1,c_1) x1.Name true (decide (Tb.RtT x1.Name x1.Unit x1.Rows.l))).2,(Sx.useS (m1,c_1) x1.Name true (decide (Tb.RtT x1.Name x1.Unit x1.Rows.l))).1) [0,1,2,3,4,5,6,7] ?_ ?_
    · refine ⟨?_,?_,?_⟩
      · show 0≤(k0+1);omega
      · show (k0+1)≤(c.length:Int);omega
      show ((((Sx.useS (m1,c_1) x1.Name true (decide (Tb.RtT x1.Name x1.Unit x1.Rows.l))).1),((Sx.useS (m1,c_1) x1.Name true (decide (Tb.RtT x1.Name x1.Unit x1.Rows.l))).2)):Sx.US)=Sx.useL (cl_used,cl_ok) ((c.take (k0+1).toNat).map Sx.tabI);have hus:=Sx.useL_step (f:=Sx.tabI) hf3 (by omega) (by omega) hx1;exact hus
    show ((c.length:Int)-(k0+1)).toNat < ((c.length:Int)-k0).toNat;omega
  refine V.gf [.u 1,.l 2,.ln (kF 3 d k),.u 1] fun _ _ G7=>?_;intro S_ s_
  refine V.lp (γ:=Int × Bool × List (ByteArray × Bool)) (fun ⟨k1,c_1_1,m1_1⟩=>⟨[(0,pp cb 0),(3,pp ((G1 0).b) 0),(26,k.v),(27,iv (d.length:Int)),(28,iv k1)],[fs false d k,fs false m o,fs false p r,fs false c j,fs false e i,fs false t z,fs false A B,fs false C D],[.blk cb #[.map (some cl_usedb),bv c_1_1] 126,mp true false m1_1 cl_usedb,.blk ((G1 0).b) (ca (DSheet.mk E ⟨m,o⟩ ⟨p,r⟩ ⟨c,j⟩ ⟨d,k⟩ ⟨e,i⟩ ⟨t,z⟩ ⟨A,B⟩ ⟨C,D⟩)) 36,.no,.no,.no]⟩) (fun ⟨k1,c_1_1,m1_1⟩=>(0≤k1)∧(k1≤(d.length:Int))∧(((m1_1,c_1_1):Sx.US)=Sx.useL (Sx.useL (cl_used,cl_ok) (c.map Sx.tabI)) ((d.take k1.toNat).map Sx.funI))) (fun ⟨k1,c_1_1,m1_1⟩=>((d.length:Int)-k1).toNat) (0,c_1,m1) [3,1,2,0,4,5,6,7] ?_ ?_
  · refine ⟨?_,?_,?_⟩
    · show 0≤(0:Int)
      first | omega | rfl | (simp;done) | (subst_vars;simp;done)
    · show (0:Int)≤(d.length:Int)
      first | omega | rfl | (simp;done) | (subst_vars;simp;done)
    show ((m1,c_1):Sx.US)=Sx.useL (Sx.useL (cl_used,cl_ok) (c.map Sx.tabI)) ((d.take (0:Int).toNat).map Sx.funI);exact (Sx.useL_all hf3 (by omega)).trans rfl
  rintro ⟨k1,c_1_1,m1_1⟩ hF2 kw9 Z2 hZ2;have hF2:(0≤k1)∧(k1≤(d.length:Int))∧(((m1_1,c_1_1):Sx.US)=Sx.useL (Sx.useL (cl_used,cl_ok) (c.map Sx.tabI)) ((d.take k1.toNat).map Sx.funI)):=hF2;obtain ⟨hf4,hf5,hf6⟩:=hF2;clear kw9;refine V.gf [.u 1] fun _ _ G8=>?_;intro S_ s_;refine V.cn (b:=decide (k1 < (d.length:Int))) iDT iDF (fun q3=>?_) (fun q4=>?_)
  · refine nm (d.getD k1.toNat default:DFunc) fun x2 hx2=>?_;refine V.gf [.iX (kF 0 d k) k1,.lE (kF 0 d k) k1 true x2 hx2 true,.n 4,.s 4] fun _ _ G9=>?_;intro S_ s_
    refine V.gf [.u 1,.l 4,.cP 2 101 [(kx false (.f 8) x2 x2.Params.l (fun _=>x2.Params.s) (fun _ H (h:Dat.good H (x2:DFunc))=>h.1)).a] fun G=>sfok_ct x2.Params.l x2.Params.s (hF _ (getD_mem (by omega) hx2)).2.1,.u 2] fun _ _ G10=>?_;intro S_ s_
    refine nm ((decide (1≤(x2.Params.l.length:Int))) && (decide ((x2.Params.l.length:Int)≤6)):Bool) fun p1 hp1=>?_;refine V.gf [.u 2,.l 4,.u 2,.l 4,.ln (kx false (.f 8) x2 x2.Params.l (fun _=>x2.Params.s) (fun _ H (h:Dat.good H (x2:DFunc))=>h.1)),.u 3,.l 4,.ln (kx false (.f 8) x2 x2.Params.l (fun _=>x2.Params.s) (fun _ H (h:Dat.good H (x2:DFunc))=>h.1)),.u 1,.andn g0 false (decide (1≤(x2.Params.l.length:Int))) (decide ((x2.Params.l.length:Int)≤6)) p1 hp1,.u 2,.l 4,.cp (gT (b:=p1) (iN hp1 (iAT iDT iDT))) 17 103 [(kx false (.f 8) x2 x2.Body.Args.l (fun _=>x2.Body.Args.s) (fun _ H (h:Dat.good H (x2:DFunc))=>(exG.1 h.2))).a] (fun hg G=>frt_ct x2.Body (hF _ (getD_mem (by omega) hx2)).2.2),.and g0 false p1 (decide (Fx.rt (er x2.Body))),.ct g0 19 57 false [0,1] [] [] (fun _ G=>suse_ct cb m1_1 cl_usedb c_1_1 x2.Name (!(x2.Params.l.any (fun y:DParam=>Sx.parO y))) (p1 && (decide (Fx.rt (er x2.Body)))) (hF _ (getD_mem (by omega) hx2)).1)] fun _ _ G11=>?_;intro S_ s_
    refine V.gf [.aa (k1+1),.u 1] fun _ _ G12=>?_;intro S_ s_
    refine V.rn hZ2 (k1+1,(Sx.useS (m1_1,c_1_1) x2.Name (!(x2.Params.l.any (fun y:DParam=>Sx.parO y))) (p1 && (decide (Fx.rt (er x2.Body))))).2,(Sx.useS (m1_1,c_1_1) x2.Name (!(x2.Params.l.any (fun y:DParam=>Sx.parO y))) (p1 && (decide (Fx.rt (er x2.Body))))).1) [0,1,2,3,4,5,6,7] ?_ ?_
    · refine ⟨?_,?_,?_⟩
      · show 0≤(k1+1);omega
      · show (k1+1)≤(d.length:Int);omega
      show ((((Sx.useS (m1_1,c_1_1) x2.Name (!(x2.Params.l.any (fun y:DParam=>Sx.parO y))) (p1 && (decide (Fx.rt (er x2.Body))))).1),((Sx.useS (m1_1,c_1_1) x2.Name (!(x2.Params.l.any (fun y:DParam=>Sx.parO y))) (p1 && (decide (Fx.rt (er x2.Body))))).2)):Sx.US)=Sx.useL (Sx.useL (cl_used,cl_ok) (c.map Sx.tabI)) ((d.take (k1+1).toNat).map Sx.funI);have hus:=Sx.useL_step (f:=Sx.funI) hf6 (by omega) (by omega) hx2;rw [hp1];exact hus
    show ((d.length:Int)-(k1+1)).toNat < ((d.length:Int)-k1).toNat;omega
  refine V.gf [.u 1,.l 2,.ln (kF 4 e i),.u 1] fun _ _ G13=>?_;intro S_ s_
  refine V.lp (γ:=Int × Bool × List (ByteArray × Bool)) (fun ⟨k2,c_1_2,m1_2⟩=>⟨[(0,pp cb 0),(58,i.v),(59,iv (e.length:Int)),(60,iv k2)],[fs false e i,fs false m o,fs false p r,fs false c j,fs false d k,fs false t z,fs false A B,fs false C D],[.blk cb #[.map (some cl_usedb),bv c_1_2] 126,mp true false m1_2 cl_usedb,.blk ((G1 0).b) (ca (DSheet.mk E ⟨m,o⟩ ⟨p,r⟩ ⟨c,j⟩ ⟨d,k⟩ ⟨e,i⟩ ⟨t,z⟩ ⟨A,B⟩ ⟨C,D⟩)) 36,.no,.no,.no]⟩) (fun ⟨k2,c_1_2,m1_2⟩=>(0≤k2)∧(k2≤(e.length:Int))∧(((m1_2,c_1_2):Sx.US)=Sx.useL (Sx.useL (Sx.useL (cl_used,cl_ok) (c.map Sx.tabI)) (d.map Sx.funI)) ((e.take k2.toNat).map Sx.celI))) (fun ⟨k2,c_1_2,m1_2⟩=>((e.length:Int)-k2).toNat) (0,c_1_1,m1_1) [4,1,2,3,0,5,6,7] ?_ ?_
  · refine ⟨?_,?_,?_⟩
    · show 0≤(0:Int)
      first | omega | rfl | (simp;done) | (subst_vars;simp;done)
    · show (0:Int)≤(e.length:Int)
      first | omega | rfl | (simp;done) | (subst_vars;simp;done)
    show ((m1_1,c_1_1):Sx.US)=Sx.useL (Sx.useL (Sx.useL (cl_used,cl_ok) (c.map Sx.tabI)) (d.map Sx.funI)) ((e.take (0:Int).toNat).map Sx.celI);exact (Sx.useL_all hf6 (by omega)).trans rfl
  rintro ⟨k2,c_1_2,m1_2⟩ hF3 kw16 Z3 hZ3;have hF3:(0≤k2)∧(k2≤(e.length:Int))∧(((m1_2,c_1_2):Sx.US)=Sx.useL (Sx.useL (Sx.useL (cl_used,cl_ok) (c.map Sx.tabI)) (d.map Sx.funI)) ((e.take k2.toNat).map Sx.celI)):=hF3;obtain ⟨hf7,hf8,hf9⟩:=hF3;clear kw16;refine V.gf [.u 1] fun _ _ G14=>?_;intro S_ s_;refine V.cn (b:=decide (k2 < (e.length:Int))) iDT iDF (fun q5=>?_) (fun q6=>?_)
  · refine nm (e.getD k2.toNat default:DCell) fun x3 hx3=>?_;refine V.gf [.iX (kF 0 e i) k2,.lE (kF 0 e i) k2 true x3 hx3 true,.n 5,.s 5] fun _ _ G15=>?_;intro S_ s_
    refine V.gf [.u 2,.l 5,.u 1,.l 5,.cP 5 98 [] fun G=>srds_ct x3.Unit (hC _ (getD_mem (by omega) hx3)).2.1,.u 1,.l 5,.cP 8 103 [(kx false (.f 8) x3 x3.Def.Args.l (fun _=>x3.Def.Args.s) (fun _ H (h:Dat.good H (x3:DCell))=>(exG.1 h))).a] fun G=>frt_ct x3.Def (hC _ (getD_mem (by omega) hx3)).2.2,.cB 9 57 false [0,1] [] [] fun G=>suse_ct cb m1_2 cl_usedb c_1_2 x3.Name (decide (Sx.rds x3.Unit)) (decide (Fx.rt (er x3.Def))) (hC _ (getD_mem (by omega) hx3)).1] fun _ _ G16=>?_;intro S_ s_
    refine V.gf [.aa (k2+1),.u 1] fun _ _ G17=>?_;intro S_ s_
    refine V.rn hZ3 (k2+1,(Sx.useS (m1_2,c_1_2) x3.Name (decide (Sx.rds x3.Unit)) (decide (Fx.rt (er x3.Def)))).2,(Sx.useS (m1_2,c_1_2) x3.Name (decide (Sx.rds x3.Unit)) (decide (Fx.rt (er x3.Def)))).1) [0,1,2,3,4,5,6,7] ?_ ?_
    · refine ⟨?_,?_,?_⟩
      · show 0≤(k2+1);omega
      · show (k2+1)≤(e.length:Int);omega
      show ((((Sx.useS (m1_2,c_1_2) x3.Name (decide (Sx.rds x3.Unit)) (decide (Fx.rt (er x3.Def)))).1),((Sx.useS (m1_2,c_1_2) x3.Name (decide (Sx.rds x3.Unit)) (decide (Fx.rt (er x3.Def)))).2)):Sx.US)=Sx.useL (Sx.useL (Sx.useL (cl_used,cl_ok) (c.map Sx.tabI)) (d.map Sx.funI)) ((e.take (k2+1).toNat).map Sx.celI);have hus:=Sx.useL_step (f:=Sx.celI) hf9 (by omega) (by omega) hx3;exact hus
    show ((e.length:Int)-(k2+1)).toNat < ((e.length:Int)-k2).toNat;omega
  have gz:=Sx.useL_all hf9 (by omega);have hfin:((m1_2,c_1_2):Sx.US)=Sx.useL (cl_used,cl_ok) (Sx.formsL c d e):=by unfold Sx.formsL;rw [Sx.useL_app,Sx.useL_app];exact gz
  have eL1:m1_2=(Sx.useL (cl_used,cl_ok) (Sx.formsL c d e)).1:=congrArg Prod.fst hfin;subst eL1;have eC0_1:c_1_2=(Sx.useL (cl_used,cl_ok) (Sx.formsL c d e)).2:=congrArg Prod.snd hfin;refine V.alt (fun (zz:Bool)=>(⟨[(0,pp cb 0),(58,i.v),(59,iv (e.length:Int)),(60,iv k2),(61,bv (decide (k2 < (e.length:Int))))],[fs false e i,fs false m o,fs false p r,fs false c j,fs false d k,fs false t z,fs false A B,fs false C D],[.blk cb #[.map (some cl_usedb),bv zz] 126,mp true false ((Sx.useL (cl_used,cl_ok) (Sx.formsL c d e)).1) cl_usedb,.blk ((G1 0).b) (ca (DSheet.mk E ⟨m,o⟩ ⟨p,r⟩ ⟨c,j⟩ ⟨d,k⟩ ⟨e,i⟩ ⟨t,z⟩ ⟨A,B⟩ ⟨C,D⟩)) 36,.no,.no,.no]⟩:St)) eC0_1 [0,1,2,3,4,5,6,7] (by kernel_rfl) ?_;exact V.rS [] [] [] [] [] [0,1]

open Go Go.Proofs
set_option maxRecDepth 10000 in
theorem srtc_ct (e:Int) (a:List ByteArray) (g:SV) (b:List ByteArray) (h:SV) (d:ByteArray) (c:List ByteArray) (i:SV) (f:Int) (hN:d.size≤9223372036854775807) (hI:∀ x ∈ a,ByteArray.size x≤9223372036854775807) (hO:∀ x ∈ b,ByteArray.size x≤9223372036854775807) (hC:∀ x ∈ c,ByteArray.size x≤9223372036854775807) :
    Cp Tryz.prog 59 #[ag (DStep.mk e ⟨a,g⟩ ⟨b,h⟩ d ⟨c,i⟩ f)] [fs true a g,fs true b h,fs true c i] (bv (!decide (Sx.stp e a b d c f))):=by
  refine V.fo mo Tryz.func59 6 1 fun w H ε k0=>?_;clear k0
  refine V.gf [.n 0,.kb false] fun _ _ G1=>?_;intro S s
  refine V.gf [.l 0,.cP 1 60 [kA 0 a g,kA 1 b h,kA 2 c i] fun G=>sstp_ct e a g b h d c i f (by assumption) (by assumption) (by assumption) (by assumption),.u 2] fun _ _ G2=>?_;intro S s
  have e0:(!(decide (Sx.stp e a b d c f)))=!decide (Sx.stp e a b d c f):=by subst_vars;rfl
  exact V.rT [0] [] [] [] [] [] (cong1 (fun (xz0:Bool)=>(bv xz0:Value)) e0)
set_option maxRecDepth 10000 in
theorem srti_ct (s:List DStep) (ss:SV) (hS:∀ x ∈ s,Sx.tx x.Name∧(∀ q ∈ x.In.l,Sx.tx q)∧(∀ q ∈ x.Out.l,Sx.tx q)∧(∀ q ∈ x.Cells.l,Sx.tx q)) :
    Cp Tryz.prog 104 #[ss.v,.func (.func 59) #[] #[]] [fs true s ss] (iv (fidx (fun y:DStep=>Sx.stpB y) s)):=by
  refine V.fo mo Tryz.func104 19 0 fun w H ε k0=>?_;obtain ⟨⟨kl1, -⟩, -⟩:Lq s ss.v∧True:=kq k0
  clear k0;refine V.gf [.u 1] fun _ _ G1=>?_;intro S_ s_
  refine V.gf [.u 1,.ln (kF 0 s ss),.u 1] fun _ _ G2=>?_;intro S_ s_
  refine V.lp (γ:=Int) (fun k0=>⟨[(0,ss.v),(1,.func (.func 59) #[] #[]),(7,iv (s.length:Int)),(8,iv k0)],[fs false s ss],[]⟩) (fun k0=>(0≤k0)∧(k0≤(s.length:Int))∧(∀ j,j < k0.toNat→(fun y:DStep=>Sx.stpB y) (s.getD j default)=false)) (fun k0=>((s.length:Int)-k0).toNat) 0 [0] ?_ ?_
  · refine ⟨?_,?_,?_⟩
    · show 0≤(0:Int)
      first | omega | rfl | (simp;done) | (subst_vars;simp;done)
    · show (0:Int)≤(s.length:Int)
      first | omega | rfl | (simp;done) | (subst_vars;simp;done)
    show ∀ j,j < (0:Int).toNat→(fun y:DStep=>Sx.stpB y) (s.getD j default)=false;intro j hj;simp at hj
  rintro k0 hF1 kw3 Z1 hZ1;have hF1:(0≤k0)∧(k0≤(s.length:Int))∧(∀ j,j < k0.toNat→(fun y:DStep=>Sx.stpB y) (s.getD j default)=false):=hF1;obtain ⟨hf1,hf2,hf3⟩:=hF1;clear kw3;refine V.gf [.u 1] fun _ _ G3=>?_;intro S_ s_;refine V.cn (b:=decide (k0 < (s.length:Int))) iDT iDF (fun q1=>?_) (fun q2=>?_)
  · refine V.gf [.u 2] fun _ _ G4=>?_;intro S_ s_
    refine nm (s.getD k0.toNat default:DStep) fun x1 hx1=>?_;refine V.gf [.u 3,.iX (kF 0 s ss) k0,.lE (kF 0 s ss) k0 true x1 hx1 true,.cP 5 59 [(kx false (.g 4 0) x1 x1.In.l (fun _=>x1.In.s) (fun _ H (h:Dat.good H (x1:DStep))=>h.1)).a,(kx false (.g 4 0) x1 x1.Out.l (fun _=>x1.Out.s) (fun _ H (h:Dat.good H (x1:DStep))=>h.2.1)).a,(kx false (.g 4 0) x1 x1.Cells.l (fun _=>x1.Cells.s) (fun _ H (h:Dat.good H (x1:DStep))=>h.2.2)).a] fun G=>srtc_ct x1.Kind x1.In.l x1.In.s x1.Out.l x1.Out.s x1.Name x1.Cells.l x1.Cells.s x1.Amount (hS _ (getD_mem (by omega) hx1)).1 (hS _ (getD_mem (by omega) hx1)).2.1 (hS _ (getD_mem (by omega) hx1)).2.2.1 (hS _ (getD_mem (by omega) hx1)).2.2.2] fun _ _ G5=>?_;intro S_ s_
    refine V.cn (b:=!decide (Sx.stp x1.Kind x1.In.l x1.Out.l x1.Name x1.Cells.l x1.Amount)) Iff.rfl Iff.rfl (fun q3=>?_) (fun q4=>?_)
    · refine V.gf [.u 2] fun _ _ G6=>?_;intro S_ s_
      have e0:k0=fidx (fun y:DStep=>Sx.stpB y) s:=by rw [fidx_at (p:=(fun y:DStep=>Sx.stpB y)) (k:=k0) (by omega) (by omega) hx1 hf3 (by have hqq:=q3;simpa [Sx.stpB] using hqq)]
      exact V.rT [0] [] [] [] [] [] (cong1 (fun (xz0:Int)=>(iv xz0:Value)) e0)
    refine V.gf [.aa (k0+1),.u 1] fun _ _ G7=>?_;intro S_ s_
    refine V.rn hZ1 (k0+1) [0] ?_ ?_
    · refine ⟨?_,?_,?_⟩
      · show 0≤(k0+1)
        first | omega | rfl | (simp;done) | (subst_vars;simp;done)
      · show (k0+1)≤(s.length:Int)
        first | omega | rfl | (simp;done) | (subst_vars;simp;done)
      show ∀ j,j < (k0+1).toNat→(fun y:DStep=>Sx.stpB y) (s.getD j default)=false;exact fidx_step (p:=(fun y:DStep=>Sx.stpB y)) hf3 (by omega) hx1 (by have hqq:=q4;simpa [Sx.stpB] using hqq)
    show ((s.length:Int)-(k0+1)).toNat < ((s.length:Int)-k0).toNat;omega
  refine V.gf [.u 1] fun _ _ G8=>?_;intro S_ s_
  have e0:(-1:Int)=fidx (fun y:DStep=>Sx.stpB y) s:=(fidx_no fun j hj=>hf3 j (by omega)).symm;exact V.rT [0] [] [] [] [] [] (cong1 (fun (xz0:Int)=>(iv xz0:Value)) e0)
theorem srti_ctv (s:List DStep) (ss:SV) (hS:∀ x ∈ s,Sx.tx x.Name∧(∀ q ∈ x.In.l,Sx.tx q)∧(∀ q ∈ x.Out.l,Sx.tx q)∧(∀ q ∈ x.Cells.l,Sx.tx q)) (rv0:Int) (erv0:rv0=fidx (fun y:DStep=>Sx.stpB y) s) :
    Cp Tryz.prog 104 #[ss.v,.func (.func 59) #[] #[]] [fs true s ss] (iv rv0):=by
  subst erv0;exact srti_ct s ss hS
set_option maxRecDepth 10000 in
theorem srtk_ct (s:List DStep) (ss:SV) (hS:∀ x ∈ s,Sx.tx x.Name∧(∀ q ∈ x.In.l,Sx.tx q)∧(∀ q ∈ x.Out.l,Sx.tx q)∧(∀ q ∈ x.Cells.l,Sx.tx q)) :
    Cp Tryz.prog 58 #[ss.v,.func (.func 59) #[] #[]] [fs true s ss] (bv (s.any (fun y:DStep=>Sx.stpB y))):=by
  refine V.fo mo Tryz.func58 9 0 fun w H ε k0=>?_;clear k0
  refine V.g [.kb false] fun _ _ G1=>?_;intro S_ s_
  refine nm (fidx (fun y:DStep=>Sx.stpB y) s:Int) fun n1 hn1=>?_;refine V.gf [.u 2,.cP 2 104 [kA 0 s ss] fun G=>srti_ctv s ss (by assumption) n1 hn1,.u 2] fun _ _ G2=>?_;intro S_ s_
  have e0:(decide (0≤n1))=s.any (fun y:DStep=>Sx.stpB y):=by
    refine Bool.eq_iff_iff.2 (Iff.trans iDT (Iff.trans ?_ Iff.rfl));have hfi:=hn1;rw [hfi];exact fidx_nn
  exact V.rT [0] [] [] [] [] [] (cong1 (fun (xz0:Bool)=>(bv xz0:Value)) e0)

open Go Go.Proofs
set_option maxRecDepth 10000 in
theorem srgt_ct (k:ByteArray) (d:List DImport) (r:SV) (e:List DInput) (t:SV) (m:List DTable) (x:SV) (o:List DFunc) (z:SV) (p:List DCell) (A:SV) (i:List DPort) (B:SV) (j:List DStore) (C:SV) (c:List DRecipe) (q:SV) (hS:Sx.Sml k d e m o p i j c) (hL:(d.length:Int)+e.length+m.length+o.length+p.length+i.length+j.length+c.length≤100000000) :
    Cp Tryz.prog 22 #[ag (DSheet.mk k ⟨d,r⟩ ⟨e,t⟩ ⟨m,x⟩ ⟨o,z⟩ ⟨p,A⟩ ⟨i,B⟩ ⟨j,C⟩ ⟨c,q⟩)] [fs true d r,fs true e t,fs true m x,fs true o z,fs true p A,fs true i B,fs true j C,fs true c q] (bv (decide (Sx.Rt k d e m o p i j c))):=by
  refine V.fo mo Tryz.func22 65 6 fun w H ε k0=>?_;clear k0
  have hil:=Sx.its_len (([],decide (Fx.fre k)):Sx.US) d e m o p i j;simp only [List.length_nil] at hil;refine V.gf [.n 0,.kb false] fun _ _ G1=>?_;intro S_ s_
  refine V.gf [.mm ByteArray Bool 0 1 false,.u 1,.l 0,.cP 3 54 [] fun G=>sfre_ct k hS.nm,.u 1,.n 2,.u 1] fun _ _ G2=>?_;intro S_ s_
  refine V.gf [.u 1,.l 0,.cB 2 55 false [2,1] [] [kA 0 d r,kA 1 e t,kA 2 m x,kA 3 o z,kA 4 p A,kA 5 i B,kA 6 j C,kA 7 c q] fun G=>sgoo_ct ((G2 5).b) ([]:List (ByteArray × Bool)) ((G2 0).b) (decide (Fx.fre k)) k d r e t m x o z p A i B j C c q hS.imp hS.inp hS.por hS.sto] fun _ _ G3=>?_;intro S_ s_
  refine V.gf [.u 1,.l 0,.cB 2 56 false [2,1] [] [kA 0 d r,kA 1 e t,kA 2 m x,kA 3 o z,kA 4 p A,kA 5 i B,kA 6 j C,kA 7 c q] fun G=>sfor_ct ((G2 5).b) ((Sx.useL (([]:List (ByteArray × Bool)),(decide (Fx.fre k))) (Sx.goodsL d e i j)).1) ((G2 0).b) ((Sx.useL (([]:List (ByteArray × Bool)),(decide (Fx.fre k))) (Sx.goodsL d e i j)).2) k d r e t m x o z p A i B j C c q hS.tab hS.fun_ hS.cel] fun _ _ G4=>?_;intro S_ s_
  refine nm ((((Sx.useL (((Sx.useL (([]:List (ByteArray × Bool)),(decide (Fx.fre k))) (Sx.goodsL d e i j)).1),((Sx.useL (([]:List (ByteArray × Bool)),(decide (Fx.fre k))) (Sx.goodsL d e i j)).2)) (Sx.formsL m o p)).1).length:Int)+(c.length:Int):Int) fun n1 hn1=>?_;refine nm ((!((Sx.useL (((Sx.useL (([]:List (ByteArray × Bool)),(decide (Fx.fre k))) (Sx.goodsL d e i j)).1),((Sx.useL (([]:List (ByteArray × Bool)),(decide (Fx.fre k))) (Sx.goodsL d e i j)).2)) (Sx.formsL m o p)).2)) || (decide (100 < n1)):Bool) fun p1 hp1=>?_;refine V.gf [.u 3,.l 2,.u 5,.l 2,.ml 1 123 9 4 true false ((Sx.useL (((Sx.useL (([]:List (ByteArray × Bool)),(decide (Fx.fre k))) (Sx.goodsL d e i j)).1),((Sx.useL (([]:List (ByteArray × Bool)),(decide (Fx.fre k))) (Sx.goodsL d e i j)).2)) (Sx.formsL m o p)).1) (fun _=>(G2 0).b),.u 1,.l 0,.ln (kF 7 c q),.arg (gF (b:=!((Sx.useL (((Sx.useL (([]:List (ByteArray × Bool)),(decide (Fx.fre k))) (Sx.goodsL d e i j)).1),((Sx.useL (([]:List (ByteArray × Bool)),(decide (Fx.fre k))) (Sx.goodsL d e i j)).2)) (Sx.formsL m o p)).2)) (iNF Iff.rfl)) ((((Sx.useL (((Sx.useL (([]:List (ByteArray × Bool)),(decide (Fx.fre k))) (Sx.goodsL d e i j)).1),((Sx.useL (([]:List (ByteArray × Bool)),(decide (Fx.fre k))) (Sx.goodsL d e i j)).2)) (Sx.formsL m o p)).1).length:Int)+(c.length:Int)) n1 hn1 (fun hg=>by omega),.u 1,.orn g0 false (!((Sx.useL (((Sx.useL (([]:List (ByteArray × Bool)),(decide (Fx.fre k))) (Sx.goodsL d e i j)).1),((Sx.useL (([]:List (ByteArray × Bool)),(decide (Fx.fre k))) (Sx.goodsL d e i j)).2)) (Sx.formsL m o p)).2)) (decide (100 < n1)) p1 hp1] fun _ _ G5=>?_;intro S_ s_
  refine V.cn (b:=p1) (iN hp1 (iOT (iNT Iff.rfl) iDT)) (iN hp1 (iOF (iNF Iff.rfl) iDF)) (fun q1=>?_) (fun q2=>?_)
  · refine V.g [.kb false] fun _ _ G6=>?_;intro S_ s_
    have e0:false=decide (Sx.Rt k d e m o p i j c):=by
      refine Bool.eq_iff_iff.2 (Iff.trans iFT (Iff.trans ?_ decide_eq_true_iff.symm));unfold Sx.Rt Sx.itS Sx.reS;grind
    exact V.rT [0] [] [] [] [] [] (cong1 (fun (xz0:Bool)=>(bv xz0:Value)) e0)
  refine V.gf [.mm ByteArray Bool 0 3 false,.u 1,.n 4,.u 1] fun _ _ G7=>?_;intro S_ s_
  refine V.gf [.u 1,.l 0,.ln (kF 7 c q),.u 1] fun _ _ G8=>?_;intro S_ s_
  refine V.lp (γ:=Int × Bool × List (ByteArray × Bool)) (fun ⟨k0,kinds_1,m3⟩=>⟨[(4,pp ((G7 2).b) 0),(40,q.v),(41,iv (c.length:Int)),(42,iv k0)],[fs false c q,fs false d r,fs false e t,fs false m x,fs false o z,fs false p A,fs false i B,fs false j C],[.blk ((G1 0).b) (ca (DSheet.mk k ⟨d,r⟩ ⟨e,t⟩ ⟨m,x⟩ ⟨o,z⟩ ⟨p,A⟩ ⟨i,B⟩ ⟨j,C⟩ ⟨c,q⟩)) 36,mp true false ((Sx.useL (((Sx.useL (([]:List (ByteArray × Bool)),(decide (Fx.fre k))) (Sx.goodsL d e i j)).1),((Sx.useL (([]:List (ByteArray × Bool)),(decide (Fx.fre k))) (Sx.goodsL d e i j)).2)) (Sx.formsL m o p)).1) ((G2 0).b),.blk ((G2 5).b) #[.map (some ((G2 0).b)),bv ((Sx.useL (((Sx.useL (([]:List (ByteArray × Bool)),(decide (Fx.fre k))) (Sx.goodsL d e i j)).1),((Sx.useL (([]:List (ByteArray × Bool)),(decide (Fx.fre k))) (Sx.goodsL d e i j)).2)) (Sx.formsL m o p)).2)] 126,mp true false m3 ((G7 0).b),.blk ((G7 2).b) #[.map (some ((G7 0).b)),bv kinds_1] 126,.no]⟩) (fun ⟨k0,kinds_1,m3⟩=>(0≤k0)∧(k0≤(c.length:Int))∧(((m3,kinds_1):Sx.US)=Sx.useL (([],true):Sx.US) ((c.take k0.toNat).map Sx.recI))) (fun ⟨k0,kinds_1,m3⟩=>((c.length:Int)-k0).toNat) (0,true,([]:List (ByteArray × Bool))) [7,0,1,2,3,4,5,6] ?_ ?_
  · refine ⟨?_,?_,?_⟩
    · show 0≤(0:Int)
      first | omega | rfl | (simp;done) | (subst_vars;simp;done)
    · show (0:Int)≤(c.length:Int)
      first | omega | rfl | (simp;done) | (subst_vars;simp;done)
    show ((([]:List (ByteArray × Bool)),true):Sx.US)=Sx.useL (([],true):Sx.US) ((c.take (0:Int).toNat).map Sx.recI);rfl
  rintro ⟨k0,kinds_1,m3⟩ hF1 kw9 Z1 hZ1;have hF1:(0≤k0)∧(k0≤(c.length:Int))∧(((m3,kinds_1):Sx.US)=Sx.useL (([],true):Sx.US) ((c.take k0.toNat).map Sx.recI)):=hF1;obtain ⟨hf1,hf2,hf3⟩:=hF1;clear kw9;refine V.gf [.u 1] fun _ _ G9=>?_;intro S_ s_;refine V.cn (b:=decide (k0 < (c.length:Int))) iDT iDF (fun q3=>?_) (fun q4=>?_)
  · refine nm (c.getD k0.toNat default:DRecipe) fun x1 hx1=>?_;refine V.gf [.iX (kF 0 c q) k0,.lE (kF 0 c q) k0 true x1 hx1 true,.n 5,.s 5] fun _ _ G10=>?_;intro S_ s_
    refine nm ((decide ((x1.Steps.l.length:Int)≤100)) && (!(x1.Steps.l.any (fun y:DStep=>Sx.stpB y))):Bool) fun p2 hp2=>?_;refine V.gf [.u 2,.l 5,.u 1,.l 5,.ln (kx false (.f 8) x1 x1.Steps.l (fun _=>x1.Steps.s) (fun _ _ h=>h)),.u 3,.l 5,.cp (gT (b:=decide ((x1.Steps.l.length:Int)≤100)) iDT) 10 58 [(kx false (.f 8) x1 x1.Steps.l (fun _=>x1.Steps.s) (fun _ _ h=>h)).a] (fun hg G=>srtk_ct x1.Steps.l x1.Steps.s (hS.rec_ _ (getD_mem (by omega) hx1)).2),.u 1,.andn g0 false (decide ((x1.Steps.l.length:Int)≤100)) (!(x1.Steps.l.any (fun y:DStep=>Sx.stpB y))) p2 hp2,.cB 13 57 false [4,3] [] [] fun G=>suse_ct ((G7 2).b) m3 ((G7 0).b) kinds_1 x1.Kind true p2 (hS.rec_ _ (getD_mem (by omega) hx1)).1] fun _ _ G11=>?_;intro S_ s_
    refine V.gf [.aa (k0+1),.u 1] fun _ _ G12=>?_;intro S_ s_
    refine V.rn hZ1 (k0+1,(Sx.useS (m3,kinds_1) x1.Kind true p2).2,(Sx.useS (m3,kinds_1) x1.Kind true p2).1) [0,1,2,3,4,5,6,7] ?_ ?_
    · refine ⟨?_,?_,?_⟩
      · show 0≤(k0+1);omega
      · show (k0+1)≤(c.length:Int);omega
      show ((((Sx.useS (m3,kinds_1) x1.Kind true p2).1),((Sx.useS (m3,kinds_1) x1.Kind true p2).2)):Sx.US)=Sx.useL (([],true):Sx.US) ((c.take (k0+1).toNat).map Sx.recI);have hus:=Sx.useL_step (f:=Sx.recI) hf3 (by omega) (by omega) hx1;rw [hp2];exact hus
    show ((c.length:Int)-(k0+1)).toNat < ((c.length:Int)-k0).toNat;omega
  refine V.gf [.u 3,.l 4,.u 1] fun _ _ G13=>?_;intro S_ s_
  have gz:=Sx.useL_all hf3 (by omega);have e0:kinds_1=decide (Sx.Rt k d e m o p i j c):=by
    refine Bool.eq_iff_iff.2 (Iff.trans Iff.rfl (Iff.trans ?_ decide_eq_true_iff.symm));have gk:kinds_1=(Sx.useL ([],true) (c.map Sx.recI)).2:=congrArg Prod.snd gz;rw [gk];constructor
    · intro h;refine ⟨⟨?_,?_⟩,h⟩
      · have hqq:=q2;exact hqq.1
      have hqq:=q2;have h2:=hqq.2;have h3:n1≤100:=by omega
      rw [hn1] at h3;exact h3
    intro h;exact h.2
  exact V.rT [0] [] [] [] [] [] (cong1 (fun (xz0:Bool)=>(bv xz0:Value)) e0)

open Go Go.Proofs
set_option maxRecDepth 10000 in
theorem spf_ct (e:Int) (a:List Int) (c:SV) (f:Int) (b:List Int) (d:SV) (hfP:a.length≤17179869184) (hfQ:b.length≤17179869184) :
    Ct Tryz.prog 18 #[ag (DFrac.mk ⟨e,a,c⟩ ⟨f,b,d⟩)] [fs true a c,fs true b d] [] (fun g=>ag (DFrac.mk ⟨e,a,(g.ss 0)⟩ ⟨f,b,(g.ss 1)⟩)) (fun g=>[fs true a (g.ss 0),fs true b (g.ss 1)]) (fun g=>[]) (fun g=>[]):=by
  refine V.fo mo Tryz.func18 16 4 fun w H ε k0=>?_;clear k0
  refine V.gf [.n 0,.n 1] fun _ _ G1=>?_;intro S_ s_
  refine V.gf [.u 2,.l 0,.cB 3 48 false [] [2] [kA 0 a c] fun G=>clonei_ct a c (by omega),.u 2,.l 0,.cB 7 48 false [] [3] [kA 1 b d] fun G=>clonei_ct b d (by omega),.u 2,.s 0,.u 2,.s 0] fun _ _ G2=>?_;intro S_ s_
  refine V.gf [.l 0,.s 1] fun _ _ G3=>?_;intro S_ s_
  refine V.frz 2 true 3 a ((G2 3).ss 0) (by kernel_rfl) ?_;refine V.frz 3 true 3 b ((G2 7).ss 0) (by kernel_rfl) ?_;exact V.rS [1] [(G2 3).ss 0,(G2 7).ss 0] [] [] [2,3] []

open Go
def pairW:Option TypeDesc × List (Bool × Nat × Option TypeDesc) × Bool:=(none,[(false,0,some (.int .i64)),(false,1,some .string)],false)
def pairE (a:Int) (s:ByteArray):Value:=.agg #[.int .i64 a,.string s]
section
variable {P : Program} {w : World} {kt : TypeId}
theorem pair_under (h:tellK P kt=pairW):∃ f0 f1:Field,P.underlying kt=some (.struct #[f0,f1])∧(f0.name≠ "_" ∧ f0.offset=0∧P.underlying f0.type=some (.int .i64))∧(f1.name≠ "_" ∧ f1.offset=1∧P.underlying f1.type=some .string)∧P.stoodInHeld kt=false:=by
  unfold tellK pairW at h
  split at h
  · rename_i fs hfs
    simp only [Prod.mk.injEq,true_and] at h
    obtain ⟨h1,h2⟩:=h
    obtain ⟨l⟩:=fs
    match l,h1 with
    | [f0,f1],h1 =>
      simp only [List.map_cons,List.map_nil,List.cons.injEq,Prod.mk.injEq,and_true] at h1
      obtain ⟨⟨a1,a2,a3⟩,b1,b2,b3⟩:=h1
      refine ⟨f0,f1,hfs,⟨fun e=>?_,a2,a3⟩,⟨fun e=>?_,b2,b3⟩,h2⟩
      · rw [e] at a1;exact absurd a1 (by decide)
      · rw [e] at b1;exact absurd b1 (by decide)
    | [],h1=>simp at h1
    | [_],h1=>simp at h1
    | _ :: _ :: _ :: _,h1=>simp at h1
  · simp at h
theorem part_run {t:TypeId} {d:TypeDesc} (hd:P.underlying t=some d) (hn:(match d with | .struct _ | .array _ _=>false | _=>true)=true) {cs:Array Value} {off:Nat} {v:Value} (hv:cs[off]?=some v):(part t cs off).run P w=.ok v w:=by
  have ha:(isAgg t).run P w=.ok false w:=by
    unfold isAgg
    simp only [Sem.run_bind,run_underlying hd,Result.andThen]
    cases d <;> first | rfl | (simp at hn)
  unfold part
  simp only [Sem.run_bind,ha,Result.andThen]
  simp [hv]
theorem int_eq_run {t:TypeId} (h:P.underlying t=some (.int .i64)) (a b:Int) (n:Nat):(Op.equalIn (n+1) t (.int .i64 a) (.int .i64 b)).run P w=.ok (a == b) w:=by
  unfold Op.equalIn
  simp [run_underlying h,Result.andThen]
theorem str_eq_run {t:TypeId} (h:P.underlying t=some .string) (a b:ByteArray) (n:Nat):(Op.equalIn (n+1) t (.string a) (.string b)).run P w=.ok (a == b) w:=by
  unfold Op.equalIn
  simp [run_underlying h,Result.andThen]
theorem pair_equal (h:tellK P kt=pairW) (a b:Int) (s t:ByteArray):(Op.equal kt (pairE a s) (pairE b t)).run P w=.ok (a == b && s == t) w:=by
  obtain ⟨f0,f1,hu,⟨n0,o0,u0⟩,⟨n1,o1,u1⟩,hs⟩:=pair_under h
  have p0:∀ (x:Int) (y:ByteArray),(part f0.type #[.int .i64 x,.string y] f0.offset).run P w=.ok (.int .i64 x) w:=fun x y=>part_run u0 rfl (by rw [o0];rfl)
  have p1:∀ (x:Int) (y:ByteArray),(part f1.type #[.int .i64 x,.string y] f1.offset).run P w=.ok (.string y) w:=fun x y=>part_run u1 rfl (by rw [o1];rfl)
  show (Op.equalIn (9999+1) kt _ _).run P w=_
  unfold Op.equalIn pairE
  cases e0:a == b <;> cases e1:s == t <;> simp [run_underlying hu,Result.andThen,hs,n0,n1,p0,p1,int_eq_run u0,str_eq_run u1,e0,e1]
theorem pair_check (h:tellK P kt=pairW) (a:Int) (s:ByteArray) (e:Bool) (n:Nat):(Instr.checkKey e (n+2) kt (pairE a s)).run P w=.ok () w:=by
  obtain ⟨f0,f1,hu,⟨n0,o0,u0⟩,⟨n1,o1,u1⟩,hs⟩:=pair_under h
  have p0:∀ (x:Int) (y:ByteArray),(part f0.type #[.int .i64 x,.string y] f0.offset).run P w=.ok (.int .i64 x) w:=fun x y=>part_run u0 rfl (by rw [o0];rfl)
  have p1:∀ (x:Int) (y:ByteArray),(part f1.type #[.int .i64 x,.string y] f1.offset).run P w=.ok (.string y) w:=fun x y=>part_run u1 rfl (by rw [o1];rfl)
  have c0:∀ x:Int,(Instr.checkKey e (n+1) f0.type (.int .i64 x)).run P w=.ok () w:=fun x=>MapKept.run_checkKey u0 (show MapKept.IsKey (.int .i64) (.int .i64 x) from rfl) e n
  have c1:∀ x:ByteArray,(Instr.checkKey e (n+1) f1.type (.string x)).run P w=.ok () w:=fun x=>MapKept.run_checkKey u1 (show MapKept.IsKey .string (.string x) from trivial) e n
  unfold Instr.checkKey pairE
  simp [run_underlying hu,Result.andThen,n0,n1,p0,p1,c0,c1]
theorem pair_stays (a:Int) (s:ByteArray):Instr.sameBits 10000 (pairE a s) (pairE a s)=true:=by
  show Instr.sameBits (9999+1) _ _=true
  unfold pairE
  simp [Instr.sameBits,(MapKept.bytes_beq s s).2 rfl]
end
section
variable {κ : Type} [DecidableEq κ] (f : κ → Int) (g : κ → ByteArray) (inj : ∀ a b, a = b ↔ f a = f b ∧ g a = g b)
include inj
theorem pair_findNow {d:TypeDesc} (hd:(match d with | .struct _=>true | _=>false)=true) (k:Value) (e:MapEntry) (es:List MapEntry) (i:Nat):Instr.findNow d k (e :: es) i=none:=by
  cases d <;> simp_all [Instr.findNow,Instr.sameNow]
theorem pair_find {P:Program} {w:World} {kt:TypeId} (h:tellK P kt=pairW) {α:Type} (v:α→Value) (k:κ):∀ (m:List (κ × α)) (es:List MapEntry) (i:Nat),es.map (fun e=>(e.key,e.val))=m.map (fun p=>(pairE (f p.1) (g p.1),v p.2))→(Instr.findAsking kt (pairE (f k) (g k)) es i).run P w=.ok ((mfind k m).map fun q=>(i+q.1,v q.2)) w
  | [],[],i,_=>rfl
  | [],_ :: _,i,h=>by simp at h
  | _ :: _,[],i,h=>by simp at h
  | p :: m,e :: es,i,he=>by
    simp only [List.map_cons,List.cons.injEq,Prod.mk.injEq] at he
    obtain ⟨⟨h1,h2⟩,h3⟩:=he
    have heq:=pair_equal (P:=P) (w:=w) h (f k) (f p.1) (g k) (g p.1)
    unfold Instr.findAsking mfind
    rw [h1]
    simp only [Sem.run_bind,heq,Result.andThen]
    by_cases e0:k=p.1
    · have h5:=(inj k p.1).1 e0
      have h6:(f k == f p.1 && g k == g p.1)=true:=by rw [Bool.and_eq_true,beq_iff_eq];exact ⟨h5.1,(MapKept.bytes_beq _ _).2 h5.2⟩
      rw [if_pos e0,h6]
      simp [h2]
    · rw [if_neg e0]
      have hne:(f k == f p.1 && g k == g p.1)=false:=by
        cases hb:(f k == f p.1 && g k == g p.1) with
        | false=>rfl
        | true =>
          rw [Bool.and_eq_true,beq_iff_eq] at hb
          exact absurd ((inj k p.1).2 ⟨hb.1,(MapKept.bytes_beq _ _).1 hb.2⟩) e0
      rw [hne]
      simp only [Bool.false_eq_true,if_false]
      rw [pair_find h v k m es (i+1) h3]
      cases mfind k m <;> simp
      omega
end
abbrev pairKey {κ:Type} [DecidableEq κ] (f:κ→Int) (g:κ→ByteArray) (inj:∀ a b,a=b↔f a=f b∧g a=g b):MKey κ where
  enc k:=pairE (f k) (g k)
  want:=pairW
  find {P w kt} h α v k m es he:=by
    obtain ⟨f0,f1,hu,_⟩:=pair_under h
    cases es with
    | nil =>
      have:m=[]:=by cases m with | nil=>rfl | cons=>simp at he
      subst this
      simp [Instr.findKey,run_underlying hu,Result.andThen,Instr.findNow,mfind]
    | cons e es =>
      have h1:=pair_find f g inj (P:=P) (w:=w) h v k m (e :: es) 0 he
      unfold Instr.findKey
      simp only [Sem.run_bind,run_underlying hu,Result.andThen]
      rw [pair_findNow f g inj rfl]
      simp only [h1]
      cases mfind k m <;> simp
  check h k e n:=pair_check h (f k) (g k) e n
  stays k:=pair_stays (f k) (g k)

open Go
instance : DecidableEq Dthing := fun a b =>
  if h : a.cls = b.cls ∧ a.name = b.name then isTrue (by cases a; cases b; obtain ⟨h1, h2⟩ := h; simp at h1 h2; rw [h1, h2]) else isFalse fun e => h ⟨by rw [e], by rw [e]⟩
instance : MKey Dthing := pairKey (fun x => x.cls) (fun x => x.name) fun a b => ⟨fun e => ⟨by rw [e], by rw [e]⟩, fun h => by cases a; cases b; obtain ⟨h1, h2⟩ := h; simp at h1 h2; rw [h1, h2]⟩
namespace Pc
section
variable {κ β : Type} [DecidableEq κ]
def puts (m l:List (κ × β)):List (κ × β):=l.foldl (fun m e=>mupd e.1 e.2 m) m
theorem puts_app (m l k:List (κ × β)):puts m (l ++k)=puts (puts m l) k:=List.foldl_append ..
theorem puts_step {α:Type} [Inhabited α] {f:α→κ × β} {l:List α} {k:Int} {x:α} {m m1:List (κ × β)} (h:m1=puts m ((l.take k.toNat).map f)) (h0:0≤k) (hk:k < l.length) (hx:x=l.getD k.toNat default):mupd (f x).1 (f x).2 m1=puts m ((l.take (k+1).toNat).map f):=by
  have hk':k.toNat < l.length:=by omega
  have e:l[k.toNat]=x:=by rw [hx,List.getD_eq_getElem?_getD,List.getElem?_eq_getElem hk'];rfl
  rw [show (k+1).toNat=k.toNat+1 by omega,List.take_add_one,List.getElem?_eq_getElem hk',e,List.map_append,puts_app,← h]
  rfl
theorem puts_all {α:Type} {f:α→κ × β} {l:List α} {k:Int} {m m1:List (κ × β)} (h:m1=puts m ((l.take k.toNat).map f)) (hk:(l.length:Int)≤k):m1=puts m (l.map f):=by
  rw [h,List.take_of_length_le (by omega)]
end
theorem map_step {α β:Type} [Inhabited α] {f:α→β} {l:List α} {k:Int} {x:α} (h0:0≤k) (hk:k < l.length) (hx:x=l.getD k.toNat default):(l.take k.toNat).map f ++[f x]=(l.take (k+1).toNat).map f:=by
  have hk':k.toNat < l.length:=by omega
  have e:l[k.toNat]=x:=by rw [hx,List.getD_eq_getElem?_getD,List.getElem?_eq_getElem hk'];rfl
  rw [show (k+1).toNat=k.toNat+1 by omega,List.take_add_one,List.getElem?_eq_getElem hk',e,List.map_append]
  rfl
def th (k:Int) (n:ByteArray):Dthing:=⟨k,n⟩
def things (k:Int) (i o:List ByteArray) (n:ByteArray):List Dthing:=i.map (th 0) ++o.map (th 1) ++if k=0∨k=1∨k=5 then [th (2+k) n] else []
theorem th_len (k:Int) (i o:List ByteArray) (n:ByteArray):(things k i o n).length≤i.length+o.length+1:=by
  unfold things;split <;> simp <;> omega
def celM (l:List DCell):List (ByteArray × ByteArray):=puts [] (l.map fun x=>(x.Name,x.Unit))
def inpM (l:List DInput):List (ByteArray × ByteArray):=puts [] (l.map fun x=>(x.Name,x.Kind))
def namM (l:List DInput):List (Dthing × Bool):=puts [] (l.map fun x=>(th 0 x.Name,true))
def bareP (s:ByteArray):Prop:=Un.dv (Un.read s).1 0=0∧Un.dv (Un.read s).1 1=0∧Un.dv (Un.read s).1 2=0∧Un.dv (Un.read s).1 3=0∧Un.dv (Un.read s).1 4=0∧Un.dv (Un.read s).1 5=0
instance (s : ByteArray) : Decidable (bareP s) := by unfold bareP; infer_instance
theorem bare_empty:bareP ByteArray.empty:=by decide +kernel
abbrev Bk:=List (Dthing × Int)
def okS (cm im:List (ByteArray × ByteArray)) (nm:List (Dthing × Bool)) (kind:ByteArray) (had:Bk) (k:Int) (i o:List ByteArray) (n:ByteArray) (c:List ByteArray):Bool :=
  i.all (fun p=>(mlook (th 1 p) had).isSome) && c.all (fun w=>(mlook w cm).isSome) && (decide (n=ByteArray.empty) || decide (k=7) || (mlook (th k n) nm).getD false) &&
  (!decide (k=0) || decide ((mlook n im).getD default=kind)) && c.all (fun w=>decide ((mlook w cm).getD default=ByteArray.empty)) &&
  (things k i o n).all (fun y=>(mlook y had).isNone) && decide ((things k i o n).Nodup)
theorem okS_iff {cm im:List (ByteArray × ByteArray)} {nm:List (Dthing × Bool)} {kind:ByteArray} {had:Bk} {k:Int} {i o:List ByteArray} {n:ByteArray} {c:List ByteArray} (h:okS cm im nm kind had k i o n c=true) :
    (∀ p ∈ i,(mlook (th 1 p) had).isSome=true)∧(∀ w ∈ c,(mlook w cm).isSome=true)∧(n=ByteArray.empty∨k=7∨(mlook (th k n) nm).getD false=true)∧(k=0→(mlook n im).getD default=kind)∧(∀ w ∈ c,(mlook w cm).getD default=ByteArray.empty)∧(∀ y ∈ things k i o n,(mlook y had).isSome=false)∧(things k i o n).Nodup:=by
  unfold okS at h
  simp only [Bool.and_eq_true,List.all_eq_true,Bool.or_eq_true,decide_eq_true_eq,Bool.not_eq_true',decide_eq_false_iff_not,Option.isNone_iff_eq_none] at h
  obtain ⟨⟨⟨⟨⟨⟨h1,h2⟩,h3⟩,h4⟩,h5⟩,h6⟩,h7⟩:=h
  refine ⟨h1,h2,?_,fun e=>?_,h5,fun y hy=>by rw [h6 y hy];rfl,h7⟩
  · rcases h3 with (h3 | h3) | h3
    · exact .inl h3
    · exact .inr (.inl h3)
    · exact .inr (.inr h3)
  · rcases h4 with h4 | h4
    · exact absurd e h4
    · exact h4
theorem puts_look {κ β:Type} [DecidableEq κ] [MKey κ] (y:κ):∀ (l m:List (κ × β)),(mlook y m).isSome=false→(∀ e ∈ l,e.1≠y)→(mlook y (puts m l)).isSome=false
  | [],m,h,_=>h
  | e :: l,m,h,h2=>puts_look y l (mupd e.1 e.2 m) (by rw [mlook_upd,if_neg fun q=>h2 e List.mem_cons_self q.symm];exact h) fun e' he=>h2 e' (List.mem_cons_of_mem _ he)
theorem seen_no {β:Type} {b:β} {l:List Dthing} {k:Int} {x:Dthing} (hn:l.Nodup) (h0:0≤k) (hk:k < l.length) (hx:x=l.getD k.toNat default):mlook x (puts [] ((l.take k.toNat).map fun y=>(y,b)))=none:=by
  have hk':k.toNat < l.length:=by omega
  have e:l[k.toNat]=x:=by rw [hx,List.getD_eq_getElem?_getD,List.getElem?_eq_getElem hk'];rfl
  refine Option.not_isSome_iff_eq_none.1 (Bool.eq_false_iff.1 (puts_look x _ [] rfl fun z hz hzx=>?_))
  obtain ⟨y,hy,rfl⟩:=List.mem_map.1 hz
  obtain ⟨j,hj,rfl⟩:=List.getElem_of_mem hy
  rw [List.length_take] at hj
  simp only [List.getElem_take] at hzx
  exact (List.pairwise_iff_getElem.1 hn) j k.toNat (by omega) hk' (by omega) (by rw [e];exact hzx)
def hadS (had:Bk) (k:Int) (i o:List ByteArray) (n:ByteArray) (at_:Int):Bk:=puts had ((things k i o n).map fun y=>(y,at_))
def hadN (l:List DStep):Nat→Bk
  | 0=>[]
  | j+1=>let x:=l.getD j default;hadS (hadN l j) x.Kind x.In.l x.Out.l x.Name (j:Int)
def okR (cells:List DCell) (inputs:List DInput) (kind:ByteArray) (steps:List DStep):Bool :=
  ((List.range steps.length).all fun j=>let x:=steps.getD j default;okS (celM cells) (inpM inputs) (namM inputs) kind (hadN steps j) x.Kind x.In.l x.Out.l x.Name x.Cells.l) &&
  steps.all (fun x=>x.Out.l.all fun p=>(mlook (th 0 p) (hadN steps steps.length)).isSome) &&
  inputs.all (fun x=>!decide (x.Kind=kind) || (mlook (th 2 x.Name) (hadN steps steps.length)).isSome)
theorem ok_step {c:List DCell} {b:List DInput} {kd:ByteArray} {st:List DStep} (h:okR c b kd st=true) {j:Int} {x:DStep} (h0:0≤j) (hj:j < st.length) (hx:x=st.getD j.toNat default):okS (celM c) (inpM b) (namM b) kd (hadN st j.toNat) x.Kind x.In.l x.Out.l x.Name x.Cells.l=true:=by
  unfold okR at h
  rw [Bool.and_eq_true,Bool.and_eq_true] at h
  have:=List.all_eq_true.1 h.1.1 j.toNat (List.mem_range.2 (by omega))
  rw [hx];exact this
theorem ok_out {c:List DCell} {b:List DInput} {kd:ByteArray} {st:List DStep} (h:okR c b kd st=true):∀ y ∈ st,∀ p ∈ y.Out.l,(mlook (th 0 p) (hadN st st.length)).isSome=true:=by
  unfold okR at h
  rw [Bool.and_eq_true,Bool.and_eq_true] at h
  exact fun y hy p hp=>List.all_eq_true.1 (List.all_eq_true.1 h.1.2 y hy) p hp
theorem ok_inp {c:List DCell} {b:List DInput} {kd:ByteArray} {st:List DStep} (h:okR c b kd st=true) (hk:∀ y ∈ b,y.Kind=kd):∀ y ∈ b,y.Kind=kd∧(mlook (th 2 y.Name) (hadN st st.length)).isSome=true:=by
  unfold okR at h
  rw [Bool.and_eq_true,Bool.and_eq_true] at h
  refine fun y hy=>⟨hk y hy,?_⟩
  have:=List.all_eq_true.1 h.2 y hy
  rw [Bool.or_eq_true] at this
  rcases this with e | e
  · rw [decide_eq_true (hk y hy)] at e;cases e
  · exact e
theorem had_next {st:List DStep} {j:Int} {x:DStep} (h0:0≤j) (hx:x=st.getD j.toNat default):hadN st (j+1).toNat=puts (hadN st j.toNat) ((things x.Kind x.In.l x.Out.l x.Name).map fun y=>(y,j)):=by
  rw [show (j+1).toNat=j.toNat+1 by omega,hadN,← hx,show ((j.toNat:Nat):Int)=j by omega];rfl
structure Good (a:List DImport) (b:List DInput) (c:List DCell) (p:List DPort) (d:List DStore) (x:DRecipe):Prop where
  na:a.length=0
  nd:d.length=0
  np:p.length=0
  ok:okR c b x.Kind x.Steps.l=true
  kinds:∀ y ∈ b,y.Kind=x.Kind
  steps:∀ y ∈ x.Steps.l,(y.In.l.length:Int)≤1000∧(y.Out.l.length:Int)≤1000∧(y.Kind=0∨y.Kind=3∨y.Kind=7)
  len:(x.Steps.l.length:Int)≤1000
end Pc

namespace Fr
open Bg
def rt (x:DFrac):Prop:=FrB x.P.Sign x.P.Digits.l x.Q.Sign x.Q.Digits.l
instance (x : DFrac) : Decidable (rt x) := by unfold rt; infer_instance
def qv (x:DFrac):Rat:=fq x.P.Sign x.P.Digits.l x.Q.Digits.l
def ln (k:Nat) (x:DFrac):Prop:=x.P.Digits.l.length≤k∧x.Q.Digits.l.length≤k
def fmk (r:Rat) (s1 s2:SV):DFrac:=⟨⟨sgn r.num,⟨dig r.num.natAbs,s1⟩⟩,⟨1,⟨dig r.den,s2⟩⟩⟩
theorem rt_fmk (r:Rat) (s1 s2:SV):rt (fmk r s1 s2):=FrB.of r
theorem qv_fmk (r:Rat) (s1 s2:SV):qv (fmk r s1 s2)=r:=fq_of r
def frs:List Rat→(Nat→SV)→List DFrac
  | [],_=>[]
  | r :: l,σ=>fmk r (σ 0) (σ 1) :: frs l fun i=>σ (i+2)
theorem frs_qv:∀ (l:List Rat) (σ:Nat→SV),(frs l σ).map qv=l
  | [],_=>rfl
  | r :: l,σ=>by rw [frs,List.map_cons,qv_fmk,frs_qv l]
theorem frs_len (l:List Rat) (σ:Nat→SV):(frs l σ).length=l.length:=by rw [←List.length_map (f:=qv),frs_qv]
theorem frs_mem:∀ {l:List Rat} {σ:Nat→SV} {x:DFrac},x ∈ frs l σ→∃ r ∈ l,∃ s1 s2,x=fmk r s1 s2
  | r :: l,σ,x,h=>by
    rcases List.mem_cons.1 h with rfl | h
    · exact ⟨r,List.mem_cons_self,_,_,rfl⟩
    · obtain ⟨r',h',e⟩:=frs_mem h
      exact ⟨r',List.mem_cons_of_mem _ h',e⟩
theorem frs_rt {l:List Rat} {σ:Nat→SV}:∀ x ∈ frs l σ,rt x:=fun x h=>by
  obtain ⟨r,_,s1,s2,rfl⟩:=frs_mem h;exact rt_fmk r s1 s2
theorem rt.is {x:DFrac} (h:rt x):x=fmk (qv x) x.P.Digits.s x.Q.Digits.s:=by
  obtain ⟨e1,e2,e3,e4⟩:=FrB.eqs h
  rcases x with ⟨⟨a,⟨b,c⟩⟩,⟨d,⟨e,f⟩⟩⟩
  simp only at e1 e2 e3 e4
  unfold fmk qv
  simp only
  rw [←e1,← e2,e3,← e4]
def Frs (l:List DFrac) (m:List Rat):Prop:=(∀ x ∈ l,rt x)∧l.map qv=m
theorem frs_ex:∀ {l:List DFrac} {m:List Rat},Frs l m→∃ σ,l=frs m σ
  | [],m,h=>⟨fun _=>{},by obtain ⟨_,h⟩:=h;subst h;rfl⟩
  | x :: l,m,h=>by
    obtain ⟨h1,h2⟩:=h
    subst h2
    obtain ⟨σ,e⟩:=frs_ex (l:=l) (m:=l.map qv) ⟨fun y hy=>h1 y (List.mem_cons_of_mem _ hy),rfl⟩
    refine ⟨fun i=>match i with | 0=>x.P.Digits.s | 1=>x.Q.Digits.s | i+2=>σ i,?_⟩
    show _=frs (qv x :: l.map qv) _
    rw [frs]
    show x :: l=fmk (qv x) x.P.Digits.s x.Q.Digits.s :: frs (l.map qv) σ
    rw [←e,← (h1 x List.mem_cons_self).is]
theorem Frs.nil:Frs [] []:=⟨by simp,rfl⟩
theorem Frs.of (m:List Rat) (σ:Nat→SV):Frs (frs m σ) m:=⟨frs_rt,frs_qv m σ⟩
theorem Frs.snoc {l:List DFrac} {m:List Rat} {x:DFrac} {r:Rat} (h:Frs l m) (hx:rt x) (e:qv x=r):Frs (l ++[x]) (m ++[r]) :=
  ⟨fun y hy=>by rcases List.mem_append.1 hy with hy | hy;exact h.1 y hy;rw [List.mem_singleton.1 hy];exact hx,by rw [List.map_append,h.2,List.map_singleton,e]⟩
theorem rt.z {x:DFrac} (h:rt x):Fz x.P.Sign x.P.Digits.l x.Q.Sign x.Q.Digits.l (qv x):=⟨h,rfl⟩
theorem Frs.eq_of {l m:List DFrac} {a:List Rat} (h:Frs l a) (k:Frs m a):l.map (fun x=>(x.P.Sign,x.P.Digits.l,x.Q.Sign,x.Q.Digits.l))=m.map (fun x=>(x.P.Sign,x.P.Digits.l,x.Q.Sign,x.Q.Digits.l)):=by
  have key:∀ (l:List DFrac),(∀ x ∈ l,rt x)→l.map (fun x=>(x.P.Sign,x.P.Digits.l,x.Q.Sign,x.Q.Digits.l))=(l.map qv).map fun r=>(sgn r.num,dig r.num.natAbs,(1:Int),dig r.den):=fun l hl=>by
    rw [List.map_map]
    refine List.map_congr_left fun x hx=>?_
    obtain ⟨e1,e2,e3,e4⟩:=FrB.eqs (hl x hx)
    show (_,_,_,_)=(_,_,_,_)
    rw [←show fq x.P.Sign x.P.Digits.l x.Q.Digits.l=qv x from rfl,← e1,← e2,← e3,← e4]
  rw [key l h.1,key m k.1,h.2,k.2]
def sumQ (l:List Rat):Rat:=l.foldl (·+·) 0
theorem sumQ_snoc (l:List Rat) (x:Rat):sumQ (l ++[x])=sumQ l+x:=by unfold sumQ;rw [List.foldl_append];rfl
theorem take_step {α:Type} [Inhabited α] {l:List α} {k:Nat} (h:k < l.length):l.take (k+1)=l.take k ++[l.getD k default]:=by
  rw [List.take_add_one,List.getD_eq_getElem?_getD,List.getElem?_eq_getElem h];rfl
theorem sumQ_step {l:List DFrac} {k:Nat} {x:DFrac} (h:k < l.length) (hx:x=l.getD k default):sumQ ((l.take (k+1)).map qv)=sumQ ((l.take k).map qv)+qv x:=by
  rw [take_step h,List.map_append,← hx];exact sumQ_snoc _ _
theorem sumQ_hb {k:Nat}:∀ {l:List Rat},(∀ r ∈ l,Hb r k)→Hb (sumQ l) (1+l.length * (k+1)):=fun {l}=>by
  have key:∀ (n:Nat) (l:List Rat),l.length=n→(∀ r ∈ l,Hb r k)→Hb (sumQ l) (1+n * (k+1)):=fun n=>by
    induction n with
    | zero=>intro l hl _;rw [List.eq_nil_of_length_eq_zero hl,Nat.zero_mul];exact (⟨by decide,by decide⟩:Hb 0 1)
    | succ n ih =>
      intro l hl h
      have e:=List.dropLast_concat_getLast (l:=l) (by intro e;subst e;simp at hl)
      rw [←e,sumQ_snoc]
      refine ((ih l.dropLast (by simp [hl]) fun r hr=>h r (by rw [←e];exact List.mem_append_left _ hr)).add (h _ (List.getLast_mem _))).mono ?_
      rw [Nat.add_mul];omega
  exact key l.length l rfl
def Wb (l:List DFrac):Prop:=l.length≤1000∧∀ x ∈ l,ln 1000000 x
theorem Wb.hb {l:List DFrac} (h:Wb l) (hr:∀ x ∈ l,rt x) (n:Nat):Hb (sumQ ((l.take n).map qv)) 1000001002:=by
  have h1:∀ r ∈ (l.take n).map qv,Hb r 1000000:=fun r hr'=>by
    obtain ⟨x,hx,rfl⟩:=List.mem_map.1 hr'
    have hx:=List.mem_of_mem_take hx
    exact (hr x hx).z.hb (h.2 x hx).1 (h.2 x hx).2
  refine (sumQ_hb h1).mono ?_
  have:((l.take n).map qv).length≤1000:=by simp;have:=h.1;omega
  have:=Nat.mul_le_mul_right (1000000+1) this
  omega
def negB (x:DFrac):Bool:=decide ((if FrB x.P.Sign x.P.Digits.l x.Q.Sign x.Q.Digits.l then x.P.Sign else 0) < 0)
theorem negB_is {x:DFrac} (h:rt x):negB x=decide (qv x < 0):=by
  unfold negB
  rw [if_pos (show FrB _ _ _ _ from h),h.z.eqs.1]
  exact decide_eq_decide.2 sgn_num.1
def idxF {α:Type} (p:α→Bool):List α→Int
  | []=> -1
  | x :: l=>if p x then 0 else if idxF p l= -1 then -1 else idxF p l+1
theorem idxF_ge {α:Type} (p:α→Bool):∀ l:List α,idxF p l= -1∨0≤idxF p l
  | []=>.inl rfl
  | x :: l=>by
    unfold idxF
    split
    · omega
    · split
      · omega
      · have:=idxF_ge p l;omega
theorem idxF_any {α:Type} (p:α→Bool):∀ l:List α,0≤idxF p l↔l.any p=true
  | []=>by unfold idxF;simp
  | x :: l=>by
    unfold idxF
    rw [List.any_cons,Bool.or_eq_true,← idxF_any p l]
    by_cases h:p x=true
    · rw [if_pos h];exact ⟨fun _=>.inl h,fun _=>by omega⟩
    · rw [if_neg h]
      have:=idxF_ge p l
      by_cases h2:idxF p l= -1
      · rw [if_pos h2,h2];simp [h]
      · rw [if_neg h2];simp only [h,false_or];omega
theorem idxF_at {α:Type} [Inhabited α] {p:α→Bool}:∀ {l:List α} {k:Nat} {x:α},k < l.length→(∀ i,i < k→p (l.getD i default)=false)→x=l.getD k default→p x=true→(k:Int)=idxF p l
  | y :: l,0,x,_,_,hx,h=>by
    unfold idxF;rw [List.getD_cons_zero] at hx;subst hx;rw [if_pos h];rfl
  | y :: l,k+1,x,hk,hn,hx,h=>by
    have h0:p y=false:=hn 0 (by omega)
    have ih:=idxF_at (p:=p) (l:=l) (k:=k) (x:=x) (by simpa using hk) (fun i hi=>hn (i+1) (by omega)) (by simpa using hx) h
    unfold idxF;rw [h0,if_neg (by decide),if_neg (by omega),← ih];omega
theorem idxF_no {α:Type} [Inhabited α] {p:α→Bool}:∀ {l:List α},(∀ i,i < l.length→p (l.getD i default)=false)→idxF p l= -1
  | [],_=>rfl
  | y :: l,h=>by
    have h0:p y=false:=h 0 (by simp)
    have ih:=idxF_no (p:=p) (l:=l) fun i hi=>h (i+1) (by simp;omega)
    unfold idxF;rw [h0,if_neg (by decide),if_pos ih]
def wrongB (x:DFrac):Bool:=!decide (rt x)
theorem anyW {l:List DFrac}:l.any wrongB=false↔∀ x ∈ l,rt x:=by
  rw [List.any_eq_false]
  refine forall_congr' fun x=>imp_congr_right fun _=>?_
  unfold wrongB;simp
theorem anyN {l:List DFrac} (h:∀ x ∈ l,rt x):l.any negB=false↔∀ x ∈ l,0≤qv x:=by
  rw [List.any_eq_false]
  refine forall_congr' fun x=>⟨fun k hx=>?_,fun k hx=>?_⟩
  · have:=k hx;rw [negB_is (h x hx),decide_eq_true_eq,Rat.not_lt] at this;exact this
  · rw [negB_is (h x hx),decide_eq_true_eq,Rat.not_lt];exact k hx
theorem sum0 (l:List DFrac):Fz (sgn 0) (dig (Int.natAbs 0)) 1 (dig 1) (sumQ ((l.take (0:Int).toNat).map qv)):=⟨FrB.of 0,fq_of 0⟩
theorem Wb.lf {l:List DFrac} (h:Wb l):∀ x ∈ l,ln 17179869184 x:=fun x hx=>by have:=h.2 x hx;unfold ln at this ⊢;omega
theorem Frs.len_le {l w:List DFrac} {f:DFrac→Rat} {k:Nat} (h:Frs l ((w.take k).map f)):l.length≤w.length:=by
  have:=congrArg List.length h.2;simp at this;omega
theorem len0 {l:List DFrac}:(l.length:Int)=0↔l=[]:=⟨fun h=>List.eq_nil_of_length_eq_zero (by omega),fun h=>by subst h;rfl⟩
theorem wrong_t {x:DFrac} (h:¬ FrB x.P.Sign x.P.Digits.l x.Q.Sign x.Q.Digits.l):wrongB x=true:=by unfold wrongB;simp only [Bool.not_eq_true',decide_eq_false_iff_not];exact h
theorem wrong_f {x:DFrac} (h:FrB x.P.Sign x.P.Digits.l x.Q.Sign x.Q.Digits.l):wrongB x=false:=by unfold wrongB;simp only [Bool.not_eq_false',decide_eq_true_eq];exact h
theorem intz (n:Int):Fz (sgn n) (dig n.natAbs) 1 (dig 1) (n:Rat):=⟨FrB.of (n:Rat),fq_of (n:Rat)⟩
def sumW (l:List DFrac):Rat:=sumQ (l.map qv)
def shE (l:List DFrac):Int:=if l=[]∨l.any wrongB=true then 1 else if l.any negB=true then 3 else if sumW l=0 then 15 else 0
def shQ (l:List DFrac):List Rat:=if shE l=0 then l.map fun x=>qv x / sumW l else []
theorem shE_1 {l:List DFrac} (h:l=[]∨l.any wrongB=true):shE l=1:=if_pos h
theorem shE_3 {l:List DFrac} (h:¬ (l=[]∨l.any wrongB=true)) (k:l.any negB=true):shE l=3:=by unfold shE;rw [if_neg h,if_pos k]
theorem shE_15 {l:List DFrac} (h:¬ (l=[]∨l.any wrongB=true)) (k:¬ l.any negB=true) (s:sumW l=0):shE l=15:=by unfold shE;rw [if_neg h,if_neg k,if_pos s]
theorem shE_0 {l:List DFrac} (h:¬ (l=[]∨l.any wrongB=true)) (k:¬ l.any negB=true) (s:¬ sumW l=0):shE l=0:=by unfold shE;rw [if_neg h,if_neg k,if_neg s]
theorem shQ_n {l:List DFrac} (h:shE l≠0):shQ l=[]:=if_neg h
theorem shQ_y {l:List DFrac} (h:shE l=0):shQ l=l.map fun x=>qv x / sumW l:=if_pos h
theorem shE_is {l:List DFrac} (h:shE l=0):l≠[]∧(∀ x ∈ l,rt x)∧(∀ x ∈ l,0≤qv x)∧sumW l≠0:=by
  unfold shE at h
  by_cases h1:l=[]∨l.any wrongB=true
  · rw [if_pos h1] at h;omega
  · rw [if_neg h1] at h
    have hr:∀ x ∈ l,rt x:=anyW.1 (by cases e:l.any wrongB;rfl;exact (h1 (.inr e)).elim)
    by_cases h2:l.any negB=true
    · rw [if_pos h2] at h;omega
    · rw [if_neg h2] at h
      by_cases h3:sumW l=0
      · rw [if_pos h3] at h;omega
      · exact ⟨fun e=>h1 (.inl e),hr,(anyN hr).1 (by simpa using h2),h3⟩
def isSh (l:List DFrac):Prop:=(∀ x ∈ l,rt x)∧(∀ x ∈ l,0≤qv x)∧sumW l=1
instance (l : List DFrac) : Decidable (isSh l) := by unfold isSh; infer_instance
theorem Wb.hbW {l:List DFrac} (h:Wb l) (hr:∀ x ∈ l,rt x):Hb (sumW l) 1000001002:=by
  have:=h.hb hr l.length;rw [List.take_length] at this;exact this
theorem isSh_is {l:List DFrac} {n:Int} (hn:(∀ x ∈ l,rt x)→n=cmpQ (sumW l) 1):((¬l.any wrongB=true)∧¬ l.any negB=true)∧n=0↔isSh l:=by
  constructor
  · rintro ⟨⟨h1,h2⟩,h3⟩
    have hr:=anyW.1 (by simpa using h1)
    refine ⟨hr,(anyN hr).1 (by simpa using h2),?_⟩
    have:=hn hr;rw [h3] at this;unfold cmpQ at this
    by_cases a:sumW l < 1
    · rw [if_pos a] at this;omega
    · rw [if_neg a] at this
      by_cases b:sumW l=1
      · exact b
      · rw [if_neg b] at this;omega
  · rintro ⟨hr,h2,h3⟩
    refine ⟨⟨by rw [anyW.2 hr];simp,by rw [(anyN hr).2 h2];simp⟩,?_⟩
    rw [hn hr,h3];rfl
end Fr

namespace Fr
open Bg
def ltR (q:List Rat) (a b:Int):Prop:=q.getD b.toNat 0 < q.getD a.toNat 0∨(q.getD b.toNat 0=q.getD a.toNat 0∧a < b)
instance (q : List Rat) (a b : Int) : Decidable (ltR q a b) := by unfold ltR; infer_instance
theorem ltR_trans {q:List Rat} {a b c:Int} (h:ltR q a b) (k:ltR q b c):ltR q a c:=by
  unfold ltR at *
  generalize q.getD a.toNat 0=x at *;generalize q.getD b.toNat 0=y at *;generalize q.getD c.toNat 0=z at *
  rcases h with h | ⟨h,h'⟩ <;> rcases k with k | ⟨k,k'⟩
  · left;grind
  · left;grind
  · left;grind
  · right;exact ⟨by grind,by omega⟩
theorem ltR_asymm {q:List Rat} {a b:Int} (h:ltR q a b) (k:ltR q b a):False:=by
  unfold ltR at *
  generalize q.getD a.toNat 0=x at *;generalize q.getD b.toNat 0=y at *
  rcases h with h | ⟨h,h'⟩ <;> rcases k with k | ⟨k,k'⟩
  · grind
  · grind
  · grind
  · omega
theorem ltR_or {q:List Rat} {a b:Int} (h:a≠b):ltR q a b∨ltR q b a:=by
  unfold ltR
  generalize q.getD a.toNat 0=x at *;generalize q.getD b.toNat 0=y at *
  by_cases h1:y < x
  · exact .inl (.inl h1)
  · by_cases h2:x < y
    · exact .inr (.inl h2)
    · have e:x=y:=by grind
      rcases Int.lt_or_gt_of_ne h with h3 | h3
      · exact .inl (.inr ⟨e.symm,h3⟩)
      · exact .inr (.inr ⟨e,h3⟩)
def insR (q:List Rat) (x:Int):List Int→List Int
  | []=>[x]
  | y :: l=>if ltR q x y then x :: y :: l else y :: insR q x l
def iota (n:Nat):List Int:=(List.range n).map fun (i:Nat)=>(i:Int)
def sortR (q:List Rat):List Int→List Int
  | []=>[]
  | x :: l=>insR q x (sortR q l)
def ord (q:List Rat):List Int:=sortR q (iota q.length)
theorem insR_perm (q:List Rat) (x:Int):∀ l,(insR q x l).Perm (x :: l)
  | []=>List.Perm.refl _
  | y :: l=>by
    unfold insR
    split
    · exact List.Perm.refl _
    · exact ((insR_perm q x l).cons y).trans (List.Perm.swap x y l)
theorem sortR_perm (q:List Rat):∀ l,(sortR q l).Perm l
  | []=>List.Perm.refl _
  | x :: l=>(insR_perm q x _).trans ((sortR_perm q l).cons x)
theorem insR_pw {q:List Rat} {x:Int}:∀ {l:List Int},l.Pairwise (ltR q)→x ∉ l→(insR q x l).Pairwise (ltR q)
  | [],_,_=>List.pairwise_singleton _ _
  | y :: l,h,hx=>by
    unfold insR
    have hp:=List.pairwise_cons.1 h
    split
    · rename_i hlt
      exact List.pairwise_cons.2 ⟨fun z hz=>by rcases List.mem_cons.1 hz with rfl | hz;exact hlt;exact ltR_trans hlt (hp.1 z hz),h⟩
    · rename_i hlt
      refine List.pairwise_cons.2 ⟨fun z hz=>?_,insR_pw hp.2 fun k=>hx (List.mem_cons_of_mem _ k)⟩
      rcases List.mem_cons.1 ((insR_perm q x l).subset hz) with rfl | hz
      · rcases ltR_or (q:=q) (a:=z) (b:=y) (fun e=>hx (by rw [e];exact List.mem_cons_self)) with h1 | h1
        · exact (hlt h1).elim
        · exact h1
      · exact hp.1 z hz
theorem sortR_pw {q:List Rat}:∀ {l:List Int},l.Nodup→(sortR q l).Pairwise (ltR q)
  | [],_=>List.Pairwise.nil
  | x :: l,h=>by
    have:=List.nodup_cons.1 h
    exact insR_pw (sortR_pw this.2) fun k=>this.1 ((sortR_perm q l).subset k)
theorem iota_len (n:Nat):(iota n).length=n:=by simp [iota]
theorem iota_nd (n:Nat):(iota n).Nodup:=by
  unfold iota;unfold List.Nodup;rw [List.pairwise_map];exact List.nodup_range.imp fun h e=>h (by omega)
theorem iota_mem {n:Nat} {i:Int}:i ∈ iota n↔0≤i∧i < n:=by
  unfold iota;rw [List.mem_map]
  constructor
  · rintro ⟨k,hk,rfl⟩;have:=List.mem_range.1 hk;omega
  · rintro ⟨h1,h2⟩;exact ⟨i.toNat,List.mem_range.2 (by omega),by omega⟩
theorem iota_get {n k:Nat} (h:k < n):(iota n).getD k 0=(k:Int):=by
  unfold iota;rw [List.getD_eq_getElem?_getD,List.getElem?_map,List.getElem?_range h];rfl
theorem iota_succ (k:Nat):iota (k+1)=iota k ++[(k:Int)]:=by unfold iota;rw [List.range_succ,List.map_append];rfl
theorem iota_take {n k:Nat} (h:k≤n):(iota n).take k=iota k:=by
  unfold iota;rw [←List.map_take,List.take_range,Nat.min_eq_left h]
theorem ord_perm (q:List Rat):(ord q).Perm (iota q.length):=sortR_perm q _
theorem ord_pw (q:List Rat):(ord q).Pairwise (ltR q):=sortR_pw (iota_nd _)
theorem ord_len (q:List Rat):(ord q).length=q.length:=by rw [(ord_perm q).length_eq,iota_len]
theorem ord_mem {q:List Rat} {i:Int}:i ∈ ord q↔0≤i∧i < q.length:=by rw [(ord_perm q).mem_iff,iota_mem]
theorem ord_is {q:List Rat} {d:List Int} (h:d.Pairwise (ltR q)) (k:d.Perm (iota q.length)):d=ord q :=
  List.Perm.eq_of_pairwise (le:=ltR q) (fun a b _ _ h1 h2=>(ltR_asymm h1 h2).elim) h (ord_pw q) (k.trans (ord_perm q).symm)
structure InsI (q:List Rat) (d:List Int) (i:Nat):Prop where
  len:d.length=q.length
  pw:(d.take i).Pairwise (ltR q)
  perm:(d.take i).Perm ((iota q.length).take i)
  rest:d.drop i=(iota q.length).drop i
structure InsJ (q:List Rat) (d:List Int) (i j:Nat):Prop where
  ex:∃ A B:List Int,d=A ++(i:Int) :: (B ++(iota q.length).drop (i+1))∧A.length=j∧A.length+B.length=i∧(A ++B).Pairwise (ltR q)∧(∀ y ∈ B,ltR q i y)∧(A ++B).Perm ((iota q.length).take i)
theorem InsJ.len {q:List Rat} {d:List Int} {i j:Nat} (h:InsJ q d i j) (hi:i < q.length):d.length=q.length:=by
  obtain ⟨A,B,rfl,h1,h2,_⟩:=h.ex
  simp [iota_len];omega
theorem ins_start {q:List Rat}:InsI q (iota q.length) 1:=by
  refine ⟨iota_len _,?_,List.Perm.refl _,rfl⟩
  cases iota q.length with
  | nil=>simp
  | cons a l=>simp
theorem ins_in {q:List Rat} {d:List Int} {i:Nat} (h:InsI q d i) (hi:i < q.length):InsJ q d i i:=by
  refine ⟨d.take i,[],?_,by rw [List.length_take,h.len];omega,by rw [List.length_take,h.len];simp;omega,by rw [List.append_nil];exact h.pw,by simp,by rw [List.append_nil];exact h.perm⟩
  have e:(iota q.length).drop i=(i:Int) :: (iota q.length).drop (i+1):=by
    rw [List.drop_eq_getElem_cons (by rw [iota_len];exact hi)]
    congr 1
    have:=iota_get hi
    rw [List.getD_eq_getElem?_getD,List.getElem?_eq_getElem (by rw [iota_len];exact hi)] at this;exact this
  rw [List.nil_append,← e,← h.rest,List.take_append_drop]
theorem get_mid {A R:List Int} {x:Int}:(A ++x :: R).getD A.length default=x:=by
  rw [List.getD_eq_getElem?_getD,List.getElem?_append_right (Nat.le_refl _)];simp
theorem set_mid' {A R:List Int} {x y:Int}:(A ++x :: R).set A.length y=A ++y :: R:=by
  rw [List.set_append_right _ _ (Nat.le_refl _)];simp
theorem insJ_at {q:List Rat} {d:List Int} {i j:Nat} (h:InsJ q d i j) (hj:0 < j):d.getD j default=(i:Int)∧0≤d.getD (j - 1) default∧d.getD (j - 1) default < i:=by
  obtain ⟨A,B,rfl,h1,h2,h3,h4,h5⟩:=h.ex
  obtain ⟨A',y,rfl⟩:∃ A' y,A=A' ++[y]:=⟨A.dropLast,A.getLast (by intro e;subst e;simp at h1;omega),(List.dropLast_concat_getLast _).symm⟩
  have hl:A'.length=j - 1:=by simp at h1;omega
  refine ⟨by rw [←h1];exact get_mid,?_⟩
  have hy:((A' ++[y]) ++(i:Int) :: (B ++(iota q.length).drop (i+1))).getD (j - 1) default=y:=by rw [←hl,List.append_assoc];exact get_mid
  rw [hy]
  have hm:y ∈ (iota q.length).take i:=h5.subset (by simp)
  have:=iota_mem.1 (List.mem_of_mem_take hm)
  rcases Nat.lt_or_ge i q.length with hi | hi
  · rw [iota_take (by omega)] at hm
    have:=iota_mem.1 hm;omega
  · omega
theorem ins_step {q:List Rat} {d:List Int} {i j:Nat} (h:InsJ q d i j) (hj:0 < j) (hlt:ltR q (d.getD j default) (d.getD (j - 1) default)) :
    InsJ q ((d.set j (d.getD (j - 1) default)).set (j - 1) (d.getD j default)) i (j - 1):=by
  have ha:=(insJ_at h hj).1
  obtain ⟨A,B,rfl,h1,h2,h3,h4,h5⟩:=h.ex
  obtain ⟨A',y,rfl⟩:∃ A' y,A=A' ++[y]:=⟨A.dropLast,A.getLast (by intro e;subst e;simp at h1;omega),(List.dropLast_concat_getLast _).symm⟩
  have hl:A'.length=j - 1:=by simp at h1;omega
  have hy:((A' ++[y]) ++(i:Int) :: (B ++(iota q.length).drop (i+1))).getD (j - 1) default=y:=by rw [←hl,List.append_assoc];exact get_mid
  rw [ha,hy] at hlt
  rw [ha,hy]
  refine ⟨A',y :: B,?_,hl,by simp at h2 ⊢;omega,by rw [List.append_assoc] at h3;exact h3,fun z hz=>?_,by rw [List.append_assoc] at h5;exact h5⟩
  · rw [show j=(A' ++[y]).length from h1.symm,set_mid',show (A' ++[y]).length - 1=A'.length by simp,List.append_assoc,List.singleton_append,set_mid'];rfl
  · rcases List.mem_cons.1 hz with rfl | hz
    · exact hlt
    · exact h4 z hz
theorem ins_out {q:List Rat} {d:List Int} {i j:Nat} (h:InsJ q d i j) (hi:i < q.length) (hs:j=0∨¬ ltR q (d.getD j default) (d.getD (j - 1) default)):InsI q d (i+1):=by
  have hlen:=h.len hi
  have hat:=fun hj=>insJ_at h (j:=j) hj
  obtain ⟨A,B,rfl,h1,h2,h3,h4,h5⟩:=h.ex
  have hnot:(i:Int) ∉ A ++B:=fun hm=>by
    have:=h5.subset hm
    rw [iota_take (by omega)] at this
    have:=iota_mem.1 this;omega
  have htk:(A ++(i:Int) :: (B ++(iota q.length).drop (i+1))).take (i+1)=A ++(i:Int) :: B:=by
    rw [show A ++(i:Int) :: (B ++(iota q.length).drop (i+1))=(A ++(i:Int) :: B) ++(iota q.length).drop (i+1) by simp]
    exact List.take_left' (by simp;omega)
  have hdr:(A ++(i:Int) :: (B ++(iota q.length).drop (i+1))).drop (i+1)=(iota q.length).drop (i+1):=by
    rw [show A ++(i:Int) :: (B ++(iota q.length).drop (i+1))=(A ++(i:Int) :: B) ++(iota q.length).drop (i+1) by simp]
    exact List.drop_left' (by simp;omega)
  have hall:∀ x ∈ A,ltR q x i:=fun x hx=>by
    rcases hs with hs | hs
    · subst hs;rw [List.eq_nil_of_length_eq_zero h1] at hx;cases hx
    · have hj:0 < j:=by rw [←h1];exact List.length_pos_of_mem hx
      obtain ⟨A',y,rfl⟩:∃ A' y,A=A' ++[y]:=⟨A.dropLast,A.getLast (List.ne_nil_of_mem hx),(List.dropLast_concat_getLast _).symm⟩
      have hl:A'.length=j - 1:=by simp at h1;omega
      have hy:((A' ++[y]) ++(i:Int) :: (B ++(iota q.length).drop (i+1))).getD (j - 1) default=y:=by rw [←hl,List.append_assoc];exact get_mid
      rw [(hat hj).1,hy] at hs
      have hyi:ltR q y i:=by
        rcases ltR_or (q:=q) (a:=y) (b:=i) (fun e=>hnot (by rw [←e];simp)) with h6 | h6
        · exact h6
        · exact (hs h6).elim
      rcases List.mem_append.1 hx with hx | hx
      · refine ltR_trans ?_ hyi
        have:=(List.pairwise_append.1 h3).1
        exact (List.pairwise_append.1 this).2.2 x hx y (by simp)
      · rw [List.mem_singleton.1 hx];exact hyi
  have hp:=List.pairwise_append.1 h3
  refine ⟨hlen,?_,?_,hdr⟩
  · rw [htk]
    refine List.pairwise_append.2 ⟨hp.1,List.pairwise_cons.2 ⟨h4,hp.2.1⟩,fun x hx z hz=>?_⟩
    rcases List.mem_cons.1 hz with rfl | hz
    · exact hall x hx
    · exact hp.2.2 x hx z hz
  · rw [htk,iota_take (by omega),iota_succ]
    rw [iota_take (by omega)] at h5
    refine List.Perm.trans (List.perm_middle) (List.Perm.trans (h5.cons _) ?_)
    exact (List.perm_append_singleton (i:Int) (iota i)).symm
theorem ins_end {q:List Rat} {d:List Int} {i:Nat} (h:InsI q d i) (hi:q.length≤i):d=ord q:=by
  have h1:=h.pw;have h2:=h.perm
  rw [List.take_of_length_le (by rw [h.len];exact hi)] at h1 h2
  rw [List.take_of_length_le (by rw [iota_len];exact hi)] at h2
  exact ord_is h1 h2
end Fr

namespace Fr
open Bg
def fl (t:Int) (r:Rat):Int:=(r * (t:Rat)).floor
def re (t:Int) (r:Rat):Rat:=r * (t:Rat) - ((r * (t:Rat)).floor:Rat)
def sumI:List Int→Int
  | []=>0
  | x :: l=>x+sumI l
theorem sumI_app (l m:List Int):sumI (l ++m)=sumI l+sumI m:=by
  induction l with
  | nil=>simp [sumI]
  | cons x l ih=>rw [List.cons_append,sumI,sumI,ih];omega
theorem sumQ_cons (x:Rat) (l:List Rat):sumQ (x :: l)=x+sumQ l:=by
  have key:∀ (l:List Rat) (a:Rat),l.foldl (·+·) a=a+l.foldl (·+·) 0:=fun l=>by
    induction l with
    | nil=>intro a;simp [Rat.add_zero]
    | cons y l ih =>
      intro a
      rw [List.foldl_cons,List.foldl_cons,ih (a+y),ih (0+y)]
      generalize List.foldl (·+·) (0:Rat) l=s
      grind
  unfold sumQ
  rw [List.foldl_cons,key l (0+x),Rat.zero_add]
def leftI (t:Int) (q:List Rat):Int:=t - sumI (q.map (fl t))
def bump (o l:List Int):List Int:=l.foldl (fun o i=>o.set i.toNat (o.getD i.toNat default+1)) o
def rndOk (t:Int) (l:List DFrac):Prop:=(0≤t∧t≤1099511627776)∧isSh l
instance (t : Int) (l : List DFrac) : Decidable (rndOk t l) := by unfold rndOk; infer_instance
def rndQ (t:Int) (q:List Rat):List Int:=bump (q.map (fl t)) ((ord (q.map (re t))).take (leftI t q).toNat)
def rndL (t:Int) (l:List DFrac):List Int:=if rndOk t l then rndQ t (l.map qv) else []
theorem rndL_y {t:Int} {l:List DFrac} (h:rndOk t l):rndL t l=rndQ t (l.map qv):=if_pos h
theorem rndL_n {t:Int} {l:List DFrac} (h:¬ rndOk t l):rndL t l=[]:=if_neg h
theorem fl_le (t:Int) (r:Rat):((fl t r:Int):Rat)≤r * t:=Rat.floor_le _
theorem lt_fl (t:Int) (r:Rat):r * t < (fl t r:Rat)+1:=by
  have:=Rat.lt_floor_add_one (r * (t:Rat))
  rw [Rat.intCast_add] at this;exact this
theorem re_is (t:Int) (r:Rat):re t r=r * t - (fl t r:Rat):=rfl
theorem fl_rng {t:Int} {r:Rat} (h0:0≤t) (h1:0≤r) (h2:r≤1):0≤fl t r∧fl t r≤t:=by
  have ht:(0:Rat)≤(t:Rat):=Rat.intCast_nonneg.2 h0
  constructor
  · have:(0:Rat)≤r * t:=Rat.mul_nonneg h1 ht
    unfold fl;exact Rat.le_floor_iff.2 (by simpa using this)
  · have h3:r * t≤1 * (t:Rat):=Rat.mul_le_mul_of_nonneg_right h2 ht
    rw [Rat.one_mul] at h3
    have h4:=Rat.le_trans (fl_le t r) h3
    exact Rat.intCast_le_intCast.1 h4
theorem mem_le_sumQ {x:Rat}:∀ {l:List Rat},(∀ y ∈ l,0≤y)→x ∈ l→x≤sumQ l∧0≤sumQ l
  | y :: l,h,hx=>by
    rw [sumQ_cons]
    have hy:=h y List.mem_cons_self
    have hl:∀ z ∈ l,0≤z:=fun z hz=>h z (List.mem_cons_of_mem _ hz)
    rcases List.mem_cons.1 hx with rfl | hx
    · have hs:0≤sumQ l:=by
        cases l with
        | nil=>exact (Rat.le_refl:(0:Rat)≤0)
        | cons z l=>exact (mem_le_sumQ (x:=z) hl List.mem_cons_self).2
      constructor <;> grind
    · have:=mem_le_sumQ hl hx
      constructor <;> grind
theorem isSh.one {l:List DFrac} (h:isSh l) {x:DFrac} (hx:x ∈ l):0≤qv x∧qv x≤1:=by
  refine ⟨h.2.1 x hx,?_⟩
  rw [←h.2.2]
  exact (mem_le_sumQ (l:=l.map qv) (fun y hy=>by obtain ⟨z,hz,rfl⟩:=List.mem_map.1 hy;exact h.2.1 z hz) (List.mem_map_of_mem hx)).1
theorem sum_fl (t:Int):∀ q:List Rat,(sumI (q.map (fl t)):Rat)≤sumQ q * t∧sumQ q * t≤(sumI (q.map (fl t)):Rat)+(q.length:Rat)∧(sumI (q.map (fl t)):Rat)+sumQ (q.map (re t))=sumQ q * t
  | []=>by
    have e:sumQ []=0:=rfl
    have e2:sumI []=0:=rfl
    simp only [List.map_nil,e,e2,List.length_nil,Rat.zero_mul]
    exact ⟨by decide,by simp [Rat.add_zero],by simp [Rat.add_zero]⟩
  | x :: q=>by
    obtain ⟨h1,h2,h3⟩:=sum_fl t q
    have a1:=fl_le t x;have a2:=lt_fl t x
    have e:=re_is t x
    simp only [List.map_cons,sumQ_cons,sumI,List.length_cons,Rat.intCast_add,Rat.natCast_add]
    generalize (sumI (q.map (fl t)):Rat)=S at *
    generalize sumQ (q.map (re t))=R at *
    generalize re t x=y at *
    generalize (fl t x:Rat)=f at *
    generalize (q.length:Rat)=n at *
    have d:(x+sumQ q) * (t:Rat)=x * t+sumQ q * t:=Rat.add_mul _ _ _
    rw [d]
    generalize x * (t:Rat)=xt at *
    generalize sumQ q * (t:Rat)=qt at *
    refine ⟨by grind,?_,by grind⟩
    have e1:((1:Nat):Rat)=1:=rfl
    rw [e1];grind
theorem left_rng {t:Int} {q:List Rat} (hs:sumQ q=1):0≤leftI t q∧leftI t q≤q.length∧((leftI t q:Int):Rat)=sumQ (q.map (re t)):=by
  obtain ⟨h1,h2,h3⟩:=sum_fl t q
  rw [hs,Rat.one_mul] at h1 h2 h3
  unfold leftI
  refine ⟨?_,?_,?_⟩
  · have:=Rat.intCast_le_intCast.1 h1;omega
  · rw [←Rat.intCast_natCast,← Rat.intCast_add] at h2
    have:=Rat.intCast_le_intCast.1 h2;omega
  · rw [Rat.intCast_sub];generalize (sumI (q.map (fl t)):Rat)=S at *;generalize sumQ (q.map (re t))=R at *;grind
structure RI (t:Int) (l:List DFrac) (out:List Int) (rests:List DFrac) (order:List Int) (left:Int) (k:Nat):Prop where
  ol:out.length=l.length
  rl:rests.length=l.length
  o:out.take k=(l.take k).map fun x=>fl t (qv x)
  r:∀ x ∈ rests.take k,rt x∧ln 2000000 x
  rq:(rests.take k).map qv=(l.take k).map fun x=>re t (qv x)
  od:order=iota k
  lf:left=t - sumI ((l.take k).map fun x=>fl t (qv x))
  lr:t - k * 1099511627776≤left∧left≤t
theorem take_set {α:Type} {l:List α} {k:Nat} {v:α} (h:k < l.length):(l.set k v).take (k+1)=l.take k ++[v]:=by
  rw [List.take_add_one,List.take_set_of_le (Nat.le_refl _),List.getElem?_set_self h];rfl
theorem RI.step {t left v:Int} {l rests:List DFrac} {out order:List Int} {k:Nat} {x y:DFrac} (h:RI t l out rests order left k) (hk:k < l.length) (hx:x=l.getD k default) (hv:v=fl t (qv x)) (hy:rt y) (hy2:ln 2000000 y) (hy3:qv y=re t (qv x)) (hr:0≤v∧v≤1099511627776) :
    RI t l (out.set k v) (rests.set k y) (order ++[(k:Int)]) (left - v) (k+1):=by
  have e:=take_step (l:=l) hk
  rw [←hx] at e
  have h1:=h.ol;have h2:=h.rl
  refine ⟨by rw [List.length_set];exact h1,by rw [List.length_set];exact h2,?_,?_,?_,?_,?_,?_⟩
  · rw [take_set (by omega),e,List.map_append,h.o,hv];rfl
  · rw [take_set (by omega)]
    intro z hz
    rcases List.mem_append.1 hz with hz | hz
    · exact h.r z hz
    · rw [List.mem_singleton.1 hz];exact ⟨hy,hy2⟩
  · rw [take_set (by omega),e,List.map_append,List.map_append,h.rq,List.map_singleton,hy3];rfl
  · rw [h.od,iota_succ]
  · rw [e,List.map_append,sumI_app,h.lf,hv]
    simp only [List.map_cons,List.map_nil,sumI];omega
  · have:=h.lr
    rw [show ((k+1:Nat):Int)=k+1 by omega];omega
theorem RI.start (t:Int) (l:List DFrac) (ht:0≤t∧t≤1099511627776):RI t l (List.replicate l.length 0) (List.replicate l.length default) [] t 0 :=
  ⟨by simp,by simp,by simp,by simp,by simp,rfl,by simp [sumI],by omega⟩
structure RE (t:Int) (l:List DFrac) (out:List Int) (rests:List DFrac) (order:List Int) (left:Int):Prop where
  o:out=(l.map qv).map (fl t)
  r:∀ x ∈ rests,rt x∧ln 2000000 x
  rq:rests.map qv=(l.map qv).map (re t)
  od:order=iota (rests.map qv).length
  lf:left=leftI t (l.map qv)
theorem RI.end {t left:Int} {l rests:List DFrac} {out order:List Int} {k:Nat} (h:RI t l out rests order left k) (hk:k=l.length):RE t l out rests order left:=by
  subst hk
  have h1:=h.o;have h2:=h.r;have h3:=h.rq;have h4:=h.lf
  rw [List.take_of_length_le (by rw [h.ol];exact Nat.le_refl _),List.take_length] at h1
  rw [List.take_of_length_le (by rw [h.rl];exact Nat.le_refl _)] at h2 h3
  rw [List.take_length] at h3 h4
  refine ⟨by rw [h1,List.map_map];rfl,h2,by rw [h3,List.map_map];rfl,by rw [h.od,List.length_map,h.rl],by rw [h4];unfold leftI;rw [List.map_map];rfl⟩
theorem bump_snoc (o l:List Int) (i:Int):bump o (l ++[i])=(bump o l).set i.toNat ((bump o l).getD i.toNat default+1):=by unfold bump;rw [List.foldl_append];rfl
theorem bump_len (o:List Int):∀ l:List Int,(bump o l).length=o.length:=fun l=>by
  induction l generalizing o with
  | nil=>rfl
  | cons i l ih=>show (bump _ l).length=_;rw [ih,List.length_set]
theorem getD_set' {l:List Int} {i j:Nat} {x:Int} (h:i < l.length):(l.set i x).getD j default=if j=i then x else l.getD j default:=Bg.getD_set h
theorem bump_rng {o:List Int} {l:List Int} {b:Int} (h:∀ x ∈ o,0≤x∧x≤b) (hi:∀ i ∈ l,0≤i∧i < o.length):∀ x ∈ bump o l,0≤x∧x≤b+l.length:=by
  induction l generalizing o b with
  | nil=>simpa [bump] using h
  | cons i l ih =>
    intro x hx
    have hx:x ∈ bump (o.set i.toNat (o.getD i.toNat default+1)) l:=hx
    have:=ih (o:=o.set i.toNat (o.getD i.toNat default+1)) (b:=b+1) (fun y hy=>by
      rcases List.mem_or_eq_of_mem_set hy with hy | hy
      · have:=h y hy;omega
      · have hi':=hi i List.mem_cons_self
        have:=h _ (getD_mem (l:=o) (k:=i.toNat) (by omega) rfl)
        omega) (fun j hj=>by rw [List.length_set];exact hi j (List.mem_cons_of_mem _ hj)) x hx
    rw [List.length_cons];omega
theorem getD_qv {rs:List DFrac} {k:Nat} (h:k < rs.length):(rs.map qv).getD k 0=qv (rs.getD k default):=by
  rw [List.getD_eq_getElem?_getD,List.getD_eq_getElem?_getD,List.getElem?_map,List.getElem?_eq_getElem h];rfl
theorem cmpQ_neg {a b:Rat}:cmpQ a b < 0↔a < b:=by
  unfold cmpQ
  by_cases h:a < b
  · rw [if_pos h];exact ⟨fun _=>h,fun _=>by omega⟩
  · rw [if_neg h]
    refine ⟨fun k=>?_,fun k=>(h k).elim⟩
    split at k <;> omega
theorem cmp_ltR {rs:List DFrac} {d:List Int} {i j:Nat} (h:InsJ (rs.map qv) d i j) (hj:0 < j) (hi:i < rs.length) {va vb n:Int} (ha:va=d.getD j default) (hb:vb=d.getD (j - 1) default)
    (hn:n=cmpQ (qv (rs.getD vb.toNat default)) (qv (rs.getD va.toNat default))):n < 0↔ltR (rs.map qv) (d.getD j default) (d.getD (j - 1) default):=by
  obtain ⟨h1,h2,h3⟩:=insJ_at h hj
  rw [hn,cmpQ_neg,← ha,← hb]
  rw [←hb] at h2 h3;rw [←ha] at h1
  unfold ltR
  rw [getD_qv (by omega),getD_qv (by omega)]
  refine ⟨.inl,fun k=>?_⟩
  rcases k with k | ⟨_,k⟩
  · exact k
  · omega
theorem ins_stop {rs:List DFrac} {d:List Int} {i j:Nat} (h:InsJ (rs.map qv) d i j) (hi:i < rs.length) {va vb n:Int} (ha:va=d.getD j default) (hb:vb=d.getD (j - 1) default)
    (hn:n=cmpQ (qv (rs.getD vb.toNat default)) (qv (rs.getD va.toNat default))) (hs:j=0∨¬ n < 0):InsI (rs.map qv) d (i+1):=by
  refine ins_out h (by simpa using hi) ?_
  rcases Nat.eq_zero_or_pos j with e | e
  · exact .inl e
  · rcases hs with hs | hs
    · omega
    · exact .inr fun k=>hs ((cmp_ltR h e hi ha hb hn).2 k)
end Fr

namespace Fr
open Bg
def shEq (m:List Rat):Int:=if m=[] then 1 else if m.any (fun r=>decide (r < 0))=true then 3 else if sumQ m=0 then 15 else 0
def shQq (m:List Rat):List Rat:=if shEq m=0 then m.map (fun r=>r / sumQ m) else []
def rndOkq (t:Int) (m:List Rat):Prop:=(0≤t∧t≤1099511627776)∧(∀ r ∈ m,0≤r)∧sumQ m=1
instance (t : Int) (m : List Rat) : Decidable (rndOkq t m) := by unfold rndOkq; infer_instance
def rndLq (t:Int) (m:List Rat):List Int:=if rndOkq t m then rndQ t m else []
theorem Frs.cons {x:DFrac} {r:Rat} {l:List DFrac} {m:List Rat} (hx:rt x) (e:qv x=r) (h:Frs l m):Frs (x :: l) (r :: m) :=
  ⟨fun y hy=>by rcases List.mem_cons.1 hy with rfl | hy;exact hx;exact h.1 y hy,by rw [List.map_cons,e,h.2]⟩
theorem Frs.sum {l:List DFrac} {m:List Rat} (h:Frs l m):sumW l=sumQ m:=by unfold sumW;rw [h.2]
theorem Frs.nilI {l:List DFrac} {m:List Rat} (h:Frs l m):l=[]↔m=[]:=by
  rw [←List.length_eq_zero_iff,← List.length_eq_zero_iff,← h.2,List.length_map]
theorem Frs.len {l:List DFrac} {m:List Rat} (h:Frs l m):l.length=m.length:=by rw [←h.2,List.length_map]
theorem shE_q {l:List DFrac} {m:List Rat} (h:Frs l m):shE l=shEq m:=by
  have hw:l.any wrongB=false:=anyW.2 h.1
  have hn:l.any negB=m.any (fun r=>decide (r < 0)):=by
    rw [←h.2,List.any_map]
    have key:∀ l:List DFrac,(∀ x ∈ l,rt x)→l.any negB=l.any ((fun r=>decide (r < 0)) ∘ qv):=fun l=>by
      induction l with
      | nil=>intro _;rfl
      | cons x l ih =>
        intro hl
        rw [List.any_cons,List.any_cons,ih fun y hy=>hl y (List.mem_cons_of_mem _ hy),negB_is (hl x List.mem_cons_self)];rfl
    exact key l h.1
  unfold shE shEq
  rw [h.sum]
  by_cases e:l=[]
  · rw [if_pos (.inl e),if_pos (h.nilI.1 e)]
  · rw [if_neg (by rw [hw];simp [e]),if_neg fun k=>e (h.nilI.2 k),hn]
theorem shQ_q {l:List DFrac} {m:List Rat} (h:Frs l m):shQ l=shQq m:=by
  unfold shQ shQq
  rw [shE_q h,h.sum,← h.2,List.map_map];rfl
theorem rndOk_q {t:Int} {l:List DFrac} {m:List Rat} (h:Frs l m):rndOk t l↔rndOkq t m:=by
  unfold rndOk rndOkq isSh
  rw [h.sum]
  refine and_congr_right fun _=>⟨fun k=>⟨fun r hr=>?_,k.2.2⟩,fun k=>⟨h.1,fun x hx=>?_,k.2⟩⟩
  · rw [←h.2] at hr;obtain ⟨x,hx,rfl⟩:=List.mem_map.1 hr;exact k.2.1 x hx
  · exact k.1 _ (by rw [←h.2];exact List.mem_map_of_mem hx)
theorem rndL_q {t:Int} {l:List DFrac} {m:List Rat} (h:Frs l m):rndL t l=rndLq t m:=by
  unfold rndL rndLq
  rw [h.2]
  by_cases e:rndOk t l
  · rw [if_pos e,if_pos ((rndOk_q h).1 e)]
  · rw [if_neg e,if_neg fun k=>e ((rndOk_q h).2 k)]
def sh4 (x:DFrac):Int × List Int × Int × List Int:=(x.P.Sign,x.P.Digits.l,x.Q.Sign,x.Q.Digits.l)
theorem Frs.same {l m:List DFrac} {a:List Rat} (h:Frs l a) (k:Frs m a):l.map sh4=m.map sh4:=Frs.eq_of h k
theorem sh4_get {a b:List DFrac} {k:Nat} (h1:k < a.length) (h2:k < b.length) (h:a.map sh4=b.map sh4):sh4 (a.getD k default)=sh4 (b.getD k default):=by
  have:=congrArg (fun l=>l[k]?) h
  simp only [List.getElem?_map,List.getElem?_eq_getElem h1,List.getElem?_eq_getElem h2,Option.map_some,Option.some.injEq] at this
  rw [List.getD_eq_getElem?_getD,List.getD_eq_getElem?_getD,List.getElem?_eq_getElem h1,List.getElem?_eq_getElem h2];exact this
theorem sh4_eq {a b:List DFrac} (hl:a.length=b.length) (h:∀ k,k < a.length→sh4 (a.getD k default)=sh4 (b.getD k default)):a.map sh4=b.map sh4:=by
  refine List.ext_getElem? fun k=>?_
  rw [List.getElem?_map,List.getElem?_map]
  by_cases hk:k < a.length
  · have:=h k hk
    rw [List.getD_eq_getElem?_getD,List.getD_eq_getElem?_getD,List.getElem?_eq_getElem hk,List.getElem?_eq_getElem (by omega)] at this
    rw [List.getElem?_eq_getElem hk,List.getElem?_eq_getElem (by omega)];exact congrArg some this
  · rw [List.getElem?_eq_none (by omega),List.getElem?_eq_none (by omega)]
instance (l : List DFrac) : Decidable (∀ x ∈ l, ln 6 x) := by unfold ln; infer_instance
def few30 (l:List DFrac):Prop:=l.length≤20∧∀ x ∈ l,ln 6 x
instance (l : List DFrac) : Decidable (few30 l) := by unfold few30; infer_instance
theorem few30_wb {l:List DFrac} (h:few30 l):Wb l:=⟨by have:=h.1;omega,fun x hx=>by have:=h.2 x hx;unfold ln at this ⊢;omega⟩
theorem few30_no {l:List DFrac} {k:Nat} {x:DFrac} (hk:k < l.length) (hx:x=l.getD k default) (h:¬ ((x.P.Digits.l.length:Int)≤6∧(x.Q.Digits.l.length:Int)≤6)):¬ few30 l:=fun f=>by
  have:=f.2 x (getD_mem hk hx);unfold ln at this;omega
theorem few30_yes {l:List DFrac} (h:l.length≤20) (hs:∀ i,i < l.length→ln 6 (l.getD i default)):few30 l:=⟨h,fun x hx=>by
  obtain ⟨i,hi,rfl⟩:=List.getElem_of_mem hx
  have:=hs i hi
  rw [List.getD_eq_getElem?_getD,List.getElem?_eq_getElem hi] at this;exact this⟩
theorem shQ_hb {l:List DFrac} (h:few30 l) (he:shE l=0):∀ r ∈ shQ l,Hb r 147:=fun r hr=>by
  obtain ⟨_,hr1,_,_⟩:=shE_is he
  rw [shQ_y he] at hr
  obtain ⟨x,hx,rfl⟩:=List.mem_map.1 hr
  have h1:∀ r ∈ l.map qv,Hb r 6:=fun r hr'=>by
    obtain ⟨y,hy,rfl⟩:=List.mem_map.1 hr'
    exact (hr1 y hy).z.hb (h.2 y hy).1 (h.2 y hy).2
  have h2:=sumQ_hb h1
  have h3:Hb (sumW l) 141:=h2.mono (by rw [List.length_map];have:=h.1;have:=Nat.mul_le_mul_right (6+1) this;omega)
  exact (h1 _ (List.mem_map_of_mem hx)).div h3
theorem shQ_len {l:List DFrac} (he:shE l=0):(shQ l).length=l.length:=by rw [shQ_y he,List.length_map]
theorem cmpQ_zero {a b:Rat}:cmpQ a b=0↔a=b:=by
  unfold cmpQ
  by_cases h:a < b
  · rw [if_pos h];exact ⟨fun k=>by omega,fun k=>by subst k;exact (Rat.lt_irrefl h).elim⟩
  · rw [if_neg h]
    by_cases e:a=b
    · rw [if_pos e];exact ⟨fun _=>e,fun _=>rfl⟩
    · rw [if_neg e];exact ⟨fun k=>by omega,fun k=>(e k).elim⟩
instance (r : Rat) (k : Nat) : Decidable (Hb r k) := by unfold Hb; infer_instance
theorem Frs.wb {l:List DFrac} {m:List Rat} (h:Frs l m) (hl:m.length≤1000) (hb:∀ r ∈ m,Hb r 100):Wb l :=
  ⟨by rw [h.len];exact hl,fun x hx=>(h.1 x hx).z.len ((hb (qv x) (by rw [←h.2];exact List.mem_map_of_mem hx)).mono (by omega))⟩
theorem Frs.sm {a b:List DFrac} {m m':List Rat} (h:Frs a m) (k:Frs b m') (e:m=m'):a.map sh4=b.map sh4:=by subst e;exact h.same k
end Fr

open Go
namespace Rc
open Fr
def pi (p:Prop) [Decidable p] (n:Int):Int:=if p then n else 0
def pl (p:Prop) [Decidable p] (l:List Int):List Int:=if p then l else []
def spR (c:DSpan):Prop:=rt c.Low∧rt c.High∧cmpQ (qv c.Low) (qv c.High)≤0
instance (c : DSpan) : Decidable (spR c) := by unfold spR; infer_instance
def cpy (x y:DFrac):Prop:=y.P.Sign=pi (rt x) x.P.Sign∧y.P.Digits.l=pl (rt x) x.P.Digits.l∧y.Q.Sign=pi (rt x) x.Q.Sign∧y.Q.Digits.l=pl (rt x) x.Q.Digits.l
def pnt (x:DFrac) (c:DSpan):Prop:=cpy x c.Low∧cpy x c.High
def pts:List DFrac→List DSpan→Prop
  | [],[]=>True
  | x :: l,c :: m=>pnt x c∧pts l m
  | _,_=>False
theorem pts.len:∀ {l:List DFrac} {m:List DSpan},pts l m→m.length=l.length
  | [],[],_=>rfl
  | x :: l,c :: m,h=>by rw [List.length_cons,List.length_cons,h.2.len]
theorem pts.snoc {x:DFrac} {c:DSpan} (k:pnt x c):∀ (l:List DFrac) (m:List DSpan),pts l m→pts (l ++[x]) (m ++[c]):=fun l=>by
  induction l with
  | nil =>
    intro m h
    cases m with
    | nil=>exact ⟨k,trivial⟩
    | cons d m=>exact h.elim
  | cons y l ih =>
    intro m h
    cases m with
    | nil=>exact h.elim
    | cons d m=>exact ⟨h.1,ih m h.2⟩
theorem cpy.rt {x y:DFrac} (h:cpy x y):Fr.rt y↔Fr.rt x:=by
  obtain ⟨h1,h2,h3,h4⟩:=h
  by_cases e:Fr.rt x
  · unfold pi at h1 h3;unfold pl at h2 h4
    rw [if_pos e] at h1 h2 h3 h4
    unfold Fr.rt;rw [h1,h2,h3,h4]
  · refine iff_of_false (fun k=>?_) e
    unfold pi at h3
    rw [if_neg e] at h3
    have:=k.2.2.1
    rw [h3] at this;cases this
theorem cpy.qv {x y:DFrac} (h:cpy x y) (e:Fr.rt x):Fr.qv y=Fr.qv x:=by
  obtain ⟨h1,h2,h3,h4⟩:=h
  unfold pi at h1 h3;unfold pl at h2 h4
  rw [if_pos e] at h1 h2 h3 h4
  unfold Fr.qv;rw [h1,h2,h4]
def sam (x y:DFrac):Prop:=x.P.Sign=y.P.Sign∧x.P.Digits.l=y.P.Digits.l∧x.Q.Sign=y.Q.Sign∧x.Q.Digits.l=y.Q.Digits.l
theorem set_get {α:Type} [Inhabited α] {l:List α} {k:Int} {x:α} {m:List α} (hm:m=l.set k.toNat x) (h0:0≤k) (hk:k < l.length):m.length=l.length∧m.getD k.toNat default=x∧∀ j,j≠k.toNat→m.getD j default=l.getD j default:=by
  have hk':k.toNat < l.length:=by omega
  subst hm
  refine ⟨List.length_set ..,?_,fun j hj=>?_⟩
  · rw [List.getD_eq_getElem?_getD,List.getElem?_set_self hk'];rfl
  · rw [List.getD_eq_getElem?_getD,List.getElem?_set_ne (fun e=>hj e.symm),← List.getD_eq_getElem?_getD]
theorem low_get {cs:List DSpan} {j:Nat} (h:j < cs.length):(cs.map (·.Low)).getD j default=(cs.getD j default).Low:=by
  rw [List.getD_eq_getElem?_getD,List.getD_eq_getElem?_getD,List.getElem?_map,List.getElem?_eq_getElem h];rfl
theorem frs_of_get {l:List DFrac} {m:List Rat} (hl:l.length=m.length) (h:∀ j,j < l.length→Fr.rt (l.getD j default)∧Fr.qv (l.getD j default)=m.getD j 0):Frs l m:=by
  refine ⟨fun x hx=>?_,List.ext_getElem (by rw [List.length_map,hl]) fun j h1 h2=>?_⟩
  · obtain ⟨j,hj,rfl⟩:=List.getElem_of_mem hx
    have:=(h j hj).1
    rwa [List.getD_eq_getElem?_getD,List.getElem?_eq_getElem hj] at this
  · rw [List.length_map] at h1
    have:=(h j h1).2
    rw [List.getD_eq_getElem?_getD,List.getElem?_eq_getElem h1,List.getD_eq_getElem?_getD,List.getElem?_eq_getElem h2] at this
    rw [List.getElem_map];exact this
theorem low_map {cs:List DSpan} {f:DFrac→Rat} {j:Nat} (h:j < cs.length):((cs.map (·.Low)).map f).getD j 0=f (cs.getD j default).Low:=by
  rw [List.getD_eq_getElem?_getD,List.getD_eq_getElem?_getD,List.getElem?_map,List.getElem?_map,List.getElem?_eq_getElem h];rfl
theorem low_ne {cs:List DSpan} (h:0 < cs.length) (hR:∀ x ∈ cs.map (·.Low),Fr.rt x):¬ (cs.map (·.Low)=[]∨(cs.map (·.Low)).any wrongB=true):=by
  rintro (e | e)
  · have:=congrArg List.length e;simp at this;subst this;simp at h
  · rw [anyW.2 hR] at e;cases e
theorem low_any {cs:List DSpan} (h:∀ j,j < cs.length→negB (cs.getD j default).Low=false):¬ (cs.map (·.Low)).any negB=true:=by
  intro e
  obtain ⟨x,hx,he⟩:=List.any_eq_true.1 e
  obtain ⟨c,hc,rfl⟩:=List.mem_map.1 hx
  obtain ⟨j,hj,rfl⟩:=List.getElem_of_mem hc
  have:=h j hj
  rw [List.getD_eq_getElem?_getD,List.getElem?_eq_getElem hj] at this
  rw [show (some cs[j]).getD default=cs[j] from rfl] at this
  rw [this] at he;cases he
abbrev Pm:=List (ByteArray × Fat DFrac)
def row (f:Fat DFrac) (r:Rat):Prop:=∃ x,f.l=[x]∧Fr.rt x∧Fr.qv x=r
def at_ (m:Pm) (nm:ByteArray) (r:Rat):Prop:=∃ f,mlook nm m=some f∧row f r
def upd (m m0:Pm) (nm:ByteArray) (r:Rat):Prop:=at_ m nm r∧∀ k,k≠nm→mlook k m=mlook k m0
theorem upd_put {m m0:Pm} {nm:ByteArray} {f:Fat DFrac} {r:Rat} (hm:m=mupd nm f m0) (h:row f r):upd m m0 nm r:=by
  subst hm
  refine ⟨⟨f,by rw [mlook_upd,if_pos rfl],h⟩,fun k hk=>by rw [mlook_upd,if_neg hk]⟩
theorem set_one {l:List DFrac} (h:l.length=1) {k:Int} (hk:k.toNat=0) (x:DFrac):l.set k.toNat x=[x]:=by
  rw [hk]
  match l,h with
  | [y],_=>rfl
theorem row_one {l:List DFrac} (h:l.length=1) {k:Int} (hk:k.toNat=0) {n:Int} {a b:List Int} (hn:n=Bg.sgn (1:Int)) (ha:a=Bg.dig (1:Int).natAbs) (hb:b=Bg.dig 1) (s1 s2 s:SV):row ⟨l.set k.toNat (DFrac.mk ⟨n,a,s1⟩ ⟨1,b,s2⟩),s⟩ 1:=by
  subst hn ha hb
  exact ⟨_,set_one h hk _,FrB.of 1,fq_of 1⟩
theorem at_len {m:Pm} {nm:ByteArray} {r:Rat} (h:at_ m nm r):((mlook nm m).getD default).l.length=1:=by
  obtain ⟨f,h1,x,h2,_⟩:=h
  rw [h1,Option.getD_some,h2];rfl
theorem at_z {m:Pm} {nm:ByteArray} {r:Rat} (h:at_ m nm r):Fz (((mlook nm m).getD default).l.getD 0 default).P.Sign (((mlook nm m).getD default).l.getD 0 default).P.Digits.l (((mlook nm m).getD default).l.getD 0 default).Q.Sign (((mlook nm m).getD default).l.getD 0 default).Q.Digits.l r:=by
  obtain ⟨f,h1,x,h2,h3,h4⟩:=h
  rw [h1,Option.getD_some,h2]
  exact ⟨h3,h4⟩
theorem hb0:Hb 0 4:=⟨by decide,by decide⟩
theorem hb1:Hb 1 4:=⟨by decide,by decide⟩
theorem frs_one {l:List DFrac} {r:Rat} (h:l.length=1) (k:Fr.rt (l.getD 0 default)∧Fr.qv (l.getD 0 default)=r):Frs l [r]:=by
  match l,h with
  | [x],_=>exact ⟨fun y hy=>by rw [List.mem_singleton.1 hy];exact k.1,by rw [List.map_singleton];exact congrArg (fun z=>[z]) k.2⟩
def rws (l:List (Fat DFrac)) (V:List Rat):Prop:=l.length=V.length∧∀ j,j < l.length→row (l.getD j default) (V.getD j 0)
theorem row_len {f:Fat DFrac} {r:Rat} (h:row f r):f.l.length=1:=by
  obtain ⟨x,h,_⟩:=h;rw [h];rfl
theorem row_0 {f:Fat DFrac} {r:Rat} (h:row f r):Fr.rt (f.l.getD 0 default)∧Fr.qv (f.l.getD 0 default)=r:=by
  obtain ⟨x,h,h1,h2⟩:=h;rw [h];exact ⟨h1,h2⟩
theorem row_of {l:List DFrac} {s:SV} {r:Rat} (h:l.length=1) (k:Fr.rt (l.getD 0 default)∧Fr.qv (l.getD 0 default)=r):row ⟨l,s⟩ r:=by
  match l,h with
  | [x],_=>exact ⟨x,rfl,k.1,k.2⟩
theorem rws_set {l m:List (Fat DFrac)} {V:List Rat} {k:Int} {f:Fat DFrac} (h:rws l V) (hm:m=l.set k.toNat f) (hk:k.toNat < l.length) (hf:row f (V.getD k.toNat 0)):rws m V:=by
  subst hm
  refine ⟨by rw [List.length_set];exact h.1,fun j hj=>?_⟩
  rw [List.length_set] at hj
  by_cases e:j=k.toNat
  · rw [e,List.getD_eq_getElem?_getD,List.getElem?_set_self hk];exact hf
  · rw [List.getD_eq_getElem?_getD,List.getElem?_set_ne (fun q=>e q.symm),← List.getD_eq_getElem?_getD];exact h.2 j hj
theorem rat_mem {V:List Rat} {k:Nat} (h:k < V.length):V.getD k 0 ∈ V:=by
  rw [List.getD_eq_getElem?_getD,List.getElem?_eq_getElem h];exact List.getElem_mem h
def dg (c:UInt8) (i:Nat):ByteArray:=⟨#[c,UInt8.ofNat (48+i)]⟩
def all_:ByteArray:=⟨#[97,108,108]⟩
def pN (n:Nat):List ByteArray:=(List.range n).map (dg 112)
def PM (V:List Rat) (k:Int) (m:Pm):Prop:=(1≤k→at_ m all_ 1)∧(2≤k→∀ j,j < V.length→at_ m (dg 112 j) (V.getD j 0))
def srcs (k i:Int):List DSource:=if k=0 then [] else [⟨0,i,0⟩]
def outs (k:Int):List DOut:=(List.range (k - 2).toNat).map fun j=>⟨2,0,0,dg 108 j⟩
theorem dg_all (c:UInt8) (i:Nat):dg c i≠all_:=fun h=>by
  have:=congrArg ByteArray.size h
  simp [dg,all_,ByteArray.size] at this
theorem dg_inj {c:UInt8} {i j:Nat} (hi:i < 10) (hj:j < 10) (h:dg c i=dg c j):i=j:=by
  have h1:(#[c,UInt8.ofNat (48+i)]:Array UInt8)=#[c,UInt8.ofNat (48+j)]:=congrArg ByteArray.data h
  have h2:UInt8.ofNat (48+i)=UInt8.ofNat (48+j):=by simpa using h1
  have h3:=congrArg UInt8.toNat h2
  rw [UInt8.toNat_ofNat',UInt8.toNat_ofNat'] at h3
  omega
theorem upd_other {m m0:Pm} {nm k:ByteArray} {r s:Rat} (h:upd m m0 nm r) (e:k≠nm) (a:at_ m0 k s):at_ m k s:=by
  obtain ⟨f,h1,h2⟩:=a
  exact ⟨f,by rw [h.2 k e];exact h1,h2⟩
theorem PM_src {V:List Rat} {m m0:Pm} (h:upd m m0 all_ 1):PM V 1 m:=⟨fun _=>h.1,fun h2=>absurd h2 (by decide)⟩
theorem PM_next {V:List Rat} {k:Int} {m:Pm} (h:PM V k m) (hk:2≤k):PM V (k+1) m:=⟨fun _=>h.1 (by omega),fun _=>h.2 hk⟩
theorem outs_next {k:Int} (hk:2≤k):outs k ++[⟨2,0,0,dg 108 (k - 2).toNat⟩]=outs (k+1):=by
  unfold outs
  rw [show (k+1 - 2).toNat=(k - 2).toNat+1 by omega,List.range_succ,List.map_append];rfl
theorem rws_next {l:List (Fat DFrac)} {V:List Rat} {k:Int} {f:Fat DFrac} (h:rws l (V.take (k - 2).toNat)) (hk:2≤k) (hl:(k - 2).toNat < V.length) (hf:row f (V.getD (k - 2).toNat 0)):rws (l ++[f]) (V.take (k+1 - 2).toNat):=by
  have h1:=h.1
  rw [List.length_take] at h1
  rw [show (k+1 - 2).toNat=(k - 2).toNat+1 by omega]
  refine ⟨by rw [List.length_append,List.length_take];simp;omega,fun j hj=>?_⟩
  rw [List.length_append,List.length_singleton] at hj
  have ht:(V.take ((k - 2).toNat+1)).getD j 0=V.getD j 0:=by
    rw [List.getD_eq_getElem?_getD,List.getD_eq_getElem?_getD,List.getElem?_take_of_lt (by omega)]
  rw [ht]
  by_cases e:j < l.length
  · have:=h.2 j e
    rw [List.getD_eq_getElem?_getD,List.getElem?_append_left e,← List.getD_eq_getElem?_getD]
    rwa [show (V.take (k - 2).toNat).getD j 0=V.getD j 0 by rw [List.getD_eq_getElem?_getD,List.getD_eq_getElem?_getD,List.getElem?_take_of_lt (by omega)]] at this
  · have e2:j=l.length:=by omega
    subst e2
    rw [List.getD_eq_getElem?_getD,List.getElem?_append_right (Nat.le_refl _),Nat.sub_self]
    rw [show l.length=(k - 2).toNat by omega];exact hf
theorem at_row {m:Pm} {nm:ByteArray} {r:Rat} (h:at_ m nm r):row ((mlook nm m).getD default) r:=by
  obtain ⟨f,h1,h2⟩:=h
  rw [h1];exact h2
theorem pN_len (n:Nat):(pN n).length=n:=by simp [pN]
theorem pN_get {n j:Nat} (h:j < n):(pN n).getD j default=dg 112 j:=by
  unfold pN
  rw [List.getD_eq_getElem?_getD,List.getElem?_map,List.getElem?_range h];rfl
theorem row_frs (r:Rat) (σ:Nat→SV) (s:SV):row ⟨frs [r] σ,s⟩ r:=⟨_,rfl,rt_fmk r _ _,qv_fmk r _ _⟩
theorem frs_at {V:List Rat} {σ:Nat→SV} {j:Nat} (h:j < V.length):Fr.rt ((frs V σ).getD j default)∧Fr.qv ((frs V σ).getD j default)=V.getD j 0:=by
  have hl:j < (frs V σ).length:=by rw [frs_len];exact h
  have e:(frs V σ).getD j default=(frs V σ)[j]:=by rw [List.getD_eq_getElem?_getD,List.getElem?_eq_getElem hl];rfl
  rw [e]
  refine ⟨frs_rt _ (List.getElem_mem hl),?_⟩
  have h2:=congrArg (fun l=>l[j]?) (frs_qv V σ)
  simp only [List.getElem?_map,List.getElem?_eq_getElem hl,Option.map_some] at h2
  rw [List.getD_eq_getElem?_getD,← h2];rfl
structure Spl (inp:List DInput) (cells:List DCell) (st:List DStep) (n:Nat) (i0:Int):Prop where
  len:st.length=n+2
  s0:∀ x,x=st.getD 0 default→x.Kind=0∧x.Out.l=[all_]∧fidx (fun y:DInput=>decide (y.Name=x.Name)) inp=i0
  s1:∀ x,x=st.getD 1 default→x.Kind=3∧x.In.l=[all_]∧x.Out.l=pN n∧x.Cells.l.length=n∧∀ i,i < x.Cells.l.length→fidx (fun y:DCell=>decide (y.Name=x.Cells.l.getD i default)) cells=(i:Int)
  s2:∀ j,j < n→∀ x,x=st.getD (j+2) default→x.Kind=7∧x.In.l=[dg 112 j]∧x.Name=dg 108 j
def wrongS (c:DSpan):Bool:=!decide (spR c)
def flE (cs:List DSpan):Int:=if cs.any wrongS=true then 1 else shE (cs.map (·.Low))
def flA (cs:List DSpan):Int:=if cs.any wrongS=true then 0 else if shE (cs.map (·.Low))=0 then 0 else 1
theorem flE_1 {cs:List DSpan} (h:cs.any wrongS=true):flE cs=1:=if_pos h
theorem flA_1 {cs:List DSpan} (h:cs.any wrongS=true):flA cs=0:=if_pos h
theorem flE_2 {cs:List DSpan} (h:¬ cs.any wrongS=true):flE cs=shE (cs.map (·.Low)):=if_neg h
theorem flA_2 {cs:List DSpan} (h:¬ cs.any wrongS=true) (k:shE (cs.map (·.Low))≠0):flA cs=1:=(if_neg h).trans (if_neg k)
theorem flA_3 {cs:List DSpan} (h:¬ cs.any wrongS=true) (k:shE (cs.map (·.Low))=0):flA cs=0:=(if_neg h).trans (if_pos k)
theorem any_rt {cs:List DSpan} (h:¬ cs.any wrongS=true):∀ c ∈ cs,rt c.Low:=fun c hc=>by
  by_cases e:spR c
  · exact e.1
  · exact absurd (List.any_eq_true.2 ⟨c,hc,by unfold wrongS;rw [decide_eq_false e];rfl⟩) h
theorem shQ_le (l:List DFrac):(shQ l).length≤l.length:=by
  by_cases e:shE l=0
  · rw [shQ_y e,List.length_map];exact Nat.le_refl _
  · rw [shQ_n e];exact Nat.zero_le _
theorem rws_nil {V:List Rat}:rws [] (V.take 0):=⟨by simp,fun j hj=>absurd hj (Nat.not_lt_zero _)⟩
theorem PM_0 {V:List Rat}:PM V 0 []:=⟨fun h=>absurd h (by decide),fun h=>absurd h (by decide)⟩
end Rc

open Go Go.Proofs
set_option maxRecDepth 10000 in
theorem spp_ct (d:Int) (a:List Int) (f:SV) (e:Int) (c:List Int) (h:SV) (hfP:a.length≤17179869184) (hfQ:c.length≤17179869184) :
    Ct Tryz.prog 7 #[ag (DFrac.mk ⟨d,a,f⟩ ⟨e,c,h⟩)] [fs true a f,fs true c h] [] (fun g=>ag (DSpan.mk (DFrac.mk ⟨(Rc.pi (Fr.FrB d a e c) d),Rc.pl (Fr.FrB d a e c) a,(g.ss 0)⟩ ⟨(Rc.pi (Fr.FrB d a e c) e),Rc.pl (Fr.FrB d a e c) c,(g.ss 1)⟩) (DFrac.mk ⟨(Rc.pi (Fr.FrB d a e c) d),Rc.pl (Fr.FrB d a e c) a,(g.ss 2)⟩ ⟨(Rc.pi (Fr.FrB d a e c) e),Rc.pl (Fr.FrB d a e c) c,(g.ss 3)⟩))) (fun g=>[fs true (Rc.pl (Fr.FrB d a e c) a) (g.ss 0),fs true (Rc.pl (Fr.FrB d a e c) c) (g.ss 1),fs true (Rc.pl (Fr.FrB d a e c) a) (g.ss 2),fs true (Rc.pl (Fr.FrB d a e c) c) (g.ss 3)]) (fun g=>[]) (fun g=>[]):=by
  refine V.fo mo Tryz.func7 12 2 fun w H ε k0=>?_;clear k0
  refine V.gf [.n 0,.n 1] fun _ _ G1=>?_;intro S_ s_
  refine V.gf [.l 0,.cP 1 17 [kA 0 a f,kA 1 c h] fun G=>right_ct d a f e c h (by omega) (by omega),.u 1] fun _ _ G2=>?_;intro S_ s_
  refine V.cn (b:=!(decide (Fr.FrB d a e c))) (iNT iDF) (iNF iDT) (fun q1=>?_) (fun q2=>?_)
  · refine V.gf [.u 1,.s 1] fun _ _ G3=>?_;intro S_ s_
    refine V.nilF (α:=Int) ?_;refine V.nilF (α:=Int) ?_;refine V.nilF (α:=Int) ?_;refine V.nilF (α:=Int) ?_;have e1:([]:List Int)=Rc.pl (Fr.FrB d a e c) a:=by
      have hqq:=q1
      first | exact (if_neg hqq).symm | exact (if_pos hqq).symm | exact (if_pos (Decidable.not_not.1 hqq)).symm
    rw [←e1];have e3:([]:List Int)=Rc.pl (Fr.FrB d a e c) c:=by
      have hqq:=q1
      first | exact (if_neg hqq).symm | exact (if_pos hqq).symm | exact (if_pos (Decidable.not_not.1 hqq)).symm
    rw [←e3];have e5:([]:List Int)=Rc.pl (Fr.FrB d a e c) a:=by
      have hqq:=q1
      first | exact (if_neg hqq).symm | exact (if_pos hqq).symm | exact (if_pos (Decidable.not_not.1 hqq)).symm
    have e7:([]:List Int)=Rc.pl (Fr.FrB d a e c) c:=by
      have hqq:=q1
      first | exact (if_neg hqq).symm | exact (if_pos hqq).symm | exact (if_pos (Decidable.not_not.1 hqq)).symm
    have e0:(0:Int)=Rc.pi (Fr.FrB d a e c) d:=by
      have hqq:=q1
      first | exact (if_neg hqq).symm | exact (if_pos hqq).symm | exact (if_pos (Decidable.not_not.1 hqq)).symm
    have e2:(0:Int)=Rc.pi (Fr.FrB d a e c) e:=by
      have hqq:=q1
      first | exact (if_neg hqq).symm | exact (if_pos hqq).symm | exact (if_pos (Decidable.not_not.1 hqq)).symm
    have e4:(0:Int)=Rc.pi (Fr.FrB d a e c) d:=by
      have hqq:=q1
      first | exact (if_neg hqq).symm | exact (if_pos hqq).symm | exact (if_pos (Decidable.not_not.1 hqq)).symm
    have e6:(0:Int)=Rc.pi (Fr.FrB d a e c) e:=by
      have hqq:=q1
      first | exact (if_neg hqq).symm | exact (if_pos hqq).symm | exact (if_pos (Decidable.not_not.1 hqq)).symm
    exact V.rT [1] [] [] [] [2,3,4,5] [] (cong4 (fun (xz0 xz2 xz4 xz6:Int)=>(.agg #[iv xz0,SV.v ({}),iv xz2,SV.v ({}),iv xz4,SV.v ({}),iv xz6,SV.v ({})]:Value)) e0 e2 e4 e6)
  refine V.gf [.l 0,.cA 1 18 [kA 0 a f,kA 1 c h] fun G=>spf_ct d a f e c h (by omega) (by omega),.l 0,.cA 3 18 [kA 0 a f,kA 1 c h] fun G=>spf_ct d a f e c h (by omega) (by omega),.u 1,.s 1] fun _ _ G4=>?_;intro S_ s_
  have e1:a=Rc.pl (Fr.FrB d a e c) a:=by
    have hqq:=q2
    first | exact (if_neg hqq).symm | exact (if_pos hqq).symm | exact (if_pos (Decidable.not_not.1 hqq)).symm
  rw [←e1];have e3:c=Rc.pl (Fr.FrB d a e c) c:=by
    have hqq:=q2
    first | exact (if_neg hqq).symm | exact (if_pos hqq).symm | exact (if_pos (Decidable.not_not.1 hqq)).symm
  rw [←e3];have e5:a=Rc.pl (Fr.FrB d a e c) a:=by
    have hqq:=q2
    first | exact (if_neg hqq).symm | exact (if_pos hqq).symm | exact (if_pos (Decidable.not_not.1 hqq)).symm
  have e7:c=Rc.pl (Fr.FrB d a e c) c:=by
    have hqq:=q2
    first | exact (if_neg hqq).symm | exact (if_pos hqq).symm | exact (if_pos (Decidable.not_not.1 hqq)).symm
  have e0:d=Rc.pi (Fr.FrB d a e c) d:=by
    have hqq:=q2
    first | exact (if_neg hqq).symm | exact (if_pos hqq).symm | exact (if_pos (Decidable.not_not.1 hqq)).symm
  have e2:e=Rc.pi (Fr.FrB d a e c) e:=by
    have hqq:=q2
    first | exact (if_neg hqq).symm | exact (if_pos hqq).symm | exact (if_pos (Decidable.not_not.1 hqq)).symm
  have e4:d=Rc.pi (Fr.FrB d a e c) d:=by
    have hqq:=q2
    first | exact (if_neg hqq).symm | exact (if_pos hqq).symm | exact (if_pos (Decidable.not_not.1 hqq)).symm
  have e6:e=Rc.pi (Fr.FrB d a e c) e:=by
    have hqq:=q2
    first | exact (if_neg hqq).symm | exact (if_pos hqq).symm | exact (if_pos (Decidable.not_not.1 hqq)).symm
  exact V.rT [1] [(G4 1).ss 0,(G4 1).ss 1,(G4 3).ss 0,(G4 3).ss 1] [] [] [2,3,4,5] [] (cong4 (fun (xz0 xz2 xz4 xz6:Int)=>(.agg #[iv xz0,((G4 1).ss 0).v,iv xz2,((G4 1).ss 1).v,iv xz4,((G4 3).ss 0).v,iv xz6,((G4 3).ss 1).v]:Value)) e0 e2 e4 e6)
set_option maxRecDepth 10000 in
theorem spr_ct (f:Int) (a:List Int) (j:SV) (h:Int) (c:List Int) (k:SV) (g:Int) (d:List Int) (m:SV) (i:Int) (e:List Int) (o:SV) (hsLowP:a.length≤17179869184) (hsLowQ:c.length≤17179869184) (hsHighP:d.length≤17179869184) (hsHighQ:e.length≤17179869184) :
    Cp Tryz.prog 21 #[ag (DSpan.mk (DFrac.mk ⟨f,a,j⟩ ⟨h,c,k⟩) (DFrac.mk ⟨g,d,m⟩ ⟨i,e,o⟩))] [fs true a j,fs true c k,fs true d m,fs true e o] (bv (decide (Fr.FrB f a h c∧Fr.FrB g d i e∧Fr.cmpQ (Fr.fq f a c) (Fr.fq g d e)≤0))):=by
  refine V.fo mo Tryz.func21 19 1 fun w H ε k0=>?_;clear k0
  refine V.gf [.n 0,.kb false] fun _ _ G1=>?_;intro S s
  refine nm ((decide (Fr.FrB f a h c)) && (decide (Fr.FrB g d i e)):Bool) fun p1 hp1=>?_;refine nm (p1 && (decide ((if Fr.FrB f a h c∧Fr.FrB g d i e then Fr.cmpQ (Fr.fq f a c) (Fr.fq g d e) else 0)≤0)):Bool) fun p2 hp2=>?_;refine V.gf [.u 1,.l 0,.cP 2 17 [kA 0 a j,kA 1 c k] fun G=>right_ct f a j h c k (by omega) (by omega),.u 2,.l 0,.cp (gT (b:=decide (Fr.FrB f a h c)) iDT) 6 17 [kA 2 d m,kA 3 e o] (fun hg G=>right_ct g d m i e o (by omega) (by omega)),.andn g0 false (decide (Fr.FrB f a h c)) (decide (Fr.FrB g d i e)) p1 hp1,.u 2,.l 0,.u 1,.l 0,.cp (gT (b:=p1) (iN hp1 (iAT iDT iDT))) 13 43 [kA 0 a j,kA 1 c k,kA 2 d m,kA 3 e o] (fun hg G=>fcmp_ct f a j h c k g d m i e o (by omega) (by omega) (by omega) (by omega)),.u 1,.andn g0 false p1 (decide ((if Fr.FrB f a h c∧Fr.FrB g d i e then Fr.cmpQ (Fr.fq f a c) (Fr.fq g d e) else 0)≤0)) p2 hp2,.u 1] fun _ _ G2=>?_;intro S s
  have e0:p2=decide (Fr.FrB f a h c∧Fr.FrB g d i e∧Fr.cmpQ (Fr.fq f a c) (Fr.fq g d e)≤0):=by
    refine Bool.eq_iff_iff.2 (Iff.trans (iN hp2 (iAT (iN hp1 (iAT iDT iDT)) iDT)) (Iff.trans ?_ decide_eq_true_iff.symm))
    subst_vars;grind
  exact V.rT [0] [] [] [] [] [] (cong1 (fun (xz0:Bool)=>(bv xz0:Value)) e0)
set_option maxRecDepth 10000 in
theorem fw1_ct (e:Int) (a:List Int) (i:SV) (g:Int) (b:List Int) (j:SV) (f:Int) (c:List Int) (k:SV) (h:Int) (d:List Int) (m:SV) (hxLowP:a.length≤17179869184) (hxLowQ:b.length≤17179869184) (hxHighP:c.length≤17179869184) (hxHighQ:d.length≤17179869184) :
    Cp Tryz.prog 20 #[ag (DSpan.mk (DFrac.mk ⟨e,a,i⟩ ⟨g,b,j⟩) (DFrac.mk ⟨f,c,k⟩ ⟨h,d,m⟩))] [fs true a i,fs true b j,fs true c k,fs true d m] (bv (!decide (Fr.FrB e a g b∧Fr.FrB f c h d∧Fr.cmpQ (Fr.fq e a b) (Fr.fq f c d)≤0))):=by
  refine V.fo mo Tryz.func20 6 1 fun w H ε k0=>?_;clear k0
  refine V.gf [.n 0,.kb false] fun _ _ G1=>?_;intro S s
  refine V.gf [.l 0,.cP 1 21 [kA 0 a i,kA 1 b j,kA 2 c k,kA 3 d m] fun G=>spr_ct e a i g b j f c k h d m (by omega) (by omega) (by omega) (by omega),.u 2] fun _ _ G2=>?_;intro S s
  have e0:(!(decide (Fr.FrB e a g b∧Fr.FrB f c h d∧Fr.cmpQ (Fr.fq e a b) (Fr.fq f c d)≤0)))=!decide (Fr.FrB e a g b∧Fr.FrB f c h d∧Fr.cmpQ (Fr.fq e a b) (Fr.fq f c d)≤0):=by subst_vars;rfl
  exact V.rT [0] [] [] [] [] [] (cong1 (fun (xz0:Bool)=>(bv xz0:Value)) e0)
set_option maxRecDepth 10000 in
theorem fwri_ct (s:List DSpan) (ss:SV) (hS:∀ x ∈ s,Fr.ln 17179869184 x.Low∧Fr.ln 17179869184 x.High) :
    Cp Tryz.prog 61 #[ss.v,.func (.func 20) #[] #[]] [fs true s ss] (iv (fidx (fun y:DSpan=>!decide (Rc.spR y)) s)):=by
  refine V.fo mo Tryz.func61 19 0 fun w H ε k0=>?_;obtain ⟨⟨kl1, -⟩, -⟩:Lq s ss.v∧True:=kq k0
  clear k0;refine V.gf [.u 1] fun _ _ G1=>?_;intro S_ s_
  refine V.gf [.u 1,.ln (kF 0 s ss),.u 1] fun _ _ G2=>?_;intro S_ s_
  refine V.lp (γ:=Int) (fun k0=>⟨[(0,ss.v),(1,.func (.func 20) #[] #[]),(7,iv (s.length:Int)),(8,iv k0)],[fs false s ss],[]⟩) (fun k0=>(0≤k0)∧(k0≤(s.length:Int))∧(∀ j,j < k0.toNat→(fun y:DSpan=>!decide (Rc.spR y)) (s.getD j default)=false)) (fun k0=>((s.length:Int)-k0).toNat) 0 [0] ?_ ?_
  · refine ⟨?_,?_,?_⟩
    · show 0≤(0:Int)
      first | omega | rfl | (simp;done) | (subst_vars;simp;done)
    · show (0:Int)≤(s.length:Int)
      first | omega | rfl | (simp;done) | (subst_vars;simp;done)
    show ∀ j,j < (0:Int).toNat→(fun y:DSpan=>!decide (Rc.spR y)) (s.getD j default)=false;intro j hj;simp at hj
  rintro k0 hF1 kw3 Z1 hZ1;have hF1:(0≤k0)∧(k0≤(s.length:Int))∧(∀ j,j < k0.toNat→(fun y:DSpan=>!decide (Rc.spR y)) (s.getD j default)=false):=hF1;obtain ⟨hf1,hf2,hf3⟩:=hF1;clear kw3;refine V.gf [.u 1] fun _ _ G3=>?_;intro S_ s_;refine V.cn (b:=decide (k0 < (s.length:Int))) iDT iDF (fun q1=>?_) (fun q2=>?_)
  · refine V.gf [.u 2] fun _ _ G4=>?_;intro S_ s_
    refine nm (s.getD k0.toNat default:DSpan) fun x1 hx1=>?_;refine V.gf [.u 3,.iX (kF 0 s ss) k0,.lE (kF 0 s ss) k0 true x1 hx1 true,.cP 5 20 [(kx false (.g 4 0) x1 x1.Low.P.Digits.l (fun _=>x1.Low.P.Digits.s) (fun _ H (h:Dat.good H (x1:DSpan))=>h.1.1)).a,(kx false (.g 4 0) x1 x1.Low.Q.Digits.l (fun _=>x1.Low.Q.Digits.s) (fun _ H (h:Dat.good H (x1:DSpan))=>h.1.2)).a,(kx false (.g 4 0) x1 x1.High.P.Digits.l (fun _=>x1.High.P.Digits.s) (fun _ H (h:Dat.good H (x1:DSpan))=>h.2.1)).a,(kx false (.g 4 0) x1 x1.High.Q.Digits.l (fun _=>x1.High.Q.Digits.s) (fun _ H (h:Dat.good H (x1:DSpan))=>h.2.2)).a] fun G=>fw1_ct x1.Low.P.Sign x1.Low.P.Digits.l x1.Low.P.Digits.s x1.Low.Q.Sign x1.Low.Q.Digits.l x1.Low.Q.Digits.s x1.High.P.Sign x1.High.P.Digits.l x1.High.P.Digits.s x1.High.Q.Sign x1.High.Q.Digits.l x1.High.Q.Digits.s (hS _ (getD_mem (by omega) hx1)).1.1 (hS _ (getD_mem (by omega) hx1)).1.2 (hS _ (getD_mem (by omega) hx1)).2.1 (hS _ (getD_mem (by omega) hx1)).2.2] fun _ _ G5=>?_;intro S_ s_
    refine V.cn (b:=!decide (Fr.FrB x1.Low.P.Sign x1.Low.P.Digits.l x1.Low.Q.Sign x1.Low.Q.Digits.l∧Fr.FrB x1.High.P.Sign x1.High.P.Digits.l x1.High.Q.Sign x1.High.Q.Digits.l∧Fr.cmpQ (Fr.fq x1.Low.P.Sign x1.Low.P.Digits.l x1.Low.Q.Digits.l) (Fr.fq x1.High.P.Sign x1.High.P.Digits.l x1.High.Q.Digits.l)≤0)) Iff.rfl Iff.rfl (fun q3=>?_) (fun q4=>?_)
    · refine V.gf [.u 2] fun _ _ G6=>?_;intro S_ s_
      have e0:k0=fidx (fun y:DSpan=>!decide (Rc.spR y)) s:=by rw [fidx_at (p:=(fun y:DSpan=>!decide (Rc.spR y))) (k:=k0) (by omega) (by omega) hx1 hf3 (by have hqq:=q3;show (!decide (Rc.spR x1))=_;first | (rw [decide_eq_false (show ¬ Rc.spR x1 from of_decide_eq_false ((Bool.not_eq_true' _).mp hqq))];rfl) | (rw [decide_eq_true (show Rc.spR x1 from of_decide_eq_true ((Bool.not_eq_false' _).mp hqq))];rfl))]
      exact V.rT [0] [] [] [] [] [] (cong1 (fun (xz0:Int)=>(iv xz0:Value)) e0)
    refine V.gf [.aa (k0+1),.u 1] fun _ _ G7=>?_;intro S_ s_
    refine V.rn hZ1 (k0+1) [0] ?_ ?_
    · refine ⟨?_,?_,?_⟩
      · show 0≤(k0+1)
        first | omega | rfl | (simp;done) | (subst_vars;simp;done)
      · show (k0+1)≤(s.length:Int)
        first | omega | rfl | (simp;done) | (subst_vars;simp;done)
      show ∀ j,j < (k0+1).toNat→(fun y:DSpan=>!decide (Rc.spR y)) (s.getD j default)=false;exact fidx_step (p:=(fun y:DSpan=>!decide (Rc.spR y))) hf3 (by omega) hx1 (by have hqq:=q4;show (!decide (Rc.spR x1))=_;first | (rw [decide_eq_false (show ¬ Rc.spR x1 from of_decide_eq_false ((Bool.not_eq_true' _).mp hqq))];rfl) | (rw [decide_eq_true (show Rc.spR x1 from of_decide_eq_true ((Bool.not_eq_false' _).mp hqq))];rfl))
    show ((s.length:Int)-(k0+1)).toNat < ((s.length:Int)-k0).toNat;omega
  refine V.gf [.u 1] fun _ _ G8=>?_;intro S_ s_
  have e0:(-1:Int)=fidx (fun y:DSpan=>!decide (Rc.spR y)) s:=(fidx_no fun j hj=>hf3 j (by omega)).symm;exact V.rT [0] [] [] [] [] [] (cong1 (fun (xz0:Int)=>(iv xz0:Value)) e0)
theorem fwri_ctv (s:List DSpan) (ss:SV) (hS:∀ x ∈ s,Fr.ln 17179869184 x.Low∧Fr.ln 17179869184 x.High) (rv0:Int) (erv0:rv0=fidx (fun y:DSpan=>!decide (Rc.spR y)) s) :
    Cp Tryz.prog 61 #[ss.v,.func (.func 20) #[] #[]] [fs true s ss] (iv rv0):=by
  subst erv0;exact fwri_ct s ss hS
set_option maxRecDepth 10000 in
theorem fwrk_ct (s:List DSpan) (ss:SV) (hS:∀ x ∈ s,Fr.ln 17179869184 x.Low∧Fr.ln 17179869184 x.High) :
    Cp Tryz.prog 23 #[ss.v,.func (.func 20) #[] #[]] [fs true s ss] (bv (s.any (fun y:DSpan=>!decide (Rc.spR y)))):=by
  refine V.fo mo Tryz.func23 9 0 fun w H ε k0=>?_;clear k0
  refine V.g [.kb false] fun _ _ G1=>?_;intro S_ s_
  refine nm (fidx (fun y:DSpan=>!decide (Rc.spR y)) s:Int) fun n1 hn1=>?_;refine V.gf [.u 2,.cP 2 61 [kA 0 s ss] fun G=>fwri_ctv s ss (by assumption) n1 hn1,.u 2] fun _ _ G2=>?_;intro S_ s_
  have e0:(decide (0≤n1))=s.any (fun y:DSpan=>!decide (Rc.spR y)):=by
    refine Bool.eq_iff_iff.2 (Iff.trans iDT (Iff.trans ?_ Iff.rfl));have hfi:=hn1;rw [hfi];exact fidx_nn
  exact V.rT [0] [] [] [] [] [] (cong1 (fun (xz0:Bool)=>(bv xz0:Value)) e0)

open Go Go.Proofs
set_option maxRecDepth 10000 in
theorem wwc_ct (a c:ByteArray) (b:DExpr) (cnb:Nat) (cn:ByteArray) :
    Ct Tryz.prog 63 #[ag (DCell.mk a c b),pp cnb 0] [fs true b.Args.l b.Args.s] [.blk cnb #[tv cn] 9] (fun g=>bv (decide (a=cn))) (fun g=>[]) (fun g=>[.blk cnb #[tv cn] 9]) (fun g=>[]):=by
  refine V.fo mo Tryz.func63 8 1 fun w H ε k0=>?_;clear k0
  refine V.gf [.n 1,.kb false] fun _ _ G1=>?_;intro S_ s_
  refine V.gf [.u 1,.l 1,.l 0,.seq a cn,.u 1] fun _ _ G2=>?_;intro S_ s_
  exact V.rS [0] [] [] [] [] [0]
set_option maxRecDepth 10000 in
theorem wcii_ct (s:List DCell) (ss:SV) (cnb:Nat) (cn:ByteArray) :
    Ct Tryz.prog 62 #[ss.v,.func (.func 63) #[] #[pp cnb 0]] [fs true s ss] [.blk cnb #[tv cn] 9] (fun g=>iv (fidx (fun y:DCell=>decide (y.Name=cn)) s)) (fun g=>[]) (fun g=>[.blk cnb #[tv cn] 9]) (fun g=>[]):=by
  refine V.fo mo Tryz.func62 19 0 fun w H ε k0=>?_;obtain ⟨⟨kl1, -⟩, -⟩:Lq s ss.v∧True:=kq k0
  clear k0;refine V.gf [.u 1] fun _ _ G1=>?_;intro S_ s_
  refine V.gf [.u 1,.ln (kF 0 s ss),.u 1] fun _ _ G2=>?_;intro S_ s_
  refine V.lp (γ:=Int) (fun k0=>⟨[(0,ss.v),(1,.func (.func 63) #[] #[pp cnb 0]),(7,iv (s.length:Int)),(8,iv k0)],[fs false s ss],[.blk cnb #[tv cn] 9]⟩) (fun k0=>(0≤k0)∧(k0≤(s.length:Int))∧(∀ j,j < k0.toNat→(fun y:DCell=>decide (y.Name=cn)) (s.getD j default)=false)) (fun k0=>((s.length:Int)-k0).toNat) 0 [0] ?_ ?_
  · refine ⟨?_,?_,?_⟩
    · show 0≤(0:Int)
      first | omega | rfl | (simp;done) | (subst_vars;simp;done)
    · show (0:Int)≤(s.length:Int)
      first | omega | rfl | (simp;done) | (subst_vars;simp;done)
    show ∀ j,j < (0:Int).toNat→(fun y:DCell=>decide (y.Name=cn)) (s.getD j default)=false;intro j hj;simp at hj
  rintro k0 hF1 kw3 Z1 hZ1;have hF1:(0≤k0)∧(k0≤(s.length:Int))∧(∀ j,j < k0.toNat→(fun y:DCell=>decide (y.Name=cn)) (s.getD j default)=false):=hF1;obtain ⟨hf1,hf2,hf3⟩:=hF1;clear kw3;refine V.gf [.u 1] fun _ _ G3=>?_;intro S_ s_;refine V.cn (b:=decide (k0 < (s.length:Int))) iDT iDF (fun q1=>?_) (fun q2=>?_)
  · refine V.gf [.u 2] fun _ _ G4=>?_;intro S_ s_
    refine nm (s.getD k0.toNat default:DCell) fun x1 hx1=>?_;refine V.gf [.u 3,.iX (kF 0 s ss) k0,.lE (kF 0 s ss) k0 true x1 hx1 true,.cB 5 63 false [0] [] [(kx false (.g 4 0) x1 x1.Def.Args.l (fun _=>x1.Def.Args.s) (fun _ H (h:Dat.good H (x1:DCell))=>(exG.1 h))).a] fun G=>wwc_ct x1.Name x1.Unit x1.Def cnb cn] fun _ _ G5=>?_;intro S_ s_
    refine V.cn (b:=decide (x1.Name=cn)) iDT iDF (fun q3=>?_) (fun q4=>?_)
    · refine V.gf [.u 2] fun _ _ G6=>?_;intro S_ s_
      have e0:k0=fidx (fun y:DCell=>decide (y.Name=cn)) s:=by rw [fidx_at (p:=(fun y:DCell=>decide (y.Name=cn))) (k:=k0) (by omega) (by omega) hx1 hf3 (by have hqq:=q3;simpa using hqq)]
      exact V.rT [0] [] [] [] [] [0] (cong1 (fun (xz0:Int)=>(iv xz0:Value)) e0)
    refine V.gf [.aa (k0+1),.u 1] fun _ _ G7=>?_;intro S_ s_
    refine V.rn hZ1 (k0+1) [0] ?_ ?_
    · refine ⟨?_,?_,?_⟩
      · show 0≤(k0+1)
        first | omega | rfl | (simp;done) | (subst_vars;simp;done)
      · show (k0+1)≤(s.length:Int)
        first | omega | rfl | (simp;done) | (subst_vars;simp;done)
      show ∀ j,j < (k0+1).toNat→(fun y:DCell=>decide (y.Name=cn)) (s.getD j default)=false;exact fidx_step (p:=(fun y:DCell=>decide (y.Name=cn))) hf3 (by omega) hx1 (by have hqq:=q4;simpa using hqq)
    show ((s.length:Int)-(k0+1)).toNat < ((s.length:Int)-k0).toNat;omega
  refine V.gf [.u 1] fun _ _ G8=>?_;intro S_ s_
  have e0:(-1:Int)=fidx (fun y:DCell=>decide (y.Name=cn)) s:=(fidx_no fun j hj=>hf3 j (by omega)).symm;exact V.rT [0] [] [] [] [] [0] (cong1 (fun (xz0:Int)=>(iv xz0:Value)) e0)
theorem wcii_ctv (s:List DCell) (ss:SV) (cnb:Nat) (cn:ByteArray) (rv0:Int) (erv0:rv0=fidx (fun y:DCell=>decide (y.Name=cn)) s) :
    Ct Tryz.prog 62 #[ss.v,.func (.func 63) #[] #[pp cnb 0]] [fs true s ss] [.blk cnb #[tv cn] 9] (fun g=>iv rv0) (fun g=>[]) (fun g=>[.blk cnb #[tv cn] 9]) (fun g=>[]):=by
  subst erv0;exact wcii_ct s ss cnb cn 

open Go Go.Proofs
set_option maxRecDepth 10000 in
theorem wrong_ct (c:Int) (a:List Int) (e:SV) (d:Int) (b:List Int) (f:SV) (hfP:a.length≤17179869184) (hfQ:b.length≤17179869184) :
    Cp Tryz.prog 28 #[ag (DFrac.mk ⟨c,a,e⟩ ⟨d,b,f⟩)] [fs true a e,fs true b f] (bv (!decide (Fr.FrB c a d b))):=by
  refine V.fo mo Tryz.func28 6 1 fun w H ε k0=>?_;clear k0
  refine V.gf [.n 0,.kb false] fun _ _ G1=>?_;intro S s
  refine V.gf [.l 0,.cP 1 17 [kA 0 a e,kA 1 b f] fun G=>right_ct c a e d b f (by omega) (by omega),.u 2] fun _ _ G2=>?_;intro S s
  have e0:(!(decide (Fr.FrB c a d b)))=!decide (Fr.FrB c a d b):=by rfl
  exact V.rT [0] [] [] [] [] [] (cong1 (fun (xz0:Bool)=>(bv xz0:Value)) e0)
set_option maxRecDepth 10000 in
theorem negative_ct (a:Int) (b:List Int) (e:SV) (d:Int) (c:List Int) (f:SV) (hfP:b.length≤17179869184) (hfQ:c.length≤17179869184) :
    Cp Tryz.prog 29 #[ag (DFrac.mk ⟨a,b,e⟩ ⟨d,c,f⟩)] [fs true b e,fs true c f] (bv (decide ((if Fr.FrB a b d c then a else 0) < 0))):=by
  refine V.fo mo Tryz.func29 6 1 fun w H ε k0=>?_;clear k0
  refine V.gf [.n 0,.kb false] fun _ _ G1=>?_;intro S s
  refine nm (if Fr.FrB a b d c then a else 0:Int) fun n1 hn1=>?_;refine V.gf [.l 0,.cP 1 31 [kA 0 b e,kA 1 c f] fun G=>fsign_ctv a b e d c f (by omega) (by omega) n1 hn1,.u 2] fun _ _ G2=>?_;intro S s
  have e0:(decide (n1 < 0))=decide ((if Fr.FrB a b d c then a else 0) < 0):=by subst_vars;rfl
  exact V.rT [0] [] [] [] [] [] (cong1 (fun (xz0:Bool)=>(bv xz0:Value)) e0)
set_option maxRecDepth 10000 in
theorem idxw_ct (s:List DFrac) (ss:SV) (hL:∀ x ∈ s,Fr.ln 17179869184 x) :
    Cp Tryz.prog 73 #[ss.v,.func (.func 28) #[] #[]] [fs true s ss] (iv (Fr.idxF Fr.wrongB s)):=by
  refine V.fo mo Tryz.func73 19 0 fun w H ε k0=>?_;obtain ⟨⟨kl1, -⟩, -⟩:Lq s ss.v∧True:=kq k0
  clear k0;refine V.gf [.u 1] fun _ _ G1=>?_;intro S_ s_
  refine V.gf [.u 1,.ln (kF 0 s ss),.u 1] fun _ _ G2=>?_;intro S_ s_
  refine V.lp (γ:=Int) (fun k0=>⟨[(0,ss.v),(1,.func (.func 28) #[] #[]),(7,iv (s.length:Int)),(8,iv k0)],[fs false s ss],[]⟩) (fun k0=>(0≤k0)∧(k0≤(s.length:Int))∧(∀ i,i < k0.toNat→Fr.wrongB (s.getD i default)=false)) (fun k0=>((s.length:Int)-k0).toNat) 0 [0] ?_ ?_
  · refine ⟨?_,?_,?_⟩
    · show 0≤(0:Int)
      first | omega | rfl | (simp;done) | (subst_vars;simp;done)
    · show (0:Int)≤(s.length:Int)
      first | omega | rfl | (simp;done) | (subst_vars;simp;done)
    show ∀ i,i < (0:Int).toNat→Fr.wrongB (s.getD i default)=false;intro i hi;simp at hi
  rintro k0 hF1 kw3 Z1 hZ1;have hF1:(0≤k0)∧(k0≤(s.length:Int))∧(∀ i,i < k0.toNat→Fr.wrongB (s.getD i default)=false):=hF1;obtain ⟨hf1,hf2,hf3⟩:=hF1;clear kw3;refine V.gf [.u 1] fun _ _ G3=>?_;intro S_ s_;refine V.cn (b:=decide (k0 < (s.length:Int))) iDT iDF (fun q1=>?_) (fun q2=>?_)
  · refine V.gf [.u 2] fun _ _ G4=>?_;intro S_ s_
    refine nm (s.getD k0.toNat default:DFrac) fun x1 hx1=>?_;have hxl:=hL _ (getD_mem (by omega) hx1)
    have hxl1:=hxl.1;have hxl2:=hxl.2;refine V.gf [.u 3,.iX (kF 0 s ss) k0,.lE (kF 0 s ss) k0 true x1 hx1 true,.cP 5 28 [(kx false (.g 4 0) x1 x1.P.Digits.l (fun _=>x1.P.Digits.s) (fun _ H (h:Dat.good H (x1:DFrac))=>h.1)).a,(kx false (.g 4 0) x1 x1.Q.Digits.l (fun _=>x1.Q.Digits.s) (fun _ H (h:Dat.good H (x1:DFrac))=>h.2)).a] fun G=>wrong_ct x1.P.Sign x1.P.Digits.l x1.P.Digits.s x1.Q.Sign x1.Q.Digits.l x1.Q.Digits.s (by omega) (by omega)] fun _ _ G5=>?_;intro S_ s_
    refine V.cn (b:=!decide (Fr.FrB x1.P.Sign x1.P.Digits.l x1.Q.Sign x1.Q.Digits.l)) Iff.rfl Iff.rfl (fun q3=>?_) (fun q4=>?_)
    · refine V.gf [.u 2] fun _ _ G6=>?_;intro S_ s_
      have e0:k0=Fr.idxF Fr.wrongB s:=by
        have hk:=Fr.idxF_at (p:=Fr.wrongB) (l:=s) (k:=k0.toNat) (x:=x1) (by omega) hf3 hx1 (Fr.wrong_t (by have hqq:=q3;simpa using hqq));omega
      exact V.rT [0] [] [] [] [] [] (cong1 (fun (xz0:Int)=>(iv xz0:Value)) e0)
    refine V.gf [.aa (k0+1),.u 1] fun _ _ G7=>?_;intro S_ s_
    refine V.rn hZ1 (k0+1) [0] ?_ ?_
    · refine ⟨?_,?_,?_⟩
      · show 0≤(k0+1)
        first | omega | rfl | (simp;done) | (subst_vars;simp;done)
      · show (k0+1)≤(s.length:Int)
        first | omega | rfl | (simp;done) | (subst_vars;simp;done)
      show ∀ i,i < (k0+1).toNat→Fr.wrongB (s.getD i default)=false;intro i hi;by_cases e:i < k0.toNat
      · exact hf3 i e
      rw [show i=k0.toNat by omega,← hx1];exact Fr.wrong_f (by have hqq:=q4;simpa using hqq)
    show ((s.length:Int)-(k0+1)).toNat < ((s.length:Int)-k0).toNat;omega
  refine V.gf [.u 1] fun _ _ G8=>?_;intro S_ s_
  have e0:(-1:Int)=Fr.idxF Fr.wrongB s:=(Fr.idxF_no fun i hi=>hf3 i (by omega)).symm;exact V.rT [0] [] [] [] [] [] (cong1 (fun (xz0:Int)=>(iv xz0:Value)) e0)
theorem idxw_ctv (s:List DFrac) (ss:SV) (hL:∀ x ∈ s,Fr.ln 17179869184 x) (rv0:Int) (erv0:rv0=Fr.idxF Fr.wrongB s) :
    Cp Tryz.prog 73 #[ss.v,.func (.func 28) #[] #[]] [fs true s ss] (iv rv0):=by
  subst erv0;exact idxw_ct s ss hL
set_option maxRecDepth 10000 in
theorem idxn_ct (s:List DFrac) (ss:SV) (hL:∀ x ∈ s,Fr.ln 17179869184 x) :
    Cp Tryz.prog 73 #[ss.v,.func (.func 29) #[] #[]] [fs true s ss] (iv (Fr.idxF Fr.negB s)):=by
  refine V.fo mo Tryz.func73 19 0 fun w H ε k0=>?_;obtain ⟨⟨kl1, -⟩, -⟩:Lq s ss.v∧True:=kq k0
  clear k0;refine V.gf [.u 1] fun _ _ G1=>?_;intro S_ s_
  refine V.gf [.u 1,.ln (kF 0 s ss),.u 1] fun _ _ G2=>?_;intro S_ s_
  refine V.lp (γ:=Int) (fun k0=>⟨[(0,ss.v),(1,.func (.func 29) #[] #[]),(7,iv (s.length:Int)),(8,iv k0)],[fs false s ss],[]⟩) (fun k0=>(0≤k0)∧(k0≤(s.length:Int))∧(∀ i,i < k0.toNat→Fr.negB (s.getD i default)=false)) (fun k0=>((s.length:Int)-k0).toNat) 0 [0] ?_ ?_
  · refine ⟨?_,?_,?_⟩
    · show 0≤(0:Int)
      first | omega | rfl | (simp;done) | (subst_vars;simp;done)
    · show (0:Int)≤(s.length:Int)
      first | omega | rfl | (simp;done) | (subst_vars;simp;done)
    show ∀ i,i < (0:Int).toNat→Fr.negB (s.getD i default)=false;intro i hi;simp at hi
  rintro k0 hF1 kw3 Z1 hZ1;have hF1:(0≤k0)∧(k0≤(s.length:Int))∧(∀ i,i < k0.toNat→Fr.negB (s.getD i default)=false):=hF1;obtain ⟨hf1,hf2,hf3⟩:=hF1;clear kw3;refine V.gf [.u 1] fun _ _ G3=>?_;intro S_ s_;refine V.cn (b:=decide (k0 < (s.length:Int))) iDT iDF (fun q1=>?_) (fun q2=>?_)
  · refine V.gf [.u 2] fun _ _ G4=>?_;intro S_ s_
    refine nm (s.getD k0.toNat default:DFrac) fun x1 hx1=>?_;have hxl:=hL _ (getD_mem (by omega) hx1)
    have hxl1:=hxl.1;have hxl2:=hxl.2;refine V.gf [.u 3,.iX (kF 0 s ss) k0,.lE (kF 0 s ss) k0 true x1 hx1 true,.cP 5 29 [(kx false (.g 4 0) x1 x1.P.Digits.l (fun _=>x1.P.Digits.s) (fun _ H (h:Dat.good H (x1:DFrac))=>h.1)).a,(kx false (.g 4 0) x1 x1.Q.Digits.l (fun _=>x1.Q.Digits.s) (fun _ H (h:Dat.good H (x1:DFrac))=>h.2)).a] fun G=>negative_ct x1.P.Sign x1.P.Digits.l x1.P.Digits.s x1.Q.Sign x1.Q.Digits.l x1.Q.Digits.s (by omega) (by omega)] fun _ _ G5=>?_;intro S_ s_
    refine V.cn (b:=decide ((if Fr.FrB x1.P.Sign x1.P.Digits.l x1.Q.Sign x1.Q.Digits.l then x1.P.Sign else 0) < 0)) iDT iDF (fun q3=>?_) (fun q4=>?_)
    · refine V.gf [.u 2] fun _ _ G6=>?_;intro S_ s_
      have e0:k0=Fr.idxF Fr.negB s:=by
        have hk:=Fr.idxF_at (p:=Fr.negB) (l:=s) (k:=k0.toNat) (x:=x1) (by omega) hf3 hx1 (by have hqq:=q3;unfold Fr.negB;exact decide_eq_true hqq);omega
      exact V.rT [0] [] [] [] [] [] (cong1 (fun (xz0:Int)=>(iv xz0:Value)) e0)
    refine V.gf [.aa (k0+1),.u 1] fun _ _ G7=>?_;intro S_ s_
    refine V.rn hZ1 (k0+1) [0] ?_ ?_
    · refine ⟨?_,?_,?_⟩
      · show 0≤(k0+1)
        first | omega | rfl | (simp;done) | (subst_vars;simp;done)
      · show (k0+1)≤(s.length:Int)
        first | omega | rfl | (simp;done) | (subst_vars;simp;done)
      show ∀ i,i < (k0+1).toNat→Fr.negB (s.getD i default)=false;intro i hi;by_cases e:i < k0.toNat
      · exact hf3 i e
      rw [show i=k0.toNat by omega,← hx1];exact by have hqq:=q4;unfold Fr.negB;exact decide_eq_false hqq
    show ((s.length:Int)-(k0+1)).toNat < ((s.length:Int)-k0).toNat;omega
  refine V.gf [.u 1] fun _ _ G8=>?_;intro S_ s_
  have e0:(-1:Int)=Fr.idxF Fr.negB s:=(Fr.idxF_no fun i hi=>hf3 i (by omega)).symm;exact V.rT [0] [] [] [] [] [] (cong1 (fun (xz0:Int)=>(iv xz0:Value)) e0)
theorem idxn_ctv (s:List DFrac) (ss:SV) (hL:∀ x ∈ s,Fr.ln 17179869184 x) (rv0:Int) (erv0:rv0=Fr.idxF Fr.negB s) :
    Cp Tryz.prog 73 #[ss.v,.func (.func 29) #[] #[]] [fs true s ss] (iv rv0):=by
  subst erv0;exact idxn_ct s ss hL
set_option maxRecDepth 10000 in
theorem conw_ct (s:List DFrac) (ss:SV) (hL:∀ x ∈ s,Fr.ln 17179869184 x) :
    Cp Tryz.prog 27 #[ss.v,.func (.func 28) #[] #[]] [fs true s ss] (bv (s.any Fr.wrongB)):=by
  refine V.fo mo Tryz.func27 9 0 fun w H ε k0=>?_;clear k0
  refine V.g [.kb false] fun _ _ G1=>?_;intro S_ s_
  refine nm (Fr.idxF Fr.wrongB s:Int) fun n1 hn1=>?_;refine V.gf [.u 2,.cP 2 73 [kA 0 s ss] fun G=>idxw_ctv s ss (by first | assumption | exact Fr.Wb.lf (by assumption)) n1 hn1,.u 2] fun _ _ G2=>?_;intro S_ s_
  have e0:(decide (0≤n1))=s.any Fr.wrongB:=by
    refine Bool.eq_iff_iff.2 (decide_eq_true_iff.trans ?_)
    subst_vars
    exact Fr.idxF_any _ _
  exact V.rT [0] [] [] [] [] [] (cong1 (fun (xz0:Bool)=>(bv xz0:Value)) e0)
set_option maxRecDepth 10000 in
theorem conn_ct (s:List DFrac) (ss:SV) (hL:∀ x ∈ s,Fr.ln 17179869184 x) :
    Cp Tryz.prog 27 #[ss.v,.func (.func 29) #[] #[]] [fs true s ss] (bv (s.any Fr.negB)):=by
  refine V.fo mo Tryz.func27 9 0 fun w H ε k0=>?_;clear k0
  refine V.g [.kb false] fun _ _ G1=>?_;intro S_ s_
  refine nm (Fr.idxF Fr.negB s:Int) fun n1 hn1=>?_;refine V.gf [.u 2,.cP 2 73 [kA 0 s ss] fun G=>idxn_ctv s ss (by first | assumption | exact Fr.Wb.lf (by assumption)) n1 hn1,.u 2] fun _ _ G2=>?_;intro S_ s_
  have e0:(decide (0≤n1))=s.any Fr.negB:=by
    refine Bool.eq_iff_iff.2 (decide_eq_true_iff.trans ?_)
    subst_vars
    exact Fr.idxF_any _ _
  exact V.rT [0] [] [] [] [] [] (cong1 (fun (xz0:Bool)=>(bv xz0:Value)) e0)
set_option maxRecDepth 10000 in
theorem sum_ct (l:List DFrac) (ls:SV) (hW:Fr.Wb l) (hR:∀ x ∈ l,Fr.rt x) :
    Ct Tryz.prog 30 #[ls.v] [fs true l ls] [] (fun g=>ag (DFrac.mk ⟨(Bg.sgn (Fr.sumW l).num),Bg.dig (Fr.sumW l).num.natAbs,(g.ss 0)⟩ ⟨1,Bg.dig (Fr.sumW l).den,(g.ss 1)⟩)) (fun g=>[fs true (Bg.dig (Fr.sumW l).num.natAbs) (g.ss 0),fs true (Bg.dig (Fr.sumW l).den) (g.ss 1)]) (fun g=>[]) (fun g=>[]):=by
  refine V.fo mo Tryz.func30 21 3 fun w H ε k0=>?_;obtain ⟨⟨kl1, -⟩, -⟩:Lq l ls.v∧True:=kq k0
  clear k0;refine V.gf [.n 0] fun _ _ G1=>?_;intro S_ s_
  refine nm (Bg.sgn (0:Int):Int) fun n1 hn1=>?_;refine nm (Bg.dig (0:Int).natAbs:List Int) fun l1 hl1=>?_;refine nm (Bg.dig 1:List Int) fun l2 hl2=>?_;refine V.gf [.cA 0 37 [] fun G=>fint_ctv (0:Int) (by omega) n1 hn1 l1 hl1 l2 hl2,.n 1,.s 1] fun _ _ G2=>?_;intro S_ s_
  refine V.gf [.u 1,.ln (kF 0 l ls),.u 1] fun _ _ G3=>?_;intro S_ s_
  refine V.lp (γ:=Int × Int × List Int × SV × Int × List Int × SV) (fun ⟨k0,out_0,out_1,out_1s,out_2,out_3,out_3s⟩=>⟨[(2,pp ((G1 0).b) 0),(3,pp ((G2 1).b) 0),(7,ls.v),(8,iv (l.length:Int)),(9,iv k0)],[fs false l ls,fs true out_1 out_1s,fs true out_3 out_3s],[.blk ((G1 0).b) (ca (DFrac.mk ⟨0,[],{}⟩ ⟨0,[],{}⟩)) 52,.blk ((G2 1).b) (ca (DFrac.mk ⟨out_0,out_1,out_1s⟩ ⟨out_2,out_3,out_3s⟩)) 52,.no]⟩) (fun ⟨k0,out_0,out_1,out_1s,out_2,out_3,out_3s⟩=>(0≤k0)∧(k0≤(l.length:Int))∧(Fr.Fz out_0 out_1 out_2 out_3 (Fr.sumQ ((l.take k0.toNat).map Fr.qv)))) (fun ⟨k0,out_0,out_1,out_1s,out_2,out_3,out_3s⟩=>((l.length:Int)-k0).toNat) (0,n1,l1,(G2 0).ss 0,1,l2,(G2 0).ss 1) [0,1,2] ?_ ?_
  · refine ⟨?_,?_,?_⟩
    · show 0≤(0:Int)
      first | omega | rfl | (simp;done) | (subst_vars;simp;done)
    · show (0:Int)≤(l.length:Int)
      first | omega | rfl | (simp;done) | (subst_vars;simp;done)
    show Fr.Fz n1 l1 (1:Int) l2 (Fr.sumQ ((l.take (0:Int).toNat).map Fr.qv))
    subst_vars;exact Fr.sum0 l
  rintro ⟨k0,out_0,out_1,out_1s,out_2,out_3,out_3s⟩ hF1 kw4 Z1 hZ1;have hF1:(0≤k0)∧(k0≤(l.length:Int))∧(Fr.Fz out_0 out_1 out_2 out_3 (Fr.sumQ ((l.take k0.toNat).map Fr.qv))):=hF1;obtain ⟨hf1,hf2,hf3⟩:=hF1;have hFl:=hf3.len (hW.hb hR k0.toNat);refine V.gf [.u 1] fun _ _ G4=>?_;intro S_ s_;refine V.cn (b:=decide (k0 < (l.length:Int))) iDT iDF (fun q1=>?_) (fun q2=>?_)
  · refine nm (l.getD k0.toNat default:DFrac) fun x1 hx1=>?_;refine V.gf [.iX (kF 0 l ls) k0,.lE (kF 0 l ls) k0 true x1 hx1 true,.n 2,.s 2] fun _ _ G5=>?_;intro S_ s_
    refine nm (Fr.rS (Fr.FrB out_0 out_1 out_2 out_3∧Fr.FrB x1.P.Sign x1.P.Digits.l x1.Q.Sign x1.Q.Digits.l) ((Fr.fq out_0 out_1 out_3)+(Fr.fq x1.P.Sign x1.P.Digits.l x1.Q.Digits.l)):Int) fun n2 hn2=>?_;refine nm (Fr.rD (Fr.FrB out_0 out_1 out_2 out_3∧Fr.FrB x1.P.Sign x1.P.Digits.l x1.Q.Sign x1.Q.Digits.l) ((Fr.fq out_0 out_1 out_3)+(Fr.fq x1.P.Sign x1.P.Digits.l x1.Q.Digits.l)):List Int) fun l3 hl3=>?_;refine nm (Fr.rT (Fr.FrB out_0 out_1 out_2 out_3∧Fr.FrB x1.P.Sign x1.P.Digits.l x1.Q.Sign x1.Q.Digits.l):Int) fun n3 hn3=>?_;refine nm (Fr.rE (Fr.FrB out_0 out_1 out_2 out_3∧Fr.FrB x1.P.Sign x1.P.Digits.l x1.Q.Sign x1.Q.Digits.l) ((Fr.fq out_0 out_1 out_3)+(Fr.fq x1.P.Sign x1.P.Digits.l x1.Q.Digits.l)):List Int) fun l4 hl4=>?_;refine nm (if ¬ (Fr.FrB out_0 out_1 out_2 out_3∧Fr.FrB x1.P.Sign x1.P.Digits.l x1.Q.Sign x1.Q.Digits.l) then (1:Int) else 0:Int) fun n4 hn4=>?_;have hxm:=getD_mem (l:=l) (k:=k0.toNat) (by omega) hx1
    have hxr:=hR _ hxm;have hxl:=hW.2 _ hxm;have hxl1:=hxl.1;have hxl2:=hxl.2;have zs:=Fr.Fz.of ⟨hf3.rt,hxr⟩ hn2 hl3 hn3 hl4;refine V.gf [.l 1,.l 2,.cA 2 64 [kB 1 out_1 out_1s,kB 2 out_3 out_3s,(kx false (.f 3) x1 x1.P.Digits.l (fun _=>x1.P.Digits.s) (fun _ H (h:Dat.good H (x1:DFrac))=>h.1)).a,(kx false (.f 3) x1 x1.Q.Digits.l (fun _=>x1.Q.Digits.s) (fun _ H (h:Dat.good H (x1:DFrac))=>h.2)).a] fun G=>fadd_ctv out_0 out_1 out_1s out_2 out_3 out_3s x1.P.Sign x1.P.Digits.l x1.P.Digits.s x1.Q.Sign x1.Q.Digits.l x1.Q.Digits.s (by omega) (by omega) (by omega) (by omega) n2 hn2 l3 hl3 n3 hn3 l4 hl4 n4 hn4,.u 3,.s 1] fun _ _ G6=>?_;intro S_ s_
    refine V.gf [.aa (k0+1),.u 1] fun _ _ G7=>?_;intro S_ s_
    refine V.rn hZ1 (k0+1,n2,l3,(G6 2).ss 0,n3,l4,(G6 2).ss 1) [0,4,5] ?_ ?_
    · refine ⟨?_,?_,?_⟩
      · show 0≤(k0+1)
        first | omega | rfl | (simp;done) | (subst_vars;simp;done)
      · show (k0+1)≤(l.length:Int)
        first | omega | rfl | (simp;done) | (subst_vars;simp;done)
      show Fr.Fz n2 l3 n3 l4 (Fr.sumQ ((l.take (k0+1).toNat).map Fr.qv));have hz:=zs;rw [hf3.v] at hz;rw [show (k0+1).toNat=k0.toNat+1 by omega,Fr.sumQ_step (by omega) hx1];exact hz
    show ((l.length:Int)-(k0+1)).toNat < ((l.length:Int)-k0).toNat;omega
  have hs:=hf3;rw [show k0.toNat=l.length by omega,List.take_length] at hs;refine V.gf [.l 1,.s 0] fun _ _ G8=>?_;intro S_ s_
  have e1:out_1=Bg.dig (Fr.sumW l).num.natAbs:=hs.eqs.2.1;subst e1;have e3:out_3=Bg.dig (Fr.sumW l).den:=hs.eqs.2.2.2;subst e3;have e0:out_0=Bg.sgn (Fr.sumW l).num:=hs.eqs.1;have e2:out_2=1:=hs.eqs.2.2.1;exact V.rT [0] [out_1s,out_3s] [] [] [1,2] [] (cong2 (fun (xz0 xz2:Int)=>(.agg #[iv xz0,out_1s.v,iv xz2,out_3s.v]:Value)) e0 e2)
theorem sum_ctv (l:List DFrac) (ls:SV) (hW:Fr.Wb l) (hR:∀ x ∈ l,Fr.rt x) (rv0:Int) (erv0:rv0=Bg.sgn (Fr.sumW l).num) (rv1:List Int) (erv1:rv1=Bg.dig (Fr.sumW l).num.natAbs) (rv3:List Int) (erv3:rv3=Bg.dig (Fr.sumW l).den) :
    Ct Tryz.prog 30 #[ls.v] [fs true l ls] [] (fun g=>ag (DFrac.mk ⟨rv0,rv1,(g.ss 0)⟩ ⟨1,rv3,(g.ss 1)⟩)) (fun g=>[fs true rv1 (g.ss 0),fs true rv3 (g.ss 1)]) (fun g=>[]) (fun g=>[]):=by
  subst erv0 erv1 erv3;exact sum_ct l ls hW hR
set_option maxRecDepth 10000 in
theorem shares_ct (weights:List DFrac) (weightss:SV) (hW:Fr.Wb weights) :
    Ct Tryz.prog 10 #[weightss.v] [fs true weights weightss] [] (fun g=>.tuple #[((g.ss 0)).v,iv (Fr.shE weights)]) (fun g=>[fs true (Fr.frs (Fr.shQ weights) (g.sl 0)) (g.ss 0)]) (fun g=>[]) (fun g=>[]):=by
  refine V.fo mo Tryz.func10 44 4 fun w H ε k0=>?_;clear k0
  refine V.gf [.u 2] fun _ _ G1=>?_;intro S_ s_
  refine nm ((decide ((weights.length:Int)=0)) || (weights.any Fr.wrongB):Bool) fun p1 hp1=>?_;refine V.gf [.u 1,.ln (kF 0 weights weightss),.u 3,.cp (gF (b:=decide ((weights.length:Int)=0)) iDF) 5 27 [kA 0 weights weightss] (fun hg G=>conw_ct weights weightss (by first | assumption | exact Fr.Wb.lf (by assumption))),.orn g0 false (decide ((weights.length:Int)=0)) (weights.any Fr.wrongB) p1 hp1,.u 1] fun _ _ G2=>?_;intro S_ s_
  refine V.cn (b:=p1) (iN hp1 (iOT iDT Iff.rfl)) (iN hp1 (iOF iDF Iff.rfl)) (fun q1=>?_) (fun q2=>?_)
  · have hE:=Fr.shE_1 (l:=weights) (by have hqq:=q1;rw [Fr.len0] at hqq;exact hqq);refine V.gf [.u 2] fun _ _ G3=>?_;intro S_ s_
    refine V.nilF (α:=DFrac) ?_;have e0:(Fr.shQ weights)=[]:=by exact Fr.shQ_n (by rw [hE];decide)
    rw [e0];have e1:(1:Int)=Fr.shE weights:=hE.symm;exact V.rT [0,0] [] [] [] [1] [] (cong1 (fun (xz1:Int)=>(.tuple #[SV.v ({}),iv xz1]:Value)) e1)
  have hq1:¬ (weights=[]∨weights.any Fr.wrongB=true):=by have hqq:=q2;rw [Fr.len0] at hqq;rintro (h | h);exact hqq.1 h;exact absurd (h.symm.trans hqq.2) (by decide)
  have hR:=Fr.anyW.1 (by simpa using fun h=>hq1 (.inr h):weights.any Fr.wrongB=false);refine V.gf [.u 1,.cP 1 27 [kA 0 weights weightss] fun G=>conn_ct weights weightss (by first | assumption | exact Fr.Wb.lf (by assumption)),.u 1] fun _ _ G4=>?_;intro S_ s_
  refine V.cn (b:=weights.any Fr.negB) Iff.rfl Iff.rfl (fun q3=>?_) (fun q4=>?_)
  · have hE:=Fr.shE_3 hq1 q3;refine V.gf [.u 2] fun _ _ G5=>?_;intro S_ s_
    refine V.nilF (α:=DFrac) ?_;have e0:(Fr.shQ weights)=[]:=by exact Fr.shQ_n (by rw [hE];decide)
    rw [e0];have e1:(3:Int)=Fr.shE weights:=hE.symm;exact V.rT [0,0] [] [] [] [1] [] (cong1 (fun (xz1:Int)=>(.tuple #[SV.v ({}),iv xz1]:Value)) e1)
  have hq2:¬ weights.any Fr.negB=true:=by have hqq:=q4;simpa using hqq
  refine nm (Bg.sgn (Fr.sumW weights).num:Int) fun n1 hn1=>?_;refine nm (Bg.dig (Fr.sumW weights).num.natAbs:List Int) fun l1 hl1=>?_;refine nm (Bg.dig (Fr.sumW weights).den:List Int) fun l2 hl2=>?_;have zw:Fr.Fz n1 l1 1 l2 (Fr.sumW weights):=by subst_vars;exact ⟨Fr.FrB.of _,Fr.fq_of _⟩
  have hzl:=zw.len (hW.hbW hR);refine V.gf [.u 1,.cA 1 30 [kA 0 weights weightss] fun G=>sum_ctv weights weightss hW hR n1 hn1 l1 hl1 l2 hl2,.n 0,.s 0] fun _ _ G6=>?_;intro S_ s_
  refine nm (if Fr.FrB n1 l1 (1:Int) l2 then n1 else 0:Int) fun n2 hn2=>?_;refine V.gf [.l 0,.cP 1 31 [kB 1 l1 ((G6 1).ss 0),kB 2 l2 ((G6 1).ss 1)] fun G=>fsign_ctv n1 l1 ((G6 1).ss 0) (1:Int) l2 ((G6 1).ss 1) (by omega) (by omega) n2 hn2,.u 1] fun _ _ G7=>?_;intro S_ s_
  rw [if_pos zw.rt] at hn2;have hsz:n2=0↔Fr.sumW weights=0:=by rw [hn2,zw.eqs.1];exact Fr.sgn_num.2.1
  refine V.cn (b:=decide (n2=0)) iDT iDF (fun q5=>?_) (fun q6=>?_)
  · have hE:=Fr.shE_15 hq1 hq2 (hsz.1 q5);refine V.gf [.u 2] fun _ _ G8=>?_;intro S_ s_
    refine V.nilF (α:=DFrac) ?_;have e0:(Fr.shQ weights)=[]:=by exact Fr.shQ_n (by rw [hE];decide)
    rw [e0];have e1:(15:Int)=Fr.shE weights:=hE.symm;exact V.rT [0,0] [] [] [] [3] [] (cong1 (fun (xz1:Int)=>(.tuple #[SV.v ({}),iv xz1]:Value)) e1)
  have hE:=Fr.shE_0 hq1 hq2 fun h=>q6 (hsz.2 h)
  rw [hn2] at hsz;have hne:n1≠0:=fun h=>by have h2:=Fr.shE_is hE;exact h2.2.2.2 (hsz.1 h)
  refine V.gf [.u 1] fun _ _ G9=>?_;intro S_ s_
  refine V.gf [.u 1,.ln (kF 0 weights weightss),.u 1] fun _ _ G10=>?_;intro S_ s_
  refine V.on (α:=DFrac) 3 52 (by kernel_rfl) ?_;refine V.lp (γ:=List DFrac × SV × Int) (fun ⟨out,outs,k0⟩=>⟨[(4,pp ((G6 2).b) 0),(5,outs.v),(26,weightss.v),(27,iv (weights.length:Int)),(28,iv k0)],[fs false weights weightss,fs true l1 ((G6 1).ss 0),fs true l2 ((G6 1).ss 1)],[.blk ((G6 2).b) (ca (DFrac.mk ⟨n1,l1,(G6 1).ss 0⟩ ⟨1,l2,(G6 1).ss 1⟩)) 52,.no,.no,os true 52 out outs]⟩) (fun ⟨out,outs,k0⟩=>(0≤k0)∧(k0≤(weights.length:Int))∧(Fr.Frs out ((weights.take k0.toNat).map fun x=>Fr.qv x / Fr.sumW weights))) (fun ⟨out,outs,k0⟩=>((weights.length:Int)-k0).toNat) (([]:List DFrac),{},0) [0,1,2] ?_ ?_
  · refine ⟨?_,?_,?_⟩
    · show 0≤(0:Int)
      first | omega | rfl | (simp;done) | (subst_vars;simp;done)
    · show (0:Int)≤(weights.length:Int)
      first | omega | rfl | (simp;done) | (subst_vars;simp;done)
    show Fr.Frs ([]:List DFrac) ((weights.take (0:Int).toNat).map fun x=>Fr.qv x / Fr.sumW weights);exact Fr.Frs.nil
  rintro ⟨out,outs,k0⟩ hF1 kw11 Z1 hZ1;have hF1:(0≤k0)∧(k0≤(weights.length:Int))∧(Fr.Frs out ((weights.take k0.toNat).map fun x=>Fr.qv x / Fr.sumW weights)):=hF1;obtain ⟨hf1,hf2,hf3⟩:=hF1;have hol:=hf3.len_le;have hW1:=hW.1;refine V.gf [.u 1] fun _ _ G11=>?_;intro S_ s_;refine V.cn (b:=decide (k0 < (weights.length:Int))) iDT iDF (fun q7=>?_) (fun q8=>?_)
  · refine nm (weights.getD k0.toNat default:DFrac) fun x1 hx1=>?_;refine V.gf [.iX (kF 0 weights weightss) k0,.lE (kF 0 weights weightss) k0 true x1 hx1 true,.n 1,.s 1] fun _ _ G12=>?_;intro S_ s_
    refine nm (Fr.rS ((Fr.FrB x1.P.Sign x1.P.Digits.l x1.Q.Sign x1.Q.Digits.l∧Fr.FrB n1 l1 (1:Int) l2)∧n1≠0) ((Fr.fq x1.P.Sign x1.P.Digits.l x1.Q.Digits.l) / (Fr.fq n1 l1 l2)):Int) fun n3 hn3=>?_;refine nm (Fr.rD ((Fr.FrB x1.P.Sign x1.P.Digits.l x1.Q.Sign x1.Q.Digits.l∧Fr.FrB n1 l1 (1:Int) l2)∧n1≠0) ((Fr.fq x1.P.Sign x1.P.Digits.l x1.Q.Digits.l) / (Fr.fq n1 l1 l2)):List Int) fun l3 hl3=>?_;refine nm (Fr.rT ((Fr.FrB x1.P.Sign x1.P.Digits.l x1.Q.Sign x1.Q.Digits.l∧Fr.FrB n1 l1 (1:Int) l2)∧n1≠0):Int) fun n4 hn4=>?_;refine nm (Fr.rE ((Fr.FrB x1.P.Sign x1.P.Digits.l x1.Q.Sign x1.Q.Digits.l∧Fr.FrB n1 l1 (1:Int) l2)∧n1≠0) ((Fr.fq x1.P.Sign x1.P.Digits.l x1.Q.Digits.l) / (Fr.fq n1 l1 l2)):List Int) fun l4 hl4=>?_;refine nm (if ¬ (Fr.FrB x1.P.Sign x1.P.Digits.l x1.Q.Sign x1.Q.Digits.l∧Fr.FrB n1 l1 (1:Int) l2) then (1:Int) else if n1=0 then 15 else 0:Int) fun n5 hn5=>?_;have hxm:=getD_mem (l:=weights) (k:=k0.toNat) (by omega) hx1
    have hxr:=hR _ hxm;have hxl:=hW.2 _ hxm;have hxl1:=hxl.1;have hxl2:=hxl.2;have zd:=Fr.Fz.of ⟨⟨hxr,zw.rt⟩,hne⟩ hn3 hl3 hn4 hl4;rw [zw.v] at zd;refine V.gf [.l 1,.l 0,.cA 2 32 [(kx false (.f 3) x1 x1.P.Digits.l (fun _=>x1.P.Digits.s) (fun _ H (h:Dat.good H (x1:DFrac))=>h.1)).a,(kx false (.f 3) x1 x1.Q.Digits.l (fun _=>x1.Q.Digits.s) (fun _ H (h:Dat.good H (x1:DFrac))=>h.2)).a,kB 1 l1 ((G6 1).ss 0),kB 2 l2 ((G6 1).ss 1)] fun G=>fdiv_ctv x1.P.Sign x1.P.Digits.l x1.P.Digits.s x1.Q.Sign x1.Q.Digits.l x1.Q.Digits.s n1 l1 ((G6 1).ss 0) (1:Int) l2 ((G6 1).ss 1) (by omega) (by omega) (by omega) (by omega) n3 hn3 l3 hl3 n4 hn4 l4 hl4 n5 hn5,.u 3,.n 2,.s 2,.u 1] fun _ _ G13=>?_;intro S_ s_
    refine nm (out ++([DFrac.mk ⟨n3,l3,(G13 2).ss 0⟩ ⟨n4,l4,(G13 2).ss 1⟩]:List DFrac):List DFrac) fun l5 hl5=>?_;refine V.gf [.u 1,.l 2,.nr 2 true 52 ([DFrac.mk ⟨n3,l3,(G13 2).ss 0⟩ ⟨n4,l4,(G13 2).ss 1⟩]:List DFrac) [kB 4 l3 ((G13 2).ss 0),kB 5 l4 ((G13 2).ss 1)] (fun _ _ h=>(List.forall_mem_cons.2 ⟨(And.intro h.1 h.2.1),(List.forall_mem_nil _)⟩)) (fun _=>#[iv n3,((G13 2).ss 0).v,iv n4,((G13 2).ss 1).v]),.ap 3 3 52 64 false true out (fun _=>outs) (kf true (.g 2 0) ([DFrac.mk ⟨n3,l3,(G13 2).ss 0⟩ ⟨n4,l4,(G13 2).ss 1⟩]:List DFrac) (fun G=>⟨atB (G 2).b,1,1⟩)) true l5 hl5 (by (try simp only [List.length_append,List.length_cons,List.length_nil,List.length_replicate,List.length_set,List.length_take,List.length_drop,List.length_map,List.length_reverse,List.length_range]);omega) (fun h=>by cases h) (.inl fun _=>⟨rfl,rfl⟩),.u 1] fun _ _ G14=>?_;intro S_ s_
    refine V.gf [.aa (k0+1),.u 1] fun _ _ G15=>?_;intro S_ s_
    refine V.rn hZ1 (l5,(G14 3).s,k0+1) [0,1,2] ?_ ?_
    · refine ⟨?_,?_,?_⟩
      · show 0≤(k0+1)
        first | omega | rfl | (simp;done) | (subst_vars;simp;done)
      · show (k0+1)≤(weights.length:Int)
        first | omega | rfl | (simp;done) | (subst_vars;simp;done)
      show Fr.Frs l5 ((weights.take (k0+1).toNat).map fun x=>Fr.qv x / Fr.sumW weights);rw [hl5,show (k0+1).toNat=k0.toNat+1 by omega,Fr.take_step (by omega),← hx1,List.map_append];exact hf3.snoc zd.rt zd.v
    show ((weights.length:Int)-(k0+1)).toNat < ((weights.length:Int)-k0).toNat;omega
  refine V.gf [.u 3] fun _ _ G16=>?_;intro S_ s_
  refine V.frz 3 true 52 out outs (by kernel_rfl) ?_;have e0:Fr.Frs out (Fr.shQ weights):=by rw [Fr.shQ_y hE];have hs:=hf3;rw [show k0.toNat=weights.length by omega,List.take_length] at hs;exact hs
  obtain ⟨σ0,E0⟩:=Fr.frs_ex e0;subst E0;clear e0;have e1:(0:Int)=Fr.shE weights:=hE.symm;exact V.rT [0,0] [outs] [σ0] [] [3] [] (cong1 (fun (xz1:Int)=>(.tuple #[outs.v,iv xz1]:Value)) e1)
theorem shares_ctv (weights:List DFrac) (weightss:SV) (hW:Fr.Wb weights) (rv1:Int) (erv1:rv1=Fr.shE weights) :
    Ct Tryz.prog 10 #[weightss.v] [fs true weights weightss] [] (fun g=>.tuple #[((g.ss 0)).v,iv rv1]) (fun g=>[fs true (Fr.frs (Fr.shQ weights) (g.sl 0)) (g.ss 0)]) (fun g=>[]) (fun g=>[]):=by
  subst erv1;exact shares_ct weights weightss hW

open Go Go.Proofs
set_option maxRecDepth 10000 in
theorem wwt_ct (vb:Nat) (M:ByteArray) (W:List DImport) (t:SV) (X:List DInput) (z:SV) (Y:List DTable) (A:SV) (Z:List DFunc) (B:SV) (C:List DCell) (o:SV) (ab:List DPort) (D:SV) (ac:List DStore) (E:SV) (ad:List DRecipe) (F:SV) (vl_cells:List DSpan) (vl_cellss:SV) (vl_parcels:List (ByteArray × Fat DFrac)) (vl_parcelsb:Nat) (N:List DSource) (p:SV) (R:List DOut) (q:SV) (U:List (Fat DFrac)) (r:SV) (ae:Int) (I:List ByteArray) (J:SV) (K:List ByteArray) (L:SV) (af:ByteArray) (d:List ByteArray) (m:SV) (ah:Int) (hn:d.length=vl_cells.length) (hidx:∀ i,i < d.length→fidx (fun y:DCell=>decide (y.Name=d.getD i default)) C=(i:Int)) (hW:Fr.Wb (vl_cells.map (·.Low))) (hR:∀ c ∈ vl_cells,Fr.rt c.Low) (hE:∀ c ∈ vl_cells,Rc.sam c.Low c.High) (hne:0 < vl_cells.length) (hH:∀ c ∈ vl_cells,Fr.ln 17179869184 c.High) :
    Ct Tryz.prog 24 #[pp vb 0,ag (DStep.mk ae ⟨I,J⟩ ⟨K,L⟩ af ⟨d,m⟩ ah)] [fs true W t,fs true X z,fs true Y A,fs true Z B,fs true C o,fs true ab D,fs true ac E,fs true ad F,fs true vl_cells vl_cellss,fs true I J,fs true K L,fs true d m] [.blk vb #[tv M,t.v,z.v,A.v,B.v,o.v,D.v,E.v,F.v,vl_cellss.v,.map (some vl_parcelsb),p.v,q.v,r.v] 87,mp false false vl_parcels vl_parcelsb,os false 137 N p,os false 141 R q,os false 22 U r] (fun g=>.tuple #[((g.ss 0)).v,iv (Fr.shE (vl_cells.map (·.Low)))]) (fun g=>[]) (fun g=>[.blk vb #[tv M,t.v,z.v,A.v,B.v,o.v,D.v,E.v,F.v,vl_cellss.v,.map (some vl_parcelsb),p.v,q.v,r.v] 87,mp false false vl_parcels vl_parcelsb,os false 137 N p,os false 141 R q,os false 22 U r,os false 52 (Fr.frs (Fr.shQ (vl_cells.map (·.Low))) (g.sl 0)) (g.ss 0)]) (fun g=>[]):=by
  refine V.fo mo Tryz.func24 85 6 fun w H ε k0=>?_;clear k0
  have hRl:∀ x ∈ (vl_cells.map (·.Low)),Fr.rt x:=fun x hx=>by obtain ⟨c,hc,rfl⟩:=List.mem_map.1 hx;exact hR c hc
  have hW1:=hW.1;rw [List.length_map] at hW1;refine V.gf [.n 5,.u 2] fun _ _ G1=>?_;intro S_ s_
  refine nm (List.replicate (d.length:Int).toNat (default:DFrac):List DFrac) fun l1 hl1=>?_;have hl1n:=congrArg List.length hl1;try simp only [List.length_append,List.length_cons,List.length_nil,List.length_replicate,List.length_set,List.length_take,List.length_drop,List.length_map,List.length_reverse,List.length_range] at hl1n
  refine V.gf [.u 1,.l 5,.ln (kF 11 d m),.mks 3 6 52 64 (d.length:Int) l1 hl1 (by omega) (by omega) (by omega),.u 1] fun _ _ G2=>?_;intro S_ s_
  refine nm (Bg.sgn (0:Int):Int) fun n1 hn1=>?_;refine nm (Bg.dig (0:Int).natAbs:List Int) fun l2 hl2=>?_;refine nm (Bg.dig 1:List Int) fun l3 hl3=>?_;refine V.gf [.cA 0 37 [] fun G=>fint_ctv (0:Int) (by omega) n1 hn1 l2 hl2 l3 hl3,.n 7,.s 7] fun _ _ G3=>?_;intro S_ s_
  refine V.gf [.u 1,.l 5,.ln (kF 11 d m),.u 1] fun _ _ G4=>?_;intro S_ s_
  refine V.lp (γ:=List DFrac × SV × Int × Int × List Int × SV × Int × List Int × SV) (fun ⟨out,outs,k0,sum_0,sum_1,sum_1s,sum_2,sum_3,sum_3s⟩=>⟨[(0,pp vb 0),(6,outs.v),(7,pp ((G3 1).b) 0),(18,m.v),(19,iv (d.length:Int)),(20,iv k0)],[fs false d m,fs false W t,fs false X z,fs false Y A,fs false Z B,fs false C o,fs false ab D,fs false ac E,fs false ad F,fs false vl_cells vl_cellss,fs false I J,fs false K L,fs true sum_1 sum_1s,fs true sum_3 sum_3s],[.blk vb #[tv M,t.v,z.v,A.v,B.v,o.v,D.v,E.v,F.v,vl_cellss.v,.map (some vl_parcelsb),p.v,q.v,r.v] 87,mp false false vl_parcels vl_parcelsb,os false 137 N p,os false 141 R q,os false 22 U r,.blk ((G1 0).b) (ca (DStep.mk ae ⟨I,J⟩ ⟨K,L⟩ af ⟨d,m⟩ ah)) 39,os false 52 out outs,.blk ((G3 1).b) (ca (DFrac.mk ⟨sum_0,sum_1,sum_1s⟩ ⟨sum_2,sum_3,sum_3s⟩)) 52,.no,.no,.no]⟩) (fun ⟨out,outs,k0,sum_0,sum_1,sum_1s,sum_2,sum_3,sum_3s⟩=>(0≤k0)∧(k0≤(d.length:Int))∧(out.length=vl_cells.length)∧(∀ j,j < k0.toNat→out.getD j default=(vl_cells.getD j default).Low)∧(∀ j,j < k0.toNat→Fr.negB (vl_cells.getD j default).Low=false)∧(Fr.Fz sum_0 sum_1 sum_2 sum_3 (Fr.sumQ (((vl_cells.map (·.Low)).take k0.toNat).map Fr.qv)))) (fun ⟨out,outs,k0,sum_0,sum_1,sum_1s,sum_2,sum_3,sum_3s⟩=>((d.length:Int)-k0).toNat) (l1,(G2 3).s,0,n1,l2,(G3 0).ss 0,1,l3,(G3 0).ss 1) [11,0,1,2,3,4,5,6,7,8,9,10,12,13] ?_ ?_
  · refine ⟨?_,?_,?_,?_,?_,?_⟩
    · show 0≤(0:Int)
      first | omega | rfl | (simp;done) | (subst_vars;simp;done)
    · show (0:Int)≤(d.length:Int)
      first | omega | rfl | (simp;done) | (subst_vars;simp;done)
    · show l1.length=vl_cells.length;rw [hl1n];omega
    · show ∀ j,j < (0:Int).toNat→l1.getD j default=(vl_cells.getD j default).Low;intro j hj;simp at hj
    · show ∀ j,j < (0:Int).toNat→Fr.negB (vl_cells.getD j default).Low=false;intro j hj;simp at hj
    show Fr.Fz n1 l2 (1:Int) l3 (Fr.sumQ (((vl_cells.map (·.Low)).take (0:Int).toNat).map Fr.qv))
    subst_vars;exact Fr.sum0 _
  rintro ⟨out,outs,k0,sum_0,sum_1,sum_1s,sum_2,sum_3,sum_3s⟩ hF1 kw5 Z1 hZ1;have hF1:(0≤k0)∧(k0≤(d.length:Int))∧(out.length=vl_cells.length)∧(∀ j,j < k0.toNat→out.getD j default=(vl_cells.getD j default).Low)∧(∀ j,j < k0.toNat→Fr.negB (vl_cells.getD j default).Low=false)∧(Fr.Fz sum_0 sum_1 sum_2 sum_3 (Fr.sumQ (((vl_cells.map (·.Low)).take k0.toNat).map Fr.qv))):=hF1;obtain ⟨hf1,hf2,hf3,hf4,hf5,hf6⟩:=hF1;have hFl:=hf6.len (hW.hb hRl k0.toNat);refine V.gf [.u 1] fun _ _ G5=>?_;intro S_ s_;refine V.cn (b:=decide (k0 < (d.length:Int))) iDT iDF (fun q1=>?_) (fun q2=>?_)
  · refine nm (d.getD k0.toNat default:ByteArray) fun x1 hx1=>?_;refine V.gf [.u 1,.iX (kF 0 d m) k0,.lE (kF 0 d m) k0 false x1 hx1 false,.n 8,.u 1,.s 8] fun _ _ G6=>?_;intro S_ s_
    refine nm (fidx (fun y:DCell=>decide (y.Name=x1)) C:Int) fun n2 hn2=>?_;refine nm (vl_cells.getD n2.toNat default:DSpan) fun x2 hx2=>?_;have hfi:=hidx k0.toNat (by omega)
    rw [←hx1,← hn2] at hfi;refine V.gf [.u 3,.l 0,.u 4,.l 0,.u 1,.cB 10 62 false [8] [] [kA 5 C o] fun G=>wcii_ctv C o ((G6 3).b) x1 n2 hn2,.iX (kF 9 vl_cells vl_cellss) n2,.lE (kF 9 vl_cells vl_cellss) n2 true x2 hx2 true,.n 9,.s 9] fun _ _ G7=>?_;intro S_ s_
    refine nm (if Fr.FrB x2.Low.P.Sign x2.Low.P.Digits.l x2.Low.Q.Sign x2.Low.Q.Digits.l then x2.Low.P.Sign else 0:Int) fun n3 hn3=>?_;refine nm ((!(decide (x2.Low.P.Sign=x2.High.P.Sign∧x2.Low.P.Digits.l=x2.High.P.Digits.l∧x2.Low.Q.Sign=x2.High.Q.Sign∧x2.Low.Q.Digits.l=x2.High.Q.Digits.l))) || (decide (n3 < 0)):Bool) fun p1 hp1=>?_;have hx2p:x2=vl_cells.getD k0.toNat default:=by rw [hx2];congr 1;omega
    have hxm:=getD_mem (l:=vl_cells) (k:=k0.toNat) (by omega) hx2p;have hxr:=hR _ hxm;have hxl:=hW.2 x2.Low (List.mem_map.2 ⟨_,hxm,rfl⟩);have hxh:=hH _ hxm;have hes:=hE _ hxm;have hxl1:=hxl.1;have hxl2:=hxl.2;have hxh1:=hxh.1;have hxh2:=hxh.2;refine V.gf [.u 1,.l 9,.u 1,.l 9,.cP 4 11 [(kx false (.f 14) x2 x2.Low.P.Digits.l (fun _=>x2.Low.P.Digits.s) (fun _ H (h:Dat.good H (x2:DSpan))=>h.1.1)).a,(kx false (.f 14) x2 x2.Low.Q.Digits.l (fun _=>x2.Low.Q.Digits.s) (fun _ H (h:Dat.good H (x2:DSpan))=>h.1.2)).a,(kx false (.f 14) x2 x2.High.P.Digits.l (fun _=>x2.High.P.Digits.s) (fun _ H (h:Dat.good H (x2:DSpan))=>h.2.1)).a,(kx false (.f 14) x2 x2.High.Q.Digits.l (fun _=>x2.High.Q.Digits.s) (fun _ H (h:Dat.good H (x2:DSpan))=>h.2.2)).a] fun G=>fsame_ct x2.Low.P.Sign x2.Low.P.Digits.l x2.Low.P.Digits.s x2.Low.Q.Sign x2.Low.Q.Digits.l x2.Low.Q.Digits.s x2.High.P.Sign x2.High.P.Digits.l x2.High.P.Digits.s x2.High.Q.Sign x2.High.Q.Digits.l x2.High.Q.Digits.s,.u 3,.l 9,.cp (gF (b:=!(decide (x2.Low.P.Sign=x2.High.P.Sign∧x2.Low.P.Digits.l=x2.High.P.Digits.l∧x2.Low.Q.Sign=x2.High.Q.Sign∧x2.Low.Q.Digits.l=x2.High.Q.Digits.l))) (iNF iDT)) 9 31 [(kx false (.f 14) x2 x2.Low.P.Digits.l (fun _=>x2.Low.P.Digits.s) (fun _ H (h:Dat.good H (x2:DSpan))=>h.1.1)).a,(kx false (.f 14) x2 x2.Low.Q.Digits.l (fun _=>x2.Low.Q.Digits.s) (fun _ H (h:Dat.good H (x2:DSpan))=>h.1.2)).a] (fun hg G=>fsign_ctv x2.Low.P.Sign x2.Low.P.Digits.l x2.Low.P.Digits.s x2.Low.Q.Sign x2.Low.Q.Digits.l x2.Low.Q.Digits.s (by omega) (by omega) n3 hn3),.u 1,.orn g0 false (!(decide (x2.Low.P.Sign=x2.High.P.Sign∧x2.Low.P.Digits.l=x2.High.P.Digits.l∧x2.Low.Q.Sign=x2.High.Q.Sign∧x2.Low.Q.Digits.l=x2.High.Q.Digits.l))) (decide (n3 < 0)) p1 hp1] fun _ _ G8=>?_;intro S_ s_
    refine V.cn (b:=p1) (iN hp1 (iOT (iNT iDF) iDT)) (iN hp1 (iOF (iNF iDT) iDF)) (fun q3=>?_) (fun q4=>?_)
    · have hqq:=q3;have hE3:=Fr.shE_3 (Rc.low_ne hne hRl) (List.any_eq_true.2 ⟨x2.Low,List.mem_map.2 ⟨_,hxm,rfl⟩,decide_eq_true (by rw [←hn3];rcases hqq with h | h;exact absurd hes h;exact h)⟩);refine V.gf [.u 2] fun _ _ G9=>?_;intro S_ s_
      refine V.on (α:=DFrac) 10 52 (by kernel_rfl) ?_;have e0:(Fr.shQ (vl_cells.map (·.Low)))=[]:=by exact Fr.shQ_n (by rw [hE3];decide)
      rw [e0];have e1:(3:Int)=Fr.shE (vl_cells.map (·.Low)):=hE3.symm;exact V.rT [0,0] [] [] [] [] [0,1,2,3,4,10] (cong1 (fun (xz1:Int)=>(.tuple #[SV.v ({}),iv xz1]:Value)) e1)
    refine nm (out.getD k0.toNat default:DFrac) fun x3 hx3=>?_;refine nm (out.set k0.toNat x2.Low:List DFrac) fun l4 hl4=>?_;refine V.gf [.u 3,.l 9,.iX (ko false 52 6 out (fun _=>outs)) k0,.se g0 5 6 52 false out (fun _=>outs) k0 none x3 x2.Low hx3 false l4 hl4 (fun _=>⟨by omega,by omega⟩) (fun h=>by cases h) [(kx false (.f 14) x2 x2.Low.P.Digits.l (fun _=>x2.Low.P.Digits.s) (fun _ H (h:Dat.good H (x2:DSpan))=>h.1.1)).a,(kx false (.f 14) x2 x2.Low.Q.Digits.l (fun _=>x2.Low.Q.Digits.s) (fun _ H (h:Dat.good H (x2:DSpan))=>h.1.2)).a] (fun _ _ ho h=>(And.intro h.1 h.2.1))] fun _ _ G10=>?_;intro S_ s_
    refine nm (Fr.rS (Fr.FrB sum_0 sum_1 sum_2 sum_3∧Fr.FrB x2.Low.P.Sign x2.Low.P.Digits.l x2.Low.Q.Sign x2.Low.Q.Digits.l) ((Fr.fq sum_0 sum_1 sum_3)+(Fr.fq x2.Low.P.Sign x2.Low.P.Digits.l x2.Low.Q.Digits.l)):Int) fun n4 hn4=>?_;refine nm (Fr.rD (Fr.FrB sum_0 sum_1 sum_2 sum_3∧Fr.FrB x2.Low.P.Sign x2.Low.P.Digits.l x2.Low.Q.Sign x2.Low.Q.Digits.l) ((Fr.fq sum_0 sum_1 sum_3)+(Fr.fq x2.Low.P.Sign x2.Low.P.Digits.l x2.Low.Q.Digits.l)):List Int) fun l5 hl5=>?_;refine nm (Fr.rT (Fr.FrB sum_0 sum_1 sum_2 sum_3∧Fr.FrB x2.Low.P.Sign x2.Low.P.Digits.l x2.Low.Q.Sign x2.Low.Q.Digits.l):Int) fun n5 hn5=>?_;refine nm (Fr.rE (Fr.FrB sum_0 sum_1 sum_2 sum_3∧Fr.FrB x2.Low.P.Sign x2.Low.P.Digits.l x2.Low.Q.Sign x2.Low.Q.Digits.l) ((Fr.fq sum_0 sum_1 sum_3)+(Fr.fq x2.Low.P.Sign x2.Low.P.Digits.l x2.Low.Q.Digits.l)):List Int) fun l6 hl6=>?_;refine nm (if ¬ (Fr.FrB sum_0 sum_1 sum_2 sum_3∧Fr.FrB x2.Low.P.Sign x2.Low.P.Digits.l x2.Low.Q.Sign x2.Low.Q.Digits.l) then (1:Int) else 0:Int) fun n6 hn6=>?_;have zs:=Fr.Fz.of ⟨hf6.rt,hxr⟩ hn4 hl5 hn5 hl6
    refine V.gf [.l 7,.u 1,.l 9,.cA 3 64 [kB 12 sum_1 sum_1s,kB 13 sum_3 sum_3s,(kx false (.f 14) x2 x2.Low.P.Digits.l (fun _=>x2.Low.P.Digits.s) (fun _ H (h:Dat.good H (x2:DSpan))=>h.1.1)).a,(kx false (.f 14) x2 x2.Low.Q.Digits.l (fun _=>x2.Low.Q.Digits.s) (fun _ H (h:Dat.good H (x2:DSpan))=>h.1.2)).a] fun G=>fadd_ctv sum_0 sum_1 sum_1s sum_2 sum_3 sum_3s x2.Low.P.Sign x2.Low.P.Digits.l x2.Low.P.Digits.s x2.Low.Q.Sign x2.Low.Q.Digits.l x2.Low.Q.Digits.s (by omega) (by omega) (by omega) (by omega) n4 hn4 l5 hl5 n5 hn5 l6 hl6 n6 hn6,.u 3,.s 7] fun _ _ G11=>?_;intro S_ s_
    refine V.gf [.aa (k0+1),.u 1] fun _ _ G12=>?_;intro S_ s_
    refine V.rn hZ1 (l4,outs,k0+1,n4,l5,(G11 3).ss 0,n5,l6,(G11 3).ss 1) [0,1,2,3,4,5,6,7,8,9,10,11,15,16] ?_ ?_
    · refine ⟨?_,?_,?_,?_,?_,?_⟩
      · show 0≤(k0+1);omega
      · show (k0+1)≤(d.length:Int);omega
      · show l4.length=vl_cells.length;rw [(Rc.set_get hl4 (by omega) (by omega)).1];exact hf3
      · show ∀ j,j < (k0+1).toNat→l4.getD j default=(vl_cells.getD j default).Low;intro j hj;by_cases e:j=k0.toNat
        · rw [e,(Rc.set_get hl4 (by omega) (by omega)).2.1,← hx2p]
        rw [(Rc.set_get hl4 (by omega) (by omega)).2.2 j e];exact hf4 j (by omega)
      · show ∀ j,j < (k0+1).toNat→Fr.negB (vl_cells.getD j default).Low=false;intro j hj;by_cases e:j=k0.toNat
        · rw [e,← hx2p];have hqq:=q4;unfold Fr.negB;exact decide_eq_false (by rw [←hn3];omega)
        exact hf5 j (by omega)
      show Fr.Fz n4 l5 n5 l6 (Fr.sumQ (((vl_cells.map (·.Low)).take (k0+1).toNat).map Fr.qv));have hz:=zs;rw [hf6.v] at hz;rw [show (k0+1).toNat=k0.toNat+1 by omega,Fr.sumQ_step (x:=x2.Low) (by rw [List.length_map];omega) (by rw [Rc.low_get (by omega),← hx2p])];exact hz
    show ((d.length:Int)-(k0+1)).toNat < ((d.length:Int)-k0).toNat;omega
  have hFz:=hf6.len (hW.hb hRl k0.toNat);refine nm (if Fr.FrB sum_0 sum_1 sum_2 sum_3 then sum_0 else 0:Int) fun n7 hn7=>?_;refine V.gf [.l 7,.cP 1 31 [kB 12 sum_1 sum_1s,kB 13 sum_3 sum_3s] fun G=>fsign_ctv sum_0 sum_1 sum_1s sum_2 sum_3 sum_3s (by omega) (by omega) n7 hn7,.u 1] fun _ _ G13=>?_;intro S_ s_
  have zw:=hf6;rw [show k0.toNat=(vl_cells.map (·.Low)).length by rw [List.length_map];omega,List.take_length] at zw;have hq2:=Rc.low_any (cs:=vl_cells) fun j hj=>hf5 j (by omega)
  rw [if_pos zw.rt] at hn7;have hsz:n7=0↔Fr.sumW (vl_cells.map (·.Low))=0:=by rw [hn7,zw.eqs.1];exact Fr.sgn_num.2.1
  refine V.cn (b:=decide (n7=0)) iDT iDF (fun q5=>?_) (fun q6=>?_)
  · have hE3:=Fr.shE_15 (Rc.low_ne hne hRl) hq2 (hsz.1 q5);refine V.gf [.u 2] fun _ _ G14=>?_;intro S_ s_
    refine V.on (α:=DFrac) 8 52 (by kernel_rfl) ?_;have e0:(Fr.shQ (vl_cells.map (·.Low)))=[]:=by exact Fr.shQ_n (by rw [hE3];decide)
    rw [e0];have e1:(15:Int)=Fr.shE (vl_cells.map (·.Low)):=hE3.symm;exact V.rT [0,0] [] [] [] [] [0,1,2,3,4,8] (cong1 (fun (xz1:Int)=>(.tuple #[SV.v ({}),iv xz1]:Value)) e1)
  have hE0:=Fr.shE_0 (Rc.low_ne hne hRl) hq2 fun h=>q6 (hsz.2 h)
  have hsn:sum_0≠0:=by rw [←hn7];exact q6
  refine V.gf [.u 1,.ln (ko false 52 6 out (fun _=>outs)),.u 1] fun _ _ G15=>?_;intro S_ s_
  refine V.lp (γ:=List DFrac × SV × Int) (fun ⟨out_1,out_1s,k1⟩=>⟨[(6,out_1s.v),(7,pp ((G3 1).b) 0),(67,iv (out.length:Int)),(68,iv k1)],[fs false W t,fs false X z,fs false Y A,fs false Z B,fs false C o,fs false ab D,fs false ac E,fs false ad F,fs false vl_cells vl_cellss,fs false I J,fs false K L,fs false d m,fs true sum_1 sum_1s,fs true sum_3 sum_3s],[.blk vb #[tv M,t.v,z.v,A.v,B.v,o.v,D.v,E.v,F.v,vl_cellss.v,.map (some vl_parcelsb),p.v,q.v,r.v] 87,mp false false vl_parcels vl_parcelsb,os false 137 N p,os false 141 R q,os false 22 U r,.blk ((G1 0).b) (ca (DStep.mk ae ⟨I,J⟩ ⟨K,L⟩ af ⟨d,m⟩ ah)) 39,os false 52 out_1 out_1s,.blk ((G3 1).b) (ca (DFrac.mk ⟨sum_0,sum_1,sum_1s⟩ ⟨sum_2,sum_3,sum_3s⟩)) 52,.no,.no,.no]⟩) (fun ⟨out_1,out_1s,k1⟩=>(0≤k1)∧(k1≤(out.length:Int))∧(out_1.length=vl_cells.length)∧(∀ j,j < k1.toNat→Fr.rt (out_1.getD j default)∧Fr.qv (out_1.getD j default)=Fr.qv (vl_cells.getD j default).Low / Fr.sumW (vl_cells.map (·.Low)))∧(∀ j,k1.toNat≤j→j < vl_cells.length→out_1.getD j default=(vl_cells.getD j default).Low)) (fun ⟨out_1,out_1s,k1⟩=>((vl_cells.length:Int)-k1).toNat) (out,outs,0) [1,2,3,4,5,6,7,8,9,10,11,0,12,13] ?_ ?_
  · refine ⟨?_,?_,?_,?_,?_⟩
    · show 0≤(0:Int)
      first | omega | rfl | (simp;done) | (subst_vars;simp;done)
    · show (0:Int)≤(out.length:Int)
      first | omega | rfl | (simp;done) | (subst_vars;simp;done)
    · show out.length=vl_cells.length;exact hf3
    · show ∀ j,j < (0:Int).toNat→Fr.rt (out.getD j default)∧Fr.qv (out.getD j default)=Fr.qv (vl_cells.getD j default).Low / Fr.sumW (vl_cells.map (·.Low));intro j hj;simp at hj
    show ∀ j,(0:Int).toNat≤j→j < vl_cells.length→out.getD j default=(vl_cells.getD j default).Low;intro j _ hj;exact hf4 j (by omega)
  rintro ⟨out_1,out_1s,k1⟩ hF2 kw17 Z2 hZ2;have hF2:(0≤k1)∧(k1≤(out.length:Int))∧(out_1.length=vl_cells.length)∧(∀ j,j < k1.toNat→Fr.rt (out_1.getD j default)∧Fr.qv (out_1.getD j default)=Fr.qv (vl_cells.getD j default).Low / Fr.sumW (vl_cells.map (·.Low)))∧(∀ j,k1.toNat≤j→j < vl_cells.length→out_1.getD j default=(vl_cells.getD j default).Low):=hF2;obtain ⟨hf7,hf8,hf9,hf10,hf11⟩:=hF2;refine V.gf [.u 1] fun _ _ G16=>?_;intro S_ s_;refine V.cn (b:=decide (k1 < (out.length:Int))) iDT iDF (fun q7=>?_) (fun q8=>?_)
  · refine V.gf [.u 2] fun _ _ G17=>?_;intro S_ s_
    refine nm (out_1.getD k1.toNat default:DFrac) fun x4 hx4=>?_;refine nm (Fr.rS ((Fr.FrB x4.P.Sign x4.P.Digits.l x4.Q.Sign x4.Q.Digits.l∧Fr.FrB sum_0 sum_1 sum_2 sum_3)∧sum_0≠0) ((Fr.fq x4.P.Sign x4.P.Digits.l x4.Q.Digits.l) / (Fr.fq sum_0 sum_1 sum_3)):Int) fun n8 hn8=>?_;refine nm (Fr.rD ((Fr.FrB x4.P.Sign x4.P.Digits.l x4.Q.Sign x4.Q.Digits.l∧Fr.FrB sum_0 sum_1 sum_2 sum_3)∧sum_0≠0) ((Fr.fq x4.P.Sign x4.P.Digits.l x4.Q.Digits.l) / (Fr.fq sum_0 sum_1 sum_3)):List Int) fun l7 hl7=>?_;refine nm (Fr.rT ((Fr.FrB x4.P.Sign x4.P.Digits.l x4.Q.Sign x4.Q.Digits.l∧Fr.FrB sum_0 sum_1 sum_2 sum_3)∧sum_0≠0):Int) fun n9 hn9=>?_;refine nm (Fr.rE ((Fr.FrB x4.P.Sign x4.P.Digits.l x4.Q.Sign x4.Q.Digits.l∧Fr.FrB sum_0 sum_1 sum_2 sum_3)∧sum_0≠0) ((Fr.fq x4.P.Sign x4.P.Digits.l x4.Q.Digits.l) / (Fr.fq sum_0 sum_1 sum_3)):List Int) fun l8 hl8=>?_;refine nm (if ¬ (Fr.FrB x4.P.Sign x4.P.Digits.l x4.Q.Sign x4.Q.Digits.l∧Fr.FrB sum_0 sum_1 sum_2 sum_3) then (1:Int) else if sum_0=0 then 15 else 0:Int) fun n10 hn10=>?_;have hx4p:x4=(vl_cells.getD k1.toNat default).Low:=by rw [hx4];exact hf11 k1.toNat (Nat.le_refl _) (by omega)
    have hym:=getD_mem (l:=vl_cells) (k:=k1.toNat) (by omega) rfl;have hyr:=hR _ hym;have hyl:=hW.2 _ (List.mem_map.2 ⟨_,hym,rfl⟩);rw [←hx4p] at hyr hyl;have hyl1:=hyl.1;have hyl2:=hyl.2;have zd:=Fr.Fz.of ⟨⟨hyr,zw.rt⟩,hsn⟩ hn8 hl7 hn9 hl8;rw [zw.v] at zd;refine V.gf [.u 4,.iX (ko false 52 6 out_1 (fun _=>out_1s)) k1,.lE (ko false 52 6 out_1 (fun _=>out_1s)) k1 true x4 hx4 true,.l 7,.cA 7 32 [(kx false (.g 5 0) x4 x4.P.Digits.l (fun _=>x4.P.Digits.s) (fun _ H (h:Dat.good H (x4:DFrac))=>h.1)).a,(kx false (.g 5 0) x4 x4.Q.Digits.l (fun _=>x4.Q.Digits.s) (fun _ H (h:Dat.good H (x4:DFrac))=>h.2)).a,kB 12 sum_1 sum_1s,kB 13 sum_3 sum_3s] fun G=>fdiv_ctv x4.P.Sign x4.P.Digits.l x4.P.Digits.s x4.Q.Sign x4.Q.Digits.l x4.Q.Digits.s sum_0 sum_1 sum_1s sum_2 sum_3 sum_3s (by omega) (by omega) (by omega) (by omega) n8 hn8 l7 hl7 n9 hn9 l8 hl8 n10 hn10,.u 3,.iX (ko false 52 6 out_1 (fun _=>out_1s)) k1,.seG g0 12 6 52 false out_1 (fun _=>out_1s) k1 none x4 (fun G=>(DFrac.mk ⟨n8,l7,(G 7).ss 0⟩ ⟨n9,l8,(G 7).ss 1⟩:DFrac)) hx4 false (fun _=>⟨by omega,by omega⟩) (fun h=>by cases h) [(kf true (.g 7 0) l7 (fun G=>(G 7).ss 0)).a,(kf true (.g 7 1) l8 (fun G=>(G 7).ss 1)).a] (fun _ _ ho h=>(And.intro h.1 h.2.1))] fun _ _ G18=>?_;intro S_ s_
    refine V.gf [.aa (k1+1),.u 1] fun _ _ G19=>?_;intro S_ s_
    refine V.rn hZ2 (out_1.set k1.toNat (DFrac.mk ⟨n8,l7,(G18 7).ss 0⟩ ⟨n9,l8,(G18 7).ss 1⟩),out_1s,k1+1) [0,1,2,3,4,5,6,7,8,9,10,11,12,13] ?_ ?_
    · refine ⟨?_,?_,?_,?_,?_⟩
      · show 0≤(k1+1);omega
      · show (k1+1)≤(out.length:Int);omega
      · show (out_1.set k1.toNat (DFrac.mk ⟨n8,l7,(G18 7).ss 0⟩ ⟨n9,l8,(G18 7).ss 1⟩)).length=vl_cells.length;rw [(Rc.set_get rfl (by omega) (by omega)).1];exact hf9
      · show ∀ j,j < (k1+1).toNat→Fr.rt ((out_1.set k1.toNat (DFrac.mk ⟨n8,l7,(G18 7).ss 0⟩ ⟨n9,l8,(G18 7).ss 1⟩)).getD j default)∧Fr.qv ((out_1.set k1.toNat (DFrac.mk ⟨n8,l7,(G18 7).ss 0⟩ ⟨n9,l8,(G18 7).ss 1⟩)).getD j default)=Fr.qv (vl_cells.getD j default).Low / Fr.sumW (vl_cells.map (·.Low));intro j hj;by_cases e:j=k1.toNat
        · rw [e,(Rc.set_get rfl (by omega) (by omega)).2.1];exact ⟨zd.rt,by rw [←hx4p];exact zd.v⟩
        rw [(Rc.set_get rfl (by omega) (by omega)).2.2 j e];exact hf10 j (by omega)
      show ∀ j,(k1+1).toNat≤j→j < vl_cells.length→(out_1.set k1.toNat (DFrac.mk ⟨n8,l7,(G18 7).ss 0⟩ ⟨n9,l8,(G18 7).ss 1⟩)).getD j default=(vl_cells.getD j default).Low;intro j hj hk;rw [(Rc.set_get rfl (by omega) (by omega)).2.2 j (by omega)];exact hf11 j (by omega) hk
    show ((vl_cells.length:Int)-(k1+1)).toNat < ((vl_cells.length:Int)-k1).toNat;omega
  refine V.gf [.u 3] fun _ _ G20=>?_;intro S_ s_
  have e0:Fr.Frs out_1 (Fr.shQ (vl_cells.map (·.Low))):=by rw [Fr.shQ_y hE0];exact Rc.frs_of_get (by rw [List.length_map,List.length_map];omega) fun j hj=>⟨(hf10 j (by omega)).1,by rw [Rc.low_map (by omega)];exact (hf10 j (by omega)).2⟩
  obtain ⟨σ0,E0⟩:=Fr.frs_ex e0;subst E0;clear e0;have e1:(0:Int)=Fr.shE (vl_cells.map (·.Low)):=hE0.symm;exact V.rT [0,0] [out_1s] [σ0] [] [] [0,1,2,3,4,6] (cong1 (fun (xz1:Int)=>(.tuple #[out_1s.v,iv xz1]:Value)) e1)

open Go
def mpE {κ α:Type} [DecidableEq κ] [MKey κ] [Dat α] (t a:Bool) (Q:List (κ × α)→Prop) (b:Nat):LE:=.own t (fun e H=>∃ m,Q m∧MP a m b e H) (fun _ _ _ k ⟨m,q,h⟩=>⟨m,q,h.1,fun p hp=>Dat.mono _ _ _ k (h.2 p hp)⟩) True (fun _ _ _=>trivial)
def osE {α:Type} [Dat α] (t:Bool) (E:TypeId) (Q:List α→Prop) (s:SV):LE:=.own t (fun e H=>∃ l,Q l∧OSl E H l s.v e) (fun _ _ _ k ⟨l,q,h⟩=>⟨l,q,h.mono k⟩) True (fun _ _ _=>trivial)
section
variable {P : Program} {E : Env P} {S : Stop} {t : St}
theorem V.chg (r:Nat) {tt:Bool} {p p':Ent→Heaplet→Prop} {m q hq m' q' hq'} (hr:t.L[r]?=some (.own tt p m q hq)) (h:∀ e H,p e H→p' e H) (k:V E S ⟨t.sl,t.F,t.L.set r (.own tt p' m' q' hq')⟩):V E S t:=fun N ε ac w hin=>by
  have hlt:r < t.L.length:=(List.getElem?_eq_some_iff.1 hr).1
  have hents:ents (t.L.set r (.own tt p' m' q' hq')) ε=ents t.L ε:=by
    refine List.ext_getElem? fun j=>?_
    rw [ents_get,ents_get,List.getElem?_set]
    by_cases e:r=j
    · subst e;rw [if_pos rfl,if_pos hlt,hr];rfl
    · rw [if_neg e]
  refine k N ε ac w ⟨hin.slots,by rw [hents];exact hin.st,hin.new,hin.facts,fun j y hy=>?_⟩
  rw [List.getElem?_set] at hy
  by_cases e:r=j
  · subst e
    rw [if_pos rfl,if_pos hlt] at hy
    cases hy
    have h0:=hin.own r _ hr
    cases tt
    · exact h _ _ h0
    · exact h _ _ h0
  · rw [if_neg e] at hy
    exact hin.own j y hy
theorem V.opn {X:Type} (r:Nat) {tt:Bool} {Q:X→Prop} {p:X→Ent→Heaplet→Prop} {m q hq} {m':∀ x e H K,Sub H K→p x e H→p x e K} {q':X→Prop} {hq':∀ x e H,p x e H→q' x} (hr:t.L[r]?=some (.own tt (fun e H=>∃ x,Q x∧p x e H) m q hq)) (k:∀ x,Q x→V E S ⟨t.sl,t.F,t.L.set r (.own tt (p x) (m' x) (q' x) (hq' x))⟩):V E S t:=fun N ε ac w hin=>by
  have h0:=hin.own r _ hr
  have hx:∃ x,Q x∧(LE.own tt (p x) (m' x) (q' x) (hq' x)).at (ε r) N (hun N E.H):=by
    cases tt
    · obtain ⟨x,h1,h2⟩:=h0
      exact ⟨x,h1,h2⟩
    · obtain ⟨x,h1,h2⟩:=h0
      exact ⟨x,h1,h2⟩
  obtain ⟨x,hQ,hx⟩:=hx
  have hlt:r < t.L.length:=(List.getElem?_eq_some_iff.1 hr).1
  have hents:ents (t.L.set r (.own tt (p x) (m' x) (q' x) (hq' x))) ε=ents t.L ε:=by
    refine List.ext_getElem? fun j=>?_
    rw [ents_get,ents_get,List.getElem?_set]
    by_cases e:r=j
    · subst e;rw [if_pos rfl,if_pos hlt,hr];rfl
    · rw [if_neg e]
  refine k x hQ N ε ac w ⟨hin.slots,by rw [hents];exact hin.st,hin.new,hin.facts,fun j y hy=>?_⟩
  rw [List.getElem?_set] at hy
  by_cases e:r=j
  · subst e
    rw [if_pos rfl,if_pos hlt] at hy
    cases hy
    exact hx
  · rw [if_neg e] at hy
    exact hin.own j y hy
theorem V.opM {κ α:Type} [DecidableEq κ] [MKey κ] [Dat α] (r:Nat) (tt a:Bool) (Q:List (κ × α)→Prop) (b:Nat) (hr:t.L[r]?=some (mpE tt a Q b)) (k:∀ m,Q m→V E S ⟨t.sl,t.F,t.L.set r (mp tt a m b)⟩):V E S t:=V.opn r hr k
theorem V.clM {κ α:Type} [DecidableEq κ] [MKey κ] [Dat α] (r:Nat) (tt a:Bool) (Q:List (κ × α)→Prop) (b:Nat) (m:List (κ × α)) (hr:t.L[r]?=some (mp tt a m b)) (hQ:Q m) (k:V E S ⟨t.sl,t.F,t.L.set r (mpE tt a Q b)⟩):V E S t:=V.chg r hr (fun e H h=>⟨m,hQ,h⟩) k
theorem V.opO {α:Type} [Dat α] (r:Nat) (tt:Bool) (T:TypeId) (Q:List α→Prop) (s:SV) (hr:t.L[r]?=some (osE tt T Q s)) (k:∀ l,Q l→V E S ⟨t.sl,t.F,t.L.set r (os tt T l s)⟩):V E S t:=V.opn r hr k
theorem V.clO {α:Type} [Dat α] (r:Nat) (tt:Bool) (T:TypeId) (Q:List α→Prop) (s:SV) (l:List α) (hr:t.L[r]?=some (os tt T l s)) (hQ:Q l) (k:V E S ⟨t.sl,t.F,t.L.set r (osE tt T Q s)⟩):V E S t:=V.chg r hr (fun e H h=>⟨l,hQ,h⟩) k
end
end Kb
