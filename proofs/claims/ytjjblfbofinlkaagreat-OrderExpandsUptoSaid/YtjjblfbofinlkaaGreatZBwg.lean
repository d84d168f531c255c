/- Texts for the claim, put together: the calculus of regions, its rules, and contracts of the functions that the law reaches. -/
import Derived.Test.YtjjblfbofinlkaaGreatZBwf
set_option linter.all false
set_option maxRecDepth 10000
namespace Kb
open Go Go.Proofs
theorem oso_ct (i:BA) (a:List DImport) (j:SV) (b:List DInput) (k:SV) (c:List DTable) (m:SV) (d:List DFunc) (o:SV) (e:List DCell) (p:SV) (f:List DPort) (q:SV) (g:List DStore) (r:SV) (h:List DRecipe) (t:SV) (hS:Sx.Sml i a b c d e f g h) (hL:(a.length:Int)+b.length+c.length+d.length+e.length+f.length+g.length+h.length≤100000000) :
  Cp Tryz.prog 13 #[ag (DSheet.mk i ⟨a,j⟩ ⟨b,k⟩ ⟨c,m⟩ ⟨d,o⟩ ⟨e,p⟩ ⟨f,q⟩ ⟨g,r⟩ ⟨h,t⟩)] [fs true a j,fs true b k,fs true c m,fs true d o,fs true e p,fs true f q,fs true g r,fs true h t] (bv (decide (Zo.snd i a b c d e f g h))):=by
 refine vf mo Tryz.func13 11 1 fun _=>?_
 refine vG [.n 0,.kb false] fun G1=>?_;intro _ _
 refine vG [.l 0,.cA 1 37 [kA 0 a j,kA 1 b k,kA 2 c m,kA 3 d o,kA 4 e p,kA 5 f q,kA 6 g r,kA 7 h t] fun G=>oex_ct i a j b k c m d o e p f q g r h t hS hL,.u 5] fun G2=>?_;intro _ _
 refine vG [.u 2] fun G3=>?_;intro _ _
 exact V.rS [0] [] [] [] [] []
theorem onm_ct_n (m0:Nat):∀ (x:DExpr) (d:List (ByteArray × Int)) (i:Nat) (j:List (Int × Bool)) (o:Nat),Fx.sz (er x) < m0 →
  Ct Tryz.prog 65 #[ag x,.map (some i),.map (some o)] [fs true x.Args.l x.Args.s] [mp false false d i,mp false false j o] (fun g=>.tuple #[]) (fun g=>[]) (fun g=>[mp true false d i,mp true false (Zo.nmE d j (er x)) o]) (fun g=>[]):=by
 induction m0 with
 | zero=>intro _ _ _ _ _ hm;exact absurd hm (Nat.not_lt_zero _)
 | succ m0 ih =>
  intro x d i j o hm;refine vf mo Tryz.func65 37 2 fun k0=>?_;obtain ⟨X, -⟩:Lq x.Args.l x.Args.s.v:=kj k0 0
  refine V.trm false d i 0 (by kernel_rfl) (fun _ _=>trivial) ?_;refine V.trm false j o 1 (by kernel_rfl) (fun _ _=>trivial) ?_;refine vG [.n 2] fun G1=>?_;intro _ _
  refine nm ((mlook x.Name d).getD default:Int) fun x1 P=>nm ((mlook x.Name d).isSome:Bool) fun A M=>vG [.u 2,.l 2,.lk 0 113 9 3 true false true d (fun _=>i) x.Name x1 P A M false,.u 5] fun G2=>?_;intro _ _
  refine vG [.u 3,.l 2,.u 1,.and g0 false A (decide (x.Op=1))] fun G3=>?_;intro _ _
  refine V.cn (b:=A && (decide (x.Op=1))) (iAT Iff.rfl iDT) (iAF Iff.rfl iDF) (fun q1=>?_) (fun q2=>?_)
  ·refine nm (mupd x1 true j:List (Int × Bool)) fun m1 Q=>vG [.u 2,.mu 2 1 114 3 4 true false j (fun _=>o) x1 true m1 Q true (fun _=>rfl) [] (fun _ _ _=>trivial)] fun G4=>?_;intro _ _
   refine vG [.u 1,.l 2,.ln (kF 0 x.Args.l x.Args.s),.u 1] fun G5=>?_;intro _ _
   refine V.lp (γ:=Int × List (Int × Bool)) (fun ⟨k0,mm⟩=>⟨[(1,.map (some i)),(2,.map (some o)),(26,x.Args.s.v),(27,iv (x.Args.l.length:Int)),(28,iv k0)],[fs false x.Args.l x.Args.s],[mp true false d i,mp true false mm o,.no,.no]⟩) (fun ⟨k0,mm⟩=>(0≤k0)∧(k0≤(x.Args.l.length:Int))∧(mm=((x.Args.l.take k0.toNat).map er).foldl (Zo.nmE d) (Zo.nmT d j x))) (fun ⟨k0,mm⟩=>((x.Args.l.length:Int)-k0).toNat) (0,m1) [0] ?_ ?_
   ·refine ⟨by omega,by omega,?_⟩;show m1=((x.Args.l.take (0:Int).toNat).map er).foldl (Zo.nmE d) (Zo.nmT d j x);show _=Zo.nmT d j x;unfold Zo.nmT;subst_vars;first | exact (if_pos (by simpa using q1)).symm | exact (if_neg (by rintro ⟨h1,h2⟩;rcases q1 with h | h;(rw [h1] at h;cases h);exact h h2)).symm
   rintro ⟨k0,mm⟩ hF1 kw6 Z1 hZ1;obtain ⟨Y,Z,B⟩:=hF1;refine vG [.u 1] fun G6=>?_;intro _ _;refine vd (k0 < (x.Args.l.length:Int)) (fun q3=>?_) fun q4=>?_
   ·refine nm (x.Args.l.getD k0.toNat default:DExpr) fun x2 C=>vG [.iX (kF 0 x.Args.l x.Args.s) k0,.lE (kF 0 x.Args.l x.Args.s) k0 true x2 C true,.n 3,.s 3] fun G7=>?_;intro _ _
    refine vG [.l 3,.u 2,.cB 3 65 false [0,1] [] [(kx false (.f 1) x2 x2.Args.l (fun _=>x2.Args.s) (fun _ H (h:Dat.good H (x2:DExpr))=>(exG.1 h))).a] fun G=>ih x2 d i mm o (by have:=Fx.sz_arg (x:=x) (getD_mem (by omega) C);omega)] fun G8=>?_;intro _ _
    refine vG [.aa (k0+1),.u 1] fun G9=>?_;intro _ _
    refine V.rn hZ1 (k0+1,Zo.nmE d mm (er x2)) [0] ?_ ?_
    ·refine ⟨by omega,by omega,?_⟩;show (Zo.nmE d mm (er x2))=((x.Args.l.take (k0+1).toNat).map er).foldl (Zo.nmE d) (Zo.nmT d j x);exact Zo.fold_step B (by omega) (by omega) C
    dsimp only;omega
   have D:mm=Zo.nmE d j (er x):=by rw [Zo.nmE_er];exact Zo.fold_all (by first | exact B | exact E) (by omega)
   subst D;exact V.rS [] [] [] [] [] [0,1]
  refine vG [.u 1,.l 2,.ln (kF 0 x.Args.l x.Args.s),.u 1] fun ab=>?_;intro _ _
  refine V.lp (γ:=Int × List (Int × Bool)) (fun ⟨t,w⟩=>⟨[(1,.map (some i)),(2,.map (some o)),(26,x.Args.s.v),(27,iv (x.Args.l.length:Int)),(28,iv t)],[fs false x.Args.l x.Args.s],[mp true false d i,mp true false w o,.no,.no]⟩) (fun ⟨t,w⟩=>(0≤t)∧(t≤(x.Args.l.length:Int))∧(w=((x.Args.l.take t.toNat).map er).foldl (Zo.nmE d) (Zo.nmT d j x))) (fun ⟨t,w⟩=>((x.Args.l.length:Int)-t).toNat) (0,j) [0] ?_ ?_
  ·refine ⟨by omega,by omega,?_⟩;show j=((x.Args.l.take (0:Int).toNat).map er).foldl (Zo.nmE d) (Zo.nmT d j x);show _=Zo.nmT d j x;unfold Zo.nmT;subst_vars;first | exact (if_pos (by simpa using q2)).symm | exact (if_neg (by rintro ⟨h1,h2⟩;rcases q2 with h | h;(rw [h1] at h;cases h);exact h h2)).symm
  rintro ⟨t,w⟩ hF2 kw12 Z2 hZ2;obtain ⟨ac,ad,E⟩:=hF2;refine vG [.u 1] fun ae=>?_;intro _ _;refine vd (t < (x.Args.l.length:Int)) (fun q5=>?_) fun q6=>?_
  ·refine nm (x.Args.l.getD t.toNat default:DExpr) fun x3 I=>vG [.iX (kF 0 x.Args.l x.Args.s) t,.lE (kF 0 x.Args.l x.Args.s) t true x3 I true,.n 3,.s 3] fun af=>?_;intro _ _
   refine vG [.l 3,.u 2,.cB 3 65 false [0,1] [] [(kx false (.f 1) x3 x3.Args.l (fun _=>x3.Args.s) (fun _ H (h:Dat.good H (x3:DExpr))=>(exG.1 h))).a] fun G=>ih x3 d i w o (by have:=Fx.sz_arg (x:=x) (getD_mem (by omega) I);omega)] fun ah=>?_;intro _ _
   refine vG [.aa (t+1),.u 1] fun ai=>?_;intro _ _
   refine V.rn hZ2 (t+1,Zo.nmE d w (er x3)) [0] ?_ ?_
   ·refine ⟨by omega,by omega,?_⟩;show (Zo.nmE d w (er x3))=((x.Args.l.take (t+1).toNat).map er).foldl (Zo.nmE d) (Zo.nmT d j x);exact Zo.fold_step E (by omega) (by omega) I
   dsimp only;omega
  have D:w=Zo.nmE d j (er x):=by rw [Zo.nmE_er];exact Zo.fold_all (by first | exact B | exact E) (by omega)
  subst D;exact V.rS [] [] [] [] [] [0,1]
theorem onm_ct (x:DExpr) (d:List (ByteArray × Int)) (b:Nat) (h:List (Int × Bool)) (f:Nat) :
  Ct Tryz.prog 65 #[ag x,.map (some b),.map (some f)] [fs true x.Args.l x.Args.s] [mp false false d b,mp false false h f] (fun g=>.tuple #[]) (fun g=>[]) (fun g=>[mp true false d b,mp true false (Zo.nmE d h (er x)) f]) (fun g=>[]):=onm_ct_n (Fx.sz (er x)+1) x d b h f (Nat.lt_succ_self _)
theorem ogr_ct (r:BA) (e:List DImport) (t:SV) (j:List DInput) (x:SV) (k:List DTable) (y:SV) (d:List DFunc) (A:SV) (c:List DCell) (q:SV) (m:List DPort) (B:SV) (o:List DStore) (C:SV) (p:List DRecipe) (D:SV) (hS:Sx.Sml r e j k d c m o p) (hL:(e.length:Int)+j.length+k.length+d.length+c.length+m.length+o.length+p.length≤100000000) :
  Ct Tryz.prog 31 #[ag (DSheet.mk r ⟨e,t⟩ ⟨j,x⟩ ⟨k,y⟩ ⟨d,A⟩ ⟨c,q⟩ ⟨m,B⟩ ⟨o,C⟩ ⟨p,D⟩)] [fs true e t,fs true j x,fs true k y,fs true d A,fs true c q,fs true m B,fs true o C,fs true p D] [] (fun g=>.tuple #[((g.ss 0)).v,bv (decide (Zo.snd r e j k d c m o p))]) (fun g=>[fs true (fats (if (Zo.snd r e j k d c m o p) then Zo.grf (d.map Zc.fe) c else []) (g.sl 0)) (g.ss 0)]) eF eF:=by
 refine vf mo Tryz.func31 72 7 fun k0=>?_;obtain ⟨aL, -⟩:Lq e t.v:=kj k0 0
 obtain ⟨aM, -⟩:Lq j x.v:=kj k0 1;obtain ⟨aN, -⟩:Lq k y.v:=kj k0 2;obtain ⟨aO, -⟩:Lq d A.v:=kj k0 3;obtain ⟨aP, -⟩:Lq c q.v:=kj k0 4;obtain ⟨aQ, -⟩:Lq m B.v:=kj k0 5;obtain ⟨aS, -⟩:Lq o C.v:=kj k0 6;obtain ⟨aT, -⟩:Lq p D.v:=kj k0 7;refine vG [.n 0,.u 1,.kb false] fun G1=>?_;intro _ _;refine vG [.l 0,.cA 1 37 [kA 0 e t,kA 1 j x,kA 2 k y,kA 3 d A,kA 4 c q,kA 5 m B,kA 6 o C,kA 7 p D] fun G=>oex_ct r e t j x k y d A c q m B o C p D hS hL,.u 5] fun G2=>?_;intro _ _;refine nm (tr (Zd.nd (if (Zo.snd r e j k d c m o p) then Zo.exs (d.map Zc.fe) c else [])) ((G2 1).gt 0):DExpr) fun I Y=>?_;refine V.alt (fun (zz:DExpr)=>(⟨[(1,pp ((G1 0).b) 0),(4,zz.Args.s.v),(5,bv (decide (Zo.snd r e j k d c m o p)))],[fs false e t,fs false j x,fs false k y,fs false d A,fs false c q,fs false m B,fs false o C,fs false p D,fs true zz.Args.l zz.Args.s],[.blk ((G1 0).b) (ca (DSheet.mk r ⟨e,t⟩ ⟨j,x⟩ ⟨k,y⟩ ⟨d,A⟩ ⟨c,q⟩ ⟨m,B⟩ ⟨o,C⟩ ⟨p,D⟩)) 31,.no,.no,.no,.no,.no,.no]⟩:St)) Y.symm [0,1,2,3,4,5,6,7,8] (by kernel_rfl) ?_;refine vG [.u 2] fun G3=>?_;intro _ _;refine vn (Zo.snd r e j k d c m o p) (fun q1=>?_) fun q2=>?_
 ·refine vG [.u 1,.kb false] fun G4=>?_;intro _ _
  refine V.nilF (α:=Fat Int) ?_;have e0:([]:List (Fat Int)).map (·.l)=(if (Zo.snd r e j k d c m o p) then Zo.grf (d.map Zc.fe) c else []):=by rw [if_neg (by simpa using q1)];rfl
  rw [←e0];have e1:false=decide (Zo.snd r e j k d c m o p):=by exact (decide_eq_false (by simpa using q1)).symm
  exact V.rT [0,0] [] [] [] [9] [] (cong1 (fun (Z:Bool)=>(.tuple #[SV.v ({}),bv Z]:Value)) e1)
 have Q:(Zo.snd r e j k d c m o p):=by first | exact q2 | exact Decidable.not_not.1 q2 | simpa using q2
 have ai:I.Args.l.map er=(Zo.exs (d.map Zc.fe) c):=by rw [Y,Zd.nd_l,if_pos Q]
 have aU:I.Args.l.length=c.length:=by have:=congrArg List.length ai;rw [List.length_map,Zo.exs_len] at this;exact this
 have ay:(Zo.exs (d.map Zc.fe) c).length=c.length:=Zo.exs_len _ _;refine vG [.mm ByteArray Int 0 1 false,.u 1] fun G5=>?_;intro _ _
 refine vG [.u 1,.l 0,.ln (kF 4 c q),.u 1] fun G6=>?_;intro _ _
 refine V.lp (γ:=Int × List (ByteArray × Int)) (fun ⟨k0,ix⟩=>⟨[(1,pp ((G1 0).b) 0),(4,I.Args.s.v),(6,.map (some ((G5 0).b))),(23,q.v),(24,iv (c.length:Int)),(25,iv k0)],[fs true I.Args.l I.Args.s,fs false c q,fs false e t,fs false j x,fs false k y,fs false d A,fs false m B,fs false o C,fs false p D],[.blk ((G1 0).b) (ca (DSheet.mk r ⟨e,t⟩ ⟨j,x⟩ ⟨k,y⟩ ⟨d,A⟩ ⟨c,q⟩ ⟨m,B⟩ ⟨o,C⟩ ⟨p,D⟩)) 31,mp true false ix ((G5 0).b),.no,.no,.no,.no,.no]⟩) (fun ⟨k0,ix⟩=>(0≤k0)∧(k0≤(c.length:Int))∧(Zo.ixR ((c.drop k0.toNat).map (·.Name)) k0 ix=Zo.ixS c)) (fun ⟨k0,ix⟩=>((c.length:Int)-k0).toNat) (0,([]:List (ByteArray × Int))) [8,4,0,1,2,3,5,6,7] ?_ ?_
 ·refine ⟨by omega,by omega,?_⟩;show Zo.ixR ((c.drop (0:Int).toNat).map (·.Name)) (0:Int) ([]:List (ByteArray × Int))=Zo.ixS c;rfl
 rintro ⟨k0,ix⟩ hF1 kw7 Z1 hZ1;obtain ⟨aV,aW,aj⟩:=hF1;refine vG [.u 1] fun G7=>?_;intro _ _;refine vd (k0 < (c.length:Int)) (fun q3=>?_) fun q4=>?_
 ·refine nm (c.getD k0.toNat default:DCell) fun x1 ak=>vG [.u 1,.iX (kF 1 c q) k0,.lE (kF 1 c q) k0 true x1 ak true,.n 2,.u 1,.s 2] fun G8=>?_;intro _ _
  refine nm (mupd x1.Name k0 ix:List (ByteArray × Int)) fun m1 al=>vG [.u 2,.l 2,.u 1,.mu 4 1 113 9 3 true false ix (fun _=>(G5 0).b) x1.Name k0 m1 al true (fun _=>rfl) [] (fun _ _ _=>trivial)] fun G9=>?_;intro _ _
  refine vG [.aa (k0+1),.u 1] fun aX=>?_;intro _ _
  refine V.rn hZ1 (k0+1,m1) [0,1,2,3,4,5,6,7,8] ?_ ?_
  ·refine ⟨by omega,by omega,?_⟩;show Zo.ixR ((c.drop (k0+1).toNat).map (·.Name)) (k0+1) m1=Zo.ixS c;rw [al];exact Zo.ixR_step aj (by omega) (by omega) ak
  dsimp only;omega
 refine nm (List.replicate (I.Args.l.length:Int).toNat (default:Rw):List Rw) fun l1 ab=>?_;have am:=congrArg List.length ab;try simp at am
 refine vG [.u 1,.ln (kG 0 I.Args.l I.Args.s),.mks 2 3 34 24 (I.Args.l.length:Int) l1 ab (by omega) (by omega) (by omega),.u 1] fun az=>?_;intro _ _
 refine VT.mk (T:=TabX 3 none (List.replicate (I.Args.l.length:Int).toNat []) l1) ?_ (by rw [ab];exact tab_new _ _);refine VT.sub fun aY aZ a0 a1 aA aB=>?_;intro s_
 have aC:=Zo.ixR_end aj (by omega);refine vG [.u 1,.ln (kF 0 I.Args.l I.Args.s),.u 1] fun a2=>?_;intro _ _
 refine V.ofVT aA aB ?_;refine VT.loop (γ:=List Rw × SV × Int) (fun ⟨P,M,k1⟩=>⟨[(1,pp ((G1 0).b) 0),(6,.map (some ((G5 0).b))),(9,M.v),(38,I.Args.s.v),(39,iv (I.Args.l.length:Int)),(40,iv k1)],[fs false I.Args.l I.Args.s,fs false e t,fs false j x,fs false k y,fs false d A,fs false c q,fs false m B,fs false o C,fs false p D],[.blk ((G1 0).b) (ca (DSheet.mk r ⟨e,t⟩ ⟨j,x⟩ ⟨k,y⟩ ⟨d,A⟩ ⟨c,q⟩ ⟨m,B⟩ ⟨o,C⟩ ⟨p,D⟩)) 31,mp false false ix ((G5 0).b),.no,os false 34 P M,.no,.no,.no]⟩) (fun ⟨P,M,k1⟩=>TabX 3 none (Zo.rowsK (Zo.ixS c) (Zo.exs (d.map Zc.fe) c) c.length k1.toNat) (P)) (fun ⟨P,M,k1⟩=>(0≤k1)∧(k1≤(I.Args.l.length:Int))∧(P.length=c.length)) (fun ⟨P,M,k1⟩=>((I.Args.l.length:Int)-k1).toNat) (l1,(az 2).s,0) (by kernel_rfl) [0,2,3,4,5,1,6,7,8] (by kernel_rfl) (TabX.cast ?_) ?_ ?_
 ·show List.replicate (I.Args.l.length:Int).toNat []=Zo.rowsK (Zo.ixS c) (Zo.exs (d.map Zc.fe) c) c.length (0:Int).toNat;rw [show (0:Int).toNat=0 by rfl,Zo.rowsK_0,ay];congr 1 <;> omega
 ·refine ⟨by omega,by omega,?_⟩;show l1.length=c.length
  first | omega | rfl | (simp;done) | (subst_vars;simp;done)
 rintro ⟨P,M,k1⟩ hF2 kw14 Z2 hZ2 S_ s_;obtain ⟨a3,a4,a5⟩:=hF2;refine VT.sub fun a6 a7 a8 a9 an ao=>?_;intro s_;refine vG [.u 1] fun ba=>?_;intro _ _;refine vd (k1 < (I.Args.l.length:Int)) (fun q5=>?_) fun q6=>?_
 ·refine nm (I.Args.l.getD k1.toNat default:DExpr) fun x2 aq=>vG [.u 1,.iX (kF 0 I.Args.l I.Args.s) k1,.lE (kF 0 I.Args.l I.Args.s) k1 true x2 aq true,.n 4,.u 1,.s 4] fun aD=>?_;intro _ _
  have aE:(Zo.exs (d.map Zc.fe) c).getD k1.toNat default=er x2:=by rw [←ai,List.getD_eq_getElem?_getD,List.getElem?_map,aq,List.getD_eq_getElem?_getD,List.getElem?_eq_getElem (by omega)];rfl
  refine vG [.mm Int Bool 0 5 false,.u 1] fun X=>?_;intro _ _
  refine vG [.l 4,.u 2,.cB 3 65 false [1,5] [] [(kx false (.f 9) x2 x2.Args.l (fun _=>x2.Args.s) (fun _ H (h:Dat.good H (x2:DExpr))=>(exG.1 h))).a] fun G=>onm_ct x2 ix ((G5 0).b) ([]:List (Int × Bool)) ((X 0).b)] fun bb=>?_;intro _ _
  refine vG [.u 1,.l 0,.ln (kF 5 c q),.u 1] fun bc=>?_;intro _ _
  refine V.ofVT an ao ?_;refine VT.loop (γ:=List Rw × SV × Int) (fun ⟨w,E,k2⟩=>⟨[(1,pp ((G1 0).b) 0),(6,.map (some ((G5 0).b))),(9,E.v),(10,iv k1),(12,.map (some ((X 0).b))),(38,I.Args.s.v),(39,iv (I.Args.l.length:Int)),(40,iv k1),(52,iv (c.length:Int)),(53,iv k2)],[fs false I.Args.l I.Args.s,fs false e t,fs false j x,fs false k y,fs false d A,fs false c q,fs false m B,fs false o C,fs false p D,gf false x2],[.blk ((G1 0).b) (ca (DSheet.mk r ⟨e,t⟩ ⟨j,x⟩ ⟨k,y⟩ ⟨d,A⟩ ⟨c,q⟩ ⟨m,B⟩ ⟨o,C⟩ ⟨p,D⟩)) 31,mp false false ix ((G5 0).b),.no,os false 34 w E,.blk ((aD 3).b) (ca x2) 48,mp false false (Zo.nmE ix ([]:List (Int × Bool)) (er x2)) ((X 0).b),.no]⟩) (fun ⟨w,E,k2⟩=>TabX 3 none ((Zo.rowsK (Zo.ixS c) (Zo.exs (d.map Zc.fe) c) c.length k1.toNat).set k1.toNat (Zo.rowM (Zo.nmE ix [] (er x2)) k2.toNat)) (w)) (fun ⟨w,E,k2⟩=>(0≤k2)∧(k2≤(c.length:Int))∧(w.length=c.length)) (fun ⟨w,E,k2⟩=>((c.length:Int)-k2).toNat) (P,M,0) (by kernel_rfl) [0,1,2,3,4,5,6,7,8,9] (by kernel_rfl) (TabX.cast ?_) ?_ ?_
  ·show Zo.rowsK (Zo.ixS c) (Zo.exs (d.map Zc.fe) c) c.length k1.toNat=(Zo.rowsK (Zo.ixS c) (Zo.exs (d.map Zc.fe) c) c.length k1.toNat).set k1.toNat (Zo.rowM (Zo.nmE ix [] (er x2)) (0:Int).toNat);exact (Zo.rowsK_id (by omega)).symm
  ·refine ⟨by omega,by omega,?_⟩;show P.length=c.length
   first | omega | rfl | (simp;done) | (subst_vars;simp;done)
  rintro ⟨w,E,k2⟩ hF3 kw20 Z3 hZ3 S_ s_;obtain ⟨be,bf,bg⟩:=hF3;refine VT.sub fun bh bi bj bk ac ad=>?_;intro s_;refine vG [.u 1] fun bm=>?_;intro _ _;refine vd (k2 < (c.length:Int)) (fun q7=>?_) fun q8=>?_
  ·refine vG [.u 2] fun bn=>?_;intro _ _
   refine nm ((mlook k2 (Zo.nmE ix ([]:List (Int × Bool)) (er x2))).getD default:Bool) fun x3 ae=>nm ((mlook k2 (Zo.nmE ix ([]:List (Int × Bool)) (er x2))).isSome:Bool) fun aF au=>vG [.u 2,.lk 5 114 3 4 false false false (Zo.nmE ix ([]:List (Int × Bool)) (er x2)) (fun _=>(X 0).b) k2 x3 ae aF au false] fun bp=>?_;intro _ _
   refine vc x3 (fun q9=>?_) fun aG=>?_
   ·obtain ⟨x4,av⟩:∃ z:Rw,z=(w).getD (k1).toNat default:=⟨_,rfl⟩;obtain ⟨l2,af⟩:∃ z:List Int,z=((Zo.rowsK (Zo.ixS c) (Zo.exs (d.map Zc.fe) c) c.length k1.toNat).set k1.toNat (Zo.rowM (Zo.nmE ix [] (er x2)) k2.toNat)).getD (k1).toNat []:=⟨_,rfl⟩;refine V.ofVT ac ad ?_;refine VT.focus 6 (k1).toNat l2 x4.s (by kernel_rfl) (by rw [List.length_set,Zo.rowsK_len];omega) af (by rw [av]) ?_;intro s_;refine VT.sub fun bq br bs bt aH aI=>?_;intro s_;refine nm (l2 ++[k2]:LI) fun l3 aw=>?_;have bu:l2.length≤c.length:=by rw [af,Zo.getD_set (by rw [Zo.rowsK_len];omega)];have:=Zo.rowM_len (Zo.nmE ix [] (er x2)) k2.toNat;omega
    refine vG [.u 4,.iX (ko false 34 3 w (fun _=>E)) k1,.lE (ko false 34 3 w (fun _=>E)) k1 false x4 av false,.u 1,.nr 7 true 3 [k2] [] (fun _ _ _ _ _=>trivial) (fun _=>#[iv k2]),.ap 8 6 3 8 false false l2 (fun _=>x4.s) (kf true (.g 7 0) [k2] (fun G=>⟨atB (G 7).b,1,1⟩)) true l3 aw (by first | omega | (simp;omega) | simp) (fun h=>by cases h) (.inr fun _ _=>trivial),.iX (ko false 34 3 w (fun _=>E)) k1,.seR g0 10 3 34 false w (fun _=>E) k1 (fun G=>(G 8).s) (fun _=>⟨by omega,by omega⟩)] fun ah=>?_;intro _ _
    refine V.ofVT aH aI ?_;refine VT.unfocus 6 (k1).toNat true l3 ((ah 8).s) (by kernel_rfl) (by rw [List.length_set,Zo.rowsK_len];omega) ?_;intro s_;refine VT.sub fun bw bx bz bA aJ aK=>?_;intro s_
    refine vG [.aa (k2+1),.u 1] fun bB=>?_;intro _ _
    refine V.ofVT aJ aK ?_;refine VT.rnd hZ3 (w.set (k1).toNat ⟨(ah 8).s⟩,E,k2+1) [0,1,2,3,4,5,6,7,8,9] (by kernel_rfl) (TabX.cast ?_) ?_ ?_
    ·show ((Zo.rowsK (Zo.ixS c) (Zo.exs (d.map Zc.fe) c) c.length k1.toNat).set k1.toNat (Zo.rowM (Zo.nmE ix [] (er x2)) k2.toNat)).set (k1).toNat l3=(Zo.rowsK (Zo.ixS c) (Zo.exs (d.map Zc.fe) c) c.length k1.toNat).set k1.toNat (Zo.rowM (Zo.nmE ix [] (er x2)) (k2+1).toNat);rw [List.set_set,Zo.rowM_step _ _ (by omega),if_pos (by rw [←ae];exact q9),aw,af,Zo.getD_set (by rw [Zo.rowsK_len];omega)]
    ·refine ⟨?_,?_,?_⟩
     ·show 0≤(k2+1)
      first | omega | (rw [List.length_set];omega)
     ·show (k2+1)≤(c.length:Int)
      first | omega | (rw [List.length_set];omega)
     show (w.set (k1).toNat ⟨(ah 8).s⟩).length=c.length
     first | omega | (rw [List.length_set];omega)
    dsimp only;omega
   refine vG [.aa (k2+1),.u 1] fun bC=>?_;intro _ _
   refine V.ofVT ac ad ?_;refine VT.rnd hZ3 (w,E,k2+1) [0,1,2,3,4,5,6,7,8,9] (by kernel_rfl) (TabX.cast ?_) ?_ ?_
   ·show (Zo.rowsK (Zo.ixS c) (Zo.exs (d.map Zc.fe) c) c.length k1.toNat).set k1.toNat (Zo.rowM (Zo.nmE ix [] (er x2)) k2.toNat)=(Zo.rowsK (Zo.ixS c) (Zo.exs (d.map Zc.fe) c) c.length k1.toNat).set k1.toNat (Zo.rowM (Zo.nmE ix [] (er x2)) (k2+1).toNat);rw [Zo.rowM_step _ _ (by omega),if_neg (by rw [←ae,aG];simp),List.append_nil]
   ·refine ⟨?_,?_,?_⟩
    ·show 0≤(k2+1)
     first | omega | (rw [List.length_set];omega)
    ·show (k2+1)≤(c.length:Int)
     first | omega | (rw [List.length_set];omega)
    show w.length=c.length
    first | omega | (rw [List.length_set];omega)
   dsimp only;omega
  refine vG [.aa (k1+1),.u 1] fun bD=>?_;intro _ _
  refine V.ofVT ac ad ?_;refine VT.rnd hZ2 (w,E,k1+1) [0,1,2,3,4,5,6,7,8] (by kernel_rfl) (TabX.cast ?_) ?_ ?_
  ·show (Zo.rowsK (Zo.ixS c) (Zo.exs (d.map Zc.fe) c) c.length k1.toNat).set k1.toNat (Zo.rowM (Zo.nmE ix [] (er x2)) k2.toNat)=Zo.rowsK (Zo.ixS c) (Zo.exs (d.map Zc.fe) c) c.length (k1+1).toNat;rw [show k2.toNat=c.length by omega,aC,show (k1+1).toNat=k1.toNat+1 by omega];exact Zo.rowsK_step (by omega) aE
  ·refine ⟨by omega,by omega,?_⟩;show w.length=c.length
   first | omega | rfl | (simp;done) | (subst_vars;simp;done)
  dsimp only;omega
 refine vG [.u 2,.kb true] fun bE=>?_;intro _ _
 refine V.ofVT an ao ?_;refine VT.fin 3 false 34 M (by kernel_rfl) ?_;intro s_;refine nm ((fats (Zo.rowsK (Zo.ixS c) (Zo.exs (d.map Zc.fe) c) c.length k1.toNat) fun i=>((P).getD i default).s):List (Fat Int)) fun l4 ax=>?_;refine V.alt (fun (zz:List (Fat Int))=>(⟨[(2,M.v),(3,bv true)],[fs false I.Args.l I.Args.s,fs false e t,fs false j x,fs false k y,fs false d A,fs false c q,fs false m B,fs false o C,fs false p D],[.blk ((G1 0).b) (ca (DSheet.mk r ⟨e,t⟩ ⟨j,x⟩ ⟨k,y⟩ ⟨d,A⟩ ⟨c,q⟩ ⟨m,B⟩ ⟨o,C⟩ ⟨p,D⟩)) 31,mp false false ix ((G5 0).b),.no,os true 34 zz M,.no,.no,.no]⟩:St)) ax.symm [0,1,2,3,4,5,6,7,8] (by kernel_rfl) ?_
 refine V.frz 3 true 34 l4 M (by kernel_rfl) ?_;have e0:l4.map (·.l)=(if (Zo.snd r e j k d c m o p) then Zo.grf (d.map Zc.fe) c else []):=by rw [ax,fats_l,if_pos Q,Zo.rowsK_end (by omega)];rfl
 obtain ⟨σ0,E0⟩:=fats_ex e0;subst E0;clear e0;have e1:true=decide (Zo.snd r e j k d c m o p):=(decide_eq_true Q).symm;exact V.rT [0,0] [M] [σ0] [] [9] [] (cong1 (fun (Z:Bool)=>(.tuple #[M.v,bv Z]:Value)) e1)

open Go
section
variable {P : Program} {E : Env P} {S : Stop} {t : St}
theorem V.mv (r q b:Nat) (f:Array Value) (T:TypeId) (h:(t.L[q]?,decide (r=q),decide (r < t.L.length))=(some (.blk b f T),false,true)) (k:let t':St:=⟨t.sl,t.F,(t.L.set r (.blk b f T)).set q .no⟩;V E S t'):V E S t:=fun N ε a w d=>by
 simp only [Prod.mk.injEq,decide_eq_false_iff_not,decide_eq_true_eq] at h;obtain ⟨hq,C,hr⟩:=h;have i:∀ (j c:Nat) (o:Obj),(ents ((t.L.set r (.blk b f T)).set q .no) ε)[j]?=some (some (c,o))→j≠q∧(ents t.L ε)[if j=r then q else j]?=some (some (c,o)):=fun j c o he=>by
  rcases set_ents (L:=t.L.set r (.blk b f T)) (ε:=ε) (ε':=ε) (by rw [List.length_set];exact (List.getElem?_eq_some_iff.1 hq).1) (fun _ _=>rfl) j c o he with ⟨_,he⟩ | ⟨hj,he⟩
  ·cases he
  ·refine ⟨hj,?_⟩;rcases set_ents (ε:=ε) (ε':=ε) hr (fun _ _=>rfl) j c o he with ⟨A,he⟩ | ⟨A,he⟩
   ·rw [if_pos A,ents_get,hq];exact congrArg some he
   ·rw [if_neg A];exact he
 refine k N ε a w ⟨d.slots,⟨d.st.base,d.st.agr,fun j c o he=>d.st.ent _ c o (i j c o he).2,fun j j' c o o' he B=>?_⟩,d.new,d.facts,fun j x hx=>?_⟩
 ·obtain ⟨h1,h2⟩:=i j c o he;obtain ⟨h3,h4⟩:=i j' c o' B
  have:=d.st.dis _ _ c o o' h2 h4
  split at this <;> split at this <;> omega
 ·rcases set_get hx with ⟨_,rfl⟩ | ⟨_,hx⟩
  ·trivial
  ·rcases set_get hx with ⟨_,rfl⟩ | ⟨_,hx⟩
   ·trivial
   ·exact d.own j x hx
theorem V.lqF {α:Type} [Dat α] (j:Nat) (b:Bool) (l:List α) (s:SV) (h:t.F[j]?=some (fs b l s)) (k:(s.a.isNone=true→l=[])→V E S t):V E S t:=fun N ε a w d=>by
 have h1:Lq l s.v:=FP.lim_of (d.facts _ (List.mem_of_getElem? h));exact k (fun hn=>h1.2 s rfl hn) N ε a w d
end

theorem ond_ct (m:BA) (d:List DImport) (o:SV) (e:List DInput) (p:SV) (f:List DTable) (q:SV) (c:List DFunc) (r:SV) (a:List DCell) (t:SV) (i:List DPort) (x:SV) (j:List DStore) (y:SV) (k:List DRecipe) (z:SV) (cell:Int) (hS:Sx.Sml m d e f c a i j k) (hL:(d.length:Int)+e.length+f.length+c.length+a.length+i.length+j.length+k.length≤100000000) :
  Ct Tryz.prog 16 #[ag (DSheet.mk m ⟨d,o⟩ ⟨e,p⟩ ⟨f,q⟩ ⟨c,r⟩ ⟨a,t⟩ ⟨i,x⟩ ⟨j,y⟩ ⟨k,z⟩),iv cell] [fs true d o,fs true e p,fs true f q,fs true c r,fs true a t,fs true i x,fs true j y,fs true k z] [] (fun g=>((g.ss 0)).v) (fun g=>[fs true (if (Zo.snd m d e f c a i j k)∧0≤cell∧cell < (a.length:Int) then (Zo.grf (c.map Zc.fe) a).getD cell.toNat [] else []) (g.ss 0)]) eF eF:=by
 refine vf mo Tryz.func16 28 1 fun _=>?_
 refine vG [.n 0,.u 1] fun G1=>?_;intro _ _
 refine vG [.l 0,.cA 1 31 [kA 0 d o,kA 1 e p,kA 2 f q,kA 3 c r,kA 4 a t,kA 5 i x,kA 6 j y,kA 7 k z] fun G=>ogr_ct m d o e p f q c r a t i x j y k z hS hL,.u 5] fun G2=>?_;intro _ _
 refine nm (fats (if (Zo.snd m d e f c a i j k) then Zo.grf (c.map Zc.fe) a else []) ((G2 1).sl 0):List (Fat Int)) fun gr1 w=>?_;refine V.alt (fun (zz:List (Fat Int))=>(⟨[(1,iv cell),(5,((G2 1).ss 0).v),(6,bv (decide (Zo.snd m d e f c a i j k)))],[fs false d o,fs false e p,fs false f q,fs false c r,fs false a t,fs false i x,fs false j y,fs false k z,fs true zz ((G2 1).ss 0)],[.blk ((G1 0).b) (ca (DSheet.mk m ⟨d,o⟩ ⟨e,p⟩ ⟨f,q⟩ ⟨c,r⟩ ⟨a,t⟩ ⟨i,x⟩ ⟨j,y⟩ ⟨k,z⟩)) 31]⟩:St)) w.symm [0,1,2,3,4,5,6,7,8] (by kernel_rfl) ?_
 have A:gr1.map (·.l)=(if (Zo.snd m d e f c a i j k) then Zo.grf (c.map Zc.fe) a else []):=by rw [w,fats_l]
 clear w;have B:(Zo.snd m d e f c a i j k)→gr1.length=a.length:=fun h=>by have:=congrArg List.length A;rw [List.length_map,if_pos h,Zo.grf_len] at this;exact this
 refine nm ((!(decide (Zo.snd m d e f c a i j k))) || (decide (cell < 0)):Bool) fun p1 C=>vG [.u 5,.orn g0 false (!(decide (Zo.snd m d e f c a i j k))) (decide (cell < 0)) p1 C,.u 3,.ln (kG 8 gr1 ((G2 1).ss 0)),.u 1,.or g0 false p1 (decide ((gr1.length:Int)≤cell))] fun G3=>?_;intro _ _
 refine V.cn (b:=p1 || (decide ((gr1.length:Int)≤cell))) (iOT (iN C (iOT (iNT iDF) iDT)) iDT) (iOF (iN C (iOF (iNF iDT) iDF)) iDF) (fun q1=>?_) (fun q2=>?_)
 ·refine vG [.u 1] fun G4=>?_;intro _ _
  refine V.nilF (α:=Int) ?_;have e0:([]:LI)=(if (Zo.snd m d e f c a i j k)∧0≤cell∧cell < (a.length:Int) then (Zo.grf (c.map Zc.fe) a).getD cell.toNat [] else []):=by rw [if_neg];rintro ⟨h1,h2,h3⟩;have h4:=B h1;rcases q1 with (h | h) | h;exact h h1;omega;omega
  rw [←e0];exact V.rS [0] [] [] [] [9] []
 refine nm (gr1.getD cell.toNat default:Fat Int) fun x1 E=>vG [.u 2,.iX (kG 8 gr1 ((G2 1).ss 0)) cell,.lE (kG 8 gr1 ((G2 1).ss 0)) cell true x1 E false,.u 1] fun G5=>?_;intro _ _
 have e0:x1.l=(if (Zo.snd m d e f c a i j k)∧0≤cell∧cell < (a.length:Int) then (Zo.grf (c.map Zc.fe) a).getD cell.toNat [] else []):=by
  rw [E];have D:((Zo.snd m d e f c a i j k)∧¬ cell < 0)∧¬ ((gr1.length:Int)≤cell):=by have h:=q2;first | exact h | simpa using h | grind
  have h4:=B D.1.1;rw [if_pos ⟨D.1.1,by omega,by omega⟩,show Zo.grf (c.map Zc.fe) a=gr1.map (·.l) by rw [A,if_pos D.1.1],getD_l];rfl
 rw [←e0];refine V.exF 9 true x1 x1.l x1.s (by kernel_rfl) (fun _ h=>h) ?_;exact V.rS [0] [x1.s] [] [] [10] []
theorem ofr1_ct (k:Int) (h:Nat) (d:LI) (b:SV) (f:Nat) (step:Int) (hk:0≤k∧k < d.length) (j:1≤step∧step≤1000000000) :
  Ct Tryz.prog 81 #[iv k,pp h 0,pp f 0] [fs true d b] [.blk h #[b.v] 34,.blk f #[iv step] 3] (fun g=>bv (decide (d.getD k.toNat default=step-1))) (fun g=>[]) (fun g=>[.blk h #[b.v] 34,.blk f #[iv step] 3]) (fun g=>[]):=by
 refine vf mo Tryz.func81 12 0 fun _=>?_
 refine vG [.kb false] fun G1=>?_;intro _ _
 refine nm (d.getD k.toNat default:Int) fun v1 i=>vG [.l 0,.u 1,.iX (kF 0 d b) k,.lE (kF 0 d b) k false v1 i false,.l 1,.aa (step-1),.u 2] fun G2=>?_;intro _ _
 have e0:(decide (v1=step-1))=(decide (d.getD k.toNat default=step-1)):=by rw [i]
 exact vb 0 [0,1] e0
theorem ofri_ct (s:LI) (ss:SV) (h:Nat) (b:LI) (f:SV) (d:Nat) (step:Int) (hk:∀ y ∈ s,0≤y∧y < (b.length:Int)) (t:1≤step∧step≤1000000000) :
  Ct Tryz.prog 119 #[ss.v,.func (.func 81) #[] #[pp h 0,pp d 0]] [fs true s ss,fs true b f] [.blk h #[f.v] 34,.blk d #[iv step] 3] (fun g=>iv (fidx (fun y:Int=>decide (b.getD y.toNat default=step-1)) s)) (fun g=>[]) (fun g=>[.blk h #[f.v] 34,.blk d #[iv step] 3]) (fun g=>[]):=by
 refine vf mo Tryz.func119 19 0 fun k0=>?_;obtain ⟨w, -⟩:Lq s ss.v:=kj k0 0
 refine vG [.u 1] fun G1=>?_;intro _ _
 refine vG [.u 1,.ln (kF 0 s ss),.u 1] fun G2=>?_;intro _ _
 refine V.lp (γ:=Int) (fun k0=>⟨[(0,ss.v),(1,.func (.func 81) #[] #[pp h 0,pp d 0]),(7,iv (s.length:Int)),(8,iv k0)],[fs false s ss,fs false b f],[.blk h #[f.v] 34,.blk d #[iv step] 3]⟩) (fun k0=>(0≤k0)∧(k0≤(s.length:Int))∧(∀ j,j < k0.toNat→(fun y:Int=>decide (b.getD y.toNat default=step-1)) (s.getD j default)=false)) (fun k0=>((s.length:Int)-k0).toNat) 0 [0,1] ?_ ?_
 ·refine ⟨by omega,by omega,?_⟩;show ∀ j,j < (0:Int).toNat→(fun y:Int=>decide (b.getD y.toNat default=step-1)) (s.getD j default)=false;intro j hj;simp at hj
 rintro k0 hF1 kw3 Z1 hZ1;obtain ⟨A,B,o⟩:=hF1;refine vG [.u 1] fun G3=>?_;intro _ _;refine vd (k0 < (s.length:Int)) (fun q1=>?_) fun q2=>?_
 ·refine vG [.u 2] fun G4=>?_;intro _ _
  refine nm (s.getD k0.toNat default:Int) fun v1 i=>vG [.u 3,.iX (kF 0 s ss) k0,.lE (kF 0 s ss) k0 false v1 i false,.cB 5 81 false [0,1] [] [kA 1 b f] fun G=>ofr1_ct v1 h b f d step (hk _ (getD_mem (by omega) i)) t] fun G5=>?_;intro _ _
  refine vd (b.getD v1.toNat default=step-1) (fun q3=>?_) fun q4=>?_
  ·refine vG [.u 2] fun G6=>?_;intro _ _
   have e0:k0=fidx (fun y:Int=>decide (b.getD y.toNat default=step-1)) s:=by rw [fidx_at (p:=(fun y:Int=>decide (b.getD y.toNat default=step-1))) (k:=k0) (by omega) (by omega) i o (by simpa using q3)]
   exact vi 0 [0,1] e0
  refine vG [.aa (k0+1),.u 1] fun G7=>?_;intro _ _
  refine V.rn hZ1 (k0+1) [0,1] ?_ ?_
  ·refine ⟨by omega,by omega,?_⟩;show ∀ j,j < (k0+1).toNat→(fun y:Int=>decide (b.getD y.toNat default=step-1)) (s.getD j default)=false;exact fidx_step (p:=(fun y:Int=>decide (b.getD y.toNat default=step-1))) o (by omega) i (by simpa using q4)
  omega
 refine vG [.u 1] fun G8=>?_;intro _ _
 have e0:(-1:Int)=fidx (fun y:Int=>decide (b.getD y.toNat default=step-1)) s:=(fidx_no fun j hj=>o j (by omega)).symm;exact vi 0 [0,1] e0
theorem ofri_ctv (s:List Int) (ss:SV) (d:Nat) (h:List Int) (f:SV) (b:Nat) (step:Int) (hk:∀ y ∈ s,0≤y∧y < (h.length:Int)) (o:1≤step∧step≤1000000000) (i:Int) (j:i=fidx (fun y:Int=>decide (h.getD y.toNat default=step - 1)) s) :
  Ct Tryz.prog 119 #[ss.v,.func (.func 81) #[] #[pp d 0,pp b 0]] [fs true s ss,fs true h f] [.blk d #[f.v] 34,.blk b #[iv step] 3] (fun g=>iv i) (fun g=>[]) (fun g=>[.blk d #[f.v] 34,.blk b #[iv step] 3]) (fun g=>[]):=by
 subst j;exact ofri_ct s ss d h f b step hk o
theorem ofrk_ct (s:LI) (ss:SV) (h:Nat) (f:LI) (d:SV) (b:Nat) (step:Int) (hk:∀ y ∈ s,0≤y∧y < (f.length:Int)) (o:1≤step∧step≤1000000000) :
  Ct Tryz.prog 80 #[ss.v,.func (.func 81) #[] #[pp h 0,pp b 0]] [fs true s ss,fs true f d] [.blk h #[d.v] 34,.blk b #[iv step] 3] (fun g=>bv (s.any (fun y:Int=>decide (f.getD y.toNat default=step-1)))) (fun g=>[]) (fun g=>[.blk h #[d.v] 34,.blk b #[iv step] 3]) (fun g=>[]):=by
 refine vf mo Tryz.func80 9 0 fun _=>?_
 refine vG [.kb false] fun G1=>?_;intro _ _
 refine nm (fidx (fun y:Int=>decide (f.getD y.toNat default=step-1)) s:Int) fun n1 i=>vG [.u 2,.cB 2 119 false [0,1] [] [kA 0 s ss,kA 1 f d] fun G=>ofri_ctv s ss h f d b step (by assumption) (by omega) n1 i,.u 2] fun G2=>?_;intro _ _
 have e0:(decide (0≤n1))=(s.any (fun y:Int=>decide (f.getD y.toNat default=step-1))):=by
  refine Bool.eq_iff_iff.2 (Iff.trans iDT (Iff.trans ?_ Iff.rfl));have j:=i;rw [j];exact fidx_nn
 exact vb 0 [0,1] e0
theorem ofa_ct (gr:List (Fat Int)) (A:SV) (goal:Int) (hg:∀ x ∈ gr,∀ y ∈ x.l,0≤y∧y < (gr.length:Int)) (ai:0≤goal∧goal < (gr.length:Int)) (hn:(gr.length:Int)≤1000000000) :
  Ct Tryz.prog 42 #[A.v,iv goal] [fs true gr A] [] (fun g=>((g.ss 0)).v) (fun g=>[fs true (Zo.farD (gr.map (·.l)) goal.toNat) (g.ss 0)]) eF eF:=by
 refine vf mo Tryz.func42 55 4 fun _=>?_
 refine vG [.u 1] fun G1=>?_;intro _ _
 refine nm (List.replicate (gr.length:Int).toNat (0:Int):LI) fun l1 D=>?_;have X:=congrArg List.length D;try simp at X
 refine vG [.u 1,.ln (kF 0 gr A),.mks 2 0 3 8 (gr.length:Int) l1 D (by omega) (by omega) (by omega),.n 1,.s 1] fun G2=>?_;intro _ _
 refine vG [.l 1,.ln (kO 3 0 l1 (G2 2).s),.u 1] fun G3=>?_;intro _ _
 refine V.lp (γ:=Int × List Int × SV) (fun ⟨k0,B,t⟩=>⟨[(0,A.v),(1,iv goal),(5,pp ((G2 3).b) 0),(14,iv (l1.length:Int)),(15,iv k0)],[fs false gr A],[os true 3 B t,.blk ((G2 3).b) #[t.v] 34,.no,.no]⟩) (fun ⟨k0,B,t⟩=>(0≤k0)∧(k0≤(l1.length:Int))∧(B.length=gr.length)∧(B=List.replicate k0.toNat (-1:Int) ++List.replicate (gr.length-k0.toNat) 0)) (fun ⟨k0,B,t⟩=>((l1.length:Int)-k0).toNat) (0,l1,(G2 2).s) [0] ?_ ?_
 ·refine ⟨by omega,by omega,?_,?_⟩
  ·show l1.length=gr.length;omega
  show l1=List.replicate (0:Int).toNat (-1:Int) ++List.replicate (gr.length-(0:Int).toNat) 0;rw [D];simp
 rintro ⟨k0,B,t⟩ hF1 kw4 Z1 hZ1;obtain ⟨aj,ak,al,Y⟩:=hF1;refine vG [.u 1] fun G4=>?_;intro _ _;refine vd (k0 < (l1.length:Int)) (fun q1=>?_) fun q2=>?_
 ·refine vG [.u 2] fun G5=>?_;intro _ _
  refine nm (B.getD k0.toNat default:Int) fun v1 ad=>nm (B.set k0.toNat (-1):LI) fun l2 E=>vG [.l 1,.u 1,.iX (kO 3 0 B t) k0,.se g0 3 0 3 true B (fun _=>t) k0 none v1 (-1) ad true l2 E (fun _=>⟨by omega,by omega⟩) (fun _=>rfl) [] (fun _ _ _ _=>trivial)] fun G6=>?_;intro _ _
  refine vG [.aa (k0+1),.u 1] fun G7=>?_;intro _ _
  refine V.rn hZ1 (k0+1,l2,t) [0] ?_ ?_
  ·refine ⟨by omega,by omega,?_,?_⟩
   ·show l2.length=gr.length;rw [E,List.length_set];omega
   show l2=List.replicate (k0+1).toNat (-1:Int) ++List.replicate (gr.length-(k0+1).toNat) 0;rw [E,Y];exact Zo.fill_step (by omega) (by omega)
  dsimp only;omega
 refine nm (B.getD goal.toNat default:Int) fun v2 ae=>nm (B.set goal.toNat 0:LI) fun l3 H=>vG [.l 1,.u 1,.iX (kO 3 0 B t) goal,.se g0 3 0 3 true B (fun _=>t) goal none v2 0 ae true l3 H (fun _=>⟨by omega,by omega⟩) (fun _=>rfl) [] (fun _ _ _ _=>trivial)] fun G8=>?_;intro _ _
 refine vG [.n 2,.s 2] fun G9=>?_;intro _ _
 refine V.lp (γ:=Nat × List Int × SV × Int) (fun ⟨w,j,o,step⟩=>⟨[(0,A.v),(5,pp ((G2 3).b) 0),(7,pp w 0)],[fs false gr A],[os true 3 j o,.blk ((G2 3).b) #[o.v] 34,.blk w #[iv step] 3,.no]⟩) (fun ⟨w,j,o,step⟩=>(1≤step∧step≤(gr.length:Int))∧(j.length=gr.length)∧(j=Zo.farK (gr.map (·.l)) goal.toNat (step-1).toNat)) (fun ⟨w,j,o,step⟩=>((gr.length:Int)-step).toNat) ((G9 0).b,l3,t,1) [0] ?_ ?_
 ·refine ⟨?_,?_,?_⟩
  ·show 1≤(1:Int)∧(1:Int)≤(gr.length:Int);omega
  ·show l3.length=gr.length;rw [H,List.length_set];omega
  show l3=Zo.farK (gr.map (·.l)) goal.toNat ((1:Int)-1).toNat;rw [H,Y,Zo.fill_end (by omega)];show _=(List.replicate (gr.map (·.l)).length (-1)).set goal.toNat 0;rw [List.length_map]
 rintro ⟨w,j,o,step⟩ hF2 kw11 Z2 hZ2;obtain ⟨am,an,Z⟩:=hF2;refine vG [.l 2,.u 1,.ln (kF 0 gr A),.u 1] fun ao=>?_;intro _ _;refine vd (step < (gr.length:Int)) (fun q3=>?_) fun q4=>?_
 ·refine vG [.u 1,.ln (kF 0 gr A),.u 1] fun aq=>?_;intro _ _
  refine V.lp (γ:=Int × List Int × SV) (fun ⟨k2,d,i⟩=>⟨[(0,A.v),(5,pp ((G2 3).b) 0),(7,pp w 0),(31,A.v),(32,iv (gr.length:Int)),(33,iv k2)],[fs false gr A],[os true 3 d i,.blk ((G2 3).b) #[i.v] 34,.blk w #[iv step] 3,.no]⟩) (fun ⟨k2,d,i⟩=>(0≤k2)∧(k2≤(gr.length:Int))∧(d.length=gr.length)∧(d=Zo.roundK (gr.map (·.l)) step (Zo.farK (gr.map (·.l)) goal.toNat (step-1).toNat) k2.toNat)) (fun ⟨k2,d,i⟩=>((gr.length:Int)-k2).toNat) (0,j,o) [0] ?_ ?_
  ·refine ⟨by omega,by omega,?_,?_⟩
   ·show j.length=gr.length;omega
   show j=Zo.roundK (gr.map (·.l)) step (Zo.farK (gr.map (·.l)) goal.toNat (step-1).toNat) (0:Int).toNat;exact Z
  rintro ⟨k2,d,i⟩ hF3 kw14 Z3 hZ3;obtain ⟨au,av,ah,C⟩:=hF3;refine vG [.u 1] fun aw=>?_;intro _ _;refine vd (k2 < (gr.length:Int)) (fun q5=>?_) fun q6=>?_
  ·refine nm (gr.getD k2.toNat default:Fat Int) fun x1 I=>vG [.u 1,.iX (kF 0 gr A) k2,.lE (kF 0 gr A) k2 true x1 I false,.u 2] fun ax=>?_;intro _ _
   have M:(gr.map (·.l)).getD k2.toNat []=x1.l:=by rw [getD_l,I];rfl
   have af:=hg _ (getD_mem (by omega) I);by_cases hsp1:d.getD k2.toNat (default:Int) < 0
   ·refine nm (d.getD k2.toNat default:Int) fun v3 P=>vG [.l 1,.u 1,.iX (kO 3 0 d i) k2,.lE (kO 3 0 d i) k2 false v3 P false,.eb (bv (decide (v3 < 0))) true (by rw [decide_eq_true (by rw [P];exact hsp1)]),.kb true,.u 2,.ct g0 8 80 false [1,2] [] [(kx false (.f 1) x1 x1.l (fun _=>x1.s) (fun _ _ h=>h)).a,(kO 3 0 d i).a] (fun _ G=>ofrk_ct x1.l x1.s ((G2 3).b) d i w step (fun y hy=>by have:=af y hy;omega) (by omega)),.u 1] fun ay=>?_;intro _ _
    refine vc (x1.l.any (fun y:Int=>decide (d.getD y.toNat default=step-1))) (fun q7=>?_) fun q8=>?_
    ·refine nm (d.set k2.toNat step:LI) fun l4 Q=>vG [.l 1,.u 1,.l 2,.iX (kO 3 0 d i) k2,.se g0 4 0 3 true d (fun _=>i) k2 none v3 step P true l4 Q (fun _=>⟨by omega,by omega⟩) (fun _=>rfl) [] (fun _ _ _ _=>trivial)] fun az=>?_;intro _ _
     refine vG [.aa (k2+1),.u 1] fun aA=>?_;intro _ _
     refine V.rn hZ3 (k2+1,l4,i) [0] ?_ ?_
     ·refine ⟨by omega,by omega,?_,?_⟩
      ·show l4.length=gr.length
       first | omega | (rw [Q,List.length_set];omega)
      show l4=Zo.roundK (gr.map (·.l)) step (Zo.farK (gr.map (·.l)) goal.toNat (step-1).toNat) (k2+1).toNat;rw [Q,show (k2+1).toNat=k2.toNat+1 by omega,Zo.roundK_succ,← C];exact (Zo.stepD_yes M hsp1 q7).symm
     dsimp only;omega
    refine vG [.aa (k2+1),.u 1] fun aB=>?_;intro _ _
    refine V.rn hZ3 (k2+1,d,i) [0] ?_ ?_
    ·refine ⟨by omega,by omega,?_,?_⟩
     ·show d.length=gr.length;omega
     show d=Zo.roundK (gr.map (·.l)) step (Zo.farK (gr.map (·.l)) goal.toNat (step-1).toNat) (k2+1).toNat;rw [show (k2+1).toNat=k2.toNat+1 by omega,Zo.roundK_succ,← C];exact (Zo.stepD_no M (by intro h;rw [h.2] at q8;cases q8)).symm
    dsimp only;omega
   refine nm (d.getD k2.toNat default:Int) fun v4 ab=>vG [.l 1,.u 1,.iX (kO 3 0 d i) k2,.lE (kO 3 0 d i) k2 false v4 ab false,.eb (bv (decide (v4 < 0))) false (by rw [decide_eq_false (by rw [ab];exact hsp1)]),.kb false,.dead,.dead,.dead,.kb false] fun aC=>?_;intro _ _
   refine V.condF (by kernel_rfl) ?_;refine vG [.aa (k2+1),.u 1] fun aD=>?_;intro _ _
   refine V.rn hZ3 (k2+1,d,i) [0] ?_ ?_
   ·refine ⟨by omega,by omega,?_,?_⟩
    ·show d.length=gr.length;omega
    show d=Zo.roundK (gr.map (·.l)) step (Zo.farK (gr.map (·.l)) goal.toNat (step-1).toNat) (k2+1).toNat;rw [show (k2+1).toNat=k2.toNat+1 by omega,Zo.roundK_succ,← C];exact (Zo.stepD_no M (fun h=>hsp1 h.1)).symm
   dsimp only;omega
  refine vG [.l 2] fun aE=>?_;intro _ _
  refine vG [.n 3,.s 3] fun ac=>?_;intro _ _
  refine vG [.l 3,.aa (step+1),.s 3] fun aF=>?_;intro _ _
  refine V.mv 2 3 ((ac 0).b) #[iv (step+1)] 3 (by kernel_rfl) ?_;intro s_;refine V.rn hZ2 ((ac 0).b,d,i,step+1) [0] ?_ ?_
  ·refine ⟨?_,?_,?_⟩
   ·show 1≤(step+1)∧(step+1)≤(gr.length:Int);omega
   ·show d.length=gr.length;omega
   show d=Zo.farK (gr.map (·.l)) goal.toNat ((step+1)-1).toNat;rw [show (step+1-1).toNat=(step-1).toNat+1 by omega,Zo.farK_succ,C,List.length_map,show k2.toNat=gr.length by omega,show (((step-1).toNat:Nat):Int)+1=step by omega]
  dsimp only;omega
 refine vG [.l 1,.u 1] fun aG=>?_;intro _ _
 refine V.frz 0 true 3 j o (by kernel_rfl) ?_;have e0:j=Zo.farD (gr.map (·.l)) goal.toNat:=by rw [Zo.farD,List.length_map,Z,show (step-1).toNat=gr.length-1 by omega]
 subst e0;exact V.rS [0] [o] [] [] [1] []

theorem ocy_ct (p:BA) (e:List DImport) (q:SV) (i:List DInput) (t:SV) (j:List DTable) (z:SV) (d:List DFunc) (A:SV) (c:List DCell) (B:SV) (k:List DPort) (C:SV) (m:List DStore) (D:SV) (o:List DRecipe) (E:SV) (hS:Sx.Sml p e i j d c k m o) (hL:(e.length:Int)+i.length+j.length+d.length+c.length+k.length+m.length+o.length≤100000000) :
  Ct Tryz.prog 18 #[ag (DSheet.mk p ⟨e,q⟩ ⟨i,t⟩ ⟨j,z⟩ ⟨d,A⟩ ⟨c,B⟩ ⟨k,C⟩ ⟨m,D⟩ ⟨o,E⟩)] [fs true e q,fs true i t,fs true j z,fs true d A,fs true c B,fs true k C,fs true m D,fs true o E] [] (fun g=>((g.ss 0)).v) (fun g=>[fs true (Zo.cycle (if (Zo.snd p e i j d c k m o) then Zo.grf (d.map Zc.fe) c else [])) (g.ss 0)]) eF eF:=by
 refine vf mo Tryz.func18 87 2 fun k0=>?_;obtain ⟨aB, -⟩:Lq e q.v:=kj k0 0
 obtain ⟨aC, -⟩:Lq i t.v:=kj k0 1;obtain ⟨aD, -⟩:Lq j z.v:=kj k0 2;obtain ⟨aE, -⟩:Lq d A.v:=kj k0 3;obtain ⟨aF, -⟩:Lq c B.v:=kj k0 4;obtain ⟨aG, -⟩:Lq k C.v:=kj k0 5;obtain ⟨aH, -⟩:Lq m D.v:=kj k0 6;obtain ⟨aI, -⟩:Lq o E.v:=kj k0 7;refine vG [.n 0,.u 1] fun G1=>?_;intro _ _;refine vG [.l 0,.cA 1 31 [kA 0 e q,kA 1 i t,kA 2 j z,kA 3 d A,kA 4 c B,kA 5 k C,kA 6 m D,kA 7 o E] fun G=>ogr_ct p e q i t j z d A c B k C m D o E hS hL,.u 5] fun G2=>?_;intro _ _;refine nm (fats (if (Zo.snd p e i j d c k m o) then Zo.grf (d.map Zc.fe) c else []) ((G2 1).sl 0):List (Fat Int)) fun gr1 M=>?_;refine V.alt (fun (zz:List (Fat Int))=>(⟨[(3,((G2 1).ss 0).v)],[fs false e q,fs false i t,fs false j z,fs false d A,fs false c B,fs false k C,fs false m D,fs false o E,fs true zz ((G2 1).ss 0)],[.blk ((G1 0).b) (ca (DSheet.mk p ⟨e,q⟩ ⟨i,t⟩ ⟨j,z⟩ ⟨d,A⟩ ⟨c,B⟩ ⟨k,C⟩ ⟨m,D⟩ ⟨o,E⟩)) 31,.no]⟩:St)) M.symm [0,1,2,3,4,5,6,7,8] (by kernel_rfl) ?_;have I:gr1.map (·.l)=(if (Zo.snd p e i j d c k m o) then Zo.grf (d.map Zc.fe) c else []):=by rw [M,fats_l]
 clear M;have au:(Zo.snd p e i j d c k m o)→gr1.length=c.length:=fun h=>by have:=congrArg List.length I;rw [List.length_map,if_pos h,Zo.grf_len] at this;exact this
 have hG:∀ x ∈ (gr1.map (·.l)),∀ y ∈ x,0≤y∧y < ((gr1.map (·.l)).length:Int):=by rw [I];split;exact Zo.grf_in;intro x hx;cases hx
 have ab:(gr1.map (·.l)).length=gr1.length:=List.length_map ..;have aJ:(gr1.length:Int)≤100000000:=by have h1:=congrArg List.length I;rw [List.length_map] at h1;rw [h1];split;(rw [Zo.grf_len];omega);(simp)
 have am:∀ x ∈ gr1,∀ y ∈ x.l,0≤y∧y < (gr1.length:Int):=fun x hx y hy=>by rw [←ab];exact hG _ (List.mem_map_of_mem hx) y hy
 refine vG [.u 1] fun G3=>?_;intro _ _
 refine vG [.u 1,.ln (kG 8 gr1 ((G2 1).ss 0)),.u 1] fun G4=>?_;intro _ _
 refine V.nilF (α:=Int) ?_;refine V.lp (γ:=List Int × SV × Int) (fun ⟨H,bests,k0⟩=>⟨[(3,((G2 1).ss 0).v),(5,bests.v),(19,iv (gr1.length:Int)),(20,iv k0)],[fs true gr1 ((G2 1).ss 0),fs true H bests],[.no,.no]⟩) (fun ⟨H,bests,k0⟩=>(0≤k0)∧(k0≤(gr1.length:Int))∧(H=Zo.cycK (gr1.map (·.l)) k0.toNat)∧(H=[]→(bests:SV).a.isNone=true)) (fun ⟨H,bests,k0⟩=>((gr1.length:Int)-k0).toNat) (([]:LI),{},0) [8,9] ?_ ?_
 ·refine ⟨by omega,by omega,?_,?_⟩
  ·show ([]:LI)=Zo.cycK (gr1.map (·.l)) (0:Int).toNat;rfl
  show ([]:LI)=[]→(({}):SV).a.isNone=true;intro _;rfl
 rintro ⟨H,bests,k0⟩ hF1 kw5 Z1 hZ1;obtain ⟨aK,aL,P,ac⟩:=hF1;obtain ⟨ax, -⟩:Lq H bests.v:=kj kw5 1;refine vG [.u 1] fun G5=>?_;intro _ _;refine vd (k0 < (gr1.length:Int)) (fun q1=>?_) fun q2=>?_
 ·refine vG [.u 2] fun G6=>?_;intro _ _
  refine vG [.u 2,.cA 2 42 [kB 0 gr1 ((G2 1).ss 0)] fun G=>ofa_ct gr1 ((G2 1).ss 0) k0 am (by omega) (by omega),.u 1] fun G7=>?_;intro _ _
  refine nm (Zo.farD (gr1.map (·.l)) k0.toNat:LI) fun d1 ad=>?_;refine V.alt (fun (zz:LI)=>(⟨[(3,((G2 1).ss 0).v),(5,bests.v),(6,iv k0),(7,((G7 2).ss 0).v),(19,iv (gr1.length:Int)),(20,iv k0)],[fs true gr1 ((G2 1).ss 0),fs true H bests,fs true zz ((G7 2).ss 0)],[.no,.no]⟩:St)) ad.symm [0,1,2] (by kernel_rfl) ?_
  have ay:d1.length=gr1.length:=by rw [ad,Zo.farD,Zo.farK_len,List.length_map]
  refine vG [.u 1,.nl 1 1 true 3 [k0] [] (fun _ _ _ _ _=>trivial) (fun _=>#[iv k0]),.u 1] fun G8=>?_;intro _ _
  refine vG [.u 2] fun G9=>?_;intro _ _
  refine V.lp (γ:=List Int × SV × Int) (fun ⟨w,lists,at_⟩=>⟨[(3,((G2 1).ss 0).v),(5,bests.v),(6,iv k0),(7,((G7 2).ss 0).v),(8,lists.v),(9,iv at_),(19,iv (gr1.length:Int)),(20,iv k0)],[fs true gr1 ((G2 1).ss 0),fs true H bests,fs true d1 ((G7 2).ss 0)],[.no,os true 3 w lists]⟩) (fun ⟨w,lists,at_⟩=>(Zo.WK (gr1.map (·.l)) k0 w at_)) (fun ⟨w,lists,at_⟩=>((gr1.map (·.l)).length+1-w.length)) ([k0],⟨atB (G8 1).b,1,1⟩,k0) [0,1,2] ?_ ?_
  ··show Zo.WK (gr1.map (·.l)) k0 [k0] k0;exact Zo.WK.init (by omega) (by omega)
  rintro ⟨w,lists,at_⟩ hF2 kw11 Z2 hZ2;have Q:Zo.WK (gr1.map (·.l)) k0 w at_:=hF2;obtain ⟨az, -⟩:Lq w lists.v:=kj kw11 3;have aM:w.length≤gr1.length:=ab ▸ Zo.WK.lt Q;have aN:at_ < (gr1.length:Int):=ab ▸ Q.1.2.1;have aO:=Q.1.1;refine vG [.u 1] fun aP=>?_;intro _ _;refine nm (gr1.getD at_.toNat default:Fat Int) fun x1 ae=>vR [.u 2,.iX (kG 0 gr1 ((G2 1).ss 0)) at_,.lE (kG 0 gr1 ((G2 1).ss 0)) at_ true x1 ae false,.ln (kx true (.g 3 0) x1 x1.l (fun _=>x1.s) (fun _ _ h=>h)),.u 1] fun aQ an=>?_;intro _ _;obtain ⟨aA, -⟩:Lq x1.l x1.s.v:=kj an 0;refine V.lp (γ:=Int × Int) (fun ⟨next,k2⟩=>⟨[(3,((G2 1).ss 0).v),(5,bests.v),(6,iv k0),(7,((G7 2).ss 0).v),(8,lists.v),(10,iv next),(19,iv (gr1.length:Int)),(20,iv k0),(32,x1.s.v),(33,iv (x1.l.length:Int)),(34,iv k2)],[fs true gr1 ((G2 1).ss 0),fs true H bests,fs true d1 ((G7 2).ss 0),gf true x1],[.no,os true 3 w lists]⟩) (fun ⟨next,k2⟩=>(0≤k2)∧(k2≤(x1.l.length:Int))∧(next=Zo.nxt d1 (x1.l.take k2.toNat))∧(-1≤next∧next < (gr1.length:Int))) (fun ⟨next,k2⟩=>((x1.l.length:Int)-k2).toNat) ((-1),0) [0,1,2,3] ?_ ?_
  ·refine ⟨by omega,by omega,?_,?_⟩
   ·show (-1:Int)=Zo.nxt d1 (x1.l.take (0:Int).toNat);rfl
   show -1≤(-1:Int)∧(-1:Int) < (gr1.length:Int);omega
  rintro ⟨next,k2⟩ hF3 kw14 Z3 hZ3;obtain ⟨aS,aT,af,aU⟩:=hF3;refine vG [.u 1] fun aV=>?_;intro _ _;refine vd (k2 < (x1.l.length:Int)) (fun q3=>?_) fun q4=>?_
  ·refine nm (x1.l.getD k2.toNat default:Int) fun v1 X=>vG [.iX (kx true (.f 3) x1 x1.l (fun _=>x1.s) (fun _ _ h=>h)) k2,.lE (kx true (.f 3) x1 x1.l (fun _=>x1.s) (fun _ _ h=>h)) k2 false v1 X false,.u 1] fun aW=>?_;intro _ _
   have aX:=am _ (getD_mem (by omega) ae) _ (getD_mem (by omega) X);refine nm (d1.getD v1.toNat default:Int) fun v2 Y=>nm (d1.getD next.toNat default:Int) fun v3 ah=>nm ((decide (0≤v2)) && ((decide (next < 0)) || (decide (v2 < v3))):Bool) fun p1 ai=>vG [.u 2,.iX (kG 2 d1 ((G7 2).ss 0)) v1,.lE (kG 2 d1 ((G7 2).ss 0)) v1 false v2 Y false,.u 7,.ix ((gT (b:=decide (0≤v2)) iDT).F (b:=decide (next < 0)) iDF) (kG 2 d1 ((G7 2).ss 0)) v1 (fun hg=>⟨by omega,by omega⟩),.le ((gT (b:=decide (0≤v2)) iDT).F (b:=decide (next < 0)) iDF) (kG 2 d1 ((G7 2).ss 0)) v1 none false v2 Y (fun hg=>⟨by omega,by omega⟩) false (fun _=>[iv v2]),.u 2,.ix ((gT (b:=decide (0≤v2)) iDT).F (b:=decide (next < 0)) iDF) (kG 2 d1 ((G7 2).ss 0)) next (fun hg=>⟨by omega,by omega⟩),.le ((gT (b:=decide (0≤v2)) iDT).F (b:=decide (next < 0)) iDF) (kG 2 d1 ((G7 2).ss 0)) next none false v3 ah (fun hg=>⟨by omega,by omega⟩) false (fun _=>[iv v3]),.u 1,.or (gT (b:=decide (0≤v2)) iDT) false (decide (next < 0)) (decide (v2 < v3)),.andn g0 false (decide (0≤v2)) ((decide (next < 0)) || (decide (v2 < v3))) p1 ai] fun aY=>?_;intro _ _
   refine V.cn (b:=p1) (iN ai (iAT iDT (iOT iDT iDT))) (iN ai (iAF iDF (iOF iDF iDF))) (fun q5=>?_) (fun q6=>?_)
   ·refine vG [.u 2] fun aZ=>?_;intro _ _
    refine vG [.aa (k2+1),.u 1] fun a0=>?_;intro _ _
    refine V.rn hZ3 (v1,k2+1) [0,1,2,3] ?_ ?_
    ·refine ⟨by omega,by omega,?_,?_⟩
     ·show v1=Zo.nxt d1 (x1.l.take (k2+1).toNat);rw [←Zo.nxt_step af (by omega) (by omega) X];unfold Zo.nxK;exact (if_pos (by rw [←Y,← ah];exact q5)).symm
     show -1≤v1∧v1 < (gr1.length:Int);omega
    dsimp only;omega
   refine vG [.aa (k2+1),.u 1] fun a1=>?_;intro _ _
   refine V.rn hZ3 (next,k2+1) [0,1,2,3] ?_ ?_
   ·refine ⟨by omega,by omega,?_,?_⟩
    ·show next=Zo.nxt d1 (x1.l.take (k2+1).toNat);rw [←Zo.nxt_step af (by omega) (by omega) X];unfold Zo.nxK;exact (if_neg (by rw [←Y,← ah];omega)).symm
    show -1≤next∧next < (gr1.length:Int);omega
   dsimp only;omega
  have aj:=Zo.WK.next hG (by omega) (by omega) Q (r:=next) (by rw [←ad,getD_l,Zo.nxt_all af (by omega),ae];rfl);refine vG [.u 2] fun a2=>?_;intro _ _
  refine vd (next < 0) (fun q7=>?_) fun q8=>?_
  ·have Z:=aj.1 q7;refine vG [.u 1] fun a3=>?_;intro _ _
   refine V.lqF 1 true H bests (by kernel_rfl) fun ao=>vG [.u 2,.kb false,.kb false,.dead,.dead,.dead,.u 3,.ln (kG 1 H bests),.u 1,.dead,.kb false] fun a4=>?_;intro _ _
   refine V.condF (by kernel_rfl) ?_;refine vG [.aa (k0+1),.u 1] fun a5=>?_;intro _ _
   refine V.rn hZ1 (H,bests,k0+1) [0,1] ?_ ?_
   ·refine ⟨by omega,by omega,?_,?_⟩
    ·show H=Zo.cycK (gr1.map (·.l)) (k0+1).toNat;rw [show (k0+1).toNat=k0.toNat+1 by omega,Zo.cycK_succ,← P,show ((k0.toNat:Nat):Int)=k0 by omega,← Z];unfold Zo.bet;exact (if_neg (by simp)).symm
    show H=[]→(bests:SV).a.isNone=true;exact ac
   dsimp only;omega
  refine vG [.u 3] fun a6=>?_;intro _ _
  refine vd (next=k0) (fun q9=>?_) fun a7=>?_
  ·have Z:=aj.2.1 q9;refine V.lqF 1 true H bests (by kernel_rfl) fun ao=>nm (bests.a.isNone || (decide ((w.length:Int) < (H.length:Int))):Bool) fun p2 ak=>vG [.u 1,.ln (kO 3 1 w lists),.u 3,.isn false (fun _=>bests),.u 2,.ln (kO 3 1 w lists),.u 1,.ln (kG 1 H bests),.u 1,.orn (gT (b:=decide (0 < (w.length:Int))) iDT) false bests.a.isNone (decide ((w.length:Int) < (H.length:Int))) p2 ak,.and g0 false (decide (0 < (w.length:Int))) p2] fun a8=>?_;intro _ _
   refine V.cn (b:=(decide (0 < (w.length:Int))) && p2) (iAT iDT (iN ak (iOT Iff.rfl iDT))) (iAF iDF (iN ak (iOF Iff.rfl iDF))) (fun aq=>?_) (fun av=>?_)
   ·refine vG [.u 2] fun a9=>?_;intro _ _
    refine vG [.aa (k0+1),.u 1] fun ba=>?_;intro _ _
    refine V.frz 1 true 3 w lists (by kernel_rfl) ?_;refine V.rn hZ1 (w,lists,k0+1) [0,4] ?_ ?_
    ·refine ⟨by omega,by omega,?_,?_⟩
     ·show w=Zo.cycK (gr1.map (·.l)) (k0+1).toNat;rw [show (k0+1).toNat=k0.toNat+1 by omega,Zo.cycK_succ,← P,show ((k0.toNat:Nat):Int)=k0 by omega,← Z];unfold Zo.bet;refine (if_pos ?_).symm;obtain ⟨h1,h2⟩:=aq;exact ⟨by omega,h2.imp ao (fun h=>by omega)⟩
     show w=[]→(lists:SV).a.isNone=true;intro h;have h1:=aq.1;rw [h] at h1;simp at h1
    dsimp only;omega
   refine vG [.aa (k0+1),.u 1] fun bb=>?_;intro _ _
   refine V.rn hZ1 (H,bests,k0+1) [0,1] ?_ ?_
   ·refine ⟨by omega,by omega,?_,?_⟩
    ·show H=Zo.cycK (gr1.map (·.l)) (k0+1).toNat;rw [show (k0+1).toNat=k0.toNat+1 by omega,Zo.cycK_succ,← P,show ((k0.toNat:Nat):Int)=k0 by omega,← Z];unfold Zo.bet;refine (if_neg ?_).symm;rintro ⟨h1,h2⟩;rcases av with h | ⟨h3,h4⟩
     ·omega
     rcases h2 with h2 | h2
     ·rw [ac h2] at h3;cases h3
     omega
    show H=[]→(bests:SV).a.isNone=true;exact ac
   dsimp only;omega
  refine nm (w ++[next]:LI) fun l1 al=>vG [.u 2,.nr 2 true 3 [next] [] (fun _ _ _ _ _=>trivial) (fun _=>#[iv next]),.ap 3 1 3 8 false true w (fun _=>lists) (kf true (.g 2 0) [next] (fun G=>⟨atB (G 2).b,1,1⟩)) true l1 al (by first | omega | (simp;omega) | simp) (fun h=>by cases h) (.inr fun _ _=>trivial),.u 1] fun aw=>?_;intro _ _
  refine vG [.u 2] fun bc=>?_;intro _ _
  refine V.rn hZ2 (l1,(aw 3).s,next) [0,1,2] ?_ ?_
  ··show Zo.WK (gr1.map (·.l)) k0 l1 next;rw [al];exact aj.2.2 (by omega) (by omega)
  show ((gr1.map (·.l)).length+1-l1.length) < ((gr1.map (·.l)).length+1-w.length);rw [al];simp only [List.length_append,List.length_cons,List.length_nil];omega
 refine vG [.u 2] fun be=>?_;intro _ _
 have e0:H=Zo.cycle (if (Zo.snd p e i j d c k m o) then Zo.grf (d.map Zc.fe) c else []):=by rw [P,← I,Zo.cycle,List.length_map,show k0.toNat=gr1.length by omega]
 subst e0;exact V.rS [0] [bests] [] [] [1] []

theorem oor_ct (A:BA) (j:List DImport) (B:SV) (k:List DInput) (C:SV) (o:List DTable) (D:SV) (e:List DFunc) (E:SV) (d:List DCell) (F:SV) (p:List DPort) (I:SV) (q:List DStore) (J:SV) (t:List DRecipe) (K:SV) (hS:Sx.Sml A j k o e d p q t) (hL:(j.length:Int)+k.length+o.length+e.length+d.length+p.length+q.length+t.length≤100000000) (hn:(d.length:Int)≤1000) :
  Ct Tryz.prog 11 #[ag (DSheet.mk A ⟨j,B⟩ ⟨k,C⟩ ⟨o,D⟩ ⟨e,E⟩ ⟨d,F⟩ ⟨p,I⟩ ⟨q,J⟩ ⟨t,K⟩)] [fs true j B,fs true k C,fs true o D,fs true e E,fs true d F,fs true p I,fs true q J,fs true t K] [] (fun g=>.tuple #[((g.ss 0)).v,iv (if (Zo.snd A j k o e d p q t) then Zo.ordN (Zo.grf (e.map Zc.fe) d) else 1)]) (fun g=>[fs true (if (Zo.snd A j k o e d p q t) then Zo.ordL (Zo.grf (e.map Zc.fe) d) else []) (g.ss 0)]) eF eF:=by
 refine vf mo Tryz.func11 115 7 fun _=>?_
 refine vG [.n 0,.u 2] fun G1=>?_;intro _ _
 refine vG [.l 0,.cA 1 31 [kA 0 j B,kA 1 k C,kA 2 o D,kA 3 e E,kA 4 d F,kA 5 p I,kA 6 q J,kA 7 t K] fun G=>ogr_ct A j B k C o D e E d F p I q J t K hS hL,.u 5] fun G2=>?_;intro _ _
 refine nm (fats (if (Zo.snd A j k o e d p q t) then Zo.grf (e.map Zc.fe) d else []) ((G2 1).sl 0):List (Fat Int)) fun gr1 ay=>?_;refine V.alt (fun (zz:List (Fat Int))=>(⟨[(4,((G2 1).ss 0).v),(5,bv (decide (Zo.snd A j k o e d p q t)))],[fs false j B,fs false k C,fs false o D,fs false e E,fs false d F,fs false p I,fs false q J,fs false t K,fs true zz ((G2 1).ss 0)],[.blk ((G1 0).b) (ca (DSheet.mk A ⟨j,B⟩ ⟨k,C⟩ ⟨o,D⟩ ⟨e,E⟩ ⟨d,F⟩ ⟨p,I⟩ ⟨q,J⟩ ⟨t,K⟩)) 31,.no,.no,.no,.no,.no,.no]⟩:St)) ay.symm [0,1,2,3,4,5,6,7,8] (by kernel_rfl) ?_
 have an:gr1.map (·.l)=(if (Zo.snd A j k o e d p q t) then Zo.grf (e.map Zc.fe) d else []):=by rw [ay,fats_l]
 clear ay;have bs:(Zo.snd A j k o e d p q t)→gr1.length=d.length:=fun h=>by have:=congrArg List.length an;rw [List.length_map,if_pos h,Zo.grf_len] at this;exact this
 have hG:∀ x ∈ (gr1.map (·.l)),∀ y ∈ x,0≤y∧y < ((gr1.map (·.l)).length:Int):=by rw [an];split;exact Zo.grf_in;intro x hx;cases hx
 have ak:(gr1.map (·.l)).length=gr1.length:=List.length_map ..;have bY:(gr1.length:Int)≤1000:=by have h1:=congrArg List.length an;rw [List.length_map] at h1;rw [h1];split;(rw [Zo.grf_len];omega);(simp)
 have az:∀ r ∈ (gr1.map (·.l)),r.length≤1000:=by rw [an];split;(intro x hx;have:=Zo.grf_row x hx;omega);intro x hx;cases hx
 have bt:∀ x ∈ gr1,∀ y ∈ x.l,0≤y∧y < (gr1.length:Int):=fun x hx y hy=>by rw [←ak];exact hG _ (List.mem_map_of_mem hx) y hy
 refine vG [.u 2] fun G3=>?_;intro _ _
 refine vn (Zo.snd A j k o e d p q t) (fun q1=>?_) fun q2=>?_
 ·refine vG [.u 2] fun G4=>?_;intro _ _
  refine V.nilF (α:=Int) ?_;have e0:([]:LI)=(if (Zo.snd A j k o e d p q t) then Zo.ordL (Zo.grf (e.map Zc.fe) d) else []):=by rw [if_neg (by simpa using q1)]
  rw [←e0];have e1:(1:Int)=(if (Zo.snd A j k o e d p q t) then Zo.ordN (Zo.grf (e.map Zc.fe) d) else 1):=by rw [if_neg (by simpa using q1)]
  exact V.rT [0,0] [] [] [] [9] [] (cong1 (fun (aA:Int)=>(.tuple #[SV.v ({}),iv aA]:Value)) e1)
 refine nm (List.replicate (gr1.length:Int).toNat (0:Int):LI) fun l1 aM=>?_;have a4:=congrArg List.length aM;try simp at a4
 refine vG [.u 1,.ln (kG 8 gr1 ((G2 1).ss 0)),.mks 2 1 3 8 (gr1.length:Int) l1 aM (by omega) (by omega) (by omega),.u 1] fun G5=>?_;intro _ _
 refine nm (List.replicate (gr1.length:Int).toNat (default:Rw):List Rw) fun l2 aN=>?_;have a5:=congrArg List.length aN;try simp at a5
 refine vG [.u 1,.ln (kG 8 gr1 ((G2 1).ss 0)),.mks 2 2 34 24 (gr1.length:Int) l2 aN (by omega) (by omega) (by omega),.u 1] fun G6=>?_;intro _ _
 refine VT.mk (T:=TabX 3 none (List.replicate (gr1.length:Int).toNat []) l2) ?_ (by rw [aN];exact tab_new _ _);refine VT.sub fun bZ b0 b1 b2 bu bw=>?_;intro s_
 refine vG [.nl 0 3 true 3 ([]:LI) [] (fun _ _ _ _ _=>trivial) (fun _=>#[]),.n 4,.u 1] fun G7=>?_;intro _ _
 refine vG [.u 1,.ln (kF 8 gr1 ((G2 1).ss 0)),.u 1] fun G8=>?_;intro _ _
 refine V.ofVT bu bw ?_;refine VT.loop (γ:=List Int × SV × List Rw × SV × Int × List Int × SV) (fun ⟨ae,ab,af,Q,k0,h,hs_⟩=>⟨[(4,((G2 1).ss 0).v),(6,ab.v),(7,Q.v),(8,pp ((G7 1).b) 0),(32,((G2 1).ss 0).v),(33,iv (gr1.length:Int)),(34,iv k0)],[fs false gr1 ((G2 1).ss 0),fs false j B,fs false k C,fs false o D,fs false e E,fs false d F,fs false p I,fs false q J,fs false t K],[.blk ((G1 0).b) (ca (DSheet.mk A ⟨j,B⟩ ⟨k,C⟩ ⟨o,D⟩ ⟨e,E⟩ ⟨d,F⟩ ⟨p,I⟩ ⟨q,J⟩ ⟨t,K⟩)) 31,os false 3 ae ab,os false 34 af Q,os false 3 h hs_,.blk ((G7 1).b) #[hs_.v] 65,.no,.no]⟩) (fun ⟨ae,ab,af,Q,k0,h,hs_⟩=>TabX 3 none (Zo.usK (gr1.map (·.l)) k0.toNat) (af)) (fun ⟨ae,ab,af,Q,k0,h,hs_⟩=>(0≤k0)∧(k0≤(gr1.length:Int))∧(ae.length=gr1.length)∧(af.length=gr1.length)∧((h.length:Int)≤k0)∧(ae=Zo.lfK (gr1.map (·.l)) k0.toNat)∧(h=Zo.hpK (gr1.map (·.l)) k0.toNat)) (fun ⟨ae,ab,af,Q,k0,h,hs_⟩=>((gr1.length:Int)-k0).toNat) (l1,(G5 2).s,l2,(G6 2).s,0,([]:LI),⟨atB (G7 0).b,0,0⟩) (by kernel_rfl) [8,0,1,2,3,4,5,6,7] (by kernel_rfl) (TabX.cast ?_) ?_ ?_
 ·show List.replicate (gr1.length:Int).toNat []=Zo.usK (gr1.map (·.l)) (0:Int).toNat;show _=List.replicate (gr1.map (·.l)).length [];rw [ak];congr 1
 ·refine ⟨by omega,by omega,?_,?_,?_,?_,?_⟩
  ·show l1.length=gr1.length;omega
  ·show l2.length=gr1.length;omega
  ·show (([]:LI).length:Int)≤(0:Int)
   simp
  ·show l1=Zo.lfK (gr1.map (·.l)) (0:Int).toNat;rw [aM];unfold Zo.lfK;simp
  show ([]:LI)=Zo.hpK (gr1.map (·.l)) (0:Int).toNat;rfl
 rintro ⟨ae,ab,af,Q,k0,h,hs_⟩ hF1 kw9 Z1 hZ1 S_ s_;obtain ⟨b3,b4,b5,b6,b7,aD,aE⟩:=hF1;obtain ⟨bO, -⟩:Lq h hs_.v:=kj kw9 11;refine VT.sub fun b8 b9 cb cc aO aP=>?_;intro s_;refine vG [.u 1] fun G9=>?_;intro _ _;refine vd (k0 < (gr1.length:Int)) (fun q3=>?_) fun q4=>?_
 ·refine nm (gr1.getD k0.toNat default:Fat Int) fun x1 aF=>vR [.u 1,.iX (kF 0 gr1 ((G2 1).ss 0)) k0,.lE (kF 0 gr1 ((G2 1).ss 0)) k0 true x1 aF false,.u 2] fun cd a6=>?_;intro _ _
  obtain ⟨bP, -⟩:Lq x1.l x1.s.v:=kj a6 0;have av:(gr1.map (·.l)).getD k0.toNat []=x1.l:=by rw [getD_l,aF];rfl
  have a7:=bt _ (getD_mem (by omega) aF);have cf:x1.l.length≤1000:=az _ (List.mem_map_of_mem (f:=fun z:Fat Int=>z.l) (getD_mem (by omega) aF));refine nm (ae.getD k0.toNat default:Int) fun v1 bx=>nm (ae.set k0.toNat (x1.l.length:Int):LI) fun l3 aG=>?_;have a8:=congrArg List.length aG;try simp at a8
  refine vG [.u 3,.ln (kx false (.f 9) x1 x1.l (fun _=>x1.s) (fun _ _ h=>h)),.iX (ko false 3 1 ae (fun _=>ab)) k0,.se g0 5 1 3 false ae (fun _=>ab) k0 none v1 (x1.l.length:Int) bx false l3 aG (fun _=>⟨by omega,by omega⟩) (fun h=>by cases h) [] (fun _ _ _ _=>trivial)] fun cg=>?_;intro _ _
  refine vG [.u 1,.ln (kx false (.f 9) x1 x1.l (fun _=>x1.s) (fun _ _ h=>h)),.u 1] fun ch=>?_;intro _ _
  refine vd ((x1.l.length:Int)=0) (fun q5=>?_) fun q6=>?_
  ·refine vG [.u 4,.cB 4 32 false [4,3] [] [] fun G=>hpush_ct ((G7 1).b) h hs_ k0 (by omega)] fun aQ=>?_;intro _ _
   refine vG [.u 1,.ln (kx false (.f 9) x1 x1.l (fun _=>x1.s) (fun _ _ h=>h)),.u 1] fun cj=>?_;intro _ _
   refine V.ofVT aO aP ?_;refine VT.loop (γ:=List Rw × SV × Int) (fun ⟨w,M,k1⟩=>⟨[(4,((G2 1).ss 0).v),(6,ab.v),(7,M.v),(8,pp ((G7 1).b) 0),(9,iv k0),(32,((G2 1).ss 0).v),(33,iv (gr1.length:Int)),(34,iv k0),(52,x1.s.v),(53,iv (x1.l.length:Int)),(54,iv k1)],[fs false gr1 ((G2 1).ss 0),gf false x1,fs false j B,fs false k C,fs false o D,fs false e E,fs false d F,fs false p I,fs false q J,fs false t K],[.blk ((G1 0).b) (ca (DSheet.mk A ⟨j,B⟩ ⟨k,C⟩ ⟨o,D⟩ ⟨e,E⟩ ⟨d,F⟩ ⟨p,I⟩ ⟨q,J⟩ ⟨t,K⟩)) 31,os false 3 l3 ab,os false 34 w M,os false 3 (Zh.push h k0) ((aQ 4).ss 0),.blk ((G7 1).b) #[((aQ 4).ss 0).v] 65,.no,.no]⟩) (fun ⟨w,M,k1⟩=>TabX 3 none (Zo.usI (Zo.usK (gr1.map (·.l)) k0.toNat) k0 (x1.l.take k1.toNat)) (w)) (fun ⟨w,M,k1⟩=>(0≤k1)∧(k1≤(x1.l.length:Int))∧(w.length=gr1.length)) (fun ⟨w,M,k1⟩=>((x1.l.length:Int)-k1).toNat) (af,Q,0) (by kernel_rfl) [0,9,1,2,3,4,5,6,7,8] (by kernel_rfl) (TabX.cast ?_) ?_ ?_
   ·show Zo.usK (gr1.map (·.l)) k0.toNat=Zo.usI (Zo.usK (gr1.map (·.l)) k0.toNat) k0 (x1.l.take (0:Int).toNat);rfl
   ·refine ⟨by omega,by omega,?_⟩;show af.length=gr1.length
    first | omega | rfl | (simp;done) | (subst_vars;simp;done)
   rintro ⟨w,M,k1⟩ hF2 kw16 Z2 hZ2 S_ s_;obtain ⟨ck,cl,bQ⟩:=hF2;refine VT.sub fun cm co cq cr a9 ba=>?_;intro s_;refine vG [.u 1] fun cs=>?_;intro _ _;refine vd (k1 < (x1.l.length:Int)) (fun q7=>?_) fun q8=>?_
   ·refine nm (x1.l.getD k1.toNat default:Int) fun v2 aS=>vG [.iX (kx false (.f 1) x1 x1.l (fun _=>x1.s) (fun _ _ h=>h)) k1,.lE (kx false (.f 1) x1 x1.l (fun _=>x1.s) (fun _ _ h=>h)) k1 false v2 aS false,.u 1] fun cu=>?_;intro _ _
    have bb:=a7 _ (getD_mem (by omega) aS);obtain ⟨x2,bc⟩:∃ z:Rw,z=(w).getD (v2).toNat default:=⟨_,rfl⟩;obtain ⟨l4,aT⟩:∃ z:List Int,z=(Zo.usI (Zo.usK (gr1.map (·.l)) k0.toNat) k0 (x1.l.take k1.toNat)).getD (v2).toNat []:=⟨_,rfl⟩;refine V.ofVT a9 ba ?_;refine VT.focus 5 (v2).toNat l4 x2.s (by kernel_rfl) (by first | (rw [Zo.usI_len,Zo.usK_len,ak];omega) | (simp only [List.length_set];rw [Zo.usI_len,Zo.usK_len,ak];omega)) aT (by rw [bc]) ?_;intro s_;refine VT.sub fun cv cw cx cy bz bA=>?_;intro s_
    refine nm (l4 ++[k0]:LI) fun l5 aU=>?_;have be:=congrArg List.length aU;try simp at be
    have bB:l4.length≤1001000:=by have h1:=(Zo.usR_row (Zo.UsR.row (m:=(k0.toNat:Int)+1) (i:=k0) (by omega) (by omega) (x1.l.take k1.toNat) ((Zo.UsR.all az k0.toNat).mono (by omega) (Nat.le_refl _))) aT).2;rw [List.length_take] at h1;have h3:k0.toNat * 1000≤1000 * 1000:=Nat.mul_le_mul_right _ (by omega);omega
    refine vG [.u 4,.iX (ko false 34 2 w (fun _=>M)) v2,.lE (ko false 34 2 w (fun _=>M)) v2 false x2 bc false,.u 1,.nr 7 true 3 [k0] [] (fun _ _ _ _ _=>trivial) (fun _=>#[iv k0]),.ap 8 5 3 8 false false l4 (fun _=>x2.s) (kf true (.g 7 0) [k0] (fun G=>⟨atB (G 7).b,1,1⟩)) true l5 aU (by first | omega | (simp;omega) | simp) (fun h=>by cases h) (.inr fun _ _=>trivial),.iX (ko false 34 2 w (fun _=>M)) v2,.seR g0 10 2 34 false w (fun _=>M) v2 (fun G=>(G 8).s) (fun _=>⟨by omega,by omega⟩)] fun aV=>?_;intro _ _
    refine V.ofVT bz bA ?_;refine VT.unfocus 5 (v2).toNat true l5 ((aV 8).s) (by kernel_rfl) (by first | (rw [Zo.usI_len,Zo.usK_len,ak];omega) | (simp only [List.length_set];rw [Zo.usI_len,Zo.usK_len,ak];omega)) ?_;intro s_;refine VT.sub fun cz cC cD cE bC bD=>?_;intro s_
    refine vG [.aa (k1+1),.u 1] fun cF=>?_;intro _ _
    refine V.ofVT bC bD ?_;refine VT.rnd hZ2 (w.set (v2).toNat ⟨(aV 8).s⟩,M,k1+1) [0,1,2,3,4,5,6,7,8,9] (by kernel_rfl) (TabX.cast ?_) ?_ ?_
    ·show (Zo.usI (Zo.usK (gr1.map (·.l)) k0.toNat) k0 (x1.l.take k1.toNat)).set (v2).toNat l5=Zo.usI (Zo.usK (gr1.map (·.l)) k0.toNat) k0 (x1.l.take (k1+1).toNat);rw [Zo.take_snoc (by omega) (by omega) aS,Zo.usI_snoc];unfold Zo.addU;rw [aU,aT]
    ·refine ⟨?_,?_,?_⟩
     ·show 0≤(k1+1)
      first | omega | (simp only [List.length_set];omega)
     ·show (k1+1)≤(x1.l.length:Int)
      first | omega | (simp only [List.length_set];omega)
     show (w.set (v2).toNat ⟨(aV 8).s⟩).length=gr1.length
     first | omega | (simp only [List.length_set];omega)
    dsimp only;omega
   refine vG [.aa (k0+1),.u 1] fun cG=>?_;intro _ _
   refine V.ofVT a9 ba ?_;refine VT.rnd hZ1 (l3,ab,w,M,k0+1,Zh.push h k0,(aQ 4).ss 0) [0,2,3,4,5,6,7,8,9] (by kernel_rfl) (TabX.cast ?_) ?_ ?_
   ·show Zo.usI (Zo.usK (gr1.map (·.l)) k0.toNat) k0 (x1.l.take k1.toNat)=Zo.usK (gr1.map (·.l)) (k0+1).toNat;rw [show (k0+1).toNat=k0.toNat+1 by omega,Zo.usK_succ,show ((k0.toNat:Nat):Int)=k0 by omega,av,List.take_of_length_le (by omega)]
   ·refine ⟨by omega,by omega,?_,?_,?_,?_,?_⟩
    ·show l3.length=gr1.length;omega
    ·show w.length=gr1.length
     first | omega | (simp only [List.length_set];omega)
    ·show ((Zh.push h k0).length:Int)≤(k0+1)
     first | omega | (rw [Zh.push_len];omega)
    ·show l3=Zo.lfK (gr1.map (·.l)) (k0+1).toNat;rw [aG,aD];exact Zo.lfK_step (by omega) (by omega) av
    show (Zh.push h k0)=Zo.hpK (gr1.map (·.l)) (k0+1).toNat;rw [show (k0+1).toNat=k0.toNat+1 by omega,Zo.hpK_succ,av,if_pos (by omega),← aE,show ((k0.toNat:Nat):Int)=k0 by omega]
   dsimp only;omega
  refine vG [.u 1,.ln (kx false (.f 9) x1 x1.l (fun _=>x1.s) (fun _ _ h=>h)),.u 1] fun cH=>?_;intro _ _
  refine V.ofVT aO aP ?_;refine VT.loop (γ:=List Rw × SV × Int) (fun ⟨H,P,ac⟩=>⟨[(4,((G2 1).ss 0).v),(6,ab.v),(7,P.v),(8,pp ((G7 1).b) 0),(9,iv k0),(32,((G2 1).ss 0).v),(33,iv (gr1.length:Int)),(34,iv k0),(52,x1.s.v),(53,iv (x1.l.length:Int)),(54,iv ac)],[fs false gr1 ((G2 1).ss 0),gf false x1,fs false j B,fs false k C,fs false o D,fs false e E,fs false d F,fs false p I,fs false q J,fs false t K],[.blk ((G1 0).b) (ca (DSheet.mk A ⟨j,B⟩ ⟨k,C⟩ ⟨o,D⟩ ⟨e,E⟩ ⟨d,F⟩ ⟨p,I⟩ ⟨q,J⟩ ⟨t,K⟩)) 31,os false 3 l3 ab,os false 34 H P,os false 3 h hs_,.blk ((G7 1).b) #[hs_.v] 65,.no,.no]⟩) (fun ⟨H,P,ac⟩=>TabX 3 none (Zo.usI (Zo.usK (gr1.map (·.l)) k0.toNat) k0 (x1.l.take ac.toNat)) (H)) (fun ⟨H,P,ac⟩=>(0≤ac)∧(ac≤(x1.l.length:Int))∧(H.length=gr1.length)) (fun ⟨H,P,ac⟩=>((x1.l.length:Int)-ac).toNat) (af,Q,0) (by kernel_rfl) [0,9,1,2,3,4,5,6,7,8] (by kernel_rfl) (TabX.cast ?_) ?_ ?_
  ·show Zo.usK (gr1.map (·.l)) k0.toNat=Zo.usI (Zo.usK (gr1.map (·.l)) k0.toNat) k0 (x1.l.take (0:Int).toNat);rfl
  ·refine ⟨by omega,by omega,?_⟩;show af.length=gr1.length
   first | omega | rfl | (simp;done) | (subst_vars;simp;done)
  rintro ⟨H,P,ac⟩ hF3 kw23 Z3 hZ3 S_ s_;obtain ⟨bR,bS,bT⟩:=hF3;refine VT.sub fun cI cJ cK cL bf bg=>?_;intro s_;refine vG [.u 1] fun cM=>?_;intro _ _;refine vd (ac < (x1.l.length:Int)) (fun q9=>?_) fun cN=>?_
  ·refine nm (x1.l.getD ac.toNat default:Int) fun v3 aW=>vG [.iX (kx false (.f 1) x1 x1.l (fun _=>x1.s) (fun _ _ h=>h)) ac,.lE (kx false (.f 1) x1 x1.l (fun _=>x1.s) (fun _ _ h=>h)) ac false v3 aW false,.u 1] fun cO=>?_;intro _ _
   have bb:=a7 _ (getD_mem (by omega) aW);obtain ⟨x3,bh⟩:∃ z:Rw,z=(H).getD (v3).toNat default:=⟨_,rfl⟩;obtain ⟨l6,aX⟩:∃ z:List Int,z=(Zo.usI (Zo.usK (gr1.map (·.l)) k0.toNat) k0 (x1.l.take ac.toNat)).getD (v3).toNat []:=⟨_,rfl⟩;refine V.ofVT bf bg ?_;refine VT.focus 5 (v3).toNat l6 x3.s (by kernel_rfl) (by first | (rw [Zo.usI_len,Zo.usK_len,ak];omega) | (simp only [List.length_set];rw [Zo.usI_len,Zo.usK_len,ak];omega)) aX (by rw [bh]) ?_;intro s_;refine VT.sub fun cQ cR cS cT bE bF=>?_;intro s_
   refine nm (l6 ++[k0]:LI) fun l7 aY=>?_;have bi:=congrArg List.length aY;try simp at bi
   have bB:l6.length≤1001000:=by have h1:=(Zo.usR_row (Zo.UsR.row (m:=(k0.toNat:Int)+1) (i:=k0) (by omega) (by omega) (x1.l.take ac.toNat) ((Zo.UsR.all az k0.toNat).mono (by omega) (Nat.le_refl _))) aX).2;rw [List.length_take] at h1;have h3:k0.toNat * 1000≤1000 * 1000:=Nat.mul_le_mul_right _ (by omega);omega
   refine vG [.u 4,.iX (ko false 34 2 H (fun _=>P)) v3,.lE (ko false 34 2 H (fun _=>P)) v3 false x3 bh false,.u 1,.nr 7 true 3 [k0] [] (fun _ _ _ _ _=>trivial) (fun _=>#[iv k0]),.ap 8 5 3 8 false false l6 (fun _=>x3.s) (kf true (.g 7 0) [k0] (fun G=>⟨atB (G 7).b,1,1⟩)) true l7 aY (by first | omega | (simp;omega) | simp) (fun h=>by cases h) (.inr fun _ _=>trivial),.iX (ko false 34 2 H (fun _=>P)) v3,.seR g0 10 2 34 false H (fun _=>P) v3 (fun G=>(G 8).s) (fun _=>⟨by omega,by omega⟩)] fun aZ=>?_;intro _ _
   refine V.ofVT bE bF ?_;refine VT.unfocus 5 (v3).toNat true l7 ((aZ 8).s) (by kernel_rfl) (by first | (rw [Zo.usI_len,Zo.usK_len,ak];omega) | (simp only [List.length_set];rw [Zo.usI_len,Zo.usK_len,ak];omega)) ?_;intro s_;refine VT.sub fun cU cV cW cX bG bH=>?_;intro s_
   refine vG [.aa (ac+1),.u 1] fun cY=>?_;intro _ _
   refine V.ofVT bG bH ?_;refine VT.rnd hZ3 (H.set (v3).toNat ⟨(aZ 8).s⟩,P,ac+1) [0,1,2,3,4,5,6,7,8,9] (by kernel_rfl) (TabX.cast ?_) ?_ ?_
   ·show (Zo.usI (Zo.usK (gr1.map (·.l)) k0.toNat) k0 (x1.l.take ac.toNat)).set (v3).toNat l7=Zo.usI (Zo.usK (gr1.map (·.l)) k0.toNat) k0 (x1.l.take (ac+1).toNat);rw [Zo.take_snoc (by omega) (by omega) aW,Zo.usI_snoc];unfold Zo.addU;rw [aY,aX]
   ·refine ⟨?_,?_,?_⟩
    ·show 0≤(ac+1)
     first | omega | (simp only [List.length_set];omega)
    ·show (ac+1)≤(x1.l.length:Int)
     first | omega | (simp only [List.length_set];omega)
    show (H.set (v3).toNat ⟨(aZ 8).s⟩).length=gr1.length
    first | omega | (simp only [List.length_set];omega)
   dsimp only;omega
  refine vG [.aa (k0+1),.u 1] fun cZ=>?_;intro _ _
  refine V.ofVT bf bg ?_;refine VT.rnd hZ1 (l3,ab,H,P,k0+1,h,hs_) [0,2,3,4,5,6,7,8,9] (by kernel_rfl) (TabX.cast ?_) ?_ ?_
  ·show Zo.usI (Zo.usK (gr1.map (·.l)) k0.toNat) k0 (x1.l.take ac.toNat)=Zo.usK (gr1.map (·.l)) (k0+1).toNat;rw [show (k0+1).toNat=k0.toNat+1 by omega,Zo.usK_succ,show ((k0.toNat:Nat):Int)=k0 by omega,av,List.take_of_length_le (by omega)]
  ·refine ⟨by omega,by omega,?_,?_,?_,?_,?_⟩
   ·show l3.length=gr1.length;omega
   ·show H.length=gr1.length
    first | omega | (simp only [List.length_set];omega)
   ·show (h.length:Int)≤(k0+1)
    first | omega | (rw [Zh.push_len];omega)
   ·show l3=Zo.lfK (gr1.map (·.l)) (k0+1).toNat;rw [aG,aD];exact Zo.lfK_step (by omega) (by omega) av
   show h=Zo.hpK (gr1.map (·.l)) (k0+1).toNat;rw [show (k0+1).toNat=k0.toNat+1 by omega,Zo.hpK_succ,av,if_neg (by omega),← aE]
  dsimp only;omega
 refine V.ofVT aO aP ?_;refine VT.fin 2 false 34 Q (by kernel_rfl) ?_;intro s_;refine nm ((fats (Zo.usK (gr1.map (·.l)) k0.toNat) fun i=>((af).getD i default).s):List (Fat Int)) fun l8 a0=>?_;refine V.alt (fun (zz:List (Fat Int))=>(⟨[(4,((G2 1).ss 0).v),(6,ab.v),(7,Q.v),(8,pp ((G7 1).b) 0),(32,((G2 1).ss 0).v),(33,iv (gr1.length:Int)),(34,iv k0),(35,bv (decide (k0 < (gr1.length:Int))))],[fs false gr1 ((G2 1).ss 0),fs false j B,fs false k C,fs false o D,fs false e E,fs false d F,fs false p I,fs false q J,fs false t K],[.blk ((G1 0).b) (ca (DSheet.mk A ⟨j,B⟩ ⟨k,C⟩ ⟨o,D⟩ ⟨e,E⟩ ⟨d,F⟩ ⟨p,I⟩ ⟨q,J⟩ ⟨t,K⟩)) 31,os false 3 ae ab,os true 34 zz Q,os false 3 h hs_,.blk ((G7 1).b) #[hs_.v] 65,.no,.no]⟩:St)) a0.symm [0,1,2,3,4,5,6,7,8] (by kernel_rfl) ?_
 have aB:k0.toNat=gr1.length:=by omega
 have bj:l8.map (·.l)=(Zo.usK (gr1.map (·.l)) gr1.length):=by rw [a0,fats_l,aB]
 clear a0;have c0:l8.length=gr1.length:=by have h1:=congrArg List.length bj;rw [List.length_map,Zo.usK_len,ak] at h1;exact h1
 have bk:Zo.UsR (Zo.usK (gr1.map (·.l)) gr1.length) (gr1.length:Int) 1000000:=by have h1:=Zo.UsR.all az gr1.length;refine h1.mono (Int.le_refl _) ?_;have:gr1.length * 1000≤1000 * 1000:=Nat.mul_le_mul_right _ (by omega);omega
 have bI:Zo.InvO gr1.length 1000000 ae h []:=by have h1:=Zo.InvO.init (rows:=(gr1.map (·.l))) (c:=1000000) (fun r hr=>Nat.le_trans (az r hr) (by decide));rw [ak,← aB,← aD,← aE,aB] at h1;exact h1
 have bJ:Zo.finO (Zo.usK (gr1.map (·.l)) gr1.length) (ae,h,[])=Zo.orun (gr1.map (·.l)):=by unfold Zo.orun;rw [ak,← aB,← aD,← aE,aB]
 refine vG [.u 1] fun c1=>?_;intro _ _
 refine V.on (α:=Int) 6 3 (by kernel_rfl) ?_;refine V.lp (γ:=List Int × SV × List Int × SV × List Int × SV) (fun ⟨Z,ah,ai,outs,ad,h_1s⟩=>⟨[(4,((G2 1).ss 0).v),(6,ah.v),(7,Q.v),(8,pp ((G7 1).b) 0),(13,outs.v)],[fs false gr1 ((G2 1).ss 0)],[.no,os false 3 Z ah,os true 34 l8 Q,os false 3 ad h_1s,.blk ((G7 1).b) #[h_1s.v] 65,.no,os true 3 ai outs]⟩) (fun ⟨Z,ah,ai,outs,ad,h_1s⟩=>(Zo.InvO gr1.length 1000000 Z ad ai)∧(Zo.finO (Zo.usK (gr1.map (·.l)) gr1.length) (Z,ad,ai)=Zo.orun (gr1.map (·.l)))) (fun ⟨Z,ah,ai,outs,ad,h_1s⟩=>(ad.length+Zo.pos Z)) (ae,ab,([]:LI),{},h,hs_) [0] ?_ ?_
 ·refine ⟨?_,?_⟩
  ·show Zo.InvO gr1.length 1000000 ae h ([]:LI);exact bI
  show Zo.finO (Zo.usK (gr1.map (·.l)) gr1.length) (ae,h,([]:LI))=Zo.orun (gr1.map (·.l));exact bJ
 rintro ⟨Z,ah,ai,outs,ad,h_1s⟩ hF4 kw30 Z4 hZ4;obtain ⟨ao,aK⟩:=hF4;obtain ⟨bU, -⟩:Lq ad h_1s.v:=kj kw30 3;obtain ⟨bV, -⟩:Lq ai outs.v:=kj kw30 4;have c2:=ao.len;have c3:=ao.sum;refine vG [.u 2,.l 4,.cP 3 33 [(ko false 3 3 ad (fun _=>h_1s)).a] fun G=>rlen_ct ad h_1s,.u 1] fun c4=>?_;intro _ _;refine vd (0 < (ad.length:Int)) (fun c5=>?_) fun c6=>?_
 ·refine vG [.u 2,.cB 2 34 false [4,3] [] [] fun G=>hpop_ct ((G7 1).b) ad h_1s (by omega),.u 2] fun bK=>?_;intro _ _
  have c7:=ao.rng _ ((Zh.pop_perm (l:=ad) (by omega)).mem_iff.1 (List.mem_cons_self ..));refine nm (ai ++[Zh.popV ad]:LI) fun l9 aH=>?_;have bm:=congrArg List.length aH;try simp at bm
  refine vG [.u 2,.nr 2 true 3 [Zh.popV ad] [] (fun _ _ _ _ _=>trivial) (fun _=>#[iv (Zh.popV ad)]),.ap 3 6 3 8 false true ai (fun _=>outs) (kf true (.g 2 0) [Zh.popV ad] (fun G=>⟨atB (G 2).b,1,1⟩)) true l9 aH (by first | omega | (simp;omega) | simp) (fun h=>by cases h) (.inr fun _ _=>trivial),.u 1] fun a1=>?_;intro _ _
  refine nm (l8.getD (Zh.popV ad).toNat default:Fat Int) fun x4 bn=>vG [.u 2,.iX (kO 34 2 l8 Q) (Zh.popV ad),.lE (kO 34 2 l8 Q) (Zh.popV ad) true x4 bn false,.ln (kx true (.g 3 0) x4 x4.l (fun _=>x4.s) (fun _ _ h=>h)),.u 1] fun c8=>?_;intro _ _
  have bp:x4.l=(Zo.usK (gr1.map (·.l)) gr1.length).getD (Zh.popV ad).toNat []:=by rw [←bj,getD_l,bn];rfl
  have a2:=Zo.usR_row bk bp;refine V.lp (γ:=List Int × SV × Int × List Int × SV) (fun ⟨Y,X,k3,aj,al⟩=>⟨[(4,((G2 1).ss 0).v),(6,X.v),(7,Q.v),(8,pp ((G7 1).b) 0),(13,((a1 3).s).v),(86,x4.s.v),(87,iv (x4.l.length:Int)),(88,iv k3)],[fs false gr1 ((G2 1).ss 0),gf true x4],[.no,os false 3 Y X,os true 34 l8 Q,os true 3 aj al,.blk ((G7 1).b) #[al.v] 65,.no,os true 3 l9 ((a1 3).s)]⟩) (fun ⟨Y,X,k3,aj,al⟩=>(0≤k3)∧(k3≤(x4.l.length:Int))∧(Zo.InvI gr1.length 1000000 x4.l Z (Zh.popL ad) ai k3.toNat Y aj)) (fun ⟨Y,X,k3,aj,al⟩=>((x4.l.length:Int)-k3).toNat) (Z,ah,0,Zh.popL ad,(bK 2).ss 0) [0,2] ?_ ?_
  ·refine ⟨by omega,by omega,?_⟩;show Zo.InvI gr1.length 1000000 x4.l Z (Zh.popL ad) ai (0:Int).toNat Z (Zh.popL ad);exact Zo.InvI.init ao (by omega)
  rintro ⟨Y,X,k3,aj,al⟩ hF5 kw35 Z5 hZ5;obtain ⟨bW,bX,am⟩:=hF5;have c9:=am.len;have da:=am.sum;refine vG [.u 1] fun db=>?_;intro _ _;refine vd (k3 < (x4.l.length:Int)) (fun dc=>?_) fun dd=>?_
  ·refine nm (x4.l.getD k3.toNat default:Int) fun v4 aw=>vG [.iX (kx true (.f 1) x4 x4.l (fun _=>x4.s) (fun _ _ h=>h)) k3,.lE (kx true (.f 1) x4 x4.l (fun _=>x4.s) (fun _ _ h=>h)) k3 false v4 aw false,.u 1] fun de=>?_;intro _ _
   have bb:=a2.1 _ (getD_mem (by omega) aw);have df:=am.low v4.toNat;refine nm (Y.getD v4.toNat default:Int) fun v5 ax=>nm (Y.set v4.toNat (v5-1):LI) fun aq au=>?_;have a3:=congrArg List.length au;try simp at a3
   refine vG [.u 2,.iX (ko false 3 1 Y (fun _=>X)) v4,.lE (ko false 3 1 Y (fun _=>X)) v4 false v5 ax false,.aa (v5-1),.iX (ko false 3 1 Y (fun _=>X)) v4,.se g0 6 1 3 false Y (fun _=>X) v4 none v5 (v5-1) ax false aq au (fun _=>⟨by omega,by omega⟩) (fun h=>by cases h) [] (fun _ _ _ _=>trivial)] fun dh=>?_;intro _ _
   refine nm (aq.getD v4.toNat default:Int) fun v6 bq=>vG [.u 2,.iX (ko false 3 1 aq (fun _=>X)) v4,.lE (ko false 3 1 aq (fun _=>X)) v4 false v6 bq false,.u 1] fun di=>?_;intro _ _
   have aL:v6=v5-1:=by rw [bq,au];exact Zo.set_at (by omega)
   refine vd (v6=0) (fun bL=>?_) fun bM=>?_
   ·refine vG [.u 4,.cB 4 32 false [4,3] [] [] fun G=>hpush_ct ((G7 1).b) aj al v4 (by omega)] fun bN=>?_;intro _ _
    refine vG [.aa (k3+1),.u 1] fun dj=>?_;intro _ _
    refine V.rn hZ5 (aq,X,k3+1,Zh.push aj v4,(bN 4).ss 0) [0,1] ?_ ?_
    ·refine ⟨by omega,by omega,?_⟩;show Zo.InvI gr1.length 1000000 x4.l Z (Zh.popL ad) ai (k3+1).toNat aq (Zh.push aj v4);rw [show (k3+1).toNat=k3.toNat+1 by omega,au,ax];exact am.stepY (by omega) aw (a2.1 _ (getD_mem (by omega) aw)) (by rw [←ax,← aL];exact bL)
    dsimp only;omega
   refine vG [.aa (k3+1),.u 1] fun dk=>?_;intro _ _
   refine V.rn hZ5 (aq,X,k3+1,aj,al) [0,1] ?_ ?_
   ·refine ⟨by omega,by omega,?_⟩;show Zo.InvI gr1.length 1000000 x4.l Z (Zh.popL ad) ai (k3+1).toNat aq aj;rw [show (k3+1).toNat=k3.toNat+1 by omega,au,ax];exact am.stepN (by omega) aw (a2.1 _ (getD_mem (by omega) aw)) (by rw [←ax,← aL];exact bM)
   dsimp only;omega
  refine V.rn hZ4 (Y,X,l9,(a1 3).s,aj,al) [0] ?_ ?_
  ·refine ⟨?_,?_⟩
   ·show Zo.InvO gr1.length 1000000 Y aj l9;rw [aH];exact am.fin _ (by omega)
   show Zo.finO (Zo.usK (gr1.map (·.l)) gr1.length) (Y,aj,l9)=Zo.orun (gr1.map (·.l));rw [aH,Zo.finO_round ao bk (by omega) bp am (by omega)];exact aK
  show (aj.length+Zo.pos Y) < (ad.length+Zo.pos Z)
  have:=am.sum;omega
 have aC:(Zo.snd A j k o e d p q t):=by simpa using q2
 have br:(gr1.map (·.l))=(Zo.grf (e.map Zc.fe) d):=by rw [an,if_pos aC]
 have aI:Zo.orun (Zo.grf (e.map Zc.fe) d)=ai:=by rw [←br,← aK,Zo.finO_end (by omega)]
 have aJ:(Zo.grf (e.map Zc.fe) d).length=gr1.length:=by rw [←br,List.length_map]
 refine vG [.u 1,.ln (kO 3 6 ai outs),.u 1,.ln (kF 0 gr1 ((G2 1).ss 0)),.u 1] fun dl=>?_;intro _ _
 refine vd ((ai.length:Int) < (gr1.length:Int)) (fun dm=>?_) fun dp=>?_
 ·refine vG [.u 2] fun dq=>?_;intro _ _
  refine V.nilF (α:=Int) ?_;have e0:([]:LI)=(if (Zo.snd A j k o e d p q t) then Zo.ordL (Zo.grf (e.map Zc.fe) d) else []):=by rw [if_pos aC,Zo.ordL,aI,aJ,if_pos (by omega)]
  rw [←e0];have e1:(23:Int)=(if (Zo.snd A j k o e d p q t) then Zo.ordN (Zo.grf (e.map Zc.fe) d) else 1):=by rw [if_pos aC,Zo.ordN,aI,aJ,if_pos (by omega)]
  exact V.rT [0,0] [] [] [] [1] [] (cong1 (fun (aA:Int)=>(.tuple #[SV.v ({}),iv aA]:Value)) e1)
 refine vG [.u 3] fun ds=>?_;intro _ _
 refine V.frz 6 true 3 ai outs (by kernel_rfl) ?_;have e0:ai=(if (Zo.snd A j k o e d p q t) then Zo.ordL (Zo.grf (e.map Zc.fe) d) else []):=by rw [if_pos aC,Zo.ordL,aI,aJ,if_neg (by omega)]
 subst e0;have e1:(0:Int)=(if (Zo.snd A j k o e d p q t) then Zo.ordN (Zo.grf (e.map Zc.fe) d) else 1):=by rw [if_pos aC,Zo.ordN,aI,aJ,if_neg (by omega)]
 exact V.rT [0,0] [outs] [] [] [1] [] (cong1 (fun (aA:Int)=>(.tuple #[outs.v,iv aA]:Value)) e1)

theorem oor_v1 (k:ByteArray) (a:List DImport) (l:SV) (b:List DInput) (m:SV) (c:List DTable) (n:SV) (d:List DFunc) (o:SV) (e:List DCell) (p:SV) (f:List DPort) (q:SV) (i:List DStore) (r:SV) (j:List DRecipe) (t:SV) (hE:Zl.ExS (Zl.numX 2) (Zl.numX 1) k a b c d e f i j) :
  Ct Tryz.prog 11 #[ag (DSheet.mk k ⟨a,l⟩ ⟨b,m⟩ ⟨c,n⟩ ⟨d,o⟩ ⟨e,p⟩ ⟨f,q⟩ ⟨i,r⟩ ⟨j,t⟩)] [fs true a l,fs true b m,fs true c n,fs true d o,fs true e p,fs true f q,fs true i r,fs true j t] [] (fun g=>.tuple #[((g.ss 0)).v,iv 0]) (fun g=>[fs true ([1,3,2,0]:List Int) (g.ss 0)]) (fun g=>[]) (fun g=>[]):=by
 have h:=oor_ct k a l b m c n d o e p f q i r j t (hE.sml (Zl.sm_num 2) (Zl.sm_num 1)) (by have:=hE.len;omega) (by have:=hE.len;omega);rw [hE.L1,hE.N1] at h;exact h
theorem oor_v2 (k:ByteArray) (a:List DImport) (l:SV) (b:List DInput) (m:SV) (c:List DTable) (n:SV) (d:List DFunc) (o:SV) (e:List DCell) (p:SV) (f:List DPort) (q:SV) (i:List DStore) (r:SV) (j:List DRecipe) (t:SV) (hE:Zl.ExS (Zl.numX 2) (Zl.nmX Zl.tA) k a b c d e f i j) :
  Ct Tryz.prog 11 #[ag (DSheet.mk k ⟨a,l⟩ ⟨b,m⟩ ⟨c,n⟩ ⟨d,o⟩ ⟨e,p⟩ ⟨f,q⟩ ⟨i,r⟩ ⟨j,t⟩)] [fs true a l,fs true b m,fs true c n,fs true d o,fs true e p,fs true f q,fs true i r,fs true j t] [] (fun g=>.tuple #[((g.ss 0)).v,iv 23]) (fun g=>[fs true ([]:List Int) (g.ss 0)]) (fun g=>[]) (fun g=>[]):=by
 have h:=oor_ct k a l b m c n d o e p f q i r j t (hE.sml (Zl.sm_num 2) Zl.sm_nmA) (by have:=hE.len;omega) (by have:=hE.len;omega);rw [hE.L2,hE.N2] at h;exact h
theorem oor_v0 (k:ByteArray) (a:List DImport) (l:SV) (b:List DInput) (m:SV) (c:List DTable) (n:SV) (d:List DFunc) (o:SV) (e:List DCell) (p:SV) (f:List DPort) (q:SV) (i:List DStore) (r:SV) (j:List DRecipe) (t:SV) (hE:Zl.NoS k a b c d e f i j) :
  Ct Tryz.prog 11 #[ag (DSheet.mk k ⟨a,l⟩ ⟨b,m⟩ ⟨c,n⟩ ⟨d,o⟩ ⟨e,p⟩ ⟨f,q⟩ ⟨i,r⟩ ⟨j,t⟩)] [fs true a l,fs true b m,fs true c n,fs true d o,fs true e p,fs true f q,fs true i r,fs true j t] [] (fun g=>.tuple #[((g.ss 0)).v,iv 1]) (fun g=>[fs true ([]:List Int) (g.ss 0)]) (fun g=>[]) (fun g=>[]):=by
 have h:=oor_ct k a l b m c n d o e p f q i r j t hE.sml (by have:=hE.len;omega) (by have:=hE.len;omega);rw [hE.L,hE.N] at h;exact h
theorem oso_v1 (j:ByteArray) (a:List DImport) (k:SV) (b:List DInput) (l:SV) (c:List DTable) (m:SV) (d:List DFunc) (n:SV) (e:List DCell) (o:SV) (f:List DPort) (p:SV) (g:List DStore) (q:SV) (i:List DRecipe) (r:SV) (hE:Zl.ExS (Zl.numX 2) (Zl.numX 1) j a b c d e f g i) :
  Cp Tryz.prog 13 #[ag (DSheet.mk j ⟨a,k⟩ ⟨b,l⟩ ⟨c,m⟩ ⟨d,n⟩ ⟨e,o⟩ ⟨f,p⟩ ⟨g,q⟩ ⟨i,r⟩)] [fs true a k,fs true b l,fs true c m,fs true d n,fs true e o,fs true f p,fs true g q,fs true i r] (bv (true)):=by
 have h:=oso_ct j a k b l c m d n e o f p g q i r (hE.sml (Zl.sm_num 2) (Zl.sm_num 1)) (by have:=hE.len;omega);rw [decide_eq_true (hE.snd Zl.ex1)] at h;exact h
theorem ond_v1 (k:ByteArray) (a:List DImport) (l:SV) (b:List DInput) (m:SV) (c:List DTable) (n:SV) (d:List DFunc) (o:SV) (e:List DCell) (p:SV) (f:List DPort) (q:SV) (i:List DStore) (r:SV) (j:List DRecipe) (t:SV) (cell:Int) (hE:Zl.ExS (Zl.numX 2) (Zl.numX 1) k a b c d e f i j) :
  Ct Tryz.prog 16 #[ag (DSheet.mk k ⟨a,l⟩ ⟨b,m⟩ ⟨c,n⟩ ⟨d,o⟩ ⟨e,p⟩ ⟨f,q⟩ ⟨i,r⟩ ⟨j,t⟩),iv cell] [fs true a l,fs true b m,fs true c n,fs true d o,fs true e p,fs true f q,fs true i r,fs true j t] [] (fun g=>((g.ss 0)).v) (fun g=>[fs true (if 0≤cell∧cell < 4 then ([[1,2],[],[1,3],[]]:List (List Int)).getD cell.toNat [] else []) (g.ss 0)]) (fun g=>[]) (fun g=>[]):=by
 have h:=ond_ct k a l b m c n d o e p f q i r j t cell (hE.sml (Zl.sm_num 2) (Zl.sm_num 1)) (by have:=hE.len;omega);rw [hE.D1] at h;exact h
theorem ocy_v1 (k:ByteArray) (a:List DImport) (l:SV) (b:List DInput) (m:SV) (c:List DTable) (n:SV) (d:List DFunc) (o:SV) (e:List DCell) (p:SV) (f:List DPort) (q:SV) (i:List DStore) (r:SV) (j:List DRecipe) (t:SV) (hE:Zl.ExS (Zl.numX 2) (Zl.numX 1) k a b c d e f i j) :
  Ct Tryz.prog 18 #[ag (DSheet.mk k ⟨a,l⟩ ⟨b,m⟩ ⟨c,n⟩ ⟨d,o⟩ ⟨e,p⟩ ⟨f,q⟩ ⟨i,r⟩ ⟨j,t⟩)] [fs true a l,fs true b m,fs true c n,fs true d o,fs true e p,fs true f q,fs true i r,fs true j t] [] (fun g=>((g.ss 0)).v) (fun g=>[fs true (([]:List Int)) (g.ss 0)]) (fun g=>[]) (fun g=>[]):=by
 have h:=ocy_ct k a l b m c n d o e p f q i r j t (hE.sml (Zl.sm_num 2) (Zl.sm_num 1)) (by have:=hE.len;omega);rw [hE.Y1] at h;exact h
theorem ocy_v2 (k:ByteArray) (a:List DImport) (l:SV) (b:List DInput) (m:SV) (c:List DTable) (n:SV) (d:List DFunc) (o:SV) (e:List DCell) (p:SV) (f:List DPort) (q:SV) (i:List DStore) (r:SV) (j:List DRecipe) (t:SV) (hE:Zl.ExS (Zl.numX 2) (Zl.nmX Zl.tA) k a b c d e f i j) :
  Ct Tryz.prog 18 #[ag (DSheet.mk k ⟨a,l⟩ ⟨b,m⟩ ⟨c,n⟩ ⟨d,o⟩ ⟨e,p⟩ ⟨f,q⟩ ⟨i,r⟩ ⟨j,t⟩)] [fs true a l,fs true b m,fs true c n,fs true d o,fs true e p,fs true f q,fs true i r,fs true j t] [] (fun g=>((g.ss 0)).v) (fun g=>[fs true (([0,2,3]:List Int)) (g.ss 0)]) (fun g=>[]) (fun g=>[]):=by
 have h:=ocy_ct k a l b m c n d o e p f q i r j t (hE.sml (Zl.sm_num 2) Zl.sm_nmA) (by have:=hE.len;omega);rw [hE.Y2] at h;exact h
theorem ocy_v3 (k:ByteArray) (a:List DImport) (l:SV) (b:List DInput) (m:SV) (c:List DTable) (n:SV) (d:List DFunc) (o:SV) (e:List DCell) (p:SV) (f:List DPort) (q:SV) (i:List DStore) (r:SV) (j:List DRecipe) (t:SV) (hE:Zl.ExS (Zl.nmX Zl.tB) (Zl.nmX Zl.tA) k a b c d e f i j) :
  Ct Tryz.prog 18 #[ag (DSheet.mk k ⟨a,l⟩ ⟨b,m⟩ ⟨c,n⟩ ⟨d,o⟩ ⟨e,p⟩ ⟨f,q⟩ ⟨i,r⟩ ⟨j,t⟩)] [fs true a l,fs true b m,fs true c n,fs true d o,fs true e p,fs true f q,fs true i r,fs true j t] [] (fun g=>((g.ss 0)).v) (fun g=>[fs true (([1]:List Int)) (g.ss 0)]) (fun g=>[]) (fun g=>[]):=by
 have h:=ocy_ct k a l b m c n d o e p f q i r j t (hE.sml Zl.sm_nmB Zl.sm_nmA) (by have:=hE.len;omega);rw [hE.Y3] at h;exact h
theorem lsm_ct :
  Cp Tryz.prog 9 #[] [] (bv true):=by
 refine vf mo Tryz.func9 93 3 fun _=>?_
 refine vG [.kb false] fun G1=>?_;intro _ _
 refine vG [.u 1,.n 0,.s 0] fun G2=>?_;intro _ _
 refine vG [.u 1,.l 0,.ctT g0 2 29 [(knil (α:=DExpr)).a,(knil (α:=DExpr)).a] (fun _ G=>lex2_ct (DExpr.mk 0 2 ByteArray.empty ByteArray.empty ⟨[],{}⟩) (DExpr.mk 0 1 ByteArray.empty ByteArray.empty ⟨[],{}⟩)),.n 1,.s 1] fun G3=>?_;intro _ _
 refine vG [.l 1,.cA 1 11 [(knil (α:=DImport)).a,(knil (α:=DInput)).a,(knil (α:=DTable)).a,kB 0 (Zl.mkF (tr Zl.exT ((G3 2).gt 0))) ((G3 2).ss 0),kB 1 (Zl.mkC (DExpr.mk 0 2 ByteArray.empty ByteArray.empty ⟨[],{}⟩) (DExpr.mk 0 1 ByteArray.empty ByteArray.empty ⟨[],{}⟩) (tr Zl.exT ((G3 2).gt 0))) ((G3 2).ss 1),(knil (α:=DPort)).a,(knil (α:=DStore)).a,(knil (α:=DRecipe)).a] fun G=>oor_v1 ⟨#[109]⟩ ([]:List DImport) ({}) ([]:List DInput) ({}) ([]:List DTable) ({}) (Zl.mkF (tr Zl.exT ((G3 2).gt 0))) ((G3 2).ss 0) (Zl.mkC (DExpr.mk 0 2 ByteArray.empty ByteArray.empty ⟨[],{}⟩) (DExpr.mk 0 1 ByteArray.empty ByteArray.empty ⟨[],{}⟩) (tr Zl.exT ((G3 2).gt 0))) ((G3 2).ss 1) ([]:List DPort) ({}) ([]:List DStore) ({}) ([]:List DRecipe) ({}) (Zl.ex1E ((G3 2).gt 0)),.u 5] fun G4=>?_;intro _ _
 refine vG [.u 1,.cP 1 30 [] fun G=>lnm_ct ⟨#[97]⟩,.ctT g0 2 29 [(knil (α:=DExpr)).a,(knil (α:=DExpr)).a] (fun _ G=>lex2_ct (DExpr.mk 0 2 ByteArray.empty ByteArray.empty ⟨[],{}⟩) (nX 97)),.n 2,.s 2] fun G5=>?_;intro _ _
 refine vG [.l 2,.cA 1 11 [(knil (α:=DImport)).a,(knil (α:=DInput)).a,(knil (α:=DTable)).a,kB 3 (Zl.mkF (tr Zl.exT ((G5 2).gt 0))) ((G5 2).ss 0),kB 4 (Zl.mkC (DExpr.mk 0 2 ByteArray.empty ByteArray.empty ⟨[],{}⟩) (nX 97) (tr Zl.exT ((G5 2).gt 0))) ((G5 2).ss 1),(knil (α:=DPort)).a,(knil (α:=DStore)).a,(knil (α:=DRecipe)).a] fun G=>oor_v2 ⟨#[109]⟩ ([]:List DImport) ({}) ([]:List DInput) ({}) ([]:List DTable) ({}) (Zl.mkF (tr Zl.exT ((G5 2).gt 0))) ((G5 2).ss 0) (Zl.mkC (DExpr.mk 0 2 ByteArray.empty ByteArray.empty ⟨[],{}⟩) (nX 97) (tr Zl.exT ((G5 2).gt 0))) ((G5 2).ss 1) ([]:List DPort) ({}) ([]:List DStore) ({}) ([]:List DRecipe) ({}) (Zl.ex2E ((G5 2).gt 0)),.u 5] fun G6=>?_;intro _ _
 refine vG [.u 1,.cA 1 11 [(knil (α:=DImport)).a,(knil (α:=DInput)).a,(knil (α:=DTable)).a,(knil (α:=DFunc)).a,(knil (α:=DCell)).a,(knil (α:=DPort)).a,(knil (α:=DStore)).a,(knil (α:=DRecipe)).a] fun G=>oor_v0 ByteArray.empty ([]:List DImport) ({}) ([]:List DInput) ({}) ([]:List DTable) ({}) ([]:List DFunc) ({}) ([]:List DCell) ({}) ([]:List DPort) ({}) ([]:List DStore) ({}) ([]:List DRecipe) ({}) Zl.NoS.of,.u 5] fun G7=>?_;intro _ _
 refine nm ((decide (([1,3,2,0]:LI)=([1,3,2,0]:LI))) && true:Bool) fun p1 f=>vG [.l 1,.cP 1 13 [(knil (α:=DImport)).a,(knil (α:=DInput)).a,(knil (α:=DTable)).a,kB 0 (Zl.mkF (tr Zl.exT ((G3 2).gt 0))) ((G3 2).ss 0),kB 1 (Zl.mkC (DExpr.mk 0 2 ByteArray.empty ByteArray.empty ⟨[],{}⟩) (DExpr.mk 0 1 ByteArray.empty ByteArray.empty ⟨[],{}⟩) (tr Zl.exT ((G3 2).gt 0))) ((G3 2).ss 1),(knil (α:=DPort)).a,(knil (α:=DStore)).a,(knil (α:=DRecipe)).a] fun G=>oso_v1 ⟨#[109]⟩ ([]:List DImport) ({}) ([]:List DInput) ({}) ([]:List DTable) ({}) (Zl.mkF (tr Zl.exT ((G3 2).gt 0))) ((G3 2).ss 0) (Zl.mkC (DExpr.mk 0 2 ByteArray.empty ByteArray.empty ⟨[],{}⟩) (DExpr.mk 0 1 ByteArray.empty ByteArray.empty ⟨[],{}⟩) (tr Zl.exT ((G3 2).gt 0))) ((G3 2).ss 1) ([]:List DPort) ({}) ([]:List DStore) ({}) ([]:List DRecipe) ({}) (Zl.ex1E ((G3 2).gt 0)),.kb true,.u 1,.kb true,.kb true,.kb true,.u 1,.nr 8 true 3 ([1,3,2,0]:LI) [] (fun _ _ _ _ _=>trivial) (fun _=>#[iv 1,iv 3,iv 2,iv 0]),.cP 9 15 [kB 2 ([1,3,2,0]:LI) ((G4 1).ss 0),(kf true (.g 8 0) ([1,3,2,0]:LI) (fun G=>⟨atB (G 8).b,4,4⟩)).a] fun G=>rsam_ct ([1,3,2,0]:LI) ((G4 1).ss 0) ([1,3,2,0]:LI) ⟨atB (G 8).b,4,4⟩,.u 3,.kb true,.andn g0 false (decide (([1,3,2,0]:LI)=([1,3,2,0]:LI))) true p1 f,.u 2,.kb true,.and g0 false p1 true,.u 1] fun G8=>?_;intro _ _
 refine nm ((decide ((if 0≤(0:Int)∧(0:Int) < 4 then ([[1,2],[],[1,3],[]]:List (List Int)).getD (0:Int).toNat [] else [])=([1,2]:LI))) && (decide ((if 0≤(2:Int)∧(2:Int) < 4 then ([[1,2],[],[1,3],[]]:List (List Int)).getD (2:Int).toNat [] else [])=([1,3]:LI))):Bool) fun p2 d=>nm (p2 && (decide (((if 0≤(1:Int)∧(1:Int) < 4 then ([[1,2],[],[1,3],[]]:List (List Int)).getD (1:Int).toNat [] else []).length:Int)=0)):Bool) fun p3 h=>vG [.l 1,.cA 1 16 [(knil (α:=DImport)).a,(knil (α:=DInput)).a,(knil (α:=DTable)).a,kB 0 (Zl.mkF (tr Zl.exT ((G3 2).gt 0))) ((G3 2).ss 0),kB 1 (Zl.mkC (DExpr.mk 0 2 ByteArray.empty ByteArray.empty ⟨[],{}⟩) (DExpr.mk 0 1 ByteArray.empty ByteArray.empty ⟨[],{}⟩) (tr Zl.exT ((G3 2).gt 0))) ((G3 2).ss 1),(knil (α:=DPort)).a,(knil (α:=DStore)).a,(knil (α:=DRecipe)).a] fun G=>ond_v1 ⟨#[109]⟩ ([]:List DImport) ({}) ([]:List DInput) ({}) ([]:List DTable) ({}) (Zl.mkF (tr Zl.exT ((G3 2).gt 0))) ((G3 2).ss 0) (Zl.mkC (DExpr.mk 0 2 ByteArray.empty ByteArray.empty ⟨[],{}⟩) (DExpr.mk 0 1 ByteArray.empty ByteArray.empty ⟨[],{}⟩) (tr Zl.exT ((G3 2).gt 0))) ((G3 2).ss 1) ([]:List DPort) ({}) ([]:List DStore) ({}) ([]:List DRecipe) ({}) (0:Int) (Zl.ex1E ((G3 2).gt 0)),.nr 2 true 3 ([1,2]:LI) [] (fun _ _ _ _ _=>trivial) (fun _=>#[iv 1,iv 2]),.cP 3 15 [(kf true (.g 1 0) (if 0≤(0:Int)∧(0:Int) < 4 then ([[1,2],[],[1,3],[]]:List (List Int)).getD (0:Int).toNat [] else []) (fun G=>(G 1).ss 0)).a,(kf true (.g 2 0) ([1,2]:LI) (fun G=>⟨atB (G 2).b,2,2⟩)).a] fun G=>rsam_ct (if 0≤(0:Int)∧(0:Int) < 4 then ([[1,2],[],[1,3],[]]:List (List Int)).getD (0:Int).toNat [] else []) ((G 1).ss 0) ([1,2]:LI) ⟨atB (G 2).b,2,2⟩,.u 1,.l 1,.ct (gT (b:=decide ((if 0≤(0:Int)∧(0:Int) < 4 then ([[1,2],[],[1,3],[]]:List (List Int)).getD (0:Int).toNat [] else [])=([1,2]:LI))) iDT) 6 16 false [] [] [(knil (α:=DImport)).a,(knil (α:=DInput)).a,(knil (α:=DTable)).a,kB 0 (Zl.mkF (tr Zl.exT ((G3 2).gt 0))) ((G3 2).ss 0),kB 1 (Zl.mkC (DExpr.mk 0 2 ByteArray.empty ByteArray.empty ⟨[],{}⟩) (DExpr.mk 0 1 ByteArray.empty ByteArray.empty ⟨[],{}⟩) (tr Zl.exT ((G3 2).gt 0))) ((G3 2).ss 1),(knil (α:=DPort)).a,(knil (α:=DStore)).a,(knil (α:=DRecipe)).a] (fun hg G=>ond_v1 ⟨#[109]⟩ ([]:List DImport) ({}) ([]:List DInput) ({}) ([]:List DTable) ({}) (Zl.mkF (tr Zl.exT ((G3 2).gt 0))) ((G3 2).ss 0) (Zl.mkC (DExpr.mk 0 2 ByteArray.empty ByteArray.empty ⟨[],{}⟩) (DExpr.mk 0 1 ByteArray.empty ByteArray.empty ⟨[],{}⟩) (tr Zl.exT ((G3 2).gt 0))) ((G3 2).ss 1) ([]:List DPort) ({}) ([]:List DStore) ({}) ([]:List DRecipe) ({}) (2:Int) (Zl.ex1E ((G3 2).gt 0))),.nr 7 true 3 ([1,3]:LI) [] (fun _ _ _ _ _=>trivial) (fun _=>#[iv 1,iv 3]),.cp (gT (b:=decide ((if 0≤(0:Int)∧(0:Int) < 4 then ([[1,2],[],[1,3],[]]:List (List Int)).getD (0:Int).toNat [] else [])=([1,2]:LI))) iDT) 8 15 [(kf true (.g 6 0) (if 0≤(2:Int)∧(2:Int) < 4 then ([[1,2],[],[1,3],[]]:List (List Int)).getD (2:Int).toNat [] else []) (fun G=>(G 6).ss 0)).a,(kf true (.g 7 0) ([1,3]:LI) (fun G=>⟨atB (G 7).b,2,2⟩)).a] (fun hg G=>rsam_ct (if 0≤(2:Int)∧(2:Int) < 4 then ([[1,2],[],[1,3],[]]:List (List Int)).getD (2:Int).toNat [] else []) ((G 6).ss 0) ([1,3]:LI) ⟨atB (G 7).b,2,2⟩),.andn g0 false (decide ((if 0≤(0:Int)∧(0:Int) < 4 then ([[1,2],[],[1,3],[]]:List (List Int)).getD (0:Int).toNat [] else [])=([1,2]:LI))) (decide ((if 0≤(2:Int)∧(2:Int) < 4 then ([[1,2],[],[1,3],[]]:List (List Int)).getD (2:Int).toNat [] else [])=([1,3]:LI))) p2 d,.u 1,.l 1,.ct (gT (b:=p2) (iN d (iAT iDT iDT))) 12 16 false [] [] [(knil (α:=DImport)).a,(knil (α:=DInput)).a,(knil (α:=DTable)).a,kB 0 (Zl.mkF (tr Zl.exT ((G3 2).gt 0))) ((G3 2).ss 0),kB 1 (Zl.mkC (DExpr.mk 0 2 ByteArray.empty ByteArray.empty ⟨[],{}⟩) (DExpr.mk 0 1 ByteArray.empty ByteArray.empty ⟨[],{}⟩) (tr Zl.exT ((G3 2).gt 0))) ((G3 2).ss 1),(knil (α:=DPort)).a,(knil (α:=DStore)).a,(knil (α:=DRecipe)).a] (fun hg G=>ond_v1 ⟨#[109]⟩ ([]:List DImport) ({}) ([]:List DInput) ({}) ([]:List DTable) ({}) (Zl.mkF (tr Zl.exT ((G3 2).gt 0))) ((G3 2).ss 0) (Zl.mkC (DExpr.mk 0 2 ByteArray.empty ByteArray.empty ⟨[],{}⟩) (DExpr.mk 0 1 ByteArray.empty ByteArray.empty ⟨[],{}⟩) (tr Zl.exT ((G3 2).gt 0))) ((G3 2).ss 1) ([]:List DPort) ({}) ([]:List DStore) ({}) ([]:List DRecipe) ({}) (1:Int) (Zl.ex1E ((G3 2).gt 0))),.ln (kf true (.g 12 0) (if 0≤(1:Int)∧(1:Int) < 4 then ([[1,2],[],[1,3],[]]:List (List Int)).getD (1:Int).toNat [] else []) (fun G=>(G 12).ss 0)),.u 1,.andn g0 false p2 (decide (((if 0≤(1:Int)∧(1:Int) < 4 then ([[1,2],[],[1,3],[]]:List (List Int)).getD (1:Int).toNat [] else []).length:Int)=0)) p3 h,.u 1] fun G9=>?_;intro _ _
 refine nm (((p1 && true) && p3) && (decide (([0,2,3]:LI)=([0,2,3]:LI))):Bool) fun p4 i=>nm (p4 && (decide (([1]:LI)=([1]:LI))):Bool) fun p5 j=>nm (p5 && (decide ((([]:LI).length:Int)=0)):Bool) fun p6 o=>vG [.u 3,.and g0 false (p1 && true) p3,.u 1,.l 2,.ct (gT (b:=(p1 && true) && p3) (iAT (iAT (iN f (iAT iDT iTT)) iTT) (iN h (iAT (iN d (iAT iDT iDT)) iDT)))) 6 18 false [] [] [(knil (α:=DImport)).a,(knil (α:=DInput)).a,(knil (α:=DTable)).a,kB 3 (Zl.mkF (tr Zl.exT ((G5 2).gt 0))) ((G5 2).ss 0),kB 4 (Zl.mkC (DExpr.mk 0 2 ByteArray.empty ByteArray.empty ⟨[],{}⟩) (nX 97) (tr Zl.exT ((G5 2).gt 0))) ((G5 2).ss 1),(knil (α:=DPort)).a,(knil (α:=DStore)).a,(knil (α:=DRecipe)).a] (fun hg G=>ocy_v2 ⟨#[109]⟩ ([]:List DImport) ({}) ([]:List DInput) ({}) ([]:List DTable) ({}) (Zl.mkF (tr Zl.exT ((G5 2).gt 0))) ((G5 2).ss 0) (Zl.mkC (DExpr.mk 0 2 ByteArray.empty ByteArray.empty ⟨[],{}⟩) (nX 97) (tr Zl.exT ((G5 2).gt 0))) ((G5 2).ss 1) ([]:List DPort) ({}) ([]:List DStore) ({}) ([]:List DRecipe) ({}) (Zl.ex2E ((G5 2).gt 0))),.nr 7 true 3 ([0,2,3]:LI) [] (fun _ _ _ _ _=>trivial) (fun _=>#[iv 0,iv 2,iv 3]),.cp (gT (b:=(p1 && true) && p3) (iAT (iAT (iN f (iAT iDT iTT)) iTT) (iN h (iAT (iN d (iAT iDT iDT)) iDT)))) 8 15 [(kf true (.g 6 0) ([0,2,3]:LI) (fun G=>(G 6).ss 0)).a,(kf true (.g 7 0) ([0,2,3]:LI) (fun G=>⟨atB (G 7).b,3,3⟩)).a] (fun hg G=>rsam_ct ([0,2,3]:LI) ((G 6).ss 0) ([0,2,3]:LI) ⟨atB (G 7).b,3,3⟩),.andn g0 false ((p1 && true) && p3) (decide (([0,2,3]:LI)=([0,2,3]:LI))) p4 i,.u 1,.cp (gT (b:=p4) (iN i (iAT (iAT (iAT (iN f (iAT iDT iTT)) iTT) (iN h (iAT (iN d (iAT iDT iDT)) iDT))) iDT))) 11 30 [] (fun hg G=>lnm_ct ⟨#[98]⟩),.cp (gT (b:=p4) (iN i (iAT (iAT (iAT (iN f (iAT iDT iTT)) iTT) (iN h (iAT (iN d (iAT iDT iDT)) iDT))) iDT))) 12 30 [] (fun hg G=>lnm_ct ⟨#[97]⟩),.ctT (gT (b:=p4) (iN i (iAT (iAT (iAT (iN f (iAT iDT iTT)) iTT) (iN h (iAT (iN d (iAT iDT iDT)) iDT))) iDT))) 13 29 [(knil (α:=DExpr)).a,(knil (α:=DExpr)).a] (fun hg G=>lex2_ct (nX 98) (nX 97)),.ct (gT (b:=p4) (iN i (iAT (iAT (iAT (iN f (iAT iDT iTT)) iTT) (iN h (iAT (iN d (iAT iDT iDT)) iDT))) iDT))) 14 18 false [] [] [(knil (α:=DImport)).a,(knil (α:=DInput)).a,(knil (α:=DTable)).a,(kg true (.g 13 0) (fun G=>(Zl.mkF (tr Zl.exT ((G 13).gt 0)))) (fun G=>(G 13).ss 0)),(kg true (.g 13 1) (fun G=>(Zl.mkC (nX 98) (nX 97) (tr Zl.exT ((G 13).gt 0)))) (fun G=>(G 13).ss 1)),(knil (α:=DPort)).a,(knil (α:=DStore)).a,(knil (α:=DRecipe)).a] (fun hg G=>ocy_v3 ⟨#[109]⟩ ([]:List DImport) ({}) ([]:List DInput) ({}) ([]:List DTable) ({}) (Zl.mkF (tr Zl.exT ((G 13).gt 0))) ((G 13).ss 0) (Zl.mkC (nX 98) (nX 97) (tr Zl.exT ((G 13).gt 0))) ((G 13).ss 1) ([]:List DPort) ({}) ([]:List DStore) ({}) ([]:List DRecipe) ({}) (Zl.ex3E ((G 13).gt 0))),.nr 15 true 3 ([1]:LI) [] (fun _ _ _ _ _=>trivial) (fun _=>#[iv 1]),.cp (gT (b:=p4) (iN i (iAT (iAT (iAT (iN f (iAT iDT iTT)) iTT) (iN h (iAT (iN d (iAT iDT iDT)) iDT))) iDT))) 16 15 [(kf true (.g 14 0) ([1]:LI) (fun G=>(G 14).ss 0)).a,(kf true (.g 15 0) ([1]:LI) (fun G=>⟨atB (G 15).b,1,1⟩)).a] (fun hg G=>rsam_ct ([1]:LI) ((G 14).ss 0) ([1]:LI) ⟨atB (G 15).b,1,1⟩),.andn g0 false p4 (decide (([1]:LI)=([1]:LI))) p5 j,.u 1,.l 1,.ct (gT (b:=p5) (iN j (iAT (iN i (iAT (iAT (iAT (iN f (iAT iDT iTT)) iTT) (iN h (iAT (iN d (iAT iDT iDT)) iDT))) iDT)) iDT))) 20 18 false [] [] [(knil (α:=DImport)).a,(knil (α:=DInput)).a,(knil (α:=DTable)).a,kB 0 (Zl.mkF (tr Zl.exT ((G3 2).gt 0))) ((G3 2).ss 0),kB 1 (Zl.mkC (DExpr.mk 0 2 ByteArray.empty ByteArray.empty ⟨[],{}⟩) (DExpr.mk 0 1 ByteArray.empty ByteArray.empty ⟨[],{}⟩) (tr Zl.exT ((G3 2).gt 0))) ((G3 2).ss 1),(knil (α:=DPort)).a,(knil (α:=DStore)).a,(knil (α:=DRecipe)).a] (fun hg G=>ocy_v1 ⟨#[109]⟩ ([]:List DImport) ({}) ([]:List DInput) ({}) ([]:List DTable) ({}) (Zl.mkF (tr Zl.exT ((G3 2).gt 0))) ((G3 2).ss 0) (Zl.mkC (DExpr.mk 0 2 ByteArray.empty ByteArray.empty ⟨[],{}⟩) (DExpr.mk 0 1 ByteArray.empty ByteArray.empty ⟨[],{}⟩) (tr Zl.exT ((G3 2).gt 0))) ((G3 2).ss 1) ([]:List DPort) ({}) ([]:List DStore) ({}) ([]:List DRecipe) ({}) (Zl.ex1E ((G3 2).gt 0))),.ln (kf true (.g 20 0) ([]:LI) (fun G=>(G 20).ss 0)),.u 1,.andn g0 false p5 (decide ((([]:LI).length:Int)=0)) p6 o,.u 1] fun t=>?_;intro _ _
 have e0:p6=true:=by first | rfl | omega | simp_all
 exact vb 0 [] e0

open Go
namespace Zo
def Cs (G:List (List Int)) (l:List Int):Prop:=l.Nodup∧∀ x ∈ l,0≤x∧x < (G.length:Int)
theorem Cs.le {G:List (List Int)} {l:List Int} (h:Cs G l):l.length≤G.length:=nodup_le _ _ h.1 h.2
theorem Cs.nil (G:List (List Int)):Cs G []:=⟨List.nodup_nil,fun x h=>by cases h⟩
end Zo

theorem ond_s (k:ByteArray) (c:List DImport) (l:SV) (d:List DInput) (m:SV) (e:List DTable) (n:SV) (b:List DFunc) (o:SV) (a:List DCell) (p:SV) (f:List DPort) (q:SV) (i:List DStore) (r:SV) (j:List DRecipe) (t:SV) (cell:Int) (gg:List (List Int)) (hS:Sx.Sml k c d e b a f i j) (hL:(c.length:Int)+d.length+e.length+b.length+a.length+f.length+i.length+j.length≤100000000) (h7:(a.length:Int)≤7) (hs:(Zo.snd k c d e b a f i j)) (A:gg=(Zo.grf (b.map Zc.fe) a)) (w:0≤cell∧cell < (a.length:Int)) :
  Ct Tryz.prog 16 #[ag (DSheet.mk k ⟨c,l⟩ ⟨d,m⟩ ⟨e,n⟩ ⟨b,o⟩ ⟨a,p⟩ ⟨f,q⟩ ⟨i,r⟩ ⟨j,t⟩),iv cell] [fs true c l,fs true d m,fs true e n,fs true b o,fs true a p,fs true f q,fs true i r,fs true j t] [] (fun g=>((g.ss 0)).v) (fun g=>[fs true (Zo.rw_ gg cell) (g.ss 0)]) (fun g=>[]) (fun g=>[]):=by
 have h:=ond_ct k c l d m e n b o a p f q i r j t cell hS hL;rw [if_pos ⟨hs,w⟩,← A] at h;exact h
end Kb
