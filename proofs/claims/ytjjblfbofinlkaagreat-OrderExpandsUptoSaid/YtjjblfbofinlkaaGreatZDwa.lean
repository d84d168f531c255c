/- Texts for the claim, put together: the calculus of regions, its rules, and contracts of the functions that the law reaches. -/
import Derived.Test.YtjjblfbofinlkaaGreatZBwg
import Derived.Laws.Cover3
set_option linter.all false
set_option maxRecDepth 10000
namespace Kb
open Go
theorem iQT {a b:Bool} {P Q:Prop} (h:a=true↔P) (k:b=true↔Q):(a == b)=true↔(P↔Q):=by rw [beq_iff_eq,Bool.eq_iff_iff,h,k]
theorem iQF {a b:Bool} {P Q:Prop} (h:a=true↔P) (k:b=true↔Q):(a == b)=false↔¬ (P↔Q):=by rw [←Bool.not_eq_true,iQT h k]

open Go
section
variable {α : Type} [Inhabited α] {p : α → Bool} {l : List α} {k : Int} {x : α}
theorem fidx_lt (h:0≤fidx p l):(fidx p l).toNat < l.length∧p (l.getD (fidx p l).toNat default)=true:=by
 have h1:=fidx_nn.1 h;have h2:l.findIdx p < l.length:=List.findIdx_lt_length_of_exists (by simpa using h1);have e:fidx p l=l.findIdx p:=by unfold fidx;rw [if_pos h1]
 rw [e,Int.toNat_natCast,getD_of h2];exact ⟨h2,List.findIdx_getElem⟩
end

namespace Zu
def nmP (s:ByteArray) (y:Ex):Bool:=decide (y.op=1) && decide (y.m=s)
def nmd (s:ByteArray) (x:Ex):Bool:=Zc.anyN (nmP s) x
theorem nmd_yes {s:ByteArray} {x y:DExpr} (hy:y ∈ x.Args.l) (h:nmd s (er y)=true):nmd s (er x)=true:=by
 unfold nmd at h ⊢;rw [Zc.anyN_er,Bool.or_eq_true];exact .inr (List.any_eq_true.2 ⟨y,hy,h⟩)
theorem nmd_no {s:ByteArray} {x:DExpr} (h:x.Args.l.all (fun y=>!nmd s (er y))=true):nmd s (er x)=(decide (x.Op=1) && decide (x.Name=s)):=by
 unfold nmd at h ⊢;rw [Zc.anyN_er]
 have:(x.Args.l.any fun y=>Zc.anyN (nmP s) (er y))=false:=List.any_eq_false.2 fun y hy=>by
  have:=List.all_eq_true.1 h y hy
  simpa using this
 rw [this,Bool.or_false];unfold nmP;rw [er_op,er_m]
end Zu

open Go Go.Proofs
theorem rnms_ct_n (m0:Nat):∀ (x:DExpr) (d:BA),Fx.sz (er x) < m0 →
  Cp Tryz.prog 26 #[ag x,tv d] [fs true x.Args.l x.Args.s] (bv (Zu.nmd d (er x))):=by
 induction m0 with
 | zero=>intro _ _ hm;exact absurd hm (Nat.not_lt_zero _)
 | succ m0 ih =>
  intro x d hm;refine vf mo Tryz.func26 29 1 fun k0=>?_;obtain ⟨w, -⟩:Lq x.Args.l x.Args.s.v:=kj k0 0
  refine vG [.n 0,.kb false] fun G1=>?_;intro _ _
  refine vG [.u 1] fun G2=>?_;intro _ _
  refine V.lp (γ:=Int) (fun i=>⟨[(1,tv d),(2,pp ((G1 0).b) 0),(5,iv i)],[fs false x.Args.l x.Args.s],[.blk ((G1 0).b) (ca x) 48]⟩) (fun i=>(0≤i)∧(i≤(x.Args.l.length:Int))∧(0≤i)∧(∀ j:Nat,j < i.toNat→(fun y:DExpr=>!Zu.nmd d (er y)) (x.Args.l.getD j default)=true)) (fun i=>((x.Args.l.length:Int)-i).toNat) 0 [0] ?_ ?_
  ·refine ⟨by omega,by omega,by omega,?_⟩;show ∀ j:Nat,j < (0:Int).toNat→(fun y:DExpr=>!Zu.nmd d (er y)) (x.Args.l.getD j default)=true;exact Zu.all0 (fun y:DExpr=>!Zu.nmd d (er y)) _
  rintro i hF1 kw3 Z1 hZ1;obtain ⟨A,B,C,o⟩:=hF1;refine vG [.u 2,.l 0,.ln (kF 0 x.Args.l x.Args.s),.u 1] fun G3=>?_;intro _ _;refine vd (i < (x.Args.l.length:Int)) (fun q1=>?_) fun q2=>?_
  ·refine nm (x.Args.l.getD i.toNat default:DExpr) fun x1 f=>vG [.u 1,.l 0,.u 1,.iX (kF 0 x.Args.l x.Args.s) i,.lE (kF 0 x.Args.l x.Args.s) i true x1 f true,.u 1,.cP 6 26 [(kx false (.g 4 0) x1 x1.Args.l (fun _=>x1.Args.s) (fun _ H (h:Dat.good H (x1:DExpr))=>(exG.1 h))).a] fun G=>ih x1 d (by have:=Fx.sz_arg (x:=x) (getD_mem (by omega) f);omega)] fun G4=>?_;intro _ _
   refine vc (Zu.nmd d (er x1)) (fun q3=>?_) fun q4=>?_
   ·refine vG [.kb true] fun G5=>?_;intro _ _
    have e0:true=Zu.nmd d (er x):=(Zu.nmd_yes (getD_mem (by omega) f) q3).symm;exact vb 0 [] e0
   refine vG [.u 1,.aa (i+1),.u 1] fun G6=>?_;intro _ _
   refine V.rn hZ1 (i+1) [0] ?_ ?_
   ·refine ⟨by omega,by omega,by omega,?_⟩;show ∀ j:Nat,j < (i+1).toNat→(fun y:DExpr=>!Zu.nmd d (er y)) (x.Args.l.getD j default)=true;exact Zu.all_step (p:=fun y:DExpr=>!Zu.nmd d (er y)) o (by omega) f (by grind)
   omega
  refine nm ((decide (x.Op=1)) && (decide (x.Name=d)):Bool) fun p1 t=>vG [.u 1,.l 0,.u 3,.l 0,.u 1,.seq x.Name d,.andn g0 false (decide (x.Op=1)) (decide (x.Name=d)) p1 t,.u 1] fun G7=>?_;intro _ _
  have e0:p1=Zu.nmd d (er x):=by
   refine Bool.eq_iff_iff.2 (Iff.trans (iN t (iAT iDT iDT)) ?_);rw [Zu.nmd_no (Zu.all_end (p:=fun y:DExpr=>!Zu.nmd d (er y)) o (by omega))];grind
  exact vb 0 [] e0
theorem rnms_ct (x:DExpr) (b:ByteArray) :
  Cp Tryz.prog 26 #[ag x,tv b] [fs true x.Args.l x.Args.s] (bv (Zu.nmd b (er x))):=rnms_ct_n (Fx.sz (er x)+1) x b (Nat.lt_succ_self _)

theorem oor_s (k:ByteArray) (c:List DImport) (l:SV) (d:List DInput) (m:SV) (e:List DTable) (n:SV) (b:List DFunc) (o:SV) (a:List DCell) (p:SV) (f:List DPort) (q:SV) (i:List DStore) (r:SV) (j:List DRecipe) (t:SV) (gg:List (List Int)) (gl:List Int) (gn:Int) (hS:Sx.Sml k c d e b a f i j) (hL:(c.length:Int)+d.length+e.length+b.length+a.length+f.length+i.length+j.length≤100000000) (h7:(a.length:Int)≤7) (hs:(Zo.snd k c d e b a f i j)) (w:gg=(Zo.grf (b.map Zc.fe) a)) (A:gl=Zo.ordL gg) (B:gn=Zo.ordN gg) :
  Ct Tryz.prog 11 #[ag (DSheet.mk k ⟨c,l⟩ ⟨d,m⟩ ⟨e,n⟩ ⟨b,o⟩ ⟨a,p⟩ ⟨f,q⟩ ⟨i,r⟩ ⟨j,t⟩)] [fs true c l,fs true d m,fs true e n,fs true b o,fs true a p,fs true f q,fs true i r,fs true j t] [] (fun g=>.tuple #[((g.ss 0)).v,iv gn]) (fun g=>[fs true gl (g.ss 0)]) (fun g=>[]) (fun g=>[]):=by
 have h:=oor_ct k c l d m e n b o a p f q i r j t hS hL (by omega);rw [if_pos hs,← w,← A,if_pos hs,← B] at h;exact h
theorem ocy_s (k:ByteArray) (c:List DImport) (l:SV) (d:List DInput) (m:SV) (e:List DTable) (n:SV) (b:List DFunc) (o:SV) (a:List DCell) (p:SV) (f:List DPort) (q:SV) (i:List DStore) (r:SV) (j:List DRecipe) (t:SV) (gg:List (List Int)) (gc:List Int) (hS:Sx.Sml k c d e b a f i j) (hL:(c.length:Int)+d.length+e.length+b.length+a.length+f.length+i.length+j.length≤100000000) (h7:(a.length:Int)≤7) (hs:(Zo.snd k c d e b a f i j)) (w:gg=(Zo.grf (b.map Zc.fe) a)) (A:gc=Zo.cycle gg) :
  Ct Tryz.prog 18 #[ag (DSheet.mk k ⟨c,l⟩ ⟨d,m⟩ ⟨e,n⟩ ⟨b,o⟩ ⟨a,p⟩ ⟨f,q⟩ ⟨i,r⟩ ⟨j,t⟩)] [fs true c l,fs true d m,fs true e n,fs true b o,fs true a p,fs true f q,fs true i r,fs true j t] [] (fun g=>((g.ss 0)).v) (fun g=>[fs true (gc) (g.ss 0)]) (fun g=>[]) (fun g=>[]):=by
 have h:=ocy_ct k c l d m e n b o a p f q i r j t hS hL;rw [if_pos hs,← w,← A] at h;exact h

open Go
namespace Zl
open Fx Sx Zc Zd Zo
def okIt (e:It):Bool:=((e.2.1 && e.2.2) && decide (fre e.1))
def AllT (m:List (ByteArray × Bool)):Prop:=∀ k v,mlook k m=some v→v=true
theorem AllT.upd {m:List (ByteArray × Bool)} (h:AllT m) (k:ByteArray):AllT (mupd k true m):=fun j v hv=>by
 rw [mlook_upd] at hv;split at hv
 ·cases hv;rfl
 ·exact h j v hv
theorem AllT.no {m:List (ByteArray × Bool)} (h:AllT m) {k:ByteArray} (hk:(mlook k m).getD false=false):mlook k m=none:=by
 cases e:mlook k m with
 | none=>rfl
 | some v=>rw [e] at hk;have:=h k v e;subst this;cases hk
theorem upd_len {m:List (ByteArray × Bool)} {k:ByteArray} {x:Bool}:mlook k m=none→(mupd k x m).length=m.length+1:=by
 induction m with
 | nil=>intro _;rfl
 | cons p m ih =>
  intro h;unfold mlook at h;unfold mupd;split at h
  ·cases h
  ·rename_i e
   rw [if_neg e,List.length_cons,ih h,List.length_cons]
theorem useL_char:∀ (l:List It) (st:US),AllT st.1→((useL st l).2=true↔st.2=true∧(∀ e ∈ l,okIt e=true)∧(l.map (·.1)).Nodup∧∀ e ∈ l,mlook e.1 st.1=none)
 | [],st,_=>by
  show st.2=true↔_
  simp
 | e :: l,st,h=>by
  have h2:AllT (useS st e.1 e.2.1 e.2.2).1:=h.upd _;have ih:=useL_char l (useS st e.1 e.2.1 e.2.2) h2;show (useL (useS st e.1 e.2.1 e.2.2) l).2=true↔_;rw [ih,List.map_cons,List.nodup_cons];have hs:(useS st e.1 e.2.1 e.2.2).2=true↔st.2=true∧okIt e=true∧mlook e.1 st.1=none:=by
   unfold useS okIt;simp only [Bool.and_eq_true,Bool.not_eq_true'];constructor
   ·rintro ⟨⟨⟨⟨a,b⟩,c⟩,d⟩,f⟩;exact ⟨a,⟨⟨b,c⟩,d⟩,h.no f⟩
   ·rintro ⟨a,⟨⟨b,c⟩,d⟩,f⟩;exact ⟨⟨⟨⟨a,b⟩,c⟩,d⟩,by rw [f];rfl⟩
  have hm:(∀ x ∈ l,mlook x.1 (useS st e.1 e.2.1 e.2.2).1=none)↔(e.1 ∉ l.map (·.1))∧∀ x ∈ l,mlook x.1 st.1=none:=by
   unfold useS;constructor
   ·intro hx;refine ⟨fun o=>?_,fun x j=>?_⟩
    ·obtain ⟨x,j,he⟩:=List.mem_map.1 o
     have:=hx x j
     rw [mlook_upd,if_pos he] at this;cases this
    ·have:=hx x j
     rw [mlook_upd] at this;split at this
     ·cases this
     ·exact this
   ·rintro ⟨h1,h2⟩ x j;rw [mlook_upd,if_neg]
    ·exact h2 x j
    ·intro he;exact h1 (List.mem_map.2 ⟨x,j,he⟩)
  rw [hs,hm];simp only [List.forall_mem_cons];constructor
  ·rintro ⟨⟨a,b,c⟩,d,f,g,i⟩;exact ⟨a,⟨b,d⟩,⟨g,f⟩,c,i⟩
  ·rintro ⟨a,⟨b,d⟩,⟨g,f⟩,c,i⟩;exact ⟨⟨a,b,c⟩,d,f,g,i⟩
theorem useL_len:∀ (l:List It) (st:US),AllT st.1→(l.map (·.1)).Nodup→(∀ e ∈ l,mlook e.1 st.1=none)→(useL st l).1.length=st.1.length+l.length
 | [],st,_,_,_=>rfl
 | e :: l,st,h,hn,hm=>by
  rw [List.map_cons,List.nodup_cons] at hn;have h1:mlook e.1 st.1=none:=hm e (by simp);have ih:=useL_len l (useS st e.1 e.2.1 e.2.2) (h.upd _) hn.2 fun x hx=>by
   show mlook x.1 (mupd e.1 true st.1)=none;rw [mlook_upd,if_neg]
   ·exact hm x (by simp [hx])
   ·intro he;exact hn.1 (List.mem_map.2 ⟨x,hx,he⟩)
  show (useL (useS st e.1 e.2.1 e.2.2) l).1.length=_;rw [ih];show (mupd e.1 true st.1).length+l.length=_;rw [upd_len h1,List.length_cons];omega
def itsE (a:List DImport) (b:List DInput) (t:List DTable) (F:List FE) (C:List CE) (p:List DPort) (d:List DStore):List It:=goodsL a b p d ++formsE t F C
theorem itE_app (nm:ByteArray) (a:List DImport) (b:List DInput) (t:List DTable) (F:List FE) (C:List CE) (p:List DPort) (d:List DStore):itE nm a b t F C p d=useL ([],decide (fre nm)) (itsE a b t F C p d):=(useL_app _ _ _).symm
theorem AllT.nil:AllT []:=fun k v h=>by cases h
theorem RtE_char (nm:ByteArray) (a:List DImport) (b:List DInput) (t:List DTable) (F:List FE) (C:List CE) (p:List DPort) (d:List DStore) (r:List DRecipe) :
  RtE nm a b t F C p d r↔(fre nm∧(∀ e ∈ itsE a b t F C p d,okIt e=true)∧((itsE a b t F C p d).map (·.1)).Nodup)∧(((itsE a b t F C p d).length:Int)+r.length≤100)∧(reS r).2=true:=by
 unfold RtE;rw [itE_app];have h1:=useL_char (itsE a b t F C p d) ([],decide (fre nm)) AllT.nil;have h0:∀ e ∈ itsE a b t F C p d,mlook e.1 ([]:List (ByteArray × Bool))=none:=fun e _=>rfl
 rw [h1];constructor
 ·rintro ⟨⟨⟨a1,a2,a3,a4⟩,a5⟩,a6⟩;rw [useL_len _ _ AllT.nil a3 h0] at a5;exact ⟨⟨of_decide_eq_true a1,a2,a3⟩,by simpa using a5,a6⟩
 ·rintro ⟨⟨a1,a2,a3⟩,a5,a6⟩;refine ⟨⟨⟨decide_eq_true a1,a2,a3,h0⟩,?_⟩,a6⟩;rw [useL_len _ _ AllT.nil a3 h0]
  simpa using a5
theorem RtE.names {nm:ByteArray} {a:List DImport} {b:List DInput} {t:List DTable} {F:List FE} {C:List CE} {p:List DPort} {d:List DStore} {r:List DRecipe} (h:RtE nm a b t F C p d r):(F.map (·.m)).Nodup∧(C.map (·.1)).Nodup:=by
 have h:=((RtE_char ..).1 h).1.2.2;unfold itsE formsE at h;simp only [List.map_append,List.map_map,List.append_assoc] at h;have h1:=(List.nodup_append.1 (List.nodup_append.1 (List.nodup_append.1 h).2.1).2.1);exact ⟨h1.1,h1.2.1⟩
theorem RtE.celOk {nm:ByteArray} {a:List DImport} {b:List DInput} {t:List DTable} {F:List FE} {C:List CE} {p:List DPort} {d:List DStore} {r:List DRecipe} (h:RtE nm a b t F C p d r):∀ c ∈ C,rds c.2.1∧rt c.2.2∧fre c.1:=fun c hc=>by
 have h:=((RtE_char ..).1 h).1.2.1 (celE c) (by unfold itsE formsE;simp only [List.mem_append,List.mem_map];exact .inr (.inr ⟨c,hc,rfl⟩));unfold okIt celE at h;simp only [Bool.and_eq_true,decide_eq_true_eq] at h;exact ⟨h.1.1,h.1.2,h.2⟩
theorem RtE.plain {nm:ByteArray} {a:List DImport} {b:List DInput} {t:List DTable} {F:List FE} {C C':List CE} {p:List DPort} {d:List DStore} {r:List DRecipe} (h:RtE nm a b t F C p d r) (hn:C'.map (fun c=>(c.1,c.2.1))=C.map (fun c=>(c.1,c.2.1))) (hr:∀ c ∈ C',rt c.2.2):RtE nm a b t [] C' p d r:=by
 obtain ⟨⟨h1,h2,h3⟩,h4,h5⟩:=(RtE_char ..).1 h;have e1:C'.map (·.1)=C.map (·.1):=by
  have:=congrArg (List.map Prod.fst) hn
  simpa [List.map_map,Function.comp_def] using this
 have hl:C'.length=C.length:=by have:=congrArg List.length hn;simpa using this
 have hc:∀ c ∈ C',rds c.2.1∧fre c.1:=fun c hc=>by
  have:(c.1,c.2.1) ∈ C.map (fun c=>(c.1,c.2.1)):=by rw [←hn];exact List.mem_map_of_mem (f:=fun c:CE=>(c.1,c.2.1)) hc
  obtain ⟨x,hx,e⟩:=List.mem_map.1 this;have h6:=h.celOk x hx;simp only [Prod.mk.injEq] at e;rw [←e.1,← e.2];exact ⟨h6.1,h6.2.2⟩
 refine (RtE_char ..).2 ⟨⟨h1,fun e he=>?_,?_⟩,?_,h5⟩
 ·unfold itsE formsE at he;simp only [List.map_nil,List.append_nil,List.mem_append,List.mem_map] at he;rcases he with he | ⟨x,hx,rfl⟩ | ⟨x,hx,rfl⟩
  ·exact h2 e (by unfold itsE;simp [he])
  ·exact h2 _ (by unfold itsE formsE;simp only [List.mem_append,List.mem_map];exact .inr (.inl (.inl ⟨x,hx,rfl⟩)))
  ·have:=hc x hx
   unfold okIt celE;simp only [Bool.and_eq_true,decide_eq_true_eq];exact ⟨⟨this.1,hr x hx⟩,this.2⟩
 ·unfold itsE formsE at h3 ⊢;simp only [List.map_append,List.map_map,List.map_nil,List.append_nil,List.append_assoc] at h3 ⊢;have e2:C'.map ((fun e:It=>e.1) ∘ celE)=C.map ((fun e:It=>e.1) ∘ celE):=e1;rw [e2];refine List.Nodup.sublist ?_ h3;exact List.Sublist.append_left (List.Sublist.append_left (List.sublist_append_right _ _) _) _
 ·unfold itsE formsE at h4 ⊢;simp only [List.length_append,List.length_map,List.length_nil] at h4 ⊢;omega
end Zl

open Go
namespace Zl
open Fx Sx Zc Zd Zo
theorem map_inj {α β:Type} {g:α→β}:∀ {l:List α} {x y:α},(l.map g).Nodup→x ∈ l→y ∈ l→g x=g y→x=y
 | a :: l,x,y,hn,hx,hy,e=>by
  rw [List.map_cons,List.nodup_cons] at hn;rcases List.mem_cons.1 hx with e1 | hx
  ·rcases List.mem_cons.1 hy with e2 | hy
   ·rw [e1,e2]
   ·exact absurd (show g a ∈ l.map g by rw [←e1,e];exact List.mem_map_of_mem hy) hn.1
  ·rcases List.mem_cons.1 hy with e2 | hy
   ·exact absurd (show g a ∈ l.map g by rw [←e2,← e];exact List.mem_map_of_mem hx) hn.1
   ·exact map_inj hn.2 hx hy e
theorem getD_in {α:Type} [Inhabited α] {l:List α} {i:Nat} (h:i < l.length):l.getD i default ∈ l:=getD_mem h rfl
theorem idx_inj {α β:Type} [Inhabited α] {g:α→β} {l:List α} {i j:Nat} (hn:(l.map g).Nodup) (hi:i < l.length) (hj:j < l.length) (e:g (l.getD i default)=g (l.getD j default)):i=j:=by
 rw [List.getD_eq_getElem?_getD,List.getElem?_eq_getElem hi,List.getD_eq_getElem?_getD,List.getElem?_eq_getElem hj] at e;have e:g l[i]=g l[j]:=e;have hp:=List.pairwise_iff_getElem.1 hn;rcases Nat.lt_trichotomy i j with h | h | h
 ·exact absurd (by rw [List.getElem_map,List.getElem_map];exact e) (hp i j (by simpa using hi) (by simpa using hj) h)
 ·exact h
 ·exact absurd (by rw [List.getElem_map,List.getElem_map];exact e.symm) (hp j i (by simpa using hj) (by simpa using hi) h)
theorem find_pos {F:List FE} {m:ByteArray} (h:0≤find F m):(find F m).toNat < F.length∧(F.getD (find F m).toNat default).m=m:=by
 have:=fidx_lt (p:=fun f:FE=>decide (f.m=m)) (l:=F) h
 exact ⟨this.1,of_decide_eq_true this.2⟩
theorem find_mem {F:List FE} {f:FE} (h:f ∈ F):0≤find F f.m:=by
 unfold find;rw [fidx_nn];exact List.any_eq_true.2 ⟨f,h,decide_eq_true rfl⟩
theorem find_self {F:List FE} {f:FE} (hn:(F.map (·.m)).Nodup) (h:f ∈ F):F.getD (find F f.m).toNat default=f:=by
 obtain ⟨h1,h2⟩:=find_pos (find_mem h);exact map_inj hn (getD_in h1) h h2
theorem find_at {F:List FE} {i:Nat} (hn:(F.map (·.m)).Nodup) (hi:i < F.length):find F (F.getD i default).m=(i:Int):=by
 have h0:=find_mem (getD_in hi);obtain ⟨h1,h2⟩:=find_pos h0
 have:=idx_inj hn h1 hi h2
 omega
def callsN (x:Ex) (m:ByteArray):Prop:=anyN (fun y=>decide (y.op=3) && decide (y.m=m)) x=true
theorem callsN_top {o n:Int} {u m:ByteArray} {l:List Ex} (h:o=3):callsN (.mk o n u m l) m:=by
 unfold callsN;rw [anyN,Bool.or_eq_true]
 left
 show (decide (o=3) && decide (m=m))=true;rw [decide_eq_true h,decide_eq_true rfl];rfl
theorem callsN_arg {o n:Int} {u m k:ByteArray} {l:List Ex} {y:Ex} (hy:y ∈ l) (h:callsN y k):callsN (.mk o n u m l) k:=by
 unfold callsN at h ⊢;rw [anyN,anyNL_any,Bool.or_eq_true];exact .inr (List.any_eq_true.2 ⟨y,hy,h⟩)
theorem callsN_found {F:List FE}:∀ {x:Ex} {m:ByteArray},anyN (Zc.unk F) x=false→callsN x m→0≤find F m:=fun {x}=>by
 induction x using Ex.ind with
 | h x ih =>
  intro m hu hc;cases x with
  | mk o n u k l =>
   obtain ⟨b,d⟩:=un_mk hu;unfold callsN at hc;rw [anyN,anyNL_any,Bool.or_eq_true] at hc;rcases hc with hc | hc
   ·rw [Bool.and_eq_true] at hc;have h1:o=3:=of_decide_eq_true hc.1;have h2:k=m:=of_decide_eq_true hc.2;rw [←h2];exact unk_mk b h1
   ·obtain ⟨y,hy,hc⟩:=List.any_eq_true.1 hc;exact ih y hy (d y hy) hc
theorem callsN_in {F:List FE} {x:Ex} {m:ByteArray} (h:callsN x m):callsIn F x (find F m).toNat:=by
 unfold callsN at h;unfold callsIn
 revert h
 induction x using Ex.ind with
 | h x ih =>
  cases x with
  | mk o n u k l =>
   intro h;rw [anyN,anyNL_any,Bool.or_eq_true] at h ⊢;rcases h with h | h
   ·left
    rw [Bool.and_eq_true] at h ⊢;have h2:k=m:=of_decide_eq_true h.2;exact ⟨h.1,decide_eq_true (by show (find F k).toNat=_;rw [h2])⟩
   ·obtain ⟨y,hy,h⟩:=List.any_eq_true.1 h;exact .inr (List.any_eq_true.2 ⟨y,hy,ih y hy h⟩)
theorem callsIn_N {F:List FE} {x:Ex} {j:Nat} (h:callsIn F x j):∃ m,callsN x m∧(find F m).toNat=j:=by
 induction x using Ex.ind with
 | h x ih =>
  cases x with
  | mk o n u k l =>
   rcases callsIn_mk h with ⟨h3,hk⟩ | ⟨y,hy,hj⟩
   ·exact ⟨k,callsN_top h3,hk⟩
   ·obtain ⟨m,h1,h2⟩:=ih y hy hj;exact ⟨m,callsN_arg hy h1,h2⟩
def twB (f:FE):Bool:=(List.range f.p.length).any (twP f)
structure FOk (F:List FE) (f:FE):Prop where
 formed:formed f
 par:twB f=false
 unit:f.p.any wrong=false
 stray:anyN (stray f.p) f.b=false
 unk:anyN (Zc.unk F) f.b=false
 unev:anyN (Zc.unev F) f.b=false
theorem chkF_zero {F:List FE}:∀ (n k:Nat),(∀ i:Nat,k≤i→i < k+n→chk F (i:Int)=0)→chkF F n k=0
 | 0,_,_=>rfl
 | n+1,k,h=>by
  rw [chkF,if_neg (fun hn=>hn (h k (Nat.le_refl _) (by omega)))];exact chkF_zero n (k+1) fun i h1 h2=>h i (by omega) (by omega)
theorem fidx_le {α:Type} [Inhabited α] {p:α→Bool} {l:List α} {i:Nat} (hi:i < l.length) (hp:p (l.getD i default)=true):fidx p l≤(i:Int):=by
 have ha:l.any p=true:=List.any_eq_true.2 ⟨_,getD_in hi,hp⟩;unfold fidx;rw [if_pos ha];rw [List.getD_eq_getElem?_getD,List.getElem?_eq_getElem hi] at hp;refine Int.not_lt.1 fun b=>?_
 have:=List.not_of_lt_findIdx (xs:=l) (p:=p) (i:=i) (by omega)
 rw [show p l[i]=true from hp] at this;cases this
theorem chk_char {F:List FE}:(∀ i:Nat,i < F.length→chk F (i:Int)=0)↔(F.map (·.m)).Nodup∧∀ f ∈ F,FOk F f:=by
 constructor
 ·intro h;have b:∀ i:Nat,i < F.length→(i:Int)≤find F (F.getD i default).m∧FOk F (F.getD i default):=fun i hi=>by
   obtain ⟨h1,h2,h3,h4,h5,h6⟩:=chk_ok (h i hi);rw [show ((i:Int).toNat)=i from rfl] at h1 h2 h3 h4 h5 h6;unfold Zc.twice at h2;rw [Bool.or_eq_false_iff] at h2
   have:=of_decide_eq_false h2.1
   exact ⟨by omega,⟨h1,h2.2,h3,h4,h5,h6⟩⟩
  refine ⟨?_,fun f hf=>?_⟩
  ·refine List.pairwise_iff_getElem.2 fun i j hi hj d e=>?_;simp only [List.length_map] at hi hj
   have h1:=(b j hj).1;have h2:find F (F.getD j default).m≤(i:Int):=by
    refine fidx_le (p:=fun f:FE=>decide (f.m=(F.getD j default).m)) hi (decide_eq_true ?_);simp only [List.getElem_map] at e;rw [List.getD_eq_getElem?_getD,List.getElem?_eq_getElem hi,List.getD_eq_getElem?_getD,List.getElem?_eq_getElem hj];exact e
   omega
  ·obtain ⟨i,hi,rfl⟩:=List.getElem_of_mem hf
   have:=(b i hi).2
   rwa [List.getD_eq_getElem?_getD,List.getElem?_eq_getElem hi] at this
 ·rintro ⟨hn,hf⟩ i hi;have h:=hf _ (getD_in hi);have e:((i:Int).toNat)=i:=rfl;refine chk0 (by rw [e];exact h.formed) ?_ (by rw [e,h.unit];simp) (by rw [e,h.stray,h.unk];simp) (by rw [e,h.unev];simp);rw [e];unfold Zc.twice;rw [find_at hn hi,decide_eq_false (by omega)];show ¬ (false || twB (F.getD i default))=true;rw [h.par];simp
def Acy (F:List FE) (rk:ByteArray→Nat):Prop:=∀ f ∈ F,∀ m,callsN f.b m→rk m < rk f.m
section
variable {F : List FE} {rk : ByteArray → Nat}
def rkI (F:List FE) (rk:ByteArray→Nat) (i:Nat):Nat:=rk (F.getD i default).m
mutual
theorem anyS_no {f:List Int→Int→Bool × List Int} {n len:Nat} (b:F.length=len) (d:∀ S i,OkS n len S→OkS n len (f S i).2)
  (hf:∀ S (i:Int),OkS n len S→0≤i→i < len→(∀ j:Nat,S.getD j 0=1→rkI F rk i.toNat < rkI F rk j)→(f S i).1=false∧∀ j:Nat,(f S i).2.getD j 0=1↔S.getD j 0=1) :
  ∀ (x:Ex) (S:List Int),anyN (Zc.unk F) x=false→OkS n len S→(∀ k:Nat,callsIn F x k→∀ j:Nat,S.getD j 0=1→rkI F rk k < rkI F rk j)→(anyS f F x S).1=false∧∀ j:Nat,(anyS f F x S).2.getD j 0=1↔S.getD j 0=1
 | .mk o m u k l,S,hu,h,hr=>by
  obtain ⟨t,w⟩:=un_mk hu;rw [anyS];generalize hq:(if o=3 then f S (find F k) else (false,S))=r;have h1:OkS n len r.2∧r.1=false∧∀ j:Nat,r.2.getD j 0=1↔S.getD j 0=1:=by
   rw [←hq];by_cases h3:o=3
   ·rw [if_pos h3];have A:=find_rng F k;have h0:=unk_mk t h3
    have:=hf S (find F k) h h0 (by omega) (hr _ (callsIn_of (.inl ⟨h3,rfl⟩)))
    exact ⟨d _ _ h,this.1,this.2⟩
   ·rw [if_neg h3];exact ⟨h,rfl,fun j=>Iff.rfl⟩
  show (if r.1=true then (true,r.2) else anySL f F l r.2).1=false∧∀ j:Nat,(if r.1=true then (true,r.2) else anySL f F l r.2).2.getD j 0=1↔S.getD j 0=1;rw [if_neg (by rw [h1.2.1];simp)]
  have:=anySL_no b d hf l r.2 w h1.1 fun y hy k hk j hj=>hr k (callsIn_of (.inr ⟨y,hy,hk⟩)) j ((h1.2.2 j).1 hj)
  exact ⟨this.1,fun j=>(this.2 j).trans (h1.2.2 j)⟩
theorem anySL_no {f:List Int→Int→Bool × List Int} {n len:Nat} (b:F.length=len) (d:∀ S i,OkS n len S→OkS n len (f S i).2)
  (hf:∀ S (i:Int),OkS n len S→0≤i→i < len→(∀ j:Nat,S.getD j 0=1→rkI F rk i.toNat < rkI F rk j)→(f S i).1=false∧∀ j:Nat,(f S i).2.getD j 0=1↔S.getD j 0=1) :
  ∀ (l:List Ex) (S:List Int),(∀ y ∈ l,anyN (Zc.unk F) y=false)→OkS n len S→(∀ y ∈ l,∀ k:Nat,callsIn F y k→∀ j:Nat,S.getD j 0=1→rkI F rk k < rkI F rk j)→(anySL f F l S).1=false∧∀ j:Nat,(anySL f F l S).2.getD j 0=1↔S.getD j 0=1
 | [],S,_,_,_=>⟨rfl,fun j=>Iff.rfl⟩
 | x :: l,S,hu,h,hr=>by
  rw [anySL];have h1:=anyS_no b d hf x S (hu x (by simp)) h (hr x (by simp));rw [if_neg (by rw [h1.1];simp)]
  have:=anySL_no b d hf l _ (fun y hy=>hu y (by simp [hy])) (anyS_ok d x S h) fun y hy k hk j hj=>hr y (by simp [hy]) k hk j ((h1.2 j).1 hj)
  exact ⟨this.1,fun j=>(this.2 j).trans (h1.2 j)⟩
end
theorem thr_no (hn:(F.map (·.m)).Nodup) (hu:∀ f ∈ F,anyN (Zc.unk F) f.b=false) (ha:Acy F rk):∀ (n:Nat) (S:List Int) (i:Int),OkS n F.length S→0≤i→i < F.length→(∀ j:Nat,S.getD j 0=1→rkI F rk i.toNat < rkI F rk j)→(thr F n S i).1=false∧∀ j:Nat,(thr F n S i).2.getD j 0=1↔S.getD j 0=1
 | 0,S,i,h,_,_,_=>absurd h.nf (Nat.not_lt_zero _)
 | n+1,S,i,h,h0,h1,hr=>by
  by_cases hS:S.getD i.toNat 0=0
  ·rw [thr_new hS];have hi:i.toNat < F.length:=by omega
   have d:∀ j:Nat,(S.set i.toNat 1).getD j 0=1↔S.getD j 0=1∨i.toNat=j:=fun j=>by
    rw [Zd.getD_set,h.len];by_cases e:i.toNat=j
    ·rw [if_pos ⟨e,hi⟩];exact ⟨fun _=>.inr e,fun _=>rfl⟩
    ·rw [if_neg (fun h=>e h.1)];exact ⟨.inl,fun h=>h.elim id fun h=>absurd h e⟩
   have hq:=anyS_no (rk:=rk) rfl (fun S i h=>thr_ok F F.length n n S i h) (fun S i h2 h3 h4 h5=>thr_no hn hu ha n S i h2 h3 h4 h5) (F.getD i.toNat default).b (S.set i.toNat 1) (hu _ (getD_in hi)) (h.set1 (by decide) hi hS) (fun k hk j hj=>by
    obtain ⟨m,o,t⟩:=callsIn_N hk;have w:=callsN_found (hu _ (getD_in hi)) o;have A:=find_pos w;have B:rkI F rk k < rkI F rk i.toNat:=by
     unfold rkI;rw [←t,A.2];exact ha _ (getD_in hi) m o
    rcases (d j).1 hj with hj | hj
    ·have:=hr j hj;omega
    ·rw [←hj];exact B)
   refine ⟨hq.1,fun j=>?_⟩;have hl:(anyS (thr F n) F (F.getD i.toNat default).b (S.set i.toNat 1)).2.length=F.length:=(anyS_ok (fun S i h=>thr_ok F F.length n n S i h) _ _ (h.set1 (by decide) hi hS)).len;show ((anyS (thr F n) F (F.getD i.toNat default).b (S.set i.toNat 1)).2.set i.toNat 2).getD j 0=1↔_;rw [Zd.getD_set,hl];by_cases e:i.toNat=j
   ·rw [if_pos ⟨e,hi⟩];refine ⟨fun h=>absurd h (by decide),fun h=>?_⟩;rw [←e,hS] at h;cases h
   ·rw [if_neg (fun h=>e h.1),hq.2 j,d j];exact ⟨fun h=>h.elim id fun h=>absurd h e,.inl⟩
  ·rw [thr_open hS];refine ⟨decide_eq_false fun h1=>?_,fun j=>Iff.rfl⟩
   have:=hr i.toNat h1;omega
theorem cycF_no (hn:(F.map (·.m)).Nodup) (hu:∀ f ∈ F,anyN (Zc.unk F) f.b=false) (ha:Acy F rk) (m:Nat):∀ (k i:Nat) (S:List Int),OkS m F.length S→(∀ j:Nat,S.getD j 0≠1)→i+k≤F.length→cycF F m k i S=false
 | 0,i,S,_,_,_=>rfl
 | k+1,i,S,h,ho,hl=>by
  have:=thr_no hn hu ha m S (i:Int) h (by omega) (by omega) fun j hj=>absurd hj (ho j)
  rw [cycF,if_neg (by rw [this.1];simp)];exact cycF_no hn hu ha m k (i+1) _ (thr_ok _ _ _ _ _ _ h) (fun j hj=>ho j ((this.2 j).1 hj)) (by omega)
theorem cyc_no (hn:(F.map (·.m)).Nodup) (hu:∀ f ∈ F,anyN (Zc.unk F) f.b=false) (ha:Acy F rk):Zc.cyc F=false:=by
 unfold Zc.cyc;refine cycF_no hn hu ha _ F.length 0 _ (ok_start _) (fun j h=>?_) (by omega);rw [List.getD_eq_getElem?_getD,List.getElem?_replicate] at h;split at h <;> cases h
end
theorem Check_char {F:List FE}:Check F=0↔F.length≤100∧(F.map (·.m)).Nodup∧(∀ f ∈ F,FOk F f)∧∃ rk,Acy F rk:=by
 constructor
 ·intro h;obtain ⟨h1,h2,h3⟩:=Check_ok h;have hc:=chk_char.1 fun i hi=>chkF_all _ _ h2 i (Nat.zero_le _) (by omega)
  refine ⟨by omega,hc.1,hc.2,?_⟩;obtain ⟨rk,_,hr⟩:=rank_ex (fun i hi=>(hc.2 _ (getD_in hi)).unk) h3;refine ⟨fun m=>rk (find F m).toNat,fun f hf m hm=>?_⟩;obtain ⟨h4,h5⟩:=find_pos (find_mem hf);have h6:=find_self hc.1 hf;refine hr _ h4 _ ?_;rw [h6];exact callsN_in hm
 ·rintro ⟨h1,h2,h3,rk,h4⟩;exact Check_0 (by omega) (chkF_zero _ _ fun i _ hi=>chk_char.2 ⟨h2,h3⟩ i (by omega)) (cyc_no h2 (fun f hf=>(h3 f hf).unk) h4)
end Zl

open Go
namespace Zl
open Fx Sx Zc Zd Zo
def lkN (ix:List (ByteArray × Int)) (j:Int) (y:Ex):Bool:=decide (y.op=1) && decide (mlook y.m ix=some j)
mutual
theorem nmE_look (ix:List (ByteArray × Int)) (j:Int):∀ (e:Ex) (m:List (Int × Bool)),(mlook j (nmE ix m e)).getD default=((mlook j m).getD default || anyN (lkN ix j) e)
 | .mk o n u nm ls,m=>by
  rw [nmE,nmL_look ix j ls,anyN,← Bool.or_assoc]
  congr 1
  show _=((mlook j m).getD default || (decide (o=1) && decide (mlook nm ix=some j)));by_cases h:(mlook nm ix).isSome=true∧o=1
  ·rw [if_pos h,mlook_upd];obtain ⟨i,hi⟩:=Option.isSome_iff_exists.1 h.1;rw [hi,decide_eq_true h.2,Bool.true_and];show (if j=i then some true else mlook j m).getD default=_;by_cases e:j=i
   ·subst e;rw [if_pos rfl,decide_eq_true rfl,Bool.or_true];rfl
   ·rw [if_neg (by simpa using e),decide_eq_false (by simpa using fun h=>e h.symm),Bool.or_false]
  ·rw [if_neg h];by_cases h1:o=1
   ·have:mlook nm ix≠some j:=fun e=>h ⟨by rw [e];rfl,h1⟩
    rw [decide_eq_false this,Bool.and_false,Bool.or_false]
   ·rw [decide_eq_false h1,Bool.false_and,Bool.or_false]
theorem nmL_look (ix:List (ByteArray × Int)) (j:Int):∀ (l:List Ex) (m:List (Int × Bool)),(mlook j (nmL ix m l)).getD default=((mlook j m).getD default || anyNL (lkN ix j) l)
 | [],m=>by rw [nmL,anyNL,Bool.or_false]
 | x :: l,m=>by rw [nmL,nmL_look ix j l,nmE_look ix j x,anyNL,Bool.or_assoc]
end
theorem ixR_look (s:ByteArray):∀ (l:List ByteArray) (i:Int) (m:List (ByteArray × Int)),l.Nodup→(s ∉ l∧mlook s (ixR l i m)=mlook s m)∨∃ k:Nat,k < l.length∧l.getD k ByteArray.empty=s∧mlook s (ixR l i m)=some (i+k)
 | [],i,m,_=>.inl ⟨by simp,rfl⟩
 | x :: l,i,m,hn=>by
  rw [List.nodup_cons] at hn;rw [ixR];rcases ixR_look s l (i+1) (mupd x i m) hn.2 with ⟨h1,h2⟩ | ⟨k,h1,h2,h3⟩
  ·rw [h2,mlook_upd];by_cases e:s=x
   ·rw [if_pos e];exact .inr ⟨0,by simp,by simp [e],by simp⟩
   ·rw [if_neg e];exact .inl ⟨by simp [e,h1],rfl⟩
  ·exact .inr ⟨k+1,by simp [h1],by simpa using h2,by rw [h3];congr 1;omega⟩
theorem ixE_look {C:List CE} (hn:(C.map (·.1)).Nodup) {k:Nat} (hk:k < C.length) (s:ByteArray):mlook s (ixE C)=some (k:Int)↔(C.getD k default).1=s:=by
 have hg:∀ j:Nat,j < C.length→(C.map (·.1)).getD j ByteArray.empty=(C.getD j default).1:=fun j hj=>by
  rw [List.getD_eq_getElem?_getD,List.getElem?_map,List.getD_eq_getElem?_getD,List.getElem?_eq_getElem hj];rfl
 unfold ixE;rcases ixR_look s (C.map (·.1)) 0 [] hn with ⟨h1,h2⟩ | ⟨j,h1,h2,h3⟩
 ·rw [h2];constructor
  ·intro h;cases h
  ·intro h;exact absurd (by rw [←h];exact List.mem_map_of_mem (getD_in hk)) h1
 ·rw [h3];rw [List.length_map] at h1;rw [hg j h1] at h2;constructor
  ·intro h
   have:j=k:=by simp only [Option.some.injEq] at h;omega
   rw [←this];exact h2
  ·intro h
   have:=idx_inj hn hk h1 (h.trans h2.symm)
   rw [this];simp
theorem anyN_congr {p q:Ex→Bool} (h:∀ y,p y=q y) (e:Ex):anyN p e=anyN q e:=by rw [show p=q from funext h]
theorem row_names {C:List CE} (hn:(C.map (·.1)).Nodup) (e:Ex):row (ixE C) C.length e=((List.range C.length).map Int.ofNat).filter fun j=>Zu.nmd (C.getD j.toNat default).1 e:=by
 unfold row rowM;refine List.filter_congr fun j hj=>?_;obtain ⟨k,hk,rfl⟩:=List.mem_map.1 hj
 have hk:=List.mem_range.1 hk;rw [nmE_look];show (false || anyN (lkN (ixE C) (Int.ofNat k)) e)=Zu.nmd (C.getD k default).1 e;rw [Bool.false_or];unfold Zu.nmd;refine anyN_congr (fun y=>?_) e;unfold lkN Zu.nmP
 congr 1
 refine decide_eq_decide.2 ?_;rw [show Int.ofNat k=(k:Int) from rfl,ixE_look hn hk];exact eq_comm
theorem grE_at (F:List FE) {C:List CE} {i:Nat} (hi:i < C.length):(grE F C).getD i []=row (ixE C) C.length (xpd F (C.getD i default).2.2).1:=by
 unfold grE exX;rw [List.getD_eq_getElem?_getD,List.getElem?_map,List.getElem?_map,List.getD_eq_getElem?_getD,List.getElem?_eq_getElem hi];rfl
theorem mem_row {C:List CE} (hn:(C.map (·.1)).Nodup) {e:Ex} {k:Int}:k ∈ row (ixE C) C.length e↔(0≤k∧k < (C.length:Int))∧Zu.nmd (C.getD k.toNat default).1 e=true:=by
 rw [row_names hn,List.mem_filter];constructor
 ·rintro ⟨h1,h2⟩;obtain ⟨j,hj,rfl⟩:=List.mem_map.1 h1;have hj:=List.mem_range.1 hj;exact ⟨by show 0≤(j:Int)∧(j:Int) < _;omega,h2⟩
 ·rintro ⟨h1,h2⟩;exact ⟨List.mem_map.2 ⟨k.toNat,List.mem_range.2 (by omega),by show ((k.toNat:Nat):Int)=k;omega⟩,h2⟩
theorem mem_gr {F:List FE} {C:List CE} (hn:(C.map (·.1)).Nodup) {i k:Int} (h0:0≤i) (hi:i < (C.length:Int)):k ∈ rw_ (grE F C) i↔(0≤k∧k < (C.length:Int))∧Zu.nmd (C.getD k.toNat default).1 (xpd F (C.getD i.toNat default).2.2).1=true:=by
 show k ∈ (grE F C).getD i.toNat []↔_;rw [grE_at F (by omega),mem_row hn]
end Zl

open Go
namespace Zl
open Fx Sx Zc Zd Zo
theorem xpd_ok {F:List FE} {x:Ex} (h:(xpd F x).2=0):(rt x∧Check F=0∧anyN (Zc.unk F) x=false∧anyN (Zc.unev F) x=false)∧(growT F (bdF F) x).full=false∧(xpd F x).1=(growT F (bdF F) x).x:=by
 by_cases h1:¬ rt x∨Check F≠0
 ·rw [xpd2 h1] at h;cases h
 ·have hr:rt x:=Decidable.not_not.1 fun k=>h1 (.inl k)
  have hc:Check F=0:=Decidable.not_not.1 fun k=>h1 (.inr k)
  cases hu:anyN (Zc.unk F) x with
  | true=>rw [xpd11 hr hc hu] at h;cases h
  | false =>
   cases hv:anyN (Zc.unev F) x with
   | true=>rw [xpd1 hr hc hu hv] at h;cases h
   | false =>
    cases hf:(growT F (bdF F) x).full with
    | true=>rw [xpd6 hr hc hu hv hf] at h;cases h
    | false=>rw [xpd0 hr hc hu hv hf];exact ⟨⟨hr,hc,rfl,rfl⟩,rfl,rfl⟩
def isC (y:Ex):Bool:=decide (y.op=3)
def noC (w:WE):Prop:=w.full=false→anyN isC w.x=false
theorem joinL_noC {o n:Int} {u m:ByteArray} (ho:o≠3):∀ (l:List WE) (acc:List Ex) (a v:Int),(∀ y ∈ l,noC y)→(∀ y ∈ acc,anyN isC y=false)→noC (joinL o n u m acc a v l)
 | [],acc,a,v,_,h=>fun _=>by
  rw [joinL];show anyN isC (.mk o n u m acc)=false;rw [anyN,anyNL_any,Bool.or_eq_false_iff];exact ⟨decide_eq_false ho,List.any_eq_false.2 fun y hy=>by rw [h y hy];simp⟩
 | y :: l,acc,a,v,h,ha=>by
  rw [joinL];split
  ·intro hf;cases hf
  ·rename_i hc
   have hy:y.full=false:=by
    cases hf:y.full with
    | false=>rfl
    | true=>exact absurd (.inl (.inl hf)) hc
   refine joinL_noC ho l _ _ _ (fun z hz=>h z (List.mem_cons_of_mem _ hz)) fun z hz=>?_;rcases List.mem_append.1 hz with hz | hz
   ·exact ha z hz
   ·rw [List.mem_singleton.1 hz];exact h y (List.mem_cons_self ..) hy
mutual
theorem putE_noC {P:List DParam} {A:List WE} (hA:∀ y ∈ A,noC y):∀ x:Ex,anyN isC x=false→noC (putE P A x)
 | .mk o n u m l,h=>by
  obtain ⟨h1,h2⟩:=un_mk h;rw [putE];split
  ·exact getD_all hA (fun _=>rfl) _
  ·exact putL_noC hA (of_decide_eq_false h1) l [] h2 (fun y hy=>by cases hy)
theorem putL_noC {P:List DParam} {A:List WE} {o n:Int} {u m:ByteArray} (hA:∀ y ∈ A,noC y) (ho:o≠3):∀ (l:List Ex) (acc:List WE),(∀ y ∈ l,anyN isC y=false)→(∀ y ∈ acc,noC y)→noC (putL P A o n u m acc l)
 | [],acc,_,ha=>by rw [putL];exact joinL_noC ho acc _ _ _ ha (fun y hy=>by cases hy)
 | y :: l,acc,h,ha=>by
  rw [putL];split
  ·rename_i hf;intro h2;rw [hf] at h2;cases h2
  ·refine putL_noC hA ho l _ (fun z hz=>h z (List.mem_cons_of_mem _ hz)) fun z hz=>?_;rcases List.mem_append.1 hz with hz | hz
   ·exact ha z hz
   ·rw [List.mem_singleton.1 hz];exact putE_noC hA y (h y (List.mem_cons_self ..))
end
mutual
theorem growT_noC {F:List FE} {bd:Nat→WE}:∀ x:Ex,(∀ m,callsN x m→noC (bd (find F m).toNat))→noC (growT F bd x)
 | .mk o n u m l,h=>by
  have hl:=growL_noC (F:=F) (bd:=bd) l fun y hy k hk=>h k (callsN_arg hy hk)
  rw [growT];by_cases h3:o=3
  ·rw [if_pos h3];split
   ·intro hf;cases hf
   ·rename_i hf
    exact putE_noC hl _ (h m (callsN_top h3) (Zu.not_true hf))
  ·rw [if_neg h3];exact joinL_noC h3 _ _ _ _ hl (fun y hy=>by cases hy)
theorem growL_noC {F:List FE} {bd:Nat→WE}:∀ l:List Ex,(∀ y ∈ l,∀ m,callsN y m→noC (bd (find F m).toNat))→∀ y ∈ growL F bd l,noC y
 | [],_,y,hy=>by rw [growL] at hy;cases hy
 | x :: l,h,y,hy=>by
  rw [growL] at hy;rcases List.mem_cons.1 hy with rfl | hy
  ·exact growT_noC x (h x (List.mem_cons_self ..))
  ·exact growL_noC l (fun y hy=>h y (List.mem_cons_of_mem _ hy)) y hy
end
def shpW (w:WE):Prop:=w.full=false→shp w.x
theorem joinL_shp {o n:Int} {u m:ByteArray}:∀ (l:List WE) (acc:List Ex) (a v:Int),nodeP o n u m ((acc.length:Int)+l.length)→(∀ y ∈ l,shpW y)→(∀ y ∈ acc,shp y)→shpW (joinL o n u m acc a v l)
 | [],acc,a,v,hp,_,h=>fun _=>by
  rw [joinL];show shp (.mk o n u m acc);rw [shp,shpL_iff];exact ⟨by simpa using hp,h⟩
 | y :: l,acc,a,v,hp,h,ha=>by
  rw [joinL];split
  ·intro hf;cases hf
  ·rename_i hc
   have hy:y.full=false:=by
    cases hf:y.full with
    | false=>rfl
    | true=>exact absurd (.inl (.inl hf)) hc
   refine joinL_shp l _ _ _ ?_ (fun z hz=>h z (List.mem_cons_of_mem _ hz)) fun z hz=>?_
   ·rw [List.length_append,List.length_singleton];rw [List.length_cons] at hp
    rwa [show (((acc.length+1:Nat):Int)+(l.length:Int))=(acc.length:Int)+((l.length+1:Nat):Int) by omega]
   ·rcases List.mem_append.1 hz with hz | hz
    ·exact ha z hz
    ·rw [List.mem_singleton.1 hz];exact h y (List.mem_cons_self ..) hy
theorem shp_default:shpW default:=fun _=>by
 show shp (.mk 0 0 ByteArray.empty ByteArray.empty []);decide
mutual
theorem putE_shp {P:List DParam} {A:List WE} (hA:∀ y ∈ A,shpW y):∀ x:Ex,shp x→shpW (putE P A x)
 | .mk o n u m l,h=>by
  rw [shp,shpL_iff] at h;rw [putE];split
  ·exact getD_all hA shp_default _
  ·exact putL_shp hA l [] (by simpa using h.1) h.2 (fun y hy=>by cases hy)
theorem putL_shp {P:List DParam} {A:List WE} {o n:Int} {u m:ByteArray} (hA:∀ y ∈ A,shpW y):∀ (l:List Ex) (acc:List WE),nodeP o n u m ((acc.length:Int)+l.length)→(∀ y ∈ l,shp y)→(∀ y ∈ acc,shpW y)→shpW (putL P A o n u m acc l)
 | [],acc,hp,_,ha=>by rw [putL];exact joinL_shp acc _ _ _ (by simpa using hp) ha (fun y hy=>by cases hy)
 | y :: l,acc,hp,h,ha=>by
  rw [putL];split
  ·rename_i hf;intro h2;rw [hf] at h2;cases h2
  ·refine putL_shp hA l _ ?_ (fun z hz=>h z (List.mem_cons_of_mem _ hz)) fun z hz=>?_
   ·rw [List.length_append,List.length_singleton];rw [List.length_cons] at hp
    rwa [show (((acc.length+1:Nat):Int)+(l.length:Int))=(acc.length:Int)+((l.length+1:Nat):Int) by omega]
   ·rcases List.mem_append.1 hz with hz | hz
    ·exact ha z hz
    ·rw [List.mem_singleton.1 hz];exact putE_shp hA y (h y (List.mem_cons_self ..))
end
theorem growL_len (F:List FE) (bd:Nat→WE) (l:List Ex):(growL F bd l).length=l.length:=by rw [growL_map,List.length_map]
mutual
theorem growT_shp {F:List FE} {bd:Nat→WE}:∀ x:Ex,shp x→(∀ m,callsN x m→shpW (bd (find F m).toNat))→shpW (growT F bd x)
 | .mk o n u m l,hx,h=>by
  rw [shp,shpL_iff] at hx;have hl:=growL_shp (F:=F) (bd:=bd) l hx.2 fun y hy k hk=>h k (callsN_arg hy hk)
  rw [growT];by_cases h3:o=3
  ·rw [if_pos h3];split
   ·intro hf;cases hf
   ·rename_i hf
    exact putE_shp hl _ (h m (callsN_top h3) (Zu.not_true hf))
  ·rw [if_neg h3];exact joinL_shp _ _ _ _ (by rw [growL_len];simpa using hx.1) hl (fun y hy=>by cases hy)
theorem growL_shp {F:List FE} {bd:Nat→WE}:∀ l:List Ex,(∀ y ∈ l,shp y)→(∀ y ∈ l,∀ m,callsN y m→shpW (bd (find F m).toNat))→∀ y ∈ growL F bd l,shpW y
 | [],_,_,y,hy=>by rw [growL] at hy;cases hy
 | x :: l,hx,h,y,hy=>by
  rw [growL] at hy;rcases List.mem_cons.1 hy with rfl | hy
  ·exact growT_shp x (hx x (List.mem_cons_self ..)) (h x (List.mem_cons_self ..))
  ·exact growL_shp l (fun y hy=>hx y (List.mem_cons_of_mem _ hy)) (fun y hy=>h y (List.mem_cons_of_mem _ hy)) y hy
end
theorem bodies {F:List FE} (hc:Check F=0):∀ m,0≤find F m→noC (bdF F (find F m).toNat)∧shpW (bdF F (find F m).toNat):=by
 obtain ⟨_,hn,hf,rk,ha⟩:=Check_char.1 hc;obtain ⟨r1,b1⟩:=bdF_spec hc;have h:∀ k m,rk m < k→0≤find F m→noC (bdF F (find F m).toNat)∧shpW (bdF F (find F m).toNat):=fun k=>by
  induction k with
  | zero=>intro m hk;omega
  | succ k ih =>
   intro m hk h0;obtain ⟨h1,h2⟩:=find_pos h0;have f:=hf _ (getD_in h1);have sub:∀ m2,callsN (F.getD (find F m).toNat default).b m2→noC (bdF F (find F m2).toNat)∧shpW (bdF F (find F m2).toNat):=fun m2 d=>by
    have:=ha _ (getD_in h1) m2 d
    rw [h2] at this;exact ih m2 (by omega) (callsN_found f.unk d)
   rw [b1.eq _ h1];exact ⟨growT_noC _ fun m2 d=>(sub m2 d).1,growT_shp _ f.formed.2.2 fun m2 d=>(sub m2 d).2⟩
 exact fun m h0=>h (rk m+1) m (by omega) h0
mutual
def lv:Ex→Nat
 | .mk _ _ _ _ l=>1+lvL l
def lvL:List Ex→Nat
 | []=>0
 | x :: l=>max (lv x) (lvL l)
end
def lev (w:WE):Prop:=w.full=false→(lv w.x:Int)=w.v
theorem lvL_app (a b:List Ex):lvL (a ++b)=max (lvL a) (lvL b):=by
 induction a with
 | nil=>rw [List.nil_append,lvL];omega
 | cons x a ih=>rw [List.cons_append,lvL,lvL,ih];omega
theorem joinL_lev {o n:Int} {u m:ByteArray}:∀ (l:List WE) (acc:List Ex) (a v:Int),(∀ y ∈ l,lev y)→v=1+(lvL acc:Int)→lev (joinL o n u m acc a v l)
 | [],acc,a,v,_,h=>fun _=>by rw [joinL];show ((1+lvL acc:Nat):Int)=v;omega
 | y :: l,acc,a,v,h,ha=>by
  rw [joinL];split
  ·intro hf;cases hf
  ·rename_i hc
   have hy:y.full=false:=by
    cases hf:y.full with
    | false=>rfl
    | true=>exact absurd (.inl (.inl hf)) hc
   refine joinL_lev l _ _ _ (fun z hz=>h z (List.mem_cons_of_mem _ hz)) ?_
   have:=h y (List.mem_cons_self ..) hy
   rw [lvL_app,lvL,lvL];omega
theorem lev_default:lev default:=fun _=>rfl
mutual
theorem growT_lev (F:List FE) (bd:Nat→WE):∀ x:Ex,lev (growT F bd x)
 | .mk o n u m l=>by
  rw [growT];split
  ·split
   ·intro h;cases h
   ·exact putE_all (growL_lev F bd l) lev_default (fun o n u m l _ h=>joinL_lev l _ _ _ h rfl) _
  ·exact joinL_lev _ _ _ _ (growL_lev F bd l) rfl
theorem growL_lev (F:List FE) (bd:Nat→WE):∀ l:List Ex,∀ y ∈ growL F bd l,lev y
 | [],y,hy=>by rw [growL] at hy;cases hy
 | x :: l,y,hy=>by
  rw [growL] at hy;rcases List.mem_cons.1 hy with rfl | hy
  ·exact growT_lev F bd x
  ·exact growL_lev F bd l y hy
end
mutual
theorem cnt_of:∀ (x:Ex) (v n:Int),n+sz x≤200→v+lv x≤21→(cnt x v n).1=true∧(cnt x v n).2=n+sz x
 | .mk o m u k l,v,n,h1,h2=>by
  rw [sz] at h1;rw [lv] at h2;have h3:0≤(szL l:Int):=by omega
  rw [cnt,if_neg (by omega)]
  have:=cntL_of l (v+1) (n+1) (by omega) (fun y hy=>by have:=lvL_mem hy;omega)
  refine ⟨this.1,?_⟩;rw [this.2,sz];omega
theorem cntL_of:∀ (l:List Ex) (v n:Int),n+szL l≤200→(∀ y ∈ l,v+lv y≤21)→(cntL l v n).1=true∧(cntL l v n).2=n+szL l
 | [],v,n,_,_=>by rw [cntL,szL];exact ⟨rfl,by show n=_;omega⟩
 | x :: l,v,n,h1,h2=>by
  rw [szL] at h1;have hx:=cnt_of x v n (by omega) (h2 x (List.mem_cons_self ..));rw [cntL,if_pos hx.1,hx.2]
  have:=cntL_of l v (n+sz x) (by omega) fun y hy=>h2 y (List.mem_cons_of_mem _ hy)
  refine ⟨this.1,?_⟩;rw [this.2,szL];omega
theorem lvL_mem:∀ {l:List Ex} {y:Ex},y ∈ l→lv y≤lvL l
 | x :: l,y,h=>by
  rw [lvL];rcases List.mem_cons.1 h with rfl | h
  ·omega
  ·have:=lvL_mem h;omega
end
mutual
theorem cnt_lv:∀ (x:Ex) (v n:Int),(cnt x v n).1=true→v+lv x≤21
 | .mk o m u k l,v,n,h=>by
  rw [cnt] at h;split at h
  ·cases h
  ·rename_i hc
   rw [lv];rcases cntL_lv l (v+1) (n+1) h with h1 | h1
   ·omega
   ·subst h1;rw [lvL];omega
theorem cntL_lv:∀ (l:List Ex) (v n:Int),(cntL l v n).1=true→v≤21∧v+lvL l≤21∨l=[]
 | [],v,n,_=>.inr rfl
 | x :: l,v,n,h=>by
  rw [cntL] at h;split at h
  ·rename_i hc
   have h1:=cnt_lv x v n hc;have h2:=cntL_lv l v _ h;rw [lvL];rcases h2 with h2 | h2
   ·exact .inl (by omega)
   ·subst h2;rw [lvL];exact .inl (by omega)
  ·cases h
end
theorem xpd_rt {F:List FE} {x:Ex} (h:(xpd F x).2=0):rt (xpd F x).1∧anyN isC (xpd F x).1=false:=by
 obtain ⟨⟨hr,hc,hu,_⟩,hf,he⟩:=xpd_ok h;rw [he];have hb:∀ m,callsN x m→noC (bdF F (find F m).toNat)∧shpW (bdF F (find F m).toNat):=fun m hm=>bodies hc m (callsN_found hu hm);have h1:=growT_small F (bdF F) x;have h2:=growT_sized F (bdF F) x hf;have h3:=growT_lev F (bdF F) x hf;unfold small at h1;refine ⟨⟨(cnt_of _ 1 0 (by omega) (by omega)).1,growT_shp x hr.2 (fun m hm=>(hb m hm).2) hf⟩,growT_noC x (fun m hm=>(hb m hm).1) hf⟩
mutual
theorem grow_same (F:List FE) (bd:Nat→WE):∀ x:Ex,anyN isC x=false→sz x≤200→lv x≤20→growT F bd x=⟨x,sz x,lv x,false⟩
 | .mk o n u m l,h,h1,h2=>by
  obtain ⟨h3,h4⟩:=un_mk h;rw [sz] at h1;rw [lv] at h2;have e:=grow_sameL F bd o n u m l [] 1 1 h4 (by omega) (by omega);rw [show ((1:Nat):Int)=1 from rfl] at e;rw [growT,if_neg (show ¬ o=3 from of_decide_eq_false h3),e,List.nil_append,sz,lv]
  congr 1
  by_cases hl:l=[]
  ·subst hl;rfl
  ·rw [if_neg hl];omega
theorem grow_sameL (F:List FE) (bd:Nat→WE) (o n:Int) (u m:ByteArray):∀ (l:List Ex) (acc:List Ex) (a v:Nat),(∀ y ∈ l,anyN isC y=false)→a+szL l≤200→max v (1+lvL l)≤20→joinL o n u m acc a v (growL F bd l)=⟨.mk o n u m (acc ++l),((a+szL l:Nat):Int),((if l=[] then v else max v (1+lvL l):Nat):Int),false⟩
 | [],acc,a,v,_,_,_=>by rw [growL,joinL,List.append_nil,szL];rfl
 | x :: l,acc,a,v,h,h1,h2=>by
  rw [szL] at h1;rw [lvL] at h2;have hx:=grow_same F bd x (h x (List.mem_cons_self ..)) (by omega) (by omega);rw [growL,joinL,hx];rw [if_neg (by
   rintro ((h3 | h3) | h3)
   ·cases h3
   ·have h3:(200:Int) < (a:Int)+(sz x:Int):=h3;omega
   ·have h3:(20:Int) < max (v:Int) ((lv x:Int)+1):=h3;omega)]
  have:=grow_sameL F bd o n u m l (acc ++[x]) (a+sz x) (max v (lv x+1)) (fun y hy=>h y (List.mem_cons_of_mem _ hy)) (by omega) (by omega)
  have e1:((a:Int)+(sz x:Int))=((a+sz x:Nat):Int):=by omega
  have e2:(max (v:Int) ((lv x:Int)+1))=((max v (lv x+1):Nat):Int):=by omega
  show joinL o n u m (acc ++[x]) ((a:Int)+(sz x:Int)) (max (v:Int) ((lv x:Int)+1)) (growL F bd l)=_;rw [e1,e2,this,List.append_assoc,szL,lvL]
  congr 1
  ·omega
  ·by_cases hl:l=[]
   ·subst hl;rw [if_pos rfl,lvL];simp;omega
   ·rw [if_neg hl,if_neg (by simp)];omega
end
theorem chk_nil:Check []=0:=by decide
mutual
theorem any_of_noC {p:Ex→Bool} (hp:∀ y,p y=true→y.op=3):∀ x:Ex,anyN isC x=false→anyN p x=false
 | .mk o n u m l,h=>by
  obtain ⟨h3,h4⟩:=un_mk h;rw [anyN,Bool.or_eq_false_iff];exact ⟨Zu.not_true fun hh=>(of_decide_eq_false h3) (hp _ hh),any_of_noCL hp l h4⟩
theorem any_of_noCL {p:Ex→Bool} (hp:∀ y,p y=true→y.op=3):∀ l:List Ex,(∀ y ∈ l,anyN isC y=false)→anyNL p l=false
 | [],_=>rfl
 | x :: l,h=>by rw [anyNL,any_of_noC hp x (h x (List.mem_cons_self ..)),any_of_noCL hp l fun y hy=>h y (List.mem_cons_of_mem _ hy)];rfl
end
theorem xpd_self {x:Ex} (hr:rt x) (hc:anyN isC x=false):xpd [] x=(x,0):=by
 have hu:anyN (Zc.unk []) x=false:=any_of_noC (fun y h=>by unfold Zc.unk at h;rw [Bool.and_eq_true] at h;exact of_decide_eq_true h.1) x hc;have hv:anyN (Zc.unev []) x=false:=any_of_noC (fun y h=>by unfold Zc.unev at h;rw [Bool.and_eq_true] at h;exact of_decide_eq_true h.1) x hc;have h1:=rt_sz hr;have h2:=cnt_lv x 1 0 hr.1
 have:=grow_same [] (bdF []) x hc h1 (by omega)
 rw [xpd0 hr chk_nil hu hv (by rw [this]),this]
theorem exp_gr {F:List FE} {C C':List CE} (hn:C'.map (fun c=>(c.1,c.2.1))=C.map (fun c=>(c.1,c.2.1))) (hx:C'.map (·.2.2)=exX F C) (ho:okX F C=true):grE [] C'=grE F C∧okX [] C'=true∧∀ c ∈ C',rt c.2.2∧anyN isC c.2.2=false:=by
 have hr:∀ c ∈ C',rt c.2.2∧anyN isC c.2.2=false:=fun c hc=>by
  have:c.2.2 ∈ exX F C:=by rw [←hx];exact List.mem_map_of_mem (f:=fun c:CE=>c.2.2) hc
  obtain ⟨y,hy,e⟩:=List.mem_map.1 this;have h0:(xpd F y.2.2).2=0:=of_decide_eq_true (List.all_eq_true.1 ho y hy);rw [←e];exact xpd_rt h0
 refine ⟨?_,List.all_eq_true.2 fun c hc=>decide_eq_true (by rw [xpd_self (hr c hc).1 (hr c hc).2]),hr⟩;have e1:C'.map (·.1)=C.map (·.1):=by
  have:=congrArg (List.map Prod.fst) hn
  simpa [List.map_map,Function.comp_def] using this
 have hl:C'.length=C.length:=by have:=congrArg List.length hn;simpa using this
 have e2:exX [] C'=exX F C:=by
  rw [←hx];unfold exX;exact List.map_congr_left fun c hc=>by rw [xpd_self (hr c hc).1 (hr c hc).2]
 unfold grE;rw [e2,hl];unfold ixE;rw [e1]
section
variable {nm : ByteArray} {a : List DImport} {b : List DInput} {t : List DTable} {f : List DFunc} {c : List DCell} {p : List DPort} {d : List DStore} {r : List DRecipe}
noncomputable def expK (F:List FE) (C:List CE) (k:Nat):List CE:=(C.take k).map (fun c=>(c.1,c.2.1,(xpd F c.2.2).1)) ++C.drop k
theorem expK_0 (F:List FE) (C:List CE):expK F C 0=C:=by simp [expK]
theorem expK_len (F:List FE) (C:List CE) (k:Nat):(expK F C k).length=C.length:=by simp [expK];omega
theorem expK_at {F:List FE} {C:List CE} {i:Nat} (hi:i < C.length):(expK F C i).getD i default=C.getD i default:=by
 unfold expK;rw [List.getD_eq_getElem?_getD,List.getElem?_append_right (by simp;omega),List.getElem?_drop,List.getD_eq_getElem?_getD];simp only [List.length_map,List.length_take]
 congr 2;omega
theorem expK_step {F:List FE} {C:List CE} {i:Int} (h0:0≤i) (hi:i < (C.length:Int)):(expK F C i.toNat).set i.toNat ((C.getD i.toNat default).1,(C.getD i.toNat default).2.1,(xpd F (C.getD i.toNat default).2.2).1)=expK F C (i+1).toNat:=by
 have hk:i.toNat < C.length:=by omega
 have hl:((C.take i.toNat).map (fun c=>(c.1,c.2.1,(xpd F c.2.2).1))).length=i.toNat:=by simp;omega
 unfold expK;rw [List.set_append,if_neg (by omega),hl,Nat.sub_self,List.drop_eq_getElem_cons hk,List.set_cons_zero,show (i+1).toNat=i.toNat+1 by omega,List.take_add_one,List.getElem?_eq_getElem hk,List.map_append,List.append_assoc];rw [List.getD_eq_getElem?_getD,List.getElem?_eq_getElem hk];rfl
theorem expK_end {F:List FE} {C:List CE} {k:Nat} (h:C.length≤k):(expK F C k).map (fun c=>(c.1,c.2.1))=C.map (fun c=>(c.1,c.2.1))∧(expK F C k).map (·.2.2)=exX F C:=by
 unfold expK exX;rw [List.take_of_length_le h,List.drop_of_length_le h,List.append_nil,List.map_map,List.map_map];exact ⟨rfl,rfl⟩
theorem xpd_at (h:snd nm a b t f c p d r) {x:DCell} (hx:x ∈ c):(xpd (f.map fe) (er x.Def)).2=0∧rt (xpd (f.map fe) (er x.Def)).1:=by
 have h0:(xpd (f.map fe) (er x.Def)).2=0:=of_decide_eq_true (List.all_eq_true.1 h.2 x hx);exact ⟨h0,(xpd_rt h0).1⟩
theorem expands {c':List DCell} {k:Nat} (hk:c.length≤k) (hc:c'.map ce=expK (f.map fe) (c.map ce) k) (h:snd nm a b t f c p d r):snd nm a b t [] c' p d r∧grf (([]:List DFunc).map fe) c'=grf (f.map fe) c:=by
 have h':=(snd_iff ..).1 h;have he:=expK_end (F:=f.map fe) (C:=c.map ce) (k:=k) (by rw [List.length_map];exact hk);rw [←hc] at he;have hx:=exp_gr he.1 he.2 h'.2;refine ⟨(snd_iff ..).2 ⟨⟨h'.1.1.plain he.1 fun x i=>(hx.2.2 x i).1,chk_nil⟩,hx.2.1⟩,?_⟩;rw [grf_is,grf_is];exact hx.1
theorem needs_iff (h:snd nm a b t f c p d r) {i k:Int} (h0:0≤i) (hi:i < (c.length:Int)) (o:0≤k) (hk:k < (c.length:Int)):decide (k ∈ rw_ (grf (f.map fe) c) i)=Zu.nmd (c.getD k.toNat default).Name (xpd (f.map fe) (er (c.getD i.toNat default).Def)).1:=by
 have hn:=(((snd_iff ..).1 h).1.1.names).2;have e1:∀ j:Int,0≤j→j < (c.length:Int)→(c.map ce).getD j.toNat default=ce (c.getD j.toNat default):=fun j h1 h2=>getD_map ce (by omega)
 rw [grf_is]
 have:=mem_gr (F:=f.map fe) hn h0 (by rw [List.length_map];exact hi) (k:=k)
 rw [e1 k o hk,e1 i h0 hi,List.length_map] at this;refine Bool.eq_iff_iff.2 (decide_eq_true_iff.trans (this.trans ?_));exact ⟨fun h=>h.2,fun h=>⟨⟨o,hk⟩,h⟩⟩
end
end Zl

open Go
namespace Zl
open Fx Zd Zo Sx Zc
theorem nodeP_sm {o N:Int} {u m:ByteArray} {n:Int} (h:nodeP o N u m n):u.size≤9223372036854775807∧m.size≤9223372036854775807:=by
 have e0:ByteArray.empty.size=0:=rfl;have hf:∀ s:ByteArray,fre s→s.size≤9223372036854775807:=fun s hs=>by have:=hs.1;unfold Tb.Nm at this;omega
 unfold nodeP at h;split at h
 ·have:=h.1.1;rw [h.2.2.1];omega
 ·obtain ⟨⟨_,hu⟩,h⟩:=h;refine ⟨by rw [hu];omega,?_⟩
  repeat' split at h
  all_goals first | exact hf _ h.1 | (rw [h.1];omega) | (rw [h.2.1];omega)
mutual
theorem shp_sm:∀ x:Ex,shp x→sm x
 | .mk o n u m l,h=>by unfold shp at h;unfold sm;exact ⟨nodeP_sm h.1,shpL_sm l h.2⟩
theorem shpL_sm:∀ l:List Ex,shpL l→smL l
 | [],_=>by unfold smL;trivial
 | x :: l,h=>by unfold shpL at h;unfold smL;exact ⟨shp_sm x h.1,shpL_sm l h.2⟩
end
section
variable {nm : ByteArray} {a : List DImport} {b : List DInput} {t : List DTable} {f : List DFunc} {c : List DCell} {p : List DPort} {d : List DStore} {r : List DRecipe}
theorem xpd_sm (h:snd nm a b t f c p d r) {x:DCell} (hx:x ∈ c):sm (xpd (f.map fe) (er x.Def)).1:=shp_sm _ (xpd_at h hx).2.2
theorem exp_mem {F:List FE} {c':List DCell} {k:Nat} (hk:c.length≤k) (hc:c'.map ce=expK F (c.map ce) k) {x:DCell} (hx:x ∈ c'):∃ y ∈ c,x.Name=y.Name∧x.Unit=y.Unit∧er x.Def=(xpd F (er y.Def)).1:=by
 have h:ce x ∈ c'.map ce:=List.mem_map_of_mem hx;rw [hc] at h;unfold expK at h;rw [List.take_of_length_le (by rw [List.length_map];exact hk),List.drop_of_length_le (by rw [List.length_map];exact hk),List.append_nil,List.map_map] at h;obtain ⟨y,hy,e⟩:=List.mem_map.1 h;exact ⟨y,hy,(congrArg (·.1) e).symm,(congrArg (·.2.1) e).symm,(congrArg (·.2.2) e).symm⟩
theorem exp_sml {c':List DCell} {k:Nat} (hk:c.length≤k) (hc:c'.map ce=expK (f.map fe) (c.map ce) k) (h:snd nm a b t f c p d r) (hS:Sml nm a b t f c p d r):Sml nm a b t [] c' p d r :=
  { hS with
    fun_:=fun x hx=>by cases hx
    cel:=fun x hx=>by
      obtain ⟨y,hy,e1,e2,e3⟩:=exp_mem hk hc hx
      have:=hS.cel y hy
      rw [e1,e2,e3];exact ⟨this.1,this.2.1,xpd_sm h hy⟩ }
theorem ce_getD (l:List DCell) {i:Nat} (h:i < l.length):(l.map ce).getD i default=ce (l.getD i default):=getD_map ce h
theorem exp_last {F:List FE} {c':List DCell} {k:Nat} {i:Int} {x:DCell} (hk:c.length≤k) (hc:c'.map ce=expK F (c.map ce) k) (h0:0≤i) (hi:i < (c.length:Int)) (hx:x=c'.getD i.toNat default):er x.Def=(xpd F (er (c.getD i.toNat default).Def)).1:=by
 have hl:c'.length=c.length:=by have:=congrArg List.length hc;rwa [List.length_map,expK_len,List.length_map] at this
 have h1:=ce_getD c' (i:=i.toNat) (by omega);have he:expK F (c.map ce) k=(c.map ce).map fun c=>(c.1,c.2.1,(xpd F c.2.2).1):=by
  unfold expK;rw [List.take_of_length_le (by rw [List.length_map];exact hk),List.drop_of_length_le (by rw [List.length_map];exact hk),List.append_nil]
 rw [hc,he,← hx] at h1;have h2:=getD_map (α:=CE) (β:=CE) (fun c=>(c.1,c.2.1,(xpd F c.2.2).1)) (l:=c.map ce) (k:=i.toNat) (by rw [List.length_map];omega);rw [h2,ce_getD c (by omega)] at h1;exact (congrArg (·.2.2) h1).symm
theorem exp_set {F:List FE} {o:List DCell} {i:Int} {x1 x2:DCell} {e:DExpr} (h:o.map ce=expK F (c.map ce) i.toNat) (h0:0≤i) (hi:i < (c.length:Int)) (b:x1=c.getD i.toNat default) (d:x2=o.getD i.toNat default) (he:er e=(xpd F (er x1.Def)).1):(o.set i.toNat ⟨x2.Name,x2.Unit,e⟩).map ce=expK F (c.map ce) (i+1).toNat:=by
 have hl:o.length=c.length:=by have:=congrArg List.length h;rwa [List.length_map,expK_len,List.length_map] at this
 have h1:=ce_getD o (i:=i.toNat) (by omega);rw [h,expK_at (by rw [List.length_map];omega),ce_getD c (by omega),← b,← d] at h1;have h2:=expK_step (F:=F) (C:=c.map ce) h0 (by rw [List.length_map];exact hi);rw [ce_getD c (by omega),← b,← h] at h2;rw [List.map_set,← h2];have e1:x1.Name=x2.Name:=congrArg (·.1) h1;have e2:x1.Unit=x2.Unit:=congrArg (·.2.1) h1;show List.set _ _ (x2.Name,x2.Unit,er e)=List.set _ _ (x1.Name,x1.Unit,(xpd F (er x1.Def)).1);rw [he,e1,e2]
end
end Zl

theorem lxp_ct (B:BA) (e:List DImport) (q:SV) (f:List DInput) (r:SV) (j:List DTable) (t:SV) (d:List DFunc) (D:SV) (c:List DCell) (C:SV) (m:List DPort) (x:SV) (o:List DStore) (y:SV) (p:List DRecipe) (A:SV) (hS:Sx.Sml B e f j d c m o p) (hL:(e.length:Int)+f.length+j.length+d.length+c.length+m.length+o.length+p.length≤100000000) :
  Cp Tryz.prog 6 #[ag (DSheet.mk B ⟨e,q⟩ ⟨f,r⟩ ⟨j,t⟩ ⟨d,D⟩ ⟨c,C⟩ ⟨m,x⟩ ⟨o,y⟩ ⟨p,A⟩)] [fs true e q,fs true f r,fs true j t,fs true d D,fs true c C,fs true m x,fs true o y,fs true p A] (bv true):=by
 refine vf mo Tryz.func6 136 4 fun _=>?_
 refine vG [.n 0,.kb false] fun G1=>?_;intro _ _
 refine vG [.cP 0 9 [] fun G=>lsm_ct ,.kb true] fun G2=>?_;intro _ _
 refine nm ((!(Zu.few21 B e f j d c m o p)) || (!(decide (Zo.snd B e f j d c m o p))):Bool) fun p1 ad=>vG [.l 0,.cP 1 10 [kA 0 e q,kA 1 f r,kA 2 j t,kA 3 d D,kA 4 c C,kA 5 m x,kA 6 o y,kA 7 p A] fun G=>rfw21_ct B e q f r j t d D c C m x o y p A hL,.u 2,.l 0,.cp (gF (b:=!(Zu.few21 B e f j d c m o p)) (iNF Iff.rfl)) 5 13 [kA 0 e q,kA 1 f r,kA 2 j t,kA 3 d D,kA 4 c C,kA 5 m x,kA 6 o y,kA 7 p A] (fun hg G=>oso_ct B e q f r j t d D c C m x o y p A hS hL),.u 1,.orn g0 false (!(Zu.few21 B e f j d c m o p)) (!(decide (Zo.snd B e f j d c m o p))) p1 ad] fun G3=>?_;intro _ _
 refine V.cn (b:=p1) (iN ad (iOT (iNT Iff.rfl) (iNT iDF))) (iN ad (iOF (iNF Iff.rfl) (iNF iDT))) (fun q1=>?_) (fun q2=>?_)
 ·refine vG [.kb true,.kb true] fun G4=>?_;intro _ _
  exact V.rS [0] [] [] [] [] []
 have hF:Zu.few21 B e f j d c m o p=true:=by grind
 have hs:(Zo.snd B e f j d c m o p):=by grind
 have h7:(c.length:Int)≤7:=by unfold Zu.few21 at hF;simp only [Bool.and_eq_true,decide_eq_true_eq] at hF;exact hF.1.1.1.2
 obtain ⟨gg,Q⟩:∃ z:List (List Int),z=(Zo.grf (d.map Zc.fe) c):=⟨_,rfl⟩;have hG:Zo.InR gg:=by rw [Q];exact Zo.grf_in
 obtain ⟨gl,aj⟩:∃ z:List Int,z=Zo.ordL gg:=⟨_,rfl⟩;obtain ⟨gn,ak⟩:∃ z:Int,z=Zo.ordN gg:=⟨_,rfl⟩;obtain ⟨gc,al⟩:∃ z:List Int,z=Zo.cycle gg:=⟨_,rfl⟩;refine vG [.l 0,.n 1,.s 1] fun G5=>?_;intro _ _;refine vG [.u 1,.s 1] fun G6=>?_;intro _ _;refine nm (([]:List DCell) ++c:List DCell) fun l1 am=>vG [.nl 0 2 true 52 ([]:List DCell) [] (fun _ _ h=>(List.forall_mem_nil _)) (fun _=>#[]),.u 1,.l 0,.ap 3 2 52 104 false true ([]:List DCell) (fun G=>⟨atB (G 0).b,0,0⟩) (kF 4 c C) false l1 am (by first | omega | (simp;omega) | simp) (fun h=>by cases h) (.inl fun h=>by cases h),.u 1,.s 1] fun G7=>?_;intro _ _;refine vG [.u 1] fun G8=>?_;intro _ _;refine V.lp (γ:=Int × List DCell × SV) (fun ⟨i,w,E⟩=>⟨[(1,pp ((G1 0).b) 0),(3,bv true),(4,pp ((G5 1).b) 0),(5,iv i)],[fs false e q,fs false f r,fs false j t,fs false d D,fs false c C,fs false m x,fs false o y,fs false p A],[.blk ((G1 0).b) (ca (DSheet.mk B ⟨e,q⟩ ⟨f,r⟩ ⟨j,t⟩ ⟨d,D⟩ ⟨c,C⟩ ⟨m,x⟩ ⟨o,y⟩ ⟨p,A⟩)) 31,.blk ((G5 1).b) (ca (DSheet.mk B ⟨e,q⟩ ⟨f,r⟩ ⟨j,t⟩ ⟨[],{}⟩ ⟨w,E⟩ ⟨m,x⟩ ⟨o,y⟩ ⟨p,A⟩)) 31,os false 52 w E,.no]⟩) (fun ⟨i,w,E⟩=>(0≤i)∧(i≤(c.length:Int))∧(w.map Zl.ce=Zl.expK (d.map Zc.fe) (c.map Zl.ce) i.toNat)) (fun ⟨i,w,E⟩=>((c.length:Int)-i).toNat) (0,l1,(G7 3).s) [0,1,2,3,4,5,6,7] ?_ ?_
 ·refine ⟨by omega,by omega,?_⟩;show l1.map Zl.ce=Zl.expK (d.map Zc.fe) (c.map Zl.ce) (0:Int).toNat;rw [am,List.nil_append];exact (Zl.expK_0 _ _).symm
 rintro ⟨i,w,E⟩ hF1 kw9 Z1 hZ1;obtain ⟨aB,aC,ae⟩:=hF1;have an:=congrArg List.length ae;rw [List.length_map,Zl.expK_len,List.length_map] at an;refine vG [.u 2,.l 0,.ln (kF 4 c C),.u 1] fun G9=>?_;intro _ _;refine vd (i < (c.length:Int)) (fun q3=>?_) fun q4=>?_
 ·refine nm (c.getD i.toNat default:DCell) fun x1 af=>?_;have ah:x1 ∈ c:=by rw [af];exact getD_mem (by omega) rfl
  have ac:=Zl.xpd_at hs ah;have ao:=Zl.xpd_sm hs ah;refine vG [.u 1,.l 0,.u 1,.iX (kF 4 c C) i,.u 1,.le g0 (kF 4 c C) i (some 2) true x1 af (fun _=>⟨by omega,by omega⟩) true (fun _=>Dat.cells x1.Def),.u 1,.l 0,.cA 8 24 [(kx false (.g 5 0) x1 x1.Def.Args.l (fun _=>x1.Def.Args.s) (fun _ H (h:Dat.good H (x1:DCell))=>(exG.1 h))).a,kA 3 d D] fun G=>cXp_ct x1.Def d D hS.fun_ (hS.cel _ ah).2.2,.u 3,.n 3,.s 3,.u 1] fun M=>?_;intro _ _
  refine nm ((!(decide ((Zd.xpd (d.map Zc.fe) (er x1.Def)).2=0))) || (!(decide (Fx.rt (er (tr ((Zd.xpd (d.map Zc.fe) (er x1.Def)).1) ((M 8).gt 0)))))):Bool) fun p2 ai=>vG [.u 3,.l 3,.cp (gF (b:=!(decide ((Zd.xpd (d.map Zc.fe) (er x1.Def)).2=0))) (iNF iDT)) 4 25 [kB 9 ((tr ((Zd.xpd (d.map Zc.fe) (er x1.Def)).1) ((M 8).gt 0)).Args.l) (tr ((Zd.xpd (d.map Zc.fe) (er x1.Def)).1) ((M 8).gt 0)).Args.s] (fun hg G=>frt_ct (tr ((Zd.xpd (d.map Zc.fe) (er x1.Def)).1) ((M 8).gt 0)) (by rw [er_tr];exact ao)),.u 1,.orn g0 false (!(decide ((Zd.xpd (d.map Zc.fe) (er x1.Def)).2=0))) (!(decide (Fx.rt (er (tr ((Zd.xpd (d.map Zc.fe) (er x1.Def)).1) ((M 8).gt 0)))))) p2 ai] fun aD=>?_;intro _ _
  refine V.cn (b:=p2) (iN ai (iOT (iNT iDF) (iNT iDF))) (iN ai (iOF (iNF iDT) (iNF iDT))) (fun q5=>?_) (fun q6=>?_)
  ·exfalso;rw [er_tr] at q5;rcases q5 with h | h;exact h ac.1;exact h ac.2
  refine nm (w.getD i.toNat default:DCell) fun x2 aq=>nm (w.set i.toNat (DCell.mk x2.Name x2.Unit (tr ((Zd.xpd (d.map Zc.fe) (er x1.Def)).1) ((M 8).gt 0))):List DCell) fun l2 au=>vG [.u 1,.l 1,.u 1,.l 3,.iX (ko false 52 2 w (fun _=>E)) i,.u 1,.se g0 6 2 52 false w (fun _=>E) i (some 2) x2 (DCell.mk x2.Name x2.Unit (tr ((Zd.xpd (d.map Zc.fe) (er x1.Def)).1) ((M 8).gt 0))) aq false l2 au (fun _=>⟨by omega,by omega⟩) (fun h=>by cases h) [kB 9 ((tr ((Zd.xpd (d.map Zc.fe) (er x1.Def)).1) ((M 8).gt 0)).Args.l) (tr ((Zd.xpd (d.map Zc.fe) (er x1.Def)).1) ((M 8).gt 0)).Args.s] (fun _ _ ho h=>(exG.2 h.1))] fun aE=>?_;intro _ _
  refine vG [.u 1,.aa (i+1),.u 1] fun aF=>?_;intro _ _
  refine V.rn hZ1 (i+1,l2,E) [0,1,2,3,4,5,6,7] ?_ ?_
  ·refine ⟨by omega,by omega,?_⟩;show l2.map Zl.ce=Zl.expK (d.map Zc.fe) (c.map Zl.ce) (i+1).toNat;rw [au];exact Zl.exp_set ae (by omega) (by omega) af aq (er_tr _ _)
  dsimp only;omega
 have Y:w.map Zl.ce=Zl.expK (d.map Zc.fe) (c.map Zl.ce) i.toNat:=ae;have an:w.length=c.length:=by have:=congrArg List.length Y;rwa [List.length_map,Zl.expK_len,List.length_map] at this
 have Z:=Zl.exp_sml (by omega) Y hs hS;obtain ⟨ab,P⟩:=Zl.expands (by omega) Y hs
 replace P:=Q.trans P.symm
 refine vG [.u 1] fun aG=>?_;intro _ _
 refine V.lp (γ:=Int) (fun I=>⟨[(1,pp ((G1 0).b) 0),(3,bv true),(4,pp ((G5 1).b) 0),(8,iv I)],[fs false e q,fs false f r,fs false j t,fs false d D,fs false c C,fs false m x,fs false o y,fs false p A],[.blk ((G1 0).b) (ca (DSheet.mk B ⟨e,q⟩ ⟨f,r⟩ ⟨j,t⟩ ⟨d,D⟩ ⟨c,C⟩ ⟨m,x⟩ ⟨o,y⟩ ⟨p,A⟩)) 31,.blk ((G5 1).b) (ca (DSheet.mk B ⟨e,q⟩ ⟨f,r⟩ ⟨j,t⟩ ⟨[],{}⟩ ⟨w,E⟩ ⟨m,x⟩ ⟨o,y⟩ ⟨p,A⟩)) 31,os false 52 w E,.no]⟩) (fun I=>(0≤I)∧(I≤(c.length:Int))) (fun I=>((c.length:Int)-I).toNat) 0 [0,1,2,3,4,5,6,7] ?_ ?_
 ·refine ⟨by omega,by omega⟩
 rintro I hF2 kw16 Z2 hZ2;obtain ⟨aH,aI⟩:=hF2;refine vG [.u 2,.l 0,.ln (kF 4 c C),.u 1] fun aJ=>?_;intro _ _;refine vd (I < (c.length:Int)) (fun q7=>?_) fun q8=>?_
 ·refine vG [.l 0,.u 1,.cA 2 16 [kA 0 e q,kA 1 f r,kA 2 j t,kA 3 d D,kA 4 c C,kA 5 m x,kA 6 o y,kA 7 p A] fun G=>ond_s B e q f r j t d D c C m x o y p A I gg hS hL h7 hs Q ⟨by omega,by omega⟩,.u 1] fun W=>?_;intro _ _
  refine vG [.u 1,.l 1,.u 1,.cA 3 16 [kA 0 e q,kA 1 f r,kA 2 j t,(knil (α:=DFunc)).a,(ko false 52 2 w (fun _=>E)).a,kA 5 m x,kA 6 o y,kA 7 p A] fun G=>ond_s B e q f r j t ([]:List DFunc) ({}) w E m x o y p A I gg Z (by simp only [List.length_nil];omega) (by omega) ab P ⟨by omega,by omega⟩,.cP 4 15 [kB 8 (Zo.rw_ gg I) ((W 2).ss 0),(kf true (.g 3 0) (Zo.rw_ gg I) (fun G=>(G 3).ss 0)).a] fun G=>rsam_ct (Zo.rw_ gg I) ((W 2).ss 0) (Zo.rw_ gg I) ((G 3).ss 0),.u 1] fun aK=>?_;intro _ _
  refine vn ((Zo.rw_ gg I)=(Zo.rw_ gg I)) (fun q9=>?_) fun aL=>?_
  ·exfalso;exact q9 rfl
  refine vG [.u 1] fun aM=>?_;intro _ _
  refine V.lp (γ:=Int) (fun k=>⟨[(1,pp ((G1 0).b) 0),(3,bv true),(4,pp ((G5 1).b) 0),(8,iv I),(9,((W 2).ss 0).v),(10,iv k)],[fs true (Zo.rw_ gg I) ((W 2).ss 0),fs false e q,fs false f r,fs false j t,fs false d D,fs false c C,fs false m x,fs false o y,fs false p A],[.blk ((G1 0).b) (ca (DSheet.mk B ⟨e,q⟩ ⟨f,r⟩ ⟨j,t⟩ ⟨d,D⟩ ⟨c,C⟩ ⟨m,x⟩ ⟨o,y⟩ ⟨p,A⟩)) 31,.blk ((G5 1).b) (ca (DSheet.mk B ⟨e,q⟩ ⟨f,r⟩ ⟨j,t⟩ ⟨[],{}⟩ ⟨w,E⟩ ⟨m,x⟩ ⟨o,y⟩ ⟨p,A⟩)) 31,os false 52 w E,.no]⟩) (fun k=>(0≤k)∧(k≤(c.length:Int))) (fun k=>((c.length:Int)-k).toNat) 0 [8,0,1,2,3,4,5,6,7] ?_ ?_
  ·refine ⟨by omega,by omega⟩
  rintro k hF3 kw21 Z3 hZ3;obtain ⟨aN,aO⟩:=hF3;refine vG [.u 2,.l 0,.ln (kF 5 c C),.u 1] fun aP=>?_;intro _ _;refine vd (k < (c.length:Int)) (fun aQ=>?_) fun aS=>?_
  ·refine nm (w.getD I.toNat default:DCell) fun x3 av=>nm (c.getD k.toNat default:DCell) fun x4 aw=>vG [.u 2,.cP 2 21 [kB 0 (Zo.rw_ gg I) ((W 2).ss 0)] fun G=>rhas_ct (Zo.rw_ gg I) ((W 2).ss 0) k,.u 1,.l 1,.u 1,.iX (ko false 52 2 w (fun _=>E)) I,.u 1,.le g0 (ko false 52 2 w (fun _=>E)) I (some 2) true x3 av (fun _=>⟨by omega,by omega⟩) true (fun _=>Dat.cells x3.Def),.u 1,.l 0,.u 1,.iX (kF 5 c C) k,.u 1,.le g0 (kF 5 c C) k (some 0) true x4 aw (fun _=>⟨by omega,by omega⟩) false (fun _=>[tv x4.Name]),.cP 15 26 [(kx false (.g 8 0) x3 x3.Def.Args.l (fun _=>x3.Def.Args.s) (fun _ H (h:Dat.good H (x3:DCell))=>(exG.1 h))).a] fun G=>rnms_ct x3.Def x4.Name,.u 1] fun aT=>?_;intro _ _
   refine V.cn (b:=!((decide (k ∈ (Zo.rw_ gg I))) == (Zu.nmd x4.Name (er x3.Def)))) (iNT (iQF iDT Iff.rfl)) (iNF (iQT iDT Iff.rfl)) (fun aA=>?_) (fun aU=>?_)
   ·exfalso;have h1:=Zl.needs_iff hs (i:=I) (k:=k) (by omega) (by omega) (by omega) (by omega);rw [←Q,← aw,← Zl.exp_last (by omega) Y (by omega) (by omega) av] at h1;exact aA ⟨fun h=>h1.symm.trans (decide_eq_true h),fun h=>of_decide_eq_true (h1.trans h)⟩
   refine vG [.u 1,.aa (k+1),.u 1] fun aV=>?_;intro _ _
   refine V.rn hZ3 (k+1) [0,1,2,3,4,5,6,7,8] ?_ ?_
   ·refine ⟨by omega,by omega⟩
   omega
  refine vG [.u 1,.aa (I+1),.u 1] fun aW=>?_;intro _ _
  refine V.rn hZ2 (I+1) [1,2,3,4,5,6,7,8] ?_ ?_
  ·refine ⟨by omega,by omega⟩
  omega
 refine vG [.l 0,.cA 1 11 [kA 0 e q,kA 1 f r,kA 2 j t,kA 3 d D,kA 4 c C,kA 5 m x,kA 6 o y,kA 7 p A] fun G=>oor_s B e q f r j t d D c C m x o y p A gg gl gn hS hL h7 hs Q aj ak,.u 5] fun ax=>?_;intro _ _
 refine vG [.l 1,.cA 1 11 [kA 0 e q,kA 1 f r,kA 2 j t,(knil (α:=DFunc)).a,(ko false 52 2 w (fun _=>E)).a,kA 5 m x,kA 6 o y,kA 7 p A] fun G=>oor_s B e q f r j t ([]:List DFunc) ({}) w E m x o y p A gg gl gn Z (by simp only [List.length_nil];omega) (by omega) ab P aj ak,.u 5] fun ay=>?_;intro _ _
 refine nm ((decide (Zo.snd B e f j ([]:List DFunc) w m o p)) && (decide (gn=gn)):Bool) fun p3 X=>nm ((p3 && (decide (gl=gl))) && (decide (gc=gc)):Bool) fun p4 az=>vG [.kb true,.kb true,.l 1,.cP 3 13 [kA 0 e q,kA 1 f r,kA 2 j t,(knil (α:=DFunc)).a,(ko false 52 2 w (fun _=>E)).a,kA 5 m x,kA 6 o y,kA 7 p A] fun G=>oso_ct B e q f r j t ([]:List DFunc) ({}) w E m x o y p A Z (by simp only [List.length_nil];omega),.u 5,.andn g0 false (decide (Zo.snd B e f j ([]:List DFunc) w m o p)) (decide (gn=gn)) p3 X,.u 3,.cp (gT (b:=p3) (iN X (iAT iDT iDT))) 13 15 [kB 8 gl ((ax 1).ss 0),kB 9 gl ((ay 1).ss 0)] (fun hg G=>rsam_ct gl ((ax 1).ss 0) gl ((ay 1).ss 0)),.and g0 false p3 (decide (gl=gl)),.u 1,.l 0,.ct (gT (b:=p3 && (decide (gl=gl))) (iAT (iN X (iAT iDT iDT)) iDT)) 17 18 false [] [] [kA 0 e q,kA 1 f r,kA 2 j t,kA 3 d D,kA 4 c C,kA 5 m x,kA 6 o y,kA 7 p A] (fun hg G=>ocy_s B e q f r j t d D c C m x o y p A gg gc hS hL h7 hs Q al),.l 1,.ct (gT (b:=p3 && (decide (gl=gl))) (iAT (iN X (iAT iDT iDT)) iDT)) 19 18 false [] [] [kA 0 e q,kA 1 f r,kA 2 j t,(knil (α:=DFunc)).a,(ko false 52 2 w (fun _=>E)).a,kA 5 m x,kA 6 o y,kA 7 p A] (fun hg G=>ocy_s B e q f r j t ([]:List DFunc) ({}) w E m x o y p A gg gc Z (by simp only [List.length_nil];omega) (by omega) ab P al),.cp (gT (b:=p3 && (decide (gl=gl))) (iAT (iN X (iAT iDT iDT)) iDT)) 20 15 [(kf true (.g 17 0) gc (fun G=>(G 17).ss 0)).a,(kf true (.g 19 0) gc (fun G=>(G 19).ss 0)).a] (fun hg G=>rsam_ct gc ((G 17).ss 0) gc ((G 19).ss 0)),.andn g0 false (p3 && (decide (gl=gl))) (decide (gc=gc)) p4 az,.u 1] fun aX=>?_;intro _ _
 have e0:p4=true:=by simp [az,X,ab]
 exact vb 0 [] e0
end Kb
