/- Texts for the claim, put together: the calculus of regions, its rules, and contracts of the functions that the law reaches. -/
import Derived.Test.YtpnbgdgjgndicaaGreatZwwf
import Derived.Laws.Cells
import Derived.Laws.World
import Derived.KernelRfl
import Derived.Laws.Small
import Derived.ChangeArms
import Derived.WideKeyArgs
import Derived.Carry
import Derived.OpenShut
set_option linter.unusedVariables false
set_option linter.unusedSectionVars false
set_option linter.unusedSimpArgs false
namespace Kb
open Go
section
variable {P : Program} {nt : Nat} {w0 : World} {X : List Nat} {Q : Exit → Act → World → Prop} {c : Code} {sl sl' : Slots} {A A' : List Heaplet} {L L' : List Ent}
def RC.outA (R:RC) (G:Nat→Rec) (l:List Nat):List Heaplet:=(l.map fun i=>(G i).H) ++R.A
def RC.outL (R:RC) (G:Nat→Rec):List Ent:=(List.range R.L.length).map (R.entF G)
def RC.kept (R:RC) (outs hs:List Nat):Bool:=(outs.all fun s=>(lastW (R.wrS s) R.ops.size).isSome || (R.sl.lookup s).isSome) && hs.all fun i=>decide (i < R.ops.size)
theorem RC.Done.to {R:RC} {G:Nat→Rec} {a:Act} {w:World} (d:R.Done nt w0 X G a w) (outs hs:List Nat) (ho:R.kept outs hs=true)
    {K:Act→World→Prop} (k:∀ a w,SlotsOK nt (R.outs G outs) a→StW w0 X (R.outA G hs) (R.outL G) w→K a w):K a w:=by
  unfold RC.kept at ho
  rw [Bool.and_eq_true] at ho
  refine k a w (d.slots outs fun s hs=>?_) (d.st hs fun i hi=>?_)
  · have:=List.all_eq_true.1 ho.1 s hs
    simpa using this
  · have:=List.all_eq_true.1 ho.2 i hi
    simpa using this
end

open Go
theorem FP.to {f:FP} {N K U:Heaplet} (h:f.at N K) (h1:Sub N U) (h2:Sub K U):f.p U:=by
  unfold FP.at at h
  cases e:f.t <;> rw [e] at h
  · exact f.m _ _ h2 h
  · exact f.m _ _ h1 h

namespace Bg
section
variable {s t : Int} {l m : List Int}
theorem add_less (h:RtB s l) (k:RtB t m) (hs:¬ 0≤s * t) (hlt:nv l < nv m):(zv s l+zv t m).natAbs=nv m - nv l∧(if nv m - nv l=0 then 0 else t)=sgn (zv s l+zv t m):=by
  unfold zv sgn
  rcases h.cases with ⟨a,rfl⟩ | ⟨a,rfl⟩ | ⟨a,rfl⟩ <;> rcases k.cases with ⟨b,rfl⟩ | ⟨b,rfl⟩ | ⟨b,rfl⟩ <;> simp at hs ⊢ <;> constructor <;> (repeat' split) <;> omega
theorem add_more (h:RtB s l) (k:RtB t m) (hs:¬ 0≤s * t) (hge:nv m≤nv l):(zv s l+zv t m).natAbs=nv l - nv m∧(if nv l - nv m=0 then 0 else s)=sgn (zv s l+zv t m):=by
  unfold zv sgn
  rcases h.cases with ⟨a,rfl⟩ | ⟨a,rfl⟩ | ⟨a,rfl⟩ <;> rcases k.cases with ⟨b,rfl⟩ | ⟨b,rfl⟩ | ⟨b,rfl⟩ <;> simp at hs ⊢ <;> constructor <;> (repeat' split) <;> omega
end
end Bg

namespace Bg
def orL:List Int→Int
  | []=>0
  | x :: l=>if x=0 then orL l else x
theorem orL_no:∀ {l:List Int},(∀ i,i < l.length→l.getD i default=0)→orL l=0
  | [],_=>rfl
  | x :: l,h=>by
    unfold orL
    have h0:=h 0 (by simp)
    rw [if_pos (by simpa using h0)]
    exact orL_no fun i hi=>by simpa using h (i+1) (by simpa using hi)
theorem orL_at:∀ {l:List Int} {k:Nat} {v:Int},k < l.length→(∀ i,i < k→l.getD i default=0)→v=l.getD k default→¬ v=0→v=orL l
  | [],k,v,h,_,_,_=>by cases h
  | x :: l,0,v,_,_,hv,h0=>by
    unfold orL
    have:v=x:=by simpa using hv
    subst this
    rw [if_neg h0]
  | x :: l,k+1,v,hk,h,hv,h0=>by
    unfold orL
    have h1:=h 0 (by omega)
    rw [if_pos (by simpa using h1)]
    exact orL_at (by simpa using hk) (fun i hi=>by simpa using h (i+1) (by omega)) (by simpa using hv) h0
theorem cmpI_le {x y:Int}: -1≤cmpI x y∧cmpI x y≤1:=by unfold cmpI;split;omega;split <;> omega
theorem or2 (s t:Int):orL [s,t]=if s=0 then t else s:=by
  unfold orL
  split
  · unfold orL
    split
    · rename_i h;exact h.symm
    · rfl
  · rfl
section
variable {s t : Int} {l m : List Int}
theorem addS (h:RtB s l) (k:RtB t m) (hs:0≤s * t):(if nv (dig (nv l+nv m))=0 then 0 else orL [s,t])=sgn (zv s l+zv t m):=by
  rw [nv_dig,or2];exact (add_same h k hs).2
theorem lessS (h:RtB s l) (k:RtB t m) (hs:¬ 0≤s * t) (hlt:nv l < nv m):(if nv (dig (nv m - nv l))=0 then 0 else t)=sgn (zv s l+zv t m):=by
  rw [nv_dig];exact (add_less h k hs hlt).2
theorem lessD (h:RtB s l) (k:RtB t m) (hs:¬ 0≤s * t) (hlt:nv l < nv m):dig (nv (dig (nv m - nv l)))=dig (zv s l+zv t m).natAbs:=by
  rw [nv_dig,(add_less h k hs hlt).1]
theorem moreS (h:RtB s l) (k:RtB t m) (hs:¬ 0≤s * t) (hge:nv m≤nv l):(if nv (dig (nv l - nv m))=0 then 0 else s)=sgn (zv s l+zv t m):=by
  rw [nv_dig];exact (add_more h k hs hge).2
theorem moreD (h:RtB s l) (k:RtB t m) (hs:¬ 0≤s * t) (hge:nv m≤nv l):dig (nv (dig (nv l - nv m)))=dig (zv s l+zv t m).natAbs:=by
  rw [nv_dig,(add_more h k hs hge).1]
end
end Bg

namespace Fr
open Bg
def cmpQ (a b:Rat):Int:=if a < b then -1 else if a=b then 0 else 1
theorem cmpQ_is (a b:Rat):cmpI (a.num * b.den) (b.num * a.den)=cmpQ a b:=by
  unfold cmpI cmpQ
  by_cases h:a < b
  · rw [if_pos h,if_pos ((Rat.lt_iff a b).1 h)]
  · rw [if_neg h,if_neg fun k=>h ((Rat.lt_iff a b).2 k)]
    by_cases e:a=b
    · rw [if_pos e,if_pos (Rat.eq_iff_mul_eq_mul.1 e)]
    · rw [if_neg e,if_neg fun k=>e (Rat.eq_iff_mul_eq_mul.2 k)]
end Fr

namespace Fr
open Bg
theorem add_is (a b:Rat):Rat.divInt (a.num * b.den+b.num * a.den) (a.den * b.den)=a+b:=by
  rw [Rat.add_def',← Rat.divInt_ofNat,Int.natCast_mul]
end Fr

open Go
namespace Un
open Fr Bg
theorem tmN_pos {a f:Rat} {p:Prop} [Decidable p] (ha:0 < a) (hf:0 < f):∀ n,0 < tmN a f p n
  | 0=>ha
  | n+1=>by
    have ih:=tmN_pos (p:=p) ha hf n
    rw [tmN]
    split
    · exact Rat.mul_pos ih hf
    · rw [Rat.div_def];exact Rat.mul_pos ih (Rat.inv_pos.2 hf)
theorem tm_pos {a f:Rat} (ha:0 < a) (hf:0 < f) (e:Int):0 < tm a f e:=tmN_pos ha hf _
end Un

open Go Go.Proofs
set_option maxRecDepth 10000 in
theorem or_ct (vals:List Int) (valss:SV) :
    Cp Tryz.prog 124 #[valss.v] [fs true vals valss] (iv (Bg.orL vals)):=by
  refine V.fn mo Tryz.func124 18 0 (by kernel_rfl) fun w H ε k0=>?_;obtain ⟨⟨kl1, -⟩, -⟩:Lq vals valss.v∧True:=kq k0
  clear k0;refine V.g [.k (iv 0)] fun _ _ G1=>?_;intro S s
  refine V.g [.k (iv 0)] fun _ _ G2=>?_;intro S s
  refine V.g [.k (valss.v),.ln (kf false (.f 0) vals (fun _=>valss)),.k (iv 0)] fun _ _ G3=>?_;intro S s
  refine V.loop (γ:=Int) (fun k0=>⟨[(3,iv 0),(6,valss.v),(7,iv (vals.length:Int)),(8,iv k0)],[fs false vals valss],[]⟩) (fun k0=>(0≤k0)∧(k0≤(vals.length:Int))∧(∀ i,i < k0.toNat→vals.getD i default=0)) (fun k0=>((vals.length:Int)-k0).toNat) 0 (by kernel_rfl) [0] (by kernel_rfl) ?_ ?_
  · refine ⟨?_,?_,?_⟩
    · show 0≤(0:Int)
      first | omega | rfl | (simp;done) | (subst_vars;simp;done)
    · show (0:Int)≤(vals.length:Int)
      first | omega | rfl | (simp;done) | (subst_vars;simp;done)
    show ∀ i,i < (0:Int).toNat→vals.getD i default=0;intro i hi;simp at hi
  rintro k0 hF1 kw4 Z1 hZ1;have hF1:(0≤k0)∧(k0≤(vals.length:Int))∧(∀ i,i < k0.toNat→vals.getD i default=0):=hF1;obtain ⟨hf1,hf2,hf3⟩:=hF1;clear kw4;refine V.g [.k (bv (decide (k0 < (vals.length:Int))))] fun _ _ G4=>?_;intro S s;refine V.cn (b:=decide (k0 < (vals.length:Int))) iDT iDF (fun q1=>?_) (fun q2=>?_)
  · refine nm (vals.getD k0.toNat default:Int) fun v1 hv1=>?_;refine V.g [.ix g0 (kf false (.f 0) vals (fun _=>valss)) k0 (fun _=>⟨by omega,by omega⟩),.le g0 (kf false (.f 0) vals (fun _=>valss)) k0 none false v1 hv1 (fun _=>⟨by omega,by omega⟩) false (fun _=>[iv v1]),.k (iv v1)] fun _ _ G5=>?_;intro S s
    refine V.g [.k (iv v1),.k (iv 0),.k (bv (!(decide (v1=0))))] fun _ _ G6=>?_;intro S s
    refine V.cn (b:=!(decide (v1=0))) (iNT iDF) (iNF iDT) (fun q3=>?_) (fun q4=>?_)
    · refine V.g [.k (iv v1),.k (iv v1)] fun _ _ G7=>?_;intro S s
      have e0:v1=Bg.orL vals:=Bg.orL_at (k:=k0.toNat) (by omega) hf3 hv1 q3;exact V.rt [0] [] [] [] [] [] (iv v1) (cong1 (fun (x0:Int)=>(iv x0:Value)) e0)
    refine V.g [.a (k0+1) (by omega) (by omega),.k (iv (k0+1))] fun _ _ G8=>?_;intro S s
    refine V.rnd hZ1 (k0+1) [0] (by kernel_rfl) ?_ ?_
    · refine ⟨?_,?_,?_⟩
      · show 0≤(k0+1)
        first | omega | rfl | (simp;done) | (subst_vars;simp;done)
      · show (k0+1)≤(vals.length:Int)
        first | omega | rfl | (simp;done) | (subst_vars;simp;done)
      show ∀ i,i < (k0+1).toNat→vals.getD i default=0;intro i hi;by_cases e:i < k0.toNat
      · exact hf3 i e
      rw [show i=k0.toNat by omega,← hv1];exact q4
    show ((vals.length:Int)-(k0+1)).toNat < ((vals.length:Int)-k0).toNat;omega
  refine V.g [.k (iv 0),.k (iv 0)] fun _ _ G9=>?_;intro S s
  have e0:(0:Int)=Bg.orL vals:=(Bg.orL_no fun i hi=>hf3 i (by omega)).symm;exact V.rt [0] [] [] [] [] [] (iv 0) (cong1 (fun (x0:Int)=>(iv x0:Value)) e0)
theorem or_ctv (vals:List Int) (valss:SV) (rv0:Int) (erv0:rv0=Bg.orL vals) :
    Cp Tryz.prog 124 #[valss.v] [fs true vals valss] (iv rv0):=by
  subst erv0;exact or_ct vals valss 

open Go Go.Proofs
theorem cmpd_ctv (a:List Int) (as_:SV) (b:List Int) (bs:SV) (hda:Bg.Dg a) (hdb:Bg.Dg b) (hza:Bg.Nz a) (hzb:Bg.Nz b) (rv0:Int) (erv0:rv0=Bg.cmpI (Bg.nv a) (Bg.nv b)) :
    Cp Tryz.prog 126 #[as_.v,bs.v] [fs true a as_,fs true b bs] (iv rv0):=by
  subst erv0;exact cmpd_ct a as_ b bs hda hdb hza hzb
set_option maxRecDepth 10000 in
theorem Cmp_ct (c:Int) (d:List Int) (j:SV) (e:Int) (i:List Int) (l:SV) :
    Cp Tryz.prog 117 #[ag (DBig.mk c ⟨d,j⟩),ag (DBig.mk e ⟨i,l⟩)] [fs true d j,fs true i l] (iv (if (Bg.RtB c d∧Bg.RtB e i) then Bg.cmpI (Bg.zv c d) (Bg.zv e i) else 0)):=by
  refine V.fn mo Tryz.func117 31 2 (by kernel_rfl) fun w H ε k0=>?_;obtain ⟨⟨kl1, -⟩,⟨kl2, -⟩, -⟩:Lq d j.v∧Lq i l.v∧True:=kq k0
  clear k0;refine V.g [.nb 0 0 (fun b=>pp b 0) 27 (fun _=>ca (DBig.mk c ⟨d,j⟩)),.nb 1 1 (fun b=>pp b 0) 27 (fun _=>ca (DBig.mk e ⟨i,l⟩)),.k (iv 0)] fun _ _ G1=>?_;intro S s
  refine nm ((!(decide (Bg.RtB c d))) || (!(decide (Bg.RtB e i))):Bool) fun p1 hp1=>?_;refine V.g [.ld 0 0 true (fun _=>Dat.cells (DBig.mk c ⟨d,j⟩)),.cp g0 1 74 [(kf false (.f 0) d (fun _=>j)).a] (fun _ G=>bright_ct c d j),.k (bv (!(decide (Bg.RtB c d)))),.k (bv (!(decide (Bg.RtB c d)))),.ld 1 0 true (fun _=>Dat.cells (DBig.mk e ⟨i,l⟩)),.cp (gF (b:=!(decide (Bg.RtB c d))) (iNF iDT)) 5 74 [(kf false (.f 1) i (fun _=>l)).a] (fun hg G=>bright_ct e i l),.k (bv (!(decide (Bg.RtB e i)))),.orn g0 false (!(decide (Bg.RtB c d))) (!(decide (Bg.RtB e i))) p1 hp1] fun _ _ G2=>?_;intro S s
  refine V.cn (b:=p1) (iN hp1 (iOT (iNT iDF) (iNT iDF))) (iN hp1 (iOF (iNF iDT) (iNF iDT))) (fun q1=>?_) (fun q2=>?_)
  · refine V.g [.k (iv 0)] fun _ _ G3=>?_;intro S s
    have e0:(0:Int)=if (Bg.RtB c d∧Bg.RtB e i) then Bg.cmpI (Bg.zv c d) (Bg.zv e i) else 0:=by symm;refine if_neg ?_;rintro ⟨h1,h2⟩;rcases q1 with h | h;exact h h1;exact h h2
    exact V.rt [0] [] [] [] [] [] (iv 0) (cong1 (fun (x0:Int)=>(iv x0:Value)) e0)
  have hRR:(Bg.RtB c d∧Bg.RtB e i):=by first | exact q2 | exact ⟨Decidable.not_not.1 (q2).1,Decidable.not_not.1 (q2).2⟩
  refine V.g [.k (pp ((G1 0).b) 0),.ld 0 0 false (fun _=>[iv c]),.k (pp ((G1 1).b) 0),.ld 1 0 false (fun _=>[iv e]),.k (bv (!(decide (c=e))))] fun _ _ G4=>?_;intro S s
  refine V.cn (b:=!(decide (c=e))) (iNT iDF) (iNF iDT) (fun q3=>?_) (fun q4=>?_)
  · refine V.g [.k (pp ((G1 0).b) 0),.ld 0 0 false (fun _=>[iv c]),.k (pp ((G1 1).b) 0),.ld 1 0 false (fun _=>[iv e]),.cp g0 4 147 [] (fun _ G=>cmp_ct c e),.k (iv (Bg.cmpI c e))] fun _ _ G5=>?_;intro S s
    have e0:(Bg.cmpI c e)=if (Bg.RtB c d∧Bg.RtB e i) then Bg.cmpI (Bg.zv c d) (Bg.zv e i) else 0:=by rw [if_pos hRR,← Bg.cmp_z hRR.1 hRR.2,if_neg q3]
    exact V.rt [0] [] [] [] [] [] (iv (Bg.cmpI c e)) (cong1 (fun (x0:Int)=>(iv x0:Value)) e0)
  have hsE:c=e:=by first | exact q4 | exact Decidable.not_not.1 q4
  have hcB:=Bg.cmpI_le (x:=(Bg.nv d:Int)) (y:=Bg.nv i);have hsB:=Bg.sg_le hRR.1;refine nm (c * (Bg.cmpI (Bg.nv d) (Bg.nv i)):Int) fun n1 hn1=>?_;refine V.g [.k (pp ((G1 0).b) 0),.ld 0 0 false (fun _=>[iv c]),.k (pp ((G1 0).b) 1),.ld 0 1 false (fun _=>[j.v]),.k (pp ((G1 1).b) 1),.ld 1 1 false (fun _=>[l.v]),.cp g0 6 126 [(kf false (.f 0) d (fun _=>j)).a,(kf false (.f 1) i (fun _=>l)).a] (fun _ G=>cmpd_ct d j i l hRR.1.dg hRR.2.dg hRR.1.nz hRR.2.nz),.ar (c * (Bg.cmpI (Bg.nv d) (Bg.nv i))) n1 hn1 (by rw [hn1];exact (Bg.mul1 hsB hcB).1) (by rw [hn1];exact (Bg.mul1 hsB hcB).2),.k (iv n1)] fun _ _ G6=>?_;intro S s
  have e0:n1=if (Bg.RtB c d∧Bg.RtB e i) then Bg.cmpI (Bg.zv c d) (Bg.zv e i) else 0:=by rw [if_pos hRR,← Bg.cmp_z hRR.1 hRR.2,if_pos hsE];first | rfl | assumption
  exact V.rt [0] [] [] [] [] [] (iv n1) (cong1 (fun (x0:Int)=>(iv x0:Value)) e0)
theorem Cmp_ctv (c:Int) (a:List Int) (e:SV) (d:Int) (b:List Int) (f:SV) (rv0:Int) (erv0:rv0=if (Bg.RtB c a∧Bg.RtB d b) then Bg.cmpI (Bg.zv c a) (Bg.zv d b) else 0) :
    Cp Tryz.prog 117 #[ag (DBig.mk c ⟨a,e⟩),ag (DBig.mk d ⟨b,f⟩)] [fs true a e,fs true b f] (iv rv0):=by
  subst erv0;exact Cmp_ct c a e d b f 

open Go Go.Proofs
set_option maxRecDepth 10000 in
theorem Add_ct (e:Int) (c:List Int) (j:SV) (i:Int) (d:List Int) (l:SV) (hla:c.length≤274877906944) (hlb:d.length≤274877906944) :
    Ct Tryz.prog 88 #[ag (DBig.mk e ⟨c,j⟩),ag (DBig.mk i ⟨d,l⟩)] [fs true c j,fs true d l] [] (fun g=>.tuple #[ag (DBig.mk (Bg.oS (Bg.RtB e c∧Bg.RtB i d) (Bg.zv e c+Bg.zv i d)) ⟨Bg.oD (Bg.RtB e c∧Bg.RtB i d) (Bg.zv e c+Bg.zv i d),(g.ss 0)⟩),iv (if (Bg.RtB e c∧Bg.RtB i d) then (0:Int) else 1)]) (fun g=>[fs true (Bg.oD (Bg.RtB e c∧Bg.RtB i d) (Bg.zv e c+Bg.zv i d)) (g.ss 0)]) (fun g=>[]) (fun g=>[]):=by
  refine V.fn mo Tryz.func88 69 3 (by kernel_rfl) fun w H ε k0=>?_;obtain ⟨⟨kl1, -⟩,⟨kl2, -⟩, -⟩:Lq c j.v∧Lq d l.v∧True:=kq k0
  clear k0;refine V.g [.nb 0 0 (fun b=>pp b 0) 27 (fun _=>ca (DBig.mk e ⟨c,j⟩)),.nb 1 1 (fun b=>pp b 0) 27 (fun _=>ca (DBig.mk i ⟨d,l⟩)),.nb 2 2 (fun b=>pp b 0) 27 (fun _=>ca (DBig.mk 0 ⟨[],{}⟩)),.k (iv 0)] fun _ _ G1=>?_;intro S s
  refine nm ((!(decide (Bg.RtB e c))) || (!(decide (Bg.RtB i d))):Bool) fun p1 hp1=>?_;refine V.g [.ld 0 0 true (fun _=>Dat.cells (DBig.mk e ⟨c,j⟩)),.cp g0 1 74 [(kf false (.f 0) c (fun _=>j)).a] (fun _ G=>bright_ct e c j),.k (bv (!(decide (Bg.RtB e c)))),.k (bv (!(decide (Bg.RtB e c)))),.ld 1 0 true (fun _=>Dat.cells (DBig.mk i ⟨d,l⟩)),.cp (gF (b:=!(decide (Bg.RtB e c))) (iNF iDT)) 5 74 [(kf false (.f 1) d (fun _=>l)).a] (fun hg G=>bright_ct i d l),.k (bv (!(decide (Bg.RtB i d)))),.orn g0 false (!(decide (Bg.RtB e c))) (!(decide (Bg.RtB i d))) p1 hp1] fun _ _ G2=>?_;intro S s
  refine V.cn (b:=p1) (iN hp1 (iOT (iNT iDF) (iNT iDF))) (iN hp1 (iOF (iNF iDT) (iNF iDT))) (fun q1=>?_) (fun q2=>?_)
  · have hNR:¬ (Bg.RtB e c∧Bg.RtB i d):=by rintro ⟨h1,h2⟩;rcases q1 with h | h;exact h h1;exact h h2
    refine nl (([]:List Int)) fun l1 hl1 hl1n=>?_;refine V.r [.k (ag (DBig.mk 0 ⟨[],{}⟩)),.ctT g0 1 112 [(knil (α:=Int)).a] (fun _ G=>checkedF_ctv (0:Int) ([]:List Int) ({}) l1 hl1),.v fun G=>ag (DBig.mk 0 ⟨l1,(G 1).ss 0⟩),.k (iv 1),.st 2 (fun G=>.blk ((G1 2).b) (ca (DBig.mk 0 ⟨l1,(G 1).ss 0⟩)) 27),.k (iv 1)] fun _ _ G3 kw3=>?_;intro S s
    obtain ⟨⟨kl3, -⟩, -⟩:Lq l1 (((G3 1).ss 0).v)∧True:=kq kw3;clear kw3;have e1:l1=Bg.oD (Bg.RtB e c∧Bg.RtB i d) (Bg.zv e c+Bg.zv i d):=by
      rw [hl1];exact (Bg.oD_n hNR _).symm
    subst e1;have e0:(0:Int)=Bg.oS (Bg.RtB e c∧Bg.RtB i d) (Bg.zv e c+Bg.zv i d):=(Bg.oS_n hNR _).symm;have e2:(1:Int)=if (Bg.RtB e c∧Bg.RtB i d) then (0:Int) else 1:=(if_neg hNR).symm
    exact V.rt [2,0] [(G3 1).ss 0] [fun _=>{}] [] [2] [] (.tuple #[ag (DBig.mk 0 ⟨(Bg.oD (Bg.RtB e c∧Bg.RtB i d) (Bg.zv e c+Bg.zv i d)),(G3 1).ss 0⟩),iv 1]) (cong2 (fun (x0 x2:Int)=>(.tuple #[.agg #[iv x0,((G3 1).ss 0).v],iv x2]:Value)) e0 e2)
  have hRR:(Bg.RtB e c∧Bg.RtB i d):=by first | exact q2 | exact ⟨Decidable.not_not.1 (q2).1,Decidable.not_not.1 (q2).2⟩
  have hsm:=Bg.sml hRR.1 hRR.2;refine nm (e * i:Int) fun n1 hn1=>?_;refine V.g [.k (pp ((G1 0).b) 0),.ld 0 0 false (fun _=>[iv e]),.k (pp ((G1 1).b) 0),.ld 1 0 false (fun _=>[iv i]),.ar (e * i) n1 hn1 (by rw [hn1];exact hsm.1) (by rw [hn1];exact hsm.2),.k (bv (decide (0≤n1))),.k (bv (decide (0≤n1)))] fun _ _ G4=>?_;intro S s
  refine V.cn (b:=decide (0≤n1)) iDT iDF (fun q3=>?_) (fun q4=>?_)
  · have hss:0≤e * i:=by omega
    refine nm (Bg.orL [e,i]:Int) fun n2 hn2=>?_;refine nl (Bg.dig (Bg.nv c+Bg.nv d)) fun l2 hl2 hl2n=>?_;refine nm (Bg.sg0 (Bg.nv l2) n2:Int) fun n3 hn3=>?_;refine nl (Bg.dig (Bg.nv l2)) fun l3 hl3 hl3n=>?_;refine V.r [.k (pp ((G1 0).b) 0),.ld 0 0 false (fun _=>[iv e]),.k (pp ((G1 1).b) 0),.ld 1 0 false (fun _=>[iv i]),.nr 4 true 3 [e,i] [] (fun _ _ _ _ _=>trivial) (fun _=>#[iv e,iv i]),.cp g0 5 124 [(kf true (.g 4 0) [e,i] (fun G=>⟨atB (G 4).b,2,2⟩)).a] (fun _ G=>or_ctv [e,i] ⟨atB (G 4).b,2,2⟩ n2 hn2),.k (pp ((G1 0).b) 1),.ld 0 1 false (fun _=>[j.v]),.k (pp ((G1 1).b) 1),.ld 1 1 false (fun _=>[l.v]),.ct g0 10 125 false [] [] [(kf false (.f 0) c (fun _=>j)).a,(kf false (.f 1) d (fun _=>l)).a] (fun _ G=>add_ctv c j d l hRR.1.dg hRR.2.dg (by omega) (by omega) l2 hl2),.ctT g0 11 115 [(kf true (.g 10 0) l2 (fun G=>(G 10).ss 0)).a] (fun _ G=>signed_ctv n2 l2 ((G 10).ss 0) (by subst_vars;exact Bg.dig_Dg _) n3 hn3 l3 hl3),.ctT g0 12 112 [(kf true (.g 11 0) l3 (fun G=>(G 11).ss 0)).a] (fun _ G=>checkedT_ct n3 l3 ((G 11).ss 0)),.v fun G=>ag (DBig.mk n3 ⟨l3,(G 12).ss 0⟩),.k (iv 0),.st 2 (fun G=>.blk ((G1 2).b) (ca (DBig.mk n3 ⟨l3,(G 12).ss 0⟩)) 27),.k (iv 0)] fun _ _ G5 kw5=>?_;intro S s
    obtain ⟨⟨kl4, -⟩,⟨kl5, -⟩,⟨kl6, -⟩,⟨kl7, -⟩, -⟩:Lq [e,i] (SV.v ⟨atB (G5 4).b,2,2⟩)∧Lq l2 (((G5 10).ss 0).v)∧Lq l3 (((G5 11).ss 0).v)∧Lq l3 (((G5 12).ss 0).v)∧True:=kq kw5;clear kw5;have e1:l3=Bg.oD (Bg.RtB e c∧Bg.RtB i d) (Bg.zv e c+Bg.zv i d):=by
      rw [hl3,hl2];rw [Bg.oD_y hRR];exact Bg.addD hRR.1 hRR.2 hss
    subst e1;have e0:n3=Bg.oS (Bg.RtB e c∧Bg.RtB i d) (Bg.zv e c+Bg.zv i d):=by
      rw [hn3,hl2,hn2];rw [Bg.oS_y hRR];exact Bg.addS hRR.1 hRR.2 hss
    have e2:(0:Int)=if (Bg.RtB e c∧Bg.RtB i d) then (0:Int) else 1:=(if_pos hRR).symm
    exact V.rt [2,0] [(G5 12).ss 0] [fun _=>{}] [] [5] [] (.tuple #[ag (DBig.mk n3 ⟨(Bg.oD (Bg.RtB e c∧Bg.RtB i d) (Bg.zv e c+Bg.zv i d)),(G5 12).ss 0⟩),iv 0]) (cong2 (fun (x0 x2:Int)=>(.tuple #[.agg #[iv x0,((G5 12).ss 0).v],iv x2]:Value)) e0 e2)
  have hss:¬ 0≤e * i:=by omega
  refine nm (Bg.cmpI (Bg.nv c) (Bg.nv d):Int) fun n4 hn4=>?_;refine V.g [.k (pp ((G1 0).b) 1),.ld 0 1 false (fun _=>[j.v]),.k (pp ((G1 1).b) 1),.ld 1 1 false (fun _=>[l.v]),.cp g0 4 126 [(kf false (.f 0) c (fun _=>j)).a,(kf false (.f 1) d (fun _=>l)).a] (fun _ G=>cmpd_ctv c j d l hRR.1.dg hRR.2.dg hRR.1.nz hRR.2.nz n4 hn4),.k (bv (decide (n4 < 0))),.k (bv (decide (n4 < 0)))] fun _ _ G6=>?_;intro S s
  refine V.cn (b:=decide (n4 < 0)) iDT iDF (fun q5=>?_) (fun q6=>?_)
  · have hlt:Bg.nv c < Bg.nv d:=by have hqq:=q5;subst_vars;have:=Bg.cmp_lt.1 hqq;omega
    refine nl (Bg.dig (Bg.nv d-Bg.nv c)) fun l4 hl4 hl4n=>?_;refine nm (Bg.sg0 (Bg.nv l4) i:Int) fun n5 hn5=>?_;refine nl (Bg.dig (Bg.nv l4)) fun l5 hl5 hl5n=>?_;refine V.r [.k (pp ((G1 1).b) 0),.ld 1 0 false (fun _=>[iv i]),.k (pp ((G1 1).b) 1),.ld 1 1 false (fun _=>[l.v]),.k (pp ((G1 0).b) 1),.ld 0 1 false (fun _=>[j.v]),.ct g0 6 127 false [] [] [(kf false (.f 1) d (fun _=>l)).a,(kf false (.f 0) c (fun _=>j)).a] (fun _ G=>sub_ctv d l c j hRR.2.dg hRR.1.dg (by omega) (by omega) hRR.1.nz (by omega) l4 hl4),.ctT g0 7 115 [(kf true (.g 6 0) l4 (fun G=>(G 6).ss 0)).a] (fun _ G=>signed_ctv i l4 ((G 6).ss 0) (by subst_vars;exact Bg.dig_Dg _) n5 hn5 l5 hl5),.ctT g0 8 112 [(kf true (.g 7 0) l5 (fun G=>(G 7).ss 0)).a] (fun _ G=>checkedT_ct n5 l5 ((G 7).ss 0)),.v fun G=>ag (DBig.mk n5 ⟨l5,(G 8).ss 0⟩),.k (iv 0),.st 2 (fun G=>.blk ((G1 2).b) (ca (DBig.mk n5 ⟨l5,(G 8).ss 0⟩)) 27),.k (iv 0)] fun _ _ G7 kw7=>?_;intro S s
    obtain ⟨⟨kl8, -⟩,⟨kl9, -⟩,⟨kl10, -⟩, -⟩:Lq l4 (((G7 6).ss 0).v)∧Lq l5 (((G7 7).ss 0).v)∧Lq l5 (((G7 8).ss 0).v)∧True:=kq kw7;clear kw7;have e1:l5=Bg.oD (Bg.RtB e c∧Bg.RtB i d) (Bg.zv e c+Bg.zv i d):=by
      rw [hl5,hl4];rw [Bg.oD_y hRR];exact Bg.lessD hRR.1 hRR.2 hss hlt
    subst e1;have e0:n5=Bg.oS (Bg.RtB e c∧Bg.RtB i d) (Bg.zv e c+Bg.zv i d):=by
      rw [hn5,hl4];rw [Bg.oS_y hRR];exact Bg.lessS hRR.1 hRR.2 hss hlt
    have e2:(0:Int)=if (Bg.RtB e c∧Bg.RtB i d) then (0:Int) else 1:=(if_pos hRR).symm
    exact V.rt [2,0] [(G7 8).ss 0] [fun _=>{}] [] [4] [] (.tuple #[ag (DBig.mk n5 ⟨(Bg.oD (Bg.RtB e c∧Bg.RtB i d) (Bg.zv e c+Bg.zv i d)),(G7 8).ss 0⟩),iv 0]) (cong2 (fun (x0 x2:Int)=>(.tuple #[.agg #[iv x0,((G7 8).ss 0).v],iv x2]:Value)) e0 e2)
  have hge:Bg.nv d≤Bg.nv c:=by have hqq:=q6;subst_vars;exact Nat.not_lt.1 fun h=>hqq (Bg.cmp_lt.2 (by omega))
  refine nl (Bg.dig (Bg.nv c-Bg.nv d)) fun l6 hl6 hl6n=>?_;refine nm (Bg.sg0 (Bg.nv l6) e:Int) fun n6 hn6=>?_;refine nl (Bg.dig (Bg.nv l6)) fun l7 hl7 hl7n=>?_;refine V.r [.k (pp ((G1 0).b) 0),.ld 0 0 false (fun _=>[iv e]),.k (pp ((G1 0).b) 1),.ld 0 1 false (fun _=>[j.v]),.k (pp ((G1 1).b) 1),.ld 1 1 false (fun _=>[l.v]),.ct g0 6 127 false [] [] [(kf false (.f 0) c (fun _=>j)).a,(kf false (.f 1) d (fun _=>l)).a] (fun _ G=>sub_ctv c j d l hRR.1.dg hRR.2.dg (by omega) (by omega) hRR.2.nz (by omega) l6 hl6),.ctT g0 7 115 [(kf true (.g 6 0) l6 (fun G=>(G 6).ss 0)).a] (fun _ G=>signed_ctv e l6 ((G 6).ss 0) (by subst_vars;exact Bg.dig_Dg _) n6 hn6 l7 hl7),.ctT g0 8 112 [(kf true (.g 7 0) l7 (fun G=>(G 7).ss 0)).a] (fun _ G=>checkedT_ct n6 l7 ((G 7).ss 0)),.v fun G=>ag (DBig.mk n6 ⟨l7,(G 8).ss 0⟩),.k (iv 0),.st 2 (fun G=>.blk ((G1 2).b) (ca (DBig.mk n6 ⟨l7,(G 8).ss 0⟩)) 27),.k (iv 0)] fun _ _ G8 kw8=>?_;intro S s
  obtain ⟨⟨kl11, -⟩,⟨kl12, -⟩,⟨kl13, -⟩, -⟩:Lq l6 (((G8 6).ss 0).v)∧Lq l7 (((G8 7).ss 0).v)∧Lq l7 (((G8 8).ss 0).v)∧True:=kq kw8;clear kw8;have e1:l7=Bg.oD (Bg.RtB e c∧Bg.RtB i d) (Bg.zv e c+Bg.zv i d):=by
    rw [hl7,hl6];rw [Bg.oD_y hRR];exact Bg.moreD hRR.1 hRR.2 hss hge
  subst e1;have e0:n6=Bg.oS (Bg.RtB e c∧Bg.RtB i d) (Bg.zv e c+Bg.zv i d):=by
    rw [hn6,hl6];rw [Bg.oS_y hRR];exact Bg.moreS hRR.1 hRR.2 hss hge
  have e2:(0:Int)=if (Bg.RtB e c∧Bg.RtB i d) then (0:Int) else 1:=(if_pos hRR).symm
  exact V.rt [2,0] [(G8 8).ss 0] [fun _=>{}] [] [4] [] (.tuple #[ag (DBig.mk n6 ⟨(Bg.oD (Bg.RtB e c∧Bg.RtB i d) (Bg.zv e c+Bg.zv i d)),(G8 8).ss 0⟩),iv 0]) (cong2 (fun (x0 x2:Int)=>(.tuple #[.agg #[iv x0,((G8 8).ss 0).v],iv x2]:Value)) e0 e2)
theorem Add_ctv (c:Int) (a:List Int) (e:SV) (d:Int) (b:List Int) (f:SV) (hla:a.length≤274877906944) (hlb:b.length≤274877906944) (rv0:Int) (erv0:rv0=Bg.oS (Bg.RtB c a∧Bg.RtB d b) (Bg.zv c a+Bg.zv d b)) (rv1:List Int) (erv1:rv1=Bg.oD (Bg.RtB c a∧Bg.RtB d b) (Bg.zv c a+Bg.zv d b)) (rv2:Int) (erv2:rv2=if (Bg.RtB c a∧Bg.RtB d b) then (0:Int) else 1) :
    Ct Tryz.prog 88 #[ag (DBig.mk c ⟨a,e⟩),ag (DBig.mk d ⟨b,f⟩)] [fs true a e,fs true b f] [] (fun g=>.tuple #[ag (DBig.mk rv0 ⟨rv1,(g.ss 0)⟩),iv rv2]) (fun g=>[fs true rv1 (g.ss 0)]) (fun g=>[]) (fun g=>[]):=by
  subst erv0 erv1 erv2;exact Add_ct c a e d b f hla hlb

open Go Go.Proofs
set_option maxRecDepth 10000 in
theorem fadd_ct (j:Int) (e:List Int) (u:SV) (m:Int) (c:List Int) (o:SV) (l:Int) (i:List Int) (x:SV) (n:Int) (d:List Int) (t:SV) (haP:e.length≤17179869184) (haQ:c.length≤17179869184) (hbP:i.length≤17179869184) (hbQ:d.length≤17179869184) :
    Ct Tryz.prog 46 #[ag (DFrac.mk ⟨j,e,u⟩ ⟨m,c,o⟩),ag (DFrac.mk ⟨l,i,x⟩ ⟨n,d,t⟩)] [fs true e u,fs true c o,fs true i x,fs true d t] [] (fun g=>.tuple #[ag (DFrac.mk ⟨(Fr.rS (Fr.FrB j e m c∧Fr.FrB l i n d) ((Fr.fq j e c)+(Fr.fq l i d))),Fr.rD (Fr.FrB j e m c∧Fr.FrB l i n d) ((Fr.fq j e c)+(Fr.fq l i d)),(g.ss 0)⟩ ⟨(Fr.rT (Fr.FrB j e m c∧Fr.FrB l i n d)),Fr.rE (Fr.FrB j e m c∧Fr.FrB l i n d) ((Fr.fq j e c)+(Fr.fq l i d)),(g.ss 1)⟩),iv (if ¬ (Fr.FrB j e m c∧Fr.FrB l i n d) then (1:Int) else 0)]) (fun g=>[fs true (Fr.rD (Fr.FrB j e m c∧Fr.FrB l i n d) ((Fr.fq j e c)+(Fr.fq l i d))) (g.ss 0),fs true (Fr.rE (Fr.FrB j e m c∧Fr.FrB l i n d) ((Fr.fq j e c)+(Fr.fq l i d))) (g.ss 1)]) (fun g=>[]) (fun g=>[]):=by
  refine V.fn mo Tryz.func46 40 4 (by kernel_rfl) fun w H ε k0=>?_;obtain ⟨⟨kl1, -⟩,⟨kl2, -⟩,⟨kl3, -⟩,⟨kl4, -⟩, -⟩:Lq e u.v∧Lq c o.v∧Lq i x.v∧Lq d t.v∧True:=kq k0
  clear k0;refine V.g [.nb 0 0 (fun b=>pp b 0) 29 (fun _=>ca (DFrac.mk ⟨j,e,u⟩ ⟨m,c,o⟩)),.nb 1 1 (fun b=>pp b 0) 29 (fun _=>ca (DFrac.mk ⟨l,i,x⟩ ⟨n,d,t⟩)),.nb 2 2 (fun b=>pp b 0) 29 (fun _=>ca (DFrac.mk ⟨0,[],{}⟩ ⟨0,[],{}⟩)),.k (iv 0)] fun _ _ G1=>?_;intro S s
  refine nm ((!(decide (Fr.FrB j e m c))) || (!(decide (Fr.FrB l i n d))):Bool) fun p1 hp1=>?_;refine V.g [.ld 0 0 true (fun _=>Dat.cells (DFrac.mk ⟨j,e,u⟩ ⟨m,c,o⟩)),.cp g0 1 36 [(kf false (.f 0) e (fun _=>u)).a,(kf false (.f 1) c (fun _=>o)).a] (fun _ G=>right_ct j e u m c o (by omega) (by omega)),.k (bv (!(decide (Fr.FrB j e m c)))),.k (bv (!(decide (Fr.FrB j e m c)))),.ld 1 0 true (fun _=>Dat.cells (DFrac.mk ⟨l,i,x⟩ ⟨n,d,t⟩)),.cp (gF (b:=!(decide (Fr.FrB j e m c))) (iNF iDT)) 5 36 [(kf false (.f 2) i (fun _=>x)).a,(kf false (.f 3) d (fun _=>t)).a] (fun hg G=>right_ct l i x n d t (by omega) (by omega)),.k (bv (!(decide (Fr.FrB l i n d)))),.orn g0 false (!(decide (Fr.FrB j e m c))) (!(decide (Fr.FrB l i n d))) p1 hp1] fun _ _ G2=>?_;intro S s
  refine V.cn (b:=p1) (iN hp1 (iOT (iNT iDF) (iNT iDF))) (iN hp1 (iOF (iNF iDT) (iNF iDT))) (fun q1=>?_) (fun q2=>?_)
  · have hNR:¬ (Fr.FrB j e m c∧Fr.FrB l i n d):=by rintro ⟨h1,h2⟩;rcases q1 with h | h;exact h h1;exact h h2
    refine V.g [.k (ag (DFrac.mk ⟨0,[],{}⟩ ⟨0,[],{}⟩)),.st 2 (fun _=>.blk ((G1 2).b) (ca (DFrac.mk ⟨0,[],{}⟩ ⟨0,[],{}⟩)) 29),.k (iv 1)] fun _ _ G3=>?_;intro S s
    refine V.nilF (α:=Int) ?_;refine V.nilF (α:=Int) ?_;have e1:([]:List Int)=Fr.rD (Fr.FrB j e m c∧Fr.FrB l i n d) ((Fr.fq j e c)+(Fr.fq l i d)):=(Fr.Fz.no hNR ((Fr.fq j e c)+(Fr.fq l i d))).2.1;rw [←e1];have e3:([]:List Int)=Fr.rE (Fr.FrB j e m c∧Fr.FrB l i n d) ((Fr.fq j e c)+(Fr.fq l i d)):=(Fr.Fz.no hNR ((Fr.fq j e c)+(Fr.fq l i d))).2.2.2;rw [←e3];have e0:(0:Int)=Fr.rS (Fr.FrB j e m c∧Fr.FrB l i n d) ((Fr.fq j e c)+(Fr.fq l i d)):=(Fr.Fz.no hNR ((Fr.fq j e c)+(Fr.fq l i d))).1;have e2:(0:Int)=Fr.rT (Fr.FrB j e m c∧Fr.FrB l i n d):=(Fr.Fz.no hNR ((Fr.fq j e c)+(Fr.fq l i d))).2.2.1;have e4:(1:Int)=if ¬ (Fr.FrB j e m c∧Fr.FrB l i n d) then (1:Int) else 0:=(if_pos hNR).symm
    exact V.rt [2,0] [{},{}] [fun _=>{},fun _=>{}] [] [4,5] [] (.tuple #[ag (DFrac.mk ⟨0,([]:List Int),{}⟩ ⟨0,([]:List Int),{}⟩),iv 1]) (cong3 (fun (x0 x2 x4:Int)=>(.tuple #[.agg #[iv x0,SV.v ({}),iv x2,SV.v ({})],iv x4]:Value)) e0 e2 e4)
  have hRR:Fr.FrB j e m c∧Fr.FrB l i n d:=by first | exact q2 | exact ⟨Decidable.not_not.1 (q2).1,Decidable.not_not.1 (q2).2⟩
  have fa:=Fr.FrB.z hRR.1;have fb:=Fr.FrB.z hRR.2;refine nm (Bg.oS (Bg.RtB j e∧Bg.RtB n d) (Bg.zv j e * Bg.zv n d):Int) fun n1 hn1=>?_;refine nl (Bg.oD (Bg.RtB j e∧Bg.RtB n d) (Bg.zv j e * Bg.zv n d)) fun l1 hl1 hl1n=>?_;refine nm (Bg.oS (Bg.RtB l i∧Bg.RtB m c) (Bg.zv l i * Bg.zv m c):Int) fun n2 hn2=>?_;refine nl (Bg.oD (Bg.RtB l i∧Bg.RtB m c) (Bg.zv l i * Bg.zv m c)) fun l2 hl2 hl2n=>?_;refine nm (Bg.oS (Bg.RtB n1 l1∧Bg.RtB n2 l2) (Bg.zv n1 l1+Bg.zv n2 l2):Int) fun n3 hn3=>?_;refine nl (Bg.oD (Bg.RtB n1 l1∧Bg.RtB n2 l2) (Bg.zv n1 l1+Bg.zv n2 l2)) fun l3 hl3 hl3n=>?_;refine nm (if (Bg.RtB n1 l1∧Bg.RtB n2 l2) then (0:Int) else 1:Int) fun n4 hn4=>?_;obtain ⟨z4,z4l⟩:=Fr.Bz.mul fa.p fb.q hn1 hl1
  obtain ⟨z9,z9l⟩:=Fr.Bz.mul fb.p fa.q hn2 hl2;obtain ⟨zA,zAl⟩:=Fr.Bz.add z4 z9 hn3 hl3;refine V.r [.k (pp ((G1 0).b) 0),.ld 0 0 true (fun _=>Dat.cells (DBig.mk j ⟨e,u⟩)),.k (pp ((G1 1).b) 2),.ld 1 2 true (fun _=>Dat.cells (DBig.mk n ⟨d,t⟩)),.ct g0 4 87 false [] [] [(kf false (.f 0) e (fun _=>u)).a,(kf false (.f 3) d (fun _=>t)).a] (fun _ G=>times_ctv j e u n d t (by omega) (by omega) n1 hn1 l1 hl1),.k (pp ((G1 1).b) 0),.ld 1 0 true (fun _=>Dat.cells (DBig.mk l ⟨i,x⟩)),.k (pp ((G1 0).b) 2),.ld 0 2 true (fun _=>Dat.cells (DBig.mk m ⟨c,o⟩)),.ct g0 9 87 false [] [] [(kf false (.f 2) i (fun _=>x)).a,(kf false (.f 1) c (fun _=>o)).a] (fun _ G=>times_ctv l i x m c o (by omega) (by omega) n2 hn2 l2 hl2),.ct g0 10 88 false [] [] [(kf true (.g 4 0) l1 (fun G=>(G 4).ss 0)).a,(kf true (.g 9 0) l2 (fun G=>(G 9).ss 0)).a] (fun _ G=>Add_ctv n1 l1 ((G 4).ss 0) n2 l2 ((G 9).ss 0) (by omega) (by omega) n3 hn3 l3 hl3 n4 hn4),.v fun G=>.tuple #[ag (DBig.mk n3 ⟨l3,(G 10).ss 0⟩),iv n4],.v fun G=>ag (DBig.mk n3 ⟨l3,(G 10).ss 0⟩),.k (iv n4),.nb 14 3 (fun b=>pp b 0) 27 (fun _=>ca (DBig.mk 0 ⟨[],{}⟩)),.st 3 (fun G=>.blk ((G 14).b) (ca (DBig.mk n3 ⟨l3,(G 10).ss 0⟩)) 27),.k (iv n4)] fun _ _ G4 kw4=>?_;intro S s;obtain ⟨⟨kl5, -⟩,⟨kl6, -⟩,⟨kl7, -⟩, -⟩:Lq l1 (((G4 4).ss 0).v)∧Lq l2 (((G4 9).ss 0).v)∧Lq l3 (((G4 10).ss 0).v)∧True:=kq kw4;clear kw4;refine nm (Bg.oS (Bg.RtB m c∧Bg.RtB n d) (Bg.zv m c * Bg.zv n d):Int) fun n5 hn5=>?_;refine nl (Bg.oD (Bg.RtB m c∧Bg.RtB n d) (Bg.zv m c * Bg.zv n d)) fun l4 hl4 hl4n=>?_;refine nm (Fr.rS ((Bg.RtB n3 l3∧Bg.RtB n5 l4)∧n5≠0) (Rat.divInt (Bg.zv n3 l3) (Bg.zv n5 l4)):Int) fun n6 hn6=>?_;refine nl (Fr.rD ((Bg.RtB n3 l3∧Bg.RtB n5 l4)∧n5≠0) (Rat.divInt (Bg.zv n3 l3) (Bg.zv n5 l4))) fun l5 hl5 hl5n=>?_;refine nm (Fr.rT ((Bg.RtB n3 l3∧Bg.RtB n5 l4)∧n5≠0):Int) fun n7 hn7=>?_;refine nl (Fr.rE ((Bg.RtB n3 l3∧Bg.RtB n5 l4)∧n5≠0) (Rat.divInt (Bg.zv n3 l3) (Bg.zv n5 l4))) fun l6 hl6 hl6n=>?_;refine nm (if ¬ (Bg.RtB n3 l3∧Bg.RtB n5 l4) then (1:Int) else if n5=0 then 15 else 0:Int) fun n8 hn8=>?_;obtain ⟨z5,z5l⟩:=Fr.Bz.mul fa.q fb.q hn5 hl4;have hy0:((((Fr.fq j e c)).den:Int) * (((Fr.fq l i d)).den:Int))≠0:=Int.mul_ne_zero fa.den fb.den;have zf:=Fr.new_is zA z5 hy0 hn6 hl5 hn7 hl6;have hEr:n8=0:=by rw [hn8,if_neg (fun h=>h ⟨zA.rt,z5.rt⟩),if_neg (z5.ne.2 hy0)]
  have heq:=Fr.add_is (Fr.fq j e c) (Fr.fq l i d);refine V.r [.ld 3 0 true (fun _=>Dat.cells (DBig.mk n3 ⟨l3,(G4 10).ss 0⟩)),.k (pp ((G1 0).b) 2),.ld 0 2 true (fun _=>Dat.cells (DBig.mk m ⟨c,o⟩)),.k (pp ((G1 1).b) 2),.ld 1 2 true (fun _=>Dat.cells (DBig.mk n ⟨d,t⟩)),.ct g0 5 87 false [] [] [(kf false (.f 1) c (fun _=>o)).a,(kf false (.f 3) d (fun _=>t)).a] (fun _ G=>times_ctv m c o n d t (by omega) (by omega) n5 hn5 l4 hl4),.ct g0 6 86 false [] [] [(kf true (.f 6) l3 (fun _=>(G4 10).ss 0)).a,(kf true (.g 5 0) l4 (fun G=>(G 5).ss 0)).a] (fun _ G=>new_ctv n3 l3 ((G4 10).ss 0) n5 l4 ((G 5).ss 0) (by omega) (by omega) n6 hn6 l5 hl5 n7 hn7 l6 hl6 n8 hn8),.v fun G=>ag (DFrac.mk ⟨n6,l5,(G 6).ss 0⟩ ⟨n7,l6,(G 6).ss 1⟩),.k (iv n8),.st 2 (fun G=>.blk ((G1 2).b) (ca (DFrac.mk ⟨n6,l5,(G 6).ss 0⟩ ⟨n7,l6,(G 6).ss 1⟩)) 29),.k (iv n8)] fun _ _ G5 kw5=>?_;intro S s
  obtain ⟨⟨kl8, -⟩,⟨kl9, -⟩,⟨kl10, -⟩, -⟩:Lq l4 (((G5 5).ss 0).v)∧Lq l5 (((G5 6).ss 0).v)∧Lq l6 (((G5 6).ss 1).v)∧True:=kq kw5;clear kw5;have e1:l5=Fr.rD (Fr.FrB j e m c∧Fr.FrB l i n d) ((Fr.fq j e c)+(Fr.fq l i d)):=(Fr.Fz.ret zf hRR (heq)).2.1;subst e1;have e3:l6=Fr.rE (Fr.FrB j e m c∧Fr.FrB l i n d) ((Fr.fq j e c)+(Fr.fq l i d)):=(Fr.Fz.ret zf hRR (heq)).2.2.2;subst e3;have e0:n6=Fr.rS (Fr.FrB j e m c∧Fr.FrB l i n d) ((Fr.fq j e c)+(Fr.fq l i d)):=(Fr.Fz.ret zf hRR (heq)).1;have e2:n7=Fr.rT (Fr.FrB j e m c∧Fr.FrB l i n d):=(Fr.Fz.ret zf hRR (heq)).2.2.1;have e4:n8=if ¬ (Fr.FrB j e m c∧Fr.FrB l i n d) then (1:Int) else 0:=by rw [if_neg (fun h=>h hRR)];exact hEr
  exact V.rt [2,0] [(G5 6).ss 0,(G5 6).ss 1] [fun _=>{},fun _=>{}] [] [8,9] [] (.tuple #[ag (DFrac.mk ⟨n6,(Fr.rD (Fr.FrB j e m c∧Fr.FrB l i n d) ((Fr.fq j e c)+(Fr.fq l i d))),(G5 6).ss 0⟩ ⟨n7,(Fr.rE (Fr.FrB j e m c∧Fr.FrB l i n d) ((Fr.fq j e c)+(Fr.fq l i d))),(G5 6).ss 1⟩),iv n8]) (cong3 (fun (x0 x2 x4:Int)=>(.tuple #[.agg #[iv x0,((G5 6).ss 0).v,iv x2,((G5 6).ss 1).v],iv x4]:Value)) e0 e2 e4)
theorem fadd_ctv (e:Int) (a:List Int) (j:SV) (h:Int) (b:List Int) (k:SV) (f:Int) (c:List Int) (l:SV) (i:Int) (d:List Int) (m:SV) (haP:a.length≤17179869184) (haQ:b.length≤17179869184) (hbP:c.length≤17179869184) (hbQ:d.length≤17179869184) (rv0:Int) (erv0:rv0=Fr.rS (Fr.FrB e a h b∧Fr.FrB f c i d) ((Fr.fq e a b)+(Fr.fq f c d))) (rv1:List Int) (erv1:rv1=Fr.rD (Fr.FrB e a h b∧Fr.FrB f c i d) ((Fr.fq e a b)+(Fr.fq f c d))) (rv2:Int) (erv2:rv2=Fr.rT (Fr.FrB e a h b∧Fr.FrB f c i d)) (rv3:List Int) (erv3:rv3=Fr.rE (Fr.FrB e a h b∧Fr.FrB f c i d) ((Fr.fq e a b)+(Fr.fq f c d))) (rv4:Int) (erv4:rv4=if ¬ (Fr.FrB e a h b∧Fr.FrB f c i d) then (1:Int) else 0) :
    Ct Tryz.prog 46 #[ag (DFrac.mk ⟨e,a,j⟩ ⟨h,b,k⟩),ag (DFrac.mk ⟨f,c,l⟩ ⟨i,d,m⟩)] [fs true a j,fs true b k,fs true c l,fs true d m] [] (fun g=>.tuple #[ag (DFrac.mk ⟨rv0,rv1,(g.ss 0)⟩ ⟨rv2,rv3,(g.ss 1)⟩),iv rv4]) (fun g=>[fs true rv1 (g.ss 0),fs true rv3 (g.ss 1)]) (fun g=>[]) (fun g=>[]):=by
  subst erv0 erv1 erv2 erv3 erv4;exact fadd_ct e a j h b k f c l i d m haP haQ hbP hbQ
set_option maxRecDepth 10000 in
theorem fsub_ct (i:Int) (c:List Int) (q:SV) (m:Int) (d:List Int) (t:SV) (l:Int) (j:List Int) (u:SV) (n:Int) (e:List Int) (o:SV) (haP:c.length≤17179869184) (haQ:d.length≤17179869184) (hbP:j.length≤17179869184) (hbQ:e.length≤17179869184) :
    Ct Tryz.prog 42 #[ag (DFrac.mk ⟨i,c,q⟩ ⟨m,d,t⟩),ag (DFrac.mk ⟨l,j,u⟩ ⟨n,e,o⟩)] [fs true c q,fs true d t,fs true j u,fs true e o] [] (fun g=>.tuple #[ag (DFrac.mk ⟨(Fr.rS (Fr.FrB i c m d∧Fr.FrB l j n e) ((Fr.fq i c d)-(Fr.fq l j e))),Fr.rD (Fr.FrB i c m d∧Fr.FrB l j n e) ((Fr.fq i c d)-(Fr.fq l j e)),(g.ss 0)⟩ ⟨(Fr.rT (Fr.FrB i c m d∧Fr.FrB l j n e)),Fr.rE (Fr.FrB i c m d∧Fr.FrB l j n e) ((Fr.fq i c d)-(Fr.fq l j e)),(g.ss 1)⟩),iv (if ¬ (Fr.FrB i c m d∧Fr.FrB l j n e) then (1:Int) else 0)]) (fun g=>[fs true (Fr.rD (Fr.FrB i c m d∧Fr.FrB l j n e) ((Fr.fq i c d)-(Fr.fq l j e))) (g.ss 0),fs true (Fr.rE (Fr.FrB i c m d∧Fr.FrB l j n e) ((Fr.fq i c d)-(Fr.fq l j e))) (g.ss 1)]) (fun g=>[]) (fun g=>[]):=by
  refine V.fn mo Tryz.func42 25 3 (by kernel_rfl) fun w H ε k0=>?_;obtain ⟨⟨kl1, -⟩,⟨kl2, -⟩,⟨kl3, -⟩,⟨kl4, -⟩, -⟩:Lq c q.v∧Lq d t.v∧Lq j u.v∧Lq e o.v∧True:=kq k0
  clear k0;refine V.g [.nb 0 0 (fun b=>pp b 0) 29 (fun _=>ca (DFrac.mk ⟨i,c,q⟩ ⟨m,d,t⟩)),.nb 1 1 (fun b=>pp b 0) 29 (fun _=>ca (DFrac.mk ⟨l,j,u⟩ ⟨n,e,o⟩)),.nb 2 2 (fun b=>pp b 0) 29 (fun _=>ca (DFrac.mk ⟨0,[],{}⟩ ⟨0,[],{}⟩)),.k (iv 0)] fun _ _ G1=>?_;intro S s
  refine nm ((!(decide (Fr.FrB i c m d))) || (!(decide (Fr.FrB l j n e))):Bool) fun p1 hp1=>?_;refine V.g [.ld 0 0 true (fun _=>Dat.cells (DFrac.mk ⟨i,c,q⟩ ⟨m,d,t⟩)),.cp g0 1 36 [(kf false (.f 0) c (fun _=>q)).a,(kf false (.f 1) d (fun _=>t)).a] (fun _ G=>right_ct i c q m d t (by omega) (by omega)),.k (bv (!(decide (Fr.FrB i c m d)))),.k (bv (!(decide (Fr.FrB i c m d)))),.ld 1 0 true (fun _=>Dat.cells (DFrac.mk ⟨l,j,u⟩ ⟨n,e,o⟩)),.cp (gF (b:=!(decide (Fr.FrB i c m d))) (iNF iDT)) 5 36 [(kf false (.f 2) j (fun _=>u)).a,(kf false (.f 3) e (fun _=>o)).a] (fun hg G=>right_ct l j u n e o (by omega) (by omega)),.k (bv (!(decide (Fr.FrB l j n e)))),.orn g0 false (!(decide (Fr.FrB i c m d))) (!(decide (Fr.FrB l j n e))) p1 hp1] fun _ _ G2=>?_;intro S s
  refine V.cn (b:=p1) (iN hp1 (iOT (iNT iDF) (iNT iDF))) (iN hp1 (iOF (iNF iDT) (iNF iDT))) (fun q1=>?_) (fun q2=>?_)
  · have hNR:¬ (Fr.FrB i c m d∧Fr.FrB l j n e):=by rintro ⟨h1,h2⟩;rcases q1 with h | h;exact h h1;exact h h2
    refine V.g [.k (ag (DFrac.mk ⟨0,[],{}⟩ ⟨0,[],{}⟩)),.st 2 (fun _=>.blk ((G1 2).b) (ca (DFrac.mk ⟨0,[],{}⟩ ⟨0,[],{}⟩)) 29),.k (iv 1)] fun _ _ G3=>?_;intro S s
    refine V.nilF (α:=Int) ?_;refine V.nilF (α:=Int) ?_;have e1:([]:List Int)=Fr.rD (Fr.FrB i c m d∧Fr.FrB l j n e) ((Fr.fq i c d)-(Fr.fq l j e)):=(Fr.Fz.no hNR ((Fr.fq i c d)-(Fr.fq l j e))).2.1;rw [←e1];have e3:([]:List Int)=Fr.rE (Fr.FrB i c m d∧Fr.FrB l j n e) ((Fr.fq i c d)-(Fr.fq l j e)):=(Fr.Fz.no hNR ((Fr.fq i c d)-(Fr.fq l j e))).2.2.2;rw [←e3];have e0:(0:Int)=Fr.rS (Fr.FrB i c m d∧Fr.FrB l j n e) ((Fr.fq i c d)-(Fr.fq l j e)):=(Fr.Fz.no hNR ((Fr.fq i c d)-(Fr.fq l j e))).1;have e2:(0:Int)=Fr.rT (Fr.FrB i c m d∧Fr.FrB l j n e):=(Fr.Fz.no hNR ((Fr.fq i c d)-(Fr.fq l j e))).2.2.1;have e4:(1:Int)=if ¬ (Fr.FrB i c m d∧Fr.FrB l j n e) then (1:Int) else 0:=(if_pos hNR).symm
    exact V.rt [2,0] [{},{}] [fun _=>{},fun _=>{}] [] [4,5] [] (.tuple #[ag (DFrac.mk ⟨0,([]:List Int),{}⟩ ⟨0,([]:List Int),{}⟩),iv 1]) (cong3 (fun (x0 x2 x4:Int)=>(.tuple #[.agg #[iv x0,SV.v ({}),iv x2,SV.v ({})],iv x4]:Value)) e0 e2 e4)
  have hRR:Fr.FrB i c m d∧Fr.FrB l j n e:=by first | exact q2 | exact ⟨Decidable.not_not.1 (q2).1,Decidable.not_not.1 (q2).2⟩
  have fa:=Fr.FrB.z hRR.1;have fb:=Fr.FrB.z hRR.2;refine nm (Bg.oS (Bg.RtB l j) (-Bg.zv l j):Int) fun n1 hn1=>?_;refine nl (Bg.oD (Bg.RtB l j) (-Bg.zv l j)) fun l1 hl1 hl1n=>?_;refine nm (Fr.rS (Fr.FrB i c m d∧Fr.FrB n1 l1 n e) ((Fr.fq i c d)+(Fr.fq n1 l1 e)):Int) fun n2 hn2=>?_;refine nl (Fr.rD (Fr.FrB i c m d∧Fr.FrB n1 l1 n e) ((Fr.fq i c d)+(Fr.fq n1 l1 e))) fun l2 hl2 hl2n=>?_;refine nm (Fr.rT (Fr.FrB i c m d∧Fr.FrB n1 l1 n e):Int) fun n3 hn3=>?_;refine nl (Fr.rE (Fr.FrB i c m d∧Fr.FrB n1 l1 n e) ((Fr.fq i c d)+(Fr.fq n1 l1 e))) fun l3 hl3 hl3n=>?_;refine nm (if ¬ (Fr.FrB i c m d∧Fr.FrB n1 l1 n e) then (1:Int) else 0:Int) fun n4 hn4=>?_;have fn:=Fr.FrB.neg fb hn1 hl1
  have fnl:=(fb.p.neg hn1 hl1).2;have hRN:=And.intro hRR.1 fn.rt;have zf:=Fr.Fz.of hRN hn2 hl2 hn3 hl3;rw [fn.v] at zf;have hEr:n4=0:=by rw [hn4,if_neg (fun h=>h hRN)]
  have heq:=(Rat.sub_eq_add_neg (Fr.fq i c d) (Fr.fq l j e)).symm;refine V.r [.ld 0 0 true (fun _=>Dat.cells (DFrac.mk ⟨i,c,q⟩ ⟨m,d,t⟩)),.k (pp ((G1 1).b) 0),.ld 1 0 true (fun _=>Dat.cells (DBig.mk l ⟨j,u⟩)),.ct g0 3 84 false [] [] [(kf false (.f 2) j (fun _=>u)).a] (fun _ G=>neg_ctv l j u (by omega) n1 hn1 l1 hl1),.k (pp ((G1 1).b) 2),.ld 1 2 true (fun _=>Dat.cells (DBig.mk n ⟨e,o⟩)),.v fun G=>ag (DFrac.mk ⟨n1,l1,(G 3).ss 0⟩ ⟨n,e,o⟩),.ct g0 7 46 false [] [] [(kf false (.f 0) c (fun _=>q)).a,(kf false (.f 1) d (fun _=>t)).a,(kf true (.g 3 0) l1 (fun G=>(G 3).ss 0)).a,(kf false (.f 3) e (fun _=>o)).a] (fun _ G=>fadd_ctv i c q m d t n1 l1 ((G 3).ss 0) n e o (by omega) (by omega) (by omega) (by omega) n2 hn2 l2 hl2 n3 hn3 l3 hl3 n4 hn4),.v fun G=>ag (DFrac.mk ⟨n2,l2,(G 7).ss 0⟩ ⟨n3,l3,(G 7).ss 1⟩),.k (iv n4),.st 2 (fun G=>.blk ((G1 2).b) (ca (DFrac.mk ⟨n2,l2,(G 7).ss 0⟩ ⟨n3,l3,(G 7).ss 1⟩)) 29),.k (iv n4)] fun _ _ G4 kw4=>?_;intro S s
  obtain ⟨⟨kl5, -⟩,⟨kl6, -⟩,⟨kl7, -⟩, -⟩:Lq l1 (((G4 3).ss 0).v)∧Lq l2 (((G4 7).ss 0).v)∧Lq l3 (((G4 7).ss 1).v)∧True:=kq kw4;clear kw4;have e1:l2=Fr.rD (Fr.FrB i c m d∧Fr.FrB l j n e) ((Fr.fq i c d)-(Fr.fq l j e)):=(Fr.Fz.ret zf hRR (heq)).2.1;subst e1;have e3:l3=Fr.rE (Fr.FrB i c m d∧Fr.FrB l j n e) ((Fr.fq i c d)-(Fr.fq l j e)):=(Fr.Fz.ret zf hRR (heq)).2.2.2;subst e3;have e0:n2=Fr.rS (Fr.FrB i c m d∧Fr.FrB l j n e) ((Fr.fq i c d)-(Fr.fq l j e)):=(Fr.Fz.ret zf hRR (heq)).1;have e2:n3=Fr.rT (Fr.FrB i c m d∧Fr.FrB l j n e):=(Fr.Fz.ret zf hRR (heq)).2.2.1;have e4:n4=if ¬ (Fr.FrB i c m d∧Fr.FrB l j n e) then (1:Int) else 0:=by rw [if_neg (fun h=>h hRR)];exact hEr
  exact V.rt [2,0] [(G4 7).ss 0,(G4 7).ss 1] [fun _=>{},fun _=>{}] [] [5,6] [] (.tuple #[ag (DFrac.mk ⟨n2,(Fr.rD (Fr.FrB i c m d∧Fr.FrB l j n e) ((Fr.fq i c d)-(Fr.fq l j e))),(G4 7).ss 0⟩ ⟨n3,(Fr.rE (Fr.FrB i c m d∧Fr.FrB l j n e) ((Fr.fq i c d)-(Fr.fq l j e))),(G4 7).ss 1⟩),iv n4]) (cong3 (fun (x0 x2 x4:Int)=>(.tuple #[.agg #[iv x0,((G4 7).ss 0).v,iv x2,((G4 7).ss 1).v],iv x4]:Value)) e0 e2 e4)
theorem fsub_ctv (e:Int) (a:List Int) (j:SV) (h:Int) (b:List Int) (k:SV) (f:Int) (c:List Int) (l:SV) (i:Int) (d:List Int) (m:SV) (haP:a.length≤17179869184) (haQ:b.length≤17179869184) (hbP:c.length≤17179869184) (hbQ:d.length≤17179869184) (rv0:Int) (erv0:rv0=Fr.rS (Fr.FrB e a h b∧Fr.FrB f c i d) ((Fr.fq e a b) - (Fr.fq f c d))) (rv1:List Int) (erv1:rv1=Fr.rD (Fr.FrB e a h b∧Fr.FrB f c i d) ((Fr.fq e a b) - (Fr.fq f c d))) (rv2:Int) (erv2:rv2=Fr.rT (Fr.FrB e a h b∧Fr.FrB f c i d)) (rv3:List Int) (erv3:rv3=Fr.rE (Fr.FrB e a h b∧Fr.FrB f c i d) ((Fr.fq e a b) - (Fr.fq f c d))) (rv4:Int) (erv4:rv4=if ¬ (Fr.FrB e a h b∧Fr.FrB f c i d) then (1:Int) else 0) :
    Ct Tryz.prog 42 #[ag (DFrac.mk ⟨e,a,j⟩ ⟨h,b,k⟩),ag (DFrac.mk ⟨f,c,l⟩ ⟨i,d,m⟩)] [fs true a j,fs true b k,fs true c l,fs true d m] [] (fun g=>.tuple #[ag (DFrac.mk ⟨rv0,rv1,(g.ss 0)⟩ ⟨rv2,rv3,(g.ss 1)⟩),iv rv4]) (fun g=>[fs true rv1 (g.ss 0),fs true rv3 (g.ss 1)]) (fun g=>[]) (fun g=>[]):=by
  subst erv0 erv1 erv2 erv3 erv4;exact fsub_ct e a j h b k f c l i d m haP haQ hbP hbQ
set_option maxRecDepth 10000 in
theorem fcmp_ct (j:Int) (c:List Int) (o:SV) (m:Int) (d:List Int) (t:SV) (l:Int) (e:List Int) (u:SV) (n:Int) (i:List Int) (x:SV) (haP:c.length≤17179869184) (haQ:d.length≤17179869184) (hbP:e.length≤17179869184) (hbQ:i.length≤17179869184) :
    Cp Tryz.prog 79 #[ag (DFrac.mk ⟨j,c,o⟩ ⟨m,d,t⟩),ag (DFrac.mk ⟨l,e,u⟩ ⟨n,i,x⟩)] [fs true c o,fs true d t,fs true e u,fs true i x] (iv (if Fr.FrB j c m d∧Fr.FrB l e n i then Fr.cmpQ (Fr.fq j c d) (Fr.fq l e i) else 0)):=by
  refine V.fn mo Tryz.func79 24 2 (by kernel_rfl) fun w H ε k0=>?_;obtain ⟨⟨kl1, -⟩,⟨kl2, -⟩,⟨kl3, -⟩,⟨kl4, -⟩, -⟩:Lq c o.v∧Lq d t.v∧Lq e u.v∧Lq i x.v∧True:=kq k0
  clear k0;refine V.g [.nb 0 0 (fun b=>pp b 0) 29 (fun _=>ca (DFrac.mk ⟨j,c,o⟩ ⟨m,d,t⟩)),.nb 1 1 (fun b=>pp b 0) 29 (fun _=>ca (DFrac.mk ⟨l,e,u⟩ ⟨n,i,x⟩)),.k (iv 0)] fun _ _ G1=>?_;intro S s
  refine nm ((!(decide (Fr.FrB j c m d))) || (!(decide (Fr.FrB l e n i))):Bool) fun p1 hp1=>?_;refine V.g [.ld 0 0 true (fun _=>Dat.cells (DFrac.mk ⟨j,c,o⟩ ⟨m,d,t⟩)),.cp g0 1 36 [(kf false (.f 0) c (fun _=>o)).a,(kf false (.f 1) d (fun _=>t)).a] (fun _ G=>right_ct j c o m d t (by omega) (by omega)),.k (bv (!(decide (Fr.FrB j c m d)))),.k (bv (!(decide (Fr.FrB j c m d)))),.ld 1 0 true (fun _=>Dat.cells (DFrac.mk ⟨l,e,u⟩ ⟨n,i,x⟩)),.cp (gF (b:=!(decide (Fr.FrB j c m d))) (iNF iDT)) 5 36 [(kf false (.f 2) e (fun _=>u)).a,(kf false (.f 3) i (fun _=>x)).a] (fun hg G=>right_ct l e u n i x (by omega) (by omega)),.k (bv (!(decide (Fr.FrB l e n i)))),.orn g0 false (!(decide (Fr.FrB j c m d))) (!(decide (Fr.FrB l e n i))) p1 hp1] fun _ _ G2=>?_;intro S s
  refine V.cn (b:=p1) (iN hp1 (iOT (iNT iDF) (iNT iDF))) (iN hp1 (iOF (iNF iDT) (iNF iDT))) (fun q1=>?_) (fun q2=>?_)
  · have hNR:¬ (Fr.FrB j c m d∧Fr.FrB l e n i):=by rintro ⟨h1,h2⟩;rcases q1 with h | h;exact h h1;exact h h2
    refine V.g [.k (iv 0)] fun _ _ G3=>?_;intro S s
    have e0:(0:Int)=if Fr.FrB j c m d∧Fr.FrB l e n i then Fr.cmpQ (Fr.fq j c d) (Fr.fq l e i) else 0:=(if_neg hNR).symm
    exact V.rt [0] [] [] [] [] [] (iv 0) (cong1 (fun (x0:Int)=>(iv x0:Value)) e0)
  have hRR:Fr.FrB j c m d∧Fr.FrB l e n i:=by first | exact q2 | exact ⟨Decidable.not_not.1 (q2).1,Decidable.not_not.1 (q2).2⟩
  have fa:=Fr.FrB.z hRR.1;have fb:=Fr.FrB.z hRR.2;refine nm (Bg.oS (Bg.RtB j c∧Bg.RtB n i) (Bg.zv j c * Bg.zv n i):Int) fun n1 hn1=>?_;refine nl (Bg.oD (Bg.RtB j c∧Bg.RtB n i) (Bg.zv j c * Bg.zv n i)) fun l1 hl1 hl1n=>?_;refine nm (Bg.oS (Bg.RtB l e∧Bg.RtB m d) (Bg.zv l e * Bg.zv m d):Int) fun n2 hn2=>?_;refine nl (Bg.oD (Bg.RtB l e∧Bg.RtB m d) (Bg.zv l e * Bg.zv m d)) fun l2 hl2 hl2n=>?_;refine nm (if (Bg.RtB n1 l1∧Bg.RtB n2 l2) then Bg.cmpI (Bg.zv n1 l1) (Bg.zv n2 l2) else 0:Int) fun n3 hn3=>?_;obtain ⟨z4,z4l⟩:=Fr.Bz.mul fa.p fb.q hn1 hl1
  obtain ⟨z9,z9l⟩:=Fr.Bz.mul fb.p fa.q hn2 hl2;refine V.r [.k (pp ((G1 0).b) 0),.ld 0 0 true (fun _=>Dat.cells (DBig.mk j ⟨c,o⟩)),.k (pp ((G1 1).b) 2),.ld 1 2 true (fun _=>Dat.cells (DBig.mk n ⟨i,x⟩)),.ct g0 4 87 false [] [] [(kf false (.f 0) c (fun _=>o)).a,(kf false (.f 3) i (fun _=>x)).a] (fun _ G=>times_ctv j c o n i x (by omega) (by omega) n1 hn1 l1 hl1),.k (pp ((G1 1).b) 0),.ld 1 0 true (fun _=>Dat.cells (DBig.mk l ⟨e,u⟩)),.k (pp ((G1 0).b) 2),.ld 0 2 true (fun _=>Dat.cells (DBig.mk m ⟨d,t⟩)),.ct g0 9 87 false [] [] [(kf false (.f 2) e (fun _=>u)).a,(kf false (.f 1) d (fun _=>t)).a] (fun _ G=>times_ctv l e u m d t (by omega) (by omega) n2 hn2 l2 hl2),.cp g0 10 117 [(kf true (.g 4 0) l1 (fun G=>(G 4).ss 0)).a,(kf true (.g 9 0) l2 (fun G=>(G 9).ss 0)).a] (fun _ G=>Cmp_ctv n1 l1 ((G 4).ss 0) n2 l2 ((G 9).ss 0) n3 hn3),.k (iv n3)] fun _ _ G4 kw4=>?_;intro S s;obtain ⟨⟨kl5, -⟩,⟨kl6, -⟩, -⟩:Lq l1 (((G4 4).ss 0).v)∧Lq l2 (((G4 9).ss 0).v)∧True:=kq kw4;clear kw4;have e0:n3=if Fr.FrB j c m d∧Fr.FrB l e n i then Fr.cmpQ (Fr.fq j c d) (Fr.fq l e i) else 0:=by rw [if_pos hRR,hn3,if_pos ⟨z4.rt,z9.rt⟩,z4.v,z9.v];exact Fr.cmpQ_is _ _
  exact V.rt [0] [] [] [] [] [] (iv n3) (cong1 (fun (x0:Int)=>(iv x0:Value)) e0)
theorem fcmp_ctv (e:Int) (a:List Int) (g:SV) (h:Int) (b:List Int) (i:SV) (f:Int) (c:List Int) (j:SV) (k:Int) (d:List Int) (l:SV) (haP:a.length≤17179869184) (haQ:b.length≤17179869184) (hbP:c.length≤17179869184) (hbQ:d.length≤17179869184) (rv0:Int) (erv0:rv0=if Fr.FrB e a h b∧Fr.FrB f c k d then Fr.cmpQ (Fr.fq e a b) (Fr.fq f c d) else 0) :
    Cp Tryz.prog 79 #[ag (DFrac.mk ⟨e,a,g⟩ ⟨h,b,i⟩),ag (DFrac.mk ⟨f,c,j⟩ ⟨k,d,l⟩)] [fs true a g,fs true b i,fs true c j,fs true d l] (iv rv0):=by
  subst erv0;exact fcmp_ct e a g h b i f c j k d l haP haQ hbP hbQ

open Go
namespace Un
open Fr Bg
def bas (n:Nat):List Int:=[0,0,0,0,0,0].set n 1
def addS (d:List Int) (x:Nat × Int):List Int:=addD d (bas x.1) x.2
end Un

open Go
namespace Un
open Fr Bg
theorem acc_pos:∀ (l:List Ditem) (u v:U),0 < u.2→acc l u=some v→0 < v.2
  | [],u,v,h,k=>by obtain rfl:=Option.some.inj k;exact h
  | x :: l,u,v,h,k=>by
    unfold acc at k
    split at k
    · rename_i hw
      exact acc_pos l _ v (tm_pos h (word_ok (some_of hw)).2.2.1 _) k
    · cases k
theorem acc_hb:∀ (l:List Ditem) (u v:U) (i:Nat),(∀ x ∈ l,itOk x)→Hb u.2 i→acc l u=some v→Hb v.2 (i+36 * l.length)
  | [],u,v,i,_,h,k=>by obtain rfl:=Option.some.inj k;exact h
  | x :: l,u,v,i,hx,h,k=>by
    unfold acc at k
    split at k
    · rename_i hw
      have h1:=tm_hb h (word_ok (some_of hw)).2.2.2 (hx x List.mem_cons_self).2
      have h2:=acc_hb l _ v _ (fun y hy=>hx y (List.mem_cons_of_mem _ hy)) h1 k
      refine h2.mono ?_
      rw [List.length_cons];omega
    · cases k
structure Rd (s:ByteArray) (l:List Ditem) (d:List Int) (r:Rat):Prop extends RdIs s l d r where
  rd:read s=(some (d,r),0)
  pos:0 < r
  hb:Hb r 1477
theorem rd_of {s:ByteArray} (h:(read s).2=0):∃ l d r,Rd s l d r:=by
  obtain ⟨l,d,r,h1,h2⟩:=read_is h
  have ho:=items_ok h1.it
  refine ⟨l,d,r,h1,h2,acc_pos l _ _ (by decide) h1.ac,(acc_hb l _ _ 1 ho.2 (by decide +kernel) h1.ac).mono ?_⟩
  have:=ho.1
  omega
end Un

open Go
namespace Tb
open Fr Bg
theorem spL_at:∀ {l:List UInt8} {n:Nat},n≤l.length→(∀ j,j < n→inn ((l.getD j default).toNat:Int))→(n=l.length∨¬ inn ((l.getD n default).toNat:Int))→spL l=n
  | [],n,hn,_,_=>by simp at hn;subst hn;rfl
  | c :: l,0,_,_,h=>by
    rcases h with h | h
    · simp at h
    · unfold spL;rw [if_neg (by simpa using h)]
  | c :: l,n+1,hn,hj,h=>by
    unfold spL
    rw [if_pos (by simpa using hj 0 (by omega)),spL_at (by simpa using hn) (fun j hj'=>by have:=hj (j+1) (by omega);simpa using this) (by simpa using h)]
theorem spn_at {s:ByteArray} {n:Nat} (hn:n≤s.size) (hj:∀ j,j < n→inn (((bl s).getD j default).toNat:Int)) (h:n=s.size∨¬ inn (((bl s).getD n default).toNat:Int)):spn s=n :=
  spL_at (by rw [bl_len];exact hn) hj (by rw [bl_len];exact h)
theorem RtT.so {nm un:ByteArray} {l:List DRow} (h:RtT nm un l):So l:=by
  refine ⟨?_,by have:=h.1.2;omega,fun i hi=>(h.2 i hi).1⟩
  intro a b hab hb
  induction b with
  | zero=>omega
  | succ b ih =>
    have h1:=(h.2 (b+1) hb).2 (by omega)
    rw [Nat.add_sub_cancel] at h1
    by_cases e:a=b
    · subst e;exact h1
    · exact Int.lt_trans (ih (by omega) (by omega)) h1
theorem uf_hb {un:ByteArray} (h:(Un.read un).2=0):Hb (uf un) 1477∧0 < uf un:=by
  obtain ⟨l,d,r,h1⟩:=Un.rd_of h
  have e:uf un=r:=by unfold uf;rw [h1.rd];rfl
  rw [e];exact ⟨h1.hb,h1.pos⟩
theorem worth_hb {un:ByteArray} (h:(Un.read un).2=0) {n:Int} (hn: -9223372036854775808≤n∧n≤9223372036854775807):Hb ((n:Rat) * uf un) 1481:=((Hb.int hn).mul (uf_hb h).1).mono (by omega)
theorem cmpQ_zero {a b:Rat}:cmpQ a b=0↔a=b:=by
  unfold cmpQ
  by_cases h:a < b
  · rw [if_pos h];exact ⟨fun k=>by omega,fun k=>by subst k;exact (Rat.lt_irrefl h).elim⟩
  · rw [if_neg h]
    by_cases e:a=b
    · rw [if_pos e];exact ⟨fun _=>e,fun _=>rfl⟩
    · rw [if_neg e];exact ⟨fun k=>by omega,fun k=>(e k).elim⟩
theorem cmp_le {a b:Rat}:cmpQ a b≤0↔a≤b:=by
  unfold cmpQ
  by_cases h:a < b
  · rw [if_pos h];exact ⟨fun _=>Rat.le_of_lt h,fun _=>by decide⟩
  · rw [if_neg h]
    by_cases e:a=b
    · rw [if_pos e];exact ⟨fun _=>by rw [e];exact Rat.le_refl,fun _=>by decide⟩
    · rw [if_neg e]
      refine ⟨fun k=>by omega,fun k=>?_⟩
      exact absurd (Rat.lt_of_le_of_ne k e) h
theorem aft_at:∀ {l:List DRow} {q:Rat} {i:Nat},i≤l.length→(∀ k,k < i→(ky l k:Rat)≤q)→(i=l.length∨q < (ky l i:Rat))→aft l q=i
  | [],q,i,hi,_,_=>by simp at hi;subst hi;rfl
  | r :: l,q,0,_,_,h=>by
    rcases h with h | h
    · simp at h
    · unfold aft;rw [if_neg (show ¬ (r.Key:Rat)≤q from Rat.not_le.2 h)]
  | r :: l,q,i+1,hi,hk,h=>by
    unfold aft
    have h0:(r.Key:Rat)≤q:=hk 0 (by omega)
    rw [if_pos h0,aft_at (l:=l) (i:=i) (by simpa using hi) (fun k hk'=>hk (k+1) (by omega)) ?_]
    rcases h with h | h
    · left;simpa using h
    · right;exact h
theorem aft_le:∀ (l:List DRow) (q:Rat),aft l q≤l.length
  | [],_=>Nat.le_refl _
  | r :: l,q=>by unfold aft;have:=aft_le l q;split <;> simp <;> omega
theorem aft_lo:∀ {l:List DRow} {q:Rat} {k:Nat},k < aft l q→(ky l k:Rat)≤q
  | [],q,k,h=>by unfold aft at h;omega
  | r :: l,q,k,h=>by
    unfold aft at h
    split at h
    · rename_i hr
      cases k with
      | zero=>exact hr
      | succ k=>exact aft_lo (l:=l) (by omega)
    · omega
theorem So.lo {l:List DRow} (h:So l) {a b:Nat} {q:Rat} (hab:a≤b) (hb:b < l.length) (hq:(ky l b:Rat)≤q):(ky l a:Rat)≤q:=Rat.le_trans (h.le hab hb) hq
theorem lin_no {un:ByteArray} {l:List DRow} {q:Rat} (h:aft l q=0∨(¬(0 < aft l q∧(ky l (aft l q - 1):Rat)=q)∧aft l q=l.length)):lin un l q=none:=by
  unfold lin
  rcases h with h | ⟨h1,h2⟩
  · rw [if_pos h]
  · by_cases h0:aft l q=0
    · rw [if_pos h0]
    · rw [if_neg h0,if_neg fun e=>h1 ⟨by omega,e⟩,if_pos h2]
def sumR (a b:Int):List DRow→Int
  | []=>0
  | r :: l=>(if a≤r.Key∧r.Key≤b then r.Value else 0)+sumR a b l
theorem sumR_app (a b:Int):∀ (l m:List DRow),sumR a b (l ++m)=sumR a b l+sumR a b m
  | [],m=>by simp [sumR]
  | r :: l,m=>by
    rw [List.cons_append]
    show (if a≤r.Key∧r.Key≤b then r.Value else 0)+sumR a b (l ++m)=((if a≤r.Key∧r.Key≤b then r.Value else 0)+sumR a b l)+sumR a b m
    rw [sumR_app a b l m,Int.add_assoc]
theorem take_get {l:List DRow} {k:Nat} (h:k < l.length):l.take (k+1)=l.take k ++[l.getD k default]:=by
  rw [List.take_succ_eq_append_getElem h]
  congr 2
  rw [List.getD_eq_getElem?_getD,List.getElem?_eq_getElem h];rfl
theorem sumR_step {a b:Int} {l:List DRow} {k:Nat} (h:k < l.length):sumR a b (l.take (k+1))=sumR a b (l.take k)+(if a≤ky l k∧ky l k≤b then vl l k else 0):=by
  rw [take_get h,sumR_app]
  have e:sumR a b [l.getD k default]=(if a≤ky l k∧ky l k≤b then vl l k else 0)+0:=rfl
  rw [e,Int.add_zero]
end Tb

open Go
namespace Tb
open Fr Bg
def et:ByteArray:=⟨#[116]⟩
theorem exR:RtT et ek ex:=by decide +kernel
theorem looks1:looksP 0 10000:=by decide +kernel
theorem looks2:looksP 9 10000:=by decide +kernel
theorem looks3:looksP 10 30000:=by decide +kernel
theorem looks4:looksP 1000 20000:=by decide +kernel
theorem lines1:linesP 5 20000:=by decide +kernel
theorem lines2:linesP 15 25000:=by decide +kernel
theorem lines3:linesP 20 20000:=by decide +kernel
theorem no1:aft ex ((-1:Int):Rat)=0:=by decide +kernel
theorem no2:lin ek ex ((21:Int):Rat)=none:=by decide +kernel
theorem sm1:((sumR 0 10 ex:Int):Rat) * uf ek=((40000:Int):Rat):=by decide +kernel
theorem sm2:((sumR 1 9 ex:Int):Rat) * uf ek=((0:Int):Rat):=by decide +kernel
theorem bad:¬ RtT et ⟨#[63]⟩ ([]:List DRow):=by decide +kernel
end Tb

open Go
namespace Bg
open Fr
theorem or_pos {x y:Int} (hx: -1≤x∧x≤1) (hy: -1≤y∧y≤1) (h:x=0∨y=0∨x=y):0≤x * y:=by
  have cx:x= -1∨x=0∨x=1:=by omega
  have cy:y= -1∨y=0∨y=1:=by omega
  rcases cx with rfl | rfl | rfl <;> rcases cy with rfl | rfl | rfl <;> omega
theorem or_neg {x y:Int} (hx: -1≤x∧x≤1) (hy: -1≤y∧y≤1) (h1:¬ x=0) (h2:¬ y=0) (h3:¬ x=y):¬ 0≤x * y:=by
  have cx:x= -1∨x=0∨x=1:=by omega
  have cy:y= -1∨y=0∨y=1:=by omega
  rcases cx with rfl | rfl | rfl <;> rcases cy with rfl | rfl | rfl <;> omega
theorem plus_len {a b:List Int} (ha:Dg a) (hb:Dg b):(dig (nv a+nv b)).length≤a.length+b.length+1:=by
  have h1:=nv_lt ha;have h2:=nv_lt hb
  refine dig_lt ?_
  have e1:(1048576:Nat) ^ a.length≤1048576 ^ (a.length+b.length):=Nat.pow_le_pow_right (by decide) (by omega)
  have e2:(1048576:Nat) ^ b.length≤1048576 ^ (a.length+b.length):=Nat.pow_le_pow_right (by decide) (by omega)
  rw [Nat.pow_succ];omega
section
variable {s t : Int} {l m : List Int}
theorem sub_is {u:Int} {n:List Int} (z:Fr.Bz u n (-zv t m)) {c e:Int} {d:List Int} (h1:c=oS (RtB s l∧RtB u n) (zv s l+zv u n)) (h2:d=oD (RtB s l∧RtB u n) (zv s l+zv u n)) (h3:e=if RtB s l∧RtB u n then (0:Int) else 1) (hB:RtB t m:=by assumption) :
    c=oS (RtB s l∧RtB t m) (zv s l - zv t m)∧d=oD (RtB s l∧RtB t m) (zv s l - zv t m)∧e=if RtB s l∧RtB t m then (0:Int) else 1:=by
  rw [z.v,← Int.sub_eq_add_neg] at h1 h2
  by_cases h:RtB s l
  · rw [oS_y ⟨h,z.rt⟩] at h1
    rw [oD_y ⟨h,z.rt⟩] at h2
    rw [if_pos ⟨h,z.rt⟩] at h3
    rw [oS_y ⟨h,hB⟩,oD_y ⟨h,hB⟩,if_pos ⟨h,hB⟩];exact ⟨h1,h2,h3⟩
  · rw [oS_n fun k=>h k.1] at h1
    rw [oD_n fun k=>h k.1] at h2
    rw [if_neg fun k=>h k.1] at h3
    rw [oS_n fun k=>h k.1,oD_n fun k=>h k.1,if_neg fun k=>h k.1];exact ⟨h1,h2,h3⟩
end
end Bg
namespace Fr
open Bg
variable {s t u : Int} {l m n : List Int} {x y : Int}
theorem Bz.sub (a:Bz s l x) (b:Bz t m y) (hs:u=oS (RtB s l∧RtB t m) (zv s l - zv t m)) (hl:n=oD (RtB s l∧RtB t m) (zv s l - zv t m)):Bz u n (x - y)∧n.length≤l.length+m.length+1:=by
  have h:=Bz.of ⟨a.rt,b.rt⟩ hs hl
  rw [a.v,b.v] at h
  refine ⟨h,h.len ?_⟩
  have h1:=Nat.lt_of_lt_of_le a.lt (Nat.pow_le_pow_right (n:=1048576) (by omega) (Nat.le_add_right l.length m.length))
  have h2:=Nat.lt_of_lt_of_le b.lt (Nat.pow_le_pow_right (n:=1048576) (by omega) (Nat.le_add_left m.length l.length))
  rw [Nat.pow_succ]
  have:=Int.natAbs_sub_le x y
  omega
theorem sub_isQ (a b:Rat):Rat.divInt (a.num * b.den - b.num * a.den) (a.den * b.den)=a - b:=by
  have h:=add_is a (-b)
  rw [Rat.neg_num,Rat.neg_den,Int.neg_mul,← Int.sub_eq_add_neg] at h
  rw [h,Rat.sub_eq_add_neg]
end Fr

open Go
section
variable {P : Program} {w : World} {T : TypeId}
theorem ors_run {x y n:Int} (hx: -1≤x∧x≤1) (hy: -1≤y∧y≤1) (h:x=0∨y=0∨x=y) (hn:n=if x=0 then y else x):(binOp .or T (.int .i64 x) (.int .i64 y)).run P w=.ok (.int .i64 n) w:=by
  have e:(binOp .or T (.int .i64 x) (.int .i64 y)).run P w=.ok (.int .i64 (IntKind.i64.wrap ((BitVec.ofInt 64 x ||| BitVec.ofInt 64 y).toNat:Int))) w:=rfl
  rw [e]
  congr 2
  have cx:x= -1∨x=0∨x=1:=by omega
  have cy:y= -1∨y=0∨y=1:=by omega
  rcases cx with rfl | rfl | rfl <;> rcases cy with rfl | rfl | rfl <;> first | (subst hn;decide +kernel) | (exfalso;omega)
end
namespace Hint
variable {P : Program}
def ors {g:Prop} (Γ:GdI g) (x y n:Int) (hn:n=if x=0 then y else x) (h:g→(-1≤x∧x≤1)∧(-1≤y∧y≤1)∧(x=0∨y=0∨x=y)):Hint P:=bin Γ .or (.int .i64 x) (.int .i64 y) (.int .i64 n) fun hg _ _=>by
  obtain ⟨h1,h2,h3⟩:=h hg
  exact ors_run h1 h2 h3 hn
end Hint

open Go Go.Proofs
set_option maxRecDepth 10000 in
theorem r4add_ct (c:Int) (d:List Int) (j:SV) (e:Int) (i:List Int) (l:SV) (hla:d.length≤17179869184) (hlb:i.length≤17179869184) :
    Ct Tryz.prog 92 #[ag (DBig.mk c ⟨d,j⟩),ag (DBig.mk e ⟨i,l⟩)] [fs true d j,fs true i l] [] (fun g=>.tuple #[ag (DBig.mk (Bg.oS (Bg.RtB c d∧Bg.RtB e i) (Bg.zv c d+Bg.zv e i)) ⟨Bg.oD (Bg.RtB c d∧Bg.RtB e i) (Bg.zv c d+Bg.zv e i),(g.ss 0)⟩),iv (if (Bg.RtB c d∧Bg.RtB e i) then (0:Int) else 1)]) (fun g=>[fs true (Bg.oD (Bg.RtB c d∧Bg.RtB e i) (Bg.zv c d+Bg.zv e i)) (g.ss 0)]) (fun g=>[]) (fun g=>[]):=by
  refine V.fn mo Tryz.func92 62 3 (by kernel_rfl) fun w H ε k0=>?_;obtain ⟨⟨kl1, -⟩,⟨kl2, -⟩, -⟩:Lq d j.v∧Lq i l.v∧True:=kq k0
  clear k0;refine V.g [.nb 0 0 (fun b=>pp b 0) 27 (fun _=>ca (DBig.mk c ⟨d,j⟩)),.nb 1 1 (fun b=>pp b 0) 27 (fun _=>ca (DBig.mk e ⟨i,l⟩)),.nb 2 2 (fun b=>pp b 0) 27 (fun _=>ca (DBig.mk 0 ⟨[],{}⟩)),.k (iv 0)] fun _ _ G1=>?_;intro S s
  refine nm ((!(decide (Bg.RtB c d))) || (!(decide (Bg.RtB e i))):Bool) fun p1 hp1=>?_;refine V.g [.ld 0 0 true (fun _=>Dat.cells (DBig.mk c ⟨d,j⟩)),.cp g0 1 80 [(kf false (.f 0) d (fun _=>j)).a] (fun _ G=>r4right_ct c d j),.k (bv (!(decide (Bg.RtB c d)))),.k (bv (!(decide (Bg.RtB c d)))),.ld 1 0 true (fun _=>Dat.cells (DBig.mk e ⟨i,l⟩)),.cp (gF (b:=!(decide (Bg.RtB c d))) (iNF iDT)) 5 80 [(kf false (.f 1) i (fun _=>l)).a] (fun hg G=>r4right_ct e i l),.k (bv (!(decide (Bg.RtB e i)))),.orn g0 false (!(decide (Bg.RtB c d))) (!(decide (Bg.RtB e i))) p1 hp1] fun _ _ G2=>?_;intro S s
  refine V.cn (b:=p1) (iN hp1 (iOT (iNT iDF) (iNT iDF))) (iN hp1 (iOF (iNF iDT) (iNF iDT))) (fun q1=>?_) (fun q2=>?_)
  · have hNR:¬ (Bg.RtB c d∧Bg.RtB e i):=by rintro ⟨h1,h2⟩;rcases q1 with h | h;exact h h1;exact h h2
    refine V.g [.k (ag (DBig.mk 0 ⟨[],{}⟩)),.st 2 (fun _=>.blk ((G1 2).b) (ca (DBig.mk 0 ⟨[],{}⟩)) 27),.k (iv 1)] fun _ _ G3=>?_;intro S s
    refine V.nilF (α:=Int) ?_;have e1:([]:List Int)=Bg.oD (Bg.RtB c d∧Bg.RtB e i) (Bg.zv c d+Bg.zv e i):=(Bg.oD_n hNR _).symm;rw [←e1];have e0:(0:Int)=Bg.oS (Bg.RtB c d∧Bg.RtB e i) (Bg.zv c d+Bg.zv e i):=(Bg.oS_n hNR _).symm;have e2:(1:Int)=if (Bg.RtB c d∧Bg.RtB e i) then (0:Int) else 1:=(if_neg hNR).symm
    exact V.rt [2,0] [{}] [fun _=>{}] [] [2] [] (.tuple #[ag (DBig.mk 0 ⟨([]:List Int),{}⟩),iv 1]) (cong2 (fun (x0 x2:Int)=>(.tuple #[.agg #[iv x0,SV.v ({})],iv x2]:Value)) e0 e2)
  have hRR:(Bg.RtB c d∧Bg.RtB e i):=by first | exact q2 | exact ⟨Decidable.not_not.1 (q2).1,Decidable.not_not.1 (q2).2⟩
  have hsm:=Bg.sml hRR.1 hRR.2;have hsA:=Bg.sg_le hRR.1;have hsB:=Bg.sg_le hRR.2;have cA:c= -1∨c=0∨c=1:=by omega
  have cB:e= -1∨e=0∨e=1:=by omega
  refine nm ((decide (c=0)) || (decide (e=0)):Bool) fun p2 hp2=>?_;refine V.g [.k (pp ((G1 0).b) 0),.ld 0 0 false (fun _=>[iv c]),.k (bv (decide (c=0))),.k (bv (decide (c=0))),.k (pp ((G1 1).b) 0),.ld 1 0 false (fun _=>[iv e]),.k (bv (decide (e=0))),.orn g0 false (decide (c=0)) (decide (e=0)) p2 hp2,.k (bv p2),.k (pp ((G1 0).b) 0),.ld 0 0 false (fun _=>[iv c]),.k (pp ((G1 1).b) 0),.ld 1 0 false (fun _=>[iv e]),.k (bv (decide (c=e))),.or g0 false p2 (decide (c=e))] fun _ _ G4=>?_;intro S s
  refine V.cn (b:=p2 || (decide (c=e))) (iOT (iN hp2 (iOT iDT iDT)) iDT) (iOF (iN hp2 (iOF iDF iDF)) iDF) (fun q3=>?_) (fun q4=>?_)
  · have hqq:=q3;have hor:c=0∨e=0∨c=e:=by omega
    have hss:0≤c * e:=Bg.or_pos hsA hsB hor;refine nm (if c=0 then e else c:Int) fun n1 hn1=>?_;refine nl (Bg.dig (Bg.nv d+Bg.nv i)) fun l1 hl1 hl1n=>?_;refine nm (Bg.sg0 (Bg.nv l1) n1:Int) fun n2 hn2=>?_;refine nl (Bg.dig (Bg.nv l1)) fun l2 hl2 hl2n=>?_;have hplen:=Bg.plus_len hRR.1.dg hRR.2.dg
    refine V.r [.k (pp ((G1 0).b) 0),.ld 0 0 false (fun _=>[iv c]),.k (pp ((G1 1).b) 0),.ld 1 0 false (fun _=>[iv e]),.ors g0 c e n1 hn1 (fun _=>⟨hsA,hsB,hor⟩),.k (pp ((G1 0).b) 1),.ld 0 1 false (fun _=>[j.v]),.k (pp ((G1 1).b) 1),.ld 1 1 false (fun _=>[l.v]),.ct g0 9 131 false [] [] [(kf false (.f 0) d (fun _=>j)).a,(kf false (.f 1) i (fun _=>l)).a] (fun _ G=>r4plus_ctv d j i l hRR.1.dg hRR.2.dg (by omega) (by omega) l1 hl1),.ct g0 10 119 false [] [] [(kf true (.g 9 0) l1 (fun G=>(G 9).ss 0)).a] (fun _ G=>r4made_ctv n1 l1 ((G 9).ss 0) (by subst_vars;exact Bg.dig_Dg _) (by omega) n2 hn2 l2 hl2),.st 2 (fun G=>.blk ((G1 2).b) (ca (DBig.mk n2 ⟨l2,(G 10).ss 0⟩)) 27),.k (iv 0)] fun _ _ G5 kw5=>?_;intro S s
    obtain ⟨⟨kl3, -⟩,⟨kl4, -⟩, -⟩:Lq l1 (((G5 9).ss 0).v)∧Lq l2 (((G5 10).ss 0).v)∧True:=kq kw5;clear kw5;have e1:l2=Bg.oD (Bg.RtB c d∧Bg.RtB e i) (Bg.zv c d+Bg.zv e i):=by
      rw [hl2,hl1];rw [Bg.oD_y hRR];exact Bg.addD hRR.1 hRR.2 hss
    subst e1;have e0:n2=Bg.oS (Bg.RtB c d∧Bg.RtB e i) (Bg.zv c d+Bg.zv e i):=by subst_vars;rw [Bg.oS_y hRR,← Bg.addS hRR.1 hRR.2 hss,Bg.or2];rfl
    have e2:(0:Int)=if (Bg.RtB c d∧Bg.RtB e i) then (0:Int) else 1:=(if_pos hRR).symm
    exact V.rt [2,0] [(G5 10).ss 0] [fun _=>{}] [] [3] [] (.tuple #[ag (DBig.mk n2 ⟨(Bg.oD (Bg.RtB c d∧Bg.RtB e i) (Bg.zv c d+Bg.zv e i)),(G5 10).ss 0⟩),iv 0]) (cong2 (fun (x0 x2:Int)=>(.tuple #[.agg #[iv x0,((G5 10).ss 0).v],iv x2]:Value)) e0 e2)
  have hqq:=q4;have hss:¬ 0≤c * e:=Bg.or_neg hsA hsB (by omega) (by omega) (by omega);refine V.g [.k (pp ((G1 0).b) 1),.ld 0 1 false (fun _=>[j.v]),.k (pp ((G1 1).b) 1),.ld 1 1 false (fun _=>[l.v]),.cp g0 4 121 [(kf false (.f 0) d (fun _=>j)).a,(kf false (.f 1) i (fun _=>l)).a] (fun _ G=>r4less_ct d j i l hRR.1.dg hRR.2.dg)] fun _ _ G6=>?_;intro S s
  refine V.cn (b:=decide (Bg.nv d < Bg.nv i)) iDT iDF (fun q5=>?_) (fun q6=>?_)
  · have hlt:Bg.nv d < Bg.nv i:=q5;refine nl (Bg.dig (Bg.nv i-Bg.nv d)) fun l3 hl3 hl3n=>?_;refine nm (Bg.sg0 (Bg.nv l3) e:Int) fun n3 hn3=>?_;refine nl (Bg.dig (Bg.nv l3)) fun l4 hl4 hl4n=>?_;have hmlen:=Bg.dig_len_mono' (Nat.sub_le (Bg.nv i) (Bg.nv d));have hmlen2:=Bg.dig_le hRR.2.dg
    refine V.r [.k (pp ((G1 1).b) 0),.ld 1 0 false (fun _=>[iv e]),.k (pp ((G1 1).b) 1),.ld 1 1 false (fun _=>[l.v]),.k (pp ((G1 0).b) 1),.ld 0 1 false (fun _=>[j.v]),.ct g0 6 132 false [] [] [(kf false (.f 1) i (fun _=>l)).a,(kf false (.f 0) d (fun _=>j)).a] (fun _ G=>r4minus_ctv i l d j hRR.2.dg hRR.1.dg (by omega) (Nat.le_of_lt hlt) l3 hl3),.ct g0 7 119 false [] [] [(kf true (.g 6 0) l3 (fun G=>(G 6).ss 0)).a] (fun _ G=>r4made_ctv e l3 ((G 6).ss 0) (by subst_vars;exact Bg.dig_Dg _) (by omega) n3 hn3 l4 hl4),.st 2 (fun G=>.blk ((G1 2).b) (ca (DBig.mk n3 ⟨l4,(G 7).ss 0⟩)) 27),.k (iv 0)] fun _ _ G7 kw7=>?_;intro S s
    obtain ⟨⟨kl5, -⟩,⟨kl6, -⟩, -⟩:Lq l3 (((G7 6).ss 0).v)∧Lq l4 (((G7 7).ss 0).v)∧True:=kq kw7;clear kw7;have e1:l4=Bg.oD (Bg.RtB c d∧Bg.RtB e i) (Bg.zv c d+Bg.zv e i):=by
      rw [hl4,hl3];rw [Bg.oD_y hRR];exact Bg.lessD hRR.1 hRR.2 hss hlt
    subst e1;have e0:n3=Bg.oS (Bg.RtB c d∧Bg.RtB e i) (Bg.zv c d+Bg.zv e i):=by
      rw [hn3,hl3];rw [Bg.oS_y hRR];exact Bg.lessS hRR.1 hRR.2 hss hlt
    have e2:(0:Int)=if (Bg.RtB c d∧Bg.RtB e i) then (0:Int) else 1:=(if_pos hRR).symm
    exact V.rt [2,0] [(G7 7).ss 0] [fun _=>{}] [] [3] [] (.tuple #[ag (DBig.mk n3 ⟨(Bg.oD (Bg.RtB c d∧Bg.RtB e i) (Bg.zv c d+Bg.zv e i)),(G7 7).ss 0⟩),iv 0]) (cong2 (fun (x0 x2:Int)=>(.tuple #[.agg #[iv x0,((G7 7).ss 0).v],iv x2]:Value)) e0 e2)
  have hge:Bg.nv i≤Bg.nv d:=Nat.not_lt.1 q6;refine nl (Bg.dig (Bg.nv d-Bg.nv i)) fun l5 hl5 hl5n=>?_;refine nm (Bg.sg0 (Bg.nv l5) c:Int) fun n4 hn4=>?_;refine nl (Bg.dig (Bg.nv l5)) fun l6 hl6 hl6n=>?_;have hmlen:=Bg.dig_len_mono' (Nat.sub_le (Bg.nv d) (Bg.nv i));have hmlen2:=Bg.dig_le hRR.1.dg
  refine V.r [.k (pp ((G1 0).b) 0),.ld 0 0 false (fun _=>[iv c]),.k (pp ((G1 0).b) 1),.ld 0 1 false (fun _=>[j.v]),.k (pp ((G1 1).b) 1),.ld 1 1 false (fun _=>[l.v]),.ct g0 6 132 false [] [] [(kf false (.f 0) d (fun _=>j)).a,(kf false (.f 1) i (fun _=>l)).a] (fun _ G=>r4minus_ctv d j i l hRR.1.dg hRR.2.dg (by omega) hge l5 hl5),.ct g0 7 119 false [] [] [(kf true (.g 6 0) l5 (fun G=>(G 6).ss 0)).a] (fun _ G=>r4made_ctv c l5 ((G 6).ss 0) (by subst_vars;exact Bg.dig_Dg _) (by omega) n4 hn4 l6 hl6),.st 2 (fun G=>.blk ((G1 2).b) (ca (DBig.mk n4 ⟨l6,(G 7).ss 0⟩)) 27),.k (iv 0)] fun _ _ G8 kw8=>?_;intro S s
  obtain ⟨⟨kl7, -⟩,⟨kl8, -⟩, -⟩:Lq l5 (((G8 6).ss 0).v)∧Lq l6 (((G8 7).ss 0).v)∧True:=kq kw8;clear kw8;have e1:l6=Bg.oD (Bg.RtB c d∧Bg.RtB e i) (Bg.zv c d+Bg.zv e i):=by
    rw [hl6,hl5];rw [Bg.oD_y hRR];exact Bg.moreD hRR.1 hRR.2 hss hge
  subst e1;have e0:n4=Bg.oS (Bg.RtB c d∧Bg.RtB e i) (Bg.zv c d+Bg.zv e i):=by
    rw [hn4,hl5];rw [Bg.oS_y hRR];exact Bg.moreS hRR.1 hRR.2 hss hge
  have e2:(0:Int)=if (Bg.RtB c d∧Bg.RtB e i) then (0:Int) else 1:=(if_pos hRR).symm
  exact V.rt [2,0] [(G8 7).ss 0] [fun _=>{}] [] [3] [] (.tuple #[ag (DBig.mk n4 ⟨(Bg.oD (Bg.RtB c d∧Bg.RtB e i) (Bg.zv c d+Bg.zv e i)),(G8 7).ss 0⟩),iv 0]) (cong2 (fun (x0 x2:Int)=>(.tuple #[.agg #[iv x0,((G8 7).ss 0).v],iv x2]:Value)) e0 e2)
theorem r4add_ctv (c:Int) (a:List Int) (e:SV) (d:Int) (b:List Int) (f:SV) (hla:a.length≤17179869184) (hlb:b.length≤17179869184) (rv0:Int) (erv0:rv0=Bg.oS (Bg.RtB c a∧Bg.RtB d b) (Bg.zv c a+Bg.zv d b)) (rv1:List Int) (erv1:rv1=Bg.oD (Bg.RtB c a∧Bg.RtB d b) (Bg.zv c a+Bg.zv d b)) (rv2:Int) (erv2:rv2=if (Bg.RtB c a∧Bg.RtB d b) then (0:Int) else 1) :
    Ct Tryz.prog 92 #[ag (DBig.mk c ⟨a,e⟩),ag (DBig.mk d ⟨b,f⟩)] [fs true a e,fs true b f] [] (fun g=>.tuple #[ag (DBig.mk rv0 ⟨rv1,(g.ss 0)⟩),iv rv2]) (fun g=>[fs true rv1 (g.ss 0)]) (fun g=>[]) (fun g=>[]):=by
  subst erv0 erv1 erv2;exact r4add_ct c a e d b f hla hlb
set_option maxRecDepth 10000 in
theorem r4sub_ct (i:Int) (d:List Int) (l:SV) (e:Int) (c:List Int) (j:SV) (hla:d.length≤17179869184) (hlb:c.length≤17179869184) :
    Ct Tryz.prog 90 #[ag (DBig.mk i ⟨d,l⟩),ag (DBig.mk e ⟨c,j⟩)] [fs true d l,fs true c j] [] (fun g=>.tuple #[ag (DBig.mk (Bg.oS (Bg.RtB i d∧Bg.RtB e c) (Bg.zv i d-Bg.zv e c)) ⟨Bg.oD (Bg.RtB i d∧Bg.RtB e c) (Bg.zv i d-Bg.zv e c),(g.ss 0)⟩),iv (if (Bg.RtB i d∧Bg.RtB e c) then (0:Int) else 1)]) (fun g=>[fs true (Bg.oD (Bg.RtB i d∧Bg.RtB e c) (Bg.zv i d-Bg.zv e c)) (g.ss 0)]) (fun g=>[]) (fun g=>[]):=by
  refine V.fn mo Tryz.func90 21 4 (by kernel_rfl) fun w H ε k0=>?_;obtain ⟨⟨kl1, -⟩,⟨kl2, -⟩, -⟩:Lq d l.v∧Lq c j.v∧True:=kq k0
  clear k0;refine V.g [.nb 0 0 (fun b=>pp b 0) 27 (fun _=>ca (DBig.mk i ⟨d,l⟩)),.nb 1 1 (fun b=>pp b 0) 27 (fun _=>ca (DBig.mk e ⟨c,j⟩)),.nb 2 2 (fun b=>pp b 0) 27 (fun _=>ca (DBig.mk 0 ⟨[],{}⟩)),.k (iv 0)] fun _ _ G1=>?_;intro S s
  refine V.g [.ld 1 0 true (fun _=>Dat.cells (DBig.mk e ⟨c,j⟩)),.cp g0 1 80 [(kf false (.f 1) c (fun _=>j)).a] (fun _ G=>r4right_ct e c j),.k (bv (!(decide (Bg.RtB e c))))] fun _ _ G2=>?_;intro S s
  refine V.cn (b:=!(decide (Bg.RtB e c))) (iNT iDF) (iNF iDT) (fun q1=>?_) (fun q2=>?_)
  · have hNR:¬ (Bg.RtB i d∧Bg.RtB e c):=fun h=>q1 h.2
    refine V.g [.k (ag (DBig.mk 0 ⟨[],{}⟩)),.st 2 (fun _=>.blk ((G1 2).b) (ca (DBig.mk 0 ⟨[],{}⟩)) 27),.k (iv 1)] fun _ _ G3=>?_;intro S s
    refine V.nilF (α:=Int) ?_;have e1:([]:List Int)=Bg.oD (Bg.RtB i d∧Bg.RtB e c) (Bg.zv i d-Bg.zv e c):=(Bg.oD_n hNR _).symm;rw [←e1];have e0:(0:Int)=Bg.oS (Bg.RtB i d∧Bg.RtB e c) (Bg.zv i d-Bg.zv e c):=(Bg.oS_n hNR _).symm;have e2:(1:Int)=if (Bg.RtB i d∧Bg.RtB e c) then (0:Int) else 1:=(if_neg hNR).symm
    exact V.rt [2,0] [{}] [fun _=>{}] [] [2] [] (.tuple #[ag (DBig.mk 0 ⟨([]:List Int),{}⟩),iv 1]) (cong2 (fun (x0 x2:Int)=>(.tuple #[.agg #[iv x0,SV.v ({})],iv x2]:Value)) e0 e2)
  have hB:Bg.RtB e c:=by first | exact q2 | exact Decidable.not_not.1 q2
  refine nm (Bg.oS (Bg.RtB e c) (-Bg.zv e c):Int) fun n1 hn1=>?_;refine nl (Bg.oD (Bg.RtB e c) (-Bg.zv e c)) fun l1 hl1 hl1n=>?_;refine nm (Bg.oS (Bg.RtB i d∧Bg.RtB n1 l1) (Bg.zv i d+Bg.zv n1 l1):Int) fun n2 hn2=>?_;refine nl (Bg.oD (Bg.RtB i d∧Bg.RtB n1 l1) (Bg.zv i d+Bg.zv n1 l1)) fun l2 hl2 hl2n=>?_;refine nm (if (Bg.RtB i d∧Bg.RtB n1 l1) then (0:Int) else 1:Int) fun n3 hn3=>?_;obtain ⟨z1,z1l⟩:=(Fr.RtB.z hB).neg hn1 hl1
  have hsub:=Bg.sub_is z1 hn2 hl2 hn3;refine V.r [.ld 0 0 true (fun _=>Dat.cells (DBig.mk i ⟨d,l⟩)),.ld 1 0 true (fun _=>Dat.cells (DBig.mk e ⟨c,j⟩)),.ct g0 2 129 false [] [] [(kf false (.f 1) c (fun _=>j)).a] (fun _ G=>r4neg_ctv e c j (by omega) n1 hn1 l1 hl1),.ct g0 3 92 false [] [] [(kf false (.f 0) d (fun _=>l)).a,(kf true (.g 2 0) l1 (fun G=>(G 2).ss 0)).a] (fun _ G=>r4add_ctv i d l n1 l1 ((G 2).ss 0) (by omega) (by omega) n2 hn2 l2 hl2 n3 hn3),.v fun G=>.tuple #[ag (DBig.mk n2 ⟨l2,(G 3).ss 0⟩),iv n3],.v fun G=>ag (DBig.mk n2 ⟨l2,(G 3).ss 0⟩),.k (iv n3),.nb 7 3 (fun b=>pp b 0) 27 (fun _=>ca (DBig.mk 0 ⟨[],{}⟩)),.st 3 (fun G=>.blk ((G 7).b) (ca (DBig.mk n2 ⟨l2,(G 3).ss 0⟩)) 27),.k (iv n3)] fun _ _ G4 kw4=>?_;intro S s
  obtain ⟨⟨kl3, -⟩,⟨kl4, -⟩, -⟩:Lq l1 (((G4 2).ss 0).v)∧Lq l2 (((G4 3).ss 0).v)∧True:=kq kw4;clear kw4;refine V.g [.ld 3 0 true (fun _=>Dat.cells (DBig.mk n2 ⟨l2,(G4 3).ss 0⟩)),.k (iv n3),.st 2 (fun _=>.blk ((G1 2).b) (ca (DBig.mk n2 ⟨l2,(G4 3).ss 0⟩)) 27),.k (iv n3)] fun _ _ G5=>?_;intro S s;have e1:l2=Bg.oD (Bg.RtB i d∧Bg.RtB e c) (Bg.zv i d-Bg.zv e c):=hsub.2.1;subst e1;have e0:n2=Bg.oS (Bg.RtB i d∧Bg.RtB e c) (Bg.zv i d-Bg.zv e c):=hsub.1;have e2:n3=if (Bg.RtB i d∧Bg.RtB e c) then (0:Int) else 1:=hsub.2.2
  exact V.rt [2,0] [(G4 3).ss 0] [fun _=>{}] [] [3] [] (.tuple #[ag (DBig.mk n2 ⟨(Bg.oD (Bg.RtB i d∧Bg.RtB e c) (Bg.zv i d-Bg.zv e c)),(G4 3).ss 0⟩),iv n3]) (cong2 (fun (x0 x2:Int)=>(.tuple #[.agg #[iv x0,((G4 3).ss 0).v],iv x2]:Value)) e0 e2)
theorem r4sub_ctv (c:Int) (a:List Int) (e:SV) (d:Int) (b:List Int) (f:SV) (hla:a.length≤17179869184) (hlb:b.length≤17179869184) (rv0:Int) (erv0:rv0=Bg.oS (Bg.RtB c a∧Bg.RtB d b) (Bg.zv c a - Bg.zv d b)) (rv1:List Int) (erv1:rv1=Bg.oD (Bg.RtB c a∧Bg.RtB d b) (Bg.zv c a - Bg.zv d b)) (rv2:Int) (erv2:rv2=if (Bg.RtB c a∧Bg.RtB d b) then (0:Int) else 1) :
    Ct Tryz.prog 90 #[ag (DBig.mk c ⟨a,e⟩),ag (DBig.mk d ⟨b,f⟩)] [fs true a e,fs true b f] [] (fun g=>.tuple #[ag (DBig.mk rv0 ⟨rv1,(g.ss 0)⟩),iv rv2]) (fun g=>[fs true rv1 (g.ss 0)]) (fun g=>[]) (fun g=>[]):=by
  subst erv0 erv1 erv2;exact r4sub_ct c a e d b f hla hlb

open Go Go.Proofs
set_option maxRecDepth 10000 in
theorem r5add_ct (j:Int) (e:List Int) (u:SV) (m:Int) (c:List Int) (o:SV) (l:Int) (i:List Int) (x:SV) (n:Int) (d:List Int) (t:SV) (haP:e.length≤1073741824) (haQ:c.length≤1073741824) (hbP:i.length≤1073741824) (hbQ:d.length≤1073741824) :
    Ct Tryz.prog 51 #[ag (DFrac.mk ⟨j,e,u⟩ ⟨m,c,o⟩),ag (DFrac.mk ⟨l,i,x⟩ ⟨n,d,t⟩)] [fs true e u,fs true c o,fs true i x,fs true d t] [] (fun g=>.tuple #[ag (DFrac.mk ⟨(Fr.rS (Fr.FrB j e m c∧Fr.FrB l i n d) ((Fr.fq j e c)+(Fr.fq l i d))),Fr.rD (Fr.FrB j e m c∧Fr.FrB l i n d) ((Fr.fq j e c)+(Fr.fq l i d)),(g.ss 0)⟩ ⟨(Fr.rT (Fr.FrB j e m c∧Fr.FrB l i n d)),Fr.rE (Fr.FrB j e m c∧Fr.FrB l i n d) ((Fr.fq j e c)+(Fr.fq l i d)),(g.ss 1)⟩),iv (if ¬ (Fr.FrB j e m c∧Fr.FrB l i n d) then (1:Int) else 0)]) (fun g=>[fs true (Fr.rD (Fr.FrB j e m c∧Fr.FrB l i n d) ((Fr.fq j e c)+(Fr.fq l i d))) (g.ss 0),fs true (Fr.rE (Fr.FrB j e m c∧Fr.FrB l i n d) ((Fr.fq j e c)+(Fr.fq l i d))) (g.ss 1)]) (fun g=>[]) (fun g=>[]):=by
  refine V.fn mo Tryz.func51 58 7 (by kernel_rfl) fun w H ε k0=>?_;obtain ⟨⟨kl1, -⟩,⟨kl2, -⟩,⟨kl3, -⟩,⟨kl4, -⟩, -⟩:Lq e u.v∧Lq c o.v∧Lq i x.v∧Lq d t.v∧True:=kq k0
  clear k0;refine V.g [.nb 0 0 (fun b=>pp b 0) 29 (fun _=>ca (DFrac.mk ⟨j,e,u⟩ ⟨m,c,o⟩)),.nb 1 1 (fun b=>pp b 0) 29 (fun _=>ca (DFrac.mk ⟨l,i,x⟩ ⟨n,d,t⟩)),.nb 2 2 (fun b=>pp b 0) 29 (fun _=>ca (DFrac.mk ⟨0,[],{}⟩ ⟨0,[],{}⟩)),.k (iv 0)] fun _ _ G1=>?_;intro S s
  refine nm ((!(decide (Fr.FrB j e m c))) || (!(decide (Fr.FrB l i n d))):Bool) fun p1 hp1=>?_;refine V.g [.ld 0 0 true (fun _=>Dat.cells (DFrac.mk ⟨j,e,u⟩ ⟨m,c,o⟩)),.cp g0 1 39 [(kf false (.f 0) e (fun _=>u)).a,(kf false (.f 1) c (fun _=>o)).a] (fun _ G=>r5right_ct j e u m c o (by omega) (by omega)),.k (bv (!(decide (Fr.FrB j e m c)))),.k (bv (!(decide (Fr.FrB j e m c)))),.ld 1 0 true (fun _=>Dat.cells (DFrac.mk ⟨l,i,x⟩ ⟨n,d,t⟩)),.cp (gF (b:=!(decide (Fr.FrB j e m c))) (iNF iDT)) 5 39 [(kf false (.f 2) i (fun _=>x)).a,(kf false (.f 3) d (fun _=>t)).a] (fun hg G=>r5right_ct l i x n d t (by omega) (by omega)),.k (bv (!(decide (Fr.FrB l i n d)))),.orn g0 false (!(decide (Fr.FrB j e m c))) (!(decide (Fr.FrB l i n d))) p1 hp1] fun _ _ G2=>?_;intro S s
  refine V.cn (b:=p1) (iN hp1 (iOT (iNT iDF) (iNT iDF))) (iN hp1 (iOF (iNF iDT) (iNF iDT))) (fun q1=>?_) (fun q2=>?_)
  · have hNR:¬ (Fr.FrB j e m c∧Fr.FrB l i n d):=by rintro ⟨h1,h2⟩;rcases q1 with h | h;exact h h1;exact h h2
    refine V.g [.k (ag (DFrac.mk ⟨0,[],{}⟩ ⟨0,[],{}⟩)),.st 2 (fun _=>.blk ((G1 2).b) (ca (DFrac.mk ⟨0,[],{}⟩ ⟨0,[],{}⟩)) 29),.k (iv 1)] fun _ _ G3=>?_;intro S s
    refine V.nilF (α:=Int) ?_;refine V.nilF (α:=Int) ?_;have e1:([]:List Int)=Fr.rD (Fr.FrB j e m c∧Fr.FrB l i n d) ((Fr.fq j e c)+(Fr.fq l i d)):=(Fr.Fz.no hNR ((Fr.fq j e c)+(Fr.fq l i d))).2.1;rw [←e1];have e3:([]:List Int)=Fr.rE (Fr.FrB j e m c∧Fr.FrB l i n d) ((Fr.fq j e c)+(Fr.fq l i d)):=(Fr.Fz.no hNR ((Fr.fq j e c)+(Fr.fq l i d))).2.2.2;rw [←e3];have e0:(0:Int)=Fr.rS (Fr.FrB j e m c∧Fr.FrB l i n d) ((Fr.fq j e c)+(Fr.fq l i d)):=(Fr.Fz.no hNR ((Fr.fq j e c)+(Fr.fq l i d))).1;have e2:(0:Int)=Fr.rT (Fr.FrB j e m c∧Fr.FrB l i n d):=(Fr.Fz.no hNR ((Fr.fq j e c)+(Fr.fq l i d))).2.2.1;have e4:(1:Int)=if ¬ (Fr.FrB j e m c∧Fr.FrB l i n d) then (1:Int) else 0:=(if_pos hNR).symm
    exact V.rt [2,0] [{},{}] [fun _=>{},fun _=>{}] [] [4,5] [] (.tuple #[ag (DFrac.mk ⟨0,([]:List Int),{}⟩ ⟨0,([]:List Int),{}⟩),iv 1]) (cong3 (fun (x0 x2 x4:Int)=>(.tuple #[.agg #[iv x0,SV.v ({}),iv x2,SV.v ({})],iv x4]:Value)) e0 e2 e4)
  have hRR:Fr.FrB j e m c∧Fr.FrB l i n d:=by first | exact q2 | exact ⟨Decidable.not_not.1 (q2).1,Decidable.not_not.1 (q2).2⟩
  have fa:=Fr.FrB.z hRR.1;have fb:=Fr.FrB.z hRR.2;refine nm (Bg.oS (Bg.RtB j e∧Bg.RtB n d) (Bg.zv j e * Bg.zv n d):Int) fun n1 hn1=>?_;refine nl (Bg.oD (Bg.RtB j e∧Bg.RtB n d) (Bg.zv j e * Bg.zv n d)) fun l1 hl1 hl1n=>?_;refine nm (if (Bg.RtB j e∧Bg.RtB n d) then (0:Int) else 1:Int) fun n2 hn2=>?_;obtain ⟨z4,z4l⟩:=Fr.Bz.mul fa.p fb.q hn1 hl1
  refine V.r [.k (pp ((G1 0).b) 0),.ld 0 0 true (fun _=>Dat.cells (DBig.mk j ⟨e,u⟩)),.k (pp ((G1 1).b) 2),.ld 1 2 true (fun _=>Dat.cells (DBig.mk n ⟨d,t⟩)),.ct g0 4 89 false [] [] [(kf false (.f 0) e (fun _=>u)).a,(kf false (.f 3) d (fun _=>t)).a] (fun _ G=>r4mul_ctv j e u n d t (by omega) (by omega) n1 hn1 l1 hl1 n2 hn2),.v fun G=>.tuple #[ag (DBig.mk n1 ⟨l1,(G 4).ss 0⟩),iv n2],.v fun G=>ag (DBig.mk n1 ⟨l1,(G 4).ss 0⟩),.k (iv n2),.nb 8 3 (fun b=>pp b 0) 27 (fun _=>ca (DBig.mk 0 ⟨[],{}⟩)),.st 3 (fun G=>.blk ((G 8).b) (ca (DBig.mk n1 ⟨l1,(G 4).ss 0⟩)) 27),.k (iv n2)] fun _ _ G4 kw4=>?_;intro S s
  obtain ⟨⟨kl5, -⟩, -⟩:Lq l1 (((G4 4).ss 0).v)∧True:=kq kw4;clear kw4;refine nm (Bg.oS (Bg.RtB l i∧Bg.RtB m c) (Bg.zv l i * Bg.zv m c):Int) fun n3 hn3=>?_;refine nl (Bg.oD (Bg.RtB l i∧Bg.RtB m c) (Bg.zv l i * Bg.zv m c)) fun l2 hl2 hl2n=>?_;refine nm (if (Bg.RtB l i∧Bg.RtB m c) then (0:Int) else 1:Int) fun n4 hn4=>?_;obtain ⟨z9,z9l⟩:=Fr.Bz.mul fb.p fa.q hn3 hl2;refine V.r [.k (pp ((G1 1).b) 0),.ld 1 0 true (fun _=>Dat.cells (DBig.mk l ⟨i,x⟩)),.k (pp ((G1 0).b) 2),.ld 0 2 true (fun _=>Dat.cells (DBig.mk m ⟨c,o⟩)),.ct g0 4 89 false [] [] [(kf false (.f 2) i (fun _=>x)).a,(kf false (.f 1) c (fun _=>o)).a] (fun _ G=>r4mul_ctv l i x m c o (by omega) (by omega) n3 hn3 l2 hl2 n4 hn4),.v fun G=>.tuple #[ag (DBig.mk n3 ⟨l2,(G 4).ss 0⟩),iv n4],.v fun G=>ag (DBig.mk n3 ⟨l2,(G 4).ss 0⟩),.k (iv n4),.nb 8 4 (fun b=>pp b 0) 27 (fun _=>ca (DBig.mk 0 ⟨[],{}⟩)),.st 4 (fun G=>.blk ((G 8).b) (ca (DBig.mk n3 ⟨l2,(G 4).ss 0⟩)) 27),.k (iv n4)] fun _ _ G5 kw5=>?_;intro S s;obtain ⟨⟨kl6, -⟩, -⟩:Lq l2 (((G5 4).ss 0).v)∧True:=kq kw5;clear kw5;refine nm (Bg.oS (Bg.RtB m c∧Bg.RtB n d) (Bg.zv m c * Bg.zv n d):Int) fun n5 hn5=>?_;refine nl (Bg.oD (Bg.RtB m c∧Bg.RtB n d) (Bg.zv m c * Bg.zv n d)) fun l3 hl3 hl3n=>?_;refine nm (if (Bg.RtB m c∧Bg.RtB n d) then (0:Int) else 1:Int) fun n6 hn6=>?_;obtain ⟨z5,z5l⟩:=Fr.Bz.mul fa.q fb.q hn5 hl3;refine V.r [.k (pp ((G1 0).b) 2),.ld 0 2 true (fun _=>Dat.cells (DBig.mk m ⟨c,o⟩)),.k (pp ((G1 1).b) 2),.ld 1 2 true (fun _=>Dat.cells (DBig.mk n ⟨d,t⟩)),.ct g0 4 89 false [] [] [(kf false (.f 1) c (fun _=>o)).a,(kf false (.f 3) d (fun _=>t)).a] (fun _ G=>r4mul_ctv m c o n d t (by omega) (by omega) n5 hn5 l3 hl3 n6 hn6),.v fun G=>.tuple #[ag (DBig.mk n5 ⟨l3,(G 4).ss 0⟩),iv n6],.v fun G=>ag (DBig.mk n5 ⟨l3,(G 4).ss 0⟩),.k (iv n6),.nb 8 5 (fun b=>pp b 0) 27 (fun _=>ca (DBig.mk 0 ⟨[],{}⟩)),.st 5 (fun G=>.blk ((G 8).b) (ca (DBig.mk n5 ⟨l3,(G 4).ss 0⟩)) 27),.k (iv n6)] fun _ _ G6 kw6=>?_;intro S s;obtain ⟨⟨kl7, -⟩, -⟩:Lq l3 (((G6 4).ss 0).v)∧True:=kq kw6;clear kw6;refine nm (Bg.oS (Bg.RtB n1 l1∧Bg.RtB n3 l2) (Bg.zv n1 l1+Bg.zv n3 l2):Int) fun n7 hn7=>?_;refine nl (Bg.oD (Bg.RtB n1 l1∧Bg.RtB n3 l2) (Bg.zv n1 l1+Bg.zv n3 l2)) fun l4 hl4 hl4n=>?_;refine nm (if (Bg.RtB n1 l1∧Bg.RtB n3 l2) then (0:Int) else 1:Int) fun n8 hn8=>?_;obtain ⟨zA,zAl⟩:=Fr.Bz.add z4 z9 hn7 hl4;refine V.r [.ld 3 0 true (fun _=>Dat.cells (DBig.mk n1 ⟨l1,(G4 4).ss 0⟩)),.ld 4 0 true (fun _=>Dat.cells (DBig.mk n3 ⟨l2,(G5 4).ss 0⟩)),.ct g0 2 92 false [] [] [(kf true (.f 4) l1 (fun _=>(G4 4).ss 0)).a,(kf true (.f 5) l2 (fun _=>(G5 4).ss 0)).a] (fun _ G=>r4add_ctv n1 l1 ((G4 4).ss 0) n3 l2 ((G5 4).ss 0) (by omega) (by omega) n7 hn7 l4 hl4 n8 hn8),.v fun G=>.tuple #[ag (DBig.mk n7 ⟨l4,(G 2).ss 0⟩),iv n8],.v fun G=>ag (DBig.mk n7 ⟨l4,(G 2).ss 0⟩),.k (iv n8),.nb 6 6 (fun b=>pp b 0) 27 (fun _=>ca (DBig.mk 0 ⟨[],{}⟩)),.st 6 (fun G=>.blk ((G 6).b) (ca (DBig.mk n7 ⟨l4,(G 2).ss 0⟩)) 27),.k (iv n8)] fun _ _ G7 kw7=>?_;intro S s;obtain ⟨⟨kl8, -⟩, -⟩:Lq l4 (((G7 2).ss 0).v)∧True:=kq kw7;clear kw7;refine nm (Fr.rS ((Bg.RtB n7 l4∧Bg.RtB n5 l3)∧n5≠0) (Rat.divInt (Bg.zv n7 l4) (Bg.zv n5 l3)):Int) fun n9 hn9=>?_;refine nl (Fr.rD ((Bg.RtB n7 l4∧Bg.RtB n5 l3)∧n5≠0) (Rat.divInt (Bg.zv n7 l4) (Bg.zv n5 l3))) fun l5 hl5 hl5n=>?_;refine nm (Fr.rT ((Bg.RtB n7 l4∧Bg.RtB n5 l3)∧n5≠0):Int) fun n10 hn10=>?_;refine nl (Fr.rE ((Bg.RtB n7 l4∧Bg.RtB n5 l3)∧n5≠0) (Rat.divInt (Bg.zv n7 l4) (Bg.zv n5 l3))) fun l6 hl6 hl6n=>?_;refine nm (if ¬ (Bg.RtB n7 l4∧Bg.RtB n5 l3) then (1:Int) else if n5=0 then 15 else 0:Int) fun n11 hn11=>?_;have hy0:((((Fr.fq j e c)).den:Int) * (((Fr.fq l i d)).den:Int))≠0:=Int.mul_ne_zero fa.den fb.den;have zf:=Fr.new_is zA z5 hy0 hn9 hl5 hn10 hl6;have hEr:n11=0:=by rw [hn11,if_neg (fun h=>h ⟨zA.rt,z5.rt⟩),if_neg (z5.ne.2 hy0)]
  have heq:=Fr.add_is (Fr.fq j e c) (Fr.fq l i d);refine V.r [.ld 6 0 true (fun _=>Dat.cells (DBig.mk n7 ⟨l4,(G7 2).ss 0⟩)),.ld 5 0 true (fun _=>Dat.cells (DBig.mk n5 ⟨l3,(G6 4).ss 0⟩)),.ct g0 2 91 false [] [] [(kf true (.f 7) l4 (fun _=>(G7 2).ss 0)).a,(kf true (.f 6) l3 (fun _=>(G6 4).ss 0)).a] (fun _ G=>r5new_ctv n7 l4 ((G7 2).ss 0) n5 l3 ((G6 4).ss 0) (by omega) (by omega) n9 hn9 l5 hl5 n10 hn10 l6 hl6 n11 hn11),.v fun G=>ag (DFrac.mk ⟨n9,l5,(G 2).ss 0⟩ ⟨n10,l6,(G 2).ss 1⟩),.k (iv n11),.st 2 (fun G=>.blk ((G1 2).b) (ca (DFrac.mk ⟨n9,l5,(G 2).ss 0⟩ ⟨n10,l6,(G 2).ss 1⟩)) 29),.k (iv n11)] fun _ _ G8 kw8=>?_;intro S s
  obtain ⟨⟨kl9, -⟩,⟨kl10, -⟩, -⟩:Lq l5 (((G8 2).ss 0).v)∧Lq l6 (((G8 2).ss 1).v)∧True:=kq kw8;clear kw8;have e1:l5=Fr.rD (Fr.FrB j e m c∧Fr.FrB l i n d) ((Fr.fq j e c)+(Fr.fq l i d)):=(Fr.Fz.ret zf hRR (heq)).2.1;subst e1;have e3:l6=Fr.rE (Fr.FrB j e m c∧Fr.FrB l i n d) ((Fr.fq j e c)+(Fr.fq l i d)):=(Fr.Fz.ret zf hRR (heq)).2.2.2;subst e3;have e0:n9=Fr.rS (Fr.FrB j e m c∧Fr.FrB l i n d) ((Fr.fq j e c)+(Fr.fq l i d)):=(Fr.Fz.ret zf hRR (heq)).1;have e2:n10=Fr.rT (Fr.FrB j e m c∧Fr.FrB l i n d):=(Fr.Fz.ret zf hRR (heq)).2.2.1;have e4:n11=if ¬ (Fr.FrB j e m c∧Fr.FrB l i n d) then (1:Int) else 0:=by rw [if_neg (fun h=>h hRR)];exact hEr
  exact V.rt [2,0] [(G8 2).ss 0,(G8 2).ss 1] [fun _=>{},fun _=>{}] [] [8,9] [] (.tuple #[ag (DFrac.mk ⟨n9,(Fr.rD (Fr.FrB j e m c∧Fr.FrB l i n d) ((Fr.fq j e c)+(Fr.fq l i d))),(G8 2).ss 0⟩ ⟨n10,(Fr.rE (Fr.FrB j e m c∧Fr.FrB l i n d) ((Fr.fq j e c)+(Fr.fq l i d))),(G8 2).ss 1⟩),iv n11]) (cong3 (fun (x0 x2 x4:Int)=>(.tuple #[.agg #[iv x0,((G8 2).ss 0).v,iv x2,((G8 2).ss 1).v],iv x4]:Value)) e0 e2 e4)
theorem r5add_ctv (e:Int) (a:List Int) (j:SV) (h:Int) (b:List Int) (k:SV) (f:Int) (c:List Int) (l:SV) (i:Int) (d:List Int) (m:SV) (haP:a.length≤1073741824) (haQ:b.length≤1073741824) (hbP:c.length≤1073741824) (hbQ:d.length≤1073741824) (rv0:Int) (erv0:rv0=Fr.rS (Fr.FrB e a h b∧Fr.FrB f c i d) ((Fr.fq e a b)+(Fr.fq f c d))) (rv1:List Int) (erv1:rv1=Fr.rD (Fr.FrB e a h b∧Fr.FrB f c i d) ((Fr.fq e a b)+(Fr.fq f c d))) (rv2:Int) (erv2:rv2=Fr.rT (Fr.FrB e a h b∧Fr.FrB f c i d)) (rv3:List Int) (erv3:rv3=Fr.rE (Fr.FrB e a h b∧Fr.FrB f c i d) ((Fr.fq e a b)+(Fr.fq f c d))) (rv4:Int) (erv4:rv4=if ¬ (Fr.FrB e a h b∧Fr.FrB f c i d) then (1:Int) else 0) :
    Ct Tryz.prog 51 #[ag (DFrac.mk ⟨e,a,j⟩ ⟨h,b,k⟩),ag (DFrac.mk ⟨f,c,l⟩ ⟨i,d,m⟩)] [fs true a j,fs true b k,fs true c l,fs true d m] [] (fun g=>.tuple #[ag (DFrac.mk ⟨rv0,rv1,(g.ss 0)⟩ ⟨rv2,rv3,(g.ss 1)⟩),iv rv4]) (fun g=>[fs true rv1 (g.ss 0),fs true rv3 (g.ss 1)]) (fun g=>[]) (fun g=>[]):=by
  subst erv0 erv1 erv2 erv3 erv4;exact r5add_ct e a j h b k f c l i d m haP haQ hbP hbQ
set_option maxRecDepth 10000 in
theorem r5sub_ct (j:Int) (e:List Int) (u:SV) (m:Int) (c:List Int) (o:SV) (l:Int) (i:List Int) (x:SV) (n:Int) (d:List Int) (t:SV) (haP:e.length≤1073741824) (haQ:c.length≤1073741824) (hbP:i.length≤1073741824) (hbQ:d.length≤1073741824) :
    Ct Tryz.prog 48 #[ag (DFrac.mk ⟨j,e,u⟩ ⟨m,c,o⟩),ag (DFrac.mk ⟨l,i,x⟩ ⟨n,d,t⟩)] [fs true e u,fs true c o,fs true i x,fs true d t] [] (fun g=>.tuple #[ag (DFrac.mk ⟨(Fr.rS (Fr.FrB j e m c∧Fr.FrB l i n d) ((Fr.fq j e c)-(Fr.fq l i d))),Fr.rD (Fr.FrB j e m c∧Fr.FrB l i n d) ((Fr.fq j e c)-(Fr.fq l i d)),(g.ss 0)⟩ ⟨(Fr.rT (Fr.FrB j e m c∧Fr.FrB l i n d)),Fr.rE (Fr.FrB j e m c∧Fr.FrB l i n d) ((Fr.fq j e c)-(Fr.fq l i d)),(g.ss 1)⟩),iv (if ¬ (Fr.FrB j e m c∧Fr.FrB l i n d) then (1:Int) else 0)]) (fun g=>[fs true (Fr.rD (Fr.FrB j e m c∧Fr.FrB l i n d) ((Fr.fq j e c)-(Fr.fq l i d))) (g.ss 0),fs true (Fr.rE (Fr.FrB j e m c∧Fr.FrB l i n d) ((Fr.fq j e c)-(Fr.fq l i d))) (g.ss 1)]) (fun g=>[]) (fun g=>[]):=by
  refine V.fn mo Tryz.func48 58 7 (by kernel_rfl) fun w H ε k0=>?_;obtain ⟨⟨kl1, -⟩,⟨kl2, -⟩,⟨kl3, -⟩,⟨kl4, -⟩, -⟩:Lq e u.v∧Lq c o.v∧Lq i x.v∧Lq d t.v∧True:=kq k0
  clear k0;refine V.g [.nb 0 0 (fun b=>pp b 0) 29 (fun _=>ca (DFrac.mk ⟨j,e,u⟩ ⟨m,c,o⟩)),.nb 1 1 (fun b=>pp b 0) 29 (fun _=>ca (DFrac.mk ⟨l,i,x⟩ ⟨n,d,t⟩)),.nb 2 2 (fun b=>pp b 0) 29 (fun _=>ca (DFrac.mk ⟨0,[],{}⟩ ⟨0,[],{}⟩)),.k (iv 0)] fun _ _ G1=>?_;intro S s
  refine nm ((!(decide (Fr.FrB j e m c))) || (!(decide (Fr.FrB l i n d))):Bool) fun p1 hp1=>?_;refine V.g [.ld 0 0 true (fun _=>Dat.cells (DFrac.mk ⟨j,e,u⟩ ⟨m,c,o⟩)),.cp g0 1 39 [(kf false (.f 0) e (fun _=>u)).a,(kf false (.f 1) c (fun _=>o)).a] (fun _ G=>r5right_ct j e u m c o (by omega) (by omega)),.k (bv (!(decide (Fr.FrB j e m c)))),.k (bv (!(decide (Fr.FrB j e m c)))),.ld 1 0 true (fun _=>Dat.cells (DFrac.mk ⟨l,i,x⟩ ⟨n,d,t⟩)),.cp (gF (b:=!(decide (Fr.FrB j e m c))) (iNF iDT)) 5 39 [(kf false (.f 2) i (fun _=>x)).a,(kf false (.f 3) d (fun _=>t)).a] (fun hg G=>r5right_ct l i x n d t (by omega) (by omega)),.k (bv (!(decide (Fr.FrB l i n d)))),.orn g0 false (!(decide (Fr.FrB j e m c))) (!(decide (Fr.FrB l i n d))) p1 hp1] fun _ _ G2=>?_;intro S s
  refine V.cn (b:=p1) (iN hp1 (iOT (iNT iDF) (iNT iDF))) (iN hp1 (iOF (iNF iDT) (iNF iDT))) (fun q1=>?_) (fun q2=>?_)
  · have hNR:¬ (Fr.FrB j e m c∧Fr.FrB l i n d):=by rintro ⟨h1,h2⟩;rcases q1 with h | h;exact h h1;exact h h2
    refine V.g [.k (ag (DFrac.mk ⟨0,[],{}⟩ ⟨0,[],{}⟩)),.st 2 (fun _=>.blk ((G1 2).b) (ca (DFrac.mk ⟨0,[],{}⟩ ⟨0,[],{}⟩)) 29),.k (iv 1)] fun _ _ G3=>?_;intro S s
    refine V.nilF (α:=Int) ?_;refine V.nilF (α:=Int) ?_;have e1:([]:List Int)=Fr.rD (Fr.FrB j e m c∧Fr.FrB l i n d) ((Fr.fq j e c)-(Fr.fq l i d)):=(Fr.Fz.no hNR ((Fr.fq j e c)-(Fr.fq l i d))).2.1;rw [←e1];have e3:([]:List Int)=Fr.rE (Fr.FrB j e m c∧Fr.FrB l i n d) ((Fr.fq j e c)-(Fr.fq l i d)):=(Fr.Fz.no hNR ((Fr.fq j e c)-(Fr.fq l i d))).2.2.2;rw [←e3];have e0:(0:Int)=Fr.rS (Fr.FrB j e m c∧Fr.FrB l i n d) ((Fr.fq j e c)-(Fr.fq l i d)):=(Fr.Fz.no hNR ((Fr.fq j e c)-(Fr.fq l i d))).1;have e2:(0:Int)=Fr.rT (Fr.FrB j e m c∧Fr.FrB l i n d):=(Fr.Fz.no hNR ((Fr.fq j e c)-(Fr.fq l i d))).2.2.1;have e4:(1:Int)=if ¬ (Fr.FrB j e m c∧Fr.FrB l i n d) then (1:Int) else 0:=(if_pos hNR).symm
    exact V.rt [2,0] [{},{}] [fun _=>{},fun _=>{}] [] [4,5] [] (.tuple #[ag (DFrac.mk ⟨0,([]:List Int),{}⟩ ⟨0,([]:List Int),{}⟩),iv 1]) (cong3 (fun (x0 x2 x4:Int)=>(.tuple #[.agg #[iv x0,SV.v ({}),iv x2,SV.v ({})],iv x4]:Value)) e0 e2 e4)
  have hRR:Fr.FrB j e m c∧Fr.FrB l i n d:=by first | exact q2 | exact ⟨Decidable.not_not.1 (q2).1,Decidable.not_not.1 (q2).2⟩
  have fa:=Fr.FrB.z hRR.1;have fb:=Fr.FrB.z hRR.2;refine nm (Bg.oS (Bg.RtB j e∧Bg.RtB n d) (Bg.zv j e * Bg.zv n d):Int) fun n1 hn1=>?_;refine nl (Bg.oD (Bg.RtB j e∧Bg.RtB n d) (Bg.zv j e * Bg.zv n d)) fun l1 hl1 hl1n=>?_;refine nm (if (Bg.RtB j e∧Bg.RtB n d) then (0:Int) else 1:Int) fun n2 hn2=>?_;obtain ⟨z4,z4l⟩:=Fr.Bz.mul fa.p fb.q hn1 hl1
  refine V.r [.k (pp ((G1 0).b) 0),.ld 0 0 true (fun _=>Dat.cells (DBig.mk j ⟨e,u⟩)),.k (pp ((G1 1).b) 2),.ld 1 2 true (fun _=>Dat.cells (DBig.mk n ⟨d,t⟩)),.ct g0 4 89 false [] [] [(kf false (.f 0) e (fun _=>u)).a,(kf false (.f 3) d (fun _=>t)).a] (fun _ G=>r4mul_ctv j e u n d t (by omega) (by omega) n1 hn1 l1 hl1 n2 hn2),.v fun G=>.tuple #[ag (DBig.mk n1 ⟨l1,(G 4).ss 0⟩),iv n2],.v fun G=>ag (DBig.mk n1 ⟨l1,(G 4).ss 0⟩),.k (iv n2),.nb 8 3 (fun b=>pp b 0) 27 (fun _=>ca (DBig.mk 0 ⟨[],{}⟩)),.st 3 (fun G=>.blk ((G 8).b) (ca (DBig.mk n1 ⟨l1,(G 4).ss 0⟩)) 27),.k (iv n2)] fun _ _ G4 kw4=>?_;intro S s
  obtain ⟨⟨kl5, -⟩, -⟩:Lq l1 (((G4 4).ss 0).v)∧True:=kq kw4;clear kw4;refine nm (Bg.oS (Bg.RtB l i∧Bg.RtB m c) (Bg.zv l i * Bg.zv m c):Int) fun n3 hn3=>?_;refine nl (Bg.oD (Bg.RtB l i∧Bg.RtB m c) (Bg.zv l i * Bg.zv m c)) fun l2 hl2 hl2n=>?_;refine nm (if (Bg.RtB l i∧Bg.RtB m c) then (0:Int) else 1:Int) fun n4 hn4=>?_;obtain ⟨z9,z9l⟩:=Fr.Bz.mul fb.p fa.q hn3 hl2;refine V.r [.k (pp ((G1 1).b) 0),.ld 1 0 true (fun _=>Dat.cells (DBig.mk l ⟨i,x⟩)),.k (pp ((G1 0).b) 2),.ld 0 2 true (fun _=>Dat.cells (DBig.mk m ⟨c,o⟩)),.ct g0 4 89 false [] [] [(kf false (.f 2) i (fun _=>x)).a,(kf false (.f 1) c (fun _=>o)).a] (fun _ G=>r4mul_ctv l i x m c o (by omega) (by omega) n3 hn3 l2 hl2 n4 hn4),.v fun G=>.tuple #[ag (DBig.mk n3 ⟨l2,(G 4).ss 0⟩),iv n4],.v fun G=>ag (DBig.mk n3 ⟨l2,(G 4).ss 0⟩),.k (iv n4),.nb 8 4 (fun b=>pp b 0) 27 (fun _=>ca (DBig.mk 0 ⟨[],{}⟩)),.st 4 (fun G=>.blk ((G 8).b) (ca (DBig.mk n3 ⟨l2,(G 4).ss 0⟩)) 27),.k (iv n4)] fun _ _ G5 kw5=>?_;intro S s;obtain ⟨⟨kl6, -⟩, -⟩:Lq l2 (((G5 4).ss 0).v)∧True:=kq kw5;clear kw5;refine nm (Bg.oS (Bg.RtB m c∧Bg.RtB n d) (Bg.zv m c * Bg.zv n d):Int) fun n5 hn5=>?_;refine nl (Bg.oD (Bg.RtB m c∧Bg.RtB n d) (Bg.zv m c * Bg.zv n d)) fun l3 hl3 hl3n=>?_;refine nm (if (Bg.RtB m c∧Bg.RtB n d) then (0:Int) else 1:Int) fun n6 hn6=>?_;obtain ⟨z5,z5l⟩:=Fr.Bz.mul fa.q fb.q hn5 hl3;refine V.r [.k (pp ((G1 0).b) 2),.ld 0 2 true (fun _=>Dat.cells (DBig.mk m ⟨c,o⟩)),.k (pp ((G1 1).b) 2),.ld 1 2 true (fun _=>Dat.cells (DBig.mk n ⟨d,t⟩)),.ct g0 4 89 false [] [] [(kf false (.f 1) c (fun _=>o)).a,(kf false (.f 3) d (fun _=>t)).a] (fun _ G=>r4mul_ctv m c o n d t (by omega) (by omega) n5 hn5 l3 hl3 n6 hn6),.v fun G=>.tuple #[ag (DBig.mk n5 ⟨l3,(G 4).ss 0⟩),iv n6],.v fun G=>ag (DBig.mk n5 ⟨l3,(G 4).ss 0⟩),.k (iv n6),.nb 8 5 (fun b=>pp b 0) 27 (fun _=>ca (DBig.mk 0 ⟨[],{}⟩)),.st 5 (fun G=>.blk ((G 8).b) (ca (DBig.mk n5 ⟨l3,(G 4).ss 0⟩)) 27),.k (iv n6)] fun _ _ G6 kw6=>?_;intro S s;obtain ⟨⟨kl7, -⟩, -⟩:Lq l3 (((G6 4).ss 0).v)∧True:=kq kw6;clear kw6;refine nm (Bg.oS (Bg.RtB n1 l1∧Bg.RtB n3 l2) (Bg.zv n1 l1-Bg.zv n3 l2):Int) fun n7 hn7=>?_;refine nl (Bg.oD (Bg.RtB n1 l1∧Bg.RtB n3 l2) (Bg.zv n1 l1-Bg.zv n3 l2)) fun l4 hl4 hl4n=>?_;refine nm (if (Bg.RtB n1 l1∧Bg.RtB n3 l2) then (0:Int) else 1:Int) fun n8 hn8=>?_;obtain ⟨zA,zAl⟩:=Fr.Bz.sub z4 z9 hn7 hl4;refine V.r [.ld 3 0 true (fun _=>Dat.cells (DBig.mk n1 ⟨l1,(G4 4).ss 0⟩)),.ld 4 0 true (fun _=>Dat.cells (DBig.mk n3 ⟨l2,(G5 4).ss 0⟩)),.ct g0 2 90 false [] [] [(kf true (.f 4) l1 (fun _=>(G4 4).ss 0)).a,(kf true (.f 5) l2 (fun _=>(G5 4).ss 0)).a] (fun _ G=>r4sub_ctv n1 l1 ((G4 4).ss 0) n3 l2 ((G5 4).ss 0) (by omega) (by omega) n7 hn7 l4 hl4 n8 hn8),.v fun G=>.tuple #[ag (DBig.mk n7 ⟨l4,(G 2).ss 0⟩),iv n8],.v fun G=>ag (DBig.mk n7 ⟨l4,(G 2).ss 0⟩),.k (iv n8),.nb 6 6 (fun b=>pp b 0) 27 (fun _=>ca (DBig.mk 0 ⟨[],{}⟩)),.st 6 (fun G=>.blk ((G 6).b) (ca (DBig.mk n7 ⟨l4,(G 2).ss 0⟩)) 27),.k (iv n8)] fun _ _ G7 kw7=>?_;intro S s;obtain ⟨⟨kl8, -⟩, -⟩:Lq l4 (((G7 2).ss 0).v)∧True:=kq kw7;clear kw7;refine nm (Fr.rS ((Bg.RtB n7 l4∧Bg.RtB n5 l3)∧n5≠0) (Rat.divInt (Bg.zv n7 l4) (Bg.zv n5 l3)):Int) fun n9 hn9=>?_;refine nl (Fr.rD ((Bg.RtB n7 l4∧Bg.RtB n5 l3)∧n5≠0) (Rat.divInt (Bg.zv n7 l4) (Bg.zv n5 l3))) fun l5 hl5 hl5n=>?_;refine nm (Fr.rT ((Bg.RtB n7 l4∧Bg.RtB n5 l3)∧n5≠0):Int) fun n10 hn10=>?_;refine nl (Fr.rE ((Bg.RtB n7 l4∧Bg.RtB n5 l3)∧n5≠0) (Rat.divInt (Bg.zv n7 l4) (Bg.zv n5 l3))) fun l6 hl6 hl6n=>?_;refine nm (if ¬ (Bg.RtB n7 l4∧Bg.RtB n5 l3) then (1:Int) else if n5=0 then 15 else 0:Int) fun n11 hn11=>?_;have hy0:((((Fr.fq j e c)).den:Int) * (((Fr.fq l i d)).den:Int))≠0:=Int.mul_ne_zero fa.den fb.den;have zf:=Fr.new_is zA z5 hy0 hn9 hl5 hn10 hl6;have hEr:n11=0:=by rw [hn11,if_neg (fun h=>h ⟨zA.rt,z5.rt⟩),if_neg (z5.ne.2 hy0)]
  have heq:=Fr.sub_isQ (Fr.fq j e c) (Fr.fq l i d);refine V.r [.ld 6 0 true (fun _=>Dat.cells (DBig.mk n7 ⟨l4,(G7 2).ss 0⟩)),.ld 5 0 true (fun _=>Dat.cells (DBig.mk n5 ⟨l3,(G6 4).ss 0⟩)),.ct g0 2 91 false [] [] [(kf true (.f 7) l4 (fun _=>(G7 2).ss 0)).a,(kf true (.f 6) l3 (fun _=>(G6 4).ss 0)).a] (fun _ G=>r5new_ctv n7 l4 ((G7 2).ss 0) n5 l3 ((G6 4).ss 0) (by omega) (by omega) n9 hn9 l5 hl5 n10 hn10 l6 hl6 n11 hn11),.v fun G=>ag (DFrac.mk ⟨n9,l5,(G 2).ss 0⟩ ⟨n10,l6,(G 2).ss 1⟩),.k (iv n11),.st 2 (fun G=>.blk ((G1 2).b) (ca (DFrac.mk ⟨n9,l5,(G 2).ss 0⟩ ⟨n10,l6,(G 2).ss 1⟩)) 29),.k (iv n11)] fun _ _ G8 kw8=>?_;intro S s
  obtain ⟨⟨kl9, -⟩,⟨kl10, -⟩, -⟩:Lq l5 (((G8 2).ss 0).v)∧Lq l6 (((G8 2).ss 1).v)∧True:=kq kw8;clear kw8;have e1:l5=Fr.rD (Fr.FrB j e m c∧Fr.FrB l i n d) ((Fr.fq j e c)-(Fr.fq l i d)):=(Fr.Fz.ret zf hRR (heq)).2.1;subst e1;have e3:l6=Fr.rE (Fr.FrB j e m c∧Fr.FrB l i n d) ((Fr.fq j e c)-(Fr.fq l i d)):=(Fr.Fz.ret zf hRR (heq)).2.2.2;subst e3;have e0:n9=Fr.rS (Fr.FrB j e m c∧Fr.FrB l i n d) ((Fr.fq j e c)-(Fr.fq l i d)):=(Fr.Fz.ret zf hRR (heq)).1;have e2:n10=Fr.rT (Fr.FrB j e m c∧Fr.FrB l i n d):=(Fr.Fz.ret zf hRR (heq)).2.2.1;have e4:n11=if ¬ (Fr.FrB j e m c∧Fr.FrB l i n d) then (1:Int) else 0:=by rw [if_neg (fun h=>h hRR)];exact hEr
  exact V.rt [2,0] [(G8 2).ss 0,(G8 2).ss 1] [fun _=>{},fun _=>{}] [] [8,9] [] (.tuple #[ag (DFrac.mk ⟨n9,(Fr.rD (Fr.FrB j e m c∧Fr.FrB l i n d) ((Fr.fq j e c)-(Fr.fq l i d))),(G8 2).ss 0⟩ ⟨n10,(Fr.rE (Fr.FrB j e m c∧Fr.FrB l i n d) ((Fr.fq j e c)-(Fr.fq l i d))),(G8 2).ss 1⟩),iv n11]) (cong3 (fun (x0 x2 x4:Int)=>(.tuple #[.agg #[iv x0,((G8 2).ss 0).v,iv x2,((G8 2).ss 1).v],iv x4]:Value)) e0 e2 e4)
theorem r5sub_ctv (e:Int) (a:List Int) (j:SV) (h:Int) (b:List Int) (k:SV) (f:Int) (c:List Int) (l:SV) (i:Int) (d:List Int) (m:SV) (haP:a.length≤1073741824) (haQ:b.length≤1073741824) (hbP:c.length≤1073741824) (hbQ:d.length≤1073741824) (rv0:Int) (erv0:rv0=Fr.rS (Fr.FrB e a h b∧Fr.FrB f c i d) ((Fr.fq e a b) - (Fr.fq f c d))) (rv1:List Int) (erv1:rv1=Fr.rD (Fr.FrB e a h b∧Fr.FrB f c i d) ((Fr.fq e a b) - (Fr.fq f c d))) (rv2:Int) (erv2:rv2=Fr.rT (Fr.FrB e a h b∧Fr.FrB f c i d)) (rv3:List Int) (erv3:rv3=Fr.rE (Fr.FrB e a h b∧Fr.FrB f c i d) ((Fr.fq e a b) - (Fr.fq f c d))) (rv4:Int) (erv4:rv4=if ¬ (Fr.FrB e a h b∧Fr.FrB f c i d) then (1:Int) else 0) :
    Ct Tryz.prog 48 #[ag (DFrac.mk ⟨e,a,j⟩ ⟨h,b,k⟩),ag (DFrac.mk ⟨f,c,l⟩ ⟨i,d,m⟩)] [fs true a j,fs true b k,fs true c l,fs true d m] [] (fun g=>.tuple #[ag (DFrac.mk ⟨rv0,rv1,(g.ss 0)⟩ ⟨rv2,rv3,(g.ss 1)⟩),iv rv4]) (fun g=>[fs true rv1 (g.ss 0),fs true rv3 (g.ss 1)]) (fun g=>[]) (fun g=>[]):=by
  subst erv0 erv1 erv2 erv3 erv4;exact r5sub_ct e a j h b k f c l i d m haP haQ hbP hbQ
set_option maxRecDepth 10000 in
theorem r5cmp_ct (j:Int) (c:List Int) (o:SV) (m:Int) (d:List Int) (t:SV) (l:Int) (e:List Int) (u:SV) (n:Int) (i:List Int) (x:SV) (haP:c.length≤1073741824) (haQ:d.length≤1073741824) (hbP:e.length≤1073741824) (hbQ:i.length≤1073741824) :
    Cp Tryz.prog 47 #[ag (DFrac.mk ⟨j,c,o⟩ ⟨m,d,t⟩),ag (DFrac.mk ⟨l,e,u⟩ ⟨n,i,x⟩)] [fs true c o,fs true d t,fs true e u,fs true i x] (iv (if Fr.FrB j c m d∧Fr.FrB l e n i then Fr.cmpQ (Fr.fq j c d) (Fr.fq l e i) else 0)):=by
  refine V.fn mo Tryz.func47 36 4 (by kernel_rfl) fun w H ε k0=>?_;obtain ⟨⟨kl1, -⟩,⟨kl2, -⟩,⟨kl3, -⟩,⟨kl4, -⟩, -⟩:Lq c o.v∧Lq d t.v∧Lq e u.v∧Lq i x.v∧True:=kq k0
  clear k0;refine V.g [.nb 0 0 (fun b=>pp b 0) 29 (fun _=>ca (DFrac.mk ⟨j,c,o⟩ ⟨m,d,t⟩)),.nb 1 1 (fun b=>pp b 0) 29 (fun _=>ca (DFrac.mk ⟨l,e,u⟩ ⟨n,i,x⟩)),.k (iv 0)] fun _ _ G1=>?_;intro S s
  refine nm ((!(decide (Fr.FrB j c m d))) || (!(decide (Fr.FrB l e n i))):Bool) fun p1 hp1=>?_;refine V.g [.ld 0 0 true (fun _=>Dat.cells (DFrac.mk ⟨j,c,o⟩ ⟨m,d,t⟩)),.cp g0 1 39 [(kf false (.f 0) c (fun _=>o)).a,(kf false (.f 1) d (fun _=>t)).a] (fun _ G=>r5right_ct j c o m d t (by omega) (by omega)),.k (bv (!(decide (Fr.FrB j c m d)))),.k (bv (!(decide (Fr.FrB j c m d)))),.ld 1 0 true (fun _=>Dat.cells (DFrac.mk ⟨l,e,u⟩ ⟨n,i,x⟩)),.cp (gF (b:=!(decide (Fr.FrB j c m d))) (iNF iDT)) 5 39 [(kf false (.f 2) e (fun _=>u)).a,(kf false (.f 3) i (fun _=>x)).a] (fun hg G=>r5right_ct l e u n i x (by omega) (by omega)),.k (bv (!(decide (Fr.FrB l e n i)))),.orn g0 false (!(decide (Fr.FrB j c m d))) (!(decide (Fr.FrB l e n i))) p1 hp1] fun _ _ G2=>?_;intro S s
  refine V.cn (b:=p1) (iN hp1 (iOT (iNT iDF) (iNT iDF))) (iN hp1 (iOF (iNF iDT) (iNF iDT))) (fun q1=>?_) (fun q2=>?_)
  · have hNR:¬ (Fr.FrB j c m d∧Fr.FrB l e n i):=by rintro ⟨h1,h2⟩;rcases q1 with h | h;exact h h1;exact h h2
    refine V.g [.k (iv 0)] fun _ _ G3=>?_;intro S s
    have e0:(0:Int)=if Fr.FrB j c m d∧Fr.FrB l e n i then Fr.cmpQ (Fr.fq j c d) (Fr.fq l e i) else 0:=(if_neg hNR).symm
    exact V.rt [0] [] [] [] [] [] (iv 0) (cong1 (fun (x0:Int)=>(iv x0:Value)) e0)
  have hRR:Fr.FrB j c m d∧Fr.FrB l e n i:=by first | exact q2 | exact ⟨Decidable.not_not.1 (q2).1,Decidable.not_not.1 (q2).2⟩
  have fa:=Fr.FrB.z hRR.1;have fb:=Fr.FrB.z hRR.2;refine nm (Bg.oS (Bg.RtB j c∧Bg.RtB n i) (Bg.zv j c * Bg.zv n i):Int) fun n1 hn1=>?_;refine nl (Bg.oD (Bg.RtB j c∧Bg.RtB n i) (Bg.zv j c * Bg.zv n i)) fun l1 hl1 hl1n=>?_;refine nm (if (Bg.RtB j c∧Bg.RtB n i) then (0:Int) else 1:Int) fun n2 hn2=>?_;obtain ⟨z4,z4l⟩:=Fr.Bz.mul fa.p fb.q hn1 hl1
  refine V.r [.k (pp ((G1 0).b) 0),.ld 0 0 true (fun _=>Dat.cells (DBig.mk j ⟨c,o⟩)),.k (pp ((G1 1).b) 2),.ld 1 2 true (fun _=>Dat.cells (DBig.mk n ⟨i,x⟩)),.ct g0 4 89 false [] [] [(kf false (.f 0) c (fun _=>o)).a,(kf false (.f 3) i (fun _=>x)).a] (fun _ G=>r4mul_ctv j c o n i x (by omega) (by omega) n1 hn1 l1 hl1 n2 hn2),.v fun G=>.tuple #[ag (DBig.mk n1 ⟨l1,(G 4).ss 0⟩),iv n2],.v fun G=>ag (DBig.mk n1 ⟨l1,(G 4).ss 0⟩),.k (iv n2),.nb 8 2 (fun b=>pp b 0) 27 (fun _=>ca (DBig.mk 0 ⟨[],{}⟩)),.st 2 (fun G=>.blk ((G 8).b) (ca (DBig.mk n1 ⟨l1,(G 4).ss 0⟩)) 27),.k (iv n2)] fun _ _ G4 kw4=>?_;intro S s
  obtain ⟨⟨kl5, -⟩, -⟩:Lq l1 (((G4 4).ss 0).v)∧True:=kq kw4;clear kw4;refine nm (Bg.oS (Bg.RtB l e∧Bg.RtB m d) (Bg.zv l e * Bg.zv m d):Int) fun n3 hn3=>?_;refine nl (Bg.oD (Bg.RtB l e∧Bg.RtB m d) (Bg.zv l e * Bg.zv m d)) fun l2 hl2 hl2n=>?_;refine nm (if (Bg.RtB l e∧Bg.RtB m d) then (0:Int) else 1:Int) fun n4 hn4=>?_;obtain ⟨z9,z9l⟩:=Fr.Bz.mul fb.p fa.q hn3 hl2;refine V.r [.k (pp ((G1 1).b) 0),.ld 1 0 true (fun _=>Dat.cells (DBig.mk l ⟨e,u⟩)),.k (pp ((G1 0).b) 2),.ld 0 2 true (fun _=>Dat.cells (DBig.mk m ⟨d,t⟩)),.ct g0 4 89 false [] [] [(kf false (.f 2) e (fun _=>u)).a,(kf false (.f 1) d (fun _=>t)).a] (fun _ G=>r4mul_ctv l e u m d t (by omega) (by omega) n3 hn3 l2 hl2 n4 hn4),.v fun G=>.tuple #[ag (DBig.mk n3 ⟨l2,(G 4).ss 0⟩),iv n4],.v fun G=>ag (DBig.mk n3 ⟨l2,(G 4).ss 0⟩),.k (iv n4),.nb 8 3 (fun b=>pp b 0) 27 (fun _=>ca (DBig.mk 0 ⟨[],{}⟩)),.st 3 (fun G=>.blk ((G 8).b) (ca (DBig.mk n3 ⟨l2,(G 4).ss 0⟩)) 27),.k (iv n4)] fun _ _ G5 kw5=>?_;intro S s;obtain ⟨⟨kl6, -⟩, -⟩:Lq l2 (((G5 4).ss 0).v)∧True:=kq kw5;clear kw5;refine nm (if (Bg.RtB n1 l1∧Bg.RtB n3 l2) then Bg.cmpI (Bg.zv n1 l1) (Bg.zv n3 l2) else 0:Int) fun n5 hn5=>?_;refine V.g [.ld 2 0 true (fun _=>Dat.cells (DBig.mk n1 ⟨l1,(G4 4).ss 0⟩)),.ld 3 0 true (fun _=>Dat.cells (DBig.mk n3 ⟨l2,(G5 4).ss 0⟩)),.cp g0 2 82 [(kf true (.f 4) l1 (fun _=>(G4 4).ss 0)).a,(kf true (.f 5) l2 (fun _=>(G5 4).ss 0)).a] (fun _ G=>r4cmp_ctv n1 l1 ((G4 4).ss 0) n3 l2 ((G5 4).ss 0) n5 hn5),.k (iv n5)] fun _ _ G6=>?_;intro S s;have e0:n5=if Fr.FrB j c m d∧Fr.FrB l e n i then Fr.cmpQ (Fr.fq j c d) (Fr.fq l e i) else 0:=by rw [if_pos hRR,hn5,if_pos ⟨z4.rt,z9.rt⟩,z4.v,z9.v];exact Fr.cmpQ_is _ _
  exact V.rt [0] [] [] [] [] [] (iv n5) (cong1 (fun (x0:Int)=>(iv x0:Value)) e0)
theorem r5cmp_ctv (e:Int) (a:List Int) (g:SV) (h:Int) (b:List Int) (i:SV) (f:Int) (c:List Int) (j:SV) (k:Int) (d:List Int) (l:SV) (haP:a.length≤1073741824) (haQ:b.length≤1073741824) (hbP:c.length≤1073741824) (hbQ:d.length≤1073741824) (rv0:Int) (erv0:rv0=if Fr.FrB e a h b∧Fr.FrB f c k d then Fr.cmpQ (Fr.fq e a b) (Fr.fq f c d) else 0) :
    Cp Tryz.prog 47 #[ag (DFrac.mk ⟨e,a,g⟩ ⟨h,b,i⟩),ag (DFrac.mk ⟨f,c,j⟩ ⟨k,d,l⟩)] [fs true a g,fs true b i,fs true c j,fs true d l] (iv rv0):=by
  subst erv0;exact r5cmp_ct e a g h b i f c j k d l haP haQ hbP hbQ

open Go Go.RowKit Go.WideShapes Go.ChangeShapes
section
variable {H : Type} {enc : TypeId × Value → H} {P : Program} {w : World} {base : Nat} {sp : Nat → Bool} {held : Bool}
theorem arg_int {r:Reach} {b0:Nat} {t:TypeId} {k:IntKind} (ht:P.underlying t=some (.int k)) {v:Value} {d:DataW H} {ps:List MemPlace} (hv:Value.okWide P w r b0 t v) (h:DataW.Trod enc P w base sp held t v d ps):∃ n,v=.int k n∧(Lit.int k n).wf=true:=by
  obtain ⟨n,hn⟩:=h
  obtain ⟨m,rfl⟩:=okWide_int ht hv
  obtain ⟨n,h1,_,h2⟩:=DataW.trod_int ht hn
  cases h1
  exact ⟨_,rfl,h2⟩
theorem opens_string {k:TypeId} (ht:P.underlying k=some .string) (hc:P.cellsOf k=1):Opens P w k ByteArray :=
  ⟨hc,by decide,fun h=>by obtain ⟨s,rfl,_,_⟩:=DataW.trod_string ht h;exact ⟨s,rfl,trivial⟩⟩
end

open Go Go.Proofs
set_option maxRecDepth 10000 in
theorem lltr_ct (c:Int) :
    Cp Tryz.prog 93 #[.int .u8 c] [] (bv (decide (Un.ltr c))):=by
  refine V.fn mo Tryz.func93 17 0 (by kernel_rfl) fun w H ε k0=>?_;clear k0
  refine V.g [.kb false] fun _ _ G1=>?_;intro S s
  refine nm (((decide (97≤c)) && (decide (c≤122))) || ((decide (65≤c)) && (decide (c≤90))):Bool) fun p1 hp1=>?_;refine V.g [.k (.int .u8 c),.k (bv (decide (97≤c))),.k (bv (decide (97≤c))),.k (.int .u8 c),.k (bv (decide (c≤122))),.and g0 false (decide (97≤c)) (decide (c≤122)),.k (bv ((decide (97≤c)) && (decide (c≤122)))),.k (.int .u8 c),.k (bv (decide (65≤c))),.k (bv (decide (65≤c))),.k (.int .u8 c),.k (bv (decide (c≤90))),.and (gF (b:=(decide (97≤c)) && (decide (c≤122))) (iAF iDF iDF)) false (decide (65≤c)) (decide (c≤90)),.orn g0 false ((decide (97≤c)) && (decide (c≤122))) ((decide (65≤c)) && (decide (c≤90))) p1 hp1,.k (bv p1)] fun _ _ G2=>?_;intro S s
  have e0:p1=decide (Un.ltr c):=by
    refine Bool.eq_iff_iff.2 (Iff.trans (iN hp1 (iOT (iAT iDT iDT) (iAT iDT iDT))) (Iff.trans ?_ decide_eq_true_iff.symm));exact Iff.rfl
  exact V.rt [0] [] [] [] [] [] (bv p1) (cong1 (fun (x0:Bool)=>(bv x0:Value)) e0)
set_option maxRecDepth 10000 in
theorem ldgt_ct (c:Int) :
    Cp Tryz.prog 133 #[.int .u8 c] [] (bv (decide (Tb.dgt c))):=by
  refine V.fn mo Tryz.func133 9 0 (by kernel_rfl) fun w H ε k0=>?_;clear k0
  refine V.g [.kb false] fun _ _ G1=>?_;intro S s
  refine V.g [.k (.int .u8 c),.k (bv (decide (48≤c))),.k (bv (decide (48≤c))),.k (.int .u8 c),.k (bv (decide (c≤57))),.and g0 false (decide (48≤c)) (decide (c≤57)),.k (bv ((decide (48≤c)) && (decide (c≤57))))] fun _ _ G2=>?_;intro S s
  have e0:((decide (48≤c)) && (decide (c≤57)))=decide (Tb.dgt c):=by
    refine Bool.eq_iff_iff.2 (Iff.trans (iAT iDT iDT) (Iff.trans ?_ decide_eq_true_iff.symm));exact Iff.rfl
  exact V.rt [0] [] [] [] [] [] (bv ((decide (48≤c)) && (decide (c≤57)))) (cong1 (fun (x0:Bool)=>(bv x0:Value)) e0)
set_option maxRecDepth 10000 in
theorem linn_ct (c:Int) :
    Cp Tryz.prog 95 #[.int .u8 c] [] (bv (decide (Tb.inn c))):=by
  refine V.fn mo Tryz.func95 13 0 (by kernel_rfl) fun w H ε k0=>?_;clear k0
  refine V.g [.kb false] fun _ _ G1=>?_;intro S s
  refine nm (((decide (Un.ltr c)) || (decide (Tb.dgt c))) || (decide (c=95)):Bool) fun p1 hp1=>?_;refine V.g [.k (.int .u8 c),.cp g0 1 93 [] (fun _ G=>lltr_ct c),.k (bv (decide (Un.ltr c))),.k (.int .u8 c),.cp (gF (b:=decide (Un.ltr c)) iDF) 4 133 [] (fun hg G=>ldgt_ct c),.or g0 false (decide (Un.ltr c)) (decide (Tb.dgt c)),.k (bv ((decide (Un.ltr c)) || (decide (Tb.dgt c)))),.k (.int .u8 c),.k (bv (decide (c=95))),.orn g0 false ((decide (Un.ltr c)) || (decide (Tb.dgt c))) (decide (c=95)) p1 hp1,.k (bv p1)] fun _ _ G2=>?_;intro S s
  have e0:p1=decide (Tb.inn c):=by
    refine Bool.eq_iff_iff.2 (Iff.trans (iN hp1 (iOT (iOT iDT iDT) iDT)) (Iff.trans ?_ decide_eq_true_iff.symm));exact Iff.rfl
  exact V.rt [0] [] [] [] [] [] (bv p1) (cong1 (fun (x0:Bool)=>(bv x0:Value)) e0)
set_option maxRecDepth 10000 in
theorem lspan_ct (s:ByteArray) (hs:s.size≤1000000) :
    Cp Tryz.prog 94 #[tv s,.func (.func 95) #[] #[]] [] (iv (Tb.spn s:Int)):=by
  refine V.fn mo Tryz.func94 20 0 (by kernel_rfl) fun w H ε k0=>?_;clear k0
  refine V.g [.k (iv 0)] fun _ _ G1=>?_;intro S_ s_
  refine V.g [.k (iv 0)] fun _ _ G2=>?_;intro S_ s_
  refine V.loop (γ:=Int) (fun n=>⟨[(0,tv s),(1,.func (.func 95) #[] #[]),(5,iv n)],[],[]⟩) (fun n=>(0≤n)∧(n≤(s.size:Int))∧(∀ j,j < n.toNat→Tb.inn (((bl s).getD j default).toNat:Int))) (fun n=>((s.size:Int)-n).toNat) 0 (by kernel_rfl) [] (by kernel_rfl) ?_ ?_
  · refine ⟨?_,?_,?_⟩
    · show 0≤(0:Int);omega
    · show (0:Int)≤(s.size:Int);omega
    show ∀ j,j < (0:Int).toNat→Tb.inn (((bl s).getD j default).toNat:Int);intro j hj;simp at hj
  rintro n hF1 kw3 Z1 hZ1;have hF1:(0≤n)∧(n≤(s.size:Int))∧(∀ j,j < n.toNat→Tb.inn (((bl s).getD j default).toNat:Int)):=hF1;obtain ⟨hf1,hf2,hf3⟩:=hF1;clear kw3;refine nm ((bl s).getD n.toNat default:UInt8) fun c1 hc1=>?_;refine nm ((decide (n < (s.size:Int))) && (decide (Tb.inn (c1.toNat:Int))):Bool) fun p1 hp1=>?_;refine V.g [.k (iv n),.k (tv s),.k (iv (s.size:Int)),.k (bv (decide (n < (s.size:Int)))),.k (bv (decide (n < (s.size:Int)))),.k (.func (.func 95) #[] #[]),.k (tv s),.k (iv n),.sid (gT (b:=decide (n < (s.size:Int))) iDT) s n c1 hc1 (fun hg=>⟨by omega,by omega⟩),.cp (gT (b:=decide (n < (s.size:Int))) iDT) 9 95 [] (fun hg G=>linn_ct (c1.toNat:Int)),.andn g0 false (decide (n < (s.size:Int))) (decide (Tb.inn (c1.toNat:Int))) p1 hp1] fun _ _ G3=>?_;intro S_ s_;refine V.cn (b:=p1) (iN hp1 (iAT iDT iDT)) (iN hp1 (iAF iDF iDF)) (fun q1=>?_) (fun q2=>?_)
  · refine V.g [.k (iv n),.a (n+1) (by omega) (by omega),.k (iv (n+1))] fun _ _ G4=>?_;intro S_ s_
    refine V.rnd hZ1 (n+1) [] (by kernel_rfl) ?_ ?_
    · refine ⟨?_,?_,?_⟩
      · show 0≤(n+1);omega
      · show (n+1)≤(s.size:Int);omega
      show ∀ j,j < (n+1).toNat→Tb.inn (((bl s).getD j default).toNat:Int);intro j hj;by_cases e:j < n.toNat
      · exact hf3 j e
      rw [show j=n.toNat by omega,← hc1];exact (q1).2
    show ((s.size:Int)-(n+1)).toNat < ((s.size:Int)-n).toNat;omega
  refine V.g [.k (iv n),.k (iv n)] fun _ _ G5=>?_;intro S_ s_
  have e0:n=(Tb.spn s:Int):=by rw [Tb.spn_at (s:=s) (n:=n.toNat) (by omega) hf3 (by have hqq:=q2;rcases hqq with h | h;exact .inl (by omega);right;rw [hc1] at h;exact h)];omega
  exact V.rt [0] [] [] [] [] [] (iv n) (cong1 (fun (x0:Int)=>(iv x0:Value)) e0)
theorem lspan_ctv (s:ByteArray) (hs:s.size≤1000000) (rv0:Int) (erv0:rv0=(Tb.spn s:Int)) :
    Cp Tryz.prog 94 #[tv s,.func (.func 95) #[] #[]] [] (iv rv0):=by
  subst erv0;exact lspan_ct s hs
set_option maxRecDepth 10000 in
theorem lname_ct (s:ByteArray) (hs:s.size≤1000000) :
    Cp Tryz.prog 53 #[tv s] [] (bv (decide (Tb.Nm s))):=by
  refine V.fn mo Tryz.func53 22 0 (by kernel_rfl) fun w H ε k0=>?_;clear k0
  refine V.g [.kb false] fun _ _ G1=>?_;intro S_ s_
  refine nm ((bl s).getD (0:Int).toNat default:UInt8) fun c1 hc1=>?_;refine nm ((!(decide (s=ByteArray.empty))) && (decide (Un.ltr (c1.toNat:Int))):Bool) fun p1 hp1=>?_;refine nm ((Tb.spn s:Int):Int) fun n1 hn1=>?_;refine nm ((p1 && (decide ((s.size:Int)≤20))) && (decide (n1=(s.size:Int))):Bool) fun p2 hp2=>?_;refine V.g [.k (tv s),.sne s ByteArray.empty,.k (bv (!(decide (s=ByteArray.empty)))),.k (tv s),.sid (gT (b:=!(decide (s=ByteArray.empty))) (iNT iDF)) s (0:Int) c1 hc1 (fun hg=>⟨by omega,by have:=Dm.size_ne hg;omega⟩),.cp (gT (b:=!(decide (s=ByteArray.empty))) (iNT iDF)) 5 93 [] (fun hg G=>lltr_ct (c1.toNat:Int)),.andn g0 false (!(decide (s=ByteArray.empty))) (decide (Un.ltr (c1.toNat:Int))) p1 hp1,.k (bv p1),.k (tv s),.k (iv (s.size:Int)),.k (bv (decide ((s.size:Int)≤20))),.and g0 false p1 (decide ((s.size:Int)≤20)),.k (bv (p1 && (decide ((s.size:Int)≤20)))),.k (tv s),.cp (gT (b:=p1 && (decide ((s.size:Int)≤20))) (iAT (iN hp1 (iAT (iNT iDF) iDT)) iDT)) 14 94 [] (fun hg G=>lspan_ctv s (by omega) n1 hn1),.k (tv s),.k (iv (s.size:Int)),.k (bv (decide (n1=(s.size:Int)))),.andn g0 false (p1 && (decide ((s.size:Int)≤20))) (decide (n1=(s.size:Int))) p2 hp2,.k (bv p2)] fun _ _ G2=>?_;intro S_ s_
  have e0:p2=decide (Tb.Nm s):=by
    refine Bool.eq_iff_iff.2 (Iff.trans (iN hp2 (iAT (iAT (iN hp1 (iAT (iNT iDF) iDT)) iDT) iDT)) (Iff.trans ?_ decide_eq_true_iff.symm));rw [hc1,hn1];exact Iff.rfl
  exact V.rt [0] [] [] [] [] [] (bv p2) (cong1 (fun (x0:Bool)=>(bv x0:Value)) e0)
set_option maxRecDepth 10000 in
theorem tin_ct (n:Int) :
    Cp Tryz.prog 54 #[iv n] [] (bv (decide (Tb.inR n))):=by
  refine V.fn mo Tryz.func54 9 0 (by kernel_rfl) fun w H ε k0=>?_;clear k0
  refine V.g [.kb false] fun _ _ G1=>?_;intro S s
  refine nm ((decide ((-1099511627776)≤n)) && (decide (n≤1099511627776)):Bool) fun p1 hp1=>?_;refine V.g [.k (iv n),.k (bv (decide ((-1099511627776)≤n))),.k (bv (decide ((-1099511627776)≤n))),.k (iv n),.k (bv (decide (n≤1099511627776))),.andn g0 false (decide ((-1099511627776)≤n)) (decide (n≤1099511627776)) p1 hp1,.k (bv p1)] fun _ _ G2=>?_;intro S s
  have e0:p1=decide (Tb.inR n):=by
    refine Bool.eq_iff_iff.2 (Iff.trans (iN hp1 (iAT iDT iDT)) (Iff.trans ?_ decide_eq_true_iff.symm));exact Iff.rfl
  exact V.rt [0] [] [] [] [] [] (bv p1) (cong1 (fun (x0:Bool)=>(bv x0:Value)) e0)
set_option maxRecDepth 10000 in
theorem tworth_ct (h c:ByteArray) (d:List DRow) (e:SV) (n:Int) (hu:(Un.read c).2=0) (hs:c.size≤1000000) (hn: -9223372036854775808≤n∧n≤9223372036854775807) :
    Ct Tryz.prog 38 #[ag (DTable.mk h c ⟨d,e⟩),iv n] [fs true d e] [] (fun g=>ag (DFrac.mk ⟨(Fr.rS (True) ((n:Rat) * Tb.uf c)),Fr.rD (True) ((n:Rat) * Tb.uf c),(g.ss 0)⟩ ⟨(Fr.rT (True)),Fr.rE (True) ((n:Rat) * Tb.uf c),(g.ss 1)⟩)) (fun g=>[fs true (Fr.rD (True) ((n:Rat) * Tb.uf c)) (g.ss 0),fs true (Fr.rE (True) ((n:Rat) * Tb.uf c)) (g.ss 1)]) (fun g=>[]) (fun g=>[]):=by
  refine V.fn mo Tryz.func38 24 4 (by kernel_rfl) fun w H ε k0=>?_;obtain ⟨⟨kl1, -⟩, -⟩:Lq d e.v∧True:=kq k0
  clear k0;refine V.g [.nb 0 0 (fun b=>pp b 0) 24 (fun _=>ca (DTable.mk h c ⟨d,e⟩)),.nb 1 1 (fun b=>pp b 0) 29 (fun _=>ca (DFrac.mk ⟨0,[],{}⟩ ⟨0,[],{}⟩))] fun _ _ G1=>?_;intro S s
  refine nm (Un.dv ((Un.read c).1) 0:Int) fun n1 hn1=>?_;refine nm (Un.dv ((Un.read c).1) 1:Int) fun n2 hn2=>?_;refine nm (Un.dv ((Un.read c).1) 2:Int) fun n3 hn3=>?_;refine nm (Un.dv ((Un.read c).1) 3:Int) fun n4 hn4=>?_;refine nm (Un.dv ((Un.read c).1) 4:Int) fun n5 hn5=>?_;refine nm (Un.dv ((Un.read c).1) 5:Int) fun n6 hn6=>?_;refine nm (Fr.rS (((Un.read c).1).isSome=true) (Un.fv ((Un.read c).1)):Int) fun n7 hn7=>?_;refine nl (Fr.rD (((Un.read c).1).isSome=true) (Un.fv ((Un.read c).1))) fun l1 hl1 hl1n=>?_;refine nm (Fr.rT (((Un.read c).1).isSome=true):Int) fun n8 hn8=>?_;refine nl (Fr.rE (((Un.read c).1).isSome=true) (Un.fv ((Un.read c).1))) fun l2 hl2 hl2n=>?_;refine nm ((Un.read c).2:Int) fun n9 hn9=>?_;refine V.r [.k (pp ((G1 0).b) 1),.ld 0 1 false (fun _=>[tv c]),.ct g0 2 19 false [] [] [] (fun _ G=>uread_ctv c (by omega) n1 hn1 n2 hn2 n3 hn3 n4 hn4 n5 hn5 n6 hn6 n7 hn7 l1 hl1 n8 hn8 l2 hl2 n9 hn9),.v fun G=>.tuple #[.agg #[iv n1,iv n2,iv n3,iv n4,iv n5,iv n6,iv n7,((G 2).ss 0).v,iv n8,((G 2).ss 1).v],iv n9],.v fun G=>.agg #[iv n1,iv n2,iv n3,iv n4,iv n5,iv n6,iv n7,((G 2).ss 0).v,iv n8,((G 2).ss 1).v],.k (iv n9),.nb 6 2 (fun b=>pp b 0) 42 (fun _=>#[iv 0,iv 0,iv 0,iv 0,iv 0,iv 0,iv 0,.slice none 0 0,iv 0,.slice none 0 0]),.st 2 (fun G=>.blk ((G 6).b) #[iv n1,iv n2,iv n3,iv n4,iv n5,iv n6,iv n7,((G 2).ss 0).v,iv n8,((G 2).ss 1).v] 42),.k (iv n9)] fun _ _ G2 kw2=>?_;intro S s
  obtain ⟨⟨kl2, -⟩,⟨kl3, -⟩, -⟩:Lq l1 (((G2 2).ss 0).v)∧Lq l2 (((G2 2).ss 1).v)∧True:=kq kw2;clear kw2;have zU:=Fr.Fz.of (Un.read_some hu) hn7 hl1 hn8 hl2;have hUl:=zU.len (Tb.uf_hb hu).1;have hUl1:=hUl.1;have hUl2:=hUl.2;refine nm (Bg.sgn n:Int) fun n10 hn10=>?_;refine nl (Bg.dig n.natAbs) fun l3 hl3 hl3n=>?_;refine nl (Bg.dig 1) fun l4 hl4 hl4n=>?_;refine nm (Fr.rS (Fr.FrB n10 l3 (1:Int) l4∧Fr.FrB n7 l1 n8 l2) ((Fr.fq n10 l3 l4) * (Fr.fq n7 l1 l2)):Int) fun n11 hn11=>?_;refine nl (Fr.rD (Fr.FrB n10 l3 (1:Int) l4∧Fr.FrB n7 l1 n8 l2) ((Fr.fq n10 l3 l4) * (Fr.fq n7 l1 l2))) fun l5 hl5 hl5n=>?_;refine nm (Fr.rT (Fr.FrB n10 l3 (1:Int) l4∧Fr.FrB n7 l1 n8 l2):Int) fun n12 hn12=>?_;refine nl (Fr.rE (Fr.FrB n10 l3 (1:Int) l4∧Fr.FrB n7 l1 n8 l2) ((Fr.fq n10 l3 l4) * (Fr.fq n7 l1 l2))) fun l6 hl6 hl6n=>?_;refine nm (if ¬ (Fr.FrB n10 l3 (1:Int) l4∧Fr.FrB n7 l1 n8 l2) then (1:Int) else 0:Int) fun n13 hn13=>?_;have zi:Fr.Fz n10 l3 1 l4 (n:Rat):=by subst_vars;exact Un.intz n
  have hil:=zi.len (Fr.Hb.int hn);have hil1:=hil.1;have hil2:=hil.2;have zf:=Fr.Fz.of (And.intro zi.rt zU.rt) hn11 hl5 hn12 hl6;rw [zi.v,zU.v] at zf;refine V.r [.k (iv n),.ct g0 1 43 false [] [] [] (fun _ G=>fint_ctv n (by omega) n10 hn10 l3 hl3 l4 hl4),.k (pp ((G2 6).b) 6),.ld 2 6 true (fun _=>Dat.cells (DFrac.mk ⟨n7,l1,(G2 2).ss 0⟩ ⟨n8,l2,(G2 2).ss 1⟩)),.ct g0 4 45 false [] [] [(kf true (.g 1 0) l3 (fun G=>(G 1).ss 0)).a,(kf true (.g 1 1) l4 (fun G=>(G 1).ss 1)).a,(kf true (.f 1) l1 (fun _=>(G2 2).ss 0)).a,(kf true (.f 2) l2 (fun _=>(G2 2).ss 1)).a] (fun _ G=>fmul_ctv n10 l3 ((G 1).ss 0) (1:Int) l4 ((G 1).ss 1) n7 l1 ((G2 2).ss 0) n8 l2 ((G2 2).ss 1) (by omega) (by omega) (by omega) (by omega) n11 hn11 l5 hl5 n12 hn12 l6 hl6 n13 hn13),.v fun G=>.tuple #[ag (DFrac.mk ⟨n11,l5,(G 4).ss 0⟩ ⟨n12,l6,(G 4).ss 1⟩),iv n13],.v fun G=>ag (DFrac.mk ⟨n11,l5,(G 4).ss 0⟩ ⟨n12,l6,(G 4).ss 1⟩),.k (iv n13),.nb 8 3 (fun b=>pp b 0) 29 (fun _=>ca (DFrac.mk ⟨0,[],{}⟩ ⟨0,[],{}⟩)),.st 3 (fun G=>.blk ((G 8).b) (ca (DFrac.mk ⟨n11,l5,(G 4).ss 0⟩ ⟨n12,l6,(G 4).ss 1⟩)) 29),.k (iv n13)] fun _ _ G3 kw3=>?_;intro S s
  obtain ⟨⟨kl4, -⟩,⟨kl5, -⟩,⟨kl6, -⟩,⟨kl7, -⟩, -⟩:Lq l3 (((G3 1).ss 0).v)∧Lq l4 (((G3 1).ss 1).v)∧Lq l5 (((G3 4).ss 0).v)∧Lq l6 (((G3 4).ss 1).v)∧True:=kq kw3;clear kw3;refine V.g [.ld 3 0 true (fun _=>Dat.cells (DFrac.mk ⟨n11,l5,(G3 4).ss 0⟩ ⟨n12,l6,(G3 4).ss 1⟩)),.st 1 (fun _=>.blk ((G1 1).b) (ca (DFrac.mk ⟨n11,l5,(G3 4).ss 0⟩ ⟨n12,l6,(G3 4).ss 1⟩)) 29)] fun _ _ G4=>?_;intro S s;have e1:l5=Fr.rD (True) ((n:Rat) * Tb.uf c):=(Fr.Fz.ret zf True.intro (rfl)).2.1;subst e1;have e3:l6=Fr.rE (True) ((n:Rat) * Tb.uf c):=(Fr.Fz.ret zf True.intro (rfl)).2.2.2;subst e3;have e0:n11=Fr.rS (True) ((n:Rat) * Tb.uf c):=(Fr.Fz.ret zf True.intro (rfl)).1;have e2:n12=Fr.rT (True):=(Fr.Fz.ret zf True.intro (rfl)).2.2.1;exact V.rt [1] [(G3 4).ss 0,(G3 4).ss 1] [fun _=>{},fun _=>{}] [] [5,6] [] (ag (DFrac.mk ⟨n11,(Fr.rD (True) ((n:Rat) * Tb.uf c)),(G3 4).ss 0⟩ ⟨n12,(Fr.rE (True) ((n:Rat) * Tb.uf c)),(G3 4).ss 1⟩)) (cong2 (fun (x0 x2:Int)=>(.agg #[iv x0,((G3 4).ss 0).v,iv x2,((G3 4).ss 1).v]:Value)) e0 e2)
theorem tworth_ctv (d a:ByteArray) (b:List DRow) (c:SV) (n:Int) (hu:(Un.read a).2=0) (hs:a.size≤1000000) (hn: -9223372036854775808≤n∧n≤9223372036854775807) (rv0:Int) (erv0:rv0=Fr.rS (True) ((n:Rat) * Tb.uf a)) (rv1:List Int) (erv1:rv1=Fr.rD (True) ((n:Rat) * Tb.uf a)) (rv2:Int) (erv2:rv2=Fr.rT (True)) (rv3:List Int) (erv3:rv3=Fr.rE (True) ((n:Rat) * Tb.uf a)) :
    Ct Tryz.prog 38 #[ag (DTable.mk d a ⟨b,c⟩),iv n] [fs true b c] [] (fun g=>ag (DFrac.mk ⟨rv0,rv1,(g.ss 0)⟩ ⟨rv2,rv3,(g.ss 1)⟩)) (fun g=>[fs true rv1 (g.ss 0),fs true rv3 (g.ss 1)]) (fun g=>[]) (fun g=>[]):=by
  subst erv0 erv1 erv2 erv3;exact tworth_ct d a b c n hu hs hn
set_option maxRecDepth 10000 in
theorem tcmp_ct (e n i:Int) (c:List Int) (j:SV) (m:Int) (d:List Int) (l:SV) (hk:Fr.FrB i c m d) (hr: -9223372036854775808≤e∧e≤9223372036854775807) (hkeyP:c.length≤17179869184) (hkeyQ:d.length≤17179869184) :
    Cp Tryz.prog 78 #[ag (DRow.mk e n),ag (DFrac.mk ⟨i,c,j⟩ ⟨m,d,l⟩)] [fs true c j,fs true d l] (iv (if (e:Rat)≤(Fr.fq i c d) then (-1:Int) else 1)):=by
  refine V.fn mo Tryz.func78 11 2 (by kernel_rfl) fun w H ε k0=>?_;obtain ⟨⟨kl1, -⟩,⟨kl2, -⟩, -⟩:Lq c j.v∧Lq d l.v∧True:=kq k0
  clear k0;refine V.g [.nb 0 0 (fun b=>pp b 0) 58 (fun _=>ca (DRow.mk e n)),.nb 1 1 (fun b=>pp b 0) 29 (fun _=>ca (DFrac.mk ⟨i,c,j⟩ ⟨m,d,l⟩)),.k (iv 0)] fun _ _ G1=>?_;intro S s
  refine nm (Bg.sgn e:Int) fun n1 hn1=>?_;refine nl (Bg.dig e.natAbs) fun l1 hl1 hl1n=>?_;refine nl (Bg.dig 1) fun l2 hl2 hl2n=>?_;refine nm (if Fr.FrB n1 l1 (1:Int) l2∧Fr.FrB i c m d then Fr.cmpQ (Fr.fq n1 l1 l2) (Fr.fq i c d) else 0:Int) fun n2 hn2=>?_;have zi:Fr.Fz n1 l1 1 l2 (e:Rat):=by subst_vars;exact Un.intz e
  have hil:=zi.len (Fr.Hb.int hr);have hil1:=hil.1;have hil2:=hil.2;have hcm:n2=Fr.cmpQ (e:Rat) (Fr.fq i c d):=by rw [hn2,if_pos ⟨zi.rt,hk⟩,zi.v]
  have hc2:n2≤0↔(e:Rat)≤(Fr.fq i c d):=by rw [hcm];exact Tb.cmp_le
  refine V.r [.k (pp ((G1 0).b) 0),.ld 0 0 false (fun _=>[iv e]),.ct g0 2 43 false [] [] [] (fun _ G=>fint_ctv e (by omega) n1 hn1 l1 hl1 l2 hl2),.ld 1 0 true (fun _=>Dat.cells (DFrac.mk ⟨i,c,j⟩ ⟨m,d,l⟩)),.cp g0 4 79 [(kf true (.g 2 0) l1 (fun G=>(G 2).ss 0)).a,(kf true (.g 2 1) l2 (fun G=>(G 2).ss 1)).a,(kf false (.f 0) c (fun _=>j)).a,(kf false (.f 1) d (fun _=>l)).a] (fun _ G=>fcmp_ctv n1 l1 ((G 2).ss 0) (1:Int) l2 ((G 2).ss 1) i c j m d l (by omega) (by omega) (by omega) (by omega) n2 hn2),.k (bv (decide (n2≤0)))] fun _ _ G2 kw2=>?_;intro S s
  obtain ⟨⟨kl3, -⟩,⟨kl4, -⟩, -⟩:Lq l1 (((G2 2).ss 0).v)∧Lq l2 (((G2 2).ss 1).v)∧True:=kq kw2;clear kw2;refine V.cn (b:=decide (n2≤0)) iDT iDF (fun q1=>?_) (fun q2=>?_)
  · refine V.g [.k (iv (-1))] fun _ _ G3=>?_;intro S s
    have e0:(-1:Int)=if (e:Rat)≤(Fr.fq i c d) then (-1:Int) else 1:=(if_pos (hc2.1 q1)).symm
    exact V.rt [0] [] [] [] [] [] (iv (-1)) (cong1 (fun (x0:Int)=>(iv x0:Value)) e0)
  refine V.g [.k (iv 1)] fun _ _ G4=>?_;intro S s
  have e0:(1:Int)=if (e:Rat)≤(Fr.fq i c d) then (-1:Int) else 1:=(if_neg (fun h=>q2 (hc2.2 h))).symm
  exact V.rt [0] [] [] [] [] [] (iv 1) (cong1 (fun (x0:Int)=>(iv x0:Value)) e0)
theorem tcmp_ctv (c h d:Int) (a:List Int) (e:SV) (f:Int) (b:List Int) (g:SV) (hk:Fr.FrB d a f b) (hr: -9223372036854775808≤c∧c≤9223372036854775807) (hkeyP:a.length≤17179869184) (hkeyQ:b.length≤17179869184) (rv0:Int) (erv0:rv0=if (c:Rat)≤(Fr.fq d a b) then (-1:Int) else 1) :
    Cp Tryz.prog 78 #[ag (DRow.mk c h),ag (DFrac.mk ⟨d,a,e⟩ ⟨f,b,g⟩)] [fs true a e,fs true b g] (iv rv0):=by
  subst erv0;exact tcmp_ct c h d a e f b g hk hr hkeyP hkeyQ
set_option maxRecDepth 10000 in
theorem tbs_ct (x:List DRow) (xs:SV) (e:Int) (c:List Int) (m:SV) (o:Int) (d:List Int) (n:SV) (hso:Tb.So x) (hk:Fr.FrB e c o d) (htargetP:c.length≤17179869184) (htargetQ:d.length≤17179869184) :
    Cp Tryz.prog 77 #[xs.v,ag (DFrac.mk ⟨e,c,m⟩ ⟨o,d,n⟩),.func (.func 78) #[] #[]] [fs true x xs,fs true c m,fs true d n] (.tuple #[iv (Tb.aft x (Fr.fq e c d):Int),bv false]):=by
  refine V.fn mo Tryz.func77 49 1 (by kernel_rfl) fun w H ε k0=>?_;obtain ⟨⟨kl1, -⟩,⟨kl2, -⟩,⟨kl3, -⟩, -⟩:Lq x xs.v∧Lq c m.v∧Lq d n.v∧True:=kq k0
  clear k0;have hxl:=hso.2.1;refine V.g [.nb 0 0 (fun b=>pp b 0) 29 (fun _=>ca (DFrac.mk ⟨e,c,m⟩ ⟨o,d,n⟩)),.k (iv 0),.kb false] fun _ _ G1=>?_;intro S s
  refine V.g [.k (xs.v),.ln (kf false (.f 0) x (fun _=>xs)),.k (iv (x.length:Int))] fun _ _ G2=>?_;intro S s
  refine V.g [.k (iv (x.length:Int)),.k (iv 0),.k (iv (x.length:Int))] fun _ _ G3=>?_;intro S s
  refine V.loop (γ:=Int × Int) (fun ⟨i,j⟩=>⟨[(0,xs.v),(2,.func (.func 78) #[] #[]),(4,pp ((G1 0).b) 0),(8,iv (x.length:Int)),(9,iv i),(10,iv j)],[fs false x xs,fs false c m,fs false d n],[.blk ((G1 0).b) (ca (DFrac.mk ⟨e,c,m⟩ ⟨o,d,n⟩)) 29]⟩) (fun ⟨i,j⟩=>(0≤i)∧(i≤j)∧(j≤(x.length:Int))∧(∀ k,k < i.toNat→(Tb.ky x k:Rat)≤(Fr.fq e c d))∧(∀ k,j.toNat≤k→k < x.length→(Fr.fq e c d) < (Tb.ky x k:Rat))) (fun ⟨i,j⟩=>(j-i).toNat) (0,(x.length:Int)) (by kernel_rfl) [0,1,2] (by kernel_rfl) ?_ ?_
  · refine ⟨?_,?_,?_,?_,?_⟩
    · show 0≤(0:Int);omega
    · show (0:Int)≤(x.length:Int);omega
    · show (x.length:Int)≤(x.length:Int);omega
    · show ∀ k,k < (0:Int).toNat→(Tb.ky x k:Rat)≤(Fr.fq e c d);intro k hk;simp at hk
    show ∀ k,(x.length:Int).toNat≤k→k < x.length→(Fr.fq e c d) < (Tb.ky x k:Rat);intro k h1 h2;omega
  rintro ⟨i,j⟩ hF1 kw4 Z1 hZ1;have hF1:(0≤i)∧(i≤j)∧(j≤(x.length:Int))∧(∀ k,k < i.toNat→(Tb.ky x k:Rat)≤(Fr.fq e c d))∧(∀ k,j.toNat≤k→k < x.length→(Fr.fq e c d) < (Tb.ky x k:Rat)):=hF1;obtain ⟨hf1,hf2,hf3,hf4,hf5⟩:=hF1;clear kw4;refine V.g [.k (iv i),.k (iv j),.k (bv (decide (i < j)))] fun _ _ G4=>?_;intro S s;refine V.cn (b:=decide (i < j)) iDT iDF (fun q1=>?_) (fun q2=>?_)
  · refine nm ((i+j) % 18446744073709551616:Int) fun n1 hn1=>?_;refine nm (n1 / 2:Int) fun n2 hn2=>?_;refine V.g [.k (iv i),.k (iv j),.a (i+j) (by omega) (by omega),.ek g0 .u64 (i+j) n1 (fun _=>by rw [wrapU64,hn1]),.shrm g0 .u64 .u64 n1 n2 1 (by decide) (by rw [hn2];rfl),.ek g0 .i64 n2 n2 (fun _=>by rw [IntKind.wrap_i64];omega),.k (iv n2)] fun _ _ G5=>?_;intro S s
    refine nm (x.getD n2.toNat default:DRow) fun x1 hx1=>?_;refine nm (if (x1.Key:Rat)≤(Fr.fq e c d) then (-1:Int) else 1:Int) fun n3 hn3=>?_;have hxk:Tb.ky x n2.toNat=x1.Key:=by rw [hx1];rfl
    have hxr:=hso.2.2 n2.toNat (by omega);rw [hxk] at hxr;have hxr1:=hxr.1;unfold Tb.inR at hxr1;refine V.g [.k (.func (.func 78) #[] #[]),.k (xs.v),.k (iv n2),.ix g0 (kf false (.f 0) x (fun _=>xs)) n2 (fun _=>⟨by omega,by omega⟩),.le g0 (kf false (.f 0) x (fun _=>xs)) n2 none false x1 hx1 (fun _=>⟨by omega,by omega⟩) true (fun _=>Dat.cells x1),.ld 0 0 true (fun _=>Dat.cells (DFrac.mk ⟨e,c,m⟩ ⟨o,d,n⟩)),.cp g0 6 78 [(kf false (.f 1) c (fun _=>m)).a,(kf false (.f 2) d (fun _=>n)).a] (fun _ G=>tcmp_ctv x1.Key x1.Value e c m o d n hk (by omega) (by omega) (by omega) n3 hn3),.k (bv (decide (n3 < 0)))] fun _ _ G6=>?_;intro S s
    refine V.cn (b:=decide (n3 < 0)) iDT iDF (fun q3=>?_) (fun q4=>?_)
    · have hle:(x1.Key:Rat)≤(Fr.fq e c d):=by have hqq:=q3;rw [hn3] at hqq;split at hqq;assumption;omega
      refine V.g [.k (iv n2),.a (n2+1) (by omega) (by omega),.k (iv (n2+1))] fun _ _ G7=>?_;intro S s
      refine V.rnd hZ1 (n2+1,j) [0,1,2] (by kernel_rfl) ?_ ?_
      · refine ⟨?_,?_,?_,?_,?_⟩
        · show 0≤(n2+1)
          first | omega | assumption
        · show (n2+1)≤j
          first | omega | assumption
        · show j≤(x.length:Int)
          first | omega | assumption
        · show ∀ k,k < (n2+1).toNat→(Tb.ky x k:Rat)≤(Fr.fq e c d);intro k hk;exact hso.lo (b:=n2.toNat) (by omega) (by omega) (by rw [hxk];exact hle)
        show ∀ k,j.toNat≤k→k < x.length→(Fr.fq e c d) < (Tb.ky x k:Rat)
        first | omega | assumption
      show (j-(n2+1)).toNat < (j-i).toNat;rw [hn2,hn1];omega
    have hgt:(Fr.fq e c d) < (x1.Key:Rat):=by have hqq:=q4;rw [hn3] at hqq;split at hqq;omega;exact Rat.not_le.1 ‹_›
    refine V.g [.k (iv n2),.k (iv n2)] fun _ _ G8=>?_;intro S s
    refine V.rnd hZ1 (i,n2) [0,1,2] (by kernel_rfl) ?_ ?_
    · refine ⟨?_,?_,?_,?_,?_⟩
      · show 0≤i
        first | omega | assumption
      · show i≤n2
        first | omega | assumption
      · show n2≤(x.length:Int)
        first | omega | assumption
      · show ∀ k,k < i.toNat→(Tb.ky x k:Rat)≤(Fr.fq e c d)
        first | omega | assumption
      show ∀ k,n2.toNat≤k→k < x.length→(Fr.fq e c d) < (Tb.ky x k:Rat);intro k hk hk2;have h1:=hso.le (a:=n2.toNat) (b:=k) (by omega) hk2;rw [hxk] at h1;exact Tb.ltle hgt h1
    show (n2-i).toNat < (j-i).toNat;rw [hn2,hn1];omega
  refine nm (x.getD i.toNat default:DRow) fun x2 hx2=>?_;refine nm (if (x2.Key:Rat)≤(Fr.fq e c d) then (-1:Int) else 1:Int) fun n4 hn4=>?_;refine nm ((decide (i < (x.length:Int))) && (decide (n4=0)):Bool) fun p1 hp1=>?_;have hyk:Tb.ky x i.toNat=x2.Key:=by rw [hx2];rfl
  have hyr:i < (x.length:Int)→Tb.inR x2.Key:=fun h=>by have:=(hso.2.2 i.toNat (by omega)).1;rw [hyk] at this;exact this
  refine V.g [.k (iv i),.k (iv i),.k (iv (x.length:Int)),.k (bv (decide (i < (x.length:Int)))),.k (bv (decide (i < (x.length:Int)))),.k (.func (.func 78) #[] #[]),.k (xs.v),.k (iv i),.ix (gT (b:=decide (i < (x.length:Int))) iDT) (kf false (.f 0) x (fun _=>xs)) i (fun hg=>⟨by omega,by omega⟩),.le (gT (b:=decide (i < (x.length:Int))) iDT) (kf false (.f 0) x (fun _=>xs)) i none false x2 hx2 (fun hg=>⟨by omega,by omega⟩) true (fun _=>Dat.cells x2),.ld 0 0 true (fun _=>Dat.cells (DFrac.mk ⟨e,c,m⟩ ⟨o,d,n⟩)),.cp (gT (b:=decide (i < (x.length:Int))) iDT) 11 78 [(kf false (.f 1) c (fun _=>m)).a,(kf false (.f 2) d (fun _=>n)).a] (fun hg G=>tcmp_ctv x2.Key x2.Value e c m o d n hk (by have:=hyr hg;unfold Tb.inR at this;omega) (by omega) (by omega) n4 hn4),.k (bv (decide (n4=0))),.andn g0 false (decide (i < (x.length:Int))) (decide (n4=0)) p1 hp1,.k (iv i),.k (bv p1)] fun _ _ G9=>?_;intro S s
  have e0:i=(Tb.aft x (Fr.fq e c d):Int):=by rw [Tb.aft_at (l:=x) (i:=i.toNat) (by omega) hf4 (by rcases Nat.lt_or_ge i.toNat x.length with h | h;exact .inr (hf5 _ (by omega) h);exact .inl (by omega))];omega
  have e1:p1=false:=by
    refine Bool.eq_false_iff.2 fun h=>?_;have h2:=(iN hp1 (iAT iDT iDT)).1 h
    have h3:=h2.2;rw [hn4] at h3;split at h3 <;> omega
  exact V.rt [0,0] [] [] [] [] [] (.tuple #[iv i,bv p1]) (cong2 (fun (x0:Int) (x1:Bool)=>(.tuple #[iv x0,bv x1]:Value)) e0 e1)
theorem tbs_ctv (x:List DRow) (xs:SV) (c:Int) (a:List Int) (d:SV) (e:Int) (b:List Int) (f:SV) (hso:Tb.So x) (hk:Fr.FrB c a e b) (htargetP:a.length≤17179869184) (htargetQ:b.length≤17179869184) (rv0:Int) (erv0:rv0=(Tb.aft x (Fr.fq c a b):Int)) :
    Cp Tryz.prog 77 #[xs.v,ag (DFrac.mk ⟨c,a,d⟩ ⟨e,b,f⟩),.func (.func 78) #[] #[]] [fs true x xs,fs true a d,fs true b f] (.tuple #[iv rv0,bv false]):=by
  subst erv0;exact tbs_ct x xs c a d e b f hso hk htargetP htargetQ

open Go Go.Proofs
set_option maxRecDepth 10000 in
theorem tafter_ct (p q:ByteArray) (e:List DRow) (j:SV) (i:Int) (c:List Int) (l:SV) (o:Int) (d:List Int) (m:SV) (hso:Tb.So e) (hk:Fr.FrB i c o d) (hkeyP:c.length≤17179869184) (hkeyQ:d.length≤17179869184) :
    Cp Tryz.prog 37 #[ag (DTable.mk p q ⟨e,j⟩),ag (DFrac.mk ⟨i,c,l⟩ ⟨o,d,m⟩)] [fs true e j,fs true c l,fs true d m] (.tuple #[iv (Tb.aft e (Fr.fq i c d):Int),bv (decide (0 < Tb.aft e (Fr.fq i c d)∧(Tb.ky e (Tb.aft e (Fr.fq i c d)-1):Rat)=(Fr.fq i c d)))]):=by
  refine V.fn mo Tryz.func37 31 2 (by kernel_rfl) fun w H ε k0=>?_;obtain ⟨⟨kl1, -⟩,⟨kl2, -⟩,⟨kl3, -⟩, -⟩:Lq e j.v∧Lq c l.v∧Lq d m.v∧True:=kq k0
  clear k0;have hxl:=hso.2.1;have hal:=Tb.aft_le e (Fr.fq i c d);refine V.g [.nb 0 0 (fun b=>pp b 0) 24 (fun _=>ca (DTable.mk p q ⟨e,j⟩)),.nb 1 1 (fun b=>pp b 0) 29 (fun _=>ca (DFrac.mk ⟨i,c,l⟩ ⟨o,d,m⟩)),.k (iv 0),.kb false] fun _ _ G1=>?_;intro S s
  refine nm ((Tb.aft e (Fr.fq i c d):Int):Int) fun n1 hn1=>?_;refine V.g [.k (pp ((G1 0).b) 2),.ld 0 2 false (fun _=>[j.v]),.ld 1 0 true (fun _=>Dat.cells (DFrac.mk ⟨i,c,l⟩ ⟨o,d,m⟩)),.cp g0 3 77 [(kf false (.f 0) e (fun _=>j)).a,(kf false (.f 1) c (fun _=>l)).a,(kf false (.f 2) d (fun _=>m)).a] (fun _ G=>tbs_ctv e j i c l o d m (by assumption) (by assumption) (by omega) (by omega) n1 hn1),.k (.tuple #[iv n1,bv false]),.k (iv n1),.kb false,.k (iv n1),.kb false] fun _ _ G2=>?_;intro S s
  refine nm (e.getD (n1-1).toNat default:DRow) fun x1 hx1=>?_;refine nm (Bg.sgn x1.Key:Int) fun n2 hn2=>?_;refine nl (Bg.dig x1.Key.natAbs) fun l1 hl1 hl1n=>?_;refine nl (Bg.dig 1) fun l2 hl2 hl2n=>?_;refine nm (if Fr.FrB n2 l1 (1:Int) l2∧Fr.FrB i c o d then Fr.cmpQ (Fr.fq n2 l1 l2) (Fr.fq i c d) else 0:Int) fun n3 hn3=>?_;have hyk:0 < n1→Tb.ky e (Tb.aft e (Fr.fq i c d)-1)=x1.Key:=fun h=>by rw [hx1,show ((n1-1)).toNat=Tb.aft e (Fr.fq i c d)-1 by omega];rfl
  have hyr:0 < n1→Tb.inR x1.Key:=fun h=>by have:=(hso.2.2 (Tb.aft e (Fr.fq i c d)-1) (by omega)).1;rw [hyk h] at this;exact this
  have zi:Fr.Fz n2 l1 1 l2 (x1.Key:Rat):=by subst_vars;exact Un.intz _
  have hil:0 < n1→_:=fun h=>zi.len (Fr.Hb.int (n:=x1.Key) (by have:=hyr h;unfold Tb.inR at this;omega))
  have hcm:n3=Fr.cmpQ (x1.Key:Rat) (Fr.fq i c d):=by rw [hn3,if_pos ⟨zi.rt,hk⟩,zi.v]
  refine V.g [.k (iv n1),.k (iv n1),.k (bv (decide (0 < n1))),.k (bv (decide (0 < n1))),.k (pp ((G1 0).b) 2),.ld 0 2 false (fun _=>[j.v]),.k (iv n1),.arg (gT (b:=decide (0 < n1)) iDT) (n1-1) (n1-1) rfl (fun hg=>by omega),.ix (gT (b:=decide (0 < n1)) iDT) (kf false (.f 0) e (fun _=>j)) (n1-1) (fun hg=>⟨by omega,by omega⟩),.k (.pointer (some ((elemAddr j.v ((n1-1).toNat * 2)).add 0))),.le (gT (b:=decide (0 < n1)) iDT) (kf false (.f 0) e (fun _=>j)) (n1-1) (some 0) false x1 hx1 (fun hg=>⟨by omega,by omega⟩) false (fun _=>[iv x1.Key]),.ct (gT (b:=decide (0 < n1)) iDT) 11 43 false [] [] [] (fun hg G=>fint_ctv x1.Key (by have:=hyr (by omega);unfold Tb.inR at this;omega) n2 hn2 l1 hl1 l2 hl2),.ld 1 0 true (fun _=>Dat.cells (DFrac.mk ⟨i,c,l⟩ ⟨o,d,m⟩)),.cp (gT (b:=decide (0 < n1)) iDT) 13 79 [(kf true (.g 11 0) l1 (fun G=>(G 11).ss 0)).a,(kf true (.g 11 1) l2 (fun G=>(G 11).ss 1)).a,(kf false (.f 1) c (fun _=>l)).a,(kf false (.f 2) d (fun _=>m)).a] (fun hg G=>fcmp_ctv n2 l1 ((G 11).ss 0) (1:Int) l2 ((G 11).ss 1) i c l o d m (by have:=(hil (by omega)).1;omega) (by have:=(hil (by omega)).2;omega) (by omega) (by omega) n3 hn3),.k (bv (decide (n3=0))),.and g0 false (decide (0 < n1)) (decide (n3=0)),.k (iv n1),.k (bv ((decide (0 < n1)) && (decide (n3=0))))] fun _ _ G3=>?_;intro S s
  have e0:n1=(Tb.aft e (Fr.fq i c d):Int):=by rw [hn1]
  have e1:((decide (0 < n1)) && (decide (n3=0)))=decide (0 < Tb.aft e (Fr.fq i c d)∧(Tb.ky e (Tb.aft e (Fr.fq i c d)-1):Rat)=(Fr.fq i c d)):=by
    refine Bool.eq_iff_iff.2 (Iff.trans (iAT iDT iDT) (Iff.trans ?_ decide_eq_true_iff.symm));rw [hcm];constructor
    · rintro ⟨h1,h2⟩;exact ⟨by omega,by rw [hyk h1];exact Tb.cmpQ_zero.1 h2⟩
    rintro ⟨h1,h2⟩;have h3:0 < n1:=by omega
    exact ⟨h3,by rw [←hyk h3] ; exact Tb.cmpQ_zero.2 h2⟩
  exact V.rt [0,0] [] [] [] [] [] (.tuple #[iv n1,bv ((decide (0 < n1)) && (decide (n3=0)))]) (cong2 (fun (x0:Int) (x1:Bool)=>(.tuple #[iv x0,bv x1]:Value)) e0 e1)
theorem tafter_ctv (i j:ByteArray) (c:List DRow) (e:SV) (d:Int) (a:List Int) (f:SV) (g:Int) (b:List Int) (h:SV) (hso:Tb.So c) (hk:Fr.FrB d a g b) (hkeyP:a.length≤17179869184) (hkeyQ:b.length≤17179869184) (rv0:Int) (erv0:rv0=(Tb.aft c (Fr.fq d a b):Int)) :
    Cp Tryz.prog 37 #[ag (DTable.mk i j ⟨c,e⟩),ag (DFrac.mk ⟨d,a,f⟩ ⟨g,b,h⟩)] [fs true c e,fs true a f,fs true b h] (.tuple #[iv rv0,bv (decide (0 < Tb.aft c (Fr.fq d a b)∧(Tb.ky c (Tb.aft c (Fr.fq d a b) - 1):Rat)=(Fr.fq d a b)))]):=by
  subst erv0;exact tafter_ct i j c e d a f g b h hso hk hkeyP hkeyQ
set_option maxRecDepth 10000 in
theorem tright_ct (m d:ByteArray) (c:List DRow) (l:SV) (hs:d.size≤1000000) (hs2:m.size≤1000000) :
    Cp Tryz.prog 15 #[ag (DTable.mk m d ⟨c,l⟩)] [fs true c l] (bv (decide (Tb.RtT m d c))):=by
  refine V.fn mo Tryz.func15 62 3 (by kernel_rfl) fun w H ε k0=>?_;obtain ⟨⟨kl1, -⟩, -⟩:Lq c l.v∧True:=kq k0
  clear k0;refine V.g [.nb 0 0 (fun b=>pp b 0) 24 (fun _=>ca (DTable.mk m d ⟨c,l⟩)),.kb false] fun _ _ G1=>?_;intro S s
  refine nm (Un.dv ((Un.read d).1) 0:Int) fun n1 hn1=>?_;refine nm (Un.dv ((Un.read d).1) 1:Int) fun n2 hn2=>?_;refine nm (Un.dv ((Un.read d).1) 2:Int) fun n3 hn3=>?_;refine nm (Un.dv ((Un.read d).1) 3:Int) fun n4 hn4=>?_;refine nm (Un.dv ((Un.read d).1) 4:Int) fun n5 hn5=>?_;refine nm (Un.dv ((Un.read d).1) 5:Int) fun n6 hn6=>?_;refine nm (Fr.rS (((Un.read d).1).isSome=true) (Un.fv ((Un.read d).1)):Int) fun n7 hn7=>?_;refine nl (Fr.rD (((Un.read d).1).isSome=true) (Un.fv ((Un.read d).1))) fun l1 hl1 hl1n=>?_;refine nm (Fr.rT (((Un.read d).1).isSome=true):Int) fun n8 hn8=>?_;refine nl (Fr.rE (((Un.read d).1).isSome=true) (Un.fv ((Un.read d).1))) fun l2 hl2 hl2n=>?_;refine nm ((Un.read d).2:Int) fun n9 hn9=>?_;refine V.r [.k (pp ((G1 0).b) 1),.ld 0 1 false (fun _=>[tv d]),.ct g0 2 19 false [] [] [] (fun _ G=>uread_ctv d (by omega) n1 hn1 n2 hn2 n3 hn3 n4 hn4 n5 hn5 n6 hn6 n7 hn7 l1 hl1 n8 hn8 l2 hl2 n9 hn9),.v fun G=>.tuple #[.agg #[iv n1,iv n2,iv n3,iv n4,iv n5,iv n6,iv n7,((G 2).ss 0).v,iv n8,((G 2).ss 1).v],iv n9],.v fun G=>.agg #[iv n1,iv n2,iv n3,iv n4,iv n5,iv n6,iv n7,((G 2).ss 0).v,iv n8,((G 2).ss 1).v],.k (iv n9),.nb 6 1 (fun b=>pp b 0) 42 (fun _=>#[iv 0,iv 0,iv 0,iv 0,iv 0,iv 0,iv 0,.slice none 0 0,iv 0,.slice none 0 0]),.st 1 (fun G=>.blk ((G 6).b) #[iv n1,iv n2,iv n3,iv n4,iv n5,iv n6,iv n7,((G 2).ss 0).v,iv n8,((G 2).ss 1).v] 42),.k (iv n9)] fun _ _ G2 kw2=>?_;intro S s
  obtain ⟨⟨kl2, -⟩,⟨kl3, -⟩, -⟩:Lq l1 (((G2 2).ss 0).v)∧Lq l2 (((G2 2).ss 1).v)∧True:=kq kw2;clear kw2;refine nm ((!(decide (n9=0))) || (!(decide (Tb.Nm m))):Bool) fun p1 hp1=>?_;refine V.g [.k (iv n9),.k (bv (!(decide (n9=0)))),.k (bv (!(decide (n9=0)))),.k (pp ((G1 0).b) 0),.ld 0 0 false (fun _=>[tv m]),.cp (gF (b:=!(decide (n9=0))) (iNF iDT)) 5 53 [] (fun hg G=>lname_ct m (by omega)),.k (bv (!(decide (Tb.Nm m)))),.orn g0 false (!(decide (n9=0))) (!(decide (Tb.Nm m))) p1 hp1,.k (bv p1),.k (pp ((G1 0).b) 2),.ld 0 2 false (fun _=>[l.v]),.ln (kf false (.f 0) c (fun _=>l)),.k (bv (decide (100 < (c.length:Int)))),.or g0 false p1 (decide (100 < (c.length:Int)))] fun _ _ G3=>?_;intro S s;refine V.cn (b:=p1 || (decide (100 < (c.length:Int)))) (iOT (iN hp1 (iOT (iNT iDF) (iNT iDF))) iDT) (iOF (iN hp1 (iOF (iNF iDT) (iNF iDT))) iDF) (fun q1=>?_) (fun q2=>?_)
  · refine V.g [.kb false] fun _ _ G4=>?_;intro S s
    have e0:false=decide (Tb.RtT m d c):=by exact (decide_eq_false fun h=>by have hqq:=q1;rw [hn9] at hqq;rcases hqq with (h1 | h1) | h1;exact h1 h.1.1.1;exact h1 h.1.1.2;have:=h.1.2;omega).symm
    exact V.rt [0] [] [] [] [] [] (bv false) (cong1 (fun (x0:Bool)=>(bv x0:Value)) e0)
  have hH:((Un.read d).2=0∧Tb.Nm m)∧(c.length:Int)≤100:=by have hqq:=q2;rw [hn9] at hqq;exact ⟨hqq.1,by have:=hqq.2;omega⟩
  refine V.g [.k (pp ((G1 0).b) 2),.ld 0 2 false (fun _=>[l.v]),.ln (kf false (.f 0) c (fun _=>l)),.k (iv 0)] fun _ _ G5=>?_;intro S s
  refine V.loop (γ:=Int) (fun k0=>⟨[(1,pp ((G1 0).b) 0),(28,l.v),(29,iv (c.length:Int)),(30,iv k0)],[fs false c l,fs true l1 ((G2 2).ss 0),fs true l2 ((G2 2).ss 1)],[.blk ((G1 0).b) (ca (DTable.mk m d ⟨c,l⟩)) 24,.blk ((G2 6).b) #[iv n1,iv n2,iv n3,iv n4,iv n5,iv n6,iv n7,((G2 2).ss 0).v,iv n8,((G2 2).ss 1).v] 42,.no]⟩) (fun k0=>(0≤k0)∧(k0≤(c.length:Int))∧(∀ j,j < k0.toNat→Tb.RowOk c j)) (fun k0=>((c.length:Int)-k0).toNat) 0 (by kernel_rfl) [0,1,2] (by kernel_rfl) ?_ ?_
  · refine ⟨?_,?_,?_⟩
    · show 0≤(0:Int)
      first | omega | rfl | (simp;done) | (subst_vars;simp;done)
    · show (0:Int)≤(c.length:Int)
      first | omega | rfl | (simp;done) | (subst_vars;simp;done)
    show ∀ j,j < (0:Int).toNat→Tb.RowOk c j;intro j hj;simp at hj
  rintro k0 hF1 kw6 Z1 hZ1;have hF1:(0≤k0)∧(k0≤(c.length:Int))∧(∀ j,j < k0.toNat→Tb.RowOk c j):=hF1;obtain ⟨hf1,hf2,hf3⟩:=hF1;clear kw6;refine V.g [.k (bv (decide (k0 < (c.length:Int))))] fun _ _ G6=>?_;intro S s;refine V.cn (b:=decide (k0 < (c.length:Int))) iDT iDF (fun q3=>?_) (fun q4=>?_)
  · refine nm (c.getD k0.toNat default:DRow) fun x1 hx1=>?_;refine V.g [.k (iv k0),.ix g0 (kf false (.f 0) c (fun _=>l)) k0 (fun _=>⟨by omega,by omega⟩),.le g0 (kf false (.f 0) c (fun _=>l)) k0 none false x1 hx1 (fun _=>⟨by omega,by omega⟩) true (fun _=>Dat.cells x1),.nb 3 2 (fun b=>pp b 0) 58 (fun _=>ca (DRow.mk 0 0)),.k (iv k0),.st 2 (fun G=>.blk ((G 3).b) (ca x1) 58)] fun _ _ G7=>?_;intro S s
    refine nm ((!(decide (Tb.inR x1.Key))) || (!(decide (Tb.inR x1.Value))):Bool) fun p2 hp2=>?_;refine nm (c.getD (k0-1).toNat default:DRow) fun x2 hx2=>?_;refine nm ((decide (0 < k0)) && (decide (x1.Key≤x2.Key)):Bool) fun p3 hp3=>?_;have hkx:Tb.ky c k0.toNat=x1.Key:=by rw [hx1];rfl
    have hvx:Tb.vl c k0.toNat=x1.Value:=by rw [hx1];rfl
    have hky:0 < k0→Tb.ky c (k0.toNat-1)=x2.Key:=fun h=>by rw [hx2,show ((k0-1)).toNat=k0.toNat-1 by omega];rfl
    refine V.g [.k (pp ((G7 3).b) 0),.ld 2 0 false (fun _=>[iv x1.Key]),.cp g0 2 54 [] (fun _ G=>tin_ct x1.Key),.k (bv (!(decide (Tb.inR x1.Key)))),.k (bv (!(decide (Tb.inR x1.Key)))),.k (pp ((G7 3).b) 1),.ld 2 1 false (fun _=>[iv x1.Value]),.cp (gF (b:=!(decide (Tb.inR x1.Key))) (iNF iDT)) 7 54 [] (fun hg G=>tin_ct x1.Value),.k (bv (!(decide (Tb.inR x1.Value)))),.orn g0 false (!(decide (Tb.inR x1.Key))) (!(decide (Tb.inR x1.Value))) p2 hp2,.k (bv p2),.k (iv k0),.k (bv (decide (0 < k0))),.k (bv (decide (0 < k0))),.k (pp ((G7 3).b) 0),.ld 2 0 false (fun _=>[iv x1.Key]),.k (pp ((G1 0).b) 2),.ld 0 2 false (fun _=>[l.v]),.k (iv k0),.arg ((gF (b:=p2) (iN hp2 (iOF (iNF iDT) (iNF iDT)))).T (b:=decide (0 < k0)) iDT) (k0-1) (k0-1) rfl (fun hg=>by omega),.ix ((gF (b:=p2) (iN hp2 (iOF (iNF iDT) (iNF iDT)))).T (b:=decide (0 < k0)) iDT) (kf false (.f 0) c (fun _=>l)) (k0-1) (fun hg=>⟨by omega,by omega⟩),.k (.pointer (some ((elemAddr l.v ((k0-1).toNat * 2)).add 0))),.le ((gF (b:=p2) (iN hp2 (iOF (iNF iDT) (iNF iDT)))).T (b:=decide (0 < k0)) iDT) (kf false (.f 0) c (fun _=>l)) (k0-1) (some 0) false x2 hx2 (fun hg=>⟨by omega,by omega⟩) false (fun _=>[iv x2.Key]),.k (bv (decide (x1.Key≤x2.Key))),.andn (gF (b:=p2) (iN hp2 (iOF (iNF iDT) (iNF iDT)))) false (decide (0 < k0)) (decide (x1.Key≤x2.Key)) p3 hp3,.or g0 false p2 p3] fun _ _ G8=>?_;intro S s
    refine V.cn (b:=p2 || p3) (iOT (iN hp2 (iOT (iNT iDF) (iNT iDF))) (iN hp3 (iAT iDT iDT))) (iOF (iN hp2 (iOF (iNF iDT) (iNF iDT))) (iN hp3 (iAF iDF iDF))) (fun q5=>?_) (fun q6=>?_)
    · refine V.g [.kb false] fun _ _ G9=>?_;intro S s
      have e0:false=decide (Tb.RtT m d c):=by
        refine (decide_eq_false fun h=>?_).symm;have h1:=h.2 k0.toNat (by omega);unfold Tb.RowOk at h1;rw [hkx,hvx] at h1;have hqq:=q5;rcases hqq with (h2 | h2) | ⟨h2,h3⟩
        · exact h2 h1.1.1
        · exact h2 h1.1.2
        have h4:=h1.2 (by omega);rw [hky h2] at h4;omega
      exact V.rt [0] [] [] [] [] [] (bv false) (cong1 (fun (x0:Bool)=>(bv x0:Value)) e0)
    refine V.g [.a (k0+1) (by omega) (by omega),.k (iv (k0+1))] fun _ _ G10=>?_;intro S s
    refine V.rnd hZ1 (k0+1) [0,1,2] (by kernel_rfl) ?_ ?_
    · refine ⟨?_,?_,?_⟩
      · show 0≤(k0+1);omega
      · show (k0+1)≤(c.length:Int);omega
      show ∀ j,j < (k0+1).toNat→Tb.RowOk c j;intro j hj;by_cases e:j < k0.toNat
      · exact hf3 j e
      rw [show j=k0.toNat by omega];have hqq:=q6;unfold Tb.RowOk;rw [hkx,hvx];refine ⟨hqq.1,fun h=>?_⟩;have h0:0 < k0:=by omega
      rw [hky h0];rcases hqq.2 with h1 | h1 <;> omega
    show ((c.length:Int)-(k0+1)).toNat < ((c.length:Int)-k0).toNat;omega
  refine V.g [.kb true] fun _ _ G11=>?_;intro S s
  have e0:true=decide (Tb.RtT m d c):=(decide_eq_true ⟨hH,fun i hi=>hf3 i (by omega)⟩).symm;exact V.rt [0] [] [] [] [] [] (bv true) (cong1 (fun (x0:Bool)=>(bv x0:Value)) e0)
set_option maxRecDepth 10000 in
theorem tlook_ct (l j:ByteArray) (c:List DRow) (o:SV) (i:Int) (d:List Int) (p:SV) (m:Int) (e:List Int) (q:SV) (hs:j.size≤1000000) (hs2:l.size≤1000000) (hkeyP:d.length≤17179869184) (hkeyQ:e.length≤17179869184) :
    Ct Tryz.prog 8 #[ag (DTable.mk l j ⟨c,o⟩),ag (DFrac.mk ⟨i,d,p⟩ ⟨m,e,q⟩)] [fs true c o,fs true d p,fs true e q] [] (fun g=>.tuple #[ag (DFrac.mk ⟨(Fr.rS ((Tb.RtT l j c∧Fr.FrB i d m e)∧0 < Tb.aft c (Fr.fq i d e)) (Tb.lkR j c (Fr.fq i d e))),Fr.rD ((Tb.RtT l j c∧Fr.FrB i d m e)∧0 < Tb.aft c (Fr.fq i d e)) (Tb.lkR j c (Fr.fq i d e)),(g.ss 0)⟩ ⟨(Fr.rT ((Tb.RtT l j c∧Fr.FrB i d m e)∧0 < Tb.aft c (Fr.fq i d e))),Fr.rE ((Tb.RtT l j c∧Fr.FrB i d m e)∧0 < Tb.aft c (Fr.fq i d e)) (Tb.lkR j c (Fr.fq i d e)),(g.ss 1)⟩),iv (if ¬ (Tb.RtT l j c∧Fr.FrB i d m e) then (1:Int) else if Tb.aft c (Fr.fq i d e)=0 then 4 else 0)]) (fun g=>[fs true (Fr.rD ((Tb.RtT l j c∧Fr.FrB i d m e)∧0 < Tb.aft c (Fr.fq i d e)) (Tb.lkR j c (Fr.fq i d e))) (g.ss 0),fs true (Fr.rE ((Tb.RtT l j c∧Fr.FrB i d m e)∧0 < Tb.aft c (Fr.fq i d e)) (Tb.lkR j c (Fr.fq i d e))) (g.ss 1)]) (fun g=>[]) (fun g=>[]):=by
  refine V.fn mo Tryz.func8 35 3 (by kernel_rfl) fun w H ε k0=>?_;obtain ⟨⟨kl1, -⟩,⟨kl2, -⟩,⟨kl3, -⟩, -⟩:Lq c o.v∧Lq d p.v∧Lq e q.v∧True:=kq k0
  clear k0;refine V.g [.nb 0 0 (fun b=>pp b 0) 24 (fun _=>ca (DTable.mk l j ⟨c,o⟩)),.nb 1 1 (fun b=>pp b 0) 29 (fun _=>ca (DFrac.mk ⟨i,d,p⟩ ⟨m,e,q⟩)),.nb 2 2 (fun b=>pp b 0) 29 (fun _=>ca (DFrac.mk ⟨0,[],{}⟩ ⟨0,[],{}⟩)),.k (iv 0)] fun _ _ G1=>?_;intro S s
  refine nm ((!(decide (Tb.RtT l j c))) || (!(decide (Fr.FrB i d m e))):Bool) fun p1 hp1=>?_;refine V.g [.ld 0 0 true (fun _=>Dat.cells (DTable.mk l j ⟨c,o⟩)),.cp g0 1 15 [(kf false (.f 0) c (fun _=>o)).a] (fun _ G=>tright_ct l j c o (by omega) (by omega)),.k (bv (!(decide (Tb.RtT l j c)))),.k (bv (!(decide (Tb.RtT l j c)))),.ld 1 0 true (fun _=>Dat.cells (DFrac.mk ⟨i,d,p⟩ ⟨m,e,q⟩)),.cp (gF (b:=!(decide (Tb.RtT l j c))) (iNF iDT)) 5 36 [(kf false (.f 1) d (fun _=>p)).a,(kf false (.f 2) e (fun _=>q)).a] (fun hg G=>right_ct i d p m e q (by omega) (by omega)),.k (bv (!(decide (Fr.FrB i d m e)))),.orn g0 false (!(decide (Tb.RtT l j c))) (!(decide (Fr.FrB i d m e))) p1 hp1] fun _ _ G2=>?_;intro S s
  refine V.cn (b:=p1) (iN hp1 (iOT (iNT iDF) (iNT iDF))) (iN hp1 (iOF (iNF iDT) (iNF iDT))) (fun q1=>?_) (fun q2=>?_)
  · have hN:¬ (Tb.RtT l j c∧Fr.FrB i d m e):=by rintro ⟨h1,h2⟩;rcases q1 with h | h;exact h h1;exact h h2
    refine V.g [.k (ag (DFrac.mk ⟨0,[],{}⟩ ⟨0,[],{}⟩)),.st 2 (fun _=>.blk ((G1 2).b) (ca (DFrac.mk ⟨0,[],{}⟩ ⟨0,[],{}⟩)) 29),.k (iv 1)] fun _ _ G3=>?_;intro S s
    refine V.nilF (α:=Int) ?_;refine V.nilF (α:=Int) ?_;have e1:([]:List Int)=Fr.rD ((Tb.RtT l j c∧Fr.FrB i d m e)∧0 < Tb.aft c (Fr.fq i d e)) (Tb.lkR j c (Fr.fq i d e)):=(Fr.Fz.no (fun h=>hN h.1) (Tb.lkR j c (Fr.fq i d e))).2.1;rw [←e1];have e3:([]:List Int)=Fr.rE ((Tb.RtT l j c∧Fr.FrB i d m e)∧0 < Tb.aft c (Fr.fq i d e)) (Tb.lkR j c (Fr.fq i d e)):=(Fr.Fz.no (fun h=>hN h.1) (Tb.lkR j c (Fr.fq i d e))).2.2.2;rw [←e3];have e0:(0:Int)=Fr.rS ((Tb.RtT l j c∧Fr.FrB i d m e)∧0 < Tb.aft c (Fr.fq i d e)) (Tb.lkR j c (Fr.fq i d e)):=(Fr.Fz.no (fun h=>hN h.1) (Tb.lkR j c (Fr.fq i d e))).1;have e2:(0:Int)=Fr.rT ((Tb.RtT l j c∧Fr.FrB i d m e)∧0 < Tb.aft c (Fr.fq i d e)):=(Fr.Fz.no (fun h=>hN h.1) (Tb.lkR j c (Fr.fq i d e))).2.2.1;have e4:(1:Int)=if ¬ (Tb.RtT l j c∧Fr.FrB i d m e) then (1:Int) else if Tb.aft c (Fr.fq i d e)=0 then 4 else 0:=by rw [if_pos hN]
    exact V.rt [2,0] [{},{}] [fun _=>{},fun _=>{}] [] [3,4] [] (.tuple #[ag (DFrac.mk ⟨0,([]:List Int),{}⟩ ⟨0,([]:List Int),{}⟩),iv 1]) (cong3 (fun (x0 x2 x4:Int)=>(.tuple #[.agg #[iv x0,SV.v ({}),iv x2,SV.v ({})],iv x4]:Value)) e0 e2 e4)
  have hP:(Tb.RtT l j c∧Fr.FrB i d m e):=by first | exact q2 | exact ⟨Decidable.not_not.1 (q2).1,Decidable.not_not.1 (q2).2⟩
  have hso:=hP.1.so;have hxl:=hso.2.1;have hk:=hP.2;have hu:=hP.1.1.1.1;have hal:=Tb.aft_le c (Fr.fq i d e);refine nm ((Tb.aft c (Fr.fq i d e):Int):Int) fun n1 hn1=>?_;refine V.g [.ld 0 0 true (fun _=>Dat.cells (DTable.mk l j ⟨c,o⟩)),.ld 1 0 true (fun _=>Dat.cells (DFrac.mk ⟨i,d,p⟩ ⟨m,e,q⟩)),.cp g0 2 37 [(kf false (.f 0) c (fun _=>o)).a,(kf false (.f 1) d (fun _=>p)).a,(kf false (.f 2) e (fun _=>q)).a] (fun _ G=>tafter_ctv l j c o i d p m e q hso hk (by omega) (by omega) n1 hn1),.k (.tuple #[iv n1,bv (decide (0 < Tb.aft c (Fr.fq i d e)∧(Tb.ky c (Tb.aft c (Fr.fq i d e)-1):Rat)=(Fr.fq i d e)))]),.k (iv n1),.k (bv (decide (0 < Tb.aft c (Fr.fq i d e)∧(Tb.ky c (Tb.aft c (Fr.fq i d e)-1):Rat)=(Fr.fq i d e)))),.k (iv n1),.k (bv (decide (0 < Tb.aft c (Fr.fq i d e)∧(Tb.ky c (Tb.aft c (Fr.fq i d e)-1):Rat)=(Fr.fq i d e))))] fun _ _ G4=>?_;intro S s
  refine V.g [.k (iv n1),.k (bv (decide (n1=0)))] fun _ _ G5=>?_;intro S s
  refine V.cn (b:=decide (n1=0)) iDT iDF (fun q3=>?_) (fun q4=>?_)
  · refine V.g [.k (ag (DFrac.mk ⟨0,[],{}⟩ ⟨0,[],{}⟩)),.st 2 (fun _=>.blk ((G1 2).b) (ca (DFrac.mk ⟨0,[],{}⟩ ⟨0,[],{}⟩)) 29),.k (iv 4)] fun _ _ G6=>?_;intro S s
    refine V.nilF (α:=Int) ?_;refine V.nilF (α:=Int) ?_;have e1:([]:List Int)=Fr.rD ((Tb.RtT l j c∧Fr.FrB i d m e)∧0 < Tb.aft c (Fr.fq i d e)) (Tb.lkR j c (Fr.fq i d e)):=by exact (Fr.Fz.no (fun h=>by have:=h.2;have hqq:=q3;omega) (Tb.lkR j c (Fr.fq i d e))).2.1
    rw [←e1];have e3:([]:List Int)=Fr.rE ((Tb.RtT l j c∧Fr.FrB i d m e)∧0 < Tb.aft c (Fr.fq i d e)) (Tb.lkR j c (Fr.fq i d e)):=by exact (Fr.Fz.no (fun h=>by have:=h.2;have hqq:=q3;omega) (Tb.lkR j c (Fr.fq i d e))).2.2.2
    rw [←e3];have e0:(0:Int)=Fr.rS ((Tb.RtT l j c∧Fr.FrB i d m e)∧0 < Tb.aft c (Fr.fq i d e)) (Tb.lkR j c (Fr.fq i d e)):=by exact (Fr.Fz.no (fun h=>by have:=h.2;have hqq:=q3;omega) (Tb.lkR j c (Fr.fq i d e))).1
    have e2:(0:Int)=Fr.rT ((Tb.RtT l j c∧Fr.FrB i d m e)∧0 < Tb.aft c (Fr.fq i d e)):=by exact (Fr.Fz.no (fun h=>by have:=h.2;have hqq:=q3;omega) (Tb.lkR j c (Fr.fq i d e))).2.2.1
    have e4:(4:Int)=if ¬ (Tb.RtT l j c∧Fr.FrB i d m e) then (1:Int) else if Tb.aft c (Fr.fq i d e)=0 then 4 else 0:=by rw [if_neg (fun h=>h hP),if_pos (by have hqq:=q3;omega)]
    exact V.rt [2,0] [{},{}] [fun _=>{},fun _=>{}] [] [3,4] [] (.tuple #[ag (DFrac.mk ⟨0,([]:List Int),{}⟩ ⟨0,([]:List Int),{}⟩),iv 4]) (cong3 (fun (x0 x2 x4:Int)=>(.tuple #[.agg #[iv x0,SV.v ({}),iv x2,SV.v ({})],iv x4]:Value)) e0 e2 e4)
  refine nm (c.getD (n1-1).toNat default:DRow) fun x1 hx1=>?_;refine nm (Fr.rS (True) ((x1.Value:Rat) * Tb.uf j):Int) fun n2 hn2=>?_;refine nl (Fr.rD (True) ((x1.Value:Rat) * Tb.uf j)) fun l1 hl1 hl1n=>?_;refine nm (Fr.rT (True):Int) fun n3 hn3=>?_;refine nl (Fr.rE (True) ((x1.Value:Rat) * Tb.uf j)) fun l2 hl2 hl2n=>?_;have hk_a:Tb.ky c (Tb.aft c (Fr.fq i d e)-1)=x1.Key:=by rw [hx1,show ((n1-1)).toNat=Tb.aft c (Fr.fq i d e)-1 by omega];rfl
  have hv_a:Tb.vl c (Tb.aft c (Fr.fq i d e)-1)=x1.Value:=by rw [hx1,show ((n1-1)).toNat=Tb.aft c (Fr.fq i d e)-1 by omega];rfl
  have hr_a:=hso.2.2 (Tb.aft c (Fr.fq i d e)-1) (by omega);rw [hk_a,hv_a] at hr_a;unfold Tb.inR at hr_a;have zf:=Fr.Fz.of True.intro hn2 hl1 hn3 hl2;have hl_zf:=zf.len (Tb.worth_hb hu (n:=x1.Value) (by omega));have hl1_zf:=hl_zf.1;have hl2_zf:=hl_zf.2;have heqL:(x1.Value:Rat) * Tb.uf j=Tb.lkR j c (Fr.fq i d e):=by unfold Tb.lkR Tb.wv;rw [hv_a]
  refine V.r [.ld 0 0 true (fun _=>Dat.cells (DTable.mk l j ⟨c,o⟩)),.k (pp ((G1 0).b) 2),.ld 0 2 false (fun _=>[o.v]),.k (iv n1),.a (n1-1) (by omega) (by omega),.ix g0 (kf false (.f 0) c (fun _=>o)) (n1-1) (fun _=>⟨by omega,by omega⟩),.k (.pointer (some ((elemAddr o.v ((n1-1).toNat * 2)).add 1))),.le g0 (kf false (.f 0) c (fun _=>o)) (n1-1) (some 1) false x1 hx1 (fun _=>⟨by omega,by omega⟩) false (fun _=>[iv x1.Value]),.ct g0 8 38 false [] [] [(kf false (.f 0) c (fun _=>o)).a] (fun _ G=>tworth_ctv l j c o x1.Value hu (by omega) (by omega) n2 hn2 l1 hl1 n3 hn3 l2 hl2),.st 2 (fun G=>.blk ((G1 2).b) (ca (DFrac.mk ⟨n2,l1,(G 8).ss 0⟩ ⟨n3,l2,(G 8).ss 1⟩)) 29),.k (iv 0)] fun _ _ G7 kw7=>?_;intro S s
  obtain ⟨⟨kl4, -⟩,⟨kl5, -⟩, -⟩:Lq l1 (((G7 8).ss 0).v)∧Lq l2 (((G7 8).ss 1).v)∧True:=kq kw7;clear kw7;have e1:l1=Fr.rD ((Tb.RtT l j c∧Fr.FrB i d m e)∧0 < Tb.aft c (Fr.fq i d e)) (Tb.lkR j c (Fr.fq i d e)):=by exact (Fr.Fz.ret zf ⟨hP,by have hqq:=q4;omega⟩ (heqL)).2.1
  subst e1;have e3:l2=Fr.rE ((Tb.RtT l j c∧Fr.FrB i d m e)∧0 < Tb.aft c (Fr.fq i d e)) (Tb.lkR j c (Fr.fq i d e)):=by exact (Fr.Fz.ret zf ⟨hP,by have hqq:=q4;omega⟩ (heqL)).2.2.2
  subst e3;have e0:n2=Fr.rS ((Tb.RtT l j c∧Fr.FrB i d m e)∧0 < Tb.aft c (Fr.fq i d e)) (Tb.lkR j c (Fr.fq i d e)):=by exact (Fr.Fz.ret zf ⟨hP,by have hqq:=q4;omega⟩ (heqL)).1
  have e2:n3=Fr.rT ((Tb.RtT l j c∧Fr.FrB i d m e)∧0 < Tb.aft c (Fr.fq i d e)):=by exact (Fr.Fz.ret zf ⟨hP,by have hqq:=q4;omega⟩ (heqL)).2.2.1
  have e4:(0:Int)=if ¬ (Tb.RtT l j c∧Fr.FrB i d m e) then (1:Int) else if Tb.aft c (Fr.fq i d e)=0 then 4 else 0:=by rw [if_neg (fun h=>h hP),if_neg (by have hqq:=q4;omega)]
  exact V.rt [2,0] [(G7 8).ss 0,(G7 8).ss 1] [fun _=>{},fun _=>{}] [] [3,4] [] (.tuple #[ag (DFrac.mk ⟨n2,(Fr.rD ((Tb.RtT l j c∧Fr.FrB i d m e)∧0 < Tb.aft c (Fr.fq i d e)) (Tb.lkR j c (Fr.fq i d e))),(G7 8).ss 0⟩ ⟨n3,(Fr.rE ((Tb.RtT l j c∧Fr.FrB i d m e)∧0 < Tb.aft c (Fr.fq i d e)) (Tb.lkR j c (Fr.fq i d e))),(G7 8).ss 1⟩),iv 0]) (cong3 (fun (x0 x2 x4:Int)=>(.tuple #[.agg #[iv x0,((G7 8).ss 0).v,iv x2,((G7 8).ss 1).v],iv x4]:Value)) e0 e2 e4)
theorem tlook_ctv (f e:ByteArray) (c:List DRow) (i:SV) (d:Int) (a:List Int) (j:SV) (h:Int) (b:List Int) (k:SV) (hs:e.size≤1000000) (hs2:f.size≤1000000) (hkeyP:a.length≤17179869184) (hkeyQ:b.length≤17179869184) (rv0:Int) (erv0:rv0=Fr.rS ((Tb.RtT f e c∧Fr.FrB d a h b)∧0 < Tb.aft c (Fr.fq d a b)) (Tb.lkR e c (Fr.fq d a b))) (rv1:List Int) (erv1:rv1=Fr.rD ((Tb.RtT f e c∧Fr.FrB d a h b)∧0 < Tb.aft c (Fr.fq d a b)) (Tb.lkR e c (Fr.fq d a b))) (rv2:Int) (erv2:rv2=Fr.rT ((Tb.RtT f e c∧Fr.FrB d a h b)∧0 < Tb.aft c (Fr.fq d a b))) (rv3:List Int) (erv3:rv3=Fr.rE ((Tb.RtT f e c∧Fr.FrB d a h b)∧0 < Tb.aft c (Fr.fq d a b)) (Tb.lkR e c (Fr.fq d a b))) (rv4:Int) (erv4:rv4=if ¬ (Tb.RtT f e c∧Fr.FrB d a h b) then (1:Int) else if Tb.aft c (Fr.fq d a b)=0 then 4 else 0) :
    Ct Tryz.prog 8 #[ag (DTable.mk f e ⟨c,i⟩),ag (DFrac.mk ⟨d,a,j⟩ ⟨h,b,k⟩)] [fs true c i,fs true a j,fs true b k] [] (fun g=>.tuple #[ag (DFrac.mk ⟨rv0,rv1,(g.ss 0)⟩ ⟨rv2,rv3,(g.ss 1)⟩),iv rv4]) (fun g=>[fs true rv1 (g.ss 0),fs true rv3 (g.ss 1)]) (fun g=>[]) (fun g=>[]):=by
  subst erv0 erv1 erv2 erv3 erv4;exact tlook_ct f e c i d a j h b k hs hs2 hkeyP hkeyQ

open Go Go.Proofs
set_option maxRecDepth 10000 in
set_option maxHeartbeats 2000000 in
theorem tline_ct (m l:ByteArray) (c:List DRow) (p:SV) (j:Int) (d:List Int) (q:SV) (o:Int) (i:List Int) (t:SV) (hs:l.size≤1000000) (hs2:m.size≤1000000) (hkeyP:d.length≤1000000) (hkeyQ:i.length≤1000000) :
    Ct Tryz.prog 10 #[ag (DTable.mk m l ⟨c,p⟩),ag (DFrac.mk ⟨j,d,q⟩ ⟨o,i,t⟩)] [fs true c p,fs true d q,fs true i t] [] (fun g=>.tuple #[ag (DFrac.mk ⟨(Fr.rS ((Tb.RtT m l c∧Fr.FrB j d o i)∧(Tb.lin l c (Fr.fq j d i)).isSome=true) ((Tb.lin l c (Fr.fq j d i)).getD 0)),Fr.rD ((Tb.RtT m l c∧Fr.FrB j d o i)∧(Tb.lin l c (Fr.fq j d i)).isSome=true) ((Tb.lin l c (Fr.fq j d i)).getD 0),(g.ss 0)⟩ ⟨(Fr.rT ((Tb.RtT m l c∧Fr.FrB j d o i)∧(Tb.lin l c (Fr.fq j d i)).isSome=true)),Fr.rE ((Tb.RtT m l c∧Fr.FrB j d o i)∧(Tb.lin l c (Fr.fq j d i)).isSome=true) ((Tb.lin l c (Fr.fq j d i)).getD 0),(g.ss 1)⟩),iv (if ¬ (Tb.RtT m l c∧Fr.FrB j d o i) then (1:Int) else if (Tb.lin l c (Fr.fq j d i)).isSome=true then 0 else 4)]) (fun g=>[fs true (Fr.rD ((Tb.RtT m l c∧Fr.FrB j d o i)∧(Tb.lin l c (Fr.fq j d i)).isSome=true) ((Tb.lin l c (Fr.fq j d i)).getD 0)) (g.ss 0),fs true (Fr.rE ((Tb.RtT m l c∧Fr.FrB j d o i)∧(Tb.lin l c (Fr.fq j d i)).isSome=true) ((Tb.lin l c (Fr.fq j d i)).getD 0)) (g.ss 1)]) (fun g=>[]) (fun g=>[]):=by
  refine V.fn mo Tryz.func10 105 8 (by kernel_rfl) fun w H ε k0=>?_;obtain ⟨⟨kl1, -⟩,⟨kl2, -⟩,⟨kl3, -⟩, -⟩:Lq c p.v∧Lq d q.v∧Lq i t.v∧True:=kq k0
  clear k0;refine V.g [.nb 0 0 (fun b=>pp b 0) 24 (fun _=>ca (DTable.mk m l ⟨c,p⟩)),.nb 1 1 (fun b=>pp b 0) 29 (fun _=>ca (DFrac.mk ⟨j,d,q⟩ ⟨o,i,t⟩)),.nb 2 2 (fun b=>pp b 0) 29 (fun _=>ca (DFrac.mk ⟨0,[],{}⟩ ⟨0,[],{}⟩)),.k (iv 0)] fun _ _ G1=>?_;intro S s
  refine nm ((!(decide (Tb.RtT m l c))) || (!(decide (Fr.FrB j d o i))):Bool) fun p1 hp1=>?_;refine V.g [.ld 0 0 true (fun _=>Dat.cells (DTable.mk m l ⟨c,p⟩)),.cp g0 1 15 [(kf false (.f 0) c (fun _=>p)).a] (fun _ G=>tright_ct m l c p (by omega) (by omega)),.k (bv (!(decide (Tb.RtT m l c)))),.k (bv (!(decide (Tb.RtT m l c)))),.ld 1 0 true (fun _=>Dat.cells (DFrac.mk ⟨j,d,q⟩ ⟨o,i,t⟩)),.cp (gF (b:=!(decide (Tb.RtT m l c))) (iNF iDT)) 5 36 [(kf false (.f 1) d (fun _=>q)).a,(kf false (.f 2) i (fun _=>t)).a] (fun hg G=>right_ct j d q o i t (by omega) (by omega)),.k (bv (!(decide (Fr.FrB j d o i)))),.orn g0 false (!(decide (Tb.RtT m l c))) (!(decide (Fr.FrB j d o i))) p1 hp1] fun _ _ G2=>?_;intro S s
  refine V.cn (b:=p1) (iN hp1 (iOT (iNT iDF) (iNT iDF))) (iN hp1 (iOF (iNF iDT) (iNF iDT))) (fun q1=>?_) (fun q2=>?_)
  · have hN:¬ (Tb.RtT m l c∧Fr.FrB j d o i):=by rintro ⟨h1,h2⟩;rcases q1 with h | h;exact h h1;exact h h2
    refine V.g [.k (ag (DFrac.mk ⟨0,[],{}⟩ ⟨0,[],{}⟩)),.st 2 (fun _=>.blk ((G1 2).b) (ca (DFrac.mk ⟨0,[],{}⟩ ⟨0,[],{}⟩)) 29),.k (iv 1)] fun _ _ G3=>?_;intro S s
    refine V.nilF (α:=Int) ?_;refine V.nilF (α:=Int) ?_;have e1:([]:List Int)=Fr.rD ((Tb.RtT m l c∧Fr.FrB j d o i)∧(Tb.lin l c (Fr.fq j d i)).isSome=true) ((Tb.lin l c (Fr.fq j d i)).getD 0):=(Fr.Fz.no (fun h=>hN h.1) ((Tb.lin l c (Fr.fq j d i)).getD 0)).2.1;rw [←e1];have e3:([]:List Int)=Fr.rE ((Tb.RtT m l c∧Fr.FrB j d o i)∧(Tb.lin l c (Fr.fq j d i)).isSome=true) ((Tb.lin l c (Fr.fq j d i)).getD 0):=(Fr.Fz.no (fun h=>hN h.1) ((Tb.lin l c (Fr.fq j d i)).getD 0)).2.2.2;rw [←e3];have e0:(0:Int)=Fr.rS ((Tb.RtT m l c∧Fr.FrB j d o i)∧(Tb.lin l c (Fr.fq j d i)).isSome=true) ((Tb.lin l c (Fr.fq j d i)).getD 0):=(Fr.Fz.no (fun h=>hN h.1) ((Tb.lin l c (Fr.fq j d i)).getD 0)).1;have e2:(0:Int)=Fr.rT ((Tb.RtT m l c∧Fr.FrB j d o i)∧(Tb.lin l c (Fr.fq j d i)).isSome=true):=(Fr.Fz.no (fun h=>hN h.1) ((Tb.lin l c (Fr.fq j d i)).getD 0)).2.2.1;have e4:(1:Int)=if ¬ (Tb.RtT m l c∧Fr.FrB j d o i) then (1:Int) else if (Tb.lin l c (Fr.fq j d i)).isSome=true then 0 else 4:=by rw [if_pos hN]
    exact V.rt [2,0] [{},{}] [fun _=>{},fun _=>{}] [] [3,4] [] (.tuple #[ag (DFrac.mk ⟨0,([]:List Int),{}⟩ ⟨0,([]:List Int),{}⟩),iv 1]) (cong3 (fun (x0 x2 x4:Int)=>(.tuple #[.agg #[iv x0,SV.v ({}),iv x2,SV.v ({})],iv x4]:Value)) e0 e2 e4)
  have hP:(Tb.RtT m l c∧Fr.FrB j d o i):=by first | exact q2 | exact ⟨Decidable.not_not.1 (q2).1,Decidable.not_not.1 (q2).2⟩
  have hso:=hP.1.so;have hxl:=hso.2.1;have hk:=hP.2;have hu:=hP.1.1.1.1;have hal:=Tb.aft_le c (Fr.fq j d i);refine nm ((Tb.aft c (Fr.fq j d i):Int):Int) fun n1 hn1=>?_;refine V.g [.ld 0 0 true (fun _=>Dat.cells (DTable.mk m l ⟨c,p⟩)),.ld 1 0 true (fun _=>Dat.cells (DFrac.mk ⟨j,d,q⟩ ⟨o,i,t⟩)),.cp g0 2 37 [(kf false (.f 0) c (fun _=>p)).a,(kf false (.f 1) d (fun _=>q)).a,(kf false (.f 2) i (fun _=>t)).a] (fun _ G=>tafter_ctv m l c p j d q o i t hso hk (by omega) (by omega) n1 hn1),.k (.tuple #[iv n1,bv (decide (0 < Tb.aft c (Fr.fq j d i)∧(Tb.ky c (Tb.aft c (Fr.fq j d i)-1):Rat)=(Fr.fq j d i)))]),.k (iv n1),.k (bv (decide (0 < Tb.aft c (Fr.fq j d i)∧(Tb.ky c (Tb.aft c (Fr.fq j d i)-1):Rat)=(Fr.fq j d i)))),.k (iv n1),.k (bv (decide (0 < Tb.aft c (Fr.fq j d i)∧(Tb.ky c (Tb.aft c (Fr.fq j d i)-1):Rat)=(Fr.fq j d i))))] fun _ _ G4=>?_;intro S s
  refine V.g [.k (bv (decide (0 < Tb.aft c (Fr.fq j d i)∧(Tb.ky c (Tb.aft c (Fr.fq j d i)-1):Rat)=(Fr.fq j d i)))),.k (bv (decide (0 < Tb.aft c (Fr.fq j d i)∧(Tb.ky c (Tb.aft c (Fr.fq j d i)-1):Rat)=(Fr.fq j d i))))] fun _ _ G5=>?_;intro S s
  refine V.cn (b:=decide (0 < Tb.aft c (Fr.fq j d i)∧(Tb.ky c (Tb.aft c (Fr.fq j d i)-1):Rat)=(Fr.fq j d i))) iDT iDF (fun q3=>?_) (fun q4=>?_)
  · refine nm (c.getD (n1-1).toNat default:DRow) fun x1 hx1=>?_;refine nm (Fr.rS (True) ((x1.Value:Rat) * Tb.uf l):Int) fun n2 hn2=>?_;refine nl (Fr.rD (True) ((x1.Value:Rat) * Tb.uf l)) fun l1 hl1 hl1n=>?_;refine nm (Fr.rT (True):Int) fun n3 hn3=>?_;refine nl (Fr.rE (True) ((x1.Value:Rat) * Tb.uf l)) fun l2 hl2 hl2n=>?_;have hIs:0 < Tb.aft c (Fr.fq j d i)∧(Tb.ky c (Tb.aft c (Fr.fq j d i)-1):Rat)=(Fr.fq j d i):=q3
    have hk_a:Tb.ky c (Tb.aft c (Fr.fq j d i)-1)=x1.Key:=by rw [hx1,show ((n1-1)).toNat=Tb.aft c (Fr.fq j d i)-1 by omega];rfl
    have hv_a:Tb.vl c (Tb.aft c (Fr.fq j d i)-1)=x1.Value:=by rw [hx1,show ((n1-1)).toNat=Tb.aft c (Fr.fq j d i)-1 by omega];rfl
    have hr_a:=hso.2.2 (Tb.aft c (Fr.fq j d i)-1) (by omega);rw [hk_a,hv_a] at hr_a;unfold Tb.inR at hr_a;have zf:=Fr.Fz.of True.intro hn2 hl1 hn3 hl2;have hl_zf:=zf.len (Tb.worth_hb hu (n:=x1.Value) (by omega));have hl1_zf:=hl_zf.1;have hl2_zf:=hl_zf.2;have hlin:(Tb.lin l c (Fr.fq j d i))=some ((x1.Value:Rat) * Tb.uf l):=by unfold Tb.lin;rw [if_neg (by omega),if_pos hIs.2];unfold Tb.wv;rw [hv_a]
    have hlg:(x1.Value:Rat) * Tb.uf l=(Tb.lin l c (Fr.fq j d i)).getD 0:=by rw [hlin];rfl
    refine V.r [.ld 0 0 true (fun _=>Dat.cells (DTable.mk m l ⟨c,p⟩)),.k (pp ((G1 0).b) 2),.ld 0 2 false (fun _=>[p.v]),.k (iv n1),.a (n1-1) (by omega) (by omega),.ix g0 (kf false (.f 0) c (fun _=>p)) (n1-1) (fun _=>⟨by omega,by omega⟩),.k (.pointer (some ((elemAddr p.v ((n1-1).toNat * 2)).add 1))),.le g0 (kf false (.f 0) c (fun _=>p)) (n1-1) (some 1) false x1 hx1 (fun _=>⟨by omega,by omega⟩) false (fun _=>[iv x1.Value]),.ct g0 8 38 false [] [] [(kf false (.f 0) c (fun _=>p)).a] (fun _ G=>tworth_ctv m l c p x1.Value hu (by omega) (by omega) n2 hn2 l1 hl1 n3 hn3 l2 hl2),.st 2 (fun G=>.blk ((G1 2).b) (ca (DFrac.mk ⟨n2,l1,(G 8).ss 0⟩ ⟨n3,l2,(G 8).ss 1⟩)) 29),.k (iv 0)] fun _ _ G6 kw6=>?_;intro S s
    obtain ⟨⟨kl4, -⟩,⟨kl5, -⟩, -⟩:Lq l1 (((G6 8).ss 0).v)∧Lq l2 (((G6 8).ss 1).v)∧True:=kq kw6;clear kw6;have e1:l1=Fr.rD ((Tb.RtT m l c∧Fr.FrB j d o i)∧(Tb.lin l c (Fr.fq j d i)).isSome=true) ((Tb.lin l c (Fr.fq j d i)).getD 0):=by exact (Fr.Fz.ret zf ⟨hP,by rw [hlin];rfl⟩ (hlg)).2.1
    subst e1;have e3:l2=Fr.rE ((Tb.RtT m l c∧Fr.FrB j d o i)∧(Tb.lin l c (Fr.fq j d i)).isSome=true) ((Tb.lin l c (Fr.fq j d i)).getD 0):=by exact (Fr.Fz.ret zf ⟨hP,by rw [hlin];rfl⟩ (hlg)).2.2.2
    subst e3;have e0:n2=Fr.rS ((Tb.RtT m l c∧Fr.FrB j d o i)∧(Tb.lin l c (Fr.fq j d i)).isSome=true) ((Tb.lin l c (Fr.fq j d i)).getD 0):=by exact (Fr.Fz.ret zf ⟨hP,by rw [hlin];rfl⟩ (hlg)).1
    have e2:n3=Fr.rT ((Tb.RtT m l c∧Fr.FrB j d o i)∧(Tb.lin l c (Fr.fq j d i)).isSome=true):=by exact (Fr.Fz.ret zf ⟨hP,by rw [hlin];rfl⟩ (hlg)).2.2.1
    have e4:(0:Int)=if ¬ (Tb.RtT m l c∧Fr.FrB j d o i) then (1:Int) else if (Tb.lin l c (Fr.fq j d i)).isSome=true then 0 else 4:=by rw [if_neg (fun h=>h hP),hlin];rfl
    exact V.rt [2,0] [(G6 8).ss 0,(G6 8).ss 1] [fun _=>{},fun _=>{}] [] [3,4] [] (.tuple #[ag (DFrac.mk ⟨n2,(Fr.rD ((Tb.RtT m l c∧Fr.FrB j d o i)∧(Tb.lin l c (Fr.fq j d i)).isSome=true) ((Tb.lin l c (Fr.fq j d i)).getD 0)),(G6 8).ss 0⟩ ⟨n3,(Fr.rE ((Tb.RtT m l c∧Fr.FrB j d o i)∧(Tb.lin l c (Fr.fq j d i)).isSome=true) ((Tb.lin l c (Fr.fq j d i)).getD 0)),(G6 8).ss 1⟩),iv 0]) (cong3 (fun (x0 x2 x4:Int)=>(.tuple #[.agg #[iv x0,((G6 8).ss 0).v,iv x2,((G6 8).ss 1).v],iv x4]:Value)) e0 e2 e4)
  refine nm ((decide (n1=0)) || (decide (n1=(c.length:Int))):Bool) fun p2 hp2=>?_;refine V.g [.k (iv n1),.k (bv (decide (n1=0))),.k (bv (decide (n1=0))),.k (iv n1),.k (pp ((G1 0).b) 2),.ld 0 2 false (fun _=>[p.v]),.ln (kf false (.f 0) c (fun _=>p)),.k (bv (decide (n1=(c.length:Int)))),.orn g0 false (decide (n1=0)) (decide (n1=(c.length:Int))) p2 hp2,.k (bv p2)] fun _ _ G7=>?_;intro S s
  refine V.cn (b:=p2) (iN hp2 (iOT iDT iDT)) (iN hp2 (iOF iDF iDF)) (fun q5=>?_) (fun q6=>?_)
  · have hlin:(Tb.lin l c (Fr.fq j d i))=none:=Tb.lin_no (by have hqq:=q5;rcases hqq with h | h;exact .inl (by omega);exact .inr ⟨q4,by omega⟩);refine V.g [.k (ag (DFrac.mk ⟨0,[],{}⟩ ⟨0,[],{}⟩)),.st 2 (fun _=>.blk ((G1 2).b) (ca (DFrac.mk ⟨0,[],{}⟩ ⟨0,[],{}⟩)) 29),.k (iv 4)] fun _ _ G8=>?_;intro S s
    refine V.nilF (α:=Int) ?_;refine V.nilF (α:=Int) ?_;have e1:([]:List Int)=Fr.rD ((Tb.RtT m l c∧Fr.FrB j d o i)∧(Tb.lin l c (Fr.fq j d i)).isSome=true) ((Tb.lin l c (Fr.fq j d i)).getD 0):=by exact (Fr.Fz.no (fun h=>by have h2:=h.2;rw [hlin] at h2;cases h2) ((Tb.lin l c (Fr.fq j d i)).getD 0)).2.1
    rw [←e1];have e3:([]:List Int)=Fr.rE ((Tb.RtT m l c∧Fr.FrB j d o i)∧(Tb.lin l c (Fr.fq j d i)).isSome=true) ((Tb.lin l c (Fr.fq j d i)).getD 0):=by exact (Fr.Fz.no (fun h=>by have h2:=h.2;rw [hlin] at h2;cases h2) ((Tb.lin l c (Fr.fq j d i)).getD 0)).2.2.2
    rw [←e3];have e0:(0:Int)=Fr.rS ((Tb.RtT m l c∧Fr.FrB j d o i)∧(Tb.lin l c (Fr.fq j d i)).isSome=true) ((Tb.lin l c (Fr.fq j d i)).getD 0):=by exact (Fr.Fz.no (fun h=>by have h2:=h.2;rw [hlin] at h2;cases h2) ((Tb.lin l c (Fr.fq j d i)).getD 0)).1
    have e2:(0:Int)=Fr.rT ((Tb.RtT m l c∧Fr.FrB j d o i)∧(Tb.lin l c (Fr.fq j d i)).isSome=true):=by exact (Fr.Fz.no (fun h=>by have h2:=h.2;rw [hlin] at h2;cases h2) ((Tb.lin l c (Fr.fq j d i)).getD 0)).2.2.1
    have e4:(4:Int)=if ¬ (Tb.RtT m l c∧Fr.FrB j d o i) then (1:Int) else if (Tb.lin l c (Fr.fq j d i)).isSome=true then 0 else 4:=by rw [if_neg (fun h=>h hP),hlin];rfl
    exact V.rt [2,0] [{},{}] [fun _=>{},fun _=>{}] [] [3,4] [] (.tuple #[ag (DFrac.mk ⟨0,([]:List Int),{}⟩ ⟨0,([]:List Int),{}⟩),iv 4]) (cong3 (fun (x0 x2 x4:Int)=>(.tuple #[.agg #[iv x0,SV.v ({}),iv x2,SV.v ({})],iv x4]:Value)) e0 e2 e4)
  refine nm (c.getD (n1-1).toNat default:DRow) fun x2 hx2=>?_;refine nm (c.getD n1.toNat default:DRow) fun x3 hx3=>?_;refine V.g [.k (pp ((G1 0).b) 2),.ld 0 2 false (fun _=>[p.v]),.k (iv n1),.a (n1-1) (by omega) (by omega),.ix g0 (kf false (.f 0) c (fun _=>p)) (n1-1) (fun _=>⟨by omega,by omega⟩),.le g0 (kf false (.f 0) c (fun _=>p)) (n1-1) none false x2 hx2 (fun _=>⟨by omega,by omega⟩) true (fun _=>Dat.cells x2),.k (pp ((G1 0).b) 2),.ld 0 2 false (fun _=>[p.v]),.k (iv n1),.ix g0 (kf false (.f 0) c (fun _=>p)) n1 (fun _=>⟨by omega,by omega⟩),.le g0 (kf false (.f 0) c (fun _=>p)) n1 none false x3 hx3 (fun _=>⟨by omega,by omega⟩) true (fun _=>Dat.cells x3),.nb 11 3 (fun b=>pp b 0) 58 (fun _=>ca (DRow.mk 0 0)),.nb 12 4 (fun b=>pp b 0) 58 (fun _=>ca (DRow.mk 0 0)),.st 3 (fun G=>.blk ((G 11).b) (ca x2) 58),.st 4 (fun G=>.blk ((G 12).b) (ca x3) 58)] fun _ _ G9=>?_;intro S s
  have hqq:=q6;have hne:¬ ((Tb.ky c (Tb.aft c (Fr.fq j d i)-1):Rat)=(Fr.fq j d i)):=fun h=>q4 ⟨by omega,h⟩
  have hk_a:Tb.ky c (Tb.aft c (Fr.fq j d i)-1)=x2.Key:=by rw [hx2,show ((n1-1)).toNat=Tb.aft c (Fr.fq j d i)-1 by omega];rfl
  have hv_a:Tb.vl c (Tb.aft c (Fr.fq j d i)-1)=x2.Value:=by rw [hx2,show ((n1-1)).toNat=Tb.aft c (Fr.fq j d i)-1 by omega];rfl
  have hr_a:=hso.2.2 (Tb.aft c (Fr.fq j d i)-1) (by omega);rw [hk_a,hv_a] at hr_a;unfold Tb.inR at hr_a;have hk_b:Tb.ky c (Tb.aft c (Fr.fq j d i))=x3.Key:=by rw [hx3,show (n1).toNat=Tb.aft c (Fr.fq j d i) by omega];rfl
  have hv_b:Tb.vl c (Tb.aft c (Fr.fq j d i))=x3.Value:=by rw [hx3,show (n1).toNat=Tb.aft c (Fr.fq j d i) by omega];rfl
  have hr_b:=hso.2.2 (Tb.aft c (Fr.fq j d i)) (by omega);rw [hk_b,hv_b] at hr_b;unfold Tb.inR at hr_b;have hlt:=hso.1 (Tb.aft c (Fr.fq j d i)-1) (Tb.aft c (Fr.fq j d i)) (by omega) (by omega);rw [hk_a,hk_b] at hlt;have hlin:(Tb.lin l c (Fr.fq j d i))=some ((x2.Value:Rat) * Tb.uf l+((Fr.fq j d i)-(x2.Key:Rat)) / ((x3.Key-x2.Key:Int):Rat) * (((x3.Value-x2.Value:Int):Rat) * Tb.uf l)):=by unfold Tb.lin Tb.wv;rw [if_neg (by omega),if_neg hne,if_neg (by omega),hk_a,hk_b,hv_a,hv_b]
  have zK:=Fr.FrB.z hk;have hbK:=hk.hb (k:=8589934592) (by omega) (by omega);refine nm (Bg.sgn x2.Key:Int) fun n4 hn4=>?_;refine nl (Bg.dig x2.Key.natAbs) fun l3 hl3 hl3n=>?_;refine nl (Bg.dig 1) fun l4 hl4 hl4n=>?_;refine nm (Fr.rS (Fr.FrB j d o i∧Fr.FrB n4 l3 (1:Int) l4) ((Fr.fq j d i)-(Fr.fq n4 l3 l4)):Int) fun n5 hn5=>?_;refine nl (Fr.rD (Fr.FrB j d o i∧Fr.FrB n4 l3 (1:Int) l4) ((Fr.fq j d i)-(Fr.fq n4 l3 l4))) fun l5 hl5 hl5n=>?_;refine nm (Fr.rT (Fr.FrB j d o i∧Fr.FrB n4 l3 (1:Int) l4):Int) fun n6 hn6=>?_;refine nl (Fr.rE (Fr.FrB j d o i∧Fr.FrB n4 l3 (1:Int) l4) ((Fr.fq j d i)-(Fr.fq n4 l3 l4))) fun l6 hl6 hl6n=>?_;refine nm (if ¬ (Fr.FrB j d o i∧Fr.FrB n4 l3 (1:Int) l4) then (1:Int) else 0:Int) fun n7 hn7=>?_;have zi:Fr.Fz n4 l3 1 l4 (x2.Key:Rat):=by subst_vars;exact Un.intz _
  have hi9:=zi.len (Fr.Hb.int (n:=x2.Key) (by omega));have hi91:=hi9.1;have hi92:=hi9.2;have zs:=Fr.Fz.of (And.intro hk zi.rt) hn5 hl5 hn6 hl6;rw [zi.v] at zs;have hls:=zs.len ((hk.hb (k:=1000000) (by omega) (by omega)).sub (Fr.Hb.int (n:=x2.Key) (by omega)));have hls1:=hls.1;have hls2:=hls.2;refine V.r [.ld 1 0 true (fun _=>Dat.cells (DFrac.mk ⟨j,d,q⟩ ⟨o,i,t⟩)),.k (pp ((G9 11).b) 0),.ld 3 0 false (fun _=>[iv x2.Key]),.ct g0 3 43 false [] [] [] (fun _ G=>fint_ctv x2.Key (by omega) n4 hn4 l3 hl3 l4 hl4),.ct g0 4 42 false [] [] [(kf false (.f 1) d (fun _=>q)).a,(kf false (.f 2) i (fun _=>t)).a,(kf true (.g 3 0) l3 (fun G=>(G 3).ss 0)).a,(kf true (.g 3 1) l4 (fun G=>(G 3).ss 1)).a] (fun _ G=>fsub_ctv j d q o i t n4 l3 ((G 3).ss 0) (1:Int) l4 ((G 3).ss 1) (by omega) (by omega) (by omega) (by omega) n5 hn5 l5 hl5 n6 hn6 l6 hl6 n7 hn7),.v fun G=>.tuple #[ag (DFrac.mk ⟨n5,l5,(G 4).ss 0⟩ ⟨n6,l6,(G 4).ss 1⟩),iv n7],.v fun G=>ag (DFrac.mk ⟨n5,l5,(G 4).ss 0⟩ ⟨n6,l6,(G 4).ss 1⟩),.k (iv n7),.nb 8 5 (fun b=>pp b 0) 29 (fun _=>ca (DFrac.mk ⟨0,[],{}⟩ ⟨0,[],{}⟩)),.st 5 (fun G=>.blk ((G 8).b) (ca (DFrac.mk ⟨n5,l5,(G 4).ss 0⟩ ⟨n6,l6,(G 4).ss 1⟩)) 29),.k (iv n7)] fun _ _ G10 kw10=>?_;intro S s
  obtain ⟨⟨kl6, -⟩,⟨kl7, -⟩,⟨kl8, -⟩,⟨kl9, -⟩, -⟩:Lq l3 (((G10 3).ss 0).v)∧Lq l4 (((G10 3).ss 1).v)∧Lq l5 (((G10 4).ss 0).v)∧Lq l6 (((G10 4).ss 1).v)∧True:=kq kw10;clear kw10;refine nm (x3.Key-x2.Key:Int) fun n8 hn8=>?_;refine nm (Bg.sgn n8:Int) fun n9 hn9=>?_;refine nl (Bg.dig n8.natAbs) fun l7 hl7 hl7n=>?_;refine nm (Fr.rS ((Fr.FrB n5 l5 n6 l6∧Fr.FrB n9 l7 (1:Int) l4)∧n9≠0) ((Fr.fq n5 l5 l6) / (Fr.fq n9 l7 l4)):Int) fun n10 hn10=>?_;refine nl (Fr.rD ((Fr.FrB n5 l5 n6 l6∧Fr.FrB n9 l7 (1:Int) l4)∧n9≠0) ((Fr.fq n5 l5 l6) / (Fr.fq n9 l7 l4))) fun l8 hl8 hl8n=>?_;refine nm (Fr.rT ((Fr.FrB n5 l5 n6 l6∧Fr.FrB n9 l7 (1:Int) l4)∧n9≠0):Int) fun n11 hn11=>?_;refine nl (Fr.rE ((Fr.FrB n5 l5 n6 l6∧Fr.FrB n9 l7 (1:Int) l4)∧n9≠0) ((Fr.fq n5 l5 l6) / (Fr.fq n9 l7 l4))) fun l9 hl9 hl9n=>?_;refine nm (if ¬ (Fr.FrB n5 l5 n6 l6∧Fr.FrB n9 l7 (1:Int) l4) then (1:Int) else if n9=0 then 15 else 0:Int) fun n12 hn12=>?_;have zd:Fr.Fz n9 l7 1 l4 ((x3.Key-x2.Key:Int):Rat):=by subst_vars;exact Un.intz _
  have hld:=zd.len (Fr.Hb.int (n:=x3.Key-x2.Key) (by omega));have hld1:=hld.1;have hld2:=hld.2;have hd0:n9≠0:=by rw [zd.eqs.1];intro e;have e1:=Fr.sgn_num.2.1.1 e;have e2:((x3.Key-x2.Key:Int):Rat)=((0:Int):Rat):=e1;rw [Rat.intCast_inj] at e2;omega
  have zq:=Fr.Fz.of (And.intro (And.intro zs.rt zd.rt) hd0) hn10 hl8 hn11 hl9;rw [zs.v,zd.v] at zq;have hbq:=((hk.hb (k:=1000000) (by omega) (by omega)).sub (Fr.Hb.int (n:=x2.Key) (by omega))).div (Fr.Hb.int (n:=x3.Key-x2.Key) (by omega));have hlq:=zq.len hbq;have hlq1:=hlq.1;have hlq2:=hlq.2;refine V.r [.ld 5 0 true (fun _=>Dat.cells (DFrac.mk ⟨n5,l5,(G10 4).ss 0⟩ ⟨n6,l6,(G10 4).ss 1⟩)),.k (pp ((G9 12).b) 0),.ld 4 0 false (fun _=>[iv x3.Key]),.k (pp ((G9 11).b) 0),.ld 3 0 false (fun _=>[iv x2.Key]),.ar (x3.Key-x2.Key) n8 hn8 (by omega) (by omega),.ct g0 6 43 false [] [] [] (fun _ G=>fint_ctv n8 (by omega) n9 hn9 l7 hl7 l4 hl4),.ct g0 7 44 false [] [] [(kf true (.f 5) l5 (fun _=>(G10 4).ss 0)).a,(kf true (.f 6) l6 (fun _=>(G10 4).ss 1)).a,(kf true (.g 6 0) l7 (fun G=>(G 6).ss 0)).a,(kf true (.g 6 1) l4 (fun G=>(G 6).ss 1)).a] (fun _ G=>fdiv_ctv n5 l5 ((G10 4).ss 0) n6 l6 ((G10 4).ss 1) n9 l7 ((G 6).ss 0) (1:Int) l4 ((G 6).ss 1) (by omega) (by omega) (by omega) (by omega) n10 hn10 l8 hl8 n11 hn11 l9 hl9 n12 hn12),.v fun G=>.tuple #[ag (DFrac.mk ⟨n10,l8,(G 7).ss 0⟩ ⟨n11,l9,(G 7).ss 1⟩),iv n12],.v fun G=>ag (DFrac.mk ⟨n10,l8,(G 7).ss 0⟩ ⟨n11,l9,(G 7).ss 1⟩),.k (iv n12),.st 5 (fun G=>.blk ((G10 8).b) (ca (DFrac.mk ⟨n10,l8,(G 7).ss 0⟩ ⟨n11,l9,(G 7).ss 1⟩)) 29)] fun _ _ G11 kw11=>?_;intro S s
  obtain ⟨⟨kl10, -⟩,⟨kl11, -⟩,⟨kl12, -⟩,⟨kl13, -⟩, -⟩:Lq l7 (((G11 6).ss 0).v)∧Lq l4 (((G11 6).ss 1).v)∧Lq l8 (((G11 7).ss 0).v)∧Lq l9 (((G11 7).ss 1).v)∧True:=kq kw11;clear kw11;refine nm (x3.Value-x2.Value:Int) fun n13 hn13=>?_;refine nm (Fr.rS (True) ((n13:Rat) * Tb.uf l):Int) fun n14 hn14=>?_;refine nl (Fr.rD (True) ((n13:Rat) * Tb.uf l)) fun l10 hl10 hl10n=>?_;refine nm (Fr.rT (True):Int) fun n15 hn15=>?_;refine nl (Fr.rE (True) ((n13:Rat) * Tb.uf l)) fun l11 hl11 hl11n=>?_;refine nm (Fr.rS (Fr.FrB n10 l8 n11 l9∧Fr.FrB n14 l10 n15 l11) ((Fr.fq n10 l8 l9) * (Fr.fq n14 l10 l11)):Int) fun n16 hn16=>?_;refine nl (Fr.rD (Fr.FrB n10 l8 n11 l9∧Fr.FrB n14 l10 n15 l11) ((Fr.fq n10 l8 l9) * (Fr.fq n14 l10 l11))) fun l12 hl12 hl12n=>?_;refine nm (Fr.rT (Fr.FrB n10 l8 n11 l9∧Fr.FrB n14 l10 n15 l11):Int) fun n17 hn17=>?_;refine nl (Fr.rE (Fr.FrB n10 l8 n11 l9∧Fr.FrB n14 l10 n15 l11) ((Fr.fq n10 l8 l9) * (Fr.fq n14 l10 l11))) fun l13 hl13 hl13n=>?_;refine nm (if ¬ (Fr.FrB n10 l8 n11 l9∧Fr.FrB n14 l10 n15 l11) then (1:Int) else 0:Int) fun n18 hn18=>?_;have zw:=Fr.Fz.of True.intro hn14 hl10 hn15 hl11;have hl_zw:=zw.len (Tb.worth_hb hu (n:=n13) (by omega));have hl1_zw:=hl_zw.1;have hl2_zw:=hl_zw.2;rw [hn13] at zw;have zr:=Fr.Fz.of (And.intro zq.rt zw.rt) hn16 hl12 hn17 hl13;rw [zq.v,zw.v] at zr;have hbr:=hbq.mul (Tb.worth_hb hu (n:=x3.Value-x2.Value) (by omega));have hlr:=zr.len hbr;have hlr1:=hlr.1;have hlr2:=hlr.2;refine V.r [.ld 5 0 true (fun _=>Dat.cells (DFrac.mk ⟨n10,l8,(G11 7).ss 0⟩ ⟨n11,l9,(G11 7).ss 1⟩)),.ld 0 0 true (fun _=>Dat.cells (DTable.mk m l ⟨c,p⟩)),.k (pp ((G9 12).b) 1),.ld 4 1 false (fun _=>[iv x3.Value]),.k (pp ((G9 11).b) 1),.ld 3 1 false (fun _=>[iv x2.Value]),.ar (x3.Value-x2.Value) n13 hn13 (by omega) (by omega),.ct g0 7 38 false [] [] [(kf false (.f 0) c (fun _=>p)).a] (fun _ G=>tworth_ctv m l c p n13 hu (by omega) (by omega) n14 hn14 l10 hl10 n15 hn15 l11 hl11),.ct g0 8 45 false [] [] [(kf true (.f 9) l8 (fun _=>(G11 7).ss 0)).a,(kf true (.f 10) l9 (fun _=>(G11 7).ss 1)).a,(kf true (.g 7 0) l10 (fun G=>(G 7).ss 0)).a,(kf true (.g 7 1) l11 (fun G=>(G 7).ss 1)).a] (fun _ G=>fmul_ctv n10 l8 ((G11 7).ss 0) n11 l9 ((G11 7).ss 1) n14 l10 ((G 7).ss 0) n15 l11 ((G 7).ss 1) (by omega) (by omega) (by omega) (by omega) n16 hn16 l12 hl12 n17 hn17 l13 hl13 n18 hn18),.v fun G=>.tuple #[ag (DFrac.mk ⟨n16,l12,(G 8).ss 0⟩ ⟨n17,l13,(G 8).ss 1⟩),iv n18],.v fun G=>ag (DFrac.mk ⟨n16,l12,(G 8).ss 0⟩ ⟨n17,l13,(G 8).ss 1⟩),.k (iv n18),.nb 12 6 (fun b=>pp b 0) 29 (fun _=>ca (DFrac.mk ⟨0,[],{}⟩ ⟨0,[],{}⟩)),.st 6 (fun G=>.blk ((G 12).b) (ca (DFrac.mk ⟨n16,l12,(G 8).ss 0⟩ ⟨n17,l13,(G 8).ss 1⟩)) 29),.k (iv n18)] fun _ _ G12 kw12=>?_;intro S s;obtain ⟨⟨kl14, -⟩,⟨kl15, -⟩,⟨kl16, -⟩,⟨kl17, -⟩, -⟩:Lq l10 (((G12 7).ss 0).v)∧Lq l11 (((G12 7).ss 1).v)∧Lq l12 (((G12 8).ss 0).v)∧Lq l13 (((G12 8).ss 1).v)∧True:=kq kw12;clear kw12;refine nm (Fr.rS (True) ((x2.Value:Rat) * Tb.uf l):Int) fun n19 hn19=>?_;refine nl (Fr.rD (True) ((x2.Value:Rat) * Tb.uf l)) fun l14 hl14 hl14n=>?_;refine nl (Fr.rE (True) ((x2.Value:Rat) * Tb.uf l)) fun l15 hl15 hl15n=>?_;refine nm (Fr.rS (Fr.FrB n19 l14 n15 l15∧Fr.FrB n16 l12 n17 l13) ((Fr.fq n19 l14 l15)+(Fr.fq n16 l12 l13)):Int) fun n20 hn20=>?_;refine nl (Fr.rD (Fr.FrB n19 l14 n15 l15∧Fr.FrB n16 l12 n17 l13) ((Fr.fq n19 l14 l15)+(Fr.fq n16 l12 l13))) fun l16 hl16 hl16n=>?_;refine nm (Fr.rT (Fr.FrB n19 l14 n15 l15∧Fr.FrB n16 l12 n17 l13):Int) fun n21 hn21=>?_;refine nl (Fr.rE (Fr.FrB n19 l14 n15 l15∧Fr.FrB n16 l12 n17 l13) ((Fr.fq n19 l14 l15)+(Fr.fq n16 l12 l13))) fun l17 hl17 hl17n=>?_;refine nm (if ¬ (Fr.FrB n19 l14 n15 l15∧Fr.FrB n16 l12 n17 l13) then (1:Int) else 0:Int) fun n22 hn22=>?_;have zv:=Fr.Fz.of True.intro hn19 hl14 hn15 hl15;have hl_zv:=zv.len (Tb.worth_hb hu (n:=x2.Value) (by omega));have hl1_zv:=hl_zv.1;have hl2_zv:=hl_zv.2;have zt:=Fr.Fz.of (And.intro zv.rt zr.rt) hn20 hl16 hn21 hl17;rw [zv.v,zr.v] at zt;have hlg:(x2.Value:Rat) * Tb.uf l+((Fr.fq j d i)-(x2.Key:Rat)) / ((x3.Key-x2.Key:Int):Rat) * (((x3.Value-x2.Value:Int):Rat) * Tb.uf l)=(Tb.lin l c (Fr.fq j d i)).getD 0:=by rw [hlin];rfl
  refine V.r [.ld 0 0 true (fun _=>Dat.cells (DTable.mk m l ⟨c,p⟩)),.k (pp ((G9 11).b) 1),.ld 3 1 false (fun _=>[iv x2.Value]),.ct g0 3 38 false [] [] [(kf false (.f 0) c (fun _=>p)).a] (fun _ G=>tworth_ctv m l c p x2.Value hu (by omega) (by omega) n19 hn19 l14 hl14 n15 hn15 l15 hl15),.ld 6 0 true (fun _=>Dat.cells (DFrac.mk ⟨n16,l12,(G12 8).ss 0⟩ ⟨n17,l13,(G12 8).ss 1⟩)),.ct g0 5 46 false [] [] [(kf true (.g 3 0) l14 (fun G=>(G 3).ss 0)).a,(kf true (.g 3 1) l15 (fun G=>(G 3).ss 1)).a,(kf true (.f 13) l12 (fun _=>(G12 8).ss 0)).a,(kf true (.f 14) l13 (fun _=>(G12 8).ss 1)).a] (fun _ G=>fadd_ctv n19 l14 ((G 3).ss 0) n15 l15 ((G 3).ss 1) n16 l12 ((G12 8).ss 0) n17 l13 ((G12 8).ss 1) (by omega) (by omega) (by omega) (by omega) n20 hn20 l16 hl16 n21 hn21 l17 hl17 n22 hn22),.v fun G=>.tuple #[ag (DFrac.mk ⟨n20,l16,(G 5).ss 0⟩ ⟨n21,l17,(G 5).ss 1⟩),iv n22],.v fun G=>ag (DFrac.mk ⟨n20,l16,(G 5).ss 0⟩ ⟨n21,l17,(G 5).ss 1⟩),.k (iv n22),.nb 9 7 (fun b=>pp b 0) 29 (fun _=>ca (DFrac.mk ⟨0,[],{}⟩ ⟨0,[],{}⟩)),.st 7 (fun G=>.blk ((G 9).b) (ca (DFrac.mk ⟨n20,l16,(G 5).ss 0⟩ ⟨n21,l17,(G 5).ss 1⟩)) 29),.k (iv n22)] fun _ _ G13 kw13=>?_;intro S s
  obtain ⟨⟨kl18, -⟩,⟨kl19, -⟩,⟨kl20, -⟩,⟨kl21, -⟩, -⟩:Lq l14 (((G13 3).ss 0).v)∧Lq l15 (((G13 3).ss 1).v)∧Lq l16 (((G13 5).ss 0).v)∧Lq l17 (((G13 5).ss 1).v)∧True:=kq kw13;clear kw13;refine V.g [.ld 7 0 true (fun _=>Dat.cells (DFrac.mk ⟨n20,l16,(G13 5).ss 0⟩ ⟨n21,l17,(G13 5).ss 1⟩)),.st 2 (fun _=>.blk ((G1 2).b) (ca (DFrac.mk ⟨n20,l16,(G13 5).ss 0⟩ ⟨n21,l17,(G13 5).ss 1⟩)) 29),.k (iv 0)] fun _ _ G14=>?_;intro S s;have e1:l16=Fr.rD ((Tb.RtT m l c∧Fr.FrB j d o i)∧(Tb.lin l c (Fr.fq j d i)).isSome=true) ((Tb.lin l c (Fr.fq j d i)).getD 0):=by exact (Fr.Fz.ret zt ⟨hP,by rw [hlin];rfl⟩ (hlg)).2.1
  subst e1;have e3:l17=Fr.rE ((Tb.RtT m l c∧Fr.FrB j d o i)∧(Tb.lin l c (Fr.fq j d i)).isSome=true) ((Tb.lin l c (Fr.fq j d i)).getD 0):=by exact (Fr.Fz.ret zt ⟨hP,by rw [hlin];rfl⟩ (hlg)).2.2.2
  subst e3;have e0:n20=Fr.rS ((Tb.RtT m l c∧Fr.FrB j d o i)∧(Tb.lin l c (Fr.fq j d i)).isSome=true) ((Tb.lin l c (Fr.fq j d i)).getD 0):=by exact (Fr.Fz.ret zt ⟨hP,by rw [hlin];rfl⟩ (hlg)).1
  have e2:n21=Fr.rT ((Tb.RtT m l c∧Fr.FrB j d o i)∧(Tb.lin l c (Fr.fq j d i)).isSome=true):=by exact (Fr.Fz.ret zt ⟨hP,by rw [hlin];rfl⟩ (hlg)).2.2.1
  have e4:(0:Int)=if ¬ (Tb.RtT m l c∧Fr.FrB j d o i) then (1:Int) else if (Tb.lin l c (Fr.fq j d i)).isSome=true then 0 else 4:=by rw [if_neg (fun h=>h hP),hlin];rfl
  exact V.rt [2,0] [(G13 5).ss 0,(G13 5).ss 1] [fun _=>{},fun _=>{}] [] [17,18] [] (.tuple #[ag (DFrac.mk ⟨n20,(Fr.rD ((Tb.RtT m l c∧Fr.FrB j d o i)∧(Tb.lin l c (Fr.fq j d i)).isSome=true) ((Tb.lin l c (Fr.fq j d i)).getD 0)),(G13 5).ss 0⟩ ⟨n21,(Fr.rE ((Tb.RtT m l c∧Fr.FrB j d o i)∧(Tb.lin l c (Fr.fq j d i)).isSome=true) ((Tb.lin l c (Fr.fq j d i)).getD 0)),(G13 5).ss 1⟩),iv 0]) (cong3 (fun (x0 x2 x4:Int)=>(.tuple #[.agg #[iv x0,((G13 5).ss 0).v,iv x2,((G13 5).ss 1).v],iv x4]:Value)) e0 e2 e4)
theorem tline_ctv (f c:ByteArray) (d:List DRow) (i:SV) (e:Int) (a:List Int) (j:SV) (h:Int) (b:List Int) (k:SV) (hs:c.size≤1000000) (hs2:f.size≤1000000) (hkeyP:a.length≤1000000) (hkeyQ:b.length≤1000000) (rv0:Int) (erv0:rv0=Fr.rS ((Tb.RtT f c d∧Fr.FrB e a h b)∧(Tb.lin c d (Fr.fq e a b)).isSome=true) ((Tb.lin c d (Fr.fq e a b)).getD 0)) (rv1:List Int) (erv1:rv1=Fr.rD ((Tb.RtT f c d∧Fr.FrB e a h b)∧(Tb.lin c d (Fr.fq e a b)).isSome=true) ((Tb.lin c d (Fr.fq e a b)).getD 0)) (rv2:Int) (erv2:rv2=Fr.rT ((Tb.RtT f c d∧Fr.FrB e a h b)∧(Tb.lin c d (Fr.fq e a b)).isSome=true)) (rv3:List Int) (erv3:rv3=Fr.rE ((Tb.RtT f c d∧Fr.FrB e a h b)∧(Tb.lin c d (Fr.fq e a b)).isSome=true) ((Tb.lin c d (Fr.fq e a b)).getD 0)) (rv4:Int) (erv4:rv4=if ¬ (Tb.RtT f c d∧Fr.FrB e a h b) then (1:Int) else if (Tb.lin c d (Fr.fq e a b)).isSome=true then 0 else 4) :
    Ct Tryz.prog 10 #[ag (DTable.mk f c ⟨d,i⟩),ag (DFrac.mk ⟨e,a,j⟩ ⟨h,b,k⟩)] [fs true d i,fs true a j,fs true b k] [] (fun g=>.tuple #[ag (DFrac.mk ⟨rv0,rv1,(g.ss 0)⟩ ⟨rv2,rv3,(g.ss 1)⟩),iv rv4]) (fun g=>[fs true rv1 (g.ss 0),fs true rv3 (g.ss 1)]) (fun g=>[]) (fun g=>[]):=by
  subst erv0 erv1 erv2 erv3 erv4;exact tline_ct f c d i e a j h b k hs hs2 hkeyP hkeyQ
set_option maxRecDepth 10000 in
theorem tsum_ct (e d:ByteArray) (c:List DRow) (h:SV) (from_ to:Int) (hs:d.size≤1000000) (hs2:e.size≤1000000) :
    Ct Tryz.prog 12 #[ag (DTable.mk e d ⟨c,h⟩),iv from_,iv to] [fs true c h] [] (fun g=>.tuple #[ag (DFrac.mk ⟨(Fr.rS (Tb.RtT e d c) (((Tb.sumR from_ to c:Int):Rat) * Tb.uf d)),Fr.rD (Tb.RtT e d c) (((Tb.sumR from_ to c:Int):Rat) * Tb.uf d),(g.ss 0)⟩ ⟨(Fr.rT (Tb.RtT e d c)),Fr.rE (Tb.RtT e d c) (((Tb.sumR from_ to c:Int):Rat) * Tb.uf d),(g.ss 1)⟩),iv (if Tb.RtT e d c then (0:Int) else 1)]) (fun g=>[fs true (Fr.rD (Tb.RtT e d c) (((Tb.sumR from_ to c:Int):Rat) * Tb.uf d)) (g.ss 0),fs true (Fr.rE (Tb.RtT e d c) (((Tb.sumR from_ to c:Int):Rat) * Tb.uf d)) (g.ss 1)]) (fun g=>[]) (fun g=>[]):=by
  refine V.fn mo Tryz.func12 40 3 (by kernel_rfl) fun w H ε k0=>?_;obtain ⟨⟨kl1, -⟩, -⟩:Lq c h.v∧True:=kq k0
  clear k0;refine V.g [.nb 0 0 (fun b=>pp b 0) 24 (fun _=>ca (DTable.mk e d ⟨c,h⟩)),.nb 1 1 (fun b=>pp b 0) 29 (fun _=>ca (DFrac.mk ⟨0,[],{}⟩ ⟨0,[],{}⟩)),.k (iv 0)] fun _ _ G1=>?_;intro S s
  refine V.g [.ld 0 0 true (fun _=>Dat.cells (DTable.mk e d ⟨c,h⟩)),.cp g0 1 15 [(kf false (.f 0) c (fun _=>h)).a] (fun _ G=>tright_ct e d c h (by omega) (by omega)),.k (bv (!(decide (Tb.RtT e d c))))] fun _ _ G2=>?_;intro S s
  refine V.cn (b:=!(decide (Tb.RtT e d c))) (iNT iDF) (iNF iDT) (fun q1=>?_) (fun q2=>?_)
  · have hN:¬ Tb.RtT e d c:=by have hqq:=q1;exact hqq
    refine V.g [.k (ag (DFrac.mk ⟨0,[],{}⟩ ⟨0,[],{}⟩)),.st 1 (fun _=>.blk ((G1 1).b) (ca (DFrac.mk ⟨0,[],{}⟩ ⟨0,[],{}⟩)) 29),.k (iv 1)] fun _ _ G3=>?_;intro S s
    refine V.nilF (α:=Int) ?_;refine V.nilF (α:=Int) ?_;have e1:([]:List Int)=Fr.rD (Tb.RtT e d c) (((Tb.sumR from_ to c:Int):Rat) * Tb.uf d):=(Fr.Fz.no hN (((Tb.sumR from_ to c:Int):Rat) * Tb.uf d)).2.1;rw [←e1];have e3:([]:List Int)=Fr.rE (Tb.RtT e d c) (((Tb.sumR from_ to c:Int):Rat) * Tb.uf d):=(Fr.Fz.no hN (((Tb.sumR from_ to c:Int):Rat) * Tb.uf d)).2.2.2;rw [←e3];have e0:(0:Int)=Fr.rS (Tb.RtT e d c) (((Tb.sumR from_ to c:Int):Rat) * Tb.uf d):=(Fr.Fz.no hN (((Tb.sumR from_ to c:Int):Rat) * Tb.uf d)).1;have e2:(0:Int)=Fr.rT (Tb.RtT e d c):=(Fr.Fz.no hN (((Tb.sumR from_ to c:Int):Rat) * Tb.uf d)).2.2.1;have e4:(1:Int)=if Tb.RtT e d c then (0:Int) else 1:=(if_neg hN).symm
    exact V.rt [1,0] [{},{}] [fun _=>{},fun _=>{}] [] [1,2] [] (.tuple #[ag (DFrac.mk ⟨0,([]:List Int),{}⟩ ⟨0,([]:List Int),{}⟩),iv 1]) (cong3 (fun (x0 x2 x4:Int)=>(.tuple #[.agg #[iv x0,SV.v ({}),iv x2,SV.v ({})],iv x4]:Value)) e0 e2 e4)
  have hP:Tb.RtT e d c:=by have hqq:=q2;first | exact hqq | exact Decidable.not_not.1 hqq
  have hso:=hP.so;have hxl:=hso.2.1;have hu:=hP.1.1.1;refine V.g [.k (iv 0)] fun _ _ G4=>?_;intro S s
  refine V.g [.k (pp ((G1 0).b) 2),.ld 0 2 false (fun _=>[h.v]),.ln (kf false (.f 0) c (fun _=>h)),.k (iv 0)] fun _ _ G5=>?_;intro S s
  refine V.loop (γ:=Int × Int) (fun ⟨sum,k0⟩=>⟨[(1,iv from_),(2,iv to),(3,pp ((G1 0).b) 0),(6,pp ((G1 1).b) 0),(8,iv sum),(16,h.v),(17,iv (c.length:Int)),(18,iv k0)],[fs false c h],[.blk ((G1 0).b) (ca (DTable.mk e d ⟨c,h⟩)) 24,.blk ((G1 1).b) (ca (DFrac.mk ⟨0,[],{}⟩ ⟨0,[],{}⟩)) 29,.no]⟩) (fun ⟨sum,k0⟩=>(0≤k0)∧(k0≤(c.length:Int))∧(sum=Tb.sumR from_ to (c.take k0.toNat))∧(-1099511627776 * k0≤sum∧sum≤1099511627776 * k0)) (fun ⟨sum,k0⟩=>((c.length:Int)-k0).toNat) (0,0) (by kernel_rfl) [0] (by kernel_rfl) ?_ ?_
  · refine ⟨?_,?_,?_,?_⟩
    · show 0≤(0:Int);omega
    · show (0:Int)≤(c.length:Int);omega
    · show (0:Int)=Tb.sumR from_ to (c.take (0:Int).toNat);rfl
    show -1099511627776 * (0:Int)≤(0:Int)∧(0:Int)≤1099511627776 * (0:Int);omega
  rintro ⟨sum,k0⟩ hF1 kw6 Z1 hZ1;have hF1:(0≤k0)∧(k0≤(c.length:Int))∧(sum=Tb.sumR from_ to (c.take k0.toNat))∧(-1099511627776 * k0≤sum∧sum≤1099511627776 * k0):=hF1;obtain ⟨hf1,hf2,hf3,hf4⟩:=hF1;clear kw6;refine V.g [.k (bv (decide (k0 < (c.length:Int))))] fun _ _ G6=>?_;intro S s;refine V.cn (b:=decide (k0 < (c.length:Int))) iDT iDF (fun q3=>?_) (fun q4=>?_)
  · refine nm (c.getD k0.toNat default:DRow) fun x1 hx1=>?_;refine V.g [.ix g0 (kf false (.f 0) c (fun _=>h)) k0 (fun _=>⟨by omega,by omega⟩),.le g0 (kf false (.f 0) c (fun _=>h)) k0 none false x1 hx1 (fun _=>⟨by omega,by omega⟩) true (fun _=>Dat.cells x1),.nb 2 2 (fun b=>pp b 0) 58 (fun _=>ca (DRow.mk 0 0)),.st 2 (fun G=>.blk ((G 2).b) (ca x1) 58)] fun _ _ G7=>?_;intro S s
    refine nm ((decide (from_≤x1.Key)) && (decide (x1.Key≤to)):Bool) fun p1 hp1=>?_;have hk_a:Tb.ky c k0.toNat=x1.Key:=by rw [hx1];rfl
    have hv_a:Tb.vl c k0.toNat=x1.Value:=by rw [hx1];rfl
    have hr_a:=hso.2.2 k0.toNat (by omega);rw [hk_a,hv_a] at hr_a;unfold Tb.inR at hr_a;refine V.g [.k (pp ((G7 2).b) 0),.ld 2 0 false (fun _=>[iv x1.Key]),.k (iv from_),.k (bv (decide (from_≤x1.Key))),.k (bv (decide (from_≤x1.Key))),.k (pp ((G7 2).b) 0),.ld 2 0 false (fun _=>[iv x1.Key]),.k (iv to),.k (bv (decide (x1.Key≤to))),.andn g0 false (decide (from_≤x1.Key)) (decide (x1.Key≤to)) p1 hp1] fun _ _ G8=>?_;intro S s
    refine V.cn (b:=p1) (iN hp1 (iAT iDT iDT)) (iN hp1 (iAF iDF iDF)) (fun q5=>?_) (fun q6=>?_)
    · refine V.g [.k (iv sum),.k (pp ((G7 2).b) 1),.ld 2 1 false (fun _=>[iv x1.Value]),.a (sum+x1.Value) (by omega) (by omega),.k (iv (sum+x1.Value))] fun _ _ G9=>?_;intro S s
      refine V.g [.a (k0+1) (by omega) (by omega),.k (iv (k0+1))] fun _ _ G10=>?_;intro S s
      refine V.rnd hZ1 (sum+x1.Value,k0+1) [0] (by kernel_rfl) ?_ ?_
      · refine ⟨?_,?_,?_,?_⟩
        · show 0≤(k0+1);omega
        · show (k0+1)≤(c.length:Int);omega
        · show (sum+x1.Value)=Tb.sumR from_ to (c.take (k0+1).toNat);rw [show (k0+1).toNat=k0.toNat+1 by omega,Tb.sumR_step (by omega),hk_a,hv_a,if_pos q5,← hf3]
        show -1099511627776 * (k0+1)≤(sum+x1.Value)∧(sum+x1.Value)≤1099511627776 * (k0+1);omega
      show ((c.length:Int)-(k0+1)).toNat < ((c.length:Int)-k0).toNat;omega
    refine V.g [.a (k0+1) (by omega) (by omega),.k (iv (k0+1))] fun _ _ G11=>?_;intro S s
    refine V.rnd hZ1 (sum,k0+1) [0] (by kernel_rfl) ?_ ?_
    · refine ⟨?_,?_,?_,?_⟩
      · show 0≤(k0+1);omega
      · show (k0+1)≤(c.length:Int);omega
      · show sum=Tb.sumR from_ to (c.take (k0+1).toNat);rw [show (k0+1).toNat=k0.toNat+1 by omega,Tb.sumR_step (by omega),hk_a,hv_a,if_neg (by have hqq:=q6;omega),← hf3];omega
      show -1099511627776 * (k0+1)≤sum∧sum≤1099511627776 * (k0+1);omega
    show ((c.length:Int)-(k0+1)).toNat < ((c.length:Int)-k0).toNat;omega
  refine nm (Fr.rS (True) ((sum:Rat) * Tb.uf d):Int) fun n1 hn1=>?_;refine nl (Fr.rD (True) ((sum:Rat) * Tb.uf d)) fun l1 hl1 hl1n=>?_;refine nm (Fr.rT (True):Int) fun n2 hn2=>?_;refine nl (Fr.rE (True) ((sum:Rat) * Tb.uf d)) fun l2 hl2 hl2n=>?_;have hsum:sum=Tb.sumR from_ to c:=by rw [hf3,List.take_of_length_le (by omega)]
  have hsq:(sum:Rat) * Tb.uf d=((Tb.sumR from_ to c:Int):Rat) * Tb.uf d:=by rw [hsum]
  have zf:=Fr.Fz.of True.intro hn1 hl1 hn2 hl2;have hl_zf:=zf.len (Tb.worth_hb hu (n:=sum) (by omega));have hl1_zf:=hl_zf.1;have hl2_zf:=hl_zf.2;refine V.r [.ld 0 0 true (fun _=>Dat.cells (DTable.mk e d ⟨c,h⟩)),.k (iv sum),.ct g0 2 38 false [] [] [(kf false (.f 0) c (fun _=>h)).a] (fun _ G=>tworth_ctv e d c h sum hu (by omega) (by omega) n1 hn1 l1 hl1 n2 hn2 l2 hl2),.st 1 (fun G=>.blk ((G1 1).b) (ca (DFrac.mk ⟨n1,l1,(G 2).ss 0⟩ ⟨n2,l2,(G 2).ss 1⟩)) 29),.k (iv 0)] fun _ _ G12 kw13=>?_;intro S s
  obtain ⟨⟨kl2, -⟩,⟨kl3, -⟩, -⟩:Lq l1 (((G12 2).ss 0).v)∧Lq l2 (((G12 2).ss 1).v)∧True:=kq kw13;clear kw13;have e1:l1=Fr.rD (Tb.RtT e d c) (((Tb.sumR from_ to c:Int):Rat) * Tb.uf d):=(Fr.Fz.ret zf hP (hsq)).2.1;subst e1;have e3:l2=Fr.rE (Tb.RtT e d c) (((Tb.sumR from_ to c:Int):Rat) * Tb.uf d):=(Fr.Fz.ret zf hP (hsq)).2.2.2;subst e3;have e0:n1=Fr.rS (Tb.RtT e d c) (((Tb.sumR from_ to c:Int):Rat) * Tb.uf d):=(Fr.Fz.ret zf hP (hsq)).1;have e2:n2=Fr.rT (Tb.RtT e d c):=(Fr.Fz.ret zf hP (hsq)).2.2.1;have e4:(0:Int)=if Tb.RtT e d c then (0:Int) else 1:=(if_pos hP).symm
  exact V.rt [1,0] [(G12 2).ss 0,(G12 2).ss 1] [fun _=>{},fun _=>{}] [] [1,2] [] (.tuple #[ag (DFrac.mk ⟨n1,(Fr.rD (Tb.RtT e d c) (((Tb.sumR from_ to c:Int):Rat) * Tb.uf d)),(G12 2).ss 0⟩ ⟨n2,(Fr.rE (Tb.RtT e d c) (((Tb.sumR from_ to c:Int):Rat) * Tb.uf d)),(G12 2).ss 1⟩),iv 0]) (cong3 (fun (x0 x2 x4:Int)=>(.tuple #[.agg #[iv x0,((G12 2).ss 0).v,iv x2,((G12 2).ss 1).v],iv x4]:Value)) e0 e2 e4)
theorem tsum_ctv (c a:ByteArray) (b:List DRow) (d:SV) (from_ to:Int) (hs:a.size≤1000000) (hs2:c.size≤1000000) (rv0:Int) (erv0:rv0=Fr.rS (Tb.RtT c a b) (((Tb.sumR from_ to b:Int):Rat) * Tb.uf a)) (rv1:List Int) (erv1:rv1=Fr.rD (Tb.RtT c a b) (((Tb.sumR from_ to b:Int):Rat) * Tb.uf a)) (rv2:Int) (erv2:rv2=Fr.rT (Tb.RtT c a b)) (rv3:List Int) (erv3:rv3=Fr.rE (Tb.RtT c a b) (((Tb.sumR from_ to b:Int):Rat) * Tb.uf a)) (rv4:Int) (erv4:rv4=if Tb.RtT c a b then (0:Int) else 1) :
    Ct Tryz.prog 12 #[ag (DTable.mk c a ⟨b,d⟩),iv from_,iv to] [fs true b d] [] (fun g=>.tuple #[ag (DFrac.mk ⟨rv0,rv1,(g.ss 0)⟩ ⟨rv2,rv3,(g.ss 1)⟩),iv rv4]) (fun g=>[fs true rv1 (g.ss 0),fs true rv3 (g.ss 1)]) (fun g=>[]) (fun g=>[]):=by
  subst erv0 erv1 erv2 erv3 erv4;exact tsum_ct c a b d from_ to hs hs2

open Go Go.Proofs
set_option maxRecDepth 10000 in
theorem example_ct :
    Ct Tryz.prog 32 #[] [] [] (fun g=>ag (DTable.mk Tb.et Tb.ek ⟨Tb.ex,(g.ss 0)⟩)) (fun g=>[fs true Tb.ex (g.ss 0)]) (fun g=>[]) (fun g=>[]):=by
  refine V.fn mo Tryz.func32 6 1 (by kernel_rfl) fun w H ε k0=>?_;clear k0
  refine V.g [.nb 0 0 (fun b=>pp b 0) 24 (fun _=>ca (DTable.mk ByteArray.empty ByteArray.empty ⟨[],{}⟩))] fun _ _ G1=>?_;intro S s
  refine V.r [.k (ag (DRow.mk 0 10)),.k (ag (DRow.mk 10 30)),.k (ag (DRow.mk 20 20)),.nr 3 true 58 ([DRow.mk 0 10,DRow.mk 10 30,DRow.mk 20 20]:List DRow) [] (fun _ _ _ _ _=>trivial) (fun _=>#[iv 0,iv 10,iv 10,iv 30,iv 20,iv 20]),.v fun G=>ag (DTable.mk ⟨#[116]⟩ ⟨#[107,103]⟩ ⟨([DRow.mk 0 10,DRow.mk 10 30,DRow.mk 20 20]:List DRow),⟨atB (G 3).b,3,3⟩⟩),.st 0 (fun G=>.blk ((G1 0).b) (ca (DTable.mk ⟨#[116]⟩ ⟨#[107,103]⟩ ⟨([DRow.mk 0 10,DRow.mk 10 30,DRow.mk 20 20]:List DRow),⟨atB (G 3).b,3,3⟩⟩)) 24)] fun _ _ G2 kw2=>?_;intro S s
  obtain ⟨⟨kl1, -⟩, -⟩:Lq ([DRow.mk 0 10,DRow.mk 10 30,DRow.mk 20 20]:List DRow) (SV.v ⟨atB (G2 3).b,3,3⟩)∧True:=kq kw2;clear kw2;have e2:([DRow.mk 0 10,DRow.mk 10 30,DRow.mk 20 20]:List DRow)=Tb.ex:=by rfl
  rw [←e2];have e0:⟨#[116]⟩=Tb.et:=by rfl
  have e1:⟨#[107,103]⟩=Tb.ek:=by rfl
  exact V.rt [0] [⟨atB (G2 3).b,3,3⟩] [fun _=>{}] [] [0] [] (ag (DTable.mk ⟨#[116]⟩ ⟨#[107,103]⟩ ⟨([DRow.mk 0 10,DRow.mk 10 30,DRow.mk 20 20]:List DRow),⟨atB (G2 3).b,3,3⟩⟩)) (cong2 (fun (x0 x1:ByteArray)=>(.agg #[tv x0,tv x1,SV.v ⟨atB (G2 3).b,3,3⟩]:Value)) e0 e1)
set_option maxRecDepth 10000 in
theorem looks_ct (key want:Int) (hk: -9223372036854775808≤key∧key≤9223372036854775807) (hw: -9223372036854775808≤want∧want≤9223372036854775807) :
    Cp Tryz.prog 34 #[iv key,iv want] [] (bv (decide (Tb.looksP key want))):=by
  refine V.fn mo Tryz.func34 22 1 (by kernel_rfl) fun w H ε k0=>?_;clear k0
  refine V.g [.kb false] fun _ _ G1=>?_;intro S s
  refine nm (Bg.sgn key:Int) fun n1 hn1=>?_;refine nl (Bg.dig key.natAbs) fun l1 hl1 hl1n=>?_;refine nl (Bg.dig 1) fun l2 hl2 hl2n=>?_;refine nm (Fr.rS ((Tb.RtT Tb.et Tb.ek Tb.ex∧Fr.FrB n1 l1 (1:Int) l2)∧0 < Tb.aft Tb.ex (Fr.fq n1 l1 l2)) (Tb.lkR Tb.ek Tb.ex (Fr.fq n1 l1 l2)):Int) fun n2 hn2=>?_;refine nl (Fr.rD ((Tb.RtT Tb.et Tb.ek Tb.ex∧Fr.FrB n1 l1 (1:Int) l2)∧0 < Tb.aft Tb.ex (Fr.fq n1 l1 l2)) (Tb.lkR Tb.ek Tb.ex (Fr.fq n1 l1 l2))) fun l3 hl3 hl3n=>?_;refine nm (Fr.rT ((Tb.RtT Tb.et Tb.ek Tb.ex∧Fr.FrB n1 l1 (1:Int) l2)∧0 < Tb.aft Tb.ex (Fr.fq n1 l1 l2)):Int) fun n3 hn3=>?_;refine nl (Fr.rE ((Tb.RtT Tb.et Tb.ek Tb.ex∧Fr.FrB n1 l1 (1:Int) l2)∧0 < Tb.aft Tb.ex (Fr.fq n1 l1 l2)) (Tb.lkR Tb.ek Tb.ex (Fr.fq n1 l1 l2))) fun l4 hl4 hl4n=>?_;refine nm (if ¬ (Tb.RtT Tb.et Tb.ek Tb.ex∧Fr.FrB n1 l1 (1:Int) l2) then (1:Int) else if Tb.aft Tb.ex (Fr.fq n1 l1 l2)=0 then 4 else 0:Int) fun n4 hn4=>?_;have zk:Fr.Fz n1 l1 1 l2 ((key:Int):Rat):=by subst_vars;exact Un.intz _
  have hl_zk:=zk.len (Fr.Hb.int (by first | assumption | decide));have hl1_zk:=hl_zk.1;have hl2_zk:=hl_zk.2;have hP:Tb.RtT Tb.et Tb.ek Tb.ex∧Fr.FrB n1 l1 1 l2:=⟨Tb.exR,zk.rt⟩;have he:n4=if Tb.aft Tb.ex (key:Rat)=0 then 4 else 0:=by rw [hn4,if_neg (fun h=>h hP),zk.v]
  have zf:0 < Tb.aft Tb.ex (key:Rat)→Fr.Fz n2 l3 n3 l4 (Tb.lkR Tb.ek Tb.ex (key:Rat)):=fun h=>by rw [←zk.v] at h ⊢;exact Fr.Fz.of (And.intro hP h) hn2 hl3 hn3 hl4
  refine V.r [.ct g0 0 32 false [] [] [] (fun _ G=>example_ct ),.k (iv key),.ct g0 2 33 false [] [] [] (fun _ G=>r5int_ctv key hk n1 hn1 l1 hl1 l2 hl2),.ct g0 3 8 false [] [] [(kf true (.g 0 0) Tb.ex (fun G=>(G 0).ss 0)).a,(kf true (.g 2 0) l1 (fun G=>(G 2).ss 0)).a,(kf true (.g 2 1) l2 (fun G=>(G 2).ss 1)).a] (fun _ G=>tlook_ctv Tb.et Tb.ek Tb.ex ((G 0).ss 0) n1 l1 ((G 2).ss 0) (1:Int) l2 ((G 2).ss 1) (by decide) (by decide) (by omega) (by omega) n2 hn2 l3 hl3 n3 hn3 l4 hl4 n4 hn4),.v fun G=>.tuple #[ag (DFrac.mk ⟨n2,l3,(G 3).ss 0⟩ ⟨n3,l4,(G 3).ss 1⟩),iv n4],.v fun G=>ag (DFrac.mk ⟨n2,l3,(G 3).ss 0⟩ ⟨n3,l4,(G 3).ss 1⟩),.k (iv n4),.nb 7 0 (fun b=>pp b 0) 29 (fun _=>ca (DFrac.mk ⟨0,[],{}⟩ ⟨0,[],{}⟩)),.st 0 (fun G=>.blk ((G 7).b) (ca (DFrac.mk ⟨n2,l3,(G 3).ss 0⟩ ⟨n3,l4,(G 3).ss 1⟩)) 29),.k (iv n4)] fun _ _ G2 kw2=>?_;intro S s
  obtain ⟨⟨kl1, -⟩,⟨kl2, -⟩,⟨kl3, -⟩,⟨kl4, -⟩,⟨kl5, -⟩, -⟩:Lq Tb.ex (((G2 0).ss 0).v)∧Lq l1 (((G2 2).ss 0).v)∧Lq l2 (((G2 2).ss 1).v)∧Lq l3 (((G2 3).ss 0).v)∧Lq l4 (((G2 3).ss 1).v)∧True:=kq kw2;clear kw2;refine nm (Bg.sgn want:Int) fun n5 hn5=>?_;refine nl (Bg.dig want.natAbs) fun l5 hl5 hl5n=>?_;refine nm ((decide (n4=0)) && (decide (n2=n5∧l3=l5∧n3=(1:Int)∧l4=l2)):Bool) fun p1 hp1=>?_;have zw:Fr.Fz n5 l5 1 l2 ((want:Int):Rat):=by subst_vars;exact Un.intz _
  have hl_zw:=zw.len (Fr.Hb.int (by first | assumption | decide));have hl1_zw:=hl_zw.1;have hl2_zw:=hl_zw.2;refine V.g [.k (iv n4),.k (bv (decide (n4=0))),.k (bv (decide (n4=0))),.ld 0 0 true (fun _=>Dat.cells (DFrac.mk ⟨n2,l3,(G2 3).ss 0⟩ ⟨n3,l4,(G2 3).ss 1⟩)),.k (iv want),.ct (gT (b:=decide (n4=0)) iDT) 5 33 false [] [] [] (fun hg G=>r5int_ctv want hw n5 hn5 l5 hl5 l2 hl2),.cp (gT (b:=decide (n4=0)) iDT) 6 14 [(kf true (.f 3) l3 (fun _=>(G2 3).ss 0)).a,(kf true (.f 4) l4 (fun _=>(G2 3).ss 1)).a,(kf true (.g 5 0) l5 (fun G=>(G 5).ss 0)).a,(kf true (.g 5 1) l2 (fun G=>(G 5).ss 1)).a] (fun hg G=>same5_ct n2 l3 ((G2 3).ss 0) n3 l4 ((G2 3).ss 1) n5 l5 ((G 5).ss 0) (1:Int) l2 ((G 5).ss 1)),.andn g0 false (decide (n4=0)) (decide (n2=n5∧l3=l5∧n3=(1:Int)∧l4=l2)) p1 hp1,.k (bv p1)] fun _ _ G3=>?_;intro S s
  have e0:p1=decide (Tb.looksP key want):=by
    refine Bool.eq_iff_iff.2 (Iff.trans (iN hp1 (iAT iDT iDT)) (Iff.trans ?_ decide_eq_true_iff.symm));rw [he];unfold Tb.looksP;constructor
    · rintro ⟨h1,h2⟩;have h3:0 < Tb.aft Tb.ex (key:Rat):=by split at h1 <;> omega
      exact ⟨h3,(Fr.Fz.iff (zf h3) zw).1 h2⟩
    rintro ⟨h1,h2⟩;exact ⟨by rw [if_neg (by omega)],(Fr.Fz.iff (zf h1) zw).2 h2⟩
  exact V.rt [0] [] [] [] [] [] (bv p1) (cong1 (fun (x0:Bool)=>(bv x0:Value)) e0)
theorem lookst_ct (key want:Int) (hk: -9223372036854775808≤key∧key≤9223372036854775807) (hw: -9223372036854775808≤want∧want≤9223372036854775807) (hT:Tb.looksP key want) :
    Cp Tryz.prog 34 #[iv key,iv want] [] (bv (true)):=by
  have h:=looks_ct  key want hk hw;rw [decide_eq_true hT] at h;exact h
set_option maxRecDepth 10000 in
theorem lines_ct (key want:Int) (hk: -9223372036854775808≤key∧key≤9223372036854775807) (hw: -9223372036854775808≤want∧want≤9223372036854775807) :
    Cp Tryz.prog 35 #[iv key,iv want] [] (bv (decide (Tb.linesP key want))):=by
  refine V.fn mo Tryz.func35 22 1 (by kernel_rfl) fun w H ε k0=>?_;clear k0
  refine V.g [.kb false] fun _ _ G1=>?_;intro S s
  refine nm (Bg.sgn key:Int) fun n1 hn1=>?_;refine nl (Bg.dig key.natAbs) fun l1 hl1 hl1n=>?_;refine nl (Bg.dig 1) fun l2 hl2 hl2n=>?_;refine nm (Fr.rS ((Tb.RtT Tb.et Tb.ek Tb.ex∧Fr.FrB n1 l1 (1:Int) l2)∧(Tb.lin Tb.ek Tb.ex (Fr.fq n1 l1 l2)).isSome=true) ((Tb.lin Tb.ek Tb.ex (Fr.fq n1 l1 l2)).getD 0):Int) fun n2 hn2=>?_;refine nl (Fr.rD ((Tb.RtT Tb.et Tb.ek Tb.ex∧Fr.FrB n1 l1 (1:Int) l2)∧(Tb.lin Tb.ek Tb.ex (Fr.fq n1 l1 l2)).isSome=true) ((Tb.lin Tb.ek Tb.ex (Fr.fq n1 l1 l2)).getD 0)) fun l3 hl3 hl3n=>?_;refine nm (Fr.rT ((Tb.RtT Tb.et Tb.ek Tb.ex∧Fr.FrB n1 l1 (1:Int) l2)∧(Tb.lin Tb.ek Tb.ex (Fr.fq n1 l1 l2)).isSome=true):Int) fun n3 hn3=>?_;refine nl (Fr.rE ((Tb.RtT Tb.et Tb.ek Tb.ex∧Fr.FrB n1 l1 (1:Int) l2)∧(Tb.lin Tb.ek Tb.ex (Fr.fq n1 l1 l2)).isSome=true) ((Tb.lin Tb.ek Tb.ex (Fr.fq n1 l1 l2)).getD 0)) fun l4 hl4 hl4n=>?_;refine nm (if ¬ (Tb.RtT Tb.et Tb.ek Tb.ex∧Fr.FrB n1 l1 (1:Int) l2) then (1:Int) else if (Tb.lin Tb.ek Tb.ex (Fr.fq n1 l1 l2)).isSome=true then 0 else 4:Int) fun n4 hn4=>?_;have zk:Fr.Fz n1 l1 1 l2 ((key:Int):Rat):=by subst_vars;exact Un.intz _
  have hl_zk:=zk.len (Fr.Hb.int (by first | assumption | decide));have hl1_zk:=hl_zk.1;have hl2_zk:=hl_zk.2;have hP:Tb.RtT Tb.et Tb.ek Tb.ex∧Fr.FrB n1 l1 1 l2:=⟨Tb.exR,zk.rt⟩;have he:n4=if (Tb.lin Tb.ek Tb.ex (key:Rat)).isSome=true then 0 else 4:=by rw [hn4,if_neg (fun h=>h hP),zk.v]
  have zf:(Tb.lin Tb.ek Tb.ex (key:Rat)).isSome=true→Fr.Fz n2 l3 n3 l4 ((Tb.lin Tb.ek Tb.ex (key:Rat)).getD 0):=fun h=>by rw [←zk.v] at h ⊢;exact Fr.Fz.of (And.intro hP h) hn2 hl3 hn3 hl4
  refine V.r [.ct g0 0 32 false [] [] [] (fun _ G=>example_ct ),.k (iv key),.ct g0 2 33 false [] [] [] (fun _ G=>r5int_ctv key hk n1 hn1 l1 hl1 l2 hl2),.ct g0 3 10 false [] [] [(kf true (.g 0 0) Tb.ex (fun G=>(G 0).ss 0)).a,(kf true (.g 2 0) l1 (fun G=>(G 2).ss 0)).a,(kf true (.g 2 1) l2 (fun G=>(G 2).ss 1)).a] (fun _ G=>tline_ctv Tb.et Tb.ek Tb.ex ((G 0).ss 0) n1 l1 ((G 2).ss 0) (1:Int) l2 ((G 2).ss 1) (by decide) (by decide) (by omega) (by omega) n2 hn2 l3 hl3 n3 hn3 l4 hl4 n4 hn4),.v fun G=>.tuple #[ag (DFrac.mk ⟨n2,l3,(G 3).ss 0⟩ ⟨n3,l4,(G 3).ss 1⟩),iv n4],.v fun G=>ag (DFrac.mk ⟨n2,l3,(G 3).ss 0⟩ ⟨n3,l4,(G 3).ss 1⟩),.k (iv n4),.nb 7 0 (fun b=>pp b 0) 29 (fun _=>ca (DFrac.mk ⟨0,[],{}⟩ ⟨0,[],{}⟩)),.st 0 (fun G=>.blk ((G 7).b) (ca (DFrac.mk ⟨n2,l3,(G 3).ss 0⟩ ⟨n3,l4,(G 3).ss 1⟩)) 29),.k (iv n4)] fun _ _ G2 kw2=>?_;intro S s
  obtain ⟨⟨kl1, -⟩,⟨kl2, -⟩,⟨kl3, -⟩,⟨kl4, -⟩,⟨kl5, -⟩, -⟩:Lq Tb.ex (((G2 0).ss 0).v)∧Lq l1 (((G2 2).ss 0).v)∧Lq l2 (((G2 2).ss 1).v)∧Lq l3 (((G2 3).ss 0).v)∧Lq l4 (((G2 3).ss 1).v)∧True:=kq kw2;clear kw2;refine nm (Bg.sgn want:Int) fun n5 hn5=>?_;refine nl (Bg.dig want.natAbs) fun l5 hl5 hl5n=>?_;refine nm ((decide (n4=0)) && (decide (n2=n5∧l3=l5∧n3=(1:Int)∧l4=l2)):Bool) fun p1 hp1=>?_;have zw:Fr.Fz n5 l5 1 l2 ((want:Int):Rat):=by subst_vars;exact Un.intz _
  have hl_zw:=zw.len (Fr.Hb.int (by first | assumption | decide));have hl1_zw:=hl_zw.1;have hl2_zw:=hl_zw.2;refine V.g [.k (iv n4),.k (bv (decide (n4=0))),.k (bv (decide (n4=0))),.ld 0 0 true (fun _=>Dat.cells (DFrac.mk ⟨n2,l3,(G2 3).ss 0⟩ ⟨n3,l4,(G2 3).ss 1⟩)),.k (iv want),.ct (gT (b:=decide (n4=0)) iDT) 5 33 false [] [] [] (fun hg G=>r5int_ctv want hw n5 hn5 l5 hl5 l2 hl2),.cp (gT (b:=decide (n4=0)) iDT) 6 14 [(kf true (.f 3) l3 (fun _=>(G2 3).ss 0)).a,(kf true (.f 4) l4 (fun _=>(G2 3).ss 1)).a,(kf true (.g 5 0) l5 (fun G=>(G 5).ss 0)).a,(kf true (.g 5 1) l2 (fun G=>(G 5).ss 1)).a] (fun hg G=>same5_ct n2 l3 ((G2 3).ss 0) n3 l4 ((G2 3).ss 1) n5 l5 ((G 5).ss 0) (1:Int) l2 ((G 5).ss 1)),.andn g0 false (decide (n4=0)) (decide (n2=n5∧l3=l5∧n3=(1:Int)∧l4=l2)) p1 hp1,.k (bv p1)] fun _ _ G3=>?_;intro S s
  have e0:p1=decide (Tb.linesP key want):=by
    refine Bool.eq_iff_iff.2 (Iff.trans (iN hp1 (iAT iDT iDT)) (Iff.trans ?_ decide_eq_true_iff.symm));rw [he];unfold Tb.linesP;cases hl:Tb.lin Tb.ek Tb.ex (key:Rat) with
    | none=>simp
    | some r =>
      have hi:(Tb.lin Tb.ek Tb.ex (key:Rat)).isSome=true:=by rw [hl];rfl
      have z2:=zf hi;rw [hl] at z2;rw [if_pos (show (some r).isSome=true from rfl),Fr.Fz.iff z2 zw];exact ⟨fun h=>congrArg some h.2,fun h=>⟨rfl,Option.some.inj h⟩⟩
  exact V.rt [0] [] [] [] [] [] (bv p1) (cong1 (fun (x0:Bool)=>(bv x0:Value)) e0)
theorem linest_ct (key want:Int) (hk: -9223372036854775808≤key∧key≤9223372036854775807) (hw: -9223372036854775808≤want∧want≤9223372036854775807) (hT:Tb.linesP key want) :
    Cp Tryz.prog 35 #[iv key,iv want] [] (bv (true)):=by
  have h:=lines_ct  key want hk hw;rw [decide_eq_true hT] at h;exact h
set_option maxRecDepth 10000 in
theorem small_ct :
    Cp Tryz.prog 5 #[] [] (bv true):=by
  refine V.fn mo Tryz.func5 96 5 (by kernel_rfl) fun w H ε k0=>?_;clear k0
  refine V.g [.kb false] fun _ _ G1=>?_;intro S s
  refine nm (Bg.sgn (-1:Int):Int) fun n1 hn1=>?_;refine nl (Bg.dig (-1:Int).natAbs) fun l1 hl1 hl1n=>?_;refine nl (Bg.dig 1) fun l2 hl2 hl2n=>?_;refine nm (Fr.rS ((Tb.RtT Tb.et Tb.ek Tb.ex∧Fr.FrB n1 l1 (1:Int) l2)∧0 < Tb.aft Tb.ex (Fr.fq n1 l1 l2)) (Tb.lkR Tb.ek Tb.ex (Fr.fq n1 l1 l2)):Int) fun n2 hn2=>?_;refine nl (Fr.rD ((Tb.RtT Tb.et Tb.ek Tb.ex∧Fr.FrB n1 l1 (1:Int) l2)∧0 < Tb.aft Tb.ex (Fr.fq n1 l1 l2)) (Tb.lkR Tb.ek Tb.ex (Fr.fq n1 l1 l2))) fun l3 hl3 hl3n=>?_;refine nm (Fr.rT ((Tb.RtT Tb.et Tb.ek Tb.ex∧Fr.FrB n1 l1 (1:Int) l2)∧0 < Tb.aft Tb.ex (Fr.fq n1 l1 l2)):Int) fun n3 hn3=>?_;refine nl (Fr.rE ((Tb.RtT Tb.et Tb.ek Tb.ex∧Fr.FrB n1 l1 (1:Int) l2)∧0 < Tb.aft Tb.ex (Fr.fq n1 l1 l2)) (Tb.lkR Tb.ek Tb.ex (Fr.fq n1 l1 l2))) fun l4 hl4 hl4n=>?_;refine nm (if ¬ (Tb.RtT Tb.et Tb.ek Tb.ex∧Fr.FrB n1 l1 (1:Int) l2) then (1:Int) else if Tb.aft Tb.ex (Fr.fq n1 l1 l2)=0 then 4 else 0:Int) fun n4 hn4=>?_;have z1:Fr.Fz n1 l1 1 l2 ((-1:Int):Rat):=by subst_vars;exact Un.intz _
  have hl_z1:=z1.len (Fr.Hb.int (by first | assumption | decide));have hl1_z1:=hl_z1.1;have hl2_z1:=hl_z1.2;have e1:n4=4:=by rw [hn4,if_neg (fun h=>h ⟨Tb.exR,z1.rt⟩),z1.v,if_pos Tb.no1]
  refine V.r [.ct g0 0 32 false [] [] [] (fun _ G=>example_ct ),.ct g0 1 33 false [] [] [] (fun _ G=>r5int_ctv (-1:Int) (by omega) n1 hn1 l1 hl1 l2 hl2),.ct g0 2 8 false [] [] [(kf true (.g 0 0) Tb.ex (fun G=>(G 0).ss 0)).a,(kf true (.g 1 0) l1 (fun G=>(G 1).ss 0)).a,(kf true (.g 1 1) l2 (fun G=>(G 1).ss 1)).a] (fun _ G=>tlook_ctv Tb.et Tb.ek Tb.ex ((G 0).ss 0) n1 l1 ((G 1).ss 0) (1:Int) l2 ((G 1).ss 1) (by decide) (by decide) (by omega) (by omega) n2 hn2 l3 hl3 n3 hn3 l4 hl4 n4 hn4),.v fun G=>.tuple #[ag (DFrac.mk ⟨n2,l3,(G 2).ss 0⟩ ⟨n3,l4,(G 2).ss 1⟩),iv n4],.v fun G=>ag (DFrac.mk ⟨n2,l3,(G 2).ss 0⟩ ⟨n3,l4,(G 2).ss 1⟩),.k (iv n4),.nb 6 0 (fun b=>pp b 0) 29 (fun _=>ca (DFrac.mk ⟨0,[],{}⟩ ⟨0,[],{}⟩)),.st 0 (fun G=>.blk ((G 6).b) (ca (DFrac.mk ⟨n2,l3,(G 2).ss 0⟩ ⟨n3,l4,(G 2).ss 1⟩)) 29),.k (iv n4)] fun _ _ G2 kw2=>?_;intro S s
  obtain ⟨⟨kl1, -⟩,⟨kl2, -⟩,⟨kl3, -⟩,⟨kl4, -⟩,⟨kl5, -⟩, -⟩:Lq Tb.ex (((G2 0).ss 0).v)∧Lq l1 (((G2 1).ss 0).v)∧Lq l2 (((G2 1).ss 1).v)∧Lq l3 (((G2 2).ss 0).v)∧Lq l4 (((G2 2).ss 1).v)∧True:=kq kw2;clear kw2;refine nm (Bg.sgn (21:Int):Int) fun n5 hn5=>?_;refine nl (Bg.dig (21:Int).natAbs) fun l5 hl5 hl5n=>?_;refine nm (Fr.rS ((Tb.RtT Tb.et Tb.ek Tb.ex∧Fr.FrB n5 l5 (1:Int) l2)∧(Tb.lin Tb.ek Tb.ex (Fr.fq n5 l5 l2)).isSome=true) ((Tb.lin Tb.ek Tb.ex (Fr.fq n5 l5 l2)).getD 0):Int) fun n6 hn6=>?_;refine nl (Fr.rD ((Tb.RtT Tb.et Tb.ek Tb.ex∧Fr.FrB n5 l5 (1:Int) l2)∧(Tb.lin Tb.ek Tb.ex (Fr.fq n5 l5 l2)).isSome=true) ((Tb.lin Tb.ek Tb.ex (Fr.fq n5 l5 l2)).getD 0)) fun l6 hl6 hl6n=>?_;refine nm (Fr.rT ((Tb.RtT Tb.et Tb.ek Tb.ex∧Fr.FrB n5 l5 (1:Int) l2)∧(Tb.lin Tb.ek Tb.ex (Fr.fq n5 l5 l2)).isSome=true):Int) fun n7 hn7=>?_;refine nl (Fr.rE ((Tb.RtT Tb.et Tb.ek Tb.ex∧Fr.FrB n5 l5 (1:Int) l2)∧(Tb.lin Tb.ek Tb.ex (Fr.fq n5 l5 l2)).isSome=true) ((Tb.lin Tb.ek Tb.ex (Fr.fq n5 l5 l2)).getD 0)) fun l7 hl7 hl7n=>?_;refine nm (if ¬ (Tb.RtT Tb.et Tb.ek Tb.ex∧Fr.FrB n5 l5 (1:Int) l2) then (1:Int) else if (Tb.lin Tb.ek Tb.ex (Fr.fq n5 l5 l2)).isSome=true then 0 else 4:Int) fun n8 hn8=>?_;have z2:Fr.Fz n5 l5 1 l2 ((21:Int):Rat):=by subst_vars;exact Un.intz _
  have hl_z2:=z2.len (Fr.Hb.int (by first | assumption | decide));have hl1_z2:=hl_z2.1;have hl2_z2:=hl_z2.2;have e2:n8=4:=by rw [hn8,if_neg (fun h=>h ⟨Tb.exR,z2.rt⟩),z2.v,Tb.no2];rfl
  refine V.r [.ct g0 0 32 false [] [] [] (fun _ G=>example_ct ),.ct g0 1 33 false [] [] [] (fun _ G=>r5int_ctv (21:Int) (by omega) n5 hn5 l5 hl5 l2 hl2),.ct g0 2 10 false [] [] [(kf true (.g 0 0) Tb.ex (fun G=>(G 0).ss 0)).a,(kf true (.g 1 0) l5 (fun G=>(G 1).ss 0)).a,(kf true (.g 1 1) l2 (fun G=>(G 1).ss 1)).a] (fun _ G=>tline_ctv Tb.et Tb.ek Tb.ex ((G 0).ss 0) n5 l5 ((G 1).ss 0) (1:Int) l2 ((G 1).ss 1) (by decide) (by decide) (by omega) (by omega) n6 hn6 l6 hl6 n7 hn7 l7 hl7 n8 hn8),.v fun G=>.tuple #[ag (DFrac.mk ⟨n6,l6,(G 2).ss 0⟩ ⟨n7,l7,(G 2).ss 1⟩),iv n8],.v fun G=>ag (DFrac.mk ⟨n6,l6,(G 2).ss 0⟩ ⟨n7,l7,(G 2).ss 1⟩),.k (iv n8),.nb 6 1 (fun b=>pp b 0) 29 (fun _=>ca (DFrac.mk ⟨0,[],{}⟩ ⟨0,[],{}⟩)),.st 1 (fun G=>.blk ((G 6).b) (ca (DFrac.mk ⟨n6,l6,(G 2).ss 0⟩ ⟨n7,l7,(G 2).ss 1⟩)) 29),.k (iv n8)] fun _ _ G3 kw3=>?_;intro S s
  obtain ⟨⟨kl6, -⟩,⟨kl7, -⟩,⟨kl8, -⟩,⟨kl9, -⟩,⟨kl10, -⟩, -⟩:Lq Tb.ex (((G3 0).ss 0).v)∧Lq l5 (((G3 1).ss 0).v)∧Lq l2 (((G3 1).ss 1).v)∧Lq l6 (((G3 2).ss 0).v)∧Lq l7 (((G3 2).ss 1).v)∧True:=kq kw3;clear kw3;refine nm (Fr.rS (Tb.RtT Tb.et Tb.ek Tb.ex) (((Tb.sumR (0:Int) (10:Int) Tb.ex:Int):Rat) * Tb.uf Tb.ek):Int) fun n9 hn9=>?_;refine nl (Fr.rD (Tb.RtT Tb.et Tb.ek Tb.ex) (((Tb.sumR (0:Int) (10:Int) Tb.ex:Int):Rat) * Tb.uf Tb.ek)) fun l8 hl8 hl8n=>?_;refine nm (Fr.rT (Tb.RtT Tb.et Tb.ek Tb.ex):Int) fun n10 hn10=>?_;refine nl (Fr.rE (Tb.RtT Tb.et Tb.ek Tb.ex) (((Tb.sumR (0:Int) (10:Int) Tb.ex:Int):Rat) * Tb.uf Tb.ek)) fun l9 hl9 hl9n=>?_;refine nm (if Tb.RtT Tb.et Tb.ek Tb.ex then (0:Int) else 1:Int) fun n11 hn11=>?_;have e3:n11=0:=by rw [hn11,if_pos Tb.exR]
  have z3:=Fr.Fz.of Tb.exR hn9 hl8 hn10 hl9;rw [Tb.sm1] at z3;refine V.r [.ct g0 0 32 false [] [] [] (fun _ G=>example_ct ),.ct g0 1 12 false [] [] [(kf true (.g 0 0) Tb.ex (fun G=>(G 0).ss 0)).a] (fun _ G=>tsum_ctv Tb.et Tb.ek Tb.ex ((G 0).ss 0) (0:Int) (10:Int) (by decide) (by decide) n9 hn9 l8 hl8 n10 hn10 l9 hl9 n11 hn11),.v fun G=>.tuple #[ag (DFrac.mk ⟨n9,l8,(G 1).ss 0⟩ ⟨n10,l9,(G 1).ss 1⟩),iv n11],.v fun G=>ag (DFrac.mk ⟨n9,l8,(G 1).ss 0⟩ ⟨n10,l9,(G 1).ss 1⟩),.k (iv n11),.nb 5 2 (fun b=>pp b 0) 29 (fun _=>ca (DFrac.mk ⟨0,[],{}⟩ ⟨0,[],{}⟩)),.st 2 (fun G=>.blk ((G 5).b) (ca (DFrac.mk ⟨n9,l8,(G 1).ss 0⟩ ⟨n10,l9,(G 1).ss 1⟩)) 29),.k (iv n11)] fun _ _ G4 kw4=>?_;intro S s
  obtain ⟨⟨kl11, -⟩,⟨kl12, -⟩,⟨kl13, -⟩, -⟩:Lq Tb.ex (((G4 0).ss 0).v)∧Lq l8 (((G4 1).ss 0).v)∧Lq l9 (((G4 1).ss 1).v)∧True:=kq kw4;clear kw4;refine nm (Fr.rS (Tb.RtT Tb.et Tb.ek Tb.ex) (((Tb.sumR (1:Int) (9:Int) Tb.ex:Int):Rat) * Tb.uf Tb.ek):Int) fun n12 hn12=>?_;refine nl (Fr.rD (Tb.RtT Tb.et Tb.ek Tb.ex) (((Tb.sumR (1:Int) (9:Int) Tb.ex:Int):Rat) * Tb.uf Tb.ek)) fun l10 hl10 hl10n=>?_;refine nl (Fr.rE (Tb.RtT Tb.et Tb.ek Tb.ex) (((Tb.sumR (1:Int) (9:Int) Tb.ex:Int):Rat) * Tb.uf Tb.ek)) fun l11 hl11 hl11n=>?_;have e4:n11=0:=by rw [hn11,if_pos Tb.exR]
  have z4:=Fr.Fz.of Tb.exR hn12 hl10 hn10 hl11;rw [Tb.sm2] at z4;refine V.r [.ct g0 0 32 false [] [] [] (fun _ G=>example_ct ),.ct g0 1 12 false [] [] [(kf true (.g 0 0) Tb.ex (fun G=>(G 0).ss 0)).a] (fun _ G=>tsum_ctv Tb.et Tb.ek Tb.ex ((G 0).ss 0) (1:Int) (9:Int) (by decide) (by decide) n12 hn12 l10 hl10 n10 hn10 l11 hl11 n11 hn11),.v fun G=>.tuple #[ag (DFrac.mk ⟨n12,l10,(G 1).ss 0⟩ ⟨n10,l11,(G 1).ss 1⟩),iv n11],.v fun G=>ag (DFrac.mk ⟨n12,l10,(G 1).ss 0⟩ ⟨n10,l11,(G 1).ss 1⟩),.k (iv n11),.nb 5 3 (fun b=>pp b 0) 29 (fun _=>ca (DFrac.mk ⟨0,[],{}⟩ ⟨0,[],{}⟩)),.st 3 (fun G=>.blk ((G 5).b) (ca (DFrac.mk ⟨n12,l10,(G 1).ss 0⟩ ⟨n10,l11,(G 1).ss 1⟩)) 29),.k (iv n11)] fun _ _ G5 kw5=>?_;intro S s
  obtain ⟨⟨kl14, -⟩,⟨kl15, -⟩,⟨kl16, -⟩, -⟩:Lq Tb.ex (((G5 0).ss 0).v)∧Lq l10 (((G5 1).ss 0).v)∧Lq l11 (((G5 1).ss 1).v)∧True:=kq kw5;clear kw5;refine nm (Bg.sgn (1:Int):Int) fun n13 hn13=>?_;refine nl (Bg.dig (1:Int).natAbs) fun l12 hl12 hl12n=>?_;refine nm (Fr.rS ((Tb.RtT ⟨#[116]⟩ ⟨#[63]⟩ ([]:List DRow)∧Fr.FrB n13 l12 (1:Int) l2)∧0 < Tb.aft ([]:List DRow) (Fr.fq n13 l12 l2)) (Tb.lkR ⟨#[63]⟩ ([]:List DRow) (Fr.fq n13 l12 l2)):Int) fun n14 hn14=>?_;refine nl (Fr.rD ((Tb.RtT ⟨#[116]⟩ ⟨#[63]⟩ ([]:List DRow)∧Fr.FrB n13 l12 (1:Int) l2)∧0 < Tb.aft ([]:List DRow) (Fr.fq n13 l12 l2)) (Tb.lkR ⟨#[63]⟩ ([]:List DRow) (Fr.fq n13 l12 l2))) fun l13 hl13 hl13n=>?_;refine nm (Fr.rT ((Tb.RtT ⟨#[116]⟩ ⟨#[63]⟩ ([]:List DRow)∧Fr.FrB n13 l12 (1:Int) l2)∧0 < Tb.aft ([]:List DRow) (Fr.fq n13 l12 l2)):Int) fun n15 hn15=>?_;refine nl (Fr.rE ((Tb.RtT ⟨#[116]⟩ ⟨#[63]⟩ ([]:List DRow)∧Fr.FrB n13 l12 (1:Int) l2)∧0 < Tb.aft ([]:List DRow) (Fr.fq n13 l12 l2)) (Tb.lkR ⟨#[63]⟩ ([]:List DRow) (Fr.fq n13 l12 l2))) fun l14 hl14 hl14n=>?_;refine nm (if ¬ (Tb.RtT ⟨#[116]⟩ ⟨#[63]⟩ ([]:List DRow)∧Fr.FrB n13 l12 (1:Int) l2) then (1:Int) else if Tb.aft ([]:List DRow) (Fr.fq n13 l12 l2)=0 then 4 else 0:Int) fun n16 hn16=>?_;have z5:Fr.Fz n13 l12 1 l2 ((1:Int):Rat):=by subst_vars;exact Un.intz _
  have hl_z5:=z5.len (Fr.Hb.int (by first | assumption | decide));have hl1_z5:=hl_z5.1;have hl2_z5:=hl_z5.2;have e5:n16=1:=by rw [hn16,if_pos (fun h=>Tb.bad h.1)]
  refine V.r [.k (ag (DTable.mk ⟨#[116]⟩ ⟨#[63]⟩ ⟨[],{}⟩)),.ct g0 1 33 false [] [] [] (fun _ G=>r5int_ctv (1:Int) (by omega) n13 hn13 l12 hl12 l2 hl2),.ct g0 2 8 false [] [] [(knil (α:=DRow)).a,(kf true (.g 1 0) l12 (fun G=>(G 1).ss 0)).a,(kf true (.g 1 1) l2 (fun G=>(G 1).ss 1)).a] (fun _ G=>tlook_ctv ⟨#[116]⟩ ⟨#[63]⟩ ([]:List DRow) ({}) n13 l12 ((G 1).ss 0) (1:Int) l2 ((G 1).ss 1) (by decide) (by decide) (by omega) (by omega) n14 hn14 l13 hl13 n15 hn15 l14 hl14 n16 hn16),.v fun G=>.tuple #[ag (DFrac.mk ⟨n14,l13,(G 2).ss 0⟩ ⟨n15,l14,(G 2).ss 1⟩),iv n16],.v fun G=>ag (DFrac.mk ⟨n14,l13,(G 2).ss 0⟩ ⟨n15,l14,(G 2).ss 1⟩),.k (iv n16),.nb 6 4 (fun b=>pp b 0) 29 (fun _=>ca (DFrac.mk ⟨0,[],{}⟩ ⟨0,[],{}⟩)),.st 4 (fun G=>.blk ((G 6).b) (ca (DFrac.mk ⟨n14,l13,(G 2).ss 0⟩ ⟨n15,l14,(G 2).ss 1⟩)) 29),.k (iv n16)] fun _ _ G6 kw6=>?_;intro S s
  obtain ⟨⟨kl17, -⟩,⟨kl18, -⟩,⟨kl19, -⟩,⟨kl20, -⟩, -⟩:Lq l12 (((G6 1).ss 0).v)∧Lq l2 (((G6 1).ss 1).v)∧Lq l13 (((G6 2).ss 0).v)∧Lq l14 (((G6 2).ss 1).v)∧True:=kq kw6;clear kw6;refine nm (Bg.sgn (40000:Int):Int) fun n17 hn17=>?_;refine nl (Bg.dig (40000:Int).natAbs) fun l15 hl15 hl15n=>?_;refine nm (((decide (n11=0)) && (decide (n11=0))) && true:Bool) fun p1 hp1=>?_;refine nm (Bg.sgn (0:Int):Int) fun n18 hn18=>?_;refine nl (Bg.dig (0:Int).natAbs) fun l16 hl16 hl16n=>?_;have z6a:Fr.Fz n17 l15 1 l2 ((40000:Int):Rat):=by subst_vars;exact Un.intz _
  have z6b:Fr.Fz n18 l16 1 l2 ((0:Int):Rat):=by subst_vars;exact Un.intz _
  have hs6a:=Fr.Fz.inj z3 z6a;have hs6b:=Fr.Fz.inj z4 z6b;refine V.g [.k (iv n11),.k (bv (decide (n11=0))),.k (bv (decide (n11=0))),.k (iv n11),.k (bv (decide (n11=0))),.and g0 false (decide (n11=0)) (decide (n11=0)),.k (bv ((decide (n11=0)) && (decide (n11=0)))),.ld 2 0 true (fun _=>Dat.cells (DFrac.mk ⟨n9,l8,(G4 1).ss 0⟩ ⟨n10,l9,(G4 1).ss 1⟩)),.ct (gT (b:=(decide (n11=0)) && (decide (n11=0))) (iAT iDT iDT)) 8 33 false [] [] [] (fun hg G=>r5int_ctv (40000:Int) (by omega) n17 hn17 l15 hl15 l2 hl2),.cp (gT (b:=(decide (n11=0)) && (decide (n11=0))) (iAT iDT iDT)) 9 14 [(kf true (.f 11) l8 (fun _=>(G4 1).ss 0)).a,(kf true (.f 12) l9 (fun _=>(G4 1).ss 1)).a,(kf true (.g 8 0) l15 (fun G=>(G 8).ss 0)).a,(kf true (.g 8 1) l2 (fun G=>(G 8).ss 1)).a] (fun hg G=>same5t_ct n9 l8 ((G4 1).ss 0) n10 l9 ((G4 1).ss 1) n17 l15 ((G 8).ss 0) (1:Int) l2 ((G 8).ss 1) hs6a),.andn g0 false ((decide (n11=0)) && (decide (n11=0))) true p1 hp1,.k (bv p1),.ld 3 0 true (fun _=>Dat.cells (DFrac.mk ⟨n12,l10,(G5 1).ss 0⟩ ⟨n10,l11,(G5 1).ss 1⟩)),.ct (gT (b:=p1) (iN hp1 (iAT (iAT iDT iDT) iTT))) 13 33 false [] [] [] (fun hg G=>r5int_ctv (0:Int) (by omega) n18 hn18 l16 hl16 l2 hl2),.cp (gT (b:=p1) (iN hp1 (iAT (iAT iDT iDT) iTT))) 14 14 [(kf true (.f 14) l10 (fun _=>(G5 1).ss 0)).a,(kf true (.f 15) l11 (fun _=>(G5 1).ss 1)).a,(kf true (.g 13 0) l16 (fun G=>(G 13).ss 0)).a,(kf true (.g 13 1) l2 (fun G=>(G 13).ss 1)).a] (fun hg G=>same5t_ct n12 l10 ((G5 1).ss 0) n10 l11 ((G5 1).ss 1) n18 l16 ((G 13).ss 0) (1:Int) l2 ((G 13).ss 1) hs6b),.and g0 false p1 true,.k (bv (p1 && true))] fun _ _ G7=>?_;intro S s
  refine V.g [.cp g0 0 34 [] (fun _ G=>lookst_ct (0:Int) (10000:Int) ⟨by decide,by decide⟩ ⟨by decide,by decide⟩ Tb.looks1),.kb true,.cp g0 2 34 [] (fun _ G=>lookst_ct (9:Int) (10000:Int) ⟨by decide,by decide⟩ ⟨by decide,by decide⟩ Tb.looks2),.kb true,.kb true,.cp g0 5 34 [] (fun _ G=>lookst_ct (10:Int) (30000:Int) ⟨by decide,by decide⟩ ⟨by decide,by decide⟩ Tb.looks3),.kb true,.kb true,.cp g0 8 34 [] (fun _ G=>lookst_ct (1000:Int) (20000:Int) ⟨by decide,by decide⟩ ⟨by decide,by decide⟩ Tb.looks4),.kb true,.kb true,.cp g0 11 35 [] (fun _ G=>linest_ct (5:Int) (20000:Int) ⟨by decide,by decide⟩ ⟨by decide,by decide⟩ Tb.lines1),.kb true,.kb true,.cp g0 14 35 [] (fun _ G=>linest_ct (15:Int) (25000:Int) ⟨by decide,by decide⟩ ⟨by decide,by decide⟩ Tb.lines2),.kb true,.kb true,.cp g0 17 35 [] (fun _ G=>linest_ct (20:Int) (20000:Int) ⟨by decide,by decide⟩ ⟨by decide,by decide⟩ Tb.lines3),.kb true,.kb true] fun _ _ G8=>?_;intro S s
  refine nm (((p1 && true) && (decide (n4=4))) && (decide (n8=4)):Bool) fun p2 hp2=>?_;refine nm ((p2 && (decide (n16=1))) && (decide (Tb.RtT Tb.et Tb.ek Tb.ex)):Bool) fun p3 hp3=>?_;refine V.g [.kb true,.kb true,.k (bv (p1 && true)),.k (bv (p1 && true)),.k (bv (p1 && true)),.k (iv n4),.k (bv (decide (n4=4))),.and g0 false (p1 && true) (decide (n4=4)),.k (bv ((p1 && true) && (decide (n4=4)))),.k (iv n8),.k (bv (decide (n8=4))),.andn g0 false ((p1 && true) && (decide (n4=4))) (decide (n8=4)) p2 hp2,.k (bv p2),.k (iv n16),.k (bv (decide (n16=1))),.and g0 false p2 (decide (n16=1)),.k (bv (p2 && (decide (n16=1)))),.ct (gT (b:=p2 && (decide (n16=1))) (iAT (iN hp2 (iAT (iAT (iAT (iN hp1 (iAT (iAT iDT iDT) iTT)) iTT) iDT) iDT)) iDT)) 17 32 false [] [] [] (fun hg G=>example_ct ),.cp (gT (b:=p2 && (decide (n16=1))) (iAT (iN hp2 (iAT (iAT (iAT (iN hp1 (iAT (iAT iDT iDT) iTT)) iTT) iDT) iDT)) iDT)) 18 15 [(kf true (.g 17 0) Tb.ex (fun G=>(G 17).ss 0)).a] (fun hg G=>tright_ct Tb.et Tb.ek Tb.ex ((G 17).ss 0) (by decide) (by decide)),.andn g0 false (p2 && (decide (n16=1))) (decide (Tb.RtT Tb.et Tb.ek Tb.ex)) p3 hp3,.k (bv p3)] fun _ _ G9=>?_;intro S s
  have e0:p3=true:=by
    refine (iN hp3 (iAT (iAT (iN hp2 (iAT (iAT (iAT (iN hp1 (iAT (iAT iDT iDT) iTT)) iTT) iDT) iDT)) iDT) iDT)).2 ?_
    first | (simp only [e1,e2,e3,e4,e5,Tb.exR,hp6];decide) | (simp [e1,e2,e3,e4,e5,Tb.exR])
  exact V.rt [0] [] [] [] [] [] (bv p3) (cong1 (fun (x0:Bool)=>(bv x0:Value)) e0)
set_option maxRecDepth 10000 in
theorem few13_ct (d a:ByteArray) (c:List DRow) (e:SV) :
    Cp Tryz.prog 6 #[ag (DTable.mk d a ⟨c,e⟩)] [fs true c e] (bv (decide ((c.length:Int)≤110∧(d.size:Int)≤40∧(ByteArray.size a:Int)≤40))):=by
  refine V.fn mo Tryz.func6 19 1 (by kernel_rfl) fun w H ε k0=>?_;obtain ⟨⟨kl1, -⟩, -⟩:Lq c e.v∧True:=kq k0
  clear k0;refine V.g [.nb 0 0 (fun b=>pp b 0) 24 (fun _=>ca (DTable.mk d a ⟨c,e⟩)),.kb false] fun _ _ G1=>?_;intro S s
  refine nm ((decide ((c.length:Int)≤110)) && (decide ((d.size:Int)≤40)):Bool) fun p1 hp1=>?_;refine V.g [.k (pp ((G1 0).b) 2),.ld 0 2 false (fun _=>[e.v]),.ln (kf false (.f 0) c (fun _=>e)),.k (bv (decide ((c.length:Int)≤110))),.k (bv (decide ((c.length:Int)≤110))),.k (pp ((G1 0).b) 0),.ld 0 0 false (fun _=>[tv d]),.k (iv (d.size:Int)),.k (bv (decide ((d.size:Int)≤40))),.andn g0 false (decide ((c.length:Int)≤110)) (decide ((d.size:Int)≤40)) p1 hp1,.k (bv p1),.k (pp ((G1 0).b) 1),.ld 0 1 false (fun _=>[tv a]),.k (iv (a.size:Int)),.k (bv (decide ((a.size:Int)≤40))),.and g0 false p1 (decide ((a.size:Int)≤40)),.k (bv (p1 && (decide ((a.size:Int)≤40))))] fun _ _ G2=>?_;intro S s
  have e0:(p1 && (decide ((a.size:Int)≤40)))=decide ((c.length:Int)≤110∧(d.size:Int)≤40∧(ByteArray.size a:Int)≤40):=by
    refine Bool.eq_iff_iff.2 (Iff.trans (iAT (iN hp1 (iAT iDT iDT)) iDT) (Iff.trans ?_ decide_eq_true_iff.symm));exact and_assoc
  exact V.rt [0] [] [] [] [] [] (bv (p1 && (decide ((a.size:Int)≤40)))) (cong1 (fun (x0:Bool)=>(bv x0:Value)) e0)

open Go
namespace Tb
open Fr Bg
theorem sumR_bd:∀ (a b:Int) (l:List DRow),(∀ r ∈ l,inR r.Value)→ -1099511627776 * (l.length:Int)≤sumR a b l∧sumR a b l≤1099511627776 * (l.length:Int)
  | a,b,[],_=>by simp [sumR]
  | a,b,r :: l,h=>by
    have h1:=h r List.mem_cons_self
    have h2:=sumR_bd a b l fun x hx=>h x (List.mem_cons_of_mem _ hx)
    have e:sumR a b (r :: l)=(if a≤r.Key∧r.Key≤b then r.Value else 0)+sumR a b l:=rfl
    unfold inR at h1
    rw [List.length_cons,e]
    split <;> omega
theorem so_mem {l:List DRow} (h:So l):∀ r ∈ l,inR r.Key∧inR r.Value:=fun r hr=>by
  obtain ⟨i,hi,rfl⟩:=List.getElem_of_mem hr
  have:=h.2.2 i hi
  unfold ky vl at this
  rw [List.getD_eq_getElem?_getD,List.getElem?_eq_getElem hi] at this
  exact this
theorem so_sum {l:List DRow} (h:So l) (a b:Int) (k:Nat): -109951162777600≤sumR a b (l.take k)∧sumR a b (l.take k)≤109951162777600:=by
  have h1:=sumR_bd a b (l.take k) fun r hr=>(so_mem h r (List.mem_of_mem_take hr)).2
  have h2:=h.2.1
  have h3:(l.take k).length≤l.length:=by rw [List.length_take];omega
  omega
theorem add_mul3 (a b u:Rat):a * u+b * u=(a+b) * u:=(Rat.add_mul a b u).symm
theorem sum_0 {a b:Int} {l:List DRow} {u:Rat}:((sumR a b (l.take 0):Int):Rat) * u=((0:Int):Rat):=by
  show ((0:Int):Rat) * u=_
  exact Rat.zero_mul u
end Tb

open Go
namespace Tb
open Fr Bg
theorem lin_at {un:ByteArray} {l:List DRow} {q:Rat} {i:Nat} (h:aft l q=i+1) (hl:i+1 < l.length) (hk:¬ (ky l i:Rat)=q) :
    lin un l q=some (wv un l i+(q - (ky l i:Rat)) / ((ky l (i+1) - ky l i:Int):Rat) * (((vl l (i+1) - vl l i:Int):Rat) * uf un)):=by
  unfold lin
  rw [h,Nat.add_sub_cancel,if_neg (by omega),if_neg hk,if_neg (by omega)]
end Tb

open Go
namespace Tb
open Fr Bg
theorem nm_is {s:ByteArray} (h0:0 < s.size) (h1:Un.ltr (((bl s).getD 0 default).toNat:Int)) (h2:(s.size:Int)≤20) (h:∀ j,1≤j→j < s.size→inn (((bl s).getD j default).toNat:Int)):Nm s:=by
  refine ⟨⟨⟨fun e=>by subst e;exact absurd h0 (by decide),h1⟩,h2⟩,?_⟩
  rw [spn_at (s:=s) (n:=s.size) (Nat.le_refl _) (fun j hj=>?_) (.inl rfl)]
  cases j with
  | zero=>exact .inl (.inl h1)
  | succ j=>exact h _ (by omega) hj
theorem spn_in {s:ByteArray} (h:(spn s:Int)=(s.size:Int)):∀ j,j < s.size→inn (((bl s).getD j default).toNat:Int):=by
  have key:∀ (l:List UInt8),spL l=l.length→∀ j,j < l.length→inn ((l.getD j default).toNat:Int):=by
    intro l
    induction l with
    | nil=>intro _ j hj;cases hj
    | cons c l ih =>
      intro h j hj
      unfold spL at h
      split at h
      · rename_i hc
        cases j with
        | zero=>exact hc
        | succ j=>exact ih (by simpa using h) j (by simpa using hj)
      · simp at h
  intro j hj
  exact key (bl s) (by rw [bl_len];unfold spn at h;omega) j (by rw [bl_len];exact hj)
theorem nm_bad {s:ByteArray} {j:Nat} (hj:j < s.size) (h:¬ inn (((bl s).getD j default).toNat:Int)):¬ Nm s:=fun k=>h (spn_in k.2 j hj)
theorem inn_no {c:Int} (h:(¬Un.ltr c∧¬ dgt c)∧¬ c=95):¬ inn c:=by
  rintro ((k | k) | k)
  · exact h.1.1 k
  · exact h.1.2 k
  · exact h.2 k
theorem inn_yes {c:Int} (h:¬ ((¬Un.ltr c∧¬ dgt c)∧¬ c=95)):inn c:=Classical.byContradiction fun k=>h ⟨⟨fun x=>k (.inl (.inl x)),fun x=>k (.inl (.inr x))⟩,fun x=>k (.inr x)⟩
theorem so_vl {l:List DRow} (h:So l) {i:Nat} (hi:i < l.length): -1099511627776≤vl l i∧vl l i≤1099511627776:=(h.2.2 i hi).2
theorem so_ky {l:List DRow} (h:So l) {i:Nat} (hi:i < l.length): -1099511627776≤ky l i∧ky l i≤1099511627776:=(h.2.2 i hi).1
theorem lt_aft {l:List DRow} {q:Rat} {i:Nat} (h:So l) (hi:i < l.length):(ky l i:Rat)≤q↔i < aft l q:=by
  refine ⟨fun k=>?_,aft_lo⟩
  refine Nat.lt_of_not_le fun x=>?_
  exact absurd (h.hi (q:=q) x hi) (Rat.not_lt.2 k)
theorem lin_y {un:ByteArray} {l:List DRow} {q:Rat} {i:Nat} (h:aft l q=i+1) (k:(ky l i:Rat)=q):lin un l q=some (wv un l i):=by
  unfold lin
  rw [h,Nat.add_sub_cancel,if_neg (by omega),if_pos k]
theorem lin_e {un:ByteArray} {l:List DRow} {q:Rat} {i:Nat} (h:aft l q=i+1) (k:¬ (ky l i:Rat)=q) (hl:i+1=l.length):lin un l q=none:=by
  unfold lin
  rw [h,Nat.add_sub_cancel,if_neg (by omega),if_neg k,if_pos hl]
theorem lin_r {un:ByteArray} {l:List DRow} {q:Rat} {i:Nat} (h:aft l q=i+1) (hl:i+1 < l.length) (k:¬ (ky l i:Rat)=q) :
    lin un l q=some (wv un l i+(wv un l (i+1) - wv un l i) * ((q - (ky l i:Rat)) / ((ky l (i+1) - ky l i:Int):Rat))):=by
  rw [lin_at h hl k]
  congr 2
  unfold wv
  rw [Rat.intCast_sub (vl l (i+1))]
  generalize (q - (ky l i:Rat)) / ((ky l (i+1) - ky l i:Int):Rat)=t
  grind
theorem sum_y {a b:Int} {un:ByteArray} {l:List DRow} {i:Nat} (hi:i < l.length) (h:a≤ky l i∧ky l i≤b):((sumR a b (l.take i):Int):Rat) * uf un+wv un l i=((sumR a b (l.take (i+1)):Int):Rat) * uf un:=by
  rw [sumR_step hi,if_pos h,Rat.intCast_add,← add_mul3];rfl
theorem sum_n {a b:Int} {l:List DRow} {i:Nat} (hi:i < l.length) (h:¬ (a≤ky l i∧ky l i≤b)):sumR a b (l.take (i+1))=sumR a b (l.take i):=by
  rw [sumR_step hi,if_neg h,Int.add_zero]
theorem wv_hb {un:ByteArray} {l:List DRow} {i:Nat} (hu:(Un.read un).2=0) (h:So l) (hi:i < l.length):Hb (wv un l i) 1481:=worth_hb hu (by have:=so_vl h hi;omega)
end Tb
end Kb
