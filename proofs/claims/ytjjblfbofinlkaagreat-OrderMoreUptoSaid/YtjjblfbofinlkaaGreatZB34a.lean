/- Texts for the claim, put together: the calculus of regions, its rules, and contracts of the functions that the law reaches. -/
import Derived.Test.YtjjblfbofinlkaaGreatZBwg
import Derived.Test.YtjjblfbofinlkaaGreatZB0234a
import Derived.Test.YtjjblfbofinlkaaGreatZB1234a
import Derived.Test.YtjjblfbofinlkaaGreatZB034a
import Derived.Test.YtjjblfbofinlkaaGreatZB234a
set_option linter.all false
set_option maxRecDepth 10000
namespace Kb
namespace Zu
theorem nmd_yes {s:ByteArray} {x y:DExpr} (hy:y ∈ x.Args.l) (h:nmd s (er y)=true):nmd s (er x)=true:=by
 unfold nmd at h ⊢;rw [Zc.anyN_er,Bool.or_eq_true];exact .inr (List.any_eq_true.2 ⟨y,hy,h⟩)
theorem nmd_no {s:ByteArray} {x:DExpr} (h:x.Args.l.all (fun y=>!nmd s (er y))=true):nmd s (er x)=(decide (x.Op=1) && decide (x.Name=s)):=by
 unfold nmd at h ⊢;rw [Zc.anyN_er]
 have:(x.Args.l.any fun y=>Zc.anyN (nmP s) (er y))=false:=List.any_eq_false.2 fun y hy=>by
  have:=List.all_eq_true.1 h y hy
  simpa using this
 rw [this,Bool.or_false];unfold nmP;rw [er_op,er_m]
end Zu

open Go Go.Proofs
theorem rnms_ct_n (m0:Nat):∀ (x:DExpr) (d:BA),Fx.sz (er x) < m0 →
  Cp Tryz.prog 26 #[ag x,tv d] [fs true x.Args.l x.Args.s] (bv (Zu.nmd d (er x))):=by
 induction m0 with
 | zero=>intro _ _ hm;exact absurd hm (Nat.not_lt_zero _)
 | succ m0 ih =>
  intro x d hm;refine vf mo Tryz.func26 29 1 fun k0=>?_;obtain ⟨w, -⟩:Lq x.Args.l x.Args.s.v:=kj k0 0
  refine vG [.n 0,.kb false] fun G1=>?_;intro _ _
  refine vG [.u 1] fun G2=>?_;intro _ _
  refine V.lp (γ:=Int) (fun i=>⟨[(1,tv d),(2,pp ((G1 0).b) 0),(5,iv i)],[fs false x.Args.l x.Args.s],[.blk ((G1 0).b) (ca x) 48]⟩) (fun i=>(0≤i)∧(i≤(x.Args.l.length:Int))∧(0≤i)∧(∀ j:Nat,j < i.toNat→(fun y:DExpr=>!Zu.nmd d (er y)) (x.Args.l.getD j default)=true)) (fun i=>((x.Args.l.length:Int)-i).toNat) 0 [0] ?_ ?_
  ·refine ⟨by omega,by omega,by omega,?_⟩;show ∀ j:Nat,j < (0:Int).toNat→(fun y:DExpr=>!Zu.nmd d (er y)) (x.Args.l.getD j default)=true;exact Zu.all0 (fun y:DExpr=>!Zu.nmd d (er y)) _
  rintro i hF1 kw3 Z1 hZ1;obtain ⟨A,B,C,o⟩:=hF1;refine vG [.u 2,.l 0,.ln (kF 0 x.Args.l x.Args.s),.u 1] fun G3=>?_;intro _ _;refine vd (i < (x.Args.l.length:Int)) (fun q1=>?_) fun q2=>?_
  ·refine nm (x.Args.l.getD i.toNat default:DExpr) fun x1 f=>vG [.u 1,.l 0,.u 1,.iX (kF 0 x.Args.l x.Args.s) i,.lE (kF 0 x.Args.l x.Args.s) i true x1 f true,.u 1,.cP 6 26 [(kx false (.g 4 0) x1 x1.Args.l (fun _=>x1.Args.s) (fun _ H (h:Dat.good H (x1:DExpr))=>(exG.1 h))).a] fun G=>ih x1 d (by have:=Fx.sz_arg (x:=x) (getD_mem (by omega) f);omega)] fun G4=>?_;intro _ _
   refine vc (Zu.nmd d (er x1)) (fun q3=>?_) fun q4=>?_
   ·refine vG [.kb true] fun G5=>?_;intro _ _
    have e0:true=Zu.nmd d (er x):=(Zu.nmd_yes (getD_mem (by omega) f) q3).symm;exact vb 0 [] e0
   refine vG [.u 1,.aa (i+1),.u 1] fun G6=>?_;intro _ _
   refine V.rn hZ1 (i+1) [0] ?_ ?_
   ·refine ⟨by omega,by omega,by omega,?_⟩;show ∀ j:Nat,j < (i+1).toNat→(fun y:DExpr=>!Zu.nmd d (er y)) (x.Args.l.getD j default)=true;exact Zu.all_step (p:=fun y:DExpr=>!Zu.nmd d (er y)) o (by omega) f (by grind)
   omega
  refine nm ((decide (x.Op=1)) && (decide (x.Name=d)):Bool) fun p1 t=>vG [.u 1,.l 0,.u 3,.l 0,.u 1,.seq x.Name d,.andn g0 false (decide (x.Op=1)) (decide (x.Name=d)) p1 t,.u 1] fun G7=>?_;intro _ _
  have e0:p1=Zu.nmd d (er x):=by
   refine Bool.eq_iff_iff.2 (Iff.trans (iN t (iAT iDT iDT)) ?_);rw [Zu.nmd_no (Zu.all_end (p:=fun y:DExpr=>!Zu.nmd d (er y)) o (by omega))];grind
  exact vb 0 [] e0
theorem rnms_ct (x:DExpr) (b:ByteArray) :
  Cp Tryz.prog 26 #[ag x,tv b] [fs true x.Args.l x.Args.s] (bv (Zu.nmd b (er x))):=rnms_ct_n (Fx.sz (er x)+1) x b (Nat.lt_succ_self _)

open Go
namespace Zl
open Fx Sx Zc Zd Zo
theorem xpd_ok {F:List FE} {x:Ex} (h:(xpd F x).2=0):(rt x∧Check F=0∧anyN (Zc.unk F) x=false∧anyN (Zc.unev F) x=false)∧(growT F (bdF F) x).full=false∧(xpd F x).1=(growT F (bdF F) x).x:=by
 by_cases h1:¬ rt x∨Check F≠0
 ·rw [xpd2 h1] at h;cases h
 ·have hr:rt x:=Decidable.not_not.1 fun k=>h1 (.inl k)
  have hc:Check F=0:=Decidable.not_not.1 fun k=>h1 (.inr k)
  cases hu:anyN (Zc.unk F) x with
  | true=>rw [xpd11 hr hc hu] at h;cases h
  | false =>
   cases hv:anyN (Zc.unev F) x with
   | true=>rw [xpd1 hr hc hu hv] at h;cases h
   | false =>
    cases hf:(growT F (bdF F) x).full with
    | true=>rw [xpd6 hr hc hu hv hf] at h;cases h
    | false=>rw [xpd0 hr hc hu hv hf];exact ⟨⟨hr,hc,rfl,rfl⟩,rfl,rfl⟩
end Zl
end Kb
