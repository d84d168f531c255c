/- Texts for the claim, put together: the calculus of regions, its rules, and contracts of the functions that the law reaches. -/
import Derived.Test.YtjjblfbofinlkaaGreatZBwd
set_option linter.all false
set_option maxRecDepth 10000
namespace Kb
open Go Go.Proofs
theorem uof0_ct (d p q:Int) (hp: -9223372036854775808≤p∧p≤9223372036854775807) (hq: -9223372036854775808≤q∧q≤9223372036854775807) (b:q≠0) :
  Ct Tryz.prog 200 #[iv 0,iv d,iv p,iv q] [] [] (fun g=>.agg #[iv d,iv 0,iv 0,iv 0,iv 0,iv 0,iv (Fr.rS (q≠0) (Rat.divInt p q)),((g.ss 0)).v,iv (Fr.rT (q≠0)),((g.ss 1)).v]) (fun g=>[fs true (Fr.rD (q≠0) (Rat.divInt p q)) (g.ss 0),fs true (Fr.rE (q≠0) (Rat.divInt p q)) (g.ss 1)]) eF eF:=by
 refine vf mo Tryz.func200 22 2 fun _=>?_
 refine vG [.n 0] fun G1=>?_;intro _ _
 refine vG [.n 1] fun G2=>?_;intro _ _
 refine vG [.u 4,.s 1] fun G3=>?_;intro _ _
 refine nm (Fr.rS (q≠0) (Rat.divInt p q):Int) fun n1 f=>nm (Fr.rD (q≠0) (Rat.divInt p q):LI) fun l1 h=>nm (Fr.rT (q≠0):Int) fun n2 i=>nm (Fr.rE (q≠0) (Rat.divInt p q):LI) fun l2 j=>nm (if q=0 then (15:Int) else 0:Int) fun n3 o=>?_;have zo:=Fr.Fz.of b f h i j
 refine vG [.u 2,.cA 2 181 [] fun G=>fof_ctv p q (by omega) (by omega) n1 f l1 h n2 i l2 j n3 o,.u 4,.s 1] fun G4=>?_;intro _ _
 refine vG [.l 1,.s 0] fun G5=>?_;intro _ _
 have e7:l1=Fr.rD (q≠0) (Rat.divInt p q):=(Fr.Fz.ret zo b rfl).2.1;subst e7;have e9:l2=Fr.rE (q≠0) (Rat.divInt p q):=(Fr.Fz.ret zo b rfl).2.2.2;subst e9;have e6:n1=Fr.rS (q≠0) (Rat.divInt p q):=(Fr.Fz.ret zo b rfl).1;have e8:n2=Fr.rT (q≠0):=(Fr.Fz.ret zo b rfl).2.2.1;exact V.rT [0] [(G4 2).ss 0,(G4 2).ss 1] [] [] [0,1] [] (cong2 (fun (t w:Int)=>(.agg #[iv d,iv 0,iv 0,iv 0,iv 0,iv 0,iv t,((G4 2).ss 0).v,iv w,((G4 2).ss 1).v]:Value)) e6 e8)
theorem uof0_ctv (b p q:Int) (hp: -9223372036854775808≤p∧p≤9223372036854775807) (hq: -9223372036854775808≤q∧q≤9223372036854775807) (A:q≠0) (d:Int) (f:d=Fr.rS (q≠0) (Rat.divInt p q)) (h:List Int) (i:h=Fr.rD (q≠0) (Rat.divInt p q)) (j:Int) (o:j=Fr.rT (q≠0)) (t:List Int) (w:t=Fr.rE (q≠0) (Rat.divInt p q)) :
  Ct Tryz.prog 200 #[iv 0,iv b,iv p,iv q] [] [] (fun g=>.agg #[iv b,iv 0,iv 0,iv 0,iv 0,iv 0,iv d,((g.ss 0)).v,iv j,((g.ss 1)).v]) (fun g=>[fs true h (g.ss 0),fs true t (g.ss 1)]) (fun g=>[]) (fun g=>[]):=by
 subst f i o w;exact uof0_ct b p q hp hq A
theorem uof1_ct (d p q:Int) (hp: -9223372036854775808≤p∧p≤9223372036854775807) (hq: -9223372036854775808≤q∧q≤9223372036854775807) (b:q≠0) :
  Ct Tryz.prog 200 #[iv 1,iv d,iv p,iv q] [] [] (fun g=>.agg #[iv 0,iv d,iv 0,iv 0,iv 0,iv 0,iv (Fr.rS (q≠0) (Rat.divInt p q)),((g.ss 0)).v,iv (Fr.rT (q≠0)),((g.ss 1)).v]) (fun g=>[fs true (Fr.rD (q≠0) (Rat.divInt p q)) (g.ss 0),fs true (Fr.rE (q≠0) (Rat.divInt p q)) (g.ss 1)]) eF eF:=by
 refine vf mo Tryz.func200 22 2 fun _=>?_
 refine vG [.n 0] fun G1=>?_;intro _ _
 refine vG [.n 1] fun G2=>?_;intro _ _
 refine vG [.u 4,.s 1] fun G3=>?_;intro _ _
 refine nm (Fr.rS (q≠0) (Rat.divInt p q):Int) fun n1 f=>nm (Fr.rD (q≠0) (Rat.divInt p q):LI) fun l1 h=>nm (Fr.rT (q≠0):Int) fun n2 i=>nm (Fr.rE (q≠0) (Rat.divInt p q):LI) fun l2 j=>nm (if q=0 then (15:Int) else 0:Int) fun n3 o=>?_;have zo:=Fr.Fz.of b f h i j
 refine vG [.u 2,.cA 2 181 [] fun G=>fof_ctv p q (by omega) (by omega) n1 f l1 h n2 i l2 j n3 o,.u 4,.s 1] fun G4=>?_;intro _ _
 refine vG [.l 1,.s 0] fun G5=>?_;intro _ _
 have e7:l1=Fr.rD (q≠0) (Rat.divInt p q):=(Fr.Fz.ret zo b rfl).2.1;subst e7;have e9:l2=Fr.rE (q≠0) (Rat.divInt p q):=(Fr.Fz.ret zo b rfl).2.2.2;subst e9;have e6:n1=Fr.rS (q≠0) (Rat.divInt p q):=(Fr.Fz.ret zo b rfl).1;have e8:n2=Fr.rT (q≠0):=(Fr.Fz.ret zo b rfl).2.2.1;exact V.rT [0] [(G4 2).ss 0,(G4 2).ss 1] [] [] [0,1] [] (cong2 (fun (t w:Int)=>(.agg #[iv 0,iv d,iv 0,iv 0,iv 0,iv 0,iv t,((G4 2).ss 0).v,iv w,((G4 2).ss 1).v]:Value)) e6 e8)
theorem uof1_ctv (b p q:Int) (hp: -9223372036854775808≤p∧p≤9223372036854775807) (hq: -9223372036854775808≤q∧q≤9223372036854775807) (A:q≠0) (d:Int) (f:d=Fr.rS (q≠0) (Rat.divInt p q)) (h:List Int) (i:h=Fr.rD (q≠0) (Rat.divInt p q)) (j:Int) (o:j=Fr.rT (q≠0)) (t:List Int) (w:t=Fr.rE (q≠0) (Rat.divInt p q)) :
  Ct Tryz.prog 200 #[iv 1,iv b,iv p,iv q] [] [] (fun g=>.agg #[iv 0,iv b,iv 0,iv 0,iv 0,iv 0,iv d,((g.ss 0)).v,iv j,((g.ss 1)).v]) (fun g=>[fs true h (g.ss 0),fs true t (g.ss 1)]) (fun g=>[]) (fun g=>[]):=by
 subst f i o w;exact uof1_ct b p q hp hq A
theorem uof2_ct (d p q:Int) (hp: -9223372036854775808≤p∧p≤9223372036854775807) (hq: -9223372036854775808≤q∧q≤9223372036854775807) (b:q≠0) :
  Ct Tryz.prog 200 #[iv 2,iv d,iv p,iv q] [] [] (fun g=>.agg #[iv 0,iv 0,iv d,iv 0,iv 0,iv 0,iv (Fr.rS (q≠0) (Rat.divInt p q)),((g.ss 0)).v,iv (Fr.rT (q≠0)),((g.ss 1)).v]) (fun g=>[fs true (Fr.rD (q≠0) (Rat.divInt p q)) (g.ss 0),fs true (Fr.rE (q≠0) (Rat.divInt p q)) (g.ss 1)]) eF eF:=by
 refine vf mo Tryz.func200 22 2 fun _=>?_
 refine vG [.n 0] fun G1=>?_;intro _ _
 refine vG [.n 1] fun G2=>?_;intro _ _
 refine vG [.u 4,.s 1] fun G3=>?_;intro _ _
 refine nm (Fr.rS (q≠0) (Rat.divInt p q):Int) fun n1 f=>nm (Fr.rD (q≠0) (Rat.divInt p q):LI) fun l1 h=>nm (Fr.rT (q≠0):Int) fun n2 i=>nm (Fr.rE (q≠0) (Rat.divInt p q):LI) fun l2 j=>nm (if q=0 then (15:Int) else 0:Int) fun n3 o=>?_;have zo:=Fr.Fz.of b f h i j
 refine vG [.u 2,.cA 2 181 [] fun G=>fof_ctv p q (by omega) (by omega) n1 f l1 h n2 i l2 j n3 o,.u 4,.s 1] fun G4=>?_;intro _ _
 refine vG [.l 1,.s 0] fun G5=>?_;intro _ _
 have e7:l1=Fr.rD (q≠0) (Rat.divInt p q):=(Fr.Fz.ret zo b rfl).2.1;subst e7;have e9:l2=Fr.rE (q≠0) (Rat.divInt p q):=(Fr.Fz.ret zo b rfl).2.2.2;subst e9;have e6:n1=Fr.rS (q≠0) (Rat.divInt p q):=(Fr.Fz.ret zo b rfl).1;have e8:n2=Fr.rT (q≠0):=(Fr.Fz.ret zo b rfl).2.2.1;exact V.rT [0] [(G4 2).ss 0,(G4 2).ss 1] [] [] [0,1] [] (cong2 (fun (t w:Int)=>(.agg #[iv 0,iv 0,iv d,iv 0,iv 0,iv 0,iv t,((G4 2).ss 0).v,iv w,((G4 2).ss 1).v]:Value)) e6 e8)
theorem uof2_ctv (b p q:Int) (hp: -9223372036854775808≤p∧p≤9223372036854775807) (hq: -9223372036854775808≤q∧q≤9223372036854775807) (A:q≠0) (d:Int) (f:d=Fr.rS (q≠0) (Rat.divInt p q)) (h:List Int) (i:h=Fr.rD (q≠0) (Rat.divInt p q)) (j:Int) (o:j=Fr.rT (q≠0)) (t:List Int) (w:t=Fr.rE (q≠0) (Rat.divInt p q)) :
  Ct Tryz.prog 200 #[iv 2,iv b,iv p,iv q] [] [] (fun g=>.agg #[iv 0,iv 0,iv b,iv 0,iv 0,iv 0,iv d,((g.ss 0)).v,iv j,((g.ss 1)).v]) (fun g=>[fs true h (g.ss 0),fs true t (g.ss 1)]) (fun g=>[]) (fun g=>[]):=by
 subst f i o w;exact uof2_ct b p q hp hq A
theorem uof3_ct (d p q:Int) (hp: -9223372036854775808≤p∧p≤9223372036854775807) (hq: -9223372036854775808≤q∧q≤9223372036854775807) (b:q≠0) :
  Ct Tryz.prog 200 #[iv 3,iv d,iv p,iv q] [] [] (fun g=>.agg #[iv 0,iv 0,iv 0,iv d,iv 0,iv 0,iv (Fr.rS (q≠0) (Rat.divInt p q)),((g.ss 0)).v,iv (Fr.rT (q≠0)),((g.ss 1)).v]) (fun g=>[fs true (Fr.rD (q≠0) (Rat.divInt p q)) (g.ss 0),fs true (Fr.rE (q≠0) (Rat.divInt p q)) (g.ss 1)]) eF eF:=by
 refine vf mo Tryz.func200 22 2 fun _=>?_
 refine vG [.n 0] fun G1=>?_;intro _ _
 refine vG [.n 1] fun G2=>?_;intro _ _
 refine vG [.u 4,.s 1] fun G3=>?_;intro _ _
 refine nm (Fr.rS (q≠0) (Rat.divInt p q):Int) fun n1 f=>nm (Fr.rD (q≠0) (Rat.divInt p q):LI) fun l1 h=>nm (Fr.rT (q≠0):Int) fun n2 i=>nm (Fr.rE (q≠0) (Rat.divInt p q):LI) fun l2 j=>nm (if q=0 then (15:Int) else 0:Int) fun n3 o=>?_;have zo:=Fr.Fz.of b f h i j
 refine vG [.u 2,.cA 2 181 [] fun G=>fof_ctv p q (by omega) (by omega) n1 f l1 h n2 i l2 j n3 o,.u 4,.s 1] fun G4=>?_;intro _ _
 refine vG [.l 1,.s 0] fun G5=>?_;intro _ _
 have e7:l1=Fr.rD (q≠0) (Rat.divInt p q):=(Fr.Fz.ret zo b rfl).2.1;subst e7;have e9:l2=Fr.rE (q≠0) (Rat.divInt p q):=(Fr.Fz.ret zo b rfl).2.2.2;subst e9;have e6:n1=Fr.rS (q≠0) (Rat.divInt p q):=(Fr.Fz.ret zo b rfl).1;have e8:n2=Fr.rT (q≠0):=(Fr.Fz.ret zo b rfl).2.2.1;exact V.rT [0] [(G4 2).ss 0,(G4 2).ss 1] [] [] [0,1] [] (cong2 (fun (t w:Int)=>(.agg #[iv 0,iv 0,iv 0,iv d,iv 0,iv 0,iv t,((G4 2).ss 0).v,iv w,((G4 2).ss 1).v]:Value)) e6 e8)
theorem uof3_ctv (b p q:Int) (hp: -9223372036854775808≤p∧p≤9223372036854775807) (hq: -9223372036854775808≤q∧q≤9223372036854775807) (A:q≠0) (d:Int) (f:d=Fr.rS (q≠0) (Rat.divInt p q)) (h:List Int) (i:h=Fr.rD (q≠0) (Rat.divInt p q)) (j:Int) (o:j=Fr.rT (q≠0)) (t:List Int) (w:t=Fr.rE (q≠0) (Rat.divInt p q)) :
  Ct Tryz.prog 200 #[iv 3,iv b,iv p,iv q] [] [] (fun g=>.agg #[iv 0,iv 0,iv 0,iv b,iv 0,iv 0,iv d,((g.ss 0)).v,iv j,((g.ss 1)).v]) (fun g=>[fs true h (g.ss 0),fs true t (g.ss 1)]) (fun g=>[]) (fun g=>[]):=by
 subst f i o w;exact uof3_ct b p q hp hq A
theorem uof4_ct (d p q:Int) (hp: -9223372036854775808≤p∧p≤9223372036854775807) (hq: -9223372036854775808≤q∧q≤9223372036854775807) (b:q≠0) :
  Ct Tryz.prog 200 #[iv 4,iv d,iv p,iv q] [] [] (fun g=>.agg #[iv 0,iv 0,iv 0,iv 0,iv d,iv 0,iv (Fr.rS (q≠0) (Rat.divInt p q)),((g.ss 0)).v,iv (Fr.rT (q≠0)),((g.ss 1)).v]) (fun g=>[fs true (Fr.rD (q≠0) (Rat.divInt p q)) (g.ss 0),fs true (Fr.rE (q≠0) (Rat.divInt p q)) (g.ss 1)]) eF eF:=by
 refine vf mo Tryz.func200 22 2 fun _=>?_
 refine vG [.n 0] fun G1=>?_;intro _ _
 refine vG [.n 1] fun G2=>?_;intro _ _
 refine vG [.u 4,.s 1] fun G3=>?_;intro _ _
 refine nm (Fr.rS (q≠0) (Rat.divInt p q):Int) fun n1 f=>nm (Fr.rD (q≠0) (Rat.divInt p q):LI) fun l1 h=>nm (Fr.rT (q≠0):Int) fun n2 i=>nm (Fr.rE (q≠0) (Rat.divInt p q):LI) fun l2 j=>nm (if q=0 then (15:Int) else 0:Int) fun n3 o=>?_;have zo:=Fr.Fz.of b f h i j
 refine vG [.u 2,.cA 2 181 [] fun G=>fof_ctv p q (by omega) (by omega) n1 f l1 h n2 i l2 j n3 o,.u 4,.s 1] fun G4=>?_;intro _ _
 refine vG [.l 1,.s 0] fun G5=>?_;intro _ _
 have e7:l1=Fr.rD (q≠0) (Rat.divInt p q):=(Fr.Fz.ret zo b rfl).2.1;subst e7;have e9:l2=Fr.rE (q≠0) (Rat.divInt p q):=(Fr.Fz.ret zo b rfl).2.2.2;subst e9;have e6:n1=Fr.rS (q≠0) (Rat.divInt p q):=(Fr.Fz.ret zo b rfl).1;have e8:n2=Fr.rT (q≠0):=(Fr.Fz.ret zo b rfl).2.2.1;exact V.rT [0] [(G4 2).ss 0,(G4 2).ss 1] [] [] [0,1] [] (cong2 (fun (t w:Int)=>(.agg #[iv 0,iv 0,iv 0,iv 0,iv d,iv 0,iv t,((G4 2).ss 0).v,iv w,((G4 2).ss 1).v]:Value)) e6 e8)
theorem uof4_ctv (b p q:Int) (hp: -9223372036854775808≤p∧p≤9223372036854775807) (hq: -9223372036854775808≤q∧q≤9223372036854775807) (A:q≠0) (d:Int) (f:d=Fr.rS (q≠0) (Rat.divInt p q)) (h:List Int) (i:h=Fr.rD (q≠0) (Rat.divInt p q)) (j:Int) (o:j=Fr.rT (q≠0)) (t:List Int) (w:t=Fr.rE (q≠0) (Rat.divInt p q)) :
  Ct Tryz.prog 200 #[iv 4,iv b,iv p,iv q] [] [] (fun g=>.agg #[iv 0,iv 0,iv 0,iv 0,iv b,iv 0,iv d,((g.ss 0)).v,iv j,((g.ss 1)).v]) (fun g=>[fs true h (g.ss 0),fs true t (g.ss 1)]) (fun g=>[]) (fun g=>[]):=by
 subst f i o w;exact uof4_ct b p q hp hq A
theorem uof5_ct (d p q:Int) (hp: -9223372036854775808≤p∧p≤9223372036854775807) (hq: -9223372036854775808≤q∧q≤9223372036854775807) (b:q≠0) :
  Ct Tryz.prog 200 #[iv 5,iv d,iv p,iv q] [] [] (fun g=>.agg #[iv 0,iv 0,iv 0,iv 0,iv 0,iv d,iv (Fr.rS (q≠0) (Rat.divInt p q)),((g.ss 0)).v,iv (Fr.rT (q≠0)),((g.ss 1)).v]) (fun g=>[fs true (Fr.rD (q≠0) (Rat.divInt p q)) (g.ss 0),fs true (Fr.rE (q≠0) (Rat.divInt p q)) (g.ss 1)]) eF eF:=by
 refine vf mo Tryz.func200 22 2 fun _=>?_
 refine vG [.n 0] fun G1=>?_;intro _ _
 refine vG [.n 1] fun G2=>?_;intro _ _
 refine vG [.u 4,.s 1] fun G3=>?_;intro _ _
 refine nm (Fr.rS (q≠0) (Rat.divInt p q):Int) fun n1 f=>nm (Fr.rD (q≠0) (Rat.divInt p q):LI) fun l1 h=>nm (Fr.rT (q≠0):Int) fun n2 i=>nm (Fr.rE (q≠0) (Rat.divInt p q):LI) fun l2 j=>nm (if q=0 then (15:Int) else 0:Int) fun n3 o=>?_;have zo:=Fr.Fz.of b f h i j
 refine vG [.u 2,.cA 2 181 [] fun G=>fof_ctv p q (by omega) (by omega) n1 f l1 h n2 i l2 j n3 o,.u 4,.s 1] fun G4=>?_;intro _ _
 refine vG [.l 1,.s 0] fun G5=>?_;intro _ _
 have e7:l1=Fr.rD (q≠0) (Rat.divInt p q):=(Fr.Fz.ret zo b rfl).2.1;subst e7;have e9:l2=Fr.rE (q≠0) (Rat.divInt p q):=(Fr.Fz.ret zo b rfl).2.2.2;subst e9;have e6:n1=Fr.rS (q≠0) (Rat.divInt p q):=(Fr.Fz.ret zo b rfl).1;have e8:n2=Fr.rT (q≠0):=(Fr.Fz.ret zo b rfl).2.2.1;exact V.rT [0] [(G4 2).ss 0,(G4 2).ss 1] [] [] [0,1] [] (cong2 (fun (t w:Int)=>(.agg #[iv 0,iv 0,iv 0,iv 0,iv 0,iv d,iv t,((G4 2).ss 0).v,iv w,((G4 2).ss 1).v]:Value)) e6 e8)
theorem uof5_ctv (b p q:Int) (hp: -9223372036854775808≤p∧p≤9223372036854775807) (hq: -9223372036854775808≤q∧q≤9223372036854775807) (A:q≠0) (d:Int) (f:d=Fr.rS (q≠0) (Rat.divInt p q)) (h:List Int) (i:h=Fr.rD (q≠0) (Rat.divInt p q)) (j:Int) (o:j=Fr.rT (q≠0)) (t:List Int) (w:t=Fr.rE (q≠0) (Rat.divInt p q)) :
  Ct Tryz.prog 200 #[iv 5,iv b,iv p,iv q] [] [] (fun g=>.agg #[iv 0,iv 0,iv 0,iv 0,iv 0,iv b,iv d,((g.ss 0)).v,iv j,((g.ss 1)).v]) (fun g=>[fs true h (g.ss 0),fs true t (g.ss 1)]) (fun g=>[]) (fun g=>[]):=by
 subst f i o w;exact uof5_ct b p q hp hq A
theorem usym_ct (s:BA) :
  Ct Tryz.prog 178 #[tv s] [] [] (fun g=>.tuple #[.agg #[iv (Un.dv (Un.sym s) 0),iv (Un.dv (Un.sym s) 1),iv (Un.dv (Un.sym s) 2),iv (Un.dv (Un.sym s) 3),iv (Un.dv (Un.sym s) 4),iv (Un.dv (Un.sym s) 5),iv (Fr.rS ((Un.sym s).isSome=true) (Un.fv (Un.sym s))),((g.ss 0)).v,iv (Fr.rT ((Un.sym s).isSome=true)),((g.ss 1)).v],bv ((Un.sym s).isSome)]) (fun g=>[fs true (Fr.rD ((Un.sym s).isSome=true) (Un.fv (Un.sym s))) (g.ss 0),fs true (Fr.rE ((Un.sym s).isSome=true) (Un.fv (Un.sym s))) (g.ss 1)]) eF eF:=by
 refine vf mo Tryz.func178 42 1 fun _=>?_
 refine vG [.n 0,.kb false] fun G1=>?_;intro _ _
 refine vG [.u 1] fun G2=>?_;intro _ _
 refine vG [.seq s ⟨#[103]⟩,.u 1] fun G3=>?_;intro _ _
 refine vd (s=⟨#[103]⟩) (fun q1=>?_) fun q2=>?_
 ·have b:Un.sym s=some ([1,0,0,0,0,0],Rat.divInt 1 1):=by rw [q1];kernel_rfl
  refine nm (Fr.rS ((1:Int)≠0) (Rat.divInt (1:Int) (1:Int)):Int) fun n1 az=>nm (Fr.rD ((1:Int)≠0) (Rat.divInt (1:Int) (1:Int)):LI) fun l1 aA=>nm (Fr.rT ((1:Int)≠0):Int) fun n2 aB=>nm (Fr.rE ((1:Int)≠0) (Rat.divInt (1:Int) (1:Int)):LI) fun l2 aC=>vG [.cA 0 200 [] fun G=>uof0_ctv (1:Int) (1:Int) (1:Int) (by omega) (by omega) (by omega) n1 az l1 aA n2 aB l2 aC,.s 0,.kb true] fun G4=>?_;intro _ _
  have e7:l1=Fr.rD ((Un.sym s).isSome=true) (Un.fv (Un.sym s)):=(Fr.Fz.ret (Fr.Fz.of (by decide) az aA aB aC) (Un.is_s b) (Un.fv_s b).symm).2.1;subst e7;have e9:l2=Fr.rE ((Un.sym s).isSome=true) (Un.fv (Un.sym s)):=(Fr.Fz.ret (Fr.Fz.of (by decide) az aA aB aC) (Un.is_s b) (Un.fv_s b).symm).2.2.2;subst e9;have e0:(1:Int)=Un.dv (Un.sym s) 0:=(Un.dv_s b 0).symm;have e1:(0:Int)=Un.dv (Un.sym s) 1:=(Un.dv_s b 1).symm;have e2:(0:Int)=Un.dv (Un.sym s) 2:=(Un.dv_s b 2).symm;have e3:(0:Int)=Un.dv (Un.sym s) 3:=(Un.dv_s b 3).symm;have e4:(0:Int)=Un.dv (Un.sym s) 4:=(Un.dv_s b 4).symm;have e5:(0:Int)=Un.dv (Un.sym s) 5:=(Un.dv_s b 5).symm;have e6:n1=Fr.rS ((Un.sym s).isSome=true) (Un.fv (Un.sym s)):=(Fr.Fz.ret (Fr.Fz.of (by decide) az aA aB aC) (Un.is_s b) (Un.fv_s b).symm).1;have e8:n2=Fr.rT ((Un.sym s).isSome=true):=(Fr.Fz.ret (Fr.Fz.of (by decide) az aA aB aC) (Un.is_s b) (Un.fv_s b).symm).2.2.1;have f:true=(Un.sym s).isSome:=by rw [b];rfl
  exact V.rT [0,0] [(G4 0).ss 0,(G4 0).ss 1] [] [] [0,1] [] (cong9 (fun (h i j o t w A B:Int) (d:Bool)=>(.tuple #[.agg #[iv h,iv i,iv j,iv o,iv t,iv w,iv A,((G4 0).ss 0).v,iv B,((G4 0).ss 1).v],bv d]:Value)) e0 e1 e2 e3 e4 e5 e6 e8 f)
 have a3:¬ s=⟨#[103]⟩:=q2;refine vG [.seq s ⟨#[116]⟩,.u 1] fun G5=>?_;intro _ _
 refine vd (s=⟨#[116]⟩) (fun q3=>?_) fun q4=>?_
 ·have b:Un.sym s=some ([1,0,0,0,0,0],Rat.divInt 1000000 1):=by rw [q3];kernel_rfl
  refine nm (Fr.rS ((1:Int)≠0) (Rat.divInt (1000000:Int) (1:Int)):Int) fun n3 aD=>nm (Fr.rD ((1:Int)≠0) (Rat.divInt (1000000:Int) (1:Int)):LI) fun l3 aE=>nm (Fr.rT ((1:Int)≠0):Int) fun n4 aF=>nm (Fr.rE ((1:Int)≠0) (Rat.divInt (1000000:Int) (1:Int)):LI) fun l4 aG=>vG [.cA 0 200 [] fun G=>uof0_ctv (1:Int) (1000000:Int) (1:Int) (by omega) (by omega) (by omega) n3 aD l3 aE n4 aF l4 aG,.s 0,.kb true] fun G6=>?_;intro _ _
  have e7:l3=Fr.rD ((Un.sym s).isSome=true) (Un.fv (Un.sym s)):=(Fr.Fz.ret (Fr.Fz.of (by decide) aD aE aF aG) (Un.is_s b) (Un.fv_s b).symm).2.1;subst e7;have e9:l4=Fr.rE ((Un.sym s).isSome=true) (Un.fv (Un.sym s)):=(Fr.Fz.ret (Fr.Fz.of (by decide) aD aE aF aG) (Un.is_s b) (Un.fv_s b).symm).2.2.2;subst e9;have e0:(1:Int)=Un.dv (Un.sym s) 0:=(Un.dv_s b 0).symm;have e1:(0:Int)=Un.dv (Un.sym s) 1:=(Un.dv_s b 1).symm;have e2:(0:Int)=Un.dv (Un.sym s) 2:=(Un.dv_s b 2).symm;have e3:(0:Int)=Un.dv (Un.sym s) 3:=(Un.dv_s b 3).symm;have e4:(0:Int)=Un.dv (Un.sym s) 4:=(Un.dv_s b 4).symm;have e5:(0:Int)=Un.dv (Un.sym s) 5:=(Un.dv_s b 5).symm;have e6:n3=Fr.rS ((Un.sym s).isSome=true) (Un.fv (Un.sym s)):=(Fr.Fz.ret (Fr.Fz.of (by decide) aD aE aF aG) (Un.is_s b) (Un.fv_s b).symm).1;have e8:n4=Fr.rT ((Un.sym s).isSome=true):=(Fr.Fz.ret (Fr.Fz.of (by decide) aD aE aF aG) (Un.is_s b) (Un.fv_s b).symm).2.2.1;have f:true=(Un.sym s).isSome:=by rw [b];rfl
  exact V.rT [0,0] [(G6 0).ss 0,(G6 0).ss 1] [] [] [0,1] [] (cong9 (fun (h i j o t w A B:Int) (d:Bool)=>(.tuple #[.agg #[iv h,iv i,iv j,iv o,iv t,iv w,iv A,((G6 0).ss 0).v,iv B,((G6 0).ss 1).v],bv d]:Value)) e0 e1 e2 e3 e4 e5 e6 e8 f)
 have a4:¬ s=⟨#[116]⟩:=q4;refine vG [.seq s ⟨#[109]⟩,.u 1] fun G7=>?_;intro _ _
 refine vd (s=⟨#[109]⟩) (fun q5=>?_) fun q6=>?_
 ·have b:Un.sym s=some ([0,1,0,0,0,0],Rat.divInt 1 1):=by rw [q5];kernel_rfl
  refine nm (Fr.rS ((1:Int)≠0) (Rat.divInt (1:Int) (1:Int)):Int) fun n5 aH=>nm (Fr.rD ((1:Int)≠0) (Rat.divInt (1:Int) (1:Int)):LI) fun l5 aI=>nm (Fr.rT ((1:Int)≠0):Int) fun n6 aJ=>nm (Fr.rE ((1:Int)≠0) (Rat.divInt (1:Int) (1:Int)):LI) fun l6 aK=>vG [.cA 0 200 [] fun G=>uof1_ctv (1:Int) (1:Int) (1:Int) (by omega) (by omega) (by omega) n5 aH l5 aI n6 aJ l6 aK,.s 0,.kb true] fun G8=>?_;intro _ _
  have e7:l5=Fr.rD ((Un.sym s).isSome=true) (Un.fv (Un.sym s)):=(Fr.Fz.ret (Fr.Fz.of (by decide) aH aI aJ aK) (Un.is_s b) (Un.fv_s b).symm).2.1;subst e7;have e9:l6=Fr.rE ((Un.sym s).isSome=true) (Un.fv (Un.sym s)):=(Fr.Fz.ret (Fr.Fz.of (by decide) aH aI aJ aK) (Un.is_s b) (Un.fv_s b).symm).2.2.2;subst e9;have e0:(0:Int)=Un.dv (Un.sym s) 0:=(Un.dv_s b 0).symm;have e1:(1:Int)=Un.dv (Un.sym s) 1:=(Un.dv_s b 1).symm;have e2:(0:Int)=Un.dv (Un.sym s) 2:=(Un.dv_s b 2).symm;have e3:(0:Int)=Un.dv (Un.sym s) 3:=(Un.dv_s b 3).symm;have e4:(0:Int)=Un.dv (Un.sym s) 4:=(Un.dv_s b 4).symm;have e5:(0:Int)=Un.dv (Un.sym s) 5:=(Un.dv_s b 5).symm;have e6:n5=Fr.rS ((Un.sym s).isSome=true) (Un.fv (Un.sym s)):=(Fr.Fz.ret (Fr.Fz.of (by decide) aH aI aJ aK) (Un.is_s b) (Un.fv_s b).symm).1;have e8:n6=Fr.rT ((Un.sym s).isSome=true):=(Fr.Fz.ret (Fr.Fz.of (by decide) aH aI aJ aK) (Un.is_s b) (Un.fv_s b).symm).2.2.1;have f:true=(Un.sym s).isSome:=by rw [b];rfl
  exact V.rT [0,0] [(G8 0).ss 0,(G8 0).ss 1] [] [] [0,1] [] (cong9 (fun (h i j o t w A B:Int) (d:Bool)=>(.tuple #[.agg #[iv h,iv i,iv j,iv o,iv t,iv w,iv A,((G8 0).ss 0).v,iv B,((G8 0).ss 1).v],bv d]:Value)) e0 e1 e2 e3 e4 e5 e6 e8 f)
 have a5:¬ s=⟨#[109]⟩:=q6;refine vG [.seq s ⟨#[108]⟩,.u 1] fun G9=>?_;intro _ _
 refine vd (s=⟨#[108]⟩) (fun q7=>?_) fun q8=>?_
 ·have b:Un.sym s=some ([0,3,0,0,0,0],Rat.divInt 1 1000):=by rw [q7];kernel_rfl
  refine nm (Fr.rS ((1000:Int)≠0) (Rat.divInt (1:Int) (1000:Int)):Int) fun n7 aL=>nm (Fr.rD ((1000:Int)≠0) (Rat.divInt (1:Int) (1000:Int)):LI) fun l7 aM=>nm (Fr.rT ((1000:Int)≠0):Int) fun n8 aN=>nm (Fr.rE ((1000:Int)≠0) (Rat.divInt (1:Int) (1000:Int)):LI) fun l8 aO=>vG [.cA 0 200 [] fun G=>uof1_ctv (3:Int) (1:Int) (1000:Int) (by omega) (by omega) (by omega) n7 aL l7 aM n8 aN l8 aO,.s 0,.kb true] fun aS=>?_;intro _ _
  have e7:l7=Fr.rD ((Un.sym s).isSome=true) (Un.fv (Un.sym s)):=(Fr.Fz.ret (Fr.Fz.of (by decide) aL aM aN aO) (Un.is_s b) (Un.fv_s b).symm).2.1;subst e7;have e9:l8=Fr.rE ((Un.sym s).isSome=true) (Un.fv (Un.sym s)):=(Fr.Fz.ret (Fr.Fz.of (by decide) aL aM aN aO) (Un.is_s b) (Un.fv_s b).symm).2.2.2;subst e9;have e0:(0:Int)=Un.dv (Un.sym s) 0:=(Un.dv_s b 0).symm;have e1:(3:Int)=Un.dv (Un.sym s) 1:=(Un.dv_s b 1).symm;have e2:(0:Int)=Un.dv (Un.sym s) 2:=(Un.dv_s b 2).symm;have e3:(0:Int)=Un.dv (Un.sym s) 3:=(Un.dv_s b 3).symm;have e4:(0:Int)=Un.dv (Un.sym s) 4:=(Un.dv_s b 4).symm;have e5:(0:Int)=Un.dv (Un.sym s) 5:=(Un.dv_s b 5).symm;have e6:n7=Fr.rS ((Un.sym s).isSome=true) (Un.fv (Un.sym s)):=(Fr.Fz.ret (Fr.Fz.of (by decide) aL aM aN aO) (Un.is_s b) (Un.fv_s b).symm).1;have e8:n8=Fr.rT ((Un.sym s).isSome=true):=(Fr.Fz.ret (Fr.Fz.of (by decide) aL aM aN aO) (Un.is_s b) (Un.fv_s b).symm).2.2.1;have f:true=(Un.sym s).isSome:=by rw [b];rfl
  exact V.rT [0,0] [(aS 0).ss 0,(aS 0).ss 1] [] [] [0,1] [] (cong9 (fun (h i j o t w A B:Int) (d:Bool)=>(.tuple #[.agg #[iv h,iv i,iv j,iv o,iv t,iv w,iv A,((aS 0).ss 0).v,iv B,((aS 0).ss 1).v],bv d]:Value)) e0 e1 e2 e3 e4 e5 e6 e8 f)
 have a6:¬ s=⟨#[108]⟩:=q8;refine vG [.seq s ⟨#[115]⟩,.u 1] fun b1=>?_;intro _ _
 refine vd (s=⟨#[115]⟩) (fun q9=>?_) fun bM=>?_
 ·have b:Un.sym s=some ([0,0,1,0,0,0],Rat.divInt 1 1):=by rw [q9];kernel_rfl
  refine nm (Fr.rS ((1:Int)≠0) (Rat.divInt (1:Int) (1:Int)):Int) fun n9 aP=>nm (Fr.rD ((1:Int)≠0) (Rat.divInt (1:Int) (1:Int)):LI) fun l9 aQ=>nm (Fr.rT ((1:Int)≠0):Int) fun a7 C=>nm (Fr.rE ((1:Int)≠0) (Rat.divInt (1:Int) (1:Int)):LI) fun a8 D=>vG [.cA 0 200 [] fun G=>uof2_ctv (1:Int) (1:Int) (1:Int) (by omega) (by omega) (by omega) n9 aP l9 aQ a7 C a8 D,.s 0,.kb true] fun aT=>?_;intro _ _
  have e7:l9=Fr.rD ((Un.sym s).isSome=true) (Un.fv (Un.sym s)):=(Fr.Fz.ret (Fr.Fz.of (by decide) aP aQ C D) (Un.is_s b) (Un.fv_s b).symm).2.1;subst e7;have e9:a8=Fr.rE ((Un.sym s).isSome=true) (Un.fv (Un.sym s)):=(Fr.Fz.ret (Fr.Fz.of (by decide) aP aQ C D) (Un.is_s b) (Un.fv_s b).symm).2.2.2;subst e9;have e0:(0:Int)=Un.dv (Un.sym s) 0:=(Un.dv_s b 0).symm;have e1:(0:Int)=Un.dv (Un.sym s) 1:=(Un.dv_s b 1).symm;have e2:(1:Int)=Un.dv (Un.sym s) 2:=(Un.dv_s b 2).symm;have e3:(0:Int)=Un.dv (Un.sym s) 3:=(Un.dv_s b 3).symm;have e4:(0:Int)=Un.dv (Un.sym s) 4:=(Un.dv_s b 4).symm;have e5:(0:Int)=Un.dv (Un.sym s) 5:=(Un.dv_s b 5).symm;have e6:n9=Fr.rS ((Un.sym s).isSome=true) (Un.fv (Un.sym s)):=(Fr.Fz.ret (Fr.Fz.of (by decide) aP aQ C D) (Un.is_s b) (Un.fv_s b).symm).1;have e8:a7=Fr.rT ((Un.sym s).isSome=true):=(Fr.Fz.ret (Fr.Fz.of (by decide) aP aQ C D) (Un.is_s b) (Un.fv_s b).symm).2.2.1;have f:true=(Un.sym s).isSome:=by rw [b];rfl
  exact V.rT [0,0] [(aT 0).ss 0,(aT 0).ss 1] [] [] [0,1] [] (cong9 (fun (h i j o t w A B:Int) (d:Bool)=>(.tuple #[.agg #[iv h,iv i,iv j,iv o,iv t,iv w,iv A,((aT 0).ss 0).v,iv B,((aT 0).ss 1).v],bv d]:Value)) e0 e1 e2 e3 e4 e5 e6 e8 f)
 have a9:¬ s=⟨#[115]⟩:=bM;refine vG [.seq s ⟨#[104]⟩,.u 1] fun b2=>?_;intro _ _
 refine vd (s=⟨#[104]⟩) (fun bN=>?_) fun bO=>?_
 ·have b:Un.sym s=some ([0,0,1,0,0,0],Rat.divInt 3600 1):=by rw [bN];kernel_rfl
  refine nm (Fr.rS ((1:Int)≠0) (Rat.divInt (3600:Int) (1:Int)):Int) fun ba E=>nm (Fr.rD ((1:Int)≠0) (Rat.divInt (3600:Int) (1:Int)):LI) fun bb H=>nm (Fr.rT ((1:Int)≠0):Int) fun bc I=>nm (Fr.rE ((1:Int)≠0) (Rat.divInt (3600:Int) (1:Int)):LI) fun be M=>vG [.cA 0 200 [] fun G=>uof2_ctv (1:Int) (3600:Int) (1:Int) (by omega) (by omega) (by omega) ba E bb H bc I be M,.s 0,.kb true] fun aU=>?_;intro _ _
  have e7:bb=Fr.rD ((Un.sym s).isSome=true) (Un.fv (Un.sym s)):=(Fr.Fz.ret (Fr.Fz.of (by decide) E H I M) (Un.is_s b) (Un.fv_s b).symm).2.1;subst e7;have e9:be=Fr.rE ((Un.sym s).isSome=true) (Un.fv (Un.sym s)):=(Fr.Fz.ret (Fr.Fz.of (by decide) E H I M) (Un.is_s b) (Un.fv_s b).symm).2.2.2;subst e9;have e0:(0:Int)=Un.dv (Un.sym s) 0:=(Un.dv_s b 0).symm;have e1:(0:Int)=Un.dv (Un.sym s) 1:=(Un.dv_s b 1).symm;have e2:(1:Int)=Un.dv (Un.sym s) 2:=(Un.dv_s b 2).symm;have e3:(0:Int)=Un.dv (Un.sym s) 3:=(Un.dv_s b 3).symm;have e4:(0:Int)=Un.dv (Un.sym s) 4:=(Un.dv_s b 4).symm;have e5:(0:Int)=Un.dv (Un.sym s) 5:=(Un.dv_s b 5).symm;have e6:ba=Fr.rS ((Un.sym s).isSome=true) (Un.fv (Un.sym s)):=(Fr.Fz.ret (Fr.Fz.of (by decide) E H I M) (Un.is_s b) (Un.fv_s b).symm).1;have e8:bc=Fr.rT ((Un.sym s).isSome=true):=(Fr.Fz.ret (Fr.Fz.of (by decide) E H I M) (Un.is_s b) (Un.fv_s b).symm).2.2.1;have f:true=(Un.sym s).isSome:=by rw [b];rfl
  exact V.rT [0,0] [(aU 0).ss 0,(aU 0).ss 1] [] [] [0,1] [] (cong9 (fun (h i j o t w A B:Int) (d:Bool)=>(.tuple #[.agg #[iv h,iv i,iv j,iv o,iv t,iv w,iv A,((aU 0).ss 0).v,iv B,((aU 0).ss 1).v],bv d]:Value)) e0 e1 e2 e3 e4 e5 e6 e8 f)
 have bf:¬ s=⟨#[104]⟩:=bO;refine vG [.seq s ⟨#[100]⟩,.u 1] fun b3=>?_;intro _ _
 refine vd (s=⟨#[100]⟩) (fun bP=>?_) fun bQ=>?_
 ·have b:Un.sym s=some ([0,0,1,0,0,0],Rat.divInt 86400 1):=by rw [bP];kernel_rfl
  refine nm (Fr.rS ((1:Int)≠0) (Rat.divInt (86400:Int) (1:Int)):Int) fun bg P=>nm (Fr.rD ((1:Int)≠0) (Rat.divInt (86400:Int) (1:Int)):LI) fun bh Q=>nm (Fr.rT ((1:Int)≠0):Int) fun bi X=>nm (Fr.rE ((1:Int)≠0) (Rat.divInt (86400:Int) (1:Int)):LI) fun bj Y=>vG [.cA 0 200 [] fun G=>uof2_ctv (1:Int) (86400:Int) (1:Int) (by omega) (by omega) (by omega) bg P bh Q bi X bj Y,.s 0,.kb true] fun aV=>?_;intro _ _
  have e7:bh=Fr.rD ((Un.sym s).isSome=true) (Un.fv (Un.sym s)):=(Fr.Fz.ret (Fr.Fz.of (by decide) P Q X Y) (Un.is_s b) (Un.fv_s b).symm).2.1;subst e7;have e9:bj=Fr.rE ((Un.sym s).isSome=true) (Un.fv (Un.sym s)):=(Fr.Fz.ret (Fr.Fz.of (by decide) P Q X Y) (Un.is_s b) (Un.fv_s b).symm).2.2.2;subst e9;have e0:(0:Int)=Un.dv (Un.sym s) 0:=(Un.dv_s b 0).symm;have e1:(0:Int)=Un.dv (Un.sym s) 1:=(Un.dv_s b 1).symm;have e2:(1:Int)=Un.dv (Un.sym s) 2:=(Un.dv_s b 2).symm;have e3:(0:Int)=Un.dv (Un.sym s) 3:=(Un.dv_s b 3).symm;have e4:(0:Int)=Un.dv (Un.sym s) 4:=(Un.dv_s b 4).symm;have e5:(0:Int)=Un.dv (Un.sym s) 5:=(Un.dv_s b 5).symm;have e6:bg=Fr.rS ((Un.sym s).isSome=true) (Un.fv (Un.sym s)):=(Fr.Fz.ret (Fr.Fz.of (by decide) P Q X Y) (Un.is_s b) (Un.fv_s b).symm).1;have e8:bi=Fr.rT ((Un.sym s).isSome=true):=(Fr.Fz.ret (Fr.Fz.of (by decide) P Q X Y) (Un.is_s b) (Un.fv_s b).symm).2.2.1;have f:true=(Un.sym s).isSome:=by rw [b];rfl
  exact V.rT [0,0] [(aV 0).ss 0,(aV 0).ss 1] [] [] [0,1] [] (cong9 (fun (h i j o t w A B:Int) (d:Bool)=>(.tuple #[.agg #[iv h,iv i,iv j,iv o,iv t,iv w,iv A,((aV 0).ss 0).v,iv B,((aV 0).ss 1).v],bv d]:Value)) e0 e1 e2 e3 e4 e5 e6 e8 f)
 have bk:¬ s=⟨#[100]⟩:=bQ;refine vG [.seq s ⟨#[74]⟩,.u 1] fun b4=>?_;intro _ _
 refine vd (s=⟨#[74]⟩) (fun bR=>?_) fun bS=>?_
 ·have b:Un.sym s=some ([0,0,0,1,0,0],Rat.divInt 1 1):=by rw [bR];kernel_rfl
  refine nm (Fr.rS ((1:Int)≠0) (Rat.divInt (1:Int) (1:Int)):Int) fun bm Z=>nm (Fr.rD ((1:Int)≠0) (Rat.divInt (1:Int) (1:Int)):LI) fun bn ab=>nm (Fr.rT ((1:Int)≠0):Int) fun bp ac=>nm (Fr.rE ((1:Int)≠0) (Rat.divInt (1:Int) (1:Int)):LI) fun bq ad=>vG [.cA 0 200 [] fun G=>uof3_ctv (1:Int) (1:Int) (1:Int) (by omega) (by omega) (by omega) bm Z bn ab bp ac bq ad,.s 0,.kb true] fun aW=>?_;intro _ _
  have e7:bn=Fr.rD ((Un.sym s).isSome=true) (Un.fv (Un.sym s)):=(Fr.Fz.ret (Fr.Fz.of (by decide) Z ab ac ad) (Un.is_s b) (Un.fv_s b).symm).2.1;subst e7;have e9:bq=Fr.rE ((Un.sym s).isSome=true) (Un.fv (Un.sym s)):=(Fr.Fz.ret (Fr.Fz.of (by decide) Z ab ac ad) (Un.is_s b) (Un.fv_s b).symm).2.2.2;subst e9;have e0:(0:Int)=Un.dv (Un.sym s) 0:=(Un.dv_s b 0).symm;have e1:(0:Int)=Un.dv (Un.sym s) 1:=(Un.dv_s b 1).symm;have e2:(0:Int)=Un.dv (Un.sym s) 2:=(Un.dv_s b 2).symm;have e3:(1:Int)=Un.dv (Un.sym s) 3:=(Un.dv_s b 3).symm;have e4:(0:Int)=Un.dv (Un.sym s) 4:=(Un.dv_s b 4).symm;have e5:(0:Int)=Un.dv (Un.sym s) 5:=(Un.dv_s b 5).symm;have e6:bm=Fr.rS ((Un.sym s).isSome=true) (Un.fv (Un.sym s)):=(Fr.Fz.ret (Fr.Fz.of (by decide) Z ab ac ad) (Un.is_s b) (Un.fv_s b).symm).1;have e8:bp=Fr.rT ((Un.sym s).isSome=true):=(Fr.Fz.ret (Fr.Fz.of (by decide) Z ab ac ad) (Un.is_s b) (Un.fv_s b).symm).2.2.1;have f:true=(Un.sym s).isSome:=by rw [b];rfl
  exact V.rT [0,0] [(aW 0).ss 0,(aW 0).ss 1] [] [] [0,1] [] (cong9 (fun (h i j o t w A B:Int) (d:Bool)=>(.tuple #[.agg #[iv h,iv i,iv j,iv o,iv t,iv w,iv A,((aW 0).ss 0).v,iv B,((aW 0).ss 1).v],bv d]:Value)) e0 e1 e2 e3 e4 e5 e6 e8 f)
 have br:¬ s=⟨#[74]⟩:=bS;refine vG [.seq s ⟨#[87,104]⟩,.u 1] fun b5=>?_;intro _ _
 refine vd (s=⟨#[87,104]⟩) (fun bT=>?_) fun bU=>?_
 ·have b:Un.sym s=some ([0,0,0,1,0,0],Rat.divInt 3600 1):=by rw [bT];kernel_rfl
  refine nm (Fr.rS ((1:Int)≠0) (Rat.divInt (3600:Int) (1:Int)):Int) fun bs ae=>nm (Fr.rD ((1:Int)≠0) (Rat.divInt (3600:Int) (1:Int)):LI) fun bt af=>nm (Fr.rT ((1:Int)≠0):Int) fun bu ah=>nm (Fr.rE ((1:Int)≠0) (Rat.divInt (3600:Int) (1:Int)):LI) fun bw ai=>vG [.cA 0 200 [] fun G=>uof3_ctv (1:Int) (3600:Int) (1:Int) (by omega) (by omega) (by omega) bs ae bt af bu ah bw ai,.s 0,.kb true] fun aX=>?_;intro _ _
  have e7:bt=Fr.rD ((Un.sym s).isSome=true) (Un.fv (Un.sym s)):=(Fr.Fz.ret (Fr.Fz.of (by decide) ae af ah ai) (Un.is_s b) (Un.fv_s b).symm).2.1;subst e7;have e9:bw=Fr.rE ((Un.sym s).isSome=true) (Un.fv (Un.sym s)):=(Fr.Fz.ret (Fr.Fz.of (by decide) ae af ah ai) (Un.is_s b) (Un.fv_s b).symm).2.2.2;subst e9;have e0:(0:Int)=Un.dv (Un.sym s) 0:=(Un.dv_s b 0).symm;have e1:(0:Int)=Un.dv (Un.sym s) 1:=(Un.dv_s b 1).symm;have e2:(0:Int)=Un.dv (Un.sym s) 2:=(Un.dv_s b 2).symm;have e3:(1:Int)=Un.dv (Un.sym s) 3:=(Un.dv_s b 3).symm;have e4:(0:Int)=Un.dv (Un.sym s) 4:=(Un.dv_s b 4).symm;have e5:(0:Int)=Un.dv (Un.sym s) 5:=(Un.dv_s b 5).symm;have e6:bs=Fr.rS ((Un.sym s).isSome=true) (Un.fv (Un.sym s)):=(Fr.Fz.ret (Fr.Fz.of (by decide) ae af ah ai) (Un.is_s b) (Un.fv_s b).symm).1;have e8:bu=Fr.rT ((Un.sym s).isSome=true):=(Fr.Fz.ret (Fr.Fz.of (by decide) ae af ah ai) (Un.is_s b) (Un.fv_s b).symm).2.2.1;have f:true=(Un.sym s).isSome:=by rw [b];rfl
  exact V.rT [0,0] [(aX 0).ss 0,(aX 0).ss 1] [] [] [0,1] [] (cong9 (fun (h i j o t w A B:Int) (d:Bool)=>(.tuple #[.agg #[iv h,iv i,iv j,iv o,iv t,iv w,iv A,((aX 0).ss 0).v,iv B,((aX 0).ss 1).v],bv d]:Value)) e0 e1 e2 e3 e4 e5 e6 e8 f)
 have bx:¬ s=⟨#[87,104]⟩:=bU;refine vG [.seq s ⟨#[99,101,110,116]⟩,.u 1] fun b6=>?_;intro _ _
 refine vd (s=⟨#[99,101,110,116]⟩) (fun bV=>?_) fun bW=>?_
 ·have b:Un.sym s=some ([0,0,0,0,1,0],Rat.divInt 1 1):=by rw [bV];kernel_rfl
  refine nm (Fr.rS ((1:Int)≠0) (Rat.divInt (1:Int) (1:Int)):Int) fun bz aj=>nm (Fr.rD ((1:Int)≠0) (Rat.divInt (1:Int) (1:Int)):LI) fun bA ak=>nm (Fr.rT ((1:Int)≠0):Int) fun bB al=>nm (Fr.rE ((1:Int)≠0) (Rat.divInt (1:Int) (1:Int)):LI) fun bC am=>vG [.cA 0 200 [] fun G=>uof4_ctv (1:Int) (1:Int) (1:Int) (by omega) (by omega) (by omega) bz aj bA ak bB al bC am,.s 0,.kb true] fun aY=>?_;intro _ _
  have e7:bA=Fr.rD ((Un.sym s).isSome=true) (Un.fv (Un.sym s)):=(Fr.Fz.ret (Fr.Fz.of (by decide) aj ak al am) (Un.is_s b) (Un.fv_s b).symm).2.1;subst e7;have e9:bC=Fr.rE ((Un.sym s).isSome=true) (Un.fv (Un.sym s)):=(Fr.Fz.ret (Fr.Fz.of (by decide) aj ak al am) (Un.is_s b) (Un.fv_s b).symm).2.2.2;subst e9;have e0:(0:Int)=Un.dv (Un.sym s) 0:=(Un.dv_s b 0).symm;have e1:(0:Int)=Un.dv (Un.sym s) 1:=(Un.dv_s b 1).symm;have e2:(0:Int)=Un.dv (Un.sym s) 2:=(Un.dv_s b 2).symm;have e3:(0:Int)=Un.dv (Un.sym s) 3:=(Un.dv_s b 3).symm;have e4:(1:Int)=Un.dv (Un.sym s) 4:=(Un.dv_s b 4).symm;have e5:(0:Int)=Un.dv (Un.sym s) 5:=(Un.dv_s b 5).symm;have e6:bz=Fr.rS ((Un.sym s).isSome=true) (Un.fv (Un.sym s)):=(Fr.Fz.ret (Fr.Fz.of (by decide) aj ak al am) (Un.is_s b) (Un.fv_s b).symm).1;have e8:bB=Fr.rT ((Un.sym s).isSome=true):=(Fr.Fz.ret (Fr.Fz.of (by decide) aj ak al am) (Un.is_s b) (Un.fv_s b).symm).2.2.1;have f:true=(Un.sym s).isSome:=by rw [b];rfl
  exact V.rT [0,0] [(aY 0).ss 0,(aY 0).ss 1] [] [] [0,1] [] (cong9 (fun (h i j o t w A B:Int) (d:Bool)=>(.tuple #[.agg #[iv h,iv i,iv j,iv o,iv t,iv w,iv A,((aY 0).ss 0).v,iv B,((aY 0).ss 1).v],bv d]:Value)) e0 e1 e2 e3 e4 e5 e6 e8 f)
 have bD:¬ s=⟨#[99,101,110,116]⟩:=bW;refine vG [.seq s ⟨#[101,117,114]⟩,.u 1] fun b7=>?_;intro _ _
 refine vd (s=⟨#[101,117,114]⟩) (fun bX=>?_) fun bY=>?_
 ·have b:Un.sym s=some ([0,0,0,0,1,0],Rat.divInt 100 1):=by rw [bX];kernel_rfl
  refine nm (Fr.rS ((1:Int)≠0) (Rat.divInt (100:Int) (1:Int)):Int) fun bE an=>nm (Fr.rD ((1:Int)≠0) (Rat.divInt (100:Int) (1:Int)):LI) fun bF ao=>nm (Fr.rT ((1:Int)≠0):Int) fun bG aq=>nm (Fr.rE ((1:Int)≠0) (Rat.divInt (100:Int) (1:Int)):LI) fun bH au=>vG [.cA 0 200 [] fun G=>uof4_ctv (1:Int) (100:Int) (1:Int) (by omega) (by omega) (by omega) bE an bF ao bG aq bH au,.s 0,.kb true] fun aZ=>?_;intro _ _
  have e7:bF=Fr.rD ((Un.sym s).isSome=true) (Un.fv (Un.sym s)):=(Fr.Fz.ret (Fr.Fz.of (by decide) an ao aq au) (Un.is_s b) (Un.fv_s b).symm).2.1;subst e7;have e9:bH=Fr.rE ((Un.sym s).isSome=true) (Un.fv (Un.sym s)):=(Fr.Fz.ret (Fr.Fz.of (by decide) an ao aq au) (Un.is_s b) (Un.fv_s b).symm).2.2.2;subst e9;have e0:(0:Int)=Un.dv (Un.sym s) 0:=(Un.dv_s b 0).symm;have e1:(0:Int)=Un.dv (Un.sym s) 1:=(Un.dv_s b 1).symm;have e2:(0:Int)=Un.dv (Un.sym s) 2:=(Un.dv_s b 2).symm;have e3:(0:Int)=Un.dv (Un.sym s) 3:=(Un.dv_s b 3).symm;have e4:(1:Int)=Un.dv (Un.sym s) 4:=(Un.dv_s b 4).symm;have e5:(0:Int)=Un.dv (Un.sym s) 5:=(Un.dv_s b 5).symm;have e6:bE=Fr.rS ((Un.sym s).isSome=true) (Un.fv (Un.sym s)):=(Fr.Fz.ret (Fr.Fz.of (by decide) an ao aq au) (Un.is_s b) (Un.fv_s b).symm).1;have e8:bG=Fr.rT ((Un.sym s).isSome=true):=(Fr.Fz.ret (Fr.Fz.of (by decide) an ao aq au) (Un.is_s b) (Un.fv_s b).symm).2.2.1;have f:true=(Un.sym s).isSome:=by rw [b];rfl
  exact V.rT [0,0] [(aZ 0).ss 0,(aZ 0).ss 1] [] [] [0,1] [] (cong9 (fun (h i j o t w A B:Int) (d:Bool)=>(.tuple #[.agg #[iv h,iv i,iv j,iv o,iv t,iv w,iv A,((aZ 0).ss 0).v,iv B,((aZ 0).ss 1).v],bv d]:Value)) e0 e1 e2 e3 e4 e5 e6 e8 f)
 have a1:¬ s=⟨#[101,117,114]⟩:=bY;refine vG [.seq s ⟨#[112,99]⟩,.u 1] fun b8=>?_;intro _ _
 refine vd (s=⟨#[112,99]⟩) (fun bZ=>?_) fun b0=>?_
 ·have b:Un.sym s=some ([0,0,0,0,0,1],Rat.divInt 1 1):=by rw [bZ];kernel_rfl
  refine nm (Fr.rS ((1:Int)≠0) (Rat.divInt (1:Int) (1:Int)):Int) fun bI av=>nm (Fr.rD ((1:Int)≠0) (Rat.divInt (1:Int) (1:Int)):LI) fun bJ aw=>nm (Fr.rT ((1:Int)≠0):Int) fun bK ax=>nm (Fr.rE ((1:Int)≠0) (Rat.divInt (1:Int) (1:Int)):LI) fun bL ay=>vG [.cA 0 200 [] fun G=>uof5_ctv (1:Int) (1:Int) (1:Int) (by omega) (by omega) (by omega) bI av bJ aw bK ax bL ay,.s 0,.kb true] fun a0=>?_;intro _ _
  have e7:bJ=Fr.rD ((Un.sym s).isSome=true) (Un.fv (Un.sym s)):=(Fr.Fz.ret (Fr.Fz.of (by decide) av aw ax ay) (Un.is_s b) (Un.fv_s b).symm).2.1;subst e7;have e9:bL=Fr.rE ((Un.sym s).isSome=true) (Un.fv (Un.sym s)):=(Fr.Fz.ret (Fr.Fz.of (by decide) av aw ax ay) (Un.is_s b) (Un.fv_s b).symm).2.2.2;subst e9;have e0:(0:Int)=Un.dv (Un.sym s) 0:=(Un.dv_s b 0).symm;have e1:(0:Int)=Un.dv (Un.sym s) 1:=(Un.dv_s b 1).symm;have e2:(0:Int)=Un.dv (Un.sym s) 2:=(Un.dv_s b 2).symm;have e3:(0:Int)=Un.dv (Un.sym s) 3:=(Un.dv_s b 3).symm;have e4:(0:Int)=Un.dv (Un.sym s) 4:=(Un.dv_s b 4).symm;have e5:(1:Int)=Un.dv (Un.sym s) 5:=(Un.dv_s b 5).symm;have e6:bI=Fr.rS ((Un.sym s).isSome=true) (Un.fv (Un.sym s)):=(Fr.Fz.ret (Fr.Fz.of (by decide) av aw ax ay) (Un.is_s b) (Un.fv_s b).symm).1;have e8:bK=Fr.rT ((Un.sym s).isSome=true):=(Fr.Fz.ret (Fr.Fz.of (by decide) av aw ax ay) (Un.is_s b) (Un.fv_s b).symm).2.2.1;have f:true=(Un.sym s).isSome:=by rw [b];rfl
  exact V.rT [0,0] [(a0 0).ss 0,(a0 0).ss 1] [] [] [0,1] [] (cong9 (fun (h i j o t w A B:Int) (d:Bool)=>(.tuple #[.agg #[iv h,iv i,iv j,iv o,iv t,iv w,iv A,((a0 0).ss 0).v,iv B,((a0 0).ss 1).v],bv d]:Value)) e0 e1 e2 e3 e4 e5 e6 e8 f)
 have a2:¬ s=⟨#[112,99]⟩:=b0;have b:Un.sym s=none:=Un.sym_no a3 a4 a5 a6 a9 bf bk br bx bD a1 a2;refine vG [.u 1,.s 0,.kb false] fun b9=>?_;intro _ _
 refine V.nilF (α:=Int) ?_;refine V.nilF (α:=Int) ?_;have e7:([]:LI)=Fr.rD ((Un.sym s).isSome=true) (Un.fv (Un.sym s)):=(Fr.Fz.no (Un.is_n b) (Un.fv (Un.sym s))).2.1;rw [←e7];have e9:([]:LI)=Fr.rE ((Un.sym s).isSome=true) (Un.fv (Un.sym s)):=(Fr.Fz.no (Un.is_n b) (Un.fv (Un.sym s))).2.2.2;rw [←e9];have e0:(0:Int)=Un.dv (Un.sym s) 0:=(Un.dv_n b 0).symm;have e1:(0:Int)=Un.dv (Un.sym s) 1:=(Un.dv_n b 1).symm;have e2:(0:Int)=Un.dv (Un.sym s) 2:=(Un.dv_n b 2).symm;have e3:(0:Int)=Un.dv (Un.sym s) 3:=(Un.dv_n b 3).symm;have e4:(0:Int)=Un.dv (Un.sym s) 4:=(Un.dv_n b 4).symm;have e5:(0:Int)=Un.dv (Un.sym s) 5:=(Un.dv_n b 5).symm;have e6:(0:Int)=Fr.rS ((Un.sym s).isSome=true) (Un.fv (Un.sym s)):=(Fr.Fz.no (Un.is_n b) (Un.fv (Un.sym s))).1;have e8:(0:Int)=Fr.rT ((Un.sym s).isSome=true):=(Fr.Fz.no (Un.is_n b) (Un.fv (Un.sym s))).2.2.1;have f:false=(Un.sym s).isSome:=by rw [b];rfl
 exact V.rT [0,0] [] [] [] [0,1] [] (cong9 (fun (h i j o t w A B:Int) (d:Bool)=>(.tuple #[.agg #[iv h,iv i,iv j,iv o,iv t,iv w,iv A,SV.v ({}),iv B,SV.v ({})],bv d]:Value)) e0 e1 e2 e3 e4 e5 e6 e8 f)
theorem usym_ctv (s:ByteArray) (b:Int) (d:b=Un.dv (Un.sym s) 0) (f:Int) (h:f=Un.dv (Un.sym s) 1) (i:Int) (j:i=Un.dv (Un.sym s) 2) (o:Int) (t:o=Un.dv (Un.sym s) 3) (w:Int) (A:w=Un.dv (Un.sym s) 4) (B:Int) (C:B=Un.dv (Un.sym s) 5) (D:Int) (E:D=Fr.rS ((Un.sym s).isSome=true) (Un.fv (Un.sym s))) (G:List Int) (H:G=Fr.rD ((Un.sym s).isSome=true) (Un.fv (Un.sym s))) (I:Int) (M:I=Fr.rT ((Un.sym s).isSome=true)) (P:List Int) (Q:P=Fr.rE ((Un.sym s).isSome=true) (Un.fv (Un.sym s))) :
  Ct Tryz.prog 178 #[tv s] [] [] (fun g=>.tuple #[.agg #[iv b,iv f,iv i,iv o,iv w,iv B,iv D,((g.ss 0)).v,iv I,((g.ss 1)).v],bv ((Un.sym s).isSome)]) (fun g=>[fs true G (g.ss 0),fs true P (g.ss 1)]) (fun g=>[]) (fun g=>[]):=by
 subst d h j t A C E H M Q;exact usym_ct s 

theorem upre_ct (c:Int) :
  Cp Tryz.prog 179 #[.int .u8 c] [] (.tuple #[iv (Un.pp (Un.pre c)),iv (Un.pq (Un.pre c)),bv ((Un.pre c).isSome)]):=by
 refine vf mo Tryz.func179 14 0 fun _=>?_
 refine vG [.u 2,.kb false] fun G1=>?_;intro _ _
 refine vG [.u 1] fun G2=>?_;intro _ _
 refine vG [.u 2] fun G3=>?_;intro _ _
 refine vd (c=107) (fun q1=>?_) fun q2=>?_
 ·have b:Un.pre c=some (1000,1):=by unfold Un.pre;rw [if_pos q1]
  refine vG [.u 2,.kb true] fun G4=>?_;intro _ _
  have e0:(1000:Int)=Un.pp (Un.pre c):=by rw [b];rfl
  have e1:(1:Int)=Un.pq (Un.pre c):=by rw [b];rfl
  have e2:true=(Un.pre c).isSome:=by rw [b];rfl
  exact V.rT [0,0,0] [] [] [] [] [] (cong3 (fun (d f:Int) (h:Bool)=>(.tuple #[iv d,iv f,bv h]:Value)) e0 e1 e2)
 have i:=q2;refine vG [.u 2] fun G5=>?_;intro _ _
 refine vd (c=77) (fun q3=>?_) fun q4=>?_
 ·have b:Un.pre c=some (1000000,1):=by unfold Un.pre;rw [if_neg i,if_pos q3]
  refine vG [.u 2,.kb true] fun G6=>?_;intro _ _
  have e0:(1000000:Int)=Un.pp (Un.pre c):=by rw [b];rfl
  have e1:(1:Int)=Un.pq (Un.pre c):=by rw [b];rfl
  have e2:true=(Un.pre c).isSome:=by rw [b];rfl
  exact V.rT [0,0,0] [] [] [] [] [] (cong3 (fun (d f:Int) (h:Bool)=>(.tuple #[iv d,iv f,bv h]:Value)) e0 e1 e2)
 have j:=q4;refine vG [.u 2] fun G7=>?_;intro _ _
 refine vd (c=71) (fun q5=>?_) fun q6=>?_
 ·have b:Un.pre c=some (1000000000,1):=by unfold Un.pre;rw [if_neg i,if_neg j,if_pos q5]
  refine vG [.u 2,.kb true] fun G8=>?_;intro _ _
  have e0:(1000000000:Int)=Un.pp (Un.pre c):=by rw [b];rfl
  have e1:(1:Int)=Un.pq (Un.pre c):=by rw [b];rfl
  have e2:true=(Un.pre c).isSome:=by rw [b];rfl
  exact V.rT [0,0,0] [] [] [] [] [] (cong3 (fun (d f:Int) (h:Bool)=>(.tuple #[iv d,iv f,bv h]:Value)) e0 e1 e2)
 have o:=q6;refine vG [.u 2] fun G9=>?_;intro _ _
 refine vd (c=109) (fun q7=>?_) fun q8=>?_
 ·have b:Un.pre c=some (1,1000):=by unfold Un.pre;rw [if_neg i,if_neg j,if_neg o,if_pos q7]
  refine vG [.u 2,.kb true] fun w=>?_;intro _ _
  have e0:(1:Int)=Un.pp (Un.pre c):=by rw [b];rfl
  have e1:(1000:Int)=Un.pq (Un.pre c):=by rw [b];rfl
  have e2:true=(Un.pre c).isSome:=by rw [b];rfl
  exact V.rT [0,0,0] [] [] [] [] [] (cong3 (fun (d f:Int) (h:Bool)=>(.tuple #[iv d,iv f,bv h]:Value)) e0 e1 e2)
 have t:=q8;have b:Un.pre c=none:=by unfold Un.pre;rw [if_neg i,if_neg j,if_neg o,if_neg t]
 refine vG [.u 2,.kb false] fun A=>?_;intro _ _
 have e0:(0:Int)=Un.pp (Un.pre c):=by rw [b];rfl
 have e1:(0:Int)=Un.pq (Un.pre c):=by rw [b];rfl
 have e2:false=(Un.pre c).isSome:=by rw [b];rfl
 exact V.rT [0,0,0] [] [] [] [] [] (cong3 (fun (d f:Int) (h:Bool)=>(.tuple #[iv d,iv f,bv h]:Value)) e0 e1 e2)
theorem upre_ctv (c b:Int) (d:b=Un.pp (Un.pre c)) (f:Int) (h:f=Un.pq (Un.pre c)) :
  Cp Tryz.prog 179 #[.int .u8 c] [] (.tuple #[iv b,iv f,bv ((Un.pre c).isSome)]):=by
 subst d h;exact upre_ct c 
theorem upfx_ct (s:BA) :
  Cp Tryz.prog 180 #[tv s] [] (bv (decide (Un.pf s))):=by
 refine vf mo Tryz.func180 11 0 fun _=>?_
 refine vG [.kb false] fun G1=>?_;intro _ _
 refine vG [.u 1] fun G2=>?_;intro _ _
 refine vG [.seq s ⟨#[103]⟩,.u 1] fun G3=>?_;intro _ _
 refine vd (s=⟨#[103]⟩) (fun q1=>?_) fun q2=>?_
 ·have b:s=⟨#[103]⟩:=q1;have d:Un.pf s:=by rw [q1];decide
  refine vd (s=⟨#[103]⟩) (fun q3=>?_) fun q4=>?_
  ·have b:s=⟨#[103]⟩:=q3;have d:Un.pf s:=by rw [q3];decide
   refine vG [.kb true] fun G4=>?_;intro _ _
   have e0:true=decide (Un.pf s):=by refine (decide_eq_true ?_).symm;first | exact d | exact q3 | (rw [q3];decide)
   exact vb 0 [] e0
  have f:¬ s=⟨#[103]⟩:=q4;refine vG [.kb false] fun G5=>?_;intro _ _
  have e0:false=decide (Un.pf s):=by refine (decide_eq_false ?_).symm;first | exact absurd b q4 | (unfold Un.pf;rintro (((((h | h) | h) | h) | h) | h) <;> first | exact f h | exact i h | exact j h | exact o h | exact t h | exact q4 h)
  exact vb 0 [] e0
 have f:¬ s=⟨#[103]⟩:=q2;refine vG [.seq s ⟨#[109]⟩,.u 1] fun G6=>?_;intro _ _
 refine vd (s=⟨#[109]⟩) (fun q5=>?_) fun q6=>?_
 ·have b:s=⟨#[109]⟩:=q5;have d:Un.pf s:=by rw [q5];decide
  refine vd (s=⟨#[109]⟩) (fun q7=>?_) fun q8=>?_
  ·have b:s=⟨#[109]⟩:=q7;have d:Un.pf s:=by rw [q7];decide
   refine vG [.kb true] fun G7=>?_;intro _ _
   have e0:true=decide (Un.pf s):=by refine (decide_eq_true ?_).symm;first | exact d | exact q7 | (rw [q7];decide)
   exact vb 0 [] e0
  have i:¬ s=⟨#[109]⟩:=q8;refine vG [.kb false] fun G8=>?_;intro _ _
  have e0:false=decide (Un.pf s):=by refine (decide_eq_false ?_).symm;first | exact absurd b q8 | (unfold Un.pf;rintro (((((h | h) | h) | h) | h) | h) <;> first | exact f h | exact i h | exact j h | exact o h | exact t h | exact q8 h)
  exact vb 0 [] e0
 have i:¬ s=⟨#[109]⟩:=q6;refine vG [.seq s ⟨#[108]⟩,.u 1] fun G9=>?_;intro _ _
 refine vd (s=⟨#[108]⟩) (fun q9=>?_) fun P=>?_
 ·have b:s=⟨#[108]⟩:=q9;have d:Un.pf s:=by rw [q9];decide
  refine vd (s=⟨#[108]⟩) (fun w=>?_) fun C=>?_
  ·have b:s=⟨#[108]⟩:=w;have d:Un.pf s:=by rw [w];decide
   refine vG [.kb true] fun Y=>?_;intro _ _
   have e0:true=decide (Un.pf s):=by refine (decide_eq_true ?_).symm;first | exact d | exact w | (rw [w];decide)
   exact vb 0 [] e0
  have j:¬ s=⟨#[108]⟩:=C;refine vG [.kb false] fun Z=>?_;intro _ _
  have e0:false=decide (Un.pf s):=by refine (decide_eq_false ?_).symm;first | exact absurd b C | (unfold Un.pf;rintro (((((h | h) | h) | h) | h) | h) <;> first | exact f h | exact i h | exact j h | exact o h | exact t h | exact C h)
  exact vb 0 [] e0
 have j:¬ s=⟨#[108]⟩:=P;refine vG [.seq s ⟨#[115]⟩,.u 1] fun ab=>?_;intro _ _
 refine vd (s=⟨#[115]⟩) (fun G=>?_) fun Q=>?_
 ·have b:s=⟨#[115]⟩:=G;have d:Un.pf s:=by rw [G];decide
  refine vd (s=⟨#[115]⟩) (fun A=>?_) fun D=>?_
  ·have b:s=⟨#[115]⟩:=A;have d:Un.pf s:=by rw [A];decide
   refine vG [.kb true] fun ac=>?_;intro _ _
   have e0:true=decide (Un.pf s):=by refine (decide_eq_true ?_).symm;first | exact d | exact A | (rw [A];decide)
   exact vb 0 [] e0
  have o:¬ s=⟨#[115]⟩:=D;refine vG [.kb false] fun ad=>?_;intro _ _
  have e0:false=decide (Un.pf s):=by refine (decide_eq_false ?_).symm;first | exact absurd b D | (unfold Un.pf;rintro (((((h | h) | h) | h) | h) | h) <;> first | exact f h | exact i h | exact j h | exact o h | exact t h | exact D h)
  exact vb 0 [] e0
 have o:¬ s=⟨#[115]⟩:=Q;refine vG [.seq s ⟨#[74]⟩,.u 1] fun ae=>?_;intro _ _
 refine vd (s=⟨#[74]⟩) (fun H=>?_) fun X=>?_
 ·have b:s=⟨#[74]⟩:=H;have d:Un.pf s:=by rw [H];decide
  refine vd (s=⟨#[74]⟩) (fun B=>?_) fun E=>?_
  ·have b:s=⟨#[74]⟩:=B;have d:Un.pf s:=by rw [B];decide
   refine vG [.kb true] fun af=>?_;intro _ _
   have e0:true=decide (Un.pf s):=by refine (decide_eq_true ?_).symm;first | exact d | exact B | (rw [B];decide)
   exact vb 0 [] e0
  have t:¬ s=⟨#[74]⟩:=E;refine vG [.kb false] fun ah=>?_;intro _ _
  have e0:false=decide (Un.pf s):=by refine (decide_eq_false ?_).symm;first | exact absurd b E | (unfold Un.pf;rintro (((((h | h) | h) | h) | h) | h) <;> first | exact f h | exact i h | exact j h | exact o h | exact t h | exact E h)
  exact vb 0 [] e0
 have t:¬ s=⟨#[74]⟩:=X;refine vG [.seq s ⟨#[87,104]⟩,.u 1] fun ai=>?_;intro _ _
 refine vd (s=⟨#[87,104]⟩) (fun I=>?_) fun M=>?_
 ·refine vG [.kb true] fun aj=>?_;intro _ _
  have e0:true=decide (Un.pf s):=by refine (decide_eq_true ?_).symm;first | exact d | exact I | (rw [I];decide)
  exact vb 0 [] e0
 refine vG [.kb false] fun ak=>?_;intro _ _
 have e0:false=decide (Un.pf s):=by refine (decide_eq_false ?_).symm;first | exact absurd b M | (unfold Un.pf;rintro (((((h | h) | h) | h) | h) | h) <;> first | exact f h | exact i h | exact j h | exact o h | exact t h | exact M h)
 exact vb 0 [] e0
theorem ultr_ct (c:Int) :
  Cp Tryz.prog 198 #[.int .u8 c] [] (bv (decide (Un.ltr c))):=by
 refine vf mo Tryz.func198 17 0 fun _=>?_
 refine vG [.kb false] fun G1=>?_;intro _ _
 refine nm (((decide (97≤c)) && (decide (c≤122))) || ((decide (65≤c)) && (decide (c≤90))):Bool) fun p1 d=>vG [.u 5,.and g0 false (decide (97≤c)) (decide (c≤122)),.u 6,.and (gF (b:=(decide (97≤c)) && (decide (c≤122))) (iAF iDF iDF)) false (decide (65≤c)) (decide (c≤90)),.orn g0 false ((decide (97≤c)) && (decide (c≤122))) ((decide (65≤c)) && (decide (c≤90))) p1 d,.u 1] fun G2=>?_;intro _ _
 have e0:p1=decide (Un.ltr c):=by
  refine Bool.eq_iff_iff.2 (Iff.trans (iN d (iOT (iAT iDT iDT) (iAT iDT iDT))) (Iff.trans ?_ decide_eq_true_iff.symm));exact Iff.rfl
 exact vb 0 [] e0

theorem uword_ct (s:BA) (a3:0 < s.size) :
  Ct Tryz.prog 154 #[tv s] [] [] (fun g=>.tuple #[.agg #[iv (Un.dv (Un.word s) 0),iv (Un.dv (Un.word s) 1),iv (Un.dv (Un.word s) 2),iv (Un.dv (Un.word s) 3),iv (Un.dv (Un.word s) 4),iv (Un.dv (Un.word s) 5),iv (Fr.rS ((Un.word s).isSome=true) (Un.fv (Un.word s))),((g.ss 0)).v,iv (Fr.rT ((Un.word s).isSome=true)),((g.ss 1)).v],bv ((Un.word s).isSome)]) (fun g=>[fs true (Fr.rD ((Un.word s).isSome=true) (Un.fv (Un.word s))) (g.ss 0),fs true (Fr.rE ((Un.word s).isSome=true) (Un.fv (Un.word s))) (g.ss 1)]) eF eF:=by
 refine vf mo Tryz.func154 61 4 fun _=>?_
 refine vG [.n 0,.kb false] fun G1=>?_;intro _ _
 refine nm (Un.dv (Un.sym s) 0:Int) fun n1 ay=>nm (Un.dv (Un.sym s) 1:Int) fun n2 az=>nm (Un.dv (Un.sym s) 2:Int) fun n3 aA=>nm (Un.dv (Un.sym s) 3:Int) fun n4 aB=>nm (Un.dv (Un.sym s) 4:Int) fun n5 aC=>nm (Un.dv (Un.sym s) 5:Int) fun n6 aD=>nm (Fr.rS ((Un.sym s).isSome=true) (Un.fv (Un.sym s)):Int) fun n7 aE=>nm (Fr.rD ((Un.sym s).isSome=true) (Un.fv (Un.sym s)):LI) fun l1 aF=>nm (Fr.rT ((Un.sym s).isSome=true):Int) fun n8 aG=>nm (Fr.rE ((Un.sym s).isSome=true) (Un.fv (Un.sym s)):LI) fun l2 aH=>vG [.u 1,.cA 1 178 [] fun G=>usym_ctv s n1 ay n2 az n3 aA n4 aB n5 aC n6 aD n7 aE l1 aF n8 aG l2 aH,.u 3,.n 1,.s 1,.u 1] fun G2=>?_;intro _ _
 refine vG [.u 1] fun G3=>?_;intro _ _
 refine vc ((Un.sym s).isSome) (fun q1=>?_) fun q2=>?_
 ·have h:(Un.sym s).isSome=true:=by simpa using q1
  refine vG [.l 1,.s 0,.kb true] fun G4=>?_;intro _ _
  have e7:l1=Fr.rD ((Un.word s).isSome=true) (Un.fv (Un.word s)):=by
   rw [aF];rw [Un.word_y h]
  subst e7;have e9:l2=Fr.rE ((Un.word s).isSome=true) (Un.fv (Un.word s)):=by
   rw [aH];rw [Un.word_y h]
  subst e9;have e0:n1=Un.dv (Un.word s) 0:=by
   rw [ay];rw [Un.word_y h]
  have e1:n2=Un.dv (Un.word s) 1:=by
   rw [az];rw [Un.word_y h]
  have e2:n3=Un.dv (Un.word s) 2:=by
   rw [aA];rw [Un.word_y h]
  have e3:n4=Un.dv (Un.word s) 3:=by
   rw [aB];rw [Un.word_y h]
  have e4:n5=Un.dv (Un.word s) 4:=by
   rw [aC];rw [Un.word_y h]
  have e5:n6=Un.dv (Un.word s) 5:=by
   rw [aD];rw [Un.word_y h]
  have e6:n7=Fr.rS ((Un.word s).isSome=true) (Un.fv (Un.word s)):=by
   rw [aE];rw [Un.word_y h]
  have e8:n8=Fr.rT ((Un.word s).isSome=true):=by
   rw [aG];rw [Un.word_y h]
  have C:true=(Un.word s).isSome:=by rw [Un.word_y h,h]
  exact V.rT [0,0] [(G2 1).ss 0,(G2 1).ss 1] [] [] [0,1] [] (cong9 (fun (D E H I M P Q X:Int) (w:Bool)=>(.tuple #[.agg #[iv D,iv E,iv H,iv I,iv M,iv P,iv Q,((G2 1).ss 0).v,iv X,((G2 1).ss 1).v],bv w]:Value)) e0 e1 e2 e3 e4 e5 e6 e8 C)
 have aI:¬ (Un.sym s).isSome=true:=by simpa using q2
 refine nm ((bl s).getD (0:Int).toNat default:UInt8) fun c1 ac=>nm (Un.pp (Un.pre (c1.toNat:Int)):Int) fun n9 ax=>nm (Un.pq (Un.pre (c1.toNat:Int)):Int) fun i Y=>vG [.u 1,.sid g0 s (0:Int) c1 ac (fun _=>⟨by omega,by omega⟩),.cP 2 179 [] fun G=>upre_ctv (c1.toNat:Int) n9 ax i Y,.u 7] fun G5=>?_;intro _ _
 refine nm (s.extract (1:Int).toNat (s.size:Int).toNat:ByteArray) fun t1 d=>nm (Un.dv (Un.sym t1) 0:Int) fun aJ ah=>nm (Un.dv (Un.sym t1) 1:Int) fun aK ai=>nm (Un.dv (Un.sym t1) 2:Int) fun aL aj=>nm (Un.dv (Un.sym t1) 3:Int) fun aM ak=>nm (Un.dv (Un.sym t1) 4:Int) fun aN al=>nm (Un.dv (Un.sym t1) 5:Int) fun aO am=>nm (Fr.rS ((Un.sym t1).isSome=true) (Un.fv (Un.sym t1)):Int) fun o an=>nm (Fr.rD ((Un.sym t1).isSome=true) (Un.fv (Un.sym t1)):LI) fun l3 aP=>nm (Fr.rT ((Un.sym t1).isSome=true):Int) fun A ao=>nm (Fr.rE ((Un.sym t1).isSome=true) (Un.fv (Un.sym t1)):LI) fun l4 aQ=>vG [.u 1,.ssl g0 s (some (1:Int)) none 1 (s.size:Int) rfl rfl t1 d (fun _=>⟨by omega,by omega,by omega⟩),.cA 2 178 [] fun G=>usym_ctv t1 aJ ah aK ai aL aj aM ak aN al aO am o an l3 aP A ao l4 aQ,.u 3,.n 2,.s 2,.u 1] fun G6=>?_;intro _ _
 refine nm ((!((Un.pre (c1.toNat:Int)).isSome)) || (!((Un.sym t1).isSome)):Bool) fun p1 Z=>vG [.u 5,.orn g0 false (!((Un.pre (c1.toNat:Int)).isSome)) (!((Un.sym t1).isSome)) p1 Z,.u 2,.ssl (gF (b:=p1) (iN Z (iOF (iNF Iff.rfl) (iNF Iff.rfl)))) s (some (1:Int)) none 1 (s.size:Int) rfl rfl t1 d (fun hg=>⟨by omega,by omega,by omega⟩),.cp (gF (b:=p1) (iN Z (iOF (iNF Iff.rfl) (iNF Iff.rfl)))) 9 180 [] (fun hg G=>upfx_ct t1),.u 1,.or g0 false p1 (!(decide (Un.pf t1)))] fun G7=>?_;intro _ _
 refine V.cn (b:=p1 || (!(decide (Un.pf t1)))) (iOT (iN Z (iOT (iNT Iff.rfl) (iNT Iff.rfl))) (iNT iDF)) (iOF (iN Z (iOF (iNF Iff.rfl) (iNF Iff.rfl))) (iNF iDT)) (fun q3=>?_) (fun q4=>?_)
 ·have ad:Un.wdB s=((Un.pre (c1.toNat:Int)).isSome=true∧(Un.sym t1).isSome=true∧Un.pf t1):=by rw [d,ac];rfl
  have ae:¬ Un.wdB s:=by rw [ad];rintro ⟨h1,h2,h3⟩;simp [h1,h2,h3] at q3
  have j:=Un.word_n aI ae;refine vG [.u 1,.s 0,.kb false] fun G8=>?_;intro _ _
  refine V.nilF (α:=Int) ?_;refine V.nilF (α:=Int) ?_;have e7:([]:LI)=Fr.rD ((Un.word s).isSome=true) (Un.fv (Un.word s)):=(Fr.Fz.no (Un.is_n j) (Un.fv (Un.word s))).2.1;rw [←e7];have e9:([]:LI)=Fr.rE ((Un.word s).isSome=true) (Un.fv (Un.word s)):=(Fr.Fz.no (Un.is_n j) (Un.fv (Un.word s))).2.2.2;rw [←e9];have e0:(0:Int)=Un.dv (Un.word s) 0:=(Un.dv_n j 0).symm;have e1:(0:Int)=Un.dv (Un.word s) 1:=(Un.dv_n j 1).symm;have e2:(0:Int)=Un.dv (Un.word s) 2:=(Un.dv_n j 2).symm;have e3:(0:Int)=Un.dv (Un.word s) 3:=(Un.dv_n j 3).symm;have e4:(0:Int)=Un.dv (Un.word s) 4:=(Un.dv_n j 4).symm;have e5:(0:Int)=Un.dv (Un.word s) 5:=(Un.dv_n j 5).symm;have e6:(0:Int)=Fr.rS ((Un.word s).isSome=true) (Un.fv (Un.word s)):=(Fr.Fz.no (Un.is_n j) (Un.fv (Un.word s))).1;have e8:(0:Int)=Fr.rT ((Un.word s).isSome=true):=(Fr.Fz.no (Un.is_n j) (Un.fv (Un.word s))).2.2.1;have C:false=(Un.word s).isSome:=by rw [j];rfl
  exact V.rT [0,0] [] [] [] [4,5] [] (cong9 (fun (D E H I M P Q X:Int) (w:Bool)=>(.tuple #[.agg #[iv D,iv E,iv H,iv I,iv M,iv P,iv Q,SV.v ({}),iv X,SV.v ({})],bv w]:Value)) e0 e1 e2 e3 e4 e5 e6 e8 C)
 have ad:Un.wdB s=((Un.pre (c1.toNat:Int)).isSome=true∧(Un.sym t1).isSome=true∧Un.pf t1):=by rw [d,ac];rfl
 have ae:Un.wdB s:=by rw [ad];simpa [and_assoc] using q4
 have ab:=ad.mp ae;have a0:=Un.pre_ok ab.1;rw [←ax,← Y] at a0;have f:Un.word s=some (((Un.sym t1).getD ([],0)).1,Un.fv (Un.sym t1) * Rat.divInt n9 i):=by rw [ax,Y,d,ac];exact Un.word_p aI ae
 have zs:=Fr.Fz.of ab.2.1 an aP ao aQ;have a4:=zs.len (Un.sym_ok (Un.some_of ab.2.1)).2.2.2;refine nm (Fr.rS (i≠0) (Rat.divInt n9 i):Int) fun t aq=>nm (Fr.rD (i≠0) (Rat.divInt n9 i):LI) fun l5 aS=>nm (Fr.rT (i≠0):Int) fun B au=>nm (Fr.rE (i≠0) (Rat.divInt n9 i):LI) fun l6 aT=>nm (if i=0 then (15:Int) else 0:Int) fun a1 aU=>vG [.u 2,.cA 2 181 [] fun G=>fof_ctv n9 i (by omega) (by omega) t aq l5 aS B au l6 aT a1 aU,.u 3,.n 3,.s 3,.u 1] fun G9=>?_;intro _ _
 refine nm (Fr.rS (Fr.FrB o l3 A l4∧Fr.FrB t l5 B l6) ((Fr.fq o l3 l4) * (Fr.fq t l5 l6)):Int) fun aV av=>nm (Fr.rD (Fr.FrB o l3 A l4∧Fr.FrB t l5 B l6) ((Fr.fq o l3 l4) * (Fr.fq t l5 l6)):LI) fun l7 aW=>nm (Fr.rT (Fr.FrB o l3 A l4∧Fr.FrB t l5 B l6):Int) fun aX aw=>nm (Fr.rE (Fr.FrB o l3 A l4∧Fr.FrB t l5 B l6) ((Fr.fq o l3 l4) * (Fr.fq t l5 l6)):LI) fun l8 aY=>nm (if ¬ (Fr.FrB o l3 A l4∧Fr.FrB t l5 B l6) then (1:Int) else 0:Int) fun a2 aZ=>?_;have zf:=Fr.Fz.of (show i≠0 by omega) aq aS au aT
 have a5:=zf.len (Fr.Hb.divI (k:=3) (by omega) (by omega) (by omega));have zw:=Fr.Fz.of ⟨zs.rt,zf.rt⟩ av aW aw aY;rw [zs.v,zf.v] at zw;refine vG [.u 1,.l 2,.l 3,.cA 3 182 [kB 2 l3 ((G6 2).ss 0),kB 3 l4 ((G6 2).ss 1),kB 4 l5 ((G9 2).ss 0),kB 5 l6 ((G9 2).ss 1)] fun G=>fmul_ctv o l3 ((G6 2).ss 0) A l4 ((G6 2).ss 1) t l5 ((G9 2).ss 0) B l6 ((G9 2).ss 1) (by omega) (by omega) (by omega) (by omega) aV av l7 aW aX aw l8 aY a2 aZ,.u 4,.s 2] fun af=>?_;intro _ _
 refine vG [.l 2,.s 0,.kb true] fun a6=>?_;intro _ _
 have e7:l7=Fr.rD ((Un.word s).isSome=true) (Un.fv (Un.word s)):=(Fr.Fz.ret zw (Un.is_s f) (Un.fv_s f).symm).2.1;subst e7;have e9:l8=Fr.rE ((Un.word s).isSome=true) (Un.fv (Un.word s)):=(Fr.Fz.ret zw (Un.is_s f) (Un.fv_s f).symm).2.2.2;subst e9;have e0:aJ=Un.dv (Un.word s) 0:=by
  rw [ah,d];rw [Un.dv_s f,d];rfl
 have e1:aK=Un.dv (Un.word s) 1:=by
  rw [ai,d];rw [Un.dv_s f,d];rfl
 have e2:aL=Un.dv (Un.word s) 2:=by
  rw [aj,d];rw [Un.dv_s f,d];rfl
 have e3:aM=Un.dv (Un.word s) 3:=by
  rw [ak,d];rw [Un.dv_s f,d];rfl
 have e4:aN=Un.dv (Un.word s) 4:=by
  rw [al,d];rw [Un.dv_s f,d];rfl
 have e5:aO=Un.dv (Un.word s) 5:=by
  rw [am,d];rw [Un.dv_s f,d];rfl
 have e6:aV=Fr.rS ((Un.word s).isSome=true) (Un.fv (Un.word s)):=(Fr.Fz.ret zw (Un.is_s f) (Un.fv_s f).symm).1;have e8:aX=Fr.rT ((Un.word s).isSome=true):=(Fr.Fz.ret zw (Un.is_s f) (Un.fv_s f).symm).2.2.1;have C:true=(Un.word s).isSome:=by rw [f];rfl
 exact V.rT [0,0] [(af 3).ss 0,(af 3).ss 1] [] [] [6,7] [] (cong9 (fun (D E H I M P Q X:Int) (w:Bool)=>(.tuple #[.agg #[iv D,iv E,iv H,iv I,iv M,iv P,iv Q,((af 3).ss 0).v,iv X,((af 3).ss 1).v],bv w]:Value)) e0 e1 e2 e3 e4 e5 e6 e8 C)
theorem uword_ctv (s:ByteArray) (X:0 < s.size) (b:Int) (d:b=Un.dv (Un.word s) 0) (f:Int) (h:f=Un.dv (Un.word s) 1) (i:Int) (j:i=Un.dv (Un.word s) 2) (o:Int) (t:o=Un.dv (Un.word s) 3) (w:Int) (A:w=Un.dv (Un.word s) 4) (B:Int) (C:B=Un.dv (Un.word s) 5) (D:Int) (E:D=Fr.rS ((Un.word s).isSome=true) (Un.fv (Un.word s))) (G:List Int) (H:G=Fr.rD ((Un.word s).isSome=true) (Un.fv (Un.word s))) (I:Int) (M:I=Fr.rT ((Un.word s).isSome=true)) (P:List Int) (Q:P=Fr.rE ((Un.word s).isSome=true) (Un.fv (Un.word s))) :
  Ct Tryz.prog 154 #[tv s] [] [] (fun g=>.tuple #[.agg #[iv b,iv f,iv i,iv o,iv w,iv B,iv D,((g.ss 0)).v,iv I,((g.ss 1)).v],bv ((Un.word s).isSome)]) (fun g=>[fs true G (g.ss 0),fs true P (g.ss 1)]) (fun g=>[]) (fun g=>[]):=by
 subst d h j t A C E H M Q;exact uword_ct s X
theorem ucut_ct (s:BA) (hs:s.size≤9223372036854775807) :
  Cp Tryz.prog 176 #[tv s] [] (.tuple #[ag (Ditem.mk (Un.cuW s) (Un.cuE s)),tv (Un.cuR s),bv (decide (0 < Un.nl s))]):=by
 refine vf mo Tryz.func176 49 2 fun _=>?_
 refine vG [.n 0,.u 1,.kb false] fun G1=>?_;intro _ _
 refine vG [.u 1] fun G2=>?_;intro _ _
 refine V.lp (γ:=Int) (fun n=>⟨[(0,tv s),(2,pp ((G1 0).b) 0),(5,iv n)],[],[.blk ((G1 0).b) (ca (Ditem.mk ByteArray.empty 0)) 209,.no]⟩) (fun n=>(0≤n)∧(n≤(s.size:Int))∧(∀ j,j < n.toNat→Un.ltr (((bl s).getD j default).toNat:Int))) (fun n=>((s.size:Int)-n).toNat) 0 [] ?_ ?_
 ·refine ⟨?_,?_,?_⟩
  ·show 0≤(0:Int);omega
  ·show (0:Int)≤(s.size:Int);omega
  show ∀ j,j < (0:Int).toNat→Un.ltr (((bl s).getD j default).toNat:Int);intro j hj;simp at hj
 rintro n hF1 kw3 Z1 hZ1;obtain ⟨ae,af,P⟩:=hF1;refine nm ((bl s).getD n.toNat default:UInt8) fun c1 A=>nm ((decide (n < (s.size:Int))) && (decide (Un.ltr (c1.toNat:Int))):Bool) fun p1 B=>vG [.u 7,.sid (gT (b:=decide (n < (s.size:Int))) iDT) s n c1 A (fun hg=>⟨by omega,by omega⟩),.cp (gT (b:=decide (n < (s.size:Int))) iDT) 8 198 [] (fun hg G=>ultr_ct (c1.toNat:Int)),.andn g0 false (decide (n < (s.size:Int))) (decide (Un.ltr (c1.toNat:Int))) p1 B] fun G3=>?_;intro _ _;refine V.cn (b:=p1) (iN B (iAT iDT iDT)) (iN B (iAF iDF iDF)) (fun q1=>?_) (fun q2=>?_)
 ·refine vG [.u 1,.aa (n+1),.u 1] fun G4=>?_;intro _ _
  refine V.rn hZ1 (n+1) [] ?_ ?_
  ·refine ⟨by omega,by omega,?_⟩;show ∀ j,j < (n+1).toNat→Un.ltr (((bl s).getD j default).toNat:Int);intro j hj;by_cases e:j < n.toNat
   ·exact P j e
   rw [show j=n.toNat by omega,← A];exact (q1).2
  omega
 have o:Un.nl s=n.toNat:=Un.nl_at (by omega) P (by rcases q2 with h | h;exact .inl (by omega);right;rw [A] at h;exact h);refine nm (s.extract (0:Int).toNat n.toNat:ByteArray) fun t1 Q=>vG [.u 2,.ssl g0 s none (some n) 0 n rfl rfl t1 Q (fun _=>⟨by omega,by omega,by omega⟩),.u 1,.n 1,.s 1] fun G5=>?_;intro _ _
 refine nm (s.extract n.toNat (s.size:Int).toNat:ByteArray) fun t2 X=>vG [.u 2,.ssl g0 s (some n) none n (s.size:Int) rfl rfl t2 X (fun _=>⟨by omega,by omega,by omega⟩),.u 1] fun G6=>?_;intro _ _
 have d:Un.rest s=t2:=by unfold Un.rest;rw [o,X];rfl
 have Y:Un.cuW s=t1:=by unfold Un.cuW;rw [o,Q];rfl
 refine nm ((bl t2).getD (0:Int).toNat default:UInt8) fun c2 i=>nm ((!(decide (t2=ByteArray.empty))) && (decide (50≤(c2.toNat:Int))):Bool) fun p2 t=>vG [.u 1,.sne t2 ByteArray.empty,.u 2,.sid (gT (b:=!(decide (t2=ByteArray.empty))) (iNT iDF)) t2 (0:Int) c2 i (fun hg=>⟨by omega,by have:=Dm.size_ne hg;omega⟩),.u 1,.andn g0 false (!(decide (t2=ByteArray.empty))) (decide (50≤(c2.toNat:Int))) p2 t,.u 2,.sid (gT (b:=p2) (iN t (iAT (iNT iDF) iDT))) t2 (0:Int) c2 i (fun hg=>⟨by omega,by have:=Dm.size_ne hg.1;omega⟩),.u 1,.and g0 false p2 (decide ((c2.toNat:Int)≤57))] fun G7=>?_;intro _ _
 refine V.cn (b:=p2 && (decide ((c2.toNat:Int)≤57))) (iAT (iN t (iAT (iNT iDF) iDT)) iDT) (iAF (iN t (iAF (iNF iDT) iDF)) iDF) (fun q3=>?_) (fun q4=>?_)
 ·obtain ⟨⟨Z,ac⟩,hup⟩:=q3;have ah:=Dm.size_ne Z;have w:(bl t2).getD 0 default=c2:=i.symm;have f:Un.num t2:=by unfold Un.num;rw [w];exact ⟨⟨Z,ac⟩,hup⟩
  refine nm ((c2.toNat:Int)-48:Int) fun n1 ad=>nm (t2.extract (1:Int).toNat (t2.size:Int).toNat:ByteArray) fun t3 ab=>vG [.u 1,.sid g0 t2 (0:Int) c2 i (fun _=>⟨by omega,by omega⟩),.ek g0 .u8 ((c2.toNat:Int)-48) n1 (fun _=>by rw [wrapU8];omega),.arg g0 n1 n1 rfl (fun _=>by omega),.u 1,.ssl g0 t2 (some (1:Int)) none 1 (t2.size:Int) rfl rfl t3 ab (fun _=>⟨by omega,by omega,by omega⟩),.u 1,.s 1,.u 1] fun G8=>?_;intro _ _
  have C:Un.cuE s=n1:=by unfold Un.cuE;rw [d,if_pos f,w,ad]
  have D:Un.cuR s=t3:=by unfold Un.cuR;rw [d,if_pos f,ab];rfl
  refine vG [.l 1,.u 3,.s 0,.u 2] fun G9=>?_;intro _ _
  have e0:t1=Un.cuW s:=Y.symm;have e1:n1=Un.cuE s:=C.symm;have e2:t3=Un.cuR s:=D.symm;have e3:(decide (0 < n))=decide (0 < Un.nl s):=by
   refine Bool.eq_iff_iff.2 (Iff.trans iDT (Iff.trans ?_ decide_eq_true_iff.symm));rw [o];omega
  exact V.rT [0,0,0] [] [] [] [] [] (cong4 (fun (E:ByteArray) (H:Int) (I:ByteArray) (M:Bool)=>(.tuple #[.agg #[tv E,iv H],tv I,bv M]:Value)) e0 e1 e2 e3)
 have w:(bl t2).getD 0 default=c2:=i.symm;have f:¬ Un.num t2:=by unfold Un.num;rw [w];rintro ⟨⟨h1,h2⟩,h3⟩;rcases q4 with (h | h) | h;exact h1 h;exact h h2;exact h h3
 have C:Un.cuE s=1:=by unfold Un.cuE;rw [d,if_neg f]
 have D:Un.cuR s=t2:=by unfold Un.cuR;rw [d,if_neg f]
 refine vG [.l 1,.u 3,.s 0,.u 2] fun ai=>?_;intro _ _
 have e0:t1=Un.cuW s:=Y.symm;have e1:(1:Int)=Un.cuE s:=C.symm;have e2:t2=Un.cuR s:=D.symm;have e3:(decide (0 < n))=decide (0 < Un.nl s):=by
  refine Bool.eq_iff_iff.2 (Iff.trans iDT (Iff.trans ?_ decide_eq_true_iff.symm));rw [o];omega
 exact V.rT [0,0,0] [] [] [] [] [] (cong4 (fun (E:ByteArray) (H:Int) (I:ByteArray) (M:Bool)=>(.tuple #[.agg #[tv E,iv H],tv I,bv M]:Value)) e0 e1 e2 e3)
theorem ucut_ctv (s:ByteArray) (hs:s.size≤9223372036854775807) (b:ByteArray) (d:b=Un.cuW s) (f:Int) (h:f=Un.cuE s) (i:ByteArray) (j:i=Un.cuR s) :
  Cp Tryz.prog 176 #[tv s] [] (.tuple #[ag (Ditem.mk b f),tv i,bv (decide (0 < Un.nl s))]):=by
 subst d h j;exact ucut_ct s hs

theorem utimes_ct (h:Int) (e:LI) (o:SV) (m:Int) (f:LI) (p:SV) (a:Int) (c:LI) (j:SV) (i:Int) (d:LI) (k:SV) (t:Int) (Q:Fr.FrB h e m f) (P:Fr.FrB a c i d) (aj:a≠0) (he: -9≤t∧t≤9) (X:e.length≤1000000∧f.length≤1000000) (Y:c.length≤1000∧d.length≤1000) :
  Ct Tryz.prog 155 #[ag (DFrac.mk ⟨h,e,o⟩ ⟨m,f,p⟩),ag (DFrac.mk ⟨a,c,j⟩ ⟨i,d,k⟩),iv t] [fs true e o,fs true f p,fs true c j,fs true d k] [] (fun g=>ag (DFrac.mk ⟨(Fr.rS (True) (Un.tm (Fr.fq h e f) (Fr.fq a c d) t)),Fr.rD (True) (Un.tm (Fr.fq h e f) (Fr.fq a c d) t),(g.ss 0)⟩ ⟨(Fr.rT (True)),Fr.rE (True) (Un.tm (Fr.fq h e f) (Fr.fq a c d) t),(g.ss 1)⟩)) (fun g=>[fs false (Fr.rD (True) (Un.tm (Fr.fq h e f) (Fr.fq a c d) t)) (g.ss 0),fs false (Fr.rE (True) (Un.tm (Fr.fq h e f) (Fr.fq a c d) t)) (g.ss 1)]) eF eF:=by
 refine vf mo Tryz.func155 29 3 fun _=>?_
 refine vG [.n 0,.n 1,.n 2] fun G1=>?_;intro _ _
 refine vG [.u 2,.ng t (-t) rfl (by omega) (by omega),.mx t (-t),.u 1] fun G2=>?_;intro _ _
 refine V.lp (γ:=Int × Int × List Int × SV × Int × List Int × SV) (fun ⟨k0,B,w,D,C,A,E⟩=>⟨[(2,iv t),(3,pp ((G1 0).b) 0),(4,pp ((G1 1).b) 0),(6,pp ((G1 2).b) 0),(10,iv (max t (-t))),(11,iv k0)],[fs false w D,fs false A E,fs false c j,fs false d k],[.blk ((G1 0).b) (ca (DFrac.mk ⟨B,w,D⟩ ⟨C,A,E⟩)) 171,.blk ((G1 1).b) (ca (DFrac.mk ⟨a,c,j⟩ ⟨i,d,k⟩)) 171,.blk ((G1 2).b) (ca (DFrac.mk ⟨0,[],{}⟩ ⟨0,[],{}⟩)) 171]⟩) (fun ⟨k0,B,w,D,C,A,E⟩=>(0≤k0)∧(k0≤max t (-t))∧(Fr.Fz B w C A (Un.tmN (Fr.fq h e f) (Fr.fq a c d) (0 < t) k0.toNat))) (fun ⟨k0,B,w,D,C,A,E⟩=>(max t (-t)-k0).toNat) (0,h,e,o,m,f,p) [0,1,2,3] ?_ ?_
 ·refine ⟨?_,?_,?_⟩
  ·show 0≤(0:Int);omega
  ·show (0:Int)≤max t (-t);omega
  show Fr.Fz h e m f (Un.tmN (Fr.fq h e f) (Fr.fq a c d) (0 < t) (0:Int).toNat);exact Fr.FrB.z Q
 rintro ⟨k0,B,w,D,C,A,E⟩ hF1 kw3 Z1 hZ1;obtain ⟨ao,aq,H⟩:=hF1;have au:=H.len (Un.tmN_hb (Q.hb X.1 X.2) (P.hb Y.1 Y.2) _);refine vG [.u 1] fun G3=>?_;intro _ _;refine vd (k0 < max t (-t)) (fun q1=>?_) fun q2=>?_
 ·refine vG [.u 2] fun G4=>?_;intro _ _
  refine vd (0 < t) (fun q3=>?_) fun q4=>?_
  ·refine nm (Fr.rS (Fr.FrB B w C A∧Fr.FrB a c i d) ((Fr.fq B w A) * (Fr.fq a c d)):Int) fun n1 Z=>nm (Fr.rD (Fr.FrB B w C A∧Fr.FrB a c i d) ((Fr.fq B w A) * (Fr.fq a c d)):LI) fun l1 ab=>nm (Fr.rT (Fr.FrB B w C A∧Fr.FrB a c i d):Int) fun n2 ac=>nm (Fr.rE (Fr.FrB B w C A∧Fr.FrB a c i d) ((Fr.fq B w A) * (Fr.fq a c d)):LI) fun l2 ad=>nm (if ¬ (Fr.FrB B w C A∧Fr.FrB a c i d) then (1:Int) else 0:Int) fun n3 ak=>vG [.l 0,.l 1,.cA 2 182 [kA 0 w D,kA 1 A E,kA 2 c j,kA 3 d k] fun G=>fmul_ctv B w D C A E a c j i d k (by omega) (by omega) (by omega) (by omega) n1 Z l1 ab n2 ac l2 ad n3 ak,.u 3,.s 0] fun G5=>?_;intro _ _
   have I:=Fr.Fz.of ⟨H.rt,P⟩ Z ab ac ad;rw [H.v] at I;refine vG [.aa (k0+1),.u 1] fun G6=>?_;intro _ _
   refine V.rn hZ1 (k0+1,n1,l1,(G5 2).ss 0,n2,l2,(G5 2).ss 1) [4,5,2,3] ?_ ?_
   ·refine ⟨by omega,by omega,?_⟩;show Fr.Fz n1 l1 n2 l2 (Un.tmN (Fr.fq h e f) (Fr.fq a c d) (0 < t) (k0+1).toNat);rw [show (k0+1).toNat=k0.toNat+1 by omega,Un.tmN_y q3];exact I
   dsimp only;omega
  refine nm (Fr.rS ((Fr.FrB B w C A∧Fr.FrB a c i d)∧a≠0) ((Fr.fq B w A) / (Fr.fq a c d)):Int) fun n4 ae=>nm (Fr.rD ((Fr.FrB B w C A∧Fr.FrB a c i d)∧a≠0) ((Fr.fq B w A) / (Fr.fq a c d)):LI) fun l3 af=>nm (Fr.rT ((Fr.FrB B w C A∧Fr.FrB a c i d)∧a≠0):Int) fun n5 ah=>nm (Fr.rE ((Fr.FrB B w C A∧Fr.FrB a c i d)∧a≠0) ((Fr.fq B w A) / (Fr.fq a c d)):LI) fun l4 ai=>nm (if ¬ (Fr.FrB B w C A∧Fr.FrB a c i d) then (1:Int) else if a=0 then 15 else 0:Int) fun n6 al=>vG [.l 0,.l 1,.cA 2 183 [kA 0 w D,kA 1 A E,kA 2 c j,kA 3 d k] fun G=>fdiv_ctv B w D C A E a c j i d k (by omega) (by omega) (by omega) (by omega) n4 ae l3 af n5 ah l4 ai n6 al,.u 3,.s 0] fun G7=>?_;intro _ _
  have I:=Fr.Fz.of ⟨⟨H.rt,P⟩,aj⟩ ae af ah ai;rw [H.v] at I;refine vG [.aa (k0+1),.u 1] fun G8=>?_;intro _ _
  refine V.rn hZ1 (k0+1,n4,l3,(G7 2).ss 0,n5,l4,(G7 2).ss 1) [4,5,2,3] ?_ ?_
  ·refine ⟨by omega,by omega,?_⟩;show Fr.Fz n4 l3 n5 l4 (Un.tmN (Fr.fq h e f) (Fr.fq a c d) (0 < t) (k0+1).toNat);rw [show (k0+1).toNat=k0.toNat+1 by omega,Un.tmN_n q4];exact I
  dsimp only;omega
 have M:Un.tmN (Fr.fq h e f) (Fr.fq a c d) (0 < t) k0.toNat=Un.tm (Fr.fq h e f) (Fr.fq a c d) t:=by unfold Un.tm;rw [show t.natAbs=k0.toNat by omega]
 refine vG [.l 0,.s 2] fun G9=>?_;intro _ _
 have e1:w=Fr.rD (True) (Un.tm (Fr.fq h e f) (Fr.fq a c d) t):=(Fr.Fz.ret H True.intro M).2.1;subst e1;have e3:A=Fr.rE (True) (Un.tm (Fr.fq h e f) (Fr.fq a c d) t):=(Fr.Fz.ret H True.intro M).2.2.2;subst e3;have e0:B=Fr.rS (True) (Un.tm (Fr.fq h e f) (Fr.fq a c d) t):=(Fr.Fz.ret H True.intro M).1;have e2:C=Fr.rT (True):=(Fr.Fz.ret H True.intro M).2.2.1;exact V.rT [2] [D,E] [] [] [0,1] [] (cong2 (fun (am an:Int)=>(.agg #[iv am,D.v,iv an,E.v]:Value)) e0 e2)
theorem utimes_ctv (f:Int) (a:List Int) (h:SV) (i:Int) (b:List Int) (j:SV) (e:Int) (c:List Int) (k:SV) (l:Int) (d:List Int) (m:SV) (o:Int) (H:Fr.FrB f a i b) (I:Fr.FrB e c l d) (M:e≠0) (he: -9≤o∧o≤9) (P:a.length≤1000000∧b.length≤1000000) (Q:c.length≤1000∧d.length≤1000) (A:Int) (B:A=Fr.rS (True) (Un.tm (Fr.fq f a b) (Fr.fq e c d) o)) (t:List Int) (C:t=Fr.rD (True) (Un.tm (Fr.fq f a b) (Fr.fq e c d) o)) (D:Int) (E:D=Fr.rT (True)) (w:List Int) (G:w=Fr.rE (True) (Un.tm (Fr.fq f a b) (Fr.fq e c d) o)) :
  Ct Tryz.prog 155 #[ag (DFrac.mk ⟨f,a,h⟩ ⟨i,b,j⟩),ag (DFrac.mk ⟨e,c,k⟩ ⟨l,d,m⟩),iv o] [fs true a h,fs true b j,fs true c k,fs true d m] [] (fun g=>ag (DFrac.mk ⟨A,t,(g.ss 0)⟩ ⟨D,w,(g.ss 1)⟩)) (fun g=>[fs false t (g.ss 0),fs false w (g.ss 1)]) (fun g=>[]) (fun g=>[]):=by
 subst B C E G;exact utimes_ct f a h i b j e c k l d m o H I M he P Q
theorem hasp_ct (s d:BA) :
  Cp Tryz.prog 212 #[tv s,tv d] [] (bv (decide (Dm.cpB s d))):=by
 refine vf mo Tryz.func212 18 0 fun _=>?_
 refine vG [.kb false] fun G1=>?_;intro _ _
 refine nm (s.extract (0:Int).toNat (d.size:Int).toNat:ByteArray) fun t1 f=>nm ((decide ((d.size:Int)≤(s.size:Int))) && (decide (t1=d)):Bool) fun p1 h=>vG [.u 9,.ssl (gT (b:=decide ((d.size:Int)≤(s.size:Int))) iDT) s none (some (d.size:Int)) 0 (d.size:Int) rfl rfl t1 f (fun hg=>⟨by omega,by omega,by omega⟩),.u 1,.seq t1 d,.andn g0 false (decide ((d.size:Int)≤(s.size:Int))) (decide (t1=d)) p1 h,.u 1] fun G2=>?_;intro _ _
 have e0:p1=decide (Dm.cpB s d):=by
  refine Bool.eq_iff_iff.2 (Iff.trans (iN h (iAT iDT iDT)) (Iff.trans ?_ decide_eq_true_iff.symm));rw [f];exact Iff.rfl
 exact vb 0 [] e0
theorem slcut_ct (s b:BA) :
  Cp Tryz.prog 197 #[tv s,tv b] [] (.tuple #[tv (Dm.cpR s b),bv (decide (Dm.cpB s b))]):=by
 refine vf mo Tryz.func197 15 0 fun _=>?_
 refine vG [.u 1,.kb false] fun G1=>?_;intro _ _
 refine vG [.u 2,.cP 2 212 [] fun G=>hasp_ct s b,.u 1] fun G2=>?_;intro _ _
 refine vn (Dm.cpB s b) (fun q1=>?_) fun q2=>?_
 ·refine vG [.u 2,.kb false] fun G3=>?_;intro _ _
  have e0:s=Dm.cpR s b:=(if_neg q1).symm;have e1:false=decide (Dm.cpB s b):=(decide_eq_false q1).symm;exact V.rT [0,0] [] [] [] [] [] (cong2 (fun (d:ByteArray) (f:Bool)=>(.tuple #[tv d,bv f]:Value)) e0 e1)
 have hB:Dm.cpB s b:=by first | exact q2 | exact Decidable.not_not.1 q2
 have i:=hB.1;refine nm (s.extract (b.size:Int).toNat (s.size:Int).toNat:ByteArray) fun t1 h=>vG [.u 3,.ssl g0 s (some (b.size:Int)) none (b.size:Int) (s.size:Int) rfl rfl t1 h (fun _=>⟨by omega,by omega,by omega⟩),.u 1,.kb true] fun G4=>?_;intro _ _
 have e0:t1=Dm.cpR s b:=by unfold Dm.cpR;rw [if_pos hB,h];rfl
 have e1:true=decide (Dm.cpB s b):=(decide_eq_true hB).symm;exact V.rT [0,0] [] [] [] [] [] (cong2 (fun (d:ByteArray) (f:Bool)=>(.tuple #[tv d,bv f]:Value)) e0 e1)
theorem slcut_ctv (s b d:ByteArray) (f:d=Dm.cpR s b) :
  Cp Tryz.prog 197 #[tv s,tv b] [] (.tuple #[tv d,bv (decide (Dm.cpB s b))]):=by
 subst f;exact slcut_ct s b 
theorem cutp_ct (s b:BA) :
  Cp Tryz.prog 175 #[tv s,tv b] [] (.tuple #[tv (Dm.cpR s b),bv (decide (Dm.cpB s b))]):=by
 refine vf mo Tryz.func175 11 0 fun _=>?_
 refine vG [.u 1,.kb false] fun G1=>?_;intro _ _
 refine nm (Dm.cpR s b:ByteArray) fun t1 d=>vG [.u 2,.cP 2 197 [] fun G=>slcut_ctv s b t1 d,.u 4] fun G2=>?_;intro _ _
 have e0:t1=Dm.cpR s b:=d;exact V.rT [0,0] [] [] [] [] [] (cong1 (fun (f:ByteArray)=>(.tuple #[tv f,bv (decide (Dm.cpB s b))]:Value)) e0)
theorem cutp_ctv (s b d:ByteArray) (f:d=Dm.cpR s b) :
  Cp Tryz.prog 175 #[tv s,tv b] [] (.tuple #[tv d,bv (decide (Dm.cpB s b))]):=by
 subst f;exact cutp_ct s b 
theorem uitems_ct (s:BA) (hs:s.size≤9223372036854775807) :
  Ct Tryz.prog 152 #[tv s] [] [] (fun g=>.tuple #[((g.ss 0)).v,bv ((Un.items s).isSome)]) (fun g=>[fs true ((Un.items s).getD []) (g.ss 0)]) eF eF:=by
 refine vf mo Tryz.func152 58 2 fun _=>?_
 refine vG [.u 1,.kb false] fun G1=>?_;intro _ _
 refine vG [.u 1] fun G2=>?_;intro _ _
 refine vG [.u 1,.seq s ByteArray.empty] fun G3=>?_;intro _ _
 refine vd (s=ByteArray.empty) (fun q1=>?_) fun q2=>?_
 ·refine vG [.u 1,.kb true] fun G4=>?_;intro _ _
  refine V.nilF (α:=Ditem) ?_;have e0:([]:List Ditem)=(Un.items s).getD []:=by rw [Un.items_nil q1];rfl
  rw [←e0];have e1:true=(Un.items s).isSome:=by rw [Un.items_nil q1];rfl
  exact V.rT [0,0] [] [] [] [0] [] (cong1 (fun (t:Bool)=>(.tuple #[SV.v ({}),bv t]:Value)) e1)
 have Q:¬ s=ByteArray.empty:=q2;refine vG [.u 3] fun G5=>?_;intro _ _
 refine vd (40 < (s.size:Int)) (fun q3=>?_) fun q4=>?_
 ·refine vG [.u 1,.kb false] fun G6=>?_;intro _ _
  refine V.nilF (α:=Ditem) ?_;have e0:([]:List Ditem)=(Un.items s).getD []:=by rw [Un.items_far Q (by omega)];rfl
  rw [←e0];have e1:false=(Un.items s).isSome:=by rw [Un.items_far Q (by omega)];rfl
  exact V.rT [0,0] [] [] [] [0] [] (cong1 (fun (t:Bool)=>(.tuple #[SV.v ({}),bv t]:Value)) e1)
 refine nm (Dm.cpR s ⟨#[49]⟩:ByteArray) fun t1 ad=>vG [.u 1,.cP 1 175 [] fun G=>cutp_ctv s ⟨#[49]⟩ t1 ad,.u 5] fun G7=>?_;intro _ _
 refine vG [.u 2] fun G8=>?_;intro _ _
 refine vn (Dm.cpB s ⟨#[49]⟩) (fun q5=>?_) fun q6=>?_
 ·have aU:(⟨#[42]⟩:ByteArray).size=1:=rfl;refine nm ((⟨#[42]⟩:ByteArray) ++s:ByteArray) fun t2 X=>?_;have aQ:t2.size=(⟨#[42]⟩:ByteArray).size+s.size:=by rw [X,ByteArray.size_append]
  refine vG [.u 1,.sad g0 ⟨#[42]⟩ s t2 X (fun _=>by omega),.u 1] fun G9=>?_;intro _ _
  refine V.on (α:=Ditem) 1 209 (by kernel_rfl) ?_;refine V.lp (γ:=List Ditem × SV × ByteArray) (fun ⟨o,j,rest⟩=>⟨[(4,j.v),(5,tv rest)],[],[.no,os true 209 o j]⟩) (fun ⟨o,j,rest⟩=>(Un.itA o rest=Un.items s)∧(rest.size+o.length≤41)) (fun ⟨o,j,rest⟩=>rest.size) (([]:List Ditem),{},t2) [] ?_ ?_
  ·refine ⟨?_,?_⟩
   ·show Un.itA ([]:List Ditem) t2=Un.items s;exact ((Un.items_is Q (by omega)).trans (congrArg (Un.itA []) (by unfold Un.start;rw [X];first | exact if_neg q5 | exact if_pos q5))).symm
   show t2.size+([]:List Ditem).length≤41;show _+0≤41;first | (have:=Dm.cpR_size (s:=s) (p:=⟨#[49]⟩);rw [←X] at this;omega) | omega
  rintro ⟨o,j,rest⟩ hF1 kw10 Z1 hZ1;obtain ⟨Y,aV⟩:=hF1;refine vG [.u 1,.sne rest ByteArray.empty] fun aW=>?_;intro _ _;refine vn (rest=ByteArray.empty) (fun q7=>?_) fun q8=>?_
  ·have w:¬ rest=ByteArray.empty:=q7;have aD:=Dm.size_ne w;refine nm ((bl rest).getD (0:Int).toNat default:UInt8) fun c1 au=>vG [.u 1,.sid g0 rest (0:Int) c1 au (fun _=>⟨by omega,by omega⟩),.u 1] fun aX=>?_;intro _ _
   have C:(bl rest).getD 0 default=c1:=au.symm;refine nm (rest.extract (1:Int).toNat (rest.size:Int).toNat:ByteArray) fun t3 H=>?_;have aS:t3.size=min (rest.size:Int).toNat rest.size-(1:Int).toNat:=by rw [H,ByteArray.size_extract]
   refine nm (Un.cuW t3:ByteArray) fun t4 ae=>nm (Un.cuE t3:Int) fun n1 Z=>nm (Un.cuR t3:ByteArray) fun t5 D=>vG [.u 1,.ssl g0 rest (some (1:Int)) none 1 (rest.size:Int) rfl rfl t3 H (fun _=>⟨by omega,by omega,by omega⟩),.cP 2 176 [] fun G=>ucut_ctv t3 (by omega) t4 ae n1 Z t5 D,.u 4,.n 0,.s 0,.u 2] fun aY=>?_;intro _ _
   have af:rest.extract 1 rest.size=t3:=H.symm;have I:Un.good rest=(0 < Un.nl t3∧((c1.toNat:Int)=42∨(c1.toNat:Int)=47)):=by unfold Un.good;rw [af,C]
   have ah:=Un.cuR_size t3;have av:=Un.cuR_size t3;have ai:=Un.cuE_rg t3;rw [←D] at ah;rw [←Z] at ai;refine nm ((!(decide ((c1.toNat:Int)=42))) && (!(decide ((c1.toNat:Int)=47))):Bool) fun p1 aj=>vG [.u 8,.andn (gF (b:=!(decide (0 < Un.nl t3))) (iNF iDT)) false (!(decide ((c1.toNat:Int)=42))) (!(decide ((c1.toNat:Int)=47))) p1 aj,.or g0 false (!(decide (0 < Un.nl t3))) p1] fun aZ=>?_;intro _ _
   refine V.cn (b:=(!(decide (0 < Un.nl t3))) || p1) (iOT (iNT iDF) (iN aj (iAT (iNT iDF) (iNT iDF)))) (iOF (iNF iDT) (iN aj (iAF (iNF iDT) (iNF iDT)))) (fun q9=>?_) (fun aw=>?_)
   ·have A:Un.items s=none:=by rw [←Y];exact Un.itA_bad w (by rw [I];rintro ⟨h1,h2⟩;rcases q9 with h | ⟨h3,h4⟩;exact h h1;rcases h2 with h2 | h2;exact h3 h2;exact h4 h2)
    refine vG [.u 1,.kb false] fun a0=>?_;intro _ _
    refine V.nilF (α:=Ditem) ?_;have e0:([]:List Ditem)=(Un.items s).getD []:=by rw [A];rfl
    rw [←e0];have e1:false=(Un.items s).isSome:=by rw [A];rfl
    exact V.rT [0,0] [] [] [] [0] [] (cong1 (fun (t:Bool)=>(.tuple #[SV.v ({}),bv t]:Value)) e1)
   have M:Un.good rest:=by rw [I];exact aw
   have aE:=(aw).1;refine vG [.u 2] fun a1=>?_;intro _ _
   refine vd ((c1.toNat:Int)=47) (fun aF=>?_) fun aG=>?_
   ·have hx:Ditem.mk t4 (-n1)=Un.itm ((bl rest).getD 0 default) t3:=by rw [C];unfold Un.itm;rw [if_pos aF,ae,Z]
    refine vG [.u 1,.l 0,.ng n1 (-n1) rfl (by omega) (by omega),.u 1,.s 0] fun a2=>?_;intro _ _
    refine nm (o ++([Ditem.mk t4 (-n1)]:List Ditem):List Ditem) fun l1 ak=>?_;have ax:=congrArg List.length ak;try simp at ax
    refine vG [.u 1,.l 0,.nr 2 true 209 ([Ditem.mk t4 (-n1)]:List Ditem) [] (fun _ _ _ _ _=>trivial) (fun _=>#[tv t4,iv (-n1)]),.ap 3 1 209 24 false true o (fun _=>j) (kf true (.g 2 0) ([Ditem.mk t4 (-n1)]:List Ditem) (fun G=>⟨atB (G 2).b,1,1⟩)) true l1 ak (by first | omega | (simp;omega) | simp) (fun h=>by cases h) (.inr fun _ _=>trivial),.u 3] fun aH=>?_;intro _ _
    refine V.rn hZ1 (l1,(aH 3).s,t5) [] ?_ ?_
    ·refine ⟨?_,by omega⟩;show Un.itA l1 t5=Un.items s;rw [ak,D];exact (Un.itA_step w M H hx).trans Y
    show t5.size < rest.size;rw [D];omega
   have hx:Ditem.mk t4 (n1)=Un.itm ((bl rest).getD 0 default) t3:=by rw [C];unfold Un.itm;rw [if_neg aG,ae,Z]
   refine nm (o ++([Ditem.mk t4 n1]:List Ditem):List Ditem) fun l2 al=>?_;have ay:=congrArg List.length al;try simp at ay
   refine vG [.u 1,.l 0,.nr 2 true 209 ([Ditem.mk t4 n1]:List Ditem) [] (fun _ _ _ _ _=>trivial) (fun _=>#[tv t4,iv n1]),.ap 3 1 209 24 false true o (fun _=>j) (kf true (.g 2 0) ([Ditem.mk t4 n1]:List Ditem) (fun G=>⟨atB (G 2).b,1,1⟩)) true l2 al (by first | omega | (simp;omega) | simp) (fun h=>by cases h) (.inr fun _ _=>trivial),.u 3] fun aI=>?_;intro _ _
   refine V.rn hZ1 (l2,(aI 3).s,t5) [] ?_ ?_
   ·refine ⟨?_,by omega⟩;show Un.itA l2 t5=Un.items s;rw [al,D];exact (Un.itA_step w M H hx).trans Y
   show t5.size < rest.size;rw [D];omega
  have B:=Y.symm.trans (Un.itA_end q8);refine vG [.u 2,.kb true] fun a3=>?_;intro _ _
  refine V.frz 1 true 209 o j (by kernel_rfl) ?_;have e0:o=(Un.items s).getD []:=by rw [B];rfl
  subst e0;have e1:true=(Un.items s).isSome:=by rw [B];rfl
  exact V.rT [0,0] [j] [] [] [0] [] (cong1 (fun (t:Bool)=>(.tuple #[j.v,bv t]:Value)) e1)
 refine V.on (α:=Ditem) 1 209 (by kernel_rfl) ?_;refine V.lp (γ:=List Ditem × SV × ByteArray) (fun ⟨i,f,d⟩=>⟨[(4,f.v),(5,tv d)],[],[.no,os true 209 i f]⟩) (fun ⟨i,f,d⟩=>(Un.itA i d=Un.items s)∧(d.size+i.length≤41)) (fun ⟨i,f,d⟩=>d.size) (([]:List Ditem),{},t1) [] ?_ ?_
 ·refine ⟨?_,?_⟩
  ·show Un.itA ([]:List Ditem) t1=Un.items s;exact ((Un.items_is Q (by omega)).trans (congrArg (Un.itA []) (by unfold Un.start;rw [ad];first | exact if_neg q6 | exact if_pos q6))).symm
  show t1.size+([]:List Ditem).length≤41;show _+0≤41;first | (have:=Dm.cpR_size (s:=s) (p:=⟨#[49]⟩);rw [←ad] at this;omega) | omega
 rintro ⟨i,f,d⟩ hF2 kw21 Z2 hZ2;obtain ⟨ab,a4⟩:=hF2;refine vG [.u 1,.sne d ByteArray.empty] fun a5=>?_;intro _ _;refine vn (d=ByteArray.empty) (fun aJ=>?_) fun aK=>?_
 ·have w:¬ d=ByteArray.empty:=aJ;have aD:=Dm.size_ne w;refine nm ((bl d).getD (0:Int).toNat default:UInt8) fun c2 az=>vG [.u 1,.sid g0 d (0:Int) c2 az (fun _=>⟨by omega,by omega⟩),.u 1] fun a6=>?_;intro _ _
  have C:(bl d).getD 0 default=c2:=az.symm;refine nm (d.extract (1:Int).toNat (d.size:Int).toNat:ByteArray) fun t6 P=>?_;have aT:t6.size=min (d.size:Int).toNat d.size-(1:Int).toNat:=by rw [P,ByteArray.size_extract]
  refine nm (Un.cuW t6:ByteArray) fun t7 am=>nm (Un.cuE t6:Int) fun n2 ac=>nm (Un.cuR t6:ByteArray) fun t8 E=>vG [.u 1,.ssl g0 d (some (1:Int)) none 1 (d.size:Int) rfl rfl t6 P (fun _=>⟨by omega,by omega,by omega⟩),.cP 2 176 [] fun G=>ucut_ctv t6 (by omega) t7 am n2 ac t8 E,.u 4,.n 0,.s 0,.u 2] fun a7=>?_;intro _ _
  have af:d.extract 1 d.size=t6:=P.symm;have I:Un.good d=(0 < Un.nl t6∧((c2.toNat:Int)=42∨(c2.toNat:Int)=47)):=by unfold Un.good;rw [af,C]
  have ah:=Un.cuR_size t6;have av:=Un.cuR_size t6;have ai:=Un.cuE_rg t6;rw [←E] at ah;rw [←ac] at ai;refine nm ((!(decide ((c2.toNat:Int)=42))) && (!(decide ((c2.toNat:Int)=47))):Bool) fun p2 an=>vG [.u 8,.andn (gF (b:=!(decide (0 < Un.nl t6))) (iNF iDT)) false (!(decide ((c2.toNat:Int)=42))) (!(decide ((c2.toNat:Int)=47))) p2 an,.or g0 false (!(decide (0 < Un.nl t6))) p2] fun a8=>?_;intro _ _
  refine V.cn (b:=(!(decide (0 < Un.nl t6))) || p2) (iOT (iNT iDF) (iN an (iAT (iNT iDF) (iNT iDF)))) (iOF (iNF iDT) (iN an (iAF (iNF iDT) (iNF iDT)))) (fun aL=>?_) (fun aA=>?_)
  ·have A:Un.items s=none:=by rw [←ab];exact Un.itA_bad w (by rw [I];rintro ⟨h1,h2⟩;rcases aL with h | ⟨h3,h4⟩;exact h h1;rcases h2 with h2 | h2;exact h3 h2;exact h4 h2)
   refine vG [.u 1,.kb false] fun a9=>?_;intro _ _
   refine V.nilF (α:=Ditem) ?_;have e0:([]:List Ditem)=(Un.items s).getD []:=by rw [A];rfl
   rw [←e0];have e1:false=(Un.items s).isSome:=by rw [A];rfl
   exact V.rT [0,0] [] [] [] [0] [] (cong1 (fun (t:Bool)=>(.tuple #[SV.v ({}),bv t]:Value)) e1)
  have M:Un.good d:=by rw [I];exact aA
  have aE:=(aA).1;refine vG [.u 2] fun ba=>?_;intro _ _
  refine vd ((c2.toNat:Int)=47) (fun aM=>?_) fun aN=>?_
  ·have hx:Ditem.mk t7 (-n2)=Un.itm ((bl d).getD 0 default) t6:=by rw [C];unfold Un.itm;rw [if_pos aM,am,ac]
   refine vG [.u 1,.l 0,.ng n2 (-n2) rfl (by omega) (by omega),.u 1,.s 0] fun bb=>?_;intro _ _
   refine nm (i ++([Ditem.mk t7 (-n2)]:List Ditem):List Ditem) fun l3 ao=>?_;have aB:=congrArg List.length ao;try simp at aB
   refine vG [.u 1,.l 0,.nr 2 true 209 ([Ditem.mk t7 (-n2)]:List Ditem) [] (fun _ _ _ _ _=>trivial) (fun _=>#[tv t7,iv (-n2)]),.ap 3 1 209 24 false true i (fun _=>f) (kf true (.g 2 0) ([Ditem.mk t7 (-n2)]:List Ditem) (fun G=>⟨atB (G 2).b,1,1⟩)) true l3 ao (by first | omega | (simp;omega) | simp) (fun h=>by cases h) (.inr fun _ _=>trivial),.u 3] fun aO=>?_;intro _ _
   refine V.rn hZ2 (l3,(aO 3).s,t8) [] ?_ ?_
   ·refine ⟨?_,by omega⟩;show Un.itA l3 t8=Un.items s;rw [ao,E];exact (Un.itA_step w M P hx).trans ab
   show t8.size < d.size;rw [E];omega
  have hx:Ditem.mk t7 (n2)=Un.itm ((bl d).getD 0 default) t6:=by rw [C];unfold Un.itm;rw [if_neg aN,am,ac]
  refine nm (i ++([Ditem.mk t7 n2]:List Ditem):List Ditem) fun l4 aq=>?_;have aC:=congrArg List.length aq;try simp at aC
  refine vG [.u 1,.l 0,.nr 2 true 209 ([Ditem.mk t7 n2]:List Ditem) [] (fun _ _ _ _ _=>trivial) (fun _=>#[tv t7,iv n2]),.ap 3 1 209 24 false true i (fun _=>f) (kf true (.g 2 0) ([Ditem.mk t7 n2]:List Ditem) (fun G=>⟨atB (G 2).b,1,1⟩)) true l4 aq (by first | omega | (simp;omega) | simp) (fun h=>by cases h) (.inr fun _ _=>trivial),.u 3] fun aP=>?_;intro _ _
  refine V.rn hZ2 (l4,(aP 3).s,t8) [] ?_ ?_
  ·refine ⟨?_,by omega⟩;show Un.itA l4 t8=Un.items s;rw [aq,E];exact (Un.itA_step w M P hx).trans ab
  show t8.size < d.size;rw [E];omega
 have B:=ab.symm.trans (Un.itA_end aK);refine vG [.u 2,.kb true] fun bc=>?_;intro _ _
 refine V.frz 1 true 209 i f (by kernel_rfl) ?_;have e0:i=(Un.items s).getD []:=by rw [B];rfl
 subst e0;have e1:true=(Un.items s).isSome:=by rw [B];rfl
 exact V.rT [0,0] [f] [] [] [0] [] (cong1 (fun (t:Bool)=>(.tuple #[f.v,bv t]:Value)) e1)
theorem uitems_ctv (s:ByteArray) (hs:s.size≤9223372036854775807) (b:List Ditem) (d:b=(Un.items s).getD []) :
  Ct Tryz.prog 152 #[tv s] [] [] (fun g=>.tuple #[((g.ss 0)).v,bv ((Un.items s).isSome)]) (fun g=>[fs true b (g.ss 0)]) (fun g=>[]) (fun g=>[]):=by
 subst d;exact uitems_ct s hs

set_option maxHeartbeats 4000000 in
theorem uread_ct (s:BA) (hs:s.size≤9223372036854775807) :
  Ct Tryz.prog 123 #[tv s] [] [] (fun g=>.tuple #[.agg #[iv (Un.dv ((Un.read s).1) 0),iv (Un.dv ((Un.read s).1) 1),iv (Un.dv ((Un.read s).1) 2),iv (Un.dv ((Un.read s).1) 3),iv (Un.dv ((Un.read s).1) 4),iv (Un.dv ((Un.read s).1) 5),iv (Fr.rS (((Un.read s).1).isSome=true) (Un.fv ((Un.read s).1))),((g.ss 0)).v,iv (Fr.rT (((Un.read s).1).isSome=true)),((g.ss 1)).v],iv ((Un.read s).2)]) (fun g=>[fs true (Fr.rD (((Un.read s).1).isSome=true) (Un.fv ((Un.read s).1))) (g.ss 0),fs true (Fr.rE (((Un.read s).1).isSome=true) (Un.fv ((Un.read s).1))) (g.ss 1)]) eF eF:=by
 refine vf mo Tryz.func123 71 4 fun _=>?_
 refine vG [.nb 0 0 (fun b=>pp b 0) 173 (fun _=>#[iv 0,iv 0,iv 0,iv 0,iv 0,iv 0,iv 0,.slice none 0 0,iv 0,.slice none 0 0]),.k (iv 0)] fun G1=>?_;intro _ _
 refine nm ((Un.items s).getD []:List Ditem) fun l1 aG=>vG [.k (tv s),.cA 1 152 [] fun G=>uitems_ctv s (by omega) l1 aG,.v fun G=>.tuple #[((G 1).ss 0).v,bv ((Un.items s).isSome)],.v fun G=>((G 1).ss 0).v,.k (bv ((Un.items s).isSome)),.v fun G=>((G 1).ss 0).v,.k (bv ((Un.items s).isSome))] fun G2=>?_;intro _ _
 refine vG [.k (bv ((Un.items s).isSome)),.k (bv (!((Un.items s).isSome)))] fun G3=>?_;intro _ _
 refine V.cn (b:=!((Un.items s).isSome)) (iNT Iff.rfl) (iNF Iff.rfl) (fun q1=>?_) (fun q2=>?_)
 ·have D:=Un.read_syn (s:=s) (by simpa using q1);refine vG [.k (.agg #[iv 0,iv 0,iv 0,iv 0,iv 0,iv 0,iv 0,.slice none 0 0,iv 0,.slice none 0 0]),.st 0 (fun _=>.blk ((G1 0).b) #[iv 0,iv 0,iv 0,iv 0,iv 0,iv 0,iv 0,.slice none 0 0,iv 0,.slice none 0 0] 173),.k (iv 12)] fun G4=>?_;intro _ _
  refine V.nilF (α:=Int) ?_;refine V.nilF (α:=Int) ?_;have e7:([]:LI)=Fr.rD (((Un.read s).1).isSome=true) (Un.fv ((Un.read s).1)):=(Fr.Fz.no (Un.is_n (by rw [D])) (Un.fv (Un.read s).1)).2.1;rw [←e7];have e9:([]:LI)=Fr.rE (((Un.read s).1).isSome=true) (Un.fv ((Un.read s).1)):=(Fr.Fz.no (Un.is_n (by rw [D])) (Un.fv (Un.read s).1)).2.2.2;rw [←e9];have e0:(0:Int)=Un.dv ((Un.read s).1) 0:=(Un.dv_n (by rw [D]) 0).symm;have e1:(0:Int)=Un.dv ((Un.read s).1) 1:=(Un.dv_n (by rw [D]) 1).symm;have e2:(0:Int)=Un.dv ((Un.read s).1) 2:=(Un.dv_n (by rw [D]) 2).symm;have e3:(0:Int)=Un.dv ((Un.read s).1) 3:=(Un.dv_n (by rw [D]) 3).symm;have e4:(0:Int)=Un.dv ((Un.read s).1) 4:=(Un.dv_n (by rw [D]) 4).symm;have e5:(0:Int)=Un.dv ((Un.read s).1) 5:=(Un.dv_n (by rw [D]) 5).symm;have e6:(0:Int)=Fr.rS (((Un.read s).1).isSome=true) (Un.fv ((Un.read s).1)):=(Fr.Fz.no (Un.is_n (by rw [D])) (Un.fv (Un.read s).1)).1;have e8:(0:Int)=Fr.rT (((Un.read s).1).isSome=true):=(Fr.Fz.no (Un.is_n (by rw [D])) (Un.fv (Un.read s).1)).2.2.1;have ak:(12:Int)=(Un.read s).2:=by rw [D]
  exact V.rT [0,0] [] [] [] [1,2] [] (cong9 (fun (al am an ao aq au av aw X:Int)=>(.tuple #[.agg #[iv al,iv am,iv an,iv ao,iv aq,iv au,iv av,SV.v ({}),iv aw,SV.v ({})],iv X]:Value)) e0 e1 e2 e3 e4 e5 e6 e8 ak)
 have aJ:(Un.items s).isSome=true:=by first | exact q2 | simpa using q2
 have ba:Un.items s=some l1:=by rw [aG];exact Un.its aJ
 have bb:=Un.items_ok ba;refine nm (Bg.sgn (1:Int):Int) fun n1 aQ=>nm (Bg.dig (1:Int).natAbs:LI) fun l2 aS=>nm (Bg.dig 1:LI) fun l3 aT=>vG [.cA 0 153 [] fun G=>fint_ctv (1:Int) (by omega) n1 aQ l2 aS l3 aT,.v fun G=>.agg #[iv 0,iv 0,iv 0,iv 0,iv 0,iv 0,iv n1,((G 0).ss 0).v,iv 1,((G 0).ss 1).v],.nb 2 1 (fun b=>pp b 0) 173 (fun _=>#[iv 0,iv 0,iv 0,iv 0,iv 0,iv 0,iv 0,.slice none 0 0,iv 0,.slice none 0 0]),.st 1 (fun G=>.blk ((G 2).b) #[iv 0,iv 0,iv 0,iv 0,iv 0,iv 0,iv n1,((G 0).ss 0).v,iv 1,((G 0).ss 1).v] 173)] fun G5=>?_;intro _ _
 refine vG [.k (((G2 1).ss 0).v),.ln (kG 0 l1 ((G2 1).ss 0)),.k (iv 0)] fun G6=>?_;intro _ _
 refine V.lp (γ:=Int × Int × Int × Int × Int × Int × Int × Int × List Int × SV × Int × List Int × SV) (fun ⟨k0,d,f,h,i,j,o,C,E,A,H,I,B⟩=>⟨[(2,pp ((G1 0).b) 0),(6,pp ((G5 2).b) 0),(23,((G2 1).ss 0).v),(24,iv (l1.length:Int)),(25,iv k0)],[fs true l1 ((G2 1).ss 0),fs true E A,fs true I B],[.blk ((G1 0).b) #[iv 0,iv 0,iv 0,iv 0,iv 0,iv 0,iv 0,.slice none 0 0,iv 0,.slice none 0 0] 173,.blk ((G5 2).b) #[iv d,iv f,iv h,iv i,iv j,iv o,iv C,A.v,iv H,B.v] 173,.no,.no]⟩) (fun ⟨k0,d,f,h,i,j,o,C,E,A,H,I,B⟩=>(0≤k0)∧(k0≤(l1.length:Int))∧(Un.acc (l1.drop k0.toNat) ([d,f,h,i,j,o],(Fr.fq C E I))=Un.acc l1 ([0,0,0,0,0,0],1))∧(Fr.FrB C E H I)∧(Un.R27 k0 d)∧(Un.R27 k0 f)∧(Un.R27 k0 h)∧(Un.R27 k0 i)∧(Un.R27 k0 j)∧(Un.R27 k0 o)∧(E.length≤1+36 * k0.toNat∧I.length≤1+36 * k0.toNat)) (fun ⟨k0,d,f,h,i,j,o,C,E,A,H,I,B⟩=>((l1.length:Int)-k0).toNat) (0,0,0,0,0,0,0,n1,l2,(G5 0).ss 0,1,l3,(G5 0).ss 1) [0,1,2] ?_ ?_
 ·refine ⟨by omega,by omega,?_,?_,?_,?_,?_,?_,?_,?_,?_⟩
  ·show Un.acc (l1.drop (0:Int).toNat) ([(0:Int),(0:Int),(0:Int),(0:Int),(0:Int),(0:Int)],(Fr.fq n1 l2 l3))=Un.acc l1 ([0,0,0,0,0,0],1);rw [aQ,aS,aT];show Un.acc l1 ([0,0,0,0,0,0],Fr.fq (Bg.sgn (1:Rat).num) (Bg.dig (1:Rat).num.natAbs) (Bg.dig (1:Rat).den))=_;rw [Fr.fq_of]
  ·show Fr.FrB n1 l2 (1:Int) l3;rw [aQ,aS,aT];exact Fr.FrB.of 1
  ·show Un.R27 (0:Int) (0:Int);exact Un.R27.zero
  ·show Un.R27 (0:Int) (0:Int);exact Un.R27.zero
  ·show Un.R27 (0:Int) (0:Int);exact Un.R27.zero
  ·show Un.R27 (0:Int) (0:Int);exact Un.R27.zero
  ·show Un.R27 (0:Int) (0:Int);exact Un.R27.zero
  ·show Un.R27 (0:Int) (0:Int);exact Un.R27.zero
  show l2.length≤1+36 * (0:Int).toNat∧l3.length≤1+36 * (0:Int).toNat
  subst_vars;exact ⟨Bg.dig_lt (k:=1) (by decide),Bg.dig_lt (k:=1) (by decide)⟩
 rintro ⟨k0,d,f,h,i,j,o,C,E,A,H,I,B⟩ hF1 kw7 Z1 hZ1;obtain ⟨bg,bh,aU,aE,aV,aW,aX,aY,aZ,aH,aM⟩:=hF1;refine vG [.k (bv (decide (k0 < (l1.length:Int))))] fun G7=>?_;intro _ _;refine vd (k0 < (l1.length:Int)) (fun q3=>?_) fun q4=>?_
 ·refine nm (l1.getD k0.toNat default:Ditem) fun x1 aK=>vG [.iX (kG 0 l1 ((G2 1).ss 0)) k0,.lE (kG 0 l1 ((G2 1).ss 0)) k0 false x1 aK true,.nb 2 2 (fun b=>pp b 0) 209 (fun _=>ca (Ditem.mk ByteArray.empty 0)),.st 2 (fun G=>.blk ((G 2).b) (ca x1) 209)] fun G8=>?_;intro _ _
  have bc:=getD_mem (l:=l1) (k:=k0.toNat) (by omega) aK;have a0:=bb.2 _ bc;have bf:=a0.1;have t:=a0.2.1;have w:=a0.2.2;refine nm (Un.dv (Un.word x1.word) 0:Int) fun n2 ax=>nm (Un.dv (Un.word x1.word) 1:Int) fun n3 ay=>nm (Un.dv (Un.word x1.word) 2:Int) fun n4 az=>nm (Un.dv (Un.word x1.word) 3:Int) fun n5 aA=>nm (Un.dv (Un.word x1.word) 4:Int) fun n6 aB=>nm (Un.dv (Un.word x1.word) 5:Int) fun n7 aC=>nm (Fr.rS ((Un.word x1.word).isSome=true) (Un.fv (Un.word x1.word)):Int) fun n8 a3=>nm (Fr.rD ((Un.word x1.word).isSome=true) (Un.fv (Un.word x1.word)):LI) fun l4 a4=>nm (Fr.rT ((Un.word x1.word).isSome=true):Int) fun n9 a5=>nm (Fr.rE ((Un.word x1.word).isSome=true) (Un.fv (Un.word x1.word)):LI) fun l5 a6=>vG [.k (pp ((G8 2).b) 0),.ld 2 0 false (fun _=>[tv x1.word]),.cA 2 154 [] fun G=>uword_ctv x1.word (by omega) n2 ax n3 ay n4 az n5 aA n6 aB n7 aC n8 a3 l4 a4 n9 a5 l5 a6,.v fun G=>.tuple #[.agg #[iv n2,iv n3,iv n4,iv n5,iv n6,iv n7,iv n8,((G 2).ss 0).v,iv n9,((G 2).ss 1).v],bv ((Un.word x1.word).isSome)],.v fun G=>.agg #[iv n2,iv n3,iv n4,iv n5,iv n6,iv n7,iv n8,((G 2).ss 0).v,iv n9,((G 2).ss 1).v],.k (bv ((Un.word x1.word).isSome)),.nb 6 3 (fun b=>pp b 0) 173 (fun _=>#[iv 0,iv 0,iv 0,iv 0,iv 0,iv 0,iv 0,.slice none 0 0,iv 0,.slice none 0 0]),.st 3 (fun G=>.blk ((G 6).b) #[iv n2,iv n3,iv n4,iv n5,iv n6,iv n7,iv n8,((G 2).ss 0).v,iv n9,((G 2).ss 1).v] 173),.k (bv ((Un.word x1.word).isSome))] fun G9=>?_;intro _ _
  have M:0≤k0∧k0≤41:=⟨by omega,by omega⟩;refine vG [.k (bv ((Un.word x1.word).isSome)),.k (bv (!((Un.word x1.word).isSome)))] fun bi=>?_;intro _ _
  refine V.cn (b:=!((Un.word x1.word).isSome)) (iNT Iff.rfl) (iNF Iff.rfl) (fun q5=>?_) (fun q6=>?_)
  ·have D:=Un.read_nam aJ (by rw [←aG,← aU,Un.acc_drop (by omega),← aK,if_neg (by simpa using q5)]);refine vG [.k (.agg #[iv 0,iv 0,iv 0,iv 0,iv 0,iv 0,iv 0,.slice none 0 0,iv 0,.slice none 0 0]),.st 0 (fun _=>.blk ((G1 0).b) #[iv 0,iv 0,iv 0,iv 0,iv 0,iv 0,iv 0,.slice none 0 0,iv 0,.slice none 0 0] 173),.k (iv 11)] fun bj=>?_;intro _ _
   refine V.nilF (α:=Int) ?_;refine V.nilF (α:=Int) ?_;have e7:([]:LI)=Fr.rD (((Un.read s).1).isSome=true) (Un.fv ((Un.read s).1)):=(Fr.Fz.no (Un.is_n (by rw [D])) (Un.fv (Un.read s).1)).2.1;rw [←e7];have e9:([]:LI)=Fr.rE (((Un.read s).1).isSome=true) (Un.fv ((Un.read s).1)):=(Fr.Fz.no (Un.is_n (by rw [D])) (Un.fv (Un.read s).1)).2.2.2;rw [←e9];have e0:(0:Int)=Un.dv ((Un.read s).1) 0:=(Un.dv_n (by rw [D]) 0).symm;have e1:(0:Int)=Un.dv ((Un.read s).1) 1:=(Un.dv_n (by rw [D]) 1).symm;have e2:(0:Int)=Un.dv ((Un.read s).1) 2:=(Un.dv_n (by rw [D]) 2).symm;have e3:(0:Int)=Un.dv ((Un.read s).1) 3:=(Un.dv_n (by rw [D]) 3).symm;have e4:(0:Int)=Un.dv ((Un.read s).1) 4:=(Un.dv_n (by rw [D]) 4).symm;have e5:(0:Int)=Un.dv ((Un.read s).1) 5:=(Un.dv_n (by rw [D]) 5).symm;have e6:(0:Int)=Fr.rS (((Un.read s).1).isSome=true) (Un.fv ((Un.read s).1)):=(Fr.Fz.no (Un.is_n (by rw [D])) (Un.fv (Un.read s).1)).1;have e8:(0:Int)=Fr.rT (((Un.read s).1).isSome=true):=(Fr.Fz.no (Un.is_n (by rw [D])) (Un.fv (Un.read s).1)).2.2.1;have ak:(11:Int)=(Un.read s).2:=by rw [D]
   exact V.rT [0,0] [] [] [] [5,6] [] (cong9 (fun (al am an ao aq au av aw X:Int)=>(.tuple #[.agg #[iv al,iv am,iv an,iv ao,iv aq,iv au,iv av,SV.v ({}),iv aw,SV.v ({})],iv X]:Value)) e0 e1 e2 e3 e4 e5 e6 e8 ak)
  have a1:(Un.word x1.word).isSome=true:=by first | exact q6 | simpa using q6
  have zw:=Fr.Fz.of a1 a3 a4 a5 a6;have a2:=Un.word_ok (Un.some_of a1);have bk:=zw.len a2.2.2.2;have be:n8≠0:=by have:=(Fr.sgn_num (r:=Un.fv (Un.word x1.word))).2.2.2 a2.2.2.1;rw [←zw.eqs.1] at this;omega
  refine vG [.k (pp ((G9 6).b) 0),.ld 3 0 true (fun _=>[iv n2,iv n3,iv n4,iv n5,iv n6,iv n7]),.k (iv 0)] fun bm=>?_;intro _ _
  refine V.unrollL 99 (by kernel_rfl) ?_;intro aF;refine vG [.kb true] fun bn=>?_;intro _ _
  refine V.condT (by kernel_rfl) ?_;refine vG [.k (iv 0),.k (iv n2),.k (iv 0),.k (iv n2)] fun bp=>?_;intro _ _
  refine nm (n2 * x1.exp:Int) fun Q Y=>vG [.k (iv 0),.k (pp ((G5 2).b) 0),.k (pp ((G5 2).b) 0),.ld 1 0 false (fun _=>[iv d]),.k (iv n2),.k (pp ((G8 2).b) 1),.ld 2 1 false (fun _=>[iv x1.exp]),.ar (n2 * x1.exp) Q Y (Un.R27.r64 (.mul (by rw [ax];exact Un.word_rg x1.word 0) ⟨t,w⟩ Y)).1 (Un.R27.r64 (.mul (by rw [ax];exact Un.word_rg x1.word 0) ⟨t,w⟩ Y)).2,.a (d+Q) (Un.R27.a64 aV (.mul (by rw [ax];exact Un.word_rg x1.word 0) ⟨t,w⟩ Y) M).1 (Un.R27.a64 aV (.mul (by rw [ax];exact Un.word_rg x1.word 0) ⟨t,w⟩ Y) M).2,.k (pp ((G5 2).b) 0),.k (pp ((G5 2).b) 0),.st 1 (fun _=>.blk ((G5 2).b) #[iv (d+Q),iv f,iv h,iv i,iv j,iv o,iv C,A.v,iv H,B.v] 173)] fun bq=>?_;intro _ _
  refine vG [.k (iv 1),.k (iv 1)] fun br=>?_;intro _ _
  refine V.againL aF 98 (by kernel_rfl) ?_;refine vG [.kb true] fun bs=>?_;intro _ _
  refine V.condT (by kernel_rfl) ?_;refine vG [.k (iv 1),.k (iv n3),.k (iv 1),.k (iv n3)] fun bt=>?_;intro _ _
  refine nm (n3 * x1.exp:Int) fun Z ab=>vG [.k (iv 1),.k (pp ((G5 2).b) 0),.k (pp ((G5 2).b) 1),.ld 1 1 false (fun _=>[iv f]),.k (iv n3),.k (pp ((G8 2).b) 1),.ld 2 1 false (fun _=>[iv x1.exp]),.ar (n3 * x1.exp) Z ab (Un.R27.r64 (.mul (by rw [ay];exact Un.word_rg x1.word 1) ⟨t,w⟩ ab)).1 (Un.R27.r64 (.mul (by rw [ay];exact Un.word_rg x1.word 1) ⟨t,w⟩ ab)).2,.a (f+Z) (Un.R27.a64 aW (.mul (by rw [ay];exact Un.word_rg x1.word 1) ⟨t,w⟩ ab) M).1 (Un.R27.a64 aW (.mul (by rw [ay];exact Un.word_rg x1.word 1) ⟨t,w⟩ ab) M).2,.k (pp ((G5 2).b) 0),.k (pp ((G5 2).b) 1),.st 1 (fun _=>.blk ((G5 2).b) #[iv (d+Q),iv (f+Z),iv h,iv i,iv j,iv o,iv C,A.v,iv H,B.v] 173)] fun bu=>?_;intro _ _
  refine vG [.k (iv 2),.k (iv 2)] fun bw=>?_;intro _ _
  refine V.againL aF 97 (by kernel_rfl) ?_;refine vG [.kb true] fun bx=>?_;intro _ _
  refine V.condT (by kernel_rfl) ?_;refine vG [.k (iv 2),.k (iv n4),.k (iv 2),.k (iv n4)] fun bz=>?_;intro _ _
  refine nm (n4 * x1.exp:Int) fun ah ac=>vG [.k (iv 2),.k (pp ((G5 2).b) 0),.k (pp ((G5 2).b) 2),.ld 1 2 false (fun _=>[iv h]),.k (iv n4),.k (pp ((G8 2).b) 1),.ld 2 1 false (fun _=>[iv x1.exp]),.ar (n4 * x1.exp) ah ac (Un.R27.r64 (.mul (by rw [az];exact Un.word_rg x1.word 2) ⟨t,w⟩ ac)).1 (Un.R27.r64 (.mul (by rw [az];exact Un.word_rg x1.word 2) ⟨t,w⟩ ac)).2,.a (h+ah) (Un.R27.a64 aX (.mul (by rw [az];exact Un.word_rg x1.word 2) ⟨t,w⟩ ac) M).1 (Un.R27.a64 aX (.mul (by rw [az];exact Un.word_rg x1.word 2) ⟨t,w⟩ ac) M).2,.k (pp ((G5 2).b) 0),.k (pp ((G5 2).b) 2),.st 1 (fun _=>.blk ((G5 2).b) #[iv (d+Q),iv (f+Z),iv (h+ah),iv i,iv j,iv o,iv C,A.v,iv H,B.v] 173)] fun bA=>?_;intro _ _
  refine vG [.k (iv 3),.k (iv 3)] fun bB=>?_;intro _ _
  refine V.againL aF 96 (by kernel_rfl) ?_;refine vG [.kb true] fun bC=>?_;intro _ _
  refine V.condT (by kernel_rfl) ?_;refine vG [.k (iv 3),.k (iv n5),.k (iv 3),.k (iv n5)] fun bD=>?_;intro _ _
  refine nm (n5 * x1.exp:Int) fun ai ad=>vG [.k (iv 3),.k (pp ((G5 2).b) 0),.k (pp ((G5 2).b) 3),.ld 1 3 false (fun _=>[iv i]),.k (iv n5),.k (pp ((G8 2).b) 1),.ld 2 1 false (fun _=>[iv x1.exp]),.ar (n5 * x1.exp) ai ad (Un.R27.r64 (.mul (by rw [aA];exact Un.word_rg x1.word 3) ⟨t,w⟩ ad)).1 (Un.R27.r64 (.mul (by rw [aA];exact Un.word_rg x1.word 3) ⟨t,w⟩ ad)).2,.a (i+ai) (Un.R27.a64 aY (.mul (by rw [aA];exact Un.word_rg x1.word 3) ⟨t,w⟩ ad) M).1 (Un.R27.a64 aY (.mul (by rw [aA];exact Un.word_rg x1.word 3) ⟨t,w⟩ ad) M).2,.k (pp ((G5 2).b) 0),.k (pp ((G5 2).b) 3),.st 1 (fun _=>.blk ((G5 2).b) #[iv (d+Q),iv (f+Z),iv (h+ah),iv (i+ai),iv j,iv o,iv C,A.v,iv H,B.v] 173)] fun bE=>?_;intro _ _
  refine vG [.k (iv 4),.k (iv 4)] fun bF=>?_;intro _ _
  refine V.againL aF 95 (by kernel_rfl) ?_;refine vG [.kb true] fun bG=>?_;intro _ _
  refine V.condT (by kernel_rfl) ?_;refine vG [.k (iv 4),.k (iv n6),.k (iv 4),.k (iv n6)] fun bH=>?_;intro _ _
  refine nm (n6 * x1.exp:Int) fun aj ae=>vG [.k (iv 4),.k (pp ((G5 2).b) 0),.k (pp ((G5 2).b) 4),.ld 1 4 false (fun _=>[iv j]),.k (iv n6),.k (pp ((G8 2).b) 1),.ld 2 1 false (fun _=>[iv x1.exp]),.ar (n6 * x1.exp) aj ae (Un.R27.r64 (.mul (by rw [aB];exact Un.word_rg x1.word 4) ⟨t,w⟩ ae)).1 (Un.R27.r64 (.mul (by rw [aB];exact Un.word_rg x1.word 4) ⟨t,w⟩ ae)).2,.a (j+aj) (Un.R27.a64 aZ (.mul (by rw [aB];exact Un.word_rg x1.word 4) ⟨t,w⟩ ae) M).1 (Un.R27.a64 aZ (.mul (by rw [aB];exact Un.word_rg x1.word 4) ⟨t,w⟩ ae) M).2,.k (pp ((G5 2).b) 0),.k (pp ((G5 2).b) 4),.st 1 (fun _=>.blk ((G5 2).b) #[iv (d+Q),iv (f+Z),iv (h+ah),iv (i+ai),iv (j+aj),iv o,iv C,A.v,iv H,B.v] 173)] fun bI=>?_;intro _ _
  refine vG [.k (iv 5),.k (iv 5)] fun bJ=>?_;intro _ _
  refine V.againL aF 94 (by kernel_rfl) ?_;refine vG [.kb true] fun bK=>?_;intro _ _
  refine V.condT (by kernel_rfl) ?_;refine vG [.k (iv 5),.k (iv n7),.k (iv 5),.k (iv n7)] fun bL=>?_;intro _ _
  refine nm (n7 * x1.exp:Int) fun aD af=>vG [.k (iv 5),.k (pp ((G5 2).b) 0),.k (pp ((G5 2).b) 5),.ld 1 5 false (fun _=>[iv o]),.k (iv n7),.k (pp ((G8 2).b) 1),.ld 2 1 false (fun _=>[iv x1.exp]),.ar (n7 * x1.exp) aD af (Un.R27.r64 (.mul (by rw [aC];exact Un.word_rg x1.word 5) ⟨t,w⟩ af)).1 (Un.R27.r64 (.mul (by rw [aC];exact Un.word_rg x1.word 5) ⟨t,w⟩ af)).2,.a (o+aD) (Un.R27.a64 aH (.mul (by rw [aC];exact Un.word_rg x1.word 5) ⟨t,w⟩ af) M).1 (Un.R27.a64 aH (.mul (by rw [aC];exact Un.word_rg x1.word 5) ⟨t,w⟩ af) M).2,.k (pp ((G5 2).b) 0),.k (pp ((G5 2).b) 5),.st 1 (fun _=>.blk ((G5 2).b) #[iv (d+Q),iv (f+Z),iv (h+ah),iv (i+ai),iv (j+aj),iv (o+aD),iv C,A.v,iv H,B.v] 173)] fun bM=>?_;intro _ _
  refine vG [.k (iv 6),.k (iv 6)] fun bN=>?_;intro _ _
  refine V.againL aF 93 (by kernel_rfl) ?_;refine vG [.kb false] fun bO=>?_;intro _ _
  refine V.condF (by kernel_rfl) ?_;refine nm (Fr.rS (True) (Un.tm (Fr.fq C E I) (Fr.fq n8 l4 l5) x1.exp):Int) fun aI aN=>nm (Fr.rD (True) (Un.tm (Fr.fq C E I) (Fr.fq n8 l4 l5) x1.exp):LI) fun l6 a7=>nm (Fr.rT (True):Int) fun aL aO=>nm (Fr.rE (True) (Un.tm (Fr.fq C E I) (Fr.fq n8 l4 l5) x1.exp):LI) fun l7 a8=>vG [.k (pp ((G5 2).b) 6),.ld 1 6 true (fun _=>Dat.cells (DFrac.mk ⟨C,E,A⟩ ⟨H,I,B⟩)),.k (pp ((G9 6).b) 6),.ld 3 6 true (fun _=>Dat.cells (DFrac.mk ⟨n8,l4,(G9 2).ss 0⟩ ⟨n9,l5,(G9 2).ss 1⟩)),.k (pp ((G8 2).b) 1),.ld 2 1 false (fun _=>[iv x1.exp]),.ctT g0 6 155 [kB 1 E A,kB 2 I B,kB 3 l4 ((G9 2).ss 0),kB 4 l5 ((G9 2).ss 1)] (fun _ G=>utimes_ctv C E A H I B n8 l4 ((G9 2).ss 0) n9 l5 ((G9 2).ss 1) x1.exp aE zw.rt be ⟨t,w⟩ ⟨by omega,by omega⟩ ⟨by omega,by omega⟩ aI aN l6 a7 aL aO l7 a8),.k (pp ((G5 2).b) 6),.st 1 (fun G=>.blk ((G5 2).b) #[iv (d+Q),iv (f+Z),iv (h+ah),iv (i+ai),iv (j+aj),iv (o+aD),iv aI,((G 6).ss 0).v,iv aL,((G 6).ss 1).v] 173)] fun a9=>?_;intro _ _
  have zt:=Fr.Fz.of True.intro aN a7 aO a8;rw [zw.v] at zt;have bP:=zt.len (Un.tm_hb (aE.hb aM.1 aM.2) a2.2.2.2 ⟨t,w⟩);refine vG [.aa (k0+1),.k (iv (k0+1))] fun bQ=>?_;intro _ _
  refine V.rn hZ1 (k0+1,d+Q,f+Z,h+ah,i+ai,j+aj,o+aD,aI,l6,(a9 6).ss 0,aL,l7,(a9 6).ss 1) [0,5,6] ?_ ?_
  ·refine ⟨by omega,by omega,?_,?_,?_,?_,?_,?_,?_,?_,?_⟩
   ·show Un.acc (l1.drop (k0+1).toNat) ([(d+Q),(f+Z),(h+ah),(i+ai),(j+aj),(o+aD)],(Fr.fq aI l6 l7))=Un.acc l1 ([0,0,0,0,0,0],1);rw [show (k0+1).toNat=k0.toNat+1 by omega,← aU,Un.acc_drop (k:=k0.toNat) (by omega),← aK,if_pos a1,zt.v,Y,ab,ac,ad,ae,af,ax,ay,az,aA,aB,aC];rfl
   ·show Fr.FrB aI l6 aL l7;exact zt.rt
   ·show Un.R27 (k0+1) (d+Q);exact Un.R27.add aV (.mul (by rw [ax];exact Un.word_rg x1.word 0) ⟨t,w⟩ Y)
   ·show Un.R27 (k0+1) (f+Z);exact Un.R27.add aW (.mul (by rw [ay];exact Un.word_rg x1.word 1) ⟨t,w⟩ ab)
   ·show Un.R27 (k0+1) (h+ah);exact Un.R27.add aX (.mul (by rw [az];exact Un.word_rg x1.word 2) ⟨t,w⟩ ac)
   ·show Un.R27 (k0+1) (i+ai);exact Un.R27.add aY (.mul (by rw [aA];exact Un.word_rg x1.word 3) ⟨t,w⟩ ad)
   ·show Un.R27 (k0+1) (j+aj);exact Un.R27.add aZ (.mul (by rw [aB];exact Un.word_rg x1.word 4) ⟨t,w⟩ ae)
   ·show Un.R27 (k0+1) (o+aD);exact Un.R27.add aH (.mul (by rw [aC];exact Un.word_rg x1.word 5) ⟨t,w⟩ af)
   show l6.length≤1+36 * (k0+1).toNat∧l7.length≤1+36 * (k0+1).toNat;omega
  dsimp only;omega
 have aP:Un.acc l1 ([0,0,0,0,0,0],1)=some ([d,f,h,i,j,o],(Fr.fq C E I)):=by rw [←aU,List.drop_of_length_le (by omega)];rfl
 refine vG [.k (pp ((G5 2).b) 0),.ld 1 0 true (fun _=>[iv d,iv f,iv h,iv i,iv j,iv o]),.cP 2 156 [] fun G=>dright_ct d f h i j o,.k (bv (!(decide (Dm.Rt [d,f,h,i,j,o]))))] fun bR=>?_;intro _ _
 refine vn (Dm.Rt [d,f,h,i,j,o]) (fun q7=>?_) fun q8=>?_
 ·have D:=Un.read_rng aJ (by rw [←aG];exact aP) q7;refine vG [.k (.agg #[iv 0,iv 0,iv 0,iv 0,iv 0,iv 0,iv 0,.slice none 0 0,iv 0,.slice none 0 0]),.st 0 (fun _=>.blk ((G1 0).b) #[iv 0,iv 0,iv 0,iv 0,iv 0,iv 0,iv 0,.slice none 0 0,iv 0,.slice none 0 0] 173),.k (iv 3)] fun bS=>?_;intro _ _
  refine V.nilF (α:=Int) ?_;refine V.nilF (α:=Int) ?_;have e7:([]:LI)=Fr.rD (((Un.read s).1).isSome=true) (Un.fv ((Un.read s).1)):=(Fr.Fz.no (Un.is_n (by rw [D])) (Un.fv (Un.read s).1)).2.1;rw [←e7];have e9:([]:LI)=Fr.rE (((Un.read s).1).isSome=true) (Un.fv ((Un.read s).1)):=(Fr.Fz.no (Un.is_n (by rw [D])) (Un.fv (Un.read s).1)).2.2.2;rw [←e9];have e0:(0:Int)=Un.dv ((Un.read s).1) 0:=(Un.dv_n (by rw [D]) 0).symm;have e1:(0:Int)=Un.dv ((Un.read s).1) 1:=(Un.dv_n (by rw [D]) 1).symm;have e2:(0:Int)=Un.dv ((Un.read s).1) 2:=(Un.dv_n (by rw [D]) 2).symm;have e3:(0:Int)=Un.dv ((Un.read s).1) 3:=(Un.dv_n (by rw [D]) 3).symm;have e4:(0:Int)=Un.dv ((Un.read s).1) 4:=(Un.dv_n (by rw [D]) 4).symm;have e5:(0:Int)=Un.dv ((Un.read s).1) 5:=(Un.dv_n (by rw [D]) 5).symm;have e6:(0:Int)=Fr.rS (((Un.read s).1).isSome=true) (Un.fv ((Un.read s).1)):=(Fr.Fz.no (Un.is_n (by rw [D])) (Un.fv (Un.read s).1)).1;have e8:(0:Int)=Fr.rT (((Un.read s).1).isSome=true):=(Fr.Fz.no (Un.is_n (by rw [D])) (Un.fv (Un.read s).1)).2.2.1;have ak:(3:Int)=(Un.read s).2:=by rw [D]
  exact V.rT [0,0] [] [] [] [3,4] [] (cong9 (fun (al am an ao aq au av aw X:Int)=>(.tuple #[.agg #[iv al,iv am,iv an,iv ao,iv aq,iv au,iv av,SV.v ({}),iv aw,SV.v ({})],iv X]:Value)) e0 e1 e2 e3 e4 e5 e6 e8 ak)
 have D:=Un.read_ok aJ (by rw [←aG];exact aP) (by first | exact q8 | exact Decidable.not_not.1 q8);have P:(Un.read s).1=some ([d,f,h,i,j,o],(Fr.fq C E I)):=by rw [D]
 refine vG [.ld 1 0 true (fun _=>[iv d,iv f,iv h,iv i,iv j,iv o,iv C,A.v,iv H,B.v]),.st 0 (fun _=>.blk ((G1 0).b) #[iv d,iv f,iv h,iv i,iv j,iv o,iv C,A.v,iv H,B.v] 173),.k (iv 0)] fun bT=>?_;intro _ _
 have e7:E=Fr.rD (((Un.read s).1).isSome=true) (Un.fv ((Un.read s).1)):=(Fr.Fz.ret (Fr.FrB.z aE) (Un.is_s P) (Un.fv_s P).symm).2.1;subst e7;have e9:I=Fr.rE (((Un.read s).1).isSome=true) (Un.fv ((Un.read s).1)):=(Fr.Fz.ret (Fr.FrB.z aE) (Un.is_s P) (Un.fv_s P).symm).2.2.2;subst e9;have e0:d=Un.dv ((Un.read s).1) 0:=(Un.dv_s P 0).symm;have e1:f=Un.dv ((Un.read s).1) 1:=(Un.dv_s P 1).symm;have e2:h=Un.dv ((Un.read s).1) 2:=(Un.dv_s P 2).symm;have e3:i=Un.dv ((Un.read s).1) 3:=(Un.dv_s P 3).symm;have e4:j=Un.dv ((Un.read s).1) 4:=(Un.dv_s P 4).symm;have e5:o=Un.dv ((Un.read s).1) 5:=(Un.dv_s P 5).symm;have e6:C=Fr.rS (((Un.read s).1).isSome=true) (Un.fv ((Un.read s).1)):=(Fr.Fz.ret (Fr.FrB.z aE) (Un.is_s P) (Un.fv_s P).symm).1;have e8:H=Fr.rT (((Un.read s).1).isSome=true):=(Fr.Fz.ret (Fr.FrB.z aE) (Un.is_s P) (Un.fv_s P).symm).2.2.1;have ak:(0:Int)=(Un.read s).2:=by rw [D]
 exact V.rT [0,0] [A,B] [] [] [1,2] [] (cong9 (fun (al am an ao aq au av aw X:Int)=>(.tuple #[.agg #[iv al,iv am,iv an,iv ao,iv aq,iv au,iv av,A.v,iv aw,B.v],iv X]:Value)) e0 e1 e2 e3 e4 e5 e6 e8 ak)
theorem uread_ctv (s:ByteArray) (hs:s.size≤9223372036854775807) (f:Int) (h:f=Un.dv ((Un.read s).1) 0) (i:Int) (j:i=Un.dv ((Un.read s).1) 1) (o:Int) (t:o=Un.dv ((Un.read s).1) 2) (w:Int) (A:w=Un.dv ((Un.read s).1) 3) (B:Int) (C:B=Un.dv ((Un.read s).1) 4) (D:Int) (E:D=Un.dv ((Un.read s).1) 5) (G:Int) (H:G=Fr.rS (((Un.read s).1).isSome=true) (Un.fv ((Un.read s).1))) (I:List Int) (M:I=Fr.rD (((Un.read s).1).isSome=true) (Un.fv ((Un.read s).1))) (P:Int) (Q:P=Fr.rT (((Un.read s).1).isSome=true)) (X:List Int) (Y:X=Fr.rE (((Un.read s).1).isSome=true) (Un.fv ((Un.read s).1))) (b:Int) (d:b=(Un.read s).2) :
  Ct Tryz.prog 123 #[tv s] [] [] (fun g=>.tuple #[.agg #[iv f,iv i,iv o,iv w,iv B,iv D,iv G,((g.ss 0)).v,iv P,((g.ss 1)).v],iv b]) (fun g=>[fs true I (g.ss 0),fs true X (g.ss 1)]) (fun g=>[]) (fun g=>[]):=by
 subst h j t A C E H M Q Y d;exact uread_ct s hs

theorem bwf_ct (bb:Nat) (d:List UInt8) (f:SV) (c:UInt8) (hb:d.length≤1000000000) :
  Ct Tryz.prog 184 #[pp bb 0,.int .u8 (c.toNat:Int)] [] [.blk bb #[.pointer none,f.v] 232,os false 5 d f] (fun g=>.nilIface) (fun g=>[]) (fun g=>[.blk bb #[pp bb 0,(g.ss 0).v] 232,os true 5 (d ++[c]) (g.ss 0)]) (fun g=>[]):=by
 refine vf mo Tryz.func184 17 0 fun _=>?_
 refine vG [.u 1] fun G1=>?_;intro _ _
 refine vG [.u 1,.cB 1 204 false [0,1] [] [] fun G=>bccf_ct bb d f] fun G2=>?_;intro _ _
 refine nm (d ++([c]:List UInt8):List UInt8) fun l1 i=>vG [.u 4,.l 0,.u 1,.nr 6 true 5 ([c]:List UInt8) [] (fun _ _ _ _ _=>trivial) (fun _=>#[.int .u8 (c.toNat:Int)]),.ap 7 1 5 1 false true d (fun _=>f) (kf true (.g 6 0) ([c]:List UInt8) (fun G=>⟨atB (G 6).b,1,1⟩)) true l1 i (by first | omega | (simp;omega) | simp) (fun h=>by cases h) (.inr fun _ _=>trivial),.u 2,.s 0] fun G3=>?_;intro _ _
 refine vG [.u 1] fun G4=>?_;intro _ _
 have j:l1=d ++[c]:=by subst_vars;rfl
 subst j;exact V.rS [0] [(G3 7).s] [] [] [] [0,1]
theorem bwu_ct (bb:Nat) (d:List UInt8) (f:SV) (c:UInt8) (hb:d.length≤1000000000) :
  Ct Tryz.prog 184 #[pp bb 0,.int .u8 (c.toNat:Int)] [] [.blk bb #[pp bb 0,f.v] 232,os false 5 d f] (fun g=>.nilIface) (fun g=>[]) (fun g=>[.blk bb #[pp bb 0,(g.ss 0).v] 232,os true 5 (d ++[c]) (g.ss 0)]) (fun g=>[]):=by
 refine vf mo Tryz.func184 17 0 fun _=>?_
 refine vG [.u 1] fun G1=>?_;intro _ _
 refine vG [.u 1,.cB 1 204 false [0,1] [] [] fun G=>bccu_ct bb d f] fun G2=>?_;intro _ _
 refine nm (d ++([c]:List UInt8):List UInt8) fun l1 i=>vG [.u 4,.l 0,.u 1,.nr 6 true 5 ([c]:List UInt8) [] (fun _ _ _ _ _=>trivial) (fun _=>#[.int .u8 (c.toNat:Int)]),.ap 7 1 5 1 false true d (fun _=>f) (kf true (.g 6 0) ([c]:List UInt8) (fun G=>⟨atB (G 6).b,1,1⟩)) true l1 i (by first | omega | (simp;omega) | simp) (fun h=>by cases h) (.inr fun _ _=>trivial),.u 2,.s 0] fun G3=>?_;intro _ _
 refine vG [.u 1] fun G4=>?_;intro _ _
 have j:l1=d ++[c]:=by subst_vars;rfl
 subst j;exact V.rS [0] [(G3 7).s] [] [] [] [0,1]

theorem lltr_ct (c:Int) :
  Cp Tryz.prog 120 #[.int .u8 c] [] (bv (decide (Un.ltr c))):=by
 refine vf mo Tryz.func120 17 0 fun _=>?_
 refine vG [.kb false] fun G1=>?_;intro _ _
 refine nm (((decide (97≤c)) && (decide (c≤122))) || ((decide (65≤c)) && (decide (c≤90))):Bool) fun p1 d=>vG [.u 5,.and g0 false (decide (97≤c)) (decide (c≤122)),.u 6,.and (gF (b:=(decide (97≤c)) && (decide (c≤122))) (iAF iDF iDF)) false (decide (65≤c)) (decide (c≤90)),.orn g0 false ((decide (97≤c)) && (decide (c≤122))) ((decide (65≤c)) && (decide (c≤90))) p1 d,.u 1] fun G2=>?_;intro _ _
 have e0:p1=decide (Un.ltr c):=by
  refine Bool.eq_iff_iff.2 (Iff.trans (iN d (iOT (iAT iDT iDT) (iAT iDT iDT))) (Iff.trans ?_ decide_eq_true_iff.symm));exact Iff.rfl
 exact vb 0 [] e0
theorem ldgt_ct (c:Int) :
  Cp Tryz.prog 151 #[.int .u8 c] [] (bv (decide (Tb.dgt c))):=by
 refine vf mo Tryz.func151 9 0 fun _=>?_
 refine vG [.kb false] fun G1=>?_;intro _ _
 refine vG [.u 5,.and g0 false (decide (48≤c)) (decide (c≤57)),.u 1] fun G2=>?_;intro _ _
 have e0:((decide (48≤c)) && (decide (c≤57)))=decide (Tb.dgt c):=by
  refine Bool.eq_iff_iff.2 (Iff.trans (iAT iDT iDT) (Iff.trans ?_ decide_eq_true_iff.symm));exact Iff.rfl
 exact vb 0 [] e0
theorem linn_ct (c:Int) :
  Cp Tryz.prog 122 #[.int .u8 c] [] (bv (decide (Tb.inn c))):=by
 refine vf mo Tryz.func122 13 0 fun _=>?_
 refine vG [.kb false] fun G1=>?_;intro _ _
 refine nm (((decide (Un.ltr c)) || (decide (Tb.dgt c))) || (decide (c=95)):Bool) fun p1 d=>vG [.u 1,.cP 1 120 [] fun G=>lltr_ct c,.u 2,.cp (gF (b:=decide (Un.ltr c)) iDF) 4 151 [] (fun hg G=>ldgt_ct c),.or g0 false (decide (Un.ltr c)) (decide (Tb.dgt c)),.u 3,.orn g0 false ((decide (Un.ltr c)) || (decide (Tb.dgt c))) (decide (c=95)) p1 d,.u 1] fun G2=>?_;intro _ _
 have e0:p1=decide (Tb.inn c):=by
  refine Bool.eq_iff_iff.2 (Iff.trans (iN d (iOT (iOT iDT iDT) iDT)) (Iff.trans ?_ decide_eq_true_iff.symm));exact Iff.rfl
 exact vb 0 [] e0
theorem lpln_ct (c:Int) :
  Cp Tryz.prog 161 #[.int .u8 c] [] (bv (decide (Fx.pln c))):=by
 refine vf mo Tryz.func161 9 0 fun _=>?_
 refine vG [.kb false] fun G1=>?_;intro _ _
 refine vG [.u 5,.and g0 false (decide (32≤c)) (decide (c≤126)),.u 1] fun G2=>?_;intro _ _
 have e0:((decide (32≤c)) && (decide (c≤126)))=decide (Fx.pln c):=by
  refine Bool.eq_iff_iff.2 (Iff.trans (iAT iDT iDT) (Iff.trans ?_ decide_eq_true_iff.symm));exact Iff.rfl
 exact vb 0 [] e0
theorem lspan_ct (s:BA) (hs:s.size≤9223372036854775807) :
  Cp Tryz.prog 121 #[tv s,.func (.func 122) #[] #[]] [] (iv (Tb.spn s:Int)):=by
 refine vf mo Tryz.func121 20 0 fun _=>?_
 refine vG [.u 1] fun G1=>?_;intro _ _
 refine vG [.u 1] fun G2=>?_;intro _ _
 refine V.lp (γ:=Int) (fun n=>⟨[(0,tv s),(1,.func (.func 122) #[] #[]),(5,iv n)],[],[]⟩) (fun n=>(0≤n)∧(n≤(s.size:Int))∧(∀ j,j < n.toNat→Tb.inn (((bl s).getD j default).toNat:Int))) (fun n=>((s.size:Int)-n).toNat) 0 [] ?_ ?_
 ·refine ⟨?_,?_,?_⟩
  ·show 0≤(0:Int);omega
  ·show (0:Int)≤(s.size:Int);omega
  show ∀ j,j < (0:Int).toNat→Tb.inn (((bl s).getD j default).toNat:Int);intro j hj;simp at hj
 rintro n hF1 kw3 Z1 hZ1;obtain ⟨o,t,i⟩:=hF1;refine nm ((bl s).getD n.toNat default:UInt8) fun c1 d=>nm ((decide (n < (s.size:Int))) && (decide (Tb.inn (c1.toNat:Int))):Bool) fun p1 f=>vG [.u 8,.sid (gT (b:=decide (n < (s.size:Int))) iDT) s n c1 d (fun hg=>⟨by omega,by omega⟩),.cp (gT (b:=decide (n < (s.size:Int))) iDT) 9 122 [] (fun hg G=>linn_ct (c1.toNat:Int)),.andn g0 false (decide (n < (s.size:Int))) (decide (Tb.inn (c1.toNat:Int))) p1 f] fun G3=>?_;intro _ _;refine V.cn (b:=p1) (iN f (iAT iDT iDT)) (iN f (iAF iDF iDF)) (fun q1=>?_) (fun q2=>?_)
 ·refine vG [.u 1,.aa (n+1),.u 1] fun G4=>?_;intro _ _
  refine V.rn hZ1 (n+1) [] ?_ ?_
  ·refine ⟨by omega,by omega,?_⟩;show ∀ j,j < (n+1).toNat→Tb.inn (((bl s).getD j default).toNat:Int);intro j hj;by_cases e:j < n.toNat
   ·exact i j e
   rw [show j=n.toNat by omega,← d];exact (q1).2
  omega
 refine vG [.u 2] fun G5=>?_;intro _ _
 have e0:n=(Tb.spn s:Int):=by rw [Tb.spn_at (s:=s) (n:=n.toNat) (by omega) i (by rcases q2 with h | h;exact .inl (by omega);right;rw [d] at h;exact h)];omega
 exact vi 0 [] e0
theorem lspan_ctv (s:ByteArray) (hs:s.size≤9223372036854775807) (b:Int) (d:b=(Tb.spn s:Int)) :
  Cp Tryz.prog 121 #[tv s,.func (.func 122) #[] #[]] [] (iv b):=by
 subst d;exact lspan_ct s hs
theorem lspanp_ct (s:BA) (hs:s.size≤9223372036854775807) :
  Cp Tryz.prog 121 #[tv s,.func (.func 161) #[] #[]] [] (iv (Fx.plS s:Int)):=by
 refine vf mo Tryz.func121 20 0 fun _=>?_
 refine vG [.u 1] fun G1=>?_;intro _ _
 refine vG [.u 1] fun G2=>?_;intro _ _
 refine V.lp (γ:=Int) (fun n=>⟨[(0,tv s),(1,.func (.func 161) #[] #[]),(5,iv n)],[],[]⟩) (fun n=>(0≤n)∧(n≤(s.size:Int))∧(∀ j,j < n.toNat→Fx.pln (((bl s).getD j default).toNat:Int))) (fun n=>((s.size:Int)-n).toNat) 0 [] ?_ ?_
 ·refine ⟨?_,?_,?_⟩
  ·show 0≤(0:Int);omega
  ·show (0:Int)≤(s.size:Int);omega
  show ∀ j,j < (0:Int).toNat→Fx.pln (((bl s).getD j default).toNat:Int);intro j hj;simp at hj
 rintro n hF1 kw3 Z1 hZ1;obtain ⟨o,t,i⟩:=hF1;refine nm ((bl s).getD n.toNat default:UInt8) fun c1 d=>nm ((decide (n < (s.size:Int))) && (decide (Fx.pln (c1.toNat:Int))):Bool) fun p1 f=>vG [.u 8,.sid (gT (b:=decide (n < (s.size:Int))) iDT) s n c1 d (fun hg=>⟨by omega,by omega⟩),.cp (gT (b:=decide (n < (s.size:Int))) iDT) 9 161 [] (fun hg G=>lpln_ct (c1.toNat:Int)),.andn g0 false (decide (n < (s.size:Int))) (decide (Fx.pln (c1.toNat:Int))) p1 f] fun G3=>?_;intro _ _;refine V.cn (b:=p1) (iN f (iAT iDT iDT)) (iN f (iAF iDF iDF)) (fun q1=>?_) (fun q2=>?_)
 ·refine vG [.u 1,.aa (n+1),.u 1] fun G4=>?_;intro _ _
  refine V.rn hZ1 (n+1) [] ?_ ?_
  ·refine ⟨by omega,by omega,?_⟩;show ∀ j,j < (n+1).toNat→Fx.pln (((bl s).getD j default).toNat:Int);intro j hj;by_cases e:j < n.toNat
   ·exact i j e
   rw [show j=n.toNat by omega,← d];exact (q1).2
  omega
 refine vG [.u 2] fun G5=>?_;intro _ _
 have e0:n=(Fx.plS s:Int):=by rw [Fx.plS_at (s:=s) (n:=n.toNat) (by omega) i (by rcases q2 with h | h;exact .inl (by omega);right;rw [d] at h;exact h)];omega
 exact vi 0 [] e0
theorem lspanp_ctv (s:ByteArray) (hs:s.size≤9223372036854775807) (b:Int) (d:b=(Fx.plS s:Int)) :
  Cp Tryz.prog 121 #[tv s,.func (.func 161) #[] #[]] [] (iv b):=by
 subst d;exact lspanp_ct s hs
theorem lname_ct (s:BA) (hs:s.size≤9223372036854775807) :
  Cp Tryz.prog 82 #[tv s] [] (bv (decide (Tb.Nm s))):=by
 refine vf mo Tryz.func82 22 0 fun _=>?_
 refine vG [.kb false] fun G1=>?_;intro _ _
 refine nm ((bl s).getD (0:Int).toNat default:UInt8) fun c1 f=>nm ((!(decide (s=ByteArray.empty))) && (decide (Un.ltr (c1.toNat:Int))):Bool) fun p1 d=>nm ((Tb.spn s:Int):Int) fun n1 h=>nm ((p1 && (decide ((s.size:Int)≤20))) && (decide (n1=(s.size:Int))):Bool) fun p2 i=>vG [.u 1,.sne s ByteArray.empty,.u 2,.sid (gT (b:=!(decide (s=ByteArray.empty))) (iNT iDF)) s (0:Int) c1 f (fun hg=>⟨by omega,by have:=Dm.size_ne hg;omega⟩),.cp (gT (b:=!(decide (s=ByteArray.empty))) (iNT iDF)) 5 120 [] (fun hg G=>lltr_ct (c1.toNat:Int)),.andn g0 false (!(decide (s=ByteArray.empty))) (decide (Un.ltr (c1.toNat:Int))) p1 d,.u 4,.and g0 false p1 (decide ((s.size:Int)≤20)),.u 2,.cp (gT (b:=p1 && (decide ((s.size:Int)≤20))) (iAT (iN d (iAT (iNT iDF) iDT)) iDT)) 14 121 [] (fun hg G=>lspan_ctv s (by omega) n1 h),.u 3,.andn g0 false (p1 && (decide ((s.size:Int)≤20))) (decide (n1=(s.size:Int))) p2 i,.u 1] fun G2=>?_;intro _ _
 have e0:p2=decide (Tb.Nm s):=by
  refine Bool.eq_iff_iff.2 (Iff.trans (iN i (iAT (iAT (iN d (iAT (iNT iDF) iDT)) iDT) iDT)) (Iff.trans ?_ decide_eq_true_iff.symm));rw [f,h];exact Iff.rfl
 exact vb 0 [] e0
theorem lesc_ct (s:BA) (hs:s.size≤400) :
  Cp Tryz.prog 162 #[tv s] [] (tv (Fx.esc s)):=by
 refine vf mo Tryz.func162 29 2 fun _=>?_
 refine vG [.u 1] fun G1=>?_;intro _ _
 refine vG [.n 0] fun G2=>?_;intro _ _
 refine V.on (α:=UInt8) 1 5 (by kernel_rfl) ?_;refine vG [.cB 0 184 false [0,1] [] [] fun G=>bwf_ct ((G2 0).b) ([]:List UInt8) ({}) (34:UInt8) (by first | omega | (simp only [List.length_append,List.length_cons,List.length_nil,List.length_replicate,List.length_set,List.length_take,List.length_drop,List.length_map,List.length_reverse,List.length_range];omega))] fun G3=>?_;intro _ _
 refine vG [.u 3] fun G4=>?_;intro _ _
 refine V.lp (γ:=Int × List UInt8 × SV) (fun ⟨k0,d,f⟩=>⟨[(0,tv s),(3,pp ((G2 0).b) 0),(7,iv (s.size:Int)),(8,iv k0)],[],[.blk ((G2 0).b) #[pp ((G2 0).b) 0,f.v] 232,os true 5 d f]⟩) (fun ⟨k0,d,f⟩=>(0≤k0)∧(k0≤(s.size:Int))∧(d=Fx.escL ((bl s).take k0.toNat))) (fun ⟨k0,d,f⟩=>((s.size:Int)-k0).toNat) (0,([]:List UInt8) ++[(34:UInt8)],(G3 0).ss 0) [] ?_ ?_
 ·refine ⟨by omega,by omega,?_⟩;show (([]:List UInt8) ++[(34:UInt8)])=Fx.escL ((bl s).take (0:Int).toNat);rfl
 rintro ⟨k0,d,f⟩ hF1 kw5 Z1 hZ1;obtain ⟨B,C,i⟩:=hF1;have D:=congrArg List.length i;have o:=Fx.escL_len ((bl s).take k0.toNat);rw [List.length_take,bl_len] at o;refine vG [.u 1] fun G5=>?_;intro _ _;refine vd (k0 < (s.size:Int)) (fun q1=>?_) fun q2=>?_
 ·refine vG [.u 2] fun G6=>?_;intro _ _
  refine nm ((bl s).getD k0.toNat default:UInt8) fun c1 h=>nm ((decide ((c1.toNat:Int)=34)) || (decide ((c1.toNat:Int)=92)):Bool) fun p1 j=>vG [.u 2,.sid g0 s k0 c1 h (fun _=>⟨by omega,by omega⟩),.u 4,.sid (gF (b:=decide ((c1.toNat:Int)=34)) iDF) s k0 c1 h (fun hg=>⟨by omega,by omega⟩),.u 1,.orn g0 false (decide ((c1.toNat:Int)=34)) (decide ((c1.toNat:Int)=92)) p1 j] fun G7=>?_;intro _ _
  refine V.cn (b:=p1) (iN j (iOT iDT iDT)) (iN j (iOF iDF iDF)) (fun q3=>?_) (fun q4=>?_)
  ·refine vG [.cB 0 184 false [0,1] [] [] fun G=>bwu_ct ((G2 0).b) d f (92:UInt8) (by first | omega | (simp only [List.length_append,List.length_cons,List.length_nil,List.length_replicate,List.length_set,List.length_take,List.length_drop,List.length_map,List.length_reverse,List.length_range];omega))] fun G8=>?_;intro _ _
   refine vG [.u 2,.sid g0 s k0 c1 h (fun _=>⟨by omega,by omega⟩),.cB 3 184 false [0,1] [] [] fun G=>bwu_ct ((G2 0).b) (d ++[(92:UInt8)]) ((G8 0).ss 0) c1 (by first | omega | (simp only [List.length_append,List.length_cons,List.length_nil,List.length_replicate,List.length_set,List.length_take,List.length_drop,List.length_map,List.length_reverse,List.length_range];omega))] fun G9=>?_;intro _ _
   refine vG [.aa (k0+1),.u 1] fun E=>?_;intro _ _
   refine V.rn hZ1 (k0+1,(d ++[(92:UInt8)]) ++[c1],(G9 3).ss 0) [] ?_ ?_
   ·refine ⟨by omega,by omega,?_⟩;show ((d ++[(92:UInt8)]) ++[c1])=Fx.escL ((bl s).take (k0+1).toNat);rw [Fx.escL_step (by omega) (by rw [bl_len];omega) h,← i];unfold Fx.esc1;rw [if_pos (by omega)];try simp
   dsimp only;omega
  refine vG [.u 2,.sid g0 s k0 c1 h (fun _=>⟨by omega,by omega⟩),.cB 3 184 false [0,1] [] [] fun G=>bwu_ct ((G2 0).b) d f c1 (by first | omega | (simp only [List.length_append,List.length_cons,List.length_nil,List.length_replicate,List.length_set,List.length_take,List.length_drop,List.length_map,List.length_reverse,List.length_range];omega))] fun t=>?_;intro _ _
  refine vG [.aa (k0+1),.u 1] fun H=>?_;intro _ _
  refine V.rn hZ1 (k0+1,d ++[c1],(t 3).ss 0) [] ?_ ?_
  ·refine ⟨by omega,by omega,?_⟩;show (d ++[c1])=Fx.escL ((bl s).take (k0+1).toNat);rw [Fx.escL_step (by omega) (by rw [bl_len];omega) h,← i];unfold Fx.esc1;rw [if_neg (by omega)];try simp
  dsimp only;omega
 refine vG [.cB 0 184 false [0,1] [] [] fun G=>bwu_ct ((G2 0).b) d f (34:UInt8) (by first | omega | (simp only [List.length_append,List.length_cons,List.length_nil,List.length_replicate,List.length_set,List.length_take,List.length_drop,List.length_map,List.length_reverse,List.length_range];omega))] fun w=>?_;intro _ _
 refine vG [.cB 0 185 false [0,1] [] [] fun G=>bstru_ct ((G2 0).b) (d ++[(34:UInt8)]) ((w 0).ss 0) (by simp),.u 1] fun I=>?_;intro _ _
 have e0:⟨((d ++[(34:UInt8)])).toArray⟩=Fx.esc s:=by unfold Fx.esc;rw [i,List.take_of_length_le (by rw [bl_len];omega)]
 exact V.rT [0] [] [] [] [] [] (cong1 (fun (A:ByteArray)=>(tv A:Value)) e0)
theorem lesc_ctv (s:ByteArray) (hs:s.size≤400) (b:ByteArray) (d:b=Fx.esc s) :
  Cp Tryz.prog 162 #[tv s] [] (tv b):=by
 subst d;exact lesc_ct s hs
theorem lquo_ct (s:BA) (hs:s.size≤9223372036854775807) :
  Cp Tryz.prog 136 #[tv s] [] (.tuple #[tv (Fx.quo s),bv (decide (Fx.Qt s))]):=by
 refine vf mo Tryz.func136 16 0 fun _=>?_
 refine vG [.u 1,.kb false] fun G1=>?_;intro _ _
 refine nm ((Fx.plS s:Int):Int) fun n1 d=>nm ((decide (400 < (s.size:Int))) || (!(decide (n1=(s.size:Int)))):Bool) fun p1 f=>vG [.u 5,.cp (gF (b:=decide (400 < (s.size:Int))) iDF) 5 121 [] (fun hg G=>lspanp_ctv s (by omega) n1 d),.u 3,.orn g0 false (decide (400 < (s.size:Int))) (!(decide (n1=(s.size:Int)))) p1 f] fun G2=>?_;intro _ _
 refine V.cn (b:=p1) (iN f (iOT iDT (iNT iDF))) (iN f (iOF iDF (iNF iDT))) (fun q1=>?_) (fun q2=>?_)
 ·refine vG [.u 1,.kb false] fun G3=>?_;intro _ _
  have e0:ByteArray.empty=Fx.quo s:=by symm;unfold Fx.quo;rw [if_neg];intro h;unfold Fx.Qt at h;rcases q1 with h1 | h1;omega;exact h1 (by rw [d];exact h.2)
  have e1:false=decide (Fx.Qt s):=by symm;rw [decide_eq_false_iff_not];intro h;unfold Fx.Qt at h;rcases q1 with h1 | h1;omega;exact h1 (by rw [d];exact h.2)
  exact V.rT [0,0] [] [] [] [] [] (cong2 (fun (i:ByteArray) (j:Bool)=>(.tuple #[tv i,bv j]:Value)) e0 e1)
 have hQ:Fx.Qt s:=by exact ⟨by omega,by rw [←d];first | exact q2.2 | exact Decidable.not_not.1 q2.2⟩
 refine nm (Fx.esc s:ByteArray) fun t1 o=>vG [.u 1,.cP 1 162 [] fun G=>lesc_ctv s (by omega) t1 o,.u 1,.kb true] fun G4=>?_;intro _ _
 have e0:t1=Fx.quo s:=by
  rw [o];unfold Fx.quo;rw [if_pos hQ]
 have e1:true=decide (Fx.Qt s):=(decide_eq_true hQ).symm;exact V.rT [0,0] [] [] [] [] [] (cong2 (fun (i:ByteArray) (j:Bool)=>(.tuple #[tv i,bv j]:Value)) e0 e1)
theorem lquo_ctv (s:ByteArray) (hs:s.size≤9223372036854775807) (b:ByteArray) (d:b=Fx.quo s) :
  Cp Tryz.prog 136 #[tv s] [] (.tuple #[tv b,bv (decide (Fx.Qt s))]):=by
 subst d;exact lquo_ct s hs
theorem fword_ct (s:BA) :
  Cp Tryz.prog 83 #[tv s] [] (bv (decide (Fx.isW s))):=by
 refine vf mo Tryz.func83 17 0 fun _=>?_
 refine vG [.kb false] fun G1=>?_;intro _ _
 refine vG [.u 1] fun G2=>?_;intro _ _
 refine vG [.seq s ⟨#[110,111,116]⟩,.u 1] fun G3=>?_;intro _ _
 refine vd (s=⟨#[110,111,116]⟩) (fun q1=>?_) fun q2=>?_
 ·refine vd (s=⟨#[110,111,116]⟩) (fun q3=>?_) fun q4=>?_
  ·refine vG [.kb true] fun G4=>?_;intro _ _
   have e0:true=decide (Fx.isW s):=by symm;rw [decide_eq_true_iff];unfold Fx.isW;simp [q3]
   exact vb 0 [] e0
  refine vG [.kb false] fun G5=>?_;intro _ _
  have e0:false=decide (Fx.isW s):=by symm;rw [decide_eq_false_iff_not];intro h;unfold Fx.isW at h;rcases h with h | h | h | h | h | h | h | h | h | h | h | h <;> contradiction
  exact vb 0 [] e0
 refine vG [.seq s ⟨#[105,102]⟩,.u 1] fun G6=>?_;intro _ _
 refine vd (s=⟨#[105,102]⟩) (fun q5=>?_) fun q6=>?_
 ·refine vd (s=⟨#[105,102]⟩) (fun q7=>?_) fun q8=>?_
  ·refine vG [.kb true] fun G7=>?_;intro _ _
   have e0:true=decide (Fx.isW s):=by symm;rw [decide_eq_true_iff];unfold Fx.isW;simp [q7]
   exact vb 0 [] e0
  refine vG [.kb false] fun G8=>?_;intro _ _
  have e0:false=decide (Fx.isW s):=by symm;rw [decide_eq_false_iff_not];intro h;unfold Fx.isW at h;rcases h with h | h | h | h | h | h | h | h | h | h | h | h <;> contradiction
  exact vb 0 [] e0
 refine vG [.seq s ⟨#[116,104,101,110]⟩,.u 1] fun G9=>?_;intro _ _
 refine vd (s=⟨#[116,104,101,110]⟩) (fun q9=>?_) fun C=>?_
 ·refine vd (s=⟨#[116,104,101,110]⟩) (fun b=>?_) fun D=>?_
  ·refine vG [.kb true] fun E=>?_;intro _ _
   have e0:true=decide (Fx.isW s):=by symm;rw [decide_eq_true_iff];unfold Fx.isW;simp [b]
   exact vb 0 [] e0
  refine vG [.kb false] fun G=>?_;intro _ _
  have e0:false=decide (Fx.isW s):=by symm;rw [decide_eq_false_iff_not];intro h;unfold Fx.isW at h;rcases h with h | h | h | h | h | h | h | h | h | h | h | h <;> contradiction
  exact vb 0 [] e0
 refine vG [.seq s ⟨#[101,108,115,101]⟩,.u 1] fun H=>?_;intro _ _
 refine vd (s=⟨#[101,108,115,101]⟩) (fun I=>?_) fun M=>?_
 ·refine vd (s=⟨#[101,108,115,101]⟩) (fun d=>?_) fun P=>?_
  ·refine vG [.kb true] fun Q=>?_;intro _ _
   have e0:true=decide (Fx.isW s):=by symm;rw [decide_eq_true_iff];unfold Fx.isW;simp [d]
   exact vb 0 [] e0
  refine vG [.kb false] fun X=>?_;intro _ _
  have e0:false=decide (Fx.isW s):=by symm;rw [decide_eq_false_iff_not];intro h;unfold Fx.isW at h;rcases h with h | h | h | h | h | h | h | h | h | h | h | h <;> contradiction
  exact vb 0 [] e0
 refine vG [.seq s ⟨#[97,110,100]⟩,.u 1] fun Y=>?_;intro _ _
 refine vd (s=⟨#[97,110,100]⟩) (fun Z=>?_) fun ab=>?_
 ·refine vd (s=⟨#[97,110,100]⟩) (fun f=>?_) fun ac=>?_
  ·refine vG [.kb true] fun ad=>?_;intro _ _
   have e0:true=decide (Fx.isW s):=by symm;rw [decide_eq_true_iff];unfold Fx.isW;simp [f]
   exact vb 0 [] e0
  refine vG [.kb false] fun ae=>?_;intro _ _
  have e0:false=decide (Fx.isW s):=by symm;rw [decide_eq_false_iff_not];intro h;unfold Fx.isW at h;rcases h with h | h | h | h | h | h | h | h | h | h | h | h <;> contradiction
  exact vb 0 [] e0
 refine vG [.seq s ⟨#[111,114]⟩,.u 1] fun af=>?_;intro _ _
 refine vd (s=⟨#[111,114]⟩) (fun ah=>?_) fun ai=>?_
 ·refine vd (s=⟨#[111,114]⟩) (fun i=>?_) fun aj=>?_
  ·refine vG [.kb true] fun ak=>?_;intro _ _
   have e0:true=decide (Fx.isW s):=by symm;rw [decide_eq_true_iff];unfold Fx.isW;simp [i]
   exact vb 0 [] e0
  refine vG [.kb false] fun al=>?_;intro _ _
  have e0:false=decide (Fx.isW s):=by symm;rw [decide_eq_false_iff_not];intro h;unfold Fx.isW at h;rcases h with h | h | h | h | h | h | h | h | h | h | h | h <;> contradiction
  exact vb 0 [] e0
 refine vG [.seq s ⟨#[108,111,111,107]⟩,.u 1] fun am=>?_;intro _ _
 refine vd (s=⟨#[108,111,111,107]⟩) (fun an=>?_) fun ao=>?_
 ·refine vd (s=⟨#[108,111,111,107]⟩) (fun j=>?_) fun aq=>?_
  ·refine vG [.kb true] fun au=>?_;intro _ _
   have e0:true=decide (Fx.isW s):=by symm;rw [decide_eq_true_iff];unfold Fx.isW;simp [j]
   exact vb 0 [] e0
  refine vG [.kb false] fun av=>?_;intro _ _
  have e0:false=decide (Fx.isW s):=by symm;rw [decide_eq_false_iff_not];intro h;unfold Fx.isW at h;rcases h with h | h | h | h | h | h | h | h | h | h | h | h <;> contradiction
  exact vb 0 [] e0
 refine vG [.seq s ⟨#[109,105,110]⟩,.u 1] fun aw=>?_;intro _ _
 refine vd (s=⟨#[109,105,110]⟩) (fun ax=>?_) fun ay=>?_
 ·refine vd (s=⟨#[109,105,110]⟩) (fun o=>?_) fun az=>?_
  ·refine vG [.kb true] fun aA=>?_;intro _ _
   have e0:true=decide (Fx.isW s):=by symm;rw [decide_eq_true_iff];unfold Fx.isW;simp [o]
   exact vb 0 [] e0
  refine vG [.kb false] fun aB=>?_;intro _ _
  have e0:false=decide (Fx.isW s):=by symm;rw [decide_eq_false_iff_not];intro h;unfold Fx.isW at h;rcases h with h | h | h | h | h | h | h | h | h | h | h | h <;> contradiction
  exact vb 0 [] e0
 refine vG [.seq s ⟨#[109,97,120]⟩,.u 1] fun aC=>?_;intro _ _
 refine vd (s=⟨#[109,97,120]⟩) (fun aD=>?_) fun aE=>?_
 ·refine vd (s=⟨#[109,97,120]⟩) (fun t=>?_) fun aF=>?_
  ·refine vG [.kb true] fun aG=>?_;intro _ _
   have e0:true=decide (Fx.isW s):=by symm;rw [decide_eq_true_iff];unfold Fx.isW;simp [t]
   exact vb 0 [] e0
  refine vG [.kb false] fun aH=>?_;intro _ _
  have e0:false=decide (Fx.isW s):=by symm;rw [decide_eq_false_iff_not];intro h;unfold Fx.isW at h;rcases h with h | h | h | h | h | h | h | h | h | h | h | h <;> contradiction
  exact vb 0 [] e0
 refine vG [.seq s ⟨#[105,110,116,111]⟩,.u 1] fun aI=>?_;intro _ _
 refine vd (s=⟨#[105,110,116,111]⟩) (fun aJ=>?_) fun aK=>?_
 ·refine vd (s=⟨#[105,110,116,111]⟩) (fun w=>?_) fun aL=>?_
  ·refine vG [.kb true] fun aM=>?_;intro _ _
   have e0:true=decide (Fx.isW s):=by symm;rw [decide_eq_true_iff];unfold Fx.isW;simp [w]
   exact vb 0 [] e0
  refine vG [.kb false] fun aN=>?_;intro _ _
  have e0:false=decide (Fx.isW s):=by symm;rw [decide_eq_false_iff_not];intro h;unfold Fx.isW at h;rcases h with h | h | h | h | h | h | h | h | h | h | h | h <;> contradiction
  exact vb 0 [] e0
 refine vG [.seq s ⟨#[116,111]⟩,.u 1] fun aO=>?_;intro _ _
 refine vd (s=⟨#[116,111]⟩) (fun aP=>?_) fun aQ=>?_
 ·refine vd (s=⟨#[116,111]⟩) (fun A=>?_) fun aS=>?_
  ·refine vG [.kb true] fun aT=>?_;intro _ _
   have e0:true=decide (Fx.isW s):=by symm;rw [decide_eq_true_iff];unfold Fx.isW;simp [A]
   exact vb 0 [] e0
  refine vG [.kb false] fun aU=>?_;intro _ _
  have e0:false=decide (Fx.isW s):=by symm;rw [decide_eq_false_iff_not];intro h;unfold Fx.isW at h;rcases h with h | h | h | h | h | h | h | h | h | h | h | h <;> contradiction
  exact vb 0 [] e0
 refine vG [.seq s ⟨#[97,115]⟩,.u 1] fun aV=>?_;intro _ _
 refine vd (s=⟨#[97,115]⟩) (fun B=>?_) fun aW=>?_
 ·refine vG [.kb true] fun aX=>?_;intro _ _
  have e0:true=decide (Fx.isW s):=by symm;rw [decide_eq_true_iff];unfold Fx.isW;simp [B]
  exact vb 0 [] e0
 refine vG [.kb false] fun aY=>?_;intro _ _
 have e0:false=decide (Fx.isW s):=by symm;rw [decide_eq_false_iff_not];intro h;unfold Fx.isW at h;rcases h with h | h | h | h | h | h | h | h | h | h | h | h <;> contradiction
 exact vb 0 [] e0

theorem fnam_ct (s:BA) (hs:s.size≤9223372036854775807) :
  Cp Tryz.prog 137 #[tv s] [] (bv (decide (Fx.fre s))):=by
 refine vf mo Tryz.func137 10 0 fun _=>?_
 refine vG [.kb false] fun G1=>?_;intro _ _
 refine vG [.u 1,.cP 1 82 [] fun G=>lname_ct s (by omega),.u 2,.cp (gT (b:=decide (Tb.Nm s)) iDT) 4 83 [] (fun hg G=>fword_ct s),.u 1,.and g0 false (decide (Tb.Nm s)) (!(decide (Fx.isW s))),.u 1] fun G2=>?_;intro _ _
 have e0:((decide (Tb.Nm s)) && (!(decide (Fx.isW s))))=decide (Fx.fre s):=by
  refine Bool.eq_iff_iff.2 (Iff.trans (iAT iDT (iNT iDF)) (Iff.trans ?_ decide_eq_true_iff.symm));exact Iff.rfl
 exact vb 0 [] e0
theorem sfre_ct (s:BA) (hs:s.size≤9223372036854775807) :
  Cp Tryz.prog 44 #[tv s] [] (bv (decide (Fx.fre s))):=by
 refine vf mo Tryz.func44 10 0 fun _=>?_
 refine vG [.kb false] fun G1=>?_;intro _ _
 refine vG [.u 1,.cP 1 82 [] fun G=>lname_ct s (by omega),.u 2,.cp (gT (b:=decide (Tb.Nm s)) iDT) 4 83 [] (fun hg G=>fword_ct s),.u 1,.and g0 false (decide (Tb.Nm s)) (!(decide (Fx.isW s))),.u 1] fun G2=>?_;intro _ _
 have e0:((decide (Tb.Nm s)) && (!(decide (Fx.isW s))))=decide (Fx.fre s):=by
  refine Bool.eq_iff_iff.2 (Iff.trans (iAT iDT (iNT iDF)) (Iff.trans ?_ decide_eq_true_iff.symm));exact Iff.rfl
 exact vb 0 [] e0
theorem foper_ct (op:Int) :
  Cp Tryz.prog 138 #[iv op] [] (.tuple #[tv (Fx.opT op),bv (decide (Fx.isO op))]):=by
 refine vf mo Tryz.func138 21 0 fun _=>?_
 refine vG [.u 1,.kb false] fun G1=>?_;intro _ _
 refine vG [.u 1] fun G2=>?_;intro _ _
 refine vG [.u 2] fun G3=>?_;intro _ _
 refine vd (op=6) (fun q1=>?_) fun q2=>?_
 ·refine vG [.u 1,.kb true] fun G4=>?_;intro _ _
  have e0:⟨#[43]⟩=Fx.opT op:=by unfold Fx.opT;simp_all
  have e1:true=decide (Fx.isO op):=by symm;first | (rw [decide_eq_true_iff];unfold Fx.isO;omega) | (rw [decide_eq_false_iff_not];unfold Fx.isO;omega)
  exact V.rT [0,0] [] [] [] [] [] (cong2 (fun (b:ByteArray) (d:Bool)=>(.tuple #[tv b,bv d]:Value)) e0 e1)
 refine vG [.u 2] fun G5=>?_;intro _ _
 refine vd (op=7) (fun q3=>?_) fun q4=>?_
 ·refine vG [.u 1,.kb true] fun G6=>?_;intro _ _
  have e0:⟨#[45]⟩=Fx.opT op:=by unfold Fx.opT;simp_all
  have e1:true=decide (Fx.isO op):=by symm;first | (rw [decide_eq_true_iff];unfold Fx.isO;omega) | (rw [decide_eq_false_iff_not];unfold Fx.isO;omega)
  exact V.rT [0,0] [] [] [] [] [] (cong2 (fun (b:ByteArray) (d:Bool)=>(.tuple #[tv b,bv d]:Value)) e0 e1)
 refine vG [.u 2] fun G7=>?_;intro _ _
 refine vd (op=8) (fun q5=>?_) fun q6=>?_
 ·refine vG [.u 1,.kb true] fun G8=>?_;intro _ _
  have e0:⟨#[42]⟩=Fx.opT op:=by unfold Fx.opT;simp_all
  have e1:true=decide (Fx.isO op):=by symm;first | (rw [decide_eq_true_iff];unfold Fx.isO;omega) | (rw [decide_eq_false_iff_not];unfold Fx.isO;omega)
  exact V.rT [0,0] [] [] [] [] [] (cong2 (fun (b:ByteArray) (d:Bool)=>(.tuple #[tv b,bv d]:Value)) e0 e1)
 refine vG [.u 2] fun G9=>?_;intro _ _
 refine vd (op=9) (fun q7=>?_) fun q8=>?_
 ·refine vG [.u 1,.kb true] fun f=>?_;intro _ _
  have e0:⟨#[47]⟩=Fx.opT op:=by unfold Fx.opT;simp_all
  have e1:true=decide (Fx.isO op):=by symm;first | (rw [decide_eq_true_iff];unfold Fx.isO;omega) | (rw [decide_eq_false_iff_not];unfold Fx.isO;omega)
  exact V.rT [0,0] [] [] [] [] [] (cong2 (fun (b:ByteArray) (d:Bool)=>(.tuple #[tv b,bv d]:Value)) e0 e1)
 refine vG [.u 2] fun h=>?_;intro _ _
 refine vd (op=12) (fun q9=>?_) fun i=>?_
 ·refine vG [.u 1,.kb true] fun j=>?_;intro _ _
  have e0:⟨#[60]⟩=Fx.opT op:=by unfold Fx.opT;simp_all
  have e1:true=decide (Fx.isO op):=by symm;first | (rw [decide_eq_true_iff];unfold Fx.isO;omega) | (rw [decide_eq_false_iff_not];unfold Fx.isO;omega)
  exact V.rT [0,0] [] [] [] [] [] (cong2 (fun (b:ByteArray) (d:Bool)=>(.tuple #[tv b,bv d]:Value)) e0 e1)
 refine vG [.u 2] fun o=>?_;intro _ _
 refine vd (op=13) (fun t=>?_) fun w=>?_
 ·refine vG [.u 1,.kb true] fun A=>?_;intro _ _
  have e0:⟨#[61]⟩=Fx.opT op:=by unfold Fx.opT;simp_all
  have e1:true=decide (Fx.isO op):=by symm;first | (rw [decide_eq_true_iff];unfold Fx.isO;omega) | (rw [decide_eq_false_iff_not];unfold Fx.isO;omega)
  exact V.rT [0,0] [] [] [] [] [] (cong2 (fun (b:ByteArray) (d:Bool)=>(.tuple #[tv b,bv d]:Value)) e0 e1)
 refine vG [.u 2] fun B=>?_;intro _ _
 refine vd (op=14) (fun C=>?_) fun D=>?_
 ·refine vG [.u 1,.kb true] fun E=>?_;intro _ _
  have e0:⟨#[97,110,100]⟩=Fx.opT op:=by unfold Fx.opT;simp_all
  have e1:true=decide (Fx.isO op):=by symm;first | (rw [decide_eq_true_iff];unfold Fx.isO;omega) | (rw [decide_eq_false_iff_not];unfold Fx.isO;omega)
  exact V.rT [0,0] [] [] [] [] [] (cong2 (fun (b:ByteArray) (d:Bool)=>(.tuple #[tv b,bv d]:Value)) e0 e1)
 refine vG [.u 2] fun G=>?_;intro _ _
 refine vd (op=15) (fun H=>?_) fun I=>?_
 ·refine vG [.u 1,.kb true] fun M=>?_;intro _ _
  have e0:⟨#[111,114]⟩=Fx.opT op:=by unfold Fx.opT;simp_all
  have e1:true=decide (Fx.isO op):=by symm;first | (rw [decide_eq_true_iff];unfold Fx.isO;omega) | (rw [decide_eq_false_iff_not];unfold Fx.isO;omega)
  exact V.rT [0,0] [] [] [] [] [] (cong2 (fun (b:ByteArray) (d:Bool)=>(.tuple #[tv b,bv d]:Value)) e0 e1)
 refine vG [.u 1,.kb false] fun P=>?_;intro _ _
 have e0:ByteArray.empty=Fx.opT op:=by unfold Fx.opT;simp_all
 have e1:false=decide (Fx.isO op):=by symm;first | (rw [decide_eq_true_iff];unfold Fx.isO;omega) | (rw [decide_eq_false_iff_not];unfold Fx.isO;omega)
 exact V.rT [0,0] [] [] [] [] [] (cong2 (fun (b:ByteArray) (d:Bool)=>(.tuple #[tv b,bv d]:Value)) e0 e1)
theorem foper_ctv (op:Int) (b:ByteArray) (d:b=Fx.opT op) :
  Cp Tryz.prog 138 #[iv op] [] (.tuple #[tv b,bv (decide (Fx.isO op))]):=by
 subst d;exact foper_ct op 
theorem fnode_ct (x:DExpr) (hu:x.Unit.size≤9223372036854775807) (hm:x.Name.size≤9223372036854775807) :
  Cp Tryz.prog 103 #[ag x] [fs true x.Args.l x.Args.s] (bv (decide (Fx.nodeP x.Op x.N x.Unit x.Name (x.Args.l.length:Int)))):=by
 refine vf mo Tryz.func103 125 1 fun _=>?_
 refine vG [.n 0,.kb false] fun G1=>?_;intro _ _
 refine vG [.u 1,.l 0,.ln (kF 0 x.Args.l x.Args.s),.u 1] fun G2=>?_;intro _ _
 refine vG [.u 1,.l 0,.u 1] fun G3=>?_;intro _ _
 refine vd (x.Op=0) (fun q1=>?_) fun q2=>?_
 ·refine nm (Fx.quo x.Unit:ByteArray) fun t1 M=>vG [.u 1,.l 0,.cP 2 136 [] fun G=>lquo_ctv x.Unit (by omega) t1 M,.u 5] fun G4=>?_;intro _ _
  refine nm (((decide (Fx.Qt x.Unit)) && (decide (0≤x.N))) && (decide (x.N≤1099511627776)):Bool) fun p1 t=>nm ((p1 && (decide (x.Name=ByteArray.empty))) && (decide ((x.Args.l.length:Int)=0)):Bool) fun p2 w=>vG [.u 3,.l 0,.u 1,.and g0 false (decide (Fx.Qt x.Unit)) (decide (0≤x.N)),.u 2,.l 0,.u 1,.andn g0 false ((decide (Fx.Qt x.Unit)) && (decide (0≤x.N))) (decide (x.N≤1099511627776)) p1 t,.u 2,.l 0,.seq x.Name ByteArray.empty,.and g0 false p1 (decide (x.Name=ByteArray.empty)),.u 3,.andn g0 false (p1 && (decide (x.Name=ByteArray.empty))) (decide ((x.Args.l.length:Int)=0)) p2 w,.u 1] fun G5=>?_;intro _ _
  have e0:p2=decide (Fx.nodeP x.Op x.N x.Unit x.Name (x.Args.l.length:Int)):=by
   refine Bool.eq_iff_iff.2 (Iff.trans (iN w (iAT (iAT (iN t (iAT (iAT iDT iDT) iDT)) iDT) iDT)) (Iff.trans ?_ decide_eq_true_iff.symm));unfold Fx.nodeP
   grind
  exact vb 0 [] e0
 refine nm ((!(decide (x.N=0))) || (!(decide (x.Unit=ByteArray.empty))):Bool) fun p3 i=>vG [.u 1,.l 0,.u 3,.l 0,.sne x.Unit ByteArray.empty,.orn g0 false (!(decide (x.N=0))) (!(decide (x.Unit=ByteArray.empty))) p3 i] fun G6=>?_;intro _ _
 refine V.cn (b:=p3) (iN i (iOT (iNT iDF) (iNT iDF))) (iN i (iOF (iNF iDT) (iNF iDT))) (fun q3=>?_) (fun q4=>?_)
 ·refine vG [.kb false] fun G7=>?_;intro _ _
  have e0:false=decide (Fx.nodeP x.Op x.N x.Unit x.Name (x.Args.l.length:Int)):=by
   refine Bool.eq_iff_iff.2 (Iff.trans iFT (Iff.trans ?_ decide_eq_true_iff.symm));unfold Fx.nodeP
   grind
  exact vb 0 [] e0
 refine vG [.u 1,.l 0] fun G8=>?_;intro _ _
 refine vG [.u 2] fun G9=>?_;intro _ _
 refine vd (x.Op=1) (fun q5=>?_) fun q6=>?_
 ·refine nm ((decide (Fx.fre x.Name)) && (decide ((x.Args.l.length:Int)=0)):Bool) fun p4 A=>vG [.u 1,.l 0,.cP 2 137 [] fun G=>fnam_ct x.Name (by omega),.u 3,.andn g0 false (decide (Fx.fre x.Name)) (decide ((x.Args.l.length:Int)=0)) p4 A,.u 1] fun X=>?_;intro _ _
  have e0:p4=decide (Fx.nodeP x.Op x.N x.Unit x.Name (x.Args.l.length:Int)):=by
   refine Bool.eq_iff_iff.2 (Iff.trans (iN A (iAT iDT iDT)) (Iff.trans ?_ decide_eq_true_iff.symm));unfold Fx.nodeP
   grind
  exact vb 0 [] e0
 refine vG [.u 2] fun Y=>?_;intro _ _
 refine vd (x.Op=2) (fun q7=>?_) fun q8=>?_
 ·refine nm ((decide (Fx.fre x.Name)) && (decide ((x.Args.l.length:Int)=1)):Bool) fun p5 B=>vG [.u 1,.l 0,.cP 2 137 [] fun G=>fnam_ct x.Name (by omega),.u 3,.andn g0 false (decide (Fx.fre x.Name)) (decide ((x.Args.l.length:Int)=1)) p5 B,.u 1] fun Z=>?_;intro _ _
  have e0:p5=decide (Fx.nodeP x.Op x.N x.Unit x.Name (x.Args.l.length:Int)):=by
   refine Bool.eq_iff_iff.2 (Iff.trans (iN B (iAT iDT iDT)) (Iff.trans ?_ decide_eq_true_iff.symm));unfold Fx.nodeP
   grind
  exact vb 0 [] e0
 refine vG [.u 2] fun ab=>?_;intro _ _
 refine vd (x.Op=3) (fun q9=>?_) fun ac=>?_
 ·refine nm ((decide (Fx.fre x.Name)) && (decide (1≤(x.Args.l.length:Int))):Bool) fun p6 C=>vG [.u 1,.l 0,.cP 2 137 [] fun G=>fnam_ct x.Name (by omega),.u 3,.andn g0 false (decide (Fx.fre x.Name)) (decide (1≤(x.Args.l.length:Int))) p6 C,.u 3,.and g0 false p6 (decide ((x.Args.l.length:Int)≤6)),.u 1] fun ad=>?_;intro _ _
  have e0:(p6 && (decide ((x.Args.l.length:Int)≤6)))=decide (Fx.nodeP x.Op x.N x.Unit x.Name (x.Args.l.length:Int)):=by
   refine Bool.eq_iff_iff.2 (Iff.trans (iAT (iN C (iAT iDT iDT)) iDT) (Iff.trans ?_ decide_eq_true_iff.symm));unfold Fx.nodeP
   grind
  exact vb 0 [] e0
 refine vG [.u 2] fun ae=>?_;intro _ _
 refine vd (x.Op=4) (fun af=>?_) fun ah=>?_
 ·refine nm ((decide (x.Name=ByteArray.empty)) && (decide ((x.Args.l.length:Int)=1)):Bool) fun p7 D=>vG [.u 1,.l 0,.seq x.Name ByteArray.empty,.u 3,.andn g0 false (decide (x.Name=ByteArray.empty)) (decide ((x.Args.l.length:Int)=1)) p7 D,.u 1] fun ai=>?_;intro _ _
  have e0:p7=decide (Fx.nodeP x.Op x.N x.Unit x.Name (x.Args.l.length:Int)):=by
   refine Bool.eq_iff_iff.2 (Iff.trans (iN D (iAT iDT iDT)) (Iff.trans ?_ decide_eq_true_iff.symm));unfold Fx.nodeP
   grind
  exact vb 0 [] e0
 refine vG [.u 2] fun aj=>?_;intro _ _
 refine vd (x.Op=5) (fun ak=>?_) fun al=>?_
 ·refine nm ((decide (x.Name=ByteArray.empty)) && (decide ((x.Args.l.length:Int)=3)):Bool) fun p8 E=>vG [.u 1,.l 0,.seq x.Name ByteArray.empty,.u 3,.andn g0 false (decide (x.Name=ByteArray.empty)) (decide ((x.Args.l.length:Int)=3)) p8 E,.u 1] fun am=>?_;intro _ _
  have e0:p8=decide (Fx.nodeP x.Op x.N x.Unit x.Name (x.Args.l.length:Int)):=by
   refine Bool.eq_iff_iff.2 (Iff.trans (iN E (iAT iDT iDT)) (Iff.trans ?_ decide_eq_true_iff.symm));unfold Fx.nodeP
   grind
  exact vb 0 [] e0
 refine vG [.u 2] fun an=>?_;intro _ _
 refine vd (x.Op=10) (fun ao=>?_) fun aq=>?_
 ·refine vd (x.Op=10) (fun au=>?_) fun av=>?_
  ·refine nm ((decide (x.Name=ByteArray.empty)) && (decide ((x.Args.l.length:Int)=2)):Bool) fun p9 H=>vG [.u 1,.l 0,.seq x.Name ByteArray.empty,.u 3,.andn g0 false (decide (x.Name=ByteArray.empty)) (decide ((x.Args.l.length:Int)=2)) p9 H,.u 1] fun aw=>?_;intro _ _
   have e0:p9=decide (Fx.nodeP x.Op x.N x.Unit x.Name (x.Args.l.length:Int)):=by
    refine Bool.eq_iff_iff.2 (Iff.trans (iN H (iAT iDT iDT)) (Iff.trans ?_ decide_eq_true_iff.symm));unfold Fx.nodeP
    grind
   exact vb 0 [] e0
  refine nm (Fx.opT x.Op:ByteArray) fun t2 P=>vG [.u 1,.l 0,.cP 2 138 [] fun G=>foper_ctv x.Op t2 P,.u 5] fun ax=>?_;intro _ _
  refine nm ((decide (Fx.isO x.Op)) && (decide (x.Name=ByteArray.empty)):Bool) fun j d=>vG [.u 3,.l 0,.seq x.Name ByteArray.empty,.andn g0 false (decide (Fx.isO x.Op)) (decide (x.Name=ByteArray.empty)) j d,.u 3,.and g0 false j (decide ((x.Args.l.length:Int)=2)),.u 1] fun ay=>?_;intro _ _
  have e0:(j && (decide ((x.Args.l.length:Int)=2)))=decide (Fx.nodeP x.Op x.N x.Unit x.Name (x.Args.l.length:Int)):=by
   refine Bool.eq_iff_iff.2 (Iff.trans (iAT (iN d (iAT iDT iDT)) iDT) (Iff.trans ?_ decide_eq_true_iff.symm));unfold Fx.nodeP
   grind
  exact vb 0 [] e0
 refine vG [.u 2] fun az=>?_;intro _ _
 refine vd (x.Op=11) (fun aA=>?_) fun aB=>?_
 ·refine nm ((decide (x.Name=ByteArray.empty)) && (decide ((x.Args.l.length:Int)=2)):Bool) fun I f=>vG [.u 1,.l 0,.seq x.Name ByteArray.empty,.u 3,.andn g0 false (decide (x.Name=ByteArray.empty)) (decide ((x.Args.l.length:Int)=2)) I f,.u 1] fun aC=>?_;intro _ _
  have e0:I=decide (Fx.nodeP x.Op x.N x.Unit x.Name (x.Args.l.length:Int)):=by
   refine Bool.eq_iff_iff.2 (Iff.trans (iN f (iAT iDT iDT)) (Iff.trans ?_ decide_eq_true_iff.symm));unfold Fx.nodeP
   grind
  exact vb 0 [] e0
 refine nm (Fx.opT x.Op:ByteArray) fun t3 Q=>vG [.u 1,.l 0,.cP 2 138 [] fun G=>foper_ctv x.Op t3 Q,.u 5] fun aD=>?_;intro _ _
 refine nm ((decide (Fx.isO x.Op)) && (decide (x.Name=ByteArray.empty)):Bool) fun o h=>vG [.u 3,.l 0,.seq x.Name ByteArray.empty,.andn g0 false (decide (Fx.isO x.Op)) (decide (x.Name=ByteArray.empty)) o h,.u 3,.and g0 false o (decide ((x.Args.l.length:Int)=2)),.u 1] fun aE=>?_;intro _ _
 have e0:(o && (decide ((x.Args.l.length:Int)=2)))=decide (Fx.nodeP x.Op x.N x.Unit x.Name (x.Args.l.length:Int)):=by
  refine Bool.eq_iff_iff.2 (Iff.trans (iAT (iN h (iAT iDT iDT)) iDT) (Iff.trans ?_ decide_eq_true_iff.symm));unfold Fx.nodeP
  grind
 exact vb 0 [] e0

theorem fcnt_ct_n (m0:Nat):∀ (x:DExpr) (o:Nat) (i d:Int) (hn:0≤i∧i≤200) (hv:0≤d∧d≤1000),Fx.sz (er x) < m0 →
  Ct Tryz.prog 57 #[ag x,pp o 0,iv d] [fs true x.Args.l x.Args.s] [.blk o #[iv i] 3] (fun g=>bv ((Fx.cnt (er x) d i).1)) (fun g=>[]) (fun g=>[.blk o #[iv ((Fx.cnt (er x) d i).2)] 3]) (fun g=>[]):=by
 induction m0 with
 | zero=>intro _ _ _ _ _ _ hm;exact absurd hm (Nat.not_lt_zero _)
 | succ m0 ih =>
  intro x o i d hn hv hm;refine vf mo Tryz.func57 36 2 fun k0=>?_;obtain ⟨E, -⟩:Lq x.Args.l x.Args.s.v:=kj k0 0
  refine vG [.n 1,.kb false] fun G1=>?_;intro _ _
  refine vG [.u 2,.l 0,.aa (i+1),.u 1,.s 0] fun G2=>?_;intro _ _
  refine nm ((decide (200 < i+1)) || (decide (20 < d)):Bool) fun p1 A=>vG [.u 2,.l 0,.u 4,.orn g0 false (decide (200 < i+1)) (decide (20 < d)) p1 A] fun G3=>?_;intro _ _
  refine V.cn (b:=p1) (iN A (iOT iDT iDT)) (iN A (iOF iDF iDF)) (fun q1=>?_) (fun q2=>?_)
  ·refine vG [.kb false] fun G4=>?_;intro _ _
   have e0:false=(Fx.cnt (er x) d i).1:=by rw [Fx.cnt_er x,if_pos (by omega)]
   have t:(i+1)=(Fx.cnt (er x) d i).2:=by rw [Fx.cnt_er x,if_pos (by omega)]
   refine V.alt (fun (zz:Int)=>(⟨[(6,bv false)],[fs false x.Args.l x.Args.s],[.blk o #[iv zz] 3,.blk ((G1 0).b) (ca x) 48,.no]⟩:St)) t [0] (by kernel_rfl) ?_;exact vb 0 [0] e0
  refine vG [.u 1,.l 1,.ln (kF 0 x.Args.l x.Args.s),.u 1] fun G5=>?_;intro _ _
  refine V.lp (γ:=Int × Int) (fun ⟨k0,j⟩=>⟨[(1,pp o 0),(2,iv d),(23,x.Args.s.v),(24,iv (x.Args.l.length:Int)),(25,iv k0)],[fs false x.Args.l x.Args.s],[.blk o #[iv j] 3,.no,.no]⟩) (fun ⟨k0,j⟩=>(0≤k0)∧(k0≤(x.Args.l.length:Int))∧(Fx.cntL (x.Args.l.map er) (d+1) (i+1)=Fx.cntL ((x.Args.l.map er).drop k0.toNat) (d+1) j)∧(0≤j∧j≤200)) (fun ⟨k0,j⟩=>((x.Args.l.length:Int)-k0).toNat) (0,i+1) [0] ?_ ?_
  ·refine ⟨by omega,by omega,?_,?_⟩
   ·show Fx.cntL (x.Args.l.map er) (d+1) (i+1)=Fx.cntL ((x.Args.l.map er).drop (0:Int).toNat) (d+1) (i+1);rfl
   show 0≤(i+1)∧(i+1)≤200
   first | omega | rfl | (simp;done) | (subst_vars;simp;done)
  rintro ⟨k0,j⟩ hF1 kw6 Z1 hZ1;obtain ⟨I,M,w,P⟩:=hF1;refine vG [.u 1] fun G6=>?_;intro _ _;refine vd (k0 < (x.Args.l.length:Int)) (fun q3=>?_) fun q4=>?_
  ·refine nm (x.Args.l.getD k0.toNat default:DExpr) fun x1 B=>vG [.iX (kF 0 x.Args.l x.Args.s) k0,.lE (kF 0 x.Args.l x.Args.s) k0 true x1 B true,.n 2,.s 2] fun G7=>?_;intro _ _
   refine vG [.l 2,.u 2,.aa (d+1),.cB 4 57 false [0] [] [(kx false (.f 1) x1 x1.Args.l (fun _=>x1.Args.s) (fun _ H (h:Dat.good H (x1:DExpr))=>(exG.1 h))).a] fun G=>ih x1 o j (d+1) (by omega) (by omega) (by have:=Fx.sz_arg (x:=x) (getD_mem (by omega) B);omega),.u 1] fun G8=>?_;intro _ _
   have D:=Fx.cnt_rng (er x1) (d+1) j;have C:=Fx.cntL_step (v:=d+1) (n:=j) (by omega) (by omega) B;refine V.cn (b:=!((Fx.cnt (er x1) (d+1) j).1)) (iNT Iff.rfl) (iNF Iff.rfl) (fun q5=>?_) (fun q6=>?_)
   ·refine vG [.kb false] fun G9=>?_;intro _ _
    have e0:false=(Fx.cnt (er x) d i).1:=by rw [Fx.cnt_er x,if_neg (by omega),w,C,if_neg (by first | exact q5 | (intro h;rw [q5] at h;cases h))]
    have t:((Fx.cnt (er x1) (d+1) j).2)=(Fx.cnt (er x) d i).2:=by rw [Fx.cnt_er x,if_neg (by omega),w,C,if_neg (by first | exact q5 | (intro h;rw [q5] at h;cases h))]
    refine V.alt (fun (zz:Int)=>(⟨[(6,bv false)],[fs false x.Args.l x.Args.s,gf false x1],[.blk o #[iv zz] 3,.no,.blk ((G7 2).b) (ca x1) 48]⟩:St)) t [0,1] (by kernel_rfl) ?_;exact vb 0 [0] e0
   refine vG [.aa (k0+1),.u 1] fun Q=>?_;intro _ _
   refine V.rn hZ1 (k0+1,(Fx.cnt (er x1) (d+1) j).2) [0] ?_ ?_
   ·refine ⟨by omega,by omega,?_,?_⟩
    ·show Fx.cntL (x.Args.l.map er) (d+1) (i+1)=Fx.cntL ((x.Args.l.map er).drop (k0+1).toNat) (d+1) ((Fx.cnt (er x1) (d+1) j).2);rw [w,C,if_pos (by first | exact q6 | exact Decidable.not_not.1 q6)]
    show 0≤((Fx.cnt (er x1) (d+1) j).2)∧((Fx.cnt (er x1) (d+1) j).2)≤200;have h8:=D.2.2 (by first | exact q6 | exact Decidable.not_not.1 q6);omega
   dsimp only;omega
  refine vG [.kb true] fun X=>?_;intro _ _
  have e0:true=(Fx.cnt (er x) d i).1:=by rw [Fx.cnt_er x,if_neg (by omega),w,List.drop_eq_nil_of_le (by rw [List.length_map];omega)];rfl
  have t:j=(Fx.cnt (er x) d i).2:=by rw [Fx.cnt_er x,if_neg (by omega),w,List.drop_eq_nil_of_le (by rw [List.length_map];omega)];rfl
  refine V.alt (fun (zz:Int)=>(⟨[(6,bv true)],[fs false x.Args.l x.Args.s],[.blk o #[iv zz] 3,.no,.no]⟩:St)) t [0] (by kernel_rfl) ?_;exact vb 0 [0] e0
theorem fcnt_ct (x:DExpr) (f:Nat) (b d:Int) (hn:0≤b∧b≤200) (hv:0≤d∧d≤1000) :
  Ct Tryz.prog 57 #[ag x,pp f 0,iv d] [fs true x.Args.l x.Args.s] [.blk f #[iv b] 3] (fun g=>bv ((Fx.cnt (er x) d b).1)) (fun g=>[]) (fun g=>[.blk f #[iv ((Fx.cnt (er x) d b).2)] 3]) (fun g=>[]):=fcnt_ct_n (Fx.sz (er x)+1) x f b d hn hv (Nat.lt_succ_self _)
theorem fshpc_ct (y:DExpr) (m0:Nat) (ih:∀ (x:DExpr) (hS:Fx.sm (er x)),Fx.sz (er x) < m0→Cp Tryz.prog 58 #[ag x] [fs true x.Args.l x.Args.s] (bv (decide (Fx.shp (er x))))) (hS:Fx.sm (er y)) (hm:Fx.sz (er y) < m0) :
  Cp Tryz.prog 102 #[ag y] [fs true y.Args.l y.Args.s] (bv (!decide (Fx.shp (er y)))):=by
 refine vf mo Tryz.func102 6 1 fun _=>?_
 refine vG [.n 0,.kb false] fun G1=>?_;intro _ _
 refine vG [.l 0,.cP 1 58 [kA 0 y.Args.l y.Args.s] fun G=>ih y (by assumption) (by omega),.u 2] fun G2=>?_;intro _ _
 have e0:(!(decide (Fx.shp (er y))))=!decide (Fx.shp (er y)):=by first | rfl | omega | simp_all
 exact vb 0 [] e0
theorem fshpi_ct (s:List DExpr) (ss:SV) (m0:Nat) (ih:∀ (x:DExpr) (hS:Fx.sm (er x)),Fx.sz (er x) < m0→Cp Tryz.prog 58 #[ag x] [fs true x.Args.l x.Args.s] (bv (decide (Fx.shp (er x))))) (hS:∀ y ∈ s,Fx.sm (er y)) (hm:∀ y ∈ s,Fx.sz (er y) < m0) :
  Cp Tryz.prog 133 #[ss.v,.func (.func 102) #[] #[]] [fs true s ss] (iv (fidx (fun y:DExpr=>!decide (Fx.shp (er y))) s)):=by
 refine vf mo Tryz.func133 19 0 fun k0=>?_;obtain ⟨f, -⟩:Lq s ss.v:=kj k0 0
 refine vG [.u 1] fun G1=>?_;intro _ _
 refine vG [.u 1,.ln (kF 0 s ss),.u 1] fun G2=>?_;intro _ _
 refine V.lp (γ:=Int) (fun k0=>⟨[(0,ss.v),(1,.func (.func 102) #[] #[]),(7,iv (s.length:Int)),(8,iv k0)],[fs false s ss],[]⟩) (fun k0=>(0≤k0)∧(k0≤(s.length:Int))∧(∀ j,j < k0.toNat→(fun y:DExpr=>!decide (Fx.shp (er y))) (s.getD j default)=false)) (fun k0=>((s.length:Int)-k0).toNat) 0 [0] ?_ ?_
 ·refine ⟨by omega,by omega,?_⟩;show ∀ j,j < (0:Int).toNat→(fun y:DExpr=>!decide (Fx.shp (er y))) (s.getD j default)=false;intro j hj;simp at hj
 rintro k0 hF1 kw3 Z1 hZ1;obtain ⟨i,o,d⟩:=hF1;refine vG [.u 1] fun G3=>?_;intro _ _;refine vd (k0 < (s.length:Int)) (fun q1=>?_) fun q2=>?_
 ·refine vG [.u 2] fun G4=>?_;intro _ _
  refine nm (s.getD k0.toNat default:DExpr) fun x1 b=>vG [.u 3,.iX (kF 0 s ss) k0,.lE (kF 0 s ss) k0 true x1 b true,.cP 5 102 [(kx false (.g 4 0) x1 x1.Args.l (fun _=>x1.Args.s) (fun _ H (h:Dat.good H (x1:DExpr))=>(exG.1 h))).a] fun G=>fshpc_ct x1 m0 ih (hS _ (getD_mem (by omega) b)) (hm _ (getD_mem (by omega) b))] fun G5=>?_;intro _ _
  refine vc (!decide (Fx.shp (er x1))) (fun q3=>?_) fun q4=>?_
  ·refine vG [.u 2] fun G6=>?_;intro _ _
   have e0:k0=fidx (fun y:DExpr=>!decide (Fx.shp (er y))) s:=by rw [fidx_at (p:=(fun y:DExpr=>!decide (Fx.shp (er y)))) (k:=k0) (by omega) (by omega) b d (by simpa using q3)]
   exact vi 0 [] e0
  refine vG [.aa (k0+1),.u 1] fun G7=>?_;intro _ _
  refine V.rn hZ1 (k0+1) [0] ?_ ?_
  ·refine ⟨by omega,by omega,?_⟩;show ∀ j,j < (k0+1).toNat→(fun y:DExpr=>!decide (Fx.shp (er y))) (s.getD j default)=false;exact fidx_step (p:=(fun y:DExpr=>!decide (Fx.shp (er y)))) d (by omega) b (by simpa using q4)
  omega
 refine vG [.u 1] fun G8=>?_;intro _ _
 have e0:(-1:Int)=fidx (fun y:DExpr=>!decide (Fx.shp (er y))) s:=(fidx_no fun j hj=>d j (by omega)).symm;exact vi 0 [] e0
theorem fshpi_ctv (s:List DExpr) (ss:SV) (m0:Nat) (ih:∀ (x:DExpr) (hS:Fx.sm (er x)),Fx.sz (er x) < m0→Cp Tryz.prog 58 #[ag x] [fs true x.Args.l x.Args.s] (bv (decide (Fx.shp (er x))))) (hS:∀ y ∈ s,Fx.sm (er y)) (hm:∀ y ∈ s,Fx.sz (er y) < m0) (b:Int) (d:b=fidx (fun y:DExpr=>!decide (Fx.shp (er y))) s) :
  Cp Tryz.prog 133 #[ss.v,.func (.func 102) #[] #[]] [fs true s ss] (iv b):=by
 subst d;exact fshpi_ct s ss m0 ih hS hm
theorem fshpk_ct (s:List DExpr) (ss:SV) (m0:Nat) (ih:∀ (x:DExpr) (hS:Fx.sm (er x)),Fx.sz (er x) < m0→Cp Tryz.prog 58 #[ag x] [fs true x.Args.l x.Args.s] (bv (decide (Fx.shp (er x))))) (hS:∀ y ∈ s,Fx.sm (er y)) (hm:∀ y ∈ s,Fx.sz (er y) < m0) :
  Cp Tryz.prog 94 #[ss.v,.func (.func 102) #[] #[]] [fs true s ss] (bv (s.any (fun y:DExpr=>!decide (Fx.shp (er y))))):=by
 refine vf mo Tryz.func94 9 0 fun _=>?_
 refine vG [.kb false] fun G1=>?_;intro _ _
 refine nm (fidx (fun y:DExpr=>!decide (Fx.shp (er y))) s:Int) fun n1 b=>vG [.u 2,.cP 2 133 [kA 0 s ss] fun G=>fshpi_ctv s ss m0 ih (by assumption) (by assumption) n1 b,.u 2] fun G2=>?_;intro _ _
 have e0:(decide (0≤n1))=s.any (fun y:DExpr=>!decide (Fx.shp (er y))):=by
  refine Bool.eq_iff_iff.2 (Iff.trans iDT (Iff.trans ?_ Iff.rfl));have d:=b;rw [d];exact fidx_nn
 exact vb 0 [] e0
theorem fshp_ct_n (m0:Nat):∀ (x:DExpr) (hS:Fx.sm (er x)),Fx.sz (er x) < m0 →
  Cp Tryz.prog 58 #[ag x] [fs true x.Args.l x.Args.s] (bv (decide (Fx.shp (er x)))):=by
 induction m0 with
 | zero=>intro _ _ hm;exact absurd hm (Nat.not_lt_zero _)
 | succ m0 ih =>
  intro x hS hm;refine vf mo Tryz.func58 13 1 fun _=>?_
  have d:=(Fx.sm_iff x).1 hS;refine vG [.n 0,.kb false] fun G1=>?_;intro _ _
  refine vG [.u 1] fun G2=>?_;intro _ _
  refine nm ((decide (Fx.nodeP x.Op x.N x.Unit x.Name (x.Args.l.length:Int))) && (!(x.Args.l.any (fun y:DExpr=>!decide (Fx.shp (er y))))):Bool) fun p1 f=>vG [.l 0,.cP 1 103 [kA 0 x.Args.l x.Args.s] fun G=>fnode_ct x d.1.1 d.1.2,.u 2,.l 0,.u 1,.cp (gT (b:=decide (Fx.nodeP x.Op x.N x.Unit x.Name (x.Args.l.length:Int))) iDT) 6 94 [kA 0 x.Args.l x.Args.s] (fun hg G=>fshpk_ct x.Args.l x.Args.s m0 ih d.2 (fun y hy=>by have:=Fx.sz_arg hy;omega)),.u 1,.andn g0 false (decide (Fx.nodeP x.Op x.N x.Unit x.Name (x.Args.l.length:Int))) (!(x.Args.l.any (fun y:DExpr=>!decide (Fx.shp (er y))))) p1 f,.u 1] fun G3=>?_;intro _ _
  have e0:p1=decide (Fx.shp (er x)):=by
   refine Bool.eq_iff_iff.2 (Iff.trans (iN f (iAT iDT (iNT Iff.rfl))) (Iff.trans ?_ decide_eq_true_iff.symm));rw [Fx.shp_iff];simp
  exact vb 0 [] e0
theorem fshp_ct (x:DExpr) (hS:Fx.sm (er x)) :
  Cp Tryz.prog 58 #[ag x] [fs true x.Args.l x.Args.s] (bv (decide (Fx.shp (er x)))):=fshp_ct_n (Fx.sz (er x)+1) x hS (Nat.lt_succ_self _)
theorem frt_ct (x:DExpr) (hS:Fx.sm (er x)) :
  Cp Tryz.prog 25 #[ag x] [fs true x.Args.l x.Args.s] (bv (decide (Fx.rt (er x)))):=by
 refine vf mo Tryz.func25 10 2 fun _=>?_
 refine vG [.n 0,.kb false] fun G1=>?_;intro _ _
 refine vG [.n 1,.s 1] fun G2=>?_;intro _ _
 refine nm (((Fx.cnt (er x) (1:Int) (0:Int)).1) && (decide (Fx.shp (er x))):Bool) fun p1 d=>vG [.l 0,.cB 1 57 false [1] [] [kA 0 x.Args.l x.Args.s] fun G=>fcnt_ct x ((G2 0).b) (0:Int) (1:Int) (by omega) (by omega),.u 1,.l 0,.cp (gT (b:=(Fx.cnt (er x) (1:Int) (0:Int)).1) Iff.rfl) 4 58 [kA 0 x.Args.l x.Args.s] (fun hg G=>fshp_ct x (by assumption)),.andn g0 false ((Fx.cnt (er x) (1:Int) (0:Int)).1) (decide (Fx.shp (er x))) p1 d,.u 1] fun G3=>?_;intro _ _
 have e0:p1=decide (Fx.rt (er x)):=by
  refine Bool.eq_iff_iff.2 (Iff.trans (iN d (iAT Iff.rfl iDT)) (Iff.trans ?_ decide_eq_true_iff.symm));exact Iff.rfl
 exact vb 0 [] e0

theorem srds_ct (s:BA) (hs:s.size≤9223372036854775807) :
  Cp Tryz.prog 84 #[tv s] [] (bv (decide (Sx.rds s))):=by
 refine vf mo Tryz.func84 12 1 fun _=>?_
 refine vG [.kb false] fun G1=>?_;intro _ _
 refine nm (Un.dv ((Un.read s).1) 0:Int) fun n1 d=>nm (Un.dv ((Un.read s).1) 1:Int) fun n2 f=>nm (Un.dv ((Un.read s).1) 2:Int) fun n3 h=>nm (Un.dv ((Un.read s).1) 3:Int) fun n4 i=>nm (Un.dv ((Un.read s).1) 4:Int) fun n5 j=>nm (Un.dv ((Un.read s).1) 5:Int) fun n6 o=>nm (Fr.rS (((Un.read s).1).isSome=true) (Un.fv ((Un.read s).1)):Int) fun n7 t=>nm (Fr.rD (((Un.read s).1).isSome=true) (Un.fv ((Un.read s).1)):LI) fun l1 w=>nm (Fr.rT (((Un.read s).1).isSome=true):Int) fun n8 A=>nm (Fr.rE (((Un.read s).1).isSome=true) (Un.fv ((Un.read s).1)):LI) fun l2 B=>nm ((Un.read s).2:Int) fun n9 b=>vG [.u 1,.cA 1 123 [] fun G=>uread_ctv s (by omega) n1 d n2 f n3 h n4 i n5 j n6 o n7 t l1 w n8 A l2 B n9 b,.u 3,.n 0,.s 0,.u 1] fun G2=>?_;intro _ _
 refine vG [.u 3] fun G3=>?_;intro _ _
 have e0:(decide (n9=0))=decide (Sx.rds s):=by
  rw [b];refine Bool.eq_iff_iff.2 (Iff.trans iDT (Iff.trans ?_ decide_eq_true_iff.symm));exact Iff.rfl
 exact vb 0 [] e0
theorem samt_ct (n:Int) :
  Cp Tryz.prog 85 #[iv n] [] (bv (decide (Sx.amt n))):=by
 refine vf mo Tryz.func85 9 0 fun _=>?_
 refine vG [.kb false] fun G1=>?_;intro _ _
 refine nm ((decide (1≤n)) && (decide (n≤1099511627776)):Bool) fun p1 b=>vG [.u 5,.andn g0 false (decide (1≤n)) (decide (n≤1099511627776)) p1 b,.u 1] fun G2=>?_;intro _ _
 have e0:p1=decide (Sx.amt n):=by
  refine Bool.eq_iff_iff.2 (Iff.trans (iN b (iAT iDT iDT)) (Iff.trans ?_ decide_eq_true_iff.symm));exact Iff.rfl
 exact vb 0 [] e0
theorem snmc_ct (s:BA) (hs:s.size≤9223372036854775807) :
  Cp Tryz.prog 127 #[tv s] [] (bv (!decide (Fx.fre s))):=by
 refine vf mo Tryz.func127 6 0 fun _=>?_
 refine vG [.kb false] fun G1=>?_;intro _ _
 refine vG [.u 1,.cP 1 44 [] fun G=>sfre_ct s (by omega),.u 2] fun G2=>?_;intro _ _
 have e0:(!(decide (Fx.fre s)))=!decide (Fx.fre s):=by first | rfl | omega | simp_all
 exact vb 0 [] e0
theorem snmi_ct (s:List ByteArray) (ss:SV) (hS:∀ x ∈ s,ByteArray.size x≤9223372036854775807) :
  Cp Tryz.prog 157 #[ss.v,.func (.func 127) #[] #[]] [fs true s ss] (iv (fidx (fun y:ByteArray=>!decide (Fx.fre y)) s)):=by
 refine vf mo Tryz.func157 19 0 fun k0=>?_;obtain ⟨f, -⟩:Lq s ss.v:=kj k0 0
 refine vG [.u 1] fun G1=>?_;intro _ _
 refine vG [.u 1,.ln (kF 0 s ss),.u 1] fun G2=>?_;intro _ _
 refine V.lp (γ:=Int) (fun k0=>⟨[(0,ss.v),(1,.func (.func 127) #[] #[]),(7,iv (s.length:Int)),(8,iv k0)],[fs false s ss],[]⟩) (fun k0=>(0≤k0)∧(k0≤(s.length:Int))∧(∀ j,j < k0.toNat→(fun y:ByteArray=>!decide (Fx.fre y)) (s.getD j default)=false)) (fun k0=>((s.length:Int)-k0).toNat) 0 [0] ?_ ?_
 ·refine ⟨by omega,by omega,?_⟩;show ∀ j,j < (0:Int).toNat→(fun y:ByteArray=>!decide (Fx.fre y)) (s.getD j default)=false;intro j hj;simp at hj
 rintro k0 hF1 kw3 Z1 hZ1;obtain ⟨h,i,d⟩:=hF1;refine vG [.u 1] fun G3=>?_;intro _ _;refine vd (k0 < (s.length:Int)) (fun q1=>?_) fun q2=>?_
 ·refine vG [.u 2] fun G4=>?_;intro _ _
  refine nm (s.getD k0.toNat default:ByteArray) fun x1 b=>vG [.u 3,.iX (kF 0 s ss) k0,.lE (kF 0 s ss) k0 false x1 b false,.cP 5 127 [] fun G=>snmc_ct x1 (hS _ (getD_mem (by omega) b))] fun G5=>?_;intro _ _
  refine vc (!decide (Fx.fre x1)) (fun q3=>?_) fun q4=>?_
  ·refine vG [.u 2] fun G6=>?_;intro _ _
   have e0:k0=fidx (fun y:ByteArray=>!decide (Fx.fre y)) s:=by rw [fidx_at (p:=(fun y:ByteArray=>!decide (Fx.fre y))) (k:=k0) (by omega) (by omega) b d (by simpa using q3)]
   exact vi 0 [] e0
  refine vG [.aa (k0+1),.u 1] fun G7=>?_;intro _ _
  refine V.rn hZ1 (k0+1) [0] ?_ ?_
  ·refine ⟨by omega,by omega,?_⟩;show ∀ j,j < (k0+1).toNat→(fun y:ByteArray=>!decide (Fx.fre y)) (s.getD j default)=false;exact fidx_step (p:=(fun y:ByteArray=>!decide (Fx.fre y))) d (by omega) b (by simpa using q4)
  omega
 refine vG [.u 1] fun G8=>?_;intro _ _
 have e0:(-1:Int)=fidx (fun y:ByteArray=>!decide (Fx.fre y)) s:=(fidx_no fun j hj=>d j (by omega)).symm;exact vi 0 [] e0
theorem snmi_ctv (s:List ByteArray) (ss:SV) (hS:∀ x ∈ s,ByteArray.size x≤9223372036854775807) (b:Int) (d:b=fidx (fun y:ByteArray=>!decide (Fx.fre y)) s) :
  Cp Tryz.prog 157 #[ss.v,.func (.func 127) #[] #[]] [fs true s ss] (iv b):=by
 subst d;exact snmi_ct s ss hS
theorem snmk_ct (s:List ByteArray) (ss:SV) (hS:∀ x ∈ s,ByteArray.size x≤9223372036854775807) :
  Cp Tryz.prog 126 #[ss.v,.func (.func 127) #[] #[]] [fs true s ss] (bv (s.any (fun y:ByteArray=>!decide (Fx.fre y)))):=by
 refine vf mo Tryz.func126 9 0 fun _=>?_
 refine vG [.kb false] fun G1=>?_;intro _ _
 refine nm (fidx (fun y:ByteArray=>!decide (Fx.fre y)) s:Int) fun n1 b=>vG [.u 2,.cP 2 157 [kA 0 s ss] fun G=>snmi_ctv s ss (by assumption) n1 b,.u 2] fun G2=>?_;intro _ _
 have e0:(decide (0≤n1))=s.any (fun y:ByteArray=>!decide (Fx.fre y)):=by
  refine Bool.eq_iff_iff.2 (Iff.trans iDT (Iff.trans ?_ Iff.rfl));have d:=b;rw [d];exact fidx_nn
 exact vb 0 [] e0
theorem snms_ct (l:List ByteArray) (ls:SV) (f d:Int) (hS:∀ x ∈ l,ByteArray.size x≤9223372036854775807) :
  Cp Tryz.prog 91 #[ls.v,iv f,iv d] [fs true l ls] (bv (decide (Sx.nms l f d))):=by
 refine vf mo Tryz.func91 22 0 fun _=>?_
 refine vG [.kb false] fun G1=>?_;intro _ _
 refine nm ((decide (f≤(l.length:Int))) && (decide ((l.length:Int)≤d)):Bool) fun p1 h=>nm (p1 && (!(l.any (fun y:ByteArray=>!decide (Fx.fre y)))):Bool) fun p2 i=>vG [.u 1,.ln (kF 0 l ls),.u 4,.ln (kF 0 l ls),.u 2,.andn g0 false (decide (f≤(l.length:Int))) (decide ((l.length:Int)≤d)) p1 h,.u 2,.cp (gT (b:=p1) (iN h (iAT iDT iDT))) 12 126 [kA 0 l ls] (fun hg G=>snmk_ct l ls (by assumption)),.u 1,.andn g0 false p1 (!(l.any (fun y:ByteArray=>!decide (Fx.fre y)))) p2 i,.u 1] fun G2=>?_;intro _ _
 have e0:p2=decide (Sx.nms l f d):=by
  refine Bool.eq_iff_iff.2 (Iff.trans (iN i (iAT (iN h (iAT iDT iDT)) (iNT Iff.rfl))) (Iff.trans ?_ decide_eq_true_iff.symm));unfold Sx.nms;grind
 exact vb 0 [] e0
theorem tin_ct (n:Int) :
  Cp Tryz.prog 124 #[iv n] [] (bv (decide (Tb.inR n))):=by
 refine vf mo Tryz.func124 9 0 fun _=>?_
 refine vG [.kb false] fun G1=>?_;intro _ _
 refine nm ((decide ((-1099511627776)≤n)) && (decide (n≤1099511627776)):Bool) fun p1 b=>vG [.u 5,.andn g0 false (decide ((-1099511627776)≤n)) (decide (n≤1099511627776)) p1 b,.u 1] fun G2=>?_;intro _ _
 have e0:p1=decide (Tb.inR n):=by
  refine Bool.eq_iff_iff.2 (Iff.trans (iN b (iAT iDT iDT)) (Iff.trans ?_ decide_eq_true_iff.symm));exact Iff.rfl
 exact vb 0 [] e0
theorem tright_ct (d c:BA) (a:List DRow) (f:SV) (hs:c.size≤9223372036854775807) (ah:d.size≤9223372036854775807) :
  Cp Tryz.prog 86 #[ag (DTable.mk d c ⟨a,f⟩)] [fs true a f] (bv (decide (Tb.RtT d c a))):=by
 refine vf mo Tryz.func86 62 3 fun _=>?_
 refine vG [.n 0,.kb false] fun G1=>?_;intro _ _
 refine nm (Un.dv ((Un.read c).1) 0:Int) fun n1 P=>nm (Un.dv ((Un.read c).1) 1:Int) fun n2 Q=>nm (Un.dv ((Un.read c).1) 2:Int) fun n3 X=>nm (Un.dv ((Un.read c).1) 3:Int) fun n4 Y=>nm (Un.dv ((Un.read c).1) 4:Int) fun n5 Z=>nm (Un.dv ((Un.read c).1) 5:Int) fun n6 ab=>nm (Fr.rS (((Un.read c).1).isSome=true) (Un.fv ((Un.read c).1)):Int) fun n7 ac=>nm (Fr.rD (((Un.read c).1).isSome=true) (Un.fv ((Un.read c).1)):LI) fun l1 ad=>nm (Fr.rT (((Un.read c).1).isSome=true):Int) fun n8 ae=>nm (Fr.rE (((Un.read c).1).isSome=true) (Un.fv ((Un.read c).1)):LI) fun l2 af=>nm ((Un.read c).2:Int) fun n9 t=>vG [.u 1,.l 0,.cA 2 123 [] fun G=>uread_ctv c (by omega) n1 P n2 Q n3 X n4 Y n5 Z n6 ab n7 ac l1 ad n8 ae l2 af n9 t,.u 3,.n 1,.s 1,.u 1] fun G2=>?_;intro _ _
 refine nm ((!(decide (n9=0))) || (!(decide (Tb.Nm d))):Bool) fun p1 w=>vG [.u 4,.l 0,.cp (gF (b:=!(decide (n9=0))) (iNF iDT)) 5 82 [] (fun hg G=>lname_ct d (by omega)),.u 1,.orn g0 false (!(decide (n9=0))) (!(decide (Tb.Nm d))) p1 w,.u 2,.l 0,.ln (kF 0 a f),.u 1,.or g0 false p1 (decide (100 < (a.length:Int)))] fun G3=>?_;intro _ _
 refine V.cn (b:=p1 || (decide (100 < (a.length:Int)))) (iOT (iN w (iOT (iNT iDF) (iNT iDF))) iDT) (iOF (iN w (iOF (iNF iDT) (iNF iDT))) iDF) (fun q1=>?_) (fun q2=>?_)
 ·refine vG [.kb false] fun G4=>?_;intro _ _
  have e0:false=decide (Tb.RtT d c a):=by exact (decide_eq_false fun h=>by rw [t] at q1;rcases q1 with (h1 | h1) | h1;exact h1 h.1.1.1;exact h1 h.1.1.2;have:=h.1.2;omega).symm
  exact vb 0 [] e0
 have hH:((Un.read c).2=0∧Tb.Nm d)∧(a.length:Int)≤100:=by rw [t] at q2;exact ⟨q2.1,by have:=q2.2;omega⟩
 refine vG [.u 1,.l 0,.ln (kF 0 a f),.u 1] fun G5=>?_;intro _ _
 refine V.lp (γ:=Int) (fun k0=>⟨[(1,pp ((G1 0).b) 0),(28,f.v),(29,iv (a.length:Int)),(30,iv k0)],[fs false a f],[.blk ((G1 0).b) (ca (DTable.mk d c ⟨a,f⟩)) 109,.no,.no]⟩) (fun k0=>(0≤k0)∧(k0≤(a.length:Int))∧(∀ j,j < k0.toNat→Tb.RowOk a j)) (fun k0=>((a.length:Int)-k0).toNat) 0 [0] ?_ ?_
 ·refine ⟨by omega,by omega,?_⟩;show ∀ j,j < (0:Int).toNat→Tb.RowOk a j;intro j hj;simp at hj
 rintro k0 hF1 kw6 Z1 hZ1;obtain ⟨ai,aj,C⟩:=hF1;refine vG [.u 1] fun G6=>?_;intro _ _;refine vd (k0 < (a.length:Int)) (fun q3=>?_) fun q4=>?_
 ·refine nm (a.getD k0.toNat default:DRow) fun x1 A=>vG [.u 1,.iX (kF 0 a f) k0,.lE (kF 0 a f) k0 false x1 A true,.n 2,.u 1,.s 2] fun G7=>?_;intro _ _
  refine nm ((!(decide (Tb.inR x1.Key))) || (!(decide (Tb.inR x1.Value))):Bool) fun p2 o=>nm (a.getD (k0-1).toNat default:DRow) fun x2 D=>nm ((decide (0 < k0)) && (decide (x1.Key≤x2.Key)):Bool) fun p3 B=>?_;have E:Tb.ky a k0.toNat=x1.Key:=by rw [A];rfl
  have H:Tb.vl a k0.toNat=x1.Value:=by rw [A];rfl
  have I:0 < k0→Tb.ky a (k0.toNat-1)=x2.Key:=fun h=>by rw [D,show ((k0-1)).toNat=k0.toNat-1 by omega];rfl
  refine vG [.u 1,.l 2,.cP 2 124 [] fun G=>tin_ct x1.Key,.u 3,.l 2,.cp (gF (b:=!(decide (Tb.inR x1.Key))) (iNF iDT)) 7 124 [] (fun hg G=>tin_ct x1.Value),.u 1,.orn g0 false (!(decide (Tb.inR x1.Key))) (!(decide (Tb.inR x1.Value))) p2 o,.u 5,.l 2,.u 1,.l 0,.u 1,.arg ((gF (b:=p2) (iN o (iOF (iNF iDT) (iNF iDT)))).T (b:=decide (0 < k0)) iDT) (k0-1) (k0-1) rfl (fun hg=>by omega),.ix ((gF (b:=p2) (iN o (iOF (iNF iDT) (iNF iDT)))).T (b:=decide (0 < k0)) iDT) (kF 0 a f) (k0-1) (fun hg=>⟨by omega,by omega⟩),.u 1,.le ((gF (b:=p2) (iN o (iOF (iNF iDT) (iNF iDT)))).T (b:=decide (0 < k0)) iDT) (kF 0 a f) (k0-1) (some 0) false x2 D (fun hg=>⟨by omega,by omega⟩) false (fun _=>[iv x2.Key]),.u 1,.andn (gF (b:=p2) (iN o (iOF (iNF iDT) (iNF iDT)))) false (decide (0 < k0)) (decide (x1.Key≤x2.Key)) p3 B,.or g0 false p2 p3] fun G8=>?_;intro _ _
  refine V.cn (b:=p2 || p3) (iOT (iN o (iOT (iNT iDF) (iNT iDF))) (iN B (iAT iDT iDT))) (iOF (iN o (iOF (iNF iDT) (iNF iDT))) (iN B (iAF iDF iDF))) (fun q5=>?_) (fun q6=>?_)
  ·refine vG [.kb false] fun G9=>?_;intro _ _
   have e0:false=decide (Tb.RtT d c a):=by
    refine (decide_eq_false fun h=>?_).symm;have h1:=h.2 k0.toNat (by omega);unfold Tb.RowOk at h1;rw [E,H] at h1;rcases q5 with (h2 | h2) | ⟨h2,h3⟩
    ·exact h2 h1.1.1
    ·exact h2 h1.1.2
    have h4:=h1.2 (by omega);rw [I h2] at h4;omega
   exact vb 0 [] e0
  refine vG [.aa (k0+1),.u 1] fun ak=>?_;intro _ _
  refine V.rn hZ1 (k0+1) [0] ?_ ?_
  ·refine ⟨by omega,by omega,?_⟩;show ∀ j,j < (k0+1).toNat→Tb.RowOk a j;intro j hj;by_cases e:j < k0.toNat
   ·exact C j e
   rw [show j=k0.toNat by omega];have M :=q6;unfold Tb.RowOk;rw [E,H];refine ⟨M.1,fun h=>?_⟩;have h0:0 < k0:=by omega
   rw [I h0];rcases M.2 with h1 | h1 <;> omega
  omega
 refine vG [.kb true] fun al=>?_;intro _ _
 have e0:true=decide (Tb.RtT d c a):=(decide_eq_true ⟨hH,fun i hi=>C i (by omega)⟩).symm;exact vb 0 [] e0

theorem sshp_ct :
  Cp Tryz.prog 90 #[] [] (.agg #[tv ⟨#[109,101,116,101,114]⟩,iv 0,iv 0,iv 1,iv 1,bv true,bv false,bv false,tv ⟨#[116,97,107,101]⟩,iv 0,iv 0,iv 1,iv 1,bv true,bv false,bv false,tv ⟨#[100,114,97,119]⟩,iv 0,iv 0,iv 1,iv 1,bv true,bv false,bv true,tv ⟨#[115,112,108,105,116]⟩,iv 1,iv 1,iv 1,iv 100,bv false,bv true,bv false,tv ⟨#[106,111,105,110]⟩,iv 1,iv 100,iv 1,iv 1,bv false,bv false,bv false,tv ⟨#[103,105,118,101]⟩,iv 1,iv 1,iv 0,iv 0,bv true,bv false,bv false,tv ⟨#[112,117,116]⟩,iv 1,iv 1,iv 0,iv 0,bv true,bv false,bv true,tv ⟨#[108,111,115,101]⟩,iv 1,iv 1,iv 0,iv 0,bv true,bv false,bv false,tv ⟨#[114,101,115,116]⟩,iv 1,iv 1,iv 0,iv 0,bv false,bv false,bv false]):=by
 refine vf mo Tryz.func90 35 4 fun _=>?_
 refine vG [.n 0] fun G1=>?_;intro _ _
 refine vG [.u 3,.n 1,.n 2,.n 3,.s 1,.s 2,.s 3] fun G2=>?_;intro _ _
 refine vG [.l 1,.l 2,.u 1,.l 1,.l 2,.u 1,.l 1,.l 2,.u 1,.l 2,.l 3,.u 1,.l 3,.l 2,.u 1,.l 2,.l 1,.u 1,.l 2,.l 1,.u 1,.l 2,.l 1,.u 1,.l 2,.l 1,.u 2,.s 0] fun G3=>?_;intro _ _
 exact V.rS [0] [] [] [] [] []
theorem sstp_ct (k:Int) (a:List ByteArray) (i:SV) (c:List ByteArray) (h:SV) (e:BA) (d:List ByteArray) (j:SV) (f:Int) (hN:e.size≤9223372036854775807) (hI:∀ x ∈ a,ByteArray.size x≤9223372036854775807) (hO:∀ x ∈ c,ByteArray.size x≤9223372036854775807) (hC:∀ x ∈ d,ByteArray.size x≤9223372036854775807) :
  Cp Tryz.prog 50 #[ag (DStep.mk k ⟨a,i⟩ ⟨c,h⟩ e ⟨d,j⟩ f)] [fs true a i,fs true c h,fs true d j] (bv (decide (Sx.stp k a c e d f))):=by
 refine vf mo Tryz.func50 89 2 fun _=>?_
 refine vG [.n 0,.kb false] fun G1=>?_;intro _ _
 refine nm ((decide (k < 0)) || (decide (9≤k)):Bool) fun p1 ae=>vG [.u 1,.l 0,.u 3,.l 0,.u 1,.orn g0 false (decide (k < 0)) (decide (9≤k)) p1 ae] fun G2=>?_;intro _ _
 refine V.cn (b:=p1) (iN ae (iOT iDT iDT)) (iN ae (iOF iDF iDF)) (fun q1=>?_) (fun q2=>?_)
 ·refine vG [.kb false] fun G3=>?_;intro _ _
  have e0:false=decide (Sx.stp k a c e d f):=by
   refine Bool.eq_iff_iff.2 (Iff.trans iFT (Iff.trans ?_ decide_eq_true_iff.symm));unfold Sx.stp;grind
  exact vb 0 [] e0
 rcases (by omega:k=0∨k=1∨k=2∨k=3∨k=4∨k=5∨k=6∨k=7∨k=8) with rfl | rfl | rfl | rfl | rfl | rfl | rfl | rfl | rfl
 ·refine vG [.cP 0 90 [] fun G=>sshp_ct ,.u 1,.l 0,.u 1,.n 1,.s 1] fun G4=>?_;intro _ _
  refine vG [.u 1] fun G5=>?_;intro _ _
  refine vG [.u 1,.l 1] fun G6=>?_;intro _ _
  refine V.condF (by kernel_rfl) ?_;refine nm ((!(decide (Sx.nms a (0:Int) (0:Int)))) || (!(decide (Sx.nms c (1:Int) (1:Int)))):Bool) fun p2 M=>nm (p2 || (!(decide (Sx.nms d (0:Int) (0:Int)))):Bool) fun p3 af=>vG [.u 1,.l 0,.u 2,.l 1,.u 2,.l 1,.cP 8 91 [kA 0 a i] fun G=>snms_ct a i (0:Int) (0:Int) hI,.u 3,.l 0,.u 2,.l 1,.u 2,.l 1,.cp (gF (b:=!(decide (Sx.nms a (0:Int) (0:Int)))) (iNF iDT)) 19 91 [kA 1 c h] (fun hg G=>snms_ct c h (1:Int) (1:Int) hO),.u 1,.orn g0 false (!(decide (Sx.nms a (0:Int) (0:Int)))) (!(decide (Sx.nms c (1:Int) (1:Int)))) p2 M,.u 2,.l 0,.u 2,.cp (gF (b:=p2) (iN M (iOF (iNF iDT) (iNF iDT)))) 27 91 [kA 2 d j] (fun hg G=>snms_ct d j (0:Int) (0:Int) hC),.u 1,.orn g0 false p2 (!(decide (Sx.nms d (0:Int) (0:Int)))) p3 af,.u 1] fun G7=>?_;intro _ _
  refine V.cn (b:=p3) (iN af (iOT (iN M (iOT (iNT iDF) (iNT iDF))) (iNT iDF))) (iN af (iOF (iN M (iOF (iNF iDT) (iNF iDT))) (iNF iDT))) (fun q3=>?_) (fun q4=>?_)
  ·refine vG [.kb false] fun G8=>?_;intro _ _
   have e0:false=decide (Sx.stp (0:Int) a c e d f):=by
    refine Bool.eq_iff_iff.2 (Iff.trans iFT (Iff.trans ?_ decide_eq_true_iff.symm));unfold Sx.stp;grind
   exact vb 0 [] e0
  refine vG [.u 1,.l 1,.kb true,.u 1,.l 0,.cP 5 44 [] fun G=>sfre_ct e hN,.u 4,.l 1,.kb false,.kb false,.u 1,.l 0,.sne e ByteArray.empty,.kb false,.or g0 false (!(decide (Fx.fre e))) false,.u 1] fun G9=>?_;intro _ _
  refine V.cn (b:=(!(decide (Fx.fre e))) || false) (iOT (iNT iDF) iFT) (iOF (iNF iDT) iFF) (fun q5=>?_) (fun q6=>?_)
  ·refine vG [.kb false] fun aq=>?_;intro _ _
   have e0:false=decide (Sx.stp (0:Int) a c e d f):=by
    refine Bool.eq_iff_iff.2 (Iff.trans iFT (Iff.trans ?_ decide_eq_true_iff.symm));unfold Sx.stp;grind
   exact vb 0 [] e0
  refine vG [.u 1,.l 1,.kb false,.dead,.dead,.dead,.kb false,.kb false,.u 1,.l 1,.kb true,.kb true,.u 1,.l 0,.u 4] fun au=>?_;intro _ _
  have e0:(decide (f=0))=decide (Sx.stp (0:Int) a c e d f):=by
   refine Bool.eq_iff_iff.2 (Iff.trans iDT (Iff.trans ?_ decide_eq_true_iff.symm));unfold Sx.stp;grind
  exact vb 0 [] e0
 ·refine vG [.cP 0 90 [] fun G=>sshp_ct ,.u 1,.l 0,.u 1,.n 1,.s 1] fun av=>?_;intro _ _
  refine vG [.u 1] fun aw=>?_;intro _ _
  refine vG [.u 1,.l 1] fun ax=>?_;intro _ _
  refine V.condF (by kernel_rfl) ?_;refine nm ((!(decide (Sx.nms a (0:Int) (0:Int)))) || (!(decide (Sx.nms c (1:Int) (1:Int)))):Bool) fun p4 P=>nm (p4 || (!(decide (Sx.nms d (0:Int) (0:Int)))):Bool) fun p5 ah=>vG [.u 1,.l 0,.u 2,.l 1,.u 2,.l 1,.cP 8 91 [kA 0 a i] fun G=>snms_ct a i (0:Int) (0:Int) hI,.u 3,.l 0,.u 2,.l 1,.u 2,.l 1,.cp (gF (b:=!(decide (Sx.nms a (0:Int) (0:Int)))) (iNF iDT)) 19 91 [kA 1 c h] (fun hg G=>snms_ct c h (1:Int) (1:Int) hO),.u 1,.orn g0 false (!(decide (Sx.nms a (0:Int) (0:Int)))) (!(decide (Sx.nms c (1:Int) (1:Int)))) p4 P,.u 2,.l 0,.u 2,.cp (gF (b:=p4) (iN P (iOF (iNF iDT) (iNF iDT)))) 27 91 [kA 2 d j] (fun hg G=>snms_ct d j (0:Int) (0:Int) hC),.u 1,.orn g0 false p4 (!(decide (Sx.nms d (0:Int) (0:Int)))) p5 ah,.u 1] fun ay=>?_;intro _ _
  refine V.cn (b:=p5) (iN ah (iOT (iN P (iOT (iNT iDF) (iNT iDF))) (iNT iDF))) (iN ah (iOF (iN P (iOF (iNF iDT) (iNF iDT))) (iNF iDT))) (fun q7=>?_) (fun q8=>?_)
  ·refine vG [.kb false] fun az=>?_;intro _ _
   have e0:false=decide (Sx.stp (1:Int) a c e d f):=by
    refine Bool.eq_iff_iff.2 (Iff.trans iFT (Iff.trans ?_ decide_eq_true_iff.symm));unfold Sx.stp;grind
   exact vb 0 [] e0
  refine vG [.u 1,.l 1,.kb true,.u 1,.l 0,.cP 5 44 [] fun G=>sfre_ct e hN,.u 4,.l 1,.kb false,.kb false,.u 1,.l 0,.sne e ByteArray.empty,.kb false,.or g0 false (!(decide (Fx.fre e))) false,.u 1] fun aA=>?_;intro _ _
  refine V.cn (b:=(!(decide (Fx.fre e))) || false) (iOT (iNT iDF) iFT) (iOF (iNF iDT) iFF) (fun q9=>?_) (fun aB=>?_)
  ·refine vG [.kb false] fun aC=>?_;intro _ _
   have e0:false=decide (Sx.stp (1:Int) a c e d f):=by
    refine Bool.eq_iff_iff.2 (Iff.trans iFT (Iff.trans ?_ decide_eq_true_iff.symm));unfold Sx.stp;grind
   exact vb 0 [] e0
  refine vG [.u 1,.l 1,.kb false,.dead,.dead,.dead,.kb false,.kb false,.u 1,.l 1,.kb true,.kb true,.u 1,.l 0,.u 4] fun aD=>?_;intro _ _
  have e0:(decide (f=0))=decide (Sx.stp (1:Int) a c e d f):=by
   refine Bool.eq_iff_iff.2 (Iff.trans iDT (Iff.trans ?_ decide_eq_true_iff.symm));unfold Sx.stp;grind
  exact vb 0 [] e0
 ·refine vG [.cP 0 90 [] fun G=>sshp_ct ,.u 1,.l 0,.u 1,.n 1,.s 1] fun aE=>?_;intro _ _
  refine vG [.u 1] fun aF=>?_;intro _ _
  refine vG [.u 1,.l 1] fun aG=>?_;intro _ _
  refine V.condF (by kernel_rfl) ?_;refine nm ((!(decide (Sx.nms a (0:Int) (0:Int)))) || (!(decide (Sx.nms c (1:Int) (1:Int)))):Bool) fun p6 Q=>nm (p6 || (!(decide (Sx.nms d (0:Int) (0:Int)))):Bool) fun p7 ai=>vG [.u 1,.l 0,.u 2,.l 1,.u 2,.l 1,.cP 8 91 [kA 0 a i] fun G=>snms_ct a i (0:Int) (0:Int) hI,.u 3,.l 0,.u 2,.l 1,.u 2,.l 1,.cp (gF (b:=!(decide (Sx.nms a (0:Int) (0:Int)))) (iNF iDT)) 19 91 [kA 1 c h] (fun hg G=>snms_ct c h (1:Int) (1:Int) hO),.u 1,.orn g0 false (!(decide (Sx.nms a (0:Int) (0:Int)))) (!(decide (Sx.nms c (1:Int) (1:Int)))) p6 Q,.u 2,.l 0,.u 2,.cp (gF (b:=p6) (iN Q (iOF (iNF iDT) (iNF iDT)))) 27 91 [kA 2 d j] (fun hg G=>snms_ct d j (0:Int) (0:Int) hC),.u 1,.orn g0 false p6 (!(decide (Sx.nms d (0:Int) (0:Int)))) p7 ai,.u 1] fun aH=>?_;intro _ _
  refine V.cn (b:=p7) (iN ai (iOT (iN Q (iOT (iNT iDF) (iNT iDF))) (iNT iDF))) (iN ai (iOF (iN Q (iOF (iNF iDT) (iNF iDT))) (iNF iDT))) (fun aI=>?_) (fun aJ=>?_)
  ·refine vG [.kb false] fun aK=>?_;intro _ _
   have e0:false=decide (Sx.stp (2:Int) a c e d f):=by
    refine Bool.eq_iff_iff.2 (Iff.trans iFT (Iff.trans ?_ decide_eq_true_iff.symm));unfold Sx.stp;grind
   exact vb 0 [] e0
  refine vG [.u 1,.l 1,.kb true,.u 1,.l 0,.cP 5 44 [] fun G=>sfre_ct e hN,.u 4,.l 1,.kb false,.kb false,.u 1,.l 0,.sne e ByteArray.empty,.kb false,.or g0 false (!(decide (Fx.fre e))) false,.u 1] fun aL=>?_;intro _ _
  refine V.cn (b:=(!(decide (Fx.fre e))) || false) (iOT (iNT iDF) iFT) (iOF (iNF iDT) iFF) (fun aM=>?_) (fun aN=>?_)
  ·refine vG [.kb false] fun aO=>?_;intro _ _
   have e0:false=decide (Sx.stp (2:Int) a c e d f):=by
    refine Bool.eq_iff_iff.2 (Iff.trans iFT (Iff.trans ?_ decide_eq_true_iff.symm));unfold Sx.stp;grind
   exact vb 0 [] e0
  refine vG [.u 1,.l 1,.kb true,.u 1,.l 0,.cP 5 85 [] fun G=>samt_ct f,.u 3,.l 1,.kb false,.kb false,.u 1,.l 0,.u 1,.kb false,.or g0 false (decide (Sx.amt f)) false,.u 1] fun aP=>?_;intro _ _
  have e0:((decide (Sx.amt f)) || false)=decide (Sx.stp (2:Int) a c e d f):=by
   refine Bool.eq_iff_iff.2 (Iff.trans (iOT iDT iFT) (Iff.trans ?_ decide_eq_true_iff.symm));unfold Sx.stp;grind
  exact vb 0 [] e0
 ·refine vG [.cP 0 90 [] fun G=>sshp_ct ,.u 1,.l 0,.u 1,.n 1,.s 1] fun aQ=>?_;intro _ _
  refine vG [.u 1] fun aS=>?_;intro _ _
  refine vG [.u 1,.l 1] fun aT=>?_;intro _ _
  refine V.condT (by kernel_rfl) ?_;refine vG [.u 1,.l 0,.ln (kF 1 c h),.u 1] fun aU=>?_;intro _ _
  refine nm ((!(decide (Sx.nms a (1:Int) (1:Int)))) || (!(decide (Sx.nms c (1:Int) (100:Int)))):Bool) fun p8 X=>nm (p8 || (!(decide (Sx.nms d (c.length:Int) (c.length:Int)))):Bool) fun p9 aj=>vG [.u 1,.l 0,.u 2,.l 1,.u 2,.l 1,.cP 8 91 [kA 0 a i] fun G=>snms_ct a i (1:Int) (1:Int) hI,.u 3,.l 0,.u 2,.l 1,.u 2,.l 1,.cp (gF (b:=!(decide (Sx.nms a (1:Int) (1:Int)))) (iNF iDT)) 19 91 [kA 1 c h] (fun hg G=>snms_ct c h (1:Int) (100:Int) hO),.u 1,.orn g0 false (!(decide (Sx.nms a (1:Int) (1:Int)))) (!(decide (Sx.nms c (1:Int) (100:Int)))) p8 X,.u 2,.l 0,.u 2,.cp (gF (b:=p8) (iN X (iOF (iNF iDT) (iNF iDT)))) 27 91 [kA 2 d j] (fun hg G=>snms_ct d j (c.length:Int) (c.length:Int) hC),.u 1,.orn g0 false p8 (!(decide (Sx.nms d (c.length:Int) (c.length:Int)))) p9 aj,.u 1] fun aV=>?_;intro _ _
  refine V.cn (b:=p9) (iN aj (iOT (iN X (iOT (iNT iDF) (iNT iDF))) (iNT iDF))) (iN aj (iOF (iN X (iOF (iNF iDT) (iNF iDT))) (iNF iDT))) (fun aW=>?_) (fun aX=>?_)
  ·refine vG [.kb false] fun aY=>?_;intro _ _
   have e0:false=decide (Sx.stp (3:Int) a c e d f):=by
    refine Bool.eq_iff_iff.2 (Iff.trans iFT (Iff.trans ?_ decide_eq_true_iff.symm));unfold Sx.stp;grind
   exact vb 0 [] e0
  refine vG [.u 1,.l 1,.kb false,.dead,.dead,.dead,.dead,.kb false,.kb false,.u 1,.l 1,.kb true,.kb true,.u 1,.l 0,.sne e ByteArray.empty,.u 3] fun aZ=>?_;intro _ _
  refine vn (e=ByteArray.empty) (fun a0=>?_) fun a1=>?_
  ·refine vG [.kb false] fun a2=>?_;intro _ _
   have e0:false=decide (Sx.stp (3:Int) a c e d f):=by
    refine Bool.eq_iff_iff.2 (Iff.trans iFT (Iff.trans ?_ decide_eq_true_iff.symm));unfold Sx.stp;grind
   exact vb 0 [] e0
  refine vG [.u 1,.l 1,.kb false,.dead,.dead,.dead,.kb false,.kb false,.u 1,.l 1,.kb true,.kb true,.u 1,.l 0,.u 4] fun a3=>?_;intro _ _
  have e0:(decide (f=0))=decide (Sx.stp (3:Int) a c e d f):=by
   refine Bool.eq_iff_iff.2 (Iff.trans iDT (Iff.trans ?_ decide_eq_true_iff.symm));unfold Sx.stp;grind
  exact vb 0 [] e0
 ·refine vG [.cP 0 90 [] fun G=>sshp_ct ,.u 1,.l 0,.u 1,.n 1,.s 1] fun a4=>?_;intro _ _
  refine vG [.u 1] fun a5=>?_;intro _ _
  refine vG [.u 1,.l 1] fun a6=>?_;intro _ _
  refine V.condF (by kernel_rfl) ?_;refine nm ((!(decide (Sx.nms a (1:Int) (100:Int)))) || (!(decide (Sx.nms c (1:Int) (1:Int)))):Bool) fun Y o=>nm (Y || (!(decide (Sx.nms d (0:Int) (0:Int)))):Bool) fun ak C=>vG [.u 1,.l 0,.u 2,.l 1,.u 2,.l 1,.cP 8 91 [kA 0 a i] fun G=>snms_ct a i (1:Int) (100:Int) hI,.u 3,.l 0,.u 2,.l 1,.u 2,.l 1,.cp (gF (b:=!(decide (Sx.nms a (1:Int) (100:Int)))) (iNF iDT)) 19 91 [kA 1 c h] (fun hg G=>snms_ct c h (1:Int) (1:Int) hO),.u 1,.orn g0 false (!(decide (Sx.nms a (1:Int) (100:Int)))) (!(decide (Sx.nms c (1:Int) (1:Int)))) Y o,.u 2,.l 0,.u 2,.cp (gF (b:=Y) (iN o (iOF (iNF iDT) (iNF iDT)))) 27 91 [kA 2 d j] (fun hg G=>snms_ct d j (0:Int) (0:Int) hC),.u 1,.orn g0 false Y (!(decide (Sx.nms d (0:Int) (0:Int)))) ak C,.u 1] fun a7=>?_;intro _ _
  refine V.cn (b:=ak) (iN C (iOT (iN o (iOT (iNT iDF) (iNT iDF))) (iNT iDF))) (iN C (iOF (iN o (iOF (iNF iDT) (iNF iDT))) (iNF iDT))) (fun a8=>?_) (fun a9=>?_)
  ·refine vG [.kb false] fun ba=>?_;intro _ _
   have e0:false=decide (Sx.stp (4:Int) a c e d f):=by
    refine Bool.eq_iff_iff.2 (Iff.trans iFT (Iff.trans ?_ decide_eq_true_iff.symm));unfold Sx.stp;grind
   exact vb 0 [] e0
  refine vG [.u 1,.l 1,.kb false,.dead,.dead,.dead,.dead,.kb false,.kb false,.u 1,.l 1,.kb true,.kb true,.u 1,.l 0,.sne e ByteArray.empty,.u 3] fun bb=>?_;intro _ _
  refine vn (e=ByteArray.empty) (fun bc=>?_) fun be=>?_
  ·refine vG [.kb false] fun bf=>?_;intro _ _
   have e0:false=decide (Sx.stp (4:Int) a c e d f):=by
    refine Bool.eq_iff_iff.2 (Iff.trans iFT (Iff.trans ?_ decide_eq_true_iff.symm));unfold Sx.stp;grind
   exact vb 0 [] e0
  refine vG [.u 1,.l 1,.kb false,.dead,.dead,.dead,.kb false,.kb false,.u 1,.l 1,.kb true,.kb true,.u 1,.l 0,.u 4] fun bg=>?_;intro _ _
  have e0:(decide (f=0))=decide (Sx.stp (4:Int) a c e d f):=by
   refine Bool.eq_iff_iff.2 (Iff.trans iDT (Iff.trans ?_ decide_eq_true_iff.symm));unfold Sx.stp;grind
  exact vb 0 [] e0
 ·refine vG [.cP 0 90 [] fun G=>sshp_ct ,.u 1,.l 0,.u 1,.n 1,.s 1] fun bh=>?_;intro _ _
  refine vG [.u 1] fun bi=>?_;intro _ _
  refine vG [.u 1,.l 1] fun bj=>?_;intro _ _
  refine V.condF (by kernel_rfl) ?_;refine nm ((!(decide (Sx.nms a (1:Int) (1:Int)))) || (!(decide (Sx.nms c (0:Int) (0:Int)))):Bool) fun Z t=>nm (Z || (!(decide (Sx.nms d (0:Int) (0:Int)))):Bool) fun al D=>vG [.u 1,.l 0,.u 2,.l 1,.u 2,.l 1,.cP 8 91 [kA 0 a i] fun G=>snms_ct a i (1:Int) (1:Int) hI,.u 3,.l 0,.u 2,.l 1,.u 2,.l 1,.cp (gF (b:=!(decide (Sx.nms a (1:Int) (1:Int)))) (iNF iDT)) 19 91 [kA 1 c h] (fun hg G=>snms_ct c h (0:Int) (0:Int) hO),.u 1,.orn g0 false (!(decide (Sx.nms a (1:Int) (1:Int)))) (!(decide (Sx.nms c (0:Int) (0:Int)))) Z t,.u 2,.l 0,.u 2,.cp (gF (b:=Z) (iN t (iOF (iNF iDT) (iNF iDT)))) 27 91 [kA 2 d j] (fun hg G=>snms_ct d j (0:Int) (0:Int) hC),.u 1,.orn g0 false Z (!(decide (Sx.nms d (0:Int) (0:Int)))) al D,.u 1] fun bk=>?_;intro _ _
  refine V.cn (b:=al) (iN D (iOT (iN t (iOT (iNT iDF) (iNT iDF))) (iNT iDF))) (iN D (iOF (iN t (iOF (iNF iDT) (iNF iDT))) (iNF iDT))) (fun bm=>?_) (fun bn=>?_)
  ·refine vG [.kb false] fun bp=>?_;intro _ _
   have e0:false=decide (Sx.stp (5:Int) a c e d f):=by
    refine Bool.eq_iff_iff.2 (Iff.trans iFT (Iff.trans ?_ decide_eq_true_iff.symm));unfold Sx.stp;grind
   exact vb 0 [] e0
  refine vG [.u 1,.l 1,.kb true,.u 1,.l 0,.cP 5 44 [] fun G=>sfre_ct e hN,.u 4,.l 1,.kb false,.kb false,.u 1,.l 0,.sne e ByteArray.empty,.kb false,.or g0 false (!(decide (Fx.fre e))) false,.u 1] fun bq=>?_;intro _ _
  refine V.cn (b:=(!(decide (Fx.fre e))) || false) (iOT (iNT iDF) iFT) (iOF (iNF iDT) iFF) (fun br=>?_) (fun bs=>?_)
  ·refine vG [.kb false] fun bt=>?_;intro _ _
   have e0:false=decide (Sx.stp (5:Int) a c e d f):=by
    refine Bool.eq_iff_iff.2 (Iff.trans iFT (Iff.trans ?_ decide_eq_true_iff.symm));unfold Sx.stp;grind
   exact vb 0 [] e0
  refine vG [.u 1,.l 1,.kb false,.dead,.dead,.dead,.kb false,.kb false,.u 1,.l 1,.kb true,.kb true,.u 1,.l 0,.u 4] fun bu=>?_;intro _ _
  have e0:(decide (f=0))=decide (Sx.stp (5:Int) a c e d f):=by
   refine Bool.eq_iff_iff.2 (Iff.trans iDT (Iff.trans ?_ decide_eq_true_iff.symm));unfold Sx.stp;grind
  exact vb 0 [] e0
 ·refine vG [.cP 0 90 [] fun G=>sshp_ct ,.u 1,.l 0,.u 1,.n 1,.s 1] fun bw=>?_;intro _ _
  refine vG [.u 1] fun bx=>?_;intro _ _
  refine vG [.u 1,.l 1] fun bz=>?_;intro _ _
  refine V.condF (by kernel_rfl) ?_;refine nm ((!(decide (Sx.nms a (1:Int) (1:Int)))) || (!(decide (Sx.nms c (0:Int) (0:Int)))):Bool) fun ab w=>nm (ab || (!(decide (Sx.nms d (0:Int) (0:Int)))):Bool) fun am E=>vG [.u 1,.l 0,.u 2,.l 1,.u 2,.l 1,.cP 8 91 [kA 0 a i] fun G=>snms_ct a i (1:Int) (1:Int) hI,.u 3,.l 0,.u 2,.l 1,.u 2,.l 1,.cp (gF (b:=!(decide (Sx.nms a (1:Int) (1:Int)))) (iNF iDT)) 19 91 [kA 1 c h] (fun hg G=>snms_ct c h (0:Int) (0:Int) hO),.u 1,.orn g0 false (!(decide (Sx.nms a (1:Int) (1:Int)))) (!(decide (Sx.nms c (0:Int) (0:Int)))) ab w,.u 2,.l 0,.u 2,.cp (gF (b:=ab) (iN w (iOF (iNF iDT) (iNF iDT)))) 27 91 [kA 2 d j] (fun hg G=>snms_ct d j (0:Int) (0:Int) hC),.u 1,.orn g0 false ab (!(decide (Sx.nms d (0:Int) (0:Int)))) am E,.u 1] fun bA=>?_;intro _ _
  refine V.cn (b:=am) (iN E (iOT (iN w (iOT (iNT iDF) (iNT iDF))) (iNT iDF))) (iN E (iOF (iN w (iOF (iNF iDT) (iNF iDT))) (iNF iDT))) (fun bB=>?_) (fun bC=>?_)
  ·refine vG [.kb false] fun bD=>?_;intro _ _
   have e0:false=decide (Sx.stp (6:Int) a c e d f):=by
    refine Bool.eq_iff_iff.2 (Iff.trans iFT (Iff.trans ?_ decide_eq_true_iff.symm));unfold Sx.stp;grind
   exact vb 0 [] e0
  refine vG [.u 1,.l 1,.kb true,.u 1,.l 0,.cP 5 44 [] fun G=>sfre_ct e hN,.u 4,.l 1,.kb false,.kb false,.u 1,.l 0,.sne e ByteArray.empty,.kb false,.or g0 false (!(decide (Fx.fre e))) false,.u 1] fun bE=>?_;intro _ _
  refine V.cn (b:=(!(decide (Fx.fre e))) || false) (iOT (iNT iDF) iFT) (iOF (iNF iDT) iFF) (fun bF=>?_) (fun bG=>?_)
  ·refine vG [.kb false] fun bH=>?_;intro _ _
   have e0:false=decide (Sx.stp (6:Int) a c e d f):=by
    refine Bool.eq_iff_iff.2 (Iff.trans iFT (Iff.trans ?_ decide_eq_true_iff.symm));unfold Sx.stp;grind
   exact vb 0 [] e0
  refine vG [.u 1,.l 1,.kb true,.u 1,.l 0,.cP 5 85 [] fun G=>samt_ct f,.u 3,.l 1,.kb false,.kb false,.u 1,.l 0,.u 1,.kb false,.or g0 false (decide (Sx.amt f)) false,.u 1] fun bI=>?_;intro _ _
  have e0:((decide (Sx.amt f)) || false)=decide (Sx.stp (6:Int) a c e d f):=by
   refine Bool.eq_iff_iff.2 (Iff.trans (iOT iDT iFT) (Iff.trans ?_ decide_eq_true_iff.symm));unfold Sx.stp;grind
  exact vb 0 [] e0
 ·refine vG [.cP 0 90 [] fun G=>sshp_ct ,.u 1,.l 0,.u 1,.n 1,.s 1] fun bJ=>?_;intro _ _
  refine vG [.u 1] fun bK=>?_;intro _ _
  refine vG [.u 1,.l 1] fun bL=>?_;intro _ _
  refine V.condF (by kernel_rfl) ?_;refine nm ((!(decide (Sx.nms a (1:Int) (1:Int)))) || (!(decide (Sx.nms c (0:Int) (0:Int)))):Bool) fun ac A=>nm (ac || (!(decide (Sx.nms d (0:Int) (0:Int)))):Bool) fun an H=>vG [.u 1,.l 0,.u 2,.l 1,.u 2,.l 1,.cP 8 91 [kA 0 a i] fun G=>snms_ct a i (1:Int) (1:Int) hI,.u 3,.l 0,.u 2,.l 1,.u 2,.l 1,.cp (gF (b:=!(decide (Sx.nms a (1:Int) (1:Int)))) (iNF iDT)) 19 91 [kA 1 c h] (fun hg G=>snms_ct c h (0:Int) (0:Int) hO),.u 1,.orn g0 false (!(decide (Sx.nms a (1:Int) (1:Int)))) (!(decide (Sx.nms c (0:Int) (0:Int)))) ac A,.u 2,.l 0,.u 2,.cp (gF (b:=ac) (iN A (iOF (iNF iDT) (iNF iDT)))) 27 91 [kA 2 d j] (fun hg G=>snms_ct d j (0:Int) (0:Int) hC),.u 1,.orn g0 false ac (!(decide (Sx.nms d (0:Int) (0:Int)))) an H,.u 1] fun bM=>?_;intro _ _
  refine V.cn (b:=an) (iN H (iOT (iN A (iOT (iNT iDF) (iNT iDF))) (iNT iDF))) (iN H (iOF (iN A (iOF (iNF iDT) (iNF iDT))) (iNF iDT))) (fun bN=>?_) (fun bO=>?_)
  ·refine vG [.kb false] fun bP=>?_;intro _ _
   have e0:false=decide (Sx.stp (7:Int) a c e d f):=by
    refine Bool.eq_iff_iff.2 (Iff.trans iFT (Iff.trans ?_ decide_eq_true_iff.symm));unfold Sx.stp;grind
   exact vb 0 [] e0
  refine vG [.u 1,.l 1,.kb true,.u 1,.l 0,.cP 5 44 [] fun G=>sfre_ct e hN,.u 4,.l 1,.kb false,.kb false,.u 1,.l 0,.sne e ByteArray.empty,.kb false,.or g0 false (!(decide (Fx.fre e))) false,.u 1] fun bQ=>?_;intro _ _
  refine V.cn (b:=(!(decide (Fx.fre e))) || false) (iOT (iNT iDF) iFT) (iOF (iNF iDT) iFF) (fun bR=>?_) (fun bS=>?_)
  ·refine vG [.kb false] fun bT=>?_;intro _ _
   have e0:false=decide (Sx.stp (7:Int) a c e d f):=by
    refine Bool.eq_iff_iff.2 (Iff.trans iFT (Iff.trans ?_ decide_eq_true_iff.symm));unfold Sx.stp;grind
   exact vb 0 [] e0
  refine vG [.u 1,.l 1,.kb false,.dead,.dead,.dead,.kb false,.kb false,.u 1,.l 1,.kb true,.kb true,.u 1,.l 0,.u 4] fun bU=>?_;intro _ _
  have e0:(decide (f=0))=decide (Sx.stp (7:Int) a c e d f):=by
   refine Bool.eq_iff_iff.2 (Iff.trans iDT (Iff.trans ?_ decide_eq_true_iff.symm));unfold Sx.stp;grind
  exact vb 0 [] e0
 refine vG [.cP 0 90 [] fun G=>sshp_ct ,.u 1,.l 0,.u 1,.n 1,.s 1] fun bV=>?_;intro _ _
 refine vG [.u 1] fun bW=>?_;intro _ _
 refine vG [.u 1,.l 1] fun bX=>?_;intro _ _
 refine V.condF (by kernel_rfl) ?_;refine nm ((!(decide (Sx.nms a (1:Int) (1:Int)))) || (!(decide (Sx.nms c (0:Int) (0:Int)))):Bool) fun ad B=>nm (ad || (!(decide (Sx.nms d (0:Int) (0:Int)))):Bool) fun ao I=>vG [.u 1,.l 0,.u 2,.l 1,.u 2,.l 1,.cP 8 91 [kA 0 a i] fun G=>snms_ct a i (1:Int) (1:Int) hI,.u 3,.l 0,.u 2,.l 1,.u 2,.l 1,.cp (gF (b:=!(decide (Sx.nms a (1:Int) (1:Int)))) (iNF iDT)) 19 91 [kA 1 c h] (fun hg G=>snms_ct c h (0:Int) (0:Int) hO),.u 1,.orn g0 false (!(decide (Sx.nms a (1:Int) (1:Int)))) (!(decide (Sx.nms c (0:Int) (0:Int)))) ad B,.u 2,.l 0,.u 2,.cp (gF (b:=ad) (iN B (iOF (iNF iDT) (iNF iDT)))) 27 91 [kA 2 d j] (fun hg G=>snms_ct d j (0:Int) (0:Int) hC),.u 1,.orn g0 false ad (!(decide (Sx.nms d (0:Int) (0:Int)))) ao I,.u 1] fun bY=>?_;intro _ _
 refine V.cn (b:=ao) (iN I (iOT (iN B (iOT (iNT iDF) (iNT iDF))) (iNT iDF))) (iN I (iOF (iN B (iOF (iNF iDT) (iNF iDT))) (iNF iDT))) (fun bZ=>?_) (fun b0=>?_)
 ·refine vG [.kb false] fun b1=>?_;intro _ _
  have e0:false=decide (Sx.stp (8:Int) a c e d f):=by
   refine Bool.eq_iff_iff.2 (Iff.trans iFT (Iff.trans ?_ decide_eq_true_iff.symm));unfold Sx.stp;grind
  exact vb 0 [] e0
 refine vG [.u 1,.l 1,.kb false,.dead,.dead,.dead,.dead,.kb false,.kb false,.u 1,.l 1,.kb true,.kb true,.u 1,.l 0,.sne e ByteArray.empty,.u 3] fun b2=>?_;intro _ _
 refine vn (e=ByteArray.empty) (fun b3=>?_) fun b4=>?_
 ·refine vG [.kb false] fun b5=>?_;intro _ _
  have e0:false=decide (Sx.stp (8:Int) a c e d f):=by
   refine Bool.eq_iff_iff.2 (Iff.trans iFT (Iff.trans ?_ decide_eq_true_iff.symm));unfold Sx.stp;grind
  exact vb 0 [] e0
 refine vG [.u 1,.l 1,.kb false,.dead,.dead,.dead,.kb false,.kb false,.u 1,.l 1,.kb true,.kb true,.u 1,.l 0,.u 4] fun b6=>?_;intro _ _
 have e0:(decide (f=0))=decide (Sx.stp (8:Int) a c e d f):=by
  refine Bool.eq_iff_iff.2 (Iff.trans iDT (Iff.trans ?_ decide_eq_true_iff.symm));unfold Sx.stp;grind
 exact vb 0 [] e0

theorem suse_ct (cb:Nat) (d:List (ByteArray × Bool)) (f:Nat) (h:Bool) (i:BA) (j more:Bool) (hs:i.size≤9223372036854775807) :
  Ct Tryz.prog 47 #[pp cb 0,tv i,bv j,bv more] [] [.blk cb #[.map (some f),bv h] 80,mp false false d f] (fun g=>.tuple #[]) (fun g=>[]) (fun g=>[.blk cb #[.map (some f),bv ((Sx.useS (d,h) i j more).2)] 80,mp true false ((Sx.useS (d,h) i j more).1) f]) (fun g=>[]):=by
 refine vf mo Tryz.func47 39 0 fun _=>?_
 refine V.trm false d f 1 (by kernel_rfl) (fun _ _=>trivial) ?_;refine nm (((h && j) && more) && (decide (Fx.fre i)):Bool) fun p1 w=>nm ((mlook i d).getD default:Bool) fun x1 A=>nm ((mlook i d).isSome:Bool) fun B t=>vG [.u 4,.l 0,.u 2,.and g0 false h j,.u 2,.and g0 false (h && j) more,.u 2,.cp (gT (b:=(h && j) && more) (iAT (iAT Iff.rfl Iff.rfl) Iff.rfl)) 13 44 [] (fun hg G=>sfre_ct i (by omega)),.andn g0 false ((h && j) && more) (decide (Fx.fre i)) p1 w,.u 4,.l 0,.u 1,.lk 1 77 9 4 true false false d (fun _=>f) i x1 A B t false,.u 1,.and g0 false p1 (!x1),.u 2,.s 0] fun G1=>?_;intro _ _
 refine nm (mupd i true d:List (ByteArray × Bool)) fun m1 C=>vG [.u 3,.l 0,.u 1,.mu 5 1 77 9 4 true false d (fun _=>f) i true m1 C true (fun _=>rfl) [] (fun _ _ _=>trivial)] fun G2=>?_;intro _ _
 have D:m1=(Sx.useS (d,h) i j more).1:=by subst_vars;rfl
 subst D;have o:(p1 && (!x1))=(Sx.useS (d,h) i j more).2:=by subst_vars;rfl
 refine V.alt (fun (zz:Bool)=>(⟨[],[],[.blk cb #[.map (some f),bv zz] 80,mp true false ((Sx.useS (d,h) i j more).1) f]⟩:St)) o [] (by kernel_rfl) ?_;exact V.rS [] [] [] [] [] [0,1]

theorem sfoc_ct (a c:BA) (hn:a.size≤9223372036854775807) (hu:c.size≤9223372036854775807) :
  Cp Tryz.prog 88 #[ag (DParam.mk a c)] [] (bv ((!decide (Fx.fre a)) || (!decide (Sx.rds c)))):=by
 refine vf mo Tryz.func88 13 1 fun _=>?_
 refine vG [.n 0,.kb false] fun G1=>?_;intro _ _
 refine nm ((!(decide (Fx.fre a))) || (!(decide (Sx.rds c))):Bool) fun p1 d=>vG [.u 1,.l 0,.cP 2 44 [] fun G=>sfre_ct a (by omega),.u 3,.l 0,.cp (gF (b:=!(decide (Fx.fre a))) (iNF iDT)) 7 84 [] (fun hg G=>srds_ct c (by omega)),.u 1,.orn g0 false (!(decide (Fx.fre a))) (!(decide (Sx.rds c))) p1 d,.u 1] fun G2=>?_;intro _ _
 have e0:p1=((!decide (Fx.fre a)) || (!decide (Sx.rds c))):=by subst_vars;rfl
 exact vb 0 [] e0
theorem sfoi_ct (s:List DParam) (ss:SV) (hS:∀ x ∈ s,Sx.tx x.Name∧Sx.tx x.Unit) :
  Cp Tryz.prog 125 #[ss.v,.func (.func 88) #[] #[]] [fs true s ss] (iv (fidx (fun y:DParam=>Sx.parO y) s)):=by
 refine vf mo Tryz.func125 19 0 fun k0=>?_;obtain ⟨f, -⟩:Lq s ss.v:=kj k0 0
 refine vG [.u 1] fun G1=>?_;intro _ _
 refine vG [.u 1,.ln (kF 0 s ss),.u 1] fun G2=>?_;intro _ _
 refine V.lp (γ:=Int) (fun k0=>⟨[(0,ss.v),(1,.func (.func 88) #[] #[]),(7,iv (s.length:Int)),(8,iv k0)],[fs false s ss],[]⟩) (fun k0=>(0≤k0)∧(k0≤(s.length:Int))∧(∀ j,j < k0.toNat→(fun y:DParam=>Sx.parO y) (s.getD j default)=false)) (fun k0=>((s.length:Int)-k0).toNat) 0 [0] ?_ ?_
 ·refine ⟨by omega,by omega,?_⟩;show ∀ j,j < (0:Int).toNat→(fun y:DParam=>Sx.parO y) (s.getD j default)=false;intro j hj;simp at hj
 rintro k0 hF1 kw3 Z1 hZ1;obtain ⟨h,i,d⟩:=hF1;refine vG [.u 1] fun G3=>?_;intro _ _;refine vd (k0 < (s.length:Int)) (fun q1=>?_) fun q2=>?_
 ·refine vG [.u 2] fun G4=>?_;intro _ _
  refine nm (s.getD k0.toNat default:DParam) fun x1 b=>vG [.u 3,.iX (kF 0 s ss) k0,.lE (kF 0 s ss) k0 false x1 b true,.cP 5 88 [] fun G=>sfoc_ct x1.Name x1.Unit (hS _ (getD_mem (by omega) b)).1 (hS _ (getD_mem (by omega) b)).2] fun G5=>?_;intro _ _
  refine vc ((!decide (Fx.fre x1.Name)) || (!decide (Sx.rds x1.Unit))) (fun q3=>?_) fun q4=>?_
  ·refine vG [.u 2] fun G6=>?_;intro _ _
   have e0:k0=fidx (fun y:DParam=>Sx.parO y) s:=by rw [fidx_at (p:=(fun y:DParam=>Sx.parO y)) (k:=k0) (by omega) (by omega) b d (by simpa [Sx.parO] using q3)]
   exact vi 0 [] e0
  refine vG [.aa (k0+1),.u 1] fun G7=>?_;intro _ _
  refine V.rn hZ1 (k0+1) [0] ?_ ?_
  ·refine ⟨by omega,by omega,?_⟩;show ∀ j,j < (k0+1).toNat→(fun y:DParam=>Sx.parO y) (s.getD j default)=false;exact fidx_step (p:=(fun y:DParam=>Sx.parO y)) d (by omega) b (by simpa [Sx.parO] using q4)
  omega
 refine vG [.u 1] fun G8=>?_;intro _ _
 have e0:(-1:Int)=fidx (fun y:DParam=>Sx.parO y) s:=(fidx_no fun j hj=>d j (by omega)).symm;exact vi 0 [] e0
theorem sfoi_ctv (s:List DParam) (ss:SV) (hS:∀ x ∈ s,Sx.tx x.Name∧Sx.tx x.Unit) (b:Int) (d:b=fidx (fun y:DParam=>Sx.parO y) s) :
  Cp Tryz.prog 125 #[ss.v,.func (.func 88) #[] #[]] [fs true s ss] (iv b):=by
 subst d;exact sfoi_ct s ss hS
theorem sfok_ct (s:List DParam) (ss:SV) (hS:∀ x ∈ s,Sx.tx x.Name∧Sx.tx x.Unit) :
  Cp Tryz.prog 87 #[ss.v,.func (.func 88) #[] #[]] [fs true s ss] (bv (s.any (fun y:DParam=>Sx.parO y))):=by
 refine vf mo Tryz.func87 9 0 fun _=>?_
 refine vG [.kb false] fun G1=>?_;intro _ _
 refine nm (fidx (fun y:DParam=>Sx.parO y) s:Int) fun n1 b=>vG [.u 2,.cP 2 125 [kA 0 s ss] fun G=>sfoi_ctv s ss (by assumption) n1 b,.u 2] fun G2=>?_;intro _ _
 have e0:(decide (0≤n1))=s.any (fun y:DParam=>Sx.parO y):=by
  refine Bool.eq_iff_iff.2 (Iff.trans iDT (Iff.trans ?_ Iff.rfl));have d:=b;rw [d];exact fidx_nn
 exact vb 0 [] e0
theorem sgoo_ct (cb:Nat) (B:List (ByteArray × Bool)) (w:Nat) (C:Bool) (A:BA) (a:List DImport) (i:SV) (c:List DInput) (j:SV) (m:List DTable) (o:SV) (p:List DFunc) (q:SV) (r:List DCell) (t:SV) (e:List DPort) (k:SV) (d:List DStore) (h:SV) (y:List DRecipe) (z:SV) (hI:∀ x ∈ a,Sx.tx x.Name∧Sx.tx x.Unit∧Sx.tx x.Port) (hN:∀ x ∈ c,Sx.tx x.Name∧Sx.tx x.Unit∧Sx.tx x.Kind) (hP:∀ x ∈ e,Sx.tx x.Name∧Sx.tx x.Unit) (hD:∀ x ∈ d,Sx.tx x.Name∧Sx.tx x.Unit) :
  Ct Tryz.prog 45 #[pp cb 0,ag (DSheet.mk A ⟨a,i⟩ ⟨c,j⟩ ⟨m,o⟩ ⟨p,q⟩ ⟨r,t⟩ ⟨e,k⟩ ⟨d,h⟩ ⟨y,z⟩)] [fs true a i,fs true c j,fs true m o,fs true p q,fs true r t,fs true e k,fs true d h,fs true y z] [.blk cb #[.map (some w),bv C] 80,mp false false B w] (fun g=>.tuple #[]) (fun g=>[]) (fun g=>[.blk cb #[.map (some w),bv ((Sx.useL (B,C) (Sx.goodsL a c e d)).2)] 80,mp true false ((Sx.useL (B,C) (Sx.goodsL a c e d)).1) w]) (fun g=>[]):=by
 refine vf mo Tryz.func45 119 5 fun k0=>?_;obtain ⟨aw, -⟩:Lq a i.v:=kj k0 0
 obtain ⟨ax, -⟩:Lq c j.v:=kj k0 1;obtain ⟨ay, -⟩:Lq e k.v:=kj k0 5;obtain ⟨az, -⟩:Lq d h.v:=kj k0 6;refine V.trm false B w 1 (by kernel_rfl) (fun _ _=>trivial) ?_;refine vG [.n 2] fun G1=>?_;intro _ _;refine vG [.u 1,.l 2,.ln (kF 0 a i),.u 1] fun G2=>?_;intro _ _;refine V.lp (γ:=Int × Bool × List (ByteArray × Bool)) (fun ⟨k0,Q,m1⟩=>⟨[(0,pp cb 0),(3,pp ((G1 0).b) 0),(13,i.v),(14,iv (a.length:Int)),(15,iv k0)],[fs false a i,fs false c j,fs false m o,fs false p q,fs false r t,fs false e k,fs false d h,fs false y z],[.blk cb #[.map (some w),bv Q] 80,mp true false m1 w,.blk ((G1 0).b) (ca (DSheet.mk A ⟨a,i⟩ ⟨c,j⟩ ⟨m,o⟩ ⟨p,q⟩ ⟨r,t⟩ ⟨e,k⟩ ⟨d,h⟩ ⟨y,z⟩)) 31,.no,.no,.no,.no]⟩) (fun ⟨k0,Q,m1⟩=>(0≤k0)∧(k0≤(a.length:Int))∧(((m1,Q):Sx.US)=Sx.useL (B,C) ((a.take k0.toNat).map Sx.impI))) (fun ⟨k0,Q,m1⟩=>((a.length:Int)-k0).toNat) (0,C,B) [0,1,2,3,4,5,6,7] ?_ ?_
 ·refine ⟨by omega,by omega,?_⟩;show ((B,C):Sx.US)=Sx.useL (B,C) ((a.take (0:Int).toNat).map Sx.impI);rfl
 rintro ⟨k0,Q,m1⟩ hF1 kw3 Z1 hZ1;obtain ⟨aA,aB,aj⟩:=hF1;refine vG [.u 1] fun G3=>?_;intro _ _;refine vd (k0 < (a.length:Int)) (fun q1=>?_) fun q2=>?_
 ·refine nm (a.getD k0.toNat default:DImport) fun x1 Y=>vG [.iX (kF 0 a i) k0,.lE (kF 0 a i) k0 false x1 Y true,.n 3,.s 3] fun G4=>?_;intro _ _
  refine nm ((decide (Sx.amt x1.Amount)) && (decide (0≤x1.House)):Bool) fun p1 af=>nm ((p1 && (decide (x1.House < 400))) && (decide (0≤x1.Version)):Bool) fun p2 ah=>nm ((p2 && (decide (x1.Version≤2000))) && (decide (Fx.fre x1.Port)):Bool) fun p3 ak=>vG [.u 2,.l 3,.u 1,.l 3,.cP 5 84 [] fun G=>srds_ct x1.Unit (hI _ (getD_mem (by omega) Y)).2.1,.u 1,.l 3,.cP 8 85 [] fun G=>samt_ct x1.Amount,.u 2,.l 3,.u 1,.andn g0 false (decide (Sx.amt x1.Amount)) (decide (0≤x1.House)) p1 af,.u 2,.l 3,.u 1,.and g0 false p1 (decide (x1.House < 400)),.u 2,.l 3,.u 1,.andn g0 false (p1 && (decide (x1.House < 400))) (decide (0≤x1.Version)) p2 ah,.u 2,.l 3,.u 1,.and g0 false p2 (decide (x1.Version≤2000)),.u 2,.l 3,.cp (gT (b:=p2 && (decide (x1.Version≤2000))) (iAT (iN ah (iAT (iAT (iN af (iAT iDT iDT)) iDT) iDT)) iDT)) 32 44 [] (fun hg G=>sfre_ct x1.Port (hI _ (getD_mem (by omega) Y)).2.2),.andn g0 false (p2 && (decide (x1.Version≤2000))) (decide (Fx.fre x1.Port)) p3 ak,.cB 34 47 false [0,1] [] [] fun G=>suse_ct cb m1 w Q x1.Name (decide (Sx.rds x1.Unit)) p3 (hI _ (getD_mem (by omega) Y)).1] fun G5=>?_;intro _ _
  refine vG [.aa (k0+1),.u 1] fun G6=>?_;intro _ _
  refine V.rn hZ1 (k0+1,(Sx.useS (m1,Q) x1.Name (decide (Sx.rds x1.Unit)) p3).2,(Sx.useS (m1,Q) x1.Name (decide (Sx.rds x1.Unit)) p3).1) [0,1,2,3,4,5,6,7] ?_ ?_
  ·refine ⟨by omega,by omega,?_⟩;show ((((Sx.useS (m1,Q) x1.Name (decide (Sx.rds x1.Unit)) p3).1),((Sx.useS (m1,Q) x1.Name (decide (Sx.rds x1.Unit)) p3).2)):Sx.US)=Sx.useL (B,C) ((a.take (k0+1).toNat).map Sx.impI);have X:=Sx.useL_step (f:=Sx.impI) aj (by omega) (by omega) Y;rw [ak,ah,af];exact X
  dsimp only;omega
 refine vG [.u 1,.l 2,.ln (kF 1 c j),.u 1] fun G7=>?_;intro _ _
 refine V.lp (γ:=Int × Bool × List (ByteArray × Bool)) (fun ⟨k1,D,I⟩=>⟨[(0,pp cb 0),(3,pp ((G1 0).b) 0),(56,j.v),(57,iv (c.length:Int)),(58,iv k1)],[fs false c j,fs false a i,fs false m o,fs false p q,fs false r t,fs false e k,fs false d h,fs false y z],[.blk cb #[.map (some w),bv D] 80,mp true false I w,.blk ((G1 0).b) (ca (DSheet.mk A ⟨a,i⟩ ⟨c,j⟩ ⟨m,o⟩ ⟨p,q⟩ ⟨r,t⟩ ⟨e,k⟩ ⟨d,h⟩ ⟨y,z⟩)) 31,.no,.no,.no,.no]⟩) (fun ⟨k1,D,I⟩=>(0≤k1)∧(k1≤(c.length:Int))∧(((I,D):Sx.US)=Sx.useL (Sx.useL (B,C) (a.map Sx.impI)) ((c.take k1.toNat).map Sx.inpI))) (fun ⟨k1,D,I⟩=>((c.length:Int)-k1).toNat) (0,Q,m1) [1,0,2,3,4,5,6,7] ?_ ?_
 ·refine ⟨by omega,by omega,?_⟩;show ((m1,Q):Sx.US)=Sx.useL (Sx.useL (B,C) (a.map Sx.impI)) ((c.take (0:Int).toNat).map Sx.inpI);exact (Sx.useL_all aj (by omega)).trans rfl
 rintro ⟨k1,D,I⟩ hF2 kw9 Z2 hZ2;obtain ⟨aC,aD,al⟩:=hF2;refine vG [.u 1] fun G8=>?_;intro _ _;refine vd (k1 < (c.length:Int)) (fun q3=>?_) fun q4=>?_
 ·refine nm (c.getD k1.toNat default:DInput) fun x2 Z=>vG [.iX (kF 0 c j) k1,.lE (kF 0 c j) k1 false x2 Z true,.n 4,.s 4] fun G9=>?_;intro _ _
  refine nm ((decide (x2.Kind=ByteArray.empty)) || (decide (Fx.fre x2.Kind)):Bool) fun p4 am=>vG [.u 2,.l 4,.u 1,.l 4,.cP 5 84 [] fun G=>srds_ct x2.Unit (hN _ (getD_mem (by omega) Z)).2.1,.u 1,.l 4,.seq x2.Kind ByteArray.empty,.u 2,.l 4,.cp (gF (b:=decide (x2.Kind=ByteArray.empty)) iDF) 12 44 [] (fun hg G=>sfre_ct x2.Kind (hN _ (getD_mem (by omega) Z)).2.2),.orn g0 false (decide (x2.Kind=ByteArray.empty)) (decide (Fx.fre x2.Kind)) p4 am,.cB 14 47 false [0,1] [] [] fun G=>suse_ct cb I w D x2.Name (decide (Sx.rds x2.Unit)) p4 (hN _ (getD_mem (by omega) Z)).1] fun aE=>?_;intro _ _
  refine vG [.aa (k1+1),.u 1] fun aF=>?_;intro _ _
  refine V.rn hZ2 (k1+1,(Sx.useS (I,D) x2.Name (decide (Sx.rds x2.Unit)) p4).2,(Sx.useS (I,D) x2.Name (decide (Sx.rds x2.Unit)) p4).1) [0,1,2,3,4,5,6,7] ?_ ?_
  ·refine ⟨by omega,by omega,?_⟩;show ((((Sx.useS (I,D) x2.Name (decide (Sx.rds x2.Unit)) p4).1),((Sx.useS (I,D) x2.Name (decide (Sx.rds x2.Unit)) p4).2)):Sx.US)=Sx.useL (Sx.useL (B,C) (a.map Sx.impI)) ((c.take (k1+1).toNat).map Sx.inpI);have X:=Sx.useL_step (f:=Sx.inpI) al (by omega) (by omega) Z;rw [am];exact X
  dsimp only;omega
 refine vG [.u 1,.l 2,.ln (kF 5 e k),.u 1] fun aG=>?_;intro _ _
 refine V.lp (γ:=Int × Bool × List (ByteArray × Bool)) (fun ⟨k2,E,M⟩=>⟨[(0,pp cb 0),(3,pp ((G1 0).b) 0),(79,k.v),(80,iv (e.length:Int)),(81,iv k2)],[fs false e k,fs false a i,fs false c j,fs false m o,fs false p q,fs false r t,fs false d h,fs false y z],[.blk cb #[.map (some w),bv E] 80,mp true false M w,.blk ((G1 0).b) (ca (DSheet.mk A ⟨a,i⟩ ⟨c,j⟩ ⟨m,o⟩ ⟨p,q⟩ ⟨r,t⟩ ⟨e,k⟩ ⟨d,h⟩ ⟨y,z⟩)) 31,.no,.no,.no,.no]⟩) (fun ⟨k2,E,M⟩=>(0≤k2)∧(k2≤(e.length:Int))∧(((M,E):Sx.US)=Sx.useL (Sx.useL (Sx.useL (B,C) (a.map Sx.impI)) (c.map Sx.inpI)) ((e.take k2.toNat).map Sx.porI))) (fun ⟨k2,E,M⟩=>((e.length:Int)-k2).toNat) (0,D,I) [5,1,0,2,3,4,6,7] ?_ ?_
 ·refine ⟨by omega,by omega,?_⟩;show ((I,D):Sx.US)=Sx.useL (Sx.useL (Sx.useL (B,C) (a.map Sx.impI)) (c.map Sx.inpI)) ((e.take (0:Int).toNat).map Sx.porI);exact (Sx.useL_all al (by omega)).trans rfl
 rintro ⟨k2,E,M⟩ hF3 kw15 Z3 hZ3;obtain ⟨aH,aI,an⟩:=hF3;refine vG [.u 1] fun aJ=>?_;intro _ _;refine vd (k2 < (e.length:Int)) (fun q5=>?_) fun q6=>?_
 ·refine nm (e.getD k2.toNat default:DPort) fun x3 ab=>vG [.iX (kF 0 e k) k2,.lE (kF 0 e k) k2 false x3 ab true,.n 5,.s 5] fun aK=>?_;intro _ _
  refine vG [.u 2,.l 5,.u 1,.l 5,.cP 5 84 [] fun G=>srds_ct x3.Unit (hP _ (getD_mem (by omega) ab)).2,.u 1,.l 5,.cP 8 85 [] fun G=>samt_ct x3.Amount,.cB 9 47 false [0,1] [] [] fun G=>suse_ct cb M w E x3.Name (decide (Sx.rds x3.Unit)) (decide (Sx.amt x3.Amount)) (hP _ (getD_mem (by omega) ab)).1] fun aL=>?_;intro _ _
  refine vG [.aa (k2+1),.u 1] fun aM=>?_;intro _ _
  refine V.rn hZ3 (k2+1,(Sx.useS (M,E) x3.Name (decide (Sx.rds x3.Unit)) (decide (Sx.amt x3.Amount))).2,(Sx.useS (M,E) x3.Name (decide (Sx.rds x3.Unit)) (decide (Sx.amt x3.Amount))).1) [0,1,2,3,4,5,6,7] ?_ ?_
  ·refine ⟨by omega,by omega,?_⟩;show ((((Sx.useS (M,E) x3.Name (decide (Sx.rds x3.Unit)) (decide (Sx.amt x3.Amount))).1),((Sx.useS (M,E) x3.Name (decide (Sx.rds x3.Unit)) (decide (Sx.amt x3.Amount))).2)):Sx.US)=Sx.useL (Sx.useL (Sx.useL (B,C) (a.map Sx.impI)) (c.map Sx.inpI)) ((e.take (k2+1).toNat).map Sx.porI);have X:=Sx.useL_step (f:=Sx.porI) an (by omega) (by omega) ab;exact X
  dsimp only;omega
 refine vG [.u 1,.l 2,.ln (kF 6 d h),.u 1] fun aN=>?_;intro _ _
 refine V.lp (γ:=Int × Bool × List (ByteArray × Bool)) (fun ⟨k3,H,P⟩=>⟨[(0,pp cb 0),(97,h.v),(98,iv (d.length:Int)),(99,iv k3)],[fs false d h],[.blk cb #[.map (some w),bv H] 80,mp true false P w,.no,.no,.no,.no,.no]⟩) (fun ⟨k3,H,P⟩=>(0≤k3)∧(k3≤(d.length:Int))∧(((P,H):Sx.US)=Sx.useL (Sx.useL (Sx.useL (Sx.useL (B,C) (a.map Sx.impI)) (c.map Sx.inpI)) (e.map Sx.porI)) ((d.take k3.toNat).map Sx.stoI))) (fun ⟨k3,H,P⟩=>((d.length:Int)-k3).toNat) (0,E,M) [6] ?_ ?_
 ·refine ⟨by omega,by omega,?_⟩;show ((M,E):Sx.US)=Sx.useL (Sx.useL (Sx.useL (Sx.useL (B,C) (a.map Sx.impI)) (c.map Sx.inpI)) (e.map Sx.porI)) ((d.take (0:Int).toNat).map Sx.stoI);exact (Sx.useL_all an (by omega)).trans rfl
 rintro ⟨k3,H,P⟩ hF4 kw21 Z4 hZ4;obtain ⟨au,av,ad⟩:=hF4;refine vG [.u 1] fun aO=>?_;intro _ _;refine vd (k3 < (d.length:Int)) (fun q7=>?_) fun q8=>?_
 ·refine nm (d.getD k3.toNat default:DStore) fun x4 ac=>vG [.iX (kF 0 d h) k3,.lE (kF 0 d h) k3 false x4 ac true,.n 6,.s 6] fun aP=>?_;intro _ _
  refine nm ((decide (0≤x4.Rule)) && (decide (x4.Rule < 3)):Bool) fun p5 ao=>vG [.u 2,.l 6,.u 1,.l 6,.cP 5 84 [] fun G=>srds_ct x4.Unit (hD _ (getD_mem (by omega) ac)).2,.u 1,.l 6,.u 3,.l 6,.u 1,.andn g0 false (decide (0≤x4.Rule)) (decide (x4.Rule < 3)) p5 ao,.cB 14 47 false [0,1] [] [] fun G=>suse_ct cb P w H x4.Name (decide (Sx.rds x4.Unit)) p5 (hD _ (getD_mem (by omega) ac)).1] fun aQ=>?_;intro _ _
  refine vG [.aa (k3+1),.u 1] fun aS=>?_;intro _ _
  refine V.rn hZ4 (k3+1,(Sx.useS (P,H) x4.Name (decide (Sx.rds x4.Unit)) p5).2,(Sx.useS (P,H) x4.Name (decide (Sx.rds x4.Unit)) p5).1) [0] ?_ ?_
  ·refine ⟨by omega,by omega,?_⟩;show ((((Sx.useS (P,H) x4.Name (decide (Sx.rds x4.Unit)) p5).1),((Sx.useS (P,H) x4.Name (decide (Sx.rds x4.Unit)) p5).2)):Sx.US)=Sx.useL (Sx.useL (Sx.useL (Sx.useL (B,C) (a.map Sx.impI)) (c.map Sx.inpI)) (e.map Sx.porI)) ((d.take (k3+1).toNat).map Sx.stoI);have X:=Sx.useL_step (f:=Sx.stoI) ad (by omega) (by omega) ac;rw [ao];exact X
  dsimp only;omega
 have gz:=Sx.useL_all ad (by omega);have ae:((P,H):Sx.US)=Sx.useL (B,C) (Sx.goodsL a c e d):=by unfold Sx.goodsL;rw [Sx.useL_app,Sx.useL_app,Sx.useL_app];exact gz
 have aq:P=(Sx.useL (B,C) (Sx.goodsL a c e d)).1:=congrArg Prod.fst ae;subst aq;have ai:H=(Sx.useL (B,C) (Sx.goodsL a c e d)).2:=congrArg Prod.snd ae;refine V.alt (fun (zz:Bool)=>(⟨[(0,pp cb 0),(97,h.v),(98,iv (d.length:Int)),(99,iv k3),(100,bv (decide (k3 < (d.length:Int))))],[fs false d h],[.blk cb #[.map (some w),bv zz] 80,mp true false ((Sx.useL (B,C) (Sx.goodsL a c e d)).1) w,.no,.no,.no,.no,.no]⟩:St)) ai [0] (by kernel_rfl) ?_;exact V.rS [] [] [] [] [] [0,1]

theorem sfor_ct (cb:Nat) (w:List (ByteArray × Bool)) (I:Nat) (M:Bool) (E:BA) (m:List DImport) (o:SV) (p:List DInput) (r:SV) (c:List DTable) (j:SV) (e:List DFunc) (k:SV) (d:List DCell) (i:SV) (t:List DPort) (z:SV) (A:List DStore) (B:SV) (C:List DRecipe) (D:SV) (hT:∀ x ∈ c,Sx.tx x.Name∧Sx.tx x.Unit) (hF:∀ x ∈ e,Sx.tx x.Name∧(∀ q ∈ x.Params.l,Sx.tx q.Name∧Sx.tx q.Unit)∧Fx.sm (er x.Body)) (hC:∀ x ∈ d,Sx.tx x.Name∧Sx.tx x.Unit∧Fx.sm (er x.Def)) :
  Ct Tryz.prog 46 #[pp cb 0,ag (DSheet.mk E ⟨m,o⟩ ⟨p,r⟩ ⟨c,j⟩ ⟨e,k⟩ ⟨d,i⟩ ⟨t,z⟩ ⟨A,B⟩ ⟨C,D⟩)] [fs true m o,fs true p r,fs true c j,fs true e k,fs true d i,fs true t z,fs true A B,fs true C D] [.blk cb #[.map (some I),bv M] 80,mp false false w I] (fun g=>.tuple #[]) (fun g=>[]) (fun g=>[.blk cb #[.map (some I),bv ((Sx.useL (w,M) (Sx.formsL c e d)).2)] 80,mp true false ((Sx.useL (w,M) (Sx.formsL c e d)).1) I]) (fun g=>[]):=by
 refine vf mo Tryz.func46 75 4 fun k0=>?_;obtain ⟨an, -⟩:Lq c j.v:=kj k0 2
 obtain ⟨ao, -⟩:Lq e k.v:=kj k0 3;obtain ⟨aq, -⟩:Lq d i.v:=kj k0 4;refine V.trm false w I 1 (by kernel_rfl) (fun _ _=>trivial) ?_;refine vG [.n 2] fun G1=>?_;intro _ _;refine vG [.u 1,.l 2,.ln (kF 2 c j),.u 1] fun G2=>?_;intro _ _;refine V.lp (γ:=Int × Bool × List (ByteArray × Bool)) (fun ⟨k0,Z,m1⟩=>⟨[(0,pp cb 0),(3,pp ((G1 0).b) 0),(12,j.v),(13,iv (c.length:Int)),(14,iv k0)],[fs false c j,fs false m o,fs false p r,fs false e k,fs false d i,fs false t z,fs false A B,fs false C D],[.blk cb #[.map (some I),bv Z] 80,mp true false m1 I,.blk ((G1 0).b) (ca (DSheet.mk E ⟨m,o⟩ ⟨p,r⟩ ⟨c,j⟩ ⟨e,k⟩ ⟨d,i⟩ ⟨t,z⟩ ⟨A,B⟩ ⟨C,D⟩)) 31,.no,.no,.no]⟩) (fun ⟨k0,Z,m1⟩=>(0≤k0)∧(k0≤(c.length:Int))∧(((m1,Z):Sx.US)=Sx.useL (w,M) ((c.take k0.toNat).map Sx.tabI))) (fun ⟨k0,Z,m1⟩=>((c.length:Int)-k0).toNat) (0,M,w) [2,0,1,3,4,5,6,7] ?_ ?_
 ·refine ⟨by omega,by omega,?_⟩;show ((w,M):Sx.US)=Sx.useL (w,M) ((c.take (0:Int).toNat).map Sx.tabI);rfl
 rintro ⟨k0,Z,m1⟩ hF1 kw3 Z1 hZ1;obtain ⟨au,av,aj⟩:=hF1;refine vG [.u 1] fun G3=>?_;intro _ _;refine vd (k0 < (c.length:Int)) (fun q1=>?_) fun q2=>?_
 ·refine nm (c.getD k0.toNat default:DTable) fun x1 ab=>vG [.iX (kF 0 c j) k0,.lE (kF 0 c j) k0 true x1 ab true,.n 3,.s 3] fun G4=>?_;intro _ _
  refine vG [.u 2,.l 3,.l 3,.cP 4 86 [(kx false (.f 8) x1 x1.Rows.l (fun _=>x1.Rows.s) (fun _ _ h=>h)).a] fun G=>tright_ct x1.Name x1.Unit x1.Rows.l x1.Rows.s (hT _ (getD_mem (by omega) ab)).2 (hT _ (getD_mem (by omega) ab)).1,.cB 5 47 false [0,1] [] [] fun G=>suse_ct cb m1 I Z x1.Name true (decide (Tb.RtT x1.Name x1.Unit x1.Rows.l)) (hT _ (getD_mem (by omega) ab)).1] fun G5=>?_;intro _ _
  refine vG [.aa (k0+1),.u 1] fun G6=>?_;intro _ _
  refine V.rn hZ1 (k0+1,(Sx.useS (m1,Z) x1.Name true (decide (Tb.RtT x1.Name x1.Unit x1.Rows.l))).2,(Sx.useS (m1,Z) x1.Name true (decide (Tb.RtT x1.Name x1.Unit x1.Rows.l))).1) [0,1,2,3,4,5,6,7] ?_ ?_
  ·refine ⟨by omega,by omega,?_⟩;show ((((Sx.useS (m1,Z) x1.Name true (decide (Tb.RtT x1.Name x1.Unit x1.Rows.l))).1),((Sx.useS (m1,Z) x1.Name true (decide (Tb.RtT x1.Name x1.Unit x1.Rows.l))).2)):Sx.US)=Sx.useL (w,M) ((c.take (k0+1).toNat).map Sx.tabI);have ac:=Sx.useL_step (f:=Sx.tabI) aj (by omega) (by omega) ab;exact ac
  dsimp only;omega
 refine vG [.u 1,.l 2,.ln (kF 3 e k),.u 1] fun G7=>?_;intro _ _
 refine V.lp (γ:=Int × Bool × List (ByteArray × Bool)) (fun ⟨k1,P,X⟩=>⟨[(0,pp cb 0),(3,pp ((G1 0).b) 0),(26,k.v),(27,iv (e.length:Int)),(28,iv k1)],[fs false e k,fs false m o,fs false p r,fs false c j,fs false d i,fs false t z,fs false A B,fs false C D],[.blk cb #[.map (some I),bv P] 80,mp true false X I,.blk ((G1 0).b) (ca (DSheet.mk E ⟨m,o⟩ ⟨p,r⟩ ⟨c,j⟩ ⟨e,k⟩ ⟨d,i⟩ ⟨t,z⟩ ⟨A,B⟩ ⟨C,D⟩)) 31,.no,.no,.no]⟩) (fun ⟨k1,P,X⟩=>(0≤k1)∧(k1≤(e.length:Int))∧(((X,P):Sx.US)=Sx.useL (Sx.useL (w,M) (c.map Sx.tabI)) ((e.take k1.toNat).map Sx.funI))) (fun ⟨k1,P,X⟩=>((e.length:Int)-k1).toNat) (0,Z,m1) [3,1,2,0,4,5,6,7] ?_ ?_
 ·refine ⟨by omega,by omega,?_⟩;show ((m1,Z):Sx.US)=Sx.useL (Sx.useL (w,M) (c.map Sx.tabI)) ((e.take (0:Int).toNat).map Sx.funI);exact (Sx.useL_all aj (by omega)).trans rfl
 rintro ⟨k1,P,X⟩ hF2 kw9 Z2 hZ2;obtain ⟨aw,ax,ak⟩:=hF2;refine vG [.u 1] fun G8=>?_;intro _ _;refine vd (k1 < (e.length:Int)) (fun q3=>?_) fun q4=>?_
 ·refine nm (e.getD k1.toNat default:DFunc) fun x2 ad=>vG [.iX (kF 0 e k) k1,.lE (kF 0 e k) k1 true x2 ad true,.n 4,.s 4] fun G9=>?_;intro _ _
  refine vG [.u 1,.l 4,.cP 2 87 [(kx false (.f 8) x2 x2.Params.l (fun _=>x2.Params.s) (fun _ H (h:Dat.good H (x2:DFunc))=>h.1)).a] fun G=>sfok_ct x2.Params.l x2.Params.s (hF _ (getD_mem (by omega) ad)).2.1,.u 2] fun ay=>?_;intro _ _
  refine nm ((decide (1≤(x2.Params.l.length:Int))) && (decide ((x2.Params.l.length:Int)≤6)):Bool) fun p1 ah=>vG [.u 2,.l 4,.u 2,.l 4,.ln (kx false (.f 8) x2 x2.Params.l (fun _=>x2.Params.s) (fun _ H (h:Dat.good H (x2:DFunc))=>h.1)),.u 3,.l 4,.ln (kx false (.f 8) x2 x2.Params.l (fun _=>x2.Params.s) (fun _ H (h:Dat.good H (x2:DFunc))=>h.1)),.u 1,.andn g0 false (decide (1≤(x2.Params.l.length:Int))) (decide ((x2.Params.l.length:Int)≤6)) p1 ah,.u 2,.l 4,.cp (gT (b:=p1) (iN ah (iAT iDT iDT))) 17 25 [(kx false (.f 8) x2 x2.Body.Args.l (fun _=>x2.Body.Args.s) (fun _ H (h:Dat.good H (x2:DFunc))=>(exG.1 h.2))).a] (fun hg G=>frt_ct x2.Body (hF _ (getD_mem (by omega) ad)).2.2),.and g0 false p1 (decide (Fx.rt (er x2.Body))),.ct g0 19 47 false [0,1] [] [] (fun _ G=>suse_ct cb X I P x2.Name (!(x2.Params.l.any (fun y:DParam=>Sx.parO y))) (p1 && (decide (Fx.rt (er x2.Body)))) (hF _ (getD_mem (by omega) ad)).1)] fun az=>?_;intro _ _
  refine vG [.aa (k1+1),.u 1] fun aA=>?_;intro _ _
  refine V.rn hZ2 (k1+1,(Sx.useS (X,P) x2.Name (!(x2.Params.l.any (fun y:DParam=>Sx.parO y))) (p1 && (decide (Fx.rt (er x2.Body))))).2,(Sx.useS (X,P) x2.Name (!(x2.Params.l.any (fun y:DParam=>Sx.parO y))) (p1 && (decide (Fx.rt (er x2.Body))))).1) [0,1,2,3,4,5,6,7] ?_ ?_
  ·refine ⟨by omega,by omega,?_⟩;show ((((Sx.useS (X,P) x2.Name (!(x2.Params.l.any (fun y:DParam=>Sx.parO y))) (p1 && (decide (Fx.rt (er x2.Body))))).1),((Sx.useS (X,P) x2.Name (!(x2.Params.l.any (fun y:DParam=>Sx.parO y))) (p1 && (decide (Fx.rt (er x2.Body))))).2)):Sx.US)=Sx.useL (Sx.useL (w,M) (c.map Sx.tabI)) ((e.take (k1+1).toNat).map Sx.funI);have ac:=Sx.useL_step (f:=Sx.funI) ak (by omega) (by omega) ad;rw [ah];exact ac
  dsimp only;omega
 refine vG [.u 1,.l 2,.ln (kF 4 d i),.u 1] fun aB=>?_;intro _ _
 refine V.lp (γ:=Int × Bool × List (ByteArray × Bool)) (fun ⟨k2,Q,Y⟩=>⟨[(0,pp cb 0),(58,i.v),(59,iv (d.length:Int)),(60,iv k2)],[fs false d i],[.blk cb #[.map (some I),bv Q] 80,mp true false Y I,.no,.no,.no,.no]⟩) (fun ⟨k2,Q,Y⟩=>(0≤k2)∧(k2≤(d.length:Int))∧(((Y,Q):Sx.US)=Sx.useL (Sx.useL (Sx.useL (w,M) (c.map Sx.tabI)) (e.map Sx.funI)) ((d.take k2.toNat).map Sx.celI))) (fun ⟨k2,Q,Y⟩=>((d.length:Int)-k2).toNat) (0,P,X) [4] ?_ ?_
 ·refine ⟨by omega,by omega,?_⟩;show ((X,P):Sx.US)=Sx.useL (Sx.useL (Sx.useL (w,M) (c.map Sx.tabI)) (e.map Sx.funI)) ((d.take (0:Int).toNat).map Sx.celI);exact (Sx.useL_all ak (by omega)).trans rfl
 rintro ⟨k2,Q,Y⟩ hF3 kw16 Z3 hZ3;obtain ⟨aC,aD,al⟩:=hF3;refine vG [.u 1] fun aE=>?_;intro _ _;refine vd (k2 < (d.length:Int)) (fun q5=>?_) fun q6=>?_
 ·refine nm (d.getD k2.toNat default:DCell) fun x3 ae=>vG [.iX (kF 0 d i) k2,.lE (kF 0 d i) k2 true x3 ae true,.n 5,.s 5] fun aF=>?_;intro _ _
  refine vG [.u 2,.l 5,.u 1,.l 5,.cP 5 84 [] fun G=>srds_ct x3.Unit (hC _ (getD_mem (by omega) ae)).2.1,.u 1,.l 5,.cP 8 25 [(kx false (.f 1) x3 x3.Def.Args.l (fun _=>x3.Def.Args.s) (fun _ H (h:Dat.good H (x3:DCell))=>(exG.1 h))).a] fun G=>frt_ct x3.Def (hC _ (getD_mem (by omega) ae)).2.2,.cB 9 47 false [0,1] [] [] fun G=>suse_ct cb Y I Q x3.Name (decide (Sx.rds x3.Unit)) (decide (Fx.rt (er x3.Def))) (hC _ (getD_mem (by omega) ae)).1] fun aG=>?_;intro _ _
  refine vG [.aa (k2+1),.u 1] fun aH=>?_;intro _ _
  refine V.rn hZ3 (k2+1,(Sx.useS (Y,Q) x3.Name (decide (Sx.rds x3.Unit)) (decide (Fx.rt (er x3.Def)))).2,(Sx.useS (Y,Q) x3.Name (decide (Sx.rds x3.Unit)) (decide (Fx.rt (er x3.Def)))).1) [0] ?_ ?_
  ·refine ⟨by omega,by omega,?_⟩;show ((((Sx.useS (Y,Q) x3.Name (decide (Sx.rds x3.Unit)) (decide (Fx.rt (er x3.Def)))).1),((Sx.useS (Y,Q) x3.Name (decide (Sx.rds x3.Unit)) (decide (Fx.rt (er x3.Def)))).2)):Sx.US)=Sx.useL (Sx.useL (Sx.useL (w,M) (c.map Sx.tabI)) (e.map Sx.funI)) ((d.take (k2+1).toNat).map Sx.celI);have ac:=Sx.useL_step (f:=Sx.celI) al (by omega) (by omega) ae;exact ac
  dsimp only;omega
 have gz:=Sx.useL_all al (by omega);have af:((Y,Q):Sx.US)=Sx.useL (w,M) (Sx.formsL c e d):=by unfold Sx.formsL;rw [Sx.useL_app,Sx.useL_app];exact gz
 have am:Y=(Sx.useL (w,M) (Sx.formsL c e d)).1:=congrArg Prod.fst af;subst am;have ai:Q=(Sx.useL (w,M) (Sx.formsL c e d)).2:=congrArg Prod.snd af;refine V.alt (fun (zz:Bool)=>(⟨[(0,pp cb 0),(58,i.v),(59,iv (d.length:Int)),(60,iv k2),(61,bv (decide (k2 < (d.length:Int))))],[fs false d i],[.blk cb #[.map (some I),bv zz] 80,mp true false ((Sx.useL (w,M) (Sx.formsL c e d)).1) I,.no,.no,.no,.no]⟩:St)) ai [0] (by kernel_rfl) ?_;exact V.rS [] [] [] [] [] [0,1]

theorem srtc_ct (e:Int) (a:List ByteArray) (g:SV) (b:List ByteArray) (h:SV) (d:BA) (c:List ByteArray) (i:SV) (f:Int) (hN:d.size≤9223372036854775807) (hI:∀ x ∈ a,ByteArray.size x≤9223372036854775807) (hO:∀ x ∈ b,ByteArray.size x≤9223372036854775807) (hC:∀ x ∈ c,ByteArray.size x≤9223372036854775807) :
  Cp Tryz.prog 49 #[ag (DStep.mk e ⟨a,g⟩ ⟨b,h⟩ d ⟨c,i⟩ f)] [fs true a g,fs true b h,fs true c i] (bv (!decide (Sx.stp e a b d c f))):=by
 refine vf mo Tryz.func49 6 1 fun _=>?_
 refine vG [.n 0,.kb false] fun G1=>?_;intro _ _
 refine vG [.l 0,.cP 1 50 [kA 0 a g,kA 1 b h,kA 2 c i] fun G=>sstp_ct e a g b h d c i f (by assumption) (by assumption) (by assumption) (by assumption),.u 2] fun G2=>?_;intro _ _
 have e0:(!(decide (Sx.stp e a b d c f)))=!decide (Sx.stp e a b d c f):=by subst_vars;rfl
 exact vb 0 [] e0
theorem srti_ct (s:List DStep) (ss:SV) (hS:∀ x ∈ s,Sx.tx x.Name∧(∀ q ∈ x.In.l,Sx.tx q)∧(∀ q ∈ x.Out.l,Sx.tx q)∧(∀ q ∈ x.Cells.l,Sx.tx q)) :
  Cp Tryz.prog 89 #[ss.v,.func (.func 49) #[] #[]] [fs true s ss] (iv (fidx (fun y:DStep=>Sx.stpB y) s)):=by
 refine vf mo Tryz.func89 19 0 fun k0=>?_;obtain ⟨f, -⟩:Lq s ss.v:=kj k0 0
 refine vG [.u 1] fun G1=>?_;intro _ _
 refine vG [.u 1,.ln (kF 0 s ss),.u 1] fun G2=>?_;intro _ _
 refine V.lp (γ:=Int) (fun k0=>⟨[(0,ss.v),(1,.func (.func 49) #[] #[]),(7,iv (s.length:Int)),(8,iv k0)],[fs false s ss],[]⟩) (fun k0=>(0≤k0)∧(k0≤(s.length:Int))∧(∀ j,j < k0.toNat→(fun y:DStep=>Sx.stpB y) (s.getD j default)=false)) (fun k0=>((s.length:Int)-k0).toNat) 0 [0] ?_ ?_
 ·refine ⟨by omega,by omega,?_⟩;show ∀ j,j < (0:Int).toNat→(fun y:DStep=>Sx.stpB y) (s.getD j default)=false;intro j hj;simp at hj
 rintro k0 hF1 kw3 Z1 hZ1;obtain ⟨i,o,d⟩:=hF1;refine vG [.u 1] fun G3=>?_;intro _ _;refine vd (k0 < (s.length:Int)) (fun q1=>?_) fun q2=>?_
 ·refine vG [.u 2] fun G4=>?_;intro _ _
  refine nm (s.getD k0.toNat default:DStep) fun x1 b=>vG [.u 3,.iX (kF 0 s ss) k0,.lE (kF 0 s ss) k0 true x1 b true,.cP 5 49 [(kx false (.g 4 0) x1 x1.In.l (fun _=>x1.In.s) (fun _ H (h:Dat.good H (x1:DStep))=>h.1)).a,(kx false (.g 4 0) x1 x1.Out.l (fun _=>x1.Out.s) (fun _ H (h:Dat.good H (x1:DStep))=>h.2.1)).a,(kx false (.g 4 0) x1 x1.Cells.l (fun _=>x1.Cells.s) (fun _ H (h:Dat.good H (x1:DStep))=>h.2.2)).a] fun G=>srtc_ct x1.Kind x1.In.l x1.In.s x1.Out.l x1.Out.s x1.Name x1.Cells.l x1.Cells.s x1.Amount (hS _ (getD_mem (by omega) b)).1 (hS _ (getD_mem (by omega) b)).2.1 (hS _ (getD_mem (by omega) b)).2.2.1 (hS _ (getD_mem (by omega) b)).2.2.2] fun G5=>?_;intro _ _
  refine vc (!decide (Sx.stp x1.Kind x1.In.l x1.Out.l x1.Name x1.Cells.l x1.Amount)) (fun q3=>?_) fun q4=>?_
  ·refine vG [.u 2] fun G6=>?_;intro _ _
   have e0:k0=fidx (fun y:DStep=>Sx.stpB y) s:=by rw [fidx_at (p:=(fun y:DStep=>Sx.stpB y)) (k:=k0) (by omega) (by omega) b d (by simpa [Sx.stpB] using q3)]
   exact vi 0 [] e0
  refine vG [.aa (k0+1),.u 1] fun G7=>?_;intro _ _
  refine V.rn hZ1 (k0+1) [0] ?_ ?_
  ·refine ⟨by omega,by omega,?_⟩;show ∀ j,j < (k0+1).toNat→(fun y:DStep=>Sx.stpB y) (s.getD j default)=false;exact fidx_step (p:=(fun y:DStep=>Sx.stpB y)) d (by omega) b (by simpa [Sx.stpB] using q4)
  omega
 refine vG [.u 1] fun G8=>?_;intro _ _
 have e0:(-1:Int)=fidx (fun y:DStep=>Sx.stpB y) s:=(fidx_no fun j hj=>d j (by omega)).symm;exact vi 0 [] e0
theorem srti_ctv (s:List DStep) (ss:SV) (hS:∀ x ∈ s,Sx.tx x.Name∧(∀ q ∈ x.In.l,Sx.tx q)∧(∀ q ∈ x.Out.l,Sx.tx q)∧(∀ q ∈ x.Cells.l,Sx.tx q)) (b:Int) (d:b=fidx (fun y:DStep=>Sx.stpB y) s) :
  Cp Tryz.prog 89 #[ss.v,.func (.func 49) #[] #[]] [fs true s ss] (iv b):=by
 subst d;exact srti_ct s ss hS
theorem srtk_ct (s:List DStep) (ss:SV) (hS:∀ x ∈ s,Sx.tx x.Name∧(∀ q ∈ x.In.l,Sx.tx q)∧(∀ q ∈ x.Out.l,Sx.tx q)∧(∀ q ∈ x.Cells.l,Sx.tx q)) :
  Cp Tryz.prog 48 #[ss.v,.func (.func 49) #[] #[]] [fs true s ss] (bv (s.any (fun y:DStep=>Sx.stpB y))):=by
 refine vf mo Tryz.func48 9 0 fun _=>?_
 refine vG [.kb false] fun G1=>?_;intro _ _
 refine nm (fidx (fun y:DStep=>Sx.stpB y) s:Int) fun n1 b=>vG [.u 2,.cP 2 89 [kA 0 s ss] fun G=>srti_ctv s ss (by assumption) n1 b,.u 2] fun G2=>?_;intro _ _
 have e0:(decide (0≤n1))=s.any (fun y:DStep=>Sx.stpB y):=by
  refine Bool.eq_iff_iff.2 (Iff.trans iDT (Iff.trans ?_ Iff.rfl));have d:=b;rw [d];exact fidx_nn
 exact vb 0 [] e0

theorem srgt_ct (k:BA) (c:List DImport) (r:SV) (d:List DInput) (t:SV) (m:List DTable) (x:SV) (o:List DFunc) (z:SV) (p:List DCell) (A:SV) (e:List DPort) (B:SV) (i:List DStore) (C:SV) (j:List DRecipe) (q:SV) (hS:Sx.Sml k c d m o p e i j) (hL:(c.length:Int)+d.length+m.length+o.length+p.length+e.length+i.length+j.length≤100000000) :
  Cp Tryz.prog 20 #[ag (DSheet.mk k ⟨c,r⟩ ⟨d,t⟩ ⟨m,x⟩ ⟨o,z⟩ ⟨p,A⟩ ⟨e,B⟩ ⟨i,C⟩ ⟨j,q⟩)] [fs true c r,fs true d t,fs true m x,fs true o z,fs true p A,fs true e B,fs true i C,fs true j q] (bv (decide (Sx.Rt k c d m o p e i j))):=by
 refine vf mo Tryz.func20 65 6 fun k0=>?_;obtain ⟨X, -⟩:Lq c r.v:=kj k0 0
 obtain ⟨Y, -⟩:Lq d t.v:=kj k0 1;obtain ⟨Z, -⟩:Lq m x.v:=kj k0 2;obtain ⟨ab, -⟩:Lq o z.v:=kj k0 3;obtain ⟨ac, -⟩:Lq p A.v:=kj k0 4;obtain ⟨ad, -⟩:Lq e B.v:=kj k0 5;obtain ⟨ae, -⟩:Lq i C.v:=kj k0 6;obtain ⟨af, -⟩:Lq j q.v:=kj k0 7;have P:=Sx.its_len (([],decide (Fx.fre k)):Sx.US) c d m o p e i;simp only [List.length_nil] at P;refine vG [.n 0,.kb false] fun G1=>?_;intro _ _;refine vG [.mm ByteArray Bool 0 1 false,.u 1,.l 0,.cP 3 44 [] fun G=>sfre_ct k hS.nm,.u 1,.n 2,.u 1] fun G2=>?_;intro _ _;refine vG [.u 1,.l 0,.cB 2 45 false [2,1] [] [kA 0 c r,kA 1 d t,kA 2 m x,kA 3 o z,kA 4 p A,kA 5 e B,kA 6 i C,kA 7 j q] fun G=>sgoo_ct ((G2 5).b) ([]:List (ByteArray × Bool)) ((G2 0).b) (decide (Fx.fre k)) k c r d t m x o z p A e B i C j q hS.imp hS.inp hS.por hS.sto] fun G3=>?_;intro _ _;refine vG [.u 1,.l 0,.cB 2 46 false [2,1] [] [kA 0 c r,kA 1 d t,kA 2 m x,kA 3 o z,kA 4 p A,kA 5 e B,kA 6 i C,kA 7 j q] fun G=>sfor_ct ((G2 5).b) ((Sx.useL (([]:List (ByteArray × Bool)),(decide (Fx.fre k))) (Sx.goodsL c d e i)).1) ((G2 0).b) ((Sx.useL (([]:List (ByteArray × Bool)),(decide (Fx.fre k))) (Sx.goodsL c d e i)).2) k c r d t m x o z p A e B i C j q hS.tab hS.fun_ hS.cel] fun G4=>?_;intro _ _;refine nm ((((Sx.useL (((Sx.useL (([]:List (ByteArray × Bool)),(decide (Fx.fre k))) (Sx.goodsL c d e i)).1),((Sx.useL (([]:List (ByteArray × Bool)),(decide (Fx.fre k))) (Sx.goodsL c d e i)).2)) (Sx.formsL m o p)).1).length:Int)+(j.length:Int):Int) fun n1 H=>nm ((!((Sx.useL (((Sx.useL (([]:List (ByteArray × Bool)),(decide (Fx.fre k))) (Sx.goodsL c d e i)).1),((Sx.useL (([]:List (ByteArray × Bool)),(decide (Fx.fre k))) (Sx.goodsL c d e i)).2)) (Sx.formsL m o p)).2)) || (decide (100 < n1)):Bool) fun p1 E=>vG [.u 3,.l 2,.u 5,.l 2,.ml 1 77 9 4 true false ((Sx.useL (((Sx.useL (([]:List (ByteArray × Bool)),(decide (Fx.fre k))) (Sx.goodsL c d e i)).1),((Sx.useL (([]:List (ByteArray × Bool)),(decide (Fx.fre k))) (Sx.goodsL c d e i)).2)) (Sx.formsL m o p)).1) (fun _=>(G2 0).b),.u 1,.l 0,.ln (kF 7 j q),.arg (gF (b:=!((Sx.useL (((Sx.useL (([]:List (ByteArray × Bool)),(decide (Fx.fre k))) (Sx.goodsL c d e i)).1),((Sx.useL (([]:List (ByteArray × Bool)),(decide (Fx.fre k))) (Sx.goodsL c d e i)).2)) (Sx.formsL m o p)).2)) (iNF Iff.rfl)) ((((Sx.useL (((Sx.useL (([]:List (ByteArray × Bool)),(decide (Fx.fre k))) (Sx.goodsL c d e i)).1),((Sx.useL (([]:List (ByteArray × Bool)),(decide (Fx.fre k))) (Sx.goodsL c d e i)).2)) (Sx.formsL m o p)).1).length:Int)+(j.length:Int)) n1 H (fun hg=>by omega),.u 1,.orn g0 false (!((Sx.useL (((Sx.useL (([]:List (ByteArray × Bool)),(decide (Fx.fre k))) (Sx.goodsL c d e i)).1),((Sx.useL (([]:List (ByteArray × Bool)),(decide (Fx.fre k))) (Sx.goodsL c d e i)).2)) (Sx.formsL m o p)).2)) (decide (100 < n1)) p1 E] fun G5=>?_;intro _ _;refine V.cn (b:=p1) (iN E (iOT (iNT Iff.rfl) iDT)) (iN E (iOF (iNF Iff.rfl) iDF)) (fun q1=>?_) (fun q2=>?_)
 ·refine vG [.kb false] fun G6=>?_;intro _ _
  have e0:false=decide (Sx.Rt k c d m o p e i j):=by
   refine Bool.eq_iff_iff.2 (Iff.trans iFT (Iff.trans ?_ decide_eq_true_iff.symm));unfold Sx.Rt Sx.itS Sx.reS;grind
  exact vb 0 [] e0
 refine vG [.mm ByteArray Bool 0 3 false,.u 1,.n 4,.u 1] fun G7=>?_;intro _ _
 refine vG [.u 1,.l 0,.ln (kF 7 j q),.u 1] fun G8=>?_;intro _ _
 refine V.lp (γ:=Int × Bool × List (ByteArray × Bool)) (fun ⟨k0,w,m3⟩=>⟨[(4,pp ((G7 2).b) 0),(40,q.v),(41,iv (j.length:Int)),(42,iv k0)],[fs false j q],[.no,mp true false ((Sx.useL (((Sx.useL (([]:List (ByteArray × Bool)),(decide (Fx.fre k))) (Sx.goodsL c d e i)).1),((Sx.useL (([]:List (ByteArray × Bool)),(decide (Fx.fre k))) (Sx.goodsL c d e i)).2)) (Sx.formsL m o p)).1) ((G2 0).b),.no,mp true false m3 ((G7 0).b),.blk ((G7 2).b) #[.map (some ((G7 0).b)),bv w] 80,.no]⟩) (fun ⟨k0,w,m3⟩=>(0≤k0)∧(k0≤(j.length:Int))∧(((m3,w):Sx.US)=Sx.useL (([],true):Sx.US) ((j.take k0.toNat).map Sx.recI))) (fun ⟨k0,w,m3⟩=>((j.length:Int)-k0).toNat) (0,true,([]:List (ByteArray × Bool))) [7] ?_ ?_
 ·refine ⟨by omega,by omega,?_⟩;show ((([]:List (ByteArray × Bool)),true):Sx.US)=Sx.useL (([],true):Sx.US) ((j.take (0:Int).toNat).map Sx.recI);rfl
 rintro ⟨k0,w,m3⟩ hF1 kw9 Z1 hZ1;obtain ⟨ah,ai,I⟩:=hF1;refine vG [.u 1] fun G9=>?_;intro _ _;refine vd (k0 < (j.length:Int)) (fun q3=>?_) fun q4=>?_
 ·refine nm (j.getD k0.toNat default:DRecipe) fun x1 D=>vG [.iX (kF 0 j q) k0,.lE (kF 0 j q) k0 true x1 D true,.n 5,.s 5] fun aj=>?_;intro _ _
  refine nm ((decide ((x1.Steps.l.length:Int)≤100)) && (!(x1.Steps.l.any (fun y:DStep=>Sx.stpB y))):Bool) fun p2 M=>vG [.u 2,.l 5,.u 1,.l 5,.ln (kx false (.f 1) x1 x1.Steps.l (fun _=>x1.Steps.s) (fun _ _ h=>h)),.u 3,.l 5,.cp (gT (b:=decide ((x1.Steps.l.length:Int)≤100)) iDT) 10 48 [(kx false (.f 1) x1 x1.Steps.l (fun _=>x1.Steps.s) (fun _ _ h=>h)).a] (fun hg G=>srtk_ct x1.Steps.l x1.Steps.s (hS.rec_ _ (getD_mem (by omega) D)).2),.u 1,.andn g0 false (decide ((x1.Steps.l.length:Int)≤100)) (!(x1.Steps.l.any (fun y:DStep=>Sx.stpB y))) p2 M,.cB 13 47 false [4,3] [] [] fun G=>suse_ct ((G7 2).b) m3 ((G7 0).b) w x1.Kind true p2 (hS.rec_ _ (getD_mem (by omega) D)).1] fun ak=>?_;intro _ _
  refine vG [.aa (k0+1),.u 1] fun al=>?_;intro _ _
  refine V.rn hZ1 (k0+1,(Sx.useS (m3,w) x1.Kind true p2).2,(Sx.useS (m3,w) x1.Kind true p2).1) [0] ?_ ?_
  ·refine ⟨by omega,by omega,?_⟩;show ((((Sx.useS (m3,w) x1.Kind true p2).1),((Sx.useS (m3,w) x1.Kind true p2).2)):Sx.US)=Sx.useL (([],true):Sx.US) ((j.take (k0+1).toNat).map Sx.recI);have Q:=Sx.useL_step (f:=Sx.recI) I (by omega) (by omega) D;rw [M];exact Q
  dsimp only;omega
 refine vG [.u 3,.l 4,.u 1] fun am=>?_;intro _ _
 have gz:=Sx.useL_all I (by omega);have e0:w=decide (Sx.Rt k c d m o p e i j):=by
  refine Bool.eq_iff_iff.2 (Iff.trans Iff.rfl (Iff.trans ?_ decide_eq_true_iff.symm));have gk:w=(Sx.useL ([],true) (j.map Sx.recI)).2:=congrArg Prod.snd gz;rw [gk];constructor
  ·intro h;refine ⟨⟨?_,?_⟩,h⟩
   ·exact q2.1
   have h2:=q2.2;have h3:n1≤100:=by omega
   rw [H] at h3;exact h3
  intro h;exact h.2
 exact vb 0 [] e0
end Kb
