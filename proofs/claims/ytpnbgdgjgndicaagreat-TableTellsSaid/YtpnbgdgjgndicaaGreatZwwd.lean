/- Texts for the claim, put together: the calculus of regions, its rules, and contracts of the functions that the law reaches. -/
import Derived.Test.YtpnbgdgjgndicaaGreatZwwc
import Derived.Lib.Join
set_option linter.unusedVariables false
set_option linter.unusedSectionVars false
set_option linter.unusedSimpArgs false
namespace Kb
open Go Go.Proofs
set_option maxRecDepth 10000 in
theorem uof0_ct (exp p q:Int) (hp: -9223372036854775808≤p∧p≤9223372036854775807) (hq: -9223372036854775808≤q∧q≤9223372036854775807) (hq0:q≠0) :
    Ct Tryz.prog 139 #[iv 0,iv exp,iv p,iv q] [] [] (fun g=>.agg #[iv exp,iv 0,iv 0,iv 0,iv 0,iv 0,iv (Fr.rS (q≠0) (Rat.divInt p q)),((g.ss 0)).v,iv (Fr.rT (q≠0)),((g.ss 1)).v]) (fun g=>[fs true (Fr.rD (q≠0) (Rat.divInt p q)) (g.ss 0),fs true (Fr.rE (q≠0) (Rat.divInt p q)) (g.ss 1)]) (fun g=>[]) (fun g=>[]):=by
  refine V.fn mo Tryz.func139 22 2 (by kernel_rfl) fun w H ε k0=>?_;clear k0
  refine V.g [.nb 0 0 (fun b=>pp b 0) 42 (fun _=>#[iv 0,iv 0,iv 0,iv 0,iv 0,iv 0,iv 0,.slice none 0 0,iv 0,.slice none 0 0])] fun _ _ G1=>?_;intro S s
  refine V.g [.nb 0 1 (fun b=>pp b 0) 42 (fun _=>#[iv 0,iv 0,iv 0,iv 0,iv 0,iv 0,iv 0,.slice none 0 0,iv 0,.slice none 0 0])] fun _ _ G2=>?_;intro S s
  refine V.g [.k (iv 0),.k (iv exp),.k (pp ((G2 0).b) 0),.k (pp ((G2 0).b) 0),.st 1 (fun _=>.blk ((G2 0).b) #[iv exp,iv 0,iv 0,iv 0,iv 0,iv 0,iv 0,.slice none 0 0,iv 0,.slice none 0 0] 42)] fun _ _ G3=>?_;intro S s
  refine nm (Fr.rS (q≠0) (Rat.divInt p q):Int) fun n1 hn1=>?_;refine nl (Fr.rD (q≠0) (Rat.divInt p q)) fun l1 hl1 hl1n=>?_;refine nm (Fr.rT (q≠0):Int) fun n2 hn2=>?_;refine nl (Fr.rE (q≠0) (Rat.divInt p q)) fun l2 hl2 hl2n=>?_;refine nm (if q=0 then (15:Int) else 0:Int) fun n3 hn3=>?_;have zo:=Fr.Fz.of hq0 hn1 hl1 hn2 hl2
  refine V.r [.k (iv p),.k (iv q),.ct g0 2 104 false [] [] [] (fun _ G=>fof_ctv p q (by omega) (by omega) n1 hn1 l1 hl1 n2 hn2 l2 hl2 n3 hn3),.v fun G=>.tuple #[ag (DFrac.mk ⟨n1,l1,(G 2).ss 0⟩ ⟨n2,l2,(G 2).ss 1⟩),iv n3],.v fun G=>ag (DFrac.mk ⟨n1,l1,(G 2).ss 0⟩ ⟨n2,l2,(G 2).ss 1⟩),.k (iv n3),.k (pp ((G2 0).b) 6),.st 1 (fun G=>.blk ((G2 0).b) #[iv exp,iv 0,iv 0,iv 0,iv 0,iv 0,iv n1,((G 2).ss 0).v,iv n2,((G 2).ss 1).v] 42)] fun _ _ G4 kw4=>?_;intro S s
  obtain ⟨⟨kl1, -⟩,⟨kl2, -⟩, -⟩:Lq l1 (((G4 2).ss 0).v)∧Lq l2 (((G4 2).ss 1).v)∧True:=kq kw4;clear kw4;refine V.g [.ld 1 0 true (fun _=>[iv exp,iv 0,iv 0,iv 0,iv 0,iv 0,iv n1,((G4 2).ss 0).v,iv n2,((G4 2).ss 1).v]),.st 0 (fun _=>.blk ((G1 0).b) #[iv exp,iv 0,iv 0,iv 0,iv 0,iv 0,iv n1,((G4 2).ss 0).v,iv n2,((G4 2).ss 1).v] 42)] fun _ _ G5=>?_;intro S s;have e7:l1=Fr.rD (q≠0) (Rat.divInt p q):=(Fr.Fz.ret zo hq0 rfl).2.1;subst e7;have e9:l2=Fr.rE (q≠0) (Rat.divInt p q):=(Fr.Fz.ret zo hq0 rfl).2.2.2;subst e9;have e6:n1=Fr.rS (q≠0) (Rat.divInt p q):=(Fr.Fz.ret zo hq0 rfl).1;have e8:n2=Fr.rT (q≠0):=(Fr.Fz.ret zo hq0 rfl).2.2.1;exact V.rt [0] [(G4 2).ss 0,(G4 2).ss 1] [fun _=>{},fun _=>{}] [] [0,1] [] (.agg #[iv exp,iv 0,iv 0,iv 0,iv 0,iv 0,iv n1,((G4 2).ss 0).v,iv n2,((G4 2).ss 1).v]) (cong2 (fun (x6 x8:Int)=>(.agg #[iv exp,iv 0,iv 0,iv 0,iv 0,iv 0,iv x6,((G4 2).ss 0).v,iv x8,((G4 2).ss 1).v]:Value)) e6 e8)
theorem uof0_ctv (exp p q:Int) (hp: -9223372036854775808≤p∧p≤9223372036854775807) (hq: -9223372036854775808≤q∧q≤9223372036854775807) (hq0:q≠0) (rv6:Int) (erv6:rv6=Fr.rS (q≠0) (Rat.divInt p q)) (rv7:List Int) (erv7:rv7=Fr.rD (q≠0) (Rat.divInt p q)) (rv8:Int) (erv8:rv8=Fr.rT (q≠0)) (rv9:List Int) (erv9:rv9=Fr.rE (q≠0) (Rat.divInt p q)) :
    Ct Tryz.prog 139 #[iv 0,iv exp,iv p,iv q] [] [] (fun g=>.agg #[iv exp,iv 0,iv 0,iv 0,iv 0,iv 0,iv rv6,((g.ss 0)).v,iv rv8,((g.ss 1)).v]) (fun g=>[fs true rv7 (g.ss 0),fs true rv9 (g.ss 1)]) (fun g=>[]) (fun g=>[]):=by
  subst erv6 erv7 erv8 erv9;exact uof0_ct exp p q hp hq hq0
set_option maxRecDepth 10000 in
theorem uof1_ct (exp p q:Int) (hp: -9223372036854775808≤p∧p≤9223372036854775807) (hq: -9223372036854775808≤q∧q≤9223372036854775807) (hq0:q≠0) :
    Ct Tryz.prog 139 #[iv 1,iv exp,iv p,iv q] [] [] (fun g=>.agg #[iv 0,iv exp,iv 0,iv 0,iv 0,iv 0,iv (Fr.rS (q≠0) (Rat.divInt p q)),((g.ss 0)).v,iv (Fr.rT (q≠0)),((g.ss 1)).v]) (fun g=>[fs true (Fr.rD (q≠0) (Rat.divInt p q)) (g.ss 0),fs true (Fr.rE (q≠0) (Rat.divInt p q)) (g.ss 1)]) (fun g=>[]) (fun g=>[]):=by
  refine V.fn mo Tryz.func139 22 2 (by kernel_rfl) fun w H ε k0=>?_;clear k0
  refine V.g [.nb 0 0 (fun b=>pp b 0) 42 (fun _=>#[iv 0,iv 0,iv 0,iv 0,iv 0,iv 0,iv 0,.slice none 0 0,iv 0,.slice none 0 0])] fun _ _ G1=>?_;intro S s
  refine V.g [.nb 0 1 (fun b=>pp b 0) 42 (fun _=>#[iv 0,iv 0,iv 0,iv 0,iv 0,iv 0,iv 0,.slice none 0 0,iv 0,.slice none 0 0])] fun _ _ G2=>?_;intro S s
  refine V.g [.k (iv 1),.k (iv exp),.k (pp ((G2 0).b) 0),.k (pp ((G2 0).b) 1),.st 1 (fun _=>.blk ((G2 0).b) #[iv 0,iv exp,iv 0,iv 0,iv 0,iv 0,iv 0,.slice none 0 0,iv 0,.slice none 0 0] 42)] fun _ _ G3=>?_;intro S s
  refine nm (Fr.rS (q≠0) (Rat.divInt p q):Int) fun n1 hn1=>?_;refine nl (Fr.rD (q≠0) (Rat.divInt p q)) fun l1 hl1 hl1n=>?_;refine nm (Fr.rT (q≠0):Int) fun n2 hn2=>?_;refine nl (Fr.rE (q≠0) (Rat.divInt p q)) fun l2 hl2 hl2n=>?_;refine nm (if q=0 then (15:Int) else 0:Int) fun n3 hn3=>?_;have zo:=Fr.Fz.of hq0 hn1 hl1 hn2 hl2
  refine V.r [.k (iv p),.k (iv q),.ct g0 2 104 false [] [] [] (fun _ G=>fof_ctv p q (by omega) (by omega) n1 hn1 l1 hl1 n2 hn2 l2 hl2 n3 hn3),.v fun G=>.tuple #[ag (DFrac.mk ⟨n1,l1,(G 2).ss 0⟩ ⟨n2,l2,(G 2).ss 1⟩),iv n3],.v fun G=>ag (DFrac.mk ⟨n1,l1,(G 2).ss 0⟩ ⟨n2,l2,(G 2).ss 1⟩),.k (iv n3),.k (pp ((G2 0).b) 6),.st 1 (fun G=>.blk ((G2 0).b) #[iv 0,iv exp,iv 0,iv 0,iv 0,iv 0,iv n1,((G 2).ss 0).v,iv n2,((G 2).ss 1).v] 42)] fun _ _ G4 kw4=>?_;intro S s
  obtain ⟨⟨kl1, -⟩,⟨kl2, -⟩, -⟩:Lq l1 (((G4 2).ss 0).v)∧Lq l2 (((G4 2).ss 1).v)∧True:=kq kw4;clear kw4;refine V.g [.ld 1 0 true (fun _=>[iv 0,iv exp,iv 0,iv 0,iv 0,iv 0,iv n1,((G4 2).ss 0).v,iv n2,((G4 2).ss 1).v]),.st 0 (fun _=>.blk ((G1 0).b) #[iv 0,iv exp,iv 0,iv 0,iv 0,iv 0,iv n1,((G4 2).ss 0).v,iv n2,((G4 2).ss 1).v] 42)] fun _ _ G5=>?_;intro S s;have e7:l1=Fr.rD (q≠0) (Rat.divInt p q):=(Fr.Fz.ret zo hq0 rfl).2.1;subst e7;have e9:l2=Fr.rE (q≠0) (Rat.divInt p q):=(Fr.Fz.ret zo hq0 rfl).2.2.2;subst e9;have e6:n1=Fr.rS (q≠0) (Rat.divInt p q):=(Fr.Fz.ret zo hq0 rfl).1;have e8:n2=Fr.rT (q≠0):=(Fr.Fz.ret zo hq0 rfl).2.2.1;exact V.rt [0] [(G4 2).ss 0,(G4 2).ss 1] [fun _=>{},fun _=>{}] [] [0,1] [] (.agg #[iv 0,iv exp,iv 0,iv 0,iv 0,iv 0,iv n1,((G4 2).ss 0).v,iv n2,((G4 2).ss 1).v]) (cong2 (fun (x6 x8:Int)=>(.agg #[iv 0,iv exp,iv 0,iv 0,iv 0,iv 0,iv x6,((G4 2).ss 0).v,iv x8,((G4 2).ss 1).v]:Value)) e6 e8)
theorem uof1_ctv (exp p q:Int) (hp: -9223372036854775808≤p∧p≤9223372036854775807) (hq: -9223372036854775808≤q∧q≤9223372036854775807) (hq0:q≠0) (rv6:Int) (erv6:rv6=Fr.rS (q≠0) (Rat.divInt p q)) (rv7:List Int) (erv7:rv7=Fr.rD (q≠0) (Rat.divInt p q)) (rv8:Int) (erv8:rv8=Fr.rT (q≠0)) (rv9:List Int) (erv9:rv9=Fr.rE (q≠0) (Rat.divInt p q)) :
    Ct Tryz.prog 139 #[iv 1,iv exp,iv p,iv q] [] [] (fun g=>.agg #[iv 0,iv exp,iv 0,iv 0,iv 0,iv 0,iv rv6,((g.ss 0)).v,iv rv8,((g.ss 1)).v]) (fun g=>[fs true rv7 (g.ss 0),fs true rv9 (g.ss 1)]) (fun g=>[]) (fun g=>[]):=by
  subst erv6 erv7 erv8 erv9;exact uof1_ct exp p q hp hq hq0
set_option maxRecDepth 10000 in
theorem uof2_ct (exp p q:Int) (hp: -9223372036854775808≤p∧p≤9223372036854775807) (hq: -9223372036854775808≤q∧q≤9223372036854775807) (hq0:q≠0) :
    Ct Tryz.prog 139 #[iv 2,iv exp,iv p,iv q] [] [] (fun g=>.agg #[iv 0,iv 0,iv exp,iv 0,iv 0,iv 0,iv (Fr.rS (q≠0) (Rat.divInt p q)),((g.ss 0)).v,iv (Fr.rT (q≠0)),((g.ss 1)).v]) (fun g=>[fs true (Fr.rD (q≠0) (Rat.divInt p q)) (g.ss 0),fs true (Fr.rE (q≠0) (Rat.divInt p q)) (g.ss 1)]) (fun g=>[]) (fun g=>[]):=by
  refine V.fn mo Tryz.func139 22 2 (by kernel_rfl) fun w H ε k0=>?_;clear k0
  refine V.g [.nb 0 0 (fun b=>pp b 0) 42 (fun _=>#[iv 0,iv 0,iv 0,iv 0,iv 0,iv 0,iv 0,.slice none 0 0,iv 0,.slice none 0 0])] fun _ _ G1=>?_;intro S s
  refine V.g [.nb 0 1 (fun b=>pp b 0) 42 (fun _=>#[iv 0,iv 0,iv 0,iv 0,iv 0,iv 0,iv 0,.slice none 0 0,iv 0,.slice none 0 0])] fun _ _ G2=>?_;intro S s
  refine V.g [.k (iv 2),.k (iv exp),.k (pp ((G2 0).b) 0),.k (pp ((G2 0).b) 2),.st 1 (fun _=>.blk ((G2 0).b) #[iv 0,iv 0,iv exp,iv 0,iv 0,iv 0,iv 0,.slice none 0 0,iv 0,.slice none 0 0] 42)] fun _ _ G3=>?_;intro S s
  refine nm (Fr.rS (q≠0) (Rat.divInt p q):Int) fun n1 hn1=>?_;refine nl (Fr.rD (q≠0) (Rat.divInt p q)) fun l1 hl1 hl1n=>?_;refine nm (Fr.rT (q≠0):Int) fun n2 hn2=>?_;refine nl (Fr.rE (q≠0) (Rat.divInt p q)) fun l2 hl2 hl2n=>?_;refine nm (if q=0 then (15:Int) else 0:Int) fun n3 hn3=>?_;have zo:=Fr.Fz.of hq0 hn1 hl1 hn2 hl2
  refine V.r [.k (iv p),.k (iv q),.ct g0 2 104 false [] [] [] (fun _ G=>fof_ctv p q (by omega) (by omega) n1 hn1 l1 hl1 n2 hn2 l2 hl2 n3 hn3),.v fun G=>.tuple #[ag (DFrac.mk ⟨n1,l1,(G 2).ss 0⟩ ⟨n2,l2,(G 2).ss 1⟩),iv n3],.v fun G=>ag (DFrac.mk ⟨n1,l1,(G 2).ss 0⟩ ⟨n2,l2,(G 2).ss 1⟩),.k (iv n3),.k (pp ((G2 0).b) 6),.st 1 (fun G=>.blk ((G2 0).b) #[iv 0,iv 0,iv exp,iv 0,iv 0,iv 0,iv n1,((G 2).ss 0).v,iv n2,((G 2).ss 1).v] 42)] fun _ _ G4 kw4=>?_;intro S s
  obtain ⟨⟨kl1, -⟩,⟨kl2, -⟩, -⟩:Lq l1 (((G4 2).ss 0).v)∧Lq l2 (((G4 2).ss 1).v)∧True:=kq kw4;clear kw4;refine V.g [.ld 1 0 true (fun _=>[iv 0,iv 0,iv exp,iv 0,iv 0,iv 0,iv n1,((G4 2).ss 0).v,iv n2,((G4 2).ss 1).v]),.st 0 (fun _=>.blk ((G1 0).b) #[iv 0,iv 0,iv exp,iv 0,iv 0,iv 0,iv n1,((G4 2).ss 0).v,iv n2,((G4 2).ss 1).v] 42)] fun _ _ G5=>?_;intro S s;have e7:l1=Fr.rD (q≠0) (Rat.divInt p q):=(Fr.Fz.ret zo hq0 rfl).2.1;subst e7;have e9:l2=Fr.rE (q≠0) (Rat.divInt p q):=(Fr.Fz.ret zo hq0 rfl).2.2.2;subst e9;have e6:n1=Fr.rS (q≠0) (Rat.divInt p q):=(Fr.Fz.ret zo hq0 rfl).1;have e8:n2=Fr.rT (q≠0):=(Fr.Fz.ret zo hq0 rfl).2.2.1;exact V.rt [0] [(G4 2).ss 0,(G4 2).ss 1] [fun _=>{},fun _=>{}] [] [0,1] [] (.agg #[iv 0,iv 0,iv exp,iv 0,iv 0,iv 0,iv n1,((G4 2).ss 0).v,iv n2,((G4 2).ss 1).v]) (cong2 (fun (x6 x8:Int)=>(.agg #[iv 0,iv 0,iv exp,iv 0,iv 0,iv 0,iv x6,((G4 2).ss 0).v,iv x8,((G4 2).ss 1).v]:Value)) e6 e8)
theorem uof2_ctv (exp p q:Int) (hp: -9223372036854775808≤p∧p≤9223372036854775807) (hq: -9223372036854775808≤q∧q≤9223372036854775807) (hq0:q≠0) (rv6:Int) (erv6:rv6=Fr.rS (q≠0) (Rat.divInt p q)) (rv7:List Int) (erv7:rv7=Fr.rD (q≠0) (Rat.divInt p q)) (rv8:Int) (erv8:rv8=Fr.rT (q≠0)) (rv9:List Int) (erv9:rv9=Fr.rE (q≠0) (Rat.divInt p q)) :
    Ct Tryz.prog 139 #[iv 2,iv exp,iv p,iv q] [] [] (fun g=>.agg #[iv 0,iv 0,iv exp,iv 0,iv 0,iv 0,iv rv6,((g.ss 0)).v,iv rv8,((g.ss 1)).v]) (fun g=>[fs true rv7 (g.ss 0),fs true rv9 (g.ss 1)]) (fun g=>[]) (fun g=>[]):=by
  subst erv6 erv7 erv8 erv9;exact uof2_ct exp p q hp hq hq0
set_option maxRecDepth 10000 in
theorem uof3_ct (exp p q:Int) (hp: -9223372036854775808≤p∧p≤9223372036854775807) (hq: -9223372036854775808≤q∧q≤9223372036854775807) (hq0:q≠0) :
    Ct Tryz.prog 139 #[iv 3,iv exp,iv p,iv q] [] [] (fun g=>.agg #[iv 0,iv 0,iv 0,iv exp,iv 0,iv 0,iv (Fr.rS (q≠0) (Rat.divInt p q)),((g.ss 0)).v,iv (Fr.rT (q≠0)),((g.ss 1)).v]) (fun g=>[fs true (Fr.rD (q≠0) (Rat.divInt p q)) (g.ss 0),fs true (Fr.rE (q≠0) (Rat.divInt p q)) (g.ss 1)]) (fun g=>[]) (fun g=>[]):=by
  refine V.fn mo Tryz.func139 22 2 (by kernel_rfl) fun w H ε k0=>?_;clear k0
  refine V.g [.nb 0 0 (fun b=>pp b 0) 42 (fun _=>#[iv 0,iv 0,iv 0,iv 0,iv 0,iv 0,iv 0,.slice none 0 0,iv 0,.slice none 0 0])] fun _ _ G1=>?_;intro S s
  refine V.g [.nb 0 1 (fun b=>pp b 0) 42 (fun _=>#[iv 0,iv 0,iv 0,iv 0,iv 0,iv 0,iv 0,.slice none 0 0,iv 0,.slice none 0 0])] fun _ _ G2=>?_;intro S s
  refine V.g [.k (iv 3),.k (iv exp),.k (pp ((G2 0).b) 0),.k (pp ((G2 0).b) 3),.st 1 (fun _=>.blk ((G2 0).b) #[iv 0,iv 0,iv 0,iv exp,iv 0,iv 0,iv 0,.slice none 0 0,iv 0,.slice none 0 0] 42)] fun _ _ G3=>?_;intro S s
  refine nm (Fr.rS (q≠0) (Rat.divInt p q):Int) fun n1 hn1=>?_;refine nl (Fr.rD (q≠0) (Rat.divInt p q)) fun l1 hl1 hl1n=>?_;refine nm (Fr.rT (q≠0):Int) fun n2 hn2=>?_;refine nl (Fr.rE (q≠0) (Rat.divInt p q)) fun l2 hl2 hl2n=>?_;refine nm (if q=0 then (15:Int) else 0:Int) fun n3 hn3=>?_;have zo:=Fr.Fz.of hq0 hn1 hl1 hn2 hl2
  refine V.r [.k (iv p),.k (iv q),.ct g0 2 104 false [] [] [] (fun _ G=>fof_ctv p q (by omega) (by omega) n1 hn1 l1 hl1 n2 hn2 l2 hl2 n3 hn3),.v fun G=>.tuple #[ag (DFrac.mk ⟨n1,l1,(G 2).ss 0⟩ ⟨n2,l2,(G 2).ss 1⟩),iv n3],.v fun G=>ag (DFrac.mk ⟨n1,l1,(G 2).ss 0⟩ ⟨n2,l2,(G 2).ss 1⟩),.k (iv n3),.k (pp ((G2 0).b) 6),.st 1 (fun G=>.blk ((G2 0).b) #[iv 0,iv 0,iv 0,iv exp,iv 0,iv 0,iv n1,((G 2).ss 0).v,iv n2,((G 2).ss 1).v] 42)] fun _ _ G4 kw4=>?_;intro S s
  obtain ⟨⟨kl1, -⟩,⟨kl2, -⟩, -⟩:Lq l1 (((G4 2).ss 0).v)∧Lq l2 (((G4 2).ss 1).v)∧True:=kq kw4;clear kw4;refine V.g [.ld 1 0 true (fun _=>[iv 0,iv 0,iv 0,iv exp,iv 0,iv 0,iv n1,((G4 2).ss 0).v,iv n2,((G4 2).ss 1).v]),.st 0 (fun _=>.blk ((G1 0).b) #[iv 0,iv 0,iv 0,iv exp,iv 0,iv 0,iv n1,((G4 2).ss 0).v,iv n2,((G4 2).ss 1).v] 42)] fun _ _ G5=>?_;intro S s;have e7:l1=Fr.rD (q≠0) (Rat.divInt p q):=(Fr.Fz.ret zo hq0 rfl).2.1;subst e7;have e9:l2=Fr.rE (q≠0) (Rat.divInt p q):=(Fr.Fz.ret zo hq0 rfl).2.2.2;subst e9;have e6:n1=Fr.rS (q≠0) (Rat.divInt p q):=(Fr.Fz.ret zo hq0 rfl).1;have e8:n2=Fr.rT (q≠0):=(Fr.Fz.ret zo hq0 rfl).2.2.1;exact V.rt [0] [(G4 2).ss 0,(G4 2).ss 1] [fun _=>{},fun _=>{}] [] [0,1] [] (.agg #[iv 0,iv 0,iv 0,iv exp,iv 0,iv 0,iv n1,((G4 2).ss 0).v,iv n2,((G4 2).ss 1).v]) (cong2 (fun (x6 x8:Int)=>(.agg #[iv 0,iv 0,iv 0,iv exp,iv 0,iv 0,iv x6,((G4 2).ss 0).v,iv x8,((G4 2).ss 1).v]:Value)) e6 e8)
theorem uof3_ctv (exp p q:Int) (hp: -9223372036854775808≤p∧p≤9223372036854775807) (hq: -9223372036854775808≤q∧q≤9223372036854775807) (hq0:q≠0) (rv6:Int) (erv6:rv6=Fr.rS (q≠0) (Rat.divInt p q)) (rv7:List Int) (erv7:rv7=Fr.rD (q≠0) (Rat.divInt p q)) (rv8:Int) (erv8:rv8=Fr.rT (q≠0)) (rv9:List Int) (erv9:rv9=Fr.rE (q≠0) (Rat.divInt p q)) :
    Ct Tryz.prog 139 #[iv 3,iv exp,iv p,iv q] [] [] (fun g=>.agg #[iv 0,iv 0,iv 0,iv exp,iv 0,iv 0,iv rv6,((g.ss 0)).v,iv rv8,((g.ss 1)).v]) (fun g=>[fs true rv7 (g.ss 0),fs true rv9 (g.ss 1)]) (fun g=>[]) (fun g=>[]):=by
  subst erv6 erv7 erv8 erv9;exact uof3_ct exp p q hp hq hq0
set_option maxRecDepth 10000 in
theorem uof4_ct (exp p q:Int) (hp: -9223372036854775808≤p∧p≤9223372036854775807) (hq: -9223372036854775808≤q∧q≤9223372036854775807) (hq0:q≠0) :
    Ct Tryz.prog 139 #[iv 4,iv exp,iv p,iv q] [] [] (fun g=>.agg #[iv 0,iv 0,iv 0,iv 0,iv exp,iv 0,iv (Fr.rS (q≠0) (Rat.divInt p q)),((g.ss 0)).v,iv (Fr.rT (q≠0)),((g.ss 1)).v]) (fun g=>[fs true (Fr.rD (q≠0) (Rat.divInt p q)) (g.ss 0),fs true (Fr.rE (q≠0) (Rat.divInt p q)) (g.ss 1)]) (fun g=>[]) (fun g=>[]):=by
  refine V.fn mo Tryz.func139 22 2 (by kernel_rfl) fun w H ε k0=>?_;clear k0
  refine V.g [.nb 0 0 (fun b=>pp b 0) 42 (fun _=>#[iv 0,iv 0,iv 0,iv 0,iv 0,iv 0,iv 0,.slice none 0 0,iv 0,.slice none 0 0])] fun _ _ G1=>?_;intro S s
  refine V.g [.nb 0 1 (fun b=>pp b 0) 42 (fun _=>#[iv 0,iv 0,iv 0,iv 0,iv 0,iv 0,iv 0,.slice none 0 0,iv 0,.slice none 0 0])] fun _ _ G2=>?_;intro S s
  refine V.g [.k (iv 4),.k (iv exp),.k (pp ((G2 0).b) 0),.k (pp ((G2 0).b) 4),.st 1 (fun _=>.blk ((G2 0).b) #[iv 0,iv 0,iv 0,iv 0,iv exp,iv 0,iv 0,.slice none 0 0,iv 0,.slice none 0 0] 42)] fun _ _ G3=>?_;intro S s
  refine nm (Fr.rS (q≠0) (Rat.divInt p q):Int) fun n1 hn1=>?_;refine nl (Fr.rD (q≠0) (Rat.divInt p q)) fun l1 hl1 hl1n=>?_;refine nm (Fr.rT (q≠0):Int) fun n2 hn2=>?_;refine nl (Fr.rE (q≠0) (Rat.divInt p q)) fun l2 hl2 hl2n=>?_;refine nm (if q=0 then (15:Int) else 0:Int) fun n3 hn3=>?_;have zo:=Fr.Fz.of hq0 hn1 hl1 hn2 hl2
  refine V.r [.k (iv p),.k (iv q),.ct g0 2 104 false [] [] [] (fun _ G=>fof_ctv p q (by omega) (by omega) n1 hn1 l1 hl1 n2 hn2 l2 hl2 n3 hn3),.v fun G=>.tuple #[ag (DFrac.mk ⟨n1,l1,(G 2).ss 0⟩ ⟨n2,l2,(G 2).ss 1⟩),iv n3],.v fun G=>ag (DFrac.mk ⟨n1,l1,(G 2).ss 0⟩ ⟨n2,l2,(G 2).ss 1⟩),.k (iv n3),.k (pp ((G2 0).b) 6),.st 1 (fun G=>.blk ((G2 0).b) #[iv 0,iv 0,iv 0,iv 0,iv exp,iv 0,iv n1,((G 2).ss 0).v,iv n2,((G 2).ss 1).v] 42)] fun _ _ G4 kw4=>?_;intro S s
  obtain ⟨⟨kl1, -⟩,⟨kl2, -⟩, -⟩:Lq l1 (((G4 2).ss 0).v)∧Lq l2 (((G4 2).ss 1).v)∧True:=kq kw4;clear kw4;refine V.g [.ld 1 0 true (fun _=>[iv 0,iv 0,iv 0,iv 0,iv exp,iv 0,iv n1,((G4 2).ss 0).v,iv n2,((G4 2).ss 1).v]),.st 0 (fun _=>.blk ((G1 0).b) #[iv 0,iv 0,iv 0,iv 0,iv exp,iv 0,iv n1,((G4 2).ss 0).v,iv n2,((G4 2).ss 1).v] 42)] fun _ _ G5=>?_;intro S s;have e7:l1=Fr.rD (q≠0) (Rat.divInt p q):=(Fr.Fz.ret zo hq0 rfl).2.1;subst e7;have e9:l2=Fr.rE (q≠0) (Rat.divInt p q):=(Fr.Fz.ret zo hq0 rfl).2.2.2;subst e9;have e6:n1=Fr.rS (q≠0) (Rat.divInt p q):=(Fr.Fz.ret zo hq0 rfl).1;have e8:n2=Fr.rT (q≠0):=(Fr.Fz.ret zo hq0 rfl).2.2.1;exact V.rt [0] [(G4 2).ss 0,(G4 2).ss 1] [fun _=>{},fun _=>{}] [] [0,1] [] (.agg #[iv 0,iv 0,iv 0,iv 0,iv exp,iv 0,iv n1,((G4 2).ss 0).v,iv n2,((G4 2).ss 1).v]) (cong2 (fun (x6 x8:Int)=>(.agg #[iv 0,iv 0,iv 0,iv 0,iv exp,iv 0,iv x6,((G4 2).ss 0).v,iv x8,((G4 2).ss 1).v]:Value)) e6 e8)
theorem uof4_ctv (exp p q:Int) (hp: -9223372036854775808≤p∧p≤9223372036854775807) (hq: -9223372036854775808≤q∧q≤9223372036854775807) (hq0:q≠0) (rv6:Int) (erv6:rv6=Fr.rS (q≠0) (Rat.divInt p q)) (rv7:List Int) (erv7:rv7=Fr.rD (q≠0) (Rat.divInt p q)) (rv8:Int) (erv8:rv8=Fr.rT (q≠0)) (rv9:List Int) (erv9:rv9=Fr.rE (q≠0) (Rat.divInt p q)) :
    Ct Tryz.prog 139 #[iv 4,iv exp,iv p,iv q] [] [] (fun g=>.agg #[iv 0,iv 0,iv 0,iv 0,iv exp,iv 0,iv rv6,((g.ss 0)).v,iv rv8,((g.ss 1)).v]) (fun g=>[fs true rv7 (g.ss 0),fs true rv9 (g.ss 1)]) (fun g=>[]) (fun g=>[]):=by
  subst erv6 erv7 erv8 erv9;exact uof4_ct exp p q hp hq hq0
set_option maxRecDepth 10000 in
theorem uof5_ct (exp p q:Int) (hp: -9223372036854775808≤p∧p≤9223372036854775807) (hq: -9223372036854775808≤q∧q≤9223372036854775807) (hq0:q≠0) :
    Ct Tryz.prog 139 #[iv 5,iv exp,iv p,iv q] [] [] (fun g=>.agg #[iv 0,iv 0,iv 0,iv 0,iv 0,iv exp,iv (Fr.rS (q≠0) (Rat.divInt p q)),((g.ss 0)).v,iv (Fr.rT (q≠0)),((g.ss 1)).v]) (fun g=>[fs true (Fr.rD (q≠0) (Rat.divInt p q)) (g.ss 0),fs true (Fr.rE (q≠0) (Rat.divInt p q)) (g.ss 1)]) (fun g=>[]) (fun g=>[]):=by
  refine V.fn mo Tryz.func139 22 2 (by kernel_rfl) fun w H ε k0=>?_;clear k0
  refine V.g [.nb 0 0 (fun b=>pp b 0) 42 (fun _=>#[iv 0,iv 0,iv 0,iv 0,iv 0,iv 0,iv 0,.slice none 0 0,iv 0,.slice none 0 0])] fun _ _ G1=>?_;intro S s
  refine V.g [.nb 0 1 (fun b=>pp b 0) 42 (fun _=>#[iv 0,iv 0,iv 0,iv 0,iv 0,iv 0,iv 0,.slice none 0 0,iv 0,.slice none 0 0])] fun _ _ G2=>?_;intro S s
  refine V.g [.k (iv 5),.k (iv exp),.k (pp ((G2 0).b) 0),.k (pp ((G2 0).b) 5),.st 1 (fun _=>.blk ((G2 0).b) #[iv 0,iv 0,iv 0,iv 0,iv 0,iv exp,iv 0,.slice none 0 0,iv 0,.slice none 0 0] 42)] fun _ _ G3=>?_;intro S s
  refine nm (Fr.rS (q≠0) (Rat.divInt p q):Int) fun n1 hn1=>?_;refine nl (Fr.rD (q≠0) (Rat.divInt p q)) fun l1 hl1 hl1n=>?_;refine nm (Fr.rT (q≠0):Int) fun n2 hn2=>?_;refine nl (Fr.rE (q≠0) (Rat.divInt p q)) fun l2 hl2 hl2n=>?_;refine nm (if q=0 then (15:Int) else 0:Int) fun n3 hn3=>?_;have zo:=Fr.Fz.of hq0 hn1 hl1 hn2 hl2
  refine V.r [.k (iv p),.k (iv q),.ct g0 2 104 false [] [] [] (fun _ G=>fof_ctv p q (by omega) (by omega) n1 hn1 l1 hl1 n2 hn2 l2 hl2 n3 hn3),.v fun G=>.tuple #[ag (DFrac.mk ⟨n1,l1,(G 2).ss 0⟩ ⟨n2,l2,(G 2).ss 1⟩),iv n3],.v fun G=>ag (DFrac.mk ⟨n1,l1,(G 2).ss 0⟩ ⟨n2,l2,(G 2).ss 1⟩),.k (iv n3),.k (pp ((G2 0).b) 6),.st 1 (fun G=>.blk ((G2 0).b) #[iv 0,iv 0,iv 0,iv 0,iv 0,iv exp,iv n1,((G 2).ss 0).v,iv n2,((G 2).ss 1).v] 42)] fun _ _ G4 kw4=>?_;intro S s
  obtain ⟨⟨kl1, -⟩,⟨kl2, -⟩, -⟩:Lq l1 (((G4 2).ss 0).v)∧Lq l2 (((G4 2).ss 1).v)∧True:=kq kw4;clear kw4;refine V.g [.ld 1 0 true (fun _=>[iv 0,iv 0,iv 0,iv 0,iv 0,iv exp,iv n1,((G4 2).ss 0).v,iv n2,((G4 2).ss 1).v]),.st 0 (fun _=>.blk ((G1 0).b) #[iv 0,iv 0,iv 0,iv 0,iv 0,iv exp,iv n1,((G4 2).ss 0).v,iv n2,((G4 2).ss 1).v] 42)] fun _ _ G5=>?_;intro S s;have e7:l1=Fr.rD (q≠0) (Rat.divInt p q):=(Fr.Fz.ret zo hq0 rfl).2.1;subst e7;have e9:l2=Fr.rE (q≠0) (Rat.divInt p q):=(Fr.Fz.ret zo hq0 rfl).2.2.2;subst e9;have e6:n1=Fr.rS (q≠0) (Rat.divInt p q):=(Fr.Fz.ret zo hq0 rfl).1;have e8:n2=Fr.rT (q≠0):=(Fr.Fz.ret zo hq0 rfl).2.2.1;exact V.rt [0] [(G4 2).ss 0,(G4 2).ss 1] [fun _=>{},fun _=>{}] [] [0,1] [] (.agg #[iv 0,iv 0,iv 0,iv 0,iv 0,iv exp,iv n1,((G4 2).ss 0).v,iv n2,((G4 2).ss 1).v]) (cong2 (fun (x6 x8:Int)=>(.agg #[iv 0,iv 0,iv 0,iv 0,iv 0,iv exp,iv x6,((G4 2).ss 0).v,iv x8,((G4 2).ss 1).v]:Value)) e6 e8)
theorem uof5_ctv (exp p q:Int) (hp: -9223372036854775808≤p∧p≤9223372036854775807) (hq: -9223372036854775808≤q∧q≤9223372036854775807) (hq0:q≠0) (rv6:Int) (erv6:rv6=Fr.rS (q≠0) (Rat.divInt p q)) (rv7:List Int) (erv7:rv7=Fr.rD (q≠0) (Rat.divInt p q)) (rv8:Int) (erv8:rv8=Fr.rT (q≠0)) (rv9:List Int) (erv9:rv9=Fr.rE (q≠0) (Rat.divInt p q)) :
    Ct Tryz.prog 139 #[iv 5,iv exp,iv p,iv q] [] [] (fun g=>.agg #[iv 0,iv 0,iv 0,iv 0,iv 0,iv exp,iv rv6,((g.ss 0)).v,iv rv8,((g.ss 1)).v]) (fun g=>[fs true rv7 (g.ss 0),fs true rv9 (g.ss 1)]) (fun g=>[]) (fun g=>[]):=by
  subst erv6 erv7 erv8 erv9;exact uof5_ct exp p q hp hq hq0
set_option maxRecDepth 10000 in
theorem usym_ct (s:ByteArray) :
    Ct Tryz.prog 101 #[tv s] [] [] (fun g=>.tuple #[.agg #[iv (Un.dv (Un.sym s) 0),iv (Un.dv (Un.sym s) 1),iv (Un.dv (Un.sym s) 2),iv (Un.dv (Un.sym s) 3),iv (Un.dv (Un.sym s) 4),iv (Un.dv (Un.sym s) 5),iv (Fr.rS ((Un.sym s).isSome=true) (Un.fv (Un.sym s))),((g.ss 0)).v,iv (Fr.rT ((Un.sym s).isSome=true)),((g.ss 1)).v],bv ((Un.sym s).isSome)]) (fun g=>[fs true (Fr.rD ((Un.sym s).isSome=true) (Un.fv (Un.sym s))) (g.ss 0),fs true (Fr.rE ((Un.sym s).isSome=true) (Un.fv (Un.sym s))) (g.ss 1)]) (fun g=>[]) (fun g=>[]):=by
  refine V.fn mo Tryz.func101 42 1 (by kernel_rfl) fun w H ε k0=>?_;clear k0
  refine V.g [.nb 0 0 (fun b=>pp b 0) 42 (fun _=>#[iv 0,iv 0,iv 0,iv 0,iv 0,iv 0,iv 0,.slice none 0 0,iv 0,.slice none 0 0]),.kb false] fun _ _ G1=>?_;intro S_ s_
  refine V.g [.k (tv s)] fun _ _ G2=>?_;intro S_ s_
  refine V.g [.seq s ⟨#[103]⟩,.k (bv (decide (s=⟨#[103]⟩)))] fun _ _ G3=>?_;intro S_ s_
  refine V.cn (b:=decide (s=⟨#[103]⟩)) iDT iDF (fun q1=>?_) (fun q2=>?_)
  · have hsy:Un.sym s=some ([1,0,0,0,0,0],Rat.divInt 1 1):=by rw [q1];kernel_rfl
    refine nm (Fr.rS ((1:Int)≠0) (Rat.divInt (1:Int) (1:Int)):Int) fun n1 hn1=>?_;refine nl (Fr.rD ((1:Int)≠0) (Rat.divInt (1:Int) (1:Int))) fun l1 hl1 hl1n=>?_;refine nm (Fr.rT ((1:Int)≠0):Int) fun n2 hn2=>?_;refine nl (Fr.rE ((1:Int)≠0) (Rat.divInt (1:Int) (1:Int))) fun l2 hl2 hl2n=>?_;refine V.r [.ct g0 0 139 false [] [] [] (fun _ G=>uof0_ctv (1:Int) (1:Int) (1:Int) (by omega) (by omega) (by omega) n1 hn1 l1 hl1 n2 hn2 l2 hl2),.st 0 (fun G=>.blk ((G1 0).b) #[iv (1:Int),iv 0,iv 0,iv 0,iv 0,iv 0,iv n1,((G 0).ss 0).v,iv n2,((G 0).ss 1).v] 42),.kb true] fun _ _ G4 kw4=>?_;intro S_ s_
    obtain ⟨⟨kl1, -⟩,⟨kl2, -⟩, -⟩:Lq l1 (((G4 0).ss 0).v)∧Lq l2 (((G4 0).ss 1).v)∧True:=kq kw4;clear kw4;have e7:l1=Fr.rD ((Un.sym s).isSome=true) (Un.fv (Un.sym s)):=(Fr.Fz.ret (Fr.Fz.of (by decide) hn1 hl1 hn2 hl2) (Un.is_s hsy) (Un.fv_s hsy).symm).2.1;subst e7;have e9:l2=Fr.rE ((Un.sym s).isSome=true) (Un.fv (Un.sym s)):=(Fr.Fz.ret (Fr.Fz.of (by decide) hn1 hl1 hn2 hl2) (Un.is_s hsy) (Un.fv_s hsy).symm).2.2.2;subst e9;have e0:(1:Int)=Un.dv (Un.sym s) 0:=(Un.dv_s hsy 0).symm;have e1:(0:Int)=Un.dv (Un.sym s) 1:=(Un.dv_s hsy 1).symm;have e2:(0:Int)=Un.dv (Un.sym s) 2:=(Un.dv_s hsy 2).symm;have e3:(0:Int)=Un.dv (Un.sym s) 3:=(Un.dv_s hsy 3).symm;have e4:(0:Int)=Un.dv (Un.sym s) 4:=(Un.dv_s hsy 4).symm;have e5:(0:Int)=Un.dv (Un.sym s) 5:=(Un.dv_s hsy 5).symm;have e6:n1=Fr.rS ((Un.sym s).isSome=true) (Un.fv (Un.sym s)):=(Fr.Fz.ret (Fr.Fz.of (by decide) hn1 hl1 hn2 hl2) (Un.is_s hsy) (Un.fv_s hsy).symm).1;have e8:n2=Fr.rT ((Un.sym s).isSome=true):=(Fr.Fz.ret (Fr.Fz.of (by decide) hn1 hl1 hn2 hl2) (Un.is_s hsy) (Un.fv_s hsy).symm).2.2.1;have e10:true=(Un.sym s).isSome:=by rw [hsy];rfl
    exact V.rt [0,0] [(G4 0).ss 0,(G4 0).ss 1] [fun _=>{},fun _=>{}] [] [0,1] [] (.tuple #[.agg #[iv (1:Int),iv 0,iv 0,iv 0,iv 0,iv 0,iv n1,((G4 0).ss 0).v,iv n2,((G4 0).ss 1).v],bv true]) (cong9 (fun (x0 x1 x2 x3 x4 x5 x6 x8:Int) (x10:Bool)=>(.tuple #[.agg #[iv x0,iv x1,iv x2,iv x3,iv x4,iv x5,iv x6,((G4 0).ss 0).v,iv x8,((G4 0).ss 1).v],bv x10]:Value)) e0 e1 e2 e3 e4 e5 e6 e8 e10)
  have hsn0:¬ s=⟨#[103]⟩:=q2;refine V.g [.seq s ⟨#[116]⟩,.k (bv (decide (s=⟨#[116]⟩)))] fun _ _ G5=>?_;intro S_ s_
  refine V.cn (b:=decide (s=⟨#[116]⟩)) iDT iDF (fun q3=>?_) (fun q4=>?_)
  · have hsy:Un.sym s=some ([1,0,0,0,0,0],Rat.divInt 1000000 1):=by rw [q3];kernel_rfl
    refine nm (Fr.rS ((1:Int)≠0) (Rat.divInt (1000000:Int) (1:Int)):Int) fun n3 hn3=>?_;refine nl (Fr.rD ((1:Int)≠0) (Rat.divInt (1000000:Int) (1:Int))) fun l3 hl3 hl3n=>?_;refine nm (Fr.rT ((1:Int)≠0):Int) fun n4 hn4=>?_;refine nl (Fr.rE ((1:Int)≠0) (Rat.divInt (1000000:Int) (1:Int))) fun l4 hl4 hl4n=>?_;refine V.r [.ct g0 0 139 false [] [] [] (fun _ G=>uof0_ctv (1:Int) (1000000:Int) (1:Int) (by omega) (by omega) (by omega) n3 hn3 l3 hl3 n4 hn4 l4 hl4),.st 0 (fun G=>.blk ((G1 0).b) #[iv (1:Int),iv 0,iv 0,iv 0,iv 0,iv 0,iv n3,((G 0).ss 0).v,iv n4,((G 0).ss 1).v] 42),.kb true] fun _ _ G6 kw6=>?_;intro S_ s_
    obtain ⟨⟨kl3, -⟩,⟨kl4, -⟩, -⟩:Lq l3 (((G6 0).ss 0).v)∧Lq l4 (((G6 0).ss 1).v)∧True:=kq kw6;clear kw6;have e7:l3=Fr.rD ((Un.sym s).isSome=true) (Un.fv (Un.sym s)):=(Fr.Fz.ret (Fr.Fz.of (by decide) hn3 hl3 hn4 hl4) (Un.is_s hsy) (Un.fv_s hsy).symm).2.1;subst e7;have e9:l4=Fr.rE ((Un.sym s).isSome=true) (Un.fv (Un.sym s)):=(Fr.Fz.ret (Fr.Fz.of (by decide) hn3 hl3 hn4 hl4) (Un.is_s hsy) (Un.fv_s hsy).symm).2.2.2;subst e9;have e0:(1:Int)=Un.dv (Un.sym s) 0:=(Un.dv_s hsy 0).symm;have e1:(0:Int)=Un.dv (Un.sym s) 1:=(Un.dv_s hsy 1).symm;have e2:(0:Int)=Un.dv (Un.sym s) 2:=(Un.dv_s hsy 2).symm;have e3:(0:Int)=Un.dv (Un.sym s) 3:=(Un.dv_s hsy 3).symm;have e4:(0:Int)=Un.dv (Un.sym s) 4:=(Un.dv_s hsy 4).symm;have e5:(0:Int)=Un.dv (Un.sym s) 5:=(Un.dv_s hsy 5).symm;have e6:n3=Fr.rS ((Un.sym s).isSome=true) (Un.fv (Un.sym s)):=(Fr.Fz.ret (Fr.Fz.of (by decide) hn3 hl3 hn4 hl4) (Un.is_s hsy) (Un.fv_s hsy).symm).1;have e8:n4=Fr.rT ((Un.sym s).isSome=true):=(Fr.Fz.ret (Fr.Fz.of (by decide) hn3 hl3 hn4 hl4) (Un.is_s hsy) (Un.fv_s hsy).symm).2.2.1;have e10:true=(Un.sym s).isSome:=by rw [hsy];rfl
    exact V.rt [0,0] [(G6 0).ss 0,(G6 0).ss 1] [fun _=>{},fun _=>{}] [] [0,1] [] (.tuple #[.agg #[iv (1:Int),iv 0,iv 0,iv 0,iv 0,iv 0,iv n3,((G6 0).ss 0).v,iv n4,((G6 0).ss 1).v],bv true]) (cong9 (fun (x0 x1 x2 x3 x4 x5 x6 x8:Int) (x10:Bool)=>(.tuple #[.agg #[iv x0,iv x1,iv x2,iv x3,iv x4,iv x5,iv x6,((G6 0).ss 0).v,iv x8,((G6 0).ss 1).v],bv x10]:Value)) e0 e1 e2 e3 e4 e5 e6 e8 e10)
  have hsn1:¬ s=⟨#[116]⟩:=q4;refine V.g [.seq s ⟨#[109]⟩,.k (bv (decide (s=⟨#[109]⟩)))] fun _ _ G7=>?_;intro S_ s_
  refine V.cn (b:=decide (s=⟨#[109]⟩)) iDT iDF (fun q5=>?_) (fun q6=>?_)
  · have hsy:Un.sym s=some ([0,1,0,0,0,0],Rat.divInt 1 1):=by rw [q5];kernel_rfl
    refine nm (Fr.rS ((1:Int)≠0) (Rat.divInt (1:Int) (1:Int)):Int) fun n5 hn5=>?_;refine nl (Fr.rD ((1:Int)≠0) (Rat.divInt (1:Int) (1:Int))) fun l5 hl5 hl5n=>?_;refine nm (Fr.rT ((1:Int)≠0):Int) fun n6 hn6=>?_;refine nl (Fr.rE ((1:Int)≠0) (Rat.divInt (1:Int) (1:Int))) fun l6 hl6 hl6n=>?_;refine V.r [.ct g0 0 139 false [] [] [] (fun _ G=>uof1_ctv (1:Int) (1:Int) (1:Int) (by omega) (by omega) (by omega) n5 hn5 l5 hl5 n6 hn6 l6 hl6),.st 0 (fun G=>.blk ((G1 0).b) #[iv 0,iv (1:Int),iv 0,iv 0,iv 0,iv 0,iv n5,((G 0).ss 0).v,iv n6,((G 0).ss 1).v] 42),.kb true] fun _ _ G8 kw8=>?_;intro S_ s_
    obtain ⟨⟨kl5, -⟩,⟨kl6, -⟩, -⟩:Lq l5 (((G8 0).ss 0).v)∧Lq l6 (((G8 0).ss 1).v)∧True:=kq kw8;clear kw8;have e7:l5=Fr.rD ((Un.sym s).isSome=true) (Un.fv (Un.sym s)):=(Fr.Fz.ret (Fr.Fz.of (by decide) hn5 hl5 hn6 hl6) (Un.is_s hsy) (Un.fv_s hsy).symm).2.1;subst e7;have e9:l6=Fr.rE ((Un.sym s).isSome=true) (Un.fv (Un.sym s)):=(Fr.Fz.ret (Fr.Fz.of (by decide) hn5 hl5 hn6 hl6) (Un.is_s hsy) (Un.fv_s hsy).symm).2.2.2;subst e9;have e0:(0:Int)=Un.dv (Un.sym s) 0:=(Un.dv_s hsy 0).symm;have e1:(1:Int)=Un.dv (Un.sym s) 1:=(Un.dv_s hsy 1).symm;have e2:(0:Int)=Un.dv (Un.sym s) 2:=(Un.dv_s hsy 2).symm;have e3:(0:Int)=Un.dv (Un.sym s) 3:=(Un.dv_s hsy 3).symm;have e4:(0:Int)=Un.dv (Un.sym s) 4:=(Un.dv_s hsy 4).symm;have e5:(0:Int)=Un.dv (Un.sym s) 5:=(Un.dv_s hsy 5).symm;have e6:n5=Fr.rS ((Un.sym s).isSome=true) (Un.fv (Un.sym s)):=(Fr.Fz.ret (Fr.Fz.of (by decide) hn5 hl5 hn6 hl6) (Un.is_s hsy) (Un.fv_s hsy).symm).1;have e8:n6=Fr.rT ((Un.sym s).isSome=true):=(Fr.Fz.ret (Fr.Fz.of (by decide) hn5 hl5 hn6 hl6) (Un.is_s hsy) (Un.fv_s hsy).symm).2.2.1;have e10:true=(Un.sym s).isSome:=by rw [hsy];rfl
    exact V.rt [0,0] [(G8 0).ss 0,(G8 0).ss 1] [fun _=>{},fun _=>{}] [] [0,1] [] (.tuple #[.agg #[iv 0,iv (1:Int),iv 0,iv 0,iv 0,iv 0,iv n5,((G8 0).ss 0).v,iv n6,((G8 0).ss 1).v],bv true]) (cong9 (fun (x0 x1 x2 x3 x4 x5 x6 x8:Int) (x10:Bool)=>(.tuple #[.agg #[iv x0,iv x1,iv x2,iv x3,iv x4,iv x5,iv x6,((G8 0).ss 0).v,iv x8,((G8 0).ss 1).v],bv x10]:Value)) e0 e1 e2 e3 e4 e5 e6 e8 e10)
  have hsn2:¬ s=⟨#[109]⟩:=q6;refine V.g [.seq s ⟨#[108]⟩,.k (bv (decide (s=⟨#[108]⟩)))] fun _ _ G9=>?_;intro S_ s_
  refine V.cn (b:=decide (s=⟨#[108]⟩)) iDT iDF (fun q7=>?_) (fun q8=>?_)
  · have hsy:Un.sym s=some ([0,3,0,0,0,0],Rat.divInt 1 1000):=by rw [q7];kernel_rfl
    refine nm (Fr.rS ((1000:Int)≠0) (Rat.divInt (1:Int) (1000:Int)):Int) fun n7 hn7=>?_;refine nl (Fr.rD ((1000:Int)≠0) (Rat.divInt (1:Int) (1000:Int))) fun l7 hl7 hl7n=>?_;refine nm (Fr.rT ((1000:Int)≠0):Int) fun n8 hn8=>?_;refine nl (Fr.rE ((1000:Int)≠0) (Rat.divInt (1:Int) (1000:Int))) fun l8 hl8 hl8n=>?_;refine V.r [.ct g0 0 139 false [] [] [] (fun _ G=>uof1_ctv (3:Int) (1:Int) (1000:Int) (by omega) (by omega) (by omega) n7 hn7 l7 hl7 n8 hn8 l8 hl8),.st 0 (fun G=>.blk ((G1 0).b) #[iv 0,iv (3:Int),iv 0,iv 0,iv 0,iv 0,iv n7,((G 0).ss 0).v,iv n8,((G 0).ss 1).v] 42),.kb true] fun _ _ G10 kw10=>?_;intro S_ s_
    obtain ⟨⟨kl7, -⟩,⟨kl8, -⟩, -⟩:Lq l7 (((G10 0).ss 0).v)∧Lq l8 (((G10 0).ss 1).v)∧True:=kq kw10;clear kw10;have e7:l7=Fr.rD ((Un.sym s).isSome=true) (Un.fv (Un.sym s)):=(Fr.Fz.ret (Fr.Fz.of (by decide) hn7 hl7 hn8 hl8) (Un.is_s hsy) (Un.fv_s hsy).symm).2.1;subst e7;have e9:l8=Fr.rE ((Un.sym s).isSome=true) (Un.fv (Un.sym s)):=(Fr.Fz.ret (Fr.Fz.of (by decide) hn7 hl7 hn8 hl8) (Un.is_s hsy) (Un.fv_s hsy).symm).2.2.2;subst e9;have e0:(0:Int)=Un.dv (Un.sym s) 0:=(Un.dv_s hsy 0).symm;have e1:(3:Int)=Un.dv (Un.sym s) 1:=(Un.dv_s hsy 1).symm;have e2:(0:Int)=Un.dv (Un.sym s) 2:=(Un.dv_s hsy 2).symm;have e3:(0:Int)=Un.dv (Un.sym s) 3:=(Un.dv_s hsy 3).symm;have e4:(0:Int)=Un.dv (Un.sym s) 4:=(Un.dv_s hsy 4).symm;have e5:(0:Int)=Un.dv (Un.sym s) 5:=(Un.dv_s hsy 5).symm;have e6:n7=Fr.rS ((Un.sym s).isSome=true) (Un.fv (Un.sym s)):=(Fr.Fz.ret (Fr.Fz.of (by decide) hn7 hl7 hn8 hl8) (Un.is_s hsy) (Un.fv_s hsy).symm).1;have e8:n8=Fr.rT ((Un.sym s).isSome=true):=(Fr.Fz.ret (Fr.Fz.of (by decide) hn7 hl7 hn8 hl8) (Un.is_s hsy) (Un.fv_s hsy).symm).2.2.1;have e10:true=(Un.sym s).isSome:=by rw [hsy];rfl
    exact V.rt [0,0] [(G10 0).ss 0,(G10 0).ss 1] [fun _=>{},fun _=>{}] [] [0,1] [] (.tuple #[.agg #[iv 0,iv (3:Int),iv 0,iv 0,iv 0,iv 0,iv n7,((G10 0).ss 0).v,iv n8,((G10 0).ss 1).v],bv true]) (cong9 (fun (x0 x1 x2 x3 x4 x5 x6 x8:Int) (x10:Bool)=>(.tuple #[.agg #[iv x0,iv x1,iv x2,iv x3,iv x4,iv x5,iv x6,((G10 0).ss 0).v,iv x8,((G10 0).ss 1).v],bv x10]:Value)) e0 e1 e2 e3 e4 e5 e6 e8 e10)
  have hsn3:¬ s=⟨#[108]⟩:=q8;refine V.g [.seq s ⟨#[115]⟩,.k (bv (decide (s=⟨#[115]⟩)))] fun _ _ G11=>?_;intro S_ s_
  refine V.cn (b:=decide (s=⟨#[115]⟩)) iDT iDF (fun q9=>?_) (fun q10=>?_)
  · have hsy:Un.sym s=some ([0,0,1,0,0,0],Rat.divInt 1 1):=by rw [q9];kernel_rfl
    refine nm (Fr.rS ((1:Int)≠0) (Rat.divInt (1:Int) (1:Int)):Int) fun n9 hn9=>?_;refine nl (Fr.rD ((1:Int)≠0) (Rat.divInt (1:Int) (1:Int))) fun l9 hl9 hl9n=>?_;refine nm (Fr.rT ((1:Int)≠0):Int) fun n10 hn10=>?_;refine nl (Fr.rE ((1:Int)≠0) (Rat.divInt (1:Int) (1:Int))) fun l10 hl10 hl10n=>?_;refine V.r [.ct g0 0 139 false [] [] [] (fun _ G=>uof2_ctv (1:Int) (1:Int) (1:Int) (by omega) (by omega) (by omega) n9 hn9 l9 hl9 n10 hn10 l10 hl10),.st 0 (fun G=>.blk ((G1 0).b) #[iv 0,iv 0,iv (1:Int),iv 0,iv 0,iv 0,iv n9,((G 0).ss 0).v,iv n10,((G 0).ss 1).v] 42),.kb true] fun _ _ G12 kw12=>?_;intro S_ s_
    obtain ⟨⟨kl9, -⟩,⟨kl10, -⟩, -⟩:Lq l9 (((G12 0).ss 0).v)∧Lq l10 (((G12 0).ss 1).v)∧True:=kq kw12;clear kw12;have e7:l9=Fr.rD ((Un.sym s).isSome=true) (Un.fv (Un.sym s)):=(Fr.Fz.ret (Fr.Fz.of (by decide) hn9 hl9 hn10 hl10) (Un.is_s hsy) (Un.fv_s hsy).symm).2.1;subst e7;have e9:l10=Fr.rE ((Un.sym s).isSome=true) (Un.fv (Un.sym s)):=(Fr.Fz.ret (Fr.Fz.of (by decide) hn9 hl9 hn10 hl10) (Un.is_s hsy) (Un.fv_s hsy).symm).2.2.2;subst e9;have e0:(0:Int)=Un.dv (Un.sym s) 0:=(Un.dv_s hsy 0).symm;have e1:(0:Int)=Un.dv (Un.sym s) 1:=(Un.dv_s hsy 1).symm;have e2:(1:Int)=Un.dv (Un.sym s) 2:=(Un.dv_s hsy 2).symm;have e3:(0:Int)=Un.dv (Un.sym s) 3:=(Un.dv_s hsy 3).symm;have e4:(0:Int)=Un.dv (Un.sym s) 4:=(Un.dv_s hsy 4).symm;have e5:(0:Int)=Un.dv (Un.sym s) 5:=(Un.dv_s hsy 5).symm;have e6:n9=Fr.rS ((Un.sym s).isSome=true) (Un.fv (Un.sym s)):=(Fr.Fz.ret (Fr.Fz.of (by decide) hn9 hl9 hn10 hl10) (Un.is_s hsy) (Un.fv_s hsy).symm).1;have e8:n10=Fr.rT ((Un.sym s).isSome=true):=(Fr.Fz.ret (Fr.Fz.of (by decide) hn9 hl9 hn10 hl10) (Un.is_s hsy) (Un.fv_s hsy).symm).2.2.1;have e10:true=(Un.sym s).isSome:=by rw [hsy];rfl
    exact V.rt [0,0] [(G12 0).ss 0,(G12 0).ss 1] [fun _=>{},fun _=>{}] [] [0,1] [] (.tuple #[.agg #[iv 0,iv 0,iv (1:Int),iv 0,iv 0,iv 0,iv n9,((G12 0).ss 0).v,iv n10,((G12 0).ss 1).v],bv true]) (cong9 (fun (x0 x1 x2 x3 x4 x5 x6 x8:Int) (x10:Bool)=>(.tuple #[.agg #[iv x0,iv x1,iv x2,iv x3,iv x4,iv x5,iv x6,((G12 0).ss 0).v,iv x8,((G12 0).ss 1).v],bv x10]:Value)) e0 e1 e2 e3 e4 e5 e6 e8 e10)
  have hsn4:¬ s=⟨#[115]⟩:=q10;refine V.g [.seq s ⟨#[104]⟩,.k (bv (decide (s=⟨#[104]⟩)))] fun _ _ G13=>?_;intro S_ s_
  refine V.cn (b:=decide (s=⟨#[104]⟩)) iDT iDF (fun q11=>?_) (fun q12=>?_)
  · have hsy:Un.sym s=some ([0,0,1,0,0,0],Rat.divInt 3600 1):=by rw [q11];kernel_rfl
    refine nm (Fr.rS ((1:Int)≠0) (Rat.divInt (3600:Int) (1:Int)):Int) fun n11 hn11=>?_;refine nl (Fr.rD ((1:Int)≠0) (Rat.divInt (3600:Int) (1:Int))) fun l11 hl11 hl11n=>?_;refine nm (Fr.rT ((1:Int)≠0):Int) fun n12 hn12=>?_;refine nl (Fr.rE ((1:Int)≠0) (Rat.divInt (3600:Int) (1:Int))) fun l12 hl12 hl12n=>?_;refine V.r [.ct g0 0 139 false [] [] [] (fun _ G=>uof2_ctv (1:Int) (3600:Int) (1:Int) (by omega) (by omega) (by omega) n11 hn11 l11 hl11 n12 hn12 l12 hl12),.st 0 (fun G=>.blk ((G1 0).b) #[iv 0,iv 0,iv (1:Int),iv 0,iv 0,iv 0,iv n11,((G 0).ss 0).v,iv n12,((G 0).ss 1).v] 42),.kb true] fun _ _ G14 kw14=>?_;intro S_ s_
    obtain ⟨⟨kl11, -⟩,⟨kl12, -⟩, -⟩:Lq l11 (((G14 0).ss 0).v)∧Lq l12 (((G14 0).ss 1).v)∧True:=kq kw14;clear kw14;have e7:l11=Fr.rD ((Un.sym s).isSome=true) (Un.fv (Un.sym s)):=(Fr.Fz.ret (Fr.Fz.of (by decide) hn11 hl11 hn12 hl12) (Un.is_s hsy) (Un.fv_s hsy).symm).2.1;subst e7;have e9:l12=Fr.rE ((Un.sym s).isSome=true) (Un.fv (Un.sym s)):=(Fr.Fz.ret (Fr.Fz.of (by decide) hn11 hl11 hn12 hl12) (Un.is_s hsy) (Un.fv_s hsy).symm).2.2.2;subst e9;have e0:(0:Int)=Un.dv (Un.sym s) 0:=(Un.dv_s hsy 0).symm;have e1:(0:Int)=Un.dv (Un.sym s) 1:=(Un.dv_s hsy 1).symm;have e2:(1:Int)=Un.dv (Un.sym s) 2:=(Un.dv_s hsy 2).symm;have e3:(0:Int)=Un.dv (Un.sym s) 3:=(Un.dv_s hsy 3).symm;have e4:(0:Int)=Un.dv (Un.sym s) 4:=(Un.dv_s hsy 4).symm;have e5:(0:Int)=Un.dv (Un.sym s) 5:=(Un.dv_s hsy 5).symm;have e6:n11=Fr.rS ((Un.sym s).isSome=true) (Un.fv (Un.sym s)):=(Fr.Fz.ret (Fr.Fz.of (by decide) hn11 hl11 hn12 hl12) (Un.is_s hsy) (Un.fv_s hsy).symm).1;have e8:n12=Fr.rT ((Un.sym s).isSome=true):=(Fr.Fz.ret (Fr.Fz.of (by decide) hn11 hl11 hn12 hl12) (Un.is_s hsy) (Un.fv_s hsy).symm).2.2.1;have e10:true=(Un.sym s).isSome:=by rw [hsy];rfl
    exact V.rt [0,0] [(G14 0).ss 0,(G14 0).ss 1] [fun _=>{},fun _=>{}] [] [0,1] [] (.tuple #[.agg #[iv 0,iv 0,iv (1:Int),iv 0,iv 0,iv 0,iv n11,((G14 0).ss 0).v,iv n12,((G14 0).ss 1).v],bv true]) (cong9 (fun (x0 x1 x2 x3 x4 x5 x6 x8:Int) (x10:Bool)=>(.tuple #[.agg #[iv x0,iv x1,iv x2,iv x3,iv x4,iv x5,iv x6,((G14 0).ss 0).v,iv x8,((G14 0).ss 1).v],bv x10]:Value)) e0 e1 e2 e3 e4 e5 e6 e8 e10)
  have hsn5:¬ s=⟨#[104]⟩:=q12;refine V.g [.seq s ⟨#[100]⟩,.k (bv (decide (s=⟨#[100]⟩)))] fun _ _ G15=>?_;intro S_ s_
  refine V.cn (b:=decide (s=⟨#[100]⟩)) iDT iDF (fun q13=>?_) (fun q14=>?_)
  · have hsy:Un.sym s=some ([0,0,1,0,0,0],Rat.divInt 86400 1):=by rw [q13];kernel_rfl
    refine nm (Fr.rS ((1:Int)≠0) (Rat.divInt (86400:Int) (1:Int)):Int) fun n13 hn13=>?_;refine nl (Fr.rD ((1:Int)≠0) (Rat.divInt (86400:Int) (1:Int))) fun l13 hl13 hl13n=>?_;refine nm (Fr.rT ((1:Int)≠0):Int) fun n14 hn14=>?_;refine nl (Fr.rE ((1:Int)≠0) (Rat.divInt (86400:Int) (1:Int))) fun l14 hl14 hl14n=>?_;refine V.r [.ct g0 0 139 false [] [] [] (fun _ G=>uof2_ctv (1:Int) (86400:Int) (1:Int) (by omega) (by omega) (by omega) n13 hn13 l13 hl13 n14 hn14 l14 hl14),.st 0 (fun G=>.blk ((G1 0).b) #[iv 0,iv 0,iv (1:Int),iv 0,iv 0,iv 0,iv n13,((G 0).ss 0).v,iv n14,((G 0).ss 1).v] 42),.kb true] fun _ _ G16 kw16=>?_;intro S_ s_
    obtain ⟨⟨kl13, -⟩,⟨kl14, -⟩, -⟩:Lq l13 (((G16 0).ss 0).v)∧Lq l14 (((G16 0).ss 1).v)∧True:=kq kw16;clear kw16;have e7:l13=Fr.rD ((Un.sym s).isSome=true) (Un.fv (Un.sym s)):=(Fr.Fz.ret (Fr.Fz.of (by decide) hn13 hl13 hn14 hl14) (Un.is_s hsy) (Un.fv_s hsy).symm).2.1;subst e7;have e9:l14=Fr.rE ((Un.sym s).isSome=true) (Un.fv (Un.sym s)):=(Fr.Fz.ret (Fr.Fz.of (by decide) hn13 hl13 hn14 hl14) (Un.is_s hsy) (Un.fv_s hsy).symm).2.2.2;subst e9;have e0:(0:Int)=Un.dv (Un.sym s) 0:=(Un.dv_s hsy 0).symm;have e1:(0:Int)=Un.dv (Un.sym s) 1:=(Un.dv_s hsy 1).symm;have e2:(1:Int)=Un.dv (Un.sym s) 2:=(Un.dv_s hsy 2).symm;have e3:(0:Int)=Un.dv (Un.sym s) 3:=(Un.dv_s hsy 3).symm;have e4:(0:Int)=Un.dv (Un.sym s) 4:=(Un.dv_s hsy 4).symm;have e5:(0:Int)=Un.dv (Un.sym s) 5:=(Un.dv_s hsy 5).symm;have e6:n13=Fr.rS ((Un.sym s).isSome=true) (Un.fv (Un.sym s)):=(Fr.Fz.ret (Fr.Fz.of (by decide) hn13 hl13 hn14 hl14) (Un.is_s hsy) (Un.fv_s hsy).symm).1;have e8:n14=Fr.rT ((Un.sym s).isSome=true):=(Fr.Fz.ret (Fr.Fz.of (by decide) hn13 hl13 hn14 hl14) (Un.is_s hsy) (Un.fv_s hsy).symm).2.2.1;have e10:true=(Un.sym s).isSome:=by rw [hsy];rfl
    exact V.rt [0,0] [(G16 0).ss 0,(G16 0).ss 1] [fun _=>{},fun _=>{}] [] [0,1] [] (.tuple #[.agg #[iv 0,iv 0,iv (1:Int),iv 0,iv 0,iv 0,iv n13,((G16 0).ss 0).v,iv n14,((G16 0).ss 1).v],bv true]) (cong9 (fun (x0 x1 x2 x3 x4 x5 x6 x8:Int) (x10:Bool)=>(.tuple #[.agg #[iv x0,iv x1,iv x2,iv x3,iv x4,iv x5,iv x6,((G16 0).ss 0).v,iv x8,((G16 0).ss 1).v],bv x10]:Value)) e0 e1 e2 e3 e4 e5 e6 e8 e10)
  have hsn6:¬ s=⟨#[100]⟩:=q14;refine V.g [.seq s ⟨#[74]⟩,.k (bv (decide (s=⟨#[74]⟩)))] fun _ _ G17=>?_;intro S_ s_
  refine V.cn (b:=decide (s=⟨#[74]⟩)) iDT iDF (fun q15=>?_) (fun q16=>?_)
  · have hsy:Un.sym s=some ([0,0,0,1,0,0],Rat.divInt 1 1):=by rw [q15];kernel_rfl
    refine nm (Fr.rS ((1:Int)≠0) (Rat.divInt (1:Int) (1:Int)):Int) fun n15 hn15=>?_;refine nl (Fr.rD ((1:Int)≠0) (Rat.divInt (1:Int) (1:Int))) fun l15 hl15 hl15n=>?_;refine nm (Fr.rT ((1:Int)≠0):Int) fun n16 hn16=>?_;refine nl (Fr.rE ((1:Int)≠0) (Rat.divInt (1:Int) (1:Int))) fun l16 hl16 hl16n=>?_;refine V.r [.ct g0 0 139 false [] [] [] (fun _ G=>uof3_ctv (1:Int) (1:Int) (1:Int) (by omega) (by omega) (by omega) n15 hn15 l15 hl15 n16 hn16 l16 hl16),.st 0 (fun G=>.blk ((G1 0).b) #[iv 0,iv 0,iv 0,iv (1:Int),iv 0,iv 0,iv n15,((G 0).ss 0).v,iv n16,((G 0).ss 1).v] 42),.kb true] fun _ _ G18 kw18=>?_;intro S_ s_
    obtain ⟨⟨kl15, -⟩,⟨kl16, -⟩, -⟩:Lq l15 (((G18 0).ss 0).v)∧Lq l16 (((G18 0).ss 1).v)∧True:=kq kw18;clear kw18;have e7:l15=Fr.rD ((Un.sym s).isSome=true) (Un.fv (Un.sym s)):=(Fr.Fz.ret (Fr.Fz.of (by decide) hn15 hl15 hn16 hl16) (Un.is_s hsy) (Un.fv_s hsy).symm).2.1;subst e7;have e9:l16=Fr.rE ((Un.sym s).isSome=true) (Un.fv (Un.sym s)):=(Fr.Fz.ret (Fr.Fz.of (by decide) hn15 hl15 hn16 hl16) (Un.is_s hsy) (Un.fv_s hsy).symm).2.2.2;subst e9;have e0:(0:Int)=Un.dv (Un.sym s) 0:=(Un.dv_s hsy 0).symm;have e1:(0:Int)=Un.dv (Un.sym s) 1:=(Un.dv_s hsy 1).symm;have e2:(0:Int)=Un.dv (Un.sym s) 2:=(Un.dv_s hsy 2).symm;have e3:(1:Int)=Un.dv (Un.sym s) 3:=(Un.dv_s hsy 3).symm;have e4:(0:Int)=Un.dv (Un.sym s) 4:=(Un.dv_s hsy 4).symm;have e5:(0:Int)=Un.dv (Un.sym s) 5:=(Un.dv_s hsy 5).symm;have e6:n15=Fr.rS ((Un.sym s).isSome=true) (Un.fv (Un.sym s)):=(Fr.Fz.ret (Fr.Fz.of (by decide) hn15 hl15 hn16 hl16) (Un.is_s hsy) (Un.fv_s hsy).symm).1;have e8:n16=Fr.rT ((Un.sym s).isSome=true):=(Fr.Fz.ret (Fr.Fz.of (by decide) hn15 hl15 hn16 hl16) (Un.is_s hsy) (Un.fv_s hsy).symm).2.2.1;have e10:true=(Un.sym s).isSome:=by rw [hsy];rfl
    exact V.rt [0,0] [(G18 0).ss 0,(G18 0).ss 1] [fun _=>{},fun _=>{}] [] [0,1] [] (.tuple #[.agg #[iv 0,iv 0,iv 0,iv (1:Int),iv 0,iv 0,iv n15,((G18 0).ss 0).v,iv n16,((G18 0).ss 1).v],bv true]) (cong9 (fun (x0 x1 x2 x3 x4 x5 x6 x8:Int) (x10:Bool)=>(.tuple #[.agg #[iv x0,iv x1,iv x2,iv x3,iv x4,iv x5,iv x6,((G18 0).ss 0).v,iv x8,((G18 0).ss 1).v],bv x10]:Value)) e0 e1 e2 e3 e4 e5 e6 e8 e10)
  have hsn7:¬ s=⟨#[74]⟩:=q16;refine V.g [.seq s ⟨#[87,104]⟩,.k (bv (decide (s=⟨#[87,104]⟩)))] fun _ _ G19=>?_;intro S_ s_
  refine V.cn (b:=decide (s=⟨#[87,104]⟩)) iDT iDF (fun q17=>?_) (fun q18=>?_)
  · have hsy:Un.sym s=some ([0,0,0,1,0,0],Rat.divInt 3600 1):=by rw [q17];kernel_rfl
    refine nm (Fr.rS ((1:Int)≠0) (Rat.divInt (3600:Int) (1:Int)):Int) fun n17 hn17=>?_;refine nl (Fr.rD ((1:Int)≠0) (Rat.divInt (3600:Int) (1:Int))) fun l17 hl17 hl17n=>?_;refine nm (Fr.rT ((1:Int)≠0):Int) fun n18 hn18=>?_;refine nl (Fr.rE ((1:Int)≠0) (Rat.divInt (3600:Int) (1:Int))) fun l18 hl18 hl18n=>?_;refine V.r [.ct g0 0 139 false [] [] [] (fun _ G=>uof3_ctv (1:Int) (3600:Int) (1:Int) (by omega) (by omega) (by omega) n17 hn17 l17 hl17 n18 hn18 l18 hl18),.st 0 (fun G=>.blk ((G1 0).b) #[iv 0,iv 0,iv 0,iv (1:Int),iv 0,iv 0,iv n17,((G 0).ss 0).v,iv n18,((G 0).ss 1).v] 42),.kb true] fun _ _ G20 kw20=>?_;intro S_ s_
    obtain ⟨⟨kl17, -⟩,⟨kl18, -⟩, -⟩:Lq l17 (((G20 0).ss 0).v)∧Lq l18 (((G20 0).ss 1).v)∧True:=kq kw20;clear kw20;have e7:l17=Fr.rD ((Un.sym s).isSome=true) (Un.fv (Un.sym s)):=(Fr.Fz.ret (Fr.Fz.of (by decide) hn17 hl17 hn18 hl18) (Un.is_s hsy) (Un.fv_s hsy).symm).2.1;subst e7;have e9:l18=Fr.rE ((Un.sym s).isSome=true) (Un.fv (Un.sym s)):=(Fr.Fz.ret (Fr.Fz.of (by decide) hn17 hl17 hn18 hl18) (Un.is_s hsy) (Un.fv_s hsy).symm).2.2.2;subst e9;have e0:(0:Int)=Un.dv (Un.sym s) 0:=(Un.dv_s hsy 0).symm;have e1:(0:Int)=Un.dv (Un.sym s) 1:=(Un.dv_s hsy 1).symm;have e2:(0:Int)=Un.dv (Un.sym s) 2:=(Un.dv_s hsy 2).symm;have e3:(1:Int)=Un.dv (Un.sym s) 3:=(Un.dv_s hsy 3).symm;have e4:(0:Int)=Un.dv (Un.sym s) 4:=(Un.dv_s hsy 4).symm;have e5:(0:Int)=Un.dv (Un.sym s) 5:=(Un.dv_s hsy 5).symm;have e6:n17=Fr.rS ((Un.sym s).isSome=true) (Un.fv (Un.sym s)):=(Fr.Fz.ret (Fr.Fz.of (by decide) hn17 hl17 hn18 hl18) (Un.is_s hsy) (Un.fv_s hsy).symm).1;have e8:n18=Fr.rT ((Un.sym s).isSome=true):=(Fr.Fz.ret (Fr.Fz.of (by decide) hn17 hl17 hn18 hl18) (Un.is_s hsy) (Un.fv_s hsy).symm).2.2.1;have e10:true=(Un.sym s).isSome:=by rw [hsy];rfl
    exact V.rt [0,0] [(G20 0).ss 0,(G20 0).ss 1] [fun _=>{},fun _=>{}] [] [0,1] [] (.tuple #[.agg #[iv 0,iv 0,iv 0,iv (1:Int),iv 0,iv 0,iv n17,((G20 0).ss 0).v,iv n18,((G20 0).ss 1).v],bv true]) (cong9 (fun (x0 x1 x2 x3 x4 x5 x6 x8:Int) (x10:Bool)=>(.tuple #[.agg #[iv x0,iv x1,iv x2,iv x3,iv x4,iv x5,iv x6,((G20 0).ss 0).v,iv x8,((G20 0).ss 1).v],bv x10]:Value)) e0 e1 e2 e3 e4 e5 e6 e8 e10)
  have hsn8:¬ s=⟨#[87,104]⟩:=q18;refine V.g [.seq s ⟨#[99,101,110,116]⟩,.k (bv (decide (s=⟨#[99,101,110,116]⟩)))] fun _ _ G21=>?_;intro S_ s_
  refine V.cn (b:=decide (s=⟨#[99,101,110,116]⟩)) iDT iDF (fun q19=>?_) (fun q20=>?_)
  · have hsy:Un.sym s=some ([0,0,0,0,1,0],Rat.divInt 1 1):=by rw [q19];kernel_rfl
    refine nm (Fr.rS ((1:Int)≠0) (Rat.divInt (1:Int) (1:Int)):Int) fun n19 hn19=>?_;refine nl (Fr.rD ((1:Int)≠0) (Rat.divInt (1:Int) (1:Int))) fun l19 hl19 hl19n=>?_;refine nm (Fr.rT ((1:Int)≠0):Int) fun n20 hn20=>?_;refine nl (Fr.rE ((1:Int)≠0) (Rat.divInt (1:Int) (1:Int))) fun l20 hl20 hl20n=>?_;refine V.r [.ct g0 0 139 false [] [] [] (fun _ G=>uof4_ctv (1:Int) (1:Int) (1:Int) (by omega) (by omega) (by omega) n19 hn19 l19 hl19 n20 hn20 l20 hl20),.st 0 (fun G=>.blk ((G1 0).b) #[iv 0,iv 0,iv 0,iv 0,iv (1:Int),iv 0,iv n19,((G 0).ss 0).v,iv n20,((G 0).ss 1).v] 42),.kb true] fun _ _ G22 kw22=>?_;intro S_ s_
    obtain ⟨⟨kl19, -⟩,⟨kl20, -⟩, -⟩:Lq l19 (((G22 0).ss 0).v)∧Lq l20 (((G22 0).ss 1).v)∧True:=kq kw22;clear kw22;have e7:l19=Fr.rD ((Un.sym s).isSome=true) (Un.fv (Un.sym s)):=(Fr.Fz.ret (Fr.Fz.of (by decide) hn19 hl19 hn20 hl20) (Un.is_s hsy) (Un.fv_s hsy).symm).2.1;subst e7;have e9:l20=Fr.rE ((Un.sym s).isSome=true) (Un.fv (Un.sym s)):=(Fr.Fz.ret (Fr.Fz.of (by decide) hn19 hl19 hn20 hl20) (Un.is_s hsy) (Un.fv_s hsy).symm).2.2.2;subst e9;have e0:(0:Int)=Un.dv (Un.sym s) 0:=(Un.dv_s hsy 0).symm;have e1:(0:Int)=Un.dv (Un.sym s) 1:=(Un.dv_s hsy 1).symm;have e2:(0:Int)=Un.dv (Un.sym s) 2:=(Un.dv_s hsy 2).symm;have e3:(0:Int)=Un.dv (Un.sym s) 3:=(Un.dv_s hsy 3).symm;have e4:(1:Int)=Un.dv (Un.sym s) 4:=(Un.dv_s hsy 4).symm;have e5:(0:Int)=Un.dv (Un.sym s) 5:=(Un.dv_s hsy 5).symm;have e6:n19=Fr.rS ((Un.sym s).isSome=true) (Un.fv (Un.sym s)):=(Fr.Fz.ret (Fr.Fz.of (by decide) hn19 hl19 hn20 hl20) (Un.is_s hsy) (Un.fv_s hsy).symm).1;have e8:n20=Fr.rT ((Un.sym s).isSome=true):=(Fr.Fz.ret (Fr.Fz.of (by decide) hn19 hl19 hn20 hl20) (Un.is_s hsy) (Un.fv_s hsy).symm).2.2.1;have e10:true=(Un.sym s).isSome:=by rw [hsy];rfl
    exact V.rt [0,0] [(G22 0).ss 0,(G22 0).ss 1] [fun _=>{},fun _=>{}] [] [0,1] [] (.tuple #[.agg #[iv 0,iv 0,iv 0,iv 0,iv (1:Int),iv 0,iv n19,((G22 0).ss 0).v,iv n20,((G22 0).ss 1).v],bv true]) (cong9 (fun (x0 x1 x2 x3 x4 x5 x6 x8:Int) (x10:Bool)=>(.tuple #[.agg #[iv x0,iv x1,iv x2,iv x3,iv x4,iv x5,iv x6,((G22 0).ss 0).v,iv x8,((G22 0).ss 1).v],bv x10]:Value)) e0 e1 e2 e3 e4 e5 e6 e8 e10)
  have hsn9:¬ s=⟨#[99,101,110,116]⟩:=q20;refine V.g [.seq s ⟨#[101,117,114]⟩,.k (bv (decide (s=⟨#[101,117,114]⟩)))] fun _ _ G23=>?_;intro S_ s_
  refine V.cn (b:=decide (s=⟨#[101,117,114]⟩)) iDT iDF (fun q21=>?_) (fun q22=>?_)
  · have hsy:Un.sym s=some ([0,0,0,0,1,0],Rat.divInt 100 1):=by rw [q21];kernel_rfl
    refine nm (Fr.rS ((1:Int)≠0) (Rat.divInt (100:Int) (1:Int)):Int) fun n21 hn21=>?_;refine nl (Fr.rD ((1:Int)≠0) (Rat.divInt (100:Int) (1:Int))) fun l21 hl21 hl21n=>?_;refine nm (Fr.rT ((1:Int)≠0):Int) fun n22 hn22=>?_;refine nl (Fr.rE ((1:Int)≠0) (Rat.divInt (100:Int) (1:Int))) fun l22 hl22 hl22n=>?_;refine V.r [.ct g0 0 139 false [] [] [] (fun _ G=>uof4_ctv (1:Int) (100:Int) (1:Int) (by omega) (by omega) (by omega) n21 hn21 l21 hl21 n22 hn22 l22 hl22),.st 0 (fun G=>.blk ((G1 0).b) #[iv 0,iv 0,iv 0,iv 0,iv (1:Int),iv 0,iv n21,((G 0).ss 0).v,iv n22,((G 0).ss 1).v] 42),.kb true] fun _ _ G24 kw24=>?_;intro S_ s_
    obtain ⟨⟨kl21, -⟩,⟨kl22, -⟩, -⟩:Lq l21 (((G24 0).ss 0).v)∧Lq l22 (((G24 0).ss 1).v)∧True:=kq kw24;clear kw24;have e7:l21=Fr.rD ((Un.sym s).isSome=true) (Un.fv (Un.sym s)):=(Fr.Fz.ret (Fr.Fz.of (by decide) hn21 hl21 hn22 hl22) (Un.is_s hsy) (Un.fv_s hsy).symm).2.1;subst e7;have e9:l22=Fr.rE ((Un.sym s).isSome=true) (Un.fv (Un.sym s)):=(Fr.Fz.ret (Fr.Fz.of (by decide) hn21 hl21 hn22 hl22) (Un.is_s hsy) (Un.fv_s hsy).symm).2.2.2;subst e9;have e0:(0:Int)=Un.dv (Un.sym s) 0:=(Un.dv_s hsy 0).symm;have e1:(0:Int)=Un.dv (Un.sym s) 1:=(Un.dv_s hsy 1).symm;have e2:(0:Int)=Un.dv (Un.sym s) 2:=(Un.dv_s hsy 2).symm;have e3:(0:Int)=Un.dv (Un.sym s) 3:=(Un.dv_s hsy 3).symm;have e4:(1:Int)=Un.dv (Un.sym s) 4:=(Un.dv_s hsy 4).symm;have e5:(0:Int)=Un.dv (Un.sym s) 5:=(Un.dv_s hsy 5).symm;have e6:n21=Fr.rS ((Un.sym s).isSome=true) (Un.fv (Un.sym s)):=(Fr.Fz.ret (Fr.Fz.of (by decide) hn21 hl21 hn22 hl22) (Un.is_s hsy) (Un.fv_s hsy).symm).1;have e8:n22=Fr.rT ((Un.sym s).isSome=true):=(Fr.Fz.ret (Fr.Fz.of (by decide) hn21 hl21 hn22 hl22) (Un.is_s hsy) (Un.fv_s hsy).symm).2.2.1;have e10:true=(Un.sym s).isSome:=by rw [hsy];rfl
    exact V.rt [0,0] [(G24 0).ss 0,(G24 0).ss 1] [fun _=>{},fun _=>{}] [] [0,1] [] (.tuple #[.agg #[iv 0,iv 0,iv 0,iv 0,iv (1:Int),iv 0,iv n21,((G24 0).ss 0).v,iv n22,((G24 0).ss 1).v],bv true]) (cong9 (fun (x0 x1 x2 x3 x4 x5 x6 x8:Int) (x10:Bool)=>(.tuple #[.agg #[iv x0,iv x1,iv x2,iv x3,iv x4,iv x5,iv x6,((G24 0).ss 0).v,iv x8,((G24 0).ss 1).v],bv x10]:Value)) e0 e1 e2 e3 e4 e5 e6 e8 e10)
  have hsn10:¬ s=⟨#[101,117,114]⟩:=q22;refine V.g [.seq s ⟨#[112,99]⟩,.k (bv (decide (s=⟨#[112,99]⟩)))] fun _ _ G25=>?_;intro S_ s_
  refine V.cn (b:=decide (s=⟨#[112,99]⟩)) iDT iDF (fun q23=>?_) (fun q24=>?_)
  · have hsy:Un.sym s=some ([0,0,0,0,0,1],Rat.divInt 1 1):=by rw [q23];kernel_rfl
    refine nm (Fr.rS ((1:Int)≠0) (Rat.divInt (1:Int) (1:Int)):Int) fun n23 hn23=>?_;refine nl (Fr.rD ((1:Int)≠0) (Rat.divInt (1:Int) (1:Int))) fun l23 hl23 hl23n=>?_;refine nm (Fr.rT ((1:Int)≠0):Int) fun n24 hn24=>?_;refine nl (Fr.rE ((1:Int)≠0) (Rat.divInt (1:Int) (1:Int))) fun l24 hl24 hl24n=>?_;refine V.r [.ct g0 0 139 false [] [] [] (fun _ G=>uof5_ctv (1:Int) (1:Int) (1:Int) (by omega) (by omega) (by omega) n23 hn23 l23 hl23 n24 hn24 l24 hl24),.st 0 (fun G=>.blk ((G1 0).b) #[iv 0,iv 0,iv 0,iv 0,iv 0,iv (1:Int),iv n23,((G 0).ss 0).v,iv n24,((G 0).ss 1).v] 42),.kb true] fun _ _ G26 kw26=>?_;intro S_ s_
    obtain ⟨⟨kl23, -⟩,⟨kl24, -⟩, -⟩:Lq l23 (((G26 0).ss 0).v)∧Lq l24 (((G26 0).ss 1).v)∧True:=kq kw26;clear kw26;have e7:l23=Fr.rD ((Un.sym s).isSome=true) (Un.fv (Un.sym s)):=(Fr.Fz.ret (Fr.Fz.of (by decide) hn23 hl23 hn24 hl24) (Un.is_s hsy) (Un.fv_s hsy).symm).2.1;subst e7;have e9:l24=Fr.rE ((Un.sym s).isSome=true) (Un.fv (Un.sym s)):=(Fr.Fz.ret (Fr.Fz.of (by decide) hn23 hl23 hn24 hl24) (Un.is_s hsy) (Un.fv_s hsy).symm).2.2.2;subst e9;have e0:(0:Int)=Un.dv (Un.sym s) 0:=(Un.dv_s hsy 0).symm;have e1:(0:Int)=Un.dv (Un.sym s) 1:=(Un.dv_s hsy 1).symm;have e2:(0:Int)=Un.dv (Un.sym s) 2:=(Un.dv_s hsy 2).symm;have e3:(0:Int)=Un.dv (Un.sym s) 3:=(Un.dv_s hsy 3).symm;have e4:(0:Int)=Un.dv (Un.sym s) 4:=(Un.dv_s hsy 4).symm;have e5:(1:Int)=Un.dv (Un.sym s) 5:=(Un.dv_s hsy 5).symm;have e6:n23=Fr.rS ((Un.sym s).isSome=true) (Un.fv (Un.sym s)):=(Fr.Fz.ret (Fr.Fz.of (by decide) hn23 hl23 hn24 hl24) (Un.is_s hsy) (Un.fv_s hsy).symm).1;have e8:n24=Fr.rT ((Un.sym s).isSome=true):=(Fr.Fz.ret (Fr.Fz.of (by decide) hn23 hl23 hn24 hl24) (Un.is_s hsy) (Un.fv_s hsy).symm).2.2.1;have e10:true=(Un.sym s).isSome:=by rw [hsy];rfl
    exact V.rt [0,0] [(G26 0).ss 0,(G26 0).ss 1] [fun _=>{},fun _=>{}] [] [0,1] [] (.tuple #[.agg #[iv 0,iv 0,iv 0,iv 0,iv 0,iv (1:Int),iv n23,((G26 0).ss 0).v,iv n24,((G26 0).ss 1).v],bv true]) (cong9 (fun (x0 x1 x2 x3 x4 x5 x6 x8:Int) (x10:Bool)=>(.tuple #[.agg #[iv x0,iv x1,iv x2,iv x3,iv x4,iv x5,iv x6,((G26 0).ss 0).v,iv x8,((G26 0).ss 1).v],bv x10]:Value)) e0 e1 e2 e3 e4 e5 e6 e8 e10)
  have hsn11:¬ s=⟨#[112,99]⟩:=q24;have hsy:Un.sym s=none:=Un.sym_no hsn0 hsn1 hsn2 hsn3 hsn4 hsn5 hsn6 hsn7 hsn8 hsn9 hsn10 hsn11;refine V.g [.k (.agg #[iv 0,iv 0,iv 0,iv 0,iv 0,iv 0,iv 0,.slice none 0 0,iv 0,.slice none 0 0]),.st 0 (fun _=>.blk ((G1 0).b) #[iv 0,iv 0,iv 0,iv 0,iv 0,iv 0,iv 0,.slice none 0 0,iv 0,.slice none 0 0] 42),.kb false] fun _ _ G27=>?_;intro S_ s_
  refine V.nilF (α:=Int) ?_;refine V.nilF (α:=Int) ?_;have e7:([]:List Int)=Fr.rD ((Un.sym s).isSome=true) (Un.fv (Un.sym s)):=(Fr.Fz.no (Un.is_n hsy) (Un.fv (Un.sym s))).2.1;rw [←e7];have e9:([]:List Int)=Fr.rE ((Un.sym s).isSome=true) (Un.fv (Un.sym s)):=(Fr.Fz.no (Un.is_n hsy) (Un.fv (Un.sym s))).2.2.2;rw [←e9];have e0:(0:Int)=Un.dv (Un.sym s) 0:=(Un.dv_n hsy 0).symm;have e1:(0:Int)=Un.dv (Un.sym s) 1:=(Un.dv_n hsy 1).symm;have e2:(0:Int)=Un.dv (Un.sym s) 2:=(Un.dv_n hsy 2).symm;have e3:(0:Int)=Un.dv (Un.sym s) 3:=(Un.dv_n hsy 3).symm;have e4:(0:Int)=Un.dv (Un.sym s) 4:=(Un.dv_n hsy 4).symm;have e5:(0:Int)=Un.dv (Un.sym s) 5:=(Un.dv_n hsy 5).symm;have e6:(0:Int)=Fr.rS ((Un.sym s).isSome=true) (Un.fv (Un.sym s)):=(Fr.Fz.no (Un.is_n hsy) (Un.fv (Un.sym s))).1;have e8:(0:Int)=Fr.rT ((Un.sym s).isSome=true):=(Fr.Fz.no (Un.is_n hsy) (Un.fv (Un.sym s))).2.2.1;have e10:false=(Un.sym s).isSome:=by rw [hsy];rfl
  exact V.rt [0,0] [{},{}] [fun _=>{},fun _=>{}] [] [0,1] [] (.tuple #[.agg #[iv 0,iv 0,iv 0,iv 0,iv 0,iv 0,iv 0,SV.v ({}),iv 0,SV.v ({})],bv false]) (cong9 (fun (x0 x1 x2 x3 x4 x5 x6 x8:Int) (x10:Bool)=>(.tuple #[.agg #[iv x0,iv x1,iv x2,iv x3,iv x4,iv x5,iv x6,SV.v ({}),iv x8,SV.v ({})],bv x10]:Value)) e0 e1 e2 e3 e4 e5 e6 e8 e10)
theorem usym_ctv (s:ByteArray) (rv0:Int) (erv0:rv0=Un.dv (Un.sym s) 0) (rv1:Int) (erv1:rv1=Un.dv (Un.sym s) 1) (rv2:Int) (erv2:rv2=Un.dv (Un.sym s) 2) (rv3:Int) (erv3:rv3=Un.dv (Un.sym s) 3) (rv4:Int) (erv4:rv4=Un.dv (Un.sym s) 4) (rv5:Int) (erv5:rv5=Un.dv (Un.sym s) 5) (rv6:Int) (erv6:rv6=Fr.rS ((Un.sym s).isSome=true) (Un.fv (Un.sym s))) (rv7:List Int) (erv7:rv7=Fr.rD ((Un.sym s).isSome=true) (Un.fv (Un.sym s))) (rv8:Int) (erv8:rv8=Fr.rT ((Un.sym s).isSome=true)) (rv9:List Int) (erv9:rv9=Fr.rE ((Un.sym s).isSome=true) (Un.fv (Un.sym s))) :
    Ct Tryz.prog 101 #[tv s] [] [] (fun g=>.tuple #[.agg #[iv rv0,iv rv1,iv rv2,iv rv3,iv rv4,iv rv5,iv rv6,((g.ss 0)).v,iv rv8,((g.ss 1)).v],bv ((Un.sym s).isSome)]) (fun g=>[fs true rv7 (g.ss 0),fs true rv9 (g.ss 1)]) (fun g=>[]) (fun g=>[]):=by
  subst erv0 erv1 erv2 erv3 erv4 erv5 erv6 erv7 erv8 erv9;exact usym_ct s 

open Go Go.Proofs
set_option maxRecDepth 10000 in
theorem upre_ct (c:Int) :
    Cp Tryz.prog 102 #[.int .u8 c] [] (.tuple #[iv (Un.pp (Un.pre c)),iv (Un.pq (Un.pre c)),bv ((Un.pre c).isSome)]):=by
  refine V.fn mo Tryz.func102 14 0 (by kernel_rfl) fun w H ε k0=>?_;clear k0
  refine V.g [.k (iv 0),.k (iv 0),.kb false] fun _ _ G1=>?_;intro S s
  refine V.g [.k (.int .u8 c)] fun _ _ G2=>?_;intro S s
  refine V.g [.k (bv (decide (c=107))),.k (bv (decide (c=107)))] fun _ _ G3=>?_;intro S s
  refine V.cn (b:=decide (c=107)) iDT iDF (fun q1=>?_) (fun q2=>?_)
  · have hpx:Un.pre c=some (1000,1):=by unfold Un.pre;rw [if_pos q1]
    refine V.g [.k (iv 1000),.k (iv 1),.kb true] fun _ _ G4=>?_;intro S s
    have e0:(1000:Int)=Un.pp (Un.pre c):=by rw [hpx];rfl
    have e1:(1:Int)=Un.pq (Un.pre c):=by rw [hpx];rfl
    have e2:true=(Un.pre c).isSome:=by rw [hpx];rfl
    exact V.rt [0,0,0] [] [] [] [] [] (.tuple #[iv 1000,iv 1,bv true]) (cong3 (fun (x0 x1:Int) (x2:Bool)=>(.tuple #[iv x0,iv x1,bv x2]:Value)) e0 e1 e2)
  have hpn0:=q2;refine V.g [.k (bv (decide (c=77))),.k (bv (decide (c=77)))] fun _ _ G5=>?_;intro S s
  refine V.cn (b:=decide (c=77)) iDT iDF (fun q3=>?_) (fun q4=>?_)
  · have hpx:Un.pre c=some (1000000,1):=by unfold Un.pre;rw [if_neg hpn0,if_pos q3]
    refine V.g [.k (iv 1000000),.k (iv 1),.kb true] fun _ _ G6=>?_;intro S s
    have e0:(1000000:Int)=Un.pp (Un.pre c):=by rw [hpx];rfl
    have e1:(1:Int)=Un.pq (Un.pre c):=by rw [hpx];rfl
    have e2:true=(Un.pre c).isSome:=by rw [hpx];rfl
    exact V.rt [0,0,0] [] [] [] [] [] (.tuple #[iv 1000000,iv 1,bv true]) (cong3 (fun (x0 x1:Int) (x2:Bool)=>(.tuple #[iv x0,iv x1,bv x2]:Value)) e0 e1 e2)
  have hpn1:=q4;refine V.g [.k (bv (decide (c=71))),.k (bv (decide (c=71)))] fun _ _ G7=>?_;intro S s
  refine V.cn (b:=decide (c=71)) iDT iDF (fun q5=>?_) (fun q6=>?_)
  · have hpx:Un.pre c=some (1000000000,1):=by unfold Un.pre;rw [if_neg hpn0,if_neg hpn1,if_pos q5]
    refine V.g [.k (iv 1000000000),.k (iv 1),.kb true] fun _ _ G8=>?_;intro S s
    have e0:(1000000000:Int)=Un.pp (Un.pre c):=by rw [hpx];rfl
    have e1:(1:Int)=Un.pq (Un.pre c):=by rw [hpx];rfl
    have e2:true=(Un.pre c).isSome:=by rw [hpx];rfl
    exact V.rt [0,0,0] [] [] [] [] [] (.tuple #[iv 1000000000,iv 1,bv true]) (cong3 (fun (x0 x1:Int) (x2:Bool)=>(.tuple #[iv x0,iv x1,bv x2]:Value)) e0 e1 e2)
  have hpn2:=q6;refine V.g [.k (bv (decide (c=109))),.k (bv (decide (c=109)))] fun _ _ G9=>?_;intro S s
  refine V.cn (b:=decide (c=109)) iDT iDF (fun q7=>?_) (fun q8=>?_)
  · have hpx:Un.pre c=some (1,1000):=by unfold Un.pre;rw [if_neg hpn0,if_neg hpn1,if_neg hpn2,if_pos q7]
    refine V.g [.k (iv 1),.k (iv 1000),.kb true] fun _ _ G10=>?_;intro S s
    have e0:(1:Int)=Un.pp (Un.pre c):=by rw [hpx];rfl
    have e1:(1000:Int)=Un.pq (Un.pre c):=by rw [hpx];rfl
    have e2:true=(Un.pre c).isSome:=by rw [hpx];rfl
    exact V.rt [0,0,0] [] [] [] [] [] (.tuple #[iv 1,iv 1000,bv true]) (cong3 (fun (x0 x1:Int) (x2:Bool)=>(.tuple #[iv x0,iv x1,bv x2]:Value)) e0 e1 e2)
  have hpn3:=q8;have hpx:Un.pre c=none:=by unfold Un.pre;rw [if_neg hpn0,if_neg hpn1,if_neg hpn2,if_neg hpn3]
  refine V.g [.k (iv 0),.k (iv 0),.kb false] fun _ _ G11=>?_;intro S s
  have e0:(0:Int)=Un.pp (Un.pre c):=by rw [hpx];rfl
  have e1:(0:Int)=Un.pq (Un.pre c):=by rw [hpx];rfl
  have e2:false=(Un.pre c).isSome:=by rw [hpx];rfl
  exact V.rt [0,0,0] [] [] [] [] [] (.tuple #[iv 0,iv 0,bv false]) (cong3 (fun (x0 x1:Int) (x2:Bool)=>(.tuple #[iv x0,iv x1,bv x2]:Value)) e0 e1 e2)
theorem upre_ctv (c rv0:Int) (erv0:rv0=Un.pp (Un.pre c)) (rv1:Int) (erv1:rv1=Un.pq (Un.pre c)) :
    Cp Tryz.prog 102 #[.int .u8 c] [] (.tuple #[iv rv0,iv rv1,bv ((Un.pre c).isSome)]):=by
  subst erv0 erv1;exact upre_ct c 
set_option maxRecDepth 10000 in
theorem upfx_ct (s:ByteArray) :
    Cp Tryz.prog 103 #[tv s] [] (bv (decide (Un.pf s))):=by
  refine V.fn mo Tryz.func103 11 0 (by kernel_rfl) fun w H ε k0=>?_;clear k0
  refine V.g [.kb false] fun _ _ G1=>?_;intro S_ s_
  refine V.g [.k (tv s)] fun _ _ G2=>?_;intro S_ s_
  refine V.g [.seq s ⟨#[103]⟩,.k (bv (decide (s=⟨#[103]⟩)))] fun _ _ G3=>?_;intro S_ s_
  refine V.cn (b:=decide (s=⟨#[103]⟩)) iDT iDF (fun q1=>?_) (fun q2=>?_)
  · have hpe:s=⟨#[103]⟩:=q1;have hpf:Un.pf s:=by rw [q1];decide
    refine V.cn (b:=decide (s=⟨#[103]⟩)) iDT iDF (fun q3=>?_) (fun q4=>?_)
    · have hpe:s=⟨#[103]⟩:=q3;have hpf:Un.pf s:=by rw [q3];decide
      refine V.g [.kb true] fun _ _ G4=>?_;intro S_ s_
      have e0:true=decide (Un.pf s):=by refine (decide_eq_true ?_).symm;have hqq:=q3;first | exact hpf | exact hqq | (rw [hqq];decide)
      exact V.rt [0] [] [] [] [] [] (bv true) (cong1 (fun (x0:Bool)=>(bv x0:Value)) e0)
    have hfn0:¬ s=⟨#[103]⟩:=q4;refine V.g [.kb false] fun _ _ G5=>?_;intro S_ s_
    have e0:false=decide (Un.pf s):=by refine (decide_eq_false ?_).symm;have hqq:=q4;first | exact absurd hpe hqq | (unfold Un.pf;rintro (((((h | h) | h) | h) | h) | h) <;> first | exact hfn0 h | exact hfn1 h | exact hfn2 h | exact hfn3 h | exact hfn4 h | exact hqq h)
    exact V.rt [0] [] [] [] [] [] (bv false) (cong1 (fun (x0:Bool)=>(bv x0:Value)) e0)
  have hfn0:¬ s=⟨#[103]⟩:=q2;refine V.g [.seq s ⟨#[109]⟩,.k (bv (decide (s=⟨#[109]⟩)))] fun _ _ G6=>?_;intro S_ s_
  refine V.cn (b:=decide (s=⟨#[109]⟩)) iDT iDF (fun q5=>?_) (fun q6=>?_)
  · have hpe:s=⟨#[109]⟩:=q5;have hpf:Un.pf s:=by rw [q5];decide
    refine V.cn (b:=decide (s=⟨#[109]⟩)) iDT iDF (fun q7=>?_) (fun q8=>?_)
    · have hpe:s=⟨#[109]⟩:=q7;have hpf:Un.pf s:=by rw [q7];decide
      refine V.g [.kb true] fun _ _ G7=>?_;intro S_ s_
      have e0:true=decide (Un.pf s):=by refine (decide_eq_true ?_).symm;have hqq:=q7;first | exact hpf | exact hqq | (rw [hqq];decide)
      exact V.rt [0] [] [] [] [] [] (bv true) (cong1 (fun (x0:Bool)=>(bv x0:Value)) e0)
    have hfn1:¬ s=⟨#[109]⟩:=q8;refine V.g [.kb false] fun _ _ G8=>?_;intro S_ s_
    have e0:false=decide (Un.pf s):=by refine (decide_eq_false ?_).symm;have hqq:=q8;first | exact absurd hpe hqq | (unfold Un.pf;rintro (((((h | h) | h) | h) | h) | h) <;> first | exact hfn0 h | exact hfn1 h | exact hfn2 h | exact hfn3 h | exact hfn4 h | exact hqq h)
    exact V.rt [0] [] [] [] [] [] (bv false) (cong1 (fun (x0:Bool)=>(bv x0:Value)) e0)
  have hfn1:¬ s=⟨#[109]⟩:=q6;refine V.g [.seq s ⟨#[108]⟩,.k (bv (decide (s=⟨#[108]⟩)))] fun _ _ G9=>?_;intro S_ s_
  refine V.cn (b:=decide (s=⟨#[108]⟩)) iDT iDF (fun q9=>?_) (fun q10=>?_)
  · have hpe:s=⟨#[108]⟩:=q9;have hpf:Un.pf s:=by rw [q9];decide
    refine V.cn (b:=decide (s=⟨#[108]⟩)) iDT iDF (fun q11=>?_) (fun q12=>?_)
    · have hpe:s=⟨#[108]⟩:=q11;have hpf:Un.pf s:=by rw [q11];decide
      refine V.g [.kb true] fun _ _ G10=>?_;intro S_ s_
      have e0:true=decide (Un.pf s):=by refine (decide_eq_true ?_).symm;have hqq:=q11;first | exact hpf | exact hqq | (rw [hqq];decide)
      exact V.rt [0] [] [] [] [] [] (bv true) (cong1 (fun (x0:Bool)=>(bv x0:Value)) e0)
    have hfn2:¬ s=⟨#[108]⟩:=q12;refine V.g [.kb false] fun _ _ G11=>?_;intro S_ s_
    have e0:false=decide (Un.pf s):=by refine (decide_eq_false ?_).symm;have hqq:=q12;first | exact absurd hpe hqq | (unfold Un.pf;rintro (((((h | h) | h) | h) | h) | h) <;> first | exact hfn0 h | exact hfn1 h | exact hfn2 h | exact hfn3 h | exact hfn4 h | exact hqq h)
    exact V.rt [0] [] [] [] [] [] (bv false) (cong1 (fun (x0:Bool)=>(bv x0:Value)) e0)
  have hfn2:¬ s=⟨#[108]⟩:=q10;refine V.g [.seq s ⟨#[115]⟩,.k (bv (decide (s=⟨#[115]⟩)))] fun _ _ G12=>?_;intro S_ s_
  refine V.cn (b:=decide (s=⟨#[115]⟩)) iDT iDF (fun q13=>?_) (fun q14=>?_)
  · have hpe:s=⟨#[115]⟩:=q13;have hpf:Un.pf s:=by rw [q13];decide
    refine V.cn (b:=decide (s=⟨#[115]⟩)) iDT iDF (fun q15=>?_) (fun q16=>?_)
    · have hpe:s=⟨#[115]⟩:=q15;have hpf:Un.pf s:=by rw [q15];decide
      refine V.g [.kb true] fun _ _ G13=>?_;intro S_ s_
      have e0:true=decide (Un.pf s):=by refine (decide_eq_true ?_).symm;have hqq:=q15;first | exact hpf | exact hqq | (rw [hqq];decide)
      exact V.rt [0] [] [] [] [] [] (bv true) (cong1 (fun (x0:Bool)=>(bv x0:Value)) e0)
    have hfn3:¬ s=⟨#[115]⟩:=q16;refine V.g [.kb false] fun _ _ G14=>?_;intro S_ s_
    have e0:false=decide (Un.pf s):=by refine (decide_eq_false ?_).symm;have hqq:=q16;first | exact absurd hpe hqq | (unfold Un.pf;rintro (((((h | h) | h) | h) | h) | h) <;> first | exact hfn0 h | exact hfn1 h | exact hfn2 h | exact hfn3 h | exact hfn4 h | exact hqq h)
    exact V.rt [0] [] [] [] [] [] (bv false) (cong1 (fun (x0:Bool)=>(bv x0:Value)) e0)
  have hfn3:¬ s=⟨#[115]⟩:=q14;refine V.g [.seq s ⟨#[74]⟩,.k (bv (decide (s=⟨#[74]⟩)))] fun _ _ G15=>?_;intro S_ s_
  refine V.cn (b:=decide (s=⟨#[74]⟩)) iDT iDF (fun q17=>?_) (fun q18=>?_)
  · have hpe:s=⟨#[74]⟩:=q17;have hpf:Un.pf s:=by rw [q17];decide
    refine V.cn (b:=decide (s=⟨#[74]⟩)) iDT iDF (fun q19=>?_) (fun q20=>?_)
    · have hpe:s=⟨#[74]⟩:=q19;have hpf:Un.pf s:=by rw [q19];decide
      refine V.g [.kb true] fun _ _ G16=>?_;intro S_ s_
      have e0:true=decide (Un.pf s):=by refine (decide_eq_true ?_).symm;have hqq:=q19;first | exact hpf | exact hqq | (rw [hqq];decide)
      exact V.rt [0] [] [] [] [] [] (bv true) (cong1 (fun (x0:Bool)=>(bv x0:Value)) e0)
    have hfn4:¬ s=⟨#[74]⟩:=q20;refine V.g [.kb false] fun _ _ G17=>?_;intro S_ s_
    have e0:false=decide (Un.pf s):=by refine (decide_eq_false ?_).symm;have hqq:=q20;first | exact absurd hpe hqq | (unfold Un.pf;rintro (((((h | h) | h) | h) | h) | h) <;> first | exact hfn0 h | exact hfn1 h | exact hfn2 h | exact hfn3 h | exact hfn4 h | exact hqq h)
    exact V.rt [0] [] [] [] [] [] (bv false) (cong1 (fun (x0:Bool)=>(bv x0:Value)) e0)
  have hfn4:¬ s=⟨#[74]⟩:=q18;refine V.g [.seq s ⟨#[87,104]⟩,.k (bv (decide (s=⟨#[87,104]⟩)))] fun _ _ G18=>?_;intro S_ s_
  refine V.cn (b:=decide (s=⟨#[87,104]⟩)) iDT iDF (fun q21=>?_) (fun q22=>?_)
  · refine V.g [.kb true] fun _ _ G19=>?_;intro S_ s_
    have e0:true=decide (Un.pf s):=by refine (decide_eq_true ?_).symm;have hqq:=q21;first | exact hpf | exact hqq | (rw [hqq];decide)
    exact V.rt [0] [] [] [] [] [] (bv true) (cong1 (fun (x0:Bool)=>(bv x0:Value)) e0)
  refine V.g [.kb false] fun _ _ G20=>?_;intro S_ s_
  have e0:false=decide (Un.pf s):=by refine (decide_eq_false ?_).symm;have hqq:=q22;first | exact absurd hpe hqq | (unfold Un.pf;rintro (((((h | h) | h) | h) | h) | h) <;> first | exact hfn0 h | exact hfn1 h | exact hfn2 h | exact hfn3 h | exact hfn4 h | exact hqq h)
  exact V.rt [0] [] [] [] [] [] (bv false) (cong1 (fun (x0:Bool)=>(bv x0:Value)) e0)
set_option maxRecDepth 10000 in
theorem ultr_ct (c:Int) :
    Cp Tryz.prog 138 #[.int .u8 c] [] (bv (decide (Un.ltr c))):=by
  refine V.fn mo Tryz.func138 17 0 (by kernel_rfl) fun w H ε k0=>?_;clear k0
  refine V.g [.kb false] fun _ _ G1=>?_;intro S s
  refine nm (((decide (97≤c)) && (decide (c≤122))) || ((decide (65≤c)) && (decide (c≤90))):Bool) fun p1 hp1=>?_;refine V.g [.k (.int .u8 c),.k (bv (decide (97≤c))),.k (bv (decide (97≤c))),.k (.int .u8 c),.k (bv (decide (c≤122))),.and g0 false (decide (97≤c)) (decide (c≤122)),.k (bv ((decide (97≤c)) && (decide (c≤122)))),.k (.int .u8 c),.k (bv (decide (65≤c))),.k (bv (decide (65≤c))),.k (.int .u8 c),.k (bv (decide (c≤90))),.and (gF (b:=(decide (97≤c)) && (decide (c≤122))) (iAF iDF iDF)) false (decide (65≤c)) (decide (c≤90)),.orn g0 false ((decide (97≤c)) && (decide (c≤122))) ((decide (65≤c)) && (decide (c≤90))) p1 hp1,.k (bv p1)] fun _ _ G2=>?_;intro S s
  have e0:p1=decide (Un.ltr c):=by
    refine Bool.eq_iff_iff.2 (Iff.trans (iN hp1 (iOT (iAT iDT iDT) (iAT iDT iDT))) (Iff.trans ?_ decide_eq_true_iff.symm));exact Iff.rfl
  exact V.rt [0] [] [] [] [] [] (bv p1) (cong1 (fun (x0:Bool)=>(bv x0:Value)) e0)

open Go Go.Proofs
set_option maxRecDepth 10000 in
theorem uword_ct (s:ByteArray) (hs0:0 < s.size) :
    Ct Tryz.prog 61 #[tv s] [] [] (fun g=>.tuple #[.agg #[iv (Un.dv (Un.word s) 0),iv (Un.dv (Un.word s) 1),iv (Un.dv (Un.word s) 2),iv (Un.dv (Un.word s) 3),iv (Un.dv (Un.word s) 4),iv (Un.dv (Un.word s) 5),iv (Fr.rS ((Un.word s).isSome=true) (Un.fv (Un.word s))),((g.ss 0)).v,iv (Fr.rT ((Un.word s).isSome=true)),((g.ss 1)).v],bv ((Un.word s).isSome)]) (fun g=>[fs true (Fr.rD ((Un.word s).isSome=true) (Un.fv (Un.word s))) (g.ss 0),fs true (Fr.rE ((Un.word s).isSome=true) (Un.fv (Un.word s))) (g.ss 1)]) (fun g=>[]) (fun g=>[]):=by
  refine V.fn mo Tryz.func61 61 4 (by kernel_rfl) fun w H ε k0=>?_;clear k0
  refine V.g [.nb 0 0 (fun b=>pp b 0) 42 (fun _=>#[iv 0,iv 0,iv 0,iv 0,iv 0,iv 0,iv 0,.slice none 0 0,iv 0,.slice none 0 0]),.kb false] fun _ _ G1=>?_;intro S_ s_
  refine nm (Un.dv (Un.sym s) 0:Int) fun n1 hn1=>?_;refine nm (Un.dv (Un.sym s) 1:Int) fun n2 hn2=>?_;refine nm (Un.dv (Un.sym s) 2:Int) fun n3 hn3=>?_;refine nm (Un.dv (Un.sym s) 3:Int) fun n4 hn4=>?_;refine nm (Un.dv (Un.sym s) 4:Int) fun n5 hn5=>?_;refine nm (Un.dv (Un.sym s) 5:Int) fun n6 hn6=>?_;refine nm (Fr.rS ((Un.sym s).isSome=true) (Un.fv (Un.sym s)):Int) fun n7 hn7=>?_;refine nl (Fr.rD ((Un.sym s).isSome=true) (Un.fv (Un.sym s))) fun l1 hl1 hl1n=>?_;refine nm (Fr.rT ((Un.sym s).isSome=true):Int) fun n8 hn8=>?_;refine nl (Fr.rE ((Un.sym s).isSome=true) (Un.fv (Un.sym s))) fun l2 hl2 hl2n=>?_;refine V.r [.k (tv s),.ct g0 1 101 false [] [] [] (fun _ G=>usym_ctv s n1 hn1 n2 hn2 n3 hn3 n4 hn4 n5 hn5 n6 hn6 n7 hn7 l1 hl1 n8 hn8 l2 hl2),.v fun G=>.tuple #[.agg #[iv n1,iv n2,iv n3,iv n4,iv n5,iv n6,iv n7,((G 1).ss 0).v,iv n8,((G 1).ss 1).v],bv ((Un.sym s).isSome)],.v fun G=>.agg #[iv n1,iv n2,iv n3,iv n4,iv n5,iv n6,iv n7,((G 1).ss 0).v,iv n8,((G 1).ss 1).v],.k (bv ((Un.sym s).isSome)),.nb 5 1 (fun b=>pp b 0) 42 (fun _=>#[iv 0,iv 0,iv 0,iv 0,iv 0,iv 0,iv 0,.slice none 0 0,iv 0,.slice none 0 0]),.st 1 (fun G=>.blk ((G 5).b) #[iv n1,iv n2,iv n3,iv n4,iv n5,iv n6,iv n7,((G 1).ss 0).v,iv n8,((G 1).ss 1).v] 42),.k (bv ((Un.sym s).isSome))] fun _ _ G2 kw2=>?_;intro S_ s_
  obtain ⟨⟨kl1, -⟩,⟨kl2, -⟩, -⟩:Lq l1 (((G2 1).ss 0).v)∧Lq l2 (((G2 1).ss 1).v)∧True:=kq kw2;clear kw2;refine V.g [.k (bv ((Un.sym s).isSome))] fun _ _ G3=>?_;intro S_ s_;refine V.cn (b:=(Un.sym s).isSome) Iff.rfl Iff.rfl (fun q1=>?_) (fun q2=>?_)
  · have hsy:(Un.sym s).isSome=true:=by have hqq:=q1;simpa using hqq
    refine V.g [.ld 1 0 true (fun _=>[iv n1,iv n2,iv n3,iv n4,iv n5,iv n6,iv n7,((G2 1).ss 0).v,iv n8,((G2 1).ss 1).v]),.st 0 (fun _=>.blk ((G1 0).b) #[iv n1,iv n2,iv n3,iv n4,iv n5,iv n6,iv n7,((G2 1).ss 0).v,iv n8,((G2 1).ss 1).v] 42),.kb true] fun _ _ G4=>?_;intro S_ s_
    have e7:l1=Fr.rD ((Un.word s).isSome=true) (Un.fv (Un.word s)):=by
      rw [hl1];rw [Un.word_y hsy]
    subst e7;have e9:l2=Fr.rE ((Un.word s).isSome=true) (Un.fv (Un.word s)):=by
      rw [hl2];rw [Un.word_y hsy]
    subst e9;have e0:n1=Un.dv (Un.word s) 0:=by
      rw [hn1];rw [Un.word_y hsy]
    have e1:n2=Un.dv (Un.word s) 1:=by
      rw [hn2];rw [Un.word_y hsy]
    have e2:n3=Un.dv (Un.word s) 2:=by
      rw [hn3];rw [Un.word_y hsy]
    have e3:n4=Un.dv (Un.word s) 3:=by
      rw [hn4];rw [Un.word_y hsy]
    have e4:n5=Un.dv (Un.word s) 4:=by
      rw [hn5];rw [Un.word_y hsy]
    have e5:n6=Un.dv (Un.word s) 5:=by
      rw [hn6];rw [Un.word_y hsy]
    have e6:n7=Fr.rS ((Un.word s).isSome=true) (Un.fv (Un.word s)):=by
      rw [hn7];rw [Un.word_y hsy]
    have e8:n8=Fr.rT ((Un.word s).isSome=true):=by
      rw [hn8];rw [Un.word_y hsy]
    have e10:true=(Un.word s).isSome:=by rw [Un.word_y hsy,hsy]
    exact V.rt [0,0] [(G2 1).ss 0,(G2 1).ss 1] [fun _=>{},fun _=>{}] [] [0,1] [] (.tuple #[.agg #[iv n1,iv n2,iv n3,iv n4,iv n5,iv n6,iv n7,((G2 1).ss 0).v,iv n8,((G2 1).ss 1).v],bv true]) (cong9 (fun (x0 x1 x2 x3 x4 x5 x6 x8:Int) (x10:Bool)=>(.tuple #[.agg #[iv x0,iv x1,iv x2,iv x3,iv x4,iv x5,iv x6,((G2 1).ss 0).v,iv x8,((G2 1).ss 1).v],bv x10]:Value)) e0 e1 e2 e3 e4 e5 e6 e8 e10)
  have hsn:¬ (Un.sym s).isSome=true:=by have hqq:=q2;simpa using hqq
  refine nm ((bl s).getD (0:Int).toNat default:UInt8) fun c1 hc1=>?_;refine nm (Un.pp (Un.pre (c1.toNat:Int)):Int) fun n9 hn9=>?_;refine nm (Un.pq (Un.pre (c1.toNat:Int)):Int) fun n10 hn10=>?_;refine V.g [.k (tv s),.sid g0 s (0:Int) c1 hc1 (fun _=>⟨by omega,by omega⟩),.cp g0 2 102 [] (fun _ G=>upre_ctv (c1.toNat:Int) n9 hn9 n10 hn10),.k (.tuple #[iv n9,iv n10,bv ((Un.pre (c1.toNat:Int)).isSome)]),.k (iv n9),.k (iv n10),.k (bv ((Un.pre (c1.toNat:Int)).isSome)),.k (iv n9),.k (iv n10),.k (bv ((Un.pre (c1.toNat:Int)).isSome))] fun _ _ G5=>?_;intro S_ s_
  refine nm (s.extract (1:Int).toNat (s.size:Int).toNat:ByteArray) fun t1 ht1=>?_;have ht1n:t1.size=min (s.size:Int).toNat s.size-(1:Int).toNat:=by rw [ht1,ByteArray.size_extract]
  refine nm (Un.dv (Un.sym t1) 0:Int) fun n11 hn11=>?_;refine nm (Un.dv (Un.sym t1) 1:Int) fun n12 hn12=>?_;refine nm (Un.dv (Un.sym t1) 2:Int) fun n13 hn13=>?_;refine nm (Un.dv (Un.sym t1) 3:Int) fun n14 hn14=>?_;refine nm (Un.dv (Un.sym t1) 4:Int) fun n15 hn15=>?_;refine nm (Un.dv (Un.sym t1) 5:Int) fun n16 hn16=>?_;refine nm (Fr.rS ((Un.sym t1).isSome=true) (Un.fv (Un.sym t1)):Int) fun n17 hn17=>?_;refine nl (Fr.rD ((Un.sym t1).isSome=true) (Un.fv (Un.sym t1))) fun l3 hl3 hl3n=>?_;refine nm (Fr.rT ((Un.sym t1).isSome=true):Int) fun n18 hn18=>?_;refine nl (Fr.rE ((Un.sym t1).isSome=true) (Un.fv (Un.sym t1))) fun l4 hl4 hl4n=>?_;refine V.r [.k (tv s),.ssl g0 s (some (1:Int)) none 1 (s.size:Int) rfl rfl t1 ht1 (fun _=>⟨by omega,by omega,by omega⟩),.ct g0 2 101 false [] [] [] (fun _ G=>usym_ctv t1 n11 hn11 n12 hn12 n13 hn13 n14 hn14 n15 hn15 n16 hn16 n17 hn17 l3 hl3 n18 hn18 l4 hl4),.v fun G=>.tuple #[.agg #[iv n11,iv n12,iv n13,iv n14,iv n15,iv n16,iv n17,((G 2).ss 0).v,iv n18,((G 2).ss 1).v],bv ((Un.sym t1).isSome)],.v fun G=>.agg #[iv n11,iv n12,iv n13,iv n14,iv n15,iv n16,iv n17,((G 2).ss 0).v,iv n18,((G 2).ss 1).v],.k (bv ((Un.sym t1).isSome)),.nb 6 2 (fun b=>pp b 0) 42 (fun _=>#[iv 0,iv 0,iv 0,iv 0,iv 0,iv 0,iv 0,.slice none 0 0,iv 0,.slice none 0 0]),.st 2 (fun G=>.blk ((G 6).b) #[iv n11,iv n12,iv n13,iv n14,iv n15,iv n16,iv n17,((G 2).ss 0).v,iv n18,((G 2).ss 1).v] 42),.k (bv ((Un.sym t1).isSome))] fun _ _ G6 kw6=>?_;intro S_ s_
  obtain ⟨⟨kl3, -⟩,⟨kl4, -⟩, -⟩:Lq l3 (((G6 2).ss 0).v)∧Lq l4 (((G6 2).ss 1).v)∧True:=kq kw6;clear kw6;refine nm ((!((Un.pre (c1.toNat:Int)).isSome)) || (!((Un.sym t1).isSome)):Bool) fun p1 hp1=>?_;refine V.g [.k (bv ((Un.pre (c1.toNat:Int)).isSome)),.k (bv (!((Un.pre (c1.toNat:Int)).isSome))),.k (bv (!((Un.pre (c1.toNat:Int)).isSome))),.k (bv ((Un.sym t1).isSome)),.k (bv (!((Un.sym t1).isSome))),.orn g0 false (!((Un.pre (c1.toNat:Int)).isSome)) (!((Un.sym t1).isSome)) p1 hp1,.k (bv p1),.k (tv s),.ssl (gF (b:=p1) (iN hp1 (iOF (iNF Iff.rfl) (iNF Iff.rfl)))) s (some (1:Int)) none 1 (s.size:Int) rfl rfl t1 ht1 (fun hg=>⟨by omega,by omega,by omega⟩),.cp (gF (b:=p1) (iN hp1 (iOF (iNF Iff.rfl) (iNF Iff.rfl)))) 9 103 [] (fun hg G=>upfx_ct t1),.k (bv (!(decide (Un.pf t1)))),.or g0 false p1 (!(decide (Un.pf t1)))] fun _ _ G7=>?_;intro S_ s_;refine V.cn (b:=p1 || (!(decide (Un.pf t1)))) (iOT (iN hp1 (iOT (iNT Iff.rfl) (iNT Iff.rfl))) (iNT iDF)) (iOF (iN hp1 (iOF (iNF Iff.rfl) (iNF Iff.rfl))) (iNF iDT)) (fun q3=>?_) (fun q4=>?_)
  · have hwe:Un.wdB s=((Un.pre (c1.toNat:Int)).isSome=true∧(Un.sym t1).isSome=true∧Un.pf t1):=by rw [ht1,hc1];rfl
    have hwk:¬ Un.wdB s:=by rw [hwe];rintro ⟨h1,h2,h3⟩;have hqq:=q3;simp [h1,h2,h3] at hqq
    have hwn:=Un.word_n hsn hwk;refine V.g [.k (.agg #[iv 0,iv 0,iv 0,iv 0,iv 0,iv 0,iv 0,.slice none 0 0,iv 0,.slice none 0 0]),.st 0 (fun _=>.blk ((G1 0).b) #[iv 0,iv 0,iv 0,iv 0,iv 0,iv 0,iv 0,.slice none 0 0,iv 0,.slice none 0 0] 42),.kb false] fun _ _ G8=>?_;intro S_ s_
    refine V.nilF (α:=Int) ?_;refine V.nilF (α:=Int) ?_;have e7:([]:List Int)=Fr.rD ((Un.word s).isSome=true) (Un.fv (Un.word s)):=(Fr.Fz.no (Un.is_n hwn) (Un.fv (Un.word s))).2.1;rw [←e7];have e9:([]:List Int)=Fr.rE ((Un.word s).isSome=true) (Un.fv (Un.word s)):=(Fr.Fz.no (Un.is_n hwn) (Un.fv (Un.word s))).2.2.2;rw [←e9];have e0:(0:Int)=Un.dv (Un.word s) 0:=(Un.dv_n hwn 0).symm;have e1:(0:Int)=Un.dv (Un.word s) 1:=(Un.dv_n hwn 1).symm;have e2:(0:Int)=Un.dv (Un.word s) 2:=(Un.dv_n hwn 2).symm;have e3:(0:Int)=Un.dv (Un.word s) 3:=(Un.dv_n hwn 3).symm;have e4:(0:Int)=Un.dv (Un.word s) 4:=(Un.dv_n hwn 4).symm;have e5:(0:Int)=Un.dv (Un.word s) 5:=(Un.dv_n hwn 5).symm;have e6:(0:Int)=Fr.rS ((Un.word s).isSome=true) (Un.fv (Un.word s)):=(Fr.Fz.no (Un.is_n hwn) (Un.fv (Un.word s))).1;have e8:(0:Int)=Fr.rT ((Un.word s).isSome=true):=(Fr.Fz.no (Un.is_n hwn) (Un.fv (Un.word s))).2.2.1;have e10:false=(Un.word s).isSome:=by rw [hwn];rfl
    exact V.rt [0,0] [{},{}] [fun _=>{},fun _=>{}] [] [4,5] [] (.tuple #[.agg #[iv 0,iv 0,iv 0,iv 0,iv 0,iv 0,iv 0,SV.v ({}),iv 0,SV.v ({})],bv false]) (cong9 (fun (x0 x1 x2 x3 x4 x5 x6 x8:Int) (x10:Bool)=>(.tuple #[.agg #[iv x0,iv x1,iv x2,iv x3,iv x4,iv x5,iv x6,SV.v ({}),iv x8,SV.v ({})],bv x10]:Value)) e0 e1 e2 e3 e4 e5 e6 e8 e10)
  have hwe:Un.wdB s=((Un.pre (c1.toNat:Int)).isSome=true∧(Un.sym t1).isSome=true∧Un.pf t1):=by rw [ht1,hc1];rfl
  have hwk:Un.wdB s:=by rw [hwe];have hqq:=q4;simpa [and_assoc] using hqq
  have hwk2:=hwe.mp hwk;have hpr:=Un.pre_ok hwk2.1;rw [←hn9,← hn10] at hpr;have hwp:Un.word s=some (((Un.sym t1).getD ([],0)).1,Un.fv (Un.sym t1) * Rat.divInt n9 n10):=by rw [hn9,hn10,ht1,hc1];exact Un.word_p hsn hwk
  have zs:=Fr.Fz.of hwk2.2.1 hn17 hl3 hn18 hl4;have hzs:=zs.len (Un.sym_ok (Un.some_of hwk2.2.1)).2.2.2;have hzs1:=hzs.1;have hzs2:=hzs.2;refine nm (Fr.rS (n10≠0) (Rat.divInt n9 n10):Int) fun n19 hn19=>?_;refine nl (Fr.rD (n10≠0) (Rat.divInt n9 n10)) fun l5 hl5 hl5n=>?_;refine nm (Fr.rT (n10≠0):Int) fun n20 hn20=>?_;refine nl (Fr.rE (n10≠0) (Rat.divInt n9 n10)) fun l6 hl6 hl6n=>?_;refine nm (if n10=0 then (15:Int) else 0:Int) fun n21 hn21=>?_;refine V.r [.k (iv n9),.k (iv n10),.ct g0 2 104 false [] [] [] (fun _ G=>fof_ctv n9 n10 (by omega) (by omega) n19 hn19 l5 hl5 n20 hn20 l6 hl6 n21 hn21),.v fun G=>.tuple #[ag (DFrac.mk ⟨n19,l5,(G 2).ss 0⟩ ⟨n20,l6,(G 2).ss 1⟩),iv n21],.v fun G=>ag (DFrac.mk ⟨n19,l5,(G 2).ss 0⟩ ⟨n20,l6,(G 2).ss 1⟩),.k (iv n21),.nb 6 3 (fun b=>pp b 0) 29 (fun _=>ca (DFrac.mk ⟨0,[],{}⟩ ⟨0,[],{}⟩)),.st 3 (fun G=>.blk ((G 6).b) (ca (DFrac.mk ⟨n19,l5,(G 2).ss 0⟩ ⟨n20,l6,(G 2).ss 1⟩)) 29),.k (iv n21)] fun _ _ G9 kw9=>?_;intro S_ s_
  obtain ⟨⟨kl5, -⟩,⟨kl6, -⟩, -⟩:Lq l5 (((G9 2).ss 0).v)∧Lq l6 (((G9 2).ss 1).v)∧True:=kq kw9;clear kw9;refine nm (Fr.rS (Fr.FrB n17 l3 n18 l4∧Fr.FrB n19 l5 n20 l6) ((Fr.fq n17 l3 l4) * (Fr.fq n19 l5 l6)):Int) fun n22 hn22=>?_;refine nl (Fr.rD (Fr.FrB n17 l3 n18 l4∧Fr.FrB n19 l5 n20 l6) ((Fr.fq n17 l3 l4) * (Fr.fq n19 l5 l6))) fun l7 hl7 hl7n=>?_;refine nm (Fr.rT (Fr.FrB n17 l3 n18 l4∧Fr.FrB n19 l5 n20 l6):Int) fun n23 hn23=>?_;refine nl (Fr.rE (Fr.FrB n17 l3 n18 l4∧Fr.FrB n19 l5 n20 l6) ((Fr.fq n17 l3 l4) * (Fr.fq n19 l5 l6))) fun l8 hl8 hl8n=>?_;refine nm (if ¬ (Fr.FrB n17 l3 n18 l4∧Fr.FrB n19 l5 n20 l6) then (1:Int) else 0:Int) fun n24 hn24=>?_;have zf:=Fr.Fz.of (show n10≠0 by omega) hn19 hl5 hn20 hl6;have hzf:=zf.len (Fr.Hb.divI (k:=3) (by omega) (by omega) (by omega));have hzf1:=hzf.1;have hzf2:=hzf.2;have zw:=Fr.Fz.of ⟨zs.rt,zf.rt⟩ hn22 hl7 hn23 hl8;rw [zs.v,zf.v] at zw;refine V.r [.k (pp ((G6 6).b) 6),.ld 2 6 true (fun _=>Dat.cells (DFrac.mk ⟨n17,l3,(G6 2).ss 0⟩ ⟨n18,l4,(G6 2).ss 1⟩)),.ld 3 0 true (fun _=>Dat.cells (DFrac.mk ⟨n19,l5,(G9 2).ss 0⟩ ⟨n20,l6,(G9 2).ss 1⟩)),.ct g0 3 45 false [] [] [(kf true (.f 2) l3 (fun _=>(G6 2).ss 0)).a,(kf true (.f 3) l4 (fun _=>(G6 2).ss 1)).a,(kf true (.f 4) l5 (fun _=>(G9 2).ss 0)).a,(kf true (.f 5) l6 (fun _=>(G9 2).ss 1)).a] (fun _ G=>fmul_ctv n17 l3 ((G6 2).ss 0) n18 l4 ((G6 2).ss 1) n19 l5 ((G9 2).ss 0) n20 l6 ((G9 2).ss 1) (by omega) (by omega) (by omega) (by omega) n22 hn22 l7 hl7 n23 hn23 l8 hl8 n24 hn24),.v fun G=>.tuple #[ag (DFrac.mk ⟨n22,l7,(G 3).ss 0⟩ ⟨n23,l8,(G 3).ss 1⟩),iv n24],.v fun G=>ag (DFrac.mk ⟨n22,l7,(G 3).ss 0⟩ ⟨n23,l8,(G 3).ss 1⟩),.k (iv n24),.k (pp ((G6 6).b) 6),.st 2 (fun G=>.blk ((G6 6).b) #[iv n11,iv n12,iv n13,iv n14,iv n15,iv n16,iv n22,((G 3).ss 0).v,iv n23,((G 3).ss 1).v] 42)] fun _ _ G10 kw10=>?_;intro S_ s_;obtain ⟨⟨kl7, -⟩,⟨kl8, -⟩, -⟩:Lq l7 (((G10 3).ss 0).v)∧Lq l8 (((G10 3).ss 1).v)∧True:=kq kw10;clear kw10;refine V.g [.ld 2 0 true (fun _=>[iv n11,iv n12,iv n13,iv n14,iv n15,iv n16,iv n22,((G10 3).ss 0).v,iv n23,((G10 3).ss 1).v]),.st 0 (fun _=>.blk ((G1 0).b) #[iv n11,iv n12,iv n13,iv n14,iv n15,iv n16,iv n22,((G10 3).ss 0).v,iv n23,((G10 3).ss 1).v] 42),.kb true] fun _ _ G11=>?_;intro S_ s_;have e7:l7=Fr.rD ((Un.word s).isSome=true) (Un.fv (Un.word s)):=(Fr.Fz.ret zw (Un.is_s hwp) (Un.fv_s hwp).symm).2.1;subst e7;have e9:l8=Fr.rE ((Un.word s).isSome=true) (Un.fv (Un.word s)):=(Fr.Fz.ret zw (Un.is_s hwp) (Un.fv_s hwp).symm).2.2.2;subst e9;have e0:n11=Un.dv (Un.word s) 0:=by
    rw [hn11,ht1];rw [Un.dv_s hwp,ht1];rfl
  have e1:n12=Un.dv (Un.word s) 1:=by
    rw [hn12,ht1];rw [Un.dv_s hwp,ht1];rfl
  have e2:n13=Un.dv (Un.word s) 2:=by
    rw [hn13,ht1];rw [Un.dv_s hwp,ht1];rfl
  have e3:n14=Un.dv (Un.word s) 3:=by
    rw [hn14,ht1];rw [Un.dv_s hwp,ht1];rfl
  have e4:n15=Un.dv (Un.word s) 4:=by
    rw [hn15,ht1];rw [Un.dv_s hwp,ht1];rfl
  have e5:n16=Un.dv (Un.word s) 5:=by
    rw [hn16,ht1];rw [Un.dv_s hwp,ht1];rfl
  have e6:n22=Fr.rS ((Un.word s).isSome=true) (Un.fv (Un.word s)):=(Fr.Fz.ret zw (Un.is_s hwp) (Un.fv_s hwp).symm).1;have e8:n23=Fr.rT ((Un.word s).isSome=true):=(Fr.Fz.ret zw (Un.is_s hwp) (Un.fv_s hwp).symm).2.2.1;have e10:true=(Un.word s).isSome:=by rw [hwp];rfl
  exact V.rt [0,0] [(G10 3).ss 0,(G10 3).ss 1] [fun _=>{},fun _=>{}] [] [6,7] [] (.tuple #[.agg #[iv n11,iv n12,iv n13,iv n14,iv n15,iv n16,iv n22,((G10 3).ss 0).v,iv n23,((G10 3).ss 1).v],bv true]) (cong9 (fun (x0 x1 x2 x3 x4 x5 x6 x8:Int) (x10:Bool)=>(.tuple #[.agg #[iv x0,iv x1,iv x2,iv x3,iv x4,iv x5,iv x6,((G10 3).ss 0).v,iv x8,((G10 3).ss 1).v],bv x10]:Value)) e0 e1 e2 e3 e4 e5 e6 e8 e10)
theorem uword_ctv (s:ByteArray) (hs0:0 < s.size) (rv0:Int) (erv0:rv0=Un.dv (Un.word s) 0) (rv1:Int) (erv1:rv1=Un.dv (Un.word s) 1) (rv2:Int) (erv2:rv2=Un.dv (Un.word s) 2) (rv3:Int) (erv3:rv3=Un.dv (Un.word s) 3) (rv4:Int) (erv4:rv4=Un.dv (Un.word s) 4) (rv5:Int) (erv5:rv5=Un.dv (Un.word s) 5) (rv6:Int) (erv6:rv6=Fr.rS ((Un.word s).isSome=true) (Un.fv (Un.word s))) (rv7:List Int) (erv7:rv7=Fr.rD ((Un.word s).isSome=true) (Un.fv (Un.word s))) (rv8:Int) (erv8:rv8=Fr.rT ((Un.word s).isSome=true)) (rv9:List Int) (erv9:rv9=Fr.rE ((Un.word s).isSome=true) (Un.fv (Un.word s))) :
    Ct Tryz.prog 61 #[tv s] [] [] (fun g=>.tuple #[.agg #[iv rv0,iv rv1,iv rv2,iv rv3,iv rv4,iv rv5,iv rv6,((g.ss 0)).v,iv rv8,((g.ss 1)).v],bv ((Un.word s).isSome)]) (fun g=>[fs true rv7 (g.ss 0),fs true rv9 (g.ss 1)]) (fun g=>[]) (fun g=>[]):=by
  subst erv0 erv1 erv2 erv3 erv4 erv5 erv6 erv7 erv8 erv9;exact uword_ct s hs0
set_option maxRecDepth 10000 in
theorem ucut_ct (s:ByteArray) (hs:s.size≤1000000) :
    Cp Tryz.prog 100 #[tv s] [] (.tuple #[ag (Ditem.mk (Un.cuW s) (Un.cuE s)),tv (Un.cuR s),bv (decide (0 < Un.nl s))]):=by
  refine V.fn mo Tryz.func100 49 2 (by kernel_rfl) fun w H ε k0=>?_;clear k0
  refine V.g [.nb 0 0 (fun b=>pp b 0) 72 (fun _=>ca (Ditem.mk ByteArray.empty 0)),.k (tv ByteArray.empty),.kb false] fun _ _ G1=>?_;intro S_ s_
  refine V.g [.k (iv 0)] fun _ _ G2=>?_;intro S_ s_
  refine V.loop (γ:=Int) (fun n=>⟨[(0,tv s),(2,pp ((G1 0).b) 0),(5,iv n)],[],[.blk ((G1 0).b) (ca (Ditem.mk ByteArray.empty 0)) 72,.no]⟩) (fun n=>(0≤n)∧(n≤(s.size:Int))∧(∀ j,j < n.toNat→Un.ltr (((bl s).getD j default).toNat:Int))) (fun n=>((s.size:Int)-n).toNat) 0 (by kernel_rfl) [] (by kernel_rfl) ?_ ?_
  · refine ⟨?_,?_,?_⟩
    · show 0≤(0:Int);omega
    · show (0:Int)≤(s.size:Int);omega
    show ∀ j,j < (0:Int).toNat→Un.ltr (((bl s).getD j default).toNat:Int);intro j hj;simp at hj
  rintro n hF1 kw3 Z1 hZ1;have hF1:(0≤n)∧(n≤(s.size:Int))∧(∀ j,j < n.toNat→Un.ltr (((bl s).getD j default).toNat:Int)):=hF1;obtain ⟨hf1,hf2,hf3⟩:=hF1;clear kw3;refine nm ((bl s).getD n.toNat default:UInt8) fun c1 hc1=>?_;refine nm ((decide (n < (s.size:Int))) && (decide (Un.ltr (c1.toNat:Int))):Bool) fun p1 hp1=>?_;refine V.g [.k (iv n),.k (tv s),.k (iv (s.size:Int)),.k (bv (decide (n < (s.size:Int)))),.k (bv (decide (n < (s.size:Int)))),.k (tv s),.k (iv n),.sid (gT (b:=decide (n < (s.size:Int))) iDT) s n c1 hc1 (fun hg=>⟨by omega,by omega⟩),.cp (gT (b:=decide (n < (s.size:Int))) iDT) 8 138 [] (fun hg G=>ultr_ct (c1.toNat:Int)),.andn g0 false (decide (n < (s.size:Int))) (decide (Un.ltr (c1.toNat:Int))) p1 hp1] fun _ _ G3=>?_;intro S_ s_;refine V.cn (b:=p1) (iN hp1 (iAT iDT iDT)) (iN hp1 (iAF iDF iDF)) (fun q1=>?_) (fun q2=>?_)
  · refine V.g [.k (iv n),.a (n+1) (by omega) (by omega),.k (iv (n+1))] fun _ _ G4=>?_;intro S_ s_
    refine V.rnd hZ1 (n+1) [] (by kernel_rfl) ?_ ?_
    · refine ⟨?_,?_,?_⟩
      · show 0≤(n+1);omega
      · show (n+1)≤(s.size:Int);omega
      show ∀ j,j < (n+1).toNat→Un.ltr (((bl s).getD j default).toNat:Int);intro j hj;by_cases e:j < n.toNat
      · exact hf3 j e
      rw [show j=n.toNat by omega,← hc1];exact (q1).2
    show ((s.size:Int)-(n+1)).toNat < ((s.size:Int)-n).toNat;omega
  have hnl:Un.nl s=n.toNat:=Un.nl_at (by omega) hf3 (by have hqq:=q2;rcases hqq with h | h;exact .inl (by omega);right;rw [hc1] at h;exact h);refine nm (s.extract (0:Int).toNat n.toNat:ByteArray) fun t1 ht1=>?_;have ht1n:t1.size=min n.toNat s.size-(0:Int).toNat:=by rw [ht1,ByteArray.size_extract]
  refine V.g [.k (tv s),.k (iv n),.ssl g0 s none (some n) 0 n rfl rfl t1 ht1 (fun _=>⟨by omega,by omega,by omega⟩),.k (ag (Ditem.mk t1 1)),.nb 4 1 (fun b=>pp b 0) 72 (fun _=>ca (Ditem.mk ByteArray.empty 0)),.st 1 (fun G=>.blk ((G 4).b) (ca (Ditem.mk t1 1)) 72)] fun _ _ G5=>?_;intro S_ s_
  refine nm (s.extract n.toNat (s.size:Int).toNat:ByteArray) fun t2 ht2=>?_;have ht2n:t2.size=min (s.size:Int).toNat s.size-n.toNat:=by rw [ht2,ByteArray.size_extract]
  refine V.g [.k (tv s),.k (iv n),.ssl g0 s (some n) none n (s.size:Int) rfl rfl t2 ht2 (fun _=>⟨by omega,by omega,by omega⟩),.k (tv t2)] fun _ _ G6=>?_;intro S_ s_
  have hrest:Un.rest s=t2:=by unfold Un.rest;rw [hnl,ht2];rfl
  have hcw:Un.cuW s=t1:=by unfold Un.cuW;rw [hnl,ht1];rfl
  refine nm ((bl t2).getD (0:Int).toNat default:UInt8) fun c2 hc2=>?_;refine nm ((!(decide (t2=ByteArray.empty))) && (decide (50≤(c2.toNat:Int))):Bool) fun p2 hp2=>?_;refine V.g [.k (tv t2),.sne t2 ByteArray.empty,.k (bv (!(decide (t2=ByteArray.empty)))),.k (tv t2),.sid (gT (b:=!(decide (t2=ByteArray.empty))) (iNT iDF)) t2 (0:Int) c2 hc2 (fun hg=>⟨by omega,by have:=Dm.size_ne hg;omega⟩),.k (bv (decide (50≤(c2.toNat:Int)))),.andn g0 false (!(decide (t2=ByteArray.empty))) (decide (50≤(c2.toNat:Int))) p2 hp2,.k (bv p2),.k (tv t2),.sid (gT (b:=p2) (iN hp2 (iAT (iNT iDF) iDT))) t2 (0:Int) c2 hc2 (fun hg=>⟨by omega,by have:=Dm.size_ne hg.1;omega⟩),.k (bv (decide ((c2.toNat:Int)≤57))),.and g0 false p2 (decide ((c2.toNat:Int)≤57))] fun _ _ G7=>?_;intro S_ s_
  refine V.cn (b:=p2 && (decide ((c2.toNat:Int)≤57))) (iAT (iN hp2 (iAT (iNT iDF) iDT)) iDT) (iAF (iN hp2 (iAF (iNF iDT) iDF)) iDF) (fun q3=>?_) (fun q4=>?_)
  · obtain ⟨⟨hne,hlo⟩,hup⟩:=q3;have hsz:=Dm.size_ne hne;have hcd:(bl t2).getD 0 default=c2:=hc2.symm;have hnum:Un.num t2:=by unfold Un.num;rw [hcd];exact ⟨⟨hne,hlo⟩,hup⟩
    refine nm ((c2.toNat:Int)-48:Int) fun n1 hn1=>?_;refine nm (t2.extract (1:Int).toNat (t2.size:Int).toNat:ByteArray) fun t3 ht3=>?_;have ht3n:t3.size=min (t2.size:Int).toNat t2.size-(1:Int).toNat:=by rw [ht3,ByteArray.size_extract]
    refine V.g [.k (tv t2),.sid g0 t2 (0:Int) c2 hc2 (fun _=>⟨by omega,by omega⟩),.ek g0 .u8 ((c2.toNat:Int)-48) n1 (fun _=>by rw [wrapU8];omega),.arg g0 n1 n1 rfl (fun _=>by omega),.k (tv t2),.ssl g0 t2 (some (1:Int)) none 1 (t2.size:Int) rfl rfl t3 ht3 (fun _=>⟨by omega,by omega,by omega⟩),.k (pp ((G5 4).b) 1),.st 1 (fun _=>.blk ((G5 4).b) (ca (Ditem.mk t1 n1)) 72),.k (tv t3)] fun _ _ G8=>?_;intro S_ s_
    have hce:Un.cuE s=n1:=by unfold Un.cuE;rw [hrest,if_pos hnum,hcd,hn1]
    have hcr:Un.cuR s=t3:=by unfold Un.cuR;rw [hrest,if_pos hnum,ht3];rfl
    refine V.g [.ld 1 0 true (fun _=>Dat.cells (Ditem.mk t1 n1)),.k (tv t3),.k (iv n),.k (bv (decide (0 < n))),.st 0 (fun _=>.blk ((G1 0).b) (ca (Ditem.mk t1 n1)) 72),.k (tv t3),.k (bv (decide (0 < n)))] fun _ _ G9=>?_;intro S_ s_
    have e0:t1=Un.cuW s:=hcw.symm;have e1:n1=Un.cuE s:=hce.symm;have e2:t3=Un.cuR s:=hcr.symm;have e3:(decide (0 < n))=decide (0 < Un.nl s):=by
      refine Bool.eq_iff_iff.2 (Iff.trans iDT (Iff.trans ?_ decide_eq_true_iff.symm));rw [hnl];omega
    exact V.rt [0,0,0] [] [] [] [] [] (.tuple #[ag (Ditem.mk t1 n1),tv t3,bv (decide (0 < n))]) (cong4 (fun (x0:ByteArray) (x1:Int) (x2:ByteArray) (x3:Bool)=>(.tuple #[.agg #[tv x0,iv x1],tv x2,bv x3]:Value)) e0 e1 e2 e3)
  have hcd:(bl t2).getD 0 default=c2:=hc2.symm;have hnum:¬ Un.num t2:=by unfold Un.num;rw [hcd];rintro ⟨⟨h1,h2⟩,h3⟩;have hqq:=q4;rcases hqq with (h | h) | h;exact h1 h;exact h h2;exact h h3
  have hce:Un.cuE s=1:=by unfold Un.cuE;rw [hrest,if_neg hnum]
  have hcr:Un.cuR s=t2:=by unfold Un.cuR;rw [hrest,if_neg hnum]
  refine V.g [.ld 1 0 true (fun _=>Dat.cells (Ditem.mk t1 1)),.k (tv t2),.k (iv n),.k (bv (decide (0 < n))),.st 0 (fun _=>.blk ((G1 0).b) (ca (Ditem.mk t1 1)) 72),.k (tv t2),.k (bv (decide (0 < n)))] fun _ _ G10=>?_;intro S_ s_
  have e0:t1=Un.cuW s:=hcw.symm;have e1:(1:Int)=Un.cuE s:=hce.symm;have e2:t2=Un.cuR s:=hcr.symm;have e3:(decide (0 < n))=decide (0 < Un.nl s):=by
    refine Bool.eq_iff_iff.2 (Iff.trans iDT (Iff.trans ?_ decide_eq_true_iff.symm));rw [hnl];omega
  exact V.rt [0,0,0] [] [] [] [] [] (.tuple #[ag (Ditem.mk t1 1),tv t2,bv (decide (0 < n))]) (cong4 (fun (x0:ByteArray) (x1:Int) (x2:ByteArray) (x3:Bool)=>(.tuple #[.agg #[tv x0,iv x1],tv x2,bv x3]:Value)) e0 e1 e2 e3)
theorem ucut_ctv (s:ByteArray) (hs:s.size≤1000000) (rv0:ByteArray) (erv0:rv0=Un.cuW s) (rv1:Int) (erv1:rv1=Un.cuE s) (rv2:ByteArray) (erv2:rv2=Un.cuR s) :
    Cp Tryz.prog 100 #[tv s] [] (.tuple #[ag (Ditem.mk rv0 rv1),tv rv2,bv (decide (0 < Un.nl s))]):=by
  subst erv0 erv1 erv2;exact ucut_ct s hs

open Go Go.Proofs
set_option maxRecDepth 10000 in
theorem utimes_ct (j:Int) (h:List Int) (o:SV) (p:Int) (i:List Int) (q:SV) (e:Int) (c:List Int) (m:SV) (l:Int) (d:List Int) (n:SV) (exp:Int) (hFA:Fr.FrB j h p i) (hFF:Fr.FrB e c l d) (hf0:e≠0) (he: -9≤exp∧exp≤9) (hla:h.length≤1000000∧i.length≤1000000) (hlf:c.length≤1000∧d.length≤1000) :
    Ct Tryz.prog 62 #[ag (DFrac.mk ⟨j,h,o⟩ ⟨p,i,q⟩),ag (DFrac.mk ⟨e,c,m⟩ ⟨l,d,n⟩),iv exp] [fs true h o,fs true i q,fs true c m,fs true d n] [] (fun g=>ag (DFrac.mk ⟨(Fr.rS (True) (Un.tm (Fr.fq j h i) (Fr.fq e c d) exp)),Fr.rD (True) (Un.tm (Fr.fq j h i) (Fr.fq e c d) exp),(g.ss 0)⟩ ⟨(Fr.rT (True)),Fr.rE (True) (Un.tm (Fr.fq j h i) (Fr.fq e c d) exp),(g.ss 1)⟩)) (fun g=>[fs false (Fr.rD (True) (Un.tm (Fr.fq j h i) (Fr.fq e c d) exp)) (g.ss 0),fs false (Fr.rE (True) (Un.tm (Fr.fq j h i) (Fr.fq e c d) exp)) (g.ss 1)]) (fun g=>[]) (fun g=>[]):=by
  refine V.fn mo Tryz.func62 29 3 (by kernel_rfl) fun w H ε k0=>?_;obtain ⟨⟨kl1, -⟩,⟨kl2, -⟩,⟨kl3, -⟩,⟨kl4, -⟩, -⟩:Lq h o.v∧Lq i q.v∧Lq c m.v∧Lq d n.v∧True:=kq k0
  clear k0;refine V.g [.nb 0 0 (fun b=>pp b 0) 29 (fun _=>ca (DFrac.mk ⟨j,h,o⟩ ⟨p,i,q⟩)),.nb 1 1 (fun b=>pp b 0) 29 (fun _=>ca (DFrac.mk ⟨e,c,m⟩ ⟨l,d,n⟩)),.nb 2 2 (fun b=>pp b 0) 29 (fun _=>ca (DFrac.mk ⟨0,[],{}⟩ ⟨0,[],{}⟩))] fun _ _ G1=>?_;intro S s
  refine V.g [.k (iv exp),.k (iv exp),.ng exp (-exp) rfl (by omega) (by omega),.mx exp (-exp),.k (iv 0)] fun _ _ G2=>?_;intro S s
  refine V.loop (γ:=Int × Int × List Int × SV × Int × List Int × SV) (fun ⟨k0,a_0,a_1,a_1s,a_2,a_3,a_3s⟩=>⟨[(2,iv exp),(3,pp ((G1 0).b) 0),(4,pp ((G1 1).b) 0),(6,pp ((G1 2).b) 0),(10,iv (max exp (-exp))),(11,iv k0)],[fs false a_1 a_1s,fs false a_3 a_3s,fs false c m,fs false d n],[.blk ((G1 0).b) (ca (DFrac.mk ⟨a_0,a_1,a_1s⟩ ⟨a_2,a_3,a_3s⟩)) 29,.blk ((G1 1).b) (ca (DFrac.mk ⟨e,c,m⟩ ⟨l,d,n⟩)) 29,.blk ((G1 2).b) (ca (DFrac.mk ⟨0,[],{}⟩ ⟨0,[],{}⟩)) 29]⟩) (fun ⟨k0,a_0,a_1,a_1s,a_2,a_3,a_3s⟩=>(0≤k0)∧(k0≤max exp (-exp))∧(Fr.Fz a_0 a_1 a_2 a_3 (Un.tmN (Fr.fq j h i) (Fr.fq e c d) (0 < exp) k0.toNat))) (fun ⟨k0,a_0,a_1,a_1s,a_2,a_3,a_3s⟩=>(max exp (-exp)-k0).toNat) (0,j,h,o,p,i,q) (by kernel_rfl) [0,1,2,3] (by kernel_rfl) ?_ ?_
  · refine ⟨?_,?_,?_⟩
    · show 0≤(0:Int);omega
    · show (0:Int)≤max exp (-exp);omega
    show Fr.Fz j h p i (Un.tmN (Fr.fq j h i) (Fr.fq e c d) (0 < exp) (0:Int).toNat);exact Fr.FrB.z hFA
  rintro ⟨k0,a_0,a_1,a_1s,a_2,a_3,a_3s⟩ hF1 kw3 Z1 hZ1;have hF1:(0≤k0)∧(k0≤max exp (-exp))∧(Fr.Fz a_0 a_1 a_2 a_3 (Un.tmN (Fr.fq j h i) (Fr.fq e c d) (0 < exp) k0.toNat)):=hF1;obtain ⟨hf1,hf2,hf3⟩:=hF1;obtain ⟨⟨kl5, -⟩,⟨kl6, -⟩, -, -, -⟩:Lq a_1 a_1s.v∧Lq a_3 a_3s.v∧Lq c m.v∧Lq d n.v∧True:=kq kw3;clear kw3;have hzl:=hf3.len (Un.tmN_hb (hFA.hb hla.1 hla.2) (hFF.hb hlf.1 hlf.2) _);have hzl1:=hzl.1;have hzl2:=hzl.2;refine V.g [.k (bv (decide (k0 < max exp (-exp))))] fun _ _ G3=>?_;intro S s;refine V.cn (b:=decide (k0 < max exp (-exp))) iDT iDF (fun q1=>?_) (fun q2=>?_)
  · refine V.g [.k (iv exp),.k (bv (decide (0 < exp)))] fun _ _ G4=>?_;intro S s
    refine V.cn (b:=decide (0 < exp)) iDT iDF (fun q3=>?_) (fun q4=>?_)
    · refine nm (Fr.rS (Fr.FrB a_0 a_1 a_2 a_3∧Fr.FrB e c l d) ((Fr.fq a_0 a_1 a_3) * (Fr.fq e c d)):Int) fun n1 hn1=>?_;refine nl (Fr.rD (Fr.FrB a_0 a_1 a_2 a_3∧Fr.FrB e c l d) ((Fr.fq a_0 a_1 a_3) * (Fr.fq e c d))) fun l1 hl1 hl1n=>?_;refine nm (Fr.rT (Fr.FrB a_0 a_1 a_2 a_3∧Fr.FrB e c l d):Int) fun n2 hn2=>?_;refine nl (Fr.rE (Fr.FrB a_0 a_1 a_2 a_3∧Fr.FrB e c l d) ((Fr.fq a_0 a_1 a_3) * (Fr.fq e c d))) fun l2 hl2 hl2n=>?_;refine nm (if ¬ (Fr.FrB a_0 a_1 a_2 a_3∧Fr.FrB e c l d) then (1:Int) else 0:Int) fun n3 hn3=>?_;refine V.r [.ld 0 0 true (fun _=>Dat.cells (DFrac.mk ⟨a_0,a_1,a_1s⟩ ⟨a_2,a_3,a_3s⟩)),.ld 1 0 true (fun _=>Dat.cells (DFrac.mk ⟨e,c,m⟩ ⟨l,d,n⟩)),.ct g0 2 45 false [] [] [(kf false (.f 0) a_1 (fun _=>a_1s)).a,(kf false (.f 1) a_3 (fun _=>a_3s)).a,(kf false (.f 2) c (fun _=>m)).a,(kf false (.f 3) d (fun _=>n)).a] (fun _ G=>fmul_ctv a_0 a_1 a_1s a_2 a_3 a_3s e c m l d n (by omega) (by omega) (by omega) (by omega) n1 hn1 l1 hl1 n2 hn2 l2 hl2 n3 hn3),.v fun G=>.tuple #[ag (DFrac.mk ⟨n1,l1,(G 2).ss 0⟩ ⟨n2,l2,(G 2).ss 1⟩),iv n3],.v fun G=>ag (DFrac.mk ⟨n1,l1,(G 2).ss 0⟩ ⟨n2,l2,(G 2).ss 1⟩),.k (iv n3),.st 0 (fun G=>.blk ((G1 0).b) (ca (DFrac.mk ⟨n1,l1,(G 2).ss 0⟩ ⟨n2,l2,(G 2).ss 1⟩)) 29)] fun _ _ G5 kw6=>?_;intro S s
      obtain ⟨⟨kl7, -⟩,⟨kl8, -⟩, -⟩:Lq l1 (((G5 2).ss 0).v)∧Lq l2 (((G5 2).ss 1).v)∧True:=kq kw6;clear kw6;have hzn:=Fr.Fz.of ⟨hf3.rt,hFF⟩ hn1 hl1 hn2 hl2;rw [hf3.v] at hzn;refine V.g [.a (k0+1) (by omega) (by omega),.k (iv (k0+1))] fun _ _ G6=>?_;intro S s;refine V.rnd hZ1 (k0+1,n1,l1,(G5 2).ss 0,n2,l2,(G5 2).ss 1) [4,5,2,3] (by kernel_rfl) ?_ ?_
      · refine ⟨?_,?_,?_⟩
        · show 0≤(k0+1);omega
        · show (k0+1)≤max exp (-exp);omega
        show Fr.Fz n1 l1 n2 l2 (Un.tmN (Fr.fq j h i) (Fr.fq e c d) (0 < exp) (k0+1).toNat);rw [show (k0+1).toNat=k0.toNat+1 by omega,Un.tmN_y q3];exact hzn
      show (max exp (-exp)-(k0+1)).toNat < (max exp (-exp)-k0).toNat;omega
    refine nm (Fr.rS ((Fr.FrB a_0 a_1 a_2 a_3∧Fr.FrB e c l d)∧e≠0) ((Fr.fq a_0 a_1 a_3) / (Fr.fq e c d)):Int) fun n4 hn4=>?_;refine nl (Fr.rD ((Fr.FrB a_0 a_1 a_2 a_3∧Fr.FrB e c l d)∧e≠0) ((Fr.fq a_0 a_1 a_3) / (Fr.fq e c d))) fun l3 hl3 hl3n=>?_;refine nm (Fr.rT ((Fr.FrB a_0 a_1 a_2 a_3∧Fr.FrB e c l d)∧e≠0):Int) fun n5 hn5=>?_;refine nl (Fr.rE ((Fr.FrB a_0 a_1 a_2 a_3∧Fr.FrB e c l d)∧e≠0) ((Fr.fq a_0 a_1 a_3) / (Fr.fq e c d))) fun l4 hl4 hl4n=>?_;refine nm (if ¬ (Fr.FrB a_0 a_1 a_2 a_3∧Fr.FrB e c l d) then (1:Int) else if e=0 then 15 else 0:Int) fun n6 hn6=>?_;refine V.r [.ld 0 0 true (fun _=>Dat.cells (DFrac.mk ⟨a_0,a_1,a_1s⟩ ⟨a_2,a_3,a_3s⟩)),.ld 1 0 true (fun _=>Dat.cells (DFrac.mk ⟨e,c,m⟩ ⟨l,d,n⟩)),.ct g0 2 44 false [] [] [(kf false (.f 0) a_1 (fun _=>a_1s)).a,(kf false (.f 1) a_3 (fun _=>a_3s)).a,(kf false (.f 2) c (fun _=>m)).a,(kf false (.f 3) d (fun _=>n)).a] (fun _ G=>fdiv_ctv a_0 a_1 a_1s a_2 a_3 a_3s e c m l d n (by omega) (by omega) (by omega) (by omega) n4 hn4 l3 hl3 n5 hn5 l4 hl4 n6 hn6),.v fun G=>.tuple #[ag (DFrac.mk ⟨n4,l3,(G 2).ss 0⟩ ⟨n5,l4,(G 2).ss 1⟩),iv n6],.v fun G=>ag (DFrac.mk ⟨n4,l3,(G 2).ss 0⟩ ⟨n5,l4,(G 2).ss 1⟩),.k (iv n6),.st 0 (fun G=>.blk ((G1 0).b) (ca (DFrac.mk ⟨n4,l3,(G 2).ss 0⟩ ⟨n5,l4,(G 2).ss 1⟩)) 29)] fun _ _ G7 kw8=>?_;intro S s
    obtain ⟨⟨kl9, -⟩,⟨kl10, -⟩, -⟩:Lq l3 (((G7 2).ss 0).v)∧Lq l4 (((G7 2).ss 1).v)∧True:=kq kw8;clear kw8;have hzn:=Fr.Fz.of ⟨⟨hf3.rt,hFF⟩,hf0⟩ hn4 hl3 hn5 hl4;rw [hf3.v] at hzn;refine V.g [.a (k0+1) (by omega) (by omega),.k (iv (k0+1))] fun _ _ G8=>?_;intro S s;refine V.rnd hZ1 (k0+1,n4,l3,(G7 2).ss 0,n5,l4,(G7 2).ss 1) [4,5,2,3] (by kernel_rfl) ?_ ?_
    · refine ⟨?_,?_,?_⟩
      · show 0≤(k0+1);omega
      · show (k0+1)≤max exp (-exp);omega
      show Fr.Fz n4 l3 n5 l4 (Un.tmN (Fr.fq j h i) (Fr.fq e c d) (0 < exp) (k0+1).toNat);rw [show (k0+1).toNat=k0.toNat+1 by omega,Un.tmN_n q4];exact hzn
    show (max exp (-exp)-(k0+1)).toNat < (max exp (-exp)-k0).toNat;omega
  have htm:Un.tmN (Fr.fq j h i) (Fr.fq e c d) (0 < exp) k0.toNat=Un.tm (Fr.fq j h i) (Fr.fq e c d) exp:=by unfold Un.tm;rw [show exp.natAbs=k0.toNat by omega]
  refine V.g [.ld 0 0 true (fun _=>Dat.cells (DFrac.mk ⟨a_0,a_1,a_1s⟩ ⟨a_2,a_3,a_3s⟩)),.st 2 (fun _=>.blk ((G1 2).b) (ca (DFrac.mk ⟨a_0,a_1,a_1s⟩ ⟨a_2,a_3,a_3s⟩)) 29)] fun _ _ G9=>?_;intro S s
  have e1:a_1=Fr.rD (True) (Un.tm (Fr.fq j h i) (Fr.fq e c d) exp):=(Fr.Fz.ret hf3 True.intro htm).2.1;subst e1;have e3:a_3=Fr.rE (True) (Un.tm (Fr.fq j h i) (Fr.fq e c d) exp):=(Fr.Fz.ret hf3 True.intro htm).2.2.2;subst e3;have e0:a_0=Fr.rS (True) (Un.tm (Fr.fq j h i) (Fr.fq e c d) exp):=(Fr.Fz.ret hf3 True.intro htm).1;have e2:a_2=Fr.rT (True):=(Fr.Fz.ret hf3 True.intro htm).2.2.1;exact V.rt [2] [a_1s,a_3s] [fun _=>{},fun _=>{}] [] [0,1] [] (ag (DFrac.mk ⟨a_0,(Fr.rD (True) (Un.tm (Fr.fq j h i) (Fr.fq e c d) exp)),a_1s⟩ ⟨a_2,(Fr.rE (True) (Un.tm (Fr.fq j h i) (Fr.fq e c d) exp)),a_3s⟩)) (cong2 (fun (x0 x2:Int)=>(.agg #[iv x0,a_1s.v,iv x2,a_3s.v]:Value)) e0 e2)
theorem utimes_ctv (f:Int) (a:List Int) (h:SV) (i:Int) (b:List Int) (j:SV) (e:Int) (c:List Int) (k:SV) (l:Int) (d:List Int) (m:SV) (exp:Int) (hFA:Fr.FrB f a i b) (hFF:Fr.FrB e c l d) (hf0:e≠0) (he: -9≤exp∧exp≤9) (hla:a.length≤1000000∧b.length≤1000000) (hlf:c.length≤1000∧d.length≤1000) (rv0:Int) (erv0:rv0=Fr.rS (True) (Un.tm (Fr.fq f a b) (Fr.fq e c d) exp)) (rv1:List Int) (erv1:rv1=Fr.rD (True) (Un.tm (Fr.fq f a b) (Fr.fq e c d) exp)) (rv2:Int) (erv2:rv2=Fr.rT (True)) (rv3:List Int) (erv3:rv3=Fr.rE (True) (Un.tm (Fr.fq f a b) (Fr.fq e c d) exp)) :
    Ct Tryz.prog 62 #[ag (DFrac.mk ⟨f,a,h⟩ ⟨i,b,j⟩),ag (DFrac.mk ⟨e,c,k⟩ ⟨l,d,m⟩),iv exp] [fs true a h,fs true b j,fs true c k,fs true d m] [] (fun g=>ag (DFrac.mk ⟨rv0,rv1,(g.ss 0)⟩ ⟨rv2,rv3,(g.ss 1)⟩)) (fun g=>[fs false rv1 (g.ss 0),fs false rv3 (g.ss 1)]) (fun g=>[]) (fun g=>[]):=by
  subst erv0 erv1 erv2 erv3;exact utimes_ct f a h i b j e c k l d m exp hFA hFF hf0 he hla hlf
set_option maxRecDepth 10000 in
theorem hasp_ct (s prefix_:ByteArray) :
    Cp Tryz.prog 153 #[tv s,tv prefix_] [] (bv (decide (Dm.cpB s prefix_))):=by
  refine V.fn mo Tryz.func153 18 0 (by kernel_rfl) fun w H ε k0=>?_;clear k0
  refine V.g [.kb false] fun _ _ G1=>?_;intro S_ s_
  refine nm (s.extract (0:Int).toNat (prefix_.size:Int).toNat:ByteArray) fun t1 ht1=>?_;have ht1n:t1.size=min (prefix_.size:Int).toNat s.size-(0:Int).toNat:=by rw [ht1,ByteArray.size_extract]
  refine nm ((decide ((prefix_.size:Int)≤(s.size:Int))) && (decide (t1=prefix_)):Bool) fun p1 hp1=>?_;refine V.g [.k (tv s),.k (iv (s.size:Int)),.k (tv prefix_),.k (iv (prefix_.size:Int)),.k (bv (decide ((prefix_.size:Int)≤(s.size:Int)))),.k (bv (decide ((prefix_.size:Int)≤(s.size:Int)))),.k (tv s),.k (tv prefix_),.k (iv (prefix_.size:Int)),.ssl (gT (b:=decide ((prefix_.size:Int)≤(s.size:Int))) iDT) s none (some (prefix_.size:Int)) 0 (prefix_.size:Int) rfl rfl t1 ht1 (fun hg=>⟨by omega,by omega,by omega⟩),.k (tv prefix_),.seq t1 prefix_,.andn g0 false (decide ((prefix_.size:Int)≤(s.size:Int))) (decide (t1=prefix_)) p1 hp1,.k (bv p1)] fun _ _ G2=>?_;intro S_ s_
  have e0:p1=decide (Dm.cpB s prefix_):=by
    refine Bool.eq_iff_iff.2 (Iff.trans (iN hp1 (iAT iDT iDT)) (Iff.trans ?_ decide_eq_true_iff.symm));rw [ht1];exact Iff.rfl
  exact V.rt [0] [] [] [] [] [] (bv p1) (cong1 (fun (x0:Bool)=>(bv x0:Value)) e0)
set_option maxRecDepth 10000 in
theorem slcut_ct (s prefix_:ByteArray) :
    Cp Tryz.prog 137 #[tv s,tv prefix_] [] (.tuple #[tv (Dm.cpR s prefix_),bv (decide (Dm.cpB s prefix_))]):=by
  refine V.fn mo Tryz.func137 15 0 (by kernel_rfl) fun w H ε k0=>?_;clear k0
  refine V.g [.k (tv ByteArray.empty),.kb false] fun _ _ G1=>?_;intro S_ s_
  refine V.g [.k (tv s),.k (tv prefix_),.cp g0 2 153 [] (fun _ G=>hasp_ct s prefix_),.k (bv (!(decide (Dm.cpB s prefix_))))] fun _ _ G2=>?_;intro S_ s_
  refine V.cn (b:=!(decide (Dm.cpB s prefix_))) (iNT iDF) (iNF iDT) (fun q1=>?_) (fun q2=>?_)
  · refine V.g [.k (tv s),.k (tv s),.kb false] fun _ _ G3=>?_;intro S_ s_
    have e0:s=Dm.cpR s prefix_:=(if_neg q1).symm;have e1:false=decide (Dm.cpB s prefix_):=(decide_eq_false q1).symm;exact V.rt [0,0] [] [] [] [] [] (.tuple #[tv s,bv false]) (cong2 (fun (x0:ByteArray) (x1:Bool)=>(.tuple #[tv x0,bv x1]:Value)) e0 e1)
  have hB:Dm.cpB s prefix_:=by first | exact q2 | exact Decidable.not_not.1 q2
  have hB1:=hB.1;refine nm (s.extract (prefix_.size:Int).toNat (s.size:Int).toNat:ByteArray) fun t1 ht1=>?_;have ht1n:t1.size=min (s.size:Int).toNat s.size-(prefix_.size:Int).toNat:=by rw [ht1,ByteArray.size_extract]
  refine V.g [.k (tv s),.k (tv prefix_),.k (iv (prefix_.size:Int)),.ssl g0 s (some (prefix_.size:Int)) none (prefix_.size:Int) (s.size:Int) rfl rfl t1 ht1 (fun _=>⟨by omega,by omega,by omega⟩),.k (tv t1),.kb true] fun _ _ G4=>?_;intro S_ s_
  have e0:t1=Dm.cpR s prefix_:=by unfold Dm.cpR;rw [if_pos hB,ht1];rfl
  have e1:true=decide (Dm.cpB s prefix_):=(decide_eq_true hB).symm;exact V.rt [0,0] [] [] [] [] [] (.tuple #[tv t1,bv true]) (cong2 (fun (x0:ByteArray) (x1:Bool)=>(.tuple #[tv x0,bv x1]:Value)) e0 e1)
theorem slcut_ctv (s prefix_ rv0:ByteArray) (erv0:rv0=Dm.cpR s prefix_) :
    Cp Tryz.prog 137 #[tv s,tv prefix_] [] (.tuple #[tv rv0,bv (decide (Dm.cpB s prefix_))]):=by
  subst erv0;exact slcut_ct s prefix_ 
set_option maxRecDepth 10000 in
theorem cutp_ct (s prefix_:ByteArray) :
    Cp Tryz.prog 99 #[tv s,tv prefix_] [] (.tuple #[tv (Dm.cpR s prefix_),bv (decide (Dm.cpB s prefix_))]):=by
  refine V.fn mo Tryz.func99 11 0 (by kernel_rfl) fun w H ε k0=>?_;clear k0
  refine V.g [.k (tv ByteArray.empty),.kb false] fun _ _ G1=>?_;intro S_ s_
  refine nm (Dm.cpR s prefix_:ByteArray) fun t1 ht1=>?_;refine V.g [.k (tv s),.k (tv prefix_),.cp g0 2 137 [] (fun _ G=>slcut_ctv s prefix_ t1 ht1),.k (tv t1),.k (bv (decide (Dm.cpB s prefix_))),.k (tv t1),.k (bv (decide (Dm.cpB s prefix_)))] fun _ _ G2=>?_;intro S_ s_
  have e0:t1=Dm.cpR s prefix_:=ht1;exact V.rt [0,0] [] [] [] [] [] (.tuple #[tv t1,bv (decide (Dm.cpB s prefix_))]) (cong1 (fun (x0:ByteArray)=>(.tuple #[tv x0,bv (decide (Dm.cpB s prefix_))]:Value)) e0)
theorem cutp_ctv (s prefix_ rv0:ByteArray) (erv0:rv0=Dm.cpR s prefix_) :
    Cp Tryz.prog 99 #[tv s,tv prefix_] [] (.tuple #[tv rv0,bv (decide (Dm.cpB s prefix_))]):=by
  subst erv0;exact cutp_ct s prefix_ 
set_option maxRecDepth 10000 in
theorem uitems_ct (s:ByteArray) (hs:s.size≤1000000) :
    Ct Tryz.prog 60 #[tv s] [] [] (fun g=>.tuple #[((g.ss 0)).v,bv ((Un.items s).isSome)]) (fun g=>[fs true ((Un.items s).getD []) (g.ss 0)]) (fun g=>[]) (fun g=>[]):=by
  refine V.fn mo Tryz.func60 58 2 (by kernel_rfl) fun w H ε k0=>?_;clear k0
  refine V.g [.k (.slice none 0 0),.kb false] fun _ _ G1=>?_;intro S_ s_
  refine V.g [.k (.slice none 0 0)] fun _ _ G2=>?_;intro S_ s_
  refine V.g [.k (tv s),.seq s ByteArray.empty] fun _ _ G3=>?_;intro S_ s_
  refine V.cn (b:=decide (s=ByteArray.empty)) iDT iDF (fun q1=>?_) (fun q2=>?_)
  · refine V.g [.k (.slice none 0 0),.kb true] fun _ _ G4=>?_;intro S_ s_
    refine V.nilF (α:=Ditem) ?_;have e0:([]:List Ditem)=(Un.items s).getD []:=by rw [Un.items_nil q1];rfl
    rw [←e0];have e1:true=(Un.items s).isSome:=by rw [Un.items_nil q1];rfl
    exact V.rt [0,0] [{}] [fun _=>{}] [] [0] [] (.tuple #[SV.v ({}),bv true]) (cong1 (fun (x1:Bool)=>(.tuple #[SV.v ({}),bv x1]:Value)) e1)
  have hne:¬ s=ByteArray.empty:=q2;refine V.g [.k (tv s),.k (iv (s.size:Int)),.k (bv (decide (40 < (s.size:Int))))] fun _ _ G5=>?_;intro S_ s_
  refine V.cn (b:=decide (40 < (s.size:Int))) iDT iDF (fun q3=>?_) (fun q4=>?_)
  · refine V.g [.k (.slice none 0 0),.kb false] fun _ _ G6=>?_;intro S_ s_
    refine V.nilF (α:=Ditem) ?_;have e0:([]:List Ditem)=(Un.items s).getD []:=by rw [Un.items_far hne (by omega)];rfl
    rw [←e0];have e1:false=(Un.items s).isSome:=by rw [Un.items_far hne (by omega)];rfl
    exact V.rt [0,0] [{}] [fun _=>{}] [] [0] [] (.tuple #[SV.v ({}),bv false]) (cong1 (fun (x1:Bool)=>(.tuple #[SV.v ({}),bv x1]:Value)) e1)
  refine nm (Dm.cpR s ⟨#[49]⟩:ByteArray) fun t1 ht1=>?_;refine V.g [.k (tv s),.cp g0 1 99 [] (fun _ G=>cutp_ctv s ⟨#[49]⟩ t1 ht1),.k (.tuple #[tv t1,bv (decide (Dm.cpB s ⟨#[49]⟩))]),.k (tv t1),.k (bv (decide (Dm.cpB s ⟨#[49]⟩))),.k (tv t1),.k (bv (decide (Dm.cpB s ⟨#[49]⟩)))] fun _ _ G7=>?_;intro S_ s_
  refine V.g [.k (bv (decide (Dm.cpB s ⟨#[49]⟩))),.k (bv (!(decide (Dm.cpB s ⟨#[49]⟩))))] fun _ _ G8=>?_;intro S_ s_
  refine V.cn (b:=!(decide (Dm.cpB s ⟨#[49]⟩))) (iNT iDF) (iNF iDT) (fun q5=>?_) (fun q6=>?_)
  · have hz1:(⟨#[42]⟩:ByteArray).size=1:=rfl;refine nm ((⟨#[42]⟩:ByteArray) ++s:ByteArray) fun t2 ht2=>?_;have ht2n:t2.size=(⟨#[42]⟩:ByteArray).size+s.size:=by rw [ht2,ByteArray.size_append]
    refine V.g [.k (tv s),.sad g0 ⟨#[42]⟩ s t2 ht2 (fun _=>by omega),.k (tv t2)] fun _ _ G9=>?_;intro S_ s_
    refine V.on (α:=Ditem) 1 72 (by kernel_rfl) ?_;refine V.loop (γ:=List Ditem × SV × ByteArray) (fun ⟨out,outs,rest⟩=>⟨[(4,outs.v),(5,tv rest)],[],[.no,os true 72 out outs]⟩) (fun ⟨out,outs,rest⟩=>(Un.itA out rest=Un.items s)∧(rest.size+out.length≤41)) (fun ⟨out,outs,rest⟩=>rest.size) (([]:List Ditem),{},t2) (by kernel_rfl) [] (by kernel_rfl) ?_ ?_
    · refine ⟨?_,?_⟩
      · show Un.itA ([]:List Ditem) t2=Un.items s;exact ((Un.items_is hne (by omega)).trans (congrArg (Un.itA []) (by unfold Un.start;rw [ht2];first | exact if_neg q5 | exact if_pos q5))).symm
      show t2.size+([]:List Ditem).length≤41;show _+0≤41;first | (have:=Dm.cpR_size (s:=s) (p:=⟨#[49]⟩);rw [←ht2] at this;omega) | omega
    rintro ⟨out,outs,rest⟩ hF1 kw10 Z1 hZ1;have hF1:(Un.itA out rest=Un.items s)∧(rest.size+out.length≤41):=hF1;obtain ⟨hf1,hf2⟩:=hF1;obtain ⟨⟨kl1, -⟩, -⟩:Lq out outs.v∧True:=kq kw10;clear kw10;refine V.g [.k (tv rest),.sne rest ByteArray.empty] fun _ _ G10=>?_;intro S_ s_;refine V.cn (b:=!(decide (rest=ByteArray.empty))) (iNT iDF) (iNF iDT) (fun q7=>?_) (fun q8=>?_)
    · have hrn:¬ rest=ByteArray.empty:=q7;have hrz:=Dm.size_ne hrn;refine nm ((bl rest).getD (0:Int).toNat default:UInt8) fun c1 hc1=>?_;refine V.g [.k (tv rest),.sid g0 rest (0:Int) c1 hc1 (fun _=>⟨by omega,by omega⟩),.k (.int .u8 (c1.toNat:Int))] fun _ _ G11=>?_;intro S_ s_
      have hcd:(bl rest).getD 0 default=c1:=hc1.symm;refine nm (rest.extract (1:Int).toNat (rest.size:Int).toNat:ByteArray) fun t3 ht3=>?_;have ht3n:t3.size=min (rest.size:Int).toNat rest.size-(1:Int).toNat:=by rw [ht3,ByteArray.size_extract]
      refine nm (Un.cuW t3:ByteArray) fun t4 ht4=>?_;refine nm (Un.cuE t3:Int) fun n1 hn1=>?_;refine nm (Un.cuR t3:ByteArray) fun t5 ht5=>?_;refine V.g [.k (tv rest),.ssl g0 rest (some (1:Int)) none 1 (rest.size:Int) rfl rfl t3 ht3 (fun _=>⟨by omega,by omega,by omega⟩),.cp g0 2 100 [] (fun _ G=>ucut_ctv t3 (by omega) t4 ht4 n1 hn1 t5 ht5),.k (.tuple #[ag (Ditem.mk t4 n1),tv t5,bv (decide (0 < Un.nl t3))]),.k (ag (Ditem.mk t4 n1)),.k (tv t5),.k (bv (decide (0 < Un.nl t3))),.nb 7 0 (fun b=>pp b 0) 72 (fun _=>ca (Ditem.mk ByteArray.empty 0)),.st 0 (fun G=>.blk ((G 7).b) (ca (Ditem.mk t4 n1)) 72),.k (tv t5),.k (bv (decide (0 < Un.nl t3)))] fun _ _ G12=>?_;intro S_ s_
      have htd:rest.extract 1 rest.size=t3:=ht3.symm;have hgd:Un.good rest=(0 < Un.nl t3∧((c1.toNat:Int)=42∨(c1.toNat:Int)=47)):=by unfold Un.good;rw [htd,hcd]
      have hcz:=Un.cuR_size t3;have hcz0:=Un.cuR_size t3;have hce:=Un.cuE_rg t3;rw [←ht5] at hcz;rw [←hn1] at hce;refine nm ((!(decide ((c1.toNat:Int)=42))) && (!(decide ((c1.toNat:Int)=47))):Bool) fun p1 hp1=>?_;refine V.g [.k (bv (decide (0 < Un.nl t3))),.k (bv (!(decide (0 < Un.nl t3)))),.k (bv (!(decide (0 < Un.nl t3)))),.k (.int .u8 (c1.toNat:Int)),.k (bv (!(decide ((c1.toNat:Int)=42)))),.k (bv (!(decide ((c1.toNat:Int)=42)))),.k (.int .u8 (c1.toNat:Int)),.k (bv (!(decide ((c1.toNat:Int)=47)))),.andn (gF (b:=!(decide (0 < Un.nl t3))) (iNF iDT)) false (!(decide ((c1.toNat:Int)=42))) (!(decide ((c1.toNat:Int)=47))) p1 hp1,.or g0 false (!(decide (0 < Un.nl t3))) p1] fun _ _ G13=>?_;intro S_ s_
      refine V.cn (b:=(!(decide (0 < Un.nl t3))) || p1) (iOT (iNT iDF) (iN hp1 (iAT (iNT iDF) (iNT iDF)))) (iOF (iNF iDT) (iN hp1 (iAF (iNF iDT) (iNF iDT)))) (fun q9=>?_) (fun q10=>?_)
      · have hbad:Un.items s=none:=by rw [←hf1];exact Un.itA_bad hrn (by rw [hgd];rintro ⟨h1,h2⟩;have hqq:=q9;rcases hqq with h | ⟨h3,h4⟩;exact h h1;rcases h2 with h2 | h2;exact h3 h2;exact h4 h2)
        refine V.g [.k (.slice none 0 0),.kb false] fun _ _ G14=>?_;intro S_ s_
        refine V.nilF (α:=Ditem) ?_;have e0:([]:List Ditem)=(Un.items s).getD []:=by rw [hbad];rfl
        rw [←e0];have e1:false=(Un.items s).isSome:=by rw [hbad];rfl
        exact V.rt [0,0] [{}] [fun _=>{}] [] [0] [] (.tuple #[SV.v ({}),bv false]) (cong1 (fun (x1:Bool)=>(.tuple #[SV.v ({}),bv x1]:Value)) e1)
      have hgg:Un.good rest:=by rw [hgd];exact q10
      have hgp:=(q10).1;refine V.g [.k (.int .u8 (c1.toNat:Int)),.k (bv (decide ((c1.toNat:Int)=47)))] fun _ _ G15=>?_;intro S_ s_
      refine V.cn (b:=decide ((c1.toNat:Int)=47)) iDT iDF (fun q11=>?_) (fun q12=>?_)
      · have hx:Ditem.mk t4 (-n1)=Un.itm ((bl rest).getD 0 default) t3:=by rw [hcd];unfold Un.itm;rw [if_pos q11,ht4,hn1]
        refine V.g [.k (pp ((G12 7).b) 1),.ld 0 1 false (fun _=>[iv n1]),.ng n1 (-n1) rfl (by omega) (by omega),.k (pp ((G12 7).b) 1),.st 0 (fun _=>.blk ((G12 7).b) (ca (Ditem.mk t4 (-n1))) 72)] fun _ _ G16=>?_;intro S_ s_
        refine nm (out ++([Ditem.mk t4 (-n1)]:List Ditem):List Ditem) fun l1 hl1=>?_;have hl1n:=congrArg List.length hl1;try simp only [List.length_append,List.length_cons,List.length_nil,List.length_replicate,List.length_set,List.length_take,List.length_drop,List.length_map,List.length_reverse,List.length_range] at hl1n
        refine V.r [.k (outs.v),.ld 0 0 true (fun _=>Dat.cells (Ditem.mk t4 (-n1))),.nr 2 true 72 ([Ditem.mk t4 (-n1)]:List Ditem) [] (fun _ _ _ _ _=>trivial) (fun _=>#[tv t4,iv (-n1)]),.ap 3 1 72 24 false true out (fun _=>outs) (kf true (.g 2 0) ([Ditem.mk t4 (-n1)]:List Ditem) (fun G=>⟨atB (G 2).b,1,1⟩)) true l1 hl1 (by (try simp only [List.length_append,List.length_cons,List.length_nil,List.length_replicate,List.length_set,List.length_take,List.length_drop,List.length_map,List.length_reverse,List.length_range]);omega) (fun h=>by cases h) (.inr fun _ _=>trivial),.k (tv t5),.v fun G=>((G 3).s).v,.k (tv t5)] fun _ _ G17 kw18=>?_;intro S_ s_
        obtain ⟨⟨kl2, -⟩, -⟩:Lq ([Ditem.mk t4 (-n1)]:List Ditem) (SV.v ⟨atB (G17 2).b,1,1⟩)∧Lq l1 (((G17 3).s).v)∧True:=kq kw18;clear kw18;refine V.rnd hZ1 (l1,(G17 3).s,t5) [] (by kernel_rfl) ?_ ?_
        · refine ⟨?_,?_⟩
          · show Un.itA l1 t5=Un.items s;rw [hl1,ht5];exact (Un.itA_step hrn hgg ht3 hx).trans hf1
          show t5.size+l1.length≤41;omega
        show t5.size < rest.size;rw [ht5];omega
      have hx:Ditem.mk t4 (n1)=Un.itm ((bl rest).getD 0 default) t3:=by rw [hcd];unfold Un.itm;rw [if_neg q12,ht4,hn1]
      refine nm (out ++([Ditem.mk t4 n1]:List Ditem):List Ditem) fun l2 hl2=>?_;have hl2n:=congrArg List.length hl2;try simp only [List.length_append,List.length_cons,List.length_nil,List.length_replicate,List.length_set,List.length_take,List.length_drop,List.length_map,List.length_reverse,List.length_range] at hl2n
      refine V.r [.k (outs.v),.ld 0 0 true (fun _=>Dat.cells (Ditem.mk t4 n1)),.nr 2 true 72 ([Ditem.mk t4 n1]:List Ditem) [] (fun _ _ _ _ _=>trivial) (fun _=>#[tv t4,iv n1]),.ap 3 1 72 24 false true out (fun _=>outs) (kf true (.g 2 0) ([Ditem.mk t4 n1]:List Ditem) (fun G=>⟨atB (G 2).b,1,1⟩)) true l2 hl2 (by (try simp only [List.length_append,List.length_cons,List.length_nil,List.length_replicate,List.length_set,List.length_take,List.length_drop,List.length_map,List.length_reverse,List.length_range]);omega) (fun h=>by cases h) (.inr fun _ _=>trivial),.k (tv t5),.v fun G=>((G 3).s).v,.k (tv t5)] fun _ _ G18 kw19=>?_;intro S_ s_
      obtain ⟨⟨kl3, -⟩, -⟩:Lq ([Ditem.mk t4 n1]:List Ditem) (SV.v ⟨atB (G18 2).b,1,1⟩)∧Lq l2 (((G18 3).s).v)∧True:=kq kw19;clear kw19;refine V.rnd hZ1 (l2,(G18 3).s,t5) [] (by kernel_rfl) ?_ ?_
      · refine ⟨?_,?_⟩
        · show Un.itA l2 t5=Un.items s;rw [hl2,ht5];exact (Un.itA_step hrn hgg ht3 hx).trans hf1
        show t5.size+l2.length≤41;omega
      show t5.size < rest.size;rw [ht5];omega
    have hfin:=hf1.symm.trans (Un.itA_end q8);refine V.g [.k (outs.v),.k (outs.v),.kb true] fun _ _ G19=>?_;intro S_ s_
    refine V.frz 1 true 72 out outs (by kernel_rfl) ?_;have e0:out=(Un.items s).getD []:=by rw [hfin];rfl
    subst e0;have e1:true=(Un.items s).isSome:=by rw [hfin];rfl
    exact V.rt [0,0] [outs] [fun _=>{}] [] [0] [] (.tuple #[outs.v,bv true]) (cong1 (fun (x1:Bool)=>(.tuple #[outs.v,bv x1]:Value)) e1)
  refine V.on (α:=Ditem) 1 72 (by kernel_rfl) ?_;refine V.loop (γ:=List Ditem × SV × ByteArray) (fun ⟨out_1,out_1s,rest_1⟩=>⟨[(4,out_1s.v),(5,tv rest_1)],[],[.no,os true 72 out_1 out_1s]⟩) (fun ⟨out_1,out_1s,rest_1⟩=>(Un.itA out_1 rest_1=Un.items s)∧(rest_1.size+out_1.length≤41)) (fun ⟨out_1,out_1s,rest_1⟩=>rest_1.size) (([]:List Ditem),{},t1) (by kernel_rfl) [] (by kernel_rfl) ?_ ?_
  · refine ⟨?_,?_⟩
    · show Un.itA ([]:List Ditem) t1=Un.items s;exact ((Un.items_is hne (by omega)).trans (congrArg (Un.itA []) (by unfold Un.start;rw [ht1];first | exact if_neg q6 | exact if_pos q6))).symm
    show t1.size+([]:List Ditem).length≤41;show _+0≤41;first | (have:=Dm.cpR_size (s:=s) (p:=⟨#[49]⟩);rw [←ht1] at this;omega) | omega
  rintro ⟨out_1,out_1s,rest_1⟩ hF2 kw21 Z2 hZ2;have hF2:(Un.itA out_1 rest_1=Un.items s)∧(rest_1.size+out_1.length≤41):=hF2;obtain ⟨hf3,hf4⟩:=hF2;obtain ⟨⟨kl4, -⟩, -⟩:Lq out_1 out_1s.v∧True:=kq kw21;clear kw21;refine V.g [.k (tv rest_1),.sne rest_1 ByteArray.empty] fun _ _ G20=>?_;intro S_ s_;refine V.cn (b:=!(decide (rest_1=ByteArray.empty))) (iNT iDF) (iNF iDT) (fun q13=>?_) (fun q14=>?_)
  · have hrn:¬ rest_1=ByteArray.empty:=q13;have hrz:=Dm.size_ne hrn;refine nm ((bl rest_1).getD (0:Int).toNat default:UInt8) fun c2 hc2=>?_;refine V.g [.k (tv rest_1),.sid g0 rest_1 (0:Int) c2 hc2 (fun _=>⟨by omega,by omega⟩),.k (.int .u8 (c2.toNat:Int))] fun _ _ G21=>?_;intro S_ s_
    have hcd:(bl rest_1).getD 0 default=c2:=hc2.symm;refine nm (rest_1.extract (1:Int).toNat (rest_1.size:Int).toNat:ByteArray) fun t6 ht6=>?_;have ht6n:t6.size=min (rest_1.size:Int).toNat rest_1.size-(1:Int).toNat:=by rw [ht6,ByteArray.size_extract]
    refine nm (Un.cuW t6:ByteArray) fun t7 ht7=>?_;refine nm (Un.cuE t6:Int) fun n2 hn2=>?_;refine nm (Un.cuR t6:ByteArray) fun t8 ht8=>?_;refine V.g [.k (tv rest_1),.ssl g0 rest_1 (some (1:Int)) none 1 (rest_1.size:Int) rfl rfl t6 ht6 (fun _=>⟨by omega,by omega,by omega⟩),.cp g0 2 100 [] (fun _ G=>ucut_ctv t6 (by omega) t7 ht7 n2 hn2 t8 ht8),.k (.tuple #[ag (Ditem.mk t7 n2),tv t8,bv (decide (0 < Un.nl t6))]),.k (ag (Ditem.mk t7 n2)),.k (tv t8),.k (bv (decide (0 < Un.nl t6))),.nb 7 0 (fun b=>pp b 0) 72 (fun _=>ca (Ditem.mk ByteArray.empty 0)),.st 0 (fun G=>.blk ((G 7).b) (ca (Ditem.mk t7 n2)) 72),.k (tv t8),.k (bv (decide (0 < Un.nl t6)))] fun _ _ G22=>?_;intro S_ s_
    have htd:rest_1.extract 1 rest_1.size=t6:=ht6.symm;have hgd:Un.good rest_1=(0 < Un.nl t6∧((c2.toNat:Int)=42∨(c2.toNat:Int)=47)):=by unfold Un.good;rw [htd,hcd]
    have hcz:=Un.cuR_size t6;have hcz0:=Un.cuR_size t6;have hce:=Un.cuE_rg t6;rw [←ht8] at hcz;rw [←hn2] at hce;refine nm ((!(decide ((c2.toNat:Int)=42))) && (!(decide ((c2.toNat:Int)=47))):Bool) fun p2 hp2=>?_;refine V.g [.k (bv (decide (0 < Un.nl t6))),.k (bv (!(decide (0 < Un.nl t6)))),.k (bv (!(decide (0 < Un.nl t6)))),.k (.int .u8 (c2.toNat:Int)),.k (bv (!(decide ((c2.toNat:Int)=42)))),.k (bv (!(decide ((c2.toNat:Int)=42)))),.k (.int .u8 (c2.toNat:Int)),.k (bv (!(decide ((c2.toNat:Int)=47)))),.andn (gF (b:=!(decide (0 < Un.nl t6))) (iNF iDT)) false (!(decide ((c2.toNat:Int)=42))) (!(decide ((c2.toNat:Int)=47))) p2 hp2,.or g0 false (!(decide (0 < Un.nl t6))) p2] fun _ _ G23=>?_;intro S_ s_
    refine V.cn (b:=(!(decide (0 < Un.nl t6))) || p2) (iOT (iNT iDF) (iN hp2 (iAT (iNT iDF) (iNT iDF)))) (iOF (iNF iDT) (iN hp2 (iAF (iNF iDT) (iNF iDT)))) (fun q15=>?_) (fun q16=>?_)
    · have hbad:Un.items s=none:=by rw [←hf3];exact Un.itA_bad hrn (by rw [hgd];rintro ⟨h1,h2⟩;have hqq:=q15;rcases hqq with h | ⟨h3,h4⟩;exact h h1;rcases h2 with h2 | h2;exact h3 h2;exact h4 h2)
      refine V.g [.k (.slice none 0 0),.kb false] fun _ _ G24=>?_;intro S_ s_
      refine V.nilF (α:=Ditem) ?_;have e0:([]:List Ditem)=(Un.items s).getD []:=by rw [hbad];rfl
      rw [←e0];have e1:false=(Un.items s).isSome:=by rw [hbad];rfl
      exact V.rt [0,0] [{}] [fun _=>{}] [] [0] [] (.tuple #[SV.v ({}),bv false]) (cong1 (fun (x1:Bool)=>(.tuple #[SV.v ({}),bv x1]:Value)) e1)
    have hgg:Un.good rest_1:=by rw [hgd];exact q16
    have hgp:=(q16).1;refine V.g [.k (.int .u8 (c2.toNat:Int)),.k (bv (decide ((c2.toNat:Int)=47)))] fun _ _ G25=>?_;intro S_ s_
    refine V.cn (b:=decide ((c2.toNat:Int)=47)) iDT iDF (fun q17=>?_) (fun q18=>?_)
    · have hx:Ditem.mk t7 (-n2)=Un.itm ((bl rest_1).getD 0 default) t6:=by rw [hcd];unfold Un.itm;rw [if_pos q17,ht7,hn2]
      refine V.g [.k (pp ((G22 7).b) 1),.ld 0 1 false (fun _=>[iv n2]),.ng n2 (-n2) rfl (by omega) (by omega),.k (pp ((G22 7).b) 1),.st 0 (fun _=>.blk ((G22 7).b) (ca (Ditem.mk t7 (-n2))) 72)] fun _ _ G26=>?_;intro S_ s_
      refine nm (out_1 ++([Ditem.mk t7 (-n2)]:List Ditem):List Ditem) fun l3 hl3=>?_;have hl3n:=congrArg List.length hl3;try simp only [List.length_append,List.length_cons,List.length_nil,List.length_replicate,List.length_set,List.length_take,List.length_drop,List.length_map,List.length_reverse,List.length_range] at hl3n
      refine V.r [.k (out_1s.v),.ld 0 0 true (fun _=>Dat.cells (Ditem.mk t7 (-n2))),.nr 2 true 72 ([Ditem.mk t7 (-n2)]:List Ditem) [] (fun _ _ _ _ _=>trivial) (fun _=>#[tv t7,iv (-n2)]),.ap 3 1 72 24 false true out_1 (fun _=>out_1s) (kf true (.g 2 0) ([Ditem.mk t7 (-n2)]:List Ditem) (fun G=>⟨atB (G 2).b,1,1⟩)) true l3 hl3 (by (try simp only [List.length_append,List.length_cons,List.length_nil,List.length_replicate,List.length_set,List.length_take,List.length_drop,List.length_map,List.length_reverse,List.length_range]);omega) (fun h=>by cases h) (.inr fun _ _=>trivial),.k (tv t8),.v fun G=>((G 3).s).v,.k (tv t8)] fun _ _ G27 kw29=>?_;intro S_ s_
      obtain ⟨⟨kl5, -⟩, -⟩:Lq ([Ditem.mk t7 (-n2)]:List Ditem) (SV.v ⟨atB (G27 2).b,1,1⟩)∧Lq l3 (((G27 3).s).v)∧True:=kq kw29;clear kw29;refine V.rnd hZ2 (l3,(G27 3).s,t8) [] (by kernel_rfl) ?_ ?_
      · refine ⟨?_,?_⟩
        · show Un.itA l3 t8=Un.items s;rw [hl3,ht8];exact (Un.itA_step hrn hgg ht6 hx).trans hf3
        show t8.size+l3.length≤41;omega
      show t8.size < rest_1.size;rw [ht8];omega
    have hx:Ditem.mk t7 (n2)=Un.itm ((bl rest_1).getD 0 default) t6:=by rw [hcd];unfold Un.itm;rw [if_neg q18,ht7,hn2]
    refine nm (out_1 ++([Ditem.mk t7 n2]:List Ditem):List Ditem) fun l4 hl4=>?_;have hl4n:=congrArg List.length hl4;try simp only [List.length_append,List.length_cons,List.length_nil,List.length_replicate,List.length_set,List.length_take,List.length_drop,List.length_map,List.length_reverse,List.length_range] at hl4n
    refine V.r [.k (out_1s.v),.ld 0 0 true (fun _=>Dat.cells (Ditem.mk t7 n2)),.nr 2 true 72 ([Ditem.mk t7 n2]:List Ditem) [] (fun _ _ _ _ _=>trivial) (fun _=>#[tv t7,iv n2]),.ap 3 1 72 24 false true out_1 (fun _=>out_1s) (kf true (.g 2 0) ([Ditem.mk t7 n2]:List Ditem) (fun G=>⟨atB (G 2).b,1,1⟩)) true l4 hl4 (by (try simp only [List.length_append,List.length_cons,List.length_nil,List.length_replicate,List.length_set,List.length_take,List.length_drop,List.length_map,List.length_reverse,List.length_range]);omega) (fun h=>by cases h) (.inr fun _ _=>trivial),.k (tv t8),.v fun G=>((G 3).s).v,.k (tv t8)] fun _ _ G28 kw30=>?_;intro S_ s_
    obtain ⟨⟨kl6, -⟩, -⟩:Lq ([Ditem.mk t7 n2]:List Ditem) (SV.v ⟨atB (G28 2).b,1,1⟩)∧Lq l4 (((G28 3).s).v)∧True:=kq kw30;clear kw30;refine V.rnd hZ2 (l4,(G28 3).s,t8) [] (by kernel_rfl) ?_ ?_
    · refine ⟨?_,?_⟩
      · show Un.itA l4 t8=Un.items s;rw [hl4,ht8];exact (Un.itA_step hrn hgg ht6 hx).trans hf3
      show t8.size+l4.length≤41;omega
    show t8.size < rest_1.size;rw [ht8];omega
  have hfin:=hf3.symm.trans (Un.itA_end q14);refine V.g [.k (out_1s.v),.k (out_1s.v),.kb true] fun _ _ G29=>?_;intro S_ s_
  refine V.frz 1 true 72 out_1 out_1s (by kernel_rfl) ?_;have e0:out_1=(Un.items s).getD []:=by rw [hfin];rfl
  subst e0;have e1:true=(Un.items s).isSome:=by rw [hfin];rfl
  exact V.rt [0,0] [out_1s] [fun _=>{}] [] [0] [] (.tuple #[out_1s.v,bv true]) (cong1 (fun (x1:Bool)=>(.tuple #[out_1s.v,bv x1]:Value)) e1)
theorem uitems_ctv (s:ByteArray) (hs:s.size≤1000000) (rv0:List Ditem) (erv0:rv0=(Un.items s).getD []) :
    Ct Tryz.prog 60 #[tv s] [] [] (fun g=>.tuple #[((g.ss 0)).v,bv ((Un.items s).isSome)]) (fun g=>[fs true rv0 (g.ss 0)]) (fun g=>[]) (fun g=>[]):=by
  subst erv0;exact uitems_ct s hs

open Go Go.Proofs
set_option maxRecDepth 10000 in
set_option maxHeartbeats 4000000 in
theorem uread_ct (s:ByteArray) (hs:s.size≤1000000) :
    Ct Tryz.prog 19 #[tv s] [] [] (fun g=>.tuple #[.agg #[iv (Un.dv ((Un.read s).1) 0),iv (Un.dv ((Un.read s).1) 1),iv (Un.dv ((Un.read s).1) 2),iv (Un.dv ((Un.read s).1) 3),iv (Un.dv ((Un.read s).1) 4),iv (Un.dv ((Un.read s).1) 5),iv (Fr.rS (((Un.read s).1).isSome=true) (Un.fv ((Un.read s).1))),((g.ss 0)).v,iv (Fr.rT (((Un.read s).1).isSome=true)),((g.ss 1)).v],iv ((Un.read s).2)]) (fun g=>[fs true (Fr.rD (((Un.read s).1).isSome=true) (Un.fv ((Un.read s).1))) (g.ss 0),fs true (Fr.rE (((Un.read s).1).isSome=true) (Un.fv ((Un.read s).1))) (g.ss 1)]) (fun g=>[]) (fun g=>[]):=by
  refine V.fn mo Tryz.func19 71 4 (by kernel_rfl) fun w H ε k0=>?_;clear k0
  refine V.g [.nb 0 0 (fun b=>pp b 0) 42 (fun _=>#[iv 0,iv 0,iv 0,iv 0,iv 0,iv 0,iv 0,.slice none 0 0,iv 0,.slice none 0 0]),.k (iv 0)] fun _ _ G1=>?_;intro S_ s_
  refine nm ((Un.items s).getD []:List Ditem) fun l1 hl1=>?_;have hl1n:=congrArg List.length hl1
  refine V.r [.k (tv s),.ct g0 1 60 false [] [] [] (fun _ G=>uitems_ctv s (by omega) l1 hl1),.v fun G=>.tuple #[((G 1).ss 0).v,bv ((Un.items s).isSome)],.v fun G=>((G 1).ss 0).v,.k (bv ((Un.items s).isSome)),.v fun G=>((G 1).ss 0).v,.k (bv ((Un.items s).isSome))] fun _ _ G2 kw2=>?_;intro S_ s_
  obtain ⟨⟨kl1, -⟩, -⟩:Lq l1 (((G2 1).ss 0).v)∧True:=kq kw2;clear kw2;refine V.g [.k (bv ((Un.items s).isSome)),.k (bv (!((Un.items s).isSome)))] fun _ _ G3=>?_;intro S_ s_;refine V.cn (b:=!((Un.items s).isSome)) (iNT Iff.rfl) (iNF Iff.rfl) (fun q1=>?_) (fun q2=>?_)
  · have hrd:=Un.read_syn (s:=s) (by have hqq:=q1;simpa using hqq);refine V.g [.k (.agg #[iv 0,iv 0,iv 0,iv 0,iv 0,iv 0,iv 0,.slice none 0 0,iv 0,.slice none 0 0]),.st 0 (fun _=>.blk ((G1 0).b) #[iv 0,iv 0,iv 0,iv 0,iv 0,iv 0,iv 0,.slice none 0 0,iv 0,.slice none 0 0] 42),.k (iv 12)] fun _ _ G4=>?_;intro S_ s_
    refine V.nilF (α:=Int) ?_;refine V.nilF (α:=Int) ?_;have e7:([]:List Int)=Fr.rD (((Un.read s).1).isSome=true) (Un.fv ((Un.read s).1)):=(Fr.Fz.no (Un.is_n (by rw [hrd])) (Un.fv (Un.read s).1)).2.1;rw [←e7];have e9:([]:List Int)=Fr.rE (((Un.read s).1).isSome=true) (Un.fv ((Un.read s).1)):=(Fr.Fz.no (Un.is_n (by rw [hrd])) (Un.fv (Un.read s).1)).2.2.2;rw [←e9];have e0:(0:Int)=Un.dv ((Un.read s).1) 0:=(Un.dv_n (by rw [hrd]) 0).symm;have e1:(0:Int)=Un.dv ((Un.read s).1) 1:=(Un.dv_n (by rw [hrd]) 1).symm;have e2:(0:Int)=Un.dv ((Un.read s).1) 2:=(Un.dv_n (by rw [hrd]) 2).symm;have e3:(0:Int)=Un.dv ((Un.read s).1) 3:=(Un.dv_n (by rw [hrd]) 3).symm;have e4:(0:Int)=Un.dv ((Un.read s).1) 4:=(Un.dv_n (by rw [hrd]) 4).symm;have e5:(0:Int)=Un.dv ((Un.read s).1) 5:=(Un.dv_n (by rw [hrd]) 5).symm;have e6:(0:Int)=Fr.rS (((Un.read s).1).isSome=true) (Un.fv ((Un.read s).1)):=(Fr.Fz.no (Un.is_n (by rw [hrd])) (Un.fv (Un.read s).1)).1;have e8:(0:Int)=Fr.rT (((Un.read s).1).isSome=true):=(Fr.Fz.no (Un.is_n (by rw [hrd])) (Un.fv (Un.read s).1)).2.2.1;have e10:(12:Int)=(Un.read s).2:=by rw [hrd]
    exact V.rt [0,0] [{},{}] [fun _=>{},fun _=>{}] [] [1,2] [] (.tuple #[.agg #[iv 0,iv 0,iv 0,iv 0,iv 0,iv 0,iv 0,SV.v ({}),iv 0,SV.v ({})],iv 12]) (cong9 (fun (x0 x1 x2 x3 x4 x5 x6 x8 x10:Int)=>(.tuple #[.agg #[iv x0,iv x1,iv x2,iv x3,iv x4,iv x5,iv x6,SV.v ({}),iv x8,SV.v ({})],iv x10]:Value)) e0 e1 e2 e3 e4 e5 e6 e8 e10)
  have hsm:(Un.items s).isSome=true:=by have hqq:=q2;first | exact hqq | simpa using hqq
  have hie:Un.items s=some l1:=by rw [hl1];exact Un.its hsm
  have hio:=Un.items_ok hie;have hil:=hio.1;refine nm (Bg.sgn (1:Int):Int) fun n1 hn1=>?_;refine nl (Bg.dig (1:Int).natAbs) fun l2 hl2 hl2n=>?_;refine nl (Bg.dig 1) fun l3 hl3 hl3n=>?_;refine V.r [.ct g0 0 43 false [] [] [] (fun _ G=>fint_ctv (1:Int) (by omega) n1 hn1 l2 hl2 l3 hl3),.v fun G=>.agg #[iv 0,iv 0,iv 0,iv 0,iv 0,iv 0,iv n1,((G 0).ss 0).v,iv 1,((G 0).ss 1).v],.nb 2 1 (fun b=>pp b 0) 42 (fun _=>#[iv 0,iv 0,iv 0,iv 0,iv 0,iv 0,iv 0,.slice none 0 0,iv 0,.slice none 0 0]),.st 1 (fun G=>.blk ((G 2).b) #[iv 0,iv 0,iv 0,iv 0,iv 0,iv 0,iv n1,((G 0).ss 0).v,iv 1,((G 0).ss 1).v] 42)] fun _ _ G5 kw5=>?_;intro S_ s_
  obtain ⟨⟨kl2, -⟩,⟨kl3, -⟩, -⟩:Lq l2 (((G5 0).ss 0).v)∧Lq l3 (((G5 0).ss 1).v)∧True:=kq kw5;clear kw5;refine V.g [.k (((G2 1).ss 0).v),.ln (kf true (.f 0) l1 (fun _=>(G2 1).ss 0)),.k (iv 0)] fun _ _ G6=>?_;intro S_ s_;refine V.loop (γ:=Int × Int × Int × Int × Int × Int × Int × Int × List Int × SV × Int × List Int × SV) (fun ⟨k0,out_0,out_1,out_2,out_3,out_4,out_5,out_6,out_7,out_7s,out_8,out_9,out_9s⟩=>⟨[(2,pp ((G1 0).b) 0),(6,pp ((G5 2).b) 0),(23,((G2 1).ss 0).v),(24,iv (l1.length:Int)),(25,iv k0)],[fs true l1 ((G2 1).ss 0),fs true out_7 out_7s,fs true out_9 out_9s],[.blk ((G1 0).b) #[iv 0,iv 0,iv 0,iv 0,iv 0,iv 0,iv 0,.slice none 0 0,iv 0,.slice none 0 0] 42,.blk ((G5 2).b) #[iv out_0,iv out_1,iv out_2,iv out_3,iv out_4,iv out_5,iv out_6,out_7s.v,iv out_8,out_9s.v] 42,.no,.no]⟩) (fun ⟨k0,out_0,out_1,out_2,out_3,out_4,out_5,out_6,out_7,out_7s,out_8,out_9,out_9s⟩=>(0≤k0)∧(k0≤(l1.length:Int))∧(Un.acc (l1.drop k0.toNat) ([out_0,out_1,out_2,out_3,out_4,out_5],(Fr.fq out_6 out_7 out_9))=Un.acc l1 ([0,0,0,0,0,0],1))∧(Fr.FrB out_6 out_7 out_8 out_9)∧(Un.R27 k0 out_0)∧(Un.R27 k0 out_1)∧(Un.R27 k0 out_2)∧(Un.R27 k0 out_3)∧(Un.R27 k0 out_4)∧(Un.R27 k0 out_5)∧(out_7.length≤1+36 * k0.toNat∧out_9.length≤1+36 * k0.toNat)) (fun ⟨k0,out_0,out_1,out_2,out_3,out_4,out_5,out_6,out_7,out_7s,out_8,out_9,out_9s⟩=>((l1.length:Int)-k0).toNat) (0,0,0,0,0,0,0,n1,l2,(G5 0).ss 0,1,l3,(G5 0).ss 1) (by kernel_rfl) [0,1,2] (by kernel_rfl) ?_ ?_
  · refine ⟨?_,?_,?_,?_,?_,?_,?_,?_,?_,?_,?_⟩
    · show 0≤(0:Int)
      first | omega | rfl | (simp;done) | (subst_vars;simp;done)
    · show (0:Int)≤(l1.length:Int)
      first | omega | rfl | (simp;done) | (subst_vars;simp;done)
    · show Un.acc (l1.drop (0:Int).toNat) ([(0:Int),(0:Int),(0:Int),(0:Int),(0:Int),(0:Int)],(Fr.fq n1 l2 l3))=Un.acc l1 ([0,0,0,0,0,0],1);rw [hn1,hl2,hl3];show Un.acc l1 ([0,0,0,0,0,0],Fr.fq (Bg.sgn (1:Rat).num) (Bg.dig (1:Rat).num.natAbs) (Bg.dig (1:Rat).den))=_;rw [Fr.fq_of]
    · show Fr.FrB n1 l2 (1:Int) l3;rw [hn1,hl2,hl3];exact Fr.FrB.of 1
    · show Un.R27 (0:Int) (0:Int);exact Un.R27.zero
    · show Un.R27 (0:Int) (0:Int);exact Un.R27.zero
    · show Un.R27 (0:Int) (0:Int);exact Un.R27.zero
    · show Un.R27 (0:Int) (0:Int);exact Un.R27.zero
    · show Un.R27 (0:Int) (0:Int);exact Un.R27.zero
    · show Un.R27 (0:Int) (0:Int);exact Un.R27.zero
    show l2.length≤1+36 * (0:Int).toNat∧l3.length≤1+36 * (0:Int).toNat
    subst_vars;exact ⟨Bg.dig_lt (k:=1) (by decide),Bg.dig_lt (k:=1) (by decide)⟩
  rintro ⟨k0,out_0,out_1,out_2,out_3,out_4,out_5,out_6,out_7,out_7s,out_8,out_9,out_9s⟩ hF1 kw7 Z1 hZ1;have hF1:(0≤k0)∧(k0≤(l1.length:Int))∧(Un.acc (l1.drop k0.toNat) ([out_0,out_1,out_2,out_3,out_4,out_5],(Fr.fq out_6 out_7 out_9))=Un.acc l1 ([0,0,0,0,0,0],1))∧(Fr.FrB out_6 out_7 out_8 out_9)∧(Un.R27 k0 out_0)∧(Un.R27 k0 out_1)∧(Un.R27 k0 out_2)∧(Un.R27 k0 out_3)∧(Un.R27 k0 out_4)∧(Un.R27 k0 out_5)∧(out_7.length≤1+36 * k0.toNat∧out_9.length≤1+36 * k0.toNat):=hF1;obtain ⟨hf1,hf2,hf3,hf4,hf5,hf6,hf7,hf8,hf9,hf10,hf11⟩:=hF1;obtain ⟨-,⟨kl4, -⟩,⟨kl5, -⟩, -⟩:Lq l1 (((G2 1).ss 0).v)∧Lq out_7 out_7s.v∧Lq out_9 out_9s.v∧True:=kq kw7;clear kw7;refine V.g [.k (bv (decide (k0 < (l1.length:Int))))] fun _ _ G7=>?_;intro S_ s_;refine V.cn (b:=decide (k0 < (l1.length:Int))) iDT iDF (fun q3=>?_) (fun q4=>?_)
  · refine nm (l1.getD k0.toNat default:Ditem) fun x1 hx1=>?_;refine V.g [.ix g0 (kf true (.f 0) l1 (fun _=>(G2 1).ss 0)) k0 (fun _=>⟨by omega,by omega⟩),.le g0 (kf true (.f 0) l1 (fun _=>(G2 1).ss 0)) k0 none false x1 hx1 (fun _=>⟨by omega,by omega⟩) true (fun _=>Dat.cells x1),.nb 2 2 (fun b=>pp b 0) 72 (fun _=>ca (Ditem.mk ByteArray.empty 0)),.st 2 (fun G=>.blk ((G 2).b) (ca x1) 72)] fun _ _ G8=>?_;intro S_ s_
    have hxm:=getD_mem (l:=l1) (k:=k0.toNat) (by omega) hx1;have hxo:=hio.2 _ hxm;have hxo1:=hxo.1;have hxo2:=hxo.2.1;have hxo3:=hxo.2.2;refine nm (Un.dv (Un.word x1.word) 0:Int) fun n2 hn2=>?_;refine nm (Un.dv (Un.word x1.word) 1:Int) fun n3 hn3=>?_;refine nm (Un.dv (Un.word x1.word) 2:Int) fun n4 hn4=>?_;refine nm (Un.dv (Un.word x1.word) 3:Int) fun n5 hn5=>?_;refine nm (Un.dv (Un.word x1.word) 4:Int) fun n6 hn6=>?_;refine nm (Un.dv (Un.word x1.word) 5:Int) fun n7 hn7=>?_;refine nm (Fr.rS ((Un.word x1.word).isSome=true) (Un.fv (Un.word x1.word)):Int) fun n8 hn8=>?_;refine nl (Fr.rD ((Un.word x1.word).isSome=true) (Un.fv (Un.word x1.word))) fun l4 hl4 hl4n=>?_;refine nm (Fr.rT ((Un.word x1.word).isSome=true):Int) fun n9 hn9=>?_;refine nl (Fr.rE ((Un.word x1.word).isSome=true) (Un.fv (Un.word x1.word))) fun l5 hl5 hl5n=>?_;refine V.r [.k (pp ((G8 2).b) 0),.ld 2 0 false (fun _=>[tv x1.word]),.ct g0 2 61 false [] [] [] (fun _ G=>uword_ctv x1.word (by omega) n2 hn2 n3 hn3 n4 hn4 n5 hn5 n6 hn6 n7 hn7 n8 hn8 l4 hl4 n9 hn9 l5 hl5),.v fun G=>.tuple #[.agg #[iv n2,iv n3,iv n4,iv n5,iv n6,iv n7,iv n8,((G 2).ss 0).v,iv n9,((G 2).ss 1).v],bv ((Un.word x1.word).isSome)],.v fun G=>.agg #[iv n2,iv n3,iv n4,iv n5,iv n6,iv n7,iv n8,((G 2).ss 0).v,iv n9,((G 2).ss 1).v],.k (bv ((Un.word x1.word).isSome)),.nb 6 3 (fun b=>pp b 0) 42 (fun _=>#[iv 0,iv 0,iv 0,iv 0,iv 0,iv 0,iv 0,.slice none 0 0,iv 0,.slice none 0 0]),.st 3 (fun G=>.blk ((G 6).b) #[iv n2,iv n3,iv n4,iv n5,iv n6,iv n7,iv n8,((G 2).ss 0).v,iv n9,((G 2).ss 1).v] 42),.k (bv ((Un.word x1.word).isSome))] fun _ _ G9 kw10=>?_;intro S_ s_
    obtain ⟨⟨kl6, -⟩,⟨kl7, -⟩, -⟩:Lq l4 (((G9 2).ss 0).v)∧Lq l5 (((G9 2).ss 1).v)∧True:=kq kw10;clear kw10;have hk41:0≤k0∧k0≤41:=⟨by omega,by omega⟩;refine V.g [.k (bv ((Un.word x1.word).isSome)),.k (bv (!((Un.word x1.word).isSome)))] fun _ _ G10=>?_;intro S_ s_;refine V.cn (b:=!((Un.word x1.word).isSome)) (iNT Iff.rfl) (iNF Iff.rfl) (fun q5=>?_) (fun q6=>?_)
    · have hrd:=Un.read_nam hsm (by rw [←hl1,← hf3,Un.acc_drop (by omega),← hx1,if_neg (by have hqq:=q5;simpa using hqq)]);refine V.g [.k (.agg #[iv 0,iv 0,iv 0,iv 0,iv 0,iv 0,iv 0,.slice none 0 0,iv 0,.slice none 0 0]),.st 0 (fun _=>.blk ((G1 0).b) #[iv 0,iv 0,iv 0,iv 0,iv 0,iv 0,iv 0,.slice none 0 0,iv 0,.slice none 0 0] 42),.k (iv 11)] fun _ _ G11=>?_;intro S_ s_
      refine V.nilF (α:=Int) ?_;refine V.nilF (α:=Int) ?_;have e7:([]:List Int)=Fr.rD (((Un.read s).1).isSome=true) (Un.fv ((Un.read s).1)):=(Fr.Fz.no (Un.is_n (by rw [hrd])) (Un.fv (Un.read s).1)).2.1;rw [←e7];have e9:([]:List Int)=Fr.rE (((Un.read s).1).isSome=true) (Un.fv ((Un.read s).1)):=(Fr.Fz.no (Un.is_n (by rw [hrd])) (Un.fv (Un.read s).1)).2.2.2;rw [←e9];have e0:(0:Int)=Un.dv ((Un.read s).1) 0:=(Un.dv_n (by rw [hrd]) 0).symm;have e1:(0:Int)=Un.dv ((Un.read s).1) 1:=(Un.dv_n (by rw [hrd]) 1).symm;have e2:(0:Int)=Un.dv ((Un.read s).1) 2:=(Un.dv_n (by rw [hrd]) 2).symm;have e3:(0:Int)=Un.dv ((Un.read s).1) 3:=(Un.dv_n (by rw [hrd]) 3).symm;have e4:(0:Int)=Un.dv ((Un.read s).1) 4:=(Un.dv_n (by rw [hrd]) 4).symm;have e5:(0:Int)=Un.dv ((Un.read s).1) 5:=(Un.dv_n (by rw [hrd]) 5).symm;have e6:(0:Int)=Fr.rS (((Un.read s).1).isSome=true) (Un.fv ((Un.read s).1)):=(Fr.Fz.no (Un.is_n (by rw [hrd])) (Un.fv (Un.read s).1)).1;have e8:(0:Int)=Fr.rT (((Un.read s).1).isSome=true):=(Fr.Fz.no (Un.is_n (by rw [hrd])) (Un.fv (Un.read s).1)).2.2.1;have e10:(11:Int)=(Un.read s).2:=by rw [hrd]
      exact V.rt [0,0] [{},{}] [fun _=>{},fun _=>{}] [] [5,6] [] (.tuple #[.agg #[iv 0,iv 0,iv 0,iv 0,iv 0,iv 0,iv 0,SV.v ({}),iv 0,SV.v ({})],iv 11]) (cong9 (fun (x0 x1 x2 x3 x4 x5 x6 x8 x10:Int)=>(.tuple #[.agg #[iv x0,iv x1,iv x2,iv x3,iv x4,iv x5,iv x6,SV.v ({}),iv x8,SV.v ({})],iv x10]:Value)) e0 e1 e2 e3 e4 e5 e6 e8 e10)
    have hws:(Un.word x1.word).isSome=true:=by have hqq:=q6;first | exact hqq | simpa using hqq
    have zw:=Fr.Fz.of hws hn8 hl4 hn9 hl5;have hwo:=Un.word_ok (Un.some_of hws);have hzw:=zw.len hwo.2.2.2;have hzw1:=hzw.1;have hzw2:=hzw.2;have hw0:n8≠0:=by have:=(Fr.sgn_num (r:=Un.fv (Un.word x1.word))).2.2.2 hwo.2.2.1;rw [←zw.eqs.1] at this;omega
    refine V.g [.k (pp ((G9 6).b) 0),.ld 3 0 true (fun _=>[iv n2,iv n3,iv n4,iv n5,iv n6,iv n7]),.k (iv 0)] fun _ _ G12=>?_;intro S_ s_
    refine V.unrollL 99 (by kernel_rfl) ?_;intro L_1;refine V.g [.kb true] fun _ _ G13=>?_;intro S_ s_
    refine V.condT (by kernel_rfl) ?_;refine V.g [.k (iv 0),.k (iv n2),.k (iv 0),.k (iv n2)] fun _ _ G14=>?_;intro S_ s_
    refine nm (n2 * x1.exp:Int) fun n10 hn10=>?_;refine V.g [.k (iv 0),.k (pp ((G5 2).b) 0),.k (pp ((G5 2).b) 0),.ld 1 0 false (fun _=>[iv out_0]),.k (iv n2),.k (pp ((G8 2).b) 1),.ld 2 1 false (fun _=>[iv x1.exp]),.ar (n2 * x1.exp) n10 hn10 (Un.R27.r64 (.mul (by rw [hn2];exact Un.word_rg x1.word 0) ⟨hxo2,hxo3⟩ hn10)).1 (Un.R27.r64 (.mul (by rw [hn2];exact Un.word_rg x1.word 0) ⟨hxo2,hxo3⟩ hn10)).2,.a (out_0+n10) (Un.R27.a64 hf5 (.mul (by rw [hn2];exact Un.word_rg x1.word 0) ⟨hxo2,hxo3⟩ hn10) hk41).1 (Un.R27.a64 hf5 (.mul (by rw [hn2];exact Un.word_rg x1.word 0) ⟨hxo2,hxo3⟩ hn10) hk41).2,.k (pp ((G5 2).b) 0),.k (pp ((G5 2).b) 0),.st 1 (fun _=>.blk ((G5 2).b) #[iv (out_0+n10),iv out_1,iv out_2,iv out_3,iv out_4,iv out_5,iv out_6,out_7s.v,iv out_8,out_9s.v] 42)] fun _ _ G15=>?_;intro S_ s_
    refine V.g [.k (iv 1),.k (iv 1)] fun _ _ G16=>?_;intro S_ s_
    refine V.againL L_1 98 (by kernel_rfl) ?_;refine V.g [.kb true] fun _ _ G17=>?_;intro S_ s_
    refine V.condT (by kernel_rfl) ?_;refine V.g [.k (iv 1),.k (iv n3),.k (iv 1),.k (iv n3)] fun _ _ G18=>?_;intro S_ s_
    refine nm (n3 * x1.exp:Int) fun n11 hn11=>?_;refine V.g [.k (iv 1),.k (pp ((G5 2).b) 0),.k (pp ((G5 2).b) 1),.ld 1 1 false (fun _=>[iv out_1]),.k (iv n3),.k (pp ((G8 2).b) 1),.ld 2 1 false (fun _=>[iv x1.exp]),.ar (n3 * x1.exp) n11 hn11 (Un.R27.r64 (.mul (by rw [hn3];exact Un.word_rg x1.word 1) ⟨hxo2,hxo3⟩ hn11)).1 (Un.R27.r64 (.mul (by rw [hn3];exact Un.word_rg x1.word 1) ⟨hxo2,hxo3⟩ hn11)).2,.a (out_1+n11) (Un.R27.a64 hf6 (.mul (by rw [hn3];exact Un.word_rg x1.word 1) ⟨hxo2,hxo3⟩ hn11) hk41).1 (Un.R27.a64 hf6 (.mul (by rw [hn3];exact Un.word_rg x1.word 1) ⟨hxo2,hxo3⟩ hn11) hk41).2,.k (pp ((G5 2).b) 0),.k (pp ((G5 2).b) 1),.st 1 (fun _=>.blk ((G5 2).b) #[iv (out_0+n10),iv (out_1+n11),iv out_2,iv out_3,iv out_4,iv out_5,iv out_6,out_7s.v,iv out_8,out_9s.v] 42)] fun _ _ G19=>?_;intro S_ s_
    refine V.g [.k (iv 2),.k (iv 2)] fun _ _ G20=>?_;intro S_ s_
    refine V.againL L_1 97 (by kernel_rfl) ?_;refine V.g [.kb true] fun _ _ G21=>?_;intro S_ s_
    refine V.condT (by kernel_rfl) ?_;refine V.g [.k (iv 2),.k (iv n4),.k (iv 2),.k (iv n4)] fun _ _ G22=>?_;intro S_ s_
    refine nm (n4 * x1.exp:Int) fun n12 hn12=>?_;refine V.g [.k (iv 2),.k (pp ((G5 2).b) 0),.k (pp ((G5 2).b) 2),.ld 1 2 false (fun _=>[iv out_2]),.k (iv n4),.k (pp ((G8 2).b) 1),.ld 2 1 false (fun _=>[iv x1.exp]),.ar (n4 * x1.exp) n12 hn12 (Un.R27.r64 (.mul (by rw [hn4];exact Un.word_rg x1.word 2) ⟨hxo2,hxo3⟩ hn12)).1 (Un.R27.r64 (.mul (by rw [hn4];exact Un.word_rg x1.word 2) ⟨hxo2,hxo3⟩ hn12)).2,.a (out_2+n12) (Un.R27.a64 hf7 (.mul (by rw [hn4];exact Un.word_rg x1.word 2) ⟨hxo2,hxo3⟩ hn12) hk41).1 (Un.R27.a64 hf7 (.mul (by rw [hn4];exact Un.word_rg x1.word 2) ⟨hxo2,hxo3⟩ hn12) hk41).2,.k (pp ((G5 2).b) 0),.k (pp ((G5 2).b) 2),.st 1 (fun _=>.blk ((G5 2).b) #[iv (out_0+n10),iv (out_1+n11),iv (out_2+n12),iv out_3,iv out_4,iv out_5,iv out_6,out_7s.v,iv out_8,out_9s.v] 42)] fun _ _ G23=>?_;intro S_ s_
    refine V.g [.k (iv 3),.k (iv 3)] fun _ _ G24=>?_;intro S_ s_
    refine V.againL L_1 96 (by kernel_rfl) ?_;refine V.g [.kb true] fun _ _ G25=>?_;intro S_ s_
    refine V.condT (by kernel_rfl) ?_;refine V.g [.k (iv 3),.k (iv n5),.k (iv 3),.k (iv n5)] fun _ _ G26=>?_;intro S_ s_
    refine nm (n5 * x1.exp:Int) fun n13 hn13=>?_;refine V.g [.k (iv 3),.k (pp ((G5 2).b) 0),.k (pp ((G5 2).b) 3),.ld 1 3 false (fun _=>[iv out_3]),.k (iv n5),.k (pp ((G8 2).b) 1),.ld 2 1 false (fun _=>[iv x1.exp]),.ar (n5 * x1.exp) n13 hn13 (Un.R27.r64 (.mul (by rw [hn5];exact Un.word_rg x1.word 3) ⟨hxo2,hxo3⟩ hn13)).1 (Un.R27.r64 (.mul (by rw [hn5];exact Un.word_rg x1.word 3) ⟨hxo2,hxo3⟩ hn13)).2,.a (out_3+n13) (Un.R27.a64 hf8 (.mul (by rw [hn5];exact Un.word_rg x1.word 3) ⟨hxo2,hxo3⟩ hn13) hk41).1 (Un.R27.a64 hf8 (.mul (by rw [hn5];exact Un.word_rg x1.word 3) ⟨hxo2,hxo3⟩ hn13) hk41).2,.k (pp ((G5 2).b) 0),.k (pp ((G5 2).b) 3),.st 1 (fun _=>.blk ((G5 2).b) #[iv (out_0+n10),iv (out_1+n11),iv (out_2+n12),iv (out_3+n13),iv out_4,iv out_5,iv out_6,out_7s.v,iv out_8,out_9s.v] 42)] fun _ _ G27=>?_;intro S_ s_
    refine V.g [.k (iv 4),.k (iv 4)] fun _ _ G28=>?_;intro S_ s_
    refine V.againL L_1 95 (by kernel_rfl) ?_;refine V.g [.kb true] fun _ _ G29=>?_;intro S_ s_
    refine V.condT (by kernel_rfl) ?_;refine V.g [.k (iv 4),.k (iv n6),.k (iv 4),.k (iv n6)] fun _ _ G30=>?_;intro S_ s_
    refine nm (n6 * x1.exp:Int) fun n14 hn14=>?_;refine V.g [.k (iv 4),.k (pp ((G5 2).b) 0),.k (pp ((G5 2).b) 4),.ld 1 4 false (fun _=>[iv out_4]),.k (iv n6),.k (pp ((G8 2).b) 1),.ld 2 1 false (fun _=>[iv x1.exp]),.ar (n6 * x1.exp) n14 hn14 (Un.R27.r64 (.mul (by rw [hn6];exact Un.word_rg x1.word 4) ⟨hxo2,hxo3⟩ hn14)).1 (Un.R27.r64 (.mul (by rw [hn6];exact Un.word_rg x1.word 4) ⟨hxo2,hxo3⟩ hn14)).2,.a (out_4+n14) (Un.R27.a64 hf9 (.mul (by rw [hn6];exact Un.word_rg x1.word 4) ⟨hxo2,hxo3⟩ hn14) hk41).1 (Un.R27.a64 hf9 (.mul (by rw [hn6];exact Un.word_rg x1.word 4) ⟨hxo2,hxo3⟩ hn14) hk41).2,.k (pp ((G5 2).b) 0),.k (pp ((G5 2).b) 4),.st 1 (fun _=>.blk ((G5 2).b) #[iv (out_0+n10),iv (out_1+n11),iv (out_2+n12),iv (out_3+n13),iv (out_4+n14),iv out_5,iv out_6,out_7s.v,iv out_8,out_9s.v] 42)] fun _ _ G31=>?_;intro S_ s_
    refine V.g [.k (iv 5),.k (iv 5)] fun _ _ G32=>?_;intro S_ s_
    refine V.againL L_1 94 (by kernel_rfl) ?_;refine V.g [.kb true] fun _ _ G33=>?_;intro S_ s_
    refine V.condT (by kernel_rfl) ?_;refine V.g [.k (iv 5),.k (iv n7),.k (iv 5),.k (iv n7)] fun _ _ G34=>?_;intro S_ s_
    refine nm (n7 * x1.exp:Int) fun n15 hn15=>?_;refine V.g [.k (iv 5),.k (pp ((G5 2).b) 0),.k (pp ((G5 2).b) 5),.ld 1 5 false (fun _=>[iv out_5]),.k (iv n7),.k (pp ((G8 2).b) 1),.ld 2 1 false (fun _=>[iv x1.exp]),.ar (n7 * x1.exp) n15 hn15 (Un.R27.r64 (.mul (by rw [hn7];exact Un.word_rg x1.word 5) ⟨hxo2,hxo3⟩ hn15)).1 (Un.R27.r64 (.mul (by rw [hn7];exact Un.word_rg x1.word 5) ⟨hxo2,hxo3⟩ hn15)).2,.a (out_5+n15) (Un.R27.a64 hf10 (.mul (by rw [hn7];exact Un.word_rg x1.word 5) ⟨hxo2,hxo3⟩ hn15) hk41).1 (Un.R27.a64 hf10 (.mul (by rw [hn7];exact Un.word_rg x1.word 5) ⟨hxo2,hxo3⟩ hn15) hk41).2,.k (pp ((G5 2).b) 0),.k (pp ((G5 2).b) 5),.st 1 (fun _=>.blk ((G5 2).b) #[iv (out_0+n10),iv (out_1+n11),iv (out_2+n12),iv (out_3+n13),iv (out_4+n14),iv (out_5+n15),iv out_6,out_7s.v,iv out_8,out_9s.v] 42)] fun _ _ G35=>?_;intro S_ s_
    refine V.g [.k (iv 6),.k (iv 6)] fun _ _ G36=>?_;intro S_ s_
    refine V.againL L_1 93 (by kernel_rfl) ?_;refine V.g [.kb false] fun _ _ G37=>?_;intro S_ s_
    refine V.condF (by kernel_rfl) ?_;refine nm (Fr.rS (True) (Un.tm (Fr.fq out_6 out_7 out_9) (Fr.fq n8 l4 l5) x1.exp):Int) fun n16 hn16=>?_;refine nl (Fr.rD (True) (Un.tm (Fr.fq out_6 out_7 out_9) (Fr.fq n8 l4 l5) x1.exp)) fun l6 hl6 hl6n=>?_;refine nm (Fr.rT (True):Int) fun n17 hn17=>?_;refine nl (Fr.rE (True) (Un.tm (Fr.fq out_6 out_7 out_9) (Fr.fq n8 l4 l5) x1.exp)) fun l7 hl7 hl7n=>?_;refine V.r [.k (pp ((G5 2).b) 6),.ld 1 6 true (fun _=>Dat.cells (DFrac.mk ⟨out_6,out_7,out_7s⟩ ⟨out_8,out_9,out_9s⟩)),.k (pp ((G9 6).b) 6),.ld 3 6 true (fun _=>Dat.cells (DFrac.mk ⟨n8,l4,(G9 2).ss 0⟩ ⟨n9,l5,(G9 2).ss 1⟩)),.k (pp ((G8 2).b) 1),.ld 2 1 false (fun _=>[iv x1.exp]),.ctT g0 6 62 [(kf true (.f 1) out_7 (fun _=>out_7s)).a,(kf true (.f 2) out_9 (fun _=>out_9s)).a,(kf true (.f 3) l4 (fun _=>(G9 2).ss 0)).a,(kf true (.f 4) l5 (fun _=>(G9 2).ss 1)).a] (fun _ G=>utimes_ctv out_6 out_7 out_7s out_8 out_9 out_9s n8 l4 ((G9 2).ss 0) n9 l5 ((G9 2).ss 1) x1.exp hf4 zw.rt hw0 ⟨hxo2,hxo3⟩ ⟨by omega,by omega⟩ ⟨by omega,by omega⟩ n16 hn16 l6 hl6 n17 hn17 l7 hl7),.k (pp ((G5 2).b) 6),.st 1 (fun G=>.blk ((G5 2).b) #[iv (out_0+n10),iv (out_1+n11),iv (out_2+n12),iv (out_3+n13),iv (out_4+n14),iv (out_5+n15),iv n16,((G 6).ss 0).v,iv n17,((G 6).ss 1).v] 42)] fun _ _ G38 kw39=>?_;intro S_ s_
    obtain ⟨⟨kl8, -⟩,⟨kl9, -⟩, -⟩:Lq l6 (((G38 6).ss 0).v)∧Lq l7 (((G38 6).ss 1).v)∧True:=kq kw39;clear kw39;have zt:=Fr.Fz.of True.intro hn16 hl6 hn17 hl7;rw [zw.v] at zt;have hzt:=zt.len (Un.tm_hb (hf4.hb hf11.1 hf11.2) hwo.2.2.2 ⟨hxo2,hxo3⟩);have hzt1:=hzt.1;have hzt2:=hzt.2;refine V.g [.a (k0+1) (by omega) (by omega),.k (iv (k0+1))] fun _ _ G39=>?_;intro S_ s_;refine V.rnd hZ1 (k0+1,out_0+n10,out_1+n11,out_2+n12,out_3+n13,out_4+n14,out_5+n15,n16,l6,(G38 6).ss 0,n17,l7,(G38 6).ss 1) [0,5,6] (by kernel_rfl) ?_ ?_
    · refine ⟨?_,?_,?_,?_,?_,?_,?_,?_,?_,?_,?_⟩
      · show 0≤(k0+1);omega
      · show (k0+1)≤(l1.length:Int);omega
      · show Un.acc (l1.drop (k0+1).toNat) ([(out_0+n10),(out_1+n11),(out_2+n12),(out_3+n13),(out_4+n14),(out_5+n15)],(Fr.fq n16 l6 l7))=Un.acc l1 ([0,0,0,0,0,0],1);rw [show (k0+1).toNat=k0.toNat+1 by omega,← hf3,Un.acc_drop (k:=k0.toNat) (by omega),← hx1,if_pos hws,zt.v,hn10,hn11,hn12,hn13,hn14,hn15,hn2,hn3,hn4,hn5,hn6,hn7];rfl
      · show Fr.FrB n16 l6 n17 l7;exact zt.rt
      · show Un.R27 (k0+1) (out_0+n10);exact Un.R27.add hf5 (.mul (by rw [hn2];exact Un.word_rg x1.word 0) ⟨hxo2,hxo3⟩ hn10)
      · show Un.R27 (k0+1) (out_1+n11);exact Un.R27.add hf6 (.mul (by rw [hn3];exact Un.word_rg x1.word 1) ⟨hxo2,hxo3⟩ hn11)
      · show Un.R27 (k0+1) (out_2+n12);exact Un.R27.add hf7 (.mul (by rw [hn4];exact Un.word_rg x1.word 2) ⟨hxo2,hxo3⟩ hn12)
      · show Un.R27 (k0+1) (out_3+n13);exact Un.R27.add hf8 (.mul (by rw [hn5];exact Un.word_rg x1.word 3) ⟨hxo2,hxo3⟩ hn13)
      · show Un.R27 (k0+1) (out_4+n14);exact Un.R27.add hf9 (.mul (by rw [hn6];exact Un.word_rg x1.word 4) ⟨hxo2,hxo3⟩ hn14)
      · show Un.R27 (k0+1) (out_5+n15);exact Un.R27.add hf10 (.mul (by rw [hn7];exact Un.word_rg x1.word 5) ⟨hxo2,hxo3⟩ hn15)
      show l6.length≤1+36 * (k0+1).toNat∧l7.length≤1+36 * (k0+1).toNat;omega
    show ((l1.length:Int)-(k0+1)).toNat < ((l1.length:Int)-k0).toNat;omega
  have hfin:Un.acc l1 ([0,0,0,0,0,0],1)=some ([out_0,out_1,out_2,out_3,out_4,out_5],(Fr.fq out_6 out_7 out_9)):=by rw [←hf3,List.drop_of_length_le (by omega)];rfl
  refine V.g [.k (pp ((G5 2).b) 0),.ld 1 0 true (fun _=>[iv out_0,iv out_1,iv out_2,iv out_3,iv out_4,iv out_5]),.cp g0 2 63 [] (fun _ G=>dright_ct out_0 out_1 out_2 out_3 out_4 out_5),.k (bv (!(decide (Dm.Rt [out_0,out_1,out_2,out_3,out_4,out_5]))))] fun _ _ G40=>?_;intro S_ s_
  refine V.cn (b:=!(decide (Dm.Rt [out_0,out_1,out_2,out_3,out_4,out_5]))) (iNT iDF) (iNF iDT) (fun q7=>?_) (fun q8=>?_)
  · have hrd:=Un.read_rng hsm (by rw [←hl1];exact hfin) q7;refine V.g [.k (.agg #[iv 0,iv 0,iv 0,iv 0,iv 0,iv 0,iv 0,.slice none 0 0,iv 0,.slice none 0 0]),.st 0 (fun _=>.blk ((G1 0).b) #[iv 0,iv 0,iv 0,iv 0,iv 0,iv 0,iv 0,.slice none 0 0,iv 0,.slice none 0 0] 42),.k (iv 3)] fun _ _ G41=>?_;intro S_ s_
    refine V.nilF (α:=Int) ?_;refine V.nilF (α:=Int) ?_;have e7:([]:List Int)=Fr.rD (((Un.read s).1).isSome=true) (Un.fv ((Un.read s).1)):=(Fr.Fz.no (Un.is_n (by rw [hrd])) (Un.fv (Un.read s).1)).2.1;rw [←e7];have e9:([]:List Int)=Fr.rE (((Un.read s).1).isSome=true) (Un.fv ((Un.read s).1)):=(Fr.Fz.no (Un.is_n (by rw [hrd])) (Un.fv (Un.read s).1)).2.2.2;rw [←e9];have e0:(0:Int)=Un.dv ((Un.read s).1) 0:=(Un.dv_n (by rw [hrd]) 0).symm;have e1:(0:Int)=Un.dv ((Un.read s).1) 1:=(Un.dv_n (by rw [hrd]) 1).symm;have e2:(0:Int)=Un.dv ((Un.read s).1) 2:=(Un.dv_n (by rw [hrd]) 2).symm;have e3:(0:Int)=Un.dv ((Un.read s).1) 3:=(Un.dv_n (by rw [hrd]) 3).symm;have e4:(0:Int)=Un.dv ((Un.read s).1) 4:=(Un.dv_n (by rw [hrd]) 4).symm;have e5:(0:Int)=Un.dv ((Un.read s).1) 5:=(Un.dv_n (by rw [hrd]) 5).symm;have e6:(0:Int)=Fr.rS (((Un.read s).1).isSome=true) (Un.fv ((Un.read s).1)):=(Fr.Fz.no (Un.is_n (by rw [hrd])) (Un.fv (Un.read s).1)).1;have e8:(0:Int)=Fr.rT (((Un.read s).1).isSome=true):=(Fr.Fz.no (Un.is_n (by rw [hrd])) (Un.fv (Un.read s).1)).2.2.1;have e10:(3:Int)=(Un.read s).2:=by rw [hrd]
    exact V.rt [0,0] [{},{}] [fun _=>{},fun _=>{}] [] [3,4] [] (.tuple #[.agg #[iv 0,iv 0,iv 0,iv 0,iv 0,iv 0,iv 0,SV.v ({}),iv 0,SV.v ({})],iv 3]) (cong9 (fun (x0 x1 x2 x3 x4 x5 x6 x8 x10:Int)=>(.tuple #[.agg #[iv x0,iv x1,iv x2,iv x3,iv x4,iv x5,iv x6,SV.v ({}),iv x8,SV.v ({})],iv x10]:Value)) e0 e1 e2 e3 e4 e5 e6 e8 e10)
  have hrd:=Un.read_ok hsm (by rw [←hl1];exact hfin) (by have hqq:=q8;first | exact hqq | exact Decidable.not_not.1 hqq);have hr1:(Un.read s).1=some ([out_0,out_1,out_2,out_3,out_4,out_5],(Fr.fq out_6 out_7 out_9)):=by rw [hrd]
  refine V.g [.ld 1 0 true (fun _=>[iv out_0,iv out_1,iv out_2,iv out_3,iv out_4,iv out_5,iv out_6,out_7s.v,iv out_8,out_9s.v]),.st 0 (fun _=>.blk ((G1 0).b) #[iv out_0,iv out_1,iv out_2,iv out_3,iv out_4,iv out_5,iv out_6,out_7s.v,iv out_8,out_9s.v] 42),.k (iv 0)] fun _ _ G42=>?_;intro S_ s_
  have e7:out_7=Fr.rD (((Un.read s).1).isSome=true) (Un.fv ((Un.read s).1)):=(Fr.Fz.ret (Fr.FrB.z hf4) (Un.is_s hr1) (Un.fv_s hr1).symm).2.1;subst e7;have e9:out_9=Fr.rE (((Un.read s).1).isSome=true) (Un.fv ((Un.read s).1)):=(Fr.Fz.ret (Fr.FrB.z hf4) (Un.is_s hr1) (Un.fv_s hr1).symm).2.2.2;subst e9;have e0:out_0=Un.dv ((Un.read s).1) 0:=(Un.dv_s hr1 0).symm;have e1:out_1=Un.dv ((Un.read s).1) 1:=(Un.dv_s hr1 1).symm;have e2:out_2=Un.dv ((Un.read s).1) 2:=(Un.dv_s hr1 2).symm;have e3:out_3=Un.dv ((Un.read s).1) 3:=(Un.dv_s hr1 3).symm;have e4:out_4=Un.dv ((Un.read s).1) 4:=(Un.dv_s hr1 4).symm;have e5:out_5=Un.dv ((Un.read s).1) 5:=(Un.dv_s hr1 5).symm;have e6:out_6=Fr.rS (((Un.read s).1).isSome=true) (Un.fv ((Un.read s).1)):=(Fr.Fz.ret (Fr.FrB.z hf4) (Un.is_s hr1) (Un.fv_s hr1).symm).1;have e8:out_8=Fr.rT (((Un.read s).1).isSome=true):=(Fr.Fz.ret (Fr.FrB.z hf4) (Un.is_s hr1) (Un.fv_s hr1).symm).2.2.1;have e10:(0:Int)=(Un.read s).2:=by rw [hrd]
  exact V.rt [0,0] [out_7s,out_9s] [fun _=>{},fun _=>{}] [] [1,2] [] (.tuple #[.agg #[iv out_0,iv out_1,iv out_2,iv out_3,iv out_4,iv out_5,iv out_6,out_7s.v,iv out_8,out_9s.v],iv 0]) (cong9 (fun (x0 x1 x2 x3 x4 x5 x6 x8 x10:Int)=>(.tuple #[.agg #[iv x0,iv x1,iv x2,iv x3,iv x4,iv x5,iv x6,out_7s.v,iv x8,out_9s.v],iv x10]:Value)) e0 e1 e2 e3 e4 e5 e6 e8 e10)
theorem uread_ctv (s:ByteArray) (hs:s.size≤1000000) (rv0:Int) (erv0:rv0=Un.dv ((Un.read s).1) 0) (rv1:Int) (erv1:rv1=Un.dv ((Un.read s).1) 1) (rv2:Int) (erv2:rv2=Un.dv ((Un.read s).1) 2) (rv3:Int) (erv3:rv3=Un.dv ((Un.read s).1) 3) (rv4:Int) (erv4:rv4=Un.dv ((Un.read s).1) 4) (rv5:Int) (erv5:rv5=Un.dv ((Un.read s).1) 5) (rv6:Int) (erv6:rv6=Fr.rS (((Un.read s).1).isSome=true) (Un.fv ((Un.read s).1))) (rv7:List Int) (erv7:rv7=Fr.rD (((Un.read s).1).isSome=true) (Un.fv ((Un.read s).1))) (rv8:Int) (erv8:rv8=Fr.rT (((Un.read s).1).isSome=true)) (rv9:List Int) (erv9:rv9=Fr.rE (((Un.read s).1).isSome=true) (Un.fv ((Un.read s).1))) (rv10:Int) (erv10:rv10=(Un.read s).2) :
    Ct Tryz.prog 19 #[tv s] [] [] (fun g=>.tuple #[.agg #[iv rv0,iv rv1,iv rv2,iv rv3,iv rv4,iv rv5,iv rv6,((g.ss 0)).v,iv rv8,((g.ss 1)).v],iv rv10]) (fun g=>[fs true rv7 (g.ss 0),fs true rv9 (g.ss 1)]) (fun g=>[]) (fun g=>[]):=by
  subst erv0 erv1 erv2 erv3 erv4 erv5 erv6 erv7 erv8 erv9 erv10;exact uread_ct s hs

open Go
namespace Dm
theorem ne_empty {s:ByteArray}:s≠ByteArray.empty↔bl s≠[]:=⟨fun h e=>h (bl_inj e),fun h e=>h (by rw [e];rfl)⟩
theorem cpB_iff {s p:ByteArray}:cpB s p↔bl p <+:bl s:=by
  unfold cpB
  constructor
  · rintro ⟨h1,h2⟩
    have h3:bl p=(bl s).take p.size:=by
      rw [←h2,bl_extract]
      have:(s.extract 0 p.size).size=p.size:=by rw [h2]
      rw [this,List.drop_zero]
    rw [h3];exact List.take_prefix _ _
  · intro h
    have hl:=h.length_le
    rw [bl_len,bl_len] at hl
    refine ⟨by omega,bl_inj ?_⟩
    rw [bl_extract,List.drop_zero,← bl_len]
    exact (List.prefix_iff_eq_take.1 h).symm
theorem cpR_bl {s p:ByteArray} (h:cpB s p):bl (cpR s p)=(bl s).drop p.size:=by
  unfold cpR
  rw [if_pos h,bl_extract,← bl_len s,List.take_length]
theorem cpR_of {s p r:ByteArray} (h:bl s=bl p ++bl r):cpB s p∧cpR s p=r:=by
  have h1:cpB s p:=cpB_iff.2 ⟨_,h.symm⟩
  refine ⟨h1,bl_inj ?_⟩
  rw [cpR_bl h1,h,List.drop_left' (by simp)]
theorem cpB_not {s p:ByteArray} {x y:UInt8} {l m:List UInt8} (h1:bl s=x :: l) (h2:bl p=y :: m) (h:x≠y):¬ cpB s p:=by
  rw [cpB_iff,h1,h2]
  rintro ⟨t,ht⟩
  simp at ht
  exact h ht.1.symm
theorem sy_fst:∀ n,n < 6→∃ m,bl (sy.getD n default)=([103,109,115,74,99,112]:List UInt8).getD n 0 :: m
  | 0,_=>⟨_,rfl⟩
  | 1,_=>⟨_,rfl⟩
  | 2,_=>⟨_,rfl⟩
  | 3,_=>⟨_,rfl⟩
  | 4,_=>⟨_,rfl⟩
  | 5,_=>⟨_,rfl⟩
theorem bl_item {s:ByteArray} {e:Int}:bl (item s e)=bl s ++(if e=1 then [] else [UInt8.ofNat (48+e).toNat]):=by
  unfold item
  split
  · simp
  · rw [bl_append];rfl
def tk (x:Nat × Int):List UInt8:=(if 0 < x.2 then 42 else 47) :: bl (item (sy.getD x.1 default) (if 0 < x.2 then x.2 else -x.2))
def tks (l:List (Nat × Int)):List UInt8:=(l.map tk).flatten
theorem tks_cons (x:Nat × Int) (l:List (Nat × Int)):tks (x :: l)=tk x ++tks l:=by simp [tks]
theorem tks_append (l m:List (Nat × Int)):tks (l ++m)=tks l ++tks m:=by simp [tks]
def poN (D:List Int):Nat→List (Nat × Int)
  | 0=>[]
  | n+1=>if 0 < D.getD n 0 then poN D n ++[(n,D.getD n 0)] else poN D n
def neN (D:List Int):Nat→List (Nat × Int)
  | 0=>[]
  | n+1=>if D.getD n 0 < 0 then neN D n ++[(n,D.getD n 0)] else neN D n
theorem be_tks {D:List Int}:∀ n,bl (beN D n)=tks (neN D n)
  | 0=>rfl
  | n+1=>by
    unfold beN neN
    by_cases h:D.getD n 0 < 0
    · rw [if_pos h,if_pos h,bl_append,bl_append,be_tks n,tks_append,tks_cons]
      unfold tk
      simp only [if_neg (show ¬ 0 < D.getD n 0 by omega)]
      show _ ++(bl ⟨#[47]⟩ ++_)=_ ++(_ ++[])
      rw [List.append_nil];rfl
    · rw [if_neg h,if_neg h,be_tks n]
theorem ab_tks {D:List Int}:∀ n,Lib.joinTail [42] ((abN D n).map bl)=tks (poN D n)
  | 0=>rfl
  | n+1=>by
    unfold abN poN
    by_cases h:0 < D.getD n 0
    · rw [if_pos h,if_pos h,tks_append,tks_cons,← ab_tks n]
      unfold tk
      simp only [if_pos h]
      simp [Lib.joinTail,tks]
    · rw [if_neg h,if_neg h,ab_tks n]
theorem text_y {D:List Int} (h:Rt D):bl (text D)=Lib.join ((ab D).map bl) [42] ++bl (beN D 6):=by
  unfold text
  rw [if_pos h,bl_append]
  congr 1
theorem abN_item {D:List Int}:∀ n,n≤6→∀ x ∈ abN D n,∃ j,j < 6∧∃ e,x=item (sy.getD j default) e
  | 0,_,x,h=>by cases h
  | n+1,hn,x,h=>by
    unfold abN at h
    split at h
    · rcases List.mem_append.1 h with h | h
      · exact abN_item n (by omega) x h
      · exact ⟨n,by omega,D.getD n 0,by simpa using h⟩
    · exact abN_item n (by omega) x h
theorem start_tks {D:List Int} (h:Rt D):bl (start (text D))=tks (poN D 6 ++neN D 6)∧bl (text D)≠[]:=by
  have ht:=text_y h
  have hp:=ab_tks (D:=D) 6
  rw [tks_append,← hp,← be_tks]
  unfold ab at ht
  cases hab:abN D 6 with
  | nil =>
    rw [hab] at ht
    have ht':bl (text D)=bl ⟨#[49]⟩ ++bl (beN D 6):=ht
    obtain ⟨h1,h2⟩:=cpR_of ht'
    unfold start
    rw [if_pos h1,h2]
    exact ⟨rfl,by rw [ht'];exact List.cons_ne_nil _ _⟩
  | cons x l =>
    rw [hab,if_neg (by simp),List.map_cons,Lib.join_cons] at ht
    obtain ⟨j,hj,e,hx⟩:=abN_item 6 (Nat.le_refl _) x (by rw [hab];exact List.mem_cons_self)
    obtain ⟨m,hm⟩:=sy_fst j hj
    have hb:bl x=([103,109,115,74,99,112]:List UInt8).getD j 0 :: (m ++if e=1 then [] else [UInt8.ofNat (48+e).toNat]):=by rw [hx,bl_item,hm];rfl
    have ht2:=ht
    rw [hb,List.cons_append,List.cons_append] at ht2
    have hne:∀ j,j < 6→([103,109,115,74,99,112]:List UInt8).getD j 0≠49:=by decide
    have hn:¬ cpB (text D) ⟨#[49]⟩:=cpB_not ht2 (y:=49) (m:=[]) rfl (hne j hj)
    unfold start
    rw [if_neg hn,bl_append,ht]
    refine ⟨?_,by rw [←ht,ht2];exact List.cons_ne_nil _ _⟩
    show [42] ++(_ ++_ ++_)=_
    unfold Lib.joinTail
    simp
theorem text_ne {D:List Int}:text D≠ByteArray.empty↔Rt D:=by
  refine ⟨fun h=>?_,fun h=>ne_empty.2 (start_tks h).2⟩
  unfold text at h
  split at h
  · assumption
  · exact absurd rfl h
theorem read_empty:read ByteArray.empty=none:=by decide +kernel
theorem read_some {s:ByteArray} {d:List Int} (h:read s=some d):text d=s∧Rt d:=by
  have h0:=h
  unfold read at h
  split at h
  · cases h
  · split at h
    · rename_i ht
      obtain rfl:=Option.some.inj h
      refine ⟨ht,text_ne.1 fun e=>?_⟩
      rw [ht] at e
      rw [e,read_empty] at h0;cases h0
    · cases h
end Dm

open Go
namespace Un
open Fr Bg
def Sg (q:ByteArray):Prop:=bl q=[]∨∃ c l,bl q=c :: l∧((c.toNat:Int)=42∨(c.toNat:Int)=47)
theorem Sg.nl {q:ByteArray} (h:Sg q):nlL (bl q)=0:=by
  rcases h with h | ⟨c,l,h,k⟩
  · rw [h];rfl
  · rw [h];unfold nlL;rw [if_neg];unfold ltr;omega
theorem Sg.num {q:ByteArray} (h:Sg q):¬ num q:=by
  rintro ⟨⟨h1,h2⟩,h3⟩
  rcases h with h | ⟨c,l,h,k⟩
  · exact h1 (bl_inj h)
  · rw [h] at h2;have e:(c :: l).getD 0 default=c:=rfl
    rw [e] at h2;omega
def Z6:List Int:=[0,0,0,0,0,0]
theorem tmN_mul {a b f:Rat} {p:Prop} [Decidable p]:∀ n,tmN (a * b) f p n=a * tmN b f p n
  | 0=>rfl
  | n+1=>by
    rw [tmN,tmN,tmN_mul n]
    split
    · rw [Rat.mul_assoc]
    · rw [Rat.div_def,Rat.div_def,Rat.mul_assoc]
theorem tm_mul {a b f:Rat} {e:Int}:tm (a * b) f e=a * tm b f e:=tmN_mul _
theorem acc_len:∀ (l:List Ditem) (u v:U),u.1.length=6→acc l u=some v→v.1.length=6
  | [],u,v,h,k=>by obtain rfl:=Option.some.inj k;exact h
  | x :: l,u,v,h,k=>by
    unfold acc at k
    split at k
    · exact acc_len l _ v rfl k
    · cases k
structure RdIs (s:ByteArray) (l:List Ditem) (d:List Int) (r:Rat):Prop where
  it:items s=some l
  ac:acc l (Z6,1)=some (d,r)
  rt:Dm.Rt d
  len:d.length=6
theorem read_is {s:ByteArray} (h:(read s).2=0):∃ l d r,RdIs s l d r∧read s=(some (d,r),0):=by
  unfold read at h ⊢
  split at h
  · rename_i hi
    rw [if_pos hi]
    unfold fin at h ⊢
    split at h
    · rename_i ha
      rw [if_pos ha]
      split at h
      · rename_i hr
        rw [if_pos hr]
        obtain ⟨⟨d,r⟩,hx⟩:=Option.isSome_iff_exists.1 ha
        obtain ⟨l,hl⟩:=Option.isSome_iff_exists.1 hi
        rw [hl] at hx hr
        rw [hl]
        simp only [Option.getD_some] at hx hr ⊢
        rw [hx] at hr ⊢
        exact ⟨l,d,r,⟨hl,hx,hr,acc_len l _ _ rfl hx⟩,rfl⟩
      · simp at h
    · simp at h
  · simp at h
theorem RdIs.read {s:ByteArray} {l:List Ditem} {d:List Int} {r:Rat} (h1:items s=some l) (h2:acc l (Z6,1)=some (d,r)):Un.read s=if Dm.Rt d then (some (d,r),0) else (none,3):=by
  have hi:(items s).isSome=true:=by rw [h1];rfl
  by_cases hd:Dm.Rt d
  · rw [if_pos hd];exact read_ok hi (by rw [h1];exact h2) hd
  · rw [if_neg hd];exact read_rng hi (by rw [h1];exact h2) hd
theorem sgn_ne {c:UInt8} {t:ByteArray}:¬ (⟨#[c]⟩:ByteArray) ++t=ByteArray.empty:=fun e=>by
  have:=congrArg bl e
  rw [bl_append] at this
  cases this
theorem sgn_ext {c:UInt8} {t:ByteArray}:((⟨#[c]⟩:ByteArray) ++t).extract 1 ((⟨#[c]⟩:ByteArray) ++t).size=t:=by
  apply bl_inj
  rw [bl_extract,← bl_len,List.take_length,bl_append];rfl
theorem sgn_hd {c:UInt8} {t:ByteArray}:(bl ((⟨#[c]⟩:ByteArray) ++t)).getD 0 default=c:=by rw [bl_append];rfl
end Un

open Go
namespace Un
open Fr Bg
def UR (d:List Int) (ps:Int) (pd:List Int) (qs:Int) (qd:List Int):Prop:=Dm.Rt d∧FrB ps pd qs qd∧0 < ps
instance (d : List Int) (ps : Int) (pd : List Int) (qs : Int) (qd : List Int) : Decidable (UR d ps pd qs qd) := by unfold UR; infer_instance
theorem UR.pos {d:List Int} {ps qs:Int} {pd qd:List Int} (h:UR d ps pd qs qd):0 < fq ps pd qd:=by
  have:=h.2.1.eqs.1
  have h0:=h.2.2
  rw [this] at h0
  exact sgn_num.2.2.1 h0
theorem UR.ne {d:List Int} {ps qs:Int} {pd qd:List Int} (h:UR d ps pd qs qd):fq ps pd qd≠0:=fun e=>by
  have:=h.pos;rw [e] at this;exact absurd this (by decide)
theorem UR.ps {d:List Int} {ps qs:Int} {pd qd:List Int} (h:UR d ps pd qs qd):ps≠0:=by have:=h.2.2;omega
theorem intz (n:Int):Fz (sgn n) (dig n.natAbs) 1 (dig 1) (n:Rat):=⟨FrB.of (n:Rat),fq_of (n:Rat)⟩
def vec (o:Option U):List Int:=[dv o 0,dv o 1,dv o 2,dv o 3,dv o 4,dv o 5]
def means (s d:ByteArray) (p q:Int):Prop:=((read s).2=0∧Dm.text (vec (read s).1)=d)∧(read s).1.isSome=true∧fv (read s).1=Rat.divInt p q
instance (s d : ByteArray) (p q : Int) : Decidable (means s d p q) := by unfold means; infer_instance
theorem read_some {s:ByteArray} (h:(read s).2=0):(read s).1.isSome=true:=by
  obtain ⟨l,d,r,_,h2⟩:=read_is h
  rw [h2];rfl
end Un

open Go Go.Proofs
set_option maxRecDepth 10000 in
theorem r4right_ct (d:Int) (c:List Int) (l:SV) :
    Cp Tryz.prog 80 #[ag (DBig.mk d ⟨c,l⟩)] [fs true c l] (bv (decide (Bg.RtB d c))):=by
  refine V.fn mo Tryz.func80 56 1 (by kernel_rfl) fun w H ε k0=>?_;obtain ⟨⟨kl1, -⟩, -⟩:Lq c l.v∧True:=kq k0
  clear k0;refine V.g [.nb 0 0 (fun b=>pp b 0) 27 (fun _=>ca (DBig.mk d ⟨c,l⟩)),.kb false] fun _ _ G1=>?_;intro S s
  refine V.g [.k (iv 0)] fun _ _ G2=>?_;intro S s
  refine V.loop (γ:=Int) (fun i=>⟨[(1,pp ((G1 0).b) 0),(3,iv i)],[fs false c l],[.blk ((G1 0).b) (ca (DBig.mk d ⟨c,l⟩)) 27]⟩) (fun i=>(0≤i)∧(i≤(c.length:Int))∧(0≤i)∧(i≤(c.length:Int))∧(∀ j,j < i.toNat→0≤c.getD j default∧c.getD j default < 1048576)) (fun i=>((c.length:Int)-i).toNat) 0 (by kernel_rfl) [0] (by kernel_rfl) ?_ ?_
  · refine ⟨?_,?_,?_,?_,?_⟩
    · show 0≤(0:Int)
      first | omega | rfl | (simp;done) | (subst_vars;simp;done)
    · show (0:Int)≤(c.length:Int)
      first | omega | rfl | (simp;done) | (subst_vars;simp;done)
    · show 0≤(0:Int);omega
    · show (0:Int)≤(c.length:Int);omega
    show ∀ j,j < (0:Int).toNat→0≤c.getD j default∧c.getD j default < 1048576;intro j hj;simp at hj
  rintro i hF1 kw3 Z1 hZ1;have hF1:(0≤i)∧(i≤(c.length:Int))∧(0≤i)∧(i≤(c.length:Int))∧(∀ j,j < i.toNat→0≤c.getD j default∧c.getD j default < 1048576):=hF1;obtain ⟨hf1,hf2,hf3,hf4,hf5⟩:=hF1;clear kw3;refine V.g [.k (iv i),.k (pp ((G1 0).b) 1),.ld 0 1 false (fun _=>[l.v]),.ln (kf false (.f 0) c (fun _=>l)),.k (bv (decide (i < (c.length:Int))))] fun _ _ G3=>?_;intro S s;refine V.cn (b:=decide (i < (c.length:Int))) iDT iDF (fun q1=>?_) (fun q2=>?_)
  · refine nm (c.getD i.toNat default:Int) fun v1 hv1=>?_;refine V.g [.k (pp ((G1 0).b) 1),.ld 0 1 false (fun _=>[l.v]),.k (iv i),.ix g0 (kf false (.f 0) c (fun _=>l)) i (fun _=>⟨by omega,by omega⟩),.le g0 (kf false (.f 0) c (fun _=>l)) i none false v1 hv1 (fun _=>⟨by omega,by omega⟩) false (fun _=>[iv v1]),.k (bv (decide (v1 < 0))),.k (bv (decide (v1 < 0))),.k (pp ((G1 0).b) 1),.ld 0 1 false (fun _=>[l.v]),.k (iv i),.ix (gF (b:=decide (v1 < 0)) iDF) (kf false (.f 0) c (fun _=>l)) i (fun hg=>⟨by omega,by omega⟩),.le (gF (b:=decide (v1 < 0)) iDF) (kf false (.f 0) c (fun _=>l)) i none false v1 hv1 (fun hg=>⟨by omega,by omega⟩) false (fun _=>[iv v1]),.k (bv (decide (1048576≤v1))),.or g0 false (decide (v1 < 0)) (decide (1048576≤v1))] fun _ _ G4=>?_;intro S s
    refine V.cn (b:=(decide (v1 < 0)) || (decide (1048576≤v1))) (iOT iDT iDT) (iOF iDF iDF) (fun q3=>?_) (fun q4=>?_)
    · refine V.g [.kb false] fun _ _ G5=>?_;intro S s
      have e0:false=decide (Bg.RtB d c):=by exact (decide_eq_false (Bg.rt_bad (k:=i.toNat) (by omega) hv1 (by have hqq:=q3;omega))).symm
      exact V.rt [0] [] [] [] [] [] (bv false) (cong1 (fun (x0:Bool)=>(bv x0:Value)) e0)
    refine V.g [.k (iv i),.a (i+1) (by omega) (by omega),.k (iv (i+1))] fun _ _ G6=>?_;intro S s
    refine V.rnd hZ1 (i+1) [0] (by kernel_rfl) ?_ ?_
    · refine ⟨?_,?_,?_,?_,?_⟩
      · show 0≤(i+1);omega
      · show (i+1)≤(c.length:Int);omega
      · show 0≤(i+1);omega
      · show (i+1)≤(c.length:Int);omega
      show ∀ j,j < (i+1).toNat→0≤c.getD j default∧c.getD j default < 1048576;intro j hj;by_cases e:j < i.toNat
      · exact hf5 j e
      rw [show j=i.toNat by omega,← hv1];have hqq:=q4;omega
    show ((c.length:Int)-(i+1)).toNat < ((c.length:Int)-i).toNat;omega
  refine V.g [.k (pp ((G1 0).b) 1),.ld 0 1 false (fun _=>[l.v]),.ln (kf false (.f 0) c (fun _=>l)),.k (iv (c.length:Int))] fun _ _ G7=>?_;intro S s
  refine nm ((decide (d < (-1))) || (decide (1 < d)):Bool) fun p1 hp1=>?_;refine nm (p1 || (!((decide ((c.length:Int)=0)) == (decide (d=0)))):Bool) fun p2 hp2=>?_;refine V.g [.k (pp ((G1 0).b) 0),.ld 0 0 false (fun _=>[iv d]),.k (bv (decide (d < (-1)))),.k (bv (decide (d < (-1)))),.k (pp ((G1 0).b) 0),.ld 0 0 false (fun _=>[iv d]),.k (bv (decide (1 < d))),.orn g0 false (decide (d < (-1))) (decide (1 < d)) p1 hp1,.k (bv p1),.k (iv (c.length:Int)),.k (bv (decide ((c.length:Int)=0))),.k (pp ((G1 0).b) 0),.ld 0 0 false (fun _=>[iv d]),.k (bv (decide (d=0))),.k (bv (!((decide ((c.length:Int)=0)) == (decide (d=0))))),.orn g0 false p1 (!((decide ((c.length:Int)=0)) == (decide (d=0)))) p2 hp2] fun _ _ G8=>?_;intro S s
  refine V.cn (b:=p2) (iN hp2 (iOT (iN hp1 (iOT iDT iDT)) (iNT (iQF iDT iDT)))) (iN hp2 (iOF (iN hp1 (iOF iDF iDF)) (iNF (iQT iDT iDT)))) (fun q5=>?_) (fun q6=>?_)
  · refine V.g [.kb false] fun _ _ G9=>?_;intro S s
    have e0:false=decide (Bg.RtB d c):=(decide_eq_false (Bg.r4_no q5)).symm;exact V.rt [0] [] [] [] [] [] (bv false) (cong1 (fun (x0:Bool)=>(bv x0:Value)) e0)
  have h7n:¬ ((d < -1∨1 < d)∨¬ ((c.length:Int)=0↔d=0)):=by have hqq:=q6;rintro (h | h);omega;exact h (by first | exact hqq.2 | exact Classical.not_not.1 hqq.2)
  refine nm ((c.length:Int)-1:Int) fun n1 hn1=>?_;refine nm (c.getD n1.toNat default:Int) fun v2 hv2=>?_;refine nm ((decide ((c.length:Int)=0)) || (!(decide (v2=0))):Bool) fun p3 hp3=>?_;refine V.g [.k (iv (c.length:Int)),.k (bv (decide ((c.length:Int)=0))),.k (bv (decide ((c.length:Int)=0))),.k (pp ((G1 0).b) 1),.ld 0 1 false (fun _=>[l.v]),.k (iv (c.length:Int)),.arg (gF (b:=decide ((c.length:Int)=0)) iDF) ((c.length:Int)-1) n1 hn1 (fun hg=>by omega),.ix (gF (b:=decide ((c.length:Int)=0)) iDF) (kf false (.f 0) c (fun _=>l)) n1 (fun hg=>⟨by omega,by omega⟩),.le (gF (b:=decide ((c.length:Int)=0)) iDF) (kf false (.f 0) c (fun _=>l)) n1 none false v2 hv2 (fun hg=>⟨by omega,by omega⟩) false (fun _=>[iv v2]),.k (bv (!(decide (v2=0)))),.orn g0 false (decide ((c.length:Int)=0)) (!(decide (v2=0))) p3 hp3,.k (bv p3)] fun _ _ G10=>?_;intro S s
  have e0:p3=decide (Bg.RtB d c):=by
    refine Bool.eq_iff_iff.2 (Iff.trans (iN hp3 (iOT iDT (iNT iDF))) (Iff.trans ?_ decide_eq_true_iff.symm));exact Bg.r4_fin (fun j hj=>hf5 j (by omega)) h7n hv2 (by first | rfl | exact hn1)
  exact V.rt [0] [] [] [] [] [] (bv p3) (cong1 (fun (x0:Bool)=>(bv x0:Value)) e0)
set_option maxRecDepth 10000 in
theorem r4trim_ct (l:List Int) (ls:SV) (hd:Bg.Dg l) (hll:l.length≤140737488355) :
    Ct Tryz.prog 148 #[ls.v] [fs true l ls] [] (fun g=>((g.ss 0)).v) (fun g=>[fs true (Bg.dig (Bg.nv l)) (g.ss 0)]) (fun g=>[]) (fun g=>[]):=by
  refine V.fn mo Tryz.func148 23 1 (by kernel_rfl) fun w H ε k0=>?_;obtain ⟨⟨kl1, -⟩, -⟩:Lq l ls.v∧True:=kq k0
  clear k0;refine V.g [.k (.slice none 0 0)] fun _ _ G1=>?_;intro S_ s_
  refine V.g [.k (ls.v),.ln (kf false (.f 0) l (fun _=>ls)),.k (iv (l.length:Int))] fun _ _ G2=>?_;intro S_ s_
  refine V.loop (γ:=Int) (fun n=>⟨[(0,ls.v),(3,iv n)],[fs false l ls],[.no]⟩) (fun n=>(0≤n)∧(n≤(l.length:Int))∧(∀ i,n.toNat≤i→i < l.length→l.getD i 0=0)) (fun n=>n.toNat) (l.length:Int) (by kernel_rfl) [0] (by kernel_rfl) ?_ ?_
  · refine ⟨?_,?_,?_⟩
    · show 0≤(l.length:Int);omega
    · show (l.length:Int)≤(l.length:Int);omega
    show ∀ i,(l.length:Int).toNat≤i→i < l.length→l.getD i 0=0;intro i h1 h2;omega
  rintro n hF1 kw3 Z1 hZ1;have hF1:(0≤n)∧(n≤(l.length:Int))∧(∀ i,n.toNat≤i→i < l.length→l.getD i 0=0):=hF1;obtain ⟨hf1,hf2,hf3⟩:=hF1;clear kw3;refine nm (l.getD (n-1).toNat default:Int) fun v1 hv1=>?_;refine V.g [.k (iv n),.k (bv (decide (0 < n))),.k (bv (decide (0 < n))),.k (ls.v),.k (iv n),.arg (gT (b:=decide (0 < n)) iDT) (n-1) (n-1) rfl (fun hg=>by omega),.ix (gT (b:=decide (0 < n)) iDT) (kf false (.f 0) l (fun _=>ls)) (n-1) (fun hg=>⟨by omega,by omega⟩),.le (gT (b:=decide (0 < n)) iDT) (kf false (.f 0) l (fun _=>ls)) (n-1) none false v1 hv1 (fun hg=>⟨by omega,by omega⟩) false (fun _=>[iv v1]),.k (bv (decide (v1=0))),.and g0 false (decide (0 < n)) (decide (v1=0))] fun _ _ G3=>?_;intro S_ s_;refine V.cn (b:=(decide (0 < n)) && (decide (v1=0))) (iAT iDT iDT) (iAF iDF iDF) (fun q1=>?_) (fun q2=>?_)
  · refine V.g [.k (iv n),.a (n-1) (by omega) (by omega),.k (iv (n-1))] fun _ _ G4=>?_;intro S_ s_
    refine V.rnd hZ1 (n-1) [0] (by kernel_rfl) ?_ ?_
    · refine ⟨?_,?_,?_⟩
      · show 0≤(n-1);omega
      · show (n-1)≤(l.length:Int);omega
      show ∀ i,(n-1).toNat≤i→i < l.length→l.getD i 0=0;intro i h1 h2;by_cases e:n.toNat≤i
      · exact hf3 i e h2
      rw [show i=(n-1).toNat by omega];exact hv1.symm.trans q1.2
    show (n-1).toNat < n.toNat;omega
  refine nm (l.take n.toNat:List Int) fun l1 hl1=>?_;have hl1n:=congrArg List.length hl1;try simp only [List.length_append,List.length_cons,List.length_nil,List.length_replicate,List.length_set,List.length_take,List.length_drop,List.length_map,List.length_reverse,List.length_range] at hl1n
  refine nm (([]:List Int) ++l1:List Int) fun l2 hl2=>?_;have hl2n:=congrArg List.length hl2;try simp only [List.length_append,List.length_cons,List.length_nil,List.length_replicate,List.length_set,List.length_take,List.length_drop,List.length_map,List.length_reverse,List.length_range] at hl2n
  refine V.r [.nl 0 0 true 3 ([]:List Int) [] (fun _ _ _ _ _=>trivial) (fun _=>#[]),.k (ls.v),.k (iv n),.sl g0 (kf false (.f 0) l (fun _=>ls)) rfl none (some n) 0 n rfl rfl l1 (by rw [hl1];simp) (fun _=>⟨by omega,by omega,by omega⟩),.ap 4 0 3 8 false true ([]:List Int) (fun G=>⟨atB (G 0).b,0,0⟩) (kf false (.g 3 0) l1 (fun _=>(ls.sub 1 (0:Int).toNat n.toNat))) true l2 hl2 (by (try simp only [List.length_append,List.length_cons,List.length_nil,List.length_replicate,List.length_set,List.length_take,List.length_drop,List.length_map,List.length_reverse,List.length_range]);omega) (fun h=>by cases h) (.inr fun _ _=>trivial),.v fun G=>((G 4).s).v] fun _ _ G5 kw6=>?_;intro S_ s_
  obtain ⟨⟨kl2, -⟩, -⟩:Lq l1 ((ls.sub 1 (0:Int).toNat n.toNat).v)∧Lq l2 (((G5 4).s).v)∧True:=kq kw6;clear kw6;refine V.frz 0 true 3 l2 ((G5 4).s) (by kernel_rfl) ?_;have e0:l2=Bg.dig (Bg.nv l):=by rw [hl2,hl1];rw [List.nil_append];exact Bg.trim_eq hd (by omega) hf3 (Bg.trim_stop (fun _=>hv1) q2)
  subst e0;exact V.rs [0] [(G5 4).s] [fun _=>{}] [] [2] [] (((G5 4).s).v)
theorem r4trim_ctv (l:List Int) (ls:SV) (hd:Bg.Dg l) (hll:l.length≤140737488355) (rv0:List Int) (erv0:rv0=Bg.dig (Bg.nv l)) :
    Ct Tryz.prog 148 #[ls.v] [fs true l ls] [] (fun g=>((g.ss 0)).v) (fun g=>[fs true rv0 (g.ss 0)]) (fun g=>[]) (fun g=>[]):=by
  subst erv0;exact r4trim_ct l ls hd hll
set_option maxRecDepth 10000 in
theorem r4made_ct (sign:Int) (l:List Int) (ls:SV) (hd:Bg.Dg l) (hll:l.length≤140737488355) :
    Ct Tryz.prog 119 #[iv sign,ls.v] [fs true l ls] [] (fun g=>ag (DBig.mk (Bg.sg0 (Bg.nv l) sign) ⟨Bg.dig (Bg.nv l),(g.ss 0)⟩)) (fun g=>[fs true (Bg.dig (Bg.nv l)) (g.ss 0)]) (fun g=>[]) (fun g=>[]):=by
  refine V.fn mo Tryz.func119 15 1 (by kernel_rfl) fun w H ε k0=>?_;obtain ⟨⟨kl1, -⟩, -⟩:Lq l ls.v∧True:=kq k0
  clear k0;refine V.g [.nb 0 0 (fun b=>pp b 0) 27 (fun _=>ca (DBig.mk 0 ⟨[],{}⟩))] fun _ _ G1=>?_;intro S s
  refine nl (Bg.dig (Bg.nv l)) fun l1 hl1 hl1n=>?_;refine V.r [.k (ls.v),.ct g0 1 148 false [] [] [(kf false (.f 0) l (fun _=>ls)).a] (fun _ G=>r4trim_ctv l ls (by first | assumption | (subst_vars;exact Bg.dig_Dg _)) (by omega) l1 hl1),.v fun G=>((G 1).ss 0).v] fun _ _ G2 kw2=>?_;intro S s
  obtain ⟨⟨kl2, -⟩, -⟩:Lq l1 (((G2 1).ss 0).v)∧True:=kq kw2;clear kw2;refine V.g [.k (((G2 1).ss 0).v),.ln (kf true (.f 1) l1 (fun _=>(G2 1).ss 0)),.k (bv (decide ((l1.length:Int)=0)))] fun _ _ G3=>?_;intro S s;refine V.cn (b:=decide ((l1.length:Int)=0)) iDT iDF (fun q1=>?_) (fun q2=>?_)
  · have hz:((Bg.dig (Bg.nv l)).length:Int)=0:=by have hqq:=q1;subst_vars;exact hqq
    refine V.g [.k (ag (DBig.mk 0 ⟨[],{}⟩)),.st 0 (fun _=>.blk ((G1 0).b) (ca (DBig.mk 0 ⟨[],{}⟩)) 27)] fun _ _ G4=>?_;intro S s
    refine V.nilF (α:=Int) ?_;have e1:([]:List Int)=Bg.dig (Bg.nv l):=Bg.made_d hz;rw [←e1];have e0:(0:Int)=Bg.sg0 (Bg.nv l) sign:=Bg.made_s hz;exact V.rt [0] [{}] [fun _=>{}] [] [2] [] (ag (DBig.mk 0 ⟨([]:List Int),{}⟩)) (cong1 (fun (x0:Int)=>(.agg #[iv x0,SV.v ({})]:Value)) e0)
  have hz:¬ ((Bg.dig (Bg.nv l)).length:Int)=0:=by have hqq:=q2;subst_vars;exact hqq
  refine V.g [.k (iv sign),.k (((G2 1).ss 0).v),.k (ag (DBig.mk sign ⟨l1,(G2 1).ss 0⟩)),.st 0 (fun _=>.blk ((G1 0).b) (ca (DBig.mk sign ⟨l1,(G2 1).ss 0⟩)) 27)] fun _ _ G5=>?_;intro S s
  have e1:l1=Bg.dig (Bg.nv l):=by rw [hl1]
  subst e1;have e0:sign=Bg.sg0 (Bg.nv l) sign:=Bg.made_s' hz;exact V.rt [0] [(G2 1).ss 0] [fun _=>{}] [] [1] [] (ag (DBig.mk sign ⟨(Bg.dig (Bg.nv l)),(G2 1).ss 0⟩)) (cong1 (fun (x0:Int)=>(.agg #[iv x0,((G2 1).ss 0).v]:Value)) e0)
theorem r4made_ctv (sign:Int) (l:List Int) (ls:SV) (hd:Bg.Dg l) (hll:l.length≤140737488355) (rv0:Int) (erv0:rv0=Bg.sg0 (Bg.nv l) sign) (rv1:List Int) (erv1:rv1=Bg.dig (Bg.nv l)) :
    Ct Tryz.prog 119 #[iv sign,ls.v] [fs true l ls] [] (fun g=>ag (DBig.mk rv0 ⟨rv1,(g.ss 0)⟩)) (fun g=>[fs true rv1 (g.ss 0)]) (fun g=>[]) (fun g=>[]):=by
  subst erv0 erv1;exact r4made_ct sign l ls hd hll
set_option maxRecDepth 10000 in
theorem r4of_ct (n:Int) (hn: -9223372036854775808≤n∧n≤9223372036854775807) :
    Ct Tryz.prog 83 #[iv n] [] [] (fun g=>ag (DBig.mk (Bg.sgn n) ⟨Bg.dig n.natAbs,(g.ss 0)⟩)) (fun g=>[fs true (Bg.dig n.natAbs) (g.ss 0)]) (fun g=>[]) (fun g=>[]):=by
  refine V.fn mo Tryz.func83 28 2 (by kernel_rfl) fun w H ε k0=>?_;clear k0
  obtain ⟨N0,hN0⟩:∃ N0,N0=n.natAbs:=⟨_,rfl⟩;refine V.g [.nb 0 0 (fun b=>pp b 0) 27 (fun _=>ca (DBig.mk 0 ⟨[],{}⟩))] fun _ _ G1=>?_;intro S_ s_;refine V.g [.k (iv n),.k (bv (decide (n=0)))] fun _ _ G2=>?_;intro S_ s_;refine V.cn (b:=decide (n=0)) iDT iDF (fun q1=>?_) (fun q2=>?_)
  · refine V.g [.k (ag (DBig.mk 0 ⟨[],{}⟩)),.st 0 (fun _=>.blk ((G1 0).b) (ca (DBig.mk 0 ⟨[],{}⟩)) 27)] fun _ _ G3=>?_;intro S_ s_
    refine V.nilF (α:=Int) ?_;have e1:([]:List Int)=Bg.dig n.natAbs:=by rw [show n=0 from q1];rfl
    rw [←e1];have e0:(0:Int)=Bg.sgn n:=by rw [show n=0 from q1];rfl
    exact V.rt [0] [{}] [fun _=>{}] [] [0] [] (ag (DBig.mk 0 ⟨([]:List Int),{}⟩)) (cong1 (fun (x0:Int)=>(.agg #[iv x0,SV.v ({})]:Value)) e0)
  refine V.g [.k (iv 1)] fun _ _ G4=>?_;intro S_ s_
  refine V.g [.k (iv n),.k (bv (decide (n < 0)))] fun _ _ G5=>?_;intro S_ s_
  refine V.cut (γ:=Int) (fun sign=>⟨[(0,iv n),(2,pp ((G1 0).b) 0),(3,iv sign)],[],[.blk ((G1 0).b) (ca (DBig.mk 0 ⟨[],{}⟩)) 27,.no]⟩) (fun sign=>((n < 0∧sign= -1)∨(¬n < 0∧sign=1))) ?_ ?_
  · rintro sign hF1 kw6;have hf1:(n < 0∧sign= -1)∨(¬n < 0∧sign=1):=hF1;clear kw6;refine V.g [.k (.slice none 0 0)] fun _ _ G6=>?_;intro S_ s_;refine V.on (α:=Int) 1 3 (by kernel_rfl) ?_;refine V.loop (γ:=Int × List Int × SV) (fun ⟨n_1,l,ls⟩=>⟨[(0,iv n_1),(2,pp ((G1 0).b) 0),(3,iv sign),(4,ls.v)],[],[.blk ((G1 0).b) (ca (DBig.mk 0 ⟨[],{}⟩)) 27,os true 3 l ls]⟩) (fun ⟨n_1,l,ls⟩=>(-9223372036854775808≤n_1∧n_1≤9223372036854775807)∧(Bg.OfI N0 l ((n_1.natAbs:Nat):Int))∧(l.length≤4)) (fun ⟨n_1,l,ls⟩=>n_1.natAbs) (n,([]:List Int),{}) (by kernel_rfl) [] (by kernel_rfl) ?_ ?_
    · refine ⟨?_,?_,?_⟩
      · show -9223372036854775808≤n∧n≤9223372036854775807;omega
      · show Bg.OfI N0 ([]:List Int) ((n.natAbs:Nat):Int);exact Bg.of_start (by omega) (by omega)
      show ([]:List Int).length≤4
      simp
    rintro ⟨n_1,l,ls⟩ hF2 kw8 Z1 hZ1;have hF2:(-9223372036854775808≤n_1∧n_1≤9223372036854775807)∧(Bg.OfI N0 l ((n_1.natAbs:Nat):Int))∧(l.length≤4):=hF2;obtain ⟨hf2,hf3,hf4⟩:=hF2;obtain ⟨⟨kl1, -⟩, -⟩:Lq l ls.v∧True:=kq kw8;clear kw8;have hol:n_1≠0→l.length≤3:=fun hne=>Bg.of_len hf3 (by omega) (by omega);refine V.g [.k (iv n_1),.k (bv (!(decide (n_1=0))))] fun _ _ G7=>?_;intro S_ s_;refine V.cn (b:=!(decide (n_1=0))) (iNT iDF) (iNF iDT) (fun q3=>?_) (fun q4=>?_)
    · refine nm (n_1.tmod 1048576:Int) fun n1 hn1=>?_;refine V.g [.k (iv n_1),.e g0 (iv (n_1.tmod 1048576)) (iv n1) (fun _=>by rw [hn1]),.k (iv n1)] fun _ _ G8=>?_;intro S_ s_
      refine V.g [.k (iv n1),.k (bv (decide (n1 < 0)))] fun _ _ G9=>?_;intro S_ s_
      refine V.cut (γ:=Int) (fun d=>⟨[(0,iv n_1),(2,pp ((G1 0).b) 0),(3,iv sign),(4,ls.v),(5,iv d)],[],[.blk ((G1 0).b) (ca (DBig.mk 0 ⟨[],{}⟩)) 27,os true 3 l ls]⟩) (fun d=>(d=((n_1.natAbs % 1048576:Nat):Int))) ?_ ?_
      · rintro d hF3 kw12;have hf5:d=((n_1.natAbs % 1048576:Nat):Int):=hF3;clear kw12;refine nm (l ++[d]:List Int) fun l1 hl1=>?_;have hl1n:=congrArg List.length hl1;try simp only [List.length_append,List.length_cons,List.length_nil,List.length_replicate,List.length_set,List.length_take,List.length_drop,List.length_map,List.length_reverse,List.length_range] at hl1n
        refine V.r [.k (ls.v),.k (iv d),.nr 2 true 3 [d] [] (fun _ _ _ _ _=>trivial) (fun _=>#[iv d]),.ap 3 1 3 8 false true l (fun _=>ls) (kf true (.g 2 0) [d] (fun G=>⟨atB (G 2).b,1,1⟩)) true l1 hl1 (by (try simp only [List.length_append,List.length_cons,List.length_nil,List.length_replicate,List.length_set,List.length_take,List.length_drop,List.length_map,List.length_reverse,List.length_range]);omega) (fun h=>by cases h) (.inr fun _ _=>trivial),.v fun G=>((G 3).s).v] fun _ _ G10 kw13=>?_;intro S_ s_
        obtain ⟨⟨kl2, -⟩, -⟩:Lq [d] (SV.v ⟨atB (G10 2).b,1,1⟩)∧Lq l1 (((G10 3).s).v)∧True:=kq kw13;clear kw13;refine nm (n_1.tdiv 1048576:Int) fun n2 hn2=>?_;refine V.g [.k (iv n_1),.e g0 (.int .i64 (IntKind.i64.wrap (n_1.tdiv 1048576))) (iv n2) (fun _=>by rw [←hn2];congr 1;rw [IntKind.wrap_i64];have h1:=Bg.tdiv_abs (n:=n_1);rw [←hn2] at h1;omega),.k (iv n2)] fun _ _ G11=>?_;intro S_ s_;refine V.rnd hZ1 (n2,l1,(G10 3).s) [] (by kernel_rfl) ?_ ?_
        · refine ⟨?_,?_,?_⟩
          · show -9223372036854775808≤n2∧n2≤9223372036854775807;have h1:=@Bg.tdiv_abs n_1;rw [←hn2] at h1;omega
          · show Bg.OfI N0 l1 ((n2.natAbs:Nat):Int);have hst:=Bg.of_step hf3;rw [hl1,hf5,show ((n2.natAbs:Nat):Int)=((n_1.natAbs:Nat):Int) / 1048576 by rw [hn2,Bg.tdiv_abs];omega];rw [show ((n_1.natAbs:Nat):Int) % 1048576=((n_1.natAbs % 1048576:Nat):Int) by omega] at hst;exact hst
          show l1.length≤4;omega
        show n2.natAbs < n_1.natAbs;rw [hn2];have h1:=@Bg.tdiv_abs n_1;rw [←hn2] at h1;omega
      intro Z2 hZ2;refine V.cn (b:=decide (n1 < 0)) iDT iDF (fun q5=>?_) (fun q6=>?_)
      · have h1:=Bg.tmod_abs hn1;rw [if_pos q5] at h1;refine V.g [.k (iv n1),.ng n1 (-n1) rfl (by omega) (by omega),.k (iv (-n1))] fun _ _ G12=>?_;intro S_ s_
        refine V.rnd hZ2 (-n1) [] (by kernel_rfl) ?_ ?_
        · · show (-n1)=((n_1.natAbs % 1048576:Nat):Int);have h:=Bg.tmod_abs hn1;rw [if_pos q5] at h;exact h
        trivial
      refine V.rnd hZ2 n1 [] (by kernel_rfl) ?_ ?_
      · · show n1=((n_1.natAbs % 1048576:Nat):Int);have h:=Bg.tmod_abs hn1;rw [if_neg q6] at h;exact h
      trivial
    have hnz:n_1=0:=by have hqq:=q4;first | exact hqq | exact Decidable.not_not.1 hqq
    have hO1:=hf3;have hO2:=Bg.of_end hO1 (by rw [hnz];decide);have hO3:=hO1.dg;refine nm (Bg.sg0 (Bg.nv l) sign:Int) fun n3 hn3=>?_;refine nl (Bg.dig (Bg.nv l)) fun l2 hl2 hl2n=>?_;refine V.r [.k (iv sign),.k (ls.v),.ct g0 2 119 false [] [] [(ko true 3 1 l (fun _=>ls)).a] (fun _ G=>r4made_ctv sign l ls hO3 (by omega) n3 hn3 l2 hl2),.st 0 (fun G=>.blk ((G1 0).b) (ca (DBig.mk n3 ⟨l2,(G 2).ss 0⟩)) 27)] fun _ _ G13 kw16=>?_;intro S_ s_
    obtain ⟨⟨kl3, -⟩, -⟩:Lq l2 (((G13 2).ss 0).v)∧Lq l ls.v∧True:=kq kw16;clear kw16;have e1:l2=Bg.dig n.natAbs:=by subst_vars;rw [hO2]
    subst e1;have e0:n3=Bg.sgn n:=by subst_vars;rw [hO2];exact Bg.of_sgn rfl _ (by omega)
    exact V.rt [0] [(G13 2).ss 0] [fun _=>{}] [] [0] [] (ag (DBig.mk n3 ⟨(Bg.dig n.natAbs),(G13 2).ss 0⟩)) (cong1 (fun (x0:Int)=>(.agg #[iv x0,((G13 2).ss 0).v]:Value)) e0)
  intro Z3 hZ3;refine V.cn (b:=decide (n < 0)) iDT iDF (fun q7=>?_) (fun q8=>?_)
  · refine V.g [.k (iv (-1))] fun _ _ G14=>?_;intro S_ s_
    refine V.rnd hZ3 (-1) [] (by kernel_rfl) ?_ ?_
    · · show (n < 0∧(-1:Int)= -1)∨(¬n < 0∧(-1:Int)=1);omega
    trivial
  refine V.rnd hZ3 1 [] (by kernel_rfl) ?_ ?_
  · · show (n < 0∧(1:Int)= -1)∨(¬n < 0∧(1:Int)=1);omega
  trivial
theorem r4of_ctv (n:Int) (hn: -9223372036854775808≤n∧n≤9223372036854775807) (rv0:Int) (erv0:rv0=Bg.sgn n) (rv1:List Int) (erv1:rv1=Bg.dig n.natAbs) :
    Ct Tryz.prog 83 #[iv n] [] [] (fun g=>ag (DBig.mk rv0 ⟨rv1,(g.ss 0)⟩)) (fun g=>[fs true rv1 (g.ss 0)]) (fun g=>[]) (fun g=>[]):=by
  subst erv0 erv1;exact r4of_ct n hn

open Go Go.Proofs
set_option maxRecDepth 10000 in
theorem r4digit_ct (l:List Int) (ls:SV) (i:Int) (h0:0≤i) :
    Cp Tryz.prog 149 #[ls.v,iv i] [fs true l ls] (iv (l.getD i.toNat 0)):=by
  refine V.fn mo Tryz.func149 13 0 (by kernel_rfl) fun w H ε k0=>?_;obtain ⟨⟨kl1, -⟩, -⟩:Lq l ls.v∧True:=kq k0
  clear k0;refine V.g [.k (iv 0)] fun _ _ G1=>?_;intro S s
  refine V.g [.k (iv i),.k (ls.v),.ln (kf false (.f 0) l (fun _=>ls)),.k (bv (decide (i < (l.length:Int))))] fun _ _ G2=>?_;intro S s
  refine V.cn (b:=decide (i < (l.length:Int))) iDT iDF (fun q1=>?_) (fun q2=>?_)
  · refine nm (l.getD i.toNat default:Int) fun v1 hv1=>?_;refine V.g [.k (ls.v),.k (iv i),.ix g0 (kf false (.f 0) l (fun _=>ls)) i (fun _=>⟨by omega,by omega⟩),.le g0 (kf false (.f 0) l (fun _=>ls)) i none false v1 hv1 (fun _=>⟨by omega,by omega⟩) false (fun _=>[iv v1]),.k (iv v1)] fun _ _ G3=>?_;intro S s
    have e0:v1=l.getD i.toNat 0:=hv1;exact V.rt [0] [] [] [] [] [] (iv v1) (cong1 (fun (x0:Int)=>(iv x0:Value)) e0)
  refine V.g [.k (iv 0)] fun _ _ G4=>?_;intro S s
  have e0:(0:Int)=l.getD i.toNat 0:=(Bg.getD_out (by omega)).symm;exact V.rt [0] [] [] [] [] [] (iv 0) (cong1 (fun (x0:Int)=>(iv x0:Value)) e0)
theorem r4digit_ctv (l:List Int) (ls:SV) (i:Int) (h0:0≤i) (rv0:Int) (erv0:rv0=l.getD i.toNat 0) :
    Cp Tryz.prog 149 #[ls.v,iv i] [fs true l ls] (iv rv0):=by
  subst erv0;exact r4digit_ct l ls i h0
set_option maxRecDepth 10000 in
theorem r4less_ct (a:List Int) (as_:SV) (b:List Int) (bs:SV) (hda:Bg.Dg a) (hdb:Bg.Dg b) :
    Cp Tryz.prog 121 #[as_.v,bs.v] [fs true a as_,fs true b bs] (bv (decide (Bg.nv a < Bg.nv b))):=by
  refine V.fn mo Tryz.func121 30 0 (by kernel_rfl) fun w H ε k0=>?_;obtain ⟨⟨kl1, -⟩,⟨kl2, -⟩, -⟩:Lq a as_.v∧Lq b bs.v∧True:=kq k0
  clear k0;refine V.g [.kb false] fun _ _ G1=>?_;intro S s
  refine nm (max (a.length:Int) (b.length:Int)-1:Int) fun n1 hn1=>?_;refine V.g [.k (as_.v),.ln (kf false (.f 0) a (fun _=>as_)),.k (bs.v),.ln (kf false (.f 1) b (fun _=>bs)),.mx (a.length:Int) (b.length:Int),.ar (max (a.length:Int) (b.length:Int)-1) n1 hn1 (by omega) (by omega),.k (iv n1)] fun _ _ G2=>?_;intro S s
  refine V.loop (γ:=Int) (fun i=>⟨[(0,as_.v),(1,bs.v),(5,iv i)],[fs false a as_,fs false b bs],[]⟩) (fun i=>(-1≤i)∧(i < 9223372036854775807)∧(Bg.nv (a.drop (i+1).toNat)=Bg.nv (b.drop (i+1).toNat))) (fun i=>(i+1).toNat) n1 (by kernel_rfl) [0,1] (by kernel_rfl) ?_ ?_
  · refine ⟨?_,?_,?_⟩
    · show -1≤n1;omega
    · show n1 < 9223372036854775807;omega
    show Bg.nv (a.drop (n1+1).toNat)=Bg.nv (b.drop (n1+1).toNat);rw [List.drop_of_length_le (by omega),List.drop_of_length_le (by omega)]
  rintro i hF1 kw3 Z1 hZ1;have hF1:(-1≤i)∧(i < 9223372036854775807)∧(Bg.nv (a.drop (i+1).toNat)=Bg.nv (b.drop (i+1).toNat)):=hF1;obtain ⟨hf1,hf2,hf3⟩:=hF1;clear kw3;refine V.g [.k (iv i),.k (bv (decide (0≤i)))] fun _ _ G3=>?_;intro S s;refine V.cn (b:=decide (0≤i)) iDT iDF (fun q1=>?_) (fun q2=>?_)
  · refine nm (a.getD i.toNat 0:Int) fun n2 hn2=>?_;refine nm (b.getD i.toNat 0:Int) fun n3 hn3=>?_;refine V.g [.k (as_.v),.k (iv i),.cp g0 2 149 [(kf false (.f 0) a (fun _=>as_)).a] (fun _ G=>r4digit_ctv a as_ i (by omega) n2 hn2),.k (bs.v),.k (iv i),.cp g0 5 149 [(kf false (.f 1) b (fun _=>bs)).a] (fun _ G=>r4digit_ctv b bs i (by omega) n3 hn3),.k (bv (!(decide (n2=n3))))] fun _ _ G4=>?_;intro S s
    refine V.cn (b:=!(decide (n2=n3))) (iNT iDF) (iNF iDT) (fun q3=>?_) (fun q4=>?_)
    · refine V.g [.k (as_.v),.k (iv i),.cp g0 2 149 [(kf false (.f 0) a (fun _=>as_)).a] (fun _ G=>r4digit_ctv a as_ i (by omega) n2 hn2),.k (bs.v),.k (iv i),.cp g0 5 149 [(kf false (.f 1) b (fun _=>bs)).a] (fun _ G=>r4digit_ctv b bs i (by omega) n3 hn3),.k (bv (decide (n2 < n3))),.k (bv (decide (n2 < n3)))] fun _ _ G5=>?_;intro S s
      have e0:(decide (n2 < n3))=decide (Bg.nv a < Bg.nv b):=by exact decide_eq_decide.2 (by rw [hn2,hn3];exact Bg.less_at (i:=i.toNat) hda hdb (by rw [show i.toNat+1=(i+1).toNat by omega];exact hf3) (by rw [←hn2,← hn3];exact q3))
      exact V.rt [0] [] [] [] [] [] (bv (decide (n2 < n3))) (cong1 (fun (x0:Bool)=>(bv x0:Value)) e0)
    refine V.g [.k (iv i),.a (i-1) (by omega) (by omega),.k (iv (i-1))] fun _ _ G6=>?_;intro S s
    refine V.rnd hZ1 (i-1) [0,1] (by kernel_rfl) ?_ ?_
    · refine ⟨?_,?_,?_⟩
      · show -1≤(i-1);omega
      · show (i-1) < 9223372036854775807;omega
      show Bg.nv (a.drop ((i-1)+1).toNat)=Bg.nv (b.drop ((i-1)+1).toNat);rw [show (i-1+1).toNat=i.toNat by omega];exact Bg.less_go (i:=i.toNat) (by rw [show i.toNat+1=(i+1).toNat by omega];exact hf3) (by rw [←hn2,← hn3];have hqq:=q4;first | exact hqq | exact Decidable.not_not.1 hqq)
    show ((i-1)+1).toNat < (i+1).toNat;omega
  refine V.g [.kb false] fun _ _ G7=>?_;intro S s
  have e0:false=decide (Bg.nv a < Bg.nv b):=by exact (decide_eq_false (by have hdr:=hf3;rw [show (i+1).toNat=0 by omega,List.drop_zero,List.drop_zero] at hdr;omega)).symm
  exact V.rt [0] [] [] [] [] [] (bv false) (cong1 (fun (x0:Bool)=>(bv x0:Value)) e0)
set_option maxRecDepth 10000 in
theorem r4plus_ct (a:List Int) (as_:SV) (b:List Int) (bs:SV) (hda:Bg.Dg a) (hdb:Bg.Dg b) (hla:a.length≤68719476736) (hlb:b.length≤68719476736) :
    Ct Tryz.prog 131 #[as_.v,bs.v] [fs true a as_,fs true b bs] [] (fun g=>((g.ss 0)).v) (fun g=>[fs true (Bg.dig (Bg.nv a+Bg.nv b)) (g.ss 0)]) (fun g=>[]) (fun g=>[]):=by
  refine V.fn mo Tryz.func131 43 1 (by kernel_rfl) fun w H ε k0=>?_;obtain ⟨⟨kl1, -⟩,⟨kl2, -⟩, -⟩:Lq a as_.v∧Lq b bs.v∧True:=kq k0
  clear k0;refine V.g [.k (.slice none 0 0)] fun _ _ G1=>?_;intro S_ s_
  refine V.g [.k (.slice none 0 0)] fun _ _ G2=>?_;intro S_ s_
  refine V.g [.k (iv 0)] fun _ _ G3=>?_;intro S_ s_
  refine V.g [.k (iv 0)] fun _ _ G4=>?_;intro S_ s_
  refine V.on (α:=Int) 0 3 (by kernel_rfl) ?_;refine V.loop (γ:=List Int × SV × Int × Int) (fun ⟨out,outs,carry,i⟩=>⟨[(0,as_.v),(1,bs.v),(5,outs.v),(6,iv carry),(7,iv i)],[fs false a as_,fs false b bs],[os true 3 out outs]⟩) (fun ⟨out,outs,carry,i⟩=>(Bg.PluI a b out i.toNat carry)∧(0≤i)∧(i≤max (a.length:Int) (b.length:Int)+1)∧(i=max (a.length:Int) (b.length:Int)+1→carry=0)) (fun ⟨out,outs,carry,i⟩=>(max (a.length:Int) (b.length:Int)+2-i).toNat) (([]:List Int),{},0,0) (by kernel_rfl) [0,1] (by kernel_rfl) ?_ ?_
  · refine ⟨?_,?_,?_,?_⟩
    · show Bg.PluI a b ([]:List Int) (0:Int).toNat (0:Int);exact Bg.plu_start _ _
    · show 0≤(0:Int);omega
    · show (0:Int)≤max (a.length:Int) (b.length:Int)+1;omega
    show (0:Int)=max (a.length:Int) (b.length:Int)+1→(0:Int)=0;omega
  rintro ⟨out,outs,carry,i⟩ hF1 kw5 Z1 hZ1;have hF1:(Bg.PluI a b out i.toNat carry)∧(0≤i)∧(i≤max (a.length:Int) (b.length:Int)+1)∧(i=max (a.length:Int) (b.length:Int)+1→carry=0):=hF1;obtain ⟨hf1,hf2,hf3,hf4⟩:=hF1;obtain ⟨-, -,⟨kl3, -⟩, -⟩:Lq a as_.v∧Lq b bs.v∧Lq out outs.v∧True:=kq kw5;clear kw5;have hol:=hf1.len;have hpc:=hf1.c0;refine nm ((decide (i < (a.length:Int))) || (decide (i < (b.length:Int))):Bool) fun p1 hp1=>?_;refine V.g [.k (iv i),.k (as_.v),.ln (kf false (.f 0) a (fun _=>as_)),.k (bv (decide (i < (a.length:Int)))),.k (bv (decide (i < (a.length:Int)))),.k (iv i),.k (bs.v),.ln (kf false (.f 1) b (fun _=>bs)),.k (bv (decide (i < (b.length:Int)))),.orn g0 false (decide (i < (a.length:Int))) (decide (i < (b.length:Int))) p1 hp1,.k (bv p1),.k (iv carry),.k (bv (decide (0 < carry))),.or g0 false p1 (decide (0 < carry))] fun _ _ G5=>?_;intro S_ s_;refine V.cn (b:=p1 || (decide (0 < carry))) (iOT (iN hp1 (iOT iDT iDT)) iDT) (iOF (iN hp1 (iOF iDF iDF)) iDF) (fun q1=>?_) (fun q2=>?_)
  · refine nm (a.getD i.toNat 0:Int) fun n1 hn1=>?_;refine nm (b.getD i.toNat 0:Int) fun n2 hn2=>?_;refine nm (n1+n2+carry:Int) fun n3 hn3=>?_;have hb1:=hda.get' i.toNat;have hb2:=hdb.get' i.toNat;rw [←hn1] at hb1;rw [←hn2] at hb2
    have hc0:=hf1.c0;have hz1:¬ i < (a.length:Int)→n1=0:=fun h=>by rw [hn1];exact Bg.getD_out (by omega)
    have hz2:¬ i < (b.length:Int)→n2=0:=fun h=>by rw [hn2];exact Bg.getD_out (by omega)
    refine V.g [.k (as_.v),.k (iv i),.cp g0 2 149 [(kf false (.f 0) a (fun _=>as_)).a] (fun _ G=>r4digit_ctv a as_ i (by omega) n1 hn1),.k (bs.v),.k (iv i),.cp g0 5 149 [(kf false (.f 1) b (fun _=>bs)).a] (fun _ G=>r4digit_ctv b bs i (by omega) n2 hn2),.a (n1+n2) (by omega) (by omega),.k (iv carry),.ar (n1+n2+carry) n3 hn3 (by omega) (by omega),.k (iv n3)] fun _ _ G6=>?_;intro S_ s_
    refine nm (n3 % 1048576:Int) fun n4 hn4=>?_;refine nm (out ++[n4]:List Int) fun l1 hl1=>?_;have hl1n:=congrArg List.length hl1;try simp only [List.length_append,List.length_cons,List.length_nil,List.length_replicate,List.length_set,List.length_take,List.length_drop,List.length_map,List.length_reverse,List.length_range] at hl1n
    refine V.r [.k (outs.v),.k (iv n3),.rem g0 n3 1048576 n4 hn4 (fun _=>by omega),.nr 3 true 3 [n4] [] (fun _ _ _ _ _=>trivial) (fun _=>#[iv n4]),.ap 4 0 3 8 false true out (fun _=>outs) (kf true (.g 3 0) [n4] (fun G=>⟨atB (G 3).b,1,1⟩)) true l1 hl1 (by (try simp only [List.length_append,List.length_cons,List.length_nil,List.length_replicate,List.length_set,List.length_take,List.length_drop,List.length_map,List.length_reverse,List.length_range]);omega) (fun h=>by cases h) (.inr fun _ _=>trivial),.v fun G=>((G 4).s).v] fun _ _ G7 kw8=>?_;intro S_ s_
    obtain ⟨⟨kl4, -⟩, -⟩:Lq [n4] (SV.v ⟨atB (G7 3).b,1,1⟩)∧Lq l1 (((G7 4).s).v)∧True:=kq kw8;clear kw8;refine nm (n3 / 1048576:Int) fun n5 hn5=>?_;refine V.g [.k (iv n3),.quo g0 n3 1048576 n5 hn5 (fun _=>⟨by omega,by omega⟩) (fun _=>by omega),.k (iv n5)] fun _ _ G8=>?_;intro S_ s_;refine V.g [.k (iv i),.a (i+1) (by omega) (by omega),.k (iv (i+1))] fun _ _ G9=>?_;intro S_ s_;refine V.rnd hZ1 (l1,(G7 4).s,n5,i+1) [0,1] (by kernel_rfl) ?_ ?_
    · refine ⟨?_,?_,?_,?_⟩
      · show Bg.PluI a b l1 (i+1).toNat n5;rw [hl1,hn4,hn5,show (i+1).toNat=i.toNat+1 by omega];exact Bg.plu_step hf1 hda hdb (by rw [←hn1,← hn2];omega)
      · show 0≤(i+1);omega
      · show (i+1)≤max (a.length:Int) (b.length:Int)+1;omega
      show (i+1)=max (a.length:Int) (b.length:Int)+1→n5=0;omega
    show (max (a.length:Int) (b.length:Int)+2-(i+1)).toNat < (max (a.length:Int) (b.length:Int)+2-i).toNat;omega
  have hen:=Bg.plu_end hf1 (by omega) (by omega) (by omega);have hdg:=hf1.dg;refine nl (Bg.dig (Bg.nv out)) fun l2 hl2 hl2n=>?_;refine V.r [.k (outs.v),.ct g0 1 148 false [] [] [(ko true 3 0 out (fun _=>outs)).a] (fun _ G=>r4trim_ctv out outs hdg (by omega) l2 hl2),.v fun G=>((G 1).ss 0).v] fun _ _ G10 kw11=>?_;intro S_ s_
  obtain ⟨⟨kl5, -⟩, -⟩:Lq l2 (((G10 1).ss 0).v)∧Lq out outs.v∧True:=kq kw11;clear kw11;have e0:l2=Bg.dig (Bg.nv a+Bg.nv b):=by
    rw [hl2];rw [hen]
  subst e0;exact V.rs [0] [(G10 1).ss 0] [fun _=>{}] [] [2] [] (((G10 1).ss 0).v)
theorem r4plus_ctv (a:List Int) (as_:SV) (b:List Int) (bs:SV) (hda:Bg.Dg a) (hdb:Bg.Dg b) (hla:a.length≤68719476736) (hlb:b.length≤68719476736) (rv0:List Int) (erv0:rv0=Bg.dig (Bg.nv a+Bg.nv b)) :
    Ct Tryz.prog 131 #[as_.v,bs.v] [fs true a as_,fs true b bs] [] (fun g=>((g.ss 0)).v) (fun g=>[fs true rv0 (g.ss 0)]) (fun g=>[]) (fun g=>[]):=by
  subst erv0;exact r4plus_ct a as_ b bs hda hdb hla hlb
set_option maxRecDepth 10000 in
theorem r4minus_ct (a:List Int) (as_:SV) (b:List Int) (bs:SV) (hda:Bg.Dg a) (hdb:Bg.Dg b) (hla:a.length≤68719476736) (hle:Bg.nv b≤Bg.nv a) :
    Ct Tryz.prog 132 #[as_.v,bs.v] [fs true a as_,fs true b bs] [] (fun g=>((g.ss 0)).v) (fun g=>[fs true (Bg.dig (Bg.nv a-Bg.nv b)) (g.ss 0)]) (fun g=>[]) (fun g=>[]):=by
  refine V.fn mo Tryz.func132 35 1 (by kernel_rfl) fun w H ε k0=>?_;obtain ⟨⟨kl1, -⟩,⟨kl2, -⟩, -⟩:Lq a as_.v∧Lq b bs.v∧True:=kq k0
  clear k0;refine V.g [.k (.slice none 0 0)] fun _ _ G1=>?_;intro S_ s_
  refine V.g [.k (.slice none 0 0)] fun _ _ G2=>?_;intro S_ s_
  refine V.g [.k (iv 0)] fun _ _ G3=>?_;intro S_ s_
  refine V.g [.k (iv 0)] fun _ _ G4=>?_;intro S_ s_
  refine V.on (α:=Int) 0 3 (by kernel_rfl) ?_;refine V.loop (γ:=List Int × SV × Int × Int) (fun ⟨out,outs,borrow,i⟩=>⟨[(0,as_.v),(1,bs.v),(5,outs.v),(6,iv borrow),(7,iv i)],[fs false a as_,fs false b bs],[os true 3 out outs]⟩) (fun ⟨out,outs,borrow,i⟩=>(0≤i)∧(i≤(a.length:Int))∧(Bg.MinI a b out i.toNat borrow)∧(0≤i)∧(i≤(a.length:Int))) (fun ⟨out,outs,borrow,i⟩=>((a.length:Int)-i).toNat) (([]:List Int),{},0,0) (by kernel_rfl) [0,1] (by kernel_rfl) ?_ ?_
  · refine ⟨?_,?_,?_,?_,?_⟩
    · show 0≤(0:Int);omega
    · show (0:Int)≤(a.length:Int);omega
    · show Bg.MinI a b ([]:List Int) (0:Int).toNat (0:Int);exact Bg.min_start _ _
    · show 0≤(0:Int);omega
    show (0:Int)≤(a.length:Int);omega
  rintro ⟨out,outs,borrow,i⟩ hF1 kw5 Z1 hZ1;have hF1:(0≤i)∧(i≤(a.length:Int))∧(Bg.MinI a b out i.toNat borrow)∧(0≤i)∧(i≤(a.length:Int)):=hF1;obtain ⟨hf1,hf2,hf3,hf4,hf5⟩:=hF1;obtain ⟨-, -,⟨kl3, -⟩, -⟩:Lq a as_.v∧Lq b bs.v∧Lq out outs.v∧True:=kq kw5;clear kw5;have hol:=hf3.len;refine V.g [.k (iv i),.k (as_.v),.ln (kf false (.f 0) a (fun _=>as_)),.k (bv (decide (i < (a.length:Int))))] fun _ _ G5=>?_;intro S_ s_;refine V.cn (b:=decide (i < (a.length:Int))) iDT iDF (fun q1=>?_) (fun q2=>?_)
  · refine nm (a.getD i.toNat default:Int) fun v1 hv1=>?_;refine nm (b.getD i.toNat 0:Int) fun n1 hn1=>?_;refine nm (v1-n1-borrow:Int) fun n2 hn2=>?_;have hb1:=hda.get' i.toNat;have hb2:=hdb.get' i.toNat;rw [←hn1] at hb2
    have hv0:a.getD i.toNat 0=v1:=hv1.symm;rw [hv0] at hb1;have hc0:=hf3.c0;refine V.g [.k (as_.v),.k (iv i),.ix g0 (kf false (.f 0) a (fun _=>as_)) i (fun _=>⟨by omega,by omega⟩),.le g0 (kf false (.f 0) a (fun _=>as_)) i none false v1 hv1 (fun _=>⟨by omega,by omega⟩) false (fun _=>[iv v1]),.k (bs.v),.k (iv i),.cp g0 6 149 [(kf false (.f 1) b (fun _=>bs)).a] (fun _ G=>r4digit_ctv b bs i (by omega) n1 hn1),.a (v1-n1) (by omega) (by omega),.k (iv borrow),.ar (v1-n1-borrow) n2 hn2 (by omega) (by omega),.k (iv n2)] fun _ _ G6=>?_;intro S_ s_
    refine V.g [.k (iv 0)] fun _ _ G7=>?_;intro S_ s_
    refine V.g [.k (iv n2),.k (bv (decide (n2 < 0)))] fun _ _ G8=>?_;intro S_ s_
    refine V.cn (b:=decide (n2 < 0)) iDT iDF (fun q3=>?_) (fun q4=>?_)
    · refine V.g [.k (iv n2),.a (n2+1048576) (by omega) (by omega),.k (iv (n2+1048576))] fun _ _ G9=>?_;intro S_ s_
      refine V.g [.k (iv 1)] fun _ _ G10=>?_;intro S_ s_
      refine nm (out ++[n2+1048576]:List Int) fun l1 hl1=>?_;have hl1n:=congrArg List.length hl1;try simp only [List.length_append,List.length_cons,List.length_nil,List.length_replicate,List.length_set,List.length_take,List.length_drop,List.length_map,List.length_reverse,List.length_range] at hl1n
      refine V.r [.k (outs.v),.k (iv (n2+1048576)),.nr 2 true 3 [n2+1048576] [] (fun _ _ _ _ _=>trivial) (fun _=>#[iv (n2+1048576)]),.ap 3 0 3 8 false true out (fun _=>outs) (kf true (.g 2 0) [n2+1048576] (fun G=>⟨atB (G 2).b,1,1⟩)) true l1 hl1 (by (try simp only [List.length_append,List.length_cons,List.length_nil,List.length_replicate,List.length_set,List.length_take,List.length_drop,List.length_map,List.length_reverse,List.length_range]);omega) (fun h=>by cases h) (.inr fun _ _=>trivial),.v fun G=>((G 3).s).v] fun _ _ G11 kw12=>?_;intro S_ s_
      obtain ⟨⟨kl4, -⟩, -⟩:Lq [n2+1048576] (SV.v ⟨atB (G11 2).b,1,1⟩)∧Lq l1 (((G11 3).s).v)∧True:=kq kw12;clear kw12;refine V.g [.k (iv i),.a (i+1) (by omega) (by omega),.k (iv (i+1))] fun _ _ G12=>?_;intro S_ s_;refine V.rnd hZ1 (l1,(G11 3).s,1,i+1) [0,1] (by kernel_rfl) ?_ ?_
      · refine ⟨?_,?_,?_,?_,?_⟩
        · show 0≤(i+1);omega
        · show (i+1)≤(a.length:Int);omega
        · show Bg.MinI a b l1 (i+1).toNat (1:Int);rw [hl1,show (i+1).toNat=i.toNat+1 by omega];refine Bg.min_step hf3 hda hdb (x:=n2) (by rw [hv0,← hn1];omega) ?_
          left;exact ⟨q3,by omega,rfl⟩
        · show 0≤(i+1);omega
        show (i+1)≤(a.length:Int);omega
      show ((a.length:Int)-(i+1)).toNat < ((a.length:Int)-i).toNat;omega
    refine nm (out ++[n2]:List Int) fun l2 hl2=>?_;have hl2n:=congrArg List.length hl2;try simp only [List.length_append,List.length_cons,List.length_nil,List.length_replicate,List.length_set,List.length_take,List.length_drop,List.length_map,List.length_reverse,List.length_range] at hl2n
    refine V.r [.k (outs.v),.k (iv n2),.nr 2 true 3 [n2] [] (fun _ _ _ _ _=>trivial) (fun _=>#[iv n2]),.ap 3 0 3 8 false true out (fun _=>outs) (kf true (.g 2 0) [n2] (fun G=>⟨atB (G 2).b,1,1⟩)) true l2 hl2 (by (try simp only [List.length_append,List.length_cons,List.length_nil,List.length_replicate,List.length_set,List.length_take,List.length_drop,List.length_map,List.length_reverse,List.length_range]);omega) (fun h=>by cases h) (.inr fun _ _=>trivial),.v fun G=>((G 3).s).v] fun _ _ G13 kw14=>?_;intro S_ s_
    obtain ⟨⟨kl5, -⟩, -⟩:Lq [n2] (SV.v ⟨atB (G13 2).b,1,1⟩)∧Lq l2 (((G13 3).s).v)∧True:=kq kw14;clear kw14;refine V.g [.k (iv i),.a (i+1) (by omega) (by omega),.k (iv (i+1))] fun _ _ G14=>?_;intro S_ s_;refine V.rnd hZ1 (l2,(G13 3).s,0,i+1) [0,1] (by kernel_rfl) ?_ ?_
    · refine ⟨?_,?_,?_,?_,?_⟩
      · show 0≤(i+1);omega
      · show (i+1)≤(a.length:Int);omega
      · show Bg.MinI a b l2 (i+1).toNat (0:Int);rw [hl2,show (i+1).toNat=i.toNat+1 by omega];refine Bg.min_step hf3 hda hdb (x:=n2) (by rw [hv0,← hn1];omega) ?_
        right;exact ⟨q4,rfl,rfl⟩
      · show 0≤(i+1);omega
      show (i+1)≤(a.length:Int);omega
    show ((a.length:Int)-(i+1)).toNat < ((a.length:Int)-i).toNat;omega
  have hen:=Bg.min_end hf3 (by omega) hda hle;have hdg:=hf3.dg;refine nl (Bg.dig (Bg.nv out)) fun l3 hl3 hl3n=>?_;refine V.r [.k (outs.v),.ct g0 1 148 false [] [] [(ko true 3 0 out (fun _=>outs)).a] (fun _ G=>r4trim_ctv out outs hdg (by omega) l3 hl3),.v fun G=>((G 1).ss 0).v] fun _ _ G15 kw16=>?_;intro S_ s_
  obtain ⟨⟨kl6, -⟩, -⟩:Lq l3 (((G15 1).ss 0).v)∧Lq out outs.v∧True:=kq kw16;clear kw16;have e0:l3=Bg.dig (Bg.nv a-Bg.nv b):=by
    rw [hl3];rw [hen]
  subst e0;exact V.rs [0] [(G15 1).ss 0] [fun _=>{}] [] [2] [] (((G15 1).ss 0).v)
theorem r4minus_ctv (a:List Int) (as_:SV) (b:List Int) (bs:SV) (hda:Bg.Dg a) (hdb:Bg.Dg b) (hla:a.length≤68719476736) (hle:Bg.nv b≤Bg.nv a) (rv0:List Int) (erv0:rv0=Bg.dig (Bg.nv a - Bg.nv b)) :
    Ct Tryz.prog 132 #[as_.v,bs.v] [fs true a as_,fs true b bs] [] (fun g=>((g.ss 0)).v) (fun g=>[fs true rv0 (g.ss 0)]) (fun g=>[]) (fun g=>[]):=by
  subst erv0;exact r4minus_ct a as_ b bs hda hdb hla hle

open Go Go.Proofs
set_option maxRecDepth 10000 in
theorem r4times_ct (a:List Int) (as_:SV) (b:List Int) (bs:SV) (hda:Bg.Dg a) (hdb:Bg.Dg b) (hla:a.length≤68719476736) (hlb:b.length≤68719476736) :
    Ct Tryz.prog 128 #[as_.v,bs.v] [fs true a as_,fs true b bs] [] (fun g=>((g.ss 0)).v) (fun g=>[fs true (Bg.dig (Bg.nv a * Bg.nv b)) (g.ss 0)]) (fun g=>[]) (fun g=>[]):=by
  refine V.fn mo Tryz.func128 60 1 (by kernel_rfl) fun w H ε k0=>?_;obtain ⟨⟨kl1, -⟩,⟨kl2, -⟩, -⟩:Lq a as_.v∧Lq b bs.v∧True:=kq k0
  clear k0;refine V.g [.k (.slice none 0 0)] fun _ _ G1=>?_;intro S_ s_
  refine nm ((a.length:Int)+(b.length:Int):Int) fun n1 hn1=>?_;refine nm (List.replicate n1.toNat (0:Int):List Int) fun l1 hl1=>?_;have hl1n:=congrArg List.length hl1;try simp only [List.length_append,List.length_cons,List.length_nil,List.length_replicate,List.length_set,List.length_take,List.length_drop,List.length_map,List.length_reverse,List.length_range] at hl1n
  refine V.g [.k (as_.v),.ln (kf false (.f 0) a (fun _=>as_)),.k (bs.v),.ln (kf false (.f 1) b (fun _=>bs)),.ar ((a.length:Int)+(b.length:Int)) n1 hn1 (by omega) (by omega),.mks 5 0 3 8 n1 l1 hl1 (by omega) (by omega) (by omega),.v fun G=>((G 5).s).v] fun _ _ G2=>?_;intro S_ s_
  refine V.g [.k (iv 0)] fun _ _ G3=>?_;intro S_ s_
  refine V.loop (γ:=List Int × SV × Int) (fun ⟨out,outs,i⟩=>⟨[(0,as_.v),(1,bs.v),(5,outs.v),(6,iv i)],[fs false a as_,fs false b bs],[os true 3 out outs]⟩) (fun ⟨out,outs,i⟩=>(0≤i)∧(i≤(a.length:Int))∧(Bg.MulO a b out i.toNat)∧(0≤i)∧(i≤(a.length:Int))) (fun ⟨out,outs,i⟩=>((a.length:Int)-i).toNat) (l1,(G2 5).s,0) (by kernel_rfl) [0,1] (by kernel_rfl) ?_ ?_
  · refine ⟨?_,?_,?_,?_,?_⟩
    · show 0≤(0:Int);omega
    · show (0:Int)≤(a.length:Int);omega
    · show Bg.MulO a b l1 (0:Int).toNat;rw [hl1,show n1.toNat=a.length+b.length by omega];exact Bg.mul_start _ _
    · show 0≤(0:Int);omega
    show (0:Int)≤(a.length:Int);omega
  rintro ⟨out,outs,i⟩ hF1 kw4 Z1 hZ1;have hF1:(0≤i)∧(i≤(a.length:Int))∧(Bg.MulO a b out i.toNat)∧(0≤i)∧(i≤(a.length:Int)):=hF1;obtain ⟨hf1,hf2,hf3,hf4,hf5⟩:=hF1;obtain ⟨-, -,⟨kl3, -⟩, -⟩:Lq a as_.v∧Lq b bs.v∧Lq out outs.v∧True:=kq kw4;clear kw4;have hol:=hf3.len;refine V.g [.k (iv i),.k (as_.v),.ln (kf false (.f 0) a (fun _=>as_)),.k (bv (decide (i < (a.length:Int))))] fun _ _ G4=>?_;intro S_ s_;refine V.cn (b:=decide (i < (a.length:Int))) iDT iDF (fun q1=>?_) (fun q2=>?_)
  · refine V.g [.k (iv 0)] fun _ _ G5=>?_;intro S_ s_
    refine V.g [.k (iv 0)] fun _ _ G6=>?_;intro S_ s_
    refine V.loop (γ:=List Int × SV × Int × Int) (fun ⟨out_1,out_1s,carry,k⟩=>⟨[(0,as_.v),(1,bs.v),(5,out_1s.v),(6,iv i),(7,iv carry),(8,iv k)],[fs false a as_,fs false b bs],[os true 3 out_1 out_1s]⟩) (fun ⟨out_1,out_1s,carry,k⟩=>(0≤k)∧((k≤(b.length:Int)∧Bg.MulI a b out_1 i.toNat k.toNat carry)∨(k=(b.length:Int)+1∧carry=0∧Bg.MulO a b out_1 (i.toNat+1)))) (fun ⟨out_1,out_1s,carry,k⟩=>((b.length:Int)+2-k).toNat) (out,outs,0,0) (by kernel_rfl) [0,1] (by kernel_rfl) ?_ ?_
    · refine ⟨?_,?_⟩
      · show 0≤(0:Int);omega
      show ((0:Int)≤(b.length:Int)∧Bg.MulI a b out i.toNat (0:Int).toNat (0:Int))∨((0:Int)=(b.length:Int)+1∧(0:Int)=0∧Bg.MulO a b out (i.toNat+1))
      left;exact ⟨by omega,Bg.MulO.inner hf3⟩
    rintro ⟨out_1,out_1s,carry,k⟩ hF2 kw8 Z2 hZ2;have hF2:(0≤k)∧((k≤(b.length:Int)∧Bg.MulI a b out_1 i.toNat k.toNat carry)∨(k=(b.length:Int)+1∧carry=0∧Bg.MulO a b out_1 (i.toNat+1))):=hF2;obtain ⟨hf6,hf7⟩:=hF2;obtain ⟨-, -,⟨kl4, -⟩, -⟩:Lq a as_.v∧Lq b bs.v∧Lq out_1 out_1s.v∧True:=kq kw8;clear kw8;refine nm ((decide (k < (b.length:Int))) || (decide (0 < carry)):Bool) fun p1 hp1=>?_;refine V.g [.k (iv k),.k (bs.v),.ln (kf false (.f 1) b (fun _=>bs)),.k (bv (decide (k < (b.length:Int)))),.k (bv (decide (k < (b.length:Int)))),.k (iv carry),.k (bv (decide (0 < carry))),.orn g0 false (decide (k < (b.length:Int))) (decide (0 < carry)) p1 hp1] fun _ _ G7=>?_;intro S_ s_;refine V.cn (b:=p1) (iN hp1 (iOT iDT iDT)) (iN hp1 (iOF iDF iDF)) (fun q3=>?_) (fun q4=>?_)
    · refine nm (out_1.getD (i+k).toNat default:Int) fun v1 hv1=>?_;refine nm (a.getD i.toNat default:Int) fun v2 hv2=>?_;refine nm (b.getD k.toNat 0:Int) fun n2 hn2=>?_;refine nm (v2 * n2:Int) fun n3 hn3=>?_;refine nm (v1+n3+carry:Int) fun n4 hn4=>?_;obtain ⟨hk1,hMI⟩:k≤(b.length:Int)∧Bg.MulI a b out_1 i.toNat k.toNat carry:=by rcases hf7 with h | h;exact h;omega
      have ex:a.getD i.toNat 0=v2:=hv2.symm;have ey:b.getD k.toNat 0=n2:=hn2.symm;have eo:out_1.getD (i+k).toNat 0=v1:=hv1.symm;have bx:=hda.get' i.toNat;have by_:=hdb.get' k.toNat;have bo:=hMI.dg.get' (i+k).toNat;have bc:=hMI.c0;have hol2:=hMI.len;rw [ex] at bx;rw [ey] at by_;rw [eo] at bo;have bp:=Bg.dmul bx by_;refine V.g [.k (out_1s.v),.k (iv i),.k (iv k),.a (i+k) (by omega) (by omega),.ix g0 (ko true 3 0 out_1 (fun _=>out_1s)) (i+k) (fun _=>⟨by omega,by omega⟩),.le g0 (ko true 3 0 out_1 (fun _=>out_1s)) (i+k) none false v1 hv1 (fun _=>⟨by omega,by omega⟩) false (fun _=>[iv v1]),.k (as_.v),.k (iv i),.ix g0 (kf false (.f 0) a (fun _=>as_)) i (fun _=>⟨by omega,by omega⟩),.le g0 (kf false (.f 0) a (fun _=>as_)) i none false v2 hv2 (fun _=>⟨by omega,by omega⟩) false (fun _=>[iv v2]),.k (bs.v),.k (iv k),.cp g0 12 149 [(kf false (.f 1) b (fun _=>bs)).a] (fun _ G=>r4digit_ctv b bs k (by omega) n2 hn2),.ar (v2 * n2) n3 hn3 (by omega) (by omega),.a (v1+n3) (by omega) (by omega),.k (iv carry),.ar (v1+n3+carry) n4 hn4 (by omega) (by omega),.k (iv n4)] fun _ _ G8=>?_;intro S_ s_
      have hxx:n4=out_1.getD (i.toNat+k.toNat) 0+a.getD i.toNat 0 * b.getD k.toNat 0+carry:=by rw [ex,ey,show i.toNat+k.toNat=(i+k).toNat by omega,eo];omega
      refine nm (n4 % 1048576:Int) fun n5 hn5=>?_;refine nm (out_1.set (i+k).toNat n5:List Int) fun l2 hl2=>?_;have hl2n:=congrArg List.length hl2;try simp only [List.length_append,List.length_cons,List.length_nil,List.length_replicate,List.length_set,List.length_take,List.length_drop,List.length_map,List.length_reverse,List.length_range] at hl2n
      refine V.g [.k (out_1s.v),.k (iv i),.k (iv k),.a (i+k) (by omega) (by omega),.k (iv n4),.rem g0 n4 1048576 n5 hn5 (fun _=>by omega),.ix g0 (ko true 3 0 out_1 (fun _=>out_1s)) (i+k) (fun _=>⟨by omega,by omega⟩),.se g0 7 0 3 true out_1 (fun _=>out_1s) (i+k) none v1 n5 hv1 true l2 hl2 (fun _=>⟨by omega,by omega⟩) (fun _=>rfl) [] (fun _ _ _ _=>trivial)] fun _ _ G9=>?_;intro S_ s_
      refine nm (n4 / 1048576:Int) fun n6 hn6=>?_;refine V.g [.k (iv n4),.quo g0 n4 1048576 n6 hn6 (fun _=>⟨by omega,by omega⟩) (fun _=>by omega),.k (iv n6)] fun _ _ G10=>?_;intro S_ s_
      refine V.g [.k (iv k),.a (k+1) (by omega) (by omega),.k (iv (k+1))] fun _ _ G11=>?_;intro S_ s_
      refine V.rnd hZ2 (l2,out_1s,n6,k+1) [0,1] (by kernel_rfl) ?_ ?_
      · refine ⟨?_,?_⟩
        · show 0≤(k+1);omega
        show ((k+1)≤(b.length:Int)∧Bg.MulI a b l2 i.toNat (k+1).toNat n6)∨((k+1)=(b.length:Int)+1∧n6=0∧Bg.MulO a b l2 (i.toNat+1));rw [hl2,hn5,hn6,show (i+k).toNat=i.toNat+k.toNat by omega];by_cases hkl:k < (b.length:Int)
        · left;refine ⟨by omega,?_⟩
          rw [show (k+1).toNat=k.toNat+1 by omega];exact (Bg.mul_step hMI hda hdb (by omega) (by omega) hxx).2
        right;have hk:k=(b.length:Int):=by omega
        have hMI2:=hMI;rw [show k.toNat=b.length by omega] at hMI2 hxx;have h3:=Bg.mul_end (x:=n4) hMI2 (by omega) (by rw [hxx,Bg.getD_out (l:=b) (i:=b.length) (by omega)];omega);have h4:=h3.dg.get' (i.toNat+b.length);rw [Bg.getD_set (by omega),if_pos rfl] at h4;rw [show k.toNat=b.length by omega,show n4 % 1048576=n4 by omega];exact ⟨by omega,by omega,h3⟩
      show ((b.length:Int)+2-(k+1)).toNat < ((b.length:Int)+2-k).toNat;omega
    refine V.g [.k (iv i),.a (i+1) (by omega) (by omega),.k (iv (i+1))] fun _ _ G12=>?_;intro S_ s_
    refine V.rnd hZ1 (out_1,out_1s,i+1) [0,1] (by kernel_rfl) ?_ ?_
    · refine ⟨?_,?_,?_,?_,?_⟩
      · show 0≤(i+1);omega
      · show (i+1)≤(a.length:Int);omega
      · show Bg.MulO a b out_1 (i+1).toNat;rw [show (i+1).toNat=i.toNat+1 by omega];rcases hf7 with ⟨h1,h2⟩ | ⟨h1,h2,h3⟩
        · have hc:=h2.c0;rw [show k.toNat=b.length by omega,show carry=0 by omega] at h2;exact Bg.mul_end0 h2 (by omega)
        exact h3
      · show 0≤(i+1);omega
      show (i+1)≤(a.length:Int);omega
    show ((a.length:Int)-(i+1)).toNat < ((a.length:Int)-i).toNat;omega
  have hen:=hf3;rw [show i.toNat=a.length by omega] at hen;have hsd:=hen.dg;have hse:=hen.sum;have hlen:=hen.len;rw [List.take_length] at hse;refine nl (Bg.dig (Bg.nv out)) fun l3 hl3 hl3n=>?_;refine V.r [.k (outs.v),.ct g0 1 148 false [] [] [(ko true 3 0 out (fun _=>outs)).a] (fun _ G=>r4trim_ctv out outs hsd (by omega) l3 hl3),.v fun G=>((G 1).ss 0).v] fun _ _ G13 kw15=>?_;intro S_ s_
  obtain ⟨⟨kl5, -⟩, -⟩:Lq l3 (((G13 1).ss 0).v)∧Lq out outs.v∧True:=kq kw15;clear kw15;have e0:l3=Bg.dig (Bg.nv a * Bg.nv b):=by
    rw [hl3];rw [hse]
  subst e0;exact V.rs [0] [(G13 1).ss 0] [fun _=>{}] [] [2] [] (((G13 1).ss 0).v)
theorem r4times_ctv (a:List Int) (as_:SV) (b:List Int) (bs:SV) (hda:Bg.Dg a) (hdb:Bg.Dg b) (hla:a.length≤68719476736) (hlb:b.length≤68719476736) (rv0:List Int) (erv0:rv0=Bg.dig (Bg.nv a * Bg.nv b)) :
    Ct Tryz.prog 128 #[as_.v,bs.v] [fs true a as_,fs true b bs] [] (fun g=>((g.ss 0)).v) (fun g=>[fs true rv0 (g.ss 0)]) (fun g=>[]) (fun g=>[]):=by
  subst erv0;exact r4times_ct a as_ b bs hda hdb hla hlb
set_option maxRecDepth 10000 in
theorem r4over_ct (a:List Int) (as_:SV) (b:List Int) (bs:SV) (hda:Bg.Dg a) (hdb:Bg.Dg b) (hb0:0 < Bg.nv b) (hla:a.length≤68719476736) (hlb:b.length≤34359738368) :
    Ct Tryz.prog 118 #[as_.v,bs.v] [fs true a as_,fs true b bs] [] (fun g=>.tuple #[((g.ss 0)).v,((g.ss 1)).v]) (fun g=>[fs true (Bg.dig (Bg.nv a / Bg.nv b)) (g.ss 0),fs true (Bg.dig (Bg.nv a % Bg.nv b)) (g.ss 1)]) (fun g=>[]) (fun g=>[]):=by
  refine V.fn mo Tryz.func118 60 2 (by kernel_rfl) fun w H ε k0=>?_;obtain ⟨⟨kl1, -⟩,⟨kl2, -⟩, -⟩:Lq a as_.v∧Lq b bs.v∧True:=kq k0
  clear k0;refine V.g [.k (.slice none 0 0),.k (.slice none 0 0)] fun _ _ G1=>?_;intro S_ s_
  refine nm (List.replicate (a.length:Int).toNat (0:Int):List Int) fun l1 hl1=>?_;have hl1n:=congrArg List.length hl1;try simp only [List.length_append,List.length_cons,List.length_nil,List.length_replicate,List.length_set,List.length_take,List.length_drop,List.length_map,List.length_reverse,List.length_range] at hl1n
  refine V.g [.k (as_.v),.ln (kf false (.f 0) a (fun _=>as_)),.mks 2 0 3 8 (a.length:Int) l1 hl1 (by omega) (by omega) (by omega),.v fun G=>((G 2).s).v] fun _ _ G2=>?_;intro S_ s_
  refine V.g [.k (.slice none 0 0)] fun _ _ G3=>?_;intro S_ s_
  refine nm ((a.length:Int)-1:Int) fun n1 hn1=>?_;refine V.g [.k (as_.v),.ln (kf false (.f 0) a (fun _=>as_)),.ar ((a.length:Int)-1) n1 hn1 (by omega) (by omega),.k (iv n1)] fun _ _ G4=>?_;intro S_ s_
  refine V.nilF (α:=Int) ?_;refine V.loop (γ:=List Int × SV × List Int × SV × Int) (fun ⟨q,qs,r,rs,i⟩=>⟨[(0,as_.v),(1,bs.v),(6,qs.v),(7,rs.v),(8,iv i)],[fs false a as_,fs false b bs,fs true r rs],[os true 3 q qs,.no]⟩) (fun ⟨q,qs,r,rs,i⟩=>(-1≤i)∧(i < (a.length:Int))∧(Bg.OveI a b q r (i+1).toNat)) (fun ⟨q,qs,r,rs,i⟩=>(i+1).toNat) (l1,(G2 2).s,([]:List Int),{},n1) (by kernel_rfl) [0,1,2] (by kernel_rfl) ?_ ?_
  · refine ⟨?_,?_,?_⟩
    · show -1≤n1;omega
    · show n1 < (a.length:Int);omega
    show Bg.OveI a b l1 ([]:List Int) (n1+1).toNat;rw [show (n1+1).toNat=a.length by omega,hl1,Int.toNat_natCast];exact Bg.ove_start
  rintro ⟨q,qs,r,rs,i⟩ hF1 kw5 Z1 hZ1;have hF1:(-1≤i)∧(i < (a.length:Int))∧(Bg.OveI a b q r (i+1).toNat):=hF1;obtain ⟨hf1,hf2,hf3⟩:=hF1;obtain ⟨-, -,⟨kl3, -⟩,⟨kl4, -⟩, -⟩:Lq a as_.v∧Lq b bs.v∧Lq r rs.v∧Lq q qs.v∧True:=kq kw5;clear kw5;have hql:=hf3.len;refine V.g [.k (iv i),.k (bv (decide (0≤i)))] fun _ _ G5=>?_;intro S_ s_;refine V.cn (b:=decide (0≤i)) iDT iDF (fun q1=>?_) (fun q2=>?_)
  · refine nm (a.getD i.toNat default:Int) fun v1 hv1=>?_;refine nm ([v1] ++r:List Int) fun l2 hl2=>?_;have hl2n:=congrArg List.length hl2;try simp only [List.length_append,List.length_cons,List.length_nil,List.length_replicate,List.length_set,List.length_take,List.length_drop,List.length_map,List.length_reverse,List.length_range] at hl2n
    refine nl (Bg.dig (Bg.nv l2)) fun l3 hl3 hl3n=>?_;have hOv:=hf3
    rw [show (i+1).toNat=i.toNat+1 by omega] at hOv;obtain ⟨r1,r2,r3⟩:=Bg.ove_R hOv hda hb0 hv1;have hrl:=Bg.ove_len hOv hdb hb0;have hl2e:l2=[v1] ++r:=by rw [hl2]
    rw [←hl2e] at r1 r2 r3;have hl2n:=congrArg List.length hl2e;simp only [List.length_append,List.length_cons,List.length_nil] at hl2n;have hl3v:Bg.nv l3=Bg.nv l2:=by rw [hl3,Bg.nv_dig]
    have hl3d:Bg.Dg l3:=by rw [hl3];exact Bg.dig_Dg _
    have hl3l:l3.length≤l2.length:=by rw [hl3];exact Bg.dig_le r2
    refine V.r [.k (as_.v),.k (iv i),.ix g0 (kf false (.f 0) a (fun _=>as_)) i (fun _=>⟨by omega,by omega⟩),.le g0 (kf false (.f 0) a (fun _=>as_)) i none false v1 hv1 (fun _=>⟨by omega,by omega⟩) false (fun _=>[iv v1]),.nl 4 1 true 3 [v1] [] (fun _ _ _ _ _=>trivial) (fun _=>#[iv v1]),.k (rs.v),.ap 6 1 3 8 false true [v1] (fun G=>⟨atB (G 4).b,1,1⟩) (kf true (.f 2) r (fun _=>rs)) true l2 hl2 (by (try simp only [List.length_append,List.length_cons,List.length_nil,List.length_replicate,List.length_set,List.length_take,List.length_drop,List.length_map,List.length_reverse,List.length_range]);omega) (fun h=>by cases h) (.inr fun _ _=>trivial),.ct g0 7 148 false [] [] [(ko true 3 1 l2 (fun G=>(G 6).s)).a] (fun _ G=>r4trim_ctv l2 ((G 6).s) r2 (by omega) l3 hl3),.v fun G=>((G 7).ss 0).v] fun _ _ G6 kw7=>?_;intro S_ s_
    obtain ⟨⟨kl5, -⟩, -⟩:Lq l3 (((G6 7).ss 0).v)∧Lq q qs.v∧Lq l2 (((G6 6).s).v)∧True:=kq kw7;clear kw7;refine V.g [.k (iv 0)] fun _ _ G7=>?_;intro S_ s_;refine V.g [.k (iv 1048576)] fun _ _ G8=>?_;intro S_ s_;refine V.loop (γ:=Int × Int) (fun ⟨lo,hi⟩=>⟨[(0,as_.v),(1,bs.v),(6,qs.v),(7,((G6 7).ss 0).v),(8,iv i),(9,iv lo),(10,iv hi)],[fs false a as_,fs false b bs,fs true l3 ((G6 7).ss 0)],[os true 3 q qs,os true 3 l2 ((G6 6).s)]⟩) (fun ⟨lo,hi⟩=>(0≤lo)∧(lo < hi)∧(hi≤1048576)∧(lo.toNat * Bg.nv b≤Bg.nv l2)∧(Bg.nv l2 < hi.toNat * Bg.nv b)) (fun ⟨lo,hi⟩=>(hi-lo).toNat) (0,1048576) (by kernel_rfl) [0,1,3] (by kernel_rfl) ?_ ?_
    · refine ⟨?_,?_,?_,?_,?_⟩
      · show 0≤(0:Int);omega
      · show (0:Int) < (1048576:Int);omega
      · show (1048576:Int)≤1048576;omega
      · show (0:Int).toNat * Bg.nv b≤Bg.nv l2;show 0 * _≤_;rw [Nat.zero_mul];exact Nat.zero_le _
      show Bg.nv l2 < (1048576:Int).toNat * Bg.nv b;exact r1
    rintro ⟨lo,hi⟩ hF2 kw10 Z2 hZ2;have hF2:(0≤lo)∧(lo < hi)∧(hi≤1048576)∧(lo.toNat * Bg.nv b≤Bg.nv l2)∧(Bg.nv l2 < hi.toNat * Bg.nv b):=hF2;obtain ⟨hf4,hf5,hf6,hf7,hf8⟩:=hF2;clear kw10;refine V.g [.k (iv hi),.k (iv lo),.a (hi-lo) (by omega) (by omega),.k (bv (decide (1 < hi-lo)))] fun _ _ G9=>?_;intro S_ s_;refine V.cn (b:=decide (1 < hi-lo)) iDT iDF (fun q3=>?_) (fun q4=>?_)
    · refine nm ((lo+hi) / 2:Int) fun n2 hn2=>?_;refine V.g [.k (iv lo),.k (iv hi),.a (lo+hi) (by omega) (by omega),.quo g0 (lo+hi) 2 n2 hn2 (fun _=>⟨by omega,by omega⟩) (fun _=>by omega),.k (iv n2)] fun _ _ G10=>?_;intro S_ s_
      refine nl (Bg.dig (Bg.nv b * Bg.nv [n2])) fun l4 hl4 hl4n=>?_;have hdm:Bg.Dg [n2]:=Bg.Dg.one (by omega)
      have hl4v:Bg.nv l4=Bg.nv b * n2.toNat:=by rw [hl4,Bg.nv_dig,Bg.nv_one]
      refine V.r [.k (((G6 7).ss 0).v),.k (bs.v),.k (iv n2),.nr 3 true 3 [n2] [] (fun _ _ _ _ _=>trivial) (fun _=>#[iv n2]),.ct g0 4 128 false [] [] [(kf false (.f 1) b (fun _=>bs)).a,(kf true (.g 3 0) [n2] (fun G=>⟨atB (G 3).b,1,1⟩)).a] (fun _ G=>r4times_ctv b bs [n2] ⟨atB (G 3).b,1,1⟩ hdb hdm (by omega) (by simp) l4 hl4),.cp g0 5 121 [(kf true (.f 2) l3 (fun _=>(G6 7).ss 0)).a,(kf true (.g 4 0) l4 (fun G=>(G 4).ss 0)).a] (fun _ G=>r4less_ct l3 ((G6 7).ss 0) l4 ((G 4).ss 0) hl3d (by first | assumption | (subst_vars;exact Bg.dig_Dg _)))] fun _ _ G11 kw13=>?_;intro S_ s_
      obtain ⟨⟨kl6, -⟩,⟨kl7, -⟩, -⟩:Lq [n2] (SV.v ⟨atB (G11 3).b,1,1⟩)∧Lq l4 (((G11 4).ss 0).v)∧Lq q qs.v∧Lq l2 (((G6 6).s).v)∧True:=kq kw13;clear kw13;refine V.cn (b:=decide (Bg.nv l3 < Bg.nv l4)) iDT iDF (fun q5=>?_) (fun q6=>?_)
      · refine V.g [.k (iv n2),.k (iv n2)] fun _ _ G12=>?_;intro S_ s_
        refine V.rnd hZ2 (lo,n2) [0,1,2] (by kernel_rfl) ?_ ?_
        · refine ⟨?_,?_,?_,?_,?_⟩
          · show 0≤lo;omega
          · show lo < n2;omega
          · show n2≤1048576;omega
          · show lo.toNat * Bg.nv b≤Bg.nv l2;omega
          show Bg.nv l2 < n2.toNat * Bg.nv b;have hqq:=q5;rw [hl3v,hl4v,Nat.mul_comm] at hqq;exact hqq
        show (n2-lo).toNat < (hi-lo).toNat;rw [hn2];omega
      refine V.g [.k (iv n2),.k (iv n2)] fun _ _ G13=>?_;intro S_ s_
      refine V.rnd hZ2 (n2,hi) [0,1,2] (by kernel_rfl) ?_ ?_
      · refine ⟨?_,?_,?_,?_,?_⟩
        · show 0≤n2;omega
        · show n2 < hi;omega
        · show hi≤1048576;omega
        · show n2.toNat * Bg.nv b≤Bg.nv l2;have hqq:=q6;rw [hl3v,hl4v,Nat.mul_comm] at hqq;omega
        show Bg.nv l2 < hi.toNat * Bg.nv b;omega
      show (hi-n2).toNat < (hi-lo).toNat;rw [hn2];omega
    refine nm (q.getD i.toNat default:Int) fun v2 hv2=>?_;refine nm (q.set i.toNat lo:List Int) fun l5 hl5=>?_;have hl5n:=congrArg List.length hl5;try simp only [List.length_append,List.length_cons,List.length_nil,List.length_replicate,List.length_set,List.length_take,List.length_drop,List.length_map,List.length_reverse,List.length_range] at hl5n
    refine V.g [.k (qs.v),.k (iv i),.k (iv lo),.ix g0 (ko true 3 0 q (fun _=>qs)) i (fun _=>⟨by omega,by omega⟩),.se g0 4 0 3 true q (fun _=>qs) i none v2 lo hv2 true l5 hl5 (fun _=>⟨by omega,by omega⟩) (fun _=>rfl) [] (fun _ _ _ _=>trivial)] fun _ _ G14=>?_;intro S_ s_
    refine nl (Bg.dig (Bg.nv [lo])) fun l6 hl6 hl6n=>?_;refine nl (Bg.dig (Bg.nv b * Bg.nv l6)) fun l7 hl7 hl7n=>?_;refine nl (Bg.dig (Bg.nv l3-Bg.nv l7)) fun l8 hl8 hl8n=>?_;have hdlo:Bg.Dg [lo]:=Bg.Dg.one (by omega)
    have hl5d:Bg.Dg l6:=by rw [hl6];exact Bg.dig_Dg _
    have hl5l:l6.length≤1:=by rw [hl6];exact Bg.dig_le hdlo
    have hl6v:Bg.nv l7=Bg.nv b * lo.toNat:=by rw [hl7,Bg.nv_dig,hl6,Bg.nv_dig,Bg.nv_one]
    have hl6d:Bg.Dg l7:=by rw [hl7];exact Bg.dig_Dg _
    have hlo1:lo.toNat * Bg.nv b≤Bg.nv l2:=hf7;have hlo2:Bg.nv l2 < (lo.toNat+1) * Bg.nv b:=by have h:=hf8;rw [show hi.toNat=lo.toNat+1 by omega] at h;exact h
    have hle6:Bg.nv l7≤Bg.nv l3:=by rw [hl6v,hl3v,Nat.mul_comm];exact hlo1
    refine V.r [.k (((G6 7).ss 0).v),.k (bs.v),.k (iv lo),.nr 3 true 3 [lo] [] (fun _ _ _ _ _=>trivial) (fun _=>#[iv lo]),.ct g0 4 148 false [] [] [(kf true (.g 3 0) [lo] (fun G=>⟨atB (G 3).b,1,1⟩)).a] (fun _ G=>r4trim_ctv [lo] ⟨atB (G 3).b,1,1⟩ hdlo (by simp) l6 hl6),.ct g0 5 128 false [] [] [(kf false (.f 1) b (fun _=>bs)).a,(kf true (.g 4 0) l6 (fun G=>(G 4).ss 0)).a] (fun _ G=>r4times_ctv b bs l6 ((G 4).ss 0) hdb hl5d (by omega) (by omega) l7 hl7),.ct g0 6 132 false [] [] [(kf true (.f 2) l3 (fun _=>(G6 7).ss 0)).a,(kf true (.g 5 0) l7 (fun G=>(G 5).ss 0)).a] (fun _ G=>r4minus_ctv l3 ((G6 7).ss 0) l7 ((G 5).ss 0) hl3d hl6d (by omega) hle6 l8 hl8),.v fun G=>((G 6).ss 0).v] fun _ _ G15 kw17=>?_;intro S_ s_
    obtain ⟨⟨kl8, -⟩,⟨kl9, -⟩,⟨kl10, -⟩,⟨kl11, -⟩, -⟩:Lq [lo] (SV.v ⟨atB (G15 3).b,1,1⟩)∧Lq l6 (((G15 4).ss 0).v)∧Lq l7 (((G15 5).ss 0).v)∧Lq l8 (((G15 6).ss 0).v)∧Lq l5 qs.v∧Lq l2 (((G6 6).s).v)∧True:=kq kw17;clear kw17;refine V.g [.k (iv i),.a (i-1) (by omega) (by omega),.k (iv (i-1))] fun _ _ G16=>?_;intro S_ s_;refine V.rnd hZ1 (l5,qs,l8,(G15 6).ss 0,i-1) [0,1,6] (by kernel_rfl) ?_ ?_
    · refine ⟨?_,?_,?_⟩
      · show -1≤(i-1);omega
      · show (i-1) < (a.length:Int);omega
      show Bg.OveI a b l5 l8 ((i-1)+1).toNat;rw [show (i-1+1).toNat=i.toNat by omega,hl5,hl8,hl3v,hl6v,Nat.mul_comm (Bg.nv b),hl2e];rw [hl2e] at hlo1 hlo2;exact Bg.ove_step hOv hda hb0 (by omega) hv1 (by omega) (by omega) hlo1 hlo2
    show ((i-1)+1).toNat < (i+1).toNat;omega
  have hen:=hf3;rw [show (i+1).toNat=0 by omega] at hen;obtain ⟨hE1,hE2⟩:=Bg.ove_end hen;have hqd:=hen.dg;have hql:=hen.len;refine nl (Bg.dig (Bg.nv q)) fun l9 hl9 hl9n=>?_;refine V.r [.k (qs.v),.ct g0 1 148 false [] [] [(ko true 3 0 q (fun _=>qs)).a] (fun _ G=>r4trim_ctv q qs hqd (by omega) l9 hl9),.k (rs.v),.v fun G=>((G 1).ss 0).v,.k (rs.v)] fun _ _ G17 kw19=>?_;intro S_ s_
  obtain ⟨⟨kl12, -⟩, -⟩:Lq l9 (((G17 1).ss 0).v)∧Lq q qs.v∧True:=kq kw19;clear kw19;have e0:l9=Bg.dig (Bg.nv a / Bg.nv b):=by
    rw [hl9];rw [hE1]
  subst e0;have e1:r=Bg.dig (Bg.nv a % Bg.nv b):=hE2;subst e1;exact V.rs [0,0] [(G17 1).ss 0,rs] [fun _=>{},fun _=>{}] [] [3,2] [] (.tuple #[((G17 1).ss 0).v,rs.v])
theorem r4over_ctv (a:List Int) (as_:SV) (b:List Int) (bs:SV) (hda:Bg.Dg a) (hdb:Bg.Dg b) (hb0:0 < Bg.nv b) (hla:a.length≤68719476736) (hlb:b.length≤34359738368) (rv0:List Int) (erv0:rv0=Bg.dig (Bg.nv a / Bg.nv b)) (rv1:List Int) (erv1:rv1=Bg.dig (Bg.nv a % Bg.nv b)) :
    Ct Tryz.prog 118 #[as_.v,bs.v] [fs true a as_,fs true b bs] [] (fun g=>.tuple #[((g.ss 0)).v,((g.ss 1)).v]) (fun g=>[fs true rv0 (g.ss 0),fs true rv1 (g.ss 1)]) (fun g=>[]) (fun g=>[]):=by
  subst erv0 erv1;exact r4over_ct a as_ b bs hda hdb hb0 hla hlb
end Kb
