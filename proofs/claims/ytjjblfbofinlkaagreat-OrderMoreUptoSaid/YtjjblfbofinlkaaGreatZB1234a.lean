/- Texts for the claim, put together: the calculus of regions, its rules, and contracts of the functions that the law reaches. -/
import Derived.Test.YtjjblfbofinlkaaGreatZBwg
set_option linter.all false
set_option maxRecDepth 10000
namespace Kb
namespace Zo
theorem cycle_some {G:List (List Int)} (hG:InR G) (h:cycle G≠[]):∃ i:Int,Circ G i (cycle G)∧(∀ (m:Nat) (j:Int),0≤j→j < (G.length:Int)→m+1≤G.length→W G (m+1) j j→(cycle G).length≤m+1)∧∀ x ∈ cycle G,i≤x:=by
 unfold cycle at h ⊢;rcases cycK_spec G G.length with ⟨h2,_⟩ | ⟨i,hi,h2,h3,h4⟩
 ·exact absurd h2 h
 ·rw [h2];have hc:=cyc_circ hG (i:=(i:Int)) (by omega) (by omega) h3;have b:∀ (m:Nat) (j:Int),0≤j→j < (G.length:Int)→m+1≤G.length→W G (m+1) j j→(cyc G (i:Int)).length≤m+1∧(j < (i:Int)→(cyc G (i:Int)).length < m+1):=fun m j h0 hj hm hw=>by
   obtain ⟨q1,q2⟩:=cyc_full hG h0 hj hm hw;have e:((j.toNat:Nat):Int)=j:=by omega
   obtain ⟨q3,q4⟩:=h4 j.toNat (by omega) (by rw [e];exact q1);rw [e] at q3 q4;exact ⟨by omega,fun d=>by have:=q4 (by omega);omega⟩
  refine ⟨(i:Int),hc,fun m j h0 hj hm hw=>(b m j h0 hj hm hw).1,fun x hx=>?_⟩;obtain ⟨k,hk,rfl⟩:=mem_getD0 hx;have hw:=hc.W hk;have hl:=hc.le;have hp:=hc.pos;have hr:=hc.rng _ (getD_mem0 hk);refine Int.not_lt.1 fun d=>?_
  have:=(b ((cyc G (i:Int)).length - 1) _ hr.1 hr.2 (by omega) (by rw [show (cyc G (i:Int)).length - 1+1=(cyc G (i:Int)).length by omega];exact hw)).2 d
  omega
end Zo
end Kb
