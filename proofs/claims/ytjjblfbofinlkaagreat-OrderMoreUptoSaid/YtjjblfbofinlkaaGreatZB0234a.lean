/- Texts for the claim, put together: the calculus of regions, its rules, and contracts of the functions that the law reaches. -/
import Derived.Test.YtjjblfbofinlkaaGreatZBwg
set_option linter.all false
set_option maxRecDepth 10000
namespace Kb
namespace Zh
theorem hdn_beyond:∀ (f:Nat) (l:List Int) (i n:Nat),n≤l.length→i < l.length→∀ k,n≤k→i≠k→at_ (hdn f l i n) k=at_ l k
 | 0,_,_,_,_,_,_,_,_=>rfl
 | f+1,l,i,n,hn,hi,k,hk,hne=>by
  rw [hdn_step];split
  ·rfl
  ·rename_i h0
   have:=kid_lt (l:=l) h0
   split
   ·rw [hdn_beyond f _ _ _ (by simpa using hn) (by simp;omega) k hk (by omega),at_swp hi (by omega),if_neg (by omega),if_neg hne]
   ·rfl
theorem popV_is {l:List Int} (h:0 < l.length):popV l=at_ l 0:=by
 unfold popV popped;by_cases e:l.length - 1=0
 ·rw [e];show at_ (swp l 0 0) 0=_;rw [at_swp h h,if_pos rfl]
 ·rw [hdn_beyond _ _ _ _ (by simp) (by simpa using h) _ (Nat.le_refl _) (by omega),at_swp h (by omega),if_pos rfl]
theorem ord_min {l:List Int} (h:Ord l l.length):∀ k,k < l.length→at_ l 0≤at_ l k:=by
 intro k;induction k using Nat.strongRecOn with
 | _ k ih =>
  intro hk;rcases Nat.eq_zero_or_pos k with h0 | h0
  ·subst h0;exact Int.le_refl _
  ·have:=ih ((k - 1) / 2) (by omega) (by omega)
   have:=h k h0 hk
   omega
theorem pop_min {l:List Int} (h:0 < l.length) (ho:Ord l l.length):∀ x ∈ l,popV l≤x:=fun x hx=>by
 obtain ⟨k,hk,rfl⟩:=List.getElem_of_mem hx;have h1:=ord_min ho k hk;have e:at_ l k=l[k]:=by unfold at_;rw [List.getD_eq_getElem?_getD,List.getElem?_eq_getElem hk];rfl
 rw [popV_is h,← e];exact h1
end Zh

namespace Zo
theorem next_none {G:List (List Int)} {b:List Int}:next G b < 0↔∀ i,¬ Rdy G b i:=by
 rcases nextF_spec G b G.length 0 with ⟨h1,h2⟩ | ⟨h1,h2,h3⟩
 ·refine ⟨fun _ i hi=>?_,fun _=>by unfold next;omega⟩
  have:=hi.1
  exact h2 i.toNat (by omega) (by omega) (by rw [show ((i.toNat:Nat):Int)=i by omega];exact hi)
 ·refine ⟨fun h=>?_,fun h=>absurd h1 (h _)⟩;have h4:=h1.1;unfold next at h;omega
theorem next_some {G:List (List Int)} {b:List Int} {v:Int} (hv:Rdy G b v) (hm:∀ i,Rdy G b i→v≤i):next G b=v:=by
 rcases nextF_spec G b G.length 0 with ⟨h1,h2⟩ | ⟨h1,h2,h3⟩
 ·have:=hv.1
  exact absurd (by rw [show ((v.toNat:Nat):Int)=v by omega];exact hv) (h2 v.toNat (by omega) (by omega))
 ·have h4:=hm _ h1;have h5:=hv.1;rcases Int.lt_or_le v (nextF G b G.length 0) with h | h
  ·exact absurd (by rw [show ((v.toNat:Nat):Int)=v by omega];exact hv) (h3 v.toNat (by omega) (by omega))
  ·unfold next;omega
theorem run_gr {G:List (List Int)} (hG:∀ r ∈ G,∀ y ∈ r,0≤y∧y < (G.length:Int)):∀ (f:Nat) (lf hp b:List Int),KI G lf hp b→runO (usK G G.length) f (lf,hp,b)=gr G f b
 | 0,lf,hp,b,_=>rfl
 | f+1,lf,hp,b,h=>by
  rw [runO,gr];by_cases hh:hp.length=0
  ·rw [if_pos hh,if_pos];rw [next_none];intro i hi
   have:=(h.mem i).2 hi
   rw [List.length_eq_zero_iff.1 hh] at this;cases this
  ·rw [if_neg hh];have d:0 < hp.length:=by omega
   have j:Zh.popV hp ∈ hp:=(Zh.pop_perm d).mem_iff.1 (by simp);have hv:=(h.mem _).1 j;have hn:next G b=Zh.popV hp:=next_some hv fun i hi=>Zh.pop_min d h.ord i ((h.mem i).2 hi)
   rw [hn,if_neg (by have:=hv.1;omega)]
   have:=run_gr hG f _ _ _ (h.round hG d)
   exact this
theorem nodup_all {n:Nat} {l:List Int} (hn:l.Nodup) (h:∀ x ∈ l,0≤x∧x < (n:Int)) (hl:n≤l.length):∀ i:Int,0≤i→i < (n:Int)→i ∈ l:=fun i h0 h1=>by
 refine Decidable.byContradiction fun hi=>?_
 have:=nodup_le n (i :: l) (List.nodup_cons.2 ⟨hi,hn⟩) fun x hx=>by
  rcases List.mem_cons.1 hx with rfl | hx
  ·exact ⟨h0,h1⟩
  ·exact h x hx
 rw [List.length_cons] at this;omega
theorem gr_end {G:List (List Int)}:∀ (f:Nat) {b:List Int},Beg G b→G.length≤f+b.length→next G (gr G f b) < 0
 | 0,b,h,hf=>by
  rw [Zo.gr,next_none];intro i hi;exact hi.2.1 (nodup_all h.nodup h.rng (by omega) i hi.1.1 hi.1.2)
 | f+1,b,h,hf=>by
  rw [Zo.gr];split
  ·assumption
  ·rename_i hn
   exact gr_end f (h.snoc (by omega)) (by rw [List.length_append,List.length_singleton];omega)
def ord (G:List (List Int)):List Int:=gr G G.length []
theorem ord_beg (G:List (List Int)):Beg G (ord G):=(Beg.nil G).gr _
theorem ord_end (G:List (List Int)):next G (ord G) < 0:=gr_end _ (Beg.nil G) (by simp)
theorem orun_ord {G:List (List Int)} (hG:∀ r ∈ G,∀ y ∈ r,0≤y∧y < (G.length:Int)):orun G=ord G:=by
 unfold orun finO;have h:=run_gr hG ((hpK G G.length).length+pos (lfK G G.length)) _ _ _ (KI.init hG)
 have:=lfK_sum G G.length (Nat.le_refl _)
 show runO (usK G G.length) ((hpK G G.length).length+pos (lfK G G.length)) _=_;rw [h,this];rfl
end Zo

namespace Zo
theorem ord_full {G:List (List Int)} (h:G.length≤(ord G).length):∀ i:Int,0≤i→i < (G.length:Int)→i ∈ ord G:=nodup_all (ord_beg G).nodup (ord_beg G).rng h
theorem no_self {G:List (List Int)} (h:G.length≤(ord G).length) (m:Nat) {i:Int} (h0:0≤i) (hi:i < (G.length:Int)):¬ W G (m+1) i i:=fun hw=>by
 obtain ⟨k,hk,rfl⟩:=mem_getD0 (ord_full h i h0 hi);obtain ⟨j,hj,he⟩:=(ord_beg G).W (m+1) k _ hk hw;exact (ord_beg G).inj hk (by omega) he
theorem subset_le:∀ (l m:List Int),l.Nodup→(∀ x ∈ l,x ∈ m)→l.length≤m.length
 | [],m,_,_=>Nat.zero_le _
 | x :: l,m,hn,h=>by
  rw [List.nodup_cons] at hn
  have:=subset_le l (m.erase x) hn.2 fun y hy=>(List.mem_erase_of_ne (a:=y) (b:=x) (fun e=>hn.1 (by rw [←e];exact hy))).2 (h y (by simp [hy]))
  have hx:=h x (by simp);rw [List.length_erase_of_mem hx] at this
  have:=List.length_pos_of_mem hx
  rw [List.length_cons];omega
theorem range_nodup (n:Nat):((List.range n).map Int.ofNat).Nodup:=by
 refine nodup_of fun i k hi hk e=>?_;rw [List.length_map,List.length_range] at hk
 have hq:∀ j,j < n→((List.range n).map Int.ofNat).getD j 0=(j:Int):=fun j hj=>by
  rw [List.getD_eq_getElem?_getD,List.getElem?_map,List.getElem?_range hj];rfl
 rw [hq i (by omega),hq k hk] at e;omega
theorem stuck {G:List (List Int)} (hG:InR G) {a:Int} (h0:0≤a) (h1:a < (G.length:Int)) (ha:a ∉ ord G):∃ y ∈ rw_ G a,y ∉ ord G:=by
 have h:=next_none.1 (ord_end G) a;refine Decidable.byContradiction fun hn=>h ⟨⟨h0,h1⟩,ha,fun y hy=>Decidable.byContradiction fun h2=>hn ⟨y,hy,h2⟩⟩
theorem long {G:List (List Int)} (hG:InR G) {a:Int} (h0:0≤a) (h1:a < (G.length:Int)) (ha:a ∉ ord G):∀ m:Nat,∃ l:List Int,l.length=m+1∧Chn G l∧(∀ x ∈ l,0≤x∧x < (G.length:Int))∧∀ x ∈ l,x ∉ ord G
 | 0=>⟨[a],rfl,fun k hk=>by rw [List.length_singleton] at hk;omega,fun x hx=>by rw [List.mem_singleton.1 hx];exact ⟨h0,h1⟩,fun x hx=>by rw [List.mem_singleton.1 hx];exact ha⟩
 | m+1=>by
  obtain ⟨l,h2,h3,h4,h5⟩:=long hG h0 h1 ha m;have hm:=getD_mem0 (l:=l) (k:=l.length - 1) (by omega);have hr:=h4 _ hm;obtain ⟨y,hy,b⟩:=stuck hG hr.1 hr.2 (h5 _ hm);refine ⟨l ++[y],by simp [h2],h3.snoc (by omega) hy,fun x hx=>?_,fun x hx=>?_⟩
  ·rcases List.mem_append.1 hx with hx | hx
   ·exact h4 x hx
   ·rw [List.mem_singleton.1 hx];exact hG.at hy
  ·rcases List.mem_append.1 hx with hx | hx
   ·exact h5 x hx
   ·rw [List.mem_singleton.1 hx];exact b
theorem ord_cycle {G:List (List Int)} (hG:InR G):G.length≤(ord G).length↔cycle G=[]:=by
 rw [cycle_none hG];constructor
 ·intro h m i h0 hi _ hw;exact no_self h m h0 hi hw
 ·intro h;refine Classical.byContradiction fun d=>?_;have f:∃ a:Int,(0≤a∧a < (G.length:Int))∧a ∉ ord G:=by
   refine Classical.byContradiction fun hn=>d ?_
   have:=subset_le _ (ord G) (range_nodup G.length) fun x hx=>by
    obtain ⟨k,hk,rfl⟩:=List.mem_map.1 hx;have hk:=List.mem_range.1 hk;have e:Int.ofNat k=(k:Int):=rfl;exact Classical.byContradiction fun h2=>hn ⟨_,by omega,h2⟩
   rw [List.length_map,List.length_range] at this;exact this
  obtain ⟨a,⟨h0,h1⟩,ha⟩:=f;obtain ⟨l,hl,hc,hr,_⟩:=long hG h0 h1 ha G.length;obtain ⟨j,k,o,hk,e⟩:=twice hr (by omega);have hw:=hc.W (k - j) j (by omega);rw [show j+(k - j)=k by omega,← e] at hw;have b:=hr _ (getD_mem0 (l:=l) (k:=j) (by omega));exact h (k - j - 1) _ b.1 b.2 (by omega) (by rw [show k - j - 1+1=k - j by omega];exact hw)
end Zo

open Go
namespace Zo
theorem ordN_is {G:List (List Int)} (hG:InR G):(ordN G=0∧cycle G=[]∧ordL G=ord G∧(ord G).length=G.length)∨(ordN G=23∧cycle G≠[]∧ordL G=[]):=by
 unfold ordN ordL;rw [orun_ord hG];by_cases h:(ord G).length < G.length
 ·rw [if_pos h,if_pos h];exact .inr ⟨rfl,fun e=>by have:=(ord_cycle hG).2 e;omega,rfl⟩
 ·rw [if_neg h,if_neg h]
  have:=(ord_beg G).le
  exact .inl ⟨rfl,(ord_cycle hG).1 (by omega),rfl,by omega⟩
end Zo

open Go Go.Proofs
theorem oor_s (k:ByteArray) (c:List DImport) (l:SV) (d:List DInput) (m:SV) (e:List DTable) (n:SV) (b:List DFunc) (o:SV) (a:List DCell) (p:SV) (f:List DPort) (q:SV) (i:List DStore) (r:SV) (j:List DRecipe) (t:SV) (gg:List (List Int)) (gl:List Int) (gn:Int) (hS:Sx.Sml k c d e b a f i j) (hL:(c.length:Int)+d.length+e.length+b.length+a.length+f.length+i.length+j.length≤100000000) (h7:(a.length:Int)≤7) (hs:(Zo.snd k c d e b a f i j)) (w:gg=(Zo.grf (b.map Zc.fe) a)) (A:gl=Zo.ordL gg) (B:gn=Zo.ordN gg) :
  Ct Tryz.prog 11 #[ag (DSheet.mk k ⟨c,l⟩ ⟨d,m⟩ ⟨e,n⟩ ⟨b,o⟩ ⟨a,p⟩ ⟨f,q⟩ ⟨i,r⟩ ⟨j,t⟩)] [fs true c l,fs true d m,fs true e n,fs true b o,fs true a p,fs true f q,fs true i r,fs true j t] [] (fun g=>.tuple #[((g.ss 0)).v,iv gn]) (fun g=>[fs true gl (g.ss 0)]) (fun g=>[]) (fun g=>[]):=by
 have h:=oor_ct k c l d m e n b o a p f q i r j t hS hL (by omega);rw [if_pos hs,← w,← A,if_pos hs,← B] at h;exact h
end Kb
