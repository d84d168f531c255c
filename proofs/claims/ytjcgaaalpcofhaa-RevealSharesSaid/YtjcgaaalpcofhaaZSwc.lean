/- Texts for the claim, put together: the calculus of regions, its rules, and contracts of the functions that the law reaches. -/
import Derived.Test.YtjcgaaalpcofhaaZSwb
set_option linter.unusedVariables false
set_option linter.unusedSimpArgs false
namespace Kb
open Go Go.Proofs
set_option maxRecDepth 10000 in
theorem samei_ct (a:List Int) (as_:SV) (b:List Int) (bs:SV) :
    Cp Try.prog 55 #[as_.v,bs.v] [fs true a as_,fs true b bs] (bv (decide (a=b))):=by
  refine V.fn mo Try.func55 26 0 (by kernel_rfl) fun w H ε k0=>?_;obtain ⟨⟨kl1, -⟩,⟨kl2, -⟩, -⟩:Lq a as_.v∧Lq b bs.v∧True:=kq k0
  clear k0;refine V.g [.kb false] fun _ _ G1=>?_;intro S s
  refine V.g [.k (as_.v),.ln (kf false (.f 0) a (fun _=>as_)),.k (bs.v),.ln (kf false (.f 1) b (fun _=>bs)),.k (bv (!(decide ((a.length:Int)=(b.length:Int)))))] fun _ _ G2=>?_;intro S s
  refine V.cn (b:=!(decide ((a.length:Int)=(b.length:Int)))) (iNT iDF) (iNF iDT) (fun q1=>?_) (fun q2=>?_)
  · refine V.g [.kb false] fun _ _ G3=>?_;intro S s
    have e0:false=decide (a=b):=Tm.same_no_len rfl rfl q1;exact V.rt [0] [] [] [] [] [] (bv false) (cong1 (fun (x0:Bool)=>(bv x0:Value)) e0)
  refine V.g [.k (iv 0)] fun _ _ G4=>?_;intro S s
  refine V.loop (γ:=Int) (fun i=>⟨[(0,as_.v),(1,bs.v),(5,iv i)],[fs false a as_,fs false b bs],[]⟩) (fun i=>(0≤i)∧(i≤(a.length:Int))∧(∀ j,j < i.toNat→a.getD j default=b.getD j default)) (fun i=>((a.length:Int)-i).toNat) 0 (by kernel_rfl) [0,1] (by kernel_rfl) ?_ ?_
  · refine ⟨?_,?_,?_⟩
    · show 0≤(0:Int)
      first | omega | rfl | (simp;done) | (subst_vars;simp;done)
    · show (0:Int)≤(a.length:Int)
      first | omega | rfl | (simp;done) | (subst_vars;simp;done)
    show ∀ j,j < (0:Int).toNat→a.getD j default=b.getD j default;intro j hj;simp at hj
  rintro i hF1 kw5 Z1 hZ1;have hF1:(0≤i)∧(i≤(a.length:Int))∧(∀ j,j < i.toNat→a.getD j default=b.getD j default):=hF1;obtain ⟨hf1,hf2,hf3⟩:=hF1;clear kw5;refine V.g [.k (iv i),.k (as_.v),.ln (kf false (.f 0) a (fun _=>as_)),.k (bv (decide (i < (a.length:Int))))] fun _ _ G5=>?_;intro S s;refine V.cn (b:=decide (i < (a.length:Int))) iDT iDF (fun q3=>?_) (fun q4=>?_)
  · refine nm (a.getD i.toNat default:Int) fun v1 hv1=>?_;refine nm (b.getD i.toNat default:Int) fun v2 hv2=>?_;refine V.g [.k (as_.v),.k (iv i),.ix g0 (kf false (.f 0) a (fun _=>as_)) i (fun _=>⟨by omega,by omega⟩),.le g0 (kf false (.f 0) a (fun _=>as_)) i none false v1 hv1 (fun _=>⟨by omega,by omega⟩) false (fun _=>[iv v1]),.k (bs.v),.k (iv i),.ix g0 (kf false (.f 1) b (fun _=>bs)) i (fun _=>⟨by omega,by omega⟩),.le g0 (kf false (.f 1) b (fun _=>bs)) i none false v2 hv2 (fun _=>⟨by omega,by omega⟩) false (fun _=>[iv v2]),.k (bv (!(decide (v1=v2))))] fun _ _ G6=>?_;intro S s
    refine V.cn (b:=!(decide (v1=v2))) (iNT iDF) (iNF iDT) (fun q5=>?_) (fun q6=>?_)
    · refine V.g [.kb false] fun _ _ G7=>?_;intro S s
      have e0:false=decide (a=b):=Tm.same_no (k:=i) hv1 hv2 q5;exact V.rt [0] [] [] [] [] [] (bv false) (cong1 (fun (x0:Bool)=>(bv x0:Value)) e0)
    refine V.g [.k (iv i),.a (i+1) (by omega) (by omega),.k (iv (i+1))] fun _ _ G8=>?_;intro S s
    refine V.rnd hZ1 (i+1) [0,1] (by kernel_rfl) ?_ ?_
    · refine ⟨?_,?_,?_⟩
      · show 0≤(i+1)
        first | omega | rfl | (simp;done) | (subst_vars;simp;done)
      · show (i+1)≤(a.length:Int)
        first | omega | rfl | (simp;done) | (subst_vars;simp;done)
      show ∀ j,j < (i+1).toNat→a.getD j default=b.getD j default;exact Tm.same_step hf3 (by omega) rfl hv1 hv2 q6
    show ((a.length:Int)-(i+1)).toNat < ((a.length:Int)-i).toNat;omega
  refine V.g [.kb true] fun _ _ G9=>?_;intro S s
  have e0:true=decide (a=b):=Tm.same_yes (k:=i) hf3 (by omega) (by omega);exact V.rt [0] [] [] [] [] [] (bv true) (cong1 (fun (x0:Bool)=>(bv x0:Value)) e0)

namespace Bg
def nv:List Int→Nat
  | []=>0
  | d :: l=>d.toNat+1048576 * nv l
def digF:Nat→Nat→List Int
  | 0,_=>[]
  | f+1,n=>if n=0 then [] else ((n % 1048576:Nat):Int) :: digF f (n / 1048576)
def dig (n:Nat):List Int:=digF n n
def Dg (l:List Int):Prop:=∀ d ∈ l,0≤d∧d < 1048576
instance (l : List Int) : Decidable (Dg l) := by unfold Dg; infer_instance
theorem digF_fuel:∀ (f g n:Nat),n≤f→n≤g→digF f n=digF g n
  | 0,0,_,_,_=>rfl
  | 0,g+1,n,h,_=>by
    have:n=0:=by omega
    subst this;simp [digF]
  | f+1,0,n,_,h=>by
    have:n=0:=by omega
    subst this;simp [digF]
  | f+1,g+1,n,h1,h2=>by
    unfold digF
    by_cases e:n=0
    · rw [if_pos e,if_pos e]
    · rw [if_neg e,if_neg e,digF_fuel f g (n / 1048576) (by omega) (by omega)]
theorem dig_zero:dig 0=[]:=rfl
theorem dig_pos {n:Nat} (h:n≠0):dig n=((n % 1048576:Nat):Int) :: dig (n / 1048576):=by
  unfold dig
  obtain ⟨m,rfl⟩:∃ m,n=m+1:=⟨n - 1,by omega⟩
  rw [digF,if_neg h,digF_fuel m _ ((m+1) / 1048576) (by omega) (Nat.le_refl _)]
theorem dig_Dg:∀ n:Nat,Dg (dig n):=fun n=>by
  induction n using Nat.strongRecOn with
  | _ n ih =>
    by_cases h:n=0
    · subst h;intro d hd;cases hd
    · rw [dig_pos h]
      intro d hd
      rcases List.mem_cons.1 hd with rfl | hd
      · omega
      · exact ih _ (by omega) d hd
theorem nv_dig:∀ n:Nat,nv (dig n)=n:=fun n=>by
  induction n using Nat.strongRecOn with
  | _ n ih =>
    by_cases h:n=0
    · subst h;rfl
    · rw [dig_pos h,nv,ih _ (by omega)]
      simp only [Int.toNat_natCast]
      omega
def Nz (l:List Int):Prop:=l.getLast?≠some 0
instance (l : List Int) : Decidable (Nz l) := by unfold Nz; infer_instance
theorem Dg.tail {d:Int} {l:List Int} (h:Dg (d :: l)):Dg l:=fun x hx=>h x (List.mem_cons_of_mem _ hx)
theorem Dg.head {d:Int} {l:List Int} (h:Dg (d :: l)):0≤d∧d < 1048576:=h d List.mem_cons_self
theorem dig_ne {n:Nat}:dig n=[]↔n=0:=⟨fun h=>by have:=congrArg nv h;rwa [nv_dig] at this,fun h=>by subst h;rfl⟩
theorem dig_Nz:∀ n:Nat,Nz (dig n):=fun n=>by
  induction n using Nat.strongRecOn with
  | _ n ih =>
    by_cases h:n=0
    · subst h;unfold Nz dig;simp [digF]
    · rw [dig_pos h]
      by_cases e:n / 1048576=0
      · rw [e];unfold Nz dig;simp [digF];omega
      · unfold Nz
        have h1:=ih (n / 1048576) (by omega)
        unfold Nz at h1
        rw [List.getLast?_cons]
        cases hl:(dig (n / 1048576)).getLast? with
        | none=>exact absurd (List.getLast?_eq_none_iff.1 hl) (fun h=>e (dig_ne.1 h))
        | some x=>rw [hl] at h1;simpa using h1
theorem eq_dig:∀ {l:List Int},Dg l→Nz l→l=dig (nv l)
  | [],_,_=>rfl
  | d :: l,h,hz=>by
    have hd:=h.head
    by_cases e:l=[]
    · subst e
      have h0:d≠0:=by intro e;subst e;exact hz rfl
      have e1:nv [d]=d.toNat:=by simp [nv]
      rw [e1,dig_pos (by omega),show d.toNat / 1048576=0 by omega,dig_zero]
      congr 1;omega
    · have hz':Nz l:=by
        unfold Nz at hz ⊢
        rw [List.getLast?_cons] at hz
        cases hl:l.getLast? with
        | none=>exact absurd (List.getLast?_eq_none_iff.1 hl) e
        | some x=>rw [hl] at hz;simpa using hz
      have ih:=eq_dig h.tail hz'
      have hn:nv l≠0:=fun h0=>by rw [h0] at ih;exact e ih
      have e1:nv (d :: l)=d.toNat+1048576 * nv l:=rfl
      rw [e1,dig_pos (by omega),show (d.toNat+1048576 * nv l) / 1048576=nv l by omega,← ih]
      congr 1;omega
theorem nv_append (a b:List Int):nv (a ++b)=nv a+1048576 ^ a.length * nv b:=by
  induction a with
  | nil=>simp [nv]
  | cons d a ih =>
    rw [List.cons_append,nv,nv,ih,List.length_cons,Nat.pow_succ,Nat.mul_add,Nat.mul_comm (1048576 ^ a.length) 1048576,Nat.mul_assoc]
    omega
theorem nv_zeros (n:Nat):nv (List.replicate n 0)=0:=by
  induction n with
  | zero=>rfl
  | succ n ih=>rw [List.replicate_succ,nv,ih];rfl
theorem nv_lt:∀ {l:List Int},Dg l→nv l < 1048576 ^ l.length
  | [],_=>by simp [nv]
  | d :: l,h=>by
    have ih:=nv_lt h.tail
    have hd:=h.head
    rw [nv,List.length_cons,Nat.pow_succ]
    omega
theorem nv_ge {l:List Int} (h:l≠[]) (hd:Dg l) (hz:Nz l):1048576 ^ (l.length - 1)≤nv l:=by
  have e:=List.dropLast_concat_getLast h
  have hx:l.getLast h≠0:=by
    intro h0;apply hz;rw [List.getLast?_eq_some_getLast h,h0]
  have hr:=hd _ (List.getLast_mem h)
  have h2:=nv_append l.dropLast [l.getLast h]
  rw [e,List.length_dropLast] at h2
  have h3:nv [l.getLast h]=(l.getLast h).toNat:=by simp [nv]
  rw [h2,h3]
  have:1≤(l.getLast h).toNat:=by omega
  have:=Nat.mul_le_mul_left (1048576 ^ (l.length - 1)) this
  omega
theorem nv_set:∀ {l:List Int} {i:Nat} (d:Int),i < l.length→nv (l.set i d)+1048576 ^ i * (l.getD i 0).toNat=nv l+1048576 ^ i * d.toNat
  | x :: l,0,d,_=>by simp [nv];omega
  | x :: l,i+1,d,h=>by
    have ih:=nv_set (l:=l) (i:=i) d (by simpa using h)
    rw [List.set_cons_succ,nv,nv,Nat.pow_succ,List.getD_cons_succ]
    generalize 1048576 ^ i=P at *
    rw [Nat.mul_comm P 1048576,Nat.mul_assoc,Nat.mul_assoc]
    omega
theorem nv_take:∀ {l:List Int} {i:Nat},i < l.length→nv (l.take (i+1))=nv (l.take i)+1048576 ^ i * (l.getD i 0).toNat
  | x :: l,0,_=>by simp [nv]
  | x :: l,i+1,h=>by
    have ih:=nv_take (l:=l) (i:=i) (by simpa using h)
    rw [List.take_succ_cons,List.take_succ_cons,nv,nv,ih,Nat.pow_succ,List.getD_cons_succ]
    generalize 1048576 ^ i=P at *
    rw [Nat.mul_comm P 1048576,Nat.mul_assoc]
    omega
theorem nv_drop:∀ {l:List Int} {i:Nat},i < l.length→nv (l.drop i)=(l.getD i 0).toNat+1048576 * nv (l.drop (i+1))
  | x :: l,0,_=>by simp [nv]
  | x :: l,i+1,h=>by
    rw [List.drop_succ_cons,List.drop_succ_cons,List.getD_cons_succ]
    exact nv_drop (l:=l) (i:=i) (by simpa using h)
theorem nv_split (l:List Int) (i:Nat):nv l=nv (l.take i)+1048576 ^ (min i l.length) * nv (l.drop i):=by
  have:=nv_append (l.take i) (l.drop i)
  rw [List.take_append_drop,List.length_take] at this
  exact this
theorem Dg.get {l:List Int} (h:Dg l) {i:Nat} (hi:i < l.length):0≤l.getD i 0∧l.getD i 0 < 1048576:=by
  have:l.getD i 0 ∈ l:=by simp [List.getD_eq_getElem?_getD,hi]
  exact h _ this
theorem Dg.append {a b:List Int} (h:Dg a) (k:Dg b):Dg (a ++b):=fun d hd=>by
  rcases List.mem_append.1 hd with hd | hd
  · exact h d hd
  · exact k d hd
theorem Dg.set {l:List Int} (h:Dg l) {i:Nat} {d:Int} (hd:0≤d∧d < 1048576):Dg (l.set i d):=fun x hx=>by
  rcases List.mem_or_eq_of_mem_set hx with hx | rfl
  · exact h x hx
  · exact hd
theorem Dg.take {l:List Int} (h:Dg l) (n:Nat):Dg (l.take n):=fun d hd=>h d (List.mem_of_mem_take hd)
theorem Dg.drop {l:List Int} (h:Dg l) (n:Nat):Dg (l.drop n):=fun d hd=>h d (List.mem_of_mem_drop hd)
theorem Dg.zeros (n:Nat):Dg (List.replicate n 0):=fun d hd=>by
  have:=List.eq_of_mem_replicate hd
  subst this;omega
theorem Dg.nil:Dg []:=fun d hd=>by cases hd
theorem Dg.one {d:Int} (h:0≤d∧d < 1048576):Dg [d]:=fun x hx=>by
  have:x=d:=by simpa using hx
  subst this;exact h
theorem trim_eq {l:List Int} {n:Nat} (h:Dg l) (hn:n≤l.length) (hz:∀ i,n≤i→i < l.length→l.getD i 0=0) (h0:n=0∨l.getD (n - 1) 0≠0):l.take n=dig (nv l):=by
  have e:l.drop n=List.replicate (l.length - n) 0:=by
    refine List.ext_getElem (by simp) fun i h1 h2=>?_
    simp only [List.length_drop] at h1
    have:=hz (n+i) (by omega) (by omega)
    simp only [List.getElem_drop,List.getElem_replicate]
    simpa [List.getD_eq_getElem?_getD,show n+i < l.length by omega] using this
  have e2:nv l=nv (l.take n):=by
    rw [nv_split l n,e,nv_zeros];omega
  rw [e2]
  refine eq_dig (h.take n) ?_
  unfold Nz
  rcases h0 with rfl | h0
  · simp
  · by_cases hn0:n=0
    · subst hn0;simp
    · rw [List.getLast?_eq_getElem?]
      simp only [List.length_take,Nat.min_eq_left hn]
      rw [List.getElem?_take,if_pos (by omega)]
      have hl:n - 1 < l.length:=by omega
      rw [List.getElem?_eq_getElem hl]
      intro hc
      apply h0
      simpa [List.getD_eq_getElem?_getD,hl] using hc
end Bg

namespace Bg
theorem nv_take' (l:List Int) (i:Nat):nv (l.take (i+1))=nv (l.take i)+1048576 ^ i * (l.getD i 0).toNat:=by
  by_cases h:i < l.length
  · exact nv_take h
  · rw [List.take_of_length_le (by omega),List.take_of_length_le (by omega)]
    simp [List.getD_eq_getElem?_getD,List.getElem?_eq_none (show l.length≤i by omega)]
theorem Dg.get' {l:List Int} (h:Dg l) (i:Nat):0≤l.getD i 0∧l.getD i 0 < 1048576:=by
  by_cases hi:i < l.length
  · exact h.get hi
  · simp [List.getD_eq_getElem?_getD,List.getElem?_eq_none (show l.length≤i by omega)]
theorem pow_succ' (i:Nat):1048576 ^ (i+1)=1048576 * 1048576 ^ i:=by rw [Nat.pow_succ,Nat.mul_comm]
theorem split_mul (P q r n:Nat) (h:r+1048576 * q=n):P * r+1048576 * P * q=P * n:=by
  rw [←h,Nat.mul_add,Nat.mul_comm 1048576 P,Nat.mul_assoc]
structure AddI (a b out:List Int) (i:Nat) (c:Int):Prop where
  len:out.length=a.length+1
  dg:Dg out
  hi:∀ j,i≤j→out.getD j 0=0
  c0:0≤c∧c≤1
  sum:nv out+1048576 ^ i * c.toNat=nv (a.take i)+nv (b.take i)
theorem getD_set {l:List Int} {i j:Nat} {x:Int} (h:i < l.length):(l.set i x).getD j 0=if j=i then x else l.getD j 0:=by
  simp only [List.getD_eq_getElem?_getD,List.getElem?_set]
  by_cases e:i=j
  · subst e;simp [h]
  · rw [if_neg e,if_neg (fun h=>e h.symm)]
theorem add_start (a b:List Int):AddI a b (List.replicate (a.length+1) 0) 0 0 :=
  ⟨by simp,Dg.zeros _,fun j _=>by simp [List.getD_eq_getElem?_getD,List.getElem?_replicate];split <;> rfl,by omega,by rw [nv_zeros];simp [nv]⟩
theorem add_step {a b out:List Int} {i:Nat} {c x:Int} (h:AddI a b out i c) (ha:Dg a) (hb:Dg b) (hi:i < a.length) (hx:x=c+a.getD i 0+b.getD i 0):AddI a b (out.set i (x % 1048576)) (i+1) (x / 1048576):=by
  have b1:=ha.get' i
  have b2:=hb.get' i
  have b3:=h.c0
  have hl:=h.len
  have hil:i < out.length:=by omega
  refine ⟨by rw [List.length_set];exact hl,h.dg.set (by omega),fun j hj=>?_,by omega,?_⟩
  · rw [getD_set hil,if_neg (by omega)];exact h.hi j (by omega)
  · have e1:=nv_set (x % 1048576) hil
    have e2:=nv_take' a i
    have e3:=nv_take' b i
    have e4:=h.sum
    rw [h.hi i (Nat.le_refl _)] at e1
    rw [e2,e3,pow_succ']
    have e5:=split_mul (1048576 ^ i) (x / 1048576).toNat (x % 1048576).toNat (c.toNat+(a.getD i 0).toNat+(b.getD i 0).toNat) (by omega)
    rw [Nat.mul_add,Nat.mul_add] at e5
    simp only [Int.toNat_zero,Nat.mul_zero] at e1
    omega
theorem add_end {a b out:List Int} {c:Int} (h:AddI a b out a.length c) (hb:b.length≤a.length):Dg (out.set a.length c)∧nv (out.set a.length c)=nv a+nv b:=by
  have hl:=h.len
  have b3:=h.c0
  refine ⟨h.dg.set (by omega),?_⟩
  have e1:=nv_set c (show a.length < out.length by omega)
  have e4:=h.sum
  rw [h.hi _ (Nat.le_refl _)] at e1
  rw [List.take_length,List.take_of_length_le hb] at e4
  simp only [Int.toNat_zero,Nat.mul_zero] at e1
  omega
structure SubI (a b out:List Int) (i:Nat) (c:Int):Prop where
  len:out.length=a.length
  dg:Dg out
  c0:0≤c∧c≤1
  sum:nv out+nv (b.take i)=nv a+1048576 ^ i * c.toNat
theorem sub_start (a b:List Int) (h:Dg a):SubI a b a 0 0:=⟨rfl,h,by omega,by simp [nv]⟩
theorem sub_step {a b out:List Int} {i:Nat} {c x:Int} (h:SubI a b out i c) (hb:Dg b) (hi:i < a.length) (hx:x=out.getD i 0 - c - b.getD i 0):SubI a b (out.set i (x % 1048576)) (i+1) (x / 1048576 % 2):=by
  have b1:=h.dg.get' i
  have b2:=hb.get' i
  have b3:=h.c0
  have hl:=h.len
  have hil:i < out.length:=by omega
  refine ⟨by rw [List.length_set];exact hl,h.dg.set (by omega),by omega,?_⟩
  have e1:=nv_set (x % 1048576) hil
  have e3:=nv_take' b i
  have e4:=h.sum
  rw [e3,pow_succ']
  have e5:(x % 1048576).toNat+(b.getD i 0).toNat+c.toNat=(out.getD i 0).toNat+1048576 * (x / 1048576 % 2).toNat:=by omega
  have e6:=congrArg (fun n=>1048576 ^ i * n) e5
  simp only [Nat.mul_add] at e6
  rw [←Nat.mul_assoc,Nat.mul_comm (1048576 ^ i) 1048576] at e6
  omega
theorem len_le {a b:List Int} (ha:Dg a) (hb:Dg b) (hz:Nz b) (h:nv b≤nv a):b.length≤a.length:=by
  by_cases e:b=[]
  · subst e;simp
  · have h1:=nv_ge e hb hz
    have h2:=nv_lt ha
    refine Decidable.by_contra fun hc=>?_
    have:1048576 ^ a.length≤1048576 ^ (b.length - 1):=Nat.pow_le_pow_right (by omega) (by omega)
    omega
theorem sub_end {a b out:List Int} {c:Int} (h:SubI a b out a.length c) (hb:b.length≤a.length) (hle:nv b≤nv a):nv out=nv a - nv b:=by
  have e4:=h.sum
  rw [List.take_of_length_le hb] at e4
  have h2:=nv_lt h.dg
  rw [h.len] at h2
  have b3:=h.c0
  have hc:c.toNat=0∨c.toNat=1:=by omega
  rcases hc with hc | hc <;> rw [hc] at e4 <;> omega
structure MulO (a b out:List Int) (i:Nat):Prop where
  len:out.length=a.length+b.length
  dg:Dg out
  hi:∀ j,i+b.length≤j→out.getD j 0=0
  sum:nv out=nv (a.take i) * nv b
structure MulI (a b out:List Int) (i k:Nat) (c:Int):Prop where
  len:out.length=a.length+b.length
  dg:Dg out
  hi:∀ j,i+b.length≤j→out.getD j 0=0
  c0:0≤c∧c < 1048576
  sum:nv out+1048576 ^ (i+k) * c.toNat=nv (a.take i) * nv b+1048576 ^ i * ((a.getD i 0).toNat * nv (b.take k))
theorem mul_start (a b:List Int):MulO a b (List.replicate (a.length+b.length) 0) 0 :=
  ⟨by simp,Dg.zeros _,fun j _=>by simp [List.getD_eq_getElem?_getD,List.getElem?_replicate];split <;> rfl,by rw [nv_zeros];simp [nv]⟩
theorem MulO.inner {a b out:List Int} {i:Nat} (h:MulO a b out i):MulI a b out i 0 0:=⟨h.len,h.dg,h.hi,by omega,by rw [h.sum];simp [nv]⟩
theorem mul_step {a b out:List Int} {i k:Nat} {c x:Int} (h:MulI a b out i k c) (ha:Dg a) (hb:Dg b) (hi:i < a.length) (hk:k < b.length) (hx:x=out.getD (i+k) 0+a.getD i 0 * b.getD k 0+c) :
    (0≤x∧x < 1099511627776)∧MulI a b (out.set (i+k) (x % 1048576)) i (k+1) (x / 1048576):=by
  have b1:=h.dg.get' (i+k)
  have b2:=ha.get' i
  have b3:=hb.get' k
  have b4:=h.c0
  have hl:=h.len
  have hil:i+k < out.length:=by omega
  have p0:0≤a.getD i 0 * b.getD k 0:=Int.mul_nonneg b2.1 b3.1
  have p1:a.getD i 0 * b.getD k 0≤1048575 * 1048575:=Int.mul_le_mul (by omega) (by omega) b3.1 (by omega)
  have ex:x.toNat=(out.getD (i+k) 0).toNat+(a.getD i 0).toNat * (b.getD k 0).toNat+c.toNat:=by
    have:(a.getD i 0 * b.getD k 0).toNat=(a.getD i 0).toNat * (b.getD k 0).toNat:=Int.toNat_mul b2.1 b3.1
    rw [←this];omega
  refine ⟨by omega,by rw [List.length_set];exact hl,h.dg.set (by omega),fun j hj=>?_,by omega,?_⟩
  · rw [getD_set hil,if_neg (by omega)];exact h.hi j (by omega)
  · have e1:=nv_set (x % 1048576) hil
    have e3:=nv_take' b k
    have e4:=h.sum
    rw [e3,show i+(k+1)=(i+k)+1 by omega,pow_succ']
    have e5:=split_mul (1048576 ^ (i+k)) (x / 1048576).toNat (x % 1048576).toNat x.toNat (by omega)
    rw [ex,Nat.mul_add,Nat.mul_add] at e5
    have e6:1048576 ^ i * ((a.getD i 0).toNat * (nv (b.take k)+1048576 ^ k * (b.getD k 0).toNat))=1048576 ^ i * ((a.getD i 0).toNat * nv (b.take k))+1048576 ^ (i+k) * ((a.getD i 0).toNat * (b.getD k 0).toNat):=by
      rw [Nat.mul_add,Nat.mul_add,Nat.pow_add,Nat.mul_assoc,Nat.mul_left_comm (a.getD i 0).toNat]
    rw [e6]
    omega
theorem mul_end {a b out:List Int} {i:Nat} {c x:Int} (h:MulI a b out i b.length c) (hi:i < a.length) (hx:x=out.getD (i+b.length) 0+c):MulO a b (out.set (i+b.length) x) (i+1):=by
  have hl:=h.len
  have b4:=h.c0
  have hil:i+b.length < out.length:=by omega
  rw [h.hi _ (Nat.le_refl _)] at hx
  have hxc:x=c:=by omega
  subst hxc
  refine ⟨by rw [List.length_set];exact hl,h.dg.set b4,fun j hj=>?_,?_⟩
  · rw [getD_set hil,if_neg (by omega)];exact h.hi j (by omega)
  · have e1:=nv_set x hil
    have e4:=h.sum
    rw [h.hi _ (Nat.le_refl _)] at e1
    rw [List.take_length] at e4
    rw [nv_take',Nat.add_mul,Nat.mul_assoc]
    simp only [Int.toNat_zero,Nat.mul_zero] at e1
    omega
structure ShoI (a out:List Int) (d:Int) (i:Nat) (r:Int):Prop where
  len:out.length=a.length
  dg:Dg out
  r0:0≤r∧r < d
  sum:nv (a.drop i)=d.toNat * nv (out.drop i)+r.toNat
theorem sho_start (a:List Int) {d:Int} (hd:0 < d):ShoI a (List.replicate a.length 0) d a.length 0:=⟨by simp,Dg.zeros _,by omega,by simp [nv]⟩
theorem sho_step {a out:List Int} {d r x:Int} {i:Nat} (h:ShoI a out d (i+1) r) (ha:Dg a) (hd:0 < d∧d < 1048576) (hi:i < a.length) (hx:x=r * 1048576+a.getD i 0) :
    (0≤x∧x < 1099511627776)∧(0≤x / d∧x / d < 1048576)∧ShoI a (out.set i (x / d)) d i (x % d):=by
  have b1:=ha.get' i
  have b2:=h.r0
  have hl:=h.len
  have q0:0≤x / d:=Int.ediv_nonneg (by omega) (by omega)
  have q1:x / d < 1048576:=Int.ediv_lt_of_lt_mul (by omega) (by
    have:(r+1) * 1048576≤d * 1048576:=Int.mul_le_mul_of_nonneg_right (by omega) (by omega)
    rw [Int.mul_comm 1048576 d];omega)
  refine ⟨by omega,⟨q0,q1⟩,by rw [List.length_set];exact hl,h.dg.set ⟨q0,q1⟩,⟨Int.emod_nonneg _ (by omega),Int.emod_lt_of_pos _ (by omega)⟩,?_⟩
  have hil:i < out.length:=by omega
  rw [nv_drop hi,nv_drop (l:=out.set i (x / d)) (by rw [List.length_set];exact hil),getD_set hil,if_pos rfl,h.sum]
  have e:(out.set i (x / d)).drop (i+1)=out.drop (i+1):=by rw [List.drop_set,if_pos (by omega)]
  rw [e]
  have e2:=Int.mul_ediv_add_emod x d
  have e4:0≤x % d:=Int.emod_nonneg _ (by omega)
  have e3:(a.getD i 0).toNat+1048576 * r.toNat=d.toNat * (x / d).toNat+(x % d).toNat:=by
    have:d.toNat * (x / d).toNat=(d * (x / d)).toNat:=(Int.toNat_mul (by omega) q0).symm
    have h5:0≤d * (x / d):=Int.mul_nonneg (by omega) q0
    rw [this];omega
  rw [Nat.mul_add,Nat.mul_add,Nat.mul_left_comm d.toNat]
  omega
theorem sho_end {a out:List Int} {d r:Int} (h:ShoI a out d 0 r):nv out=nv a / d.toNat∧r=((nv a % d.toNat:Nat):Int):=by
  have e:=h.sum
  rw [List.drop_zero,List.drop_zero] at e
  have hr:=h.r0
  have hd:0 < d.toNat:=by omega
  rw [e,Nat.mul_add_div hd,Nat.mul_add_mod,Nat.div_eq_of_lt (by omega),Nat.mod_eq_of_lt (by omega)]
  omega
end Bg

namespace Bg
def digL:Nat→Nat→List Int
  | 0,_=>[]
  | L+1,n=>((n % 1048576:Nat):Int) :: digL L (n / 1048576)
@[simp] theorem digL_len:∀ L n,(digL L n).length=L
  | 0,_=>rfl
  | L+1,n=>by simp [digL,digL_len L]
theorem digL_Dg:∀ L n,Dg (digL L n)
  | 0,_=>Dg.nil
  | L+1,n=>fun d hd=>by
    rw [digL] at hd
    rcases List.mem_cons.1 hd with rfl | hd
    · omega
    · exact digL_Dg L _ d hd
theorem nv_digL:∀ L n,n < 1048576 ^ L→nv (digL L n)=n
  | 0,n,h=>by simp at h;subst h;rfl
  | L+1,n,h=>by
    rw [digL,nv,nv_digL L (n / 1048576) (by rw [pow_succ'] at h;exact Nat.div_lt_of_lt_mul h)]
    simp only [Int.toNat_natCast];omega
theorem eq_digL:∀ {L:Nat} {l:List Int},l.length=L→Dg l→l=digL L (nv l)
  | 0,[],_,_=>rfl
  | L+1,d :: l,h,hd=>by
    have hd':=hd.head
    have ih:=eq_digL (L:=L) (l:=l) (by simpa using h) hd.tail
    have e1:nv (d :: l)=d.toNat+1048576 * nv l:=rfl
    rw [e1,digL,show (d.toNat+1048576 * nv l) / 1048576=nv l by omega,← ih]
    congr 1;omega
structure SetI (p v cur:List Int) (g:Int) (i:Nat) (c:Int):Prop where
  len:cur.length=p.length
  dg:Dg cur
  c0:0≤c∧c≤1048575
  sum:nv cur+g.toNat * nv (v.take i)=nv p+1048576 ^ i * c.toNat
theorem set_start (p v:List Int) (g:Int) (h:Dg p):SetI p v p g 0 0:=⟨rfl,h,by omega,by simp [nv]⟩
theorem set_step {p v cur:List Int} {g c x:Int} {i:Nat} (h:SetI p v cur g i c) (hv:Dg v) (hg:0≤g∧g < 1048576) (hi:i < p.length) (hx:x=cur.getD i 0 - c - g * v.getD i 0) :
    (-1099511627776≤x∧x < 1048576)∧SetI p v (cur.set i (x % 1048576)) g (i+1) (-(x / 1048576)):=by
  have b1:=h.dg.get' i
  have b2:=hv.get' i
  have b3:=h.c0
  have hl:=h.len
  have hil:i < cur.length:=by omega
  have p0:0≤g * v.getD i 0:=Int.mul_nonneg hg.1 b2.1
  have p1:g * v.getD i 0≤1048575 * 1048575:=Int.mul_le_mul (by omega) (by omega) b2.1 (by omega)
  have ex:(g * v.getD i 0).toNat=g.toNat * (v.getD i 0).toNat:=Int.toNat_mul hg.1 b2.1
  refine ⟨by omega,by rw [List.length_set];exact hl,h.dg.set (by omega),by omega,?_⟩
  have e1:=nv_set (x % 1048576) hil
  have e3:=nv_take' v i
  have e4:=h.sum
  rw [e3,pow_succ',Nat.mul_add]
  have e5:(x % 1048576).toNat+(g * v.getD i 0).toNat+c.toNat=(cur.getD i 0).toNat+1048576 * (-(x / 1048576)).toNat:=by omega
  rw [ex] at e5
  have e6:=congrArg (fun n=>1048576 ^ i * n) e5
  simp only [Nat.mul_add] at e6
  rw [←Nat.mul_assoc (1048576 ^ i) 1048576,Nat.mul_comm (1048576 ^ i) 1048576] at e6
  rw [Nat.mul_left_comm g.toNat]
  omega
def setG (p v:List Int) (g:Int):Int:=if g.toNat * nv v≤nv p then g else g - 1
def setP (p v:List Int) (g:Int):List Int:=digL p.length (nv p - (setG p v g).toNat * nv v)
theorem set_mid {p v cur:List Int} {g c:Int} (h:SetI p v cur g p.length c) (hl:v.length≤p.length) (hg:0≤g) :
    (c=0↔g.toNat * nv v≤nv p)∧(c=0→cur=setP p v g):=by
  have e4:=h.sum
  rw [List.take_of_length_le hl] at e4
  have b3:=h.c0
  have h2:=nv_lt h.dg
  rw [h.len] at h2
  have key:c=0↔g.toNat * nv v≤nv p:=by
    constructor
    · intro e;subst e
      have:(0:Int).toNat=0:=rfl
      rw [this] at e4;omega
    · intro hle
      refine Decidable.by_contra fun hc=>?_
      have:1≤c.toNat:=by omega
      have:=Nat.mul_le_mul_left (1048576 ^ p.length) this
      omega
  refine ⟨key,fun hc=>?_⟩
  have hle:=key.1 hc
  unfold setP setG
  rw [if_pos hle,eq_digL h.len h.dg]
  congr 1
  subst hc
  have:(0:Int).toNat=0:=rfl
  rw [this] at e4;omega
structure BakI (p v cur:List Int) (i:Nat) (c:Int):Prop where
  len:cur.length=p.length
  dg:Dg cur
  c0:0≤c∧c≤1
  sum:nv cur+1048576 ^ i * c.toNat=nv p+nv (v.take i)
theorem bak_start (p v:List Int) (h:Dg p):BakI p v p 0 0:=⟨rfl,h,by omega,by simp [nv]⟩
theorem bak_step {p v cur:List Int} {c x:Int} {i:Nat} (h:BakI p v cur i c) (hv:Dg v) (hi:i < p.length) (hx:x=c+cur.getD i 0+v.getD i 0):BakI p v (cur.set i (x % 1048576)) (i+1) (x / 1048576):=by
  have b1:=h.dg.get' i
  have b2:=hv.get' i
  have b3:=h.c0
  have hl:=h.len
  have hil:i < cur.length:=by omega
  refine ⟨by rw [List.length_set];exact hl,h.dg.set (by omega),by omega,?_⟩
  have e1:=nv_set (x % 1048576) hil
  have e3:=nv_take' v i
  have e4:=h.sum
  rw [e3,pow_succ']
  have e5:=split_mul (1048576 ^ i) (x / 1048576).toNat (x % 1048576).toNat (c.toNat+(cur.getD i 0).toNat+(v.getD i 0).toNat) (by omega)
  rw [Nat.mul_add,Nat.mul_add] at e5
  omega
theorem set_end {p v mid cur:List Int} {g c k:Int} (h:SetI p v mid g p.length c) (hb:BakI mid v cur p.length k) (hd:Dg p) (hl:v.length≤p.length) (hg:0≤g) (hc:¬ c=0) (h1:(g.toNat - 1) * nv v≤nv p):g - 1=setG p v g∧cur=setP p v g:=by
  have hm:=(set_mid h hl hg).1
  have hn:¬ g.toNat * nv v≤nv p:=fun hh=>hc (hm.2 hh)
  have hg1:1≤g.toNat:=by
    refine Decidable.by_contra fun hh=>hn ?_
    rw [show g.toNat=0 by omega];omega
  have e4:=h.sum
  have e5:=hb.sum
  rw [List.take_of_length_le hl] at e4 e5
  have b1:=nv_lt hb.dg
  rw [hb.len,h.len] at b1
  have b2:=nv_lt hd
  have eG:setG p v g=g - 1:=by unfold setG;rw [if_neg hn]
  refine ⟨eG.symm,?_⟩
  unfold setP
  rw [eG,eq_digL (hb.len.trans h.len) hb.dg]
  congr 1
  have e6:g.toNat * nv v=(g.toNat - 1) * nv v+nv v:=by
    obtain ⟨m,hm⟩:∃ m,g.toNat=m+1:=⟨g.toNat - 1,by omega⟩
    rw [hm,Nat.add_mul];simp
  have e7:(g - 1).toNat=g.toNat - 1:=by omega
  rw [e7]
  have hk:=hb.c0
  have hkc:1048576 ^ p.length * k.toNat=1048576 ^ p.length * c.toNat:=by
    have hkc2:nv cur+1048576 ^ p.length * k.toNat+(g.toNat - 1) * nv v=nv p+1048576 ^ p.length * c.toNat:=by omega
    have hP:0 < 1048576 ^ p.length:=Nat.pow_pos (by omega)
    generalize 1048576 ^ p.length=P at *
    have:k.toNat=c.toNat:=by
      rcases Nat.lt_trichotomy k.toNat c.toNat with hlt | heq | hgt
      · exfalso
        have:=Nat.mul_le_mul_left P (show k.toNat+1≤c.toNat from hlt)
        rw [Nat.mul_add] at this
        omega
      · exact heq
      · exfalso
        have:=Nat.mul_le_mul_left P (show c.toNat+1≤k.toNat from hgt)
        rw [Nat.mul_add] at this
        omega
    rw [this]
  omega
theorem guess_less {q g:Nat} {top v1 v2 u2 rest V U Rv Ru P:Nat} (hU:U=(top * 1048576+u2) * P+Ru) (hV:V=(v1 * 1048576+v2) * P+Rv) (hRu:Ru < P) (hr:rest+g * v1=top) (hq:q * V≤U) (hqg:q≤g) (hgt:rest * 1048576+u2 < g * v2):q+1≤g:=by
  refine Decidable.by_contra fun hc=>?_
  have e:q=g:=by omega
  subst e
  have h1:q * (v1 * 1048576+v2)=(q * v1) * 1048576+q * v2:=by rw [Nat.mul_add,Nat.mul_assoc]
  have h2:top * 1048576+u2+1≤q * (v1 * 1048576+v2):=by rw [h1,← hr];omega
  have h3:(top * 1048576+u2+1) * P≤q * (v1 * 1048576+v2) * P:=Nat.mul_le_mul_right P h2
  have h4:q * V=q * (v1 * 1048576+v2) * P+q * Rv:=by rw [hV,Nat.mul_add,Nat.mul_assoc]
  rw [Nat.add_mul] at h3
  omega
theorem guess_fits {g top v1 v2 u2 rest V U Rv Ru P:Nat} (hU:U=(top * 1048576+u2) * P+Ru) (hV:V=(v1 * 1048576+v2) * P+Rv) (hRv:Rv < P) (hr:rest+g * v1=top) (hv1:1≤v1) (hv2:v2 < 1048576) (hg:g < 1048576) (hf:1048576≤rest∨g * v2≤rest * 1048576+u2):(g - 1) * V≤U:=by
  have hle:g * v2≤rest * 1048576+u2:=by
    rcases hf with hf | hf
    · have:g * v2≤1048575 * 1048575:=Nat.mul_le_mul (by omega) (by omega)
      omega
    · exact hf
  by_cases h0:g=0
  · subst h0;simp
  · have h1:g * (v1 * 1048576+v2)=(g * v1) * 1048576+g * v2:=by rw [Nat.mul_add,Nat.mul_assoc]
    have h2:g * (v1 * 1048576+v2)≤top * 1048576+u2:=by rw [h1,← hr];omega
    have h3:=Nat.mul_le_mul_right P h2
    have h4:g * V=g * (v1 * 1048576+v2) * P+g * Rv:=by rw [hV,Nat.mul_add,Nat.mul_assoc]
    have h5:g * Rv≤1048576 * P:=Nat.mul_le_mul (by omega) (by omega)
    have h6:1048576 * P≤v1 * 1048576 * P:=by
      have:=Nat.mul_le_mul_right (1048576 * P) hv1
      rw [Nat.one_mul] at this
      rw [Nat.mul_assoc];exact this
    have h7:V=v1 * 1048576 * P+v2 * P+Rv:=by rw [hV,Nat.add_mul]
    have h8:g * V=(g - 1) * V+V:=by
      obtain ⟨m,hm⟩:∃ m,g=m+1:=⟨g - 1,by omega⟩
      subst hm;rw [Nat.add_mul];simp
    omega
end Bg

namespace Bg
structure DivI (u0 v u q:List Int) (i:Nat):Prop where
  len:u.length=q.length+v.length
  dg:Dg u
  qd:Dg q
  lt:nv (u.drop i) < nv v
  sum:nv u0=nv u+1048576 ^ i * (nv (q.drop i) * nv v)
theorem ar3 (B P x y z w:Nat):w+P * z+B * P * y+B * (B * P) * x=((x * B+y) * B+z) * P+w:=by grind
theorem ar2 (B P x y w:Nat):w+P * y+B * P * x=(x * B+y) * P+w:=by grind
theorem nv_head (l:List Int) (n:Nat) (h:n+2≤l.length):nv (l.take (n+2))=((l.getD (n+1) 0).toNat * 1048576+(l.getD n 0).toNat) * 1048576 ^ n+nv (l.take n):=by
  rw [nv_take' l (n+1),nv_take' l n,pow_succ']
  exact ar2 _ _ _ _ _
theorem nv_head3 (l:List Int) (n:Nat) (h:n+3≤l.length):nv (l.take (n+3))=(((l.getD (n+2) 0).toNat * 1048576+(l.getD (n+1) 0).toNat) * 1048576+(l.getD n 0).toNat) * 1048576 ^ n+nv (l.take n):=by
  rw [nv_take' l (n+2),nv_take' l (n+1),nv_take' l n,pow_succ' (n+1),pow_succ']
  exact ar3 _ _ _ _ _ _
theorem take_lt {l:List Int} (h:Dg l) (n:Nat):nv (l.take n) < 1048576 ^ n:=by
  have:=nv_lt (h.take n)
  rw [List.length_take] at this
  have h2:1048576 ^ (min n l.length)≤1048576 ^ n:=Nat.pow_le_pow_right (by omega) (by omega)
  omega
theorem getD_drop (l:List Int) (k i:Nat):(l.drop k).getD i 0=l.getD (k+i) 0:=by
  simp [List.getD_eq_getElem?_getD,List.getElem?_drop]
section
variable {u0 v u q : List Int} {k : Nat}
def win (u:List Int) (k n:Nat):List Int:=(u.drop k).take (n+1)
theorem win_len (h:DivI u0 v u q (k+1)) (hk:k < q.length):(win u k v.length).length=v.length+1:=by
  unfold win;rw [List.length_take,List.length_drop,h.len];omega
theorem win_ar {B P U W X V:Nat} (h6:U=W+B * P * X) (h4:U < B * V) (h5:V < P):X=0:=by
  refine Decidable.by_contra fun hc=>?_
  have h1:=Nat.mul_le_mul_left B (Nat.le_of_lt h5)
  have h2:=Nat.mul_le_mul_left (B * P) (Nat.pos_of_ne_zero hc)
  rw [Nat.mul_one] at h2
  omega
theorem win_nv (h:DivI u0 v u q (k+1)) (hv:Dg v) (hk:k < q.length):nv (u.drop k)=nv (win u k v.length)∧nv (win u k v.length) < 1048576 * nv v∧nv (u.drop (k+v.length+1))=0:=by
  have h1:=nv_drop (l:=u) (i:=k) (by rw [h.len];omega)
  have h2:=h.lt
  have h3:=h.dg.get' k
  have h4:nv (u.drop k) < 1048576 * nv v:=by omega
  have h5:=nv_lt hv
  have h6:=nv_split (u.drop k) (v.length+1)
  rw [List.length_drop,h.len,Nat.min_eq_left (by omega),List.drop_drop] at h6
  rw [pow_succ'] at h6
  have h7:nv (u.drop (k+(v.length+1)))=0:=win_ar h6 h4 h5
  rw [h7,Nat.mul_zero,Nat.add_zero] at h6
  exact ⟨by unfold win;exact h6,by unfold win;rw [←h6];exact h4,by rw [Nat.add_assoc];exact h7⟩
def qk (v u:List Int) (k:Nat):Nat:=nv (win u k v.length) / nv v
theorem qk_is (h:DivI u0 v u q (k+1)) (hv:Dg v) (hk:k < q.length):qk v u k < 1048576∧qk v u k * nv v≤nv (win u k v.length)∧nv (win u k v.length) - qk v u k * nv v < nv v:=by
  obtain ⟨h1,h2,h3⟩:=win_nv h hv hk
  have hp:0 < nv v:=by have:=h.lt;omega
  refine ⟨Nat.div_lt_of_lt_mul (by rw [Nat.mul_comm];exact h2),Nat.div_mul_le_self _ _,?_⟩
  have:=Nat.mod_lt (nv (win u k v.length)) hp
  rw [Nat.mod_eq_sub_mul_div,Nat.mul_comm] at this
  exact this
theorem win_head (h:DivI u0 v u q (k+1)) (hk:k < q.length) {n:Nat} (hn:v.length=n+2) :
    nv (win u k v.length)=(((u.getD (k+n+2) 0).toNat * 1048576+(u.getD (k+n+1) 0).toNat) * 1048576+(u.getD (k+n) 0).toNat) * 1048576 ^ n+nv ((u.drop k).take n):=by
  unfold win
  rw [hn,nv_head3 _ _ (by rw [List.length_drop,h.len];omega),getD_drop,getD_drop,getD_drop]
  rfl
theorem v_head {n:Nat} (hn:v.length=n+2):nv v=((v.getD (n+1) 0).toNat * 1048576+(v.getD n 0).toNat) * 1048576 ^ n+nv (v.take n):=by
  have:=nv_head v n (by omega)
  rwa [←hn,List.take_length] at this
theorem toNat_div {a b:Int} (ha:0≤a) (hb:0≤b):(a / b).toNat=a.toNat / b.toNat:=by
  obtain ⟨m,rfl⟩:=Int.eq_ofNat_of_zero_le ha
  obtain ⟨n,rfl⟩:=Int.eq_ofNat_of_zero_le hb
  rw [←Int.natCast_ediv,Int.toNat_natCast,Int.toNat_natCast,Int.toNat_natCast]
theorem guess_ge {q top v1 v2 u2 V U Rv Ru P B:Nat} (hU:U=(top * B+u2) * P+Ru) (hV:V=(v1 * B+v2) * P+Rv) (hu2:u2 < B) (hRu:Ru < P) (hq:q * V≤U):q * v1≤top:=by
  refine Decidable.by_contra fun hc=>?_
  have hc':top+1≤q * v1:=by omega
  have m1:=Nat.mul_le_mul_right (B * P) hc'
  have m2:q * v1 * (B * P)≤q * V:=by
    rw [Nat.mul_assoc]
    refine Nat.mul_le_mul_left _ ?_
    rw [hV,Nat.add_mul,Nat.mul_assoc];omega
  have m3:(top * B+u2+1) * P≤((top+1) * B) * P:=Nat.mul_le_mul_right _ (by rw [Nat.add_mul,Nat.one_mul];omega)
  rw [←Nat.mul_assoc] at m1
  rw [Nat.add_mul (top * B+u2) 1,Nat.one_mul] at m3
  omega
structure Gss (v u:List Int) (k:Nat) (g r:Int):Prop where
  g0:0≤g
  g1:g≤1099511627776
  r0:0≤r
  eq:r+g * v.getD (v.length - 1) 0=u.getD (k+v.length) 0 * 1048576+u.getD (k+v.length - 1) 0
  ge:qk v u k≤g.toNat
theorem gss_nat {g r:Int} (h:Gss v u k g r) (hu:Dg u) (hv:Dg v):r.toNat+g.toNat * (v.getD (v.length - 1) 0).toNat=(u.getD (k+v.length) 0).toNat * 1048576+(u.getD (k+v.length - 1) 0).toNat:=by
  have a:=hv.get' (v.length - 1)
  have b:=hu.get' (k+v.length)
  have c:=hu.get' (k+v.length - 1)
  have e:=h.eq
  have:=h.g0;have:=h.r0
  have e2:(g * v.getD (v.length - 1) 0).toNat=g.toNat * (v.getD (v.length - 1) 0).toNat:=Int.toNat_mul h.g0 a.1
  have e3:0≤g * v.getD (v.length - 1) 0:=Int.mul_nonneg h.g0 a.1
  rw [←e2];omega
theorem gss_start (h:DivI u0 v u q (k+1)) (hv:Dg v) (hk:k < q.length) (h2:2≤v.length) (hz:0 < v.getD (v.length - 1) 0) {t g r:Int} (ht:t=u.getD (k+v.length) 0 * 1048576+u.getD (k+v.length - 1) 0) (hg:g=t / v.getD (v.length - 1) 0) (hr:r=t % v.getD (v.length - 1) 0):Gss v u k g r:=by
  obtain ⟨n,hn⟩:∃ n,v.length=n+2:=⟨v.length - 2,by omega⟩
  have b:=h.dg.get' (k+v.length)
  have c:=h.dg.get' (k+v.length - 1)
  have a:=hv.get' (v.length - 1)
  have t0:0≤t∧t < 1099511627776:=by omega
  have hg0:0≤g:=by rw [hg];exact Int.ediv_nonneg t0.1 (by omega)
  have hg1:g≤t:=by rw [hg];exact Int.ediv_le_self _ t0.1
  refine ⟨hg0,by omega,by rw [hr];exact Int.emod_nonneg _ (by omega),?_,?_⟩
  · rw [hg,hr,← ht,Int.mul_comm];have:=Int.mul_ediv_add_emod t (v.getD (v.length - 1) 0);omega
  · obtain ⟨q1,q2,q3⟩:=qk_is h hv hk
    have e1:=win_head h hk hn
    have e2:=v_head hn
    have e3:=take_lt (h.dg.drop k) n
    rw [hn,show n+2 - 1=n+1 by omega] at hg a hz
    rw [hn,show k+(n+2)=k+n+2 by omega,show k+n+2 - 1=k+n+1 by omega] at ht c
    rw [hn,show k+(n+2)=k+n+2 by omega] at b
    rw [hn] at e1 q2
    have c2:=h.dg.get' (k+n)
    have et:t.toNat=(u.getD (k+n+2) 0).toNat * 1048576+(u.getD (k+n+1) 0).toNat:=by omega
    have e4:qk v u k * (v.getD (n+1) 0).toNat≤t.toNat:=by
      rw [et]
      exact guess_ge (u2:=(u.getD (k+n) 0).toNat) e1 e2 (by omega) e3 q2
    have e5:qk v u k≤t.toNat / (v.getD (n+1) 0).toNat:=(Nat.le_div_iff_mul_le (by omega)).2 e4
    have e6:g.toNat=t.toNat / (v.getD (n+1) 0).toNat:=by rw [hg];exact toNat_div t0.1 (by omega)
    omega
theorem gss_less {g r:Int} (hG:Gss v u k g r) (h:DivI u0 v u q (k+1)) (hv:Dg v) (hk:k < q.length) (h2:2≤v.length) (hz:0 < v.getD (v.length - 1) 0)
    (hc:1048576≤g∨r < 1048576∧r * 1048576+u.getD (k+v.length - 2) 0 < g * v.getD (v.length - 2) 0):Gss v u k (g - 1) (r+v.getD (v.length - 1) 0)∧0 < g:=by
  obtain ⟨q1,q2,q3⟩:=qk_is h hv hk
  have key:qk v u k+1≤g.toNat:=by
    rcases hc with hc | ⟨_,hc⟩
    · omega
    · obtain ⟨n,hn⟩:∃ n,v.length=n+2:=⟨v.length - 2,by omega⟩
      have e1:=win_head h hk hn
      have e2:=v_head hn
      have e3:=take_lt (h.dg.drop k) n
      have e4:=gss_nat hG h.dg hv
      rw [hn,show n+2 - 1=n+1 by omega,show k+(n+2)=k+n+2 by omega,show k+n+2 - 1=k+n+1 by omega] at e4
      rw [hn,show k+(n+2) - 2=k+n by omega,show n+2 - 2=n by omega] at hc
      have a:=hv.get' n
      have c:=h.dg.get' (k+n)
      have:=hG.g0;have:=hG.r0
      refine guess_less (top:=(u.getD (k+n+2) 0).toNat * 1048576+(u.getD (k+n+1) 0).toNat) (u2:=(u.getD (k+n) 0).toNat) (rest:=r.toNat) (v1:=(v.getD (n+1) 0).toNat) (v2:=(v.getD n 0).toNat) e1 e2 e3 e4 q2 hG.ge ?_
      have e5:(g * v.getD n 0).toNat=g.toNat * (v.getD n 0).toNat:=Int.toNat_mul hG.g0 a.1
      rw [←e5];omega
  have e:=hG.eq
  have a:=hv.get' (v.length - 1)
  refine ⟨⟨by omega,by have:=hG.g1;omega,by have:=hG.r0;omega,?_,by omega⟩,by omega⟩
  rw [←e,Int.sub_mul];omega
theorem gss_end {g r:Int} (hG:Gss v u k g r) (h:DivI u0 v u q (k+1)) (hv:Dg v) (hk:k < q.length) (h2:2≤v.length) (hz:0 < v.getD (v.length - 1) 0)
    (hc:¬ 1048576≤g∧(¬r < 1048576∨¬ r * 1048576+u.getD (k+v.length - 2) 0 < g * v.getD (v.length - 2) 0)):(0≤g∧g < 1048576)∧(g.toNat - 1) * nv v≤nv (win u k v.length)∧setG (win u k v.length) v g=(qk v u k:Int):=by
  obtain ⟨q1,q2,q3⟩:=qk_is h hv hk
  have h0:=hG.g0
  have hfit:(g.toNat - 1) * nv v≤nv (win u k v.length):=by
    obtain ⟨n,hn⟩:∃ n,v.length=n+2:=⟨v.length - 2,by omega⟩
    have e1:=win_head h hk hn
    have e2:=v_head hn
    have e4:=gss_nat hG h.dg hv
    rw [hn,show n+2 - 1=n+1 by omega,show k+(n+2)=k+n+2 by omega,show k+n+2 - 1=k+n+1 by omega] at e4
    rw [hn,show k+(n+2) - 2=k+n by omega,show n+2 - 2=n by omega] at hc
    rw [hn,show n+2 - 1=n+1 by omega] at hz
    have a:=hv.get' n
    have c:=h.dg.get' (k+n)
    have:=hG.r0
    have e5:(g * v.getD n 0).toNat=g.toNat * (v.getD n 0).toNat:=Int.toNat_mul hG.g0 a.1
    have e6:0≤g * v.getD n 0:=Int.mul_nonneg hG.g0 a.1
    refine guess_fits (top:=(u.getD (k+n+2) 0).toNat * 1048576+(u.getD (k+n+1) 0).toNat) (u2:=(u.getD (k+n) 0).toNat) (rest:=r.toNat) (v1:=(v.getD (n+1) 0).toNat) (v2:=(v.getD n 0).toNat) e1 e2 (take_lt hv n) e4 (by omega) (by omega) (by omega) ?_
    rcases hc.2 with hc | hc
    · exact .inl (by omega)
    · exact .inr (by rw [←e5];omega)
  refine ⟨⟨h0,by omega⟩,hfit,?_⟩
  have hge:=hG.ge
  have hp:0 < nv v:=by have:=h.lt;omega
  unfold setG
  by_cases hle:g.toNat * nv v≤nv (win u k v.length)
  · rw [if_pos hle]
    have:g.toNat≤qk v u k:=(Nat.le_div_iff_mul_le hp).2 hle
    omega
  · rw [if_neg hle]
    have a1:g.toNat - 1≤qk v u k:=(Nat.le_div_iff_mul_le hp).2 hfit
    have a2:qk v u k≠g.toNat:=fun e=>hle (by rw [←e];exact q2)
    omega
def nxtU (v u:List Int) (k:Nat) (g:Int):List Int:=u.take k ++setP (win u k v.length) v g ++u.drop (k+v.length+1)
theorem div_step {g x:Int} (h:DivI u0 v u q (k+1)) (hv:Dg v) (hk:k < q.length) (hs:setG (win u k v.length) v g=(qk v u k:Int)) (hx:x=setG (win u k v.length) v g):DivI u0 v (nxtU v u k g) (q.set k x) k:=by
  obtain ⟨q1,q2,q3⟩:=qk_is h hv hk
  obtain ⟨w1,w2,w3⟩:=win_nv h hv hk
  have wl:=win_len h hk
  rw [hs] at hx
  subst hx
  have eP:setP (win u k v.length) v g=digL (v.length+1) (nv (win u k v.length) - qk v u k * nv v):=by unfold setP;rw [hs,wl];rfl
  have eL:(u.take k).length=k:=by rw [List.length_take,h.len];omega
  have hvl:=nv_lt hv
  have e1:nv (digL (v.length+1) (nv (win u k v.length) - qk v u k * nv v))=nv (win u k v.length) - qk v u k * nv v:=nv_digL _ _ (by rw [pow_succ'];omega)
  have eD:nv ((nxtU v u k g).drop k)=nv (win u k v.length) - qk v u k * nv v:=by
    unfold nxtU
    rw [List.append_assoc,List.drop_append_of_le_length (by omega),List.drop_of_length_le (by omega),List.nil_append,nv_append,w3,eP,e1];simp
  have eN:nv (nxtU v u k g)=nv (u.take k)+1048576 ^ k * (nv (win u k v.length) - qk v u k * nv v):=by
    unfold nxtU
    rw [List.append_assoc,nv_append,eL,nv_append,w3,eP,e1];simp
  refine ⟨?_,?_,h.qd.set (by omega),by rw [eD];exact q3,?_⟩
  · unfold nxtU
    rw [List.length_set,List.length_append,List.length_append,eL,eP,digL_len,List.length_drop,h.len];omega
  · unfold nxtU;rw [eP]
    exact ((h.dg.take k).append (digL_Dg _ _)).append (h.dg.drop _)
  · have e3:=nv_split u k
    rw [h.len,Nat.min_eq_left (by omega),w1] at e3
    have e4:=nv_drop (l:=q.set k (qk v u k:Int)) (i:=k) (by rw [List.length_set];exact hk)
    have e7:(q.set k (qk v u k:Int)).drop (k+1)=q.drop (k+1):=by rw [List.drop_set,if_pos (by omega)]
    rw [getD_set hk,if_pos rfl,e7] at e4
    have e5:=h.sum
    rw [e4,eN,e5,e3,pow_succ']
    have e6:1048576 ^ k * nv (win u k v.length)=1048576 ^ k * (nv (win u k v.length) - qk v u k * nv v)+1048576 ^ k * (qk v u k * nv v):=by
      rw [←Nat.mul_add];congr 1;omega
    rw [e6]
    simp only [Int.toNat_natCast]
    rw [Nat.add_mul,Nat.mul_add,Nat.mul_assoc 1048576 (nv (q.drop (k+1))),Nat.mul_left_comm (1048576 ^ k) 1048576,Nat.mul_assoc 1048576 (1048576 ^ k)]
    omega
end
theorem div_end {u0 v u q:List Int} (h:DivI u0 v u q 0):nv q=nv u0 / nv v∧nv u=nv u0 % nv v:=by
  have h1:=h.sum
  have h2:=h.lt
  simp only [List.drop_zero,Nat.pow_zero,Nat.one_mul] at h1 h2
  have hp:0 < nv v:=by omega
  rw [h1,Nat.add_comm,Nat.mul_comm,Nat.mul_add_div hp,Nat.mul_add_mod,Nat.div_eq_of_lt h2,Nat.mod_eq_of_lt h2]
  exact ⟨by omega,rfl⟩
theorem div_start {a v q:List Int} (ha:Dg a) (hv:Dg v) (hz:Nz v) (hne:v≠[]) (hl:v.length≤a.length) (hq:q=List.replicate (a.length+1 - v.length) 0):DivI (a ++[0]) v (a ++[0]) q q.length:=by
  have hql:q.length=a.length+1 - v.length:=by rw [hq];simp
  have hv1:1≤v.length:=by cases v <;> simp_all
  refine ⟨by rw [hql];simp;omega,ha.append (Dg.one (by omega)),by rw [hq];exact Dg.zeros _,?_,?_⟩
  · have hge:=nv_ge hne hv hz
    rw [hql,List.drop_append_of_le_length (by omega),nv_append]
    have:=nv_lt (ha.drop (a.length+1 - v.length))
    rw [List.length_drop,show a.length - (a.length+1 - v.length)=v.length - 1 by omega] at this
    have h0:nv [0]=0:=rfl
    rw [h0];omega
  · rw [List.drop_length];simp [nv]
end Bg

namespace Bg
def sgn (z:Int):Int:=if z < 0 then -1 else if z=0 then 0 else 1
theorem sgn_mul_abs (z:Int):sgn z * (z.natAbs:Int)=z:=by
  unfold sgn;split
  · omega
  · split <;> omega
def RtB (s:Int) (l:List Int):Prop:=Dg l∧((l=[]∧s=0)∨(l≠[]∧(s=1∨s= -1)∧Nz l))
instance (s : Int) (l : List Int) : Decidable (RtB s l) := by unfold RtB; infer_instance
def zv (s:Int) (l:List Int):Int:=s * nv l
theorem Nz_iff {l:List Int} (h:l≠[]):Nz l↔l.getD (l.length - 1) 0≠0:=by
  unfold Nz
  rw [List.getLast?_eq_getElem?]
  have hl:l.length - 1 < l.length:=by cases l <;> simp_all
  rw [List.getElem?_eq_getElem hl,List.getD_eq_getElem?_getD,List.getElem?_eq_getElem hl]
  simp
theorem RtB.dg {s:Int} {l:List Int} (h:RtB s l):Dg l:=h.1
theorem RtB.nz {s:Int} {l:List Int} (h:RtB s l):Nz l:=by
  rcases h.2 with ⟨rfl,_⟩ | ⟨_,_,h⟩
  · unfold Nz;simp
  · exact h
theorem RtB.eq {s:Int} {l:List Int} (h:RtB s l):l=dig (nv l):=eq_dig h.dg h.nz
theorem RtB.len0 {s:Int} {l:List Int} (h:RtB s l):l.length=0↔nv l=0:=by
  rw [List.length_eq_zero_iff]
  constructor
  · intro e;rw [e];rfl
  · intro e;have:=h.eq;rw [e] at this;exact this
theorem RtB.cases {s:Int} {l:List Int} (h:RtB s l):(nv l=0∧s=0)∨(0 < nv l∧s=1)∨(0 < nv l∧s= -1):=by
  rcases h.2 with ⟨rfl,h2⟩ | ⟨h1,h2,h3⟩
  · exact .inl ⟨rfl,h2⟩
  · have:nv l≠0:=fun e=>h1 (by have:=h.eq;rw [e] at this;exact this)
    rcases h2 with h2 | h2
    · exact .inr (.inl ⟨by omega,h2⟩)
    · exact .inr (.inr ⟨by omega,h2⟩)
theorem RtB.abs {s:Int} {l:List Int} (h:RtB s l):(zv s l).natAbs=nv l:=by
  unfold zv
  rcases h.cases with ⟨a,rfl⟩ | ⟨a,rfl⟩ | ⟨a,rfl⟩ <;> omega
theorem RtB.sg {s:Int} {l:List Int} (h:RtB s l):sgn (zv s l)=s:=by
  unfold zv sgn
  rcases h.cases with ⟨a,rfl⟩ | ⟨a,rfl⟩ | ⟨a,rfl⟩
  · rw [if_neg (by omega),if_pos (by omega)]
  · rw [if_neg (by omega),if_neg (by omega)]
  · rw [if_pos (by omega)]
theorem RtB.eqd {s:Int} {l:List Int} (h:RtB s l):l=dig (zv s l).natAbs:=by rw [h.abs];exact h.eq
theorem RtB.of (z:Int):RtB (sgn z) (dig z.natAbs):=by
  refine ⟨dig_Dg _,?_⟩
  by_cases e:z.natAbs=0
  · left;rw [e];refine ⟨rfl,?_⟩;unfold sgn;rw [if_neg (by omega),if_pos (by omega)]
  · right
    refine ⟨fun h=>e (dig_ne.1 h),?_,dig_Nz _⟩
    unfold sgn
    split
    · exact .inr rfl
    · rw [if_neg (by omega)];exact .inl rfl
theorem zv_of (z:Int):zv (sgn z) (dig z.natAbs)=z:=by unfold zv;rw [nv_dig];exact sgn_mul_abs z
theorem RtB.of1 {n:Nat} (h:n≠0):RtB 1 (dig n):=by
  have:=RtB.of (n:Int)
  unfold sgn at this
  rwa [if_neg (by omega),if_neg (by omega),Int.natAbs_natCast] at this
theorem RtB.inj {s t:Int} {l m:List Int} (h:RtB s l) (k:RtB t m) (e:zv s l=zv t m):s=t∧l=m:=by
  constructor
  · rw [←h.sg,← k.sg,e]
  · rw [h.eqd,k.eqd,e]
def oS (p:Prop) [Decidable p] (z:Int):Int:=if p then sgn z else 0
def oD (p:Prop) [Decidable p] (z:Int):List Int:=if p then dig z.natAbs else []
theorem oS_y {p:Prop} [Decidable p] (h:p) (z:Int):oS p z=sgn z:=if_pos h
theorem oD_y {p:Prop} [Decidable p] (h:p) (z:Int):oD p z=dig z.natAbs:=if_pos h
theorem oS_n {p:Prop} [Decidable p] (h:¬ p) (z:Int):oS p z=0:=if_neg h
theorem oD_n {p:Prop} [Decidable p] (h:¬ p) (z:Int):oD p z=[]:=if_neg h
def cmpI (x y:Int):Int:=if x < y then -1 else if x=y then 0 else 1
theorem cmp_len {a b:List Int} (ha:Dg a) (hb:Dg b) (hz:Nz b) (h:a.length < b.length):nv a < nv b:=by
  refine Decidable.by_contra fun hc=>?_
  have:=len_le ha hb hz (by omega)
  omega
theorem cmp_at {a b:List Int} {i:Nat} (ha:Dg a) (hb:Dg b) (hl:a.length=b.length) (hi:i < a.length) (hd:a.drop (i+1)=b.drop (i+1)) (h:a.getD i 0 < b.getD i 0):nv a < nv b:=by
  have e1:=nv_split a i
  have e2:=nv_split b i
  rw [Nat.min_eq_left (by omega),nv_drop hi] at e1
  rw [Nat.min_eq_left (by omega),nv_drop (l:=b) (by omega),← hd] at e2
  have t1:=nv_lt (ha.take i)
  rw [List.length_take,Nat.min_eq_left (by omega)] at t1
  have a1:=ha.get' i
  have b1:=hb.get' i
  have hlt:(a.getD i 0).toNat+1≤(b.getD i 0).toNat:=by omega
  have h2:=Nat.mul_le_mul_left (1048576 ^ i) hlt
  rw [Nat.mul_add] at h2 e1 e2
  omega
theorem drop_eq {a b:List Int} {i:Nat} (hl:a.length=b.length) (hi:i < a.length) (hd:a.drop (i+1)=b.drop (i+1)) (h:a.getD i 0=b.getD i 0):a.drop i=b.drop i:=by
  rw [List.drop_eq_getElem_cons hi,List.drop_eq_getElem_cons (show i < b.length by omega),hd]
  congr 1
  simpa [List.getD_eq_getElem?_getD,hi,show i < b.length by omega] using h
theorem cmp_ne {a b:List Int} {i:Nat} (ha:Dg a) (hb:Dg b) (hl:a.length=b.length) (hi:i < a.length) (hd:a.drop (i+1)=b.drop (i+1)) (h:a.getD i 0≠b.getD i 0):cmpI (a.getD i 0) (b.getD i 0)=cmpI (nv a) (nv b):=by
  rcases Int.lt_or_gt_of_ne h with h | h
  · have:=cmp_at ha hb hl hi hd h
    unfold cmpI;rw [if_pos h,if_pos (by omega)]
  · have:=cmp_at hb ha hl.symm (by omega) hd.symm h
    unfold cmpI;rw [if_neg (by omega),if_neg (by omega),if_neg (by omega),if_neg (by omega)]
theorem cmp_lens {a b:List Int} (ha:Dg a) (hb:Dg b) (za:Nz a) (zb:Nz b) (h:¬ (a.length:Int)=b.length):cmpI a.length b.length=cmpI (nv a) (nv b):=by
  rcases Int.lt_or_gt_of_ne h with h | h
  · have:=cmp_len ha hb zb (by omega)
    unfold cmpI;rw [if_pos h,if_pos (by omega)]
  · have:=cmp_len hb ha za (by omega)
    unfold cmpI;rw [if_neg (by omega),if_neg (by omega),if_neg (by omega),if_neg (by omega)]
section
variable {s t : Int} {l m : List Int}
theorem cmp_z (h:RtB s l) (k:RtB t m):(if s=t then s * cmpI (nv l) (nv m) else cmpI s t)=cmpI (zv s l) (zv t m):=by
  unfold zv cmpI
  rcases h.cases with ⟨a,rfl⟩ | ⟨a,rfl⟩ | ⟨a,rfl⟩ <;> rcases k.cases with ⟨b,rfl⟩ | ⟨b,rfl⟩ | ⟨b,rfl⟩ <;> simp <;> (try split) <;> (try split) <;> omega
theorem add_same (h:RtB s l) (k:RtB t m) (hs:0≤s * t):(zv s l+zv t m).natAbs=nv l+nv m∧(if nv l+nv m=0 then 0 else if s=0 then t else s)=sgn (zv s l+zv t m):=by
  unfold zv sgn
  rcases h.cases with ⟨a,rfl⟩ | ⟨a,rfl⟩ | ⟨a,rfl⟩ <;> rcases k.cases with ⟨b,rfl⟩ | ⟨b,rfl⟩ | ⟨b,rfl⟩ <;> simp at hs ⊢ <;> (try omega) <;> constructor <;> (repeat' split) <;> omega
theorem add_less (h:RtB s l) (k:RtB t m) (hs:¬ 0≤s * t) (hlt:nv l < nv m):(zv s l+zv t m).natAbs=nv m - nv l∧(if nv m - nv l=0 then 0 else t)=sgn (zv s l+zv t m):=by
  unfold zv sgn
  rcases h.cases with ⟨a,rfl⟩ | ⟨a,rfl⟩ | ⟨a,rfl⟩ <;> rcases k.cases with ⟨b,rfl⟩ | ⟨b,rfl⟩ | ⟨b,rfl⟩ <;> simp at hs ⊢ <;> constructor <;> (repeat' split) <;> omega
theorem add_more (h:RtB s l) (k:RtB t m) (hs:¬ 0≤s * t) (hge:nv m≤nv l):(zv s l+zv t m).natAbs=nv l - nv m∧(if nv l - nv m=0 then 0 else s)=sgn (zv s l+zv t m):=by
  unfold zv sgn
  rcases h.cases with ⟨a,rfl⟩ | ⟨a,rfl⟩ | ⟨a,rfl⟩ <;> rcases k.cases with ⟨b,rfl⟩ | ⟨b,rfl⟩ | ⟨b,rfl⟩ <;> simp at hs ⊢ <;> constructor <;> (repeat' split) <;> omega
theorem neg_z (h:RtB s l):zv (-s) l= - zv s l:=by unfold zv;rw [Int.neg_mul]
theorem RtB.neg (h:RtB s l):RtB (-s) l:=by
  refine ⟨h.1,?_⟩
  rcases h.2 with ⟨h1,h2⟩ | ⟨h1,h2,h3⟩
  · exact .inl ⟨h1,by omega⟩
  · exact .inr ⟨h1,by omega,h3⟩
theorem mul_z (h:RtB s l) (k:RtB t m):(zv s l * zv t m).natAbs=nv l * nv m∧(if nv l * nv m=0 then 0 else s * t)=sgn (zv s l * zv t m):=by
  have e:(zv s l * zv t m).natAbs=nv l * nv m:=by rw [Int.natAbs_mul,h.abs,k.abs]
  refine ⟨e,?_⟩
  have e2:zv s l * zv t m=(s * t) * ((nv l * nv m:Nat):Int):=by
    unfold zv;rw [Int.natCast_mul,Int.mul_assoc,Int.mul_assoc,Int.mul_left_comm (nv l:Int)]
  rw [e2]
  rcases h.cases with ⟨a,rfl⟩ | ⟨a,rfl⟩ | ⟨a,rfl⟩ <;> rcases k.cases with ⟨b,rfl⟩ | ⟨b,rfl⟩ | ⟨b,rfl⟩ <;> (try (rw [a];simp [sgn];done)) <;> (try (rw [b];simp [sgn];done))
  all_goals
    have hp:0 < nv l * nv m:=Nat.mul_pos a b
    generalize nv l * nv m=p at *
    rw [if_neg (by omega)]
    unfold sgn
    simp
    omega
def flo (a b:Int):Int:=if 0 < b then a / b else (-a) / (-b)
def fmo (a b:Int):Int:=a - b * flo a b
theorem div_same (h:RtB s l) (k:RtB t m) (ht:nv m≠0) (hs:0≤s * t∨nv l % nv m=0):(flo (zv s l) (zv t m)).natAbs=nv l / nv m∧(fmo (zv s l) (zv t m)).natAbs=nv l % nv m ∧
    (if nv l / nv m=0 then 0 else s * t)=sgn (flo (zv s l) (zv t m))∧(if nv l % nv m=0 then 0 else s)=sgn (fmo (zv s l) (zv t m)):=by
  have hd:=Nat.div_add_mod (nv l) (nv m)
  have hr:=Nat.mod_lt (nv l) (Nat.pos_of_ne_zero ht)
  have hf:flo (zv s l) (zv t m)=s * t * ((nv l / nv m:Nat):Int):=by
    unfold flo zv
    have key:(nv l:Int) / nv m=((nv l / nv m:Nat):Int):=(Int.natCast_ediv _ _).symm
    have key2:nv l % nv m=0→(-(nv l:Int)) / nv m= -((nv l / nv m:Nat):Int):=fun h0=>by
      have:(nv l:Int)=nv m * ((nv l / nv m:Nat):Int):=by rw [←Int.natCast_mul];congr 1;omega
      rw [this,← Int.mul_neg,Int.mul_ediv_cancel_left _ (by omega)]
    rcases h.cases with ⟨a,rfl⟩ | ⟨a,rfl⟩ | ⟨a,rfl⟩ <;> rcases k.cases with ⟨b,rfl⟩ | ⟨b,rfl⟩ | ⟨b,rfl⟩ <;> (try omega)
    · simp
    · simp
    · rw [if_pos (by omega)];simp only [Int.one_mul];exact key
    · rw [if_neg (by omega)]
      have h0:nv l % nv m=0:=by rcases hs with hs | hs <;> omega
      have:=key2 h0
      simp only [Int.neg_mul,Int.one_mul,Int.neg_neg] at this ⊢;exact this
    · rw [if_pos (by omega)]
      have h0:nv l % nv m=0:=by rcases hs with hs | hs <;> omega
      have:=key2 h0
      simp only [Int.neg_mul,Int.one_mul,Int.mul_one] at this ⊢;exact this
    · rw [if_neg (by omega)];simp only [Int.neg_mul,Int.one_mul,Int.neg_neg,Int.mul_neg,Int.mul_one];exact key
  have hm:fmo (zv s l) (zv t m)=s * ((nv l % nv m:Nat):Int):=by
    unfold fmo
    rw [hf]
    have e:zv t m * (s * t * ((nv l / nv m:Nat):Int))=s * (t * t) * ((nv m * (nv l / nv m):Nat):Int):=by
      unfold zv;rw [Int.natCast_mul]
      generalize (nv m:Int)=x;generalize ((nv l / nv m:Nat):Int)=y
      grind
    have tt:t * t=1:=by rcases k.cases with ⟨b,rfl⟩ | ⟨b,rfl⟩ | ⟨b,rfl⟩ <;> first | omega | rfl
    rw [e,tt,Int.mul_one]
    unfold zv
    rw [←Int.mul_sub];congr 1;omega
  rw [hf,hm]
  refine ⟨?_,?_,?_,?_⟩
  · have e0:nv l=0→nv l / nv m=0:=fun a=>by rw [a];simp
    generalize nv l / nv m=q at *
    rcases h.cases with ⟨a,rfl⟩ | ⟨a,rfl⟩ | ⟨a,rfl⟩ <;> rcases k.cases with ⟨b,rfl⟩ | ⟨b,rfl⟩ | ⟨b,rfl⟩ <;> omega
  · have e0:nv l=0→nv l % nv m=0:=fun a=>by rw [a];simp
    generalize nv l % nv m=q at *
    rcases h.cases with ⟨a,rfl⟩ | ⟨a,rfl⟩ | ⟨a,rfl⟩ <;> omega
  · generalize hq:nv l / nv m=q at *
    unfold sgn
    rcases h.cases with ⟨a,rfl⟩ | ⟨a,rfl⟩ | ⟨a,rfl⟩ <;> rcases k.cases with ⟨b,rfl⟩ | ⟨b,rfl⟩ | ⟨b,rfl⟩ <;> (try omega) <;> simp <;> (repeat' split) <;> omega
  · generalize hq:nv l % nv m=q at *
    unfold sgn
    rcases h.cases with ⟨a,rfl⟩ | ⟨a,rfl⟩ | ⟨a,rfl⟩ <;> simp <;> (repeat' split) <;> omega
theorem div_diff (h:RtB s l) (k:RtB t m) (ht:nv m≠0) (hs:s * t < 0) (h0:nv l % nv m≠0):(flo (zv s l) (zv t m)).natAbs=nv l / nv m+1∧(fmo (zv s l) (zv t m)).natAbs=nv m - nv l % nv m ∧
    -1=sgn (flo (zv s l) (zv t m))∧t=sgn (fmo (zv s l) (zv t m)):=by
  have hd:=Nat.div_add_mod (nv l) (nv m)
  have hr:=Nat.mod_lt (nv l) (Nat.pos_of_ne_zero ht)
  have hf:flo (zv s l) (zv t m)= -((nv l / nv m+1:Nat):Int):=by
    have key:(-(nv l:Int)) / nv m= -((nv l / nv m+1:Nat):Int):=by
      refine ((Int.ediv_emod_unique (r:=((nv m - nv l % nv m:Nat):Int)) (by omega)).2 ⟨?_,by omega,by omega⟩).1
      rw [Int.mul_neg,← Int.natCast_mul,Nat.mul_add];omega
    unfold flo zv
    rcases h.cases with ⟨a,rfl⟩ | ⟨a,rfl⟩ | ⟨a,rfl⟩ <;> rcases k.cases with ⟨b,rfl⟩ | ⟨b,rfl⟩ | ⟨b,rfl⟩ <;> (try omega)
    · rw [if_neg (by omega)];simp only [Int.neg_mul,Int.one_mul,Int.neg_neg];exact key
    · rw [if_pos (by omega)];simp only [Int.neg_mul,Int.one_mul,Int.mul_one];exact key
  have hm:fmo (zv s l) (zv t m)=t * ((nv m - nv l % nv m:Nat):Int):=by
    unfold fmo
    rw [hf]
    have e:nv m * (nv l / nv m+1)=nv m * (nv l / nv m)+nv m:=by rw [Nat.mul_add,Nat.mul_one]
    unfold zv
    rw [Int.mul_neg,Int.mul_assoc,← Int.natCast_mul,e]
    rcases h.cases with ⟨a,rfl⟩ | ⟨a,rfl⟩ | ⟨a,rfl⟩ <;> rcases k.cases with ⟨b,rfl⟩ | ⟨b,rfl⟩ | ⟨b,rfl⟩ <;> omega
  rw [hf,hm]
  refine ⟨by rw [Int.natAbs_neg,Int.natAbs_natCast],?_,?_,?_⟩
  · rcases k.cases with ⟨b,rfl⟩ | ⟨b,rfl⟩ | ⟨b,rfl⟩ <;> omega
  · unfold sgn
    have:((nv l / nv m+1:Nat):Int) > 0:=by
      generalize nv l / nv m=q
      omega
    rw [if_pos (by omega)]
  · unfold sgn
    rcases k.cases with ⟨b,rfl⟩ | ⟨b,rfl⟩ | ⟨b,rfl⟩
    · omega
    · rw [if_neg (by omega),if_neg (by omega)]
    · rw [if_pos (by omega)]
end
end Bg
end Kb
set_option linter.unusedSectionVars false
namespace Kb
namespace Bg
def orL:List Int→Int
  | []=>0
  | x :: l=>if x=0 then orL l else x
theorem orL_no:∀ {l:List Int},(∀ i,i < l.length→l.getD i default=0)→orL l=0
  | [],_=>rfl
  | x :: l,h=>by
    unfold orL
    have h0:=h 0 (by simp)
    rw [if_pos (by simpa using h0)]
    exact orL_no fun i hi=>by simpa using h (i+1) (by simpa using hi)
theorem orL_at:∀ {l:List Int} {k:Nat} {v:Int},k < l.length→(∀ i,i < k→l.getD i default=0)→v=l.getD k default→¬ v=0→v=orL l
  | [],k,v,h,_,_,_=>by cases h
  | x :: l,0,v,_,_,hv,h0=>by
    unfold orL
    have:v=x:=by simpa using hv
    subst this
    rw [if_neg h0]
  | x :: l,k+1,v,hk,h,hv,h0=>by
    unfold orL
    have h1:=h 0 (by omega)
    rw [if_pos (by simpa using h1)]
    exact orL_at (by simpa using hk) (fun i hi=>by simpa using h (i+1) (by omega)) (by simpa using hv) h0
theorem Dg_of {l:List Int} (h:∀ i,i < l.length→0≤l.getD i default∧l.getD i default < 1048576):Dg l:=fun d hd=>by
  obtain ⟨i,hi,rfl⟩:=List.mem_iff_getElem.1 hd
  have:=h i hi
  simpa [List.getD_eq_getElem?_getD,hi] using this
theorem rt_bad {s:Int} {l:List Int} {k:Nat} {v:Int} (hk:k < l.length) (hv:v=l.getD k default) (h:v < 0∨1048575 < v):¬ RtB s l:=fun hr=>by
  have:=hr.dg.get hk
  have e:l.getD k 0=v:=hv.symm
  omega
theorem rt_nil {s:Int} {l:List Int} (h:l.length=0):s=0↔RtB s l:=by
  have:=List.eq_nil_of_length_eq_zero h
  subst this
  exact ⟨fun h=>⟨Dg.nil,.inl ⟨rfl,h⟩⟩,fun h=>by rcases h.2 with h | h;exact h.2;exact absurd rfl h.1⟩
theorem rt_ok {s v:Int} {l:List Int} {n:Int} (h:¬ (l.length:Int)=0) (hd:∀ i,i < l.length→0≤l.getD i default∧l.getD i default < 1048576) (hv:v=l.getD n.toNat default) (hn:n=(l.length:Int) - 1):((s=1∨s= -1)∧¬ v=0)↔RtB s l:=by
  have hne:l≠[]:=fun e=>by subst e;exact h rfl
  have hz:=Nz_iff hne
  have e:l.getD (l.length - 1) 0=v:=by rw [hv,hn,show ((l.length:Int) - 1).toNat=l.length - 1 by omega];rfl
  rw [e] at hz
  exact ⟨fun ⟨h1,h2⟩=>⟨Dg_of hd,.inr ⟨hne,h1,hz.2 h2⟩⟩,fun hr=>by rcases hr.2 with h | h;exact absurd h.1 hne;exact ⟨h.2.1,hz.1 h.2.2⟩⟩
theorem trim_stop {l:List Int} {n v:Int} (hv:0 < n→v=l.getD (n - 1).toNat default) (h:¬ 0 < n∨¬ v=0):n.toNat=0∨l.getD (n.toNat - 1) 0≠0:=by
  by_cases hn:0 < n
  · refine .inr fun e=>?_
    rcases h with h | h
    · exact h hn
    · apply h;rw [hv hn,show (n - 1).toNat=n.toNat - 1 by omega];exact e
  · exact .inl (by omega)
def sg0 (n:Nat) (s:Int):Int:=if n=0 then 0 else s
theorem len_dig0 {n:Nat}:((dig n).length:Int)=0↔n=0:=by
  rw [←dig_ne (n:=n),← List.length_eq_zero_iff];omega
theorem getD_out {l:List Int} {i:Nat} (h:¬ (i:Int) < l.length):l.getD i 0=0:=by
  rw [List.getD_eq_getElem?_getD,List.getElem?_eq_none (by omega)];rfl
structure OfI (N:Nat) (l:List Int) (u:Int):Prop where
  dg:Dg l
  u0:0≤u
  sum:nv l+1048576 ^ l.length * u.toNat=N
theorem of_start {u:Int} {N:Nat} (h:u.toNat=N) (h0:0≤u):OfI N [] u:=⟨Dg.nil,h0,by simp [nv,h]⟩
theorem of_len {N:Nat} {l:List Int} {u:Int} (h:OfI N l u) (hu:0 < u) (hN:N≤9223372036854775808):l.length≤3:=by
  have h1:=h.sum
  refine Decidable.by_contra fun hc=>?_
  have h2:1048576 ^ 4≤1048576 ^ l.length:=Nat.pow_le_pow_right (by omega) (by omega)
  have h3:1048576 ^ l.length * 1≤1048576 ^ l.length * u.toNat:=Nat.mul_le_mul_left _ (by omega)
  have h4:(1048576:Nat) ^ 4=1208925819614629174706176:=by decide
  omega
theorem of_step {N:Nat} {l:List Int} {u:Int} (h:OfI N l u):OfI N (l ++[u % 1048576]) (u / 1048576):=by
  have h0:=h.u0
  refine ⟨h.dg.append (Dg.one (by omega)),by omega,?_⟩
  have h1:=h.sum
  have e:u.toNat=(u % 1048576).toNat+1048576 * (u / 1048576).toNat:=by omega
  rw [nv_append,List.length_append]
  have e2:=congrArg (fun n=>1048576 ^ l.length * n) e
  simp only [Nat.mul_add] at e2
  have e3:nv [u % 1048576]=(u % 1048576).toNat:=by simp [nv]
  have e4:1048576 ^ (l.length+1) * (u / 1048576).toNat=1048576 ^ l.length * (1048576 * (u / 1048576).toNat):=by rw [Nat.pow_succ,Nat.mul_assoc]
  rw [e3,show l.length+[u % 1048576].length=l.length+1 from rfl,e4]
  omega
theorem of_end {N:Nat} {l:List Int} {u:Int} (h:OfI N l u) (hu:¬ 0 < u):nv l=N:=by
  have h0:=h.u0
  have h1:=h.sum
  have:u.toNat=0:=by omega
  rw [this] at h1
  omega
theorem of_sgn {n:Int} {N:Nat} (h:n.natAbs=N) (k:Int) (hk:(n < 0∧k= -1)∨(¬n < 0∧k=1)):(if N=0 then 0 else k)=sgn n:=by
  unfold sgn
  by_cases h0:N=0
  · rw [if_pos h0,if_neg (by omega),if_pos (by omega)]
  · rw [if_neg h0]
    rcases hk with ⟨h1,rfl⟩ | ⟨h1,rfl⟩
    · rw [if_pos h1]
    · rw [if_neg h1,if_neg (by omega)]
def inI (s:Int) (l:List Int):Prop:=RtB s l∧ -9223372036854775808≤zv s l∧zv s l≤9223372036854775807
instance (s : Int) (l : List Int) : Decidable (inI s l) := by unfold inI; infer_instance
def intV (s:Int) (l:List Int):Int:=if inI s l then zv s l else 0
theorem intV_y {s:Int} {l:List Int} (h:inI s l):intV s l=zv s l:=if_pos h
theorem intV_n {s:Int} {l:List Int} (h:¬ inI s l):intV s l=0:=if_neg h
theorem nv_big {s:Int} {l:List Int} (h:RtB s l) (hn:9223372036854775808 < nv l):¬ inI s l:=fun hi=>by
  have h1:=hi.2
  have h2:=h.abs
  omega
theorem int_len {s:Int} {l:List Int} (h:RtB s l) (hl:4 < (l.length:Int)):¬ inI s l:=by
  refine nv_big h ?_
  have hne:l≠[]:=fun e=>by subst e;simp at hl
  have h1:=nv_ge hne h.dg h.nz
  have h2:1048576 ^ 4≤1048576 ^ (l.length - 1):=Nat.pow_le_pow_right (by omega) (by omega)
  have h4:(1048576:Nat) ^ 4=1208925819614629174706176:=by decide
  omega
theorem int_top {s:Int} {l:List Int} {v:Int} (h:RtB s l) (hl:3 < l.length) (hv:v=l.getD 3 default) (h8:8 < v):¬ inI s l:=by
  refine nv_big h ?_
  have e1:=nv_split l 3
  rw [Nat.min_eq_left (by omega),nv_drop hl] at e1
  have e:l.getD 3 0=v:=hv.symm
  rw [e] at e1
  have h4:(1048576:Nat) ^ 3=1152921504606846976:=by decide
  rw [h4] at e1
  omega
theorem int_step {l:List Int} {k:Nat} {v:Int} (hk:k < l.length) (hv:v=l.getD k default) (hd:Dg l):nv (l.take (k+1))=nv (l.take k)+1048576 ^ k * v.toNat∧0≤v∧v < 1048576:=by
  have e:l.getD k 0=v:=hv.symm
  have h:=hd.get hk
  rw [e] at h
  have:=nv_take hk
  rw [e] at this
  exact ⟨this,h⟩
theorem zv_s {s:Int} {l:List Int} (h:RtB s l):(s < 0→zv s l= -(nv l:Int))∧(0≤s→zv s l=nv l):=by
  unfold zv
  rcases h.cases with ⟨a,rfl⟩ | ⟨a,rfl⟩ | ⟨a,rfl⟩ <;> omega
theorem cmpI_le {x y:Int}: -1≤cmpI x y∧cmpI x y≤1:=by unfold cmpI;split;omega;split <;> omega
theorem sg_le {s:Int} {l:List Int} (h:RtB s l): -1≤s∧s≤1:=by rcases h.cases with ⟨_,rfl⟩ | ⟨_,rfl⟩ | ⟨_,rfl⟩ <;> omega
theorem mul1 {s c:Int} (hs: -1≤s∧s≤1) (hc: -1≤c∧c≤1): -9223372036854775808≤s * c∧s * c≤9223372036854775807:=by
  have:s= -1∨s=0∨s=1:=by omega
  rcases this with rfl | rfl | rfl <;> omega
theorem neg_s {s:Int} {l:List Int} (h:RtB s l):(if nv l=0 then 0 else -s)=sgn (-zv s l):=by
  rw [←neg_z h]
  have:=h.neg.sg
  rw [this]
  rcases h.cases with ⟨a,rfl⟩ | ⟨a,rfl⟩ | ⟨a,rfl⟩
  · rw [if_pos a];rfl
  · rw [if_neg (by omega)]
  · rw [if_neg (by omega)]
theorem neg_d {s:Int} {l:List Int} (h:RtB s l):dig (nv l)=dig (-zv s l).natAbs:=by rw [Int.natAbs_neg,h.abs]
theorem dmul {x y:Int} (hx:0≤x∧x < 1048576) (hy:0≤y∧y < 1048576):0≤x * y∧x * y≤1099509530625 :=
  ⟨Int.mul_nonneg hx.1 hy.1,by have:=Int.mul_le_mul (a:=x) (b:=y) (c:=1048575) (d:=1048575) (by omega) (by omega) hy.1 (by omega);omega⟩
theorem nv_one (x:Int):nv [x]=x.toNat:=by simp [nv]
theorem sh_step {b s x:Int} (h:x=b * s) (hx:x < 524288):b * (s * 2) < 1048576:=by
  have:b * (s * 2)=b * s * 2:=by rw [Int.mul_assoc]
  omega
theorem sh_lt {b s:Int} (hb:1≤b) (hs:1≤s) (h:b * s < 1048576):s < 1048576:=by
  have:=Int.mul_le_mul_of_nonneg_right hb (show 0≤s by omega)
  omega
theorem top_pos {l:List Int} (h:l≠[]) (hd:Dg l) (hz:Nz l):1≤l.getD (l.length - 1) 0:=by
  have h1:=(Nz_iff h).1 hz
  have h2:=hd.get' (l.length - 1)
  omega
theorem win_is {u:List Int} {lo hi n:Nat} (h:hi=lo+n+1):(u.take hi).drop lo=win u lo n:=by
  unfold win
  rw [List.drop_take,h,show lo+n+1 - lo=n+1 by omega]
theorem dig_len_mono {l:List Int} {n:Nat} (hd:Dg l) (hz:Nz l) (h:nv l≤n):l.length≤(dig n).length :=
  len_le (dig_Dg n) hd hz (by rw [nv_dig];exact h)
theorem dig_lt {n k:Nat} (h:n < 1048576 ^ k):(dig n).length≤k:=by
  refine Decidable.by_contra fun hc=>?_
  have hne:dig n≠[]:=fun e=>by rw [e] at hc;simp at hc
  have h1:=nv_ge hne (dig_Dg n) (dig_Nz n)
  rw [nv_dig] at h1
  have h2:1048576 ^ k≤1048576 ^ ((dig n).length - 1):=Nat.pow_le_pow_right (by omega) (by omega)
  omega
theorem mul_len {m n i j:Nat} (h:m < 1048576 ^ i) (k:n < 1048576 ^ j):(dig (m * n)).length≤i+j:=by
  refine dig_lt ?_
  rw [Nat.pow_add]
  have h0:0 < 1048576 ^ j:=Nat.pow_pos (by omega)
  exact Nat.lt_of_le_of_lt (Nat.mul_le_mul_left m (Nat.le_of_lt k)) (Nat.mul_lt_mul_of_pos_right h h0)
theorem mul_dig_len (a b:List Int) (ha:Dg a) (hb:Dg b):(dig (nv a * nv b)).length≤a.length+b.length:=mul_len (nv_lt ha) (nv_lt hb)
theorem div_fin {a b s:Nat} (hs:0 < s):a * s / (b * s)=a / b∧a * s % (b * s) / s=a % b:=by
  refine ⟨Nat.mul_div_mul_right _ _ hs,?_⟩
  rw [Nat.mul_mod_mul_right,Nat.mul_div_cancel _ hs]
theorem div_less {a b:Nat} (h:a < b):dig (a / b)=[]∧a % b=a:=by rw [Nat.div_eq_of_lt h,Nat.mod_eq_of_lt h];exact ⟨rfl,rfl⟩
theorem dvals {v u0 u q:List Int} (h:DivI u0 v u q 0) {s A B:Nat} (hs:0 < s) (h1:nv u0=A * s) (h2:nv v=B * s):nv q=A / B∧nv u / s=A % B:=by
  obtain ⟨e1,e2⟩:=div_end h
  rw [e1,e2,h1,h2]
  exact div_fin hs
theorem nv_app0 (l:List Int):nv (l ++[0])=nv l:=by rw [nv_append];simp [nv]
theorem cmp_lt {x y:Int}:cmpI x y < 0↔x < y:=by unfold cmpI;split;omega;split <;> omega
theorem gmul {x y:Int} (hx:0≤x∧x≤1099511627776) (hy:0≤y∧y < 1048576):0≤x * y∧x * y≤1152921504606846976 :=
  ⟨Int.mul_nonneg hx.1 hy.1,by have:=Int.mul_le_mul (a:=x) (b:=y) (c:=1099511627776) (d:=1048576) (by omega) (by omega) hy.1 (by omega);omega⟩
theorem nv_len1 {l:List Int} (h:l.length=1):nv l=(l.getD 0 0).toNat:=by
  match l,h with
  | [x],_=>simp [nv]
theorem nv_r {a d:Nat} (hd:0 < d) (h:d < 1048576):Dg [((a % d:Nat):Int)]∧nv [((a % d:Nat):Int)]=a % d:=by
  have:=Nat.mod_lt a hd
  exact ⟨Dg.one (by omega),by rw [nv_one,Int.toNat_natCast]⟩
theorem dig_self {l:List Int} (hd:Dg l) (hz:Nz l) {n:Nat} (h:n=nv l):l=dig n:=by rw [h];exact eq_dig hd hz
theorem dig_le {l:List Int} (h:Dg l):(dig (nv l)).length≤l.length:=dig_lt (nv_lt h)
theorem or2 (s t:Int):orL [s,t]=if s=0 then t else s:=by
  unfold orL
  split
  · unfold orL
    split
    · rename_i h;exact h.symm
    · rfl
  · rfl
section
variable {s t : Int} {l m : List Int}
theorem addS (h:RtB s l) (k:RtB t m) (hs:0≤s * t):(if nv (dig (nv l+nv m))=0 then 0 else orL [s,t])=sgn (zv s l+zv t m):=by
  rw [nv_dig,or2];exact (add_same h k hs).2
theorem addD (h:RtB s l) (k:RtB t m) (hs:0≤s * t):dig (nv (dig (nv l+nv m)))=dig (zv s l+zv t m).natAbs:=by
  rw [nv_dig,(add_same h k hs).1]
theorem lessS (h:RtB s l) (k:RtB t m) (hs:¬ 0≤s * t) (hlt:nv l < nv m):(if nv (dig (nv m - nv l))=0 then 0 else t)=sgn (zv s l+zv t m):=by
  rw [nv_dig];exact (add_less h k hs hlt).2
theorem lessD (h:RtB s l) (k:RtB t m) (hs:¬ 0≤s * t) (hlt:nv l < nv m):dig (nv (dig (nv m - nv l)))=dig (zv s l+zv t m).natAbs:=by
  rw [nv_dig,(add_less h k hs hlt).1]
theorem moreS (h:RtB s l) (k:RtB t m) (hs:¬ 0≤s * t) (hge:nv m≤nv l):(if nv (dig (nv l - nv m))=0 then 0 else s)=sgn (zv s l+zv t m):=by
  rw [nv_dig];exact (add_more h k hs hge).2
theorem moreD (h:RtB s l) (k:RtB t m) (hs:¬ 0≤s * t) (hge:nv m≤nv l):dig (nv (dig (nv l - nv m)))=dig (zv s l+zv t m).natAbs:=by
  rw [nv_dig,(add_more h k hs hge).1]
theorem mulS (h:RtB s l) (k:RtB t m):(if nv (dig (nv l * nv m))=0 then 0 else s * t)=sgn (zv s l * zv t m):=by
  rw [nv_dig];exact (mul_z h k).2
theorem mulD (h:RtB s l) (k:RtB t m):dig (nv (dig (nv l * nv m)))=dig (zv s l * zv t m).natAbs:=by
  rw [nv_dig,(mul_z h k).1]
theorem gcdS (n:Nat):(if nv (dig n)=0 then 0 else 1)=sgn (n:Int):=by
  rw [nv_dig];unfold sgn
  by_cases h:n=0
  · rw [if_pos h,if_neg (by omega),if_pos (by omega)]
  · rw [if_neg h,if_neg (by omega),if_neg (by omega)]
theorem gcdD (n:Nat):dig (nv (dig n))=dig (n:Int).natAbs:=by rw [nv_dig,Int.natAbs_natCast]
theorem nv_pos (h:RtB s l) (hs:¬ s=0):nv l≠0∧l≠[]:=by
  rcases h.cases with ⟨_,e⟩ | ⟨a,_⟩ | ⟨a,_⟩
  · exact absurd e hs
  · exact ⟨by omega,fun e=>by subst e;simp [nv] at a⟩
  · exact ⟨by omega,fun e=>by subst e;simp [nv] at a⟩
theorem sml (h:RtB s l) (k:RtB t m): -9223372036854775808≤s * t∧s * t≤9223372036854775807:=mul1 (sg_le h) (by have:=sg_le k;omega)
theorem qS (h:RtB s l) (k:RtB t m) (ht:nv m≠0) (hs:0≤s * t∨nv l % nv m=0):(if nv (dig (nv l / nv m))=0 then 0 else s * t)=sgn (flo (zv s l) (zv t m)):=by rw [nv_dig];exact (div_same h k ht hs).2.2.1
theorem qD (h:RtB s l) (k:RtB t m) (ht:nv m≠0) (hs:0≤s * t∨nv l % nv m=0):dig (nv (dig (nv l / nv m)))=dig (flo (zv s l) (zv t m)).natAbs:=by rw [nv_dig,(div_same h k ht hs).1]
theorem rS (h:RtB s l) (k:RtB t m) (ht:nv m≠0) (hs:0≤s * t∨nv l % nv m=0):(if nv (dig (nv l % nv m))=0 then 0 else s)=sgn (fmo (zv s l) (zv t m)):=by rw [nv_dig];exact (div_same h k ht hs).2.2.2
theorem rD (h:RtB s l) (k:RtB t m) (ht:nv m≠0) (hs:0≤s * t∨nv l % nv m=0):dig (nv (dig (nv l % nv m)))=dig (fmo (zv s l) (zv t m)).natAbs:=by rw [nv_dig,(div_same h k ht hs).2.1]
theorem gcd_step {x y g:Nat} (h:Nat.gcd x y=g):Nat.gcd y (x % y)=g:=by rw [←h,Nat.gcd_comm x y,Nat.gcd_comm y (x % y)];exact (Nat.gcd_rec y x).symm
end
theorem dig_len_mono' {m n:Nat} (h:m≤n):(dig m).length≤(dig n).length:=len_le (dig_Dg n) (dig_Dg m) (dig_Nz m) (by rw [nv_dig,nv_dig];exact h)
theorem nv_ne {l:List Int} (hd:Dg l) (hz:Nz l) (h:l≠[]):nv l≠0:=fun e=>h (by rw [eq_dig hd hz,e];rfl)
end Bg

open Go Go.Proofs
set_option maxRecDepth 10000 in
theorem nan_ct (x:Int) :
    Cp Try.prog 110 #[iv x] [] (bv false):=by
  refine V.fn mo Try.func110 6 0 (by kernel_rfl) fun w H ε k0=>?_;clear k0
  refine V.g [.kb false] fun _ _ G1=>?_;intro S s
  refine V.g [.k (iv x),.k (iv x),.k (bv (!(decide (x=x)))),.k (bv (!(decide (x=x))))] fun _ _ G2=>?_;intro S s
  have e0:(!(decide (x=x)))=false:=by simp
  exact V.rt [0] [] [] [] [] [] (bv (!(decide (x=x)))) (cong1 (fun (x0:Bool)=>(bv x0:Value)) e0)
set_option maxRecDepth 10000 in
theorem cmp_ct (x y:Int) :
    Cp Try.prog 101 #[iv x,iv y] [] (iv (Bg.cmpI x y)):=by
  refine V.fn mo Try.func101 20 0 (by kernel_rfl) fun w H ε k0=>?_;clear k0
  refine V.g [.k (iv 0)] fun _ _ G1=>?_;intro S s
  refine V.g [.k (iv x),.cp g0 1 110 [] (fun _ G=>nan_ct x),.kb false] fun _ _ G2=>?_;intro S s
  refine V.g [.k (iv y),.cp g0 1 110 [] (fun _ G=>nan_ct y),.kb false] fun _ _ G3=>?_;intro S s
  refine V.g [.kb false] fun _ _ G4=>?_;intro S s
  refine V.condF (by kernel_rfl) ?_;refine V.g [.kb false] fun _ _ G5=>?_;intro S s
  refine V.condF (by kernel_rfl) ?_;refine V.g [.k (iv x),.k (iv y),.k (bv (decide (x < y)))] fun _ _ G6=>?_;intro S s
  refine V.cn (b:=decide (x < y)) iDT iDF (fun q1=>?_) (fun q2=>?_)
  · refine V.g [.k (iv (-1))] fun _ _ G7=>?_;intro S s
    have e0:(-1:Int)=Bg.cmpI x y:=by unfold Bg.cmpI;first | rw [if_pos (by omega)] | (rw [if_neg (by omega)];first | rw [if_pos (by omega)] | rw [if_neg (by omega)])
    exact V.rt [0] [] [] [] [] [] (iv (-1)) (cong1 (fun (x0:Int)=>(iv x0:Value)) e0)
  refine V.g [.k (iv x),.k (iv y),.k (bv (decide (y < x)))] fun _ _ G8=>?_;intro S s
  refine V.cn (b:=decide (y < x)) iDT iDF (fun q3=>?_) (fun q4=>?_)
  · refine V.g [.k (iv 1)] fun _ _ G9=>?_;intro S s
    have e0:(1:Int)=Bg.cmpI x y:=by unfold Bg.cmpI;first | rw [if_pos (by omega)] | (rw [if_neg (by omega)];first | rw [if_pos (by omega)] | rw [if_neg (by omega)])
    exact V.rt [0] [] [] [] [] [] (iv 1) (cong1 (fun (x0:Int)=>(iv x0:Value)) e0)
  refine V.g [.k (iv 0)] fun _ _ G10=>?_;intro S s
  have e0:(0:Int)=Bg.cmpI x y:=by unfold Bg.cmpI;first | rw [if_pos (by omega)] | (rw [if_neg (by omega)];first | rw [if_pos (by omega)] | rw [if_neg (by omega)])
  exact V.rt [0] [] [] [] [] [] (iv 0) (cong1 (fun (x0:Int)=>(iv x0:Value)) e0)
set_option maxRecDepth 10000 in
theorem or_ct (vals:List Int) (valss:SV) :
    Cp Try.prog 82 #[valss.v] [fs true vals valss] (iv (Bg.orL vals)):=by
  refine V.fn mo Try.func82 18 0 (by kernel_rfl) fun w H ε k0=>?_;obtain ⟨⟨kl1, -⟩, -⟩:Lq vals valss.v∧True:=kq k0
  clear k0;refine V.g [.k (iv 0)] fun _ _ G1=>?_;intro S s
  refine V.g [.k (iv 0)] fun _ _ G2=>?_;intro S s
  refine V.g [.k (valss.v),.ln (kf false (.f 0) vals (fun _=>valss)),.k (iv 0)] fun _ _ G3=>?_;intro S s
  refine V.loop (γ:=Int) (fun k0=>⟨[(3,iv 0),(6,valss.v),(7,iv (vals.length:Int)),(8,iv k0)],[fs false vals valss],[]⟩) (fun k0=>(0≤k0)∧(k0≤(vals.length:Int))∧(∀ i,i < k0.toNat→vals.getD i default=0)) (fun k0=>((vals.length:Int)-k0).toNat) 0 (by kernel_rfl) [0] (by kernel_rfl) ?_ ?_
  · refine ⟨?_,?_,?_⟩
    · show 0≤(0:Int)
      first | omega | rfl | (simp;done) | (subst_vars;simp;done)
    · show (0:Int)≤(vals.length:Int)
      first | omega | rfl | (simp;done) | (subst_vars;simp;done)
    show ∀ i,i < (0:Int).toNat→vals.getD i default=0;intro i hi;simp at hi
  rintro k0 hF1 kw4 Z1 hZ1;have hF1:(0≤k0)∧(k0≤(vals.length:Int))∧(∀ i,i < k0.toNat→vals.getD i default=0):=hF1;obtain ⟨hf1,hf2,hf3⟩:=hF1;clear kw4;refine V.g [.k (bv (decide (k0 < (vals.length:Int))))] fun _ _ G4=>?_;intro S s;refine V.cn (b:=decide (k0 < (vals.length:Int))) iDT iDF (fun q1=>?_) (fun q2=>?_)
  · refine nm (vals.getD k0.toNat default:Int) fun v1 hv1=>?_;refine V.g [.ix g0 (kf false (.f 0) vals (fun _=>valss)) k0 (fun _=>⟨by omega,by omega⟩),.le g0 (kf false (.f 0) vals (fun _=>valss)) k0 none false v1 hv1 (fun _=>⟨by omega,by omega⟩) false (fun _=>[iv v1]),.k (iv v1)] fun _ _ G5=>?_;intro S s
    refine V.g [.k (iv v1),.k (iv 0),.k (bv (!(decide (v1=0))))] fun _ _ G6=>?_;intro S s
    refine V.cn (b:=!(decide (v1=0))) (iNT iDF) (iNF iDT) (fun q3=>?_) (fun q4=>?_)
    · refine V.g [.k (iv v1),.k (iv v1)] fun _ _ G7=>?_;intro S s
      have e0:v1=Bg.orL vals:=Bg.orL_at (k:=k0.toNat) (by omega) hf3 hv1 q3;exact V.rt [0] [] [] [] [] [] (iv v1) (cong1 (fun (x0:Int)=>(iv x0:Value)) e0)
    refine V.g [.a (k0+1) (by omega) (by omega),.k (iv (k0+1))] fun _ _ G8=>?_;intro S s
    refine V.rnd hZ1 (k0+1) [0] (by kernel_rfl) ?_ ?_
    · refine ⟨?_,?_,?_⟩
      · show 0≤(k0+1)
        first | omega | rfl | (simp;done) | (subst_vars;simp;done)
      · show (k0+1)≤(vals.length:Int)
        first | omega | rfl | (simp;done) | (subst_vars;simp;done)
      show ∀ i,i < (k0+1).toNat→vals.getD i default=0;intro i hi;by_cases e:i < k0.toNat
      · exact hf3 i e
      rw [show i=k0.toNat by omega,← hv1];exact q4
    show ((vals.length:Int)-(k0+1)).toNat < ((vals.length:Int)-k0).toNat;omega
  refine V.g [.k (iv 0),.k (iv 0)] fun _ _ G9=>?_;intro S s
  have e0:(0:Int)=Bg.orL vals:=(Bg.orL_no fun i hi=>hf3 i (by omega)).symm;exact V.rt [0] [] [] [] [] [] (iv 0) (cong1 (fun (x0:Int)=>(iv x0:Value)) e0)
theorem or_ctv (vals:List Int) (valss:SV) (rv0:Int) (erv0:rv0=Bg.orL vals) :
    Cp Try.prog 82 #[valss.v] [fs true vals valss] (iv rv0):=by
  subst erv0;exact or_ct vals valss 
set_option maxRecDepth 10000 in
theorem clonei_ct (s:List Int) (ss:SV) (hcl:s.length≤1099511627776) :
    Ct Try.prog 63 #[ss.v] [fs true s ss] [] (fun g=>((g.ss 0)).v) (fun g=>[]) (fun g=>[os true 3 s (g.ss 0)]) (fun g=>[]):=by
  refine V.fn mo Try.func63 8 2 (by kernel_rfl) fun w H ε k0=>?_;obtain ⟨⟨kl1,kn1⟩, -⟩:Lq s ss.v∧True:=kq k0
  clear k0;refine V.g [.k (.slice none 0 0)] fun _ _ G1=>?_;intro S_ s_
  refine V.g [.k (ss.v),.isn false (fun _=>ss)] fun _ _ G2=>?_;intro S_ s_
  refine V.cn (b:=ss.a.isNone) Iff.rfl Iff.rfl (fun q1=>?_) (fun q2=>?_)
  · refine V.g [.k (.slice none 0 0)] fun _ _ G3=>?_;intro S_ s_
    refine V.on (α:=Int) 0 3 (by kernel_rfl) ?_;have e0:([]:List Int)=s:=(kn1 _ rfl q1).symm;rw [←e0];exact V.rs [0] [{}] [fun _=>{}] [] [] [0] (SV.v ({}))
  refine nm (([]:List Int) ++s:List Int) fun l1 hl1=>?_;have hl1n:=congrArg List.length hl1;try simp only [List.length_append,List.length_cons,List.length_nil,List.length_replicate,List.length_set,List.length_take,List.length_drop,List.length_map,List.length_reverse,List.length_range] at hl1n
  refine V.g [.nl 0 1 true 3 ([]:List Int) [] (fun _ _ _ _ _=>trivial) (fun _=>#[]),.k (ss.v),.ap 2 1 3 8 false true ([]:List Int) (fun G=>⟨atB (G 0).b,0,0⟩) (kf false (.f 0) s (fun _=>ss)) true l1 hl1 (by (try simp only [List.length_append,List.length_cons,List.length_nil,List.length_replicate,List.length_set,List.length_take,List.length_drop,List.length_map,List.length_reverse,List.length_range]);omega) (fun h=>by cases h) (.inr fun _ _=>trivial),.v fun G=>((G 2).s).v] fun _ _ G4=>?_;intro S_ s_
  have e0:l1=s:=by rw [hl1];simp
  replace e0:=e0.symm
  subst e0;exact V.rs [0] [(G4 2).s] [fun _=>{}] [] [] [1] (((G4 2).s).v)
set_option maxRecDepth 10000 in
theorem clonef_ct (s:List Int) (ss:SV) (hcl:s.length≤1099511627776) :
    Ct Try.prog 63 #[ss.v] [fs true s ss] [] (fun g=>((g.ss 0)).v) (fun g=>[fs true s (g.ss 0)]) (fun g=>[]) (fun g=>[]):=by
  refine V.fn mo Try.func63 8 1 (by kernel_rfl) fun w H ε k0=>?_;obtain ⟨⟨kl1,kn1⟩, -⟩:Lq s ss.v∧True:=kq k0
  clear k0;refine V.g [.k (.slice none 0 0)] fun _ _ G1=>?_;intro S_ s_
  refine V.g [.k (ss.v),.isn false (fun _=>ss)] fun _ _ G2=>?_;intro S_ s_
  refine V.cn (b:=ss.a.isNone) Iff.rfl Iff.rfl (fun q1=>?_) (fun q2=>?_)
  · refine V.g [.k (.slice none 0 0)] fun _ _ G3=>?_;intro S_ s_
    refine V.nilF (α:=Int) ?_;have e0:([]:List Int)=s:=(kn1 _ rfl q1).symm;rw [←e0];exact V.rs [0] [{}] [fun _=>{}] [] [1] [] (SV.v ({}))
  refine nm (([]:List Int) ++s:List Int) fun l1 hl1=>?_;have hl1n:=congrArg List.length hl1;try simp only [List.length_append,List.length_cons,List.length_nil,List.length_replicate,List.length_set,List.length_take,List.length_drop,List.length_map,List.length_reverse,List.length_range] at hl1n
  refine V.g [.nl 0 0 true 3 ([]:List Int) [] (fun _ _ _ _ _=>trivial) (fun _=>#[]),.k (ss.v),.ap 2 0 3 8 false true ([]:List Int) (fun G=>⟨atB (G 0).b,0,0⟩) (kf false (.f 0) s (fun _=>ss)) true l1 hl1 (by (try simp only [List.length_append,List.length_cons,List.length_nil,List.length_replicate,List.length_set,List.length_take,List.length_drop,List.length_map,List.length_reverse,List.length_range]);omega) (fun h=>by cases h) (.inr fun _ _=>trivial),.v fun G=>((G 2).s).v] fun _ _ G4=>?_;intro S_ s_
  refine V.frz 0 true 3 l1 ((G4 2).s) (by kernel_rfl) ?_;have e0:l1=s:=by rw [hl1];simp
  replace e0:=e0.symm
  subst e0;exact V.rs [0] [(G4 2).s] [fun _=>{}] [] [1] [] (((G4 2).s).v)
set_option maxRecDepth 10000 in
theorem bright_ct (d:Int) (c:List Int) (h:SV) :
    Cp Try.prog 51 #[ag (DBig.mk d ⟨c,h⟩)] [fs true c h] (bv (decide (Bg.RtB d c))):=by
  refine V.fn mo Try.func51 45 1 (by kernel_rfl) fun w H ε k0=>?_;obtain ⟨⟨kl1, -⟩, -⟩:Lq c h.v∧True:=kq k0
  clear k0;refine V.g [.nb 0 0 (fun b=>pp b 0) 31 (fun _=>ca (DBig.mk d ⟨c,h⟩)),.kb false] fun _ _ G1=>?_;intro S s
  refine V.g [.k (pp ((G1 0).b) 1),.ld 0 1 false (fun _=>[h.v]),.ln (kf false (.f 0) c (fun _=>h)),.k (iv (c.length:Int))] fun _ _ G2=>?_;intro S s
  refine V.g [.k (pp ((G1 0).b) 1),.ld 0 1 false (fun _=>[h.v]),.ln (kf false (.f 0) c (fun _=>h)),.k (iv 0)] fun _ _ G3=>?_;intro S s
  refine V.loop (γ:=Int) (fun k0=>⟨[(1,pp ((G1 0).b) 0),(3,iv (c.length:Int)),(10,h.v),(11,iv (c.length:Int)),(12,iv k0)],[fs false c h],[.blk ((G1 0).b) (ca (DBig.mk d ⟨c,h⟩)) 31]⟩) (fun k0=>(0≤k0)∧(k0≤(c.length:Int))∧(∀ i,i < k0.toNat→0≤c.getD i default∧c.getD i default < 1048576)) (fun k0=>((c.length:Int)-k0).toNat) 0 (by kernel_rfl) [0] (by kernel_rfl) ?_ ?_
  · refine ⟨?_,?_,?_⟩
    · show 0≤(0:Int)
      first | omega | rfl | (simp;done) | (subst_vars;simp;done)
    · show (0:Int)≤(c.length:Int)
      first | omega | rfl | (simp;done) | (subst_vars;simp;done)
    show ∀ i,i < (0:Int).toNat→0≤c.getD i default∧c.getD i default < 1048576;intro i hi;simp at hi
  rintro k0 hF1 kw4 Z1 hZ1;have hF1:(0≤k0)∧(k0≤(c.length:Int))∧(∀ i,i < k0.toNat→0≤c.getD i default∧c.getD i default < 1048576):=hF1;obtain ⟨hf1,hf2,hf3⟩:=hF1;clear kw4;refine V.g [.k (bv (decide (k0 < (c.length:Int))))] fun _ _ G4=>?_;intro S s;refine V.cn (b:=decide (k0 < (c.length:Int))) iDT iDF (fun q1=>?_) (fun q2=>?_)
  · refine nm (c.getD k0.toNat default:Int) fun v1 hv1=>?_;refine V.g [.ix g0 (kf false (.f 0) c (fun _=>h)) k0 (fun _=>⟨by omega,by omega⟩),.le g0 (kf false (.f 0) c (fun _=>h)) k0 none false v1 hv1 (fun _=>⟨by omega,by omega⟩) false (fun _=>[iv v1]),.k (iv v1)] fun _ _ G5=>?_;intro S s
    refine V.g [.k (iv v1),.k (bv (decide (v1 < 0))),.k (bv (decide (v1 < 0))),.k (iv v1),.k (bv (decide (1048575 < v1))),.or g0 false (decide (v1 < 0)) (decide (1048575 < v1))] fun _ _ G6=>?_;intro S s
    refine V.cn (b:=(decide (v1 < 0)) || (decide (1048575 < v1))) (iOT iDT iDT) (iOF iDF iDF) (fun q3=>?_) (fun q4=>?_)
    · refine V.g [.kb false] fun _ _ G7=>?_;intro S s
      have e0:false=decide (Bg.RtB d c):=(decide_eq_false (Bg.rt_bad (k:=k0.toNat) (by omega) hv1 q3)).symm;exact V.rt [0] [] [] [] [] [] (bv false) (cong1 (fun (x0:Bool)=>(bv x0:Value)) e0)
    refine V.g [.a (k0+1) (by omega) (by omega),.k (iv (k0+1))] fun _ _ G8=>?_;intro S s
    refine V.rnd hZ1 (k0+1) [0] (by kernel_rfl) ?_ ?_
    · refine ⟨?_,?_,?_⟩
      · show 0≤(k0+1)
        first | omega | rfl | (simp;done) | (subst_vars;simp;done)
      · show (k0+1)≤(c.length:Int)
        first | omega | rfl | (simp;done) | (subst_vars;simp;done)
      show ∀ i,i < (k0+1).toNat→0≤c.getD i default∧c.getD i default < 1048576;intro i hi;by_cases e:i < k0.toNat
      · exact hf3 i e
      rw [show i=k0.toNat by omega,← hv1];omega
    show ((c.length:Int)-(k0+1)).toNat < ((c.length:Int)-k0).toNat;omega
  refine V.g [.k (iv (c.length:Int)),.k (bv (decide ((c.length:Int)=0)))] fun _ _ G9=>?_;intro S s
  refine V.cn (b:=decide ((c.length:Int)=0)) iDT iDF (fun q5=>?_) (fun q6=>?_)
  · refine V.g [.k (pp ((G1 0).b) 0),.ld 0 0 false (fun _=>[iv d]),.k (bv (decide (d=0))),.k (bv (decide (d=0)))] fun _ _ G10=>?_;intro S s
    have e0:(decide (d=0))=decide (Bg.RtB d c):=by
      refine Bool.eq_iff_iff.2 (Iff.trans iDT (Iff.trans ?_ decide_eq_true_iff.symm));exact Bg.rt_nil (by omega)
    exact V.rt [0] [] [] [] [] [] (bv (decide (d=0))) (cong1 (fun (x0:Bool)=>(bv x0:Value)) e0)
  refine nm ((decide (d=1)) || (decide (d=(-1))):Bool) fun p1 hp1=>?_;refine nm ((c.length:Int)-1:Int) fun n1 hn1=>?_;refine nm (c.getD n1.toNat default:Int) fun v2 hv2=>?_;refine V.g [.k (pp ((G1 0).b) 0),.ld 0 0 false (fun _=>[iv d]),.k (bv (decide (d=1))),.k (bv (decide (d=1))),.k (pp ((G1 0).b) 0),.ld 0 0 false (fun _=>[iv d]),.k (bv (decide (d=(-1)))),.orn g0 false (decide (d=1)) (decide (d=(-1))) p1 hp1,.k (bv p1),.k (pp ((G1 0).b) 1),.ld 0 1 false (fun _=>[h.v]),.k (iv (c.length:Int)),.arg (gT (b:=p1) (iN hp1 (iOT iDT iDT))) ((c.length:Int)-1) n1 hn1 (fun hg=>by omega),.ix (gT (b:=p1) (iN hp1 (iOT iDT iDT))) (kf false (.f 0) c (fun _=>h)) n1 (fun hg=>⟨by omega,by omega⟩),.le (gT (b:=p1) (iN hp1 (iOT iDT iDT))) (kf false (.f 0) c (fun _=>h)) n1 none false v2 hv2 (fun hg=>⟨by omega,by omega⟩) false (fun _=>[iv v2]),.k (bv (!(decide (v2=0)))),.and g0 false p1 (!(decide (v2=0))),.k (bv (p1 && (!(decide (v2=0)))))] fun _ _ G11=>?_;intro S s
  have e0:(p1 && (!(decide (v2=0))))=decide (Bg.RtB d c):=by
    refine Bool.eq_iff_iff.2 (Iff.trans (iAT (iN hp1 (iOT iDT iDT)) (iNT iDF)) (Iff.trans ?_ decide_eq_true_iff.symm));exact Bg.rt_ok (by omega) (fun i hi=>hf3 i (by omega)) hv2 (by first | rfl | exact hn1)
  exact V.rt [0] [] [] [] [] [] (bv (p1 && (!(decide (v2=0))))) (cong1 (fun (x0:Bool)=>(bv x0:Value)) e0)
set_option maxRecDepth 10000 in
theorem trim_ct (l:List Int) (ls:SV) (hd:Bg.Dg l) :
    Ct Try.prog 100 #[ls.v] [fs true l ls] [] (fun g=>((g.ss 0)).v) (fun g=>[fs false (Bg.dig (Bg.nv l)) (g.ss 0)]) (fun g=>[]) (fun g=>[]):=by
  refine V.fn mo Try.func100 21 0 (by kernel_rfl) fun w H ε k0=>?_;obtain ⟨⟨kl1, -⟩, -⟩:Lq l ls.v∧True:=kq k0
  clear k0;refine V.g [.k (.slice none 0 0)] fun _ _ G1=>?_;intro S s
  refine V.g [.k (ls.v),.ln (kf false (.f 0) l (fun _=>ls)),.k (iv (l.length:Int))] fun _ _ G2=>?_;intro S s
  refine V.loop (γ:=Int) (fun n=>⟨[(0,ls.v),(3,iv n)],[fs false l ls],[]⟩) (fun n=>(0≤n)∧(n≤(l.length:Int))∧(∀ i,n.toNat≤i→i < l.length→l.getD i 0=0)) (fun n=>n.toNat) (l.length:Int) (by kernel_rfl) [0] (by kernel_rfl) ?_ ?_
  · refine ⟨?_,?_,?_⟩
    · show 0≤(l.length:Int);omega
    · show (l.length:Int)≤(l.length:Int);omega
    show ∀ i,(l.length:Int).toNat≤i→i < l.length→l.getD i 0=0;intro i h1 h2;omega
  rintro n hF1 kw3 Z1 hZ1;have hF1:(0≤n)∧(n≤(l.length:Int))∧(∀ i,n.toNat≤i→i < l.length→l.getD i 0=0):=hF1;obtain ⟨hf1,hf2,hf3⟩:=hF1;clear kw3;refine nm (l.getD (n-1).toNat default:Int) fun v1 hv1=>?_;refine V.g [.k (iv n),.k (bv (decide (0 < n))),.k (bv (decide (0 < n))),.k (ls.v),.k (iv n),.arg (gT (b:=decide (0 < n)) iDT) (n-1) (n-1) rfl (fun hg=>by omega),.ix (gT (b:=decide (0 < n)) iDT) (kf false (.f 0) l (fun _=>ls)) (n-1) (fun hg=>⟨by omega,by omega⟩),.le (gT (b:=decide (0 < n)) iDT) (kf false (.f 0) l (fun _=>ls)) (n-1) none false v1 hv1 (fun hg=>⟨by omega,by omega⟩) false (fun _=>[iv v1]),.k (bv (decide (v1=0))),.and g0 false (decide (0 < n)) (decide (v1=0))] fun _ _ G3=>?_;intro S s;refine V.cn (b:=(decide (0 < n)) && (decide (v1=0))) (iAT iDT iDT) (iAF iDF iDF) (fun q1=>?_) (fun q2=>?_)
  · refine V.g [.k (iv n),.a (n-1) (by omega) (by omega),.k (iv (n-1))] fun _ _ G4=>?_;intro S s
    refine V.rnd hZ1 (n-1) [0] (by kernel_rfl) ?_ ?_
    · refine ⟨?_,?_,?_⟩
      · show 0≤(n-1);omega
      · show (n-1)≤(l.length:Int);omega
      show ∀ i,(n-1).toNat≤i→i < l.length→l.getD i 0=0;intro i h1 h2;by_cases e:n.toNat≤i
      · exact hf3 i e h2
      rw [show i=(n-1).toNat by omega];exact hv1.symm.trans q1.2
    show (n-1).toNat < n.toNat;omega
  refine nm (l.take n.toNat:List Int) fun l1 hl1=>?_;have hl1n:=congrArg List.length hl1;try simp only [List.length_append,List.length_cons,List.length_nil,List.length_replicate,List.length_set,List.length_take,List.length_drop,List.length_map,List.length_reverse,List.length_range] at hl1n
  refine V.r [.k (ls.v),.k (iv n),.sl g0 (kf false (.f 0) l (fun _=>ls)) rfl none (some n) 0 n rfl rfl l1 (by rw [hl1];simp) (fun _=>⟨by omega,by omega,by omega⟩),.k ((ls.sub 1 (0:Int).toNat n.toNat).v)] fun _ _ G5 kw6=>?_;intro S s
  obtain ⟨⟨kl2, -⟩, -⟩:Lq l1 ((ls.sub 1 (0:Int).toNat n.toNat).v)∧True:=kq kw6;clear kw6;have e0:l1=Bg.dig (Bg.nv l):=by rw [hl1];exact Bg.trim_eq hd (by omega) hf3 (Bg.trim_stop (fun _=>hv1) q2)
  subst e0;exact V.rs [0] [(ls.sub 1 (0:Int).toNat n.toNat)] [fun _=>{}] [] [1] [] ((ls.sub 1 (0:Int).toNat n.toNat).v)
set_option maxRecDepth 10000 in
theorem trimo_ct (l:List Int) (ls:SV) (hd:Bg.Dg l) :
    Ct Try.prog 100 #[ls.v] [] [os false 3 l ls] (fun g=>((g.ss 0)).v) (fun g=>[]) (fun g=>[os true 3 (Bg.dig (Bg.nv l)) (g.ss 0)]) (fun g=>[]):=by
  refine V.fn mo Try.func100 21 0 (by kernel_rfl) fun w H ε k0=>?_;obtain ⟨⟨kl1, -⟩, -⟩:Lq l ls.v∧True:=kq k0
  clear k0;refine V.tro 3 l ls 0 (by kernel_rfl) (fun _ _=>trivial) ?_;refine V.g [.k (.slice none 0 0)] fun _ _ G1=>?_;intro S s
  refine V.g [.k (ls.v),.ln (ko true 3 0 l (fun _=>ls)),.k (iv (l.length:Int))] fun _ _ G2=>?_;intro S s
  refine V.loop (γ:=Int) (fun n=>⟨[(0,ls.v),(3,iv n)],[],[os true 3 l ls]⟩) (fun n=>(0≤n)∧(n≤(l.length:Int))∧(∀ i,n.toNat≤i→i < l.length→l.getD i 0=0)) (fun n=>n.toNat) (l.length:Int) (by kernel_rfl) [] (by kernel_rfl) ?_ ?_
  · refine ⟨?_,?_,?_⟩
    · show 0≤(l.length:Int);omega
    · show (l.length:Int)≤(l.length:Int);omega
    show ∀ i,(l.length:Int).toNat≤i→i < l.length→l.getD i 0=0;intro i h1 h2;omega
  rintro n hF1 kw3 Z1 hZ1;have hF1:(0≤n)∧(n≤(l.length:Int))∧(∀ i,n.toNat≤i→i < l.length→l.getD i 0=0):=hF1;obtain ⟨hf1,hf2,hf3⟩:=hF1;clear kw3;refine nm (l.getD (n-1).toNat default:Int) fun v1 hv1=>?_;refine V.g [.k (iv n),.k (bv (decide (0 < n))),.k (bv (decide (0 < n))),.k (ls.v),.k (iv n),.arg (gT (b:=decide (0 < n)) iDT) (n-1) (n-1) rfl (fun hg=>by omega),.ix (gT (b:=decide (0 < n)) iDT) (ko true 3 0 l (fun _=>ls)) (n-1) (fun hg=>⟨by omega,by omega⟩),.le (gT (b:=decide (0 < n)) iDT) (ko true 3 0 l (fun _=>ls)) (n-1) none false v1 hv1 (fun hg=>⟨by omega,by omega⟩) false (fun _=>[iv v1]),.k (bv (decide (v1=0))),.and g0 false (decide (0 < n)) (decide (v1=0))] fun _ _ G3=>?_;intro S s;refine V.cn (b:=(decide (0 < n)) && (decide (v1=0))) (iAT iDT iDT) (iAF iDF iDF) (fun q1=>?_) (fun q2=>?_)
  · refine V.g [.k (iv n),.a (n-1) (by omega) (by omega),.k (iv (n-1))] fun _ _ G4=>?_;intro S s
    refine V.rnd hZ1 (n-1) [] (by kernel_rfl) ?_ ?_
    · refine ⟨?_,?_,?_⟩
      · show 0≤(n-1);omega
      · show (n-1)≤(l.length:Int);omega
      show ∀ i,(n-1).toNat≤i→i < l.length→l.getD i 0=0;intro i h1 h2;by_cases e:n.toNat≤i
      · exact hf3 i e h2
      rw [show i=(n-1).toNat by omega];exact hv1.symm.trans q1.2
    show (n-1).toNat < n.toNat;omega
  refine nm (l.take n.toNat:List Int) fun l1 hl1=>?_;have hl1n:=congrArg List.length hl1;try simp only [List.length_append,List.length_cons,List.length_nil,List.length_replicate,List.length_set,List.length_take,List.length_drop,List.length_map,List.length_reverse,List.length_range] at hl1n
  refine V.g [.k (ls.v),.k (iv n),.fro 2 0 3 true l (fun _=>ls) n l1 hl1 (by omega) (by omega),.k ((ls.sub 1 0 n.toNat).v)] fun _ _ G5=>?_;intro S s
  have eL0:l1=Bg.dig (Bg.nv l):=by rw [hl1];exact Bg.trim_eq hd (by omega) hf3 (Bg.trim_stop (fun _=>hv1) q2)
  subst eL0;exact V.rs [0] [(ls.sub 1 0 n.toNat)] [] [] [] [0] ((ls.sub 1 0 n.toNat).v)
set_option maxRecDepth 10000 in
theorem signed_ct (sign:Int) (l:List Int) (ls:SV) (hd:Bg.Dg l) :
    Ct Try.prog 81 #[iv sign,ls.v] [fs true l ls] [] (fun g=>ag (DBig.mk (Bg.sg0 (Bg.nv l) sign) ⟨Bg.dig (Bg.nv l),(g.ss 0)⟩)) (fun g=>[fs false (Bg.dig (Bg.nv l)) (g.ss 0)]) (fun g=>[]) (fun g=>[]):=by
  refine V.fn mo Try.func81 14 1 (by kernel_rfl) fun w H ε k0=>?_;obtain ⟨⟨kl1, -⟩, -⟩:Lq l ls.v∧True:=kq k0
  clear k0;refine V.g [.nb 0 0 (fun b=>pp b 0) 31 (fun _=>ca (DBig.mk 0 ⟨[],{}⟩))] fun _ _ G1=>?_;intro S s
  refine V.r [.k (ls.v),.ct g0 1 100 true [] [] [(kf false (.f 0) l (fun _=>ls)).a] (fun _ G=>trim_ct l ls (by assumption)),.v fun G=>((G 1).ss 0).v] fun _ _ G2 kw2=>?_;intro S s
  obtain ⟨⟨kl2, -⟩, -⟩:Lq (Bg.dig (Bg.nv l)) (((G2 1).ss 0).v)∧True:=kq kw2;clear kw2;refine V.g [.k (((G2 1).ss 0).v),.ln (kf false (.f 1) (Bg.dig (Bg.nv l)) (fun _=>(G2 1).ss 0)),.k (bv (decide (((Bg.dig (Bg.nv l)).length:Int)=0)))] fun _ _ G3=>?_;intro S s;refine V.cn (b:=decide (((Bg.dig (Bg.nv l)).length:Int)=0)) iDT iDF (fun q1=>?_) (fun q2=>?_)
  · have hz0:=Bg.len_dig0.1 q1;refine V.g [.k (ag (DBig.mk 0 ⟨[],{}⟩)),.st 0 (fun _=>.blk ((G1 0).b) (ca (DBig.mk 0 ⟨[],{}⟩)) 31)] fun _ _ G4=>?_;intro S s
    refine V.nilF (α:=Int) ?_;have e1:([]:List Int)=Bg.dig (Bg.nv l):=by rw [hz0];rfl
    rw [←e1];have e0:(0:Int)=Bg.sg0 (Bg.nv l) sign:=(if_pos hz0).symm;exact V.rt [0] [{}] [fun _=>{}] [] [2] [] (ag (DBig.mk 0 ⟨([]:List Int),{}⟩)) (cong1 (fun (x0:Int)=>(.agg #[iv x0,SV.v ({})]:Value)) e0)
  have hz0:=fun h=>q2 (Bg.len_dig0.2 h)
  refine V.g [.k (iv sign),.k (((G2 1).ss 0).v),.k (ag (DBig.mk sign ⟨Bg.dig (Bg.nv l),(G2 1).ss 0⟩)),.st 0 (fun _=>.blk ((G1 0).b) (ca (DBig.mk sign ⟨Bg.dig (Bg.nv l),(G2 1).ss 0⟩)) 31)] fun _ _ G5=>?_;intro S s
  have e0:sign=Bg.sg0 (Bg.nv l) sign:=(if_neg hz0).symm;exact V.rt [0] [(G2 1).ss 0] [fun _=>{}] [] [1] [] (ag (DBig.mk sign ⟨Bg.dig (Bg.nv l),(G2 1).ss 0⟩)) (cong1 (fun (x0:Int)=>(.agg #[iv x0,((G2 1).ss 0).v]:Value)) e0)
theorem signed_ctv (sign:Int) (l:List Int) (ls:SV) (hd:Bg.Dg l) (rv0:Int) (erv0:rv0=Bg.sg0 (Bg.nv l) sign) (rv1:List Int) (erv1:rv1=Bg.dig (Bg.nv l)) :
    Ct Try.prog 81 #[iv sign,ls.v] [fs true l ls] [] (fun g=>ag (DBig.mk rv0 ⟨rv1,(g.ss 0)⟩)) (fun g=>[fs false rv1 (g.ss 0)]) (fun g=>[]) (fun g=>[]):=by
  subst erv0 erv1;exact signed_ct sign l ls hd

open Go Go.Proofs
set_option maxRecDepth 10000 in
theorem of_ct (n:Int) (hn: -9223372036854775808≤n∧n≤9223372036854775807) :
    Ct Try.prog 50 #[iv n] [] [] (fun g=>ag (DBig.mk (Bg.sgn n) ⟨Bg.dig n.natAbs,(g.ss 0)⟩)) (fun g=>[fs true (Bg.dig n.natAbs) (g.ss 0)]) (fun g=>[]) (fun g=>[]):=by
  refine V.fn mo Try.func50 25 2 (by kernel_rfl) fun w H ε k0=>?_;clear k0
  refine V.g [.nb 0 0 (fun b=>pp b 0) 31 (fun _=>ca (DBig.mk 0 ⟨[],{}⟩))] fun _ _ G1=>?_;intro S_ s_
  refine nm (n % 18446744073709551616:Int) fun n1 hn1=>?_;refine V.g [.k (iv n),.ek g0 .u64 n n1 (fun _=>by rw [wrapU64,hn1]),.k (iv 1),.k (.int .u64 n1)] fun _ _ G2=>?_;intro S_ s_
  refine V.g [.k (iv n),.k (bv (decide (n < 0)))] fun _ _ G3=>?_;intro S_ s_
  refine V.cn (b:=decide (n < 0)) iDT iDF (fun q1=>?_) (fun q2=>?_)
  · refine nm ((0-n1) % 18446744073709551616:Int) fun n2 hn2=>?_;refine V.g [.k (.int .u64 n1),.ek g0 .u64 (0-n1) n2 (fun _=>by rw [wrapU64,hn2]),.k (iv (-1)),.k (.int .u64 n2)] fun _ _ G4=>?_;intro S_ s_
    refine V.g [.k (.slice none 0 0)] fun _ _ G5=>?_;intro S_ s_
    refine V.on (α:=Int) 1 3 (by kernel_rfl) ?_;refine V.loop (γ:=Int × List Int × SV) (fun ⟨u,l,ls⟩=>⟨[(2,pp ((G1 0).b) 0),(3,iv (-1)),(4,.int .u64 u),(5,ls.v)],[],[.blk ((G1 0).b) (ca (DBig.mk 0 ⟨[],{}⟩)) 31,os true 3 l ls]⟩) (fun ⟨u,l,ls⟩=>(Bg.OfI n.natAbs l u)) (fun ⟨u,l,ls⟩=>u.toNat) (n2,([]:List Int),{}) (by kernel_rfl) [] (by kernel_rfl) ?_ ?_
    · · show Bg.OfI n.natAbs ([]:List Int) n2;exact Bg.of_start (by omega) (by omega)
    rintro ⟨u,l,ls⟩ hF1 kw6 Z1 hZ1;have hf1:Bg.OfI n.natAbs l u:=hF1;obtain ⟨⟨kl1, -⟩, -⟩:Lq l ls.v∧True:=kq kw6;clear kw6;have hu0:=hf1.u0;have hul:u < 18446744073709551616:=by have:=hf1.sum;have:=Nat.le_mul_of_pos_left u.toNat (Nat.pow_pos (n:=l.length) (show 0 < 1048576 by omega));omega
    refine V.g [.k (.int .u64 u),.k (bv (decide (0 < u)))] fun _ _ G6=>?_;intro S_ s_
    refine V.cn (b:=decide (0 < u)) iDT iDF (fun q3=>?_) (fun q4=>?_)
    · have hll:=Bg.of_len hf1 q3 (by omega);refine nm (u % 1048576:Int) fun n3 hn3=>?_;refine nm (l ++[n3]:List Int) fun l1 hl1=>?_;have hl1n:=congrArg List.length hl1;try simp only [List.length_append,List.length_cons,List.length_nil,List.length_replicate,List.length_set,List.length_take,List.length_drop,List.length_map,List.length_reverse,List.length_range] at hl1n
      refine V.r [.k (ls.v),.k (.int .u64 u),.andu g0 u 1048575 n3 20 (by decide) rfl (by rw [hn3];rfl),.ek g0 .i64 n3 n3 (fun _=>by rw [IntKind.wrap_i64];omega),.nr 4 true 3 [n3] [] (fun _ _ _ _ _=>trivial) (fun _=>#[iv n3]),.ap 5 1 3 8 false true l (fun _=>ls) (kf true (.g 4 0) [n3] (fun G=>⟨atB (G 4).b,1,1⟩)) true l1 hl1 (by (try simp only [List.length_append,List.length_cons,List.length_nil,List.length_replicate,List.length_set,List.length_take,List.length_drop,List.length_map,List.length_reverse,List.length_range]);omega) (fun h=>by cases h) (.inr fun _ _=>trivial),.v fun G=>((G 5).s).v] fun _ _ G7 kw8=>?_;intro S_ s_
      obtain ⟨⟨kl2, -⟩, -⟩:Lq [n3] (SV.v ⟨atB (G7 4).b,1,1⟩)∧Lq l1 (((G7 5).s).v)∧True:=kq kw8;clear kw8;refine nm (u / 1048576:Int) fun n4 hn4=>?_;refine V.g [.k (.int .u64 u),.shrm g0 .u64 .u64 u n4 20 (by decide) (by rw [hn4];rfl),.k (.int .u64 n4)] fun _ _ G8=>?_;intro S_ s_;refine V.rnd hZ1 (n4,l1,(G7 5).s) [] (by kernel_rfl) ?_ ?_
      · · show Bg.OfI n.natAbs l1 n4;rw [hl1,hn3,hn4];exact Bg.of_step hf1
      show n4.toNat < u.toNat;omega
    refine V.frz 1 true 3 l ls (by kernel_rfl) ?_;refine V.r [.k (iv (-1)),.k (ls.v),.ctT g0 2 81 [(kf true (.f 0) l (fun _=>ls)).a] (fun _ G=>signed_ct (-1:Int) l ls hf1.dg),.st 0 (fun G=>.blk ((G1 0).b) (ca (DBig.mk (Bg.sg0 (Bg.nv l) (-1:Int)) ⟨Bg.dig (Bg.nv l),(G 2).ss 0⟩)) 31)] fun _ _ G9 kw10=>?_;intro S_ s_
    obtain ⟨⟨kl3, -⟩, -⟩:Lq (Bg.dig (Bg.nv l)) (((G9 2).ss 0).v)∧True:=kq kw10;clear kw10;have e1:Bg.dig (Bg.nv l)=Bg.dig n.natAbs:=by rw [Bg.of_end hf1 q4]
    rw [←e1];have e0:(Bg.sg0 (Bg.nv l) (-1:Int))=Bg.sgn n:=by rw [Bg.of_end hf1 q4];exact Bg.of_sgn rfl _ (by omega)
    exact V.rt [0] [(G9 2).ss 0] [fun _=>{}] [] [1] [] (ag (DBig.mk (Bg.sg0 (Bg.nv l) (-1:Int)) ⟨Bg.dig (Bg.nv l),(G9 2).ss 0⟩)) (cong1 (fun (x0:Int)=>(.agg #[iv x0,((G9 2).ss 0).v]:Value)) e0)
  refine V.g [.k (.slice none 0 0)] fun _ _ G10=>?_;intro S_ s_
  refine V.on (α:=Int) 1 3 (by kernel_rfl) ?_;refine V.loop (γ:=Int × List Int × SV) (fun ⟨u_1,l_1,l_1s⟩=>⟨[(2,pp ((G1 0).b) 0),(3,iv 1),(4,.int .u64 u_1),(5,l_1s.v)],[],[.blk ((G1 0).b) (ca (DBig.mk 0 ⟨[],{}⟩)) 31,os true 3 l_1 l_1s]⟩) (fun ⟨u_1,l_1,l_1s⟩=>(Bg.OfI n.natAbs l_1 u_1)) (fun ⟨u_1,l_1,l_1s⟩=>u_1.toNat) (n1,([]:List Int),{}) (by kernel_rfl) [] (by kernel_rfl) ?_ ?_
  · · show Bg.OfI n.natAbs ([]:List Int) n1;exact Bg.of_start (by omega) (by omega)
  rintro ⟨u_1,l_1,l_1s⟩ hF2 kw12 Z2 hZ2;have hf2:Bg.OfI n.natAbs l_1 u_1:=hF2;obtain ⟨⟨kl4, -⟩, -⟩:Lq l_1 l_1s.v∧True:=kq kw12;clear kw12;have hu0:=hf2.u0;have hul:u_1 < 18446744073709551616:=by have:=hf2.sum;have:=Nat.le_mul_of_pos_left u_1.toNat (Nat.pow_pos (n:=l_1.length) (show 0 < 1048576 by omega));omega
  refine V.g [.k (.int .u64 u_1),.k (bv (decide (0 < u_1)))] fun _ _ G11=>?_;intro S_ s_
  refine V.cn (b:=decide (0 < u_1)) iDT iDF (fun q5=>?_) (fun q6=>?_)
  · have hll:=Bg.of_len hf2 q5 (by omega);refine nm (u_1 % 1048576:Int) fun n5 hn5=>?_;refine nm (l_1 ++[n5]:List Int) fun l2 hl2=>?_;have hl2n:=congrArg List.length hl2;try simp only [List.length_append,List.length_cons,List.length_nil,List.length_replicate,List.length_set,List.length_take,List.length_drop,List.length_map,List.length_reverse,List.length_range] at hl2n
    refine V.r [.k (l_1s.v),.k (.int .u64 u_1),.andu g0 u_1 1048575 n5 20 (by decide) rfl (by rw [hn5];rfl),.ek g0 .i64 n5 n5 (fun _=>by rw [IntKind.wrap_i64];omega),.nr 4 true 3 [n5] [] (fun _ _ _ _ _=>trivial) (fun _=>#[iv n5]),.ap 5 1 3 8 false true l_1 (fun _=>l_1s) (kf true (.g 4 0) [n5] (fun G=>⟨atB (G 4).b,1,1⟩)) true l2 hl2 (by (try simp only [List.length_append,List.length_cons,List.length_nil,List.length_replicate,List.length_set,List.length_take,List.length_drop,List.length_map,List.length_reverse,List.length_range]);omega) (fun h=>by cases h) (.inr fun _ _=>trivial),.v fun G=>((G 5).s).v] fun _ _ G12 kw14=>?_;intro S_ s_
    obtain ⟨⟨kl5, -⟩, -⟩:Lq [n5] (SV.v ⟨atB (G12 4).b,1,1⟩)∧Lq l2 (((G12 5).s).v)∧True:=kq kw14;clear kw14;refine nm (u_1 / 1048576:Int) fun n6 hn6=>?_;refine V.g [.k (.int .u64 u_1),.shrm g0 .u64 .u64 u_1 n6 20 (by decide) (by rw [hn6];rfl),.k (.int .u64 n6)] fun _ _ G13=>?_;intro S_ s_;refine V.rnd hZ2 (n6,l2,(G12 5).s) [] (by kernel_rfl) ?_ ?_
    · · show Bg.OfI n.natAbs l2 n6;rw [hl2,hn5,hn6];exact Bg.of_step hf2
    show n6.toNat < u_1.toNat;omega
  refine V.frz 1 true 3 l_1 l_1s (by kernel_rfl) ?_;refine V.r [.k (iv 1),.k (l_1s.v),.ctT g0 2 81 [(kf true (.f 0) l_1 (fun _=>l_1s)).a] (fun _ G=>signed_ct (1:Int) l_1 l_1s hf2.dg),.st 0 (fun G=>.blk ((G1 0).b) (ca (DBig.mk (Bg.sg0 (Bg.nv l_1) (1:Int)) ⟨Bg.dig (Bg.nv l_1),(G 2).ss 0⟩)) 31)] fun _ _ G14 kw16=>?_;intro S_ s_
  obtain ⟨⟨kl6, -⟩, -⟩:Lq (Bg.dig (Bg.nv l_1)) (((G14 2).ss 0).v)∧True:=kq kw16;clear kw16;have e1:Bg.dig (Bg.nv l_1)=Bg.dig n.natAbs:=by rw [Bg.of_end hf2 q6]
  rw [←e1];have e0:(Bg.sg0 (Bg.nv l_1) (1:Int))=Bg.sgn n:=by rw [Bg.of_end hf2 q6];exact Bg.of_sgn rfl _ (by omega)
  exact V.rt [0] [(G14 2).ss 0] [fun _=>{}] [] [1] [] (ag (DBig.mk (Bg.sg0 (Bg.nv l_1) (1:Int)) ⟨Bg.dig (Bg.nv l_1),(G14 2).ss 0⟩)) (cong1 (fun (x0:Int)=>(.agg #[iv x0,((G14 2).ss 0).v]:Value)) e0)
theorem of_ctv (n:Int) (hn: -9223372036854775808≤n∧n≤9223372036854775807) (rv0:Int) (erv0:rv0=Bg.sgn n) (rv1:List Int) (erv1:rv1=Bg.dig n.natAbs) :
    Ct Try.prog 50 #[iv n] [] [] (fun g=>ag (DBig.mk rv0 ⟨rv1,(g.ss 0)⟩)) (fun g=>[fs true rv1 (g.ss 0)]) (fun g=>[]) (fun g=>[]):=by
  subst erv0 erv1;exact of_ct n hn

open Go Go.Proofs
set_option maxRecDepth 10000 in
theorem int_ct (d:Int) (c:List Int) (e:SV) :
    Cp Try.prog 44 #[ag (DBig.mk d ⟨c,e⟩)] [fs true c e] (.tuple #[iv (Bg.intV d c),bv (decide (Bg.inI d c))]):=by
  refine V.fn mo Try.func44 59 1 (by kernel_rfl) fun w H ε k0=>?_;obtain ⟨⟨kl1, -⟩, -⟩:Lq c e.v∧True:=kq k0
  clear k0;refine V.g [.nb 0 0 (fun b=>pp b 0) 31 (fun _=>ca (DBig.mk d ⟨c,e⟩)),.k (iv 0),.kb false] fun _ _ G1=>?_;intro S s
  refine nm ((!(decide (Bg.RtB d c))) || (decide (4 < (c.length:Int))):Bool) fun p1 hp1=>?_;refine V.g [.ld 0 0 true (fun _=>Dat.cells (DBig.mk d ⟨c,e⟩)),.cp g0 1 51 [(kf false (.f 0) c (fun _=>e)).a] (fun _ G=>bright_ct d c e),.k (bv (!(decide (Bg.RtB d c)))),.k (bv (!(decide (Bg.RtB d c)))),.k (pp ((G1 0).b) 1),.ld 0 1 false (fun _=>[e.v]),.ln (kf false (.f 0) c (fun _=>e)),.k (bv (decide (4 < (c.length:Int)))),.orn g0 false (!(decide (Bg.RtB d c))) (decide (4 < (c.length:Int))) p1 hp1] fun _ _ G2=>?_;intro S s
  refine V.cn (b:=p1) (iN hp1 (iOT (iNT iDF) iDT)) (iN hp1 (iOF (iNF iDT) iDF)) (fun q1=>?_) (fun q2=>?_)
  · have hNo:¬ Bg.inI d c:=by
      rcases q1 with h | h
      · exact fun hi=>h hi.1
      exact fun hi=>Bg.int_len hi.1 h hi
    refine V.g [.k (iv 0),.kb false] fun _ _ G3=>?_;intro S s
    have e0:(0:Int)=Bg.intV d c:=(Bg.intV_n hNo).symm;have e1:false=decide (Bg.inI d c):=(decide_eq_false hNo).symm;exact V.rt [0,0] [] [] [] [] [] (.tuple #[iv 0,bv false]) (cong2 (fun (x0:Int) (x1:Bool)=>(.tuple #[iv x0,bv x1]:Value)) e0 e1)
  have hRt:Bg.RtB d c:=by first | exact (q2).1 | exact Decidable.not_not.1 (q2).1
  have hzs:=Bg.zv_s hRt;refine V.g [.k (.int .u64 0)] fun _ _ G4=>?_;intro S s
  refine V.g [.k (pp ((G1 0).b) 1),.ld 0 1 false (fun _=>[e.v]),.ln (kf false (.f 0) c (fun _=>e)),.k (iv 0)] fun _ _ G5=>?_;intro S s
  refine V.loop (γ:=Int × Int) (fun ⟨u,k0⟩=>⟨[(1,pp ((G1 0).b) 0),(4,.int .u64 u),(17,e.v),(18,iv (c.length:Int)),(19,iv k0)],[fs false c e],[.blk ((G1 0).b) (ca (DBig.mk d ⟨c,e⟩)) 31]⟩) (fun ⟨u,k0⟩=>(0≤k0)∧(k0≤(c.length:Int))∧(u=(Bg.nv (c.take k0.toNat):Int))∧(u < 9223372036854775808 * 2)) (fun ⟨u,k0⟩=>((c.length:Int)-k0).toNat) (0,0) (by kernel_rfl) [0] (by kernel_rfl) ?_ ?_
  · refine ⟨?_,?_,?_,?_⟩
    · show 0≤(0:Int);omega
    · show (0:Int)≤(c.length:Int);omega
    · show (0:Int)=(Bg.nv (c.take (0:Int).toNat):Int);simp [Bg.nv]
    show (0:Int) < 9223372036854775808 * 2;omega
  rintro ⟨u,k0⟩ hF1 kw6 Z1 hZ1;have hF1:(0≤k0)∧(k0≤(c.length:Int))∧(u=(Bg.nv (c.take k0.toNat):Int))∧(u < 9223372036854775808 * 2):=hF1;obtain ⟨hf1,hf2,hf3,hf4⟩:=hF1;clear kw6;refine V.g [.k (bv (decide (k0 < (c.length:Int))))] fun _ _ G6=>?_;intro S s;refine V.cn (b:=decide (k0 < (c.length:Int))) iDT iDF (fun q3=>?_) (fun q4=>?_)
  · rcases (by omega:k0=0∨k0=1∨k0=2∨k0=3) with hcs1 | hcs2 | hcs3 | hcs4
    · refine V.alt (fun (zz:Int)=>(⟨[(1,pp ((G1 0).b) 0),(4,.int .u64 u),(17,e.v),(18,iv (c.length:Int)),(19,iv zz),(20,bv (decide (k0 < (c.length:Int))))],[fs false c e],[.blk ((G1 0).b) (ca (DBig.mk d ⟨c,e⟩)) 31]⟩:St)) hcs1 [0] (by kernel_rfl) ?_;refine nm (c.getD (0:Int).toNat default:Int) fun v1 hv1=>?_;refine V.g [.k (iv 0),.ix g0 (kf false (.f 0) c (fun _=>e)) 0 (fun _=>⟨by omega,by omega⟩),.le g0 (kf false (.f 0) c (fun _=>e)) (0:Int) none false v1 hv1 (fun _=>⟨by omega,by omega⟩) false (fun _=>[iv v1]),.k (iv 0),.k (iv v1)] fun _ _ G7=>?_;intro S s
      refine V.g [.k (iv 0),.kb false,.kb false,.dead,.dead,.kb false] fun _ _ G8=>?_;intro S s
      refine V.condF (by kernel_rfl) ?_;have huc:u=(Bg.nv (c.take 0):Int):=by rw [hf3,hcs1];rfl
      have hlt:=Bg.take_lt hRt.dg 0;have hst:=Bg.int_step (k:=0) (v:=v1) (by omega) hv1 hRt.dg;have hpw:(1048576:Nat) ^ 0=1:=by decide
      rw [hpw] at hst hlt;have hst0:=hst.2;have hst1:Bg.nv (c.take 1)=_:=hst.1;refine nm (v1 % 18446744073709551616:Int) fun n1 hn1=>?_;refine nm (n1 * 1:Int) fun n2 hn2=>?_;refine nm (u+n2:Int) fun n3 hn3=>?_;refine V.g [.k (.int .u64 u),.k (iv v1),.ek g0 .u64 v1 n1 (fun _=>by rw [wrapU64,hn1]),.k (iv 0),.k (iv 0),.shlm g0 .u64 .i64 n1 0 n2 0 (fun _=>⟨rfl,by decide,by show _=IntKind.u64.wrap (n1 * 1);rw [wrapU64];omega⟩),.oru g0 u n2 n1 n3 0 (by rw [hn2];rfl) (fun _=>⟨by decide,by omega,⟨by omega,by show _ < (1:Int);omega⟩,by rw [hn3,hn2];show _=_ * (1:Int)+_;omega,by omega⟩),.k (.int .u64 n3)] fun _ _ G9=>?_;intro S s
      refine V.g [.k (iv 1),.k (iv 1)] fun _ _ G10=>?_;intro S s
      refine V.rnd hZ1 (n3,1) [0] (by kernel_rfl) ?_ ?_
      · refine ⟨?_,?_,?_,?_⟩
        · show 0≤(1:Int);omega
        · show (1:Int)≤(c.length:Int);omega
        · show n3=(Bg.nv (c.take (1:Int).toNat):Int);show n3=(Bg.nv (c.take 1):Int);rw [hst1,hn3,hn2];omega
        show n3 < 9223372036854775808 * 2;omega
      show ((c.length:Int)-(1:Int)).toNat < ((c.length:Int)-k0).toNat;omega
    · refine V.alt (fun (zz:Int)=>(⟨[(1,pp ((G1 0).b) 0),(4,.int .u64 u),(17,e.v),(18,iv (c.length:Int)),(19,iv zz),(20,bv (decide (k0 < (c.length:Int))))],[fs false c e],[.blk ((G1 0).b) (ca (DBig.mk d ⟨c,e⟩)) 31]⟩:St)) hcs2 [0] (by kernel_rfl) ?_;refine nm (c.getD (1:Int).toNat default:Int) fun v2 hv2=>?_;refine V.g [.k (iv 1),.ix g0 (kf false (.f 0) c (fun _=>e)) 1 (fun _=>⟨by omega,by omega⟩),.le g0 (kf false (.f 0) c (fun _=>e)) (1:Int) none false v2 hv2 (fun _=>⟨by omega,by omega⟩) false (fun _=>[iv v2]),.k (iv 1),.k (iv v2)] fun _ _ G11=>?_;intro S s
      refine V.g [.k (iv 1),.kb false,.kb false,.dead,.dead,.kb false] fun _ _ G12=>?_;intro S s
      refine V.condF (by kernel_rfl) ?_;have huc:u=(Bg.nv (c.take 1):Int):=by rw [hf3,hcs2];rfl
      have hlt:=Bg.take_lt hRt.dg 1;have hst:=Bg.int_step (k:=1) (v:=v2) (by omega) hv2 hRt.dg;have hpw:(1048576:Nat) ^ 1=1048576:=by decide
      rw [hpw] at hst hlt;have hst0:=hst.2;have hst1:Bg.nv (c.take 2)=_:=hst.1;refine nm (v2 % 18446744073709551616:Int) fun n4 hn4=>?_;refine nm (n4 * 1048576:Int) fun n5 hn5=>?_;refine nm (u+n5:Int) fun n6 hn6=>?_;refine V.g [.k (.int .u64 u),.k (iv v2),.ek g0 .u64 v2 n4 (fun _=>by rw [wrapU64,hn4]),.k (iv 1),.k (iv 20),.shlm g0 .u64 .i64 n4 20 n5 20 (fun _=>⟨rfl,by decide,by show _=IntKind.u64.wrap (n4 * 1048576);rw [wrapU64];omega⟩),.oru g0 u n5 n4 n6 20 (by rw [hn5];rfl) (fun _=>⟨by decide,by omega,⟨by omega,by show _ < (1048576:Int);omega⟩,by rw [hn6,hn5];show _=_ * (1048576:Int)+_;omega,by omega⟩),.k (.int .u64 n6)] fun _ _ G13=>?_;intro S s
      refine V.g [.k (iv 2),.k (iv 2)] fun _ _ G14=>?_;intro S s
      refine V.rnd hZ1 (n6,2) [0] (by kernel_rfl) ?_ ?_
      · refine ⟨?_,?_,?_,?_⟩
        · show 0≤(2:Int);omega
        · show (2:Int)≤(c.length:Int);omega
        · show n6=(Bg.nv (c.take (2:Int).toNat):Int);show n6=(Bg.nv (c.take 2):Int);rw [hst1,hn6,hn5];omega
        show n6 < 9223372036854775808 * 2;omega
      show ((c.length:Int)-(2:Int)).toNat < ((c.length:Int)-k0).toNat;omega
    · refine V.alt (fun (zz:Int)=>(⟨[(1,pp ((G1 0).b) 0),(4,.int .u64 u),(17,e.v),(18,iv (c.length:Int)),(19,iv zz),(20,bv (decide (k0 < (c.length:Int))))],[fs false c e],[.blk ((G1 0).b) (ca (DBig.mk d ⟨c,e⟩)) 31]⟩:St)) hcs3 [0] (by kernel_rfl) ?_;refine nm (c.getD (2:Int).toNat default:Int) fun v3 hv3=>?_;refine V.g [.k (iv 2),.ix g0 (kf false (.f 0) c (fun _=>e)) 2 (fun _=>⟨by omega,by omega⟩),.le g0 (kf false (.f 0) c (fun _=>e)) (2:Int) none false v3 hv3 (fun _=>⟨by omega,by omega⟩) false (fun _=>[iv v3]),.k (iv 2),.k (iv v3)] fun _ _ G15=>?_;intro S s
      refine V.g [.k (iv 2),.kb false,.kb false,.dead,.dead,.kb false] fun _ _ G16=>?_;intro S s
      refine V.condF (by kernel_rfl) ?_;have huc:u=(Bg.nv (c.take 2):Int):=by rw [hf3,hcs3];rfl
      have hlt:=Bg.take_lt hRt.dg 2;have hst:=Bg.int_step (k:=2) (v:=v3) (by omega) hv3 hRt.dg;have hpw:(1048576:Nat) ^ 2=1099511627776:=by decide
      rw [hpw] at hst hlt;have hst0:=hst.2;have hst1:Bg.nv (c.take 3)=_:=hst.1;refine nm (v3 % 18446744073709551616:Int) fun n7 hn7=>?_;refine nm (n7 * 1099511627776:Int) fun n8 hn8=>?_;refine nm (u+n8:Int) fun n9 hn9=>?_;refine V.g [.k (.int .u64 u),.k (iv v3),.ek g0 .u64 v3 n7 (fun _=>by rw [wrapU64,hn7]),.k (iv 2),.k (iv 40),.shlm g0 .u64 .i64 n7 40 n8 40 (fun _=>⟨rfl,by decide,by show _=IntKind.u64.wrap (n7 * 1099511627776);rw [wrapU64];omega⟩),.oru g0 u n8 n7 n9 40 (by rw [hn8];rfl) (fun _=>⟨by decide,by omega,⟨by omega,by show _ < (1099511627776:Int);omega⟩,by rw [hn9,hn8];show _=_ * (1099511627776:Int)+_;omega,by omega⟩),.k (.int .u64 n9)] fun _ _ G17=>?_;intro S s
      refine V.g [.k (iv 3),.k (iv 3)] fun _ _ G18=>?_;intro S s
      refine V.rnd hZ1 (n9,3) [0] (by kernel_rfl) ?_ ?_
      · refine ⟨?_,?_,?_,?_⟩
        · show 0≤(3:Int);omega
        · show (3:Int)≤(c.length:Int);omega
        · show n9=(Bg.nv (c.take (3:Int).toNat):Int);show n9=(Bg.nv (c.take 3):Int);rw [hst1,hn9,hn8];omega
        show n9 < 9223372036854775808 * 2;omega
      show ((c.length:Int)-(3:Int)).toNat < ((c.length:Int)-k0).toNat;omega
    refine V.alt (fun (zz:Int)=>(⟨[(1,pp ((G1 0).b) 0),(4,.int .u64 u),(17,e.v),(18,iv (c.length:Int)),(19,iv zz),(20,bv (decide (k0 < (c.length:Int))))],[fs false c e],[.blk ((G1 0).b) (ca (DBig.mk d ⟨c,e⟩)) 31]⟩:St)) hcs4 [0] (by kernel_rfl) ?_;refine nm (c.getD (3:Int).toNat default:Int) fun v4 hv4=>?_;refine V.g [.k (iv 3),.ix g0 (kf false (.f 0) c (fun _=>e)) 3 (fun _=>⟨by omega,by omega⟩),.le g0 (kf false (.f 0) c (fun _=>e)) (3:Int) none false v4 hv4 (fun _=>⟨by omega,by omega⟩) false (fun _=>[iv v4]),.k (iv 3),.k (iv v4)] fun _ _ G19=>?_;intro S s
    refine V.g [.k (iv 3),.kb true,.kb true,.k (iv v4),.k (bv (decide (8 < v4))),.k (bv (decide (8 < v4)))] fun _ _ G20=>?_;intro S s
    refine V.cn (b:=decide (8 < v4)) iDT iDF (fun q5=>?_) (fun q6=>?_)
    · have hNo:=Bg.int_top hRt (by omega) hv4 (by omega);refine V.g [.k (iv 0),.kb false] fun _ _ G21=>?_;intro S s
      have e0:(0:Int)=Bg.intV d c:=(Bg.intV_n hNo).symm;have e1:false=decide (Bg.inI d c):=(decide_eq_false hNo).symm;exact V.rt [0,0] [] [] [] [] [] (.tuple #[iv 0,bv false]) (cong2 (fun (x0:Int) (x1:Bool)=>(.tuple #[iv x0,bv x1]:Value)) e0 e1)
    have huc:u=(Bg.nv (c.take 3):Int):=by rw [hf3,hcs4];rfl
    have hlt:=Bg.take_lt hRt.dg 3;have hst:=Bg.int_step (k:=3) (v:=v4) (by omega) hv4 hRt.dg;have hpw:(1048576:Nat) ^ 3=1152921504606846976:=by decide
    rw [hpw] at hst hlt;have hst0:=hst.2;have hst1:Bg.nv (c.take 4)=_:=hst.1;refine nm (v4 % 18446744073709551616:Int) fun n10 hn10=>?_;refine nm (n10 * 1152921504606846976:Int) fun n11 hn11=>?_;refine nm (u+n11:Int) fun n12 hn12=>?_;refine V.g [.k (.int .u64 u),.k (iv v4),.ek g0 .u64 v4 n10 (fun _=>by rw [wrapU64,hn10]),.k (iv 3),.k (iv 60),.shlm g0 .u64 .i64 n10 60 n11 60 (fun _=>⟨rfl,by decide,by show _=IntKind.u64.wrap (n10 * 1152921504606846976);rw [wrapU64];omega⟩),.oru g0 u n11 n10 n12 60 (by rw [hn11];rfl) (fun _=>⟨by decide,by omega,⟨by omega,by show _ < (1152921504606846976:Int);omega⟩,by rw [hn12,hn11];show _=_ * (1152921504606846976:Int)+_;omega,by omega⟩),.k (.int .u64 n12)] fun _ _ G22=>?_;intro S s
    refine V.g [.k (iv 4),.k (iv 4)] fun _ _ G23=>?_;intro S s
    refine V.rnd hZ1 (n12,4) [0] (by kernel_rfl) ?_ ?_
    · refine ⟨?_,?_,?_,?_⟩
      · show 0≤(4:Int);omega
      · show (4:Int)≤(c.length:Int);omega
      · show n12=(Bg.nv (c.take (4:Int).toNat):Int);show n12=(Bg.nv (c.take 4):Int);rw [hst1,hn12,hn11];omega
      show n12 < 9223372036854775808 * 2;omega
    show ((c.length:Int)-(4:Int)).toNat < ((c.length:Int)-k0).toNat;omega
  have hall:u=(Bg.nv c:Int):=by rw [hf3,List.take_of_length_le (by omega)]
  refine nm ((decide (d < 0)) && (decide (u≤9223372036854775808)):Bool) fun p2 hp2=>?_;refine V.g [.k (pp ((G1 0).b) 0),.ld 0 0 false (fun _=>[iv d]),.k (bv (decide (d < 0))),.k (bv (decide (d < 0))),.k (.int .u64 u),.k (bv (decide (u≤9223372036854775808))),.andn g0 false (decide (d < 0)) (decide (u≤9223372036854775808)) p2 hp2,.k (bv p2)] fun _ _ G24=>?_;intro S s
  refine V.cn (b:=p2) (iN hp2 (iAT iDT iDT)) (iN hp2 (iAF iDF iDF)) (fun q7=>?_) (fun q8=>?_)
  · have hYes:Bg.inI d c:=⟨hRt,by omega⟩;refine nm ((0-u) % 18446744073709551616:Int) fun n13 hn13=>?_;refine V.g [.k (.int .u64 u),.ek g0 .u64 (0-u) n13 (fun _=>by rw [wrapU64,hn13]),.ek g0 .i64 n13 (-u) (fun _=>by rw [IntKind.wrap_i64];omega),.k (iv (-u)),.kb true] fun _ _ G25=>?_;intro S s
    have e0:(-u)=Bg.intV d c:=by rw [Bg.intV_y hYes];omega
    have e1:true=decide (Bg.inI d c):=(decide_eq_true hYes).symm;exact V.rt [0,0] [] [] [] [] [] (.tuple #[iv (-u),bv true]) (cong2 (fun (x0:Int) (x1:Bool)=>(.tuple #[iv x0,bv x1]:Value)) e0 e1)
  refine nm ((decide (0≤d)) && (decide (u < 9223372036854775808)):Bool) fun p3 hp3=>?_;refine V.g [.k (pp ((G1 0).b) 0),.ld 0 0 false (fun _=>[iv d]),.k (bv (decide (0≤d))),.k (bv (decide (0≤d))),.k (.int .u64 u),.k (bv (decide (u < 9223372036854775808))),.andn g0 false (decide (0≤d)) (decide (u < 9223372036854775808)) p3 hp3,.k (bv p3)] fun _ _ G26=>?_;intro S s
  refine V.cn (b:=p3) (iN hp3 (iAT iDT iDT)) (iN hp3 (iAF iDF iDF)) (fun q9=>?_) (fun q10=>?_)
  · have hYes:Bg.inI d c:=⟨hRt,by omega⟩;refine V.g [.k (.int .u64 u),.ek g0 .i64 u u (fun _=>by rw [IntKind.wrap_i64];omega),.k (iv u),.kb true] fun _ _ G27=>?_;intro S s
    have e0:u=Bg.intV d c:=by rw [Bg.intV_y hYes];omega
    have e1:true=decide (Bg.inI d c):=(decide_eq_true hYes).symm;exact V.rt [0,0] [] [] [] [] [] (.tuple #[iv u,bv true]) (cong2 (fun (x0:Int) (x1:Bool)=>(.tuple #[iv x0,bv x1]:Value)) e0 e1)
  have hNo:¬ Bg.inI d c:=fun hi=>by have:=hi.2;omega
  refine V.g [.k (iv 0),.kb false] fun _ _ G28=>?_;intro S s
  have e0:(0:Int)=Bg.intV d c:=(Bg.intV_n hNo).symm;have e1:false=decide (Bg.inI d c):=(decide_eq_false hNo).symm;exact V.rt [0,0] [] [] [] [] [] (.tuple #[iv 0,bv false]) (cong2 (fun (x0:Int) (x1:Bool)=>(.tuple #[iv x0,bv x1]:Value)) e0 e1)
theorem int_ctv (b:Int) (a:List Int) (c:SV) (rv0:Int) (erv0:rv0=Bg.intV b a) :
    Cp Try.prog 44 #[ag (DBig.mk b ⟨a,c⟩)] [fs true a c] (.tuple #[iv rv0,bv (decide (Bg.inI b a))]):=by
  subst erv0;exact int_ct b a c 

open Go Go.Proofs
set_option maxRecDepth 10000 in
theorem cmpd_ct (a:List Int) (as_:SV) (b:List Int) (bs:SV) (hda:Bg.Dg a) (hdb:Bg.Dg b) (hza:Bg.Nz a) (hzb:Bg.Nz b) :
    Cp Try.prog 84 #[as_.v,bs.v] [fs true a as_,fs true b bs] (iv (Bg.cmpI (Bg.nv a) (Bg.nv b))):=by
  refine V.fn mo Try.func84 41 0 (by kernel_rfl) fun w H ε k0=>?_;obtain ⟨⟨kl1, -⟩,⟨kl2, -⟩, -⟩:Lq a as_.v∧Lq b bs.v∧True:=kq k0
  clear k0;refine V.g [.k (iv 0)] fun _ _ G1=>?_;intro S s
  refine V.g [.k (as_.v),.ln (kf false (.f 0) a (fun _=>as_)),.k (bs.v),.ln (kf false (.f 1) b (fun _=>bs)),.k (bv (!(decide ((a.length:Int)=(b.length:Int)))))] fun _ _ G2=>?_;intro S s
  refine V.cn (b:=!(decide ((a.length:Int)=(b.length:Int)))) (iNT iDF) (iNF iDT) (fun q1=>?_) (fun q2=>?_)
  · refine V.g [.k (as_.v),.ln (kf false (.f 0) a (fun _=>as_)),.k (bs.v),.ln (kf false (.f 1) b (fun _=>bs)),.cp g0 4 101 [] (fun _ G=>cmp_ct (a.length:Int) (b.length:Int)),.k (iv (Bg.cmpI (a.length:Int) (b.length:Int)))] fun _ _ G3=>?_;intro S s
    have e0:(Bg.cmpI (a.length:Int) (b.length:Int))=Bg.cmpI (Bg.nv a) (Bg.nv b):=Bg.cmp_lens hda hdb hza hzb q1;exact V.rt [0] [] [] [] [] [] (iv (Bg.cmpI (a.length:Int) (b.length:Int))) (cong1 (fun (x0:Int)=>(iv x0:Value)) e0)
  refine nm ((a.length:Int)-1:Int) fun n1 hn1=>?_;refine V.g [.k (as_.v),.ln (kf false (.f 0) a (fun _=>as_)),.ar ((a.length:Int)-1) n1 hn1 (by omega) (by omega),.k (iv n1)] fun _ _ G4=>?_;intro S s
  refine V.loop (γ:=Int) (fun i=>⟨[(0,as_.v),(1,bs.v),(5,iv i)],[fs false a as_,fs false b bs],[]⟩) (fun i=>(-1≤i)∧(i < (a.length:Int))∧(a.drop (i+1).toNat=b.drop (i+1).toNat)) (fun i=>(i+1).toNat) n1 (by kernel_rfl) [0,1] (by kernel_rfl) ?_ ?_
  · refine ⟨?_,?_,?_⟩
    · show -1≤n1;omega
    · show n1 < (a.length:Int);omega
    show a.drop (n1+1).toNat=b.drop (n1+1).toNat;rw [List.drop_of_length_le (by omega),List.drop_of_length_le (by omega)]
  rintro i hF1 kw5 Z1 hZ1;have hF1:(-1≤i)∧(i < (a.length:Int))∧(a.drop (i+1).toNat=b.drop (i+1).toNat):=hF1;obtain ⟨hf1,hf2,hf3⟩:=hF1;clear kw5;refine V.g [.k (iv i),.k (bv (decide (0≤i)))] fun _ _ G5=>?_;intro S s;refine V.cn (b:=decide (0≤i)) iDT iDF (fun q3=>?_) (fun q4=>?_)
  · refine nm (a.getD i.toNat default:Int) fun v1 hv1=>?_;refine nm (b.getD i.toNat default:Int) fun v2 hv2=>?_;refine V.g [.k (as_.v),.k (iv i),.ix g0 (kf false (.f 0) a (fun _=>as_)) i (fun _=>⟨by omega,by omega⟩),.le g0 (kf false (.f 0) a (fun _=>as_)) i none false v1 hv1 (fun _=>⟨by omega,by omega⟩) false (fun _=>[iv v1]),.k (bs.v),.k (iv i),.ix g0 (kf false (.f 1) b (fun _=>bs)) i (fun _=>⟨by omega,by omega⟩),.le g0 (kf false (.f 1) b (fun _=>bs)) i none false v2 hv2 (fun _=>⟨by omega,by omega⟩) false (fun _=>[iv v2]),.k (bv (!(decide (v1=v2))))] fun _ _ G6=>?_;intro S s
    refine V.cn (b:=!(decide (v1=v2))) (iNT iDF) (iNF iDT) (fun q5=>?_) (fun q6=>?_)
    · refine V.g [.k (as_.v),.k (iv i),.ix g0 (kf false (.f 0) a (fun _=>as_)) i (fun _=>⟨by omega,by omega⟩),.le g0 (kf false (.f 0) a (fun _=>as_)) i none false v1 hv1 (fun _=>⟨by omega,by omega⟩) false (fun _=>[iv v1]),.k (bs.v),.k (iv i),.ix g0 (kf false (.f 1) b (fun _=>bs)) i (fun _=>⟨by omega,by omega⟩),.le g0 (kf false (.f 1) b (fun _=>bs)) i none false v2 hv2 (fun _=>⟨by omega,by omega⟩) false (fun _=>[iv v2]),.cp g0 8 101 [] (fun _ G=>cmp_ct v1 v2),.k (iv (Bg.cmpI v1 v2))] fun _ _ G7=>?_;intro S s
      have e0:(Bg.cmpI v1 v2)=Bg.cmpI (Bg.nv a) (Bg.nv b):=by rw [hv1,hv2];exact Bg.cmp_ne (i:=i.toNat) hda hdb (by omega) (by omega) (by rw [show i.toNat+1=(i+1).toNat by omega];exact hf3) (by have hne:=q5;rw [hv1,hv2] at hne;exact hne)
      exact V.rt [0] [] [] [] [] [] (iv (Bg.cmpI v1 v2)) (cong1 (fun (x0:Int)=>(iv x0:Value)) e0)
    refine V.g [.k (iv i),.a (i-1) (by omega) (by omega),.k (iv (i-1))] fun _ _ G8=>?_;intro S s
    refine V.rnd hZ1 (i-1) [0,1] (by kernel_rfl) ?_ ?_
    · refine ⟨?_,?_,?_⟩
      · show -1≤(i-1);omega
      · show (i-1) < (a.length:Int);omega
      show a.drop ((i-1)+1).toNat=b.drop ((i-1)+1).toNat;rw [show (i-1+1).toNat=i.toNat by omega];exact Bg.drop_eq (by omega) (by omega) (by rw [show i.toNat+1=(i+1).toNat by omega];exact hf3) (by have he:=q6;rw [hv1,hv2] at he;exact he)
    show ((i-1)+1).toNat < (i+1).toNat;omega
  refine V.g [.k (iv 0)] fun _ _ G9=>?_;intro S s
  have e0:(0:Int)=Bg.cmpI (Bg.nv a) (Bg.nv b):=by
    have hdr:=hf3;rw [show (i+1).toNat=0 by omega,List.drop_zero,List.drop_zero] at hdr;rw [hdr];unfold Bg.cmpI;rw [if_neg (by omega),if_pos rfl]
  exact V.rt [0] [] [] [] [] [] (iv 0) (cong1 (fun (x0:Int)=>(iv x0:Value)) e0)
theorem cmpd_ctv (a:List Int) (as_:SV) (b:List Int) (bs:SV) (hda:Bg.Dg a) (hdb:Bg.Dg b) (hza:Bg.Nz a) (hzb:Bg.Nz b) (rv0:Int) (erv0:rv0=Bg.cmpI (Bg.nv a) (Bg.nv b)) :
    Cp Try.prog 84 #[as_.v,bs.v] [fs true a as_,fs true b bs] (iv rv0):=by
  subst erv0;exact cmpd_ct a as_ b bs hda hdb hza hzb
set_option maxRecDepth 10000 in
theorem Cmp_ct (c:Int) (d:List Int) (j:SV) (e:Int) (i:List Int) (l:SV) :
    Cp Try.prog 87 #[ag (DBig.mk c ⟨d,j⟩),ag (DBig.mk e ⟨i,l⟩)] [fs true d j,fs true i l] (iv (if (Bg.RtB c d∧Bg.RtB e i) then Bg.cmpI (Bg.zv c d) (Bg.zv e i) else 0)):=by
  refine V.fn mo Try.func87 31 2 (by kernel_rfl) fun w H ε k0=>?_;obtain ⟨⟨kl1, -⟩,⟨kl2, -⟩, -⟩:Lq d j.v∧Lq i l.v∧True:=kq k0
  clear k0;refine V.g [.nb 0 0 (fun b=>pp b 0) 31 (fun _=>ca (DBig.mk c ⟨d,j⟩)),.nb 1 1 (fun b=>pp b 0) 31 (fun _=>ca (DBig.mk e ⟨i,l⟩)),.k (iv 0)] fun _ _ G1=>?_;intro S s
  refine nm ((!(decide (Bg.RtB c d))) || (!(decide (Bg.RtB e i))):Bool) fun p1 hp1=>?_;refine V.g [.ld 0 0 true (fun _=>Dat.cells (DBig.mk c ⟨d,j⟩)),.cp g0 1 51 [(kf false (.f 0) d (fun _=>j)).a] (fun _ G=>bright_ct c d j),.k (bv (!(decide (Bg.RtB c d)))),.k (bv (!(decide (Bg.RtB c d)))),.ld 1 0 true (fun _=>Dat.cells (DBig.mk e ⟨i,l⟩)),.cp (gF (b:=!(decide (Bg.RtB c d))) (iNF iDT)) 5 51 [(kf false (.f 1) i (fun _=>l)).a] (fun hg G=>bright_ct e i l),.k (bv (!(decide (Bg.RtB e i)))),.orn g0 false (!(decide (Bg.RtB c d))) (!(decide (Bg.RtB e i))) p1 hp1] fun _ _ G2=>?_;intro S s
  refine V.cn (b:=p1) (iN hp1 (iOT (iNT iDF) (iNT iDF))) (iN hp1 (iOF (iNF iDT) (iNF iDT))) (fun q1=>?_) (fun q2=>?_)
  · refine V.g [.k (iv 0)] fun _ _ G3=>?_;intro S s
    have e0:(0:Int)=if (Bg.RtB c d∧Bg.RtB e i) then Bg.cmpI (Bg.zv c d) (Bg.zv e i) else 0:=by symm;refine if_neg ?_;rintro ⟨h1,h2⟩;rcases q1 with h | h;exact h h1;exact h h2
    exact V.rt [0] [] [] [] [] [] (iv 0) (cong1 (fun (x0:Int)=>(iv x0:Value)) e0)
  have hRR:(Bg.RtB c d∧Bg.RtB e i):=by first | exact q2 | exact ⟨Decidable.not_not.1 (q2).1,Decidable.not_not.1 (q2).2⟩
  refine V.g [.k (pp ((G1 0).b) 0),.ld 0 0 false (fun _=>[iv c]),.k (pp ((G1 1).b) 0),.ld 1 0 false (fun _=>[iv e]),.k (bv (!(decide (c=e))))] fun _ _ G4=>?_;intro S s
  refine V.cn (b:=!(decide (c=e))) (iNT iDF) (iNF iDT) (fun q3=>?_) (fun q4=>?_)
  · refine V.g [.k (pp ((G1 0).b) 0),.ld 0 0 false (fun _=>[iv c]),.k (pp ((G1 1).b) 0),.ld 1 0 false (fun _=>[iv e]),.cp g0 4 101 [] (fun _ G=>cmp_ct c e),.k (iv (Bg.cmpI c e))] fun _ _ G5=>?_;intro S s
    have e0:(Bg.cmpI c e)=if (Bg.RtB c d∧Bg.RtB e i) then Bg.cmpI (Bg.zv c d) (Bg.zv e i) else 0:=by rw [if_pos hRR,← Bg.cmp_z hRR.1 hRR.2,if_neg q3]
    exact V.rt [0] [] [] [] [] [] (iv (Bg.cmpI c e)) (cong1 (fun (x0:Int)=>(iv x0:Value)) e0)
  have hsE:c=e:=by first | exact q4 | exact Decidable.not_not.1 q4
  have hcB:=Bg.cmpI_le (x:=(Bg.nv d:Int)) (y:=Bg.nv i);have hsB:=Bg.sg_le hRR.1;refine nm (c * (Bg.cmpI (Bg.nv d) (Bg.nv i)):Int) fun n1 hn1=>?_;refine V.g [.k (pp ((G1 0).b) 0),.ld 0 0 false (fun _=>[iv c]),.k (pp ((G1 0).b) 1),.ld 0 1 false (fun _=>[j.v]),.k (pp ((G1 1).b) 1),.ld 1 1 false (fun _=>[l.v]),.cp g0 6 84 [(kf false (.f 0) d (fun _=>j)).a,(kf false (.f 1) i (fun _=>l)).a] (fun _ G=>cmpd_ct d j i l hRR.1.dg hRR.2.dg hRR.1.nz hRR.2.nz),.ar (c * (Bg.cmpI (Bg.nv d) (Bg.nv i))) n1 hn1 (by rw [hn1];exact (Bg.mul1 hsB hcB).1) (by rw [hn1];exact (Bg.mul1 hsB hcB).2),.k (iv n1)] fun _ _ G6=>?_;intro S s
  have e0:n1=if (Bg.RtB c d∧Bg.RtB e i) then Bg.cmpI (Bg.zv c d) (Bg.zv e i) else 0:=by rw [if_pos hRR,← Bg.cmp_z hRR.1 hRR.2,if_pos hsE];first | rfl | assumption
  exact V.rt [0] [] [] [] [] [] (iv n1) (cong1 (fun (x0:Int)=>(iv x0:Value)) e0)
theorem Cmp_ctv (c:Int) (a:List Int) (e:SV) (d:Int) (b:List Int) (f:SV) (rv0:Int) (erv0:rv0=if (Bg.RtB c a∧Bg.RtB d b) then Bg.cmpI (Bg.zv c a) (Bg.zv d b) else 0) :
    Cp Try.prog 87 #[ag (DBig.mk c ⟨a,e⟩),ag (DBig.mk d ⟨b,f⟩)] [fs true a e,fs true b f] (iv rv0):=by
  subst erv0;exact Cmp_ct c a e d b f 
set_option maxRecDepth 10000 in
theorem neg_ct (d:Int) (c:List Int) (e:SV) (hcl:c.length≤1099511627776) :
    Ct Try.prog 76 #[ag (DBig.mk d ⟨c,e⟩)] [fs true c e] [] (fun g=>ag (DBig.mk (Bg.oS (Bg.RtB d c) (-Bg.zv d c)) ⟨Bg.oD (Bg.RtB d c) (-Bg.zv d c),(g.ss 0)⟩)) (fun g=>[fs true (Bg.oD (Bg.RtB d c) (-Bg.zv d c)) (g.ss 0)]) (fun g=>[]) (fun g=>[]):=by
  refine V.fn mo Try.func76 14 2 (by kernel_rfl) fun w H ε k0=>?_;obtain ⟨⟨kl1, -⟩, -⟩:Lq c e.v∧True:=kq k0
  clear k0;refine V.g [.nb 0 0 (fun b=>pp b 0) 31 (fun _=>ca (DBig.mk d ⟨c,e⟩)),.nb 1 1 (fun b=>pp b 0) 31 (fun _=>ca (DBig.mk 0 ⟨[],{}⟩))] fun _ _ G1=>?_;intro S s
  refine V.g [.ld 0 0 true (fun _=>Dat.cells (DBig.mk d ⟨c,e⟩)),.cp g0 1 51 [(kf false (.f 0) c (fun _=>e)).a] (fun _ G=>bright_ct d c e),.k (bv (!(decide (Bg.RtB d c))))] fun _ _ G2=>?_;intro S s
  refine V.cn (b:=!(decide (Bg.RtB d c))) (iNT iDF) (iNF iDT) (fun q1=>?_) (fun q2=>?_)
  · refine V.g [.k (ag (DBig.mk 0 ⟨[],{}⟩)),.st 1 (fun _=>.blk ((G1 1).b) (ca (DBig.mk 0 ⟨[],{}⟩)) 31)] fun _ _ G3=>?_;intro S s
    refine V.nilF (α:=Int) ?_;have e1:([]:List Int)=Bg.oD (Bg.RtB d c) (-Bg.zv d c):=(Bg.oD_n q1 _).symm;rw [←e1];have e0:(0:Int)=Bg.oS (Bg.RtB d c) (-Bg.zv d c):=(Bg.oS_n q1 _).symm;exact V.rt [1] [{}] [fun _=>{}] [] [1] [] (ag (DBig.mk 0 ⟨([]:List Int),{}⟩)) (cong1 (fun (x0:Int)=>(.agg #[iv x0,SV.v ({})]:Value)) e0)
  have hRt:Bg.RtB d c:=by first | exact q2 | exact Decidable.not_not.1 q2
  have hsB:=Bg.sg_le hRt;refine V.r [.k (pp ((G1 0).b) 0),.ld 0 0 false (fun _=>[iv d]),.ng d (-d) rfl (by omega) (by omega),.k (pp ((G1 0).b) 1),.ld 0 1 false (fun _=>[e.v]),.ct g0 5 63 false [] [] [(kf false (.f 0) c (fun _=>e)).a] (fun _ G=>clonef_ct c e (by omega)),.ctT g0 6 81 [(kf true (.g 5 0) c (fun G=>(G 5).ss 0)).a] (fun _ G=>signed_ct (-d) c ((G 5).ss 0) hRt.dg),.st 1 (fun G=>.blk ((G1 1).b) (ca (DBig.mk (Bg.sg0 (Bg.nv c) (-d)) ⟨Bg.dig (Bg.nv c),(G 6).ss 0⟩)) 31)] fun _ _ G4 kw4=>?_;intro S s
  obtain ⟨⟨kl2, -⟩,⟨kl3, -⟩, -⟩:Lq c (((G4 5).ss 0).v)∧Lq (Bg.dig (Bg.nv c)) (((G4 6).ss 0).v)∧True:=kq kw4;clear kw4;have e1:Bg.dig (Bg.nv c)=Bg.oD (Bg.RtB d c) (-Bg.zv d c):=by rw [Bg.oD_y hRt];exact Bg.neg_d hRt
  rw [←e1];have e0:(Bg.sg0 (Bg.nv c) (-d))=Bg.oS (Bg.RtB d c) (-Bg.zv d c):=by rw [Bg.oS_y hRt];exact Bg.neg_s hRt
  exact V.rt [1] [(G4 6).ss 0] [fun _=>{}] [] [2] [] (ag (DBig.mk (Bg.sg0 (Bg.nv c) (-d)) ⟨Bg.dig (Bg.nv c),(G4 6).ss 0⟩)) (cong1 (fun (x0:Int)=>(.agg #[iv x0,((G4 6).ss 0).v]:Value)) e0)
theorem neg_ctv (b:Int) (a:List Int) (c:SV) (hcl:a.length≤1099511627776) (rv0:Int) (erv0:rv0=Bg.oS (Bg.RtB b a) (-Bg.zv b a)) (rv1:List Int) (erv1:rv1=Bg.oD (Bg.RtB b a) (-Bg.zv b a)) :
    Ct Try.prog 76 #[ag (DBig.mk b ⟨a,c⟩)] [fs true a c] [] (fun g=>ag (DBig.mk rv0 ⟨rv1,(g.ss 0)⟩)) (fun g=>[fs true rv1 (g.ss 0)]) (fun g=>[]) (fun g=>[]):=by
  subst erv0 erv1;exact neg_ct b a c hcl

open Go Go.Proofs
set_option maxRecDepth 10000 in
theorem add_ct (a:List Int) (as_:SV) (b:List Int) (bs:SV) (hda:Bg.Dg a) (hdb:Bg.Dg b) (hla:a.length≤1099511627776) (hlb:b.length≤1099511627776) :
    Ct Try.prog 83 #[as_.v,bs.v] [fs true a as_,fs true b bs] [] (fun g=>((g.ss 0)).v) (fun g=>[fs true (Bg.dig (Bg.nv a+Bg.nv b)) (g.ss 0)]) (fun g=>[]) (fun g=>[]):=by
  refine V.fn mo Try.func83 55 1 (by kernel_rfl) fun w H ε k0=>?_;obtain ⟨⟨kl1, -⟩,⟨kl2, -⟩, -⟩:Lq a as_.v∧Lq b bs.v∧True:=kq k0
  clear k0;refine V.g [.k (.slice none 0 0)] fun _ _ G1=>?_;intro S_ s_
  refine V.g [.k (as_.v),.ln (kf false (.f 0) a (fun _=>as_)),.k (bs.v),.ln (kf false (.f 1) b (fun _=>bs)),.k (bv (decide ((a.length:Int) < (b.length:Int))))] fun _ _ G2=>?_;intro S_ s_
  refine V.cn (b:=decide ((a.length:Int) < (b.length:Int))) iDT iDF (fun q1=>?_) (fun q2=>?_)
  · refine V.g [.k (bs.v),.k (as_.v),.k (bs.v),.k (as_.v)] fun _ _ G3=>?_;intro S_ s_
    refine nm ((b.length:Int)+1:Int) fun n1 hn1=>?_;refine nm (List.replicate n1.toNat (0:Int):List Int) fun l1 hl1=>?_;have hl1n:=congrArg List.length hl1;try simp only [List.length_append,List.length_cons,List.length_nil,List.length_replicate,List.length_set,List.length_take,List.length_drop,List.length_map,List.length_reverse,List.length_range] at hl1n
    refine V.g [.k (bs.v),.ln (kf false (.f 1) b (fun _=>bs)),.ar ((b.length:Int)+1) n1 hn1 (by omega) (by omega),.mks 3 0 3 8 n1 l1 hl1 (by omega) (by omega) (by omega),.v fun G=>((G 3).s).v] fun _ _ G4=>?_;intro S_ s_
    refine V.g [.k (iv 0)] fun _ _ G5=>?_;intro S_ s_
    refine V.g [.k (bs.v),.ln (kf false (.f 1) b (fun _=>bs)),.k (iv 0)] fun _ _ G6=>?_;intro S_ s_
    refine V.loop (γ:=List Int × SV × Int × Int) (fun ⟨out,outs,carry,k0⟩=>⟨[(0,bs.v),(1,as_.v),(5,outs.v),(6,iv carry),(20,bs.v),(21,iv (b.length:Int)),(22,iv k0)],[fs false b bs,fs false a as_],[os true 3 out outs]⟩) (fun ⟨out,outs,carry,k0⟩=>(0≤k0)∧(k0≤(b.length:Int))∧(Bg.AddI b a out k0.toNat carry)) (fun ⟨out,outs,carry,k0⟩=>((b.length:Int)-k0).toNat) (l1,(G4 3).s,0,0) (by kernel_rfl) [1,0] (by kernel_rfl) ?_ ?_
    · refine ⟨?_,?_,?_⟩
      · show 0≤(0:Int)
        first | omega | rfl | (simp;done) | (subst_vars;simp;done)
      · show (0:Int)≤(b.length:Int)
        first | omega | rfl | (simp;done) | (subst_vars;simp;done)
      show Bg.AddI b a l1 (0:Int).toNat (0:Int);rw [hl1,show n1.toNat=b.length+1 by omega];exact Bg.add_start _ _
    rintro ⟨out,outs,carry,k0⟩ hF1 kw7 Z1 hZ1;have hF1:(0≤k0)∧(k0≤(b.length:Int))∧(Bg.AddI b a out k0.toNat carry):=hF1;obtain ⟨hf1,hf2,hf3⟩:=hF1;obtain ⟨-, -,⟨kl3, -⟩, -⟩:Lq b bs.v∧Lq a as_.v∧Lq out outs.v∧True:=kq kw7;clear kw7;have hol:=hf3.len;have hc0:=hf3.c0;have hda_:=hdb.get' k0.toNat;have hdb_:=hda.get' k0.toNat;refine V.g [.k (bv (decide (k0 < (b.length:Int))))] fun _ _ G7=>?_;intro S_ s_;refine V.cn (b:=decide (k0 < (b.length:Int))) iDT iDF (fun q3=>?_) (fun q4=>?_)
    · refine nm (b.getD k0.toNat default:Int) fun v1 hv1=>?_;refine V.g [.k (iv k0),.ix g0 (kf false (.f 0) b (fun _=>bs)) k0 (fun _=>⟨by omega,by omega⟩),.le g0 (kf false (.f 0) b (fun _=>bs)) k0 none false v1 hv1 (fun _=>⟨by omega,by omega⟩) false (fun _=>[iv v1]),.k (iv k0),.k (iv v1)] fun _ _ G8=>?_;intro S_ s_
      have e1:b.getD k0.toNat 0=v1:=hv1.symm;refine V.g [.k (iv carry),.k (iv v1),.a (carry+v1) (by omega) (by omega),.k (iv (carry+v1))] fun _ _ G9=>?_;intro S_ s_
      refine V.g [.k (iv k0),.k (as_.v),.ln (kf false (.f 1) a (fun _=>as_)),.k (bv (decide (k0 < (a.length:Int))))] fun _ _ G10=>?_;intro S_ s_
      refine V.cn (b:=decide (k0 < (a.length:Int))) iDT iDF (fun q5=>?_) (fun q6=>?_)
      · refine nm (a.getD k0.toNat default:Int) fun v2 hv2=>?_;refine nm (carry+v1+v2:Int) fun n2 hn2=>?_;have e2:a.getD k0.toNat 0=v2:=hv2.symm
        refine V.g [.k (iv (carry+v1)),.k (as_.v),.k (iv k0),.ix g0 (kf false (.f 1) a (fun _=>as_)) k0 (fun _=>⟨by omega,by omega⟩),.le g0 (kf false (.f 1) a (fun _=>as_)) k0 none false v2 hv2 (fun _=>⟨by omega,by omega⟩) false (fun _=>[iv v2]),.ar (carry+v1+v2) n2 hn2 (by omega) (by omega),.k (iv n2)] fun _ _ G11=>?_;intro S_ s_
        have hxx:n2=carry+b.getD k0.toNat 0+a.getD k0.toNat 0:=by omega
        refine nm (n2 % 1048576:Int) fun n3 hn3=>?_;refine nm (out.getD k0.toNat default:Int) fun v3 hv3=>?_;refine nm (out.set k0.toNat n3:List Int) fun l2 hl2=>?_;have hl2n:=congrArg List.length hl2;try simp only [List.length_append,List.length_cons,List.length_nil,List.length_replicate,List.length_set,List.length_take,List.length_drop,List.length_map,List.length_reverse,List.length_range] at hl2n
        refine V.g [.k (outs.v),.k (iv k0),.k (iv n2),.andm g0 n2 1048575 n3 20 (by decide) rfl (by rw [hn3];rfl),.ix g0 (ko true 3 0 out (fun _=>outs)) k0 (fun _=>⟨by omega,by omega⟩),.se g0 5 0 3 true out (fun _=>outs) k0 none v3 n3 hv3 true l2 hl2 (fun _=>⟨by omega,by omega⟩) (fun _=>rfl) [] (fun _ _ _ _=>trivial)] fun _ _ G12=>?_;intro S_ s_
        refine nm (n2 / 1048576:Int) fun n4 hn4=>?_;refine V.g [.k (iv n2),.shrm g0 .i64 .u64 n2 n4 20 (by decide) (by rw [hn4];rfl),.k (iv n4)] fun _ _ G13=>?_;intro S_ s_
        refine V.g [.a (k0+1) (by omega) (by omega),.k (iv (k0+1))] fun _ _ G14=>?_;intro S_ s_
        refine V.rnd hZ1 (l2,outs,n4,k0+1) [0,1] (by kernel_rfl) ?_ ?_
        · refine ⟨?_,?_,?_⟩
          · show 0≤(k0+1)
            first | omega | rfl | (simp;done) | (subst_vars;simp;done)
          · show (k0+1)≤(b.length:Int)
            first | omega | rfl | (simp;done) | (subst_vars;simp;done)
          show Bg.AddI b a l2 (k0+1).toNat n4;rw [hl2,hn3,hn4,show (k0+1).toNat=k0.toNat+1 by omega];exact Bg.add_step hf3 hdb hda (by omega) hxx
        show ((b.length:Int)-(k0+1)).toNat < ((b.length:Int)-k0).toNat;omega
      have e2:=Bg.getD_out (l:=a) (i:=k0.toNat) (by omega);have hxx:carry+v1=carry+b.getD k0.toNat 0+a.getD k0.toNat 0:=by omega
      refine nm ((carry+v1) % 1048576:Int) fun n5 hn5=>?_;refine nm (out.getD k0.toNat default:Int) fun v4 hv4=>?_;refine nm (out.set k0.toNat n5:List Int) fun l3 hl3=>?_;have hl3n:=congrArg List.length hl3;try simp only [List.length_append,List.length_cons,List.length_nil,List.length_replicate,List.length_set,List.length_take,List.length_drop,List.length_map,List.length_reverse,List.length_range] at hl3n
      refine V.g [.k (outs.v),.k (iv k0),.k (iv (carry+v1)),.andm g0 (carry+v1) 1048575 n5 20 (by decide) rfl (by rw [hn5];rfl),.ix g0 (ko true 3 0 out (fun _=>outs)) k0 (fun _=>⟨by omega,by omega⟩),.se g0 5 0 3 true out (fun _=>outs) k0 none v4 n5 hv4 true l3 hl3 (fun _=>⟨by omega,by omega⟩) (fun _=>rfl) [] (fun _ _ _ _=>trivial)] fun _ _ G15=>?_;intro S_ s_
      refine nm ((carry+v1) / 1048576:Int) fun n6 hn6=>?_;refine V.g [.k (iv (carry+v1)),.shrm g0 .i64 .u64 (carry+v1) n6 20 (by decide) (by rw [hn6];rfl),.k (iv n6)] fun _ _ G16=>?_;intro S_ s_
      refine V.g [.a (k0+1) (by omega) (by omega),.k (iv (k0+1))] fun _ _ G17=>?_;intro S_ s_
      refine V.rnd hZ1 (l3,outs,n6,k0+1) [0,1] (by kernel_rfl) ?_ ?_
      · refine ⟨?_,?_,?_⟩
        · show 0≤(k0+1)
          first | omega | rfl | (simp;done) | (subst_vars;simp;done)
        · show (k0+1)≤(b.length:Int)
          first | omega | rfl | (simp;done) | (subst_vars;simp;done)
        show Bg.AddI b a l3 (k0+1).toNat n6;rw [hl3,hn5,hn6,show (k0+1).toNat=k0.toNat+1 by omega];exact Bg.add_step hf3 hdb hda (by omega) hxx
      show ((b.length:Int)-(k0+1)).toNat < ((b.length:Int)-k0).toNat;omega
    have hkl:k0.toNat=b.length:=by omega
    have hen:=hf3;rw [hkl] at hen;obtain ⟨hen1,hen2⟩:=Bg.add_end hen (by omega);refine nm (out.getD (b.length:Int).toNat default:Int) fun v5 hv5=>?_;refine nm (out.set (b.length:Int).toNat carry:List Int) fun l4 hl4=>?_;have hl4n:=congrArg List.length hl4;try simp only [List.length_append,List.length_cons,List.length_nil,List.length_replicate,List.length_set,List.length_take,List.length_drop,List.length_map,List.length_reverse,List.length_range] at hl4n
    refine V.g [.k (outs.v),.k (bs.v),.ln (kf false (.f 0) b (fun _=>bs)),.k (iv carry),.ix g0 (ko true 3 0 out (fun _=>outs)) (b.length:Int) (fun _=>⟨by omega,by omega⟩),.se g0 5 0 3 true out (fun _=>outs) (b.length:Int) none v5 carry hv5 true l4 hl4 (fun _=>⟨by omega,by omega⟩) (fun _=>rfl) [] (fun _ _ _ _=>trivial)] fun _ _ G18=>?_;intro S_ s_
    have hl2e:l4=out.set b.length carry:=by rw [hl4];congr 1
    rw [←hl2e] at hen1 hen2;refine V.frz 0 true 3 l4 outs (by kernel_rfl) ?_;refine V.r [.k (outs.v),.ctT g0 1 100 [(kf true (.f 2) l4 (fun _=>outs)).a] (fun _ G=>trim_ct l4 outs hen1),.v fun G=>((G 1).ss 0).v] fun _ _ G19 kw20=>?_;intro S_ s_
    obtain ⟨⟨kl4, -⟩, -⟩:Lq (Bg.dig (Bg.nv l4)) (((G19 1).ss 0).v)∧True:=kq kw20;clear kw20;have e0:Bg.dig (Bg.nv l4)=Bg.dig (Bg.nv a+Bg.nv b):=by rw [hen2];rw [Nat.add_comm]
    rw [←e0];exact V.rs [0] [(G19 1).ss 0] [fun _=>{}] [] [3] [] (((G19 1).ss 0).v)
  refine nm ((a.length:Int)+1:Int) fun n7 hn7=>?_;refine nm (List.replicate n7.toNat (0:Int):List Int) fun l5 hl5=>?_;have hl5n:=congrArg List.length hl5;try simp only [List.length_append,List.length_cons,List.length_nil,List.length_replicate,List.length_set,List.length_take,List.length_drop,List.length_map,List.length_reverse,List.length_range] at hl5n
  refine V.g [.k (as_.v),.ln (kf false (.f 0) a (fun _=>as_)),.ar ((a.length:Int)+1) n7 hn7 (by omega) (by omega),.mks 3 0 3 8 n7 l5 hl5 (by omega) (by omega) (by omega),.v fun G=>((G 3).s).v] fun _ _ G20=>?_;intro S_ s_
  refine V.g [.k (iv 0)] fun _ _ G21=>?_;intro S_ s_
  refine V.g [.k (as_.v),.ln (kf false (.f 0) a (fun _=>as_)),.k (iv 0)] fun _ _ G22=>?_;intro S_ s_
  refine V.loop (γ:=List Int × SV × Int × Int) (fun ⟨out_1,out_1s,carry_1,k0_1⟩=>⟨[(0,as_.v),(1,bs.v),(5,out_1s.v),(6,iv carry_1),(20,as_.v),(21,iv (a.length:Int)),(22,iv k0_1)],[fs false a as_,fs false b bs],[os true 3 out_1 out_1s]⟩) (fun ⟨out_1,out_1s,carry_1,k0_1⟩=>(0≤k0_1)∧(k0_1≤(a.length:Int))∧(Bg.AddI a b out_1 k0_1.toNat carry_1)) (fun ⟨out_1,out_1s,carry_1,k0_1⟩=>((a.length:Int)-k0_1).toNat) (l5,(G20 3).s,0,0) (by kernel_rfl) [0,1] (by kernel_rfl) ?_ ?_
  · refine ⟨?_,?_,?_⟩
    · show 0≤(0:Int)
      first | omega | rfl | (simp;done) | (subst_vars;simp;done)
    · show (0:Int)≤(a.length:Int)
      first | omega | rfl | (simp;done) | (subst_vars;simp;done)
    show Bg.AddI a b l5 (0:Int).toNat (0:Int);rw [hl5,show n7.toNat=a.length+1 by omega];exact Bg.add_start _ _
  rintro ⟨out_1,out_1s,carry_1,k0_1⟩ hF2 kw24 Z2 hZ2;have hF2:(0≤k0_1)∧(k0_1≤(a.length:Int))∧(Bg.AddI a b out_1 k0_1.toNat carry_1):=hF2;obtain ⟨hf4,hf5,hf6⟩:=hF2;obtain ⟨-, -,⟨kl5, -⟩, -⟩:Lq a as_.v∧Lq b bs.v∧Lq out_1 out_1s.v∧True:=kq kw24;clear kw24;have hol:=hf6.len;have hc0:=hf6.c0;have hda_:=hda.get' k0_1.toNat;have hdb_:=hdb.get' k0_1.toNat;refine V.g [.k (bv (decide (k0_1 < (a.length:Int))))] fun _ _ G23=>?_;intro S_ s_;refine V.cn (b:=decide (k0_1 < (a.length:Int))) iDT iDF (fun q7=>?_) (fun q8=>?_)
  · refine nm (a.getD k0_1.toNat default:Int) fun v6 hv6=>?_;refine V.g [.k (iv k0_1),.ix g0 (kf false (.f 0) a (fun _=>as_)) k0_1 (fun _=>⟨by omega,by omega⟩),.le g0 (kf false (.f 0) a (fun _=>as_)) k0_1 none false v6 hv6 (fun _=>⟨by omega,by omega⟩) false (fun _=>[iv v6]),.k (iv k0_1),.k (iv v6)] fun _ _ G24=>?_;intro S_ s_
    have e1:a.getD k0_1.toNat 0=v6:=hv6.symm;refine V.g [.k (iv carry_1),.k (iv v6),.a (carry_1+v6) (by omega) (by omega),.k (iv (carry_1+v6))] fun _ _ G25=>?_;intro S_ s_
    refine V.g [.k (iv k0_1),.k (bs.v),.ln (kf false (.f 1) b (fun _=>bs)),.k (bv (decide (k0_1 < (b.length:Int))))] fun _ _ G26=>?_;intro S_ s_
    refine V.cn (b:=decide (k0_1 < (b.length:Int))) iDT iDF (fun q9=>?_) (fun q10=>?_)
    · refine nm (b.getD k0_1.toNat default:Int) fun v7 hv7=>?_;refine nm (carry_1+v6+v7:Int) fun n8 hn8=>?_;have e2:b.getD k0_1.toNat 0=v7:=hv7.symm
      refine V.g [.k (iv (carry_1+v6)),.k (bs.v),.k (iv k0_1),.ix g0 (kf false (.f 1) b (fun _=>bs)) k0_1 (fun _=>⟨by omega,by omega⟩),.le g0 (kf false (.f 1) b (fun _=>bs)) k0_1 none false v7 hv7 (fun _=>⟨by omega,by omega⟩) false (fun _=>[iv v7]),.ar (carry_1+v6+v7) n8 hn8 (by omega) (by omega),.k (iv n8)] fun _ _ G27=>?_;intro S_ s_
      have hxx:n8=carry_1+a.getD k0_1.toNat 0+b.getD k0_1.toNat 0:=by omega
      refine nm (n8 % 1048576:Int) fun n9 hn9=>?_;refine nm (out_1.getD k0_1.toNat default:Int) fun v8 hv8=>?_;refine nm (out_1.set k0_1.toNat n9:List Int) fun l6 hl6=>?_;have hl6n:=congrArg List.length hl6;try simp only [List.length_append,List.length_cons,List.length_nil,List.length_replicate,List.length_set,List.length_take,List.length_drop,List.length_map,List.length_reverse,List.length_range] at hl6n
      refine V.g [.k (out_1s.v),.k (iv k0_1),.k (iv n8),.andm g0 n8 1048575 n9 20 (by decide) rfl (by rw [hn9];rfl),.ix g0 (ko true 3 0 out_1 (fun _=>out_1s)) k0_1 (fun _=>⟨by omega,by omega⟩),.se g0 5 0 3 true out_1 (fun _=>out_1s) k0_1 none v8 n9 hv8 true l6 hl6 (fun _=>⟨by omega,by omega⟩) (fun _=>rfl) [] (fun _ _ _ _=>trivial)] fun _ _ G28=>?_;intro S_ s_
      refine nm (n8 / 1048576:Int) fun n10 hn10=>?_;refine V.g [.k (iv n8),.shrm g0 .i64 .u64 n8 n10 20 (by decide) (by rw [hn10];rfl),.k (iv n10)] fun _ _ G29=>?_;intro S_ s_
      refine V.g [.a (k0_1+1) (by omega) (by omega),.k (iv (k0_1+1))] fun _ _ G30=>?_;intro S_ s_
      refine V.rnd hZ2 (l6,out_1s,n10,k0_1+1) [0,1] (by kernel_rfl) ?_ ?_
      · refine ⟨?_,?_,?_⟩
        · show 0≤(k0_1+1)
          first | omega | rfl | (simp;done) | (subst_vars;simp;done)
        · show (k0_1+1)≤(a.length:Int)
          first | omega | rfl | (simp;done) | (subst_vars;simp;done)
        show Bg.AddI a b l6 (k0_1+1).toNat n10;rw [hl6,hn9,hn10,show (k0_1+1).toNat=k0_1.toNat+1 by omega];exact Bg.add_step hf6 hda hdb (by omega) hxx
      show ((a.length:Int)-(k0_1+1)).toNat < ((a.length:Int)-k0_1).toNat;omega
    have e2:=Bg.getD_out (l:=b) (i:=k0_1.toNat) (by omega);have hxx:carry_1+v6=carry_1+a.getD k0_1.toNat 0+b.getD k0_1.toNat 0:=by omega
    refine nm ((carry_1+v6) % 1048576:Int) fun n11 hn11=>?_;refine nm (out_1.getD k0_1.toNat default:Int) fun v9 hv9=>?_;refine nm (out_1.set k0_1.toNat n11:List Int) fun l7 hl7=>?_;have hl7n:=congrArg List.length hl7;try simp only [List.length_append,List.length_cons,List.length_nil,List.length_replicate,List.length_set,List.length_take,List.length_drop,List.length_map,List.length_reverse,List.length_range] at hl7n
    refine V.g [.k (out_1s.v),.k (iv k0_1),.k (iv (carry_1+v6)),.andm g0 (carry_1+v6) 1048575 n11 20 (by decide) rfl (by rw [hn11];rfl),.ix g0 (ko true 3 0 out_1 (fun _=>out_1s)) k0_1 (fun _=>⟨by omega,by omega⟩),.se g0 5 0 3 true out_1 (fun _=>out_1s) k0_1 none v9 n11 hv9 true l7 hl7 (fun _=>⟨by omega,by omega⟩) (fun _=>rfl) [] (fun _ _ _ _=>trivial)] fun _ _ G31=>?_;intro S_ s_
    refine nm ((carry_1+v6) / 1048576:Int) fun n12 hn12=>?_;refine V.g [.k (iv (carry_1+v6)),.shrm g0 .i64 .u64 (carry_1+v6) n12 20 (by decide) (by rw [hn12];rfl),.k (iv n12)] fun _ _ G32=>?_;intro S_ s_
    refine V.g [.a (k0_1+1) (by omega) (by omega),.k (iv (k0_1+1))] fun _ _ G33=>?_;intro S_ s_
    refine V.rnd hZ2 (l7,out_1s,n12,k0_1+1) [0,1] (by kernel_rfl) ?_ ?_
    · refine ⟨?_,?_,?_⟩
      · show 0≤(k0_1+1)
        first | omega | rfl | (simp;done) | (subst_vars;simp;done)
      · show (k0_1+1)≤(a.length:Int)
        first | omega | rfl | (simp;done) | (subst_vars;simp;done)
      show Bg.AddI a b l7 (k0_1+1).toNat n12;rw [hl7,hn11,hn12,show (k0_1+1).toNat=k0_1.toNat+1 by omega];exact Bg.add_step hf6 hda hdb (by omega) hxx
    show ((a.length:Int)-(k0_1+1)).toNat < ((a.length:Int)-k0_1).toNat;omega
  have hkl:k0_1.toNat=a.length:=by omega
  have hen:=hf6;rw [hkl] at hen;obtain ⟨hen1,hen2⟩:=Bg.add_end hen (by omega);refine nm (out_1.getD (a.length:Int).toNat default:Int) fun v10 hv10=>?_;refine nm (out_1.set (a.length:Int).toNat carry_1:List Int) fun l8 hl8=>?_;have hl8n:=congrArg List.length hl8;try simp only [List.length_append,List.length_cons,List.length_nil,List.length_replicate,List.length_set,List.length_take,List.length_drop,List.length_map,List.length_reverse,List.length_range] at hl8n
  refine V.g [.k (out_1s.v),.k (as_.v),.ln (kf false (.f 0) a (fun _=>as_)),.k (iv carry_1),.ix g0 (ko true 3 0 out_1 (fun _=>out_1s)) (a.length:Int) (fun _=>⟨by omega,by omega⟩),.se g0 5 0 3 true out_1 (fun _=>out_1s) (a.length:Int) none v10 carry_1 hv10 true l8 hl8 (fun _=>⟨by omega,by omega⟩) (fun _=>rfl) [] (fun _ _ _ _=>trivial)] fun _ _ G34=>?_;intro S_ s_
  have hl2e:l8=out_1.set a.length carry_1:=by rw [hl8];congr 1
  rw [←hl2e] at hen1 hen2;refine V.frz 0 true 3 l8 out_1s (by kernel_rfl) ?_;refine V.r [.k (out_1s.v),.ctT g0 1 100 [(kf true (.f 2) l8 (fun _=>out_1s)).a] (fun _ G=>trim_ct l8 out_1s hen1),.v fun G=>((G 1).ss 0).v] fun _ _ G35 kw37=>?_;intro S_ s_
  obtain ⟨⟨kl6, -⟩, -⟩:Lq (Bg.dig (Bg.nv l8)) (((G35 1).ss 0).v)∧True:=kq kw37;clear kw37;have e0:Bg.dig (Bg.nv l8)=Bg.dig (Bg.nv a+Bg.nv b):=by rw [hen2]
  rw [←e0];exact V.rs [0] [(G35 1).ss 0] [fun _=>{}] [] [3] [] (((G35 1).ss 0).v)
theorem add_ctv (a:List Int) (as_:SV) (b:List Int) (bs:SV) (hda:Bg.Dg a) (hdb:Bg.Dg b) (hla:a.length≤1099511627776) (hlb:b.length≤1099511627776) (rv0:List Int) (erv0:rv0=Bg.dig (Bg.nv a+Bg.nv b)) :
    Ct Try.prog 83 #[as_.v,bs.v] [fs true a as_,fs true b bs] [] (fun g=>((g.ss 0)).v) (fun g=>[fs true rv0 (g.ss 0)]) (fun g=>[]) (fun g=>[]):=by
  subst erv0;exact add_ct a as_ b bs hda hdb hla hlb
set_option maxRecDepth 10000 in
theorem sub_ct (a:List Int) (as_:SV) (b:List Int) (bs:SV) (hda:Bg.Dg a) (hdb:Bg.Dg b) (hla:a.length≤1099511627776) (hlb:b.length≤1099511627776) (hzb:Bg.Nz b) (hle:Bg.nv b≤Bg.nv a) :
    Ct Try.prog 85 #[as_.v,bs.v] [fs true a as_,fs true b bs] [] (fun g=>((g.ss 0)).v) (fun g=>[fs true (Bg.dig (Bg.nv a-Bg.nv b)) (g.ss 0)]) (fun g=>[]) (fun g=>[]):=by
  refine V.fn mo Try.func85 43 1 (by kernel_rfl) fun w H ε k0=>?_;obtain ⟨⟨kl1, -⟩,⟨kl2, -⟩, -⟩:Lq a as_.v∧Lq b bs.v∧True:=kq k0
  clear k0;refine V.g [.k (.slice none 0 0)] fun _ _ G1=>?_;intro S s
  refine V.g [.k (as_.v),.ct g0 1 63 false [] [0] [(kf false (.f 0) a (fun _=>as_)).a] (fun _ G=>clonei_ct a as_ (by omega)),.v fun G=>((G 1).ss 0).v] fun _ _ G2=>?_;intro S s
  refine V.g [.k (iv 0)] fun _ _ G3=>?_;intro S s
  refine V.g [.k (((G2 1).ss 0).v),.ln (ko true 3 0 a (fun _=>(G2 1).ss 0)),.k (iv 0)] fun _ _ G4=>?_;intro S s
  refine V.loop (γ:=List Int × SV × Int × Int) (fun ⟨out,outs,borrow,k0⟩=>⟨[(1,bs.v),(5,outs.v),(6,iv borrow),(12,iv (a.length:Int)),(13,iv k0)],[fs false b bs],[os true 3 out outs]⟩) (fun ⟨out,outs,borrow,k0⟩=>(0≤k0)∧(k0≤(a.length:Int))∧(Bg.SubI a b out k0.toNat borrow)) (fun ⟨out,outs,borrow,k0⟩=>((a.length:Int)-k0).toNat) (a,(G2 1).ss 0,0,0) (by kernel_rfl) [1] (by kernel_rfl) ?_ ?_
  · refine ⟨?_,?_,?_⟩
    · show 0≤(0:Int)
      first | omega | rfl | (simp;done) | (subst_vars;simp;done)
    · show (0:Int)≤(a.length:Int)
      first | omega | rfl | (simp;done) | (subst_vars;simp;done)
    show Bg.SubI a b a (0:Int).toNat (0:Int);exact Bg.sub_start _ _ hda
  rintro ⟨out,outs,borrow,k0⟩ hF1 kw5 Z1 hZ1;have hF1:(0≤k0)∧(k0≤(a.length:Int))∧(Bg.SubI a b out k0.toNat borrow):=hF1;obtain ⟨hf1,hf2,hf3⟩:=hF1;obtain ⟨-,⟨kl3, -⟩, -⟩:Lq b bs.v∧Lq out outs.v∧True:=kq kw5;clear kw5;have hol:=hf3.len;have hc0:=hf3.c0;have hda_:=hf3.dg.get' k0.toNat;have hdb_:=hdb.get' k0.toNat;refine V.g [.k (bv (decide (k0 < (a.length:Int))))] fun _ _ G5=>?_;intro S s;refine V.cn (b:=decide (k0 < (a.length:Int))) iDT iDF (fun q1=>?_) (fun q2=>?_)
  · refine V.g [.k (iv k0),.k (iv k0)] fun _ _ G6=>?_;intro S s
    refine nm (out.getD k0.toNat default:Int) fun v1 hv1=>?_;have e1:out.getD k0.toNat 0=v1:=hv1.symm
    refine V.g [.k (outs.v),.k (iv k0),.ix g0 (ko true 3 0 out (fun _=>outs)) k0 (fun _=>⟨by omega,by omega⟩),.le g0 (ko true 3 0 out (fun _=>outs)) k0 none false v1 hv1 (fun _=>⟨by omega,by omega⟩) false (fun _=>[iv v1]),.k (iv borrow),.a (v1-borrow) (by omega) (by omega),.k (iv (v1-borrow))] fun _ _ G7=>?_;intro S s
    refine V.g [.k (iv k0),.k (bs.v),.ln (kf false (.f 0) b (fun _=>bs)),.k (bv (decide (k0 < (b.length:Int))))] fun _ _ G8=>?_;intro S s
    refine V.cn (b:=decide (k0 < (b.length:Int))) iDT iDF (fun q3=>?_) (fun q4=>?_)
    · refine nm (b.getD k0.toNat default:Int) fun v2 hv2=>?_;refine nm (v1-borrow-v2:Int) fun n1 hn1=>?_;have e2:b.getD k0.toNat 0=v2:=hv2.symm
      refine V.g [.k (iv (v1-borrow)),.k (bs.v),.k (iv k0),.ix g0 (kf false (.f 0) b (fun _=>bs)) k0 (fun _=>⟨by omega,by omega⟩),.le g0 (kf false (.f 0) b (fun _=>bs)) k0 none false v2 hv2 (fun _=>⟨by omega,by omega⟩) false (fun _=>[iv v2]),.ar (v1-borrow-v2) n1 hn1 (by omega) (by omega),.k (iv n1)] fun _ _ G9=>?_;intro S s
      have hxx:n1=out.getD k0.toNat 0-borrow-b.getD k0.toNat 0:=by omega
      refine nm (n1 / 1048576:Int) fun n2 hn2=>?_;refine nm (n2 % 2:Int) fun n3 hn3=>?_;refine V.g [.k (iv n1),.shrm g0 .i64 .u64 n1 n2 20 (by decide) (by rw [hn2];rfl),.andm g0 n2 1 n3 1 (by decide) rfl (by rw [hn3];rfl),.k (iv n3)] fun _ _ G10=>?_;intro S s
      refine nm (n1 % 1048576:Int) fun n4 hn4=>?_;refine nm (out.set k0.toNat n4:List Int) fun l1 hl1=>?_;have hl1n:=congrArg List.length hl1;try simp only [List.length_append,List.length_cons,List.length_nil,List.length_replicate,List.length_set,List.length_take,List.length_drop,List.length_map,List.length_reverse,List.length_range] at hl1n
      refine V.g [.k (outs.v),.k (iv k0),.k (iv n1),.andm g0 n1 1048575 n4 20 (by decide) rfl (by rw [hn4];rfl),.ix g0 (ko true 3 0 out (fun _=>outs)) k0 (fun _=>⟨by omega,by omega⟩),.se g0 5 0 3 true out (fun _=>outs) k0 none v1 n4 hv1 true l1 hl1 (fun _=>⟨by omega,by omega⟩) (fun _=>rfl) [] (fun _ _ _ _=>trivial)] fun _ _ G11=>?_;intro S s
      refine V.g [.a (k0+1) (by omega) (by omega),.k (iv (k0+1))] fun _ _ G12=>?_;intro S s
      refine V.rnd hZ1 (l1,outs,n3,k0+1) [0] (by kernel_rfl) ?_ ?_
      · refine ⟨?_,?_,?_⟩
        · show 0≤(k0+1)
          first | omega | rfl | (simp;done) | (subst_vars;simp;done)
        · show (k0+1)≤(a.length:Int)
          first | omega | rfl | (simp;done) | (subst_vars;simp;done)
        show Bg.SubI a b l1 (k0+1).toNat n3;rw [hl1,hn4,hn3,hn2,show (k0+1).toNat=k0.toNat+1 by omega];exact Bg.sub_step hf3 hdb (by omega) hxx
      show ((a.length:Int)-(k0+1)).toNat < ((a.length:Int)-k0).toNat;omega
    have e2:=Bg.getD_out (l:=b) (i:=k0.toNat) (by omega);have hxx:v1-borrow=out.getD k0.toNat 0-borrow-b.getD k0.toNat 0:=by omega
    refine nm ((v1-borrow) / 1048576:Int) fun n5 hn5=>?_;refine nm (n5 % 2:Int) fun n6 hn6=>?_;refine V.g [.k (iv (v1-borrow)),.shrm g0 .i64 .u64 (v1-borrow) n5 20 (by decide) (by rw [hn5];rfl),.andm g0 n5 1 n6 1 (by decide) rfl (by rw [hn6];rfl),.k (iv n6)] fun _ _ G13=>?_;intro S s
    refine nm ((v1-borrow) % 1048576:Int) fun n7 hn7=>?_;refine nm (out.set k0.toNat n7:List Int) fun l2 hl2=>?_;have hl2n:=congrArg List.length hl2;try simp only [List.length_append,List.length_cons,List.length_nil,List.length_replicate,List.length_set,List.length_take,List.length_drop,List.length_map,List.length_reverse,List.length_range] at hl2n
    refine V.g [.k (outs.v),.k (iv k0),.k (iv (v1-borrow)),.andm g0 (v1-borrow) 1048575 n7 20 (by decide) rfl (by rw [hn7];rfl),.ix g0 (ko true 3 0 out (fun _=>outs)) k0 (fun _=>⟨by omega,by omega⟩),.se g0 5 0 3 true out (fun _=>outs) k0 none v1 n7 hv1 true l2 hl2 (fun _=>⟨by omega,by omega⟩) (fun _=>rfl) [] (fun _ _ _ _=>trivial)] fun _ _ G14=>?_;intro S s
    refine V.g [.a (k0+1) (by omega) (by omega),.k (iv (k0+1))] fun _ _ G15=>?_;intro S s
    refine V.rnd hZ1 (l2,outs,n6,k0+1) [0] (by kernel_rfl) ?_ ?_
    · refine ⟨?_,?_,?_⟩
      · show 0≤(k0+1)
        first | omega | rfl | (simp;done) | (subst_vars;simp;done)
      · show (k0+1)≤(a.length:Int)
        first | omega | rfl | (simp;done) | (subst_vars;simp;done)
      show Bg.SubI a b l2 (k0+1).toNat n6;rw [hl2,hn7,hn6,hn5,show (k0+1).toNat=k0.toNat+1 by omega];exact Bg.sub_step hf3 hdb (by omega) hxx
    show ((a.length:Int)-(k0+1)).toNat < ((a.length:Int)-k0).toNat;omega
  have hen:=hf3;rw [show k0.toNat=a.length by omega] at hen;have hse:=Bg.sub_end hen (Bg.len_le hda hdb hzb hle) hle;have hsd:=hen.dg;refine V.frz 0 true 3 out outs (by kernel_rfl) ?_;refine V.r [.k (outs.v),.ctT g0 1 100 [(kf true (.f 1) out (fun _=>outs)).a] (fun _ G=>trim_ct out outs hsd),.v fun G=>((G 1).ss 0).v] fun _ _ G16 kw17=>?_;intro S s
  obtain ⟨⟨kl4, -⟩, -⟩:Lq (Bg.dig (Bg.nv out)) (((G16 1).ss 0).v)∧True:=kq kw17;clear kw17;have e0:Bg.dig (Bg.nv out)=Bg.dig (Bg.nv a-Bg.nv b):=by rw [hse]
  rw [←e0];exact V.rs [0] [(G16 1).ss 0] [fun _=>{}] [] [2] [] (((G16 1).ss 0).v)
theorem sub_ctv (a:List Int) (as_:SV) (b:List Int) (bs:SV) (hda:Bg.Dg a) (hdb:Bg.Dg b) (hla:a.length≤1099511627776) (hlb:b.length≤1099511627776) (hzb:Bg.Nz b) (hle:Bg.nv b≤Bg.nv a) (rv0:List Int) (erv0:rv0=Bg.dig (Bg.nv a - Bg.nv b)) :
    Ct Try.prog 85 #[as_.v,bs.v] [fs true a as_,fs true b bs] [] (fun g=>((g.ss 0)).v) (fun g=>[fs true rv0 (g.ss 0)]) (fun g=>[]) (fun g=>[]):=by
  subst erv0;exact sub_ct a as_ b bs hda hdb hla hlb hzb hle

open Go Go.Proofs
set_option maxRecDepth 10000 in
theorem mulo_ct (a:List Int) (as_:SV) (b:List Int) (bs:SV) (hda:Bg.Dg a) (hdb:Bg.Dg b) (hla:a.length≤1099511627776) (hlb:b.length≤1099511627776) :
    Ct Try.prog 99 #[as_.v,bs.v] [fs true a as_,fs true b bs] [] (fun g=>((g.ss 0)).v) (fun g=>[]) (fun g=>[os true 3 (Bg.dig (Bg.nv a * Bg.nv b)) (g.ss 0)]) (fun g=>[]):=by
  refine V.fn mo Try.func99 67 1 (by kernel_rfl) fun w H ε k0=>?_;obtain ⟨⟨kl1, -⟩,⟨kl2, -⟩, -⟩:Lq a as_.v∧Lq b bs.v∧True:=kq k0
  clear k0;refine V.g [.k (.slice none 0 0)] fun _ _ G1=>?_;intro S_ s_
  refine nm ((a.length:Int)+(b.length:Int):Int) fun n1 hn1=>?_;refine nm (List.replicate n1.toNat (0:Int):List Int) fun l1 hl1=>?_;have hl1n:=congrArg List.length hl1;try simp only [List.length_append,List.length_cons,List.length_nil,List.length_replicate,List.length_set,List.length_take,List.length_drop,List.length_map,List.length_reverse,List.length_range] at hl1n
  refine V.g [.k (as_.v),.ln (kf false (.f 0) a (fun _=>as_)),.k (bs.v),.ln (kf false (.f 1) b (fun _=>bs)),.ar ((a.length:Int)+(b.length:Int)) n1 hn1 (by omega) (by omega),.mks 5 0 3 8 n1 l1 hl1 (by omega) (by omega) (by omega),.v fun G=>((G 5).s).v] fun _ _ G2=>?_;intro S_ s_
  refine V.g [.k (as_.v),.ln (kf false (.f 0) a (fun _=>as_)),.k (iv 0)] fun _ _ G3=>?_;intro S_ s_
  refine V.loop (γ:=List Int × SV × Int) (fun ⟨out,outs,k0⟩=>⟨[(1,bs.v),(5,outs.v),(18,as_.v),(19,iv (a.length:Int)),(20,iv k0)],[fs false b bs,fs false a as_],[os true 3 out outs]⟩) (fun ⟨out,outs,k0⟩=>(0≤k0)∧(k0≤(a.length:Int))∧(Bg.MulO a b out k0.toNat)) (fun ⟨out,outs,k0⟩=>((a.length:Int)-k0).toNat) (l1,(G2 5).s,0) (by kernel_rfl) [1,0] (by kernel_rfl) ?_ ?_
  · refine ⟨?_,?_,?_⟩
    · show 0≤(0:Int)
      first | omega | rfl | (simp;done) | (subst_vars;simp;done)
    · show (0:Int)≤(a.length:Int)
      first | omega | rfl | (simp;done) | (subst_vars;simp;done)
    show Bg.MulO a b l1 (0:Int).toNat;rw [hl1,show n1.toNat=a.length+b.length by omega];exact Bg.mul_start _ _
  rintro ⟨out,outs,k0⟩ hF1 kw4 Z1 hZ1;have hF1:(0≤k0)∧(k0≤(a.length:Int))∧(Bg.MulO a b out k0.toNat):=hF1;obtain ⟨hf1,hf2,hf3⟩:=hF1;obtain ⟨-, -,⟨kl3, -⟩, -⟩:Lq b bs.v∧Lq a as_.v∧Lq out outs.v∧True:=kq kw4;clear kw4;have hol:=hf3.len;refine V.g [.k (bv (decide (k0 < (a.length:Int))))] fun _ _ G4=>?_;intro S_ s_;refine V.cn (b:=decide (k0 < (a.length:Int))) iDT iDF (fun q1=>?_) (fun q2=>?_)
  · refine nm (a.getD k0.toNat default:Int) fun v1 hv1=>?_;refine V.g [.k (iv k0),.ix g0 (kf false (.f 1) a (fun _=>as_)) k0 (fun _=>⟨by omega,by omega⟩),.le g0 (kf false (.f 1) a (fun _=>as_)) k0 none false v1 hv1 (fun _=>⟨by omega,by omega⟩) false (fun _=>[iv v1]),.k (iv k0),.k (iv v1)] fun _ _ G5=>?_;intro S_ s_
    refine V.g [.k (iv 0)] fun _ _ G6=>?_;intro S_ s_
    refine V.g [.k (bs.v),.ln (kf false (.f 0) b (fun _=>bs)),.k (iv 0)] fun _ _ G7=>?_;intro S_ s_
    refine V.loop (γ:=List Int × SV × Int × Int) (fun ⟨out_1,out_1s,carry,k1⟩=>⟨[(1,bs.v),(5,out_1s.v),(6,iv k0),(7,iv v1),(8,iv carry),(18,as_.v),(19,iv (a.length:Int)),(20,iv k0),(25,bs.v),(26,iv (b.length:Int)),(27,iv k1)],[fs false b bs,fs false a as_],[os true 3 out_1 out_1s]⟩) (fun ⟨out_1,out_1s,carry,k1⟩=>(0≤k1)∧(k1≤(b.length:Int))∧(Bg.MulI a b out_1 k0.toNat k1.toNat carry)) (fun ⟨out_1,out_1s,carry,k1⟩=>((b.length:Int)-k1).toNat) (out,outs,0,0) (by kernel_rfl) [0,1] (by kernel_rfl) ?_ ?_
    · refine ⟨?_,?_,?_⟩
      · show 0≤(0:Int)
        first | omega | rfl | (simp;done) | (subst_vars;simp;done)
      · show (0:Int)≤(b.length:Int)
        first | omega | rfl | (simp;done) | (subst_vars;simp;done)
      show Bg.MulI a b out k0.toNat (0:Int).toNat (0:Int);exact Bg.MulO.inner hf3
    rintro ⟨out_1,out_1s,carry,k1⟩ hF2 kw9 Z2 hZ2;have hF2:(0≤k1)∧(k1≤(b.length:Int))∧(Bg.MulI a b out_1 k0.toNat k1.toNat carry):=hF2;obtain ⟨hf4,hf5,hf6⟩:=hF2;obtain ⟨-, -,⟨kl4, -⟩, -⟩:Lq b bs.v∧Lq a as_.v∧Lq out_1 out_1s.v∧True:=kq kw9;clear kw9;have hol2:=hf6.len;refine V.g [.k (bv (decide (k1 < (b.length:Int))))] fun _ _ G8=>?_;intro S_ s_;refine V.cn (b:=decide (k1 < (b.length:Int))) iDT iDF (fun q3=>?_) (fun q4=>?_)
    · refine nm (b.getD k1.toNat default:Int) fun v2 hv2=>?_;refine V.g [.k (iv k1),.ix g0 (kf false (.f 0) b (fun _=>bs)) k1 (fun _=>⟨by omega,by omega⟩),.le g0 (kf false (.f 0) b (fun _=>bs)) k1 none false v2 hv2 (fun _=>⟨by omega,by omega⟩) false (fun _=>[iv v2]),.k (iv k1),.k (iv v2)] fun _ _ G9=>?_;intro S_ s_
      refine nm (out_1.getD (k0+k1).toNat default:Int) fun v3 hv3=>?_;refine nm (v1 * v2:Int) fun n2 hn2=>?_;refine nm (v3+n2+carry:Int) fun n3 hn3=>?_;have ex:a.getD k0.toNat 0=v1:=hv1.symm
      have ey:b.getD k1.toNat 0=v2:=hv2.symm;have eo:out_1.getD (k0+k1).toNat 0=v3:=hv3.symm;have bx:=hda.get' k0.toNat;have by_:=hdb.get' k1.toNat;have bo:=hf6.dg.get' (k0+k1).toNat;have bc:=hf6.c0;rw [ex] at bx;rw [ey] at by_;rw [eo] at bo;have bp:=Bg.dmul bx by_;refine V.g [.k (out_1s.v),.k (iv k0),.k (iv k1),.a (k0+k1) (by omega) (by omega),.ix g0 (ko true 3 0 out_1 (fun _=>out_1s)) (k0+k1) (fun _=>⟨by omega,by omega⟩),.le g0 (ko true 3 0 out_1 (fun _=>out_1s)) (k0+k1) none false v3 hv3 (fun _=>⟨by omega,by omega⟩) false (fun _=>[iv v3]),.k (iv v1),.k (iv v2),.ar (v1 * v2) n2 hn2 (by omega) (by omega),.a (v3+n2) (by omega) (by omega),.k (iv carry),.ar (v3+n2+carry) n3 hn3 (by omega) (by omega),.k (iv n3)] fun _ _ G10=>?_;intro S_ s_
      have hxx:n3=out_1.getD (k0.toNat+k1.toNat) 0+a.getD k0.toNat 0 * b.getD k1.toNat 0+carry:=by rw [ex,ey,show k0.toNat+k1.toNat=(k0+k1).toNat by omega,eo];omega
      have stp:=Bg.mul_step hf6 hda hdb (by omega) (by omega) hxx;have stp1:=stp.1;have stp2:=stp.2;clear stp;refine nm (n3 % 1048576:Int) fun n4 hn4=>?_;refine nm (n3 / 1048576:Int) fun n5 hn5=>?_;refine nm (out_1.set (k0+k1).toNat n4:List Int) fun l2 hl2=>?_;have hl2n:=congrArg List.length hl2;try simp only [List.length_append,List.length_cons,List.length_nil,List.length_replicate,List.length_set,List.length_take,List.length_drop,List.length_map,List.length_reverse,List.length_range] at hl2n
      refine V.g [.k (out_1s.v),.k (iv k0),.k (iv k1),.a (k0+k1) (by omega) (by omega),.k (iv n3),.andm g0 n3 1048575 n4 20 (by decide) rfl (by rw [hn4];rfl),.k (iv n3),.shrm g0 .i64 .u64 n3 n5 20 (by decide) (by rw [hn5];rfl),.ix g0 (ko true 3 0 out_1 (fun _=>out_1s)) (k0+k1) (fun _=>⟨by omega,by omega⟩),.se g0 9 0 3 true out_1 (fun _=>out_1s) (k0+k1) none v3 n4 hv3 true l2 hl2 (fun _=>⟨by omega,by omega⟩) (fun _=>rfl) [] (fun _ _ _ _=>trivial),.k (iv n5)] fun _ _ G11=>?_;intro S_ s_
      refine V.g [.a (k1+1) (by omega) (by omega),.k (iv (k1+1))] fun _ _ G12=>?_;intro S_ s_
      refine V.rnd hZ2 (l2,out_1s,n5,k1+1) [0,1] (by kernel_rfl) ?_ ?_
      · refine ⟨?_,?_,?_⟩
        · show 0≤(k1+1)
          first | omega | rfl | (simp;done) | (subst_vars;simp;done)
        · show (k1+1)≤(b.length:Int)
          first | omega | rfl | (simp;done) | (subst_vars;simp;done)
        show Bg.MulI a b l2 k0.toNat (k1+1).toNat n5;rw [hl2,hn4,hn5,show (k0+k1).toNat=k0.toNat+k1.toNat by omega,show (k1+1).toNat=k1.toNat+1 by omega];exact stp2
      show ((b.length:Int)-(k1+1)).toNat < ((b.length:Int)-k1).toNat;omega
    refine nm (k0+(b.length:Int):Int) fun n6 hn6=>?_;refine nm (out_1.getD n6.toNat default:Int) fun v4 hv4=>?_;refine nm (out_1.set n6.toNat (v4+carry):List Int) fun l3 hl3=>?_;have hl3n:=congrArg List.length hl3;try simp only [List.length_append,List.length_cons,List.length_nil,List.length_replicate,List.length_set,List.length_take,List.length_drop,List.length_map,List.length_reverse,List.length_range] at hl3n
    have hml:=hf6;rw [show k1.toNat=b.length by omega] at hml;have eo:out_1.getD n6.toNat 0=v4:=hv4.symm;have bo:=hml.dg.get' n6.toNat;have bc:=hml.c0;have hol3:=hml.len;rw [eo] at bo;refine V.g [.k (out_1s.v),.k (iv k0),.k (bs.v),.ln (kf false (.f 0) b (fun _=>bs)),.ar (k0+(b.length:Int)) n6 hn6 (by omega) (by omega),.ix g0 (ko true 3 0 out_1 (fun _=>out_1s)) n6 (fun _=>⟨by omega,by omega⟩),.le g0 (ko true 3 0 out_1 (fun _=>out_1s)) n6 none false v4 hv4 (fun _=>⟨by omega,by omega⟩) false (fun _=>[iv v4]),.k (iv carry),.a (v4+carry) (by omega) (by omega),.ix g0 (ko true 3 0 out_1 (fun _=>out_1s)) n6 (fun _=>⟨by omega,by omega⟩),.se g0 10 0 3 true out_1 (fun _=>out_1s) n6 none v4 (v4+carry) hv4 true l3 hl3 (fun _=>⟨by omega,by omega⟩) (fun _=>rfl) [] (fun _ _ _ _=>trivial)] fun _ _ G13=>?_;intro S_ s_
    refine V.g [.a (k0+1) (by omega) (by omega),.k (iv (k0+1))] fun _ _ G14=>?_;intro S_ s_
    refine V.rnd hZ1 (l3,out_1s,k0+1) [0,1] (by kernel_rfl) ?_ ?_
    · refine ⟨?_,?_,?_⟩
      · show 0≤(k0+1)
        first | omega | rfl | (simp;done) | (subst_vars;simp;done)
      · show (k0+1)≤(a.length:Int)
        first | omega | rfl | (simp;done) | (subst_vars;simp;done)
      show Bg.MulO a b l3 (k0+1).toNat;have hme:=Bg.mul_end (x:=(v4+carry)) hml (by omega) (by rw [show k0.toNat+b.length=n6.toNat by omega,eo]);rw [hl3,show n6.toNat=k0.toNat+b.length by omega,show (k0+1).toNat=k0.toNat+1 by omega];exact hme
    show ((a.length:Int)-(k0+1)).toNat < ((a.length:Int)-k0).toNat;omega
  have hen:=hf3;rw [show k0.toNat=a.length by omega] at hen;have hsd:=hen.dg;have hse:=hen.sum;rw [List.take_length] at hse;refine V.g [.k (outs.v),.ct g0 1 100 false [0] [] [] (fun _ G=>trimo_ct out outs hsd),.v fun G=>((G 1).ss 0).v] fun _ _ G15=>?_;intro S_ s_
  have e0:Bg.dig (Bg.nv out)=Bg.dig (Bg.nv a * Bg.nv b):=by rw [hse]
  rw [←e0];exact V.rs [0] [(G15 1).ss 0] [fun _=>{}] [] [] [0] (((G15 1).ss 0).v)
set_option maxRecDepth 10000 in
theorem mul_ct (a:List Int) (as_:SV) (b:List Int) (bs:SV) (hda:Bg.Dg a) (hdb:Bg.Dg b) (hla:a.length≤1099511627776) (hlb:b.length≤1099511627776) :
    Ct Try.prog 99 #[as_.v,bs.v] [fs true a as_,fs true b bs] [] (fun g=>((g.ss 0)).v) (fun g=>[fs true (Bg.dig (Bg.nv a * Bg.nv b)) (g.ss 0)]) (fun g=>[]) (fun g=>[]):=by
  refine V.fn mo Try.func99 67 1 (by kernel_rfl) fun w H ε k0=>?_;obtain ⟨⟨kl1, -⟩,⟨kl2, -⟩, -⟩:Lq a as_.v∧Lq b bs.v∧True:=kq k0
  clear k0;refine V.g [.k (.slice none 0 0)] fun _ _ G1=>?_;intro S_ s_
  refine nm ((a.length:Int)+(b.length:Int):Int) fun n1 hn1=>?_;refine nm (List.replicate n1.toNat (0:Int):List Int) fun l1 hl1=>?_;have hl1n:=congrArg List.length hl1;try simp only [List.length_append,List.length_cons,List.length_nil,List.length_replicate,List.length_set,List.length_take,List.length_drop,List.length_map,List.length_reverse,List.length_range] at hl1n
  refine V.g [.k (as_.v),.ln (kf false (.f 0) a (fun _=>as_)),.k (bs.v),.ln (kf false (.f 1) b (fun _=>bs)),.ar ((a.length:Int)+(b.length:Int)) n1 hn1 (by omega) (by omega),.mks 5 0 3 8 n1 l1 hl1 (by omega) (by omega) (by omega),.v fun G=>((G 5).s).v] fun _ _ G2=>?_;intro S_ s_
  refine V.g [.k (as_.v),.ln (kf false (.f 0) a (fun _=>as_)),.k (iv 0)] fun _ _ G3=>?_;intro S_ s_
  refine V.loop (γ:=List Int × SV × Int) (fun ⟨out,outs,k0⟩=>⟨[(1,bs.v),(5,outs.v),(18,as_.v),(19,iv (a.length:Int)),(20,iv k0)],[fs false b bs,fs false a as_],[os true 3 out outs]⟩) (fun ⟨out,outs,k0⟩=>(0≤k0)∧(k0≤(a.length:Int))∧(Bg.MulO a b out k0.toNat)) (fun ⟨out,outs,k0⟩=>((a.length:Int)-k0).toNat) (l1,(G2 5).s,0) (by kernel_rfl) [1,0] (by kernel_rfl) ?_ ?_
  · refine ⟨?_,?_,?_⟩
    · show 0≤(0:Int)
      first | omega | rfl | (simp;done) | (subst_vars;simp;done)
    · show (0:Int)≤(a.length:Int)
      first | omega | rfl | (simp;done) | (subst_vars;simp;done)
    show Bg.MulO a b l1 (0:Int).toNat;rw [hl1,show n1.toNat=a.length+b.length by omega];exact Bg.mul_start _ _
  rintro ⟨out,outs,k0⟩ hF1 kw4 Z1 hZ1;have hF1:(0≤k0)∧(k0≤(a.length:Int))∧(Bg.MulO a b out k0.toNat):=hF1;obtain ⟨hf1,hf2,hf3⟩:=hF1;obtain ⟨-, -,⟨kl3, -⟩, -⟩:Lq b bs.v∧Lq a as_.v∧Lq out outs.v∧True:=kq kw4;clear kw4;have hol:=hf3.len;refine V.g [.k (bv (decide (k0 < (a.length:Int))))] fun _ _ G4=>?_;intro S_ s_;refine V.cn (b:=decide (k0 < (a.length:Int))) iDT iDF (fun q1=>?_) (fun q2=>?_)
  · refine nm (a.getD k0.toNat default:Int) fun v1 hv1=>?_;refine V.g [.k (iv k0),.ix g0 (kf false (.f 1) a (fun _=>as_)) k0 (fun _=>⟨by omega,by omega⟩),.le g0 (kf false (.f 1) a (fun _=>as_)) k0 none false v1 hv1 (fun _=>⟨by omega,by omega⟩) false (fun _=>[iv v1]),.k (iv k0),.k (iv v1)] fun _ _ G5=>?_;intro S_ s_
    refine V.g [.k (iv 0)] fun _ _ G6=>?_;intro S_ s_
    refine V.g [.k (bs.v),.ln (kf false (.f 0) b (fun _=>bs)),.k (iv 0)] fun _ _ G7=>?_;intro S_ s_
    refine V.loop (γ:=List Int × SV × Int × Int) (fun ⟨out_1,out_1s,carry,k1⟩=>⟨[(1,bs.v),(5,out_1s.v),(6,iv k0),(7,iv v1),(8,iv carry),(18,as_.v),(19,iv (a.length:Int)),(20,iv k0),(25,bs.v),(26,iv (b.length:Int)),(27,iv k1)],[fs false b bs,fs false a as_],[os true 3 out_1 out_1s]⟩) (fun ⟨out_1,out_1s,carry,k1⟩=>(0≤k1)∧(k1≤(b.length:Int))∧(Bg.MulI a b out_1 k0.toNat k1.toNat carry)) (fun ⟨out_1,out_1s,carry,k1⟩=>((b.length:Int)-k1).toNat) (out,outs,0,0) (by kernel_rfl) [0,1] (by kernel_rfl) ?_ ?_
    · refine ⟨?_,?_,?_⟩
      · show 0≤(0:Int)
        first | omega | rfl | (simp;done) | (subst_vars;simp;done)
      · show (0:Int)≤(b.length:Int)
        first | omega | rfl | (simp;done) | (subst_vars;simp;done)
      show Bg.MulI a b out k0.toNat (0:Int).toNat (0:Int);exact Bg.MulO.inner hf3
    rintro ⟨out_1,out_1s,carry,k1⟩ hF2 kw9 Z2 hZ2;have hF2:(0≤k1)∧(k1≤(b.length:Int))∧(Bg.MulI a b out_1 k0.toNat k1.toNat carry):=hF2;obtain ⟨hf4,hf5,hf6⟩:=hF2;obtain ⟨-, -,⟨kl4, -⟩, -⟩:Lq b bs.v∧Lq a as_.v∧Lq out_1 out_1s.v∧True:=kq kw9;clear kw9;have hol2:=hf6.len;refine V.g [.k (bv (decide (k1 < (b.length:Int))))] fun _ _ G8=>?_;intro S_ s_;refine V.cn (b:=decide (k1 < (b.length:Int))) iDT iDF (fun q3=>?_) (fun q4=>?_)
    · refine nm (b.getD k1.toNat default:Int) fun v2 hv2=>?_;refine V.g [.k (iv k1),.ix g0 (kf false (.f 0) b (fun _=>bs)) k1 (fun _=>⟨by omega,by omega⟩),.le g0 (kf false (.f 0) b (fun _=>bs)) k1 none false v2 hv2 (fun _=>⟨by omega,by omega⟩) false (fun _=>[iv v2]),.k (iv k1),.k (iv v2)] fun _ _ G9=>?_;intro S_ s_
      refine nm (out_1.getD (k0+k1).toNat default:Int) fun v3 hv3=>?_;refine nm (v1 * v2:Int) fun n2 hn2=>?_;refine nm (v3+n2+carry:Int) fun n3 hn3=>?_;have ex:a.getD k0.toNat 0=v1:=hv1.symm
      have ey:b.getD k1.toNat 0=v2:=hv2.symm;have eo:out_1.getD (k0+k1).toNat 0=v3:=hv3.symm;have bx:=hda.get' k0.toNat;have by_:=hdb.get' k1.toNat;have bo:=hf6.dg.get' (k0+k1).toNat;have bc:=hf6.c0;rw [ex] at bx;rw [ey] at by_;rw [eo] at bo;have bp:=Bg.dmul bx by_;refine V.g [.k (out_1s.v),.k (iv k0),.k (iv k1),.a (k0+k1) (by omega) (by omega),.ix g0 (ko true 3 0 out_1 (fun _=>out_1s)) (k0+k1) (fun _=>⟨by omega,by omega⟩),.le g0 (ko true 3 0 out_1 (fun _=>out_1s)) (k0+k1) none false v3 hv3 (fun _=>⟨by omega,by omega⟩) false (fun _=>[iv v3]),.k (iv v1),.k (iv v2),.ar (v1 * v2) n2 hn2 (by omega) (by omega),.a (v3+n2) (by omega) (by omega),.k (iv carry),.ar (v3+n2+carry) n3 hn3 (by omega) (by omega),.k (iv n3)] fun _ _ G10=>?_;intro S_ s_
      have hxx:n3=out_1.getD (k0.toNat+k1.toNat) 0+a.getD k0.toNat 0 * b.getD k1.toNat 0+carry:=by rw [ex,ey,show k0.toNat+k1.toNat=(k0+k1).toNat by omega,eo];omega
      have stp:=Bg.mul_step hf6 hda hdb (by omega) (by omega) hxx;have stp1:=stp.1;have stp2:=stp.2;clear stp;refine nm (n3 % 1048576:Int) fun n4 hn4=>?_;refine nm (n3 / 1048576:Int) fun n5 hn5=>?_;refine nm (out_1.set (k0+k1).toNat n4:List Int) fun l2 hl2=>?_;have hl2n:=congrArg List.length hl2;try simp only [List.length_append,List.length_cons,List.length_nil,List.length_replicate,List.length_set,List.length_take,List.length_drop,List.length_map,List.length_reverse,List.length_range] at hl2n
      refine V.g [.k (out_1s.v),.k (iv k0),.k (iv k1),.a (k0+k1) (by omega) (by omega),.k (iv n3),.andm g0 n3 1048575 n4 20 (by decide) rfl (by rw [hn4];rfl),.k (iv n3),.shrm g0 .i64 .u64 n3 n5 20 (by decide) (by rw [hn5];rfl),.ix g0 (ko true 3 0 out_1 (fun _=>out_1s)) (k0+k1) (fun _=>⟨by omega,by omega⟩),.se g0 9 0 3 true out_1 (fun _=>out_1s) (k0+k1) none v3 n4 hv3 true l2 hl2 (fun _=>⟨by omega,by omega⟩) (fun _=>rfl) [] (fun _ _ _ _=>trivial),.k (iv n5)] fun _ _ G11=>?_;intro S_ s_
      refine V.g [.a (k1+1) (by omega) (by omega),.k (iv (k1+1))] fun _ _ G12=>?_;intro S_ s_
      refine V.rnd hZ2 (l2,out_1s,n5,k1+1) [0,1] (by kernel_rfl) ?_ ?_
      · refine ⟨?_,?_,?_⟩
        · show 0≤(k1+1)
          first | omega | rfl | (simp;done) | (subst_vars;simp;done)
        · show (k1+1)≤(b.length:Int)
          first | omega | rfl | (simp;done) | (subst_vars;simp;done)
        show Bg.MulI a b l2 k0.toNat (k1+1).toNat n5;rw [hl2,hn4,hn5,show (k0+k1).toNat=k0.toNat+k1.toNat by omega,show (k1+1).toNat=k1.toNat+1 by omega];exact stp2
      show ((b.length:Int)-(k1+1)).toNat < ((b.length:Int)-k1).toNat;omega
    refine nm (k0+(b.length:Int):Int) fun n6 hn6=>?_;refine nm (out_1.getD n6.toNat default:Int) fun v4 hv4=>?_;refine nm (out_1.set n6.toNat (v4+carry):List Int) fun l3 hl3=>?_;have hl3n:=congrArg List.length hl3;try simp only [List.length_append,List.length_cons,List.length_nil,List.length_replicate,List.length_set,List.length_take,List.length_drop,List.length_map,List.length_reverse,List.length_range] at hl3n
    have hml:=hf6;rw [show k1.toNat=b.length by omega] at hml;have eo:out_1.getD n6.toNat 0=v4:=hv4.symm;have bo:=hml.dg.get' n6.toNat;have bc:=hml.c0;have hol3:=hml.len;rw [eo] at bo;refine V.g [.k (out_1s.v),.k (iv k0),.k (bs.v),.ln (kf false (.f 0) b (fun _=>bs)),.ar (k0+(b.length:Int)) n6 hn6 (by omega) (by omega),.ix g0 (ko true 3 0 out_1 (fun _=>out_1s)) n6 (fun _=>⟨by omega,by omega⟩),.le g0 (ko true 3 0 out_1 (fun _=>out_1s)) n6 none false v4 hv4 (fun _=>⟨by omega,by omega⟩) false (fun _=>[iv v4]),.k (iv carry),.a (v4+carry) (by omega) (by omega),.ix g0 (ko true 3 0 out_1 (fun _=>out_1s)) n6 (fun _=>⟨by omega,by omega⟩),.se g0 10 0 3 true out_1 (fun _=>out_1s) n6 none v4 (v4+carry) hv4 true l3 hl3 (fun _=>⟨by omega,by omega⟩) (fun _=>rfl) [] (fun _ _ _ _=>trivial)] fun _ _ G13=>?_;intro S_ s_
    refine V.g [.a (k0+1) (by omega) (by omega),.k (iv (k0+1))] fun _ _ G14=>?_;intro S_ s_
    refine V.rnd hZ1 (l3,out_1s,k0+1) [0,1] (by kernel_rfl) ?_ ?_
    · refine ⟨?_,?_,?_⟩
      · show 0≤(k0+1)
        first | omega | rfl | (simp;done) | (subst_vars;simp;done)
      · show (k0+1)≤(a.length:Int)
        first | omega | rfl | (simp;done) | (subst_vars;simp;done)
      show Bg.MulO a b l3 (k0+1).toNat;have hme:=Bg.mul_end (x:=(v4+carry)) hml (by omega) (by rw [show k0.toNat+b.length=n6.toNat by omega,eo]);rw [hl3,show n6.toNat=k0.toNat+b.length by omega,show (k0+1).toNat=k0.toNat+1 by omega];exact hme
    show ((a.length:Int)-(k0+1)).toNat < ((a.length:Int)-k0).toNat;omega
  have hen:=hf3;rw [show k0.toNat=a.length by omega] at hen;have hsd:=hen.dg;have hse:=hen.sum;rw [List.take_length] at hse;refine V.frz 0 true 3 out outs (by kernel_rfl) ?_;refine V.r [.k (outs.v),.ctT g0 1 100 [(kf true (.f 2) out (fun _=>outs)).a] (fun _ G=>trim_ct out outs hsd),.v fun G=>((G 1).ss 0).v] fun _ _ G15 kw17=>?_;intro S_ s_
  obtain ⟨⟨kl5, -⟩, -⟩:Lq (Bg.dig (Bg.nv out)) (((G15 1).ss 0).v)∧True:=kq kw17;clear kw17;have e0:Bg.dig (Bg.nv out)=Bg.dig (Bg.nv a * Bg.nv b):=by rw [hse]
  rw [←e0];exact V.rs [0] [(G15 1).ss 0] [fun _=>{}] [] [3] [] (((G15 1).ss 0).v)
theorem mul_ctv (a:List Int) (as_:SV) (b:List Int) (bs:SV) (hda:Bg.Dg a) (hdb:Bg.Dg b) (hla:a.length≤1099511627776) (hlb:b.length≤1099511627776) (rv0:List Int) (erv0:rv0=Bg.dig (Bg.nv a * Bg.nv b)) :
    Ct Try.prog 99 #[as_.v,bs.v] [fs true a as_,fs true b bs] [] (fun g=>((g.ss 0)).v) (fun g=>[fs true rv0 (g.ss 0)]) (fun g=>[]) (fun g=>[]):=by
  subst erv0;exact mul_ct a as_ b bs hda hdb hla hlb
set_option maxRecDepth 10000 in
theorem short_ct (a:List Int) (as_:SV) (d:Int) (hda:Bg.Dg a) (hdd:0 < d∧d < 1048576) (hla:a.length≤1099511627776) :
    Ct Try.prog 104 #[as_.v,iv d] [fs true a as_] [] (fun g=>.tuple #[((g.ss 0)).v,iv ((Bg.nv a % d.toNat:Nat):Int)]) (fun g=>[fs true (Bg.dig (Bg.nv a / d.toNat)) (g.ss 0)]) (fun g=>[]) (fun g=>[]):=by
  refine V.fn mo Try.func104 38 1 (by kernel_rfl) fun w H ε k0=>?_;obtain ⟨⟨kl1, -⟩, -⟩:Lq a as_.v∧True:=kq k0
  clear k0;refine V.g [.k (.slice none 0 0),.k (iv 0)] fun _ _ G1=>?_;intro S_ s_
  refine nm (List.replicate (a.length:Int).toNat (0:Int):List Int) fun l1 hl1=>?_;have hl1n:=congrArg List.length hl1;try simp only [List.length_append,List.length_cons,List.length_nil,List.length_replicate,List.length_set,List.length_take,List.length_drop,List.length_map,List.length_reverse,List.length_range] at hl1n
  refine V.g [.k (as_.v),.ln (kf false (.f 0) a (fun _=>as_)),.mks 2 0 3 8 (a.length:Int) l1 hl1 (by omega) (by omega) (by omega),.v fun G=>((G 2).s).v] fun _ _ G2=>?_;intro S_ s_
  refine V.g [.k (iv 0)] fun _ _ G3=>?_;intro S_ s_
  refine nm ((a.length:Int)-1:Int) fun n1 hn1=>?_;refine V.g [.k (as_.v),.ln (kf false (.f 0) a (fun _=>as_)),.ar ((a.length:Int)-1) n1 hn1 (by omega) (by omega),.k (iv n1)] fun _ _ G4=>?_;intro S_ s_
  refine V.loop (γ:=List Int × SV × Int × Int) (fun ⟨out,outs,r,i⟩=>⟨[(0,as_.v),(1,iv d),(6,outs.v),(7,iv r),(8,iv i)],[fs false a as_],[os true 3 out outs]⟩) (fun ⟨out,outs,r,i⟩=>(-1≤i)∧(i < (a.length:Int))∧(Bg.ShoI a out d (i+1).toNat r)) (fun ⟨out,outs,r,i⟩=>(i+1).toNat) (l1,(G2 2).s,0,n1) (by kernel_rfl) [0] (by kernel_rfl) ?_ ?_
  · refine ⟨?_,?_,?_⟩
    · show -1≤n1;omega
    · show n1 < (a.length:Int);omega
    show Bg.ShoI a l1 d (n1+1).toNat (0:Int);rw [show (n1+1).toNat=a.length by omega,hl1,show ((a.length:Int)).toNat=a.length by omega];exact Bg.sho_start _ hdd.1
  rintro ⟨out,outs,r,i⟩ hF1 kw5 Z1 hZ1;have hF1:(-1≤i)∧(i < (a.length:Int))∧(Bg.ShoI a out d (i+1).toNat r):=hF1;obtain ⟨hf1,hf2,hf3⟩:=hF1;obtain ⟨-,⟨kl2, -⟩, -⟩:Lq a as_.v∧Lq out outs.v∧True:=kq kw5;clear kw5;refine V.g [.k (iv i),.k (bv (decide (0≤i)))] fun _ _ G5=>?_;intro S_ s_;refine V.cn (b:=decide (0≤i)) iDT iDF (fun q1=>?_) (fun q2=>?_)
  · refine nm (r * 1048576:Int) fun n2 hn2=>?_;refine nm (a.getD i.toNat default:Int) fun v1 hv1=>?_;refine nm (n2+v1:Int) fun n3 hn3=>?_;have ea:a.getD i.toNat 0=v1:=hv1.symm
    have ba:=hda.get' i.toNat;rw [ea] at ba;have br:=hf3.r0;have hol:=hf3.len;refine V.g [.k (iv r),.shlm g0 .i64 .u64 r 20 n2 20 (fun _=>⟨rfl,by decide,by show _=IntKind.i64.wrap (r * 1048576);rw [IntKind.wrap_i64];omega⟩),.k (as_.v),.k (iv i),.ix g0 (kf false (.f 0) a (fun _=>as_)) i (fun _=>⟨by omega,by omega⟩),.le g0 (kf false (.f 0) a (fun _=>as_)) i none false v1 hv1 (fun _=>⟨by omega,by omega⟩) false (fun _=>[iv v1]),.orm g0 n2 r v1 n3 20 (by rw [hn2];rfl) (fun _=>⟨by decide,by omega,⟨by omega,by show _ < (1048576:Int);omega⟩,by rw [hn3,hn2];rfl,by omega⟩),.k (iv n3)] fun _ _ G6=>?_;intro S_ s_
    have hsf:=hf3;rw [show (i+1).toNat=i.toNat+1 by omega] at hsf;have stp:=Bg.sho_step (x:=n3) hsf hda hdd (by omega) (by rw [ea];omega);have stp1:=stp.1;have stp2:=stp.2.1;have stp3:=stp.2.2;clear stp;refine nm (n3 / d:Int) fun n4 hn4=>?_;refine nm (out.getD i.toNat default:Int) fun v2 hv2=>?_;refine nm (out.set i.toNat n4:List Int) fun l2 hl2=>?_;have hl2n:=congrArg List.length hl2;try simp only [List.length_append,List.length_cons,List.length_nil,List.length_replicate,List.length_set,List.length_take,List.length_drop,List.length_map,List.length_reverse,List.length_range] at hl2n
    refine V.g [.k (outs.v),.k (iv i),.k (iv n3),.k (iv d),.qov g0 n3 d n4 hn4 (fun _=>⟨by omega,by omega⟩) (fun _=>by omega),.ix g0 (ko true 3 0 out (fun _=>outs)) i (fun _=>⟨by omega,by omega⟩),.se g0 6 0 3 true out (fun _=>outs) i none v2 n4 hv2 true l2 hl2 (fun _=>⟨by omega,by omega⟩) (fun _=>rfl) [] (fun _ _ _ _=>trivial)] fun _ _ G7=>?_;intro S_ s_
    refine nm (n3 % d:Int) fun n5 hn5=>?_;refine V.g [.k (iv n3),.k (iv d),.rmv g0 n3 d n5 hn5 (fun _=>⟨by omega,by omega⟩),.k (iv n5)] fun _ _ G8=>?_;intro S_ s_
    refine V.g [.k (iv i),.a (i-1) (by omega) (by omega),.k (iv (i-1))] fun _ _ G9=>?_;intro S_ s_
    refine V.rnd hZ1 (l2,outs,n5,i-1) [0] (by kernel_rfl) ?_ ?_
    · refine ⟨?_,?_,?_⟩
      · show -1≤(i-1);omega
      · show (i-1) < (a.length:Int);omega
      show Bg.ShoI a l2 d ((i-1)+1).toNat n5;rw [hl2,hn4,hn5,show (i-1+1).toNat=i.toNat by omega];exact stp3
    show ((i-1)+1).toNat < (i+1).toNat;omega
  have hen:=hf3;rw [show (i+1).toNat=0 by omega] at hen;have hsd:=hen.dg;obtain ⟨hse,hsr⟩:=Bg.sho_end hen;refine V.frz 0 true 3 out outs (by kernel_rfl) ?_;refine V.r [.k (outs.v),.ctT g0 1 100 [(kf true (.f 1) out (fun _=>outs)).a] (fun _ G=>trim_ct out outs hsd),.k (iv r),.v fun G=>((G 1).ss 0).v,.k (iv r)] fun _ _ G10 kw11=>?_;intro S_ s_
  obtain ⟨⟨kl3, -⟩, -⟩:Lq (Bg.dig (Bg.nv out)) (((G10 1).ss 0).v)∧True:=kq kw11;clear kw11;have e0:Bg.dig (Bg.nv out)=Bg.dig (Bg.nv a / d.toNat):=by rw [hse]
  rw [←e0];have e1:r=((Bg.nv a % d.toNat:Nat):Int):=hsr;exact V.rt [0,0] [(G10 1).ss 0] [fun _=>{}] [] [2] [] (.tuple #[((G10 1).ss 0).v,iv r]) (cong1 (fun (x1:Int)=>(.tuple #[((G10 1).ss 0).v,iv x1]:Value)) e1)

open Go Go.Proofs
set_option maxRecDepth 10000 in
theorem settle_ct (ul:List Int) (us:SV) (ulo uhi:Nat) (ua u ub v:List Int) (vs:SV) (guess:Int) (hul:ul=ua ++u ++ub) (hulo:ulo=ua.length) (huhi:uhi=ua.length+u.length) (hdu:Bg.Dg u) (hdv:Bg.Dg v) (hlv:v.length≤u.length) (hg:0≤guess∧guess < 1048576) (h1:(guess.toNat-1) * Bg.nv v≤Bg.nv u) (hlu:u.length≤4398046511104) :
    Ct Try.prog 105 #[(us.sub 1 ulo uhi).v,vs.v,iv guess] [fs true v vs] [os false 3 ul us] (fun g=>iv (Bg.setG u v guess)) (fun g=>[]) (fun g=>[os true 3 (ua ++(Bg.setP u v guess) ++ub) us]) (fun g=>[]):=by
  subst hul hulo huhi;refine V.fn mo Try.func105 78 0 (by kernel_rfl) fun w H ε k0=>?_;obtain ⟨⟨kl1, -⟩,⟨kl2, -⟩, -⟩:Lq v vs.v∧Lq (ua ++u ++ub) us.v∧True:=kq k0
  clear k0;refine V.tro 3 (ua ++u ++ub) us 0 (by kernel_rfl) (fun _ _=>trivial) ?_;refine V.g [.k (iv 0)] fun _ _ G1=>?_;intro S s
  refine V.g [.k (iv 0)] fun _ _ G2=>?_;intro S s
  refine V.g [.k ((us.sub 1 ua.length (ua.length+u.length)).v),.ln (kop true 3 0 ua u ub u.length (by omega) (fun _=>us)),.k (iv 0)] fun _ _ G3=>?_;intro S s
  refine V.loop (γ:=List Int × Int × Int) (fun ⟨cur,borrow,k0⟩=>⟨[(0,(us.sub 1 ua.length (ua.length+u.length)).v),(1,vs.v),(2,iv guess),(7,iv borrow),(13,iv (u.length:Int)),(14,iv k0)],[fs false v vs],[os true 3 (ua ++cur ++ub) us]⟩) (fun ⟨cur,borrow,k0⟩=>(0≤k0)∧(k0≤(u.length:Int))∧(Bg.SetI u v cur guess k0.toNat borrow)) (fun ⟨cur,borrow,k0⟩=>((u.length:Int)-k0).toNat) (u,0,0) (by kernel_rfl) [0] (by kernel_rfl) ?_ ?_
  · refine ⟨?_,?_,?_⟩
    · show 0≤(0:Int)
      first | omega | rfl | (simp;done) | (subst_vars;simp;done)
    · show (0:Int)≤(u.length:Int)
      first | omega | rfl | (simp;done) | (subst_vars;simp;done)
    show Bg.SetI u v u guess (0:Int).toNat (0:Int);exact Bg.set_start _ _ _ hdu
  rintro ⟨cur,borrow,k0⟩ hF1 kw4 Z1 hZ1;have hF1:(0≤k0)∧(k0≤(u.length:Int))∧(Bg.SetI u v cur guess k0.toNat borrow):=hF1;obtain ⟨hf1,hf2,hf3⟩:=hF1;clear kw4;have hol:=hf3.len;have hc0:=hf3.c0;have hda_:=hf3.dg.get' k0.toNat;refine V.g [.k (bv (decide (k0 < (u.length:Int))))] fun _ _ G4=>?_;intro S s;refine V.cn (b:=decide (k0 < (u.length:Int))) iDT iDF (fun q1=>?_) (fun q2=>?_)
  · refine V.g [.k (iv k0),.k (iv k0)] fun _ _ G5=>?_;intro S s
    refine nm (cur.getD k0.toNat default:Int) fun v1 hv1=>?_;have e1:cur.getD k0.toNat 0=v1:=hv1.symm
    refine V.g [.k ((us.sub 1 ua.length (ua.length+u.length)).v),.k (iv k0),.ix g0 (kop true 3 0 ua cur ub u.length (by omega) (fun _=>us)) k0 (fun _=>⟨by omega,by omega⟩),.le g0 (kop true 3 0 ua cur ub u.length (by omega) (fun _=>us)) k0 none false v1 hv1 (fun _=>⟨by omega,by omega⟩) false (fun _=>[iv v1]),.k (iv borrow),.a (v1-borrow) (by omega) (by omega),.k (iv (v1-borrow))] fun _ _ G6=>?_;intro S s
    refine V.g [.k (iv k0),.k (vs.v),.ln (kf false (.f 0) v (fun _=>vs)),.k (bv (decide (k0 < (v.length:Int))))] fun _ _ G7=>?_;intro S s
    refine V.cn (b:=decide (k0 < (v.length:Int))) iDT iDF (fun q3=>?_) (fun q4=>?_)
    · refine nm (v.getD k0.toNat default:Int) fun v2 hv2=>?_;refine nm (guess * v2:Int) fun n1 hn1=>?_;refine nm (v1-borrow-n1:Int) fun n2 hn2=>?_;have e2:v.getD k0.toNat 0=v2:=hv2.symm
      have hdv_:=hdv.get' k0.toNat;rw [e2] at hdv_;have bp:=Bg.dmul hg hdv_;refine V.g [.k (iv (v1-borrow)),.k (iv guess),.k (vs.v),.k (iv k0),.ix g0 (kf false (.f 0) v (fun _=>vs)) k0 (fun _=>⟨by omega,by omega⟩),.le g0 (kf false (.f 0) v (fun _=>vs)) k0 none false v2 hv2 (fun _=>⟨by omega,by omega⟩) false (fun _=>[iv v2]),.ar (guess * v2) n1 hn1 (by omega) (by omega),.ar (v1-borrow-n1) n2 hn2 (by omega) (by omega),.k (iv n2)] fun _ _ G8=>?_;intro S s
      have hxx:n2=cur.getD k0.toNat 0-borrow-guess * v.getD k0.toNat 0:=by rw [e1,e2];omega
      have stp:=Bg.set_step hf3 hdv hg (by omega) hxx;have stp1:=stp.1;have stp2:=stp.2;clear stp;refine nm (n2 % 1048576:Int) fun n3 hn3=>?_;refine nm (cur.set k0.toNat n3:List Int) fun l1 hl1=>?_;have hl1n:=congrArg List.length hl1;try simp only [List.length_append,List.length_cons,List.length_nil,List.length_replicate,List.length_set,List.length_take,List.length_drop,List.length_map,List.length_reverse,List.length_range] at hl1n
      refine V.g [.k ((us.sub 1 ua.length (ua.length+u.length)).v),.k (iv k0),.k (iv n2),.andm g0 n2 1048575 n3 20 (by decide) rfl (by rw [hn3];rfl),.ix g0 (kop true 3 0 ua cur ub u.length (by omega) (fun _=>us)) k0 (fun _=>⟨by omega,by omega⟩),.sep g0 5 0 3 true ua cur ub u.length (by omega) (fun _=>us) k0 n3 l1 hl1 (fun _=>⟨by omega,by omega⟩) (fun _=>trivial)] fun _ _ G9=>?_;intro S s
      refine nm (n2 / 1048576:Int) fun n4 hn4=>?_;refine V.g [.k (iv n2),.shrm g0 .i64 .u64 n2 n4 20 (by decide) (by rw [hn4];rfl),.ng n4 (-n4) rfl (by omega) (by omega),.k (iv (-n4))] fun _ _ G10=>?_;intro S s
      refine V.g [.a (k0+1) (by omega) (by omega),.k (iv (k0+1))] fun _ _ G11=>?_;intro S s
      refine V.rnd hZ1 (l1, -n4,k0+1) [0] (by kernel_rfl) ?_ ?_
      · refine ⟨?_,?_,?_⟩
        · show 0≤(k0+1)
          first | omega | rfl | (simp;done) | (subst_vars;simp;done)
        · show (k0+1)≤(u.length:Int)
          first | omega | rfl | (simp;done) | (subst_vars;simp;done)
        show Bg.SetI u v l1 guess (k0+1).toNat (-n4);rw [hl1,hn3,show (k0+1).toNat=k0.toNat+1 by omega];rw [hn4];exact stp2
      show ((u.length:Int)-(k0+1)).toNat < ((u.length:Int)-k0).toNat;omega
    have e2:=Bg.getD_out (l:=v) (i:=k0.toNat) (by omega);have hxx:v1-borrow=cur.getD k0.toNat 0-borrow-guess * v.getD k0.toNat 0:=by rw [e1,e2];omega
    have stp:=Bg.set_step hf3 hdv hg (by omega) hxx;have stp1:=stp.1;have stp2:=stp.2;clear stp;refine nm ((v1-borrow) % 1048576:Int) fun n5 hn5=>?_;refine nm (cur.set k0.toNat n5:List Int) fun l2 hl2=>?_;have hl2n:=congrArg List.length hl2;try simp only [List.length_append,List.length_cons,List.length_nil,List.length_replicate,List.length_set,List.length_take,List.length_drop,List.length_map,List.length_reverse,List.length_range] at hl2n
    refine V.g [.k ((us.sub 1 ua.length (ua.length+u.length)).v),.k (iv k0),.k (iv (v1-borrow)),.andm g0 (v1-borrow) 1048575 n5 20 (by decide) rfl (by rw [hn5];rfl),.ix g0 (kop true 3 0 ua cur ub u.length (by omega) (fun _=>us)) k0 (fun _=>⟨by omega,by omega⟩),.sep g0 5 0 3 true ua cur ub u.length (by omega) (fun _=>us) k0 n5 l2 hl2 (fun _=>⟨by omega,by omega⟩) (fun _=>trivial)] fun _ _ G12=>?_;intro S s
    refine nm ((v1-borrow) / 1048576:Int) fun n6 hn6=>?_;refine V.g [.k (iv (v1-borrow)),.shrm g0 .i64 .u64 (v1-borrow) n6 20 (by decide) (by rw [hn6];rfl),.ng n6 (-n6) rfl (by omega) (by omega),.k (iv (-n6))] fun _ _ G13=>?_;intro S s
    refine V.g [.a (k0+1) (by omega) (by omega),.k (iv (k0+1))] fun _ _ G14=>?_;intro S s
    refine V.rnd hZ1 (l2, -n6,k0+1) [0] (by kernel_rfl) ?_ ?_
    · refine ⟨?_,?_,?_⟩
      · show 0≤(k0+1)
        first | omega | rfl | (simp;done) | (subst_vars;simp;done)
      · show (k0+1)≤(u.length:Int)
        first | omega | rfl | (simp;done) | (subst_vars;simp;done)
      show Bg.SetI u v l2 guess (k0+1).toNat (-n6);rw [hl2,hn5,show (k0+1).toNat=k0.toNat+1 by omega];rw [hn6];exact stp2
    show ((u.length:Int)-(k0+1)).toNat < ((u.length:Int)-k0).toNat;omega
  have hmd:=hf3;rw [show k0.toNat=u.length by omega] at hmd;have hm2:=Bg.set_mid hmd hlv hg.1;refine V.g [.k (iv borrow),.k (bv (decide (borrow=0)))] fun _ _ G15=>?_;intro S s
  refine V.cn (b:=decide (borrow=0)) iDT iDF (fun q5=>?_) (fun q6=>?_)
  · refine V.g [.k (iv guess),.k (iv guess)] fun _ _ G16=>?_;intro S s
    have e0:guess=Bg.setG u v guess:=by
      have h0:=hm2.1.1 q5;unfold Bg.setG;rw [if_pos h0]
    have eL0:cur=Bg.setP u v guess:=hm2.2 q5;refine V.alt (fun (zz1:List Int)=>(⟨[(6,iv guess)],[fs false v vs],[os true 3 (ua ++zz1 ++ub) us]⟩:St)) eL0 [0] (by kernel_rfl) ?_;exact V.rt [0] [] [] [] [] [0] (iv guess) (cong1 (fun (x0:Int)=>(iv x0:Value)) e0)
  have hol5:=hmd.len;refine V.g [.k (iv 0)] fun _ _ G17=>?_;intro S s
  refine V.g [.k ((us.sub 1 ua.length (ua.length+u.length)).v),.ln (kop true 3 0 ua cur ub u.length (by omega) (fun _=>us)),.k (iv 0)] fun _ _ G18=>?_;intro S s
  refine V.loop (γ:=List Int × Int × Int) (fun ⟨cur2,carry,k1⟩=>⟨[(0,(us.sub 1 ua.length (ua.length+u.length)).v),(1,vs.v),(2,iv guess),(10,iv carry),(48,iv (cur.length:Int)),(49,iv k1)],[fs false v vs],[os true 3 (ua ++cur2 ++ub) us]⟩) (fun ⟨cur2,carry,k1⟩=>(0≤k1)∧(k1≤(cur.length:Int))∧(Bg.BakI cur v cur2 k1.toNat carry)) (fun ⟨cur2,carry,k1⟩=>((cur.length:Int)-k1).toNat) (cur,0,0) (by kernel_rfl) [0] (by kernel_rfl) ?_ ?_
  · refine ⟨?_,?_,?_⟩
    · show 0≤(0:Int)
      first | omega | rfl | (simp;done) | (subst_vars;simp;done)
    · show (0:Int)≤(cur.length:Int)
      first | omega | rfl | (simp;done) | (subst_vars;simp;done)
    show Bg.BakI cur v cur (0:Int).toNat (0:Int);exact Bg.bak_start _ _ hmd.dg
  rintro ⟨cur2,carry,k1⟩ hF2 kw20 Z2 hZ2;have hF2:(0≤k1)∧(k1≤(cur.length:Int))∧(Bg.BakI cur v cur2 k1.toNat carry):=hF2;obtain ⟨hf4,hf5,hf6⟩:=hF2;clear kw20;have hol:=hf6.len;have hc0:=hf6.c0;have hda_:=hf6.dg.get' k1.toNat;have hdb_:=hdv.get' k1.toNat;refine V.g [.k (bv (decide (k1 < (cur.length:Int))))] fun _ _ G19=>?_;intro S s;refine V.cn (b:=decide (k1 < (cur.length:Int))) iDT iDF (fun q7=>?_) (fun q8=>?_)
  · refine V.g [.k (iv k1),.k (iv k1)] fun _ _ G20=>?_;intro S s
    refine nm (cur2.getD k1.toNat default:Int) fun v3 hv3=>?_;have e1:cur2.getD k1.toNat 0=v3:=hv3.symm
    refine V.g [.k (iv carry),.k ((us.sub 1 ua.length (ua.length+u.length)).v),.k (iv k1),.ix g0 (kop true 3 0 ua cur2 ub u.length (by omega) (fun _=>us)) k1 (fun _=>⟨by omega,by omega⟩),.le g0 (kop true 3 0 ua cur2 ub u.length (by omega) (fun _=>us)) k1 none false v3 hv3 (fun _=>⟨by omega,by omega⟩) false (fun _=>[iv v3]),.a (carry+v3) (by omega) (by omega),.k (iv (carry+v3))] fun _ _ G21=>?_;intro S s
    refine V.g [.k (iv k1),.k (vs.v),.ln (kf false (.f 0) v (fun _=>vs)),.k (bv (decide (k1 < (v.length:Int))))] fun _ _ G22=>?_;intro S s
    refine V.cn (b:=decide (k1 < (v.length:Int))) iDT iDF (fun q9=>?_) (fun q10=>?_)
    · refine nm (v.getD k1.toNat default:Int) fun v4 hv4=>?_;refine nm (carry+v3+v4:Int) fun n7 hn7=>?_;have e2:v.getD k1.toNat 0=v4:=hv4.symm
      refine V.g [.k (iv (carry+v3)),.k (vs.v),.k (iv k1),.ix g0 (kf false (.f 0) v (fun _=>vs)) k1 (fun _=>⟨by omega,by omega⟩),.le g0 (kf false (.f 0) v (fun _=>vs)) k1 none false v4 hv4 (fun _=>⟨by omega,by omega⟩) false (fun _=>[iv v4]),.ar (carry+v3+v4) n7 hn7 (by omega) (by omega),.k (iv n7)] fun _ _ G23=>?_;intro S s
      have hxx:n7=carry+cur2.getD k1.toNat 0+v.getD k1.toNat 0:=by rw [e1,e2];omega
      refine nm (n7 % 1048576:Int) fun n8 hn8=>?_;refine nm (cur2.set k1.toNat n8:List Int) fun l3 hl3=>?_;have hl3n:=congrArg List.length hl3;try simp only [List.length_append,List.length_cons,List.length_nil,List.length_replicate,List.length_set,List.length_take,List.length_drop,List.length_map,List.length_reverse,List.length_range] at hl3n
      refine V.g [.k ((us.sub 1 ua.length (ua.length+u.length)).v),.k (iv k1),.k (iv n7),.andm g0 n7 1048575 n8 20 (by decide) rfl (by rw [hn8];rfl),.ix g0 (kop true 3 0 ua cur2 ub u.length (by omega) (fun _=>us)) k1 (fun _=>⟨by omega,by omega⟩),.sep g0 5 0 3 true ua cur2 ub u.length (by omega) (fun _=>us) k1 n8 l3 hl3 (fun _=>⟨by omega,by omega⟩) (fun _=>trivial)] fun _ _ G24=>?_;intro S s
      refine nm (n7 / 1048576:Int) fun n9 hn9=>?_;refine V.g [.k (iv n7),.shrm g0 .i64 .u64 n7 n9 20 (by decide) (by rw [hn9];rfl),.k (iv n9)] fun _ _ G25=>?_;intro S s
      refine V.g [.a (k1+1) (by omega) (by omega),.k (iv (k1+1))] fun _ _ G26=>?_;intro S s
      refine V.rnd hZ2 (l3,n9,k1+1) [0] (by kernel_rfl) ?_ ?_
      · refine ⟨?_,?_,?_⟩
        · show 0≤(k1+1)
          first | omega | rfl | (simp;done) | (subst_vars;simp;done)
        · show (k1+1)≤(cur.length:Int)
          first | omega | rfl | (simp;done) | (subst_vars;simp;done)
        show Bg.BakI cur v l3 (k1+1).toNat n9;rw [hl3,hn8,hn9,show (k1+1).toNat=k1.toNat+1 by omega];exact Bg.bak_step hf6 hdv (by omega) hxx
      show ((cur.length:Int)-(k1+1)).toNat < ((cur.length:Int)-k1).toNat;omega
    have e2:=Bg.getD_out (l:=v) (i:=k1.toNat) (by omega);have hxx:carry+v3=carry+cur2.getD k1.toNat 0+v.getD k1.toNat 0:=by rw [e1,e2];omega
    refine nm ((carry+v3) % 1048576:Int) fun n10 hn10=>?_;refine nm (cur2.set k1.toNat n10:List Int) fun l4 hl4=>?_;have hl4n:=congrArg List.length hl4;try simp only [List.length_append,List.length_cons,List.length_nil,List.length_replicate,List.length_set,List.length_take,List.length_drop,List.length_map,List.length_reverse,List.length_range] at hl4n
    refine V.g [.k ((us.sub 1 ua.length (ua.length+u.length)).v),.k (iv k1),.k (iv (carry+v3)),.andm g0 (carry+v3) 1048575 n10 20 (by decide) rfl (by rw [hn10];rfl),.ix g0 (kop true 3 0 ua cur2 ub u.length (by omega) (fun _=>us)) k1 (fun _=>⟨by omega,by omega⟩),.sep g0 5 0 3 true ua cur2 ub u.length (by omega) (fun _=>us) k1 n10 l4 hl4 (fun _=>⟨by omega,by omega⟩) (fun _=>trivial)] fun _ _ G27=>?_;intro S s
    refine nm ((carry+v3) / 1048576:Int) fun n11 hn11=>?_;refine V.g [.k (iv (carry+v3)),.shrm g0 .i64 .u64 (carry+v3) n11 20 (by decide) (by rw [hn11];rfl),.k (iv n11)] fun _ _ G28=>?_;intro S s
    refine V.g [.a (k1+1) (by omega) (by omega),.k (iv (k1+1))] fun _ _ G29=>?_;intro S s
    refine V.rnd hZ2 (l4,n11,k1+1) [0] (by kernel_rfl) ?_ ?_
    · refine ⟨?_,?_,?_⟩
      · show 0≤(k1+1)
        first | omega | rfl | (simp;done) | (subst_vars;simp;done)
      · show (k1+1)≤(cur.length:Int)
        first | omega | rfl | (simp;done) | (subst_vars;simp;done)
      show Bg.BakI cur v l4 (k1+1).toNat n11;rw [hl4,hn10,hn11,show (k1+1).toNat=k1.toNat+1 by omega];exact Bg.bak_step hf6 hdv (by omega) hxx
    show ((cur.length:Int)-(k1+1)).toNat < ((cur.length:Int)-k1).toNat;omega
  have hbk:=hf6;rw [show k1.toNat=u.length by omega] at hbk;obtain ⟨hE1,hE2⟩:=Bg.set_end hmd hbk hdu hlv hg.1 q6 h1;refine V.g [.k (iv guess),.a (guess-1) (by omega) (by omega),.k (iv (guess-1))] fun _ _ G30=>?_;intro S s
  have e0:(guess-1)=Bg.setG u v guess:=by first | exact hE1 | (rw [←hE1])
  have eL0:cur2=Bg.setP u v guess:=hE2;refine V.alt (fun (zz2:List Int)=>(⟨[(6,iv (guess-1))],[fs false v vs],[os true 3 (ua ++zz2 ++ub) us]⟩:St)) eL0 [0] (by kernel_rfl) ?_;exact V.rt [0] [] [] [] [] [0] (iv (guess-1)) (cong1 (fun (x0:Int)=>(iv x0:Value)) e0)

open Go Go.Proofs
set_option maxRecDepth 10000 in
set_option maxHeartbeats 4000000 in
theorem div_ct (a:List Int) (as_:SV) (b:List Int) (bs:SV) (hda:Bg.Dg a) (hdb:Bg.Dg b) (hza:Bg.Nz a) (hzb:Bg.Nz b) (hnb:b≠[]) (hla:a.length≤549755813888) (hlb:b.length≤549755813888) :
    Ct Try.prog 88 #[as_.v,bs.v] [fs true a as_,fs true b bs] [] (fun g=>.tuple #[((g.ss 0)).v,((g.ss 1)).v]) (fun g=>[fs true (Bg.dig (Bg.nv a / Bg.nv b)) (g.ss 0),fs true (Bg.dig (Bg.nv a % Bg.nv b)) (g.ss 1)]) (fun g=>[]) (fun g=>[]):=by
  refine V.fn mo Try.func88 170 2 (by kernel_rfl) fun w H ε k0=>?_;obtain ⟨⟨kl1, -⟩,⟨kl2, -⟩, -⟩:Lq a as_.v∧Lq b bs.v∧True:=kq k0
  clear k0;refine V.g [.k (.slice none 0 0),.k (.slice none 0 0)] fun _ _ G1=>?_;intro S_ s_
  refine V.g [.k (as_.v),.k (bs.v),.cp g0 2 84 [(kf false (.f 0) a (fun _=>as_)).a,(kf false (.f 1) b (fun _=>bs)).a] (fun _ G=>cmpd_ct a as_ b bs (by assumption) (by assumption) (by assumption) (by assumption)),.k (bv (decide (Bg.cmpI (Bg.nv a) (Bg.nv b) < 0)))] fun _ _ G2=>?_;intro S_ s_
  refine V.cn (b:=decide (Bg.cmpI (Bg.nv a) (Bg.nv b) < 0)) iDT iDF (fun q1=>?_) (fun q2=>?_)
  · have hlt:=Bg.cmp_lt.1 q1;have hlt:Bg.nv a < Bg.nv b:=by omega
    refine V.r [.k (as_.v),.ct g0 1 63 false [] [] [(kf false (.f 0) a (fun _=>as_)).a] (fun _ G=>clonef_ct a as_ (by omega)),.k (.slice none 0 0),.v fun G=>((G 1).ss 0).v] fun _ _ G3 kw3=>?_;intro S_ s_
    obtain ⟨⟨kl3, -⟩, -⟩:Lq a (((G3 1).ss 0).v)∧True:=kq kw3;clear kw3;refine V.nilF (α:=Int) ?_;have e0:([]:List Int)=Bg.dig (Bg.nv a / Bg.nv b):=by rw [(Bg.div_less hlt).1]
    rw [←e0];have e1:a=Bg.dig (Bg.nv a % Bg.nv b):=Bg.dig_self hda hza (Bg.div_less hlt).2;rw [←e1];exact V.rs [0,0] [{},(G3 1).ss 0] [fun _=>{},fun _=>{}] [] [3,2] [] (.tuple #[SV.v ({}),((G3 1).ss 0).v])
  have hge:Bg.nv b≤Bg.nv a:=Nat.not_lt.1 fun h=>q2 (Bg.cmp_lt.2 (by omega))
  refine V.g [.k (bs.v),.ln (kf false (.f 1) b (fun _=>bs)),.k (bv (decide ((b.length:Int)=1)))] fun _ _ G4=>?_;intro S_ s_
  refine V.cn (b:=decide ((b.length:Int)=1)) iDT iDF (fun q3=>?_) (fun q4=>?_)
  · have hnb0:=Bg.nv_len1 (l:=b) (by omega);have hbt0:=Bg.top_pos hnb hdb hzb;rw [show b.length-1=0 by omega] at hbt0;have hbd0:=hdb.get' 0;refine nm (b.getD (0:Int).toNat default:Int) fun v1 hv1=>?_;have ev:b.getD 0 0=v1:=hv1.symm
    rw [ev] at hbt0 hbd0 hnb0;refine V.r [.k (as_.v),.k (bs.v),.ix g0 (kf false (.f 1) b (fun _=>bs)) 0 (fun _=>⟨by omega,by omega⟩),.le g0 (kf false (.f 1) b (fun _=>bs)) (0:Int) none false v1 hv1 (fun _=>⟨by omega,by omega⟩) false (fun _=>[iv v1]),.ct g0 4 104 false [] [] [(kf false (.f 0) a (fun _=>as_)).a] (fun _ G=>short_ct a as_ v1 hda (by omega) (by omega)),.v fun G=>.tuple #[((G 4).ss 0).v,iv ((Bg.nv a % v1.toNat:Nat):Int)],.v fun G=>((G 4).ss 0).v,.k (iv ((Bg.nv a % v1.toNat:Nat):Int)),.v fun G=>((G 4).ss 0).v,.k (iv ((Bg.nv a % v1.toNat:Nat):Int))] fun _ _ G5 kw5=>?_;intro S_ s_
    obtain ⟨⟨kl4, -⟩, -⟩:Lq (Bg.dig (Bg.nv a / v1.toNat)) (((G5 4).ss 0).v)∧True:=kq kw5;clear kw5;have hrr:=Bg.nv_r (a:=Bg.nv a) (d:=v1.toNat) (by omega) (by omega);have hnb1:v1.toNat=Bg.nv b:=hnb0.symm;refine V.r [.k (((G5 4).ss 0).v),.k (iv ((Bg.nv a % v1.toNat:Nat):Int)),.nr 2 true 3 [((Bg.nv a % v1.toNat:Nat):Int)] [] (fun _ _ _ _ _=>trivial) (fun _=>#[iv ((Bg.nv a % v1.toNat:Nat):Int)]),.ctT g0 3 100 [(kf true (.g 2 0) [((Bg.nv a % v1.toNat:Nat):Int)] (fun G=>⟨atB (G 2).b,1,1⟩)).a] (fun _ G=>trim_ct [((Bg.nv a % v1.toNat:Nat):Int)] ⟨atB (G 2).b,1,1⟩ hrr.1),.k (((G5 4).ss 0).v),.v fun G=>((G 3).ss 0).v] fun _ _ G6 kw6=>?_;intro S_ s_;obtain ⟨⟨kl5, -⟩,⟨kl6, -⟩, -⟩:Lq [((Bg.nv a % v1.toNat:Nat):Int)] (SV.v ⟨atB (G6 2).b,1,1⟩)∧Lq (Bg.dig (Bg.nv [((Bg.nv a % v1.toNat:Nat):Int)])) (((G6 3).ss 0).v)∧True:=kq kw6;clear kw6;have e0:Bg.dig (Bg.nv a / v1.toNat)=Bg.dig (Bg.nv a / Bg.nv b):=by rw [hnb1]
    rw [←e0];have e1:Bg.dig (Bg.nv [((Bg.nv a % v1.toNat:Nat):Int)])=Bg.dig (Bg.nv a % Bg.nv b):=by rw [hrr.2,hnb1]
    rw [←e1];exact V.rs [0,0] [(G5 4).ss 0,(G6 3).ss 0] [fun _=>{},fun _=>{}] [] [2,4] [] (.tuple #[((G5 4).ss 0).v,((G6 3).ss 0).v])
  have hbt:=Bg.top_pos hnb hdb hzb;have hbl2:2≤b.length:=by have:b.length≠0:=fun e=>hnb (List.eq_nil_of_length_eq_zero e);omega
  have hbd:=hdb.get' (b.length-1);refine V.g [.k (iv 1)] fun _ _ G7=>?_;intro S_ s_
  refine V.loop (γ:=Int) (fun shift=>⟨[(0,as_.v),(1,bs.v),(8,iv shift)],[fs false a as_,fs false b bs],[.no,.no]⟩) (fun shift=>(1≤shift)∧(b.getD (b.length-1) 0 * shift < 1048576)) (fun shift=>(1048576-shift).toNat) 1 (by kernel_rfl) [0,1] (by kernel_rfl) ?_ ?_
  · refine ⟨?_,?_⟩
    · show 1≤(1:Int);omega
    show b.getD (b.length-1) 0 * (1:Int) < 1048576;omega
  rintro shift hF1 kw8 Z1 hZ1;have hF1:(1≤shift)∧(b.getD (b.length-1) 0 * shift < 1048576):=hF1;obtain ⟨hf1,hf2⟩:=hF1;clear kw8;refine nm ((b.length:Int)-1:Int) fun n1 hn1=>?_;refine nm (b.getD n1.toNat default:Int) fun v2 hv2=>?_;refine nm (v2 * shift:Int) fun n2 hn2=>?_;have eb:b.getD (b.length-1) 0=v2:=by rw [show b.length-1=n1.toNat by omega];exact hv2.symm
  have hbs:=hf2;rw [eb] at hbs;have hsl1:=Bg.sh_lt (b:=v2) (by omega) hf1 hbs;have hbp:=Bg.dmul (x:=v2) (y:=shift) (by omega) (by omega);refine V.g [.k (bs.v),.k (bs.v),.ln (kf false (.f 1) b (fun _=>bs)),.ar ((b.length:Int)-1) n1 hn1 (by omega) (by omega),.ix g0 (kf false (.f 1) b (fun _=>bs)) n1 (fun _=>⟨by omega,by omega⟩),.le g0 (kf false (.f 1) b (fun _=>bs)) n1 none false v2 hv2 (fun _=>⟨by omega,by omega⟩) false (fun _=>[iv v2]),.k (iv shift),.ar (v2 * shift) n2 hn2 (by omega) (by omega),.k (bv (decide (n2 < 524288)))] fun _ _ G8=>?_;intro S_ s_
  refine V.cn (b:=decide (n2 < 524288)) iDT iDF (fun q5=>?_) (fun q6=>?_)
  · refine nm (shift * 2:Int) fun n3 hn3=>?_;refine V.g [.k (iv shift),.ar (shift * 2) n3 hn3 (by omega) (by omega),.k (iv n3)] fun _ _ G9=>?_;intro S_ s_
    refine V.rnd hZ1 n3 [0,1] (by kernel_rfl) ?_ ?_
    · refine ⟨?_,?_⟩
      · show 1≤n3;omega
      show b.getD (b.length-1) 0 * n3 < 1048576;rw [eb];rw [hn3];exact Bg.sh_step hn2 q5
    show (1048576-n3).toNat < (1048576-shift).toNat;omega
  have hsl:=Bg.sh_lt hbt hf1 hf2;have hs1:=hf1;have hdsh:Bg.Dg [shift]:=Bg.Dg.one (by omega);have enS:=Bg.nv_one shift;have hS0:0 < Bg.nv [shift]:=by omega
  have hAl:a.length≤(Bg.dig (Bg.nv a * Bg.nv [shift])).length:=Bg.dig_len_mono hda hza (Nat.le_mul_of_pos_right _ hS0);have hVl:b.length≤(Bg.dig (Bg.nv b * Bg.nv [shift])).length:=Bg.dig_len_mono hdb hzb (Nat.le_mul_of_pos_right _ hS0);have hAu:=Bg.mul_dig_len a [shift] hda hdsh;have hVu:=Bg.mul_dig_len b [shift] hdb hdsh;simp only [List.length_cons,List.length_nil] at hAu hVu;have hvd:Bg.Dg (Bg.dig (Bg.nv b * Bg.nv [shift])):=Bg.dig_Dg _;have hvz:Bg.Nz (Bg.dig (Bg.nv b * Bg.nv [shift])):=Bg.dig_Nz _;have hvn:(Bg.dig (Bg.nv b * Bg.nv [shift]))≠[]:=fun e=>by have:=congrArg List.length e;simp only [List.length_nil] at this;omega
  have hvt:=Bg.top_pos hvn hvd hvz;have hVA:(Bg.dig (Bg.nv b * Bg.nv [shift])).length≤(Bg.dig (Bg.nv a * Bg.nv [shift])).length:=Bg.len_le (Bg.dig_Dg _) hvd hvz (by rw [Bg.nv_dig,Bg.nv_dig];exact Nat.mul_le_mul_right _ hge);refine nm ((Bg.dig (Bg.nv a * Bg.nv [shift])) ++([0]:List Int):List Int) fun l1 hl1=>?_;have hl1n:=congrArg List.length hl1;try simp only [List.length_append,List.length_cons,List.length_nil,List.length_replicate,List.length_set,List.length_take,List.length_drop,List.length_map,List.length_reverse,List.length_range] at hl1n
  refine V.r [.k (as_.v),.k (iv shift),.nr 2 true 3 [shift] [] (fun _ _ _ _ _=>trivial) (fun _=>#[iv shift]),.ct g0 3 99 false [] [0] [(kf false (.f 0) a (fun _=>as_)).a,(kf true (.g 2 0) [shift] (fun G=>⟨atB (G 2).b,1,1⟩)).a] (fun _ G=>mulo_ct a as_ [shift] ⟨atB (G 2).b,1,1⟩ hda hdsh (by omega) (by simp)),.nr 4 true 3 ([0]:List Int) [] (fun _ _ _ _ _=>trivial) (fun _=>#[iv 0]),.ap 5 0 3 8 false true (Bg.dig (Bg.nv a * Bg.nv [shift])) (fun G=>(G 3).ss 0) (kf true (.g 4 0) ([0]:List Int) (fun G=>⟨atB (G 4).b,1,1⟩)) true l1 hl1 (by (try simp only [List.length_append,List.length_cons,List.length_nil,List.length_replicate,List.length_set,List.length_take,List.length_drop,List.length_map,List.length_reverse,List.length_range]);omega) (fun h=>by cases h) (.inr fun _ _=>trivial),.k (bs.v),.k (iv shift),.nr 8 true 3 [shift] [] (fun _ _ _ _ _=>trivial) (fun _=>#[iv shift]),.ct g0 9 99 false [] [] [(kf false (.f 1) b (fun _=>bs)).a,(kf true (.g 8 0) [shift] (fun G=>⟨atB (G 8).b,1,1⟩)).a] (fun _ G=>mul_ct b bs [shift] ⟨atB (G 8).b,1,1⟩ hdb hdsh (by omega) (by simp)),.v fun G=>((G 5).s).v,.v fun G=>((G 9).ss 0).v] fun _ _ G10 kw11=>?_;intro S_ s_
  obtain ⟨⟨kl7, -⟩,⟨kl8, -⟩,⟨kl9, -⟩,⟨kl10, -⟩, -⟩:Lq [shift] (SV.v ⟨atB (G10 2).b,1,1⟩)∧Lq ([0]:List Int) (SV.v ⟨atB (G10 4).b,1,1⟩)∧Lq [shift] (SV.v ⟨atB (G10 8).b,1,1⟩)∧Lq (Bg.dig (Bg.nv b * Bg.nv [shift])) (((G10 9).ss 0).v)∧Lq l1 (((G10 5).s).v)∧True:=kq kw11;clear kw11;refine V.g [.k (((G10 5).s).v),.ln (ko true 3 0 l1 (fun _=>(G10 5).s)),.k (as_.v),.ln (kf false (.f 0) a (fun _=>as_)),.k (bv (decide ((l1.length:Int)=(a.length:Int))))] fun _ _ G11=>?_;intro S_ s_;refine V.cn (b:=decide ((l1.length:Int)=(a.length:Int))) iDT iDF (fun q7=>?_) (fun q8=>?_)
  · exfalso;omega
  refine V.g [.k (((G10 9).ss 0).v),.ln (kf true (.f 5) (Bg.dig (Bg.nv b * Bg.nv [shift])) (fun _=>(G10 9).ss 0)),.k (iv ((Bg.dig (Bg.nv b * Bg.nv [shift])).length:Int))] fun _ _ G12=>?_;intro S_ s_
  refine nm ((l1.length:Int)-((Bg.dig (Bg.nv b * Bg.nv [shift])).length:Int):Int) fun n4 hn4=>?_;refine nm (List.replicate n4.toNat (0:Int):List Int) fun l2 hl2=>?_;have hl2n:=congrArg List.length hl2;try simp only [List.length_append,List.length_cons,List.length_nil,List.length_replicate,List.length_set,List.length_take,List.length_drop,List.length_map,List.length_reverse,List.length_range] at hl2n
  refine V.g [.k (((G10 5).s).v),.ln (ko true 3 0 l1 (fun _=>(G10 5).s)),.k (iv ((Bg.dig (Bg.nv b * Bg.nv [shift])).length:Int)),.ar ((l1.length:Int)-((Bg.dig (Bg.nv b * Bg.nv [shift])).length:Int)) n4 hn4 (by omega) (by omega),.mks 4 1 3 8 n4 l2 hl2 (by omega) (by omega) (by omega),.v fun G=>((G 4).s).v] fun _ _ G13=>?_;intro S_ s_
  refine nm ((l2.length:Int)-1:Int) fun n5 hn5=>?_;refine V.g [.k (((G13 4).s).v),.ln (ko true 3 1 l2 (fun _=>(G13 4).s)),.ar ((l2.length:Int)-1) n5 hn5 (by omega) (by omega),.k (iv n5)] fun _ _ G14=>?_;intro S_ s_
  refine V.loop (γ:=List Int × SV × List Int × SV × Int) (fun ⟨u,us,q,qs,i⟩=>⟨[(8,iv shift),(9,us.v),(10,((G10 9).ss 0).v),(11,iv ((Bg.dig (Bg.nv b * Bg.nv [shift])).length:Int)),(12,qs.v),(13,iv i)],[fs true (Bg.dig (Bg.nv b * Bg.nv [shift])) ((G10 9).ss 0)],[os true 3 u us,os true 3 q qs]⟩) (fun ⟨u,us,q,qs,i⟩=>(-1≤i)∧(i < (q.length:Int))∧(Bg.DivI (Bg.dig (Bg.nv a * Bg.nv [shift]) ++[0]) (Bg.dig (Bg.nv b * Bg.nv [shift])) u q (i+1).toNat)∧(q.length+(Bg.dig (Bg.nv b * Bg.nv [shift])).length≤a.length+2)) (fun ⟨u,us,q,qs,i⟩=>(i+1).toNat) (l1,(G10 5).s,l2,(G13 4).s,n5) (by kernel_rfl) [5] (by kernel_rfl) ?_ ?_
  · refine ⟨?_,?_,?_,?_⟩
    · show -1≤n5;omega
    · show n5 < (l2.length:Int);omega
    · show Bg.DivI (Bg.dig (Bg.nv a * Bg.nv [shift]) ++[0]) (Bg.dig (Bg.nv b * Bg.nv [shift])) l1 l2 (n5+1).toNat;have hds:=Bg.div_start (a:=Bg.dig (Bg.nv a * Bg.nv [shift])) (q:=l2) (Bg.dig_Dg _) hvd hvz hvn hVA (by rw [hl2];congr 1;omega);rw [show (n5+1).toNat=l2.length by omega,hl1];exact hds
    show l2.length+(Bg.dig (Bg.nv b * Bg.nv [shift])).length≤a.length+2
    first | omega | rfl | (simp;done) | (subst_vars;simp;done)
  rintro ⟨u,us,q,qs,i⟩ hF2 kw16 Z2 hZ2;have hF2:(-1≤i)∧(i < (q.length:Int))∧(Bg.DivI (Bg.dig (Bg.nv a * Bg.nv [shift]) ++[0]) (Bg.dig (Bg.nv b * Bg.nv [shift])) u q (i+1).toNat)∧(q.length+(Bg.dig (Bg.nv b * Bg.nv [shift])).length≤a.length+2):=hF2;obtain ⟨hf3,hf4,hf5,hf6⟩:=hF2;obtain ⟨-,⟨kl11, -⟩,⟨kl12, -⟩, -⟩:Lq (Bg.dig (Bg.nv b * Bg.nv [shift])) (((G10 9).ss 0).v)∧Lq u us.v∧Lq q qs.v∧True:=kq kw16;clear kw16;have hdl:=hf5.len;have hud:=hf5.dg;refine V.g [.k (iv i),.k (bv (decide (0≤i)))] fun _ _ G15=>?_;intro S_ s_;refine V.cn (b:=decide (0≤i)) iDT iDF (fun q9=>?_) (fun q10=>?_)
  · refine nm (i+((Bg.dig (Bg.nv b * Bg.nv [shift])).length:Int):Int) fun n6 hn6=>?_;refine nm (u.getD n6.toNat default:Int) fun v3 hv3=>?_;refine nm (v3 * 1048576:Int) fun n7 hn7=>?_;refine nm (u.getD (n6-1).toNat default:Int) fun v4 hv4=>?_;refine nm (n7+v4:Int) fun n8 hn8=>?_;have hdi:=hf5
    rw [show (i+1).toNat=i.toNat+1 by omega] at hdi;have e_v3:u.getD (i.toNat+(Bg.dig (Bg.nv b * Bg.nv [shift])).length) 0=v3:=by rw [show i.toNat+(Bg.dig (Bg.nv b * Bg.nv [shift])).length=n6.toNat by omega];exact hv3.symm
    have b_v3:=hud.get' (i.toNat+(Bg.dig (Bg.nv b * Bg.nv [shift])).length);rw [e_v3] at b_v3;have e_v4:u.getD (i.toNat+(Bg.dig (Bg.nv b * Bg.nv [shift])).length-1) 0=v4:=by rw [show i.toNat+(Bg.dig (Bg.nv b * Bg.nv [shift])).length-1=(n6-1).toNat by omega];exact hv4.symm
    have b_v4:=hud.get' (i.toNat+(Bg.dig (Bg.nv b * Bg.nv [shift])).length-1);rw [e_v4] at b_v4;refine V.g [.k (us.v),.k (iv i),.k (iv ((Bg.dig (Bg.nv b * Bg.nv [shift])).length:Int)),.ar (i+((Bg.dig (Bg.nv b * Bg.nv [shift])).length:Int)) n6 hn6 (by omega) (by omega),.ix g0 (ko true 3 0 u (fun _=>us)) n6 (fun _=>⟨by omega,by omega⟩),.le g0 (ko true 3 0 u (fun _=>us)) n6 none false v3 hv3 (fun _=>⟨by omega,by omega⟩) false (fun _=>[iv v3]),.shlm g0 .i64 .u64 v3 20 n7 20 (fun _=>⟨rfl,by decide,by show _=IntKind.i64.wrap (v3 * 1048576);rw [IntKind.wrap_i64];omega⟩),.k (us.v),.k (iv i),.k (iv ((Bg.dig (Bg.nv b * Bg.nv [shift])).length:Int)),.ar (i+((Bg.dig (Bg.nv b * Bg.nv [shift])).length:Int)) n6 hn6 (by omega) (by omega),.a (n6-1) (by omega) (by omega),.ix g0 (ko true 3 0 u (fun _=>us)) (n6-1) (fun _=>⟨by omega,by omega⟩),.le g0 (ko true 3 0 u (fun _=>us)) (n6-1) none false v4 hv4 (fun _=>⟨by omega,by omega⟩) false (fun _=>[iv v4]),.orm g0 n7 v3 v4 n8 20 (by rw [hn7];rfl) (fun _=>⟨by decide,by omega,⟨by omega,by show _ < (1048576:Int);omega⟩,by rw [hn8,hn7];rfl,by omega⟩),.k (iv n8)] fun _ _ G16=>?_;intro S_ s_
    refine nm (((Bg.dig (Bg.nv b * Bg.nv [shift])).length:Int)-1:Int) fun n9 hn9=>?_;refine nm ((Bg.dig (Bg.nv b * Bg.nv [shift])).getD n9.toNat default:Int) fun v5 hv5=>?_;refine nm (n8 / v5:Int) fun n10 hn10=>?_;refine nm (n8 % v5:Int) fun n11 hn11=>?_;have e_v5:(Bg.dig (Bg.nv b * Bg.nv [shift])).getD ((Bg.dig (Bg.nv b * Bg.nv [shift])).length-1) 0=v5:=by rw [show (Bg.dig (Bg.nv b * Bg.nv [shift])).length-1=n9.toNat by omega];exact hv5.symm
    have b_v5:=hvd.get' ((Bg.dig (Bg.nv b * Bg.nv [shift])).length-1);rw [e_v5] at b_v5 hvt;have hq1:=Int.ediv_nonneg (show 0≤n8 by omega) (show 0≤v5 by omega);have hq2:=Int.ediv_le_self v5 (show 0≤n8 by omega);refine V.g [.k (iv n8),.k (((G10 9).ss 0).v),.k (iv ((Bg.dig (Bg.nv b * Bg.nv [shift])).length:Int)),.ar (((Bg.dig (Bg.nv b * Bg.nv [shift])).length:Int)-1) n9 hn9 (by omega) (by omega),.ix g0 (kf true (.f 0) (Bg.dig (Bg.nv b * Bg.nv [shift])) (fun _=>(G10 9).ss 0)) n9 (fun _=>⟨by omega,by omega⟩),.le g0 (kf true (.f 0) (Bg.dig (Bg.nv b * Bg.nv [shift])) (fun _=>(G10 9).ss 0)) n9 none false v5 hv5 (fun _=>⟨by omega,by omega⟩) false (fun _=>[iv v5]),.qov g0 n8 v5 n10 hn10 (fun _=>⟨by omega,by omega⟩) (fun _=>by omega),.k (iv n8),.k (((G10 9).ss 0).v),.k (iv ((Bg.dig (Bg.nv b * Bg.nv [shift])).length:Int)),.ar (((Bg.dig (Bg.nv b * Bg.nv [shift])).length:Int)-1) n9 hn9 (by omega) (by omega),.ix g0 (kf true (.f 0) (Bg.dig (Bg.nv b * Bg.nv [shift])) (fun _=>(G10 9).ss 0)) n9 (fun _=>⟨by omega,by omega⟩),.le g0 (kf true (.f 0) (Bg.dig (Bg.nv b * Bg.nv [shift])) (fun _=>(G10 9).ss 0)) n9 none false v5 hv5 (fun _=>⟨by omega,by omega⟩) false (fun _=>[iv v5]),.rmv g0 n8 v5 n11 hn11 (fun _=>⟨by omega,by omega⟩),.k (iv n10),.k (iv n11)] fun _ _ G17=>?_;intro S_ s_
    refine V.loop (γ:=Int × Int) (fun ⟨guess,rest⟩=>⟨[(8,iv shift),(9,us.v),(10,((G10 9).ss 0).v),(11,iv ((Bg.dig (Bg.nv b * Bg.nv [shift])).length:Int)),(12,qs.v),(13,iv i),(15,iv guess),(16,iv rest)],[fs true (Bg.dig (Bg.nv b * Bg.nv [shift])) ((G10 9).ss 0)],[os true 3 u us,os true 3 q qs]⟩) (fun ⟨guess,rest⟩=>(Bg.Gss (Bg.dig (Bg.nv b * Bg.nv [shift])) u i.toNat guess rest)) (fun ⟨guess,rest⟩=>guess.toNat) (n10,n11) (by kernel_rfl) [0] (by kernel_rfl) ?_ ?_
    · · show Bg.Gss (Bg.dig (Bg.nv b * Bg.nv [shift])) u i.toNat n10 n11;exact Bg.gss_start hdi hvd (by omega) (by omega) (by omega) (t:=n8) (by rw [e_v3,e_v4];omega) (by rw [e_v5,hn10]) (by rw [e_v5,hn11])
    rintro ⟨guess,rest⟩ hF3 kw20 Z3 hZ3;have hf7:Bg.Gss (Bg.dig (Bg.nv b * Bg.nv [shift])) u i.toNat guess rest:=hF3;clear kw20;have hg0:=hf7.g0;have hg1:=hf7.g1;have hr0:=hf7.r0;refine nm (((Bg.dig (Bg.nv b * Bg.nv [shift])).length:Int)-2:Int) fun n12 hn12=>?_;refine nm ((Bg.dig (Bg.nv b * Bg.nv [shift])).getD n12.toNat default:Int) fun v6 hv6=>?_;refine nm (guess * v6:Int) fun n13 hn13=>?_;refine nm (rest * 1048576:Int) fun n14 hn14=>?_;refine nm (i+((Bg.dig (Bg.nv b * Bg.nv [shift])).length:Int):Int) fun n15 hn15=>?_;refine nm (u.getD (n15-2).toNat default:Int) fun v7 hv7=>?_;refine nm (n14+v7:Int) fun n16 hn16=>?_;refine nm ((decide (rest < 1048576)) && (decide (n16 < n13)):Bool) fun p1 hp1=>?_;have e_v6:(Bg.dig (Bg.nv b * Bg.nv [shift])).getD ((Bg.dig (Bg.nv b * Bg.nv [shift])).length-2) 0=v6:=by rw [show (Bg.dig (Bg.nv b * Bg.nv [shift])).length-2=n12.toNat by omega];exact hv6.symm
    have b_v6:=hvd.get' ((Bg.dig (Bg.nv b * Bg.nv [shift])).length-2);rw [e_v6] at b_v6;have e_v7:u.getD (i.toNat+(Bg.dig (Bg.nv b * Bg.nv [shift])).length-2) 0=v7:=by rw [show i.toNat+(Bg.dig (Bg.nv b * Bg.nv [shift])).length-2=(n15-2).toNat by omega];exact hv7.symm
    have b_v7:=hud.get' (i.toNat+(Bg.dig (Bg.nv b * Bg.nv [shift])).length-2);rw [e_v7] at b_v7;have bm:=Bg.gmul ⟨hg0,hg1⟩ b_v6;refine V.g [.k (iv guess),.k (bv (decide (1048576≤guess))),.k (bv (decide (1048576≤guess))),.k (iv rest),.k (bv (decide (rest < 1048576))),.k (bv (decide (rest < 1048576))),.k (iv guess),.k (((G10 9).ss 0).v),.k (iv ((Bg.dig (Bg.nv b * Bg.nv [shift])).length:Int)),.arg ((gF (b:=decide (1048576≤guess)) iDF).T (b:=decide (rest < 1048576)) iDT) (((Bg.dig (Bg.nv b * Bg.nv [shift])).length:Int)-2) n12 hn12 (fun hg=>by omega),.ix ((gF (b:=decide (1048576≤guess)) iDF).T (b:=decide (rest < 1048576)) iDT) (kf true (.f 0) (Bg.dig (Bg.nv b * Bg.nv [shift])) (fun _=>(G10 9).ss 0)) n12 (fun hg=>⟨by omega,by omega⟩),.le ((gF (b:=decide (1048576≤guess)) iDF).T (b:=decide (rest < 1048576)) iDT) (kf true (.f 0) (Bg.dig (Bg.nv b * Bg.nv [shift])) (fun _=>(G10 9).ss 0)) n12 none false v6 hv6 (fun hg=>⟨by omega,by omega⟩) false (fun _=>[iv v6]),.arg ((gF (b:=decide (1048576≤guess)) iDF).T (b:=decide (rest < 1048576)) iDT) (guess * v6) n13 hn13 (fun hg=>by omega),.k (iv rest),.shlm ((gF (b:=decide (1048576≤guess)) iDF).T (b:=decide (rest < 1048576)) iDT) .i64 .u64 rest 20 n14 20 (fun hg=>⟨rfl,by decide,by show _=IntKind.i64.wrap (rest * 1048576);rw [IntKind.wrap_i64];omega⟩),.k (us.v),.k (iv i),.k (iv ((Bg.dig (Bg.nv b * Bg.nv [shift])).length:Int)),.arg ((gF (b:=decide (1048576≤guess)) iDF).T (b:=decide (rest < 1048576)) iDT) (i+((Bg.dig (Bg.nv b * Bg.nv [shift])).length:Int)) n15 hn15 (fun hg=>by omega),.arg ((gF (b:=decide (1048576≤guess)) iDF).T (b:=decide (rest < 1048576)) iDT) (n15-2) (n15-2) rfl (fun hg=>by omega),.ix ((gF (b:=decide (1048576≤guess)) iDF).T (b:=decide (rest < 1048576)) iDT) (ko true 3 0 u (fun _=>us)) (n15-2) (fun hg=>⟨by omega,by omega⟩),.le ((gF (b:=decide (1048576≤guess)) iDF).T (b:=decide (rest < 1048576)) iDT) (ko true 3 0 u (fun _=>us)) (n15-2) none false v7 hv7 (fun hg=>⟨by omega,by omega⟩) false (fun _=>[iv v7]),.orm ((gF (b:=decide (1048576≤guess)) iDF).T (b:=decide (rest < 1048576)) iDT) n14 rest v7 n16 20 (by rw [hn14];rfl) (fun hg=>⟨by decide,by omega,⟨by omega,by show _ < (1048576:Int);omega⟩,by rw [hn16,hn14];rfl,by omega⟩),.k (bv (decide (n16 < n13))),.andn (gF (b:=decide (1048576≤guess)) iDF) false (decide (rest < 1048576)) (decide (n16 < n13)) p1 hp1,.or g0 false (decide (1048576≤guess)) p1] fun _ _ G18=>?_;intro S_ s_
    refine V.cn (b:=(decide (1048576≤guess)) || p1) (iOT iDT (iN hp1 (iAT iDT iDT))) (iOF iDF (iN hp1 (iAF iDF iDF))) (fun q11=>?_) (fun q12=>?_)
    · have hcnd:1048576≤guess∨rest < 1048576∧rest * 1048576+u.getD (i.toNat+(Bg.dig (Bg.nv b * Bg.nv [shift])).length-2) 0 < guess * (Bg.dig (Bg.nv b * Bg.nv [shift])).getD ((Bg.dig (Bg.nv b * Bg.nv [shift])).length-2) 0:=by rw [e_v6,e_v7];omega
      refine V.g [.k (iv guess),.a (guess-1) (by omega) (by omega),.k (iv (guess-1))] fun _ _ G19=>?_;intro S_ s_
      refine nm (((Bg.dig (Bg.nv b * Bg.nv [shift])).length:Int)-1:Int) fun n17 hn17=>?_;refine nm ((Bg.dig (Bg.nv b * Bg.nv [shift])).getD n17.toNat default:Int) fun v8 hv8=>?_;have e_v8:(Bg.dig (Bg.nv b * Bg.nv [shift])).getD ((Bg.dig (Bg.nv b * Bg.nv [shift])).length-1) 0=v8:=by rw [show (Bg.dig (Bg.nv b * Bg.nv [shift])).length-1=n17.toNat by omega];exact hv8.symm
      have b_v8:=hvd.get' ((Bg.dig (Bg.nv b * Bg.nv [shift])).length-1);rw [e_v8] at b_v8;have gq:=Bg.gss_nat hf7 hud hvd;have gq1:=hf7.eq;refine V.g [.k (iv rest),.k (((G10 9).ss 0).v),.k (iv ((Bg.dig (Bg.nv b * Bg.nv [shift])).length:Int)),.ar (((Bg.dig (Bg.nv b * Bg.nv [shift])).length:Int)-1) n17 hn17 (by omega) (by omega),.ix g0 (kf true (.f 0) (Bg.dig (Bg.nv b * Bg.nv [shift])) (fun _=>(G10 9).ss 0)) n17 (fun _=>⟨by omega,by omega⟩),.le g0 (kf true (.f 0) (Bg.dig (Bg.nv b * Bg.nv [shift])) (fun _=>(G10 9).ss 0)) n17 none false v8 hv8 (fun _=>⟨by omega,by omega⟩) false (fun _=>[iv v8]),.a (rest+v8) (by omega) (by omega),.k (iv (rest+v8))] fun _ _ G20=>?_;intro S_ s_
      refine V.rnd hZ3 (guess-1,rest+v8) [0] (by kernel_rfl) ?_ ?_
      · · show Bg.Gss (Bg.dig (Bg.nv b * Bg.nv [shift])) u i.toNat (guess-1) (rest+v8);have hl:=(Bg.gss_less hf7 hdi hvd (by omega) (by omega) (by omega) hcnd).1;rw [e_v8] at hl;rw [show guess-1=guess-1 from rfl];exact hl
      show (guess-1).toNat < guess.toNat;have hl:=(Bg.gss_less hf7 hdi hvd (by omega) (by omega) (by omega) hcnd).2;omega
    have hcnf:¬ 1048576≤guess∧(¬rest < 1048576∨¬ rest * 1048576+u.getD (i.toNat+(Bg.dig (Bg.nv b * Bg.nv [shift])).length-2) 0 < guess * (Bg.dig (Bg.nv b * Bg.nv [shift])).getD ((Bg.dig (Bg.nv b * Bg.nv [shift])).length-2) 0):=by rw [e_v6,e_v7];omega
    refine nm ((u.take (n15+1).toNat).drop i.toNat:List Int) fun l3 hl3=>?_;have hl3n:=congrArg List.length hl3;try simp only [List.length_append,List.length_cons,List.length_nil,List.length_replicate,List.length_set,List.length_take,List.length_drop,List.length_map,List.length_reverse,List.length_range] at hl3n
    refine nm (q.getD i.toNat default:Int) fun v9 hv9=>?_;refine nm (q.set i.toNat (Bg.setG ((u.take (n15+1).toNat).drop i.toNat) (Bg.dig (Bg.nv b * Bg.nv [shift])) guess):List Int) fun l4 hl4=>?_;have hl4n:=congrArg List.length hl4;try simp only [List.length_append,List.length_cons,List.length_nil,List.length_replicate,List.length_set,List.length_take,List.length_drop,List.length_map,List.length_reverse,List.length_range] at hl4n
    have hgE:=Bg.gss_end hf7 hdi hvd (by omega) (by omega) (by omega) hcnf;have hwin:(u.take (n15+1).toNat).drop i.toNat=Bg.win u i.toNat (Bg.dig (Bg.nv b * Bg.nv [shift])).length:=Bg.win_is (by omega);have hwl:=Bg.win_len hdi (by omega);refine V.g [.k (qs.v),.k (iv i),.k (us.v),.k (iv i),.k (iv i),.k (iv ((Bg.dig (Bg.nv b * Bg.nv [shift])).length:Int)),.ar (i+((Bg.dig (Bg.nv b * Bg.nv [shift])).length:Int)) n15 hn15 (by omega) (by omega),.a (n15+1) (by omega) (by omega),.slv g0 (ko true 3 0 u (fun _=>us)) (some i) (some (n15+1)) i (n15+1) rfl rfl (fun _=>⟨by omega,by omega,by omega⟩),.k (((G10 9).ss 0).v),.k (iv guess),.ct g0 11 105 false [0] [] [(kf true (.f 0) (Bg.dig (Bg.nv b * Bg.nv [shift])) (fun _=>(G10 9).ss 0)).a] (fun _ G=>settle_ct u us i.toNat ((n15+1).toNat) (u.take i.toNat) ((u.take (n15+1).toNat).drop i.toNat) (u.drop (n15+1).toNat) (Bg.dig (Bg.nv b * Bg.nv [shift])) ((G10 9).ss 0) guess (cut3 (by omega) (by omega)) (cutlo (by omega)) (cuthi (by omega) (by omega)) (by rw [hwin];exact (hud.drop _).take _) hvd (by rw [hwin,hwl];omega) hgE.1 (by rw [hwin];exact hgE.2.1) (by rw [hwin,hwl];omega)),.ix g0 (ko true 3 1 q (fun _=>qs)) i (fun _=>⟨by omega,by omega⟩),.se g0 13 1 3 true q (fun _=>qs) i none v9 (Bg.setG ((u.take (n15+1).toNat).drop i.toNat) (Bg.dig (Bg.nv b * Bg.nv [shift])) guess) hv9 true l4 hl4 (fun _=>⟨by omega,by omega⟩) (fun _=>rfl) [] (fun _ _ _ _=>trivial)] fun _ _ G21=>?_;intro S_ s_
    refine V.g [.k (iv i),.a (i-1) (by omega) (by omega),.k (iv (i-1))] fun _ _ G22=>?_;intro S_ s_
    refine V.rnd hZ2 ((u.take i.toNat) ++(Bg.setP ((u.take (n15+1).toNat).drop i.toNat) (Bg.dig (Bg.nv b * Bg.nv [shift])) guess) ++(u.drop (n15+1).toNat),us,l4,qs,i-1) [0] (by kernel_rfl) ?_ ?_
    · refine ⟨?_,?_,?_,?_⟩
      · show -1≤(i-1);omega
      · show (i-1) < (l4.length:Int);omega
      · show Bg.DivI (Bg.dig (Bg.nv a * Bg.nv [shift]) ++[0]) (Bg.dig (Bg.nv b * Bg.nv [shift])) ((u.take i.toNat) ++(Bg.setP ((u.take (n15+1).toNat).drop i.toNat) (Bg.dig (Bg.nv b * Bg.nv [shift])) guess) ++(u.drop (n15+1).toNat)) l4 ((i-1)+1).toNat;have hst:=Bg.div_step (x:=(Bg.setG ((u.take (n15+1).toNat).drop i.toNat) (Bg.dig (Bg.nv b * Bg.nv [shift])) guess)) hdi hvd (by omega) hgE.2.2 (by rw [hwin]);rw [hl4,show (i-1+1).toNat=i.toNat by omega];rw [hwin];rw [hwin] at hst;unfold Bg.nxtU at hst;rw [show (n15+1).toNat=i.toNat+(Bg.dig (Bg.nv b * Bg.nv [shift])).length+1 by omega];exact hst
      show l4.length+(Bg.dig (Bg.nv b * Bg.nv [shift])).length≤a.length+2;omega
    show ((i-1)+1).toNat < (i+1).toNat;omega
  have hen:=hf5;rw [show (i+1).toNat=0 by omega] at hen;obtain ⟨hdv1,hdv2⟩:=Bg.dvals (s:=Bg.nv [shift]) (A:=Bg.nv a) (B:=Bg.nv b) hen hS0 (by rw [Bg.nv_app0,Bg.nv_dig]) (by rw [Bg.nv_dig]);have hul:=hen.len;have hud2:=hen.dg;have hqd2:=hen.qd;have hud3:=Bg.dig_le hud2;refine V.frz 0 true 3 u us (by kernel_rfl) ?_;refine V.r [.k (us.v),.ctT g0 1 100 [(kf true (.f 1) u (fun _=>us)).a] (fun _ G=>trim_ct u us hud2),.k (iv shift),.ct g0 3 104 false [] [] [(kf true (.g 1 0) (Bg.dig (Bg.nv u)) (fun G=>(G 1).ss 0)).a] (fun _ G=>short_ct (Bg.dig (Bg.nv u)) ((G 1).ss 0) shift (Bg.dig_Dg _) (by omega) (by omega)),.v fun G=>.tuple #[((G 3).ss 0).v,iv ((Bg.nv (Bg.dig (Bg.nv u)) % shift.toNat:Nat):Int)],.v fun G=>((G 3).ss 0).v,.k (iv ((Bg.nv (Bg.dig (Bg.nv u)) % shift.toNat:Nat):Int)),.v fun G=>((G 3).ss 0).v,.k (iv ((Bg.nv (Bg.dig (Bg.nv u)) % shift.toNat:Nat):Int))] fun _ _ G23 kw26=>?_;intro S_ s_
  obtain ⟨⟨kl13, -⟩,⟨kl14, -⟩, -⟩:Lq (Bg.dig (Bg.nv u)) (((G23 1).ss 0).v)∧Lq (Bg.dig (Bg.nv (Bg.dig (Bg.nv u)) / shift.toNat)) (((G23 3).ss 0).v)∧Lq q qs.v∧True:=kq kw26;clear kw26;refine V.frz 1 true 3 q qs (by kernel_rfl) ?_;refine V.r [.k (qs.v),.ctT g0 1 100 [(kf true (.f 4) q (fun _=>qs)).a] (fun _ G=>trim_ct q qs hqd2),.k (((G23 3).ss 0).v),.v fun G=>((G 1).ss 0).v,.k (((G23 3).ss 0).v)] fun _ _ G24 kw27=>?_;intro S_ s_;obtain ⟨⟨kl15, -⟩, -⟩:Lq (Bg.dig (Bg.nv q)) (((G24 1).ss 0).v)∧True:=kq kw27;clear kw27;have e0:Bg.dig (Bg.nv q)=Bg.dig (Bg.nv a / Bg.nv b):=by rw [hdv1]
  rw [←e0];have e1:Bg.dig (Bg.nv (Bg.dig (Bg.nv u)) / shift.toNat)=Bg.dig (Bg.nv a % Bg.nv b):=by rw [Bg.nv_dig,← enS,hdv2]
  rw [←e1];exact V.rs [0,0] [(G24 1).ss 0,(G23 3).ss 0] [fun _=>{},fun _=>{}] [] [5,3] [] (.tuple #[((G24 1).ss 0).v,((G23 3).ss 0).v])
theorem div_ctv (a:List Int) (as_:SV) (b:List Int) (bs:SV) (hda:Bg.Dg a) (hdb:Bg.Dg b) (hza:Bg.Nz a) (hzb:Bg.Nz b) (hnb:b≠[]) (hla:a.length≤549755813888) (hlb:b.length≤549755813888) (rv0:List Int) (erv0:rv0=Bg.dig (Bg.nv a / Bg.nv b)) (rv1:List Int) (erv1:rv1=Bg.dig (Bg.nv a % Bg.nv b)) :
    Ct Try.prog 88 #[as_.v,bs.v] [fs true a as_,fs true b bs] [] (fun g=>.tuple #[((g.ss 0)).v,((g.ss 1)).v]) (fun g=>[fs true rv0 (g.ss 0),fs true rv1 (g.ss 1)]) (fun g=>[]) (fun g=>[]):=by
  subst erv0 erv1;exact div_ct a as_ b bs hda hdb hza hzb hnb hla hlb
end Kb
