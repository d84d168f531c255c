/- Texts for the claim, put together: the calculus of regions, its rules, and contracts of the functions that the law reaches. -/
import Derived.Test.YtmopocojkojdbaaGreatZZwc
set_option linter.unusedVariables false
set_option linter.unusedSectionVars false
set_option linter.unusedSimpArgs false
namespace Kb
open Go
namespace Un
open Fr Bg
abbrev U:=List Int × Rat
def dv (o:Option U) (i:Nat):Int:=(o.getD ([],0)).1.getD i 0
def fv (o:Option U):Rat:=(o.getD ([],0)).2
theorem dv_s {o:Option U} {d:List Int} {r:Rat} (h:o=some (d,r)) (i:Nat):dv o i=d.getD i 0:=by subst h;rfl
theorem fv_s {o:Option U} {d:List Int} {r:Rat} (h:o=some (d,r)):fv o=r:=by subst h;rfl
theorem is_s {o:Option U} {u:U} (h:o=some u):o.isSome=true:=by subst h;rfl
theorem dv_n {o:Option U} (h:o=none) (i:Nat):dv o i=0:=by subst h;simp [dv]
theorem is_n {o:Option U} (h:o=none):¬ o.isSome=true:=by subst h;simp
theorem some_of {o:Option U} (h:o.isSome=true):o=some ((o.getD ([],0)).1,fv o):=by
  obtain ⟨x,rfl⟩:=Option.isSome_iff_exists.1 h;rfl
def sl:List (ByteArray × U):=[(⟨#[103]⟩,[1,0,0,0,0,0],Rat.divInt 1 1),(⟨#[116]⟩,[1,0,0,0,0,0],Rat.divInt 1000000 1),(⟨#[109]⟩,[0,1,0,0,0,0],Rat.divInt 1 1),(⟨#[108]⟩,[0,3,0,0,0,0],Rat.divInt 1 1000),
  (⟨#[115]⟩,[0,0,1,0,0,0],Rat.divInt 1 1),(⟨#[104]⟩,[0,0,1,0,0,0],Rat.divInt 3600 1),(⟨#[100]⟩,[0,0,1,0,0,0],Rat.divInt 86400 1),(⟨#[74]⟩,[0,0,0,1,0,0],Rat.divInt 1 1),(⟨#[87,104]⟩,[0,0,0,1,0,0],Rat.divInt 3600 1),
  (⟨#[99,101,110,116]⟩,[0,0,0,0,1,0],Rat.divInt 1 1),(⟨#[101,117,114]⟩,[0,0,0,0,1,0],Rat.divInt 100 1),(⟨#[112,99]⟩,[0,0,0,0,0,1],Rat.divInt 1 1)]
def look:List (ByteArray × U)→ByteArray→Option U
  | [],_=>none
  | x :: l,s=>if s=x.1 then some x.2 else look l s
def sym (s:ByteArray):Option U:=look sl s
theorem look_mem {s:ByteArray} {u:U}:∀ {l:List (ByteArray × U)},look l s=some u→(s,u) ∈ l
  | [],h=>by cases h
  | x :: l,h=>by
    unfold look at h
    split at h
    · rename_i e;obtain rfl:=Option.some.inj h;subst e;exact List.mem_cons_self
    · exact List.mem_cons_of_mem _ (look_mem h)
theorem look_no {s:ByteArray}:∀ {l:List (ByteArray × U)},(∀ x ∈ l,¬ s=x.1)→look l s=none
  | [],_=>rfl
  | x :: l,h=>by
    unfold look
    rw [if_neg (h x List.mem_cons_self)]
    exact look_no fun y hy=>h y (List.mem_cons_of_mem _ hy)
theorem sym_no {s:ByteArray} (h1:¬ s=⟨#[103]⟩) (h2:¬ s=⟨#[116]⟩) (h3:¬ s=⟨#[109]⟩) (h4:¬ s=⟨#[108]⟩) (h5:¬ s=⟨#[115]⟩) (h6:¬ s=⟨#[104]⟩) (h7:¬ s=⟨#[100]⟩) (h8:¬ s=⟨#[74]⟩) (h9:¬ s=⟨#[87,104]⟩)
    (h10:¬ s=⟨#[99,101,110,116]⟩) (h11:¬ s=⟨#[101,117,114]⟩) (h12:¬ s=⟨#[112,99]⟩):sym s=none:=by
  refine look_no fun x hx=>?_
  simp only [sl,List.mem_cons,List.not_mem_nil,or_false] at hx
  rcases hx with rfl | rfl | rfl | rfl | rfl | rfl | rfl | rfl | rfl | rfl | rfl | rfl <;> assumption
def ok (u:U) (k:Nat):Prop:=u.1.length=6∧(∀ x ∈ u.1, -3≤x∧x≤3)∧0 < u.2∧Hb u.2 k
instance (r : Rat) (k : Nat) : Decidable (Hb r k) := by unfold Hb; infer_instance
instance (u : U) (k : Nat) : Decidable (ok u k) := by unfold ok; infer_instance
theorem sl_ok:∀ x ∈ sl,ok x.2 1:=by decide +kernel
theorem sym_ok {s:ByteArray} {u:U} (h:sym s=some u):ok u 1:=sl_ok _ (look_mem h)
def pre (c:Int):Option (Int × Int):=if c=107 then some (1000,1) else if c=77 then some (1000000,1) else if c=71 then some (1000000000,1) else if c=109 then some (1,1000) else none
def pp (o:Option (Int × Int)):Int:=(o.getD (0,0)).1
def pq (o:Option (Int × Int)):Int:=(o.getD (0,0)).2
theorem pre_ok {c:Int} (h:(pre c).isSome=true):(0 < pp (pre c)∧pp (pre c)≤1000000000)∧0 < pq (pre c)∧pq (pre c)≤1000:=by
  unfold pre at h ⊢
  split
  · decide
  · split
    · decide
    · split
      · decide
      · split
        · decide
        · rename_i h1 h2 h3 h4
          rw [if_neg h1,if_neg h2,if_neg h3,if_neg h4] at h;cases h
def pf (s:ByteArray):Prop:=((((s=⟨#[103]⟩∨s=⟨#[109]⟩)∨s=⟨#[108]⟩)∨s=⟨#[115]⟩)∨s=⟨#[74]⟩)∨s=⟨#[87,104]⟩
instance (s : ByteArray) : Decidable (pf s) := by unfold pf; infer_instance
def wdB (s:ByteArray):Prop:=(pre (((bl s).getD 0 default).toNat:Int)).isSome=true∧(sym (s.extract 1 s.size)).isSome=true∧pf (s.extract 1 s.size)
instance (s : ByteArray) : Decidable (wdB s) := by unfold wdB; infer_instance
def wd (s:ByteArray):Option U:=if wdB s then some (((sym (s.extract 1 s.size)).getD ([],0)).1,fv (sym (s.extract 1 s.size)) * Rat.divInt (pp (pre (((bl s).getD 0 default).toNat:Int))) (pq (pre (((bl s).getD 0 default).toNat:Int)))) else none
def word (s:ByteArray):Option U:=if (sym s).isSome=true then sym s else wd s
theorem word_y {s:ByteArray} (h:(sym s).isSome=true):word s=sym s:=if_pos h
theorem word_n {s:ByteArray} (h:¬ (sym s).isSome=true) (k:¬ wdB s):word s=none:=by unfold word wd;rw [if_neg h,if_neg k]
theorem word_p {s:ByteArray} (h:¬ (sym s).isSome=true) (k:wdB s):word s=some (((sym (s.extract 1 s.size)).getD ([],0)).1,fv (sym (s.extract 1 s.size)) * Rat.divInt (pp (pre (((bl s).getD 0 default).toNat:Int))) (pq (pre (((bl s).getD 0 default).toNat:Int)))):=by unfold word wd;rw [if_neg h,if_pos k]
theorem divI_pos {p q:Int} (hp:0 < p) (hq:0 < q):0 < Rat.divInt p q:=by
  have h:=(Fr.red (n:=p) hq).1
  have hg:0 < Nat.gcd p.natAbs q.natAbs:=Nat.gcd_pos_of_pos_left _ (by omega)
  have hd:((Nat.gcd p.natAbs q.natAbs:Nat):Int) ∣ p:=Int.dvd_natAbs.1 (Int.natCast_dvd_natCast.2 (Nat.gcd_dvd_left _ _))
  have hp':=Int.ediv_pos_of_pos_of_dvd hp (by omega) hd
  rw [←Fr.sgn_num.2.2,h]
  generalize p / ((Nat.gcd p.natAbs q.natAbs:Nat):Int)=x at hp'
  unfold Bg.sgn;omega
theorem word_ok {s:ByteArray} {u:U} (h:word s=some u):ok u 4:=by
  by_cases hs:(sym s).isSome=true
  · rw [word_y hs] at h
    obtain ⟨a,b,c,d⟩:=sym_ok h
    exact ⟨a,b,c,d.mono (by omega)⟩
  · by_cases hk:wdB s
    · rw [word_p hs hk] at h
      obtain rfl:=Option.some.inj h
      obtain ⟨a,b,c,d⟩:=sym_ok (some_of hk.2.1)
      obtain ⟨⟨h1,h2⟩,h3,h4⟩:=pre_ok hk.1
      refine ⟨a,b,Rat.mul_pos c (divI_pos h1 h3),?_⟩
      refine (d.mul (Hb.divI (k:=3) (by omega) ?_ ?_))
      · have:(1048576:Nat) ^ 3=1152921504606846976:=by decide
        omega
      · have:(1048576:Nat) ^ 3=1152921504606846976:=by decide
        omega
    · rw [word_n hs hk] at h;cases h
def tmN (a f:Rat) (p:Prop) [Decidable p]:Nat→Rat
  | 0=>a
  | n+1=>if p then tmN a f p n * f else tmN a f p n / f
def tm (a f:Rat) (e:Int):Rat:=tmN a f (0 < e) e.natAbs
theorem tmN_y {a f:Rat} {p:Prop} [Decidable p] (h:p) (n:Nat):tmN a f p (n+1)=tmN a f p n * f:=by rw [tmN,if_pos h]
theorem tmN_n {a f:Rat} {p:Prop} [Decidable p] (h:¬ p) (n:Nat):tmN a f p (n+1)=tmN a f p n / f:=by rw [tmN,if_neg h]
theorem tmN_hb {a f:Rat} {p:Prop} [Decidable p] {i j:Nat} (ha:Hb a i) (hf:Hb f j):∀ n,Hb (tmN a f p n) (i+n * j)
  | 0=>by rw [Nat.zero_mul];exact ha
  | n+1=>by
    have ih:=tmN_hb (p:=p) ha hf n
    rw [tmN,show i+(n+1) * j=i+n * j+j by rw [Nat.succ_mul,Nat.add_assoc]]
    split
    · exact ih.mul hf
    · exact ih.div hf
theorem tm_hb {a f:Rat} {e:Int} {i j:Nat} (ha:Hb a i) (hf:Hb f j) (he: -9≤e∧e≤9):Hb (tm a f e) (i+9 * j):=by
  refine (tmN_hb ha hf _).mono ?_
  have:e.natAbs * j≤9 * j:=Nat.mul_le_mul_right _ (by omega)
  omega
def ltr (c:Int):Prop:=(97≤c∧c≤122)∨(65≤c∧c≤90)
instance (c : Int) : Decidable (ltr c) := by unfold ltr; infer_instance
def nlL:List UInt8→Nat
  | []=>0
  | c :: l=>if ltr (c.toNat:Int) then nlL l+1 else 0
def nl (s:ByteArray):Nat:=nlL (bl s)
theorem nlL_at:∀ {l:List UInt8} {n:Nat},n≤l.length→(∀ j,j < n→ltr ((l.getD j default).toNat:Int))→(n=l.length∨¬ ltr ((l.getD n default).toNat:Int))→nlL l=n
  | [],n,hn,_,_=>by simp at hn;subst hn;rfl
  | c :: l,0,_,_,h=>by
    rcases h with h | h
    · simp at h
    · unfold nlL;rw [if_neg (by simpa using h)]
  | c :: l,n+1,hn,hj,h=>by
    unfold nlL
    rw [if_pos (by simpa using hj 0 (by omega)),nlL_at (by simpa using hn) (fun j hj'=>by have:=hj (j+1) (by omega);simpa using this) (by simpa using h)]
theorem nlL_le:∀ (l:List UInt8),nlL l≤l.length
  | []=>Nat.le_refl _
  | c :: l=>by unfold nlL;have:=nlL_le l;split <;> simp <;> omega
theorem nl_le (s:ByteArray):nl s≤s.size:=by have:=nlL_le (bl s);rw [bl_len] at this;exact this
theorem nl_at {s:ByteArray} {n:Nat} (hn:n≤s.size) (hj:∀ j,j < n→ltr (((bl s).getD j default).toNat:Int)) (h:n=s.size∨¬ ltr (((bl s).getD n default).toNat:Int)):nl s=n :=
  nlL_at (by rw [bl_len];exact hn) hj (by rw [bl_len];exact h)
def rest (s:ByteArray):ByteArray:=s.extract (nl s) s.size
def num (t:ByteArray):Prop:=(¬t=ByteArray.empty∧50≤(((bl t).getD 0 default).toNat:Int))∧(((bl t).getD 0 default).toNat:Int)≤57
instance (t : ByteArray) : Decidable (num t) := by unfold num; infer_instance
def cuW (s:ByteArray):ByteArray:=s.extract 0 (nl s)
def cuE (s:ByteArray):Int:=if num (rest s) then (((bl (rest s)).getD 0 default).toNat:Int) - 48 else 1
def cuR (s:ByteArray):ByteArray:=if num (rest s) then (rest s).extract 1 (rest s).size else rest s
theorem cuE_rg (s:ByteArray):1≤cuE s∧cuE s≤9:=by
  unfold cuE;split
  · rename_i h;obtain ⟨⟨_,h1⟩,h2⟩:=h;omega
  · omega
theorem cuR_size (s:ByteArray):(cuR s).size≤s.size - nl s:=by
  have h1:=nl_le s
  have h2:(rest s).size=s.size - nl s:=by unfold rest;rw [ByteArray.size_extract];omega
  unfold cuR;split
  · rw [ByteArray.size_extract];omega
  · omega
theorem cuW_size (s:ByteArray):(cuW s).size=nl s:=by
  have h1:=nl_le s
  unfold cuW;rw [ByteArray.size_extract];omega
def itm (c:UInt8) (t:ByteArray):Ditem:=⟨cuW t,if (c.toNat:Int)=47 then -cuE t else cuE t⟩
def good (r:ByteArray):Prop:=0 < nl (r.extract 1 r.size)∧((((bl r).getD 0 default).toNat:Int)=42∨(((bl r).getD 0 default).toNat:Int)=47)
instance (r : ByteArray) : Decidable (good r) := by unfold good; infer_instance
def itN:Nat→ByteArray→Option (List Ditem)
  | 0,_=>some []
  | n+1,r=>if r=ByteArray.empty then some [] else if good r then (itN n (cuR (r.extract 1 r.size))).map (itm ((bl r).getD 0 default) (r.extract 1 r.size) :: ·) else none
def it (r:ByteArray):Option (List Ditem):=itN r.size r
theorem itN_fuel:∀ (n m:Nat) (r:ByteArray),r.size≤n→r.size≤m→itN n r=itN m r
  | 0,0,_,_,_=>rfl
  | 0,m+1,r,h,_=>by
    have h0:r=ByteArray.empty:=Classical.byContradiction fun e=>Dm.size_ne e (by omega)
    unfold itN;rw [if_pos h0]
  | n+1,0,r,_,h=>by
    have h0:r=ByteArray.empty:=Classical.byContradiction fun e=>Dm.size_ne e (by omega)
    unfold itN;rw [if_pos h0]
  | n+1,m+1,r,h1,h2=>by
    unfold itN
    by_cases h0:r=ByteArray.empty
    · rw [if_pos h0,if_pos h0]
    · rw [if_neg h0,if_neg h0]
      have hs:=Dm.size_ne h0
      have h3:=cuR_size (r.extract 1 r.size)
      rw [ByteArray.size_extract] at h3
      rw [itN_fuel n m _ (by omega) (by omega)]
theorem it_end {r:ByteArray} (h:r=ByteArray.empty):it r=some []:=by subst h;rfl
theorem it_bad {r:ByteArray} (h:¬ r=ByteArray.empty) (k:¬ good r):it r=none:=by
  have hs:=Dm.size_ne h
  unfold it
  obtain ⟨n,hn⟩:∃ n,r.size=n+1:=⟨r.size - 1,by omega⟩
  rw [hn,itN,if_neg h,if_neg k]
theorem it_step {r:ByteArray} (h:¬ r=ByteArray.empty) (k:good r):it r=(it (cuR (r.extract 1 r.size))).map (itm (((bl r).getD 0 default)) (r.extract 1 r.size) :: ·):=by
  have hs:=Dm.size_ne h
  have h3:=cuR_size (r.extract 1 r.size)
  rw [ByteArray.size_extract] at h3
  have e:it r=itN r.size r:=rfl
  rw [e]
  obtain ⟨n,hn⟩:∃ n,r.size=n+1:=⟨r.size - 1,by omega⟩
  rw [hn,itN,if_neg h,if_pos k,← hn]
  unfold it
  rw [itN_fuel n _ _ (by omega) (Nat.le_refl _)]
def itA (out:List Ditem) (r:ByteArray):Option (List Ditem):=(it r).map (out ++·)
theorem itA_nil (r:ByteArray):itA [] r=it r:=by
  unfold itA;cases it r <;> simp
theorem itA_end {r:ByteArray} {out:List Ditem} (h:r=ByteArray.empty):itA out r=some out:=by unfold itA;rw [it_end h];simp
theorem itA_bad {r:ByteArray} {out:List Ditem} (h:¬ r=ByteArray.empty) (k:¬ good r):itA out r=none:=by unfold itA;rw [it_bad h k];rfl
theorem itA_step {r t:ByteArray} {out:List Ditem} {x:Ditem} (h:¬ r=ByteArray.empty) (k:good r) (ht:t=r.extract (1:Int).toNat (r.size:Int).toNat) (hx:x=itm ((bl r).getD 0 default) t):itA (out ++[x]) (cuR t)=itA out r:=by
  have ht':t=r.extract 1 r.size:=ht
  unfold itA
  rw [it_step h k,← ht',← hx]
  cases it (cuR t) <;> simp
def start (s:ByteArray):ByteArray:=if Dm.cpB s ⟨#[49]⟩ then Dm.cpR s ⟨#[49]⟩ else ⟨#[42]⟩ ++s
def items (s:ByteArray):Option (List Ditem):=if s=ByteArray.empty then some [] else if 40 < s.size then none else it (start s)
theorem items_nil {s:ByteArray} (h:s=ByteArray.empty):items s=some []:=if_pos h
theorem items_far {s:ByteArray} (h:¬ s=ByteArray.empty) (k:40 < s.size):items s=none:=by unfold items;rw [if_neg h,if_pos k]
theorem items_is {s:ByteArray} (h:¬ s=ByteArray.empty) (k:¬ 40 < s.size):items s=itA [] (start s):=by unfold items;rw [if_neg h,if_neg k,itA_nil]
theorem start_size {s:ByteArray}:(start s).size≤s.size+1:=by
  unfold start;split
  · have:=Dm.cpR_size (s:=s) (p:=⟨#[49]⟩);omega
  · rw [ByteArray.size_append];have:(⟨#[42]⟩:ByteArray).size=1:=rfl;omega
def addD (a b:List Int) (e:Int):List Int:=[a.getD 0 0+b.getD 0 0 * e,a.getD 1 0+b.getD 1 0 * e,a.getD 2 0+b.getD 2 0 * e,a.getD 3 0+b.getD 3 0 * e,a.getD 4 0+b.getD 4 0 * e,a.getD 5 0+b.getD 5 0 * e]
def acc:List Ditem→U→Option U
  | [],u=>some u
  | x :: l,u=>if (word x.word).isSome=true then acc l (addD u.1 ((word x.word).getD ([],0)).1 x.exp,tm u.2 (fv (word x.word)) x.exp) else none
theorem acc_drop {l:List Ditem} {k:Nat} {u:U} (h:k < l.length):acc (l.drop k) u=if (word (l.getD k default).word).isSome=true then acc (l.drop (k+1)) (addD u.1 ((word (l.getD k default).word).getD ([],0)).1 (l.getD k default).exp,tm u.2 (fv (word (l.getD k default).word)) (l.getD k default).exp) else none:=by
  rw [List.drop_eq_getElem_cons h,acc]
  have:l.getD k default=l[k]:=by simp [List.getD_eq_getElem?_getD,h]
  rw [this]
def fin (o:Option U):Option U × Int:=if o.isSome=true then (if Dm.Rt (o.getD ([],0)).1 then (o,0) else (none,3)) else (none,11)
def read (s:ByteArray):Option U × Int:=if (items s).isSome=true then fin (acc ((items s).getD []) ([0,0,0,0,0,0],1)) else (none,12)
theorem read_syn {s:ByteArray} (h:¬ (items s).isSome=true):read s=(none,12):=if_neg h
theorem read_nam {s:ByteArray} (h:(items s).isSome=true) (k:acc ((items s).getD []) ([0,0,0,0,0,0],1)=none):read s=(none,11):=by unfold read;rw [if_pos h,k];rfl
theorem read_rng {s:ByteArray} {d:List Int} {r:Rat} (h:(items s).isSome=true) (k:acc ((items s).getD []) ([0,0,0,0,0,0],1)=some (d,r)) (hd:¬ Dm.Rt d):read s=(none,3):=by unfold read fin;rw [if_pos h,k,if_pos (show (some (d,r)).isSome=true from rfl)];exact if_neg hd
theorem read_ok {s:ByteArray} {d:List Int} {r:Rat} (h:(items s).isSome=true) (k:acc ((items s).getD []) ([0,0,0,0,0,0],1)=some (d,r)) (hd:Dm.Rt d):read s=(some (d,r),0):=by unfold read fin;rw [if_pos h,k,if_pos (show (some (d,r)).isSome=true from rfl)];exact if_pos hd
def itOk (x:Ditem):Prop:=0 < x.word.size∧ -9≤x.exp∧x.exp≤9
theorem itm_ok {c:UInt8} {t:ByteArray} (h:0 < nl t):itOk (itm c t):=by
  have h1:=cuW_size t
  have h2:=cuE_rg t
  refine ⟨by show 0 < (cuW t).size;omega,?_⟩
  show -9≤(if (c.toNat:Int)=47 then -cuE t else cuE t)∧(if (c.toNat:Int)=47 then -cuE t else cuE t)≤9
  split <;> omega
theorem it_ok:∀ (n:Nat) (r:ByteArray) (l:List Ditem),itN n r=some l→l.length≤r.size∧∀ x ∈ l,itOk x
  | 0,r,l,h=>by obtain rfl:=Option.some.inj h;exact ⟨by simp,fun x hx=>by cases hx⟩
  | n+1,r,l,h=>by
    unfold itN at h
    split at h
    · obtain rfl:=Option.some.inj h;exact ⟨by simp,fun x hx=>by cases hx⟩
    · rename_i hne
      split at h
      · rename_i hg
        obtain ⟨m,hm,rfl⟩:=Option.map_eq_some_iff.1 h
        obtain ⟨h1,h2⟩:=it_ok n _ m hm
        have h3:=cuR_size (r.extract 1 r.size)
        rw [ByteArray.size_extract] at h3
        have hs:=Dm.size_ne hne
        refine ⟨by simp;omega,fun x hx=>?_⟩
        rcases List.mem_cons.1 hx with rfl | hx
        · exact itm_ok hg.1
        · exact h2 x hx
      · cases h
theorem items_ok {s:ByteArray} {l:List Ditem} (h:items s=some l):l.length≤41∧∀ x ∈ l,itOk x:=by
  unfold items at h
  split at h
  · obtain rfl:=Option.some.inj h;exact ⟨by simp,fun x hx=>by cases hx⟩
  · split at h
    · cases h
    · obtain ⟨h1,h2⟩:=it_ok _ _ l h
      have:=start_size (s:=s)
      exact ⟨by omega,h2⟩
theorem its {s:ByteArray} (h:(items s).isSome=true):items s=some ((items s).getD []):=by
  obtain ⟨x,hx⟩:=Option.isSome_iff_exists.1 h
  rw [hx];rfl
theorem mul27 {x e:Int} (h: -3≤x∧x≤3) (k: -9≤e∧e≤9): -27≤x * e∧x * e≤27:=by
  have h1:(x * e).natAbs≤27:=by
    rw [Int.natAbs_mul]
    have:x.natAbs * e.natAbs≤3 * 9:=Nat.mul_le_mul (by omega) (by omega)
    omega
  omega
def R27 (k o:Int):Prop:= -27 * k≤o∧o≤27 * k
theorem R27.mul {x e n:Int} (h: -3≤x∧x≤3) (k: -9≤e∧e≤9) (hn:n=x * e):R27 1 n:=by
  have:=mul27 h k
  unfold R27;omega
theorem R27.r64 {n:Int} (h:R27 1 n): -9223372036854775808≤n∧n≤9223372036854775807:=by unfold R27 at h;omega
theorem R27.a64 {n o k:Int} (a:R27 k o) (h:R27 1 n) (hk:0≤k∧k≤41): -9223372036854775808≤o+n∧o+n≤9223372036854775807:=by unfold R27 at h a;omega
theorem R27.add {n o k:Int} (a:R27 k o) (h:R27 1 n):R27 (k+1) (o+n):=by unfold R27 at h a ⊢;omega
theorem R27.zero:R27 0 0:=by unfold R27;omega
theorem dv_rg {o:Option U} {k:Nat} (h:∀ u,o=some u→ok u k) (i:Nat): -3≤dv o i∧dv o i≤3:=by
  unfold dv
  cases o with
  | none=>simp
  | some u =>
    obtain ⟨_,h2,_⟩:=h u rfl
    show -3≤u.1.getD i 0∧u.1.getD i 0≤3
    by_cases hi:i < u.1.length
    · rw [List.getD_eq_getElem?_getD,List.getElem?_eq_getElem hi];exact h2 _ (List.getElem_mem hi)
    · rw [List.getD_eq_getElem?_getD,List.getElem?_eq_none (by omega)];simp
theorem word_rg (w:ByteArray) (i:Nat): -3≤dv (word w) i∧dv (word w) i≤3:=dv_rg (k:=4) (fun _ h=>word_ok h) i
end Un

open Go Go.Proofs
set_option maxRecDepth 10000 in
theorem uof0_ct (exp p q:Int) (hp: -9223372036854775808≤p∧p≤9223372036854775807) (hq: -9223372036854775808≤q∧q≤9223372036854775807) (hq0:q≠0) :
    Ct Tryz.prog 161 #[iv 0,iv exp,iv p,iv q] [] [] (fun g=>.agg #[iv exp,iv 0,iv 0,iv 0,iv 0,iv 0,iv (Fr.rS (q≠0) (Rat.divInt p q)),((g.ss 0)).v,iv (Fr.rT (q≠0)),((g.ss 1)).v]) (fun g=>[fs true (Fr.rD (q≠0) (Rat.divInt p q)) (g.ss 0),fs true (Fr.rE (q≠0) (Rat.divInt p q)) (g.ss 1)]) (fun g=>[]) (fun g=>[]):=by
  refine V.fo mo Tryz.func161 22 2 fun w H ε k0=>?_;clear k0
  refine V.gf [.n 0] fun _ _ G1=>?_;intro S_ s_
  refine V.gf [.n 1] fun _ _ G2=>?_;intro S_ s_
  refine V.gf [.u 4,.s 1] fun _ _ G3=>?_;intro S_ s_
  refine nm (Fr.rS (q≠0) (Rat.divInt p q):Int) fun n1 hn1=>?_;refine nm (Fr.rD (q≠0) (Rat.divInt p q):List Int) fun l1 hl1=>?_;refine nm (Fr.rT (q≠0):Int) fun n2 hn2=>?_;refine nm (Fr.rE (q≠0) (Rat.divInt p q):List Int) fun l2 hl2=>?_;refine nm (if q=0 then (15:Int) else 0:Int) fun n3 hn3=>?_;have zo:=Fr.Fz.of hq0 hn1 hl1 hn2 hl2
  refine V.gf [.u 2,.cA 2 34 [] fun G=>fof_ctv p q (by omega) (by omega) n1 hn1 l1 hl1 n2 hn2 l2 hl2 n3 hn3,.u 4,.s 1] fun _ _ G4=>?_;intro S_ s_
  refine V.gf [.l 1,.s 0] fun _ _ G5=>?_;intro S_ s_
  have e7:l1=Fr.rD (q≠0) (Rat.divInt p q):=(Fr.Fz.ret zo hq0 rfl).2.1;subst e7;have e9:l2=Fr.rE (q≠0) (Rat.divInt p q):=(Fr.Fz.ret zo hq0 rfl).2.2.2;subst e9;have e6:n1=Fr.rS (q≠0) (Rat.divInt p q):=(Fr.Fz.ret zo hq0 rfl).1;have e8:n2=Fr.rT (q≠0):=(Fr.Fz.ret zo hq0 rfl).2.2.1;exact V.rT [0] [(G4 2).ss 0,(G4 2).ss 1] [] [] [0,1] [] (cong2 (fun (xz6 xz8:Int)=>(.agg #[iv exp,iv 0,iv 0,iv 0,iv 0,iv 0,iv xz6,((G4 2).ss 0).v,iv xz8,((G4 2).ss 1).v]:Value)) e6 e8)
theorem uof0_ctv (exp p q:Int) (hp: -9223372036854775808≤p∧p≤9223372036854775807) (hq: -9223372036854775808≤q∧q≤9223372036854775807) (hq0:q≠0) (rv6:Int) (erv6:rv6=Fr.rS (q≠0) (Rat.divInt p q)) (rv7:List Int) (erv7:rv7=Fr.rD (q≠0) (Rat.divInt p q)) (rv8:Int) (erv8:rv8=Fr.rT (q≠0)) (rv9:List Int) (erv9:rv9=Fr.rE (q≠0) (Rat.divInt p q)) :
    Ct Tryz.prog 161 #[iv 0,iv exp,iv p,iv q] [] [] (fun g=>.agg #[iv exp,iv 0,iv 0,iv 0,iv 0,iv 0,iv rv6,((g.ss 0)).v,iv rv8,((g.ss 1)).v]) (fun g=>[fs true rv7 (g.ss 0),fs true rv9 (g.ss 1)]) (fun g=>[]) (fun g=>[]):=by
  subst erv6 erv7 erv8 erv9;exact uof0_ct exp p q hp hq hq0
set_option maxRecDepth 10000 in
theorem uof1_ct (exp p q:Int) (hp: -9223372036854775808≤p∧p≤9223372036854775807) (hq: -9223372036854775808≤q∧q≤9223372036854775807) (hq0:q≠0) :
    Ct Tryz.prog 161 #[iv 1,iv exp,iv p,iv q] [] [] (fun g=>.agg #[iv 0,iv exp,iv 0,iv 0,iv 0,iv 0,iv (Fr.rS (q≠0) (Rat.divInt p q)),((g.ss 0)).v,iv (Fr.rT (q≠0)),((g.ss 1)).v]) (fun g=>[fs true (Fr.rD (q≠0) (Rat.divInt p q)) (g.ss 0),fs true (Fr.rE (q≠0) (Rat.divInt p q)) (g.ss 1)]) (fun g=>[]) (fun g=>[]):=by
  refine V.fo mo Tryz.func161 22 2 fun w H ε k0=>?_;clear k0
  refine V.gf [.n 0] fun _ _ G1=>?_;intro S_ s_
  refine V.gf [.n 1] fun _ _ G2=>?_;intro S_ s_
  refine V.gf [.u 4,.s 1] fun _ _ G3=>?_;intro S_ s_
  refine nm (Fr.rS (q≠0) (Rat.divInt p q):Int) fun n1 hn1=>?_;refine nm (Fr.rD (q≠0) (Rat.divInt p q):List Int) fun l1 hl1=>?_;refine nm (Fr.rT (q≠0):Int) fun n2 hn2=>?_;refine nm (Fr.rE (q≠0) (Rat.divInt p q):List Int) fun l2 hl2=>?_;refine nm (if q=0 then (15:Int) else 0:Int) fun n3 hn3=>?_;have zo:=Fr.Fz.of hq0 hn1 hl1 hn2 hl2
  refine V.gf [.u 2,.cA 2 34 [] fun G=>fof_ctv p q (by omega) (by omega) n1 hn1 l1 hl1 n2 hn2 l2 hl2 n3 hn3,.u 4,.s 1] fun _ _ G4=>?_;intro S_ s_
  refine V.gf [.l 1,.s 0] fun _ _ G5=>?_;intro S_ s_
  have e7:l1=Fr.rD (q≠0) (Rat.divInt p q):=(Fr.Fz.ret zo hq0 rfl).2.1;subst e7;have e9:l2=Fr.rE (q≠0) (Rat.divInt p q):=(Fr.Fz.ret zo hq0 rfl).2.2.2;subst e9;have e6:n1=Fr.rS (q≠0) (Rat.divInt p q):=(Fr.Fz.ret zo hq0 rfl).1;have e8:n2=Fr.rT (q≠0):=(Fr.Fz.ret zo hq0 rfl).2.2.1;exact V.rT [0] [(G4 2).ss 0,(G4 2).ss 1] [] [] [0,1] [] (cong2 (fun (xz6 xz8:Int)=>(.agg #[iv 0,iv exp,iv 0,iv 0,iv 0,iv 0,iv xz6,((G4 2).ss 0).v,iv xz8,((G4 2).ss 1).v]:Value)) e6 e8)
theorem uof1_ctv (exp p q:Int) (hp: -9223372036854775808≤p∧p≤9223372036854775807) (hq: -9223372036854775808≤q∧q≤9223372036854775807) (hq0:q≠0) (rv6:Int) (erv6:rv6=Fr.rS (q≠0) (Rat.divInt p q)) (rv7:List Int) (erv7:rv7=Fr.rD (q≠0) (Rat.divInt p q)) (rv8:Int) (erv8:rv8=Fr.rT (q≠0)) (rv9:List Int) (erv9:rv9=Fr.rE (q≠0) (Rat.divInt p q)) :
    Ct Tryz.prog 161 #[iv 1,iv exp,iv p,iv q] [] [] (fun g=>.agg #[iv 0,iv exp,iv 0,iv 0,iv 0,iv 0,iv rv6,((g.ss 0)).v,iv rv8,((g.ss 1)).v]) (fun g=>[fs true rv7 (g.ss 0),fs true rv9 (g.ss 1)]) (fun g=>[]) (fun g=>[]):=by
  subst erv6 erv7 erv8 erv9;exact uof1_ct exp p q hp hq hq0
set_option maxRecDepth 10000 in
theorem uof2_ct (exp p q:Int) (hp: -9223372036854775808≤p∧p≤9223372036854775807) (hq: -9223372036854775808≤q∧q≤9223372036854775807) (hq0:q≠0) :
    Ct Tryz.prog 161 #[iv 2,iv exp,iv p,iv q] [] [] (fun g=>.agg #[iv 0,iv 0,iv exp,iv 0,iv 0,iv 0,iv (Fr.rS (q≠0) (Rat.divInt p q)),((g.ss 0)).v,iv (Fr.rT (q≠0)),((g.ss 1)).v]) (fun g=>[fs true (Fr.rD (q≠0) (Rat.divInt p q)) (g.ss 0),fs true (Fr.rE (q≠0) (Rat.divInt p q)) (g.ss 1)]) (fun g=>[]) (fun g=>[]):=by
  refine V.fo mo Tryz.func161 22 2 fun w H ε k0=>?_;clear k0
  refine V.gf [.n 0] fun _ _ G1=>?_;intro S_ s_
  refine V.gf [.n 1] fun _ _ G2=>?_;intro S_ s_
  refine V.gf [.u 4,.s 1] fun _ _ G3=>?_;intro S_ s_
  refine nm (Fr.rS (q≠0) (Rat.divInt p q):Int) fun n1 hn1=>?_;refine nm (Fr.rD (q≠0) (Rat.divInt p q):List Int) fun l1 hl1=>?_;refine nm (Fr.rT (q≠0):Int) fun n2 hn2=>?_;refine nm (Fr.rE (q≠0) (Rat.divInt p q):List Int) fun l2 hl2=>?_;refine nm (if q=0 then (15:Int) else 0:Int) fun n3 hn3=>?_;have zo:=Fr.Fz.of hq0 hn1 hl1 hn2 hl2
  refine V.gf [.u 2,.cA 2 34 [] fun G=>fof_ctv p q (by omega) (by omega) n1 hn1 l1 hl1 n2 hn2 l2 hl2 n3 hn3,.u 4,.s 1] fun _ _ G4=>?_;intro S_ s_
  refine V.gf [.l 1,.s 0] fun _ _ G5=>?_;intro S_ s_
  have e7:l1=Fr.rD (q≠0) (Rat.divInt p q):=(Fr.Fz.ret zo hq0 rfl).2.1;subst e7;have e9:l2=Fr.rE (q≠0) (Rat.divInt p q):=(Fr.Fz.ret zo hq0 rfl).2.2.2;subst e9;have e6:n1=Fr.rS (q≠0) (Rat.divInt p q):=(Fr.Fz.ret zo hq0 rfl).1;have e8:n2=Fr.rT (q≠0):=(Fr.Fz.ret zo hq0 rfl).2.2.1;exact V.rT [0] [(G4 2).ss 0,(G4 2).ss 1] [] [] [0,1] [] (cong2 (fun (xz6 xz8:Int)=>(.agg #[iv 0,iv 0,iv exp,iv 0,iv 0,iv 0,iv xz6,((G4 2).ss 0).v,iv xz8,((G4 2).ss 1).v]:Value)) e6 e8)
theorem uof2_ctv (exp p q:Int) (hp: -9223372036854775808≤p∧p≤9223372036854775807) (hq: -9223372036854775808≤q∧q≤9223372036854775807) (hq0:q≠0) (rv6:Int) (erv6:rv6=Fr.rS (q≠0) (Rat.divInt p q)) (rv7:List Int) (erv7:rv7=Fr.rD (q≠0) (Rat.divInt p q)) (rv8:Int) (erv8:rv8=Fr.rT (q≠0)) (rv9:List Int) (erv9:rv9=Fr.rE (q≠0) (Rat.divInt p q)) :
    Ct Tryz.prog 161 #[iv 2,iv exp,iv p,iv q] [] [] (fun g=>.agg #[iv 0,iv 0,iv exp,iv 0,iv 0,iv 0,iv rv6,((g.ss 0)).v,iv rv8,((g.ss 1)).v]) (fun g=>[fs true rv7 (g.ss 0),fs true rv9 (g.ss 1)]) (fun g=>[]) (fun g=>[]):=by
  subst erv6 erv7 erv8 erv9;exact uof2_ct exp p q hp hq hq0
set_option maxRecDepth 10000 in
theorem uof3_ct (exp p q:Int) (hp: -9223372036854775808≤p∧p≤9223372036854775807) (hq: -9223372036854775808≤q∧q≤9223372036854775807) (hq0:q≠0) :
    Ct Tryz.prog 161 #[iv 3,iv exp,iv p,iv q] [] [] (fun g=>.agg #[iv 0,iv 0,iv 0,iv exp,iv 0,iv 0,iv (Fr.rS (q≠0) (Rat.divInt p q)),((g.ss 0)).v,iv (Fr.rT (q≠0)),((g.ss 1)).v]) (fun g=>[fs true (Fr.rD (q≠0) (Rat.divInt p q)) (g.ss 0),fs true (Fr.rE (q≠0) (Rat.divInt p q)) (g.ss 1)]) (fun g=>[]) (fun g=>[]):=by
  refine V.fo mo Tryz.func161 22 2 fun w H ε k0=>?_;clear k0
  refine V.gf [.n 0] fun _ _ G1=>?_;intro S_ s_
  refine V.gf [.n 1] fun _ _ G2=>?_;intro S_ s_
  refine V.gf [.u 4,.s 1] fun _ _ G3=>?_;intro S_ s_
  refine nm (Fr.rS (q≠0) (Rat.divInt p q):Int) fun n1 hn1=>?_;refine nm (Fr.rD (q≠0) (Rat.divInt p q):List Int) fun l1 hl1=>?_;refine nm (Fr.rT (q≠0):Int) fun n2 hn2=>?_;refine nm (Fr.rE (q≠0) (Rat.divInt p q):List Int) fun l2 hl2=>?_;refine nm (if q=0 then (15:Int) else 0:Int) fun n3 hn3=>?_;have zo:=Fr.Fz.of hq0 hn1 hl1 hn2 hl2
  refine V.gf [.u 2,.cA 2 34 [] fun G=>fof_ctv p q (by omega) (by omega) n1 hn1 l1 hl1 n2 hn2 l2 hl2 n3 hn3,.u 4,.s 1] fun _ _ G4=>?_;intro S_ s_
  refine V.gf [.l 1,.s 0] fun _ _ G5=>?_;intro S_ s_
  have e7:l1=Fr.rD (q≠0) (Rat.divInt p q):=(Fr.Fz.ret zo hq0 rfl).2.1;subst e7;have e9:l2=Fr.rE (q≠0) (Rat.divInt p q):=(Fr.Fz.ret zo hq0 rfl).2.2.2;subst e9;have e6:n1=Fr.rS (q≠0) (Rat.divInt p q):=(Fr.Fz.ret zo hq0 rfl).1;have e8:n2=Fr.rT (q≠0):=(Fr.Fz.ret zo hq0 rfl).2.2.1;exact V.rT [0] [(G4 2).ss 0,(G4 2).ss 1] [] [] [0,1] [] (cong2 (fun (xz6 xz8:Int)=>(.agg #[iv 0,iv 0,iv 0,iv exp,iv 0,iv 0,iv xz6,((G4 2).ss 0).v,iv xz8,((G4 2).ss 1).v]:Value)) e6 e8)
theorem uof3_ctv (exp p q:Int) (hp: -9223372036854775808≤p∧p≤9223372036854775807) (hq: -9223372036854775808≤q∧q≤9223372036854775807) (hq0:q≠0) (rv6:Int) (erv6:rv6=Fr.rS (q≠0) (Rat.divInt p q)) (rv7:List Int) (erv7:rv7=Fr.rD (q≠0) (Rat.divInt p q)) (rv8:Int) (erv8:rv8=Fr.rT (q≠0)) (rv9:List Int) (erv9:rv9=Fr.rE (q≠0) (Rat.divInt p q)) :
    Ct Tryz.prog 161 #[iv 3,iv exp,iv p,iv q] [] [] (fun g=>.agg #[iv 0,iv 0,iv 0,iv exp,iv 0,iv 0,iv rv6,((g.ss 0)).v,iv rv8,((g.ss 1)).v]) (fun g=>[fs true rv7 (g.ss 0),fs true rv9 (g.ss 1)]) (fun g=>[]) (fun g=>[]):=by
  subst erv6 erv7 erv8 erv9;exact uof3_ct exp p q hp hq hq0
set_option maxRecDepth 10000 in
theorem uof4_ct (exp p q:Int) (hp: -9223372036854775808≤p∧p≤9223372036854775807) (hq: -9223372036854775808≤q∧q≤9223372036854775807) (hq0:q≠0) :
    Ct Tryz.prog 161 #[iv 4,iv exp,iv p,iv q] [] [] (fun g=>.agg #[iv 0,iv 0,iv 0,iv 0,iv exp,iv 0,iv (Fr.rS (q≠0) (Rat.divInt p q)),((g.ss 0)).v,iv (Fr.rT (q≠0)),((g.ss 1)).v]) (fun g=>[fs true (Fr.rD (q≠0) (Rat.divInt p q)) (g.ss 0),fs true (Fr.rE (q≠0) (Rat.divInt p q)) (g.ss 1)]) (fun g=>[]) (fun g=>[]):=by
  refine V.fo mo Tryz.func161 22 2 fun w H ε k0=>?_;clear k0
  refine V.gf [.n 0] fun _ _ G1=>?_;intro S_ s_
  refine V.gf [.n 1] fun _ _ G2=>?_;intro S_ s_
  refine V.gf [.u 4,.s 1] fun _ _ G3=>?_;intro S_ s_
  refine nm (Fr.rS (q≠0) (Rat.divInt p q):Int) fun n1 hn1=>?_;refine nm (Fr.rD (q≠0) (Rat.divInt p q):List Int) fun l1 hl1=>?_;refine nm (Fr.rT (q≠0):Int) fun n2 hn2=>?_;refine nm (Fr.rE (q≠0) (Rat.divInt p q):List Int) fun l2 hl2=>?_;refine nm (if q=0 then (15:Int) else 0:Int) fun n3 hn3=>?_;have zo:=Fr.Fz.of hq0 hn1 hl1 hn2 hl2
  refine V.gf [.u 2,.cA 2 34 [] fun G=>fof_ctv p q (by omega) (by omega) n1 hn1 l1 hl1 n2 hn2 l2 hl2 n3 hn3,.u 4,.s 1] fun _ _ G4=>?_;intro S_ s_
  refine V.gf [.l 1,.s 0] fun _ _ G5=>?_;intro S_ s_
  have e7:l1=Fr.rD (q≠0) (Rat.divInt p q):=(Fr.Fz.ret zo hq0 rfl).2.1;subst e7;have e9:l2=Fr.rE (q≠0) (Rat.divInt p q):=(Fr.Fz.ret zo hq0 rfl).2.2.2;subst e9;have e6:n1=Fr.rS (q≠0) (Rat.divInt p q):=(Fr.Fz.ret zo hq0 rfl).1;have e8:n2=Fr.rT (q≠0):=(Fr.Fz.ret zo hq0 rfl).2.2.1;exact V.rT [0] [(G4 2).ss 0,(G4 2).ss 1] [] [] [0,1] [] (cong2 (fun (xz6 xz8:Int)=>(.agg #[iv 0,iv 0,iv 0,iv 0,iv exp,iv 0,iv xz6,((G4 2).ss 0).v,iv xz8,((G4 2).ss 1).v]:Value)) e6 e8)
theorem uof4_ctv (exp p q:Int) (hp: -9223372036854775808≤p∧p≤9223372036854775807) (hq: -9223372036854775808≤q∧q≤9223372036854775807) (hq0:q≠0) (rv6:Int) (erv6:rv6=Fr.rS (q≠0) (Rat.divInt p q)) (rv7:List Int) (erv7:rv7=Fr.rD (q≠0) (Rat.divInt p q)) (rv8:Int) (erv8:rv8=Fr.rT (q≠0)) (rv9:List Int) (erv9:rv9=Fr.rE (q≠0) (Rat.divInt p q)) :
    Ct Tryz.prog 161 #[iv 4,iv exp,iv p,iv q] [] [] (fun g=>.agg #[iv 0,iv 0,iv 0,iv 0,iv exp,iv 0,iv rv6,((g.ss 0)).v,iv rv8,((g.ss 1)).v]) (fun g=>[fs true rv7 (g.ss 0),fs true rv9 (g.ss 1)]) (fun g=>[]) (fun g=>[]):=by
  subst erv6 erv7 erv8 erv9;exact uof4_ct exp p q hp hq hq0
set_option maxRecDepth 10000 in
theorem uof5_ct (exp p q:Int) (hp: -9223372036854775808≤p∧p≤9223372036854775807) (hq: -9223372036854775808≤q∧q≤9223372036854775807) (hq0:q≠0) :
    Ct Tryz.prog 161 #[iv 5,iv exp,iv p,iv q] [] [] (fun g=>.agg #[iv 0,iv 0,iv 0,iv 0,iv 0,iv exp,iv (Fr.rS (q≠0) (Rat.divInt p q)),((g.ss 0)).v,iv (Fr.rT (q≠0)),((g.ss 1)).v]) (fun g=>[fs true (Fr.rD (q≠0) (Rat.divInt p q)) (g.ss 0),fs true (Fr.rE (q≠0) (Rat.divInt p q)) (g.ss 1)]) (fun g=>[]) (fun g=>[]):=by
  refine V.fo mo Tryz.func161 22 2 fun w H ε k0=>?_;clear k0
  refine V.gf [.n 0] fun _ _ G1=>?_;intro S_ s_
  refine V.gf [.n 1] fun _ _ G2=>?_;intro S_ s_
  refine V.gf [.u 4,.s 1] fun _ _ G3=>?_;intro S_ s_
  refine nm (Fr.rS (q≠0) (Rat.divInt p q):Int) fun n1 hn1=>?_;refine nm (Fr.rD (q≠0) (Rat.divInt p q):List Int) fun l1 hl1=>?_;refine nm (Fr.rT (q≠0):Int) fun n2 hn2=>?_;refine nm (Fr.rE (q≠0) (Rat.divInt p q):List Int) fun l2 hl2=>?_;refine nm (if q=0 then (15:Int) else 0:Int) fun n3 hn3=>?_;have zo:=Fr.Fz.of hq0 hn1 hl1 hn2 hl2
  refine V.gf [.u 2,.cA 2 34 [] fun G=>fof_ctv p q (by omega) (by omega) n1 hn1 l1 hl1 n2 hn2 l2 hl2 n3 hn3,.u 4,.s 1] fun _ _ G4=>?_;intro S_ s_
  refine V.gf [.l 1,.s 0] fun _ _ G5=>?_;intro S_ s_
  have e7:l1=Fr.rD (q≠0) (Rat.divInt p q):=(Fr.Fz.ret zo hq0 rfl).2.1;subst e7;have e9:l2=Fr.rE (q≠0) (Rat.divInt p q):=(Fr.Fz.ret zo hq0 rfl).2.2.2;subst e9;have e6:n1=Fr.rS (q≠0) (Rat.divInt p q):=(Fr.Fz.ret zo hq0 rfl).1;have e8:n2=Fr.rT (q≠0):=(Fr.Fz.ret zo hq0 rfl).2.2.1;exact V.rT [0] [(G4 2).ss 0,(G4 2).ss 1] [] [] [0,1] [] (cong2 (fun (xz6 xz8:Int)=>(.agg #[iv 0,iv 0,iv 0,iv 0,iv 0,iv exp,iv xz6,((G4 2).ss 0).v,iv xz8,((G4 2).ss 1).v]:Value)) e6 e8)
theorem uof5_ctv (exp p q:Int) (hp: -9223372036854775808≤p∧p≤9223372036854775807) (hq: -9223372036854775808≤q∧q≤9223372036854775807) (hq0:q≠0) (rv6:Int) (erv6:rv6=Fr.rS (q≠0) (Rat.divInt p q)) (rv7:List Int) (erv7:rv7=Fr.rD (q≠0) (Rat.divInt p q)) (rv8:Int) (erv8:rv8=Fr.rT (q≠0)) (rv9:List Int) (erv9:rv9=Fr.rE (q≠0) (Rat.divInt p q)) :
    Ct Tryz.prog 161 #[iv 5,iv exp,iv p,iv q] [] [] (fun g=>.agg #[iv 0,iv 0,iv 0,iv 0,iv 0,iv exp,iv rv6,((g.ss 0)).v,iv rv8,((g.ss 1)).v]) (fun g=>[fs true rv7 (g.ss 0),fs true rv9 (g.ss 1)]) (fun g=>[]) (fun g=>[]):=by
  subst erv6 erv7 erv8 erv9;exact uof5_ct exp p q hp hq hq0
set_option maxRecDepth 10000 in
theorem usym_ct (s:ByteArray) :
    Ct Tryz.prog 152 #[tv s] [] [] (fun g=>.tuple #[.agg #[iv (Un.dv (Un.sym s) 0),iv (Un.dv (Un.sym s) 1),iv (Un.dv (Un.sym s) 2),iv (Un.dv (Un.sym s) 3),iv (Un.dv (Un.sym s) 4),iv (Un.dv (Un.sym s) 5),iv (Fr.rS ((Un.sym s).isSome=true) (Un.fv (Un.sym s))),((g.ss 0)).v,iv (Fr.rT ((Un.sym s).isSome=true)),((g.ss 1)).v],bv ((Un.sym s).isSome)]) (fun g=>[fs true (Fr.rD ((Un.sym s).isSome=true) (Un.fv (Un.sym s))) (g.ss 0),fs true (Fr.rE ((Un.sym s).isSome=true) (Un.fv (Un.sym s))) (g.ss 1)]) (fun g=>[]) (fun g=>[]):=by
  refine V.fo mo Tryz.func152 42 1 fun w H ε k0=>?_;clear k0
  refine V.gf [.n 0,.kb false] fun _ _ G1=>?_;intro S_ s_
  refine V.gf [.u 1] fun _ _ G2=>?_;intro S_ s_
  refine V.gf [.seq s ⟨#[103]⟩,.u 1] fun _ _ G3=>?_;intro S_ s_
  refine V.cn (b:=decide (s=⟨#[103]⟩)) iDT iDF (fun q1=>?_) (fun q2=>?_)
  · have hsy:Un.sym s=some ([1,0,0,0,0,0],Rat.divInt 1 1):=by rw [q1];kernel_rfl
    refine nm (Fr.rS ((1:Int)≠0) (Rat.divInt (1:Int) (1:Int)):Int) fun n1 hn1=>?_;refine nm (Fr.rD ((1:Int)≠0) (Rat.divInt (1:Int) (1:Int)):List Int) fun l1 hl1=>?_;refine nm (Fr.rT ((1:Int)≠0):Int) fun n2 hn2=>?_;refine nm (Fr.rE ((1:Int)≠0) (Rat.divInt (1:Int) (1:Int)):List Int) fun l2 hl2=>?_;refine V.gf [.cA 0 161 [] fun G=>uof0_ctv (1:Int) (1:Int) (1:Int) (by omega) (by omega) (by omega) n1 hn1 l1 hl1 n2 hn2 l2 hl2,.s 0,.kb true] fun _ _ G4=>?_;intro S_ s_
    have e7:l1=Fr.rD ((Un.sym s).isSome=true) (Un.fv (Un.sym s)):=(Fr.Fz.ret (Fr.Fz.of (by decide) hn1 hl1 hn2 hl2) (Un.is_s hsy) (Un.fv_s hsy).symm).2.1;subst e7;have e9:l2=Fr.rE ((Un.sym s).isSome=true) (Un.fv (Un.sym s)):=(Fr.Fz.ret (Fr.Fz.of (by decide) hn1 hl1 hn2 hl2) (Un.is_s hsy) (Un.fv_s hsy).symm).2.2.2;subst e9;have e0:(1:Int)=Un.dv (Un.sym s) 0:=(Un.dv_s hsy 0).symm;have e1:(0:Int)=Un.dv (Un.sym s) 1:=(Un.dv_s hsy 1).symm;have e2:(0:Int)=Un.dv (Un.sym s) 2:=(Un.dv_s hsy 2).symm;have e3:(0:Int)=Un.dv (Un.sym s) 3:=(Un.dv_s hsy 3).symm;have e4:(0:Int)=Un.dv (Un.sym s) 4:=(Un.dv_s hsy 4).symm;have e5:(0:Int)=Un.dv (Un.sym s) 5:=(Un.dv_s hsy 5).symm;have e6:n1=Fr.rS ((Un.sym s).isSome=true) (Un.fv (Un.sym s)):=(Fr.Fz.ret (Fr.Fz.of (by decide) hn1 hl1 hn2 hl2) (Un.is_s hsy) (Un.fv_s hsy).symm).1;have e8:n2=Fr.rT ((Un.sym s).isSome=true):=(Fr.Fz.ret (Fr.Fz.of (by decide) hn1 hl1 hn2 hl2) (Un.is_s hsy) (Un.fv_s hsy).symm).2.2.1;have e10:true=(Un.sym s).isSome:=by rw [hsy];rfl
    exact V.rT [0,0] [(G4 0).ss 0,(G4 0).ss 1] [] [] [0,1] [] (cong9 (fun (xz0 xz1 xz2 xz3 xz4 xz5 xz6 xz8:Int) (xz10:Bool)=>(.tuple #[.agg #[iv xz0,iv xz1,iv xz2,iv xz3,iv xz4,iv xz5,iv xz6,((G4 0).ss 0).v,iv xz8,((G4 0).ss 1).v],bv xz10]:Value)) e0 e1 e2 e3 e4 e5 e6 e8 e10)
  have hsn0:¬ s=⟨#[103]⟩:=q2;refine V.gf [.seq s ⟨#[116]⟩,.u 1] fun _ _ G5=>?_;intro S_ s_
  refine V.cn (b:=decide (s=⟨#[116]⟩)) iDT iDF (fun q3=>?_) (fun q4=>?_)
  · have hsy:Un.sym s=some ([1,0,0,0,0,0],Rat.divInt 1000000 1):=by rw [q3];kernel_rfl
    refine nm (Fr.rS ((1:Int)≠0) (Rat.divInt (1000000:Int) (1:Int)):Int) fun n3 hn3=>?_;refine nm (Fr.rD ((1:Int)≠0) (Rat.divInt (1000000:Int) (1:Int)):List Int) fun l3 hl3=>?_;refine nm (Fr.rT ((1:Int)≠0):Int) fun n4 hn4=>?_;refine nm (Fr.rE ((1:Int)≠0) (Rat.divInt (1000000:Int) (1:Int)):List Int) fun l4 hl4=>?_;refine V.gf [.cA 0 161 [] fun G=>uof0_ctv (1:Int) (1000000:Int) (1:Int) (by omega) (by omega) (by omega) n3 hn3 l3 hl3 n4 hn4 l4 hl4,.s 0,.kb true] fun _ _ G6=>?_;intro S_ s_
    have e7:l3=Fr.rD ((Un.sym s).isSome=true) (Un.fv (Un.sym s)):=(Fr.Fz.ret (Fr.Fz.of (by decide) hn3 hl3 hn4 hl4) (Un.is_s hsy) (Un.fv_s hsy).symm).2.1;subst e7;have e9:l4=Fr.rE ((Un.sym s).isSome=true) (Un.fv (Un.sym s)):=(Fr.Fz.ret (Fr.Fz.of (by decide) hn3 hl3 hn4 hl4) (Un.is_s hsy) (Un.fv_s hsy).symm).2.2.2;subst e9;have e0:(1:Int)=Un.dv (Un.sym s) 0:=(Un.dv_s hsy 0).symm;have e1:(0:Int)=Un.dv (Un.sym s) 1:=(Un.dv_s hsy 1).symm;have e2:(0:Int)=Un.dv (Un.sym s) 2:=(Un.dv_s hsy 2).symm;have e3:(0:Int)=Un.dv (Un.sym s) 3:=(Un.dv_s hsy 3).symm;have e4:(0:Int)=Un.dv (Un.sym s) 4:=(Un.dv_s hsy 4).symm;have e5:(0:Int)=Un.dv (Un.sym s) 5:=(Un.dv_s hsy 5).symm;have e6:n3=Fr.rS ((Un.sym s).isSome=true) (Un.fv (Un.sym s)):=(Fr.Fz.ret (Fr.Fz.of (by decide) hn3 hl3 hn4 hl4) (Un.is_s hsy) (Un.fv_s hsy).symm).1;have e8:n4=Fr.rT ((Un.sym s).isSome=true):=(Fr.Fz.ret (Fr.Fz.of (by decide) hn3 hl3 hn4 hl4) (Un.is_s hsy) (Un.fv_s hsy).symm).2.2.1;have e10:true=(Un.sym s).isSome:=by rw [hsy];rfl
    exact V.rT [0,0] [(G6 0).ss 0,(G6 0).ss 1] [] [] [0,1] [] (cong9 (fun (xz0 xz1 xz2 xz3 xz4 xz5 xz6 xz8:Int) (xz10:Bool)=>(.tuple #[.agg #[iv xz0,iv xz1,iv xz2,iv xz3,iv xz4,iv xz5,iv xz6,((G6 0).ss 0).v,iv xz8,((G6 0).ss 1).v],bv xz10]:Value)) e0 e1 e2 e3 e4 e5 e6 e8 e10)
  have hsn1:¬ s=⟨#[116]⟩:=q4;refine V.gf [.seq s ⟨#[109]⟩,.u 1] fun _ _ G7=>?_;intro S_ s_
  refine V.cn (b:=decide (s=⟨#[109]⟩)) iDT iDF (fun q5=>?_) (fun q6=>?_)
  · have hsy:Un.sym s=some ([0,1,0,0,0,0],Rat.divInt 1 1):=by rw [q5];kernel_rfl
    refine nm (Fr.rS ((1:Int)≠0) (Rat.divInt (1:Int) (1:Int)):Int) fun n5 hn5=>?_;refine nm (Fr.rD ((1:Int)≠0) (Rat.divInt (1:Int) (1:Int)):List Int) fun l5 hl5=>?_;refine nm (Fr.rT ((1:Int)≠0):Int) fun n6 hn6=>?_;refine nm (Fr.rE ((1:Int)≠0) (Rat.divInt (1:Int) (1:Int)):List Int) fun l6 hl6=>?_;refine V.gf [.cA 0 161 [] fun G=>uof1_ctv (1:Int) (1:Int) (1:Int) (by omega) (by omega) (by omega) n5 hn5 l5 hl5 n6 hn6 l6 hl6,.s 0,.kb true] fun _ _ G8=>?_;intro S_ s_
    have e7:l5=Fr.rD ((Un.sym s).isSome=true) (Un.fv (Un.sym s)):=(Fr.Fz.ret (Fr.Fz.of (by decide) hn5 hl5 hn6 hl6) (Un.is_s hsy) (Un.fv_s hsy).symm).2.1;subst e7;have e9:l6=Fr.rE ((Un.sym s).isSome=true) (Un.fv (Un.sym s)):=(Fr.Fz.ret (Fr.Fz.of (by decide) hn5 hl5 hn6 hl6) (Un.is_s hsy) (Un.fv_s hsy).symm).2.2.2;subst e9;have e0:(0:Int)=Un.dv (Un.sym s) 0:=(Un.dv_s hsy 0).symm;have e1:(1:Int)=Un.dv (Un.sym s) 1:=(Un.dv_s hsy 1).symm;have e2:(0:Int)=Un.dv (Un.sym s) 2:=(Un.dv_s hsy 2).symm;have e3:(0:Int)=Un.dv (Un.sym s) 3:=(Un.dv_s hsy 3).symm;have e4:(0:Int)=Un.dv (Un.sym s) 4:=(Un.dv_s hsy 4).symm;have e5:(0:Int)=Un.dv (Un.sym s) 5:=(Un.dv_s hsy 5).symm;have e6:n5=Fr.rS ((Un.sym s).isSome=true) (Un.fv (Un.sym s)):=(Fr.Fz.ret (Fr.Fz.of (by decide) hn5 hl5 hn6 hl6) (Un.is_s hsy) (Un.fv_s hsy).symm).1;have e8:n6=Fr.rT ((Un.sym s).isSome=true):=(Fr.Fz.ret (Fr.Fz.of (by decide) hn5 hl5 hn6 hl6) (Un.is_s hsy) (Un.fv_s hsy).symm).2.2.1;have e10:true=(Un.sym s).isSome:=by rw [hsy];rfl
    exact V.rT [0,0] [(G8 0).ss 0,(G8 0).ss 1] [] [] [0,1] [] (cong9 (fun (xz0 xz1 xz2 xz3 xz4 xz5 xz6 xz8:Int) (xz10:Bool)=>(.tuple #[.agg #[iv xz0,iv xz1,iv xz2,iv xz3,iv xz4,iv xz5,iv xz6,((G8 0).ss 0).v,iv xz8,((G8 0).ss 1).v],bv xz10]:Value)) e0 e1 e2 e3 e4 e5 e6 e8 e10)
  have hsn2:¬ s=⟨#[109]⟩:=q6;refine V.gf [.seq s ⟨#[108]⟩,.u 1] fun _ _ G9=>?_;intro S_ s_
  refine V.cn (b:=decide (s=⟨#[108]⟩)) iDT iDF (fun q7=>?_) (fun q8=>?_)
  · have hsy:Un.sym s=some ([0,3,0,0,0,0],Rat.divInt 1 1000):=by rw [q7];kernel_rfl
    refine nm (Fr.rS ((1000:Int)≠0) (Rat.divInt (1:Int) (1000:Int)):Int) fun n7 hn7=>?_;refine nm (Fr.rD ((1000:Int)≠0) (Rat.divInt (1:Int) (1000:Int)):List Int) fun l7 hl7=>?_;refine nm (Fr.rT ((1000:Int)≠0):Int) fun n8 hn8=>?_;refine nm (Fr.rE ((1000:Int)≠0) (Rat.divInt (1:Int) (1000:Int)):List Int) fun l8 hl8=>?_;refine V.gf [.cA 0 161 [] fun G=>uof1_ctv (3:Int) (1:Int) (1000:Int) (by omega) (by omega) (by omega) n7 hn7 l7 hl7 n8 hn8 l8 hl8,.s 0,.kb true] fun _ _ G10=>?_;intro S_ s_
    have e7:l7=Fr.rD ((Un.sym s).isSome=true) (Un.fv (Un.sym s)):=(Fr.Fz.ret (Fr.Fz.of (by decide) hn7 hl7 hn8 hl8) (Un.is_s hsy) (Un.fv_s hsy).symm).2.1;subst e7;have e9:l8=Fr.rE ((Un.sym s).isSome=true) (Un.fv (Un.sym s)):=(Fr.Fz.ret (Fr.Fz.of (by decide) hn7 hl7 hn8 hl8) (Un.is_s hsy) (Un.fv_s hsy).symm).2.2.2;subst e9;have e0:(0:Int)=Un.dv (Un.sym s) 0:=(Un.dv_s hsy 0).symm;have e1:(3:Int)=Un.dv (Un.sym s) 1:=(Un.dv_s hsy 1).symm;have e2:(0:Int)=Un.dv (Un.sym s) 2:=(Un.dv_s hsy 2).symm;have e3:(0:Int)=Un.dv (Un.sym s) 3:=(Un.dv_s hsy 3).symm;have e4:(0:Int)=Un.dv (Un.sym s) 4:=(Un.dv_s hsy 4).symm;have e5:(0:Int)=Un.dv (Un.sym s) 5:=(Un.dv_s hsy 5).symm;have e6:n7=Fr.rS ((Un.sym s).isSome=true) (Un.fv (Un.sym s)):=(Fr.Fz.ret (Fr.Fz.of (by decide) hn7 hl7 hn8 hl8) (Un.is_s hsy) (Un.fv_s hsy).symm).1;have e8:n8=Fr.rT ((Un.sym s).isSome=true):=(Fr.Fz.ret (Fr.Fz.of (by decide) hn7 hl7 hn8 hl8) (Un.is_s hsy) (Un.fv_s hsy).symm).2.2.1;have e10:true=(Un.sym s).isSome:=by rw [hsy];rfl
    exact V.rT [0,0] [(G10 0).ss 0,(G10 0).ss 1] [] [] [0,1] [] (cong9 (fun (xz0 xz1 xz2 xz3 xz4 xz5 xz6 xz8:Int) (xz10:Bool)=>(.tuple #[.agg #[iv xz0,iv xz1,iv xz2,iv xz3,iv xz4,iv xz5,iv xz6,((G10 0).ss 0).v,iv xz8,((G10 0).ss 1).v],bv xz10]:Value)) e0 e1 e2 e3 e4 e5 e6 e8 e10)
  have hsn3:¬ s=⟨#[108]⟩:=q8;refine V.gf [.seq s ⟨#[115]⟩,.u 1] fun _ _ G11=>?_;intro S_ s_
  refine V.cn (b:=decide (s=⟨#[115]⟩)) iDT iDF (fun q9=>?_) (fun q10=>?_)
  · have hsy:Un.sym s=some ([0,0,1,0,0,0],Rat.divInt 1 1):=by rw [q9];kernel_rfl
    refine nm (Fr.rS ((1:Int)≠0) (Rat.divInt (1:Int) (1:Int)):Int) fun n9 hn9=>?_;refine nm (Fr.rD ((1:Int)≠0) (Rat.divInt (1:Int) (1:Int)):List Int) fun l9 hl9=>?_;refine nm (Fr.rT ((1:Int)≠0):Int) fun n10 hn10=>?_;refine nm (Fr.rE ((1:Int)≠0) (Rat.divInt (1:Int) (1:Int)):List Int) fun l10 hl10=>?_;refine V.gf [.cA 0 161 [] fun G=>uof2_ctv (1:Int) (1:Int) (1:Int) (by omega) (by omega) (by omega) n9 hn9 l9 hl9 n10 hn10 l10 hl10,.s 0,.kb true] fun _ _ G12=>?_;intro S_ s_
    have e7:l9=Fr.rD ((Un.sym s).isSome=true) (Un.fv (Un.sym s)):=(Fr.Fz.ret (Fr.Fz.of (by decide) hn9 hl9 hn10 hl10) (Un.is_s hsy) (Un.fv_s hsy).symm).2.1;subst e7;have e9:l10=Fr.rE ((Un.sym s).isSome=true) (Un.fv (Un.sym s)):=(Fr.Fz.ret (Fr.Fz.of (by decide) hn9 hl9 hn10 hl10) (Un.is_s hsy) (Un.fv_s hsy).symm).2.2.2;subst e9;have e0:(0:Int)=Un.dv (Un.sym s) 0:=(Un.dv_s hsy 0).symm;have e1:(0:Int)=Un.dv (Un.sym s) 1:=(Un.dv_s hsy 1).symm;have e2:(1:Int)=Un.dv (Un.sym s) 2:=(Un.dv_s hsy 2).symm;have e3:(0:Int)=Un.dv (Un.sym s) 3:=(Un.dv_s hsy 3).symm;have e4:(0:Int)=Un.dv (Un.sym s) 4:=(Un.dv_s hsy 4).symm;have e5:(0:Int)=Un.dv (Un.sym s) 5:=(Un.dv_s hsy 5).symm;have e6:n9=Fr.rS ((Un.sym s).isSome=true) (Un.fv (Un.sym s)):=(Fr.Fz.ret (Fr.Fz.of (by decide) hn9 hl9 hn10 hl10) (Un.is_s hsy) (Un.fv_s hsy).symm).1;have e8:n10=Fr.rT ((Un.sym s).isSome=true):=(Fr.Fz.ret (Fr.Fz.of (by decide) hn9 hl9 hn10 hl10) (Un.is_s hsy) (Un.fv_s hsy).symm).2.2.1;have e10:true=(Un.sym s).isSome:=by rw [hsy];rfl
    exact V.rT [0,0] [(G12 0).ss 0,(G12 0).ss 1] [] [] [0,1] [] (cong9 (fun (xz0 xz1 xz2 xz3 xz4 xz5 xz6 xz8:Int) (xz10:Bool)=>(.tuple #[.agg #[iv xz0,iv xz1,iv xz2,iv xz3,iv xz4,iv xz5,iv xz6,((G12 0).ss 0).v,iv xz8,((G12 0).ss 1).v],bv xz10]:Value)) e0 e1 e2 e3 e4 e5 e6 e8 e10)
  have hsn4:¬ s=⟨#[115]⟩:=q10;refine V.gf [.seq s ⟨#[104]⟩,.u 1] fun _ _ G13=>?_;intro S_ s_
  refine V.cn (b:=decide (s=⟨#[104]⟩)) iDT iDF (fun q11=>?_) (fun q12=>?_)
  · have hsy:Un.sym s=some ([0,0,1,0,0,0],Rat.divInt 3600 1):=by rw [q11];kernel_rfl
    refine nm (Fr.rS ((1:Int)≠0) (Rat.divInt (3600:Int) (1:Int)):Int) fun n11 hn11=>?_;refine nm (Fr.rD ((1:Int)≠0) (Rat.divInt (3600:Int) (1:Int)):List Int) fun l11 hl11=>?_;refine nm (Fr.rT ((1:Int)≠0):Int) fun n12 hn12=>?_;refine nm (Fr.rE ((1:Int)≠0) (Rat.divInt (3600:Int) (1:Int)):List Int) fun l12 hl12=>?_;refine V.gf [.cA 0 161 [] fun G=>uof2_ctv (1:Int) (3600:Int) (1:Int) (by omega) (by omega) (by omega) n11 hn11 l11 hl11 n12 hn12 l12 hl12,.s 0,.kb true] fun _ _ G14=>?_;intro S_ s_
    have e7:l11=Fr.rD ((Un.sym s).isSome=true) (Un.fv (Un.sym s)):=(Fr.Fz.ret (Fr.Fz.of (by decide) hn11 hl11 hn12 hl12) (Un.is_s hsy) (Un.fv_s hsy).symm).2.1;subst e7;have e9:l12=Fr.rE ((Un.sym s).isSome=true) (Un.fv (Un.sym s)):=(Fr.Fz.ret (Fr.Fz.of (by decide) hn11 hl11 hn12 hl12) (Un.is_s hsy) (Un.fv_s hsy).symm).2.2.2;subst e9;have e0:(0:Int)=Un.dv (Un.sym s) 0:=(Un.dv_s hsy 0).symm;have e1:(0:Int)=Un.dv (Un.sym s) 1:=(Un.dv_s hsy 1).symm;have e2:(1:Int)=Un.dv (Un.sym s) 2:=(Un.dv_s hsy 2).symm;have e3:(0:Int)=Un.dv (Un.sym s) 3:=(Un.dv_s hsy 3).symm;have e4:(0:Int)=Un.dv (Un.sym s) 4:=(Un.dv_s hsy 4).symm;have e5:(0:Int)=Un.dv (Un.sym s) 5:=(Un.dv_s hsy 5).symm;have e6:n11=Fr.rS ((Un.sym s).isSome=true) (Un.fv (Un.sym s)):=(Fr.Fz.ret (Fr.Fz.of (by decide) hn11 hl11 hn12 hl12) (Un.is_s hsy) (Un.fv_s hsy).symm).1;have e8:n12=Fr.rT ((Un.sym s).isSome=true):=(Fr.Fz.ret (Fr.Fz.of (by decide) hn11 hl11 hn12 hl12) (Un.is_s hsy) (Un.fv_s hsy).symm).2.2.1;have e10:true=(Un.sym s).isSome:=by rw [hsy];rfl
    exact V.rT [0,0] [(G14 0).ss 0,(G14 0).ss 1] [] [] [0,1] [] (cong9 (fun (xz0 xz1 xz2 xz3 xz4 xz5 xz6 xz8:Int) (xz10:Bool)=>(.tuple #[.agg #[iv xz0,iv xz1,iv xz2,iv xz3,iv xz4,iv xz5,iv xz6,((G14 0).ss 0).v,iv xz8,((G14 0).ss 1).v],bv xz10]:Value)) e0 e1 e2 e3 e4 e5 e6 e8 e10)
  have hsn5:¬ s=⟨#[104]⟩:=q12;refine V.gf [.seq s ⟨#[100]⟩,.u 1] fun _ _ G15=>?_;intro S_ s_
  refine V.cn (b:=decide (s=⟨#[100]⟩)) iDT iDF (fun q13=>?_) (fun q14=>?_)
  · have hsy:Un.sym s=some ([0,0,1,0,0,0],Rat.divInt 86400 1):=by rw [q13];kernel_rfl
    refine nm (Fr.rS ((1:Int)≠0) (Rat.divInt (86400:Int) (1:Int)):Int) fun n13 hn13=>?_;refine nm (Fr.rD ((1:Int)≠0) (Rat.divInt (86400:Int) (1:Int)):List Int) fun l13 hl13=>?_;refine nm (Fr.rT ((1:Int)≠0):Int) fun n14 hn14=>?_;refine nm (Fr.rE ((1:Int)≠0) (Rat.divInt (86400:Int) (1:Int)):List Int) fun l14 hl14=>?_;refine V.gf [.cA 0 161 [] fun G=>uof2_ctv (1:Int) (86400:Int) (1:Int) (by omega) (by omega) (by omega) n13 hn13 l13 hl13 n14 hn14 l14 hl14,.s 0,.kb true] fun _ _ G16=>?_;intro S_ s_
    have e7:l13=Fr.rD ((Un.sym s).isSome=true) (Un.fv (Un.sym s)):=(Fr.Fz.ret (Fr.Fz.of (by decide) hn13 hl13 hn14 hl14) (Un.is_s hsy) (Un.fv_s hsy).symm).2.1;subst e7;have e9:l14=Fr.rE ((Un.sym s).isSome=true) (Un.fv (Un.sym s)):=(Fr.Fz.ret (Fr.Fz.of (by decide) hn13 hl13 hn14 hl14) (Un.is_s hsy) (Un.fv_s hsy).symm).2.2.2;subst e9;have e0:(0:Int)=Un.dv (Un.sym s) 0:=(Un.dv_s hsy 0).symm;have e1:(0:Int)=Un.dv (Un.sym s) 1:=(Un.dv_s hsy 1).symm;have e2:(1:Int)=Un.dv (Un.sym s) 2:=(Un.dv_s hsy 2).symm;have e3:(0:Int)=Un.dv (Un.sym s) 3:=(Un.dv_s hsy 3).symm;have e4:(0:Int)=Un.dv (Un.sym s) 4:=(Un.dv_s hsy 4).symm;have e5:(0:Int)=Un.dv (Un.sym s) 5:=(Un.dv_s hsy 5).symm;have e6:n13=Fr.rS ((Un.sym s).isSome=true) (Un.fv (Un.sym s)):=(Fr.Fz.ret (Fr.Fz.of (by decide) hn13 hl13 hn14 hl14) (Un.is_s hsy) (Un.fv_s hsy).symm).1;have e8:n14=Fr.rT ((Un.sym s).isSome=true):=(Fr.Fz.ret (Fr.Fz.of (by decide) hn13 hl13 hn14 hl14) (Un.is_s hsy) (Un.fv_s hsy).symm).2.2.1;have e10:true=(Un.sym s).isSome:=by rw [hsy];rfl
    exact V.rT [0,0] [(G16 0).ss 0,(G16 0).ss 1] [] [] [0,1] [] (cong9 (fun (xz0 xz1 xz2 xz3 xz4 xz5 xz6 xz8:Int) (xz10:Bool)=>(.tuple #[.agg #[iv xz0,iv xz1,iv xz2,iv xz3,iv xz4,iv xz5,iv xz6,((G16 0).ss 0).v,iv xz8,((G16 0).ss 1).v],bv xz10]:Value)) e0 e1 e2 e3 e4 e5 e6 e8 e10)
  have hsn6:¬ s=⟨#[100]⟩:=q14;refine V.gf [.seq s ⟨#[74]⟩,.u 1] fun _ _ G17=>?_;intro S_ s_
  refine V.cn (b:=decide (s=⟨#[74]⟩)) iDT iDF (fun q15=>?_) (fun q16=>?_)
  · have hsy:Un.sym s=some ([0,0,0,1,0,0],Rat.divInt 1 1):=by rw [q15];kernel_rfl
    refine nm (Fr.rS ((1:Int)≠0) (Rat.divInt (1:Int) (1:Int)):Int) fun n15 hn15=>?_;refine nm (Fr.rD ((1:Int)≠0) (Rat.divInt (1:Int) (1:Int)):List Int) fun l15 hl15=>?_;refine nm (Fr.rT ((1:Int)≠0):Int) fun n16 hn16=>?_;refine nm (Fr.rE ((1:Int)≠0) (Rat.divInt (1:Int) (1:Int)):List Int) fun l16 hl16=>?_;refine V.gf [.cA 0 161 [] fun G=>uof3_ctv (1:Int) (1:Int) (1:Int) (by omega) (by omega) (by omega) n15 hn15 l15 hl15 n16 hn16 l16 hl16,.s 0,.kb true] fun _ _ G18=>?_;intro S_ s_
    have e7:l15=Fr.rD ((Un.sym s).isSome=true) (Un.fv (Un.sym s)):=(Fr.Fz.ret (Fr.Fz.of (by decide) hn15 hl15 hn16 hl16) (Un.is_s hsy) (Un.fv_s hsy).symm).2.1;subst e7;have e9:l16=Fr.rE ((Un.sym s).isSome=true) (Un.fv (Un.sym s)):=(Fr.Fz.ret (Fr.Fz.of (by decide) hn15 hl15 hn16 hl16) (Un.is_s hsy) (Un.fv_s hsy).symm).2.2.2;subst e9;have e0:(0:Int)=Un.dv (Un.sym s) 0:=(Un.dv_s hsy 0).symm;have e1:(0:Int)=Un.dv (Un.sym s) 1:=(Un.dv_s hsy 1).symm;have e2:(0:Int)=Un.dv (Un.sym s) 2:=(Un.dv_s hsy 2).symm;have e3:(1:Int)=Un.dv (Un.sym s) 3:=(Un.dv_s hsy 3).symm;have e4:(0:Int)=Un.dv (Un.sym s) 4:=(Un.dv_s hsy 4).symm;have e5:(0:Int)=Un.dv (Un.sym s) 5:=(Un.dv_s hsy 5).symm;have e6:n15=Fr.rS ((Un.sym s).isSome=true) (Un.fv (Un.sym s)):=(Fr.Fz.ret (Fr.Fz.of (by decide) hn15 hl15 hn16 hl16) (Un.is_s hsy) (Un.fv_s hsy).symm).1;have e8:n16=Fr.rT ((Un.sym s).isSome=true):=(Fr.Fz.ret (Fr.Fz.of (by decide) hn15 hl15 hn16 hl16) (Un.is_s hsy) (Un.fv_s hsy).symm).2.2.1;have e10:true=(Un.sym s).isSome:=by rw [hsy];rfl
    exact V.rT [0,0] [(G18 0).ss 0,(G18 0).ss 1] [] [] [0,1] [] (cong9 (fun (xz0 xz1 xz2 xz3 xz4 xz5 xz6 xz8:Int) (xz10:Bool)=>(.tuple #[.agg #[iv xz0,iv xz1,iv xz2,iv xz3,iv xz4,iv xz5,iv xz6,((G18 0).ss 0).v,iv xz8,((G18 0).ss 1).v],bv xz10]:Value)) e0 e1 e2 e3 e4 e5 e6 e8 e10)
  have hsn7:¬ s=⟨#[74]⟩:=q16;refine V.gf [.seq s ⟨#[87,104]⟩,.u 1] fun _ _ G19=>?_;intro S_ s_
  refine V.cn (b:=decide (s=⟨#[87,104]⟩)) iDT iDF (fun q17=>?_) (fun q18=>?_)
  · have hsy:Un.sym s=some ([0,0,0,1,0,0],Rat.divInt 3600 1):=by rw [q17];kernel_rfl
    refine nm (Fr.rS ((1:Int)≠0) (Rat.divInt (3600:Int) (1:Int)):Int) fun n17 hn17=>?_;refine nm (Fr.rD ((1:Int)≠0) (Rat.divInt (3600:Int) (1:Int)):List Int) fun l17 hl17=>?_;refine nm (Fr.rT ((1:Int)≠0):Int) fun n18 hn18=>?_;refine nm (Fr.rE ((1:Int)≠0) (Rat.divInt (3600:Int) (1:Int)):List Int) fun l18 hl18=>?_;refine V.gf [.cA 0 161 [] fun G=>uof3_ctv (1:Int) (3600:Int) (1:Int) (by omega) (by omega) (by omega) n17 hn17 l17 hl17 n18 hn18 l18 hl18,.s 0,.kb true] fun _ _ G20=>?_;intro S_ s_
    have e7:l17=Fr.rD ((Un.sym s).isSome=true) (Un.fv (Un.sym s)):=(Fr.Fz.ret (Fr.Fz.of (by decide) hn17 hl17 hn18 hl18) (Un.is_s hsy) (Un.fv_s hsy).symm).2.1;subst e7;have e9:l18=Fr.rE ((Un.sym s).isSome=true) (Un.fv (Un.sym s)):=(Fr.Fz.ret (Fr.Fz.of (by decide) hn17 hl17 hn18 hl18) (Un.is_s hsy) (Un.fv_s hsy).symm).2.2.2;subst e9;have e0:(0:Int)=Un.dv (Un.sym s) 0:=(Un.dv_s hsy 0).symm;have e1:(0:Int)=Un.dv (Un.sym s) 1:=(Un.dv_s hsy 1).symm;have e2:(0:Int)=Un.dv (Un.sym s) 2:=(Un.dv_s hsy 2).symm;have e3:(1:Int)=Un.dv (Un.sym s) 3:=(Un.dv_s hsy 3).symm;have e4:(0:Int)=Un.dv (Un.sym s) 4:=(Un.dv_s hsy 4).symm;have e5:(0:Int)=Un.dv (Un.sym s) 5:=(Un.dv_s hsy 5).symm;have e6:n17=Fr.rS ((Un.sym s).isSome=true) (Un.fv (Un.sym s)):=(Fr.Fz.ret (Fr.Fz.of (by decide) hn17 hl17 hn18 hl18) (Un.is_s hsy) (Un.fv_s hsy).symm).1;have e8:n18=Fr.rT ((Un.sym s).isSome=true):=(Fr.Fz.ret (Fr.Fz.of (by decide) hn17 hl17 hn18 hl18) (Un.is_s hsy) (Un.fv_s hsy).symm).2.2.1;have e10:true=(Un.sym s).isSome:=by rw [hsy];rfl
    exact V.rT [0,0] [(G20 0).ss 0,(G20 0).ss 1] [] [] [0,1] [] (cong9 (fun (xz0 xz1 xz2 xz3 xz4 xz5 xz6 xz8:Int) (xz10:Bool)=>(.tuple #[.agg #[iv xz0,iv xz1,iv xz2,iv xz3,iv xz4,iv xz5,iv xz6,((G20 0).ss 0).v,iv xz8,((G20 0).ss 1).v],bv xz10]:Value)) e0 e1 e2 e3 e4 e5 e6 e8 e10)
  have hsn8:¬ s=⟨#[87,104]⟩:=q18;refine V.gf [.seq s ⟨#[99,101,110,116]⟩,.u 1] fun _ _ G21=>?_;intro S_ s_
  refine V.cn (b:=decide (s=⟨#[99,101,110,116]⟩)) iDT iDF (fun q19=>?_) (fun q20=>?_)
  · have hsy:Un.sym s=some ([0,0,0,0,1,0],Rat.divInt 1 1):=by rw [q19];kernel_rfl
    refine nm (Fr.rS ((1:Int)≠0) (Rat.divInt (1:Int) (1:Int)):Int) fun n19 hn19=>?_;refine nm (Fr.rD ((1:Int)≠0) (Rat.divInt (1:Int) (1:Int)):List Int) fun l19 hl19=>?_;refine nm (Fr.rT ((1:Int)≠0):Int) fun n20 hn20=>?_;refine nm (Fr.rE ((1:Int)≠0) (Rat.divInt (1:Int) (1:Int)):List Int) fun l20 hl20=>?_;refine V.gf [.cA 0 161 [] fun G=>uof4_ctv (1:Int) (1:Int) (1:Int) (by omega) (by omega) (by omega) n19 hn19 l19 hl19 n20 hn20 l20 hl20,.s 0,.kb true] fun _ _ G22=>?_;intro S_ s_
    have e7:l19=Fr.rD ((Un.sym s).isSome=true) (Un.fv (Un.sym s)):=(Fr.Fz.ret (Fr.Fz.of (by decide) hn19 hl19 hn20 hl20) (Un.is_s hsy) (Un.fv_s hsy).symm).2.1;subst e7;have e9:l20=Fr.rE ((Un.sym s).isSome=true) (Un.fv (Un.sym s)):=(Fr.Fz.ret (Fr.Fz.of (by decide) hn19 hl19 hn20 hl20) (Un.is_s hsy) (Un.fv_s hsy).symm).2.2.2;subst e9;have e0:(0:Int)=Un.dv (Un.sym s) 0:=(Un.dv_s hsy 0).symm;have e1:(0:Int)=Un.dv (Un.sym s) 1:=(Un.dv_s hsy 1).symm;have e2:(0:Int)=Un.dv (Un.sym s) 2:=(Un.dv_s hsy 2).symm;have e3:(0:Int)=Un.dv (Un.sym s) 3:=(Un.dv_s hsy 3).symm;have e4:(1:Int)=Un.dv (Un.sym s) 4:=(Un.dv_s hsy 4).symm;have e5:(0:Int)=Un.dv (Un.sym s) 5:=(Un.dv_s hsy 5).symm;have e6:n19=Fr.rS ((Un.sym s).isSome=true) (Un.fv (Un.sym s)):=(Fr.Fz.ret (Fr.Fz.of (by decide) hn19 hl19 hn20 hl20) (Un.is_s hsy) (Un.fv_s hsy).symm).1;have e8:n20=Fr.rT ((Un.sym s).isSome=true):=(Fr.Fz.ret (Fr.Fz.of (by decide) hn19 hl19 hn20 hl20) (Un.is_s hsy) (Un.fv_s hsy).symm).2.2.1;have e10:true=(Un.sym s).isSome:=by rw [hsy];rfl
    exact V.rT [0,0] [(G22 0).ss 0,(G22 0).ss 1] [] [] [0,1] [] (cong9 (fun (xz0 xz1 xz2 xz3 xz4 xz5 xz6 xz8:Int) (xz10:Bool)=>(.tuple #[.agg #[iv xz0,iv xz1,iv xz2,iv xz3,iv xz4,iv xz5,iv xz6,((G22 0).ss 0).v,iv xz8,((G22 0).ss 1).v],bv xz10]:Value)) e0 e1 e2 e3 e4 e5 e6 e8 e10)
  have hsn9:¬ s=⟨#[99,101,110,116]⟩:=q20;refine V.gf [.seq s ⟨#[101,117,114]⟩,.u 1] fun _ _ G23=>?_;intro S_ s_
  refine V.cn (b:=decide (s=⟨#[101,117,114]⟩)) iDT iDF (fun q21=>?_) (fun q22=>?_)
  · have hsy:Un.sym s=some ([0,0,0,0,1,0],Rat.divInt 100 1):=by rw [q21];kernel_rfl
    refine nm (Fr.rS ((1:Int)≠0) (Rat.divInt (100:Int) (1:Int)):Int) fun n21 hn21=>?_;refine nm (Fr.rD ((1:Int)≠0) (Rat.divInt (100:Int) (1:Int)):List Int) fun l21 hl21=>?_;refine nm (Fr.rT ((1:Int)≠0):Int) fun n22 hn22=>?_;refine nm (Fr.rE ((1:Int)≠0) (Rat.divInt (100:Int) (1:Int)):List Int) fun l22 hl22=>?_;refine V.gf [.cA 0 161 [] fun G=>uof4_ctv (1:Int) (100:Int) (1:Int) (by omega) (by omega) (by omega) n21 hn21 l21 hl21 n22 hn22 l22 hl22,.s 0,.kb true] fun _ _ G24=>?_;intro S_ s_
    have e7:l21=Fr.rD ((Un.sym s).isSome=true) (Un.fv (Un.sym s)):=(Fr.Fz.ret (Fr.Fz.of (by decide) hn21 hl21 hn22 hl22) (Un.is_s hsy) (Un.fv_s hsy).symm).2.1;subst e7;have e9:l22=Fr.rE ((Un.sym s).isSome=true) (Un.fv (Un.sym s)):=(Fr.Fz.ret (Fr.Fz.of (by decide) hn21 hl21 hn22 hl22) (Un.is_s hsy) (Un.fv_s hsy).symm).2.2.2;subst e9;have e0:(0:Int)=Un.dv (Un.sym s) 0:=(Un.dv_s hsy 0).symm;have e1:(0:Int)=Un.dv (Un.sym s) 1:=(Un.dv_s hsy 1).symm;have e2:(0:Int)=Un.dv (Un.sym s) 2:=(Un.dv_s hsy 2).symm;have e3:(0:Int)=Un.dv (Un.sym s) 3:=(Un.dv_s hsy 3).symm;have e4:(1:Int)=Un.dv (Un.sym s) 4:=(Un.dv_s hsy 4).symm;have e5:(0:Int)=Un.dv (Un.sym s) 5:=(Un.dv_s hsy 5).symm;have e6:n21=Fr.rS ((Un.sym s).isSome=true) (Un.fv (Un.sym s)):=(Fr.Fz.ret (Fr.Fz.of (by decide) hn21 hl21 hn22 hl22) (Un.is_s hsy) (Un.fv_s hsy).symm).1;have e8:n22=Fr.rT ((Un.sym s).isSome=true):=(Fr.Fz.ret (Fr.Fz.of (by decide) hn21 hl21 hn22 hl22) (Un.is_s hsy) (Un.fv_s hsy).symm).2.2.1;have e10:true=(Un.sym s).isSome:=by rw [hsy];rfl
    exact V.rT [0,0] [(G24 0).ss 0,(G24 0).ss 1] [] [] [0,1] [] (cong9 (fun (xz0 xz1 xz2 xz3 xz4 xz5 xz6 xz8:Int) (xz10:Bool)=>(.tuple #[.agg #[iv xz0,iv xz1,iv xz2,iv xz3,iv xz4,iv xz5,iv xz6,((G24 0).ss 0).v,iv xz8,((G24 0).ss 1).v],bv xz10]:Value)) e0 e1 e2 e3 e4 e5 e6 e8 e10)
  have hsn10:¬ s=⟨#[101,117,114]⟩:=q22;refine V.gf [.seq s ⟨#[112,99]⟩,.u 1] fun _ _ G25=>?_;intro S_ s_
  refine V.cn (b:=decide (s=⟨#[112,99]⟩)) iDT iDF (fun q23=>?_) (fun q24=>?_)
  · have hsy:Un.sym s=some ([0,0,0,0,0,1],Rat.divInt 1 1):=by rw [q23];kernel_rfl
    refine nm (Fr.rS ((1:Int)≠0) (Rat.divInt (1:Int) (1:Int)):Int) fun n23 hn23=>?_;refine nm (Fr.rD ((1:Int)≠0) (Rat.divInt (1:Int) (1:Int)):List Int) fun l23 hl23=>?_;refine nm (Fr.rT ((1:Int)≠0):Int) fun n24 hn24=>?_;refine nm (Fr.rE ((1:Int)≠0) (Rat.divInt (1:Int) (1:Int)):List Int) fun l24 hl24=>?_;refine V.gf [.cA 0 161 [] fun G=>uof5_ctv (1:Int) (1:Int) (1:Int) (by omega) (by omega) (by omega) n23 hn23 l23 hl23 n24 hn24 l24 hl24,.s 0,.kb true] fun _ _ G26=>?_;intro S_ s_
    have e7:l23=Fr.rD ((Un.sym s).isSome=true) (Un.fv (Un.sym s)):=(Fr.Fz.ret (Fr.Fz.of (by decide) hn23 hl23 hn24 hl24) (Un.is_s hsy) (Un.fv_s hsy).symm).2.1;subst e7;have e9:l24=Fr.rE ((Un.sym s).isSome=true) (Un.fv (Un.sym s)):=(Fr.Fz.ret (Fr.Fz.of (by decide) hn23 hl23 hn24 hl24) (Un.is_s hsy) (Un.fv_s hsy).symm).2.2.2;subst e9;have e0:(0:Int)=Un.dv (Un.sym s) 0:=(Un.dv_s hsy 0).symm;have e1:(0:Int)=Un.dv (Un.sym s) 1:=(Un.dv_s hsy 1).symm;have e2:(0:Int)=Un.dv (Un.sym s) 2:=(Un.dv_s hsy 2).symm;have e3:(0:Int)=Un.dv (Un.sym s) 3:=(Un.dv_s hsy 3).symm;have e4:(0:Int)=Un.dv (Un.sym s) 4:=(Un.dv_s hsy 4).symm;have e5:(1:Int)=Un.dv (Un.sym s) 5:=(Un.dv_s hsy 5).symm;have e6:n23=Fr.rS ((Un.sym s).isSome=true) (Un.fv (Un.sym s)):=(Fr.Fz.ret (Fr.Fz.of (by decide) hn23 hl23 hn24 hl24) (Un.is_s hsy) (Un.fv_s hsy).symm).1;have e8:n24=Fr.rT ((Un.sym s).isSome=true):=(Fr.Fz.ret (Fr.Fz.of (by decide) hn23 hl23 hn24 hl24) (Un.is_s hsy) (Un.fv_s hsy).symm).2.2.1;have e10:true=(Un.sym s).isSome:=by rw [hsy];rfl
    exact V.rT [0,0] [(G26 0).ss 0,(G26 0).ss 1] [] [] [0,1] [] (cong9 (fun (xz0 xz1 xz2 xz3 xz4 xz5 xz6 xz8:Int) (xz10:Bool)=>(.tuple #[.agg #[iv xz0,iv xz1,iv xz2,iv xz3,iv xz4,iv xz5,iv xz6,((G26 0).ss 0).v,iv xz8,((G26 0).ss 1).v],bv xz10]:Value)) e0 e1 e2 e3 e4 e5 e6 e8 e10)
  have hsn11:¬ s=⟨#[112,99]⟩:=q24;have hsy:Un.sym s=none:=Un.sym_no hsn0 hsn1 hsn2 hsn3 hsn4 hsn5 hsn6 hsn7 hsn8 hsn9 hsn10 hsn11;refine V.gf [.u 1,.s 0,.kb false] fun _ _ G27=>?_;intro S_ s_
  refine V.nilF (α:=Int) ?_;refine V.nilF (α:=Int) ?_;have e7:([]:List Int)=Fr.rD ((Un.sym s).isSome=true) (Un.fv (Un.sym s)):=(Fr.Fz.no (Un.is_n hsy) (Un.fv (Un.sym s))).2.1;rw [←e7];have e9:([]:List Int)=Fr.rE ((Un.sym s).isSome=true) (Un.fv (Un.sym s)):=(Fr.Fz.no (Un.is_n hsy) (Un.fv (Un.sym s))).2.2.2;rw [←e9];have e0:(0:Int)=Un.dv (Un.sym s) 0:=(Un.dv_n hsy 0).symm;have e1:(0:Int)=Un.dv (Un.sym s) 1:=(Un.dv_n hsy 1).symm;have e2:(0:Int)=Un.dv (Un.sym s) 2:=(Un.dv_n hsy 2).symm;have e3:(0:Int)=Un.dv (Un.sym s) 3:=(Un.dv_n hsy 3).symm;have e4:(0:Int)=Un.dv (Un.sym s) 4:=(Un.dv_n hsy 4).symm;have e5:(0:Int)=Un.dv (Un.sym s) 5:=(Un.dv_n hsy 5).symm;have e6:(0:Int)=Fr.rS ((Un.sym s).isSome=true) (Un.fv (Un.sym s)):=(Fr.Fz.no (Un.is_n hsy) (Un.fv (Un.sym s))).1;have e8:(0:Int)=Fr.rT ((Un.sym s).isSome=true):=(Fr.Fz.no (Un.is_n hsy) (Un.fv (Un.sym s))).2.2.1;have e10:false=(Un.sym s).isSome:=by rw [hsy];rfl
  exact V.rT [0,0] [] [] [] [0,1] [] (cong9 (fun (xz0 xz1 xz2 xz3 xz4 xz5 xz6 xz8:Int) (xz10:Bool)=>(.tuple #[.agg #[iv xz0,iv xz1,iv xz2,iv xz3,iv xz4,iv xz5,iv xz6,SV.v ({}),iv xz8,SV.v ({})],bv xz10]:Value)) e0 e1 e2 e3 e4 e5 e6 e8 e10)
theorem usym_ctv (s:ByteArray) (rv0:Int) (erv0:rv0=Un.dv (Un.sym s) 0) (rv1:Int) (erv1:rv1=Un.dv (Un.sym s) 1) (rv2:Int) (erv2:rv2=Un.dv (Un.sym s) 2) (rv3:Int) (erv3:rv3=Un.dv (Un.sym s) 3) (rv4:Int) (erv4:rv4=Un.dv (Un.sym s) 4) (rv5:Int) (erv5:rv5=Un.dv (Un.sym s) 5) (rv6:Int) (erv6:rv6=Fr.rS ((Un.sym s).isSome=true) (Un.fv (Un.sym s))) (rv7:List Int) (erv7:rv7=Fr.rD ((Un.sym s).isSome=true) (Un.fv (Un.sym s))) (rv8:Int) (erv8:rv8=Fr.rT ((Un.sym s).isSome=true)) (rv9:List Int) (erv9:rv9=Fr.rE ((Un.sym s).isSome=true) (Un.fv (Un.sym s))) :
    Ct Tryz.prog 152 #[tv s] [] [] (fun g=>.tuple #[.agg #[iv rv0,iv rv1,iv rv2,iv rv3,iv rv4,iv rv5,iv rv6,((g.ss 0)).v,iv rv8,((g.ss 1)).v],bv ((Un.sym s).isSome)]) (fun g=>[fs true rv7 (g.ss 0),fs true rv9 (g.ss 1)]) (fun g=>[]) (fun g=>[]):=by
  subst erv0 erv1 erv2 erv3 erv4 erv5 erv6 erv7 erv8 erv9;exact usym_ct s 

open Go Go.Proofs
set_option maxRecDepth 10000 in
theorem upre_ct (c:Int) :
    Cp Tryz.prog 153 #[.int .u8 c] [] (.tuple #[iv (Un.pp (Un.pre c)),iv (Un.pq (Un.pre c)),bv ((Un.pre c).isSome)]):=by
  refine V.fo mo Tryz.func153 14 0 fun w H ε k0=>?_;clear k0
  refine V.gf [.u 2,.kb false] fun _ _ G1=>?_;intro S s
  refine V.gf [.u 1] fun _ _ G2=>?_;intro S s
  refine V.gf [.u 2] fun _ _ G3=>?_;intro S s
  refine V.cn (b:=decide (c=107)) iDT iDF (fun q1=>?_) (fun q2=>?_)
  · have hpx:Un.pre c=some (1000,1):=by unfold Un.pre;rw [if_pos q1]
    refine V.gf [.u 2,.kb true] fun _ _ G4=>?_;intro S s
    have e0:(1000:Int)=Un.pp (Un.pre c):=by rw [hpx];rfl
    have e1:(1:Int)=Un.pq (Un.pre c):=by rw [hpx];rfl
    have e2:true=(Un.pre c).isSome:=by rw [hpx];rfl
    exact V.rT [0,0,0] [] [] [] [] [] (cong3 (fun (xz0 xz1:Int) (xz2:Bool)=>(.tuple #[iv xz0,iv xz1,bv xz2]:Value)) e0 e1 e2)
  have hpn0:=q2;refine V.gf [.u 2] fun _ _ G5=>?_;intro S s
  refine V.cn (b:=decide (c=77)) iDT iDF (fun q3=>?_) (fun q4=>?_)
  · have hpx:Un.pre c=some (1000000,1):=by unfold Un.pre;rw [if_neg hpn0,if_pos q3]
    refine V.gf [.u 2,.kb true] fun _ _ G6=>?_;intro S s
    have e0:(1000000:Int)=Un.pp (Un.pre c):=by rw [hpx];rfl
    have e1:(1:Int)=Un.pq (Un.pre c):=by rw [hpx];rfl
    have e2:true=(Un.pre c).isSome:=by rw [hpx];rfl
    exact V.rT [0,0,0] [] [] [] [] [] (cong3 (fun (xz0 xz1:Int) (xz2:Bool)=>(.tuple #[iv xz0,iv xz1,bv xz2]:Value)) e0 e1 e2)
  have hpn1:=q4;refine V.gf [.u 2] fun _ _ G7=>?_;intro S s
  refine V.cn (b:=decide (c=71)) iDT iDF (fun q5=>?_) (fun q6=>?_)
  · have hpx:Un.pre c=some (1000000000,1):=by unfold Un.pre;rw [if_neg hpn0,if_neg hpn1,if_pos q5]
    refine V.gf [.u 2,.kb true] fun _ _ G8=>?_;intro S s
    have e0:(1000000000:Int)=Un.pp (Un.pre c):=by rw [hpx];rfl
    have e1:(1:Int)=Un.pq (Un.pre c):=by rw [hpx];rfl
    have e2:true=(Un.pre c).isSome:=by rw [hpx];rfl
    exact V.rT [0,0,0] [] [] [] [] [] (cong3 (fun (xz0 xz1:Int) (xz2:Bool)=>(.tuple #[iv xz0,iv xz1,bv xz2]:Value)) e0 e1 e2)
  have hpn2:=q6;refine V.gf [.u 2] fun _ _ G9=>?_;intro S s
  refine V.cn (b:=decide (c=109)) iDT iDF (fun q7=>?_) (fun q8=>?_)
  · have hpx:Un.pre c=some (1,1000):=by unfold Un.pre;rw [if_neg hpn0,if_neg hpn1,if_neg hpn2,if_pos q7]
    refine V.gf [.u 2,.kb true] fun _ _ G10=>?_;intro S s
    have e0:(1:Int)=Un.pp (Un.pre c):=by rw [hpx];rfl
    have e1:(1000:Int)=Un.pq (Un.pre c):=by rw [hpx];rfl
    have e2:true=(Un.pre c).isSome:=by rw [hpx];rfl
    exact V.rT [0,0,0] [] [] [] [] [] (cong3 (fun (xz0 xz1:Int) (xz2:Bool)=>(.tuple #[iv xz0,iv xz1,bv xz2]:Value)) e0 e1 e2)
  have hpn3:=q8;have hpx:Un.pre c=none:=by unfold Un.pre;rw [if_neg hpn0,if_neg hpn1,if_neg hpn2,if_neg hpn3]
  refine V.gf [.u 2,.kb false] fun _ _ G11=>?_;intro S s
  have e0:(0:Int)=Un.pp (Un.pre c):=by rw [hpx];rfl
  have e1:(0:Int)=Un.pq (Un.pre c):=by rw [hpx];rfl
  have e2:false=(Un.pre c).isSome:=by rw [hpx];rfl
  exact V.rT [0,0,0] [] [] [] [] [] (cong3 (fun (xz0 xz1:Int) (xz2:Bool)=>(.tuple #[iv xz0,iv xz1,bv xz2]:Value)) e0 e1 e2)
theorem upre_ctv (c rv0:Int) (erv0:rv0=Un.pp (Un.pre c)) (rv1:Int) (erv1:rv1=Un.pq (Un.pre c)) :
    Cp Tryz.prog 153 #[.int .u8 c] [] (.tuple #[iv rv0,iv rv1,bv ((Un.pre c).isSome)]):=by
  subst erv0 erv1;exact upre_ct c 
set_option maxRecDepth 10000 in
theorem upfx_ct (s:ByteArray) :
    Cp Tryz.prog 154 #[tv s] [] (bv (decide (Un.pf s))):=by
  refine V.fo mo Tryz.func154 11 0 fun w H ε k0=>?_;clear k0
  refine V.g [.kb false] fun _ _ G1=>?_;intro S_ s_
  refine V.gf [.u 1] fun _ _ G2=>?_;intro S_ s_
  refine V.gf [.seq s ⟨#[103]⟩,.u 1] fun _ _ G3=>?_;intro S_ s_
  refine V.cn (b:=decide (s=⟨#[103]⟩)) iDT iDF (fun q1=>?_) (fun q2=>?_)
  · have hpe:s=⟨#[103]⟩:=q1;have hpf:Un.pf s:=by rw [q1];decide
    refine V.cn (b:=decide (s=⟨#[103]⟩)) iDT iDF (fun q3=>?_) (fun q4=>?_)
    · have hpe:s=⟨#[103]⟩:=q3;have hpf:Un.pf s:=by rw [q3];decide
      refine V.g [.kb true] fun _ _ G4=>?_;intro S_ s_
      have e0:true=decide (Un.pf s):=by refine (decide_eq_true ?_).symm;have hqq:=q3;first | exact hpf | exact hqq | (rw [hqq];decide)
      exact V.rT [0] [] [] [] [] [] (cong1 (fun (xz0:Bool)=>(bv xz0:Value)) e0)
    have hfn0:¬ s=⟨#[103]⟩:=q4;refine V.g [.kb false] fun _ _ G5=>?_;intro S_ s_
    have e0:false=decide (Un.pf s):=by refine (decide_eq_false ?_).symm;have hqq:=q4;first | exact absurd hpe hqq | (unfold Un.pf;rintro (((((h | h) | h) | h) | h) | h) <;> first | exact hfn0 h | exact hfn1 h | exact hfn2 h | exact hfn3 h | exact hfn4 h | exact hqq h)
    exact V.rT [0] [] [] [] [] [] (cong1 (fun (xz0:Bool)=>(bv xz0:Value)) e0)
  have hfn0:¬ s=⟨#[103]⟩:=q2;refine V.gf [.seq s ⟨#[109]⟩,.u 1] fun _ _ G6=>?_;intro S_ s_
  refine V.cn (b:=decide (s=⟨#[109]⟩)) iDT iDF (fun q5=>?_) (fun q6=>?_)
  · have hpe:s=⟨#[109]⟩:=q5;have hpf:Un.pf s:=by rw [q5];decide
    refine V.cn (b:=decide (s=⟨#[109]⟩)) iDT iDF (fun q7=>?_) (fun q8=>?_)
    · have hpe:s=⟨#[109]⟩:=q7;have hpf:Un.pf s:=by rw [q7];decide
      refine V.g [.kb true] fun _ _ G7=>?_;intro S_ s_
      have e0:true=decide (Un.pf s):=by refine (decide_eq_true ?_).symm;have hqq:=q7;first | exact hpf | exact hqq | (rw [hqq];decide)
      exact V.rT [0] [] [] [] [] [] (cong1 (fun (xz0:Bool)=>(bv xz0:Value)) e0)
    have hfn1:¬ s=⟨#[109]⟩:=q8;refine V.g [.kb false] fun _ _ G8=>?_;intro S_ s_
    have e0:false=decide (Un.pf s):=by refine (decide_eq_false ?_).symm;have hqq:=q8;first | exact absurd hpe hqq | (unfold Un.pf;rintro (((((h | h) | h) | h) | h) | h) <;> first | exact hfn0 h | exact hfn1 h | exact hfn2 h | exact hfn3 h | exact hfn4 h | exact hqq h)
    exact V.rT [0] [] [] [] [] [] (cong1 (fun (xz0:Bool)=>(bv xz0:Value)) e0)
  have hfn1:¬ s=⟨#[109]⟩:=q6;refine V.gf [.seq s ⟨#[108]⟩,.u 1] fun _ _ G9=>?_;intro S_ s_
  refine V.cn (b:=decide (s=⟨#[108]⟩)) iDT iDF (fun q9=>?_) (fun q10=>?_)
  · have hpe:s=⟨#[108]⟩:=q9;have hpf:Un.pf s:=by rw [q9];decide
    refine V.cn (b:=decide (s=⟨#[108]⟩)) iDT iDF (fun q11=>?_) (fun q12=>?_)
    · have hpe:s=⟨#[108]⟩:=q11;have hpf:Un.pf s:=by rw [q11];decide
      refine V.g [.kb true] fun _ _ G10=>?_;intro S_ s_
      have e0:true=decide (Un.pf s):=by refine (decide_eq_true ?_).symm;have hqq:=q11;first | exact hpf | exact hqq | (rw [hqq];decide)
      exact V.rT [0] [] [] [] [] [] (cong1 (fun (xz0:Bool)=>(bv xz0:Value)) e0)
    have hfn2:¬ s=⟨#[108]⟩:=q12;refine V.g [.kb false] fun _ _ G11=>?_;intro S_ s_
    have e0:false=decide (Un.pf s):=by refine (decide_eq_false ?_).symm;have hqq:=q12;first | exact absurd hpe hqq | (unfold Un.pf;rintro (((((h | h) | h) | h) | h) | h) <;> first | exact hfn0 h | exact hfn1 h | exact hfn2 h | exact hfn3 h | exact hfn4 h | exact hqq h)
    exact V.rT [0] [] [] [] [] [] (cong1 (fun (xz0:Bool)=>(bv xz0:Value)) e0)
  have hfn2:¬ s=⟨#[108]⟩:=q10;refine V.gf [.seq s ⟨#[115]⟩,.u 1] fun _ _ G12=>?_;intro S_ s_
  refine V.cn (b:=decide (s=⟨#[115]⟩)) iDT iDF (fun q13=>?_) (fun q14=>?_)
  · have hpe:s=⟨#[115]⟩:=q13;have hpf:Un.pf s:=by rw [q13];decide
    refine V.cn (b:=decide (s=⟨#[115]⟩)) iDT iDF (fun q15=>?_) (fun q16=>?_)
    · have hpe:s=⟨#[115]⟩:=q15;have hpf:Un.pf s:=by rw [q15];decide
      refine V.g [.kb true] fun _ _ G13=>?_;intro S_ s_
      have e0:true=decide (Un.pf s):=by refine (decide_eq_true ?_).symm;have hqq:=q15;first | exact hpf | exact hqq | (rw [hqq];decide)
      exact V.rT [0] [] [] [] [] [] (cong1 (fun (xz0:Bool)=>(bv xz0:Value)) e0)
    have hfn3:¬ s=⟨#[115]⟩:=q16;refine V.g [.kb false] fun _ _ G14=>?_;intro S_ s_
    have e0:false=decide (Un.pf s):=by refine (decide_eq_false ?_).symm;have hqq:=q16;first | exact absurd hpe hqq | (unfold Un.pf;rintro (((((h | h) | h) | h) | h) | h) <;> first | exact hfn0 h | exact hfn1 h | exact hfn2 h | exact hfn3 h | exact hfn4 h | exact hqq h)
    exact V.rT [0] [] [] [] [] [] (cong1 (fun (xz0:Bool)=>(bv xz0:Value)) e0)
  have hfn3:¬ s=⟨#[115]⟩:=q14;refine V.gf [.seq s ⟨#[74]⟩,.u 1] fun _ _ G15=>?_;intro S_ s_
  refine V.cn (b:=decide (s=⟨#[74]⟩)) iDT iDF (fun q17=>?_) (fun q18=>?_)
  · have hpe:s=⟨#[74]⟩:=q17;have hpf:Un.pf s:=by rw [q17];decide
    refine V.cn (b:=decide (s=⟨#[74]⟩)) iDT iDF (fun q19=>?_) (fun q20=>?_)
    · have hpe:s=⟨#[74]⟩:=q19;have hpf:Un.pf s:=by rw [q19];decide
      refine V.g [.kb true] fun _ _ G16=>?_;intro S_ s_
      have e0:true=decide (Un.pf s):=by refine (decide_eq_true ?_).symm;have hqq:=q19;first | exact hpf | exact hqq | (rw [hqq];decide)
      exact V.rT [0] [] [] [] [] [] (cong1 (fun (xz0:Bool)=>(bv xz0:Value)) e0)
    have hfn4:¬ s=⟨#[74]⟩:=q20;refine V.g [.kb false] fun _ _ G17=>?_;intro S_ s_
    have e0:false=decide (Un.pf s):=by refine (decide_eq_false ?_).symm;have hqq:=q20;first | exact absurd hpe hqq | (unfold Un.pf;rintro (((((h | h) | h) | h) | h) | h) <;> first | exact hfn0 h | exact hfn1 h | exact hfn2 h | exact hfn3 h | exact hfn4 h | exact hqq h)
    exact V.rT [0] [] [] [] [] [] (cong1 (fun (xz0:Bool)=>(bv xz0:Value)) e0)
  have hfn4:¬ s=⟨#[74]⟩:=q18;refine V.gf [.seq s ⟨#[87,104]⟩,.u 1] fun _ _ G18=>?_;intro S_ s_
  refine V.cn (b:=decide (s=⟨#[87,104]⟩)) iDT iDF (fun q21=>?_) (fun q22=>?_)
  · refine V.g [.kb true] fun _ _ G19=>?_;intro S_ s_
    have e0:true=decide (Un.pf s):=by refine (decide_eq_true ?_).symm;have hqq:=q21;first | exact hpf | exact hqq | (rw [hqq];decide)
    exact V.rT [0] [] [] [] [] [] (cong1 (fun (xz0:Bool)=>(bv xz0:Value)) e0)
  refine V.g [.kb false] fun _ _ G20=>?_;intro S_ s_
  have e0:false=decide (Un.pf s):=by refine (decide_eq_false ?_).symm;have hqq:=q22;first | exact absurd hpe hqq | (unfold Un.pf;rintro (((((h | h) | h) | h) | h) | h) <;> first | exact hfn0 h | exact hfn1 h | exact hfn2 h | exact hfn3 h | exact hfn4 h | exact hqq h)
  exact V.rT [0] [] [] [] [] [] (cong1 (fun (xz0:Bool)=>(bv xz0:Value)) e0)
set_option maxRecDepth 10000 in
theorem ultr_ct (c:Int) :
    Cp Tryz.prog 160 #[.int .u8 c] [] (bv (decide (Un.ltr c))):=by
  refine V.fo mo Tryz.func160 17 0 fun w H ε k0=>?_;clear k0
  refine V.g [.kb false] fun _ _ G1=>?_;intro S s
  refine nm (((decide (97≤c)) && (decide (c≤122))) || ((decide (65≤c)) && (decide (c≤90))):Bool) fun p1 hp1=>?_;refine V.gf [.u 5,.and g0 false (decide (97≤c)) (decide (c≤122)),.u 6,.and (gF (b:=(decide (97≤c)) && (decide (c≤122))) (iAF iDF iDF)) false (decide (65≤c)) (decide (c≤90)),.orn g0 false ((decide (97≤c)) && (decide (c≤122))) ((decide (65≤c)) && (decide (c≤90))) p1 hp1,.u 1] fun _ _ G2=>?_;intro S s
  have e0:p1=decide (Un.ltr c):=by
    refine Bool.eq_iff_iff.2 (Iff.trans (iN hp1 (iOT (iAT iDT iDT) (iAT iDT iDT))) (Iff.trans ?_ decide_eq_true_iff.symm));exact Iff.rfl
  exact V.rT [0] [] [] [] [] [] (cong1 (fun (xz0:Bool)=>(bv xz0:Value)) e0)

open Go Go.Proofs
set_option maxRecDepth 10000 in
theorem uword_ct (s:ByteArray) (hs0:0 < s.size) :
    Ct Tryz.prog 142 #[tv s] [] [] (fun g=>.tuple #[.agg #[iv (Un.dv (Un.word s) 0),iv (Un.dv (Un.word s) 1),iv (Un.dv (Un.word s) 2),iv (Un.dv (Un.word s) 3),iv (Un.dv (Un.word s) 4),iv (Un.dv (Un.word s) 5),iv (Fr.rS ((Un.word s).isSome=true) (Un.fv (Un.word s))),((g.ss 0)).v,iv (Fr.rT ((Un.word s).isSome=true)),((g.ss 1)).v],bv ((Un.word s).isSome)]) (fun g=>[fs true (Fr.rD ((Un.word s).isSome=true) (Un.fv (Un.word s))) (g.ss 0),fs true (Fr.rE ((Un.word s).isSome=true) (Un.fv (Un.word s))) (g.ss 1)]) (fun g=>[]) (fun g=>[]):=by
  refine V.fo mo Tryz.func142 61 4 fun w H ε k0=>?_;clear k0
  refine V.gf [.n 0,.kb false] fun _ _ G1=>?_;intro S_ s_
  refine nm (Un.dv (Un.sym s) 0:Int) fun n1 hn1=>?_;refine nm (Un.dv (Un.sym s) 1:Int) fun n2 hn2=>?_;refine nm (Un.dv (Un.sym s) 2:Int) fun n3 hn3=>?_;refine nm (Un.dv (Un.sym s) 3:Int) fun n4 hn4=>?_;refine nm (Un.dv (Un.sym s) 4:Int) fun n5 hn5=>?_;refine nm (Un.dv (Un.sym s) 5:Int) fun n6 hn6=>?_;refine nm (Fr.rS ((Un.sym s).isSome=true) (Un.fv (Un.sym s)):Int) fun n7 hn7=>?_;refine nm (Fr.rD ((Un.sym s).isSome=true) (Un.fv (Un.sym s)):List Int) fun l1 hl1=>?_;refine nm (Fr.rT ((Un.sym s).isSome=true):Int) fun n8 hn8=>?_;refine nm (Fr.rE ((Un.sym s).isSome=true) (Un.fv (Un.sym s)):List Int) fun l2 hl2=>?_;refine V.gf [.u 1,.cA 1 152 [] fun G=>usym_ctv s n1 hn1 n2 hn2 n3 hn3 n4 hn4 n5 hn5 n6 hn6 n7 hn7 l1 hl1 n8 hn8 l2 hl2,.u 3,.n 1,.s 1,.u 1] fun _ _ G2=>?_;intro S_ s_
  refine V.gf [.u 1] fun _ _ G3=>?_;intro S_ s_
  refine V.cn (b:=(Un.sym s).isSome) Iff.rfl Iff.rfl (fun q1=>?_) (fun q2=>?_)
  · have hsy:(Un.sym s).isSome=true:=by have hqq:=q1;simpa using hqq
    refine V.gf [.l 1,.s 0,.kb true] fun _ _ G4=>?_;intro S_ s_
    have e7:l1=Fr.rD ((Un.word s).isSome=true) (Un.fv (Un.word s)):=by
      rw [hl1];rw [Un.word_y hsy]
    subst e7;have e9:l2=Fr.rE ((Un.word s).isSome=true) (Un.fv (Un.word s)):=by
      rw [hl2];rw [Un.word_y hsy]
    subst e9;have e0:n1=Un.dv (Un.word s) 0:=by
      rw [hn1];rw [Un.word_y hsy]
    have e1:n2=Un.dv (Un.word s) 1:=by
      rw [hn2];rw [Un.word_y hsy]
    have e2:n3=Un.dv (Un.word s) 2:=by
      rw [hn3];rw [Un.word_y hsy]
    have e3:n4=Un.dv (Un.word s) 3:=by
      rw [hn4];rw [Un.word_y hsy]
    have e4:n5=Un.dv (Un.word s) 4:=by
      rw [hn5];rw [Un.word_y hsy]
    have e5:n6=Un.dv (Un.word s) 5:=by
      rw [hn6];rw [Un.word_y hsy]
    have e6:n7=Fr.rS ((Un.word s).isSome=true) (Un.fv (Un.word s)):=by
      rw [hn7];rw [Un.word_y hsy]
    have e8:n8=Fr.rT ((Un.word s).isSome=true):=by
      rw [hn8];rw [Un.word_y hsy]
    have e10:true=(Un.word s).isSome:=by rw [Un.word_y hsy,hsy]
    exact V.rT [0,0] [(G2 1).ss 0,(G2 1).ss 1] [] [] [0,1] [] (cong9 (fun (xz0 xz1 xz2 xz3 xz4 xz5 xz6 xz8:Int) (xz10:Bool)=>(.tuple #[.agg #[iv xz0,iv xz1,iv xz2,iv xz3,iv xz4,iv xz5,iv xz6,((G2 1).ss 0).v,iv xz8,((G2 1).ss 1).v],bv xz10]:Value)) e0 e1 e2 e3 e4 e5 e6 e8 e10)
  have hsn:¬ (Un.sym s).isSome=true:=by have hqq:=q2;simpa using hqq
  refine nm ((bl s).getD (0:Int).toNat default:UInt8) fun c1 hc1=>?_;refine nm (Un.pp (Un.pre (c1.toNat:Int)):Int) fun n9 hn9=>?_;refine nm (Un.pq (Un.pre (c1.toNat:Int)):Int) fun n10 hn10=>?_;refine V.gf [.u 1,.sid g0 s (0:Int) c1 hc1 (fun _=>⟨by omega,by omega⟩),.cP 2 153 [] fun G=>upre_ctv (c1.toNat:Int) n9 hn9 n10 hn10,.u 7] fun _ _ G5=>?_;intro S_ s_
  refine nm (s.extract (1:Int).toNat (s.size:Int).toNat:ByteArray) fun t1 ht1=>?_;refine nm (Un.dv (Un.sym t1) 0:Int) fun n11 hn11=>?_;refine nm (Un.dv (Un.sym t1) 1:Int) fun n12 hn12=>?_;refine nm (Un.dv (Un.sym t1) 2:Int) fun n13 hn13=>?_;refine nm (Un.dv (Un.sym t1) 3:Int) fun n14 hn14=>?_;refine nm (Un.dv (Un.sym t1) 4:Int) fun n15 hn15=>?_;refine nm (Un.dv (Un.sym t1) 5:Int) fun n16 hn16=>?_;refine nm (Fr.rS ((Un.sym t1).isSome=true) (Un.fv (Un.sym t1)):Int) fun n17 hn17=>?_;refine nm (Fr.rD ((Un.sym t1).isSome=true) (Un.fv (Un.sym t1)):List Int) fun l3 hl3=>?_;refine nm (Fr.rT ((Un.sym t1).isSome=true):Int) fun n18 hn18=>?_;refine nm (Fr.rE ((Un.sym t1).isSome=true) (Un.fv (Un.sym t1)):List Int) fun l4 hl4=>?_;refine V.gf [.u 1,.ssl g0 s (some (1:Int)) none 1 (s.size:Int) rfl rfl t1 ht1 (fun _=>⟨by omega,by omega,by omega⟩),.cA 2 152 [] fun G=>usym_ctv t1 n11 hn11 n12 hn12 n13 hn13 n14 hn14 n15 hn15 n16 hn16 n17 hn17 l3 hl3 n18 hn18 l4 hl4,.u 3,.n 2,.s 2,.u 1] fun _ _ G6=>?_;intro S_ s_
  refine nm ((!((Un.pre (c1.toNat:Int)).isSome)) || (!((Un.sym t1).isSome)):Bool) fun p1 hp1=>?_;refine V.gf [.u 5,.orn g0 false (!((Un.pre (c1.toNat:Int)).isSome)) (!((Un.sym t1).isSome)) p1 hp1,.u 2,.ssl (gF (b:=p1) (iN hp1 (iOF (iNF Iff.rfl) (iNF Iff.rfl)))) s (some (1:Int)) none 1 (s.size:Int) rfl rfl t1 ht1 (fun hg=>⟨by omega,by omega,by omega⟩),.cp (gF (b:=p1) (iN hp1 (iOF (iNF Iff.rfl) (iNF Iff.rfl)))) 9 154 [] (fun hg G=>upfx_ct t1),.u 1,.or g0 false p1 (!(decide (Un.pf t1)))] fun _ _ G7=>?_;intro S_ s_
  refine V.cn (b:=p1 || (!(decide (Un.pf t1)))) (iOT (iN hp1 (iOT (iNT Iff.rfl) (iNT Iff.rfl))) (iNT iDF)) (iOF (iN hp1 (iOF (iNF Iff.rfl) (iNF Iff.rfl))) (iNF iDT)) (fun q3=>?_) (fun q4=>?_)
  · have hwe:Un.wdB s=((Un.pre (c1.toNat:Int)).isSome=true∧(Un.sym t1).isSome=true∧Un.pf t1):=by rw [ht1,hc1];rfl
    have hwk:¬ Un.wdB s:=by rw [hwe];rintro ⟨h1,h2,h3⟩;have hqq:=q3;simp [h1,h2,h3] at hqq
    have hwn:=Un.word_n hsn hwk;refine V.gf [.u 1,.s 0,.kb false] fun _ _ G8=>?_;intro S_ s_
    refine V.nilF (α:=Int) ?_;refine V.nilF (α:=Int) ?_;have e7:([]:List Int)=Fr.rD ((Un.word s).isSome=true) (Un.fv (Un.word s)):=(Fr.Fz.no (Un.is_n hwn) (Un.fv (Un.word s))).2.1;rw [←e7];have e9:([]:List Int)=Fr.rE ((Un.word s).isSome=true) (Un.fv (Un.word s)):=(Fr.Fz.no (Un.is_n hwn) (Un.fv (Un.word s))).2.2.2;rw [←e9];have e0:(0:Int)=Un.dv (Un.word s) 0:=(Un.dv_n hwn 0).symm;have e1:(0:Int)=Un.dv (Un.word s) 1:=(Un.dv_n hwn 1).symm;have e2:(0:Int)=Un.dv (Un.word s) 2:=(Un.dv_n hwn 2).symm;have e3:(0:Int)=Un.dv (Un.word s) 3:=(Un.dv_n hwn 3).symm;have e4:(0:Int)=Un.dv (Un.word s) 4:=(Un.dv_n hwn 4).symm;have e5:(0:Int)=Un.dv (Un.word s) 5:=(Un.dv_n hwn 5).symm;have e6:(0:Int)=Fr.rS ((Un.word s).isSome=true) (Un.fv (Un.word s)):=(Fr.Fz.no (Un.is_n hwn) (Un.fv (Un.word s))).1;have e8:(0:Int)=Fr.rT ((Un.word s).isSome=true):=(Fr.Fz.no (Un.is_n hwn) (Un.fv (Un.word s))).2.2.1;have e10:false=(Un.word s).isSome:=by rw [hwn];rfl
    exact V.rT [0,0] [] [] [] [4,5] [] (cong9 (fun (xz0 xz1 xz2 xz3 xz4 xz5 xz6 xz8:Int) (xz10:Bool)=>(.tuple #[.agg #[iv xz0,iv xz1,iv xz2,iv xz3,iv xz4,iv xz5,iv xz6,SV.v ({}),iv xz8,SV.v ({})],bv xz10]:Value)) e0 e1 e2 e3 e4 e5 e6 e8 e10)
  have hwe:Un.wdB s=((Un.pre (c1.toNat:Int)).isSome=true∧(Un.sym t1).isSome=true∧Un.pf t1):=by rw [ht1,hc1];rfl
  have hwk:Un.wdB s:=by rw [hwe];have hqq:=q4;simpa [and_assoc] using hqq
  have hwk2:=hwe.mp hwk;have hpr:=Un.pre_ok hwk2.1;rw [←hn9,← hn10] at hpr;have hwp:Un.word s=some (((Un.sym t1).getD ([],0)).1,Un.fv (Un.sym t1) * Rat.divInt n9 n10):=by rw [hn9,hn10,ht1,hc1];exact Un.word_p hsn hwk
  have zs:=Fr.Fz.of hwk2.2.1 hn17 hl3 hn18 hl4;have hzs:=zs.len (Un.sym_ok (Un.some_of hwk2.2.1)).2.2.2;refine nm (Fr.rS (n10≠0) (Rat.divInt n9 n10):Int) fun n19 hn19=>?_;refine nm (Fr.rD (n10≠0) (Rat.divInt n9 n10):List Int) fun l5 hl5=>?_;refine nm (Fr.rT (n10≠0):Int) fun n20 hn20=>?_;refine nm (Fr.rE (n10≠0) (Rat.divInt n9 n10):List Int) fun l6 hl6=>?_;refine nm (if n10=0 then (15:Int) else 0:Int) fun n21 hn21=>?_;refine V.gf [.u 2,.cA 2 34 [] fun G=>fof_ctv n9 n10 (by omega) (by omega) n19 hn19 l5 hl5 n20 hn20 l6 hl6 n21 hn21,.u 3,.n 3,.s 3,.u 1] fun _ _ G9=>?_;intro S_ s_
  refine nm (Fr.rS (Fr.FrB n17 l3 n18 l4∧Fr.FrB n19 l5 n20 l6) ((Fr.fq n17 l3 l4) * (Fr.fq n19 l5 l6)):Int) fun n22 hn22=>?_;refine nm (Fr.rD (Fr.FrB n17 l3 n18 l4∧Fr.FrB n19 l5 n20 l6) ((Fr.fq n17 l3 l4) * (Fr.fq n19 l5 l6)):List Int) fun l7 hl7=>?_;refine nm (Fr.rT (Fr.FrB n17 l3 n18 l4∧Fr.FrB n19 l5 n20 l6):Int) fun n23 hn23=>?_;refine nm (Fr.rE (Fr.FrB n17 l3 n18 l4∧Fr.FrB n19 l5 n20 l6) ((Fr.fq n17 l3 l4) * (Fr.fq n19 l5 l6)):List Int) fun l8 hl8=>?_;refine nm (if ¬ (Fr.FrB n17 l3 n18 l4∧Fr.FrB n19 l5 n20 l6) then (1:Int) else 0:Int) fun n24 hn24=>?_;have zf:=Fr.Fz.of (show n10≠0 by omega) hn19 hl5 hn20 hl6
  have hzf:=zf.len (Fr.Hb.divI (k:=3) (by omega) (by omega) (by omega));have zw:=Fr.Fz.of ⟨zs.rt,zf.rt⟩ hn22 hl7 hn23 hl8;rw [zs.v,zf.v] at zw;refine V.gf [.u 1,.l 2,.l 3,.cA 3 36 [kB 2 l3 ((G6 2).ss 0),kB 3 l4 ((G6 2).ss 1),kB 4 l5 ((G9 2).ss 0),kB 5 l6 ((G9 2).ss 1)] fun G=>fmul_ctv n17 l3 ((G6 2).ss 0) n18 l4 ((G6 2).ss 1) n19 l5 ((G9 2).ss 0) n20 l6 ((G9 2).ss 1) (by omega) (by omega) (by omega) (by omega) n22 hn22 l7 hl7 n23 hn23 l8 hl8 n24 hn24,.u 4,.s 2] fun _ _ G10=>?_;intro S_ s_
  refine V.gf [.l 2,.s 0,.kb true] fun _ _ G11=>?_;intro S_ s_
  have e7:l7=Fr.rD ((Un.word s).isSome=true) (Un.fv (Un.word s)):=(Fr.Fz.ret zw (Un.is_s hwp) (Un.fv_s hwp).symm).2.1;subst e7;have e9:l8=Fr.rE ((Un.word s).isSome=true) (Un.fv (Un.word s)):=(Fr.Fz.ret zw (Un.is_s hwp) (Un.fv_s hwp).symm).2.2.2;subst e9;have e0:n11=Un.dv (Un.word s) 0:=by
    rw [hn11,ht1];rw [Un.dv_s hwp,ht1];rfl
  have e1:n12=Un.dv (Un.word s) 1:=by
    rw [hn12,ht1];rw [Un.dv_s hwp,ht1];rfl
  have e2:n13=Un.dv (Un.word s) 2:=by
    rw [hn13,ht1];rw [Un.dv_s hwp,ht1];rfl
  have e3:n14=Un.dv (Un.word s) 3:=by
    rw [hn14,ht1];rw [Un.dv_s hwp,ht1];rfl
  have e4:n15=Un.dv (Un.word s) 4:=by
    rw [hn15,ht1];rw [Un.dv_s hwp,ht1];rfl
  have e5:n16=Un.dv (Un.word s) 5:=by
    rw [hn16,ht1];rw [Un.dv_s hwp,ht1];rfl
  have e6:n22=Fr.rS ((Un.word s).isSome=true) (Un.fv (Un.word s)):=(Fr.Fz.ret zw (Un.is_s hwp) (Un.fv_s hwp).symm).1;have e8:n23=Fr.rT ((Un.word s).isSome=true):=(Fr.Fz.ret zw (Un.is_s hwp) (Un.fv_s hwp).symm).2.2.1;have e10:true=(Un.word s).isSome:=by rw [hwp];rfl
  exact V.rT [0,0] [(G10 3).ss 0,(G10 3).ss 1] [] [] [6,7] [] (cong9 (fun (xz0 xz1 xz2 xz3 xz4 xz5 xz6 xz8:Int) (xz10:Bool)=>(.tuple #[.agg #[iv xz0,iv xz1,iv xz2,iv xz3,iv xz4,iv xz5,iv xz6,((G10 3).ss 0).v,iv xz8,((G10 3).ss 1).v],bv xz10]:Value)) e0 e1 e2 e3 e4 e5 e6 e8 e10)
theorem uword_ctv (s:ByteArray) (hs0:0 < s.size) (rv0:Int) (erv0:rv0=Un.dv (Un.word s) 0) (rv1:Int) (erv1:rv1=Un.dv (Un.word s) 1) (rv2:Int) (erv2:rv2=Un.dv (Un.word s) 2) (rv3:Int) (erv3:rv3=Un.dv (Un.word s) 3) (rv4:Int) (erv4:rv4=Un.dv (Un.word s) 4) (rv5:Int) (erv5:rv5=Un.dv (Un.word s) 5) (rv6:Int) (erv6:rv6=Fr.rS ((Un.word s).isSome=true) (Un.fv (Un.word s))) (rv7:List Int) (erv7:rv7=Fr.rD ((Un.word s).isSome=true) (Un.fv (Un.word s))) (rv8:Int) (erv8:rv8=Fr.rT ((Un.word s).isSome=true)) (rv9:List Int) (erv9:rv9=Fr.rE ((Un.word s).isSome=true) (Un.fv (Un.word s))) :
    Ct Tryz.prog 142 #[tv s] [] [] (fun g=>.tuple #[.agg #[iv rv0,iv rv1,iv rv2,iv rv3,iv rv4,iv rv5,iv rv6,((g.ss 0)).v,iv rv8,((g.ss 1)).v],bv ((Un.word s).isSome)]) (fun g=>[fs true rv7 (g.ss 0),fs true rv9 (g.ss 1)]) (fun g=>[]) (fun g=>[]):=by
  subst erv0 erv1 erv2 erv3 erv4 erv5 erv6 erv7 erv8 erv9;exact uword_ct s hs0
set_option maxRecDepth 10000 in
theorem ucut_ct (s:ByteArray) (hs:s.size≤9223372036854775807) :
    Cp Tryz.prog 151 #[tv s] [] (.tuple #[ag (Ditem.mk (Un.cuW s) (Un.cuE s)),tv (Un.cuR s),bv (decide (0 < Un.nl s))]):=by
  refine V.fo mo Tryz.func151 49 2 fun w H ε k0=>?_;clear k0
  refine V.gf [.n 0,.u 1,.kb false] fun _ _ G1=>?_;intro S_ s_
  refine V.gf [.u 1] fun _ _ G2=>?_;intro S_ s_
  refine V.lp (γ:=Int) (fun n=>⟨[(0,tv s),(2,pp ((G1 0).b) 0),(5,iv n)],[],[.blk ((G1 0).b) (ca (Ditem.mk ByteArray.empty 0)) 225,.no]⟩) (fun n=>(0≤n)∧(n≤(s.size:Int))∧(∀ j,j < n.toNat→Un.ltr (((bl s).getD j default).toNat:Int))) (fun n=>((s.size:Int)-n).toNat) 0 [] ?_ ?_
  · refine ⟨?_,?_,?_⟩
    · show 0≤(0:Int);omega
    · show (0:Int)≤(s.size:Int);omega
    show ∀ j,j < (0:Int).toNat→Un.ltr (((bl s).getD j default).toNat:Int);intro j hj;simp at hj
  rintro n hF1 kw3 Z1 hZ1;have hF1:(0≤n)∧(n≤(s.size:Int))∧(∀ j,j < n.toNat→Un.ltr (((bl s).getD j default).toNat:Int)):=hF1;obtain ⟨hf1,hf2,hf3⟩:=hF1;clear kw3;refine nm ((bl s).getD n.toNat default:UInt8) fun c1 hc1=>?_;refine nm ((decide (n < (s.size:Int))) && (decide (Un.ltr (c1.toNat:Int))):Bool) fun p1 hp1=>?_;refine V.gf [.u 7,.sid (gT (b:=decide (n < (s.size:Int))) iDT) s n c1 hc1 (fun hg=>⟨by omega,by omega⟩),.cp (gT (b:=decide (n < (s.size:Int))) iDT) 8 160 [] (fun hg G=>ultr_ct (c1.toNat:Int)),.andn g0 false (decide (n < (s.size:Int))) (decide (Un.ltr (c1.toNat:Int))) p1 hp1] fun _ _ G3=>?_;intro S_ s_;refine V.cn (b:=p1) (iN hp1 (iAT iDT iDT)) (iN hp1 (iAF iDF iDF)) (fun q1=>?_) (fun q2=>?_)
  · refine V.gf [.u 1,.aa (n+1),.u 1] fun _ _ G4=>?_;intro S_ s_
    refine V.rn hZ1 (n+1) [] ?_ ?_
    · refine ⟨?_,?_,?_⟩
      · show 0≤(n+1);omega
      · show (n+1)≤(s.size:Int);omega
      show ∀ j,j < (n+1).toNat→Un.ltr (((bl s).getD j default).toNat:Int);intro j hj;by_cases e:j < n.toNat
      · exact hf3 j e
      rw [show j=n.toNat by omega,← hc1];exact (q1).2
    show ((s.size:Int)-(n+1)).toNat < ((s.size:Int)-n).toNat;omega
  have hnl:Un.nl s=n.toNat:=Un.nl_at (by omega) hf3 (by have hqq:=q2;rcases hqq with h | h;exact .inl (by omega);right;rw [hc1] at h;exact h);refine nm (s.extract (0:Int).toNat n.toNat:ByteArray) fun t1 ht1=>?_;refine V.gf [.u 2,.ssl g0 s none (some n) 0 n rfl rfl t1 ht1 (fun _=>⟨by omega,by omega,by omega⟩),.u 1,.n 1,.s 1] fun _ _ G5=>?_;intro S_ s_
  refine nm (s.extract n.toNat (s.size:Int).toNat:ByteArray) fun t2 ht2=>?_;refine V.gf [.u 2,.ssl g0 s (some n) none n (s.size:Int) rfl rfl t2 ht2 (fun _=>⟨by omega,by omega,by omega⟩),.u 1] fun _ _ G6=>?_;intro S_ s_
  have hrest:Un.rest s=t2:=by unfold Un.rest;rw [hnl,ht2];rfl
  have hcw:Un.cuW s=t1:=by unfold Un.cuW;rw [hnl,ht1];rfl
  refine nm ((bl t2).getD (0:Int).toNat default:UInt8) fun c2 hc2=>?_;refine nm ((!(decide (t2=ByteArray.empty))) && (decide (50≤(c2.toNat:Int))):Bool) fun p2 hp2=>?_;refine V.gf [.u 1,.sne t2 ByteArray.empty,.u 2,.sid (gT (b:=!(decide (t2=ByteArray.empty))) (iNT iDF)) t2 (0:Int) c2 hc2 (fun hg=>⟨by omega,by have:=Dm.size_ne hg;omega⟩),.u 1,.andn g0 false (!(decide (t2=ByteArray.empty))) (decide (50≤(c2.toNat:Int))) p2 hp2,.u 2,.sid (gT (b:=p2) (iN hp2 (iAT (iNT iDF) iDT))) t2 (0:Int) c2 hc2 (fun hg=>⟨by omega,by have:=Dm.size_ne hg.1;omega⟩),.u 1,.and g0 false p2 (decide ((c2.toNat:Int)≤57))] fun _ _ G7=>?_;intro S_ s_
  refine V.cn (b:=p2 && (decide ((c2.toNat:Int)≤57))) (iAT (iN hp2 (iAT (iNT iDF) iDT)) iDT) (iAF (iN hp2 (iAF (iNF iDT) iDF)) iDF) (fun q3=>?_) (fun q4=>?_)
  · obtain ⟨⟨hne,hlo⟩,hup⟩:=q3;have hsz:=Dm.size_ne hne;have hcd:(bl t2).getD 0 default=c2:=hc2.symm;have hnum:Un.num t2:=by unfold Un.num;rw [hcd];exact ⟨⟨hne,hlo⟩,hup⟩
    refine nm ((c2.toNat:Int)-48:Int) fun n1 hn1=>?_;refine nm (t2.extract (1:Int).toNat (t2.size:Int).toNat:ByteArray) fun t3 ht3=>?_;refine V.gf [.u 1,.sid g0 t2 (0:Int) c2 hc2 (fun _=>⟨by omega,by omega⟩),.ek g0 .u8 ((c2.toNat:Int)-48) n1 (fun _=>by rw [wrapU8];omega),.arg g0 n1 n1 rfl (fun _=>by omega),.u 1,.ssl g0 t2 (some (1:Int)) none 1 (t2.size:Int) rfl rfl t3 ht3 (fun _=>⟨by omega,by omega,by omega⟩),.u 1,.s 1,.u 1] fun _ _ G8=>?_;intro S_ s_
    have hce:Un.cuE s=n1:=by unfold Un.cuE;rw [hrest,if_pos hnum,hcd,hn1]
    have hcr:Un.cuR s=t3:=by unfold Un.cuR;rw [hrest,if_pos hnum,ht3];rfl
    refine V.gf [.l 1,.u 3,.s 0,.u 2] fun _ _ G9=>?_;intro S_ s_
    have e0:t1=Un.cuW s:=hcw.symm;have e1:n1=Un.cuE s:=hce.symm;have e2:t3=Un.cuR s:=hcr.symm;have e3:(decide (0 < n))=decide (0 < Un.nl s):=by
      refine Bool.eq_iff_iff.2 (Iff.trans iDT (Iff.trans ?_ decide_eq_true_iff.symm));rw [hnl];omega
    exact V.rT [0,0,0] [] [] [] [] [] (cong4 (fun (xz0:ByteArray) (xz1:Int) (xz2:ByteArray) (xz3:Bool)=>(.tuple #[.agg #[tv xz0,iv xz1],tv xz2,bv xz3]:Value)) e0 e1 e2 e3)
  have hcd:(bl t2).getD 0 default=c2:=hc2.symm;have hnum:¬ Un.num t2:=by unfold Un.num;rw [hcd];rintro ⟨⟨h1,h2⟩,h3⟩;have hqq:=q4;rcases hqq with (h | h) | h;exact h1 h;exact h h2;exact h h3
  have hce:Un.cuE s=1:=by unfold Un.cuE;rw [hrest,if_neg hnum]
  have hcr:Un.cuR s=t2:=by unfold Un.cuR;rw [hrest,if_neg hnum]
  refine V.gf [.l 1,.u 3,.s 0,.u 2] fun _ _ G10=>?_;intro S_ s_
  have e0:t1=Un.cuW s:=hcw.symm;have e1:(1:Int)=Un.cuE s:=hce.symm;have e2:t2=Un.cuR s:=hcr.symm;have e3:(decide (0 < n))=decide (0 < Un.nl s):=by
    refine Bool.eq_iff_iff.2 (Iff.trans iDT (Iff.trans ?_ decide_eq_true_iff.symm));rw [hnl];omega
  exact V.rT [0,0,0] [] [] [] [] [] (cong4 (fun (xz0:ByteArray) (xz1:Int) (xz2:ByteArray) (xz3:Bool)=>(.tuple #[.agg #[tv xz0,iv xz1],tv xz2,bv xz3]:Value)) e0 e1 e2 e3)
theorem ucut_ctv (s:ByteArray) (hs:s.size≤9223372036854775807) (rv0:ByteArray) (erv0:rv0=Un.cuW s) (rv1:Int) (erv1:rv1=Un.cuE s) (rv2:ByteArray) (erv2:rv2=Un.cuR s) :
    Cp Tryz.prog 151 #[tv s] [] (.tuple #[ag (Ditem.mk rv0 rv1),tv rv2,bv (decide (0 < Un.nl s))]):=by
  subst erv0 erv1 erv2;exact ucut_ct s hs

open Go Go.Proofs
set_option maxRecDepth 10000 in
theorem utimes_ct (h:Int) (e:List Int) (o:SV) (m:Int) (f:List Int) (p:SV) (a:Int) (c:List Int) (j:SV) (i:Int) (d:List Int) (k:SV) (exp:Int) (hFA:Fr.FrB h e m f) (hFF:Fr.FrB a c i d) (hf0:a≠0) (he: -9≤exp∧exp≤9) (hla:e.length≤1000000∧f.length≤1000000) (hlf:c.length≤1000∧d.length≤1000) :
    Ct Tryz.prog 143 #[ag (DFrac.mk ⟨h,e,o⟩ ⟨m,f,p⟩),ag (DFrac.mk ⟨a,c,j⟩ ⟨i,d,k⟩),iv exp] [fs true e o,fs true f p,fs true c j,fs true d k] [] (fun g=>ag (DFrac.mk ⟨(Fr.rS (True) (Un.tm (Fr.fq h e f) (Fr.fq a c d) exp)),Fr.rD (True) (Un.tm (Fr.fq h e f) (Fr.fq a c d) exp),(g.ss 0)⟩ ⟨(Fr.rT (True)),Fr.rE (True) (Un.tm (Fr.fq h e f) (Fr.fq a c d) exp),(g.ss 1)⟩)) (fun g=>[fs false (Fr.rD (True) (Un.tm (Fr.fq h e f) (Fr.fq a c d) exp)) (g.ss 0),fs false (Fr.rE (True) (Un.tm (Fr.fq h e f) (Fr.fq a c d) exp)) (g.ss 1)]) (fun g=>[]) (fun g=>[]):=by
  refine V.fo mo Tryz.func143 29 3 fun w H ε k0=>?_;clear k0
  refine V.gf [.n 0,.n 1,.n 2] fun _ _ G1=>?_;intro S_ s_
  refine V.gf [.u 2,.ng exp (-exp) rfl (by omega) (by omega),.mx exp (-exp),.u 1] fun _ _ G2=>?_;intro S_ s_
  refine V.lp (γ:=Int × Int × List Int × SV × Int × List Int × SV) (fun ⟨k0,a_0,a_1,a_1s,a_2,a_3,a_3s⟩=>⟨[(2,iv exp),(3,pp ((G1 0).b) 0),(4,pp ((G1 1).b) 0),(6,pp ((G1 2).b) 0),(10,iv (max exp (-exp))),(11,iv k0)],[fs false a_1 a_1s,fs false a_3 a_3s,fs false c j,fs false d k],[.blk ((G1 0).b) (ca (DFrac.mk ⟨a_0,a_1,a_1s⟩ ⟨a_2,a_3,a_3s⟩)) 52,.blk ((G1 1).b) (ca (DFrac.mk ⟨a,c,j⟩ ⟨i,d,k⟩)) 52,.blk ((G1 2).b) (ca (DFrac.mk ⟨0,[],{}⟩ ⟨0,[],{}⟩)) 52]⟩) (fun ⟨k0,a_0,a_1,a_1s,a_2,a_3,a_3s⟩=>(0≤k0)∧(k0≤max exp (-exp))∧(Fr.Fz a_0 a_1 a_2 a_3 (Un.tmN (Fr.fq h e f) (Fr.fq a c d) (0 < exp) k0.toNat))) (fun ⟨k0,a_0,a_1,a_1s,a_2,a_3,a_3s⟩=>(max exp (-exp)-k0).toNat) (0,h,e,o,m,f,p) [0,1,2,3] ?_ ?_
  · refine ⟨?_,?_,?_⟩
    · show 0≤(0:Int);omega
    · show (0:Int)≤max exp (-exp);omega
    show Fr.Fz h e m f (Un.tmN (Fr.fq h e f) (Fr.fq a c d) (0 < exp) (0:Int).toNat);exact Fr.FrB.z hFA
  rintro ⟨k0,a_0,a_1,a_1s,a_2,a_3,a_3s⟩ hF1 kw3 Z1 hZ1;have hF1:(0≤k0)∧(k0≤max exp (-exp))∧(Fr.Fz a_0 a_1 a_2 a_3 (Un.tmN (Fr.fq h e f) (Fr.fq a c d) (0 < exp) k0.toNat)):=hF1;obtain ⟨hf1,hf2,hf3⟩:=hF1;have hzl:=hf3.len (Un.tmN_hb (hFA.hb hla.1 hla.2) (hFF.hb hlf.1 hlf.2) _);refine V.gf [.u 1] fun _ _ G3=>?_;intro S_ s_;refine V.cn (b:=decide (k0 < max exp (-exp))) iDT iDF (fun q1=>?_) (fun q2=>?_)
  · refine V.gf [.u 2] fun _ _ G4=>?_;intro S_ s_
    refine V.cn (b:=decide (0 < exp)) iDT iDF (fun q3=>?_) (fun q4=>?_)
    · refine nm (Fr.rS (Fr.FrB a_0 a_1 a_2 a_3∧Fr.FrB a c i d) ((Fr.fq a_0 a_1 a_3) * (Fr.fq a c d)):Int) fun n1 hn1=>?_;refine nm (Fr.rD (Fr.FrB a_0 a_1 a_2 a_3∧Fr.FrB a c i d) ((Fr.fq a_0 a_1 a_3) * (Fr.fq a c d)):List Int) fun l1 hl1=>?_;refine nm (Fr.rT (Fr.FrB a_0 a_1 a_2 a_3∧Fr.FrB a c i d):Int) fun n2 hn2=>?_;refine nm (Fr.rE (Fr.FrB a_0 a_1 a_2 a_3∧Fr.FrB a c i d) ((Fr.fq a_0 a_1 a_3) * (Fr.fq a c d)):List Int) fun l2 hl2=>?_;refine nm (if ¬ (Fr.FrB a_0 a_1 a_2 a_3∧Fr.FrB a c i d) then (1:Int) else 0:Int) fun n3 hn3=>?_;refine V.gf [.l 0,.l 1,.cA 2 36 [kA 0 a_1 a_1s,kA 1 a_3 a_3s,kA 2 c j,kA 3 d k] fun G=>fmul_ctv a_0 a_1 a_1s a_2 a_3 a_3s a c j i d k (by omega) (by omega) (by omega) (by omega) n1 hn1 l1 hl1 n2 hn2 l2 hl2 n3 hn3,.u 3,.s 0] fun _ _ G5=>?_;intro S_ s_
      have hzn:=Fr.Fz.of ⟨hf3.rt,hFF⟩ hn1 hl1 hn2 hl2;rw [hf3.v] at hzn;refine V.gf [.aa (k0+1),.u 1] fun _ _ G6=>?_;intro S_ s_
      refine V.rn hZ1 (k0+1,n1,l1,(G5 2).ss 0,n2,l2,(G5 2).ss 1) [4,5,2,3] ?_ ?_
      · refine ⟨?_,?_,?_⟩
        · show 0≤(k0+1);omega
        · show (k0+1)≤max exp (-exp);omega
        show Fr.Fz n1 l1 n2 l2 (Un.tmN (Fr.fq h e f) (Fr.fq a c d) (0 < exp) (k0+1).toNat);rw [show (k0+1).toNat=k0.toNat+1 by omega,Un.tmN_y q3];exact hzn
      show (max exp (-exp)-(k0+1)).toNat < (max exp (-exp)-k0).toNat;omega
    refine nm (Fr.rS ((Fr.FrB a_0 a_1 a_2 a_3∧Fr.FrB a c i d)∧a≠0) ((Fr.fq a_0 a_1 a_3) / (Fr.fq a c d)):Int) fun n4 hn4=>?_;refine nm (Fr.rD ((Fr.FrB a_0 a_1 a_2 a_3∧Fr.FrB a c i d)∧a≠0) ((Fr.fq a_0 a_1 a_3) / (Fr.fq a c d)):List Int) fun l3 hl3=>?_;refine nm (Fr.rT ((Fr.FrB a_0 a_1 a_2 a_3∧Fr.FrB a c i d)∧a≠0):Int) fun n5 hn5=>?_;refine nm (Fr.rE ((Fr.FrB a_0 a_1 a_2 a_3∧Fr.FrB a c i d)∧a≠0) ((Fr.fq a_0 a_1 a_3) / (Fr.fq a c d)):List Int) fun l4 hl4=>?_;refine nm (if ¬ (Fr.FrB a_0 a_1 a_2 a_3∧Fr.FrB a c i d) then (1:Int) else if a=0 then 15 else 0:Int) fun n6 hn6=>?_;refine V.gf [.l 0,.l 1,.cA 2 32 [kA 0 a_1 a_1s,kA 1 a_3 a_3s,kA 2 c j,kA 3 d k] fun G=>fdiv_ctv a_0 a_1 a_1s a_2 a_3 a_3s a c j i d k (by omega) (by omega) (by omega) (by omega) n4 hn4 l3 hl3 n5 hn5 l4 hl4 n6 hn6,.u 3,.s 0] fun _ _ G7=>?_;intro S_ s_
    have hzn:=Fr.Fz.of ⟨⟨hf3.rt,hFF⟩,hf0⟩ hn4 hl3 hn5 hl4;rw [hf3.v] at hzn;refine V.gf [.aa (k0+1),.u 1] fun _ _ G8=>?_;intro S_ s_
    refine V.rn hZ1 (k0+1,n4,l3,(G7 2).ss 0,n5,l4,(G7 2).ss 1) [4,5,2,3] ?_ ?_
    · refine ⟨?_,?_,?_⟩
      · show 0≤(k0+1);omega
      · show (k0+1)≤max exp (-exp);omega
      show Fr.Fz n4 l3 n5 l4 (Un.tmN (Fr.fq h e f) (Fr.fq a c d) (0 < exp) (k0+1).toNat);rw [show (k0+1).toNat=k0.toNat+1 by omega,Un.tmN_n q4];exact hzn
    show (max exp (-exp)-(k0+1)).toNat < (max exp (-exp)-k0).toNat;omega
  have htm:Un.tmN (Fr.fq h e f) (Fr.fq a c d) (0 < exp) k0.toNat=Un.tm (Fr.fq h e f) (Fr.fq a c d) exp:=by unfold Un.tm;rw [show exp.natAbs=k0.toNat by omega]
  refine V.gf [.l 0,.s 2] fun _ _ G9=>?_;intro S_ s_
  have e1:a_1=Fr.rD (True) (Un.tm (Fr.fq h e f) (Fr.fq a c d) exp):=(Fr.Fz.ret hf3 True.intro htm).2.1;subst e1;have e3:a_3=Fr.rE (True) (Un.tm (Fr.fq h e f) (Fr.fq a c d) exp):=(Fr.Fz.ret hf3 True.intro htm).2.2.2;subst e3;have e0:a_0=Fr.rS (True) (Un.tm (Fr.fq h e f) (Fr.fq a c d) exp):=(Fr.Fz.ret hf3 True.intro htm).1;have e2:a_2=Fr.rT (True):=(Fr.Fz.ret hf3 True.intro htm).2.2.1;exact V.rT [2] [a_1s,a_3s] [] [] [0,1] [] (cong2 (fun (xz0 xz2:Int)=>(.agg #[iv xz0,a_1s.v,iv xz2,a_3s.v]:Value)) e0 e2)
theorem utimes_ctv (f:Int) (a:List Int) (h:SV) (i:Int) (b:List Int) (j:SV) (e:Int) (c:List Int) (k:SV) (l:Int) (d:List Int) (m:SV) (exp:Int) (hFA:Fr.FrB f a i b) (hFF:Fr.FrB e c l d) (hf0:e≠0) (he: -9≤exp∧exp≤9) (hla:a.length≤1000000∧b.length≤1000000) (hlf:c.length≤1000∧d.length≤1000) (rv0:Int) (erv0:rv0=Fr.rS (True) (Un.tm (Fr.fq f a b) (Fr.fq e c d) exp)) (rv1:List Int) (erv1:rv1=Fr.rD (True) (Un.tm (Fr.fq f a b) (Fr.fq e c d) exp)) (rv2:Int) (erv2:rv2=Fr.rT (True)) (rv3:List Int) (erv3:rv3=Fr.rE (True) (Un.tm (Fr.fq f a b) (Fr.fq e c d) exp)) :
    Ct Tryz.prog 143 #[ag (DFrac.mk ⟨f,a,h⟩ ⟨i,b,j⟩),ag (DFrac.mk ⟨e,c,k⟩ ⟨l,d,m⟩),iv exp] [fs true a h,fs true b j,fs true c k,fs true d m] [] (fun g=>ag (DFrac.mk ⟨rv0,rv1,(g.ss 0)⟩ ⟨rv2,rv3,(g.ss 1)⟩)) (fun g=>[fs false rv1 (g.ss 0),fs false rv3 (g.ss 1)]) (fun g=>[]) (fun g=>[]):=by
  subst erv0 erv1 erv2 erv3;exact utimes_ct f a h i b j e c k l d m exp hFA hFF hf0 he hla hlf
set_option maxRecDepth 10000 in
theorem hasp_ct (s prefix_:ByteArray) :
    Cp Tryz.prog 164 #[tv s,tv prefix_] [] (bv (decide (Dm.cpB s prefix_))):=by
  refine V.fo mo Tryz.func164 18 0 fun w H ε k0=>?_;clear k0
  refine V.g [.kb false] fun _ _ G1=>?_;intro S_ s_
  refine nm (s.extract (0:Int).toNat (prefix_.size:Int).toNat:ByteArray) fun t1 ht1=>?_;refine nm ((decide ((prefix_.size:Int)≤(s.size:Int))) && (decide (t1=prefix_)):Bool) fun p1 hp1=>?_;refine V.gf [.u 9,.ssl (gT (b:=decide ((prefix_.size:Int)≤(s.size:Int))) iDT) s none (some (prefix_.size:Int)) 0 (prefix_.size:Int) rfl rfl t1 ht1 (fun hg=>⟨by omega,by omega,by omega⟩),.u 1,.seq t1 prefix_,.andn g0 false (decide ((prefix_.size:Int)≤(s.size:Int))) (decide (t1=prefix_)) p1 hp1,.u 1] fun _ _ G2=>?_;intro S_ s_
  have e0:p1=decide (Dm.cpB s prefix_):=by
    refine Bool.eq_iff_iff.2 (Iff.trans (iN hp1 (iAT iDT iDT)) (Iff.trans ?_ decide_eq_true_iff.symm));rw [ht1];exact Iff.rfl
  exact V.rT [0] [] [] [] [] [] (cong1 (fun (xz0:Bool)=>(bv xz0:Value)) e0)
set_option maxRecDepth 10000 in
theorem slcut_ct (s prefix_:ByteArray) :
    Cp Tryz.prog 159 #[tv s,tv prefix_] [] (.tuple #[tv (Dm.cpR s prefix_),bv (decide (Dm.cpB s prefix_))]):=by
  refine V.fo mo Tryz.func159 15 0 fun w H ε k0=>?_;clear k0
  refine V.gf [.u 1,.kb false] fun _ _ G1=>?_;intro S_ s_
  refine V.gf [.u 2,.cP 2 164 [] fun G=>hasp_ct s prefix_,.u 1] fun _ _ G2=>?_;intro S_ s_
  refine V.cn (b:=!(decide (Dm.cpB s prefix_))) (iNT iDF) (iNF iDT) (fun q1=>?_) (fun q2=>?_)
  · refine V.gf [.u 2,.kb false] fun _ _ G3=>?_;intro S_ s_
    have e0:s=Dm.cpR s prefix_:=(if_neg q1).symm;have e1:false=decide (Dm.cpB s prefix_):=(decide_eq_false q1).symm;exact V.rT [0,0] [] [] [] [] [] (cong2 (fun (xz0:ByteArray) (xz1:Bool)=>(.tuple #[tv xz0,bv xz1]:Value)) e0 e1)
  have hB:Dm.cpB s prefix_:=by first | exact q2 | exact Decidable.not_not.1 q2
  have hB1:=hB.1;refine nm (s.extract (prefix_.size:Int).toNat (s.size:Int).toNat:ByteArray) fun t1 ht1=>?_;refine V.gf [.u 3,.ssl g0 s (some (prefix_.size:Int)) none (prefix_.size:Int) (s.size:Int) rfl rfl t1 ht1 (fun _=>⟨by omega,by omega,by omega⟩),.u 1,.kb true] fun _ _ G4=>?_;intro S_ s_
  have e0:t1=Dm.cpR s prefix_:=by unfold Dm.cpR;rw [if_pos hB,ht1];rfl
  have e1:true=decide (Dm.cpB s prefix_):=(decide_eq_true hB).symm;exact V.rT [0,0] [] [] [] [] [] (cong2 (fun (xz0:ByteArray) (xz1:Bool)=>(.tuple #[tv xz0,bv xz1]:Value)) e0 e1)
theorem slcut_ctv (s prefix_ rv0:ByteArray) (erv0:rv0=Dm.cpR s prefix_) :
    Cp Tryz.prog 159 #[tv s,tv prefix_] [] (.tuple #[tv rv0,bv (decide (Dm.cpB s prefix_))]):=by
  subst erv0;exact slcut_ct s prefix_ 
set_option maxRecDepth 10000 in
theorem cutp_ct (s prefix_:ByteArray) :
    Cp Tryz.prog 150 #[tv s,tv prefix_] [] (.tuple #[tv (Dm.cpR s prefix_),bv (decide (Dm.cpB s prefix_))]):=by
  refine V.fo mo Tryz.func150 11 0 fun w H ε k0=>?_;clear k0
  refine V.gf [.u 1,.kb false] fun _ _ G1=>?_;intro S_ s_
  refine nm (Dm.cpR s prefix_:ByteArray) fun t1 ht1=>?_;refine V.gf [.u 2,.cP 2 159 [] fun G=>slcut_ctv s prefix_ t1 ht1,.u 4] fun _ _ G2=>?_;intro S_ s_
  have e0:t1=Dm.cpR s prefix_:=ht1;exact V.rT [0,0] [] [] [] [] [] (cong1 (fun (xz0:ByteArray)=>(.tuple #[tv xz0,bv (decide (Dm.cpB s prefix_))]:Value)) e0)
theorem cutp_ctv (s prefix_ rv0:ByteArray) (erv0:rv0=Dm.cpR s prefix_) :
    Cp Tryz.prog 150 #[tv s,tv prefix_] [] (.tuple #[tv rv0,bv (decide (Dm.cpB s prefix_))]):=by
  subst erv0;exact cutp_ct s prefix_ 
set_option maxRecDepth 10000 in
theorem uitems_ct (s:ByteArray) (hs:s.size≤9223372036854775807) :
    Ct Tryz.prog 141 #[tv s] [] [] (fun g=>.tuple #[((g.ss 0)).v,bv ((Un.items s).isSome)]) (fun g=>[fs true ((Un.items s).getD []) (g.ss 0)]) (fun g=>[]) (fun g=>[]):=by
  refine V.fo mo Tryz.func141 58 2 fun w H ε k0=>?_;clear k0
  refine V.gf [.u 1,.kb false] fun _ _ G1=>?_;intro S_ s_
  refine V.gf [.u 1] fun _ _ G2=>?_;intro S_ s_
  refine V.gf [.u 1,.seq s ByteArray.empty] fun _ _ G3=>?_;intro S_ s_
  refine V.cn (b:=decide (s=ByteArray.empty)) iDT iDF (fun q1=>?_) (fun q2=>?_)
  · refine V.gf [.u 1,.kb true] fun _ _ G4=>?_;intro S_ s_
    refine V.nilF (α:=Ditem) ?_;have e0:([]:List Ditem)=(Un.items s).getD []:=by rw [Un.items_nil q1];rfl
    rw [←e0];have e1:true=(Un.items s).isSome:=by rw [Un.items_nil q1];rfl
    exact V.rT [0,0] [] [] [] [0] [] (cong1 (fun (xz1:Bool)=>(.tuple #[SV.v ({}),bv xz1]:Value)) e1)
  have hne:¬ s=ByteArray.empty:=q2;refine V.gf [.u 3] fun _ _ G5=>?_;intro S_ s_
  refine V.cn (b:=decide (40 < (s.size:Int))) iDT iDF (fun q3=>?_) (fun q4=>?_)
  · refine V.gf [.u 1,.kb false] fun _ _ G6=>?_;intro S_ s_
    refine V.nilF (α:=Ditem) ?_;have e0:([]:List Ditem)=(Un.items s).getD []:=by rw [Un.items_far hne (by omega)];rfl
    rw [←e0];have e1:false=(Un.items s).isSome:=by rw [Un.items_far hne (by omega)];rfl
    exact V.rT [0,0] [] [] [] [0] [] (cong1 (fun (xz1:Bool)=>(.tuple #[SV.v ({}),bv xz1]:Value)) e1)
  refine nm (Dm.cpR s ⟨#[49]⟩:ByteArray) fun t1 ht1=>?_;refine V.gf [.u 1,.cP 1 150 [] fun G=>cutp_ctv s ⟨#[49]⟩ t1 ht1,.u 5] fun _ _ G7=>?_;intro S_ s_
  refine V.gf [.u 2] fun _ _ G8=>?_;intro S_ s_
  refine V.cn (b:=!(decide (Dm.cpB s ⟨#[49]⟩))) (iNT iDF) (iNF iDT) (fun q5=>?_) (fun q6=>?_)
  · have hz1:(⟨#[42]⟩:ByteArray).size=1:=rfl;refine nm ((⟨#[42]⟩:ByteArray) ++s:ByteArray) fun t2 ht2=>?_;have ht2n:t2.size=(⟨#[42]⟩:ByteArray).size+s.size:=by rw [ht2,ByteArray.size_append]
    refine V.gf [.u 1,.sad g0 ⟨#[42]⟩ s t2 ht2 (fun _=>by omega),.u 1] fun _ _ G9=>?_;intro S_ s_
    refine V.on (α:=Ditem) 1 225 (by kernel_rfl) ?_;refine V.lp (γ:=List Ditem × SV × ByteArray) (fun ⟨out,outs,rest⟩=>⟨[(4,outs.v),(5,tv rest)],[],[.no,os true 225 out outs]⟩) (fun ⟨out,outs,rest⟩=>(Un.itA out rest=Un.items s)∧(rest.size+out.length≤41)) (fun ⟨out,outs,rest⟩=>rest.size) (([]:List Ditem),{},t2) [] ?_ ?_
    · refine ⟨?_,?_⟩
      · show Un.itA ([]:List Ditem) t2=Un.items s;exact ((Un.items_is hne (by omega)).trans (congrArg (Un.itA []) (by unfold Un.start;rw [ht2];first | exact if_neg q5 | exact if_pos q5))).symm
      show t2.size+([]:List Ditem).length≤41;show _+0≤41;first | (have:=Dm.cpR_size (s:=s) (p:=⟨#[49]⟩);rw [←ht2] at this;omega) | omega
    rintro ⟨out,outs,rest⟩ hF1 kw10 Z1 hZ1;have hF1:(Un.itA out rest=Un.items s)∧(rest.size+out.length≤41):=hF1;obtain ⟨hf1,hf2⟩:=hF1;refine V.gf [.u 1,.sne rest ByteArray.empty] fun _ _ G10=>?_;intro S_ s_;refine V.cn (b:=!(decide (rest=ByteArray.empty))) (iNT iDF) (iNF iDT) (fun q7=>?_) (fun q8=>?_)
    · have hrn:¬ rest=ByteArray.empty:=q7;have hrz:=Dm.size_ne hrn;refine nm ((bl rest).getD (0:Int).toNat default:UInt8) fun c1 hc1=>?_;refine V.gf [.u 1,.sid g0 rest (0:Int) c1 hc1 (fun _=>⟨by omega,by omega⟩),.u 1] fun _ _ G11=>?_;intro S_ s_
      have hcd:(bl rest).getD 0 default=c1:=hc1.symm;refine nm (rest.extract (1:Int).toNat (rest.size:Int).toNat:ByteArray) fun t3 ht3=>?_;have ht3n:t3.size=min (rest.size:Int).toNat rest.size-(1:Int).toNat:=by rw [ht3,ByteArray.size_extract]
      refine nm (Un.cuW t3:ByteArray) fun t4 ht4=>?_;refine nm (Un.cuE t3:Int) fun n1 hn1=>?_;refine nm (Un.cuR t3:ByteArray) fun t5 ht5=>?_;refine V.gf [.u 1,.ssl g0 rest (some (1:Int)) none 1 (rest.size:Int) rfl rfl t3 ht3 (fun _=>⟨by omega,by omega,by omega⟩),.cP 2 151 [] fun G=>ucut_ctv t3 (by omega) t4 ht4 n1 hn1 t5 ht5,.u 4,.n 0,.s 0,.u 2] fun _ _ G12=>?_;intro S_ s_
      have htd:rest.extract 1 rest.size=t3:=ht3.symm;have hgd:Un.good rest=(0 < Un.nl t3∧((c1.toNat:Int)=42∨(c1.toNat:Int)=47)):=by unfold Un.good;rw [htd,hcd]
      have hcz:=Un.cuR_size t3;have hcz0:=Un.cuR_size t3;have hce:=Un.cuE_rg t3;rw [←ht5] at hcz;rw [←hn1] at hce;refine nm ((!(decide ((c1.toNat:Int)=42))) && (!(decide ((c1.toNat:Int)=47))):Bool) fun p1 hp1=>?_;refine V.gf [.u 8,.andn (gF (b:=!(decide (0 < Un.nl t3))) (iNF iDT)) false (!(decide ((c1.toNat:Int)=42))) (!(decide ((c1.toNat:Int)=47))) p1 hp1,.or g0 false (!(decide (0 < Un.nl t3))) p1] fun _ _ G13=>?_;intro S_ s_
      refine V.cn (b:=(!(decide (0 < Un.nl t3))) || p1) (iOT (iNT iDF) (iN hp1 (iAT (iNT iDF) (iNT iDF)))) (iOF (iNF iDT) (iN hp1 (iAF (iNF iDT) (iNF iDT)))) (fun q9=>?_) (fun q10=>?_)
      · have hbad:Un.items s=none:=by rw [←hf1];exact Un.itA_bad hrn (by rw [hgd];rintro ⟨h1,h2⟩;have hqq:=q9;rcases hqq with h | ⟨h3,h4⟩;exact h h1;rcases h2 with h2 | h2;exact h3 h2;exact h4 h2)
        refine V.gf [.u 1,.kb false] fun _ _ G14=>?_;intro S_ s_
        refine V.nilF (α:=Ditem) ?_;have e0:([]:List Ditem)=(Un.items s).getD []:=by rw [hbad];rfl
        rw [←e0];have e1:false=(Un.items s).isSome:=by rw [hbad];rfl
        exact V.rT [0,0] [] [] [] [0] [] (cong1 (fun (xz1:Bool)=>(.tuple #[SV.v ({}),bv xz1]:Value)) e1)
      have hgg:Un.good rest:=by rw [hgd];exact q10
      have hgp:=(q10).1;refine V.gf [.u 2] fun _ _ G15=>?_;intro S_ s_
      refine V.cn (b:=decide ((c1.toNat:Int)=47)) iDT iDF (fun q11=>?_) (fun q12=>?_)
      · have hx:Ditem.mk t4 (-n1)=Un.itm ((bl rest).getD 0 default) t3:=by rw [hcd];unfold Un.itm;rw [if_pos q11,ht4,hn1]
        refine V.gf [.u 1,.l 0,.ng n1 (-n1) rfl (by omega) (by omega),.u 1,.s 0] fun _ _ G16=>?_;intro S_ s_
        refine nm (out ++([Ditem.mk t4 (-n1)]:List Ditem):List Ditem) fun l1 hl1=>?_;have hl1n:=congrArg List.length hl1;try simp only [List.length_append,List.length_cons,List.length_nil,List.length_replicate,List.length_set,List.length_take,List.length_drop,List.length_map,List.length_reverse,List.length_range] at hl1n
        refine V.gf [.u 1,.l 0,.nr 2 true 225 ([Ditem.mk t4 (-n1)]:List Ditem) [] (fun _ _ _ _ _=>trivial) (fun _=>#[tv t4,iv (-n1)]),.ap 3 1 225 24 false true out (fun _=>outs) (kf true (.g 2 0) ([Ditem.mk t4 (-n1)]:List Ditem) (fun G=>⟨atB (G 2).b,1,1⟩)) true l1 hl1 (by (try simp only [List.length_append,List.length_cons,List.length_nil,List.length_replicate,List.length_set,List.length_take,List.length_drop,List.length_map,List.length_reverse,List.length_range]);omega) (fun h=>by cases h) (.inr fun _ _=>trivial),.u 3] fun _ _ G17=>?_;intro S_ s_
        refine V.rn hZ1 (l1,(G17 3).s,t5) [] ?_ ?_
        · refine ⟨?_,?_⟩
          · show Un.itA l1 t5=Un.items s;rw [hl1,ht5];exact (Un.itA_step hrn hgg ht3 hx).trans hf1
          show t5.size+l1.length≤41;omega
        show t5.size < rest.size;rw [ht5];omega
      have hx:Ditem.mk t4 (n1)=Un.itm ((bl rest).getD 0 default) t3:=by rw [hcd];unfold Un.itm;rw [if_neg q12,ht4,hn1]
      refine nm (out ++([Ditem.mk t4 n1]:List Ditem):List Ditem) fun l2 hl2=>?_;have hl2n:=congrArg List.length hl2;try simp only [List.length_append,List.length_cons,List.length_nil,List.length_replicate,List.length_set,List.length_take,List.length_drop,List.length_map,List.length_reverse,List.length_range] at hl2n
      refine V.gf [.u 1,.l 0,.nr 2 true 225 ([Ditem.mk t4 n1]:List Ditem) [] (fun _ _ _ _ _=>trivial) (fun _=>#[tv t4,iv n1]),.ap 3 1 225 24 false true out (fun _=>outs) (kf true (.g 2 0) ([Ditem.mk t4 n1]:List Ditem) (fun G=>⟨atB (G 2).b,1,1⟩)) true l2 hl2 (by (try simp only [List.length_append,List.length_cons,List.length_nil,List.length_replicate,List.length_set,List.length_take,List.length_drop,List.length_map,List.length_reverse,List.length_range]);omega) (fun h=>by cases h) (.inr fun _ _=>trivial),.u 3] fun _ _ G18=>?_;intro S_ s_
      refine V.rn hZ1 (l2,(G18 3).s,t5) [] ?_ ?_
      · refine ⟨?_,?_⟩
        · show Un.itA l2 t5=Un.items s;rw [hl2,ht5];exact (Un.itA_step hrn hgg ht3 hx).trans hf1
        show t5.size+l2.length≤41;omega
      show t5.size < rest.size;rw [ht5];omega
    have hfin:=hf1.symm.trans (Un.itA_end q8);refine V.gf [.u 2,.kb true] fun _ _ G19=>?_;intro S_ s_
    refine V.frz 1 true 225 out outs (by kernel_rfl) ?_;have e0:out=(Un.items s).getD []:=by rw [hfin];rfl
    subst e0;have e1:true=(Un.items s).isSome:=by rw [hfin];rfl
    exact V.rT [0,0] [outs] [] [] [0] [] (cong1 (fun (xz1:Bool)=>(.tuple #[outs.v,bv xz1]:Value)) e1)
  refine V.on (α:=Ditem) 1 225 (by kernel_rfl) ?_;refine V.lp (γ:=List Ditem × SV × ByteArray) (fun ⟨out_1,out_1s,rest_1⟩=>⟨[(4,out_1s.v),(5,tv rest_1)],[],[.no,os true 225 out_1 out_1s]⟩) (fun ⟨out_1,out_1s,rest_1⟩=>(Un.itA out_1 rest_1=Un.items s)∧(rest_1.size+out_1.length≤41)) (fun ⟨out_1,out_1s,rest_1⟩=>rest_1.size) (([]:List Ditem),{},t1) [] ?_ ?_
  · refine ⟨?_,?_⟩
    · show Un.itA ([]:List Ditem) t1=Un.items s;exact ((Un.items_is hne (by omega)).trans (congrArg (Un.itA []) (by unfold Un.start;rw [ht1];first | exact if_neg q6 | exact if_pos q6))).symm
    show t1.size+([]:List Ditem).length≤41;show _+0≤41;first | (have:=Dm.cpR_size (s:=s) (p:=⟨#[49]⟩);rw [←ht1] at this;omega) | omega
  rintro ⟨out_1,out_1s,rest_1⟩ hF2 kw21 Z2 hZ2;have hF2:(Un.itA out_1 rest_1=Un.items s)∧(rest_1.size+out_1.length≤41):=hF2;obtain ⟨hf3,hf4⟩:=hF2;refine V.gf [.u 1,.sne rest_1 ByteArray.empty] fun _ _ G20=>?_;intro S_ s_;refine V.cn (b:=!(decide (rest_1=ByteArray.empty))) (iNT iDF) (iNF iDT) (fun q13=>?_) (fun q14=>?_)
  · have hrn:¬ rest_1=ByteArray.empty:=q13;have hrz:=Dm.size_ne hrn;refine nm ((bl rest_1).getD (0:Int).toNat default:UInt8) fun c2 hc2=>?_;refine V.gf [.u 1,.sid g0 rest_1 (0:Int) c2 hc2 (fun _=>⟨by omega,by omega⟩),.u 1] fun _ _ G21=>?_;intro S_ s_
    have hcd:(bl rest_1).getD 0 default=c2:=hc2.symm;refine nm (rest_1.extract (1:Int).toNat (rest_1.size:Int).toNat:ByteArray) fun t6 ht6=>?_;have ht6n:t6.size=min (rest_1.size:Int).toNat rest_1.size-(1:Int).toNat:=by rw [ht6,ByteArray.size_extract]
    refine nm (Un.cuW t6:ByteArray) fun t7 ht7=>?_;refine nm (Un.cuE t6:Int) fun n2 hn2=>?_;refine nm (Un.cuR t6:ByteArray) fun t8 ht8=>?_;refine V.gf [.u 1,.ssl g0 rest_1 (some (1:Int)) none 1 (rest_1.size:Int) rfl rfl t6 ht6 (fun _=>⟨by omega,by omega,by omega⟩),.cP 2 151 [] fun G=>ucut_ctv t6 (by omega) t7 ht7 n2 hn2 t8 ht8,.u 4,.n 0,.s 0,.u 2] fun _ _ G22=>?_;intro S_ s_
    have htd:rest_1.extract 1 rest_1.size=t6:=ht6.symm;have hgd:Un.good rest_1=(0 < Un.nl t6∧((c2.toNat:Int)=42∨(c2.toNat:Int)=47)):=by unfold Un.good;rw [htd,hcd]
    have hcz:=Un.cuR_size t6;have hcz0:=Un.cuR_size t6;have hce:=Un.cuE_rg t6;rw [←ht8] at hcz;rw [←hn2] at hce;refine nm ((!(decide ((c2.toNat:Int)=42))) && (!(decide ((c2.toNat:Int)=47))):Bool) fun p2 hp2=>?_;refine V.gf [.u 8,.andn (gF (b:=!(decide (0 < Un.nl t6))) (iNF iDT)) false (!(decide ((c2.toNat:Int)=42))) (!(decide ((c2.toNat:Int)=47))) p2 hp2,.or g0 false (!(decide (0 < Un.nl t6))) p2] fun _ _ G23=>?_;intro S_ s_
    refine V.cn (b:=(!(decide (0 < Un.nl t6))) || p2) (iOT (iNT iDF) (iN hp2 (iAT (iNT iDF) (iNT iDF)))) (iOF (iNF iDT) (iN hp2 (iAF (iNF iDT) (iNF iDT)))) (fun q15=>?_) (fun q16=>?_)
    · have hbad:Un.items s=none:=by rw [←hf3];exact Un.itA_bad hrn (by rw [hgd];rintro ⟨h1,h2⟩;have hqq:=q15;rcases hqq with h | ⟨h3,h4⟩;exact h h1;rcases h2 with h2 | h2;exact h3 h2;exact h4 h2)
      refine V.gf [.u 1,.kb false] fun _ _ G24=>?_;intro S_ s_
      refine V.nilF (α:=Ditem) ?_;have e0:([]:List Ditem)=(Un.items s).getD []:=by rw [hbad];rfl
      rw [←e0];have e1:false=(Un.items s).isSome:=by rw [hbad];rfl
      exact V.rT [0,0] [] [] [] [0] [] (cong1 (fun (xz1:Bool)=>(.tuple #[SV.v ({}),bv xz1]:Value)) e1)
    have hgg:Un.good rest_1:=by rw [hgd];exact q16
    have hgp:=(q16).1;refine V.gf [.u 2] fun _ _ G25=>?_;intro S_ s_
    refine V.cn (b:=decide ((c2.toNat:Int)=47)) iDT iDF (fun q17=>?_) (fun q18=>?_)
    · have hx:Ditem.mk t7 (-n2)=Un.itm ((bl rest_1).getD 0 default) t6:=by rw [hcd];unfold Un.itm;rw [if_pos q17,ht7,hn2]
      refine V.gf [.u 1,.l 0,.ng n2 (-n2) rfl (by omega) (by omega),.u 1,.s 0] fun _ _ G26=>?_;intro S_ s_
      refine nm (out_1 ++([Ditem.mk t7 (-n2)]:List Ditem):List Ditem) fun l3 hl3=>?_;have hl3n:=congrArg List.length hl3;try simp only [List.length_append,List.length_cons,List.length_nil,List.length_replicate,List.length_set,List.length_take,List.length_drop,List.length_map,List.length_reverse,List.length_range] at hl3n
      refine V.gf [.u 1,.l 0,.nr 2 true 225 ([Ditem.mk t7 (-n2)]:List Ditem) [] (fun _ _ _ _ _=>trivial) (fun _=>#[tv t7,iv (-n2)]),.ap 3 1 225 24 false true out_1 (fun _=>out_1s) (kf true (.g 2 0) ([Ditem.mk t7 (-n2)]:List Ditem) (fun G=>⟨atB (G 2).b,1,1⟩)) true l3 hl3 (by (try simp only [List.length_append,List.length_cons,List.length_nil,List.length_replicate,List.length_set,List.length_take,List.length_drop,List.length_map,List.length_reverse,List.length_range]);omega) (fun h=>by cases h) (.inr fun _ _=>trivial),.u 3] fun _ _ G27=>?_;intro S_ s_
      refine V.rn hZ2 (l3,(G27 3).s,t8) [] ?_ ?_
      · refine ⟨?_,?_⟩
        · show Un.itA l3 t8=Un.items s;rw [hl3,ht8];exact (Un.itA_step hrn hgg ht6 hx).trans hf3
        show t8.size+l3.length≤41;omega
      show t8.size < rest_1.size;rw [ht8];omega
    have hx:Ditem.mk t7 (n2)=Un.itm ((bl rest_1).getD 0 default) t6:=by rw [hcd];unfold Un.itm;rw [if_neg q18,ht7,hn2]
    refine nm (out_1 ++([Ditem.mk t7 n2]:List Ditem):List Ditem) fun l4 hl4=>?_;have hl4n:=congrArg List.length hl4;try simp only [List.length_append,List.length_cons,List.length_nil,List.length_replicate,List.length_set,List.length_take,List.length_drop,List.length_map,List.length_reverse,List.length_range] at hl4n
    refine V.gf [.u 1,.l 0,.nr 2 true 225 ([Ditem.mk t7 n2]:List Ditem) [] (fun _ _ _ _ _=>trivial) (fun _=>#[tv t7,iv n2]),.ap 3 1 225 24 false true out_1 (fun _=>out_1s) (kf true (.g 2 0) ([Ditem.mk t7 n2]:List Ditem) (fun G=>⟨atB (G 2).b,1,1⟩)) true l4 hl4 (by (try simp only [List.length_append,List.length_cons,List.length_nil,List.length_replicate,List.length_set,List.length_take,List.length_drop,List.length_map,List.length_reverse,List.length_range]);omega) (fun h=>by cases h) (.inr fun _ _=>trivial),.u 3] fun _ _ G28=>?_;intro S_ s_
    refine V.rn hZ2 (l4,(G28 3).s,t8) [] ?_ ?_
    · refine ⟨?_,?_⟩
      · show Un.itA l4 t8=Un.items s;rw [hl4,ht8];exact (Un.itA_step hrn hgg ht6 hx).trans hf3
      show t8.size+l4.length≤41;omega
    show t8.size < rest_1.size;rw [ht8];omega
  have hfin:=hf3.symm.trans (Un.itA_end q14);refine V.gf [.u 2,.kb true] fun _ _ G29=>?_;intro S_ s_
  refine V.frz 1 true 225 out_1 out_1s (by kernel_rfl) ?_;have e0:out_1=(Un.items s).getD []:=by rw [hfin];rfl
  subst e0;have e1:true=(Un.items s).isSome:=by rw [hfin];rfl
  exact V.rT [0,0] [out_1s] [] [] [0] [] (cong1 (fun (xz1:Bool)=>(.tuple #[out_1s.v,bv xz1]:Value)) e1)
theorem uitems_ctv (s:ByteArray) (hs:s.size≤9223372036854775807) (rv0:List Ditem) (erv0:rv0=(Un.items s).getD []) :
    Ct Tryz.prog 141 #[tv s] [] [] (fun g=>.tuple #[((g.ss 0)).v,bv ((Un.items s).isSome)]) (fun g=>[fs true rv0 (g.ss 0)]) (fun g=>[]) (fun g=>[]):=by
  subst erv0;exact uitems_ct s hs

open Go Go.Proofs
set_option maxRecDepth 10000 in
set_option maxHeartbeats 4000000 in
theorem uread_ct (s:ByteArray) (hs:s.size≤9223372036854775807) :
    Ct Tryz.prog 129 #[tv s] [] [] (fun g=>.tuple #[.agg #[iv (Un.dv ((Un.read s).1) 0),iv (Un.dv ((Un.read s).1) 1),iv (Un.dv ((Un.read s).1) 2),iv (Un.dv ((Un.read s).1) 3),iv (Un.dv ((Un.read s).1) 4),iv (Un.dv ((Un.read s).1) 5),iv (Fr.rS (((Un.read s).1).isSome=true) (Un.fv ((Un.read s).1))),((g.ss 0)).v,iv (Fr.rT (((Un.read s).1).isSome=true)),((g.ss 1)).v],iv ((Un.read s).2)]) (fun g=>[fs true (Fr.rD (((Un.read s).1).isSome=true) (Un.fv ((Un.read s).1))) (g.ss 0),fs true (Fr.rE (((Un.read s).1).isSome=true) (Un.fv ((Un.read s).1))) (g.ss 1)]) (fun g=>[]) (fun g=>[]):=by
  refine V.fo mo Tryz.func129 71 4 fun w H ε k0=>?_;clear k0
  refine V.g [.nb 0 0 (fun b=>pp b 0) 210 (fun _=>#[iv 0,iv 0,iv 0,iv 0,iv 0,iv 0,iv 0,.slice none 0 0,iv 0,.slice none 0 0]),.k (iv 0)] fun _ _ G1=>?_;intro S_ s_
  refine nm ((Un.items s).getD []:List Ditem) fun l1 hl1=>?_;refine V.g [.k (tv s),.cA 1 141 [] fun G=>uitems_ctv s (by omega) l1 hl1,.v fun G=>.tuple #[((G 1).ss 0).v,bv ((Un.items s).isSome)],.v fun G=>((G 1).ss 0).v,.k (bv ((Un.items s).isSome)),.v fun G=>((G 1).ss 0).v,.k (bv ((Un.items s).isSome))] fun _ _ G2=>?_;intro S_ s_
  refine V.g [.k (bv ((Un.items s).isSome)),.k (bv (!((Un.items s).isSome)))] fun _ _ G3=>?_;intro S_ s_
  refine V.cn (b:=!((Un.items s).isSome)) (iNT Iff.rfl) (iNF Iff.rfl) (fun q1=>?_) (fun q2=>?_)
  · have hrd:=Un.read_syn (s:=s) (by have hqq:=q1;simpa using hqq);refine V.g [.k (.agg #[iv 0,iv 0,iv 0,iv 0,iv 0,iv 0,iv 0,.slice none 0 0,iv 0,.slice none 0 0]),.st 0 (fun _=>.blk ((G1 0).b) #[iv 0,iv 0,iv 0,iv 0,iv 0,iv 0,iv 0,.slice none 0 0,iv 0,.slice none 0 0] 210),.k (iv 12)] fun _ _ G4=>?_;intro S_ s_
    refine V.nilF (α:=Int) ?_;refine V.nilF (α:=Int) ?_;have e7:([]:List Int)=Fr.rD (((Un.read s).1).isSome=true) (Un.fv ((Un.read s).1)):=(Fr.Fz.no (Un.is_n (by rw [hrd])) (Un.fv (Un.read s).1)).2.1;rw [←e7];have e9:([]:List Int)=Fr.rE (((Un.read s).1).isSome=true) (Un.fv ((Un.read s).1)):=(Fr.Fz.no (Un.is_n (by rw [hrd])) (Un.fv (Un.read s).1)).2.2.2;rw [←e9];have e0:(0:Int)=Un.dv ((Un.read s).1) 0:=(Un.dv_n (by rw [hrd]) 0).symm;have e1:(0:Int)=Un.dv ((Un.read s).1) 1:=(Un.dv_n (by rw [hrd]) 1).symm;have e2:(0:Int)=Un.dv ((Un.read s).1) 2:=(Un.dv_n (by rw [hrd]) 2).symm;have e3:(0:Int)=Un.dv ((Un.read s).1) 3:=(Un.dv_n (by rw [hrd]) 3).symm;have e4:(0:Int)=Un.dv ((Un.read s).1) 4:=(Un.dv_n (by rw [hrd]) 4).symm;have e5:(0:Int)=Un.dv ((Un.read s).1) 5:=(Un.dv_n (by rw [hrd]) 5).symm;have e6:(0:Int)=Fr.rS (((Un.read s).1).isSome=true) (Un.fv ((Un.read s).1)):=(Fr.Fz.no (Un.is_n (by rw [hrd])) (Un.fv (Un.read s).1)).1;have e8:(0:Int)=Fr.rT (((Un.read s).1).isSome=true):=(Fr.Fz.no (Un.is_n (by rw [hrd])) (Un.fv (Un.read s).1)).2.2.1;have e10:(12:Int)=(Un.read s).2:=by rw [hrd]
    exact V.rT [0,0] [] [] [] [1,2] [] (cong9 (fun (xz0 xz1 xz2 xz3 xz4 xz5 xz6 xz8 xz10:Int)=>(.tuple #[.agg #[iv xz0,iv xz1,iv xz2,iv xz3,iv xz4,iv xz5,iv xz6,SV.v ({}),iv xz8,SV.v ({})],iv xz10]:Value)) e0 e1 e2 e3 e4 e5 e6 e8 e10)
  have hsm:(Un.items s).isSome=true:=by have hqq:=q2;first | exact hqq | simpa using hqq
  have hie:Un.items s=some l1:=by rw [hl1];exact Un.its hsm
  have hio:=Un.items_ok hie;refine nm (Bg.sgn (1:Int):Int) fun n1 hn1=>?_;refine nm (Bg.dig (1:Int).natAbs:List Int) fun l2 hl2=>?_;refine nm (Bg.dig 1:List Int) fun l3 hl3=>?_;refine V.g [.cA 0 37 [] fun G=>fint_ctv (1:Int) (by omega) n1 hn1 l2 hl2 l3 hl3,.v fun G=>.agg #[iv 0,iv 0,iv 0,iv 0,iv 0,iv 0,iv n1,((G 0).ss 0).v,iv 1,((G 0).ss 1).v],.nb 2 1 (fun b=>pp b 0) 210 (fun _=>#[iv 0,iv 0,iv 0,iv 0,iv 0,iv 0,iv 0,.slice none 0 0,iv 0,.slice none 0 0]),.st 1 (fun G=>.blk ((G 2).b) #[iv 0,iv 0,iv 0,iv 0,iv 0,iv 0,iv n1,((G 0).ss 0).v,iv 1,((G 0).ss 1).v] 210)] fun _ _ G5=>?_;intro S_ s_
  refine V.g [.k (((G2 1).ss 0).v),.ln (kG 0 l1 ((G2 1).ss 0)),.k (iv 0)] fun _ _ G6=>?_;intro S_ s_
  refine V.lp (γ:=Int × Int × Int × Int × Int × Int × Int × Int × List Int × SV × Int × List Int × SV) (fun ⟨k0,out_0,out_1,out_2,out_3,out_4,out_5,out_6,out_7,out_7s,out_8,out_9,out_9s⟩=>⟨[(2,pp ((G1 0).b) 0),(6,pp ((G5 2).b) 0),(23,((G2 1).ss 0).v),(24,iv (l1.length:Int)),(25,iv k0)],[fs true l1 ((G2 1).ss 0),fs true out_7 out_7s,fs true out_9 out_9s],[.blk ((G1 0).b) #[iv 0,iv 0,iv 0,iv 0,iv 0,iv 0,iv 0,.slice none 0 0,iv 0,.slice none 0 0] 210,.blk ((G5 2).b) #[iv out_0,iv out_1,iv out_2,iv out_3,iv out_4,iv out_5,iv out_6,out_7s.v,iv out_8,out_9s.v] 210,.no,.no]⟩) (fun ⟨k0,out_0,out_1,out_2,out_3,out_4,out_5,out_6,out_7,out_7s,out_8,out_9,out_9s⟩=>(0≤k0)∧(k0≤(l1.length:Int))∧(Un.acc (l1.drop k0.toNat) ([out_0,out_1,out_2,out_3,out_4,out_5],(Fr.fq out_6 out_7 out_9))=Un.acc l1 ([0,0,0,0,0,0],1))∧(Fr.FrB out_6 out_7 out_8 out_9)∧(Un.R27 k0 out_0)∧(Un.R27 k0 out_1)∧(Un.R27 k0 out_2)∧(Un.R27 k0 out_3)∧(Un.R27 k0 out_4)∧(Un.R27 k0 out_5)∧(out_7.length≤1+36 * k0.toNat∧out_9.length≤1+36 * k0.toNat)) (fun ⟨k0,out_0,out_1,out_2,out_3,out_4,out_5,out_6,out_7,out_7s,out_8,out_9,out_9s⟩=>((l1.length:Int)-k0).toNat) (0,0,0,0,0,0,0,n1,l2,(G5 0).ss 0,1,l3,(G5 0).ss 1) [0,1,2] ?_ ?_
  · refine ⟨?_,?_,?_,?_,?_,?_,?_,?_,?_,?_,?_⟩
    · show 0≤(0:Int)
      first | omega | rfl | (simp;done) | (subst_vars;simp;done)
    · show (0:Int)≤(l1.length:Int)
      first | omega | rfl | (simp;done) | (subst_vars;simp;done)
    · show Un.acc (l1.drop (0:Int).toNat) ([(0:Int),(0:Int),(0:Int),(0:Int),(0:Int),(0:Int)],(Fr.fq n1 l2 l3))=Un.acc l1 ([0,0,0,0,0,0],1);rw [hn1,hl2,hl3];show Un.acc l1 ([0,0,0,0,0,0],Fr.fq (Bg.sgn (1:Rat).num) (Bg.dig (1:Rat).num.natAbs) (Bg.dig (1:Rat).den))=_;rw [Fr.fq_of]
    · show Fr.FrB n1 l2 (1:Int) l3;rw [hn1,hl2,hl3];exact Fr.FrB.of 1
    · show Un.R27 (0:Int) (0:Int);exact Un.R27.zero
    · show Un.R27 (0:Int) (0:Int);exact Un.R27.zero
    · show Un.R27 (0:Int) (0:Int);exact Un.R27.zero
    · show Un.R27 (0:Int) (0:Int);exact Un.R27.zero
    · show Un.R27 (0:Int) (0:Int);exact Un.R27.zero
    · show Un.R27 (0:Int) (0:Int);exact Un.R27.zero
    show l2.length≤1+36 * (0:Int).toNat∧l3.length≤1+36 * (0:Int).toNat
    subst_vars;exact ⟨Bg.dig_lt (k:=1) (by decide),Bg.dig_lt (k:=1) (by decide)⟩
  rintro ⟨k0,out_0,out_1,out_2,out_3,out_4,out_5,out_6,out_7,out_7s,out_8,out_9,out_9s⟩ hF1 kw7 Z1 hZ1;have hF1:(0≤k0)∧(k0≤(l1.length:Int))∧(Un.acc (l1.drop k0.toNat) ([out_0,out_1,out_2,out_3,out_4,out_5],(Fr.fq out_6 out_7 out_9))=Un.acc l1 ([0,0,0,0,0,0],1))∧(Fr.FrB out_6 out_7 out_8 out_9)∧(Un.R27 k0 out_0)∧(Un.R27 k0 out_1)∧(Un.R27 k0 out_2)∧(Un.R27 k0 out_3)∧(Un.R27 k0 out_4)∧(Un.R27 k0 out_5)∧(out_7.length≤1+36 * k0.toNat∧out_9.length≤1+36 * k0.toNat):=hF1;obtain ⟨hf1,hf2,hf3,hf4,hf5,hf6,hf7,hf8,hf9,hf10,hf11⟩:=hF1;refine V.g [.k (bv (decide (k0 < (l1.length:Int))))] fun _ _ G7=>?_;intro S_ s_;refine V.cn (b:=decide (k0 < (l1.length:Int))) iDT iDF (fun q3=>?_) (fun q4=>?_)
  · refine nm (l1.getD k0.toNat default:Ditem) fun x1 hx1=>?_;refine V.g [.iX (kG 0 l1 ((G2 1).ss 0)) k0,.lE (kG 0 l1 ((G2 1).ss 0)) k0 false x1 hx1 true,.nb 2 2 (fun b=>pp b 0) 225 (fun _=>ca (Ditem.mk ByteArray.empty 0)),.st 2 (fun G=>.blk ((G 2).b) (ca x1) 225)] fun _ _ G8=>?_;intro S_ s_
    have hxm:=getD_mem (l:=l1) (k:=k0.toNat) (by omega) hx1;have hxo:=hio.2 _ hxm;have hxo1:=hxo.1;have hxo2:=hxo.2.1;have hxo3:=hxo.2.2;refine nm (Un.dv (Un.word x1.word) 0:Int) fun n2 hn2=>?_;refine nm (Un.dv (Un.word x1.word) 1:Int) fun n3 hn3=>?_;refine nm (Un.dv (Un.word x1.word) 2:Int) fun n4 hn4=>?_;refine nm (Un.dv (Un.word x1.word) 3:Int) fun n5 hn5=>?_;refine nm (Un.dv (Un.word x1.word) 4:Int) fun n6 hn6=>?_;refine nm (Un.dv (Un.word x1.word) 5:Int) fun n7 hn7=>?_;refine nm (Fr.rS ((Un.word x1.word).isSome=true) (Un.fv (Un.word x1.word)):Int) fun n8 hn8=>?_;refine nm (Fr.rD ((Un.word x1.word).isSome=true) (Un.fv (Un.word x1.word)):List Int) fun l4 hl4=>?_;refine nm (Fr.rT ((Un.word x1.word).isSome=true):Int) fun n9 hn9=>?_;refine nm (Fr.rE ((Un.word x1.word).isSome=true) (Un.fv (Un.word x1.word)):List Int) fun l5 hl5=>?_;refine V.g [.k (pp ((G8 2).b) 0),.ld 2 0 false (fun _=>[tv x1.word]),.cA 2 142 [] fun G=>uword_ctv x1.word (by omega) n2 hn2 n3 hn3 n4 hn4 n5 hn5 n6 hn6 n7 hn7 n8 hn8 l4 hl4 n9 hn9 l5 hl5,.v fun G=>.tuple #[.agg #[iv n2,iv n3,iv n4,iv n5,iv n6,iv n7,iv n8,((G 2).ss 0).v,iv n9,((G 2).ss 1).v],bv ((Un.word x1.word).isSome)],.v fun G=>.agg #[iv n2,iv n3,iv n4,iv n5,iv n6,iv n7,iv n8,((G 2).ss 0).v,iv n9,((G 2).ss 1).v],.k (bv ((Un.word x1.word).isSome)),.nb 6 3 (fun b=>pp b 0) 210 (fun _=>#[iv 0,iv 0,iv 0,iv 0,iv 0,iv 0,iv 0,.slice none 0 0,iv 0,.slice none 0 0]),.st 3 (fun G=>.blk ((G 6).b) #[iv n2,iv n3,iv n4,iv n5,iv n6,iv n7,iv n8,((G 2).ss 0).v,iv n9,((G 2).ss 1).v] 210),.k (bv ((Un.word x1.word).isSome))] fun _ _ G9=>?_;intro S_ s_
    have hk41:0≤k0∧k0≤41:=⟨by omega,by omega⟩;refine V.g [.k (bv ((Un.word x1.word).isSome)),.k (bv (!((Un.word x1.word).isSome)))] fun _ _ G10=>?_;intro S_ s_
    refine V.cn (b:=!((Un.word x1.word).isSome)) (iNT Iff.rfl) (iNF Iff.rfl) (fun q5=>?_) (fun q6=>?_)
    · have hrd:=Un.read_nam hsm (by rw [←hl1,← hf3,Un.acc_drop (by omega),← hx1,if_neg (by have hqq:=q5;simpa using hqq)]);refine V.g [.k (.agg #[iv 0,iv 0,iv 0,iv 0,iv 0,iv 0,iv 0,.slice none 0 0,iv 0,.slice none 0 0]),.st 0 (fun _=>.blk ((G1 0).b) #[iv 0,iv 0,iv 0,iv 0,iv 0,iv 0,iv 0,.slice none 0 0,iv 0,.slice none 0 0] 210),.k (iv 11)] fun _ _ G11=>?_;intro S_ s_
      refine V.nilF (α:=Int) ?_;refine V.nilF (α:=Int) ?_;have e7:([]:List Int)=Fr.rD (((Un.read s).1).isSome=true) (Un.fv ((Un.read s).1)):=(Fr.Fz.no (Un.is_n (by rw [hrd])) (Un.fv (Un.read s).1)).2.1;rw [←e7];have e9:([]:List Int)=Fr.rE (((Un.read s).1).isSome=true) (Un.fv ((Un.read s).1)):=(Fr.Fz.no (Un.is_n (by rw [hrd])) (Un.fv (Un.read s).1)).2.2.2;rw [←e9];have e0:(0:Int)=Un.dv ((Un.read s).1) 0:=(Un.dv_n (by rw [hrd]) 0).symm;have e1:(0:Int)=Un.dv ((Un.read s).1) 1:=(Un.dv_n (by rw [hrd]) 1).symm;have e2:(0:Int)=Un.dv ((Un.read s).1) 2:=(Un.dv_n (by rw [hrd]) 2).symm;have e3:(0:Int)=Un.dv ((Un.read s).1) 3:=(Un.dv_n (by rw [hrd]) 3).symm;have e4:(0:Int)=Un.dv ((Un.read s).1) 4:=(Un.dv_n (by rw [hrd]) 4).symm;have e5:(0:Int)=Un.dv ((Un.read s).1) 5:=(Un.dv_n (by rw [hrd]) 5).symm;have e6:(0:Int)=Fr.rS (((Un.read s).1).isSome=true) (Un.fv ((Un.read s).1)):=(Fr.Fz.no (Un.is_n (by rw [hrd])) (Un.fv (Un.read s).1)).1;have e8:(0:Int)=Fr.rT (((Un.read s).1).isSome=true):=(Fr.Fz.no (Un.is_n (by rw [hrd])) (Un.fv (Un.read s).1)).2.2.1;have e10:(11:Int)=(Un.read s).2:=by rw [hrd]
      exact V.rT [0,0] [] [] [] [5,6] [] (cong9 (fun (xz0 xz1 xz2 xz3 xz4 xz5 xz6 xz8 xz10:Int)=>(.tuple #[.agg #[iv xz0,iv xz1,iv xz2,iv xz3,iv xz4,iv xz5,iv xz6,SV.v ({}),iv xz8,SV.v ({})],iv xz10]:Value)) e0 e1 e2 e3 e4 e5 e6 e8 e10)
    have hws:(Un.word x1.word).isSome=true:=by have hqq:=q6;first | exact hqq | simpa using hqq
    have zw:=Fr.Fz.of hws hn8 hl4 hn9 hl5;have hwo:=Un.word_ok (Un.some_of hws);have hzw:=zw.len hwo.2.2.2;have hw0:n8≠0:=by have:=(Fr.sgn_num (r:=Un.fv (Un.word x1.word))).2.2.2 hwo.2.2.1;rw [←zw.eqs.1] at this;omega
    refine V.g [.k (pp ((G9 6).b) 0),.ld 3 0 true (fun _=>[iv n2,iv n3,iv n4,iv n5,iv n6,iv n7]),.k (iv 0)] fun _ _ G12=>?_;intro S_ s_
    refine V.unrollL 99 (by kernel_rfl) ?_;intro L_1;refine V.g [.kb true] fun _ _ G13=>?_;intro S_ s_
    refine V.condT (by kernel_rfl) ?_;refine V.g [.k (iv 0),.k (iv n2),.k (iv 0),.k (iv n2)] fun _ _ G14=>?_;intro S_ s_
    refine nm (n2 * x1.exp:Int) fun n10 hn10=>?_;refine V.g [.k (iv 0),.k (pp ((G5 2).b) 0),.k (pp ((G5 2).b) 0),.ld 1 0 false (fun _=>[iv out_0]),.k (iv n2),.k (pp ((G8 2).b) 1),.ld 2 1 false (fun _=>[iv x1.exp]),.ar (n2 * x1.exp) n10 hn10 (Un.R27.r64 (.mul (by rw [hn2];exact Un.word_rg x1.word 0) ⟨hxo2,hxo3⟩ hn10)).1 (Un.R27.r64 (.mul (by rw [hn2];exact Un.word_rg x1.word 0) ⟨hxo2,hxo3⟩ hn10)).2,.a (out_0+n10) (Un.R27.a64 hf5 (.mul (by rw [hn2];exact Un.word_rg x1.word 0) ⟨hxo2,hxo3⟩ hn10) hk41).1 (Un.R27.a64 hf5 (.mul (by rw [hn2];exact Un.word_rg x1.word 0) ⟨hxo2,hxo3⟩ hn10) hk41).2,.k (pp ((G5 2).b) 0),.k (pp ((G5 2).b) 0),.st 1 (fun _=>.blk ((G5 2).b) #[iv (out_0+n10),iv out_1,iv out_2,iv out_3,iv out_4,iv out_5,iv out_6,out_7s.v,iv out_8,out_9s.v] 210)] fun _ _ G15=>?_;intro S_ s_
    refine V.g [.k (iv 1),.k (iv 1)] fun _ _ G16=>?_;intro S_ s_
    refine V.againL L_1 98 (by kernel_rfl) ?_;refine V.g [.kb true] fun _ _ G17=>?_;intro S_ s_
    refine V.condT (by kernel_rfl) ?_;refine V.g [.k (iv 1),.k (iv n3),.k (iv 1),.k (iv n3)] fun _ _ G18=>?_;intro S_ s_
    refine nm (n3 * x1.exp:Int) fun n11 hn11=>?_;refine V.g [.k (iv 1),.k (pp ((G5 2).b) 0),.k (pp ((G5 2).b) 1),.ld 1 1 false (fun _=>[iv out_1]),.k (iv n3),.k (pp ((G8 2).b) 1),.ld 2 1 false (fun _=>[iv x1.exp]),.ar (n3 * x1.exp) n11 hn11 (Un.R27.r64 (.mul (by rw [hn3];exact Un.word_rg x1.word 1) ⟨hxo2,hxo3⟩ hn11)).1 (Un.R27.r64 (.mul (by rw [hn3];exact Un.word_rg x1.word 1) ⟨hxo2,hxo3⟩ hn11)).2,.a (out_1+n11) (Un.R27.a64 hf6 (.mul (by rw [hn3];exact Un.word_rg x1.word 1) ⟨hxo2,hxo3⟩ hn11) hk41).1 (Un.R27.a64 hf6 (.mul (by rw [hn3];exact Un.word_rg x1.word 1) ⟨hxo2,hxo3⟩ hn11) hk41).2,.k (pp ((G5 2).b) 0),.k (pp ((G5 2).b) 1),.st 1 (fun _=>.blk ((G5 2).b) #[iv (out_0+n10),iv (out_1+n11),iv out_2,iv out_3,iv out_4,iv out_5,iv out_6,out_7s.v,iv out_8,out_9s.v] 210)] fun _ _ G19=>?_;intro S_ s_
    refine V.g [.k (iv 2),.k (iv 2)] fun _ _ G20=>?_;intro S_ s_
    refine V.againL L_1 97 (by kernel_rfl) ?_;refine V.g [.kb true] fun _ _ G21=>?_;intro S_ s_
    refine V.condT (by kernel_rfl) ?_;refine V.g [.k (iv 2),.k (iv n4),.k (iv 2),.k (iv n4)] fun _ _ G22=>?_;intro S_ s_
    refine nm (n4 * x1.exp:Int) fun n12 hn12=>?_;refine V.g [.k (iv 2),.k (pp ((G5 2).b) 0),.k (pp ((G5 2).b) 2),.ld 1 2 false (fun _=>[iv out_2]),.k (iv n4),.k (pp ((G8 2).b) 1),.ld 2 1 false (fun _=>[iv x1.exp]),.ar (n4 * x1.exp) n12 hn12 (Un.R27.r64 (.mul (by rw [hn4];exact Un.word_rg x1.word 2) ⟨hxo2,hxo3⟩ hn12)).1 (Un.R27.r64 (.mul (by rw [hn4];exact Un.word_rg x1.word 2) ⟨hxo2,hxo3⟩ hn12)).2,.a (out_2+n12) (Un.R27.a64 hf7 (.mul (by rw [hn4];exact Un.word_rg x1.word 2) ⟨hxo2,hxo3⟩ hn12) hk41).1 (Un.R27.a64 hf7 (.mul (by rw [hn4];exact Un.word_rg x1.word 2) ⟨hxo2,hxo3⟩ hn12) hk41).2,.k (pp ((G5 2).b) 0),.k (pp ((G5 2).b) 2),.st 1 (fun _=>.blk ((G5 2).b) #[iv (out_0+n10),iv (out_1+n11),iv (out_2+n12),iv out_3,iv out_4,iv out_5,iv out_6,out_7s.v,iv out_8,out_9s.v] 210)] fun _ _ G23=>?_;intro S_ s_
    refine V.g [.k (iv 3),.k (iv 3)] fun _ _ G24=>?_;intro S_ s_
    refine V.againL L_1 96 (by kernel_rfl) ?_;refine V.g [.kb true] fun _ _ G25=>?_;intro S_ s_
    refine V.condT (by kernel_rfl) ?_;refine V.g [.k (iv 3),.k (iv n5),.k (iv 3),.k (iv n5)] fun _ _ G26=>?_;intro S_ s_
    refine nm (n5 * x1.exp:Int) fun n13 hn13=>?_;refine V.g [.k (iv 3),.k (pp ((G5 2).b) 0),.k (pp ((G5 2).b) 3),.ld 1 3 false (fun _=>[iv out_3]),.k (iv n5),.k (pp ((G8 2).b) 1),.ld 2 1 false (fun _=>[iv x1.exp]),.ar (n5 * x1.exp) n13 hn13 (Un.R27.r64 (.mul (by rw [hn5];exact Un.word_rg x1.word 3) ⟨hxo2,hxo3⟩ hn13)).1 (Un.R27.r64 (.mul (by rw [hn5];exact Un.word_rg x1.word 3) ⟨hxo2,hxo3⟩ hn13)).2,.a (out_3+n13) (Un.R27.a64 hf8 (.mul (by rw [hn5];exact Un.word_rg x1.word 3) ⟨hxo2,hxo3⟩ hn13) hk41).1 (Un.R27.a64 hf8 (.mul (by rw [hn5];exact Un.word_rg x1.word 3) ⟨hxo2,hxo3⟩ hn13) hk41).2,.k (pp ((G5 2).b) 0),.k (pp ((G5 2).b) 3),.st 1 (fun _=>.blk ((G5 2).b) #[iv (out_0+n10),iv (out_1+n11),iv (out_2+n12),iv (out_3+n13),iv out_4,iv out_5,iv out_6,out_7s.v,iv out_8,out_9s.v] 210)] fun _ _ G27=>?_;intro S_ s_
    refine V.g [.k (iv 4),.k (iv 4)] fun _ _ G28=>?_;intro S_ s_
    refine V.againL L_1 95 (by kernel_rfl) ?_;refine V.g [.kb true] fun _ _ G29=>?_;intro S_ s_
    refine V.condT (by kernel_rfl) ?_;refine V.g [.k (iv 4),.k (iv n6),.k (iv 4),.k (iv n6)] fun _ _ G30=>?_;intro S_ s_
    refine nm (n6 * x1.exp:Int) fun n14 hn14=>?_;refine V.g [.k (iv 4),.k (pp ((G5 2).b) 0),.k (pp ((G5 2).b) 4),.ld 1 4 false (fun _=>[iv out_4]),.k (iv n6),.k (pp ((G8 2).b) 1),.ld 2 1 false (fun _=>[iv x1.exp]),.ar (n6 * x1.exp) n14 hn14 (Un.R27.r64 (.mul (by rw [hn6];exact Un.word_rg x1.word 4) ⟨hxo2,hxo3⟩ hn14)).1 (Un.R27.r64 (.mul (by rw [hn6];exact Un.word_rg x1.word 4) ⟨hxo2,hxo3⟩ hn14)).2,.a (out_4+n14) (Un.R27.a64 hf9 (.mul (by rw [hn6];exact Un.word_rg x1.word 4) ⟨hxo2,hxo3⟩ hn14) hk41).1 (Un.R27.a64 hf9 (.mul (by rw [hn6];exact Un.word_rg x1.word 4) ⟨hxo2,hxo3⟩ hn14) hk41).2,.k (pp ((G5 2).b) 0),.k (pp ((G5 2).b) 4),.st 1 (fun _=>.blk ((G5 2).b) #[iv (out_0+n10),iv (out_1+n11),iv (out_2+n12),iv (out_3+n13),iv (out_4+n14),iv out_5,iv out_6,out_7s.v,iv out_8,out_9s.v] 210)] fun _ _ G31=>?_;intro S_ s_
    refine V.g [.k (iv 5),.k (iv 5)] fun _ _ G32=>?_;intro S_ s_
    refine V.againL L_1 94 (by kernel_rfl) ?_;refine V.g [.kb true] fun _ _ G33=>?_;intro S_ s_
    refine V.condT (by kernel_rfl) ?_;refine V.g [.k (iv 5),.k (iv n7),.k (iv 5),.k (iv n7)] fun _ _ G34=>?_;intro S_ s_
    refine nm (n7 * x1.exp:Int) fun n15 hn15=>?_;refine V.g [.k (iv 5),.k (pp ((G5 2).b) 0),.k (pp ((G5 2).b) 5),.ld 1 5 false (fun _=>[iv out_5]),.k (iv n7),.k (pp ((G8 2).b) 1),.ld 2 1 false (fun _=>[iv x1.exp]),.ar (n7 * x1.exp) n15 hn15 (Un.R27.r64 (.mul (by rw [hn7];exact Un.word_rg x1.word 5) ⟨hxo2,hxo3⟩ hn15)).1 (Un.R27.r64 (.mul (by rw [hn7];exact Un.word_rg x1.word 5) ⟨hxo2,hxo3⟩ hn15)).2,.a (out_5+n15) (Un.R27.a64 hf10 (.mul (by rw [hn7];exact Un.word_rg x1.word 5) ⟨hxo2,hxo3⟩ hn15) hk41).1 (Un.R27.a64 hf10 (.mul (by rw [hn7];exact Un.word_rg x1.word 5) ⟨hxo2,hxo3⟩ hn15) hk41).2,.k (pp ((G5 2).b) 0),.k (pp ((G5 2).b) 5),.st 1 (fun _=>.blk ((G5 2).b) #[iv (out_0+n10),iv (out_1+n11),iv (out_2+n12),iv (out_3+n13),iv (out_4+n14),iv (out_5+n15),iv out_6,out_7s.v,iv out_8,out_9s.v] 210)] fun _ _ G35=>?_;intro S_ s_
    refine V.g [.k (iv 6),.k (iv 6)] fun _ _ G36=>?_;intro S_ s_
    refine V.againL L_1 93 (by kernel_rfl) ?_;refine V.g [.kb false] fun _ _ G37=>?_;intro S_ s_
    refine V.condF (by kernel_rfl) ?_;refine nm (Fr.rS (True) (Un.tm (Fr.fq out_6 out_7 out_9) (Fr.fq n8 l4 l5) x1.exp):Int) fun n16 hn16=>?_;refine nm (Fr.rD (True) (Un.tm (Fr.fq out_6 out_7 out_9) (Fr.fq n8 l4 l5) x1.exp):List Int) fun l6 hl6=>?_;refine nm (Fr.rT (True):Int) fun n17 hn17=>?_;refine nm (Fr.rE (True) (Un.tm (Fr.fq out_6 out_7 out_9) (Fr.fq n8 l4 l5) x1.exp):List Int) fun l7 hl7=>?_;refine V.g [.k (pp ((G5 2).b) 6),.ld 1 6 true (fun _=>Dat.cells (DFrac.mk ⟨out_6,out_7,out_7s⟩ ⟨out_8,out_9,out_9s⟩)),.k (pp ((G9 6).b) 6),.ld 3 6 true (fun _=>Dat.cells (DFrac.mk ⟨n8,l4,(G9 2).ss 0⟩ ⟨n9,l5,(G9 2).ss 1⟩)),.k (pp ((G8 2).b) 1),.ld 2 1 false (fun _=>[iv x1.exp]),.ctT g0 6 143 [kB 1 out_7 out_7s,kB 2 out_9 out_9s,kB 3 l4 ((G9 2).ss 0),kB 4 l5 ((G9 2).ss 1)] (fun _ G=>utimes_ctv out_6 out_7 out_7s out_8 out_9 out_9s n8 l4 ((G9 2).ss 0) n9 l5 ((G9 2).ss 1) x1.exp hf4 zw.rt hw0 ⟨hxo2,hxo3⟩ ⟨by omega,by omega⟩ ⟨by omega,by omega⟩ n16 hn16 l6 hl6 n17 hn17 l7 hl7),.k (pp ((G5 2).b) 6),.st 1 (fun G=>.blk ((G5 2).b) #[iv (out_0+n10),iv (out_1+n11),iv (out_2+n12),iv (out_3+n13),iv (out_4+n14),iv (out_5+n15),iv n16,((G 6).ss 0).v,iv n17,((G 6).ss 1).v] 210)] fun _ _ G38=>?_;intro S_ s_
    have zt:=Fr.Fz.of True.intro hn16 hl6 hn17 hl7;rw [zw.v] at zt;have hzt:=zt.len (Un.tm_hb (hf4.hb hf11.1 hf11.2) hwo.2.2.2 ⟨hxo2,hxo3⟩);refine V.g [.aa (k0+1),.k (iv (k0+1))] fun _ _ G39=>?_;intro S_ s_
    refine V.rn hZ1 (k0+1,out_0+n10,out_1+n11,out_2+n12,out_3+n13,out_4+n14,out_5+n15,n16,l6,(G38 6).ss 0,n17,l7,(G38 6).ss 1) [0,5,6] ?_ ?_
    · refine ⟨?_,?_,?_,?_,?_,?_,?_,?_,?_,?_,?_⟩
      · show 0≤(k0+1);omega
      · show (k0+1)≤(l1.length:Int);omega
      · show Un.acc (l1.drop (k0+1).toNat) ([(out_0+n10),(out_1+n11),(out_2+n12),(out_3+n13),(out_4+n14),(out_5+n15)],(Fr.fq n16 l6 l7))=Un.acc l1 ([0,0,0,0,0,0],1);rw [show (k0+1).toNat=k0.toNat+1 by omega,← hf3,Un.acc_drop (k:=k0.toNat) (by omega),← hx1,if_pos hws,zt.v,hn10,hn11,hn12,hn13,hn14,hn15,hn2,hn3,hn4,hn5,hn6,hn7];rfl
      · show Fr.FrB n16 l6 n17 l7;exact zt.rt
      · show Un.R27 (k0+1) (out_0+n10);exact Un.R27.add hf5 (.mul (by rw [hn2];exact Un.word_rg x1.word 0) ⟨hxo2,hxo3⟩ hn10)
      · show Un.R27 (k0+1) (out_1+n11);exact Un.R27.add hf6 (.mul (by rw [hn3];exact Un.word_rg x1.word 1) ⟨hxo2,hxo3⟩ hn11)
      · show Un.R27 (k0+1) (out_2+n12);exact Un.R27.add hf7 (.mul (by rw [hn4];exact Un.word_rg x1.word 2) ⟨hxo2,hxo3⟩ hn12)
      · show Un.R27 (k0+1) (out_3+n13);exact Un.R27.add hf8 (.mul (by rw [hn5];exact Un.word_rg x1.word 3) ⟨hxo2,hxo3⟩ hn13)
      · show Un.R27 (k0+1) (out_4+n14);exact Un.R27.add hf9 (.mul (by rw [hn6];exact Un.word_rg x1.word 4) ⟨hxo2,hxo3⟩ hn14)
      · show Un.R27 (k0+1) (out_5+n15);exact Un.R27.add hf10 (.mul (by rw [hn7];exact Un.word_rg x1.word 5) ⟨hxo2,hxo3⟩ hn15)
      show l6.length≤1+36 * (k0+1).toNat∧l7.length≤1+36 * (k0+1).toNat;omega
    show ((l1.length:Int)-(k0+1)).toNat < ((l1.length:Int)-k0).toNat;omega
  have hfin:Un.acc l1 ([0,0,0,0,0,0],1)=some ([out_0,out_1,out_2,out_3,out_4,out_5],(Fr.fq out_6 out_7 out_9)):=by rw [←hf3,List.drop_of_length_le (by omega)];rfl
  refine V.g [.k (pp ((G5 2).b) 0),.ld 1 0 true (fun _=>[iv out_0,iv out_1,iv out_2,iv out_3,iv out_4,iv out_5]),.cP 2 144 [] fun G=>dright_ct out_0 out_1 out_2 out_3 out_4 out_5,.k (bv (!(decide (Dm.Rt [out_0,out_1,out_2,out_3,out_4,out_5]))))] fun _ _ G40=>?_;intro S_ s_
  refine V.cn (b:=!(decide (Dm.Rt [out_0,out_1,out_2,out_3,out_4,out_5]))) (iNT iDF) (iNF iDT) (fun q7=>?_) (fun q8=>?_)
  · have hrd:=Un.read_rng hsm (by rw [←hl1];exact hfin) q7;refine V.g [.k (.agg #[iv 0,iv 0,iv 0,iv 0,iv 0,iv 0,iv 0,.slice none 0 0,iv 0,.slice none 0 0]),.st 0 (fun _=>.blk ((G1 0).b) #[iv 0,iv 0,iv 0,iv 0,iv 0,iv 0,iv 0,.slice none 0 0,iv 0,.slice none 0 0] 210),.k (iv 3)] fun _ _ G41=>?_;intro S_ s_
    refine V.nilF (α:=Int) ?_;refine V.nilF (α:=Int) ?_;have e7:([]:List Int)=Fr.rD (((Un.read s).1).isSome=true) (Un.fv ((Un.read s).1)):=(Fr.Fz.no (Un.is_n (by rw [hrd])) (Un.fv (Un.read s).1)).2.1;rw [←e7];have e9:([]:List Int)=Fr.rE (((Un.read s).1).isSome=true) (Un.fv ((Un.read s).1)):=(Fr.Fz.no (Un.is_n (by rw [hrd])) (Un.fv (Un.read s).1)).2.2.2;rw [←e9];have e0:(0:Int)=Un.dv ((Un.read s).1) 0:=(Un.dv_n (by rw [hrd]) 0).symm;have e1:(0:Int)=Un.dv ((Un.read s).1) 1:=(Un.dv_n (by rw [hrd]) 1).symm;have e2:(0:Int)=Un.dv ((Un.read s).1) 2:=(Un.dv_n (by rw [hrd]) 2).symm;have e3:(0:Int)=Un.dv ((Un.read s).1) 3:=(Un.dv_n (by rw [hrd]) 3).symm;have e4:(0:Int)=Un.dv ((Un.read s).1) 4:=(Un.dv_n (by rw [hrd]) 4).symm;have e5:(0:Int)=Un.dv ((Un.read s).1) 5:=(Un.dv_n (by rw [hrd]) 5).symm;have e6:(0:Int)=Fr.rS (((Un.read s).1).isSome=true) (Un.fv ((Un.read s).1)):=(Fr.Fz.no (Un.is_n (by rw [hrd])) (Un.fv (Un.read s).1)).1;have e8:(0:Int)=Fr.rT (((Un.read s).1).isSome=true):=(Fr.Fz.no (Un.is_n (by rw [hrd])) (Un.fv (Un.read s).1)).2.2.1;have e10:(3:Int)=(Un.read s).2:=by rw [hrd]
    exact V.rT [0,0] [] [] [] [3,4] [] (cong9 (fun (xz0 xz1 xz2 xz3 xz4 xz5 xz6 xz8 xz10:Int)=>(.tuple #[.agg #[iv xz0,iv xz1,iv xz2,iv xz3,iv xz4,iv xz5,iv xz6,SV.v ({}),iv xz8,SV.v ({})],iv xz10]:Value)) e0 e1 e2 e3 e4 e5 e6 e8 e10)
  have hrd:=Un.read_ok hsm (by rw [←hl1];exact hfin) (by have hqq:=q8;first | exact hqq | exact Decidable.not_not.1 hqq);have hr1:(Un.read s).1=some ([out_0,out_1,out_2,out_3,out_4,out_5],(Fr.fq out_6 out_7 out_9)):=by rw [hrd]
  refine V.g [.ld 1 0 true (fun _=>[iv out_0,iv out_1,iv out_2,iv out_3,iv out_4,iv out_5,iv out_6,out_7s.v,iv out_8,out_9s.v]),.st 0 (fun _=>.blk ((G1 0).b) #[iv out_0,iv out_1,iv out_2,iv out_3,iv out_4,iv out_5,iv out_6,out_7s.v,iv out_8,out_9s.v] 210),.k (iv 0)] fun _ _ G42=>?_;intro S_ s_
  have e7:out_7=Fr.rD (((Un.read s).1).isSome=true) (Un.fv ((Un.read s).1)):=(Fr.Fz.ret (Fr.FrB.z hf4) (Un.is_s hr1) (Un.fv_s hr1).symm).2.1;subst e7;have e9:out_9=Fr.rE (((Un.read s).1).isSome=true) (Un.fv ((Un.read s).1)):=(Fr.Fz.ret (Fr.FrB.z hf4) (Un.is_s hr1) (Un.fv_s hr1).symm).2.2.2;subst e9;have e0:out_0=Un.dv ((Un.read s).1) 0:=(Un.dv_s hr1 0).symm;have e1:out_1=Un.dv ((Un.read s).1) 1:=(Un.dv_s hr1 1).symm;have e2:out_2=Un.dv ((Un.read s).1) 2:=(Un.dv_s hr1 2).symm;have e3:out_3=Un.dv ((Un.read s).1) 3:=(Un.dv_s hr1 3).symm;have e4:out_4=Un.dv ((Un.read s).1) 4:=(Un.dv_s hr1 4).symm;have e5:out_5=Un.dv ((Un.read s).1) 5:=(Un.dv_s hr1 5).symm;have e6:out_6=Fr.rS (((Un.read s).1).isSome=true) (Un.fv ((Un.read s).1)):=(Fr.Fz.ret (Fr.FrB.z hf4) (Un.is_s hr1) (Un.fv_s hr1).symm).1;have e8:out_8=Fr.rT (((Un.read s).1).isSome=true):=(Fr.Fz.ret (Fr.FrB.z hf4) (Un.is_s hr1) (Un.fv_s hr1).symm).2.2.1;have e10:(0:Int)=(Un.read s).2:=by rw [hrd]
  exact V.rT [0,0] [out_7s,out_9s] [] [] [1,2] [] (cong9 (fun (xz0 xz1 xz2 xz3 xz4 xz5 xz6 xz8 xz10:Int)=>(.tuple #[.agg #[iv xz0,iv xz1,iv xz2,iv xz3,iv xz4,iv xz5,iv xz6,out_7s.v,iv xz8,out_9s.v],iv xz10]:Value)) e0 e1 e2 e3 e4 e5 e6 e8 e10)
theorem uread_ctv (s:ByteArray) (hs:s.size≤9223372036854775807) (rv0:Int) (erv0:rv0=Un.dv ((Un.read s).1) 0) (rv1:Int) (erv1:rv1=Un.dv ((Un.read s).1) 1) (rv2:Int) (erv2:rv2=Un.dv ((Un.read s).1) 2) (rv3:Int) (erv3:rv3=Un.dv ((Un.read s).1) 3) (rv4:Int) (erv4:rv4=Un.dv ((Un.read s).1) 4) (rv5:Int) (erv5:rv5=Un.dv ((Un.read s).1) 5) (rv6:Int) (erv6:rv6=Fr.rS (((Un.read s).1).isSome=true) (Un.fv ((Un.read s).1))) (rv7:List Int) (erv7:rv7=Fr.rD (((Un.read s).1).isSome=true) (Un.fv ((Un.read s).1))) (rv8:Int) (erv8:rv8=Fr.rT (((Un.read s).1).isSome=true)) (rv9:List Int) (erv9:rv9=Fr.rE (((Un.read s).1).isSome=true) (Un.fv ((Un.read s).1))) (rv10:Int) (erv10:rv10=(Un.read s).2) :
    Ct Tryz.prog 129 #[tv s] [] [] (fun g=>.tuple #[.agg #[iv rv0,iv rv1,iv rv2,iv rv3,iv rv4,iv rv5,iv rv6,((g.ss 0)).v,iv rv8,((g.ss 1)).v],iv rv10]) (fun g=>[fs true rv7 (g.ss 0),fs true rv9 (g.ss 1)]) (fun g=>[]) (fun g=>[]):=by
  subst erv0 erv1 erv2 erv3 erv4 erv5 erv6 erv7 erv8 erv9 erv10;exact uread_ct s hs

open Go Go.Proofs
set_option maxRecDepth 10000 in
theorem bwf_ct (bb:Nat) (bl_buf:List UInt8) (bl_bufs:SV) (c:UInt8) (hb:bl_buf.length≤1000000000) :
    Ct Tryz.prog 165 #[pp bb 0,.int .u8 (c.toNat:Int)] [] [.blk bb #[.pointer none,bl_bufs.v] 245,os false 5 bl_buf bl_bufs] (fun g=>.nilIface) (fun g=>[]) (fun g=>[.blk bb #[pp bb 0,(g.ss 0).v] 245,os true 5 (bl_buf ++[c]) (g.ss 0)]) (fun g=>[]):=by
  refine V.fo mo Tryz.func165 17 0 fun w H ε k0=>?_;clear k0
  refine V.gf [.u 1] fun _ _ G1=>?_;intro S_ s_
  refine V.gf [.u 1,.cB 1 167 false [0,1] [] [] fun G=>bccf_ct bb bl_buf bl_bufs] fun _ _ G2=>?_;intro S_ s_
  refine nm (bl_buf ++([c]:List UInt8):List UInt8) fun l1 hl1=>?_;refine V.gf [.u 4,.l 0,.u 1,.nr 6 true 5 ([c]:List UInt8) [] (fun _ _ _ _ _=>trivial) (fun _=>#[.int .u8 (c.toNat:Int)]),.ap 7 1 5 1 false true bl_buf (fun _=>bl_bufs) (kf true (.g 6 0) ([c]:List UInt8) (fun G=>⟨atB (G 6).b,1,1⟩)) true l1 hl1 (by (try simp only [List.length_append,List.length_cons,List.length_nil,List.length_replicate,List.length_set,List.length_take,List.length_drop,List.length_map,List.length_reverse,List.length_range]);omega) (fun h=>by cases h) (.inr fun _ _=>trivial),.u 2,.s 0] fun _ _ G3=>?_;intro S_ s_
  refine V.gf [.u 1] fun _ _ G4=>?_;intro S_ s_
  have eL1:l1=bl_buf ++[c]:=by subst_vars;rfl
  subst eL1;exact V.rS [0] [(G3 7).s] [] [] [] [0,1]
set_option maxRecDepth 10000 in
theorem bwu_ct (bb:Nat) (bl_buf:List UInt8) (bl_bufs:SV) (c:UInt8) (hb:bl_buf.length≤1000000000) :
    Ct Tryz.prog 165 #[pp bb 0,.int .u8 (c.toNat:Int)] [] [.blk bb #[pp bb 0,bl_bufs.v] 245,os false 5 bl_buf bl_bufs] (fun g=>.nilIface) (fun g=>[]) (fun g=>[.blk bb #[pp bb 0,(g.ss 0).v] 245,os true 5 (bl_buf ++[c]) (g.ss 0)]) (fun g=>[]):=by
  refine V.fo mo Tryz.func165 17 0 fun w H ε k0=>?_;clear k0
  refine V.gf [.u 1] fun _ _ G1=>?_;intro S_ s_
  refine V.gf [.u 1,.cB 1 167 false [0,1] [] [] fun G=>bccu_ct bb bl_buf bl_bufs] fun _ _ G2=>?_;intro S_ s_
  refine nm (bl_buf ++([c]:List UInt8):List UInt8) fun l1 hl1=>?_;refine V.gf [.u 4,.l 0,.u 1,.nr 6 true 5 ([c]:List UInt8) [] (fun _ _ _ _ _=>trivial) (fun _=>#[.int .u8 (c.toNat:Int)]),.ap 7 1 5 1 false true bl_buf (fun _=>bl_bufs) (kf true (.g 6 0) ([c]:List UInt8) (fun G=>⟨atB (G 6).b,1,1⟩)) true l1 hl1 (by (try simp only [List.length_append,List.length_cons,List.length_nil,List.length_replicate,List.length_set,List.length_take,List.length_drop,List.length_map,List.length_reverse,List.length_range]);omega) (fun h=>by cases h) (.inr fun _ _=>trivial),.u 2,.s 0] fun _ _ G3=>?_;intro S_ s_
  refine V.gf [.u 1] fun _ _ G4=>?_;intro S_ s_
  have eL1:l1=bl_buf ++[c]:=by subst_vars;rfl
  subst eL1;exact V.rS [0] [(G3 7).s] [] [] [] [0,1]

open Go
namespace Tb
open Fr Bg
def dgt (c:Int):Prop:=48≤c∧c≤57
def inn (c:Int):Prop:=(Un.ltr c∨dgt c)∨c=95
instance (c : Int) : Decidable (dgt c) := by unfold dgt; infer_instance
instance (c : Int) : Decidable (inn c) := by unfold inn; infer_instance
def spL:List UInt8→Nat
  | []=>0
  | c :: l=>if inn (c.toNat:Int) then spL l+1 else 0
def spn (s:ByteArray):Nat:=spL (bl s)
theorem spL_at:∀ {l:List UInt8} {n:Nat},n≤l.length→(∀ j,j < n→inn ((l.getD j default).toNat:Int))→(n=l.length∨¬ inn ((l.getD n default).toNat:Int))→spL l=n
  | [],n,hn,_,_=>by simp at hn;subst hn;rfl
  | c :: l,0,_,_,h=>by
    rcases h with h | h
    · simp at h
    · unfold spL;rw [if_neg (by simpa using h)]
  | c :: l,n+1,hn,hj,h=>by
    unfold spL
    rw [if_pos (by simpa using hj 0 (by omega)),spL_at (by simpa using hn) (fun j hj'=>by have:=hj (j+1) (by omega);simpa using this) (by simpa using h)]
theorem spn_at {s:ByteArray} {n:Nat} (hn:n≤s.size) (hj:∀ j,j < n→inn (((bl s).getD j default).toNat:Int)) (h:n=s.size∨¬ inn (((bl s).getD n default).toNat:Int)):spn s=n :=
  spL_at (by rw [bl_len];exact hn) hj (by rw [bl_len];exact h)
def Nm (s:ByteArray):Prop:=((¬s=ByteArray.empty∧Un.ltr (((bl s).getD 0 default).toNat:Int))∧(s.size:Int)≤20)∧(spn s:Int)=(s.size:Int)
instance (s : ByteArray) : Decidable (Nm s) := by unfold Nm; infer_instance
def inR (n:Int):Prop:= -1099511627776≤n∧n≤1099511627776
instance (n : Int) : Decidable (inR n) := by unfold inR; infer_instance
def ky (l:List DRow) (i:Nat):Int:=(l.getD i default).Key
def vl (l:List DRow) (i:Nat):Int:=(l.getD i default).Value
def RowOk (l:List DRow) (i:Nat):Prop:=(inR (ky l i)∧inR (vl l i))∧(0 < i→ky l (i - 1) < ky l i)
instance (l : List DRow) (i : Nat) : Decidable (RowOk l i) := by unfold RowOk; infer_instance
def RtT (nm un:ByteArray) (l:List DRow):Prop:=(((Un.read un).2=0∧Nm nm)∧(l.length:Int)≤100)∧∀ i,i < l.length→RowOk l i
instance rowsDec (l : List DRow) : Decidable (∀ i, i < l.length → RowOk l i) := Nat.decidableBallLT l.length fun i _ => RowOk l i
instance (nm un : ByteArray) (l : List DRow) : Decidable (RtT nm un l) := by
  have d := rowsDec l
  unfold RtT
  exact instDecidableAnd
end Tb

open Go
namespace Fx
def pln (c:Int):Prop:=32≤c∧c≤126
instance (c : Int) : Decidable (pln c) := by unfold pln; infer_instance
def plL:List UInt8→Nat
  | []=>0
  | c :: l=>if pln (c.toNat:Int) then plL l+1 else 0
def plS (s:ByteArray):Nat:=plL (bl s)
theorem plL_at:∀ {l:List UInt8} {n:Nat},n≤l.length→(∀ j,j < n→pln ((l.getD j default).toNat:Int))→(n=l.length∨¬ pln ((l.getD n default).toNat:Int))→plL l=n
  | [],n,hn,_,_=>by simp at hn;subst hn;rfl
  | c :: l,0,_,_,h=>by
    rcases h with h | h
    · simp at h
    · unfold plL;rw [if_neg (by simpa using h)]
  | c :: l,n+1,hn,hj,h=>by
    unfold plL
    rw [if_pos (by simpa using hj 0 (by omega)),plL_at (by simpa using hn) (fun j hj'=>by have:=hj (j+1) (by omega);simpa using this) (by simpa using h)]
theorem plS_at {s:ByteArray} {n:Nat} (hn:n≤s.size) (hj:∀ j,j < n→pln (((bl s).getD j default).toNat:Int)) (h:n=s.size∨¬ pln (((bl s).getD n default).toNat:Int)):plS s=n :=
  plL_at (by rw [bl_len];exact hn) hj (by rw [bl_len];exact h)
def Qt (s:ByteArray):Prop:=(s.size:Int)≤400∧(plS s:Int)=(s.size:Int)
instance (s : ByteArray) : Decidable (Qt s) := by unfold Qt; infer_instance
def esc1 (c:UInt8):List UInt8:=if (c.toNat:Int)=34∨(c.toNat:Int)=92 then [92,c] else [c]
def escL (l:List UInt8):List UInt8:=34 :: l.flatMap esc1
def esc (s:ByteArray):ByteArray:=⟨(escL (bl s) ++[34]).toArray⟩
def quo (s:ByteArray):ByteArray:=if Qt s then esc s else ByteArray.empty
theorem escL_step {l:List UInt8} {i:Int} {c:UInt8} (h0:0≤i) (hi:i < l.length) (hc:c=l.getD i.toNat default):escL (l.take (i+1).toNat)=escL (l.take i.toNat) ++esc1 c:=by
  have hi':i.toNat < l.length:=by omega
  rw [show (i+1).toNat=i.toNat+1 by omega]
  have e:l[i.toNat]=c:=by rw [hc,List.getD_eq_getElem?_getD,List.getElem?_eq_getElem hi'];rfl
  unfold escL
  rw [List.take_add_one,List.getElem?_eq_getElem hi',e,List.flatMap_append]
  simp
theorem escL_len:∀ l:List UInt8,(escL l).length≤2 * l.length+1:=fun l=>by
  unfold escL
  have:∀ m:List UInt8,(m.flatMap esc1).length≤2 * m.length:=fun m=>by
    induction m with
    | nil=>simp
    | cons c m ih =>
      rw [List.flatMap_cons,List.length_append,List.length_cons]
      have:(esc1 c).length≤2:=by unfold esc1;split <;> simp
      omega
  have:=this l
  simp only [List.length_cons];omega
def isW (s:ByteArray):Prop:=s=⟨#[110,111,116]⟩∨s=⟨#[105,102]⟩∨s=⟨#[116,104,101,110]⟩∨s=⟨#[101,108,115,101]⟩∨s=⟨#[97,110,100]⟩∨s=⟨#[111,114]⟩∨s=⟨#[108,111,111,107]⟩∨s=⟨#[109,105,110]⟩∨s=⟨#[109,97,120]⟩∨s=⟨#[105,110,116,111]⟩∨s=⟨#[116,111]⟩∨s=⟨#[97,115]⟩
instance (s : ByteArray) : Decidable (isW s) := by unfold isW; infer_instance
def fre (s:ByteArray):Prop:=Tb.Nm s∧¬ isW s
instance (s : ByteArray) : Decidable (fre s) := by unfold fre; infer_instance
def opT (o:Int):ByteArray:=if o=6 then ⟨#[43]⟩ else if o=7 then ⟨#[45]⟩ else if o=8 then ⟨#[42]⟩ else if o=9 then ⟨#[47]⟩ else if o=12 then ⟨#[60]⟩ else if o=13 then ⟨#[61]⟩ else if o=14 then ⟨#[97,110,100]⟩ else if o=15 then ⟨#[111,114]⟩ else ByteArray.empty
def isO (o:Int):Prop:=(6≤o∧o≤9)∨(12≤o∧o≤15)
instance (o : Int) : Decidable (isO o) := by unfold isO; infer_instance
def nodeP (o N:Int) (u m:ByteArray) (n:Int):Prop :=
  if o=0 then Qt u∧(0≤N∧N≤1099511627776)∧m=ByteArray.empty∧n=0
  else (N=0∧u=ByteArray.empty) ∧
    if o=1 then fre m∧n=0 else if o=2 then fre m∧n=1 else if o=3 then fre m∧1≤n∧n≤6 else if o=4 then m=ByteArray.empty∧n=1
    else if o=5 then m=ByteArray.empty∧n=3 else if o=10∨o=11 then m=ByteArray.empty∧n=2 else isO o∧m=ByteArray.empty∧n=2
instance (o N : Int) (u m : ByteArray) (n : Int) : Decidable (nodeP o N u m n) := by unfold nodeP; infer_instance
mutual
def sz:Ex→Nat
  | .mk _ _ _ _ l=>1+szL l
def szL:List Ex→Nat
  | []=>0
  | x :: l=>sz x+szL l
end
theorem szL_mem:∀ {l:List Ex} {y:Ex},y ∈ l→sz y≤szL l
  | x :: l,y,h=>by
    unfold szL
    rcases List.mem_cons.1 h with rfl | h
    · omega
    · have:=szL_mem h;omega
theorem sz_sub {x y:Ex} (h:y ∈ x.l):sz y < sz x:=by
  cases x with
  | mk o n u m l=>have:=szL_mem (show y ∈ l from h);show sz y < 1+szL l;omega
theorem sz_arg {x y:DExpr} (h:y ∈ x.Args.l):sz (er y) < sz (er x):=sz_sub (by rw [er_l];exact List.mem_map_of_mem h)
mutual
def shp:Ex→Prop
  | .mk o n u m l=>nodeP o n u m l.length∧shpL l
def shpL:List Ex→Prop
  | []=>True
  | x :: l=>shp x∧shpL l
end
theorem shpL_iff:∀ {l:List Ex},shpL l↔∀ y ∈ l,shp y
  | []=>by simp [shpL]
  | x :: l=>by unfold shpL;rw [shpL_iff];simp
theorem shp_iff (x:DExpr):shp (er x)↔nodeP x.Op x.N x.Unit x.Name x.Args.l.length∧∀ y ∈ x.Args.l,shp (er y):=by
  obtain ⟨o,n,u,m,⟨l,s⟩⟩:=x
  rw [er_mk,shp,shpL_iff,List.length_map]
  simp
mutual
def shpD:(x:Ex)→Decidable (shp x)
  | .mk o n u m l=>by
    unfold shp
    exact @instDecidableAnd _ _ inferInstance (shpLD l)
def shpLD:(l:List Ex)→Decidable (shpL l)
  | []=>by unfold shpL;infer_instance
  | x :: l=>by
    unfold shpL
    exact @instDecidableAnd _ _ (shpD x) (shpLD l)
end
instance (x : Ex) : Decidable (shp x) := shpD x
mutual
def sm:Ex→Prop
  | .mk _ _ u m l=>(u.size≤9223372036854775807∧m.size≤9223372036854775807)∧smL l
def smL:List Ex→Prop
  | []=>True
  | x :: l=>sm x∧smL l
end
theorem smL_iff:∀ {l:List Ex},smL l↔∀ y ∈ l,sm y
  | []=>by simp [smL]
  | x :: l=>by unfold smL;rw [smL_iff];simp
theorem sm_iff (x:DExpr):sm (er x)↔(x.Unit.size≤9223372036854775807∧x.Name.size≤9223372036854775807)∧∀ y ∈ x.Args.l,sm (er y):=by
  obtain ⟨o,n,u,m,⟨l,s⟩⟩:=x
  rw [er_mk,sm,smL_iff]
  simp
mutual
def cnt:Ex→Int→Int→Bool × Int
  | .mk _ _ _ _ l,v,n=>if 200 < n+1∨20 < v then (false,n+1) else cntL l (v+1) (n+1)
def cntL:List Ex→Int→Int→Bool × Int
  | [],_,n=>(true,n)
  | x :: l,v,n=>if (cnt x v n).1=true then cntL l v (cnt x v n).2 else (false,(cnt x v n).2)
end
theorem cnt_er (x:DExpr) (v n:Int):cnt (er x) v n=if 200 < n+1∨20 < v then (false,n+1) else cntL (x.Args.l.map er) (v+1) (n+1):=by
  obtain ⟨o,m,u,k,⟨l,s⟩⟩:=x
  rw [er_mk,cnt]
mutual
theorem cnt_rng:∀ (x:Ex) (v n:Int),n≤(cnt x v n).2∧(cnt x v n).2≤max n 200+1∧((cnt x v n).1=true→(cnt x v n).2≤200)
  | .mk _ _ _ _ l,v,n=>by
    rw [cnt]
    split
    · exact ⟨by show n≤n+1;omega,by show n+1≤_;omega,fun h=>by cases h⟩
    · rename_i h
      have:=cntL_rng l (v+1) (n+1)
      exact ⟨by omega,by omega,fun h=>by have:=this.2.2 h;omega⟩
theorem cntL_rng:∀ (l:List Ex) (v n:Int),n≤(cntL l v n).2∧(cntL l v n).2≤max n 200+1∧((cntL l v n).1=true→(cntL l v n).2≤max n 200)
  | [],v,n=>by rw [cntL];exact ⟨Int.le_refl _,by show n≤_;omega,fun _=>by show n≤_;omega⟩
  | x :: l,v,n=>by
    have h1:=cnt_rng x v n
    rw [cntL]
    split
    · rename_i h
      have h2:=cntL_rng l v (cnt x v n).2
      have h3:=h1.2.2 h
      exact ⟨by omega,by omega,fun k=>by have:=h2.2.2 k;omega⟩
    · exact ⟨h1.1,h1.2.1,fun k=>by cases k⟩
end
theorem cntL_step {l:List DExpr} {i v n:Int} {y:DExpr} (h0:0≤i) (hi:i < l.length) (hy:y=l.getD i.toNat default):cntL ((l.map er).drop i.toNat) v n=if (cnt (er y) v n).1=true then cntL ((l.map er).drop (i+1).toNat) v (cnt (er y) v n).2 else (false,(cnt (er y) v n).2):=by
  have hi':i.toNat < l.length:=by omega
  have e:l[i.toNat]=y:=by rw [hy,List.getD_eq_getElem?_getD,List.getElem?_eq_getElem hi'];rfl
  rw [List.drop_eq_getElem_cons (by simpa using hi'),List.getElem_map,e,cntL,show (i+1).toNat=i.toNat+1 by omega]
def rt (x:Ex):Prop:=(cnt x 1 0).1=true∧shp x
instance (x : Ex) : Decidable (rt x) := by unfold rt; infer_instance
end Fx

open Go Go.Proofs
set_option maxRecDepth 10000 in
theorem lltr_ct (c:Int) :
    Cp Tryz.prog 130 #[.int .u8 c] [] (bv (decide (Un.ltr c))):=by
  refine V.fo mo Tryz.func130 17 0 fun w H ε k0=>?_;clear k0
  refine V.g [.kb false] fun _ _ G1=>?_;intro S s
  refine nm (((decide (97≤c)) && (decide (c≤122))) || ((decide (65≤c)) && (decide (c≤90))):Bool) fun p1 hp1=>?_;refine V.gf [.u 5,.and g0 false (decide (97≤c)) (decide (c≤122)),.u 6,.and (gF (b:=(decide (97≤c)) && (decide (c≤122))) (iAF iDF iDF)) false (decide (65≤c)) (decide (c≤90)),.orn g0 false ((decide (97≤c)) && (decide (c≤122))) ((decide (65≤c)) && (decide (c≤90))) p1 hp1,.u 1] fun _ _ G2=>?_;intro S s
  have e0:p1=decide (Un.ltr c):=by
    refine Bool.eq_iff_iff.2 (Iff.trans (iN hp1 (iOT (iAT iDT iDT) (iAT iDT iDT))) (Iff.trans ?_ decide_eq_true_iff.symm));exact Iff.rfl
  exact V.rT [0] [] [] [] [] [] (cong1 (fun (xz0:Bool)=>(bv xz0:Value)) e0)
set_option maxRecDepth 10000 in
theorem ldgt_ct (c:Int) :
    Cp Tryz.prog 145 #[.int .u8 c] [] (bv (decide (Tb.dgt c))):=by
  refine V.fo mo Tryz.func145 9 0 fun w H ε k0=>?_;clear k0
  refine V.g [.kb false] fun _ _ G1=>?_;intro S s
  refine V.gf [.u 5,.and g0 false (decide (48≤c)) (decide (c≤57)),.u 1] fun _ _ G2=>?_;intro S s
  have e0:((decide (48≤c)) && (decide (c≤57)))=decide (Tb.dgt c):=by
    refine Bool.eq_iff_iff.2 (Iff.trans (iAT iDT iDT) (Iff.trans ?_ decide_eq_true_iff.symm));exact Iff.rfl
  exact V.rT [0] [] [] [] [] [] (cong1 (fun (xz0:Bool)=>(bv xz0:Value)) e0)
set_option maxRecDepth 10000 in
theorem linn_ct (c:Int) :
    Cp Tryz.prog 132 #[.int .u8 c] [] (bv (decide (Tb.inn c))):=by
  refine V.fo mo Tryz.func132 13 0 fun w H ε k0=>?_;clear k0
  refine V.g [.kb false] fun _ _ G1=>?_;intro S s
  refine nm (((decide (Un.ltr c)) || (decide (Tb.dgt c))) || (decide (c=95)):Bool) fun p1 hp1=>?_;refine V.gf [.u 1,.cP 1 130 [] fun G=>lltr_ct c,.u 2,.cp (gF (b:=decide (Un.ltr c)) iDF) 4 145 [] (fun hg G=>ldgt_ct c),.or g0 false (decide (Un.ltr c)) (decide (Tb.dgt c)),.u 3,.orn g0 false ((decide (Un.ltr c)) || (decide (Tb.dgt c))) (decide (c=95)) p1 hp1,.u 1] fun _ _ G2=>?_;intro S s
  have e0:p1=decide (Tb.inn c):=by
    refine Bool.eq_iff_iff.2 (Iff.trans (iN hp1 (iOT (iOT iDT iDT) iDT)) (Iff.trans ?_ decide_eq_true_iff.symm));exact Iff.rfl
  exact V.rT [0] [] [] [] [] [] (cong1 (fun (xz0:Bool)=>(bv xz0:Value)) e0)
set_option maxRecDepth 10000 in
theorem lpln_ct (c:Int) :
    Cp Tryz.prog 162 #[.int .u8 c] [] (bv (decide (Fx.pln c))):=by
  refine V.fo mo Tryz.func162 9 0 fun w H ε k0=>?_;clear k0
  refine V.g [.kb false] fun _ _ G1=>?_;intro S s
  refine V.gf [.u 5,.and g0 false (decide (32≤c)) (decide (c≤126)),.u 1] fun _ _ G2=>?_;intro S s
  have e0:((decide (32≤c)) && (decide (c≤126)))=decide (Fx.pln c):=by
    refine Bool.eq_iff_iff.2 (Iff.trans (iAT iDT iDT) (Iff.trans ?_ decide_eq_true_iff.symm));exact Iff.rfl
  exact V.rT [0] [] [] [] [] [] (cong1 (fun (xz0:Bool)=>(bv xz0:Value)) e0)
set_option maxRecDepth 10000 in
theorem lspan_ct (s:ByteArray) (hs:s.size≤9223372036854775807) :
    Cp Tryz.prog 131 #[tv s,.func (.func 132) #[] #[]] [] (iv (Tb.spn s:Int)):=by
  refine V.fo mo Tryz.func131 20 0 fun w H ε k0=>?_;clear k0
  refine V.gf [.u 1] fun _ _ G1=>?_;intro S_ s_
  refine V.gf [.u 1] fun _ _ G2=>?_;intro S_ s_
  refine V.lp (γ:=Int) (fun n=>⟨[(0,tv s),(1,.func (.func 132) #[] #[]),(5,iv n)],[],[]⟩) (fun n=>(0≤n)∧(n≤(s.size:Int))∧(∀ j,j < n.toNat→Tb.inn (((bl s).getD j default).toNat:Int))) (fun n=>((s.size:Int)-n).toNat) 0 [] ?_ ?_
  · refine ⟨?_,?_,?_⟩
    · show 0≤(0:Int);omega
    · show (0:Int)≤(s.size:Int);omega
    show ∀ j,j < (0:Int).toNat→Tb.inn (((bl s).getD j default).toNat:Int);intro j hj;simp at hj
  rintro n hF1 kw3 Z1 hZ1;have hF1:(0≤n)∧(n≤(s.size:Int))∧(∀ j,j < n.toNat→Tb.inn (((bl s).getD j default).toNat:Int)):=hF1;obtain ⟨hf1,hf2,hf3⟩:=hF1;clear kw3;refine nm ((bl s).getD n.toNat default:UInt8) fun c1 hc1=>?_;refine nm ((decide (n < (s.size:Int))) && (decide (Tb.inn (c1.toNat:Int))):Bool) fun p1 hp1=>?_;refine V.gf [.u 8,.sid (gT (b:=decide (n < (s.size:Int))) iDT) s n c1 hc1 (fun hg=>⟨by omega,by omega⟩),.cp (gT (b:=decide (n < (s.size:Int))) iDT) 9 132 [] (fun hg G=>linn_ct (c1.toNat:Int)),.andn g0 false (decide (n < (s.size:Int))) (decide (Tb.inn (c1.toNat:Int))) p1 hp1] fun _ _ G3=>?_;intro S_ s_;refine V.cn (b:=p1) (iN hp1 (iAT iDT iDT)) (iN hp1 (iAF iDF iDF)) (fun q1=>?_) (fun q2=>?_)
  · refine V.gf [.u 1,.aa (n+1),.u 1] fun _ _ G4=>?_;intro S_ s_
    refine V.rn hZ1 (n+1) [] ?_ ?_
    · refine ⟨?_,?_,?_⟩
      · show 0≤(n+1);omega
      · show (n+1)≤(s.size:Int);omega
      show ∀ j,j < (n+1).toNat→Tb.inn (((bl s).getD j default).toNat:Int);intro j hj;by_cases e:j < n.toNat
      · exact hf3 j e
      rw [show j=n.toNat by omega,← hc1];exact (q1).2
    show ((s.size:Int)-(n+1)).toNat < ((s.size:Int)-n).toNat;omega
  refine V.gf [.u 2] fun _ _ G5=>?_;intro S_ s_
  have e0:n=(Tb.spn s:Int):=by rw [Tb.spn_at (s:=s) (n:=n.toNat) (by omega) hf3 (by have hqq:=q2;rcases hqq with h | h;exact .inl (by omega);right;rw [hc1] at h;exact h)];omega
  exact V.rT [0] [] [] [] [] [] (cong1 (fun (xz0:Int)=>(iv xz0:Value)) e0)
theorem lspan_ctv (s:ByteArray) (hs:s.size≤9223372036854775807) (rv0:Int) (erv0:rv0=(Tb.spn s:Int)) :
    Cp Tryz.prog 131 #[tv s,.func (.func 132) #[] #[]] [] (iv rv0):=by
  subst erv0;exact lspan_ct s hs
set_option maxRecDepth 10000 in
theorem lspanp_ct (s:ByteArray) (hs:s.size≤9223372036854775807) :
    Cp Tryz.prog 131 #[tv s,.func (.func 162) #[] #[]] [] (iv (Fx.plS s:Int)):=by
  refine V.fo mo Tryz.func131 20 0 fun w H ε k0=>?_;clear k0
  refine V.gf [.u 1] fun _ _ G1=>?_;intro S_ s_
  refine V.gf [.u 1] fun _ _ G2=>?_;intro S_ s_
  refine V.lp (γ:=Int) (fun n=>⟨[(0,tv s),(1,.func (.func 162) #[] #[]),(5,iv n)],[],[]⟩) (fun n=>(0≤n)∧(n≤(s.size:Int))∧(∀ j,j < n.toNat→Fx.pln (((bl s).getD j default).toNat:Int))) (fun n=>((s.size:Int)-n).toNat) 0 [] ?_ ?_
  · refine ⟨?_,?_,?_⟩
    · show 0≤(0:Int);omega
    · show (0:Int)≤(s.size:Int);omega
    show ∀ j,j < (0:Int).toNat→Fx.pln (((bl s).getD j default).toNat:Int);intro j hj;simp at hj
  rintro n hF1 kw3 Z1 hZ1;have hF1:(0≤n)∧(n≤(s.size:Int))∧(∀ j,j < n.toNat→Fx.pln (((bl s).getD j default).toNat:Int)):=hF1;obtain ⟨hf1,hf2,hf3⟩:=hF1;clear kw3;refine nm ((bl s).getD n.toNat default:UInt8) fun c1 hc1=>?_;refine nm ((decide (n < (s.size:Int))) && (decide (Fx.pln (c1.toNat:Int))):Bool) fun p1 hp1=>?_;refine V.gf [.u 8,.sid (gT (b:=decide (n < (s.size:Int))) iDT) s n c1 hc1 (fun hg=>⟨by omega,by omega⟩),.cp (gT (b:=decide (n < (s.size:Int))) iDT) 9 162 [] (fun hg G=>lpln_ct (c1.toNat:Int)),.andn g0 false (decide (n < (s.size:Int))) (decide (Fx.pln (c1.toNat:Int))) p1 hp1] fun _ _ G3=>?_;intro S_ s_;refine V.cn (b:=p1) (iN hp1 (iAT iDT iDT)) (iN hp1 (iAF iDF iDF)) (fun q1=>?_) (fun q2=>?_)
  · refine V.gf [.u 1,.aa (n+1),.u 1] fun _ _ G4=>?_;intro S_ s_
    refine V.rn hZ1 (n+1) [] ?_ ?_
    · refine ⟨?_,?_,?_⟩
      · show 0≤(n+1);omega
      · show (n+1)≤(s.size:Int);omega
      show ∀ j,j < (n+1).toNat→Fx.pln (((bl s).getD j default).toNat:Int);intro j hj;by_cases e:j < n.toNat
      · exact hf3 j e
      rw [show j=n.toNat by omega,← hc1];exact (q1).2
    show ((s.size:Int)-(n+1)).toNat < ((s.size:Int)-n).toNat;omega
  refine V.gf [.u 2] fun _ _ G5=>?_;intro S_ s_
  have e0:n=(Fx.plS s:Int):=by rw [Fx.plS_at (s:=s) (n:=n.toNat) (by omega) hf3 (by have hqq:=q2;rcases hqq with h | h;exact .inl (by omega);right;rw [hc1] at h;exact h)];omega
  exact V.rT [0] [] [] [] [] [] (cong1 (fun (xz0:Int)=>(iv xz0:Value)) e0)
theorem lspanp_ctv (s:ByteArray) (hs:s.size≤9223372036854775807) (rv0:Int) (erv0:rv0=(Fx.plS s:Int)) :
    Cp Tryz.prog 131 #[tv s,.func (.func 162) #[] #[]] [] (iv rv0):=by
  subst erv0;exact lspanp_ct s hs
set_option maxRecDepth 10000 in
theorem lname_ct (s:ByteArray) (hs:s.size≤9223372036854775807) :
    Cp Tryz.prog 96 #[tv s] [] (bv (decide (Tb.Nm s))):=by
  refine V.fo mo Tryz.func96 22 0 fun w H ε k0=>?_;clear k0
  refine V.g [.kb false] fun _ _ G1=>?_;intro S_ s_
  refine nm ((bl s).getD (0:Int).toNat default:UInt8) fun c1 hc1=>?_;refine nm ((!(decide (s=ByteArray.empty))) && (decide (Un.ltr (c1.toNat:Int))):Bool) fun p1 hp1=>?_;refine nm ((Tb.spn s:Int):Int) fun n1 hn1=>?_;refine nm ((p1 && (decide ((s.size:Int)≤20))) && (decide (n1=(s.size:Int))):Bool) fun p2 hp2=>?_;refine V.gf [.u 1,.sne s ByteArray.empty,.u 2,.sid (gT (b:=!(decide (s=ByteArray.empty))) (iNT iDF)) s (0:Int) c1 hc1 (fun hg=>⟨by omega,by have:=Dm.size_ne hg;omega⟩),.cp (gT (b:=!(decide (s=ByteArray.empty))) (iNT iDF)) 5 130 [] (fun hg G=>lltr_ct (c1.toNat:Int)),.andn g0 false (!(decide (s=ByteArray.empty))) (decide (Un.ltr (c1.toNat:Int))) p1 hp1,.u 4,.and g0 false p1 (decide ((s.size:Int)≤20)),.u 2,.cp (gT (b:=p1 && (decide ((s.size:Int)≤20))) (iAT (iN hp1 (iAT (iNT iDF) iDT)) iDT)) 14 131 [] (fun hg G=>lspan_ctv s (by omega) n1 hn1),.u 3,.andn g0 false (p1 && (decide ((s.size:Int)≤20))) (decide (n1=(s.size:Int))) p2 hp2,.u 1] fun _ _ G2=>?_;intro S_ s_
  have e0:p2=decide (Tb.Nm s):=by
    refine Bool.eq_iff_iff.2 (Iff.trans (iN hp2 (iAT (iAT (iN hp1 (iAT (iNT iDF) iDT)) iDT) iDT)) (Iff.trans ?_ decide_eq_true_iff.symm));rw [hc1,hn1];exact Iff.rfl
  exact V.rT [0] [] [] [] [] [] (cong1 (fun (xz0:Bool)=>(bv xz0:Value)) e0)
set_option maxRecDepth 10000 in
theorem lesc_ct (s:ByteArray) (hs:s.size≤400) :
    Cp Tryz.prog 163 #[tv s] [] (tv (Fx.esc s)):=by
  refine V.fo mo Tryz.func163 29 2 fun w H ε k0=>?_;clear k0
  refine V.gf [.u 1] fun _ _ G1=>?_;intro S_ s_
  refine V.gf [.n 0] fun _ _ G2=>?_;intro S_ s_
  refine V.on (α:=UInt8) 1 5 (by kernel_rfl) ?_;refine V.g [.cB 0 165 false [0,1] [] [] fun G=>bwf_ct ((G2 0).b) ([]:List UInt8) ({}) (34:UInt8) (by first | omega | (simp only [List.length_append,List.length_cons,List.length_nil,List.length_replicate,List.length_set,List.length_take,List.length_drop,List.length_map,List.length_reverse,List.length_range];omega))] fun _ _ G3=>?_;intro S_ s_
  refine V.gf [.u 3] fun _ _ G4=>?_;intro S_ s_
  refine V.lp (γ:=Int × List UInt8 × SV) (fun ⟨k0,b_1,b_1s⟩=>⟨[(0,tv s),(3,pp ((G2 0).b) 0),(7,iv (s.size:Int)),(8,iv k0)],[],[.blk ((G2 0).b) #[pp ((G2 0).b) 0,b_1s.v] 245,os true 5 b_1 b_1s]⟩) (fun ⟨k0,b_1,b_1s⟩=>(0≤k0)∧(k0≤(s.size:Int))∧(b_1=Fx.escL ((bl s).take k0.toNat))) (fun ⟨k0,b_1,b_1s⟩=>((s.size:Int)-k0).toNat) (0,([]:List UInt8) ++[(34:UInt8)],(G3 0).ss 0) [] ?_ ?_
  · refine ⟨?_,?_,?_⟩
    · show 0≤(0:Int)
      first | omega | rfl | (simp;done) | (subst_vars;simp;done)
    · show (0:Int)≤(s.size:Int)
      first | omega | rfl | (simp;done) | (subst_vars;simp;done)
    show (([]:List UInt8) ++[(34:UInt8)])=Fx.escL ((bl s).take (0:Int).toNat);rfl
  rintro ⟨k0,b_1,b_1s⟩ hF1 kw5 Z1 hZ1;have hF1:(0≤k0)∧(k0≤(s.size:Int))∧(b_1=Fx.escL ((bl s).take k0.toNat)):=hF1;obtain ⟨hf1,hf2,hf3⟩:=hF1;have hbf:=congrArg List.length hf3;have hbe:=Fx.escL_len ((bl s).take k0.toNat);rw [List.length_take,bl_len] at hbe;refine V.gf [.u 1] fun _ _ G5=>?_;intro S_ s_;refine V.cn (b:=decide (k0 < (s.size:Int))) iDT iDF (fun q1=>?_) (fun q2=>?_)
  · refine V.gf [.u 2] fun _ _ G6=>?_;intro S_ s_
    refine nm ((bl s).getD k0.toNat default:UInt8) fun c1 hc1=>?_;refine nm ((decide ((c1.toNat:Int)=34)) || (decide ((c1.toNat:Int)=92)):Bool) fun p1 hp1=>?_;refine V.gf [.u 2,.sid g0 s k0 c1 hc1 (fun _=>⟨by omega,by omega⟩),.u 4,.sid (gF (b:=decide ((c1.toNat:Int)=34)) iDF) s k0 c1 hc1 (fun hg=>⟨by omega,by omega⟩),.u 1,.orn g0 false (decide ((c1.toNat:Int)=34)) (decide ((c1.toNat:Int)=92)) p1 hp1] fun _ _ G7=>?_;intro S_ s_
    refine V.cn (b:=p1) (iN hp1 (iOT iDT iDT)) (iN hp1 (iOF iDF iDF)) (fun q3=>?_) (fun q4=>?_)
    · refine V.g [.cB 0 165 false [0,1] [] [] fun G=>bwu_ct ((G2 0).b) b_1 b_1s (92:UInt8) (by first | omega | (simp only [List.length_append,List.length_cons,List.length_nil,List.length_replicate,List.length_set,List.length_take,List.length_drop,List.length_map,List.length_reverse,List.length_range];omega))] fun _ _ G8=>?_;intro S_ s_
      refine V.gf [.u 2,.sid g0 s k0 c1 hc1 (fun _=>⟨by omega,by omega⟩),.cB 3 165 false [0,1] [] [] fun G=>bwu_ct ((G2 0).b) (b_1 ++[(92:UInt8)]) ((G8 0).ss 0) c1 (by first | omega | (simp only [List.length_append,List.length_cons,List.length_nil,List.length_replicate,List.length_set,List.length_take,List.length_drop,List.length_map,List.length_reverse,List.length_range];omega))] fun _ _ G9=>?_;intro S_ s_
      refine V.gf [.aa (k0+1),.u 1] fun _ _ G10=>?_;intro S_ s_
      refine V.rn hZ1 (k0+1,(b_1 ++[(92:UInt8)]) ++[c1],(G9 3).ss 0) [] ?_ ?_
      · refine ⟨?_,?_,?_⟩
        · show 0≤(k0+1);omega
        · show (k0+1)≤(s.size:Int);omega
        show ((b_1 ++[(92:UInt8)]) ++[c1])=Fx.escL ((bl s).take (k0+1).toNat);rw [Fx.escL_step (by omega) (by rw [bl_len];omega) hc1,← hf3];unfold Fx.esc1;rw [if_pos (by have hqq:=q3;omega)];try simp
      show ((s.size:Int)-(k0+1)).toNat < ((s.size:Int)-k0).toNat;omega
    refine V.gf [.u 2,.sid g0 s k0 c1 hc1 (fun _=>⟨by omega,by omega⟩),.cB 3 165 false [0,1] [] [] fun G=>bwu_ct ((G2 0).b) b_1 b_1s c1 (by first | omega | (simp only [List.length_append,List.length_cons,List.length_nil,List.length_replicate,List.length_set,List.length_take,List.length_drop,List.length_map,List.length_reverse,List.length_range];omega))] fun _ _ G11=>?_;intro S_ s_
    refine V.gf [.aa (k0+1),.u 1] fun _ _ G12=>?_;intro S_ s_
    refine V.rn hZ1 (k0+1,b_1 ++[c1],(G11 3).ss 0) [] ?_ ?_
    · refine ⟨?_,?_,?_⟩
      · show 0≤(k0+1);omega
      · show (k0+1)≤(s.size:Int);omega
      show (b_1 ++[c1])=Fx.escL ((bl s).take (k0+1).toNat);rw [Fx.escL_step (by omega) (by rw [bl_len];omega) hc1,← hf3];unfold Fx.esc1;rw [if_neg (by have hqq:=q4;omega)];try simp
    show ((s.size:Int)-(k0+1)).toNat < ((s.size:Int)-k0).toNat;omega
  refine V.g [.cB 0 165 false [0,1] [] [] fun G=>bwu_ct ((G2 0).b) b_1 b_1s (34:UInt8) (by first | omega | (simp only [List.length_append,List.length_cons,List.length_nil,List.length_replicate,List.length_set,List.length_take,List.length_drop,List.length_map,List.length_reverse,List.length_range];omega))] fun _ _ G13=>?_;intro S_ s_
  refine V.gf [.cB 0 166 false [0,1] [] [] fun G=>bstru_ct ((G2 0).b) (b_1 ++[(34:UInt8)]) ((G13 0).ss 0) (by simp),.u 1] fun _ _ G14=>?_;intro S_ s_
  have e0:⟨((b_1 ++[(34:UInt8)])).toArray⟩=Fx.esc s:=by unfold Fx.esc;rw [hf3,List.take_of_length_le (by rw [bl_len];omega)]
  exact V.rT [0] [] [] [] [] [] (cong1 (fun (xz0:ByteArray)=>(tv xz0:Value)) e0)
theorem lesc_ctv (s:ByteArray) (hs:s.size≤400) (rv0:ByteArray) (erv0:rv0=Fx.esc s) :
    Cp Tryz.prog 163 #[tv s] [] (tv rv0):=by
  subst erv0;exact lesc_ct s hs
set_option maxRecDepth 10000 in
theorem lquo_ct (s:ByteArray) (hs:s.size≤9223372036854775807) :
    Cp Tryz.prog 155 #[tv s] [] (.tuple #[tv (Fx.quo s),bv (decide (Fx.Qt s))]):=by
  refine V.fo mo Tryz.func155 16 0 fun w H ε k0=>?_;clear k0
  refine V.gf [.u 1,.kb false] fun _ _ G1=>?_;intro S_ s_
  refine nm ((Fx.plS s:Int):Int) fun n1 hn1=>?_;refine nm ((decide (400 < (s.size:Int))) || (!(decide (n1=(s.size:Int)))):Bool) fun p1 hp1=>?_;refine V.gf [.u 5,.cp (gF (b:=decide (400 < (s.size:Int))) iDF) 5 131 [] (fun hg G=>lspanp_ctv s (by omega) n1 hn1),.u 3,.orn g0 false (decide (400 < (s.size:Int))) (!(decide (n1=(s.size:Int)))) p1 hp1] fun _ _ G2=>?_;intro S_ s_
  refine V.cn (b:=p1) (iN hp1 (iOT iDT (iNT iDF))) (iN hp1 (iOF iDF (iNF iDT))) (fun q1=>?_) (fun q2=>?_)
  · refine V.gf [.u 1,.kb false] fun _ _ G3=>?_;intro S_ s_
    have e0:ByteArray.empty=Fx.quo s:=by symm;unfold Fx.quo;rw [if_neg];intro h;have hqq:=q1;unfold Fx.Qt at h;rcases hqq with h1 | h1;omega;exact h1 (by rw [hn1];exact h.2)
    have e1:false=decide (Fx.Qt s):=by symm;rw [decide_eq_false_iff_not];intro h;have hqq:=q1;unfold Fx.Qt at h;rcases hqq with h1 | h1;omega;exact h1 (by rw [hn1];exact h.2)
    exact V.rT [0,0] [] [] [] [] [] (cong2 (fun (xz0:ByteArray) (xz1:Bool)=>(.tuple #[tv xz0,bv xz1]:Value)) e0 e1)
  have hQ:Fx.Qt s:=by have hqq:=q2;exact ⟨by omega,by rw [←hn1];first | exact hqq.2 | exact Decidable.not_not.1 hqq.2⟩
  refine nm (Fx.esc s:ByteArray) fun t1 ht1=>?_;refine V.gf [.u 1,.cP 1 163 [] fun G=>lesc_ctv s (by omega) t1 ht1,.u 1,.kb true] fun _ _ G4=>?_;intro S_ s_
  have e0:t1=Fx.quo s:=by
    rw [ht1];unfold Fx.quo;rw [if_pos hQ]
  have e1:true=decide (Fx.Qt s):=(decide_eq_true hQ).symm;exact V.rT [0,0] [] [] [] [] [] (cong2 (fun (xz0:ByteArray) (xz1:Bool)=>(.tuple #[tv xz0,bv xz1]:Value)) e0 e1)
theorem lquo_ctv (s:ByteArray) (hs:s.size≤9223372036854775807) (rv0:ByteArray) (erv0:rv0=Fx.quo s) :
    Cp Tryz.prog 155 #[tv s] [] (.tuple #[tv rv0,bv (decide (Fx.Qt s))]):=by
  subst erv0;exact lquo_ct s hs
set_option maxRecDepth 10000 in
theorem fword_ct (s:ByteArray) :
    Cp Tryz.prog 97 #[tv s] [] (bv (decide (Fx.isW s))):=by
  refine V.fo mo Tryz.func97 17 0 fun w H ε k0=>?_;clear k0
  refine V.g [.kb false] fun _ _ G1=>?_;intro S_ s_
  refine V.gf [.u 1] fun _ _ G2=>?_;intro S_ s_
  refine V.gf [.seq s ⟨#[110,111,116]⟩,.u 1] fun _ _ G3=>?_;intro S_ s_
  refine V.cn (b:=decide (s=⟨#[110,111,116]⟩)) iDT iDF (fun q1=>?_) (fun q2=>?_)
  · refine V.cn (b:=decide (s=⟨#[110,111,116]⟩)) iDT iDF (fun q3=>?_) (fun q4=>?_)
    · refine V.g [.kb true] fun _ _ G4=>?_;intro S_ s_
      have e0:true=decide (Fx.isW s):=by symm;rw [decide_eq_true_iff];unfold Fx.isW;have hqq:=q3;simp [hqq]
      exact V.rT [0] [] [] [] [] [] (cong1 (fun (xz0:Bool)=>(bv xz0:Value)) e0)
    refine V.g [.kb false] fun _ _ G5=>?_;intro S_ s_
    have e0:false=decide (Fx.isW s):=by symm;rw [decide_eq_false_iff_not];intro h;unfold Fx.isW at h;rcases h with h | h | h | h | h | h | h | h | h | h | h | h <;> contradiction
    exact V.rT [0] [] [] [] [] [] (cong1 (fun (xz0:Bool)=>(bv xz0:Value)) e0)
  refine V.gf [.seq s ⟨#[105,102]⟩,.u 1] fun _ _ G6=>?_;intro S_ s_
  refine V.cn (b:=decide (s=⟨#[105,102]⟩)) iDT iDF (fun q5=>?_) (fun q6=>?_)
  · refine V.cn (b:=decide (s=⟨#[105,102]⟩)) iDT iDF (fun q7=>?_) (fun q8=>?_)
    · refine V.g [.kb true] fun _ _ G7=>?_;intro S_ s_
      have e0:true=decide (Fx.isW s):=by symm;rw [decide_eq_true_iff];unfold Fx.isW;have hqq:=q7;simp [hqq]
      exact V.rT [0] [] [] [] [] [] (cong1 (fun (xz0:Bool)=>(bv xz0:Value)) e0)
    refine V.g [.kb false] fun _ _ G8=>?_;intro S_ s_
    have e0:false=decide (Fx.isW s):=by symm;rw [decide_eq_false_iff_not];intro h;unfold Fx.isW at h;rcases h with h | h | h | h | h | h | h | h | h | h | h | h <;> contradiction
    exact V.rT [0] [] [] [] [] [] (cong1 (fun (xz0:Bool)=>(bv xz0:Value)) e0)
  refine V.gf [.seq s ⟨#[116,104,101,110]⟩,.u 1] fun _ _ G9=>?_;intro S_ s_
  refine V.cn (b:=decide (s=⟨#[116,104,101,110]⟩)) iDT iDF (fun q9=>?_) (fun q10=>?_)
  · refine V.cn (b:=decide (s=⟨#[116,104,101,110]⟩)) iDT iDF (fun q11=>?_) (fun q12=>?_)
    · refine V.g [.kb true] fun _ _ G10=>?_;intro S_ s_
      have e0:true=decide (Fx.isW s):=by symm;rw [decide_eq_true_iff];unfold Fx.isW;have hqq:=q11;simp [hqq]
      exact V.rT [0] [] [] [] [] [] (cong1 (fun (xz0:Bool)=>(bv xz0:Value)) e0)
    refine V.g [.kb false] fun _ _ G11=>?_;intro S_ s_
    have e0:false=decide (Fx.isW s):=by symm;rw [decide_eq_false_iff_not];intro h;unfold Fx.isW at h;rcases h with h | h | h | h | h | h | h | h | h | h | h | h <;> contradiction
    exact V.rT [0] [] [] [] [] [] (cong1 (fun (xz0:Bool)=>(bv xz0:Value)) e0)
  refine V.gf [.seq s ⟨#[101,108,115,101]⟩,.u 1] fun _ _ G12=>?_;intro S_ s_
  refine V.cn (b:=decide (s=⟨#[101,108,115,101]⟩)) iDT iDF (fun q13=>?_) (fun q14=>?_)
  · refine V.cn (b:=decide (s=⟨#[101,108,115,101]⟩)) iDT iDF (fun q15=>?_) (fun q16=>?_)
    · refine V.g [.kb true] fun _ _ G13=>?_;intro S_ s_
      have e0:true=decide (Fx.isW s):=by symm;rw [decide_eq_true_iff];unfold Fx.isW;have hqq:=q15;simp [hqq]
      exact V.rT [0] [] [] [] [] [] (cong1 (fun (xz0:Bool)=>(bv xz0:Value)) e0)
    refine V.g [.kb false] fun _ _ G14=>?_;intro S_ s_
    have e0:false=decide (Fx.isW s):=by symm;rw [decide_eq_false_iff_not];intro h;unfold Fx.isW at h;rcases h with h | h | h | h | h | h | h | h | h | h | h | h <;> contradiction
    exact V.rT [0] [] [] [] [] [] (cong1 (fun (xz0:Bool)=>(bv xz0:Value)) e0)
  refine V.gf [.seq s ⟨#[97,110,100]⟩,.u 1] fun _ _ G15=>?_;intro S_ s_
  refine V.cn (b:=decide (s=⟨#[97,110,100]⟩)) iDT iDF (fun q17=>?_) (fun q18=>?_)
  · refine V.cn (b:=decide (s=⟨#[97,110,100]⟩)) iDT iDF (fun q19=>?_) (fun q20=>?_)
    · refine V.g [.kb true] fun _ _ G16=>?_;intro S_ s_
      have e0:true=decide (Fx.isW s):=by symm;rw [decide_eq_true_iff];unfold Fx.isW;have hqq:=q19;simp [hqq]
      exact V.rT [0] [] [] [] [] [] (cong1 (fun (xz0:Bool)=>(bv xz0:Value)) e0)
    refine V.g [.kb false] fun _ _ G17=>?_;intro S_ s_
    have e0:false=decide (Fx.isW s):=by symm;rw [decide_eq_false_iff_not];intro h;unfold Fx.isW at h;rcases h with h | h | h | h | h | h | h | h | h | h | h | h <;> contradiction
    exact V.rT [0] [] [] [] [] [] (cong1 (fun (xz0:Bool)=>(bv xz0:Value)) e0)
  refine V.gf [.seq s ⟨#[111,114]⟩,.u 1] fun _ _ G18=>?_;intro S_ s_
  refine V.cn (b:=decide (s=⟨#[111,114]⟩)) iDT iDF (fun q21=>?_) (fun q22=>?_)
  · refine V.cn (b:=decide (s=⟨#[111,114]⟩)) iDT iDF (fun q23=>?_) (fun q24=>?_)
    · refine V.g [.kb true] fun _ _ G19=>?_;intro S_ s_
      have e0:true=decide (Fx.isW s):=by symm;rw [decide_eq_true_iff];unfold Fx.isW;have hqq:=q23;simp [hqq]
      exact V.rT [0] [] [] [] [] [] (cong1 (fun (xz0:Bool)=>(bv xz0:Value)) e0)
    refine V.g [.kb false] fun _ _ G20=>?_;intro S_ s_
    have e0:false=decide (Fx.isW s):=by symm;rw [decide_eq_false_iff_not];intro h;unfold Fx.isW at h;rcases h with h | h | h | h | h | h | h | h | h | h | h | h <;> contradiction
    exact V.rT [0] [] [] [] [] [] (cong1 (fun (xz0:Bool)=>(bv xz0:Value)) e0)
  refine V.gf [.seq s ⟨#[108,111,111,107]⟩,.u 1] fun _ _ G21=>?_;intro S_ s_
  refine V.cn (b:=decide (s=⟨#[108,111,111,107]⟩)) iDT iDF (fun q25=>?_) (fun q26=>?_)
  · refine V.cn (b:=decide (s=⟨#[108,111,111,107]⟩)) iDT iDF (fun q27=>?_) (fun q28=>?_)
    · refine V.g [.kb true] fun _ _ G22=>?_;intro S_ s_
      have e0:true=decide (Fx.isW s):=by symm;rw [decide_eq_true_iff];unfold Fx.isW;have hqq:=q27;simp [hqq]
      exact V.rT [0] [] [] [] [] [] (cong1 (fun (xz0:Bool)=>(bv xz0:Value)) e0)
    refine V.g [.kb false] fun _ _ G23=>?_;intro S_ s_
    have e0:false=decide (Fx.isW s):=by symm;rw [decide_eq_false_iff_not];intro h;unfold Fx.isW at h;rcases h with h | h | h | h | h | h | h | h | h | h | h | h <;> contradiction
    exact V.rT [0] [] [] [] [] [] (cong1 (fun (xz0:Bool)=>(bv xz0:Value)) e0)
  refine V.gf [.seq s ⟨#[109,105,110]⟩,.u 1] fun _ _ G24=>?_;intro S_ s_
  refine V.cn (b:=decide (s=⟨#[109,105,110]⟩)) iDT iDF (fun q29=>?_) (fun q30=>?_)
  · refine V.cn (b:=decide (s=⟨#[109,105,110]⟩)) iDT iDF (fun q31=>?_) (fun q32=>?_)
    · refine V.g [.kb true] fun _ _ G25=>?_;intro S_ s_
      have e0:true=decide (Fx.isW s):=by symm;rw [decide_eq_true_iff];unfold Fx.isW;have hqq:=q31;simp [hqq]
      exact V.rT [0] [] [] [] [] [] (cong1 (fun (xz0:Bool)=>(bv xz0:Value)) e0)
    refine V.g [.kb false] fun _ _ G26=>?_;intro S_ s_
    have e0:false=decide (Fx.isW s):=by symm;rw [decide_eq_false_iff_not];intro h;unfold Fx.isW at h;rcases h with h | h | h | h | h | h | h | h | h | h | h | h <;> contradiction
    exact V.rT [0] [] [] [] [] [] (cong1 (fun (xz0:Bool)=>(bv xz0:Value)) e0)
  refine V.gf [.seq s ⟨#[109,97,120]⟩,.u 1] fun _ _ G27=>?_;intro S_ s_
  refine V.cn (b:=decide (s=⟨#[109,97,120]⟩)) iDT iDF (fun q33=>?_) (fun q34=>?_)
  · refine V.cn (b:=decide (s=⟨#[109,97,120]⟩)) iDT iDF (fun q35=>?_) (fun q36=>?_)
    · refine V.g [.kb true] fun _ _ G28=>?_;intro S_ s_
      have e0:true=decide (Fx.isW s):=by symm;rw [decide_eq_true_iff];unfold Fx.isW;have hqq:=q35;simp [hqq]
      exact V.rT [0] [] [] [] [] [] (cong1 (fun (xz0:Bool)=>(bv xz0:Value)) e0)
    refine V.g [.kb false] fun _ _ G29=>?_;intro S_ s_
    have e0:false=decide (Fx.isW s):=by symm;rw [decide_eq_false_iff_not];intro h;unfold Fx.isW at h;rcases h with h | h | h | h | h | h | h | h | h | h | h | h <;> contradiction
    exact V.rT [0] [] [] [] [] [] (cong1 (fun (xz0:Bool)=>(bv xz0:Value)) e0)
  refine V.gf [.seq s ⟨#[105,110,116,111]⟩,.u 1] fun _ _ G30=>?_;intro S_ s_
  refine V.cn (b:=decide (s=⟨#[105,110,116,111]⟩)) iDT iDF (fun q37=>?_) (fun q38=>?_)
  · refine V.cn (b:=decide (s=⟨#[105,110,116,111]⟩)) iDT iDF (fun q39=>?_) (fun q40=>?_)
    · refine V.g [.kb true] fun _ _ G31=>?_;intro S_ s_
      have e0:true=decide (Fx.isW s):=by symm;rw [decide_eq_true_iff];unfold Fx.isW;have hqq:=q39;simp [hqq]
      exact V.rT [0] [] [] [] [] [] (cong1 (fun (xz0:Bool)=>(bv xz0:Value)) e0)
    refine V.g [.kb false] fun _ _ G32=>?_;intro S_ s_
    have e0:false=decide (Fx.isW s):=by symm;rw [decide_eq_false_iff_not];intro h;unfold Fx.isW at h;rcases h with h | h | h | h | h | h | h | h | h | h | h | h <;> contradiction
    exact V.rT [0] [] [] [] [] [] (cong1 (fun (xz0:Bool)=>(bv xz0:Value)) e0)
  refine V.gf [.seq s ⟨#[116,111]⟩,.u 1] fun _ _ G33=>?_;intro S_ s_
  refine V.cn (b:=decide (s=⟨#[116,111]⟩)) iDT iDF (fun q41=>?_) (fun q42=>?_)
  · refine V.cn (b:=decide (s=⟨#[116,111]⟩)) iDT iDF (fun q43=>?_) (fun q44=>?_)
    · refine V.g [.kb true] fun _ _ G34=>?_;intro S_ s_
      have e0:true=decide (Fx.isW s):=by symm;rw [decide_eq_true_iff];unfold Fx.isW;have hqq:=q43;simp [hqq]
      exact V.rT [0] [] [] [] [] [] (cong1 (fun (xz0:Bool)=>(bv xz0:Value)) e0)
    refine V.g [.kb false] fun _ _ G35=>?_;intro S_ s_
    have e0:false=decide (Fx.isW s):=by symm;rw [decide_eq_false_iff_not];intro h;unfold Fx.isW at h;rcases h with h | h | h | h | h | h | h | h | h | h | h | h <;> contradiction
    exact V.rT [0] [] [] [] [] [] (cong1 (fun (xz0:Bool)=>(bv xz0:Value)) e0)
  refine V.gf [.seq s ⟨#[97,115]⟩,.u 1] fun _ _ G36=>?_;intro S_ s_
  refine V.cn (b:=decide (s=⟨#[97,115]⟩)) iDT iDF (fun q45=>?_) (fun q46=>?_)
  · refine V.g [.kb true] fun _ _ G37=>?_;intro S_ s_
    have e0:true=decide (Fx.isW s):=by symm;rw [decide_eq_true_iff];unfold Fx.isW;have hqq:=q45;simp [hqq]
    exact V.rT [0] [] [] [] [] [] (cong1 (fun (xz0:Bool)=>(bv xz0:Value)) e0)
  refine V.g [.kb false] fun _ _ G38=>?_;intro S_ s_
  have e0:false=decide (Fx.isW s):=by symm;rw [decide_eq_false_iff_not];intro h;unfold Fx.isW at h;rcases h with h | h | h | h | h | h | h | h | h | h | h | h <;> contradiction
  exact V.rT [0] [] [] [] [] [] (cong1 (fun (xz0:Bool)=>(bv xz0:Value)) e0)

open Go Go.Proofs
set_option maxRecDepth 10000 in
theorem fnam_ct (s:ByteArray) (hs:s.size≤9223372036854775807) :
    Cp Tryz.prog 156 #[tv s] [] (bv (decide (Fx.fre s))):=by
  refine V.fo mo Tryz.func156 10 0 fun w H ε k0=>?_;clear k0
  refine V.g [.kb false] fun _ _ G1=>?_;intro S_ s_
  refine V.gf [.u 1,.cP 1 96 [] fun G=>lname_ct s (by omega),.u 2,.cp (gT (b:=decide (Tb.Nm s)) iDT) 4 97 [] (fun hg G=>fword_ct s),.u 1,.and g0 false (decide (Tb.Nm s)) (!(decide (Fx.isW s))),.u 1] fun _ _ G2=>?_;intro S_ s_
  have e0:((decide (Tb.Nm s)) && (!(decide (Fx.isW s))))=decide (Fx.fre s):=by
    refine Bool.eq_iff_iff.2 (Iff.trans (iAT iDT (iNT iDF)) (Iff.trans ?_ decide_eq_true_iff.symm));exact Iff.rfl
  exact V.rT [0] [] [] [] [] [] (cong1 (fun (xz0:Bool)=>(bv xz0:Value)) e0)
set_option maxRecDepth 10000 in
theorem sfre_ct (s:ByteArray) (hs:s.size≤9223372036854775807) :
    Cp Tryz.prog 54 #[tv s] [] (bv (decide (Fx.fre s))):=by
  refine V.fo mo Tryz.func54 10 0 fun w H ε k0=>?_;clear k0
  refine V.g [.kb false] fun _ _ G1=>?_;intro S_ s_
  refine V.gf [.u 1,.cP 1 96 [] fun G=>lname_ct s (by omega),.u 2,.cp (gT (b:=decide (Tb.Nm s)) iDT) 4 97 [] (fun hg G=>fword_ct s),.u 1,.and g0 false (decide (Tb.Nm s)) (!(decide (Fx.isW s))),.u 1] fun _ _ G2=>?_;intro S_ s_
  have e0:((decide (Tb.Nm s)) && (!(decide (Fx.isW s))))=decide (Fx.fre s):=by
    refine Bool.eq_iff_iff.2 (Iff.trans (iAT iDT (iNT iDF)) (Iff.trans ?_ decide_eq_true_iff.symm));exact Iff.rfl
  exact V.rT [0] [] [] [] [] [] (cong1 (fun (xz0:Bool)=>(bv xz0:Value)) e0)
set_option maxRecDepth 10000 in
theorem foper_ct (op:Int) :
    Cp Tryz.prog 157 #[iv op] [] (.tuple #[tv (Fx.opT op),bv (decide (Fx.isO op))]):=by
  refine V.fo mo Tryz.func157 21 0 fun w H ε k0=>?_;clear k0
  refine V.gf [.u 1,.kb false] fun _ _ G1=>?_;intro S s
  refine V.gf [.u 1] fun _ _ G2=>?_;intro S s
  refine V.gf [.u 2] fun _ _ G3=>?_;intro S s
  refine V.cn (b:=decide (op=6)) iDT iDF (fun q1=>?_) (fun q2=>?_)
  · refine V.gf [.u 1,.kb true] fun _ _ G4=>?_;intro S s
    have e0:⟨#[43]⟩=Fx.opT op:=by unfold Fx.opT;simp_all
    have e1:true=decide (Fx.isO op):=by symm;first | (rw [decide_eq_true_iff];unfold Fx.isO;omega) | (rw [decide_eq_false_iff_not];unfold Fx.isO;omega)
    exact V.rT [0,0] [] [] [] [] [] (cong2 (fun (xz0:ByteArray) (xz1:Bool)=>(.tuple #[tv xz0,bv xz1]:Value)) e0 e1)
  refine V.gf [.u 2] fun _ _ G5=>?_;intro S s
  refine V.cn (b:=decide (op=7)) iDT iDF (fun q3=>?_) (fun q4=>?_)
  · refine V.gf [.u 1,.kb true] fun _ _ G6=>?_;intro S s
    have e0:⟨#[45]⟩=Fx.opT op:=by unfold Fx.opT;simp_all
    have e1:true=decide (Fx.isO op):=by symm;first | (rw [decide_eq_true_iff];unfold Fx.isO;omega) | (rw [decide_eq_false_iff_not];unfold Fx.isO;omega)
    exact V.rT [0,0] [] [] [] [] [] (cong2 (fun (xz0:ByteArray) (xz1:Bool)=>(.tuple #[tv xz0,bv xz1]:Value)) e0 e1)
  refine V.gf [.u 2] fun _ _ G7=>?_;intro S s
  refine V.cn (b:=decide (op=8)) iDT iDF (fun q5=>?_) (fun q6=>?_)
  · refine V.gf [.u 1,.kb true] fun _ _ G8=>?_;intro S s
    have e0:⟨#[42]⟩=Fx.opT op:=by unfold Fx.opT;simp_all
    have e1:true=decide (Fx.isO op):=by symm;first | (rw [decide_eq_true_iff];unfold Fx.isO;omega) | (rw [decide_eq_false_iff_not];unfold Fx.isO;omega)
    exact V.rT [0,0] [] [] [] [] [] (cong2 (fun (xz0:ByteArray) (xz1:Bool)=>(.tuple #[tv xz0,bv xz1]:Value)) e0 e1)
  refine V.gf [.u 2] fun _ _ G9=>?_;intro S s
  refine V.cn (b:=decide (op=9)) iDT iDF (fun q7=>?_) (fun q8=>?_)
  · refine V.gf [.u 1,.kb true] fun _ _ G10=>?_;intro S s
    have e0:⟨#[47]⟩=Fx.opT op:=by unfold Fx.opT;simp_all
    have e1:true=decide (Fx.isO op):=by symm;first | (rw [decide_eq_true_iff];unfold Fx.isO;omega) | (rw [decide_eq_false_iff_not];unfold Fx.isO;omega)
    exact V.rT [0,0] [] [] [] [] [] (cong2 (fun (xz0:ByteArray) (xz1:Bool)=>(.tuple #[tv xz0,bv xz1]:Value)) e0 e1)
  refine V.gf [.u 2] fun _ _ G11=>?_;intro S s
  refine V.cn (b:=decide (op=12)) iDT iDF (fun q9=>?_) (fun q10=>?_)
  · refine V.gf [.u 1,.kb true] fun _ _ G12=>?_;intro S s
    have e0:⟨#[60]⟩=Fx.opT op:=by unfold Fx.opT;simp_all
    have e1:true=decide (Fx.isO op):=by symm;first | (rw [decide_eq_true_iff];unfold Fx.isO;omega) | (rw [decide_eq_false_iff_not];unfold Fx.isO;omega)
    exact V.rT [0,0] [] [] [] [] [] (cong2 (fun (xz0:ByteArray) (xz1:Bool)=>(.tuple #[tv xz0,bv xz1]:Value)) e0 e1)
  refine V.gf [.u 2] fun _ _ G13=>?_;intro S s
  refine V.cn (b:=decide (op=13)) iDT iDF (fun q11=>?_) (fun q12=>?_)
  · refine V.gf [.u 1,.kb true] fun _ _ G14=>?_;intro S s
    have e0:⟨#[61]⟩=Fx.opT op:=by unfold Fx.opT;simp_all
    have e1:true=decide (Fx.isO op):=by symm;first | (rw [decide_eq_true_iff];unfold Fx.isO;omega) | (rw [decide_eq_false_iff_not];unfold Fx.isO;omega)
    exact V.rT [0,0] [] [] [] [] [] (cong2 (fun (xz0:ByteArray) (xz1:Bool)=>(.tuple #[tv xz0,bv xz1]:Value)) e0 e1)
  refine V.gf [.u 2] fun _ _ G15=>?_;intro S s
  refine V.cn (b:=decide (op=14)) iDT iDF (fun q13=>?_) (fun q14=>?_)
  · refine V.gf [.u 1,.kb true] fun _ _ G16=>?_;intro S s
    have e0:⟨#[97,110,100]⟩=Fx.opT op:=by unfold Fx.opT;simp_all
    have e1:true=decide (Fx.isO op):=by symm;first | (rw [decide_eq_true_iff];unfold Fx.isO;omega) | (rw [decide_eq_false_iff_not];unfold Fx.isO;omega)
    exact V.rT [0,0] [] [] [] [] [] (cong2 (fun (xz0:ByteArray) (xz1:Bool)=>(.tuple #[tv xz0,bv xz1]:Value)) e0 e1)
  refine V.gf [.u 2] fun _ _ G17=>?_;intro S s
  refine V.cn (b:=decide (op=15)) iDT iDF (fun q15=>?_) (fun q16=>?_)
  · refine V.gf [.u 1,.kb true] fun _ _ G18=>?_;intro S s
    have e0:⟨#[111,114]⟩=Fx.opT op:=by unfold Fx.opT;simp_all
    have e1:true=decide (Fx.isO op):=by symm;first | (rw [decide_eq_true_iff];unfold Fx.isO;omega) | (rw [decide_eq_false_iff_not];unfold Fx.isO;omega)
    exact V.rT [0,0] [] [] [] [] [] (cong2 (fun (xz0:ByteArray) (xz1:Bool)=>(.tuple #[tv xz0,bv xz1]:Value)) e0 e1)
  refine V.gf [.u 1,.kb false] fun _ _ G19=>?_;intro S s
  have e0:ByteArray.empty=Fx.opT op:=by unfold Fx.opT;simp_all
  have e1:false=decide (Fx.isO op):=by symm;first | (rw [decide_eq_true_iff];unfold Fx.isO;omega) | (rw [decide_eq_false_iff_not];unfold Fx.isO;omega)
  exact V.rT [0,0] [] [] [] [] [] (cong2 (fun (xz0:ByteArray) (xz1:Bool)=>(.tuple #[tv xz0,bv xz1]:Value)) e0 e1)
theorem foper_ctv (op:Int) (rv0:ByteArray) (erv0:rv0=Fx.opT op) :
    Cp Tryz.prog 157 #[iv op] [] (.tuple #[tv rv0,bv (decide (Fx.isO op))]):=by
  subst erv0;exact foper_ct op 
set_option maxRecDepth 10000 in
theorem fnode_ct (x:DExpr) (hu:x.Unit.size≤9223372036854775807) (hm:x.Name.size≤9223372036854775807) :
    Cp Tryz.prog 147 #[ag x] [fs true x.Args.l x.Args.s] (bv (decide (Fx.nodeP x.Op x.N x.Unit x.Name (x.Args.l.length:Int)))):=by
  refine V.fo mo Tryz.func147 125 1 fun w H ε k0=>?_;clear k0
  refine V.gf [.n 0,.kb false] fun _ _ G1=>?_;intro S_ s_
  refine V.gf [.u 1,.l 0,.ln (kF 0 x.Args.l x.Args.s),.u 1] fun _ _ G2=>?_;intro S_ s_
  refine V.gf [.u 1,.l 0,.u 1] fun _ _ G3=>?_;intro S_ s_
  refine V.cn (b:=decide (x.Op=0)) iDT iDF (fun q1=>?_) (fun q2=>?_)
  · refine nm (Fx.quo x.Unit:ByteArray) fun t1 ht1=>?_;refine V.gf [.u 1,.l 0,.cP 2 155 [] fun G=>lquo_ctv x.Unit (by omega) t1 ht1,.u 5] fun _ _ G4=>?_;intro S_ s_
    refine nm (((decide (Fx.Qt x.Unit)) && (decide (0≤x.N))) && (decide (x.N≤1099511627776)):Bool) fun p1 hp1=>?_;refine nm ((p1 && (decide (x.Name=ByteArray.empty))) && (decide ((x.Args.l.length:Int)=0)):Bool) fun p2 hp2=>?_;refine V.gf [.u 3,.l 0,.u 1,.and g0 false (decide (Fx.Qt x.Unit)) (decide (0≤x.N)),.u 2,.l 0,.u 1,.andn g0 false ((decide (Fx.Qt x.Unit)) && (decide (0≤x.N))) (decide (x.N≤1099511627776)) p1 hp1,.u 2,.l 0,.seq x.Name ByteArray.empty,.and g0 false p1 (decide (x.Name=ByteArray.empty)),.u 3,.andn g0 false (p1 && (decide (x.Name=ByteArray.empty))) (decide ((x.Args.l.length:Int)=0)) p2 hp2,.u 1] fun _ _ G5=>?_;intro S_ s_
    have e0:p2=decide (Fx.nodeP x.Op x.N x.Unit x.Name (x.Args.l.length:Int)):=by
      refine Bool.eq_iff_iff.2 (Iff.trans (iN hp2 (iAT (iAT (iN hp1 (iAT (iAT iDT iDT) iDT)) iDT) iDT)) (Iff.trans ?_ decide_eq_true_iff.symm));unfold Fx.nodeP
      grind
    exact V.rT [0] [] [] [] [] [] (cong1 (fun (xz0:Bool)=>(bv xz0:Value)) e0)
  refine nm ((!(decide (x.N=0))) || (!(decide (x.Unit=ByteArray.empty))):Bool) fun p3 hp3=>?_;refine V.gf [.u 1,.l 0,.u 3,.l 0,.sne x.Unit ByteArray.empty,.orn g0 false (!(decide (x.N=0))) (!(decide (x.Unit=ByteArray.empty))) p3 hp3] fun _ _ G6=>?_;intro S_ s_
  refine V.cn (b:=p3) (iN hp3 (iOT (iNT iDF) (iNT iDF))) (iN hp3 (iOF (iNF iDT) (iNF iDT))) (fun q3=>?_) (fun q4=>?_)
  · refine V.g [.kb false] fun _ _ G7=>?_;intro S_ s_
    have e0:false=decide (Fx.nodeP x.Op x.N x.Unit x.Name (x.Args.l.length:Int)):=by
      refine Bool.eq_iff_iff.2 (Iff.trans iFT (Iff.trans ?_ decide_eq_true_iff.symm));unfold Fx.nodeP
      grind
    exact V.rT [0] [] [] [] [] [] (cong1 (fun (xz0:Bool)=>(bv xz0:Value)) e0)
  refine V.gf [.u 1,.l 0] fun _ _ G8=>?_;intro S_ s_
  refine V.gf [.u 2] fun _ _ G9=>?_;intro S_ s_
  refine V.cn (b:=decide (x.Op=1)) iDT iDF (fun q5=>?_) (fun q6=>?_)
  · refine nm ((decide (Fx.fre x.Name)) && (decide ((x.Args.l.length:Int)=0)):Bool) fun p4 hp4=>?_;refine V.gf [.u 1,.l 0,.cP 2 156 [] fun G=>fnam_ct x.Name (by omega),.u 3,.andn g0 false (decide (Fx.fre x.Name)) (decide ((x.Args.l.length:Int)=0)) p4 hp4,.u 1] fun _ _ G10=>?_;intro S_ s_
    have e0:p4=decide (Fx.nodeP x.Op x.N x.Unit x.Name (x.Args.l.length:Int)):=by
      refine Bool.eq_iff_iff.2 (Iff.trans (iN hp4 (iAT iDT iDT)) (Iff.trans ?_ decide_eq_true_iff.symm));unfold Fx.nodeP
      grind
    exact V.rT [0] [] [] [] [] [] (cong1 (fun (xz0:Bool)=>(bv xz0:Value)) e0)
  refine V.gf [.u 2] fun _ _ G11=>?_;intro S_ s_
  refine V.cn (b:=decide (x.Op=2)) iDT iDF (fun q7=>?_) (fun q8=>?_)
  · refine nm ((decide (Fx.fre x.Name)) && (decide ((x.Args.l.length:Int)=1)):Bool) fun p5 hp5=>?_;refine V.gf [.u 1,.l 0,.cP 2 156 [] fun G=>fnam_ct x.Name (by omega),.u 3,.andn g0 false (decide (Fx.fre x.Name)) (decide ((x.Args.l.length:Int)=1)) p5 hp5,.u 1] fun _ _ G12=>?_;intro S_ s_
    have e0:p5=decide (Fx.nodeP x.Op x.N x.Unit x.Name (x.Args.l.length:Int)):=by
      refine Bool.eq_iff_iff.2 (Iff.trans (iN hp5 (iAT iDT iDT)) (Iff.trans ?_ decide_eq_true_iff.symm));unfold Fx.nodeP
      grind
    exact V.rT [0] [] [] [] [] [] (cong1 (fun (xz0:Bool)=>(bv xz0:Value)) e0)
  refine V.gf [.u 2] fun _ _ G13=>?_;intro S_ s_
  refine V.cn (b:=decide (x.Op=3)) iDT iDF (fun q9=>?_) (fun q10=>?_)
  · refine nm ((decide (Fx.fre x.Name)) && (decide (1≤(x.Args.l.length:Int))):Bool) fun p6 hp6=>?_;refine V.gf [.u 1,.l 0,.cP 2 156 [] fun G=>fnam_ct x.Name (by omega),.u 3,.andn g0 false (decide (Fx.fre x.Name)) (decide (1≤(x.Args.l.length:Int))) p6 hp6,.u 3,.and g0 false p6 (decide ((x.Args.l.length:Int)≤6)),.u 1] fun _ _ G14=>?_;intro S_ s_
    have e0:(p6 && (decide ((x.Args.l.length:Int)≤6)))=decide (Fx.nodeP x.Op x.N x.Unit x.Name (x.Args.l.length:Int)):=by
      refine Bool.eq_iff_iff.2 (Iff.trans (iAT (iN hp6 (iAT iDT iDT)) iDT) (Iff.trans ?_ decide_eq_true_iff.symm));unfold Fx.nodeP
      grind
    exact V.rT [0] [] [] [] [] [] (cong1 (fun (xz0:Bool)=>(bv xz0:Value)) e0)
  refine V.gf [.u 2] fun _ _ G15=>?_;intro S_ s_
  refine V.cn (b:=decide (x.Op=4)) iDT iDF (fun q11=>?_) (fun q12=>?_)
  · refine nm ((decide (x.Name=ByteArray.empty)) && (decide ((x.Args.l.length:Int)=1)):Bool) fun p7 hp7=>?_;refine V.gf [.u 1,.l 0,.seq x.Name ByteArray.empty,.u 3,.andn g0 false (decide (x.Name=ByteArray.empty)) (decide ((x.Args.l.length:Int)=1)) p7 hp7,.u 1] fun _ _ G16=>?_;intro S_ s_
    have e0:p7=decide (Fx.nodeP x.Op x.N x.Unit x.Name (x.Args.l.length:Int)):=by
      refine Bool.eq_iff_iff.2 (Iff.trans (iN hp7 (iAT iDT iDT)) (Iff.trans ?_ decide_eq_true_iff.symm));unfold Fx.nodeP
      grind
    exact V.rT [0] [] [] [] [] [] (cong1 (fun (xz0:Bool)=>(bv xz0:Value)) e0)
  refine V.gf [.u 2] fun _ _ G17=>?_;intro S_ s_
  refine V.cn (b:=decide (x.Op=5)) iDT iDF (fun q13=>?_) (fun q14=>?_)
  · refine nm ((decide (x.Name=ByteArray.empty)) && (decide ((x.Args.l.length:Int)=3)):Bool) fun p8 hp8=>?_;refine V.gf [.u 1,.l 0,.seq x.Name ByteArray.empty,.u 3,.andn g0 false (decide (x.Name=ByteArray.empty)) (decide ((x.Args.l.length:Int)=3)) p8 hp8,.u 1] fun _ _ G18=>?_;intro S_ s_
    have e0:p8=decide (Fx.nodeP x.Op x.N x.Unit x.Name (x.Args.l.length:Int)):=by
      refine Bool.eq_iff_iff.2 (Iff.trans (iN hp8 (iAT iDT iDT)) (Iff.trans ?_ decide_eq_true_iff.symm));unfold Fx.nodeP
      grind
    exact V.rT [0] [] [] [] [] [] (cong1 (fun (xz0:Bool)=>(bv xz0:Value)) e0)
  refine V.gf [.u 2] fun _ _ G19=>?_;intro S_ s_
  refine V.cn (b:=decide (x.Op=10)) iDT iDF (fun q15=>?_) (fun q16=>?_)
  · refine V.cn (b:=decide (x.Op=10)) iDT iDF (fun q17=>?_) (fun q18=>?_)
    · refine nm ((decide (x.Name=ByteArray.empty)) && (decide ((x.Args.l.length:Int)=2)):Bool) fun p9 hp9=>?_;refine V.gf [.u 1,.l 0,.seq x.Name ByteArray.empty,.u 3,.andn g0 false (decide (x.Name=ByteArray.empty)) (decide ((x.Args.l.length:Int)=2)) p9 hp9,.u 1] fun _ _ G20=>?_;intro S_ s_
      have e0:p9=decide (Fx.nodeP x.Op x.N x.Unit x.Name (x.Args.l.length:Int)):=by
        refine Bool.eq_iff_iff.2 (Iff.trans (iN hp9 (iAT iDT iDT)) (Iff.trans ?_ decide_eq_true_iff.symm));unfold Fx.nodeP
        grind
      exact V.rT [0] [] [] [] [] [] (cong1 (fun (xz0:Bool)=>(bv xz0:Value)) e0)
    refine nm (Fx.opT x.Op:ByteArray) fun t2 ht2=>?_;refine V.gf [.u 1,.l 0,.cP 2 157 [] fun G=>foper_ctv x.Op t2 ht2,.u 5] fun _ _ G21=>?_;intro S_ s_
    refine nm ((decide (Fx.isO x.Op)) && (decide (x.Name=ByteArray.empty)):Bool) fun p10 hp10=>?_;refine V.gf [.u 3,.l 0,.seq x.Name ByteArray.empty,.andn g0 false (decide (Fx.isO x.Op)) (decide (x.Name=ByteArray.empty)) p10 hp10,.u 3,.and g0 false p10 (decide ((x.Args.l.length:Int)=2)),.u 1] fun _ _ G22=>?_;intro S_ s_
    have e0:(p10 && (decide ((x.Args.l.length:Int)=2)))=decide (Fx.nodeP x.Op x.N x.Unit x.Name (x.Args.l.length:Int)):=by
      refine Bool.eq_iff_iff.2 (Iff.trans (iAT (iN hp10 (iAT iDT iDT)) iDT) (Iff.trans ?_ decide_eq_true_iff.symm));unfold Fx.nodeP
      grind
    exact V.rT [0] [] [] [] [] [] (cong1 (fun (xz0:Bool)=>(bv xz0:Value)) e0)
  refine V.gf [.u 2] fun _ _ G23=>?_;intro S_ s_
  refine V.cn (b:=decide (x.Op=11)) iDT iDF (fun q19=>?_) (fun q20=>?_)
  · refine nm ((decide (x.Name=ByteArray.empty)) && (decide ((x.Args.l.length:Int)=2)):Bool) fun p11 hp11=>?_;refine V.gf [.u 1,.l 0,.seq x.Name ByteArray.empty,.u 3,.andn g0 false (decide (x.Name=ByteArray.empty)) (decide ((x.Args.l.length:Int)=2)) p11 hp11,.u 1] fun _ _ G24=>?_;intro S_ s_
    have e0:p11=decide (Fx.nodeP x.Op x.N x.Unit x.Name (x.Args.l.length:Int)):=by
      refine Bool.eq_iff_iff.2 (Iff.trans (iN hp11 (iAT iDT iDT)) (Iff.trans ?_ decide_eq_true_iff.symm));unfold Fx.nodeP
      grind
    exact V.rT [0] [] [] [] [] [] (cong1 (fun (xz0:Bool)=>(bv xz0:Value)) e0)
  refine nm (Fx.opT x.Op:ByteArray) fun t3 ht3=>?_;refine V.gf [.u 1,.l 0,.cP 2 157 [] fun G=>foper_ctv x.Op t3 ht3,.u 5] fun _ _ G25=>?_;intro S_ s_
  refine nm ((decide (Fx.isO x.Op)) && (decide (x.Name=ByteArray.empty)):Bool) fun p12 hp12=>?_;refine V.gf [.u 3,.l 0,.seq x.Name ByteArray.empty,.andn g0 false (decide (Fx.isO x.Op)) (decide (x.Name=ByteArray.empty)) p12 hp12,.u 3,.and g0 false p12 (decide ((x.Args.l.length:Int)=2)),.u 1] fun _ _ G26=>?_;intro S_ s_
  have e0:(p12 && (decide ((x.Args.l.length:Int)=2)))=decide (Fx.nodeP x.Op x.N x.Unit x.Name (x.Args.l.length:Int)):=by
    refine Bool.eq_iff_iff.2 (Iff.trans (iAT (iN hp12 (iAT iDT iDT)) iDT) (Iff.trans ?_ decide_eq_true_iff.symm));unfold Fx.nodeP
    grind
  exact V.rT [0] [] [] [] [] [] (cong1 (fun (xz0:Bool)=>(bv xz0:Value)) e0)

open Go Go.Proofs
set_option maxRecDepth 10000 in
theorem fcnt_ct_n (m0:Nat):∀ (x:DExpr) (nodesb:Nat) (nodesl levels:Int) (hn:0≤nodesl∧nodesl≤200) (hv:0≤levels∧levels≤1000),Fx.sz (er x) < m0 →
    Ct Tryz.prog 135 #[ag x,pp nodesb 0,iv levels] [fs true x.Args.l x.Args.s] [.blk nodesb #[iv nodesl] 3] (fun g=>bv ((Fx.cnt (er x) levels nodesl).1)) (fun g=>[]) (fun g=>[.blk nodesb #[iv ((Fx.cnt (er x) levels nodesl).2)] 3]) (fun g=>[]):=by
  induction m0 with
  | zero=>intro _ _ _ _ _ _ hm;exact absurd hm (Nat.not_lt_zero _)
  | succ m0 ih =>
    intro x nodesb nodesl levels hn hv hm;refine V.fo mo Tryz.func135 36 2 fun w H ε k0=>?_;obtain ⟨⟨kl1, -⟩, -⟩:Lq x.Args.l x.Args.s.v∧True:=kq k0
    clear k0;refine V.gf [.n 1,.kb false] fun _ _ G1=>?_;intro S_ s_
    refine V.gf [.u 2,.l 0,.aa (nodesl+1),.u 1,.s 0] fun _ _ G2=>?_;intro S_ s_
    refine nm ((decide (200 < nodesl+1)) || (decide (20 < levels)):Bool) fun p1 hp1=>?_;refine V.gf [.u 2,.l 0,.u 4,.orn g0 false (decide (200 < nodesl+1)) (decide (20 < levels)) p1 hp1] fun _ _ G3=>?_;intro S_ s_
    refine V.cn (b:=p1) (iN hp1 (iOT iDT iDT)) (iN hp1 (iOF iDF iDF)) (fun q1=>?_) (fun q2=>?_)
    · refine V.g [.kb false] fun _ _ G4=>?_;intro S_ s_
      have e0:false=(Fx.cnt (er x) levels nodesl).1:=by rw [Fx.cnt_er x,if_pos (by omega)]
      have eC0_0:(nodesl+1)=(Fx.cnt (er x) levels nodesl).2:=by rw [Fx.cnt_er x,if_pos (by omega)]
      refine V.alt (fun (zz:Int)=>(⟨[(6,bv false)],[fs false x.Args.l x.Args.s],[.blk nodesb #[iv zz] 3,.blk ((G1 0).b) (ca x) 45,.no]⟩:St)) eC0_0 [0] (by kernel_rfl) ?_;exact V.rT [0] [] [] [] [] [0] (cong1 (fun (xz0:Bool)=>(bv xz0:Value)) e0)
    refine V.gf [.u 1,.l 1,.ln (kF 0 x.Args.l x.Args.s),.u 1] fun _ _ G5=>?_;intro S_ s_
    refine V.lp (γ:=Int × Int) (fun ⟨k0,nodes⟩=>⟨[(1,pp nodesb 0),(2,iv levels),(23,x.Args.s.v),(24,iv (x.Args.l.length:Int)),(25,iv k0)],[fs false x.Args.l x.Args.s],[.blk nodesb #[iv nodes] 3,.blk ((G1 0).b) (ca x) 45,.no]⟩) (fun ⟨k0,nodes⟩=>(0≤k0)∧(k0≤(x.Args.l.length:Int))∧(Fx.cntL (x.Args.l.map er) (levels+1) (nodesl+1)=Fx.cntL ((x.Args.l.map er).drop k0.toNat) (levels+1) nodes)∧(0≤nodes∧nodes≤200)) (fun ⟨k0,nodes⟩=>((x.Args.l.length:Int)-k0).toNat) (0,nodesl+1) [0] ?_ ?_
    · refine ⟨?_,?_,?_,?_⟩
      · show 0≤(0:Int)
        first | omega | rfl | (simp;done) | (subst_vars;simp;done)
      · show (0:Int)≤(x.Args.l.length:Int)
        first | omega | rfl | (simp;done) | (subst_vars;simp;done)
      · show Fx.cntL (x.Args.l.map er) (levels+1) (nodesl+1)=Fx.cntL ((x.Args.l.map er).drop (0:Int).toNat) (levels+1) (nodesl+1);rfl
      show 0≤(nodesl+1)∧(nodesl+1)≤200
      first | omega | rfl | (simp;done) | (subst_vars;simp;done)
    rintro ⟨k0,nodes⟩ hF1 kw6 Z1 hZ1;have hF1:(0≤k0)∧(k0≤(x.Args.l.length:Int))∧(Fx.cntL (x.Args.l.map er) (levels+1) (nodesl+1)=Fx.cntL ((x.Args.l.map er).drop k0.toNat) (levels+1) nodes)∧(0≤nodes∧nodes≤200):=hF1;obtain ⟨hf1,hf2,hf3,hf4⟩:=hF1;clear kw6;refine V.gf [.u 1] fun _ _ G6=>?_;intro S_ s_;refine V.cn (b:=decide (k0 < (x.Args.l.length:Int))) iDT iDF (fun q3=>?_) (fun q4=>?_)
    · refine nm (x.Args.l.getD k0.toNat default:DExpr) fun x1 hx1=>?_;refine V.gf [.iX (kF 0 x.Args.l x.Args.s) k0,.lE (kF 0 x.Args.l x.Args.s) k0 true x1 hx1 true,.n 2,.s 2] fun _ _ G7=>?_;intro S_ s_
      refine V.gf [.l 2,.u 2,.aa (levels+1),.cB 4 135 false [0] [] [(kx false (.f 1) x1 x1.Args.l (fun _=>x1.Args.s) (fun _ H (h:Dat.good H (x1:DExpr))=>(exG.1 h))).a] fun G=>ih x1 nodesb nodes (levels+1) (by omega) (by omega) (by have:=Fx.sz_arg (x:=x) (getD_mem (by omega) hx1);omega),.u 1] fun _ _ G8=>?_;intro S_ s_
      have hr7:=Fx.cnt_rng (er x1) (levels+1) nodes;have hs7:=Fx.cntL_step (v:=levels+1) (n:=nodes) (by omega) (by omega) hx1;refine V.cn (b:=!((Fx.cnt (er x1) (levels+1) nodes).1)) (iNT Iff.rfl) (iNF Iff.rfl) (fun q5=>?_) (fun q6=>?_)
      · refine V.g [.kb false] fun _ _ G9=>?_;intro S_ s_
        have e0:false=(Fx.cnt (er x) levels nodesl).1:=by rw [Fx.cnt_er x,if_neg (by omega),hf3,hs7,if_neg (by first | exact q5 | (intro h;rw [q5] at h;cases h))]
        have eC0_0:((Fx.cnt (er x1) (levels+1) nodes).2)=(Fx.cnt (er x) levels nodesl).2:=by rw [Fx.cnt_er x,if_neg (by omega),hf3,hs7,if_neg (by first | exact q5 | (intro h;rw [q5] at h;cases h))]
        refine V.alt (fun (zz:Int)=>(⟨[(6,bv false)],[fs false x.Args.l x.Args.s,gf false x1],[.blk nodesb #[iv zz] 3,.blk ((G1 0).b) (ca x) 45,.blk ((G7 2).b) (ca x1) 45]⟩:St)) eC0_0 [0,1] (by kernel_rfl) ?_;exact V.rT [0] [] [] [] [] [0] (cong1 (fun (xz0:Bool)=>(bv xz0:Value)) e0)
      refine V.gf [.aa (k0+1),.u 1] fun _ _ G10=>?_;intro S_ s_
      refine V.rn hZ1 (k0+1,(Fx.cnt (er x1) (levels+1) nodes).2) [0] ?_ ?_
      · refine ⟨?_,?_,?_,?_⟩
        · show 0≤(k0+1);omega
        · show (k0+1)≤(x.Args.l.length:Int);omega
        · show Fx.cntL (x.Args.l.map er) (levels+1) (nodesl+1)=Fx.cntL ((x.Args.l.map er).drop (k0+1).toNat) (levels+1) ((Fx.cnt (er x1) (levels+1) nodes).2);rw [hf3,hs7,if_pos (by first | exact q6 | exact Decidable.not_not.1 q6)]
        show 0≤((Fx.cnt (er x1) (levels+1) nodes).2)∧((Fx.cnt (er x1) (levels+1) nodes).2)≤200;have h8:=hr7.2.2 (by first | exact q6 | exact Decidable.not_not.1 q6);omega
      show ((x.Args.l.length:Int)-(k0+1)).toNat < ((x.Args.l.length:Int)-k0).toNat;omega
    refine V.g [.kb true] fun _ _ G11=>?_;intro S_ s_
    have e0:true=(Fx.cnt (er x) levels nodesl).1:=by rw [Fx.cnt_er x,if_neg (by omega),hf3,List.drop_eq_nil_of_le (by rw [List.length_map];omega)];rfl
    have eC0_0:nodes=(Fx.cnt (er x) levels nodesl).2:=by rw [Fx.cnt_er x,if_neg (by omega),hf3,List.drop_eq_nil_of_le (by rw [List.length_map];omega)];rfl
    refine V.alt (fun (zz:Int)=>(⟨[(6,bv true)],[fs false x.Args.l x.Args.s],[.blk nodesb #[iv zz] 3,.blk ((G1 0).b) (ca x) 45,.no]⟩:St)) eC0_0 [0] (by kernel_rfl) ?_;exact V.rT [0] [] [] [] [] [0] (cong1 (fun (xz0:Bool)=>(bv xz0:Value)) e0)
theorem fcnt_ct (x:DExpr) (nodesb:Nat) (nodesl levels:Int) (hn:0≤nodesl∧nodesl≤200) (hv:0≤levels∧levels≤1000) :
    Ct Tryz.prog 135 #[ag x,pp nodesb 0,iv levels] [fs true x.Args.l x.Args.s] [.blk nodesb #[iv nodesl] 3] (fun g=>bv ((Fx.cnt (er x) levels nodesl).1)) (fun g=>[]) (fun g=>[.blk nodesb #[iv ((Fx.cnt (er x) levels nodesl).2)] 3]) (fun g=>[]):=fcnt_ct_n (Fx.sz (er x)+1) x nodesb nodesl levels hn hv (Nat.lt_succ_self _)
set_option maxRecDepth 10000 in
theorem fshpc_ct (y:DExpr) (m0:Nat) (ih:∀ (x:DExpr) (hS:Fx.sm (er x)),Fx.sz (er x) < m0→Cp Tryz.prog 136 #[ag x] [fs true x.Args.l x.Args.s] (bv (decide (Fx.shp (er x))))) (hS:Fx.sm (er y)) (hm:Fx.sz (er y) < m0) :
    Cp Tryz.prog 146 #[ag y] [fs true y.Args.l y.Args.s] (bv (!decide (Fx.shp (er y)))):=by
  refine V.fo mo Tryz.func146 6 1 fun w H ε k0=>?_;clear k0
  refine V.gf [.n 0,.kb false] fun _ _ G1=>?_;intro S_ s_
  refine V.gf [.l 0,.cP 1 136 [kA 0 y.Args.l y.Args.s] fun G=>ih y (by assumption) (by omega),.u 2] fun _ _ G2=>?_;intro S_ s_
  have e0:(!(decide (Fx.shp (er y))))=!decide (Fx.shp (er y)):=by first | rfl | omega | simp_all
  exact V.rT [0] [] [] [] [] [] (cong1 (fun (xz0:Bool)=>(bv xz0:Value)) e0)
set_option maxRecDepth 10000 in
theorem fshpi_ct (s:List DExpr) (ss:SV) (m0:Nat) (ih:∀ (x:DExpr) (hS:Fx.sm (er x)),Fx.sz (er x) < m0→Cp Tryz.prog 136 #[ag x] [fs true x.Args.l x.Args.s] (bv (decide (Fx.shp (er x))))) (hS:∀ y ∈ s,Fx.sm (er y)) (hm:∀ y ∈ s,Fx.sz (er y) < m0) :
    Cp Tryz.prog 158 #[ss.v,.func (.func 146) #[] #[]] [fs true s ss] (iv (fidx (fun y:DExpr=>!decide (Fx.shp (er y))) s)):=by
  refine V.fo mo Tryz.func158 19 0 fun w H ε k0=>?_;obtain ⟨⟨kl1, -⟩, -⟩:Lq s ss.v∧True:=kq k0
  clear k0;refine V.gf [.u 1] fun _ _ G1=>?_;intro S_ s_
  refine V.gf [.u 1,.ln (kF 0 s ss),.u 1] fun _ _ G2=>?_;intro S_ s_
  refine V.lp (γ:=Int) (fun k0=>⟨[(0,ss.v),(1,.func (.func 146) #[] #[]),(7,iv (s.length:Int)),(8,iv k0)],[fs false s ss],[]⟩) (fun k0=>(0≤k0)∧(k0≤(s.length:Int))∧(∀ j,j < k0.toNat→(fun y:DExpr=>!decide (Fx.shp (er y))) (s.getD j default)=false)) (fun k0=>((s.length:Int)-k0).toNat) 0 [0] ?_ ?_
  · refine ⟨?_,?_,?_⟩
    · show 0≤(0:Int)
      first | omega | rfl | (simp;done) | (subst_vars;simp;done)
    · show (0:Int)≤(s.length:Int)
      first | omega | rfl | (simp;done) | (subst_vars;simp;done)
    show ∀ j,j < (0:Int).toNat→(fun y:DExpr=>!decide (Fx.shp (er y))) (s.getD j default)=false;intro j hj;simp at hj
  rintro k0 hF1 kw3 Z1 hZ1;have hF1:(0≤k0)∧(k0≤(s.length:Int))∧(∀ j,j < k0.toNat→(fun y:DExpr=>!decide (Fx.shp (er y))) (s.getD j default)=false):=hF1;obtain ⟨hf1,hf2,hf3⟩:=hF1;clear kw3;refine V.gf [.u 1] fun _ _ G3=>?_;intro S_ s_;refine V.cn (b:=decide (k0 < (s.length:Int))) iDT iDF (fun q1=>?_) (fun q2=>?_)
  · refine V.gf [.u 2] fun _ _ G4=>?_;intro S_ s_
    refine nm (s.getD k0.toNat default:DExpr) fun x1 hx1=>?_;refine V.gf [.u 3,.iX (kF 0 s ss) k0,.lE (kF 0 s ss) k0 true x1 hx1 true,.cP 5 146 [(kx false (.g 4 0) x1 x1.Args.l (fun _=>x1.Args.s) (fun _ H (h:Dat.good H (x1:DExpr))=>(exG.1 h))).a] fun G=>fshpc_ct x1 m0 ih (hS _ (getD_mem (by omega) hx1)) (hm _ (getD_mem (by omega) hx1))] fun _ _ G5=>?_;intro S_ s_
    refine V.cn (b:=!decide (Fx.shp (er x1))) Iff.rfl Iff.rfl (fun q3=>?_) (fun q4=>?_)
    · refine V.gf [.u 2] fun _ _ G6=>?_;intro S_ s_
      have e0:k0=fidx (fun y:DExpr=>!decide (Fx.shp (er y))) s:=by rw [fidx_at (p:=(fun y:DExpr=>!decide (Fx.shp (er y)))) (k:=k0) (by omega) (by omega) hx1 hf3 (by have hqq:=q3;simpa using hqq)]
      exact V.rT [0] [] [] [] [] [] (cong1 (fun (xz0:Int)=>(iv xz0:Value)) e0)
    refine V.gf [.aa (k0+1),.u 1] fun _ _ G7=>?_;intro S_ s_
    refine V.rn hZ1 (k0+1) [0] ?_ ?_
    · refine ⟨?_,?_,?_⟩
      · show 0≤(k0+1)
        first | omega | rfl | (simp;done) | (subst_vars;simp;done)
      · show (k0+1)≤(s.length:Int)
        first | omega | rfl | (simp;done) | (subst_vars;simp;done)
      show ∀ j,j < (k0+1).toNat→(fun y:DExpr=>!decide (Fx.shp (er y))) (s.getD j default)=false;exact fidx_step (p:=(fun y:DExpr=>!decide (Fx.shp (er y)))) hf3 (by omega) hx1 (by have hqq:=q4;simpa using hqq)
    show ((s.length:Int)-(k0+1)).toNat < ((s.length:Int)-k0).toNat;omega
  refine V.gf [.u 1] fun _ _ G8=>?_;intro S_ s_
  have e0:(-1:Int)=fidx (fun y:DExpr=>!decide (Fx.shp (er y))) s:=(fidx_no fun j hj=>hf3 j (by omega)).symm;exact V.rT [0] [] [] [] [] [] (cong1 (fun (xz0:Int)=>(iv xz0:Value)) e0)
theorem fshpi_ctv (s:List DExpr) (ss:SV) (m0:Nat) (ih:∀ (x:DExpr) (hS:Fx.sm (er x)),Fx.sz (er x) < m0→Cp Tryz.prog 136 #[ag x] [fs true x.Args.l x.Args.s] (bv (decide (Fx.shp (er x))))) (hS:∀ y ∈ s,Fx.sm (er y)) (hm:∀ y ∈ s,Fx.sz (er y) < m0) (rv0:Int) (erv0:rv0=fidx (fun y:DExpr=>!decide (Fx.shp (er y))) s) :
    Cp Tryz.prog 158 #[ss.v,.func (.func 146) #[] #[]] [fs true s ss] (iv rv0):=by
  subst erv0;exact fshpi_ct s ss m0 ih hS hm
set_option maxRecDepth 10000 in
theorem fshpk_ct (s:List DExpr) (ss:SV) (m0:Nat) (ih:∀ (x:DExpr) (hS:Fx.sm (er x)),Fx.sz (er x) < m0→Cp Tryz.prog 136 #[ag x] [fs true x.Args.l x.Args.s] (bv (decide (Fx.shp (er x))))) (hS:∀ y ∈ s,Fx.sm (er y)) (hm:∀ y ∈ s,Fx.sz (er y) < m0) :
    Cp Tryz.prog 148 #[ss.v,.func (.func 146) #[] #[]] [fs true s ss] (bv (s.any (fun y:DExpr=>!decide (Fx.shp (er y))))):=by
  refine V.fo mo Tryz.func148 9 0 fun w H ε k0=>?_;clear k0
  refine V.g [.kb false] fun _ _ G1=>?_;intro S_ s_
  refine nm (fidx (fun y:DExpr=>!decide (Fx.shp (er y))) s:Int) fun n1 hn1=>?_;refine V.gf [.u 2,.cP 2 158 [kA 0 s ss] fun G=>fshpi_ctv s ss m0 ih (by assumption) (by assumption) n1 hn1,.u 2] fun _ _ G2=>?_;intro S_ s_
  have e0:(decide (0≤n1))=s.any (fun y:DExpr=>!decide (Fx.shp (er y))):=by
    refine Bool.eq_iff_iff.2 (Iff.trans iDT (Iff.trans ?_ Iff.rfl));have hfi:=hn1;rw [hfi];exact fidx_nn
  exact V.rT [0] [] [] [] [] [] (cong1 (fun (xz0:Bool)=>(bv xz0:Value)) e0)
set_option maxRecDepth 10000 in
theorem fshp_ct_n (m0:Nat):∀ (x:DExpr) (hS:Fx.sm (er x)),Fx.sz (er x) < m0 →
    Cp Tryz.prog 136 #[ag x] [fs true x.Args.l x.Args.s] (bv (decide (Fx.shp (er x)))):=by
  induction m0 with
  | zero=>intro _ _ hm;exact absurd hm (Nat.not_lt_zero _)
  | succ m0 ih =>
    intro x hS hm;refine V.fo mo Tryz.func136 13 1 fun w H ε k0=>?_;clear k0
    have hS2:=(Fx.sm_iff x).1 hS;refine V.gf [.n 0,.kb false] fun _ _ G1=>?_;intro S_ s_
    refine V.gf [.u 1] fun _ _ G2=>?_;intro S_ s_
    refine nm ((decide (Fx.nodeP x.Op x.N x.Unit x.Name (x.Args.l.length:Int))) && (!(x.Args.l.any (fun y:DExpr=>!decide (Fx.shp (er y))))):Bool) fun p1 hp1=>?_;refine V.gf [.l 0,.cP 1 147 [kA 0 x.Args.l x.Args.s] fun G=>fnode_ct x hS2.1.1 hS2.1.2,.u 2,.l 0,.u 1,.cp (gT (b:=decide (Fx.nodeP x.Op x.N x.Unit x.Name (x.Args.l.length:Int))) iDT) 6 148 [kA 0 x.Args.l x.Args.s] (fun hg G=>fshpk_ct x.Args.l x.Args.s m0 ih hS2.2 (fun y hy=>by have:=Fx.sz_arg hy;omega)),.u 1,.andn g0 false (decide (Fx.nodeP x.Op x.N x.Unit x.Name (x.Args.l.length:Int))) (!(x.Args.l.any (fun y:DExpr=>!decide (Fx.shp (er y))))) p1 hp1,.u 1] fun _ _ G3=>?_;intro S_ s_
    have e0:p1=decide (Fx.shp (er x)):=by
      refine Bool.eq_iff_iff.2 (Iff.trans (iN hp1 (iAT iDT (iNT Iff.rfl))) (Iff.trans ?_ decide_eq_true_iff.symm));rw [Fx.shp_iff];simp
    exact V.rT [0] [] [] [] [] [] (cong1 (fun (xz0:Bool)=>(bv xz0:Value)) e0)
theorem fshp_ct (x:DExpr) (hS:Fx.sm (er x)) :
    Cp Tryz.prog 136 #[ag x] [fs true x.Args.l x.Args.s] (bv (decide (Fx.shp (er x)))):=fshp_ct_n (Fx.sz (er x)+1) x hS (Nat.lt_succ_self _)
set_option maxRecDepth 10000 in
theorem frt_ct (x:DExpr) (hS:Fx.sm (er x)) :
    Cp Tryz.prog 103 #[ag x] [fs true x.Args.l x.Args.s] (bv (decide (Fx.rt (er x)))):=by
  refine V.fo mo Tryz.func103 10 2 fun w H ε k0=>?_;clear k0
  refine V.gf [.n 0,.kb false] fun _ _ G1=>?_;intro S_ s_
  refine V.gf [.n 1,.s 1] fun _ _ G2=>?_;intro S_ s_
  refine nm (((Fx.cnt (er x) (1:Int) (0:Int)).1) && (decide (Fx.shp (er x))):Bool) fun p1 hp1=>?_;refine V.gf [.l 0,.cB 1 135 false [1] [] [kA 0 x.Args.l x.Args.s] fun G=>fcnt_ct x ((G2 0).b) (0:Int) (1:Int) (by omega) (by omega),.u 1,.l 0,.cp (gT (b:=(Fx.cnt (er x) (1:Int) (0:Int)).1) Iff.rfl) 4 136 [kA 0 x.Args.l x.Args.s] (fun hg G=>fshp_ct x (by assumption)),.andn g0 false ((Fx.cnt (er x) (1:Int) (0:Int)).1) (decide (Fx.shp (er x))) p1 hp1,.u 1] fun _ _ G3=>?_;intro S_ s_
  have e0:p1=decide (Fx.rt (er x)):=by
    refine Bool.eq_iff_iff.2 (Iff.trans (iN hp1 (iAT Iff.rfl iDT)) (Iff.trans ?_ decide_eq_true_iff.symm));exact Iff.rfl
  exact V.rT [0] [] [] [] [] [] (cong1 (fun (xz0:Bool)=>(bv xz0:Value)) e0)

open Go
namespace Sx
open Fx
def rds (s:ByteArray):Prop:=(Un.read s).2=0
instance (s : ByteArray) : Decidable (rds s) := by unfold rds; infer_instance
def amt (n:Int):Prop:=1≤n∧n≤1099511627776
instance (n : Int) : Decidable (amt n) := by unfold amt; infer_instance
def nms (l:List ByteArray) (lo hi:Int):Prop:=(lo≤(l.length:Int)∧(l.length:Int)≤hi)∧l.any (fun s=>!decide (fre s))=false
instance (l : List ByteArray) (lo hi : Int) : Decidable (nms l lo hi) := by unfold nms; infer_instance
def stp (k:Int) (i o:List ByteArray) (m:ByteArray) (c:List ByteArray) (a:Int):Prop :=
  (0≤k∧k < 9)∧(nms i (if k=0∨k=1∨k=2 then 0 else 1) (if k=0∨k=1∨k=2 then 0 else if k=4 then 100 else 1) ∧
    nms o (if k=0∨k=1∨k=2∨k=3∨k=4 then 1 else 0) (if k=3 then 100 else if k=0∨k=1∨k=2∨k=4 then 1 else 0) ∧
    nms c (if k=3 then (o.length:Int) else 0) (if k=3 then (o.length:Int) else 0)) ∧
  ((k=0∨k=1∨k=2∨k=5∨k=6∨k=7)→fre m)∧(¬(k=0∨k=1∨k=2∨k=5∨k=6∨k=7)→m=ByteArray.empty)∧((k=2∨k=6)→amt a)∧(¬(k=2∨k=6)→a=0)
instance (k : Int) (i o : List ByteArray) (m : ByteArray) (c : List ByteArray) (a : Int) : Decidable (stp k i o m c a) := by unfold stp; infer_instance
abbrev US:=List (ByteArray × Bool) × Bool
def useS (st:US) (nm:ByteArray) (u m:Bool):US:=(mupd nm true st.1,(((st.2 && u) && m) && decide (fre nm)) && !((mlook nm st.1).getD false))
abbrev It:=ByteArray × Bool × Bool
def useL (st:US) (l:List It):US:=l.foldl (fun st e=>useS st e.1 e.2.1 e.2.2) st
theorem useL_app (st:US) (l m:List It):useL st (l ++m)=useL (useL st l) m:=List.foldl_append ..
theorem useS_len (st:US) (nm:ByteArray) (u m:Bool):(useS st nm u m).1.length≤st.1.length+1:=by
  show (mupd nm true st.1).length≤_
  rw [mupd_len];split <;> omega
theorem useL_len:∀ (l:List It) (st:US),(useL st l).1.length≤st.1.length+l.length
  | [],st=>Nat.le_refl _
  | e :: l,st=>by
    have h1:=useL_len l (useS st e.1 e.2.1 e.2.2)
    have h2:=useS_len st e.1 e.2.1 e.2.2
    show (useL (useS st e.1 e.2.1 e.2.2) l).1.length≤_
    rw [List.length_cons];omega
theorem useL_step {α:Type} [Inhabited α] {f:α→It} {l:List α} {k:Int} {x:α} {st s1:US} (h:s1=useL st ((l.take k.toNat).map f)) (h0:0≤k) (hk:k < l.length) (hx:x=l.getD k.toNat default):useS s1 (f x).1 (f x).2.1 (f x).2.2=useL st ((l.take (k+1).toNat).map f):=by
  have hk':k.toNat < l.length:=by omega
  have e:l[k.toNat]=x:=by rw [hx,List.getD_eq_getElem?_getD,List.getElem?_eq_getElem hk'];rfl
  rw [show (k+1).toNat=k.toNat+1 by omega,List.take_add_one,List.getElem?_eq_getElem hk',e,List.map_append,useL_app,← h]
  rfl
theorem useL_all {α:Type} {f:α→It} {l:List α} {k:Int} {st s1:US} (h:s1=useL st ((l.take k.toNat).map f)) (hk:(l.length:Int)≤k):s1=useL st (l.map f):=by
  rw [h,List.take_of_length_le (by omega)]
def impI (x:DImport):It:=(x.Name,decide (rds x.Unit),((((decide (amt x.Amount) && decide (0≤x.House)) && decide (x.House < 400)) && decide (0≤x.Version)) && decide (x.Version≤2000)) && decide (fre x.Port))
def inpI (x:DInput):It:=(x.Name,decide (rds x.Unit),decide (x.Kind=ByteArray.empty) || decide (fre x.Kind))
def porI (x:DPort):It:=(x.Name,decide (rds x.Unit),decide (amt x.Amount))
def stoI (x:DStore):It:=(x.Name,decide (rds x.Unit),decide (0≤x.Rule) && decide (x.Rule < 3))
def tabI (x:DTable):It:=(x.Name,true,decide (Tb.RtT x.Name x.Unit x.Rows.l))
def parO (p:DParam):Bool:=!decide (fre p.Name) || !decide (rds p.Unit)
def funI (x:DFunc):It:=(x.Name,!(x.Params.l.any parO),(decide (1≤(x.Params.l.length:Int)) && decide ((x.Params.l.length:Int)≤6)) && decide (rt (er x.Body)))
def celI (x:DCell):It:=(x.Name,decide (rds x.Unit),decide (rt (er x.Def)))
def stpB (x:DStep):Bool:=!decide (stp x.Kind x.In.l x.Out.l x.Name x.Cells.l x.Amount)
def recI (x:DRecipe):It:=(x.Kind,true,decide ((x.Steps.l.length:Int)≤100) && !(x.Steps.l.any stpB))
def goodsL (a:List DImport) (b:List DInput) (c:List DPort) (d:List DStore):List It:=a.map impI ++b.map inpI ++c.map porI ++d.map stoI
def formsL (a:List DTable) (b:List DFunc) (c:List DCell):List It:=a.map tabI ++b.map funI ++c.map celI
abbrev tx (s:ByteArray):Prop:=s.size≤9223372036854775807
structure Sml (nm:ByteArray) (a:List DImport) (b:List DInput) (t:List DTable) (f:List DFunc) (c:List DCell) (p:List DPort) (d:List DStore) (r:List DRecipe):Prop where
  nm:tx nm
  imp:∀ x ∈ a,tx x.Name∧tx x.Unit∧tx x.Port
  inp:∀ x ∈ b,tx x.Name∧tx x.Unit∧tx x.Kind
  tab:∀ x ∈ t,tx x.Name∧tx x.Unit
  fun_:∀ x ∈ f,tx x.Name∧(∀ q ∈ x.Params.l,tx q.Name∧tx q.Unit)∧sm (er x.Body)
  cel:∀ x ∈ c,tx x.Name∧tx x.Unit∧sm (er x.Def)
  por:∀ x ∈ p,tx x.Name∧tx x.Unit
  sto:∀ x ∈ d,tx x.Name∧tx x.Unit
  rec_:∀ x ∈ r,tx x.Kind∧∀ y ∈ x.Steps.l,tx y.Name∧(∀ s ∈ y.In.l,tx s)∧(∀ s ∈ y.Out.l,tx s)∧∀ s ∈ y.Cells.l,tx s
theorem its_len (st:US) (a:List DImport) (b:List DInput) (t:List DTable) (f:List DFunc) (c:List DCell) (p:List DPort) (d:List DStore):(useL ((useL st (goodsL a b p d)).1,(useL st (goodsL a b p d)).2) (formsL t f c)).1.length≤st.1.length+(a.length+b.length+t.length+f.length+c.length+p.length+d.length):=by
  show (useL (useL st (goodsL a b p d)) (formsL t f c)).1.length≤_
  have h1:=useL_len (formsL t f c) (useL st (goodsL a b p d))
  have h2:=useL_len (goodsL a b p d) st
  simp only [goodsL,formsL,List.length_append,List.length_map] at h1 h2 ⊢
  omega
def itS (nm:ByteArray) (a:List DImport) (b:List DInput) (t:List DTable) (f:List DFunc) (c:List DCell) (p:List DPort) (d:List DStore):US:=useL (useL ([],decide (fre nm)) (goodsL a b p d)) (formsL t f c)
def reS (r:List DRecipe):US:=useL ([],true) (r.map recI)
def Rt (nm:ByteArray) (a:List DImport) (b:List DInput) (t:List DTable) (f:List DFunc) (c:List DCell) (p:List DPort) (d:List DStore) (r:List DRecipe):Prop :=
  ((itS nm a b t f c p d).2=true∧((itS nm a b t f c p d).1.length:Int)+(r.length:Int)≤100)∧(reS r).2=true
instance (nm : ByteArray) (a : List DImport) (b : List DInput) (t : List DTable) (f : List DFunc) (c : List DCell) (p : List DPort) (d : List DStore) (r : List DRecipe) : Decidable (Rt nm a b t f c p d r) := by unfold Rt; infer_instance
end Sx
end Kb
