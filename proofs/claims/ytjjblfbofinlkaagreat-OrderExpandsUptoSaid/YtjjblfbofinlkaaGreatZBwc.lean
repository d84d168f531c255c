/- Texts for the claim, put together: the calculus of regions, its rules, and contracts of the functions that the law reaches. -/
import Derived.Test.YtjjblfbofinlkaaGreatZBwb
import Derived.Test.YtjjblfbofinlkaaGreatProg
set_option linter.all false
set_option maxRecDepth 10000
namespace Kb
open Go
theorem V.exF {P:Program} {E:Env P} {S:Stop} {t:St} {α β:Type} [Dat α] [Dat β] (j:Nat) (b:Bool) (x:β) (l:List α) (s:SV) (hj:t.F[j]?=some (gf b x)) (pr:∀ H,Dat.good H x→RSl H l s.v) (k:V E S ⟨t.sl,t.F ++[fs b l s],t.L⟩):V E S t:=fun N ε a w d=>k N ε a w ⟨d.slots,d.st,d.new,fun f hf=>by
 rcases List.mem_append.1 hf with hf | hf
 ·exact d.facts f hf
 ·have:f=fs b l s:=by simpa using hf
  subst this;have h:=d.facts _ (List.mem_of_getElem? hj);unfold FP.at at h ⊢;cases b
  ·exact pr _ h
  ·exact pr _ h,d.own⟩

open Go
structure Fv where
 v:Value
 h:cell1 v=true
instance : Dat Fv where
  default := ⟨.nilFunc, rfl⟩
  size := 1
  cells x := [x.v]
  good _ _ := True
  len _ := rfl
  one _ x _ u hu := by simp at hu; subst hu; exact x.h
  mono _ _ _ _ _ := trivial
  zero _ := trivial
section
variable {P : Program} {E : Env P} {S : Stop} {t : St}
theorem V.frzC {α:Type} [Dat α] (r b0:Nat) (A:Array Value) (T:TypeId) (x:α) (b:Bool) (fl:List (Nat × FP)) (hr:(t.L[r]?,E.X,A.toList,fl.map (fun p=>t.F[p.1]?),fl.all (fun p=>!b || p.2.t))=(some (.blk b0 A T),[],Dat.cells x,fl.map (fun p=>some p.2),true)) (hg:∀ H,conjL (fl.map fun p=>p.2.p H)→Dat.good H x)
  (k:V E S ⟨t.sl,t.F ++[fs b [x] ⟨atB b0,1,1⟩],t.L.set r .no⟩):V E S t:=fun N ε a w d=>by
 simp only [Prod.mk.injEq] at hr;obtain ⟨hr,hX,C,I,M⟩:=hr;have P:∀ p ∈ fl,t.F[p.1]?=some p.2:=map_eq I;have D:∀ p ∈ fl,p.2.at N (hun N E.H):=fun p hp=>d.facts p.2 (List.mem_of_getElem? (P p hp))
 have Q:Dat.good (hun N E.H) x:=hg _ (conjL_of fun q hq=>by
  obtain ⟨p,hp,rfl⟩:=List.mem_map.1 hq;have h:=D p hp;unfold FP.at at h;cases e:p.2.t <;> rw [e] at h
  ·exact h
  ·exact p.2.m _ _ hun_left h)
 have Y:b=true→Dat.good N x:=fun hb=>hg _ (conjL_of fun q hq=>by
  obtain ⟨p,hp,rfl⟩:=List.mem_map.1 hq;have h:=D p hp;have ht:=List.all_eq_true.1 M p hp;rw [hb] at ht;have ht:p.2.t=true:=by simpa using ht
  unfold FP.at at h;rw [ht] at h;exact h)
 have B:∀ J:Heaplet,Dat.good J x→OSl T J [x] (SV.v ⟨atB b0,1,1⟩) (some (b0,.cells A T)):=fun J Z=>OSl.lit (E:=T) (g:=b0) (fun y hy=>by rw [List.mem_singleton.1 hy];exact Z) (by rw [C];simp [rows];decide)
 have he:(ents t.L ε)[r]?=some (some (b0,.cells A T)):=by rw [ents_get,hr];rfl
 generalize (some (b0,Obj.cells A T):Ent)=ρ at B he;have hK:Agrees w (hun N E.H):=d.st.agr _ (by simp);have hE:Agrees w (entH ρ):=entH_agrees fun b o hb=>(d.st.ent r b o (by rw [he,hb])).1
 have s1:Sub N (hun (entH ρ) N):=hun_right' (U:=whole w) hE (hun_left.trans hK);have eK:hun (hun (entH ρ) N) E.H=hun (entH ρ) (hun N E.H):=hun_assoc _ _ _;have s2:Sub (hun N E.H) (hun (hun (entH ρ) N) E.H):=by rw [eK];exact hun_right' (U:=whole w) hE hK
 have i:∀ (j b:Nat) (o:Obj),(ents (t.L.set r .no) ε)[j]?=some (some (b,o))→j≠r∧(ents t.L ε)[j]?=some (some (b,o)):=fun j b o h=>by
  rw [ents_get,Option.map_eq_some_iff] at h;obtain ⟨y,hy,he⟩:=h;rcases set_get hy with ⟨rfl,rfl⟩ | ⟨hj,hy⟩
  ·cases he
  ·exact ⟨hj,by rw [ents_get,hy,← he];rfl⟩
 refine k (hun (entH ρ) N) ε a w ⟨d.slots,⟨d.st.base,fun K hk=>?_,fun j b o h=>?_,fun j j' b o o' h h'=>d.st.dis j j' b o o' (i _ _ _ h).2 (i _ _ _ h').2⟩,fun b hb=>?_,fun f hf=>?_,fun j y hy=>?_⟩
 ·have:K=hun (hun (entH ρ) N) E.H:=by simpa using hk
  subst this;rw [eK];exact hun_agrees hE hK
 ·obtain ⟨hj,h⟩:=i j b o h;obtain ⟨h1,h2,h3⟩:=d.st.ent j b o h;refine ⟨h1,h2,fun K hk=>?_⟩
  have:K=hun (hun (entH ρ) N) E.H:=by simpa using hk
  subst this;rw [eK];have hn:entH ρ b=none:=by
   cases hh:entH ρ b with
   | none=>rfl
   | some o' =>
    exfalso;unfold entH at hh;cases hp:ρ with
    | none=>rw [hp] at hh;cases hh
    | some p =>
     rw [hp] at hh;simp only at hh;split at hh
     ·rename_i hb;subst hb
      exact hj (d.st.dis j r p.1 o p.2 h (by rw [he,hp]))
     ·cases hh
  simp only [hun,hn];exact h3 (hun N E.H) (by simp)
 ·cases hh:entH ρ b with
  | none =>
   simp only [hun,hh] at hb;exact d.new b hb
  | some o' =>
   unfold entH at hh;cases hp:ρ with
   | none=>rw [hp] at hh;cases hh
   | some p =>
    rw [hp] at hh;simp only at hh;split at hh
    ·rename_i hb';subst hb'
     rcases (d.st.ent r p.1 p.2 (by rw [he,hp])).2.1 with h1 | h1
     ·exact h1
     ·rw [hX] at h1;cases h1
    ·cases hh
 ·rcases List.mem_append.1 hf with hf | hf
  ·exact FP.mono (d.facts f hf) s1 s2
  ·have:f=fs b [x] ⟨atB b0,1,1⟩:=by simpa using hf
   subst this;have G:∀ J J':Heaplet,Sub J J'→Sub (entH ρ) J'→Dat.good J x→RSl J' [x] (SV.v ⟨atB b0,1,1⟩):=fun J J' h1 h2 h=>(B J h).frozen h1 h2
   show bif b then RSl _ [x] _ else RSl _ [x] _
   cases b
   ·exact G _ _ s2 (by rw [eK];exact hun_left) Q
   ·exact G _ _ s1 hun_left (Y rfl)
 ·rcases set_get hy with ⟨rfl,rfl⟩ | ⟨hj,hy⟩
  ·trivial
  ·exact LE.mono (d.own j y hy) s1 s2
end
theorem cpost_turn {w w':World} {H:Heaplet} {L L':List LE} {ε:Nat→Ent} {v:Value} (t:StW w (blks (ents L ε)) [H] (ents L ε) w) (i:Base (blks (ents L ε)) w w')
  (d:∀ (k b:Nat) (o:Obj),(ents L' ε)[k]?=some (some (b,o))→w'.heap[b]?=some o∧∃ o',(ents L ε)[k]?=some (some (b,o'))) (j:∀ (k:Nat) (x:LE),L'[k]?=some x→x.at (ε k) (fun _=>none) H) :
  CPost w w' H (ents L ε) (fun _=>v) (fun _=>[]) (fun _=>L') (fun _=>[]) (.returned v) { es:=ε }:=by
 have A:∀ (k b:Nat) (o:Obj),(ents L ε)[k]?=some (some (b,o))→b ∈ blks (ents L ε):=fun k b o h =>
  List.mem_filterMap.2 ⟨_,List.mem_of_getElem? h,rfl⟩
 refine { ret:=rfl,base:=i,agr:=fun b o h=>(by cases h),new:=fun b h=>absurd rfl h,facts:=fun f hf=>(by cases hf),ent:=fun k b o h=>?_,dis:=fun k l b o o' h h'=>?_,own:=fun k x h=>j k x h,pu:=trivial }
 ·obtain ⟨h1,o',h2⟩:=d k b o h;exact ⟨h1,.inr (A k b o' h2),rfl⟩
 ·obtain ⟨_,o1,h1⟩:=d k b o h;obtain ⟨_,o2,h2⟩:=d l b o' h';exact t.dis k l b o1 o2 h1 h2
theorem setCell_blk {w:World} {b T:Nat} {d:Array Value} {off:Nat} {v:Value} (hb:w.heap[b]?=some (.cells d T)):w.setCell ⟨b,off,none⟩ v=setBlk w b (.cells (d.setIfInBounds off v) T):=by
 have f:=RC.heap_lt hb;unfold World.setCell setBlk
 congr 1
 apply Array.ext_getElem?;intro k;simp only [Array.getElem?_modify,Array.getElem?_setIfInBounds];have hg:w.heap[b]=.cells d T:=(Array.getElem?_eq_some_iff.1 hb).2;by_cases e:b=k
 ·subst e;simp [f,hg]
 ·simp [e]
def fidx {α:Type} (p:α→Bool) (l:List α):Int:=if l.any p=true then (l.findIdx p:Int) else -1
section
variable {α : Type} [Inhabited α] {p : α → Bool} {l : List α} {k : Int} {x : α}
theorem getD_of {k:Nat} (h:k < l.length):l.getD k default=l[k]:=by
 rw [List.getD_eq_getElem?_getD,List.getElem?_eq_getElem h];rfl
theorem fidx_at (h0:0≤k) (hk:k < l.length) (hx:x=l.getD k.toNat default) (h:∀ j,j < k.toNat→p (l.getD j default)=false) (e:p x=true):fidx p l=k:=by
 have b:k.toNat < l.length:=by omega
 have e1:p l[k.toNat]=true:=by rw [←getD_of b,← hx];exact e
 have e2:l.any p=true:=List.any_eq_true.2 ⟨_,List.getElem_mem b,e1⟩;have e3:l.findIdx p=k.toNat:=by
  rw [List.findIdx_eq b];exact ⟨e1,fun j hj=>by rw [←getD_of (by omega)];exact h j hj⟩
 unfold fidx;rw [if_pos e2,e3];omega
theorem any_no (h:∀ j,j < l.length→p (l.getD j default)=false):l.any p=false:=by
 rw [List.any_eq_false];intro y hy;obtain ⟨j,hj,rfl⟩:=List.getElem_of_mem hy;rw [←getD_of hj,h j hj];simp
theorem fidx_no (h:∀ j,j < l.length→p (l.getD j default)=false):fidx p l= -1:=by
 unfold fidx;rw [any_no h];rfl
theorem fidx_nn:0≤fidx p l↔l.any p=true:=by
 unfold fidx;split
 ·rename_i h;exact ⟨fun _=>h,fun _=>Int.natCast_nonneg _⟩
 ·rename_i h;exact ⟨fun k=>by omega,fun k=>absurd k h⟩
theorem fidx_step (h:∀ j,j < k.toNat→p (l.getD j default)=false) (h0:0≤k) (hx:x=l.getD k.toNat default) (e:p x=false):∀ j,j < (k+1).toNat→p (l.getD j default)=false:=fun j hj=>by
 by_cases e2:j < k.toNat
 ·exact h j e2
 ·rw [show j=k.toNat by omega,← hx];exact e
end

open Go
namespace Zc
open Fx Sx
structure FE where
 m:ByteArray
 p:List DParam
 b:Ex
instance : Inhabited FE := ⟨⟨ByteArray.empty, [], default⟩⟩
def fe (f:DFunc):FE:=⟨f.Name,f.Params.l,er f.Body⟩
def find (fs:List FE) (s:ByteArray):Int:=fidx (fun f:FE=>decide (f.m=s)) fs
def pidx (ps:List DParam) (s:ByteArray):Int:=fidx (fun p:DParam=>decide (p.Name=s)) ps
theorem fidx_map {α β:Type} (g:α→β) (p:β→Bool) (l:List α):fidx p (l.map g)=fidx (fun x=>p (g x)) l:=by
 unfold fidx;rw [List.any_map,List.findIdx_map];rfl
theorem find_fe (fs:List DFunc) (s:ByteArray):find (fs.map fe) s=fidx (fun f:DFunc=>decide (f.Name=s)) fs:=fidx_map _ _ _
theorem getD_map {α β:Type} [Inhabited α] [Inhabited β] (g:α→β) {l:List α} {k:Nat} (h:k < l.length):(l.map g).getD k default=g (l.getD k default):=by
 rw [List.getD_eq_getElem?_getD,List.getElem?_map,List.getD_eq_getElem?_getD,List.getElem?_eq_getElem h];rfl
theorem find_rng (fs:List FE) (s:ByteArray): -1≤find fs s∧find fs s < fs.length:=by
 unfold find fidx;split
 ·rename_i h
  have:=List.findIdx_lt_length.2 (List.any_eq_true.1 h)
  omega
 ·omega
theorem pidx_rng (ps:List DParam) (s:ByteArray): -1≤pidx ps s∧pidx ps s < ps.length:=by
 unfold pidx fidx;split
 ·rename_i h
  have:=List.findIdx_lt_length.2 (List.any_eq_true.1 h)
  omega
 ·omega
mutual
def anyN (p:Ex→Bool):Ex→Bool
 | .mk o n u m l=>p (.mk o n u m l) || anyNL p l
def anyNL (p:Ex→Bool):List Ex→Bool
 | []=>false
 | x :: l=>anyN p x || anyNL p l
end
theorem anyNL_any (p:Ex→Bool):∀ l:List Ex,anyNL p l=l.any (anyN p)
 | []=>rfl
 | x :: l=>by rw [anyNL,List.any_cons,anyNL_any p l]
theorem anyN_er (p:Ex→Bool) (x:DExpr):anyN p (er x)=(p (er x) || x.Args.l.any fun y=>anyN p (er y)):=by
 obtain ⟨o,n,u,m,⟨l,s⟩⟩:=x;rw [er_mk,anyN,anyNL_any,List.any_map];rfl
def stray (ps:List DParam) (x:Ex):Bool:=decide (x.op=1) && decide (pidx ps x.m < 0)
def unk (fs:List FE) (x:Ex):Bool:=decide (x.op=3) && decide (find fs x.m < 0)
def unev (fs:List FE) (x:Ex):Bool:=decide (x.op=3) && !decide ((x.l.length:Int)=((fs.getD (find fs x.m).toNat default).p.length:Int))
theorem anyN_sub {p:Ex→Bool} {x y:DExpr} (h:anyN p (er x)=false) (hy:y ∈ x.Args.l):anyN p (er y)=false:=by
 rw [anyN_er,Bool.or_eq_false_iff] at h
 have:=List.any_eq_false.1 h.2 y hy
 simpa using this
theorem anyN_top {p:Ex→Bool} {x:DExpr} (h:anyN p (er x)=false):p (er x)=false:=by
 rw [anyN_er,Bool.or_eq_false_iff] at h;exact h.1
theorem unk_op {fs:List FE} {x:DExpr} (h:anyN (unk fs) (er x)=false) (h3:x.Op=3):0≤find fs x.Name:=by
 have:=anyN_top h
 unfold unk at this;rw [er_op,er_m] at this;simp [h3] at this;exact this
def odd (p:DParam):Bool:=!decide (Qt p.Unit) || !decide (fre p.Name)
def formed (f:FE):Prop:=((fre f.m∧(1≤(f.p.length:Int)∧(f.p.length:Int)≤6))∧f.p.any odd=false)∧rt f.b
instance (f : FE) : Decidable (formed f) := by unfold formed; infer_instance
def twP (f:FE) (k:Nat):Bool:=decide (pidx f.p (f.p.getD k default).Name < (k:Int))
def twice (fs:List FE) (f:FE) (i:Int):Bool:=decide (find fs f.m < i) || (List.range f.p.length).any (twP f)
def wrong (p:DParam):Bool:=!decide (rds p.Unit)
def chk (fs:List FE) (i:Int):Int :=
 let f:=fs.getD i.toNat default
 if ¬ formed f then 2 else if twice fs f i=true then 5 else if f.p.any wrong=true then 14
 else if anyN (stray f.p) f.b=true∨anyN (unk fs) f.b=true then 11 else if anyN (unev fs) f.b=true then 1 else 0
theorem twice_at {fs:List FE} {f:FE} {i k:Int} {b:Bool} (h:b=(decide (find fs f.m < i) || (List.range k.toNat).any (twP f))) (hk:(f.p.length:Int)=k):b=twice fs f i:=by
 rw [h];unfold twice;rw [show k.toNat=f.p.length by omega]
theorem twice_step {fs:List FE} {f:FE} {i k:Int} {b:Bool} (h:b=(decide (find fs f.m < i) || (List.range k.toNat).any (twP f))) (h0:0≤k):(b || twP f k.toNat)=(decide (find fs f.m < i) || (List.range (k+1).toNat).any (twP f)):=by
 rw [h,show (k+1).toNat=k.toNat+1 by omega,List.range_succ,List.any_append,Bool.or_assoc];simp
theorem chk2 {fs:List FE} {i:Int} (h:¬ formed (fs.getD i.toNat default)):chk fs i=2:=by unfold chk;simp only [];rw [if_pos h]
theorem chk5 {fs:List FE} {i:Int} (h:formed (fs.getD i.toNat default)) (h5:twice fs (fs.getD i.toNat default) i=true):chk fs i=5:=by unfold chk;simp only [];rw [if_neg (fun k=>k h),if_pos h5]
theorem chk14 {fs:List FE} {i:Int} (h:formed (fs.getD i.toNat default)) (h5:¬ twice fs (fs.getD i.toNat default) i=true) (hw:(fs.getD i.toNat default).p.any wrong=true):chk fs i=14:=by unfold chk;simp only [];rw [if_neg (fun k=>k h),if_neg h5,if_pos hw]
theorem chk11 {fs:List FE} {i:Int} (h:formed (fs.getD i.toNat default)) (h5:¬ twice fs (fs.getD i.toNat default) i=true) (hw:¬ (fs.getD i.toNat default).p.any wrong=true) (hs:anyN (stray (fs.getD i.toNat default).p) (fs.getD i.toNat default).b=true∨anyN (unk fs) (fs.getD i.toNat default).b=true):chk fs i=11:=by unfold chk;simp only [];rw [if_neg (fun k=>k h),if_neg h5,if_neg hw,if_pos hs]
theorem chk1 {fs:List FE} {i:Int} (h:formed (fs.getD i.toNat default)) (h5:¬ twice fs (fs.getD i.toNat default) i=true) (hw:¬ (fs.getD i.toNat default).p.any wrong=true) (hs:¬ (anyN (stray (fs.getD i.toNat default).p) (fs.getD i.toNat default).b=true∨anyN (unk fs) (fs.getD i.toNat default).b=true)) (hu:anyN (unev fs) (fs.getD i.toNat default).b=true):chk fs i=1:=by unfold chk;simp only [];rw [if_neg (fun k=>k h),if_neg h5,if_neg hw,if_neg hs,if_pos hu]
theorem chk0 {fs:List FE} {i:Int} (h:formed (fs.getD i.toNat default)) (h5:¬ twice fs (fs.getD i.toNat default) i=true) (hw:¬ (fs.getD i.toNat default).p.any wrong=true) (hs:¬ (anyN (stray (fs.getD i.toNat default).p) (fs.getD i.toNat default).b=true∨anyN (unk fs) (fs.getD i.toNat default).b=true)) (hu:¬ anyN (unev fs) (fs.getD i.toNat default).b=true):chk fs i=0:=by unfold chk;simp only [];rw [if_neg (fun k=>k h),if_neg h5,if_neg hw,if_neg hs,if_neg hu]
mutual
def anyS (f:List Int→Int→Bool × List Int) (fs:List FE):Ex→List Int→Bool × List Int
 | .mk o n u m l,S =>
  let r:=if o=3 then f S (find fs m) else (false,S)
  if r.1=true then (true,r.2) else anySL f fs l r.2
def anySL (f:List Int→Int→Bool × List Int) (fs:List FE):List Ex→List Int→Bool × List Int
 | [],S=>(false,S)
 | x :: l,S=>if (anyS f fs x S).1=true then (true,(anyS f fs x S).2) else anySL f fs l (anyS f fs x S).2
end
def thr (fs:List FE):Nat→List Int→Int→Bool × List Int
 | 0,S,_=>(false,S)
 | n+1,S,i =>
  if S.getD i.toNat 0≠0 then (decide (S.getD i.toNat 0=1),S)
  else ((anyS (thr fs n) fs (fs.getD i.toNat default).b (S.set i.toNat 1)).1,(anyS (thr fs n) fs (fs.getD i.toNat default).b (S.set i.toNat 1)).2.set i.toNat 2)
def nf (S:List Int):Nat:=S.countP (· == 0)
structure OkS (n len:Nat) (S:List Int):Prop where
 len:S.length=len
 nf:nf S < n
theorem nf_set {S:List Int} {i:Nat} {v:Int} (hv:v≠0):nf (S.set i v)≤nf S:=by
 unfold nf;rw [List.countP_eq_length_filter,List.countP_eq_length_filter];induction S generalizing i with
 | nil=>simp
 | cons x l ih =>
  cases i with
  | zero =>
   rw [List.set_cons_zero,List.filter_cons,List.filter_cons]
   have:(v == 0)=false:=by simpa using hv
   simp only [this,Bool.false_eq_true,if_false];split <;> simp
  | succ i =>
   rw [List.set_cons_succ,List.filter_cons,List.filter_cons]
   have:=ih (i:=i)
   split <;> simp <;> omega
theorem nf_set0 {S:List Int} {i:Nat} {v:Int} (hv:v≠0) (hi:i < S.length) (h0:S.getD i 0=0):nf (S.set i v)+1=nf S:=by
 unfold nf;rw [List.countP_eq_length_filter,List.countP_eq_length_filter];induction S generalizing i with
 | nil=>simp at hi
 | cons x l ih =>
  cases i with
  | zero =>
   rw [List.set_cons_zero,List.filter_cons,List.filter_cons];have e1:(v == 0)=false:=by simpa using hv
   have e2:(x == 0)=true:=by simpa using h0
   rw [e1,e2];simp
  | succ i =>
   rw [List.set_cons_succ,List.filter_cons,List.filter_cons]
   have:=ih (i:=i) (by simpa using hi) (by simpa using h0)
   split <;> (try simp only [List.length_cons]) <;> omega
theorem OkS.set {n len i:Nat} {S:List Int} {v:Int} (h:OkS n len S) (hv:v≠0):OkS n len (S.set i v):=⟨by rw [List.length_set];exact h.len,Nat.lt_of_le_of_lt (nf_set hv) h.nf⟩
theorem OkS.set1 {n len i:Nat} {S:List Int} {v:Int} (h:OkS (n+1) len S) (hv:v≠0) (hi:i < len) (h0:S.getD i 0=0):OkS n len (S.set i v):=⟨by rw [List.length_set];exact h.len,by have:=nf_set0 hv (by rw [h.len];exact hi) h0;have:=h.nf;omega⟩
theorem OkS.mono {n m len:Nat} {S:List Int} (h:OkS n len S) (hm:n≤m):OkS m len S:=⟨h.len,Nat.lt_of_lt_of_le h.nf hm⟩
def clS (f:List Int→Int→Bool × List Int) (fs:List FE) (x:Ex) (S:List Int):Bool × List Int:=if x.op=3 then f S (find fs x.m) else (false,S)
theorem anyS_er (f:List Int→Int→Bool × List Int) (fs:List FE) (x:DExpr) (S:List Int):anyS f fs (er x) S=if (clS f fs (er x) S).1=true then (true,(clS f fs (er x) S).2) else anySL f fs (x.Args.l.map er) (clS f fs (er x) S).2:=by
 obtain ⟨o,n,u,m,⟨l,s⟩⟩:=x;rw [er_mk,anyS];rfl
mutual
theorem anyS_ok {f:List Int→Int→Bool × List Int} {fs:List FE} {n len:Nat} (hf:∀ S i,OkS n len S→OkS n len (f S i).2):∀ (x:Ex) (S:List Int),OkS n len S→OkS n len (anyS f fs x S).2
 | .mk o m u k l,S,h=>by
  rw [anyS];generalize hr:(if o=3 then f S (find fs k) else (false,S))=r;have h1:OkS n len r.2:=by
   rw [←hr];split
   ·exact hf _ _ h
   ·exact h
  show OkS n len (if r.1=true then (true,r.2) else anySL f fs l r.2).2;split
  ·exact h1
  ·exact anySL_ok hf l _ h1
theorem anySL_ok {f:List Int→Int→Bool × List Int} {fs:List FE} {n len:Nat} (hf:∀ S i,OkS n len S→OkS n len (f S i).2):∀ (l:List Ex) (S:List Int),OkS n len S→OkS n len (anySL f fs l S).2
 | [],S,h=>by rw [anySL];exact h
 | x :: l,S,h=>by
  rw [anySL];have h1:=anyS_ok (fs:=fs) hf x S h;split
  ·exact h1
  ·exact anySL_ok hf l _ h1
end
theorem thr_ok (fs:List FE) (len m:Nat):∀ (n:Nat) (S:List Int) (i:Int),OkS m len S→OkS m len (thr fs n S i).2
 | 0,S,i,h=>h
 | n+1,S,i,h=>by
  rw [thr];split
  ·exact h
  ·exact (anyS_ok (fun S i h=>thr_ok fs len m n S i h) _ _ (h.set (by decide))).set (by decide)
theorem thr_open {fs:List FE} {n:Nat} {S:List Int} {i:Int} (h:S.getD i.toNat 0≠0):thr fs (n+1) S i=(decide (S.getD i.toNat 0=1),S):=by rw [thr,if_pos h]
theorem thr_new {fs:List FE} {n:Nat} {S:List Int} {i:Int} (h:S.getD i.toNat 0=0):thr fs (n+1) S i=((anyS (thr fs n) fs (fs.getD i.toNat default).b (S.set i.toNat 1)).1,(anyS (thr fs n) fs (fs.getD i.toNat default).b (S.set i.toNat 1)).2.set i.toNat 2):=by rw [thr,if_neg (fun k=>k h)]
theorem thr_open' {fs:List FE} {n:Nat} {S:List Int} {i:Int} (hn:0 < n) (h:S.getD i.toNat 0≠0):thr fs n S i=(decide (S.getD i.toNat 0=1),S):=by
 obtain ⟨k,rfl⟩:∃ k,n=k+1:=⟨n - 1,by omega⟩;exact thr_open h
theorem thr_new' {fs:List FE} {n:Nat} {S:List Int} {i:Int} (hn:0 < n) (h:S.getD i.toNat 0=0):thr fs n S i=((anyS (thr fs (n - 1)) fs (fs.getD i.toNat default).b (S.set i.toNat 1)).1,(anyS (thr fs (n - 1)) fs (fs.getD i.toNat default).b (S.set i.toNat 1)).2.set i.toNat 2):=by
 obtain ⟨k,rfl⟩:∃ k,n=k+1:=⟨n - 1,by omega⟩;exact thr_new h
def ixS (f:List Int→Int→Bool × List Int) (fs:List FE) (k:Int):List Ex→List Int→Int × List Int
 | [],S=>(-1,S)
 | x :: l,S=>if (anyS f fs x S).1=true then (k,(anyS f fs x S).2) else ixS f fs (k+1) l (anyS f fs x S).2
theorem ixS_any {f:List Int→Int→Bool × List Int} {fs:List FE}:∀ (l:List Ex) (k:Int) (S:List Int),0≤k→anySL f fs l S=(decide (0≤(ixS f fs k l S).1),(ixS f fs k l S).2)
 | [],k,S,h=>by rw [anySL,ixS];rfl
 | x :: l,k,S,h=>by
  rw [anySL,ixS];split
  ·simp [h]
  ·exact ixS_any l (k+1) _ (by omega)
theorem ixS_step {f:List Int→Int→Bool × List Int} {fs:List FE} {l:List DExpr} {i:Int} {S:List Int} {y:DExpr} (h0:0≤i) (hi:i < l.length) (hy:y=l.getD i.toNat default):ixS f fs i ((l.map er).drop i.toNat) S=if (anyS f fs (er y) S).1=true then (i,(anyS f fs (er y) S).2) else ixS f fs (i+1) ((l.map er).drop (i+1).toNat) (anyS f fs (er y) S).2:=by
 have b:i.toNat < l.length:=by omega
 have e:l[i.toNat]=y:=by rw [hy,List.getD_eq_getElem?_getD,List.getElem?_eq_getElem b];rfl
 rw [List.drop_eq_getElem_cons (by simpa using b),List.getElem_map,e,ixS,show (i+1).toNat=i.toNat+1 by omega]
def cycF (fs:List FE) (n:Nat):Nat→Nat→List Int→Bool
 | 0,_,_=>false
 | k+1,i,S=>if (thr fs n S (i:Int)).1=true then true else cycF fs n k (i+1) (thr fs n S (i:Int)).2
def cyc (fs:List FE):Bool:=cycF fs (fs.length+1) fs.length 0 (List.replicate fs.length 0)
def chkF (fs:List FE):Nat→Nat→Int
 | 0,_=>0
 | k+1,i=>if chk fs (i:Int)≠0 then chk fs (i:Int) else chkF fs k (i+1)
def Check (fs:List FE):Int:=if 100 < (fs.length:Int) then 6 else if chkF fs fs.length 0≠0 then chkF fs fs.length 0 else if cyc fs=true then 23 else 0
theorem chkF_step {fs:List FE} {k n:Int} (h0:0≤k) (h:k < n):chkF fs (n - k).toNat k.toNat=if chk fs k≠0 then chk fs k else chkF fs (n - (k+1)).toNat (k+1).toNat:=by
 rw [show (n - k).toNat=(n - (k+1)).toNat+1 by omega,chkF,show ((k.toNat:Nat):Int)=k by omega,show k.toNat+1=(k+1).toNat by omega]
theorem chkF_end {fs:List FE} {k n:Int} (h:n≤k):chkF fs (n - k).toNat k.toNat=0:=by
 rw [show (n - k).toNat=0 by omega];rfl
theorem chkF_all {fs:List FE}:∀ (n k:Nat),chkF fs n k=0→∀ i:Nat,k≤i→i < k+n→chk fs (i:Int)=0
 | 0,k,_,i,h1,h2=>by omega
 | n+1,k,h,i,h1,h2=>by
  rw [chkF] at h;by_cases hk:chk fs (k:Int)≠0
  ·rw [if_pos hk] at h;exact absurd h hk
  ·rw [if_neg hk] at h;rcases Nat.eq_or_lt_of_le h1 with rfl | h3
   ·exact Decidable.not_not.1 hk
   ·exact chkF_all n (k+1) h i h3 (by omega)
theorem chk_ok {fs:List FE} {i:Int} (h:chk fs i=0):formed (fs.getD i.toNat default)∧twice fs (fs.getD i.toNat default) i=false∧(fs.getD i.toNat default).p.any wrong=false∧anyN (stray (fs.getD i.toNat default).p) (fs.getD i.toNat default).b=false∧anyN (unk fs) (fs.getD i.toNat default).b=false∧anyN (unev fs) (fs.getD i.toNat default).b=false:=by
 unfold chk at h
 dsimp only at h
 split at h
 ·cases h
 ·rename_i h1
  split at h
  ·cases h
  ·rename_i h2
   split at h
   ·cases h
   ·rename_i h3
    split at h
    ·cases h
    ·rename_i h4
     split at h
     ·cases h
     ·rename_i h5
      exact ⟨Decidable.not_not.1 h1,by simpa using h2,by simpa using h3,by simpa using fun k=>h4 (.inl k),by simpa using fun k=>h4 (.inr k),by simpa using h5⟩
theorem cycF_step {fs:List FE} {m:Nat} {k n:Int} {S:List Int} (h0:0≤k) (h:k < n):cycF fs m (n - k).toNat k.toNat S=if (thr fs m S k).1=true then true else cycF fs m (n - (k+1)).toNat (k+1).toNat (thr fs m S k).2:=by
 rw [show (n - k).toNat=(n - (k+1)).toNat+1 by omega,cycF,show ((k.toNat:Nat):Int)=k by omega,show k.toNat+1=(k+1).toNat by omega]
theorem ok_start (len:Nat):OkS (len+1) len (List.replicate len 0):=⟨List.length_replicate,by
 unfold nf
 have:=List.countP_le_length (p:=(· == (0:Int))) (l:=List.replicate len 0)
 rw [List.length_replicate] at this;omega⟩
theorem un_of {fs:List DFunc} (h:chkF (fs.map fe) (fs.map fe).length 0=0):∀ f ∈ fs,anyN (unk (fs.map fe)) (er f.Body)=false:=fun f hf=>by
 obtain ⟨i,hi,rfl⟩:=List.getElem_of_mem hf;have h1:=(chk_ok (chkF_all _ _ h i (Nat.zero_le _) (by rw [List.length_map];omega))).2.2.2.2.1;rw [show ((i:Int).toNat)=i from rfl,getD_map fe hi,List.getD_eq_getElem?_getD,List.getElem?_eq_getElem hi] at h1;exact h1
theorem Check_e {fs:List FE} {e:Int} (h:¬ 100 < (fs.length:Int)) (he:chkF fs fs.length 0=e) (b:e≠0):Check fs=e:=by unfold Check;rw [if_neg h,he,if_pos b]
theorem Check_c {fs:List FE} (h:¬ 100 < (fs.length:Int)) (he:chkF fs fs.length 0=0) (hc:cyc fs=true):Check fs=23:=by unfold Check;rw [if_neg h,he,if_neg (fun k=>k rfl),if_pos hc]
theorem Check_0 {fs:List FE} (h:¬ 100 < (fs.length:Int)) (he:chkF fs fs.length 0=0) (hc:cyc fs=false):Check fs=0:=by unfold Check;rw [if_neg h,he,if_neg (fun k=>k rfl),hc];rfl
theorem Check_ok {fs:List FE} (h:Check fs=0):¬ 100 < (fs.length:Int)∧chkF fs fs.length 0=0∧cyc fs=false:=by
 unfold Check at h;split at h
 ·cases h
 ·rename_i h1
  split at h
  ·rename_i h2;exact absurd h h2
  ·rename_i h2
   split at h
   ·cases h
   ·rename_i h3
    exact ⟨h1,Decidable.not_not.1 h2,by simpa using h3⟩
end Zc

open Go
namespace Zd
open Fx Sx Zc
structure WE where
 x:Ex
 n:Int
 v:Int
 full:Bool
def z0:Ex:=.mk 0 0 ByteArray.empty ByteArray.empty []
instance : Inhabited WE := ⟨⟨z0, 1, 1, false⟩⟩
def fullW:WE:=⟨z0,0,0,true⟩
def joinL (o n:Int) (u m:ByteArray):List Ex→Int→Int→List WE→WE
 | acc,a,v,[]=>⟨.mk o n u m acc,a,v,false⟩
 | acc,a,v,y :: l=>if (y.full=true∨200 < a+y.n)∨20 < max v (y.v+1) then fullW else joinL o n u m (acc ++[y.x]) (a+y.n) (max v (y.v+1)) l
def join (x:Ex) (l:List WE):WE:=joinL x.op x.n x.u x.m [] 1 1 l
def small (w:WE):Prop:=(0≤w.n∧w.n≤200)∧(0≤w.v∧w.v≤20)
theorem small_full:small fullW:=by unfold small fullW;decide
theorem small_default:small default:=by unfold small;decide
theorem joinL_small {o n:Int} {u m:ByteArray}:∀ (l:List WE) (acc:List Ex) (a v:Int),(∀ y ∈ l,small y)→0≤a∧a≤200→0≤v∧v≤20→small (joinL o n u m acc a v l)
 | [],acc,a,v,_,h1,h2=>⟨h1,h2⟩
 | y :: l,acc,a,v,h,h1,h2=>by
  rw [joinL];split
  ·exact small_full
  ·rename_i hc
   have hy:=h y (List.mem_cons_self ..);unfold small at hy;exact joinL_small l _ _ _ (fun z hz=>h z (List.mem_cons_of_mem _ hz)) (by omega) (by omega)
theorem joinL_step {α:Type} [Inhabited α] {g:α→WE} {o n:Int} {u m:ByteArray} {l:List α} {i a v:Int} {acc:List Ex} {y:α} (h0:0≤i) (hi:i < l.length) (hy:y=l.getD i.toNat default) :
  joinL o n u m acc a v ((l.map g).drop i.toNat)=if ((g y).full=true∨200 < a+(g y).n)∨20 < max v ((g y).v+1) then fullW else joinL o n u m (acc ++[(g y).x]) (a+(g y).n) (max v ((g y).v+1)) ((l.map g).drop (i+1).toNat):=by
 have b:i.toNat < l.length:=by omega
 have e:l[i.toNat]=y:=by rw [hy,List.getD_eq_getElem?_getD,List.getElem?_eq_getElem b];rfl
 rw [List.drop_eq_getElem_cons (by simpa using b),List.getElem_map,e,joinL,show (i+1).toNat=i.toNat+1 by omega]
theorem joinL_end {α:Type} {g:α→WE} {o n:Int} {u m:ByteArray} {l:List α} {i a v:Int} {acc:List Ex} (hi:(l.length:Int)≤i) :
  joinL o n u m acc a v ((l.map g).drop i.toNat)=⟨.mk o n u m acc,a,v,false⟩:=by
 rw [List.drop_eq_nil_of_le (by rw [List.length_map];omega),joinL]
mutual
def putE (P:List DParam) (A:List WE):Ex→WE
 | .mk o n u m l=>if o=1 then A.getD (pidx P m).toNat default else putL P A o n u m [] l
def putL (P:List DParam) (A:List WE) (o n:Int) (u m:ByteArray):List WE→List Ex→WE
 | acc,[]=>joinL o n u m [] 1 1 acc
 | acc,y :: l=>if (putE P A y).full=true then putE P A y else putL P A o n u m (acc ++[putE P A y]) l
end
theorem putE_er (P:List DParam) (A:List WE) (b:DExpr):putE P A (er b)=if b.Op=1 then A.getD (pidx P b.Name).toNat default else putL P A b.Op b.N b.Unit b.Name [] (b.Args.l.map er):=by
 obtain ⟨o,n,u,m,⟨l,s⟩⟩:=b;rw [er_mk,putE]
theorem putL_step {P:List DParam} {A:List WE} {o n:Int} {u m:ByteArray} {acc:List WE} {l:List DExpr} {i:Int} {y:DExpr} (h0:0≤i) (hi:i < l.length) (hy:y=l.getD i.toNat default) :
  putL P A o n u m acc ((l.map er).drop i.toNat)=if (putE P A (er y)).full=true then putE P A (er y) else putL P A o n u m (acc ++[putE P A (er y)]) ((l.map er).drop (i+1).toNat):=by
 have b:i.toNat < l.length:=by omega
 have e:l[i.toNat]=y:=by rw [hy,List.getD_eq_getElem?_getD,List.getElem?_eq_getElem b];rfl
 rw [List.drop_eq_getElem_cons (by simpa using b),List.getElem_map,e,putL,show (i+1).toNat=i.toNat+1 by omega]
theorem putL_end {P:List DParam} {A:List WE} {b:DExpr} {acc:List WE} {l:List DExpr} {i:Int} (hi:(l.length:Int)≤i) :
  putL P A b.Op b.N b.Unit b.Name acc ((l.map er).drop i.toNat)=join (er b) acc:=by
 rw [List.drop_eq_nil_of_le (by rw [List.length_map];omega),putL];unfold join;rw [er_op,er_n,er_u,er_m]
theorem getD_small {A:List WE} (h:∀ y ∈ A,small y) (k:Nat):small (A.getD k default):=by
 rw [List.getD_eq_getElem?_getD];cases hk:A[k]? with
 | none=>exact small_default
 | some y=>exact h y (List.mem_of_getElem? hk)
mutual
theorem putE_small {P:List DParam} {A:List WE} (h:∀ y ∈ A,small y):∀ x:Ex,small (putE P A x)
 | .mk o n u m l=>by
  rw [putE];split
  ·exact getD_small h _
  ·exact putL_small h l [] (fun y hy=>by cases hy)
theorem putL_small {P:List DParam} {A:List WE} {o n:Int} {u m:ByteArray} (h:∀ y ∈ A,small y):∀ (l:List Ex) (acc:List WE),(∀ y ∈ acc,small y)→small (putL P A o n u m acc l)
 | [],acc,ha=>by rw [putL];exact joinL_small acc _ _ _ ha (by omega) (by omega)
 | y :: l,acc,ha=>by
  rw [putL];split
  ·exact putE_small h y
  ·refine putL_small h l _ fun z hz=>?_;rcases List.mem_append.1 hz with hz | hz
   ·exact ha z hz
   ·rw [List.mem_singleton.1 hz];exact putE_small h y
end
theorem sz_len (x:DExpr):x.Args.l.length < sz (er x):=by
 have b:∀ l:List Ex,l.length≤szL l:=fun l=>by
  induction l with
  | nil=>exact Nat.zero_le _
  | cons y l ih=>rw [szL,List.length_cons];have:=sz_pos y;omega
 obtain ⟨o,n,u,m,⟨l,s⟩⟩:=x;rw [er_mk,sz]
 have:=b (l.map er)
 rw [List.length_map] at this;show l.length < _;omega
theorem stray_op {P:List DParam} {x:DExpr} (h:anyN (stray P) (er x)=false) (h1:x.Op=1):0≤pidx P x.Name:=by
 have:=anyN_top h
 unfold stray at this;rw [er_op,er_m] at this;simp [h1] at this;exact this
theorem er_is (x:DExpr):er x=.mk x.Op x.N x.Unit x.Name (x.Args.l.map er):=by
 obtain ⟨o,n,u,m,⟨l,s⟩⟩:=x;exact er_mk o n u m l s
theorem map_take {α β:Type} [Inhabited α] {g:α→β} {l:List α} {k:Int} {y:α} (h0:0≤k) (hk:k < l.length) (hy:y=l.getD k.toNat default):(l.map g).take k.toNat ++[g y]=(l.map g).take (k+1).toNat:=by
 have b:k.toNat < l.length:=by omega
 have e:l[k.toNat]=y:=by rw [hy,List.getD_eq_getElem?_getD,List.getElem?_eq_getElem b];rfl
 rw [show (k+1).toNat=k.toNat+1 by omega,List.take_add_one,List.getElem?_map,List.getElem?_eq_getElem b,e];rfl
mutual
def growT (fs:List FE) (bd:Nat→WE):Ex→WE
 | .mk o n u m l=>if o=3 then (if (bd (find fs m).toNat).full=true then fullW else putE (fs.getD (find fs m).toNat default).p (growL fs bd l) (bd (find fs m).toNat).x) else joinL o n u m [] 1 1 (growL fs bd l)
def growL (fs:List FE) (bd:Nat→WE):List Ex→List WE
 | []=>[]
 | x :: l=>growT fs bd x :: growL fs bd l
end
theorem growL_map (fs:List FE) (bd:Nat→WE):∀ l:List Ex,growL fs bd l=l.map (growT fs bd)
 | []=>rfl
 | x :: l=>by rw [growL,List.map_cons,growL_map fs bd l]
theorem growT_er (fs:List FE) (bd:Nat→WE) (x:DExpr):growT fs bd (er x)=if x.Op=3 then (if (bd (find fs x.Name).toNat).full=true then fullW else putE (fs.getD (find fs x.Name).toNat default).p ((x.Args.l.map er).map (growT fs bd)) (bd (find fs x.Name).toNat).x) else join (er x) ((x.Args.l.map er).map (growT fs bd)):=by
 obtain ⟨o,n,u,m,⟨l,s⟩⟩:=x;rw [er_mk,growT,growL_map];rfl
mutual
theorem growT_small (fs:List FE) (bd:Nat→WE):∀ x:Ex,small (growT fs bd x)
 | .mk o n u m l=>by
  rw [growT];split
  ·split
   ·exact small_full
   ·exact putE_small (growL_small fs bd l) _
  ·exact joinL_small _ _ _ _ (growL_small fs bd l) (by omega) (by omega)
theorem growL_small (fs:List FE) (bd:Nat→WE):∀ l:List Ex,∀ y ∈ growL fs bd l,small y
 | [],y,hy=>by rw [growL] at hy;cases hy
 | x :: l,y,hy=>by
  rw [growL] at hy;rcases List.mem_cons.1 hy with rfl | hy
  ·exact growT_small fs bd x
  ·exact growL_small fs bd l y hy
end
mutual
def hc (fs:List FE) (rk:Nat→Nat):Ex→Nat
 | .mk o _ _ m l=>max (if o=3 then rk (find fs m).toNat+1 else 0) (hcL fs rk l)
def hcL (fs:List FE) (rk:Nat→Nat):List Ex→Nat
 | []=>0
 | x :: l=>max (hc fs rk x) (hcL fs rk l)
end
theorem hcL_mem {fs:List FE} {rk:Nat→Nat}:∀ {l:List Ex} {y:Ex},y ∈ l→hc fs rk y≤hcL fs rk l
 | x :: l,y,h=>by
  rw [hcL];rcases List.mem_cons.1 h with rfl | h
  ·omega
  ·have:=hcL_mem (fs:=fs) (rk:=rk) h;omega
theorem hc_er (fs:List FE) (rk:Nat→Nat) (x:DExpr):hc fs rk (er x)=max (if x.Op=3 then rk (find fs x.Name).toNat+1 else 0) (hcL fs rk (x.Args.l.map er)):=by
 obtain ⟨o,n,u,m,⟨l,s⟩⟩:=x;rw [er_mk,hc]
theorem hc_arg {fs:List FE} {rk:Nat→Nat} {x y:DExpr} (h:y ∈ x.Args.l):hc fs rk (er y)≤hc fs rk (er x):=by
 rw [hc_er fs rk x]
 have:=hcL_mem (fs:=fs) (rk:=rk) (List.mem_map_of_mem (f:=er) h)
 omega
theorem hc_op {fs:List FE} {rk:Nat→Nat} {x:DExpr} (h:x.Op=3):rk (find fs x.Name).toNat+1≤hc fs rk (er x):=by
 rw [hc_er,if_pos h];omega
def mu (fs:List FE) (rk:Nat→Nat) (x:Ex):Nat:=hc fs rk x * 1001+sz x
theorem mu_arg {fs:List FE} {rk:Nat→Nat} {x y:DExpr} (h:y ∈ x.Args.l):mu fs rk (er y) < mu fs rk (er x):=by
 have h1:=hc_arg (fs:=fs) (rk:=rk) h;have h2:=sz_arg h;unfold mu
 have:=Nat.mul_le_mul_right 1001 h1
 omega
structure BD (fs:List FE) (bd:Nat→WE) (rk:Nat→Nat):Prop where
 eq:∀ i,i < fs.length→bd i=growT fs bd (fs.getD i default).b
 par:∀ i,i < fs.length→(bd i).full=false→anyN (stray (fs.getD i default).p) (bd i).x=false
 szx:∀ i,i < fs.length→(bd i).full=false→sz (bd i).x≤1000
 rank:∀ i,i < fs.length→hc fs rk (fs.getD i default).b≤rk i
 szb:∀ i,i < fs.length→sz (fs.getD i default).b≤1000
 unk:∀ i,i < fs.length→anyN (unk fs) (fs.getD i default).b=false
 unev:∀ i,i < fs.length→anyN (unev fs) (fs.getD i default).b=false
 few:∀ i,i < fs.length→(fs.getD i default).p.length≤6
theorem BD.mu_body {fs:List FE} {bd:Nat→WE} {rk:Nat→Nat} (h:BD fs bd rk) {x:DExpr} (h3:x.Op=3) (h0:0≤find fs x.Name):mu fs rk (fs.getD (find fs x.Name).toNat default).b < mu fs rk (er x):=by
 have hr:=(find_rng fs x.Name).2;have h1:=h.rank (find fs x.Name).toNat (by omega);have h2:=h.szb (find fs x.Name).toNat (by omega);have h4:=hc_op (fs:=fs) (rk:=rk) h3;have h5:=sz_pos (er x);unfold mu
 have:=Nat.mul_le_mul_right 1001 h1
 have:=Nat.mul_le_mul_right 1001 h4
 omega
theorem unev_op {fs:List FE} {x:DExpr} (h:anyN (Zc.unev fs) (er x)=false) (h3:x.Op=3):(x.Args.l.length:Int)=((fs.getD (find fs x.Name).toNat default).p.length:Int):=by
 have:=anyN_top h
 unfold Zc.unev at this;rw [er_op,er_m,er_l,List.length_map,decide_eq_true h3,Bool.true_and] at this;have h4:decide ((x.Args.l.length:Int)=((fs.getD (find fs x.Name).toNat default).p.length:Int))=true:=by
  cases h:decide ((x.Args.l.length:Int)=((fs.getD (find fs x.Name).toNat default).p.length:Int)) with
  | true=>rfl
  | false=>rw [h] at this;cases this
 exact of_decide_eq_true h4
end Zd

open Go
namespace Zd
open Fx Sx Zc
mutual
theorem cnt_sz:∀ (x:Ex) (v n:Int),(cnt x v n).1=true→(cnt x v n).2=n+sz x
 | .mk o m u k l,v,n,h=>by
  rw [cnt] at h ⊢;split at h
  ·cases h
  ·rename_i hc
   rw [if_neg hc,cntL_sz l _ _ h,sz];omega
theorem cntL_sz:∀ (l:List Ex) (v n:Int),(cntL l v n).1=true→(cntL l v n).2=n+szL l
 | [],v,n,h=>by rw [cntL,szL];show n=_;omega
 | x :: l,v,n,h=>by
  rw [cntL] at h ⊢;split at h
  ·rename_i hc
   rw [if_pos hc,cntL_sz l _ _ h,cnt_sz x _ _ hc,szL];omega
  ·cases h
end
theorem rt_sz {x:Ex} (h:rt x):sz x≤200:=by
 have h1:=cnt_sz x 1 0 h.1;have h2:=(cnt_rng x 1 0).2.2 h.1;omega
def callsIn (fs:List FE) (x:Ex) (j:Nat):Prop:=anyN (fun y=>decide (y.op=3) && decide ((find fs y.m).toNat=j)) x=true
inductive Fin (fs:List FE):Nat→Prop
 | mk (i:Nat) (h:∀ j,callsIn fs (fs.getD i default).b j→Fin fs j):Fin fs i
structure Dn (fs:List FE) (S:List Int):Prop where
 val:∀ i:Nat,S.getD i 0=0∨S.getD i 0=1∨S.getD i 0=2
 fin:∀ i:Nat,S.getD i 0=2→Fin fs i
theorem getD_set {S:List Int} {i j:Nat} {v:Int}:(S.set i v).getD j 0=if i=j∧i < S.length then v else S.getD j 0:=by
 rw [List.getD_eq_getElem?_getD,List.getElem?_set,List.getD_eq_getElem?_getD];by_cases e:i=j
 ·subst e;by_cases h:i < S.length
  ·simp [h]
  ·simp [h,List.getElem?_eq_none (Nat.le_of_not_lt h)]
 ·simp [e]
theorem Dn.set1 {fs:List FE} {S:List Int} (h:Dn fs S) (i:Nat):Dn fs (S.set i 1):=⟨fun j=>by
 rw [getD_set];split
 ·exact .inr (.inl rfl)
 ·exact h.val j,fun j hj=>by
 rw [getD_set] at hj;split at hj
 ·cases hj
 ·exact h.fin j hj⟩
theorem Dn.set2 {fs:List FE} {S:List Int} (h:Dn fs S) {i:Nat} (hf:Fin fs i):Dn fs (S.set i 2):=⟨fun j=>by
 rw [getD_set];split
 ·exact .inr (.inr rfl)
 ·exact h.val j,fun j hj=>by
 rw [getD_set] at hj;split at hj
 ·rename_i e;rw [←e.1];exact hf
 ·exact h.fin j hj⟩
theorem callsIn_mk {fs:List FE} {o n:Int} {u m:ByteArray} {l:List Ex} {j:Nat} (h:callsIn fs (.mk o n u m l) j):(o=3∧(find fs m).toNat=j)∨∃ y ∈ l,callsIn fs y j:=by
 unfold callsIn at h;rw [anyN,anyNL_any,Bool.or_eq_true] at h;rcases h with h | h
 ·rw [Bool.and_eq_true] at h;exact .inl ⟨of_decide_eq_true h.1,of_decide_eq_true h.2⟩
 ·obtain ⟨y,hy,h⟩:=List.any_eq_true.1 h;exact .inr ⟨y,hy,h⟩
theorem callsIn_of {fs:List FE} {o n:Int} {u m:ByteArray} {l:List Ex} {j:Nat} (h:(o=3∧(find fs m).toNat=j)∨∃ y ∈ l,callsIn fs y j):callsIn fs (.mk o n u m l) j:=by
 unfold callsIn;rw [anyN,anyNL_any,Bool.or_eq_true];rcases h with ⟨h1,h2⟩ | ⟨y,hy,h⟩
 ·left
  show (decide (o=3) && decide ((find fs m).toNat=j))=true;rw [decide_eq_true h1,decide_eq_true h2];rfl
 ·exact .inr (List.any_eq_true.2 ⟨y,hy,h⟩)
theorem un_mk {p:Ex→Bool} {o n:Int} {u m:ByteArray} {l:List Ex} (h:anyN p (.mk o n u m l)=false):p (.mk o n u m l)=false∧∀ y ∈ l,anyN p y=false:=by
 rw [anyN,anyNL_any,Bool.or_eq_false_iff] at h;exact ⟨h.1,fun y hy=>by have:=List.any_eq_false.1 h.2 y hy;simpa using this⟩
theorem unk_mk {fs:List FE} {o n:Int} {u m:ByteArray} {l:List Ex} (h:unk fs (.mk o n u m l)=false) (h3:o=3):0≤find fs m:=by
 unfold unk at h;subst h3;have h:(decide ((3:Int)=3) && decide (find fs m < 0))=false:=h;rw [decide_eq_true rfl,Bool.true_and] at h
 have:=of_decide_eq_false h
 omega
mutual
theorem anyS_fin {f:List Int→Int→Bool × List Int} {fs:List FE} {n len:Nat} (b:fs.length=len) (d:∀ S i,OkS n len S→OkS n len (f S i).2)
  (hf:∀ S (i:Int),OkS n len S→Dn fs S→0≤i→i < len→(f S i).1=false→Dn fs (f S i).2∧Fin fs i.toNat) :
  ∀ (x:Ex) (S:List Int),anyN (unk fs) x=false→OkS n len S→Dn fs S→(anyS f fs x S).1=false→Dn fs (anyS f fs x S).2∧∀ j,callsIn fs x j→Fin fs j
 | .mk o m u k l,S,hu,h,hd,hs=>by
  obtain ⟨A,B⟩:=un_mk hu;rw [anyS] at hs ⊢;generalize hr:(if o=3 then f S (find fs k) else (false,S))=r at hs ⊢;have hs:(if r.1=true then (true,r.2) else anySL f fs l r.2).1=false:=hs;show Dn fs (if r.1=true then (true,r.2) else anySL f fs l r.2).2∧_;have t:r.1=false:=by
   cases hb:r.1 with
   | false=>rfl
   | true=>rw [if_pos hb] at hs;cases hs
  rw [if_neg (by rw [t];simp)] at hs ⊢;have C:OkS n len r.2:=by
   rw [←hr];split
   ·exact d _ _ h
   ·exact h
  have w:Dn fs r.2∧(o=3→Fin fs (find fs k).toNat):=by
   by_cases h3:o=3
   ·rw [if_pos h3] at hr;have D:=find_rng fs k
    have:=hf S (find fs k) h hd (unk_mk A h3) (by omega) (by rw [hr];exact t)
    rw [hr] at this;exact ⟨this.1,fun _=>this.2⟩
   ·rw [if_neg h3] at hr;rw [←hr];exact ⟨hd,fun h=>absurd h h3⟩
  obtain ⟨q1,q2⟩:=anySL_fin b d hf l r.2 B C w.1 hs;refine ⟨q1,fun j hj=>?_⟩;rcases callsIn_mk hj with ⟨h3,hk⟩ | ⟨y,hy,hj⟩
  ·rw [←hk];exact w.2 h3
  ·exact q2 y hy j hj
theorem anySL_fin {f:List Int→Int→Bool × List Int} {fs:List FE} {n len:Nat} (b:fs.length=len) (d:∀ S i,OkS n len S→OkS n len (f S i).2)
  (hf:∀ S (i:Int),OkS n len S→Dn fs S→0≤i→i < len→(f S i).1=false→Dn fs (f S i).2∧Fin fs i.toNat) :
  ∀ (l:List Ex) (S:List Int),(∀ y ∈ l,anyN (unk fs) y=false)→OkS n len S→Dn fs S→(anySL f fs l S).1=false→Dn fs (anySL f fs l S).2∧∀ y ∈ l,∀ j,callsIn fs y j→Fin fs j
 | [],S,_,h,hd,_=>⟨by rw [anySL];exact hd,fun y hy=>by cases hy⟩
 | x :: l,S,hu,h,hd,hs=>by
  rw [anySL] at hs ⊢;have hx:(anyS f fs x S).1=false:=by
   cases hb:(anyS f fs x S).1 with
   | false=>rfl
   | true=>rw [if_pos hb] at hs;cases hs
  rw [if_neg (by rw [hx];simp)] at hs ⊢;obtain ⟨q1,q2⟩:=anyS_fin b d hf x S (hu x (List.mem_cons_self ..)) h hd hx;obtain ⟨q3,q4⟩:=anySL_fin b d hf l _ (fun y hy=>hu y (List.mem_cons_of_mem _ hy)) (anyS_ok d x S h) q1 hs;exact ⟨q3,fun y hy=>by
   rcases List.mem_cons.1 hy with rfl | hy
   ·exact q2
   ·exact q4 y hy⟩
end
theorem thr_fin {fs:List FE} (hu:∀ i,i < fs.length→anyN (unk fs) (fs.getD i default).b=false):∀ (n:Nat) (S:List Int) (i:Int),OkS n fs.length S→Dn fs S→0≤i→i < fs.length→(thr fs n S i).1=false→Dn fs (thr fs n S i).2∧Fin fs i.toNat
 | 0,S,i,h,_,_,_,_=>absurd h.nf (Nat.not_lt_zero _)
 | n+1,S,i,h,hd,h0,h1,hs=>by
  by_cases hS:S.getD i.toNat 0=0
  ·rw [thr_new hS] at hs ⊢;have hi:i.toNat < fs.length:=by omega
   obtain ⟨q1,q2⟩:=anyS_fin (f:=thr fs n) rfl (fun S i h=>thr_ok fs fs.length n n S i h) (fun S i h1 h2 h3 h4 h5=>thr_fin hu n S i h1 h2 h3 h4 h5) (fs.getD i.toNat default).b (S.set i.toNat 1) (hu _ hi) (h.set1 (by decide) hi hS) (hd.set1 _) hs;have hf:Fin fs i.toNat:=.mk _ q2;exact ⟨q1.set2 hf,hf⟩
  ·rw [thr_open hS] at hs ⊢;have h2:S.getD i.toNat 0=2:=by
    have:=of_decide_eq_false hs
    rcases hd.val i.toNat with h | h | h
    ·exact absurd h hS
    ·exact absurd h this
    ·exact h
   exact ⟨hd,hd.fin _ h2⟩
theorem cycF_fin {fs:List FE} (hu:∀ i,i < fs.length→anyN (unk fs) (fs.getD i default).b=false) (m:Nat):∀ (k i:Nat) (S:List Int),OkS m fs.length S→Dn fs S→i+k≤fs.length→cycF fs m k i S=false→∀ j,i≤j→j < i+k→Fin fs j
 | 0,i,S,_,_,_,_,j,h1,h2=>by omega
 | k+1,i,S,h,hd,hl,hs,j,h1,h2=>by
  rw [cycF] at hs;have hx:(thr fs m S (i:Int)).1=false:=by
   cases hb:(thr fs m S (i:Int)).1 with
   | false=>rfl
   | true=>rw [if_pos hb] at hs;cases hs
  rw [if_neg (by rw [hx];simp)] at hs;obtain ⟨q1,q2⟩:=thr_fin hu m S (i:Int) h hd (by omega) (by omega) hx;rcases Nat.eq_or_lt_of_le h1 with rfl | h3
  ·exact q2
  ·exact cycF_fin hu m k (i+1) _ (thr_ok _ _ _ _ _ _ h) q1 (by omega) hs j h3 (by omega)
theorem all_fin {fs:List FE} (hu:∀ i,i < fs.length→anyN (unk fs) (fs.getD i default).b=false) (hc:cyc fs=false):∀ j,j < fs.length→Fin fs j:=fun j hj=>by
 unfold cyc at hc;refine cycF_fin hu _ fs.length 0 _ (ok_start _) ⟨fun i=>.inl ?_,fun i hi=>?_⟩ (by omega) hc j (Nat.zero_le _) (by omega)
 ·rw [List.getD_eq_getElem?_getD,List.getElem?_replicate];split <;> rfl
 ·rw [List.getD_eq_getElem?_getD,List.getElem?_replicate] at hi;split at hi <;> cases hi
def Hk (fs:List FE):Nat→Nat→Prop
 | 0,_=>False
 | k+1,i=>∀ j,callsIn fs (fs.getD i default).b j→Hk fs k j
theorem Hk_mono {fs:List FE}:∀ {k k' i:Nat},k≤k'→Hk fs k i→Hk fs k' i
 | 0,_,_,_,h=>h.elim
 | k+1,0,_,hk,_=>by omega
 | k+1,k'+1,i,hk,h=>fun j hj=>Hk_mono (by omega) (h j hj)
theorem sup_ex {p:Nat→Nat→Prop} (hm:∀ k k' j,k≤k'→p k j→p k' j) (q:Nat→Prop):∀ n:Nat,(∀ j,j < n→q j→∃ k,p k j)→∃ K,∀ j,j < n→q j→p K j
 | 0,_=>⟨0,fun j hj=>by omega⟩
 | n+1,h=>by
  obtain ⟨K,hK⟩:=sup_ex hm q n fun j hj=>h j (by omega);by_cases hq:q n
  ·obtain ⟨k,hk⟩:=h n (by omega) hq;refine ⟨max K k,fun j hj b=>?_⟩;rcases Nat.lt_or_ge j n with h1 | h1
   ·exact hm _ _ _ (Nat.le_max_left ..) (hK j h1 b)
   ·have:j=n:=by omega
    subst this;exact hm _ _ _ (Nat.le_max_right ..) hk
  ·refine ⟨K,fun j hj b=>?_⟩;rcases Nat.lt_or_ge j n with h1 | h1
   ·exact hK j h1 b
   ·have:j=n:=by omega
    subst this;exact absurd b hq
theorem callsIn_lt {fs:List FE}:∀ {x:Ex} {j:Nat},anyN (unk fs) x=false→callsIn fs x j→j < fs.length:=fun {x}=>by
 induction x using Ex.ind with
 | h x ih =>
  intro j hu hj;cases x with
  | mk o n u m l =>
   obtain ⟨b,d⟩:=un_mk hu;rcases callsIn_mk hj with ⟨h3,hk⟩ | ⟨y,hy,hj⟩
   ·have h1:=unk_mk b h3;have h2:=find_rng fs m;omega
   ·exact ih y hy (d y hy) hj
theorem fin_Hk {fs:List FE} (hu:∀ i,i < fs.length→anyN (unk fs) (fs.getD i default).b=false) {i:Nat} (h:Fin fs i):i < fs.length→∃ k,Hk fs k i:=by
 induction h with
 | mk i h ih =>
  intro hi;obtain ⟨K,hK⟩:=sup_ex (p:=Hk fs) (fun k k' j=>Hk_mono) (fun j=>callsIn fs (fs.getD i default).b j) fs.length (fun j hj hq=>ih j hq hj);exact ⟨K+1,fun j hj=>hK j (callsIn_lt (hu i hi) hj) hj⟩
mutual
theorem hc_le {fs:List FE} {rk:Nat→Nat} {K:Nat}:∀ x:Ex,(∀ j,callsIn fs x j→rk j+1≤K)→hc fs rk x≤K
 | .mk o n u m l,h=>by
  rw [hc];have h1:=hcL_le (fs:=fs) (rk:=rk) (K:=K) l fun y hy j hj=>h j (callsIn_of (.inr ⟨y,hy,hj⟩))
  have h2:(if o=3 then rk (find fs m).toNat+1 else 0)≤K:=by
   split
   ·rename_i h3;exact h _ (callsIn_of (.inl ⟨h3,rfl⟩))
   ·omega
  omega
theorem hcL_le {fs:List FE} {rk:Nat→Nat} {K:Nat}:∀ l:List Ex,(∀ y ∈ l,∀ j,callsIn fs y j→rk j+1≤K)→hcL fs rk l≤K
 | [],_=>by rw [hcL];omega
 | x :: l,h=>by
  rw [hcL];have h1:=hc_le (fs:=fs) (rk:=rk) (K:=K) x (h x (List.mem_cons_self ..));have h2:=hcL_le (fs:=fs) (rk:=rk) (K:=K) l fun y hy=>h y (List.mem_cons_of_mem _ hy)
  omega
end
theorem least (p:Nat→Prop) (h:∃ n,p n):∃ n,p n∧∀ m,p m→n≤m:=by
 classical
 obtain ⟨n,hn⟩:=h;induction n using Nat.strongRecOn with
 | _ n ih =>
  by_cases h:∃ m,m < n∧p m
  ·obtain ⟨m,hm,hp⟩:=h;exact ih m hm hp
  ·exact ⟨n,hn,fun m hm=>Nat.le_of_not_lt fun b=>h ⟨m,b,hm⟩⟩
theorem rank_ex {fs:List FE} (hu:∀ i,i < fs.length→anyN (unk fs) (fs.getD i default).b=false) (o:cyc fs=false):∃ rk:Nat→Nat,(∀ i,i < fs.length→hc fs rk (fs.getD i default).b≤rk i)∧∀ i,i < fs.length→∀ j,callsIn fs (fs.getD i default).b j→rk j < rk i:=by
 classical
 have h0:∀ i,∃ n,i < fs.length→Hk fs n i∧∀ m,Hk fs m i→n≤m:=fun i=>by
  by_cases hi:i < fs.length
  ·obtain ⟨n,h1,h2⟩:=least (fun k=>Hk fs k i) (fin_Hk hu (all_fin hu o i hi) hi);exact ⟨n,fun _=>⟨h1,h2⟩⟩
  ·exact ⟨0,fun h=>absurd h hi⟩
 obtain ⟨rk,d⟩:=Classical.axiomOfChoice h0;have f:∀ i,i < fs.length→∀ j,callsIn fs (fs.getD i default).b j→rk j < rk i:=fun i hi j hj=>by
  obtain ⟨h1,h2⟩:=d i hi;cases hr:rk i with
  | zero=>rw [hr] at h1;exact h1.elim
  | succ k =>
   rw [hr] at h1
   have:=(d j (callsIn_lt (hu i hi) hj)).2 k (h1 j hj)
   omega
 exact ⟨rk,fun i hi=>hc_le _ fun j hj=>f i hi j hj,f⟩
def bodyN (fs:List FE):Nat→Nat→WE
 | 0,_=>default
 | k+1,i=>growT fs (bodyN fs k) (fs.getD i default).b
mutual
theorem growT_congr {fs:List FE} {bd bd':Nat→WE}:∀ x:Ex,(∀ j,callsIn fs x j→bd j=bd' j)→growT fs bd x=growT fs bd' x
 | .mk o n u m l,h=>by
  have hl:=growL_congr (fs:=fs) (bd:=bd) (bd':=bd') l fun y hy j hj=>h j (callsIn_of (.inr ⟨y,hy,hj⟩))
  rw [growT,growT,hl];by_cases h3:o=3
  ·rw [if_pos h3,if_pos h3,h _ (callsIn_of (.inl ⟨h3,rfl⟩))]
  ·rw [if_neg h3,if_neg h3]
theorem growL_congr {fs:List FE} {bd bd':Nat→WE}:∀ l:List Ex,(∀ y ∈ l,∀ j,callsIn fs y j→bd j=bd' j)→growL fs bd l=growL fs bd' l
 | [],_=>rfl
 | x :: l,h=>by rw [growL,growL,growT_congr x (h x (List.mem_cons_self ..)),growL_congr l fun y hy=>h y (List.mem_cons_of_mem _ hy)]
end
theorem bodyN_stable {fs:List FE} {rk:Nat→Nat} (hu:∀ i,i < fs.length→anyN (unk fs) (fs.getD i default).b=false) (hr:∀ i,i < fs.length→∀ j,callsIn fs (fs.getD i default).b j→rk j < rk i):∀ (k k' i:Nat),i < fs.length→rk i < k→rk i < k'→bodyN fs k i=bodyN fs k' i
 | 0,_,_,_,h,_=>by omega
 | _+1,0,_,_,_,h=>by omega
 | k+1,k'+1,i,hi,h1,h2=>by
  rw [bodyN,bodyN];exact growT_congr _ fun j hj=>bodyN_stable hu hr k k' j (callsIn_lt (hu i hi) hj) (by have:=hr i hi j hj;omega) (by have:=hr i hi j hj;omega)
def sized (w:WE):Prop:=w.full=false→(sz w.x:Int)=w.n
theorem szL_app (a b:List Ex):szL (a ++b)=szL a+szL b:=by
 induction a with
 | nil=>rw [List.nil_append,szL];omega
 | cons x a ih=>rw [List.cons_append,szL,szL,ih];omega
theorem joinL_sized {o n:Int} {u m:ByteArray}:∀ (l:List WE) (acc:List Ex) (a v:Int),(∀ y ∈ l,sized y)→a=1+(szL acc:Int)→sized (joinL o n u m acc a v l)
 | [],acc,a,v,_,h=>fun _=>by rw [joinL];show ((1+szL acc:Nat):Int)=a;omega
 | y :: l,acc,a,v,h,ha=>by
  rw [joinL];split
  ·intro hf;cases hf
  ·rename_i hc
   have hy:y.full=false:=by
    cases hf:y.full with
    | false=>rfl
    | true=>exact absurd (.inl (.inl hf)) hc
   refine joinL_sized l _ _ _ (fun z hz=>h z (List.mem_cons_of_mem _ hz)) ?_;rw [szL_app,szL,szL,← h y (List.mem_cons_self ..) hy];omega
theorem getD_all {p:WE→Prop} {A:List WE} (h:∀ y ∈ A,p y) (hd:p default) (k:Nat):p (A.getD k default):=by
 rw [List.getD_eq_getElem?_getD];cases hk:A[k]? with
 | none=>exact hd
 | some y=>exact h y (List.mem_of_getElem? hk)
mutual
theorem putE_all {p:WE→Prop} {P:List DParam} {A:List WE} (hA:∀ y ∈ A,p y) (hd:p default) (hj:∀ (o n:Int) (u m:ByteArray) (l:List WE),o≠1→(∀ y ∈ l,p y)→p (joinL o n u m [] 1 1 l)):∀ x:Ex,p (putE P A x)
 | .mk o n u m l=>by
  rw [putE];split
  ·exact getD_all hA hd _
  ·rename_i ho;exact putL_all hA hd hj ho l [] (fun y hy=>by cases hy)
theorem putL_all {p:WE→Prop} {P:List DParam} {A:List WE} {o n:Int} {u m:ByteArray} (hA:∀ y ∈ A,p y) (hd:p default) (hj:∀ (o n:Int) (u m:ByteArray) (l:List WE),o≠1→(∀ y ∈ l,p y)→p (joinL o n u m [] 1 1 l)) (ho:o≠1):∀ (l:List Ex) (acc:List WE),(∀ y ∈ acc,p y)→p (putL P A o n u m acc l)
 | [],acc,ha=>by rw [putL];exact hj _ _ _ _ _ ho ha
 | y :: l,acc,ha=>by
  rw [putL];split
  ·exact putE_all hA hd hj y
  ·refine putL_all hA hd hj ho l _ fun z hz=>?_;rcases List.mem_append.1 hz with hz | hz
   ·exact ha z hz
   ·rw [List.mem_singleton.1 hz];exact putE_all hA hd hj y
end
theorem sized_default:sized default:=fun _=>rfl
theorem sized_full:sized fullW:=fun h=>by cases h
mutual
theorem growT_sized (fs:List FE) (bd:Nat→WE):∀ x:Ex,sized (growT fs bd x)
 | .mk o n u m l=>by
  rw [growT];split
  ·split
   ·exact sized_full
   ·exact putE_all (growL_sized fs bd l) sized_default (fun o n u m l _ h=>joinL_sized l _ _ _ h rfl) _
  ·exact joinL_sized _ _ _ _ (growL_sized fs bd l) rfl
theorem growL_sized (fs:List FE) (bd:Nat→WE):∀ l:List Ex,∀ y ∈ growL fs bd l,sized y
 | [],y,hy=>by rw [growL] at hy;cases hy
 | x :: l,y,hy=>by
  rw [growL] at hy;rcases List.mem_cons.1 hy with rfl | hy
  ·exact growT_sized fs bd x
  ·exact growL_sized fs bd l y hy
end
def noSt (ps:List DParam) (w:WE):Prop:=w.full=false→anyN (stray ps) w.x=false
theorem joinL_noSt {ps:List DParam} {o n:Int} {u m:ByteArray} (ho:o=1→0≤pidx ps m):∀ (l:List WE) (acc:List Ex) (a v:Int),(∀ y ∈ l,noSt ps y)→(∀ y ∈ acc,anyN (stray ps) y=false)→noSt ps (joinL o n u m acc a v l)
 | [],acc,a,v,_,h=>fun _=>by
  rw [joinL];show anyN (stray ps) (.mk o n u m acc)=false;rw [anyN,anyNL_any,Bool.or_eq_false_iff];refine ⟨?_,List.any_eq_false.2 fun y hy=>by rw [h y hy];simp⟩;show (decide (o=1) && decide (pidx ps m < 0))=false;by_cases h1:o=1
  ·have:=ho h1
   rw [decide_eq_true h1,Bool.true_and];exact decide_eq_false (by omega)
  ·rw [decide_eq_false h1];rfl
 | y :: l,acc,a,v,h,ha=>by
  rw [joinL];split
  ·intro hf;cases hf
  ·rename_i hc
   have hy:y.full=false:=by
    cases hf:y.full with
    | false=>rfl
    | true=>exact absurd (.inl (.inl hf)) hc
   refine joinL_noSt ho l _ _ _ (fun z hz=>h z (List.mem_cons_of_mem _ hz)) fun z hz=>?_;rcases List.mem_append.1 hz with hz | hz
   ·exact ha z hz
   ·rw [List.mem_singleton.1 hz];exact h y (List.mem_cons_self ..) hy
theorem noSt_default (ps:List DParam):noSt ps default:=fun _=>rfl
mutual
theorem growT_noSt {ps:List DParam} (fs:List FE) (bd:Nat→WE):∀ x:Ex,anyN (stray ps) x=false→noSt ps (growT fs bd x)
 | .mk o n u m l,h=>by
  obtain ⟨h1,h2⟩:=un_mk h;have hl:=growL_noSt (ps:=ps) fs bd l h2;rw [growT];split
  ·split
   ·intro hf;cases hf
   ·exact putE_all hl (noSt_default ps) (fun o n u m l ho h=>joinL_noSt (fun h1=>absurd h1 ho) l _ _ _ h (fun y hy=>by cases hy)) _
  ·refine joinL_noSt (fun h3=>?_) _ _ _ _ hl (fun y hy=>by cases hy);unfold stray at h1;have h1:(decide (o=1) && decide (pidx ps m < 0))=false:=h1;rw [decide_eq_true h3,Bool.true_and] at h1
   have:=of_decide_eq_false h1
   omega
theorem growL_noSt {ps:List DParam} (fs:List FE) (bd:Nat→WE):∀ l:List Ex,(∀ y ∈ l,anyN (stray ps) y=false)→∀ y ∈ growL fs bd l,noSt ps y
 | [],_,y,hy=>by rw [growL] at hy;cases hy
 | x :: l,h,y,hy=>by
  rw [growL] at hy;rcases List.mem_cons.1 hy with rfl | hy
  ·exact growT_noSt fs bd x (h x (List.mem_cons_self ..))
  ·exact growL_noSt fs bd l (fun y hy=>h y (List.mem_cons_of_mem _ hy)) y hy
end
theorem BD_ex {fs:List FE} (h:Check fs=0):∃ (bd:Nat→WE) (rk:Nat→Nat),BD fs bd rk:=by
 obtain ⟨h1,h2,h3⟩:=Check_ok h;have hk:∀ i,i < fs.length→_:=fun i hi=>chk_ok (chkF_all _ _ h2 i (Nat.zero_le _) (by omega));have hu:∀ i,i < fs.length→anyN (unk fs) (fs.getD i default).b=false:=fun i hi=>(hk i hi).2.2.2.2.1;obtain ⟨rk,o,f⟩:=rank_ex hu h3;have d:∀ i,i < fs.length→bodyN fs (rk i+1) i=growT fs (fun j=>bodyN fs (rk j+1) j) (fs.getD i default).b:=fun i hi=>by
  rw [bodyN];exact growT_congr _ fun j hj=>bodyN_stable hu f _ _ j (callsIn_lt (hu i hi) hj) (f i hi j hj) (by omega)
 refine ⟨fun i=>bodyN fs (rk i+1) i,rk,⟨d,fun i hi=>?_,fun i hi hf=>?_,o,fun i hi=>?_,hu,fun i hi=>(hk i hi).2.2.2.2.2,fun i hi=>?_⟩⟩
 ·have:=growT_noSt fs (fun j=>bodyN fs (rk j+1) j) _ (hk i hi).2.2.2.1
  rw [d i hi];exact this
 ·have h5:=growT_sized fs (fun j=>bodyN fs (rk j+1) j) (fs.getD i default).b;have h6:=growT_small fs (fun j=>bodyN fs (rk j+1) j) (fs.getD i default).b;rw [←d i hi] at h5 h6;have h7:=h5 hf;unfold small at h6;show sz (bodyN fs (rk i+1) i).x≤1000;omega
 ·have h8:sz (fs.getD i default).b≤200:=rt_sz (hk i hi).1.2;omega
 ·have h8:((fs.getD i default).p.length:Int)≤6:=(hk i hi).1.1.1.2.2;omega
noncomputable def bdF (fs:List FE):Nat→WE:=open Classical in if h:Check fs=0 then Classical.choose (BD_ex h) else fun _=>default
theorem bdF_spec {fs:List FE} (h:Check fs=0):∃ rk,BD fs (bdF fs) rk:=by
 unfold bdF;rw [dif_pos h];exact Classical.choose_spec (BD_ex h)
noncomputable def xpd (fs:List FE) (x:Ex):Ex × Int :=
 if ¬ rt x∨Check fs≠0 then (z0,2) else if anyN (unk fs) x=true then (z0,11) else if anyN (unev fs) x=true then (z0,1)
 else if (growT fs (bdF fs) x).full=true then (z0,6) else ((growT fs (bdF fs) x).x,0)
theorem xpd2 {fs:List FE} {x:Ex} (h:¬ rt x∨Check fs≠0):xpd fs x=(z0,2):=if_pos h
theorem xpd11 {fs:List FE} {x:Ex} (h:rt x) (hc:Check fs=0) (hu:anyN (unk fs) x=true):xpd fs x=(z0,11):=by unfold xpd;rw [if_neg (by rintro (k | k);exact k h;exact k hc),if_pos hu]
theorem xpd1 {fs:List FE} {x:Ex} (h:rt x) (hc:Check fs=0) (hu:anyN (unk fs) x=false) (hv:anyN (unev fs) x=true):xpd fs x=(z0,1):=by unfold xpd;rw [if_neg (by rintro (k | k);exact k h;exact k hc),if_neg (by rw [hu];simp),if_pos hv]
theorem xpd6 {fs:List FE} {x:Ex} (h:rt x) (hc:Check fs=0) (hu:anyN (unk fs) x=false) (hv:anyN (unev fs) x=false) (hf:(growT fs (bdF fs) x).full=true):xpd fs x=(z0,6):=by unfold xpd;rw [if_neg (by rintro (k | k);exact k h;exact k hc),if_neg (by rw [hu];simp),if_neg (by rw [hv];simp),if_pos hf]
theorem xpd0 {fs:List FE} {x:Ex} (h:rt x) (hc:Check fs=0) (hu:anyN (unk fs) x=false) (hv:anyN (unev fs) x=false) (hf:(growT fs (bdF fs) x).full=false):xpd fs x=((growT fs (bdF fs) x).x,0):=by unfold xpd;rw [if_neg (by rintro (k | k);exact k h;exact k hc),if_neg (by rw [hu];simp),if_neg (by rw [hv];simp),if_neg (by rw [hf];simp)]
theorem growT_sz {fs:List FE} {bd:Nat→WE} {x:Ex} (h:(growT fs bd x).full=false):sz (growT fs bd x).x≤200:=by
 have h1:=growT_sized fs bd x h;have h2:=growT_small fs bd x;unfold small at h2;omega
def nd (l:List Ex):Ex:=.mk 0 0 ByteArray.empty ByteArray.empty l
theorem nd_of {l:List DExpr} {s:SV} {m:List Ex} (h:l.map er=m):er (DExpr.mk 0 0 ByteArray.empty ByteArray.empty ⟨l,s⟩)=nd m:=by rw [er_mk,h];rfl
theorem nd_l (m:List Ex) (g:GT):(tr (nd m) g).Args.l.map er=m:=by rw [←er_l,er_tr];rfl
end Zd

open Go
namespace Zd
def ew (w:Dwhole):WE:=⟨er w.x,w.nodes,w.levels,w.full⟩
theorem ew_tr (w:WE) (g:GT):ew (Dwhole.mk (tr w.x g) w.n w.v w.full)=w:=by unfold ew;rw [er_tr]
def Qm (len:Nat) (bd:Nat→WE) (m:List (Int × Dwhole)):Prop:=∀ i w,mlook i m=some w→(0≤i∧i < len)∧ew w=bd i.toNat
theorem Qm_get {len:Nat} {bd:Nat→WE} {m:List (Int × Dwhole)} {i:Int} {w:Dwhole} {b:Bool} (h:Qm len bd m) (hw:w=(mlook i m).getD default) (hb:b=(mlook i m).isSome) (ht:b=true):ew w=bd i.toNat:=by
 rw [hb] at ht;obtain ⟨v,hv⟩:=Option.isSome_iff_exists.1 ht;rw [hv] at hw;rw [hw];exact (h i v hv).2
theorem Qm_nil {len:Nat} {bd:Nat→WE}:Qm len bd []:=fun i w h=>by cases h
theorem Qm_upd {len:Nat} {bd:Nat→WE} {m:List (Int × Dwhole)} {i:Int} {w:Dwhole} (h:Qm len bd m) (hi:0≤i∧i < len) (hw:ew w=bd i.toNat):Qm len bd (mupd i w m):=fun j v hj=>by
 rw [mlook_upd] at hj;by_cases e:j=i
 ·rw [if_pos e] at hj;cases hj;subst e;exact ⟨hi,hw⟩
 ·rw [if_neg e] at hj;exact h j v hj
end Zd

open Go
namespace Zo
open Fx Sx Zc Zd
noncomputable def okE (fs:List FE) (cs:List DCell):Bool:=cs.all fun c=>decide ((xpd fs (er c.Def)).2=0)
noncomputable def exs (fs:List FE) (cs:List DCell):List Ex:=cs.map fun c=>(xpd fs (er c.Def)).1
def snd (nm:ByteArray) (a:List DImport) (b:List DInput) (t:List DTable) (f:List DFunc) (c:List DCell) (p:List DPort) (d:List DStore) (r:List DRecipe):Prop :=
 (Rt nm a b t f c p d r∧Check (f.map fe)=0)∧okE (f.map fe) c=true
noncomputable instance (nm : ByteArray) (a : List DImport) (b : List DInput) (t : List DTable) (f : List DFunc) (c : List DCell) (p : List DPort) (d : List DStore) (r : List DRecipe) : Decidable (snd nm a b t f c p d r) := by unfold snd; infer_instance
theorem okE_no {fs:List FE} {cs:List DCell} {k:Int} {c:DCell} (h0:0≤k) (hk:k < cs.length) (hc:c=cs.getD k.toNat default) (h:(xpd fs (er c.Def)).2≠0):okE fs cs=false:=by
 unfold okE;refine List.all_eq_false.2 ⟨c,?_,by rw [decide_eq_false h];simp⟩;rw [hc];exact getD_mem (by omega) rfl
theorem okE_all {fs:List FE} {cs:List DCell} (h:∀ j,j < cs.length→(xpd fs (er (cs.getD j default).Def)).2=0):okE fs cs=true:=by
 unfold okE;refine List.all_eq_true.2 fun c hc=>decide_eq_true ?_
 obtain ⟨i,hi,rfl⟩:=List.getElem_of_mem hc
 have:=h i hi
 rwa [List.getD_eq_getElem?_getD,List.getElem?_eq_getElem hi] at this
theorem set_getD {α:Type} [Inhabited α] {l:List α} {i j:Nat} {x:α}:(l.set i x).getD j default=if i=j∧i < l.length then x else l.getD j default:=by
 rw [List.getD_eq_getElem?_getD,List.getElem?_set,List.getD_eq_getElem?_getD];by_cases e:i=j
 ·subst e;by_cases h:i < l.length
  ·simp [h]
  ·simp [h,List.getElem?_eq_none (Nat.le_of_not_lt h)]
 ·simp [e]
theorem exs_of {fs:List FE} {cs:List DCell} {b:List DExpr} (hl:b.length=cs.length) (h:∀ j,j < cs.length→er (b.getD j default)=(xpd fs (er (cs.getD j default).Def)).1):b.map er=exs fs cs:=by
 unfold exs;refine List.ext_getElem (by simp [hl]) fun j h1 h2=>?_;simp only [List.length_map] at h1 h2
 have:=h j h2
 rw [List.getD_eq_getElem?_getD,List.getElem?_eq_getElem h1,List.getD_eq_getElem?_getD,List.getElem?_eq_getElem h2] at this
 simpa using this
mutual
def nmE (ix:List (ByteArray × Int)) (m:List (Int × Bool)):Ex→List (Int × Bool)
 | .mk o _ _ nm ls=>nmL ix (if (mlook nm ix).isSome=true∧o=1 then mupd ((mlook nm ix).getD 0) true m else m) ls
def nmL (ix:List (ByteArray × Int)) (m:List (Int × Bool)):List Ex→List (Int × Bool)
 | []=>m
 | x :: l=>nmL ix (nmE ix m x) l
end
theorem nmL_fold (ix:List (ByteArray × Int)):∀ (l:List Ex) (m:List (Int × Bool)),nmL ix m l=l.foldl (nmE ix) m
 | [],m=>rfl
 | x :: l,m=>by rw [nmL,nmL_fold ix l];rfl
def nmT (ix:List (ByteArray × Int)) (m:List (Int × Bool)) (x:DExpr):List (Int × Bool):=if (mlook x.Name ix).isSome=true∧x.Op=1 then mupd ((mlook x.Name ix).getD 0) true m else m
theorem nmE_er (ix:List (ByteArray × Int)) (m:List (Int × Bool)) (x:DExpr):nmE ix m (er x)=(x.Args.l.map er).foldl (nmE ix) (nmT ix m x):=by
 rw [er_is,nmE,nmL_fold];rfl
theorem fold_step {α β γ:Type} [Inhabited α] {f:β→γ→β} {g:α→γ} {l:List α} {k:Int} {x:α} {m m0:β} (h:m=((l.take k.toNat).map g).foldl f m0) (h0:0≤k) (hk:k < l.length) (hx:x=l.getD k.toNat default):f m (g x)=((l.take (k+1).toNat).map g).foldl f m0:=by
 rw [h,show (l.take (k+1).toNat).map g=(l.take k.toNat).map g ++[g x] by rw [List.map_take,List.map_take,map_take h0 hk hx],List.foldl_append];rfl
theorem fold_all {α β γ:Type} {f:β→γ→β} {g:α→γ} {l:List α} {k:Int} {m m0:β} (h:m=((l.take k.toNat).map g).foldl f m0) (hk:(l.length:Int)≤k):m=(l.map g).foldl f m0:=by
 rw [h,List.take_of_length_le (by omega)]
def ixR:List ByteArray→Int→List (ByteArray × Int)→List (ByteArray × Int)
 | [],_,m=>m
 | x :: l,i,m=>ixR l (i+1) (mupd x i m)
theorem ixR_step {cs:List DCell} {k:Int} {c:DCell} {m m0:List (ByteArray × Int)} (h:ixR ((cs.drop k.toNat).map (·.Name)) k m=m0) (h0:0≤k) (hk:k < cs.length) (hc:c=cs.getD k.toNat default):ixR ((cs.drop (k+1).toNat).map (·.Name)) (k+1) (mupd c.Name k m)=m0:=by
 rw [←h,show (k+1).toNat=k.toNat+1 by omega,List.drop_eq_getElem_cons (show k.toNat < cs.length by omega),List.map_cons,ixR];rw [hc,List.getD_eq_getElem?_getD,List.getElem?_eq_getElem (show k.toNat < cs.length by omega)];rfl
theorem ixR_end {cs:List DCell} {k:Int} {m m0:List (ByteArray × Int)} (h:ixR ((cs.drop k.toNat).map (·.Name)) k m=m0) (hk:(cs.length:Int)≤k):m=m0:=by
 rw [←h,List.drop_eq_nil_of_le (by omega)];rfl
def ixS (cs:List DCell):List (ByteArray × Int):=ixR (cs.map (·.Name)) 0 []
def rowM (m:List (Int × Bool)) (k:Nat):List Int:=((List.range k).map Int.ofNat).filter fun j=>(mlook j m).getD default
theorem rowM_step (m:List (Int × Bool)) (k:Int) (h:0≤k):rowM m (k+1).toNat=rowM m k.toNat ++(if (mlook k m).getD default=true then [k] else []):=by
 unfold rowM;rw [show (k+1).toNat=k.toNat+1 by omega,List.range_succ,List.map_append,List.filter_append]
 congr 1
 simp only [List.map_cons,List.map_nil,List.filter_cons,List.filter_nil];rw [show Int.ofNat k.toNat=k from Int.toNat_of_nonneg h]
theorem rowM_len (m:List (Int × Bool)) (k:Nat):(rowM m k).length≤k:=by
 unfold rowM;refine Nat.le_trans (List.length_filter_le _ _) (by simp)
def row (ix:List (ByteArray × Int)) (n:Nat) (e:Ex):List Int:=rowM (nmE ix [] e) n
def rowsK (ix:List (ByteArray × Int)) (es:List Ex) (n k:Nat):List (List Int):=(es.take k).map (row ix n) ++List.replicate (es.length - k) []
@[simp] theorem rowsK_len (ix:List (ByteArray × Int)) (es:List Ex) (n k:Nat):(rowsK ix es n k).length=es.length:=by
 unfold rowsK;simp;omega
theorem rowsK_0 (ix:List (ByteArray × Int)) (es:List Ex) (n:Nat):rowsK ix es n 0=List.replicate es.length []:=by simp [rowsK]
theorem rowsK_set {ix:List (ByteArray × Int)} {es:List Ex} {n:Nat} {k:Nat} (hk:k < es.length) (l:List Int):(rowsK ix es n k).set k l=(es.take k).map (row ix n) ++l :: List.replicate (es.length - (k+1)) []:=by
 have hl:((es.take k).map (row ix n)).length=k:=by simp;omega
 unfold rowsK;rw [List.set_append,if_neg (by omega),hl,Nat.sub_self,show es.length - k=(es.length - (k+1))+1 by omega,List.replicate_succ,List.set_cons_zero]
theorem rowsK_id {ix:List (ByteArray × Int)} {es:List Ex} {n:Nat} {k:Nat} (hk:k < es.length):(rowsK ix es n k).set k []=rowsK ix es n k:=by
 rw [rowsK_set hk];unfold rowsK;rw [show es.length - k=(es.length - (k+1))+1 by omega,List.replicate_succ]
theorem rowsK_step {ix:List (ByteArray × Int)} {es:List Ex} {n:Nat} {k:Nat} {e:Ex} (hk:k < es.length) (he:es.getD k default=e):(rowsK ix es n k).set k (row ix n e)=rowsK ix es n (k+1):=by
 rw [rowsK_set hk];unfold rowsK;rw [←he,List.getD_eq_getElem?_getD,List.getElem?_eq_getElem hk,List.take_add_one,List.getElem?_eq_getElem hk,List.map_append,List.append_assoc];rfl
theorem getD_set {l:List (List Int)} {k:Nat} {x:List Int} (h:k < l.length):(l.set k x).getD k []=x:=by
 simp [List.getD_eq_getElem?_getD,h]
noncomputable def grf (fs:List FE) (cs:List DCell):List (List Int):=(exs fs cs).map (row (ixS cs) cs.length)
theorem rowsK_end {ix:List (ByteArray × Int)} {es:List Ex} {n k:Nat} (h:es.length≤k):rowsK ix es n k=es.map (row ix n):=by
 unfold rowsK;rw [List.take_of_length_le h,Nat.sub_eq_zero_of_le h];simp
theorem grf_len (fs:List FE) (cs:List DCell):(grf fs cs).length=cs.length:=by simp [grf,exs]
theorem exs_len (fs:List FE) (cs:List DCell):(exs fs cs).length=cs.length:=by simp [exs]
def stepD (G:List (List Int)) (s:Int) (d:List Int) (i:Nat):List Int:=if d.getD i default < 0∧(G.getD i []).any (fun y=>decide (d.getD y.toNat default=s - 1))=true then d.set i s else d
def roundK (G:List (List Int)) (s:Int) (d:List Int) (k:Nat):List Int:=(List.range k).foldl (stepD G s) d
def farK (G:List (List Int)) (goal k:Nat):List Int:=(List.range k).foldl (fun (d:List Int) (j:Nat)=>roundK G ((j:Int)+1) d G.length) ((List.replicate G.length (-1)).set goal 0)
def farD (G:List (List Int)) (goal:Nat):List Int:=farK G goal (G.length - 1)
theorem stepD_len (G:List (List Int)) (s:Int) (d:List Int) (i:Nat):(stepD G s d i).length=d.length:=by
 unfold stepD;split <;> simp
theorem roundK_succ (G:List (List Int)) (s:Int) (d:List Int) (k:Nat):roundK G s d (k+1)=stepD G s (roundK G s d k) k:=by
 unfold roundK;rw [List.range_succ,List.foldl_append];rfl
theorem roundK_len (G:List (List Int)) (s:Int) (d:List Int) (k:Nat):(roundK G s d k).length=d.length:=by
 induction k with
 | zero=>rfl
 | succ k ih=>rw [roundK_succ,stepD_len,ih]
theorem farK_succ (G:List (List Int)) (goal k:Nat):farK G goal (k+1)=roundK G ((k:Int)+1) (farK G goal k) G.length:=by
 unfold farK;rw [List.range_succ,List.foldl_append];rfl
theorem farK_len (G:List (List Int)) (goal k:Nat):(farK G goal k).length=G.length:=by
 induction k with
 | zero=>simp [farK]
 | succ k ih=>rw [farK_succ,roundK_len,ih]
theorem stepD_yes {G:List (List Int)} {s:Int} {d:List Int} {i:Nat} {l:List Int} (hl:G.getD i []=l) (h1:d.getD i default < 0) (h2:l.any (fun y=>decide (d.getD y.toNat default=s - 1))=true):stepD G s d i=d.set i s:=by
 unfold stepD;rw [hl,if_pos ⟨h1,h2⟩]
theorem stepD_no {G:List (List Int)} {s:Int} {d:List Int} {i:Nat} {l:List Int} (hl:G.getD i []=l) (h:¬ (d.getD i default < 0∧l.any (fun y=>decide (d.getD y.toNat default=s - 1))=true)):stepD G s d i=d:=by
 unfold stepD;rw [hl,if_neg h]
theorem fill_step {n:Nat} {k:Int} (h0:0≤k) (hk:k < n):(List.replicate k.toNat (-1:Int) ++List.replicate (n - k.toNat) 0).set k.toNat (-1)=List.replicate (k+1).toNat (-1:Int) ++List.replicate (n - (k+1).toNat) 0:=by
 rw [List.set_append,if_neg (by simp),List.length_replicate,Nat.sub_self,show n - k.toNat=(n - (k+1).toNat)+1 by omega,List.replicate_succ,List.set_cons_zero,show (k+1).toNat=k.toNat+1 by omega,List.replicate_succ',List.append_assoc];rfl
theorem fill_end {n:Nat} {k:Int} (hk:(n:Int)=k):List.replicate k.toNat (-1:Int) ++List.replicate (n - k.toNat) 0=List.replicate n (-1):=by
 rw [show k.toNat=n by omega,Nat.sub_self];simp
end Zo

namespace Zu
theorem all0 {α:Type} [Inhabited α] (p:α→Bool) (l:List α):∀ j:Nat,j < (0:Int).toNat→p (l.getD j default)=true:=fun j h=>absurd h (Nat.not_lt_zero _)
theorem all_step {α:Type} [Inhabited α] {p:α→Bool} {l:List α} {i:Int} {x:α} (h:∀ j:Nat,j < i.toNat→p (l.getD j default)=true) (h0:0≤i) (hx:x=l.getD i.toNat default) (hp:p x=true):∀ j:Nat,j < (i+1).toNat→p (l.getD j default)=true:=fun j hj=>by
 by_cases e:j < i.toNat
 ·exact h j e
 ·rw [show j=i.toNat by omega,← hx];exact hp
theorem all_end {α:Type} [Inhabited α] {p:α→Bool} {l:List α} {i:Int} (h:∀ j:Nat,j < i.toNat→p (l.getD j default)=true) (hi:(l.length:Int)≤i):l.all p=true:=by
 refine List.all_eq_true.2 fun x hx=>?_;obtain ⟨j,hj,rfl⟩:=List.getElem_of_mem hx
 have:=h j (by omega)
 rwa [List.getD_eq_getElem?_getD,List.getElem?_eq_getElem hj] at this
theorem all_no {α:Type} [Inhabited α] {p:α→Bool} {l:List α} {i:Int} {x:α} (h0:0≤i) (hi:i < (l.length:Int)) (hx:x=l.getD i.toNat default) (hp:p x=false):l.all p=false:=by
 refine List.all_eq_false.2 ⟨x,?_,by rw [hp];simp⟩;rw [hx];exact getD_mem (by omega) rfl
theorem not_true {b:Bool} (h:¬ b=true):b=false:=by cases b;rfl;exact absurd rfl h
mutual
def siz:Ex→Int→Int→Int
 | .mk _ _ _ _ l,n,v=>if n < 1∨v < 1 then -1 else sizL l n v 1
def sizL:List Ex→Int→Int→Int→Int
 | [],_,_,a=>a
 | x :: l,n,v,a=>if siz x (n - a) (v - 1) < 0 then -1 else sizL l n v (a+siz x (n - a) (v - 1))
end
theorem siz_er (x:DExpr) (n v:Int):siz (er x) n v=if n < 1∨v < 1 then -1 else sizL (x.Args.l.map er) n v 1:=by
 obtain ⟨o,m,u,k,⟨l,s⟩⟩:=x;rw [er_mk,siz]
mutual
theorem siz_rng:∀ (x:Ex) (n v:Int),siz x n v= -1∨(1≤siz x n v∧siz x n v≤n)
 | .mk _ _ _ _ l,n,v=>by
  rw [siz];split
  ·exact .inl rfl
  ·have:=sizL_rng l n v 1 (by omega)
   omega
theorem sizL_rng:∀ (l:List Ex) (n v a:Int),1≤a∧a≤n→sizL l n v a= -1∨(a≤sizL l n v a∧sizL l n v a≤n)
 | [],n,v,a,h=>by rw [sizL];omega
 | x :: l,n,v,a,h=>by
  rw [sizL];have h1:=siz_rng x (n - a) (v - 1);split
  ·exact .inl rfl
  ·have:=sizL_rng l n v (a+siz x (n - a) (v - 1)) (by omega)
   omega
end
theorem sizL_step {l:List DExpr} {i n v a:Int} {y:DExpr} (h0:0≤i) (hi:i < l.length) (hy:y=l.getD i.toNat default):sizL ((l.map er).drop i.toNat) n v a=if siz (er y) (n - a) (v - 1) < 0 then -1 else sizL ((l.map er).drop (i+1).toNat) n v (a+siz (er y) (n - a) (v - 1)):=by
 have b:i.toNat < l.length:=by omega
 have e:l[i.toNat]=y:=by rw [hy,List.getD_eq_getElem?_getD,List.getElem?_eq_getElem b];rfl
 rw [List.drop_eq_getElem_cons (by simpa using b),List.getElem_map,e,sizL,show (i+1).toNat=i.toNat+1 by omega]
def fw (x:Ex) (n v:Int):Bool:=decide (0≤siz x n v)
def sh60 (s:ByteArray):Bool:=decide ((s.size:Int)≤60)
def shrt (l:List ByteArray) (m:Int):Bool:=decide ((l.length:Int)≤m) && l.all sh60
def stpF (x:DStep):Bool:=((shrt x.In.l 102 && shrt x.Out.l 102) && shrt x.Cells.l 102) && shrt [x.Name] 1
def stpsF (l:List DStep):Bool:=(decide ((l.length:Int)≤30) || (decide (99≤(l.length:Int)) && decide ((l.length:Int)≤102))) && l.all stpF
def exF (x:Ex):Bool:=fw x 60 12 || (!fw x 200 20 && fw x 260 30)
def names (a:List DImport) (b:List DInput) (t:List DTable) (f:List DFunc) (c:List DCell) (p:List DPort) (d:List DStore):List ByteArray :=
 a.map (·.Name) ++b.map (·.Name) ++t.map (·.Name) ++f.map (·.Name) ++c.map (·.Name) ++p.map (·.Name) ++d.map (·.Name)
def recF (x:DRecipe):Bool:=stpsF x.Steps.l && sh60 x.Kind
def tabF (x:DTable):Bool:=decide ((x.Rows.l.length:Int)≤110) && sh60 x.Unit
def parF (x:DParam):Bool:=sh60 x.Name && sh60 x.Unit
def funF (x:DFunc):Bool:=(decide ((x.Params.l.length:Int)≤8) && exF (er x.Body)) && x.Params.l.all parF
def celF (x:DCell):Bool:=sh60 x.Unit && exF (er x.Def)
def few20 (nm:ByteArray) (a:List DImport) (b:List DInput) (t:List DTable) (f:List DFunc) (c:List DCell) (p:List DPort) (d:List DStore) (r:List DRecipe):Bool :=
 (((((shrt (names a b t f c p d) 105 && decide ((r.length:Int)≤8)) && sh60 nm) && r.all recF) && t.all tabF) && f.all funF) && c.all celF
def fun21 (x:DFunc):Bool:=fw (er x.Body) 60 12
def cel21 (x:DCell):Bool:=fw (er x.Def) 60 12
def few21 (nm:ByteArray) (a:List DImport) (b:List DInput) (t:List DTable) (f:List DFunc) (c:List DCell) (p:List DPort) (d:List DStore) (r:List DRecipe):Bool :=
 (((few20 nm a b t f c p d r && decide ((c.length:Int)≤7)) && decide ((f.length:Int)≤5)) && c.all cel21) && f.all fun21
theorem snoc_take {α β:Type} [Inhabited α] {g:α→β} {l:List α} {k:Int} {y:α} {m:List β} (h0:0≤k) (hk:k < l.length) (hy:y=l.getD k.toNat default):(m ++(l.map g).take k.toNat) ++[g y]=m ++(l.map g).take (k+1).toNat:=by
 rw [List.append_assoc,Zd.map_take h0 hk hy]
theorem has_no {l:List Int} {n i:Int} (h:∀ j:Nat,j < i.toNat→l.getD j default≠n) (hi:(l.length:Int)≤i):n ∉ l:=fun hm=>by
 obtain ⟨j,hj,e⟩:=List.getElem_of_mem hm;refine h j (by omega) ?_;rw [List.getD_eq_getElem?_getD,List.getElem?_eq_getElem hj,e];rfl
theorem eq_list {a b:List Int} {i:Int} (h:∀ j:Nat,j < i.toNat→a.getD j default=b.getD j default) (hl:a.length=b.length) (hi:(a.length:Int)≤i):a=b:=by
 refine List.ext_getElem hl fun j h1 h2=>?_
 have:=h j (by omega)
 rw [List.getD_eq_getElem?_getD,List.getElem?_eq_getElem h1,List.getD_eq_getElem?_getD,List.getElem?_eq_getElem h2] at this;exact this
end Zu

open Go
def exV:Option (Result Next)→Value
 | some (.ok (.value v) _)=>v
 | _=>undef
def exB:Option (Result Next)→Array Value × TypeId
 | some (.ok _ w)=>match w.heap.toList with
  | [.cells a T _]=>(a,T)
  | _=>(#[],0)
 | _=>(#[],0)
def mark {P:Program} (m:List Nat):Hint P where
 d:={ val:=fun _=>undef }
 τ:=Nat
 lhs _ _ _ _ _:=0
 rhs _ _ _ _ _:=1
 sound c _ _ _ _ h:=by cases h (fun _=>{}) {} c.w0
 m:=m
section
variable {P : Program} (E : Env P) (S : Stop) (t : St) (acc : List (Hint P))
def auR:RC:={ ops:=S.ops,cs:=acc.map fun h=>{ val:=h.d.val,ups:=h.d.news.map fun q=>(q.1,fun G=>(q.2.1 G).ent (q.2.2 G)) },B:=befsL S.ops.toList [],sl:=t.sl,A:=[],L:=ents t.L fun _=>none }
def auV:Hint P:=Hint.v fun G=>exV ((auR S t acc).ex P G acc.length E.w0)
def auO:Nat:=match (auR S t acc).ldr (fun _=>{}) acc.length with
 | some (_,a)=>(addrOf a).off
 | none=>0
def auL (r:Nat):Hint P:=Hint.ld r (auO S t acc) (aggB P ((auR S t acc).ldt acc.length)) fun G=>(List.range ((sizeT P ((auR S t acc).ldt acc.length)).getD 0)).map fun j=>(entA ((auR S t acc).entAt G acc.length r)).getD (auO S t acc+j) undef
def auS (r:Nat):Hint P:=Hint.st r fun G=>.blk (entB ((auR S t acc).entAt G acc.length r)) (writeA (entA ((auR S t acc).entAt G acc.length r)) ((auR S t acc).sta G acc.length) ((auR S t acc).stv G acc.length).cells.toList) (entT ((auR S t acc).entAt G acc.length r))
def auN (r:Nat):Hint P:=Hint.nb acc.length r (fun b=>pp b 0) (exB ((auR S t acc).ex P (fun _=>{}) acc.length { E.w0 with heap:=#[] })).2 fun G=>(exB ((auR S t acc).ex P G acc.length { E.w0 with heap:=#[] })).1
end
def Hint.u {P:Program} (n:Nat):Hint P:=mark [0,n]
def Hint.l {P:Program} (r:Nat):Hint P:=mark [1,r]
def Hint.s {P:Program} (r:Nat):Hint P:=mark [2,r]
def Hint.n {P:Program} (r:Nat):Hint P:=mark [3,r]
def fillN {P:Program} (E:Env P) (S:Stop) (t:St):Nat→List (Hint P)→List (Hint P)
 | 0,acc=>acc
 | n+1,acc=>fillN E S t n (acc ++[auV E S t acc])
def fill {P:Program} (E:Env P) (S:Stop) (t:St):List (Hint P)→List (Hint P)→List (Hint P)
 | [],acc=>acc
 | h :: l,acc=>match h.m with
  | [0,n]=>fill E S t l (fillN E S t n acc)
  | [1,r]=>fill E S t l (acc ++[auL S t acc r])
  | [2,r]=>fill E S t l (acc ++[auS S t acc r])
  | [3,r]=>fill E S t l (acc ++[auN E S t acc r])
  | _=>fill E S t l (acc ++[h])
theorem V.gf {P:Program} {E:Env P} {S:Stop} {t:St} (hs:List (Hint P)) (k:∀ N ε G,let S':=S.next;let t':=post (cxOf E S t (fill E S t hs []) N ε) G;V E S' t')
  (hk:∀ N ε,(S,(cxOf E S t (fill E S t hs []) N ε).R.check E.nt,(fill E S t hs []).length,lhsAll (cxOf E S t (fill E S t hs []) N ε) (fill E S t hs []) 0)=(.reg S.rid S.ops S.dr S.K,true,S.ops.size,rhsAll (cxOf E S t (fill E S t hs []) N ε) (fill E S t hs []) 0):=by intro _ _;kernel_rfl):V E S t:=V.go (fill E S t hs []) hk k
section
variable {α : Type} [Dat α] {l : List α}
def kF (i:Nat) (l:List α) (s:SV):Kw α l fun _=>s:=kf false (.f i) l fun _=>s
def kG (i:Nat) (l:List α) (s:SV):Kw α l fun _=>s:=kf true (.f i) l fun _=>s
def kA (i:Nat) (l:List α) (s:SV):Kv:=(kf false (.f i) l fun _=>s).a
def kB (i:Nat) (l:List α) (s:SV):Kv:=(kf true (.f i) l fun _=>s).a
def kO (E r:Nat) (l:List α) (s:SV):Kw α l fun _=>s:=ko true E r l fun _=>s
end
namespace Hint
variable {P : Program}
def cA (i f:Nat) (qs:List Kv) {b:Gh→Array Value} {V:Gh→Rec→Value} {F':Gh→Rec→List FP} {L':Gh→Rec→List LE} {pu:Gh→Rec→List Prop} (h:∀ G,Ct P f (b G) (qs.map (Kv.fp G)) [] (V G) (F' G) (L' G) (pu G)):Hint P:=ct g0 i f false [] [] qs fun _=>h
def cB (i f:Nat) (ex:Bool) (rs ns:List Nat) (qs:List Kv) {b:Gh→Array Value} {L:Gh→List LE} {V:Gh→Rec→Value} {F':Gh→Rec→List FP} {L':Gh→Rec→List LE} {pu:Gh→Rec→List Prop} (h:∀ G,Ct P f (b G) (qs.map (Kv.fp G)) (L G) (V G) (F' G) (L' G) (pu G)):Hint P:=ct g0 i f ex rs ns qs fun _=>h
def cP (i f:Nat) (qs:List Kv) {b:Gh→Array Value} {v:Gh→Value} (h:∀ G,Cp P f (b G) (qs.map (Kv.fp G)) (v G)):Hint P:=cp g0 i f qs fun _=>h
variable {α : Type} [Dat α] {l : List α} {s : Gh → SV}
def iX (κ:Kw α l s) (k:Int) (h:0≤k∧k < l.length:=by exact ⟨by omega,by omega⟩):Hint P:=ix g0 κ k fun _=>h
def lE (κ:Kw α l s) (k:Int) (b:Bool) (x:α) (hx:x=l.getD k.toNat default) (a:Bool) (h:0≤k∧k < l.length:=by exact ⟨by omega,by omega⟩):Hint P:=le g0 κ k none b x hx (fun _=>h) a fun _=>Dat.cells x
def aa (t:Int) (lo: -9223372036854775808≤t:=by omega) (hi:t≤9223372036854775807:=by omega):Hint P:=a t lo hi
def aR (t n:Int) (hn:n=t) (lo: -9223372036854775808≤n:=by omega) (hi:n≤9223372036854775807:=by omega):Hint P:=ar t n hn lo hi
end Hint
def rcs (ss:List SV) (b:List (Nat→SV)) (bs:List Nat) (N:Heaplet) (es:Nat→Ent):Rec:={ H:=N,ss:=fun k=>ss.getD k {},sl:=fun k=>b.getD k (fun _=>{}),bs:=fun k=>bs.getD k 0,es:=es }
theorem V.rT {P:Program} {S:Stop} {t:St} {mo:P.follows .mixedOrders=true} {fn:Func} {nt:Nat} {w0:World} {H:Heaplet} {d:List Ent} {V':Rec→Value} {F':Rec→List FP} {L':Rec→List LE} {pu:Rec→List Prop} (rr:List Nat) (ss:List SV) (b:List (Nat→SV)) (bs:List Nat) (fi li:List Nat) {x y:Value} (hc:x=y) (h1:tupV ((fn.results.toList.zip rr).map (resV P t))=x:=by kernel_rfl) (h2:∀ N es,y=V' (rcs ss b bs N es):=by intro _ _;kernel_rfl) (hk:∀ N es,(S.isEnd,fn.results.size == rr.length,(fn.results.toList.zip rr).map (resC P t),tupV ((fn.results.toList.zip rr).map (resV P t)),fi.length,(fi.zip (F' (rcs ss b bs N es))).map (fun p=>(t.F[p.1]?).map fun x=>matchF x p.2),nodup li,li.length,(li.zip (L' (rcs ss b bs N es))).map (fun p=>(t.L[p.1]?).map fun x=>matchL x p.2))=(true,true,(fn.results.toList.zip rr).map (resC' P t),tupV ((fn.results.toList.zip rr).map (resV P t)),(F' (rcs ss b bs N es)).length,(F' (rcs ss b bs N es)).map some,true,(L' (rcs ss b bs N es)).length,(L' (rcs ss b bs N es)).map some):=by intro _ _;kernel_rfl) (hp:∀ N es,conjL (pu (rcs ss b bs N es)):=by intro _ _;trivial):V (fnEnv mo fn nt w0 H d V' F' L' pu) S t:=V.ret rr ss b bs fi li _ hk (fun N es=>(h1.trans hc).trans (h2 N es)) hp
theorem V.rS {P:Program} {S:Stop} {t:St} {mo:P.follows .mixedOrders=true} {fn:Func} {nt:Nat} {w0:World} {H:Heaplet} {d:List Ent} {V':Rec→Value} {F':Rec→List FP} {L':Rec→List LE} {pu:Rec→List Prop} (rr:List Nat) (ss:List SV) (b:List (Nat→SV)) (bs:List Nat) (fi li:List Nat) (h2:∀ N es,tupV ((fn.results.toList.zip rr).map (resV P t))=V' (rcs ss b bs N es):=by intro _ _;kernel_rfl) (hk:∀ N es,(S.isEnd,fn.results.size == rr.length,(fn.results.toList.zip rr).map (resC P t),tupV ((fn.results.toList.zip rr).map (resV P t)),fi.length,(fi.zip (F' (rcs ss b bs N es))).map (fun p=>(t.F[p.1]?).map fun x=>matchF x p.2),nodup li,li.length,(li.zip (L' (rcs ss b bs N es))).map (fun p=>(t.L[p.1]?).map fun x=>matchL x p.2))=(true,true,(fn.results.toList.zip rr).map (resC' P t),tupV ((fn.results.toList.zip rr).map (resV P t)),(F' (rcs ss b bs N es)).length,(F' (rcs ss b bs N es)).map some,true,(L' (rcs ss b bs N es)).length,(L' (rcs ss b bs N es)).map some):=by intro _ _;kernel_rfl) (hp:∀ N es,conjL (pu (rcs ss b bs N es)):=by intro _ _;trivial):V (fnEnv mo fn nt w0 H d V' F' L' pu) S t:=V.ret rr ss b bs fi li _ hk h2 hp
theorem V.lp {P:Program} {E:Env P} {S:Stop} {t:St} {γ:Type} (I:γ→St) (F:γ→Prop) (μ:γ→Nat) (g:γ) (fi:List Nat) (hF:F g)
  (round:∀ g,F g→Knw (I g).know→∀ Z,Takes E I F (fun g'=>μ g' < μ g) Z→V E (norm 200 (.inl S.x) (.rnd Z :: S.K)) (I g)) (hk:S=.loop S.x S.K:=by kernel_rfl) (h0:leSt fi t (I g)=leSt' (I g):=by kernel_rfl):V E S t:=V.loop I F μ g hk fi h0 hF round
theorem V.rn {P:Program} {E:Env P} {S:Stop} {t:St} {γ:Type} {I:γ→St} {F:γ→Prop} {M:γ→Prop} {Z:Act→World→Prop} (hZ:Takes E I F M Z) (g:γ) (fi:List Nat) (hF:F g) (hM:M g) (hk:(S.rz,leSt fi t (I g))=(some Z,leSt' (I g)):=by kernel_rfl):V E S t:=V.rnd hZ g fi hk hF hM
theorem nl {α:Type} {P:Prop} (x:List α) (h:∀ y:List α,y=x→y.length=x.length→P):P:=h x rfl rfl
def nthP:List Prop→Nat→Prop
 | [],_=>True
 | p :: _,0=>p
 | _ :: l,n+1=>nthP l n
theorem nthP_of:∀ {l:List Prop} (i:Nat),conjL l→nthP l i
 | [],_,_=>trivial
 | p :: l,0,h=>h.1
 | p :: l,n+1,h=>nthP_of (l:=l) n h.2
theorem kj {l:List Prop} {b:Prop} (h:Knw l) (i:Nat) (e:nthP l i=b:=by kernel_rfl):b:=e ▸ nthP_of i h.h
theorem V.cn {P:Program} {E:Env P} {S:Stop} {t:St} {b:Bool} {φ ψ:Prop} (hb:b=true↔φ) (d:b=false↔ψ) (k1:φ→V E S.inX t) (k2:ψ→V E S.inY t) (hk:(S,cval t S.cn)=(.cond S.cn S.x S.y S.K,some (.bool b)):=by kernel_rfl):V E S t:=V.cond hb d hk k1 k2

open Go
abbrev LI:=List Int
abbrev BA:=ByteArray
abbrev eF {α:Type}:Rec→List α:=fun _=>[]
theorem vG {P:Program} {E:Env P} {S:Stop} {t:St} (hs:List (Hint P)) (k:∀ {N ε} G,let S':=S.next;let t':=post (cxOf E S t (fill E S t hs []) N ε) G;V E S' t')
  (hk:∀ N ε,(S,(cxOf E S t (fill E S t hs []) N ε).R.check E.nt,(fill E S t hs []).length,lhsAll (cxOf E S t (fill E S t hs []) N ε) (fill E S t hs []) 0)=(.reg S.rid S.ops S.dr S.K,true,S.ops.size,rhsAll (cxOf E S t (fill E S t hs []) N ε) (fill E S t hs []) 0):=by intro _ _;kernel_rfl):V E S t:=V.go (fill E S t hs []) hk (fun _ _ G=>k G)
theorem vR {P:Program} {E:Env P} {S:Stop} {t:St} (hs:List (Hint P)) (k:∀ {N ε} G,Knw ((cxOf E S t (fill E S t hs []) N ε).know G)→let S':=S.next;let t':=post (cxOf E S t (fill E S t hs []) N ε) G;V E S' t')
  (hk:∀ N ε,(S,(cxOf E S t (fill E S t hs []) N ε).R.check E.nt,(fill E S t hs []).length,lhsAll (cxOf E S t (fill E S t hs []) N ε) (fill E S t hs []) 0)=(.reg S.rid S.ops S.dr S.K,true,S.ops.size,rhsAll (cxOf E S t (fill E S t hs []) N ε) (fill E S t hs []) 0):=by intro _ _;kernel_rfl):V E S t:=V.reg (fill E S t hs []) hk (fun _ _ G=>k G)
theorem vf {P:Program} {f:FuncId} {b:Array Value} {F:List FP} {L:List LE} {V':Rec→Value} {F':Rec→List FP} {L':Rec→List LE} {pu:Rec→List Prop} (mo:P.follows .mixedOrders=true) {fn:Func} (hf:P.funcs[f]?=some fn) (nt n:Nat)
  (h:∀ {w H ε},Knw (F.map (·.q) ++L.flatMap LE.lim)→V (fnEnv mo fn nt w H (ents L ε) V' F' L' pu) (norm 200 (.inl (body fn)) []) ⟨b.toList.zipIdx.map fun p=>(p.2,p.1),F.map FP.drop,L.map LE.drop ++List.replicate n .no⟩)
  (hk:(fn.body.isSome,(b ++Array.replicate (fn.ntmps-b.size) undef).size)=(true,nt):=by kernel_rfl):Ct P f b F L V' F' L' pu:=V.fn mo hf nt n hk (fun _ _ _=>h)
section
variable {P : Program} {S : Stop} {t : St} {mo : P.follows .mixedOrders = true} {fn : Func} {nt : Nat} {w0 : World} {H : Heaplet} {olds : List Ent} {V' : Rec → Value} {F' : Rec → List FP} {L' : Rec → List LE} {pu : Rec → List Prop} (n : Nat) (li : List Nat)
theorem vb {a b:Bool} (e:a=b) (h1:tupV ((fn.results.toList.zip [n]).map (resV P t))=bv a:=by kernel_rfl) (h2:∀ N es,bv b=V' (rcs [] [] [] N es):=by intro _ _;kernel_rfl) (hk:∀ N es,(S.isEnd,fn.results.size == [n].length,(fn.results.toList.zip [n]).map (resC P t),tupV ((fn.results.toList.zip [n]).map (resV P t)),([]:List Nat).length,(([]:List Nat).zip (F' (rcs [] [] [] N es))).map (fun p=>(t.F[p.1]?).map fun x=>matchF x p.2),nodup li,li.length,(li.zip (L' (rcs [] [] [] N es))).map (fun p=>(t.L[p.1]?).map fun x=>matchL x p.2))=(true,true,(fn.results.toList.zip [n]).map (resC' P t),tupV ((fn.results.toList.zip [n]).map (resV P t)),(F' (rcs [] [] [] N es)).length,(F' (rcs [] [] [] N es)).map some,true,(L' (rcs [] [] [] N es)).length,(L' (rcs [] [] [] N es)).map some):=by intro _ _;kernel_rfl) (hp:∀ N es,conjL (pu (rcs [] [] [] N es)):=by intro _ _;trivial):V (fnEnv mo fn nt w0 H olds V' F' L' pu) S t:=V.rT [n] [] [] [] [] li (congrArg bv e) h1 h2 hk hp
theorem vi {a b:Int} (e:a=b) (h1:tupV ((fn.results.toList.zip [n]).map (resV P t))=iv a:=by kernel_rfl) (h2:∀ N es,iv b=V' (rcs [] [] [] N es):=by intro _ _;kernel_rfl) (hk:∀ N es,(S.isEnd,fn.results.size == [n].length,(fn.results.toList.zip [n]).map (resC P t),tupV ((fn.results.toList.zip [n]).map (resV P t)),([]:List Nat).length,(([]:List Nat).zip (F' (rcs [] [] [] N es))).map (fun p=>(t.F[p.1]?).map fun x=>matchF x p.2),nodup li,li.length,(li.zip (L' (rcs [] [] [] N es))).map (fun p=>(t.L[p.1]?).map fun x=>matchL x p.2))=(true,true,(fn.results.toList.zip [n]).map (resC' P t),tupV ((fn.results.toList.zip [n]).map (resV P t)),(F' (rcs [] [] [] N es)).length,(F' (rcs [] [] [] N es)).map some,true,(L' (rcs [] [] [] N es)).length,(L' (rcs [] [] [] N es)).map some):=by intro _ _;kernel_rfl) (hp:∀ N es,conjL (pu (rcs [] [] [] N es)):=by intro _ _;trivial):V (fnEnv mo fn nt w0 H olds V' F' L' pu) S t:=V.rT [n] [] [] [] [] li (congrArg iv e) h1 h2 hk hp
end
section
variable {P : Program} {E : Env P} {S : Stop} {t : St}
theorem vd (φ:Prop) [Decidable φ] (k1:φ→V E S.inX t) (k2:¬ φ→V E S.inY t) (hk:(S,cval t S.cn)=(.cond S.cn S.x S.y S.K,some (.bool (decide φ))):=by kernel_rfl):V E S t:=V.cond iDT iDF hk k1 k2
theorem vn (φ:Prop) [Decidable φ] (k1:¬ φ→V E S.inX t) (k2:φ→V E S.inY t) (hk:(S,cval t S.cn)=(.cond S.cn S.x S.y S.K,some (.bool (!decide φ))):=by kernel_rfl):V E S t:=V.cond (iNT iDF) (iNF iDT) hk k1 k2
theorem vc (b:Bool) (k1:b=true→V E S.inX t) (k2:b=false→V E S.inY t) (hk:(S,cval t S.cn)=(.cond S.cn S.x S.y S.K,some (.bool b)):=by kernel_rfl):V E S t:=V.cond Iff.rfl Iff.rfl hk k1 k2
end

open Go
abbrev nX (b:UInt8):DExpr:=DExpr.mk 1 0 ByteArray.empty ⟨#[b]⟩ ⟨[],{}⟩

open Go Go.Proofs
theorem mo:Tryz.prog.follows .mixedOrders=true:=by kernel_rfl

open Go
def NewS (B:Nat) (s:SV):Prop:=∀ a,s.a=some a→B≤a.block
theorem os_blk {α:Type} [Dat α] {T:TypeId} {H:Heaplet} {l:List α} {s:SV} {e:Ent} {p:Nat × Obj} (h:OSl T H l s.v e) (hp:e=some p):∃ a:Addr,s.a=some ⟨p.1,0,none⟩:=by
 rcases h.sl.val with ⟨_,_,h3⟩ | ⟨g,b,d,h1,h2,_⟩
 ·rw [h3] at hp;cases hp
 ·rw [h2] at hp;cases hp;unfold SV.v at h1
  injection h1 with h1
  exact ⟨⟨g,0,none⟩,h1⟩
section
variable {P : Program} {c : Cx P} {i : Nat} {h : HintD} {G : Gh} {w w' : World}
theorem left_turnP (ok:c.Ok) (t:i < c.ops.size) (hi:c.hs[i]?=some h) (hs:c.R.Sees c.w0 c.X G i w) {g:Rec} {r:Nat} {le:Gh→LE} {en:Gh→Ent} (hn:h.news=[(r,le,en)]) (hH:g.H=fun _=>none) {e0 e1:Ent} (hE:c.R.entAt G i r=e0) (hg:Grows e0 e1 w w')
  (he:(le (c.R.vis i (RC.put G i g))).ent (en (c.R.vis i (RC.put G i g)))=e1) (A:(le (c.R.vis i (RC.put G i g))).at (en (c.R.vis i (RC.put G i g))) (c.J i G true) (c.J i G false)) (hf:h.facts (c.R.vis i (RC.put G i g))=[]) (hp:conjL (h.pu (c.R.vis i (RC.put G i g)))) {v:Value} (hv:c.R.val i (RC.put G i g)=v):c.R.Left w w' G i g v:=by
 have hup:=Cx.upsOf hi;rw [hn] at hup;have j:∀ b,g.H b≠none→w.heap.size≤b:=fun b hb=>by rw [hH] at hb;exact absurd rfl hb
 obtain ⟨a1,a2,_⟩:=ahead ok t hs j;refine ⟨hv.symm,fact_of ok t hi hs j (fun f hm=>?_) (fun q hq=>?_) ?_,?_,(fun b o hb=>by rw [hH] at hb;cases hb),j,fun p d b o hb=>?_,fun p d q hq b o o' _ _=>?_⟩
 ·rw [hf] at hm;cases hm
 ·rw [hn] at hq
  have:q=(r,le,en):=by simpa using hq
  subst this;exact LE.mono A a1 a2
 ·exact hp
 ·refine ⟨hg.base.os,hg.base.tape,hg.base.output,hg.base.size,fun k hk B=>hg.base.keep k hk fun hm=>B ?_⟩;unfold RC.touched;rw [hup]
  simpa [hE] using hm
 ·rw [hup] at d
  have:p=(r,fun G=>(le (c.R.vis i G)).ent (en (c.R.vis i G))):=by simpa using d
  subst this;simp only at hb;rw [he] at hb;exact ⟨hg.in' b o hb,by
   rcases hg.from' b o hb with h1 | ⟨o',h1⟩
   ·exact .inl h1
   ·exact .inr ⟨_,by rw [hup];exact List.mem_singleton.2 rfl,o',by rw [←h1];exact hE⟩,by rw [hH]⟩
 ·rw [hup] at d hq;have h1:p=(r,fun G=>(le (c.R.vis i G)).ent (en (c.R.vis i G))):=by simpa using d
  have h2:q=(r,fun G=>(le (c.R.vis i G)).ent (en (c.R.vis i G))):=by simpa using hq
  rw [h1,h2]
end
section
variable {P : Program} {E : Env P} {S : Stop} {t : St}
theorem V.frzN {α:Type} [Dat α] (r:Nat) (b:Bool) (T:TypeId) (l:List α) (s:SV) (hr:t.L[r]?=some (os b T l s)) (C:NewS E.w0.heap.size s) (k:V E S ⟨t.sl,t.F ++[fs b l s],t.L.set r .no⟩):V E S t:=fun N ε a w d=>by
 have A:=d.own r _ hr;have he:(ents t.L ε)[r]?=some (ε r):=by rw [ents_get,hr];rfl
 have hK:Agrees w (hun N E.H):=d.st.agr _ (by simp);have hE:Agrees w (entH (ε r)):=entH_agrees fun b o hb=>(d.st.ent r b o (by rw [he,hb])).1
 have s1:Sub N (hun (entH (ε r)) N):=hun_right' (U:=whole w) hE (hun_left.trans hK);have eK:hun (hun (entH (ε r)) N) E.H=hun (entH (ε r)) (hun N E.H):=hun_assoc _ _ _;have s2:Sub (hun N E.H) (hun (hun (entH (ε r)) N) E.H):=by rw [eK];exact hun_right' (U:=whole w) hE hK
 have i:∀ (j b:Nat) (o:Obj),(ents (t.L.set r .no) ε)[j]?=some (some (b,o))→j≠r∧(ents t.L ε)[j]?=some (some (b,o)):=fun j b o h=>by
  rw [ents_get,Option.map_eq_some_iff] at h;obtain ⟨y,hy,he⟩:=h;rcases set_get hy with ⟨rfl,rfl⟩ | ⟨hj,hy⟩
  ·cases he
  ·exact ⟨hj,by rw [ents_get,hy,← he];rfl⟩
 refine k (hun (entH (ε r)) N) ε a w ⟨d.slots,⟨d.st.base,fun K hk=>?_,fun j b o h=>?_,fun j j' b o o' h h'=>d.st.dis j j' b o o' (i _ _ _ h).2 (i _ _ _ h').2⟩,fun b hb=>?_,fun f hf=>?_,fun j y hy=>?_⟩
 ·have:K=hun (hun (entH (ε r)) N) E.H:=by simpa using hk
  subst this;rw [eK];exact hun_agrees hE hK
 ·obtain ⟨hj,h⟩:=i j b o h;obtain ⟨h1,h2,h3⟩:=d.st.ent j b o h;refine ⟨h1,h2,fun K hk=>?_⟩
  have:K=hun (hun (entH (ε r)) N) E.H:=by simpa using hk
  subst this;rw [eK];have hn:entH (ε r) b=none:=by
   cases hh:entH (ε r) b with
   | none=>rfl
   | some o' =>
    exfalso;unfold entH at hh;cases hp:ε r with
    | none=>rw [hp] at hh;cases hh
    | some p =>
     rw [hp] at hh;simp only at hh;split at hh
     ·rename_i hb;subst hb
      exact hj (d.st.dis j r p.1 o p.2 h (by rw [he,hp]))
     ·cases hh
  simp only [hun,hn];exact h3 (hun N E.H) (by simp)
 ·cases hh:entH (ε r) b with
  | none =>
   simp only [hun,hh] at hb;exact d.new b hb
  | some o' =>
   unfold entH at hh;cases hp:ε r with
   | none=>rw [hp] at hh;cases hh
   | some p =>
    rw [hp] at hh;simp only at hh;split at hh
    ·rename_i hb';subst hb'
     have B:OSl T (bif b then N else hun N E.H) l s.v (ε r):=by
      have h7:=d.own r _ hr;cases b
      ·exact h7
      ·exact h7
     obtain ⟨o2,G⟩:=os_blk B hp;exact C _ G
    ·cases hh
 ·rcases List.mem_append.1 hf with hf | hf
  ·exact FP.mono (d.facts f hf) s1 s2
  ·have:f=fs b l s:=by simpa using hf
   subst this;have D:∀ J J':Heaplet,Sub J J'→Sub (entH (ε r)) J'→OSl T J l s.v (ε r)→RSl J' l s.v:=fun J J' h1 h2 h=>h.frozen h1 h2
   unfold os ow LE.at at A;show bif b then RSl _ l _ else RSl _ l _
   cases b
   ·exact D _ _ s2 (by rw [eK];exact hun_left) A
   ·exact D _ _ s1 hun_left A
 ·rcases set_get hy with ⟨rfl,rfl⟩ | ⟨hj,hy⟩
  ·trivial
  ·exact LE.mono (d.own j y hy) s1 s2
end

theorem rsz_ct_n (m0:Nat):∀ (x:DExpr) (f d:Int) (hN: -10≤f∧f≤1000) (hV: -10≤d∧d≤1000),Fx.sz (er x) < m0 →
  Cp Tryz.prog 59 #[ag x,iv f,iv d] [fs true x.Args.l x.Args.s] (iv (Zu.siz (er x) f d)):=by
 induction m0 with
 | zero=>intro _ _ _ _ _ hm;exact absurd hm (Nat.not_lt_zero _)
 | succ m0 ih =>
  intro x f d hN hV hm;refine vf mo Tryz.func59 40 1 fun k0=>?_;obtain ⟨w, -⟩:Lq x.Args.l x.Args.s.v:=kj k0 0
  refine vG [.n 0,.u 1] fun G1=>?_;intro _ _
  refine vG [.u 5,.or g0 false (decide (f < 1)) (decide (d < 1))] fun G2=>?_;intro _ _
  refine V.cn (b:=(decide (f < 1)) || (decide (d < 1))) (iOT iDT iDT) (iOF iDF iDF) (fun q1=>?_) (fun q2=>?_)
  ·refine vG [.u 1] fun G3=>?_;intro _ _
   have e0:(-1:Int)=Zu.siz (er x) f d:=by rw [Zu.siz_er,if_pos (by omega)]
   exact vi 0 [] e0
  refine vG [.u 1] fun G4=>?_;intro _ _
  refine vG [.u 1] fun G5=>?_;intro _ _
  refine V.lp (γ:=Int × Int) (fun ⟨n,i⟩=>⟨[(1,iv f),(2,iv d),(3,pp ((G1 0).b) 0),(7,iv n),(8,iv i)],[fs false x.Args.l x.Args.s],[.blk ((G1 0).b) (ca x) 48]⟩) (fun ⟨n,i⟩=>(0≤i)∧(i≤(x.Args.l.length:Int))∧(Zu.siz (er x) f d=Zu.sizL ((x.Args.l.map er).drop i.toNat) f d n)∧(1≤n∧n≤f)∧(0≤i)) (fun ⟨n,i⟩=>((x.Args.l.length:Int)-i).toNat) (1,0) [0] ?_ ?_
  ·refine ⟨by omega,by omega,?_,?_,by omega⟩
   ·show Zu.siz (er x) f d=Zu.sizL ((x.Args.l.map er).drop (0:Int).toNat) f d (1:Int);rw [Zu.siz_er,if_neg (by omega)];rfl
   show 1≤(1:Int)∧(1:Int)≤f;omega
  rintro ⟨n,i⟩ hF1 kw6 Z1 hZ1;obtain ⟨A,B,o,C,D⟩:=hF1;refine vG [.u 2,.l 0,.ln (kF 0 x.Args.l x.Args.s),.u 1] fun G6=>?_;intro _ _;refine vd (i < (x.Args.l.length:Int)) (fun q3=>?_) fun q4=>?_
  ·refine nm (x.Args.l.getD i.toNat default:DExpr) fun x1 j=>vG [.u 1,.l 0,.u 1,.iX (kF 0 x.Args.l x.Args.s) i,.lE (kF 0 x.Args.l x.Args.s) i true x1 j true,.u 2,.aa (f-n),.u 1,.aa (d-1),.cP 10 59 [(kx false (.g 4 0) x1 x1.Args.l (fun _=>x1.Args.s) (fun _ H (h:Dat.good H (x1:DExpr))=>(exG.1 h))).a] fun G=>ih x1 (f-n) (d-1) (by omega) (by omega) (by have:=Fx.sz_arg (x:=x) (getD_mem (by omega) j);omega),.u 1] fun G7=>?_;intro _ _
   have E:=Zu.siz_rng (er x1) (f-n) (d-1);refine vG [.u 2] fun G8=>?_;intro _ _
   refine vd (Zu.siz (er x1) (f-n) (d-1) < 0) (fun q5=>?_) fun q6=>?_
   ·refine vG [.u 1] fun G9=>?_;intro _ _
    have e0:(-1:Int)=Zu.siz (er x) f d:=by rw [o,Zu.sizL_step (by omega) (by omega) j,if_pos q5]
    exact vi 0 [] e0
   refine nm (n+(Zu.siz (er x1) (f-n) (d-1)):Int) fun n1 t=>vG [.u 2,.aR (n+(Zu.siz (er x1) (f-n) (d-1))) n1 t,.u 1] fun I=>?_;intro _ _
   refine vG [.u 1,.aa (i+1),.u 1] fun M=>?_;intro _ _
   refine V.rn hZ1 (n1,i+1) [0] ?_ ?_
   ·refine ⟨by omega,by omega,?_,?_,by omega⟩
    ·show Zu.siz (er x) f d=Zu.sizL ((x.Args.l.map er).drop (i+1).toNat) f d n1;rw [t,o,Zu.sizL_step (by omega) (by omega) j,if_neg q6]
    show 1≤n1∧n1≤f;have h1:=Zu.siz_rng (er x1) (f-n) (d-1);omega
   dsimp only;omega
  refine vG [.u 2] fun P=>?_;intro _ _
  have e0:n=Zu.siz (er x) f d:=by rw [o,List.drop_eq_nil_of_le (by rw [List.length_map];omega)];rfl
  exact vi 0 [] e0
theorem rsz_ct (x:DExpr) (d b:Int) (hN: -10≤d∧d≤1000) (hV: -10≤b∧b≤1000) :
  Cp Tryz.prog 59 #[ag x,iv d,iv b] [fs true x.Args.l x.Args.s] (iv (Zu.siz (er x) d b)):=rsz_ct_n (Fx.sz (er x)+1) x d b hN hV (Nat.lt_succ_self _)
theorem rfew_ct (x:DExpr) (d b:Int) (hN: -10≤d∧d≤1000) (hV: -10≤b∧b≤1000) :
  Cp Tryz.prog 27 #[ag x,iv d,iv b] [fs true x.Args.l x.Args.s] (bv (Zu.fw (er x) d b)):=by
 refine vf mo Tryz.func27 12 1 fun _=>?_
 refine vG [.n 0,.kb false] fun G1=>?_;intro _ _
 refine vG [.l 0,.u 2,.cP 3 59 [kA 0 x.Args.l x.Args.s] fun G=>rsz_ct x d b (by omega) (by omega),.u 2] fun G2=>?_;intro _ _
 have e0:(decide (0≤Zu.siz (er x) d b))=Zu.fw (er x) d b:=by rfl
 exact vb 0 [] e0
theorem rsho_ct (l:List ByteArray) (ls:SV) (d:Int) (hM:0≤d∧d≤1000) :
  Cp Tryz.prog 60 #[ls.v,iv d] [fs true l ls] (bv (Zu.shrt l d)):=by
 refine vf mo Tryz.func60 27 0 fun _=>?_
 refine vG [.kb false] fun G1=>?_;intro _ _
 refine vG [.u 1] fun G2=>?_;intro _ _
 refine V.lp (γ:=Int) (fun i=>⟨[(0,ls.v),(1,iv d),(5,iv i)],[fs false l ls],[]⟩) (fun i=>(0≤i)∧(∀ j:Nat,j < i.toNat→Zu.sh60 (l.getD j default)=true)) (fun i=>((l.length:Int)-i).toNat) 0 [0] ?_ ?_
 ·refine ⟨by omega,?_⟩;show ∀ j:Nat,j < (0:Int).toNat→Zu.sh60 (l.getD j default)=true;exact Zu.all0 _ _
 rintro i hF1 kw3 Z1 hZ1;obtain ⟨t,o⟩:=hF1;refine nm ((decide (i < (l.length:Int))) && (decide (i≤d)):Bool) fun p1 f=>vG [.u 2,.ln (kF 0 l ls),.u 5,.andn g0 false (decide (i < (l.length:Int))) (decide (i≤d)) p1 f] fun G3=>?_;intro _ _;refine V.cn (b:=p1) (iN f (iAT iDT iDT)) (iN f (iAF iDF iDF)) (fun q1=>?_) (fun q2=>?_)
 ·refine nm (l.getD i.toNat default:ByteArray) fun x1 h=>vG [.u 2,.iX (kF 0 l ls) i,.lE (kF 0 l ls) i false x1 h false,.u 2] fun G4=>?_;intro _ _
  refine vd (60 < (x1.size:Int)) (fun q3=>?_) fun q4=>?_
  ·refine vG [.kb false] fun G5=>?_;intro _ _
   have e0:false=Zu.shrt l d:=by symm;unfold Zu.shrt;rw [Zu.all_no (p:=Zu.sh60) (by omega) (by omega) h (decide_eq_false (by omega)),Bool.and_false]
   exact vb 0 [] e0
  refine vG [.u 1,.aa (i+1),.u 1] fun G6=>?_;intro _ _
  refine V.rn hZ1 (i+1) [0] ?_ ?_
  ·refine ⟨by omega,?_⟩;show ∀ j:Nat,j < (i+1).toNat→Zu.sh60 (l.getD j default)=true;exact Zu.all_step o (by omega) h (decide_eq_true (by omega))
  omega
 refine vG [.u 1,.ln (kF 0 l ls),.u 3] fun G7=>?_;intro _ _
 have e0:(decide ((l.length:Int)≤d))=Zu.shrt l d:=by
  unfold Zu.shrt;by_cases hm:(l.length:Int)≤d
  ·rw [Zu.all_end (p:=Zu.sh60) o (by omega),Bool.and_true]
  rw [decide_eq_false hm,Bool.false_and]
 exact vb 0 [] e0
theorem rhas_ct (l:LI) (ls:SV) (n:Int) :
  Cp Tryz.prog 21 #[ls.v,iv n] [fs true l ls] (bv (decide (n ∈ l))):=by
 refine vf mo Tryz.func21 18 0 fun k0=>?_;obtain ⟨f, -⟩:Lq l ls.v:=kj k0 0
 refine vG [.kb false] fun G1=>?_;intro _ _
 refine vG [.u 1] fun G2=>?_;intro _ _
 refine V.lp (γ:=Int) (fun i=>⟨[(0,ls.v),(1,iv n),(5,iv i)],[fs false l ls],[]⟩) (fun i=>(0≤i)∧(i≤(l.length:Int))∧(∀ j:Nat,j < i.toNat→l.getD j default≠n)) (fun i=>((l.length:Int)-i).toNat) 0 [0] ?_ ?_
 ·refine ⟨by omega,by omega,?_⟩;show ∀ j:Nat,j < (0:Int).toNat→l.getD j default≠n;intro j hj;simp at hj
 rintro i hF1 kw3 Z1 hZ1;obtain ⟨h,o,d⟩:=hF1;refine vG [.u 2,.ln (kF 0 l ls),.u 1] fun G3=>?_;intro _ _;refine vd (i < (l.length:Int)) (fun q1=>?_) fun q2=>?_
 ·refine nm (l.getD i.toNat default:Int) fun v1 b=>vG [.u 2,.iX (kF 0 l ls) i,.lE (kF 0 l ls) i false v1 b false,.u 2] fun G4=>?_;intro _ _
  refine vd (v1=n) (fun q3=>?_) fun q4=>?_
  ·refine vG [.kb true] fun G5=>?_;intro _ _
   have e0:true=decide (n ∈ l):=by symm;rw [decide_eq_true_iff,← q3,b];exact getD_mem (by omega) rfl
   exact vb 0 [] e0
  refine vG [.u 1,.aa (i+1),.u 1] fun G6=>?_;intro _ _
  refine V.rn hZ1 (i+1) [0] ?_ ?_
  ·refine ⟨by omega,by omega,?_⟩;show ∀ j:Nat,j < (i+1).toNat→l.getD j default≠n;intro j hj;by_cases e:j < i.toNat
   ·exact d j e
   rw [show j=i.toNat by omega,← b];exact q4
  omega
 refine vG [.kb false] fun G7=>?_;intro _ _
 have e0:false=decide (n ∈ l):=(decide_eq_false (Zu.has_no d (by omega))).symm;exact vb 0 [] e0
theorem rsam_ct (a:LI) (as_:SV) (b:LI) (bs:SV) :
  Cp Tryz.prog 15 #[as_.v,bs.v] [fs true a as_,fs true b bs] (bv (decide (a=b))):=by
 refine vf mo Tryz.func15 26 0 fun k0=>?_;obtain ⟨o, -⟩:Lq a as_.v:=kj k0 0
 refine vG [.kb false] fun G1=>?_;intro _ _
 refine vG [.u 1,.ln (kF 0 a as_),.u 1,.ln (kF 1 b bs),.u 1] fun G2=>?_;intro _ _
 refine vn ((a.length:Int)=(b.length:Int)) (fun q1=>?_) fun q2=>?_
 ·refine vG [.kb false] fun G3=>?_;intro _ _
  have e0:false=(decide (a=b)):=(decide_eq_false (fun e=>q1 (by rw [e]))).symm;exact vb 0 [] e0
 refine vG [.u 1] fun G4=>?_;intro _ _
 refine V.lp (γ:=Int) (fun i=>⟨[(0,as_.v),(1,bs.v),(5,iv i)],[fs false a as_,fs false b bs],[]⟩) (fun i=>(0≤i)∧(i≤(a.length:Int))∧(∀ j:Nat,j < i.toNat→a.getD j default=b.getD j default)) (fun i=>((a.length:Int)-i).toNat) 0 [0,1] ?_ ?_
 ·refine ⟨by omega,by omega,?_⟩;show ∀ j:Nat,j < (0:Int).toNat→a.getD j default=b.getD j default;intro j hj;simp at hj
 rintro i hF1 kw5 Z1 hZ1;obtain ⟨t,w,h⟩:=hF1;refine vG [.u 2,.ln (kF 0 a as_),.u 1] fun G5=>?_;intro _ _;refine vd (i < (a.length:Int)) (fun q3=>?_) fun q4=>?_
 ·refine nm (a.getD i.toNat default:Int) fun v1 d=>nm (b.getD i.toNat default:Int) fun v2 f=>vG [.u 2,.iX (kF 0 a as_) i,.lE (kF 0 a as_) i false v1 d false,.u 2,.iX (kF 1 b bs) i,.lE (kF 1 b bs) i false v2 f false,.u 1] fun G6=>?_;intro _ _
  refine vn (v1=v2) (fun q5=>?_) fun q6=>?_
  ·refine vG [.kb false] fun G7=>?_;intro _ _
   have e0:false=(decide (a=b)):=(decide_eq_false (fun e=>q5 (by rw [d,f,e]))).symm;exact vb 0 [] e0
  refine vG [.u 1,.aa (i+1),.u 1] fun G8=>?_;intro _ _
  refine V.rn hZ1 (i+1) [0,1] ?_ ?_
  ·refine ⟨by omega,by omega,?_⟩;show ∀ j:Nat,j < (i+1).toNat→a.getD j default=b.getD j default;intro j hj;by_cases e:j < i.toNat
   ·exact h j e
   rw [show j=i.toNat by omega,← d,← f];exact (by first | exact q6 | exact Decidable.not_not.1 q6)
  omega
 refine vG [.kb true] fun G9=>?_;intro _ _
 have e0:true=(decide (a=b)):=(decide_eq_true (Zu.eq_list h (by omega) (by omega))).symm;exact vb 0 [] e0

theorem rfst_ct (l:List DStep) (ls:SV) :
  Cp Tryz.prog 62 #[ls.v] [fs true l ls] (bv (Zu.stpsF l)):=by
 refine vf mo Tryz.func62 55 1 fun _=>?_
 refine vG [.kb false] fun G1=>?_;intro _ _
 refine vG [.u 1] fun G2=>?_;intro _ _
 refine V.lp (γ:=Int) (fun i=>⟨[(0,ls.v),(3,iv i)],[fs false l ls],[.no]⟩) (fun i=>(0≤i)∧(∀ j:Nat,j < i.toNat→Zu.stpF (l.getD j default)=true)) (fun i=>((l.length:Int)-i).toNat) 0 [0] ?_ ?_
 ·refine ⟨by omega,?_⟩;show ∀ j:Nat,j < (0:Int).toNat→Zu.stpF (l.getD j default)=true;exact Zu.all0 _ _
 rintro i hF1 kw3 Z1 hZ1;obtain ⟨C,A⟩:=hF1;refine nm ((decide (i < (l.length:Int))) && (decide (i≤102)):Bool) fun p1 o=>vG [.u 2,.ln (kF 0 l ls),.u 4,.andn g0 false (decide (i < (l.length:Int))) (decide (i≤102)) p1 o] fun G3=>?_;intro _ _;refine V.cn (b:=p1) (iN o (iAT iDT iDT)) (iN o (iAF iDF iDF)) (fun q1=>?_) (fun q2=>?_)
 ·refine nm (l.getD i.toNat default:DStep) fun x1 t=>vG [.u 2,.iX (kF 0 l ls) i,.lE (kF 0 l ls) i true x1 t true,.n 0,.s 0] fun G4=>?_;intro _ _
  refine nm ((!(Zu.shrt x1.In.l (102:Int))) || (!(Zu.shrt x1.Out.l (102:Int))):Bool) fun p2 d=>nm ((p2 || (!(Zu.shrt x1.Cells.l (102:Int)))) || (!(Zu.shrt ([x1.Name]:List ByteArray) (1:Int))):Bool) fun p3 w=>vG [.u 1,.l 0,.cP 2 60 [(kx false (.f 1) x1 x1.In.l (fun _=>x1.In.s) (fun _ H (h:Dat.good H (x1:DStep))=>h.1)).a] fun G=>rsho_ct x1.In.l x1.In.s (102:Int) (by omega),.u 3,.l 0,.cp (gF (b:=!(Zu.shrt x1.In.l (102:Int))) (iNF Iff.rfl)) 7 60 [(kx false (.f 1) x1 x1.Out.l (fun _=>x1.Out.s) (fun _ H (h:Dat.good H (x1:DStep))=>h.2.1)).a] (fun hg G=>rsho_ct x1.Out.l x1.Out.s (102:Int) (by omega)),.u 1,.orn g0 false (!(Zu.shrt x1.In.l (102:Int))) (!(Zu.shrt x1.Out.l (102:Int))) p2 d,.u 2,.l 0,.cp (gF (b:=p2) (iN d (iOF (iNF Iff.rfl) (iNF Iff.rfl)))) 13 60 [(kx false (.f 1) x1 x1.Cells.l (fun _=>x1.Cells.s) (fun _ H (h:Dat.good H (x1:DStep))=>h.2.2)).a] (fun hg G=>rsho_ct x1.Cells.l x1.Cells.s (102:Int) (by omega)),.u 1,.or g0 false p2 (!(Zu.shrt x1.Cells.l (102:Int))),.u 2,.l 0,.nr 19 true 9 ([x1.Name]:List ByteArray) [] (fun _ _ _ _ _=>trivial) (fun _=>#[tv x1.Name]),.cp (gF (b:=p2 || (!(Zu.shrt x1.Cells.l (102:Int)))) (iOF (iN d (iOF (iNF Iff.rfl) (iNF Iff.rfl))) (iNF Iff.rfl))) 20 60 [(kf true (.g 19 0) ([x1.Name]:List ByteArray) (fun G=>⟨atB (G 19).b,1,1⟩)).a] (fun hg G=>rsho_ct ([x1.Name]:List ByteArray) ⟨atB (G 19).b,1,1⟩ (1:Int) (by omega)),.u 1,.orn g0 false (p2 || (!(Zu.shrt x1.Cells.l (102:Int)))) (!(Zu.shrt ([x1.Name]:List ByteArray) (1:Int))) p3 w] fun G5=>?_;intro _ _
  refine V.cn (b:=p3) (iN w (iOT (iOT (iN d (iOT (iNT Iff.rfl) (iNT Iff.rfl))) (iNT Iff.rfl)) (iNT Iff.rfl))) (iN w (iOF (iOF (iN d (iOF (iNF Iff.rfl) (iNF Iff.rfl))) (iNF Iff.rfl)) (iNF Iff.rfl))) (fun q3=>?_) (fun q4=>?_)
  ·refine vG [.kb false] fun G6=>?_;intro _ _
   have e0:false=Zu.stpsF l:=by symm;unfold Zu.stpsF;rw [Zu.all_no (p:=Zu.stpF) (by omega) (by omega) t (by unfold Zu.stpF;grind),Bool.and_false]
   exact vb 0 [] e0
  refine vG [.u 1,.aa (i+1),.u 1] fun G7=>?_;intro _ _
  refine V.rn hZ1 (i+1) [0] ?_ ?_
  ·refine ⟨by omega,?_⟩;show ∀ j:Nat,j < (i+1).toNat→Zu.stpF (l.getD j default)=true;exact Zu.all_step A (by omega) t (by unfold Zu.stpF;grind)
  omega
 refine nm ((decide (99≤(l.length:Int))) && (decide ((l.length:Int)≤102)):Bool) fun p4 B=>vG [.u 1,.ln (kF 0 l ls),.u 3,.ln (kF 0 l ls),.u 3,.ln (kF 0 l ls),.u 1,.andn (gF (b:=decide ((l.length:Int)≤30)) iDF) false (decide (99≤(l.length:Int))) (decide ((l.length:Int)≤102)) p4 B,.or g0 false (decide ((l.length:Int)≤30)) p4,.u 1] fun G8=>?_;intro _ _
 have e0:((decide ((l.length:Int)≤30)) || p4)=Zu.stpsF l:=by
  refine Bool.eq_iff_iff.2 (Iff.trans (iOT iDT (iN B (iAT iDT iDT))) ?_);unfold Zu.stpsF;by_cases hm:(l.length:Int)≤102
  ·rw [Zu.all_end (p:=Zu.stpF) A (by omega),Bool.and_true];grind
  constructor
  ·intro h;exfalso;omega
  intro h;exfalso;grind
 exact vb 0 [] e0
theorem rfex_ct (x:DExpr) :
  Cp Tryz.prog 63 #[ag x] [fs true x.Args.l x.Args.s] (bv (Zu.exF (er x))):=by
 refine vf mo Tryz.func63 14 1 fun _=>?_
 refine vG [.n 0,.kb false] fun G1=>?_;intro _ _
 refine nm ((!(Zu.fw (er x) (200:Int) (20:Int))) && (Zu.fw (er x) (260:Int) (30:Int)):Bool) fun p1 d=>vG [.l 0,.cP 1 27 [kA 0 x.Args.l x.Args.s] fun G=>rfew_ct x (60:Int) (12:Int) (by omega) (by omega),.u 1,.l 0,.cp (gF (b:=Zu.fw (er x) (60:Int) (12:Int)) Iff.rfl) 4 27 [kA 0 x.Args.l x.Args.s] (fun hg G=>rfew_ct x (200:Int) (20:Int) (by omega) (by omega)),.u 2,.l 0,.cp ((gF (b:=Zu.fw (er x) (60:Int) (12:Int)) Iff.rfl).T (b:=!(Zu.fw (er x) (200:Int) (20:Int))) (iNT Iff.rfl)) 8 27 [kA 0 x.Args.l x.Args.s] (fun hg G=>rfew_ct x (260:Int) (30:Int) (by omega) (by omega)),.andn (gF (b:=Zu.fw (er x) (60:Int) (12:Int)) Iff.rfl) false (!(Zu.fw (er x) (200:Int) (20:Int))) (Zu.fw (er x) (260:Int) (30:Int)) p1 d,.or g0 false (Zu.fw (er x) (60:Int) (12:Int)) p1,.u 1] fun G2=>?_;intro _ _
 have e0:((Zu.fw (er x) (60:Int) (12:Int)) || p1)=Zu.exF (er x):=by
  refine Bool.eq_iff_iff.2 (Iff.trans (iOT Iff.rfl (iN d (iAT (iNT Iff.rfl) Iff.rfl))) ?_);unfold Zu.exF;grind
 exact vb 0 [] e0
set_option maxHeartbeats 4000000 in
theorem rnam_ct (B:BA) (a:List DImport) (m:SV) (c:List DInput) (o:SV) (d:List DTable) (p:SV) (e:List DFunc) (q:SV) (f:List DCell) (r:SV) (j:List DPort) (t:SV) (k:List DStore) (y:SV) (z:List DRecipe) (A:SV) (hL:(a.length:Int)+c.length+d.length+e.length+f.length+j.length+k.length+z.length≤100000000) :
  Ct Tryz.prog 61 #[ag (DSheet.mk B ⟨a,m⟩ ⟨c,o⟩ ⟨d,p⟩ ⟨e,q⟩ ⟨f,r⟩ ⟨j,t⟩ ⟨k,y⟩ ⟨z,A⟩)] [fs true a m,fs true c o,fs true d p,fs true e q,fs true f r,fs true j t,fs true k y,fs true z A] [] (fun g=>((g.ss 0)).v) (fun g=>[fs true (Zu.names a c d e f j k) (g.ss 0)]) eF eF:=by
 refine vf mo Tryz.func61 125 2 fun _=>?_
 refine vG [.n 0,.u 1] fun G1=>?_;intro _ _
 refine vG [.nl 0 1 true 9 ([]:List ByteArray) [] (fun _ _ _ _ _=>trivial) (fun _=>#[]),.u 1] fun G2=>?_;intro _ _
 refine vG [.u 1] fun G3=>?_;intro _ _
 refine V.lp (γ:=List ByteArray × SV × Int) (fun ⟨ak,aj,i⟩=>⟨[(1,pp ((G1 0).b) 0),(3,aj.v),(4,iv i)],[fs false a m,fs false c o,fs false d p,fs false e q,fs false f r,fs false j t,fs false k y,fs false z A],[.blk ((G1 0).b) (ca (DSheet.mk B ⟨a,m⟩ ⟨c,o⟩ ⟨d,p⟩ ⟨e,q⟩ ⟨f,r⟩ ⟨j,t⟩ ⟨k,y⟩ ⟨z,A⟩)) 31,os true 9 ak aj]⟩) (fun ⟨ak,aj,i⟩=>(0≤i)∧(i≤(a.length:Int))∧(ak=([]:List ByteArray) ++(a.map (·.Name)).take i.toNat)∧(0≤i)) (fun ⟨ak,aj,i⟩=>((a.length:Int)-i).toNat) (([]:List ByteArray),⟨atB (G2 0).b,0,0⟩,0) [0,1,2,3,4,5,6,7] ?_ ?_
 ·refine ⟨by omega,by omega,?_,by omega⟩;show ([]:List ByteArray)=([]:List ByteArray) ++(a.map (·.Name)).take (0:Int).toNat;rfl
 rintro ⟨ak,aj,i⟩ hF1 kw4 Z1 hZ1;obtain ⟨a4,a5,au,a6⟩:=hF1;have ai:=congrArg List.length au;simp only [List.length_append,List.length_take,List.length_map,List.length_nil] at ai;refine vG [.u 2,.l 0,.ln (kF 0 a m),.u 1] fun G4=>?_;intro _ _;refine vd (i < (a.length:Int)) (fun q1=>?_) fun q2=>?_
 ·refine nm (a.getD i.toNat default:DImport) fun x1 aw=>nm (ak ++([x1.Name]:List ByteArray):List ByteArray) fun l1 ax=>vG [.u 2,.l 0,.u 1,.iX (kF 0 a m) i,.u 1,.le g0 (kF 0 a m) i (some 0) false x1 aw (fun _=>⟨by omega,by omega⟩) false (fun _=>[tv x1.Name]),.nr 7 true 9 ([x1.Name]:List ByteArray) [] (fun _ _ _ _ _=>trivial) (fun _=>#[tv x1.Name]),.ap 8 1 9 16 false true ak (fun _=>aj) (kf true (.g 7 0) ([x1.Name]:List ByteArray) (fun G=>⟨atB (G 7).b,1,1⟩)) true l1 ax (by first | omega | (simp;omega) | simp) (fun h=>by cases h) (.inr fun _ _=>trivial),.u 1] fun G5=>?_;intro _ _
  refine vG [.u 1,.aa (i+1),.u 1] fun G6=>?_;intro _ _
  refine V.rn hZ1 (l1,(G5 8).s,i+1) [0,1,2,3,4,5,6,7] ?_ ?_
  ·refine ⟨by omega,by omega,?_,by omega⟩;show l1=([]:List ByteArray) ++(a.map (·.Name)).take (i+1).toNat;rw [ax,au];exact Zu.snoc_take (g:=fun x:DImport=>x.Name) (by omega) (by omega) aw
  dsimp only;omega
 refine vG [.u 1] fun G7=>?_;intro _ _
 refine V.lp (γ:=List ByteArray × SV × Int) (fun ⟨C,D,ab⟩=>⟨[(1,pp ((G1 0).b) 0),(3,D.v),(5,iv ab)],[fs false a m,fs false c o,fs false d p,fs false e q,fs false f r,fs false j t,fs false k y,fs false z A],[.blk ((G1 0).b) (ca (DSheet.mk B ⟨a,m⟩ ⟨c,o⟩ ⟨d,p⟩ ⟨e,q⟩ ⟨f,r⟩ ⟨j,t⟩ ⟨k,y⟩ ⟨z,A⟩)) 31,os true 9 C D]⟩) (fun ⟨C,D,ab⟩=>(0≤ab)∧(ab≤(c.length:Int))∧(C=((a.map (·.Name))) ++(c.map (·.Name)).take ab.toNat)∧(0≤ab)) (fun ⟨C,D,ab⟩=>((c.length:Int)-ab).toNat) (ak,aj,0) [0,1,2,3,4,5,6,7] ?_ ?_
 ·refine ⟨by omega,by omega,?_,by omega⟩;show ak=((a.map (·.Name))) ++(c.map (·.Name)).take (0:Int).toNat;rw [au,List.take_of_length_le (by rw [List.length_map];omega),show (0:Int).toNat=0 by rfl,List.take_zero,List.append_nil];rfl
 rintro ⟨C,D,ab⟩ hF2 kw9 Z2 hZ2;obtain ⟨a7,a8,av,a9⟩:=hF2;have ai:=congrArg List.length av;simp only [List.length_append,List.length_take,List.length_map,List.length_nil] at ai;refine vG [.u 2,.l 0,.ln (kF 1 c o),.u 1] fun G8=>?_;intro _ _;refine vd (ab < (c.length:Int)) (fun q3=>?_) fun q4=>?_
 ·refine nm (c.getD ab.toNat default:DInput) fun x2 ay=>nm (C ++([x2.Name]:List ByteArray):List ByteArray) fun l2 az=>vG [.u 2,.l 0,.u 1,.iX (kF 1 c o) ab,.u 1,.le g0 (kF 1 c o) ab (some 0) false x2 ay (fun _=>⟨by omega,by omega⟩) false (fun _=>[tv x2.Name]),.nr 7 true 9 ([x2.Name]:List ByteArray) [] (fun _ _ _ _ _=>trivial) (fun _=>#[tv x2.Name]),.ap 8 1 9 16 false true C (fun _=>D) (kf true (.g 7 0) ([x2.Name]:List ByteArray) (fun G=>⟨atB (G 7).b,1,1⟩)) true l2 az (by first | omega | (simp;omega) | simp) (fun h=>by cases h) (.inr fun _ _=>trivial),.u 1] fun G9=>?_;intro _ _
  refine vG [.u 1,.aa (ab+1),.u 1] fun ba=>?_;intro _ _
  refine V.rn hZ2 (l2,(G9 8).s,ab+1) [0,1,2,3,4,5,6,7] ?_ ?_
  ·refine ⟨by omega,by omega,?_,by omega⟩;show l2=((a.map (·.Name))) ++(c.map (·.Name)).take (ab+1).toNat;rw [az,av];exact Zu.snoc_take (g:=fun x:DInput=>x.Name) (by omega) (by omega) ay
  dsimp only;omega
 refine vG [.u 1] fun bb=>?_;intro _ _
 refine V.lp (γ:=List ByteArray × SV × Int) (fun ⟨E,H,ac⟩=>⟨[(1,pp ((G1 0).b) 0),(3,H.v),(6,iv ac)],[fs false a m,fs false c o,fs false d p,fs false e q,fs false f r,fs false j t,fs false k y,fs false z A],[.blk ((G1 0).b) (ca (DSheet.mk B ⟨a,m⟩ ⟨c,o⟩ ⟨d,p⟩ ⟨e,q⟩ ⟨f,r⟩ ⟨j,t⟩ ⟨k,y⟩ ⟨z,A⟩)) 31,os true 9 E H]⟩) (fun ⟨E,H,ac⟩=>(0≤ac)∧(ac≤(d.length:Int))∧(E=((a.map (·.Name)) ++(c.map (·.Name))) ++(d.map (·.Name)).take ac.toNat)∧(0≤ac)) (fun ⟨E,H,ac⟩=>((d.length:Int)-ac).toNat) (C,D,0) [0,1,2,3,4,5,6,7] ?_ ?_
 ·refine ⟨by omega,by omega,?_,by omega⟩;show C=((a.map (·.Name)) ++(c.map (·.Name))) ++(d.map (·.Name)).take (0:Int).toNat;rw [av,List.take_of_length_le (by rw [List.length_map];omega),show (0:Int).toNat=0 by rfl,List.take_zero,List.append_nil]
 rintro ⟨E,H,ac⟩ hF3 kw14 Z3 hZ3;obtain ⟨bc,aP,al,aQ⟩:=hF3;have ai:=congrArg List.length al;simp only [List.length_append,List.length_take,List.length_map,List.length_nil] at ai;refine vG [.u 2,.l 0,.ln (kF 2 d p),.u 1] fun be=>?_;intro _ _;refine vd (ac < (d.length:Int)) (fun q5=>?_) fun q6=>?_
 ·refine nm (d.getD ac.toNat default:DTable) fun x3 aA=>nm (E ++([x3.Name]:List ByteArray):List ByteArray) fun l3 aB=>vG [.u 2,.l 0,.u 1,.iX (kF 2 d p) ac,.u 1,.le g0 (kF 2 d p) ac (some 0) true x3 aA (fun _=>⟨by omega,by omega⟩) false (fun _=>[tv x3.Name]),.nr 7 true 9 ([x3.Name]:List ByteArray) [] (fun _ _ _ _ _=>trivial) (fun _=>#[tv x3.Name]),.ap 8 1 9 16 false true E (fun _=>H) (kf true (.g 7 0) ([x3.Name]:List ByteArray) (fun G=>⟨atB (G 7).b,1,1⟩)) true l3 aB (by first | omega | (simp;omega) | simp) (fun h=>by cases h) (.inr fun _ _=>trivial),.u 1] fun aK=>?_;intro _ _
  refine vG [.u 1,.aa (ac+1),.u 1] fun bf=>?_;intro _ _
  refine V.rn hZ3 (l3,(aK 8).s,ac+1) [0,1,2,3,4,5,6,7] ?_ ?_
  ·refine ⟨by omega,by omega,?_,by omega⟩;show l3=((a.map (·.Name)) ++(c.map (·.Name))) ++(d.map (·.Name)).take (ac+1).toNat;rw [aB,al];exact Zu.snoc_take (g:=fun x:DTable=>x.Name) (by omega) (by omega) aA
  dsimp only;omega
 refine vG [.u 1] fun bg=>?_;intro _ _
 refine V.lp (γ:=List ByteArray × SV × Int) (fun ⟨I,M,ad⟩=>⟨[(1,pp ((G1 0).b) 0),(3,M.v),(7,iv ad)],[fs false a m,fs false c o,fs false d p,fs false e q,fs false f r,fs false j t,fs false k y,fs false z A],[.blk ((G1 0).b) (ca (DSheet.mk B ⟨a,m⟩ ⟨c,o⟩ ⟨d,p⟩ ⟨e,q⟩ ⟨f,r⟩ ⟨j,t⟩ ⟨k,y⟩ ⟨z,A⟩)) 31,os true 9 I M]⟩) (fun ⟨I,M,ad⟩=>(0≤ad)∧(ad≤(e.length:Int))∧(I=((a.map (·.Name)) ++(c.map (·.Name)) ++(d.map (·.Name))) ++(e.map (·.Name)).take ad.toNat)∧(0≤ad)) (fun ⟨I,M,ad⟩=>((e.length:Int)-ad).toNat) (E,H,0) [0,1,2,3,4,5,6,7] ?_ ?_
 ·refine ⟨by omega,by omega,?_,by omega⟩;show E=((a.map (·.Name)) ++(c.map (·.Name)) ++(d.map (·.Name))) ++(e.map (·.Name)).take (0:Int).toNat;rw [al,List.take_of_length_le (by rw [List.length_map];omega),show (0:Int).toNat=0 by rfl,List.take_zero,List.append_nil]
 rintro ⟨I,M,ad⟩ hF4 kw19 Z4 hZ4;obtain ⟨aS,aT,am,aU⟩:=hF4;have ai:=congrArg List.length am;simp only [List.length_append,List.length_take,List.length_map,List.length_nil] at ai;refine vG [.u 2,.l 0,.ln (kF 3 e q),.u 1] fun bh=>?_;intro _ _;refine vd (ad < (e.length:Int)) (fun q7=>?_) fun q8=>?_
 ·refine nm (e.getD ad.toNat default:DFunc) fun x4 aC=>nm (I ++([x4.Name]:List ByteArray):List ByteArray) fun l4 aD=>vG [.u 2,.l 0,.u 1,.iX (kF 3 e q) ad,.u 1,.le g0 (kF 3 e q) ad (some 0) true x4 aC (fun _=>⟨by omega,by omega⟩) false (fun _=>[tv x4.Name]),.nr 7 true 9 ([x4.Name]:List ByteArray) [] (fun _ _ _ _ _=>trivial) (fun _=>#[tv x4.Name]),.ap 8 1 9 16 false true I (fun _=>M) (kf true (.g 7 0) ([x4.Name]:List ByteArray) (fun G=>⟨atB (G 7).b,1,1⟩)) true l4 aD (by first | omega | (simp;omega) | simp) (fun h=>by cases h) (.inr fun _ _=>trivial),.u 1] fun aL=>?_;intro _ _
  refine vG [.u 1,.aa (ad+1),.u 1] fun bi=>?_;intro _ _
  refine V.rn hZ4 (l4,(aL 8).s,ad+1) [0,1,2,3,4,5,6,7] ?_ ?_
  ·refine ⟨by omega,by omega,?_,by omega⟩;show l4=((a.map (·.Name)) ++(c.map (·.Name)) ++(d.map (·.Name))) ++(e.map (·.Name)).take (ad+1).toNat;rw [aD,am];exact Zu.snoc_take (g:=fun x:DFunc=>x.Name) (by omega) (by omega) aC
  dsimp only;omega
 refine vG [.u 1] fun bj=>?_;intro _ _
 refine V.lp (γ:=List ByteArray × SV × Int) (fun ⟨P,Q,ae⟩=>⟨[(1,pp ((G1 0).b) 0),(3,Q.v),(8,iv ae)],[fs false a m,fs false c o,fs false d p,fs false e q,fs false f r,fs false j t,fs false k y,fs false z A],[.blk ((G1 0).b) (ca (DSheet.mk B ⟨a,m⟩ ⟨c,o⟩ ⟨d,p⟩ ⟨e,q⟩ ⟨f,r⟩ ⟨j,t⟩ ⟨k,y⟩ ⟨z,A⟩)) 31,os true 9 P Q]⟩) (fun ⟨P,Q,ae⟩=>(0≤ae)∧(ae≤(f.length:Int))∧(P=((a.map (·.Name)) ++(c.map (·.Name)) ++(d.map (·.Name)) ++(e.map (·.Name))) ++(f.map (·.Name)).take ae.toNat)∧(0≤ae)) (fun ⟨P,Q,ae⟩=>((f.length:Int)-ae).toNat) (I,M,0) [0,1,2,3,4,5,6,7] ?_ ?_
 ·refine ⟨by omega,by omega,?_,by omega⟩;show I=((a.map (·.Name)) ++(c.map (·.Name)) ++(d.map (·.Name)) ++(e.map (·.Name))) ++(f.map (·.Name)).take (0:Int).toNat;rw [am,List.take_of_length_le (by rw [List.length_map];omega),show (0:Int).toNat=0 by rfl,List.take_zero,List.append_nil]
 rintro ⟨P,Q,ae⟩ hF5 kw24 Z5 hZ5;obtain ⟨aV,aW,an,aX⟩:=hF5;have ai:=congrArg List.length an;simp only [List.length_append,List.length_take,List.length_map,List.length_nil] at ai;refine vG [.u 2,.l 0,.ln (kF 4 f r),.u 1] fun bk=>?_;intro _ _;refine vd (ae < (f.length:Int)) (fun q9=>?_) fun bm=>?_
 ·refine nm (f.getD ae.toNat default:DCell) fun x5 aE=>nm (P ++([x5.Name]:List ByteArray):List ByteArray) fun l5 aF=>vG [.u 2,.l 0,.u 1,.iX (kF 4 f r) ae,.u 1,.le g0 (kF 4 f r) ae (some 0) true x5 aE (fun _=>⟨by omega,by omega⟩) false (fun _=>[tv x5.Name]),.nr 7 true 9 ([x5.Name]:List ByteArray) [] (fun _ _ _ _ _=>trivial) (fun _=>#[tv x5.Name]),.ap 8 1 9 16 false true P (fun _=>Q) (kf true (.g 7 0) ([x5.Name]:List ByteArray) (fun G=>⟨atB (G 7).b,1,1⟩)) true l5 aF (by first | omega | (simp;omega) | simp) (fun h=>by cases h) (.inr fun _ _=>trivial),.u 1] fun aM=>?_;intro _ _
  refine vG [.u 1,.aa (ae+1),.u 1] fun bn=>?_;intro _ _
  refine V.rn hZ5 (l5,(aM 8).s,ae+1) [0,1,2,3,4,5,6,7] ?_ ?_
  ·refine ⟨by omega,by omega,?_,by omega⟩;show l5=((a.map (·.Name)) ++(c.map (·.Name)) ++(d.map (·.Name)) ++(e.map (·.Name))) ++(f.map (·.Name)).take (ae+1).toNat;rw [aF,an];exact Zu.snoc_take (g:=fun x:DCell=>x.Name) (by omega) (by omega) aE
  dsimp only;omega
 refine vG [.u 1] fun bp=>?_;intro _ _
 refine V.lp (γ:=List ByteArray × SV × Int) (fun ⟨X,Y,af⟩=>⟨[(1,pp ((G1 0).b) 0),(3,Y.v),(9,iv af)],[fs false a m,fs false c o,fs false d p,fs false e q,fs false f r,fs false j t,fs false k y,fs false z A],[.blk ((G1 0).b) (ca (DSheet.mk B ⟨a,m⟩ ⟨c,o⟩ ⟨d,p⟩ ⟨e,q⟩ ⟨f,r⟩ ⟨j,t⟩ ⟨k,y⟩ ⟨z,A⟩)) 31,os true 9 X Y]⟩) (fun ⟨X,Y,af⟩=>(0≤af)∧(af≤(j.length:Int))∧(X=((a.map (·.Name)) ++(c.map (·.Name)) ++(d.map (·.Name)) ++(e.map (·.Name)) ++(f.map (·.Name))) ++(j.map (·.Name)).take af.toNat)∧(0≤af)) (fun ⟨X,Y,af⟩=>((j.length:Int)-af).toNat) (P,Q,0) [0,1,2,3,4,5,6,7] ?_ ?_
 ·refine ⟨by omega,by omega,?_,by omega⟩;show P=((a.map (·.Name)) ++(c.map (·.Name)) ++(d.map (·.Name)) ++(e.map (·.Name)) ++(f.map (·.Name))) ++(j.map (·.Name)).take (0:Int).toNat;rw [an,List.take_of_length_le (by rw [List.length_map];omega),show (0:Int).toNat=0 by rfl,List.take_zero,List.append_nil]
 rintro ⟨X,Y,af⟩ hF6 kw29 Z6 hZ6;obtain ⟨aY,aZ,ao,a0⟩:=hF6;have ai:=congrArg List.length ao;simp only [List.length_append,List.length_take,List.length_map,List.length_nil] at ai;refine vG [.u 2,.l 0,.ln (kF 5 j t),.u 1] fun bq=>?_;intro _ _;refine vd (af < (j.length:Int)) (fun br=>?_) fun bs=>?_
 ·refine nm (j.getD af.toNat default:DPort) fun x6 aG=>nm (X ++([x6.Name]:List ByteArray):List ByteArray) fun l6 aH=>vG [.u 2,.l 0,.u 1,.iX (kF 5 j t) af,.u 1,.le g0 (kF 5 j t) af (some 0) false x6 aG (fun _=>⟨by omega,by omega⟩) false (fun _=>[tv x6.Name]),.nr 7 true 9 ([x6.Name]:List ByteArray) [] (fun _ _ _ _ _=>trivial) (fun _=>#[tv x6.Name]),.ap 8 1 9 16 false true X (fun _=>Y) (kf true (.g 7 0) ([x6.Name]:List ByteArray) (fun G=>⟨atB (G 7).b,1,1⟩)) true l6 aH (by first | omega | (simp;omega) | simp) (fun h=>by cases h) (.inr fun _ _=>trivial),.u 1] fun aN=>?_;intro _ _
  refine vG [.u 1,.aa (af+1),.u 1] fun bt=>?_;intro _ _
  refine V.rn hZ6 (l6,(aN 8).s,af+1) [0,1,2,3,4,5,6,7] ?_ ?_
  ·refine ⟨by omega,by omega,?_,by omega⟩;show l6=((a.map (·.Name)) ++(c.map (·.Name)) ++(d.map (·.Name)) ++(e.map (·.Name)) ++(f.map (·.Name))) ++(j.map (·.Name)).take (af+1).toNat;rw [aH,ao];exact Zu.snoc_take (g:=fun x:DPort=>x.Name) (by omega) (by omega) aG
  dsimp only;omega
 refine vG [.u 1] fun bu=>?_;intro _ _
 refine V.lp (γ:=List ByteArray × SV × Int) (fun ⟨Z,w,ah⟩=>⟨[(1,pp ((G1 0).b) 0),(3,w.v),(10,iv ah)],[fs false a m,fs false c o,fs false d p,fs false e q,fs false f r,fs false j t,fs false k y,fs false z A],[.blk ((G1 0).b) (ca (DSheet.mk B ⟨a,m⟩ ⟨c,o⟩ ⟨d,p⟩ ⟨e,q⟩ ⟨f,r⟩ ⟨j,t⟩ ⟨k,y⟩ ⟨z,A⟩)) 31,os true 9 Z w]⟩) (fun ⟨Z,w,ah⟩=>(0≤ah)∧(ah≤(k.length:Int))∧(Z=((a.map (·.Name)) ++(c.map (·.Name)) ++(d.map (·.Name)) ++(e.map (·.Name)) ++(f.map (·.Name)) ++(j.map (·.Name))) ++(k.map (·.Name)).take ah.toNat)∧(0≤ah)) (fun ⟨Z,w,ah⟩=>((k.length:Int)-ah).toNat) (X,Y,0) [0,1,2,3,4,5,6,7] ?_ ?_
 ·refine ⟨by omega,by omega,?_,by omega⟩;show X=((a.map (·.Name)) ++(c.map (·.Name)) ++(d.map (·.Name)) ++(e.map (·.Name)) ++(f.map (·.Name)) ++(j.map (·.Name))) ++(k.map (·.Name)).take (0:Int).toNat;rw [ao,List.take_of_length_le (by rw [List.length_map];omega),show (0:Int).toNat=0 by rfl,List.take_zero,List.append_nil]
 rintro ⟨Z,w,ah⟩ hF7 kw34 Z7 hZ7;obtain ⟨a1,a2,aq,a3⟩:=hF7;have ai:=congrArg List.length aq;simp only [List.length_append,List.length_take,List.length_map,List.length_nil] at ai;refine vG [.u 2,.l 0,.ln (kF 6 k y),.u 1] fun bw=>?_;intro _ _;refine vd (ah < (k.length:Int)) (fun bx=>?_) fun bz=>?_
 ·refine nm (k.getD ah.toNat default:DStore) fun x7 aI=>nm (Z ++([x7.Name]:List ByteArray):List ByteArray) fun l7 aJ=>vG [.u 2,.l 0,.u 1,.iX (kF 6 k y) ah,.u 1,.le g0 (kF 6 k y) ah (some 0) false x7 aI (fun _=>⟨by omega,by omega⟩) false (fun _=>[tv x7.Name]),.nr 7 true 9 ([x7.Name]:List ByteArray) [] (fun _ _ _ _ _=>trivial) (fun _=>#[tv x7.Name]),.ap 8 1 9 16 false true Z (fun _=>w) (kf true (.g 7 0) ([x7.Name]:List ByteArray) (fun G=>⟨atB (G 7).b,1,1⟩)) true l7 aJ (by first | omega | (simp;omega) | simp) (fun h=>by cases h) (.inr fun _ _=>trivial),.u 1] fun aO=>?_;intro _ _
  refine vG [.u 1,.aa (ah+1),.u 1] fun bA=>?_;intro _ _
  refine V.rn hZ7 (l7,(aO 8).s,ah+1) [0,1,2,3,4,5,6,7] ?_ ?_
  ·refine ⟨by omega,by omega,?_,by omega⟩;show l7=((a.map (·.Name)) ++(c.map (·.Name)) ++(d.map (·.Name)) ++(e.map (·.Name)) ++(f.map (·.Name)) ++(j.map (·.Name))) ++(k.map (·.Name)).take (ah+1).toNat;rw [aJ,aq];exact Zu.snoc_take (g:=fun x:DStore=>x.Name) (by omega) (by omega) aI
  dsimp only;omega
 refine vG [.u 2] fun bB=>?_;intro _ _
 refine V.frz 1 true 9 Z w (by kernel_rfl) ?_;have e0:Z=Zu.names a c d e f j k:=by rw [aq,List.take_of_length_le (by rw [List.length_map];omega)];rfl
 subst e0;exact V.rS [0] [w] [] [] [8] []

theorem rfw20_ct (A:BA) (m:List DImport) (B:SV) (o:List DInput) (C:SV) (d:List DTable) (y:SV) (c:List DFunc) (t:SV) (e:List DCell) (z:SV) (q:List DPort) (D:SV) (r:List DStore) (E:SV) (f:List DRecipe) (x:SV) (hL:(m.length:Int)+o.length+d.length+c.length+e.length+q.length+r.length+f.length≤100000000) :
  Cp Tryz.prog 28 #[ag (DSheet.mk A ⟨m,B⟩ ⟨o,C⟩ ⟨d,y⟩ ⟨c,t⟩ ⟨e,z⟩ ⟨q,D⟩ ⟨r,E⟩ ⟨f,x⟩)] [fs true m B,fs true o C,fs true d y,fs true c t,fs true e z,fs true q D,fs true r E,fs true f x] (bv (Zu.few20 A m o d c e q r f)):=by
 refine vf mo Tryz.func28 161 1 fun _=>?_
 refine vG [.n 0,.kb false] fun G1=>?_;intro _ _
 refine nm ((!(Zu.shrt (Zu.names m o d c e q r) (105:Int))) || (decide (8 < (f.length:Int))):Bool) fun p1 ah=>vG [.l 0,.cA 1 61 [kA 0 m B,kA 1 o C,kA 2 d y,kA 3 c t,kA 4 e z,kA 5 q D,kA 6 r E,kA 7 f x] fun G=>rnam_ct A m B o C d y c t e z q D r E f x (by omega),.cP 2 60 [(kf true (.g 1 0) (Zu.names m o d c e q r) (fun G=>(G 1).ss 0)).a] fun G=>rsho_ct (Zu.names m o d c e q r) ((G 1).ss 0) (105:Int) (by omega),.u 3,.l 0,.ln (kF 7 f x),.u 1,.orn g0 false (!(Zu.shrt (Zu.names m o d c e q r) (105:Int))) (decide (8 < (f.length:Int))) p1 ah,.u 2,.l 0,.u 2,.or g0 false p1 (decide (60 < (A.size:Int)))] fun G2=>?_;intro _ _
 refine V.cn (b:=p1 || (decide (60 < (A.size:Int)))) (iOT (iN ah (iOT (iNT Iff.rfl) iDT)) iDT) (iOF (iN ah (iOF (iNF Iff.rfl) iDF)) iDF) (fun q1=>?_) (fun q2=>?_)
 ·refine vG [.kb false] fun G3=>?_;intro _ _
  have e0:false=Zu.few20 A m o d c e q r f:=by
   unfold Zu.few20;unfold Zu.sh60;grind
  exact vb 0 [] e0
 refine vG [.u 1] fun G4=>?_;intro _ _
 refine V.lp (γ:=Int) (fun i=>⟨[(1,pp ((G1 0).b) 0),(3,iv i)],[fs false m B,fs false o C,fs false d y,fs false c t,fs false e z,fs false q D,fs false r E,fs false f x],[.blk ((G1 0).b) (ca (DSheet.mk A ⟨m,B⟩ ⟨o,C⟩ ⟨d,y⟩ ⟨c,t⟩ ⟨e,z⟩ ⟨q,D⟩ ⟨r,E⟩ ⟨f,x⟩)) 31]⟩) (fun i=>(0≤i)∧(i≤(f.length:Int))∧(0≤i)∧(∀ j:Nat,j < i.toNat→Zu.recF (f.getD j default)=true)) (fun i=>((f.length:Int)-i).toNat) 0 [0,1,2,3,4,5,6,7] ?_ ?_
 ·refine ⟨by omega,by omega,by omega,?_⟩;show ∀ j:Nat,j < (0:Int).toNat→Zu.recF (f.getD j default)=true;exact Zu.all0 _ _
 rintro i hF1 kw5 Z1 hZ1;obtain ⟨aF,aG,aH,an⟩:=hF1;refine vG [.u 2,.l 0,.ln (kF 7 f x),.u 1] fun G5=>?_;intro _ _;refine vd (i < (f.length:Int)) (fun q3=>?_) fun q4=>?_
 ·refine nm (f.getD i.toNat default:DRecipe) fun x1 X=>nm ((!(Zu.stpsF x1.Steps.l)) || (decide (60 < (x1.Kind.size:Int))):Bool) fun p2 ai=>vG [.u 1,.l 0,.u 1,.iX (kF 7 f x) i,.u 1,.le g0 (kF 7 f x) i (some 1) true x1 X (fun _=>⟨by omega,by omega⟩) false (fun _=>[x1.Steps.s.v]),.cP 6 62 [(kx false (.g 5 0) x1 x1.Steps.l (fun _=>x1.Steps.s) (fun _ _ h=>h)).a] fun G=>rfst_ct x1.Steps.l x1.Steps.s,.u 3,.l 0,.u 1,.ix (gF (b:=!(Zu.stpsF x1.Steps.l)) (iNF Iff.rfl)) (kF 7 f x) i (fun hg=>⟨by omega,by omega⟩),.u 1,.le (gF (b:=!(Zu.stpsF x1.Steps.l)) (iNF Iff.rfl)) (kF 7 f x) i (some 0) true x1 X (fun hg=>⟨by omega,by omega⟩) false (fun _=>[tv x1.Kind]),.u 2,.orn g0 false (!(Zu.stpsF x1.Steps.l)) (decide (60 < (x1.Kind.size:Int))) p2 ai] fun G6=>?_;intro _ _
  refine V.cn (b:=p2) (iN ai (iOT (iNT Iff.rfl) iDT)) (iN ai (iOF (iNF Iff.rfl) iDF)) (fun q5=>?_) (fun q6=>?_)
  ·refine vG [.kb false] fun G7=>?_;intro _ _
   have e0:false=Zu.few20 A m o d c e q r f:=by
    unfold Zu.few20;rw [(Zu.all_no (p:=Zu.recF) (by omega) (by omega) X (by unfold Zu.recF Zu.sh60;grind))];simp
   exact vb 0 [] e0
  refine vG [.u 1,.aa (i+1),.u 1] fun G8=>?_;intro _ _
  refine V.rn hZ1 (i+1) [0,1,2,3,4,5,6,7] ?_ ?_
  ·refine ⟨by omega,by omega,by omega,?_⟩;show ∀ j:Nat,j < (i+1).toNat→Zu.recF (f.getD j default)=true;exact Zu.all_step an (by omega) X (by unfold Zu.recF Zu.sh60;grind)
  omega
 have au:=Zu.all_end (p:=Zu.recF) an (by omega);refine vG [.u 1] fun G9=>?_;intro _ _
 refine V.lp (γ:=Int) (fun I=>⟨[(1,pp ((G1 0).b) 0),(4,iv I)],[fs false m B,fs false o C,fs false d y,fs false c t,fs false e z,fs false q D,fs false r E,fs false f x],[.blk ((G1 0).b) (ca (DSheet.mk A ⟨m,B⟩ ⟨o,C⟩ ⟨d,y⟩ ⟨c,t⟩ ⟨e,z⟩ ⟨q,D⟩ ⟨r,E⟩ ⟨f,x⟩)) 31]⟩) (fun I=>(0≤I)∧(I≤(d.length:Int))∧(0≤I)∧(∀ j:Nat,j < I.toNat→Zu.tabF (d.getD j default)=true)) (fun I=>((d.length:Int)-I).toNat) 0 [0,1,2,3,4,5,6,7] ?_ ?_
 ·refine ⟨by omega,by omega,by omega,?_⟩;show ∀ j:Nat,j < (0:Int).toNat→Zu.tabF (d.getD j default)=true;exact Zu.all0 _ _
 rintro I hF2 kw11 Z2 hZ2;obtain ⟨aI,aJ,aK,ao⟩:=hF2;refine vG [.u 2,.l 0,.ln (kF 2 d y),.u 1] fun aL=>?_;intro _ _;refine vd (I < (d.length:Int)) (fun q7=>?_) fun q8=>?_
 ·refine nm (d.getD I.toNat default:DTable) fun x2 Y=>nm ((decide (110 < (x2.Rows.l.length:Int))) || (decide (60 < (x2.Unit.size:Int))):Bool) fun p3 aj=>vG [.u 1,.l 0,.u 1,.iX (kF 2 d y) I,.u 1,.le g0 (kF 2 d y) I (some 2) true x2 Y (fun _=>⟨by omega,by omega⟩) false (fun _=>[x2.Rows.s.v]),.ln (kx false (.g 5 0) x2 x2.Rows.l (fun _=>x2.Rows.s) (fun _ _ h=>h)),.u 3,.l 0,.u 1,.ix (gF (b:=decide (110 < (x2.Rows.l.length:Int))) iDF) (kF 2 d y) I (fun hg=>⟨by omega,by omega⟩),.u 1,.le (gF (b:=decide (110 < (x2.Rows.l.length:Int))) iDF) (kF 2 d y) I (some 1) true x2 Y (fun hg=>⟨by omega,by omega⟩) false (fun _=>[tv x2.Unit]),.u 2,.orn g0 false (decide (110 < (x2.Rows.l.length:Int))) (decide (60 < (x2.Unit.size:Int))) p3 aj] fun aM=>?_;intro _ _
  refine V.cn (b:=p3) (iN aj (iOT iDT iDT)) (iN aj (iOF iDF iDF)) (fun q9=>?_) (fun aN=>?_)
  ·refine vG [.kb false] fun aO=>?_;intro _ _
   have e0:false=Zu.few20 A m o d c e q r f:=by
    unfold Zu.few20;rw [(Zu.all_no (p:=Zu.tabF) (by omega) (by omega) Y (by unfold Zu.tabF Zu.sh60;grind))];simp
   exact vb 0 [] e0
  refine vG [.u 1,.aa (I+1),.u 1] fun aP=>?_;intro _ _
  refine V.rn hZ2 (I+1) [0,1,2,3,4,5,6,7] ?_ ?_
  ·refine ⟨by omega,by omega,by omega,?_⟩;show ∀ j:Nat,j < (I+1).toNat→Zu.tabF (d.getD j default)=true;exact Zu.all_step ao (by omega) Y (by unfold Zu.tabF Zu.sh60;grind)
  omega
 have av:=Zu.all_end (p:=Zu.tabF) ao (by omega);refine vG [.u 1] fun aQ=>?_;intro _ _
 refine V.lp (γ:=Int) (fun w=>⟨[(1,pp ((G1 0).b) 0),(5,iv w)],[fs false m B,fs false o C,fs false d y,fs false c t,fs false e z,fs false q D,fs false r E,fs false f x],[.blk ((G1 0).b) (ca (DSheet.mk A ⟨m,B⟩ ⟨o,C⟩ ⟨d,y⟩ ⟨c,t⟩ ⟨e,z⟩ ⟨q,D⟩ ⟨r,E⟩ ⟨f,x⟩)) 31]⟩) (fun w=>(0≤w)∧(w≤(c.length:Int))∧(0≤w)∧(∀ j:Nat,j < w.toNat→Zu.funF (c.getD j default)=true)) (fun w=>((c.length:Int)-w).toNat) 0 [0,1,2,3,4,5,6,7] ?_ ?_
 ·refine ⟨by omega,by omega,by omega,?_⟩;show ∀ j:Nat,j < (0:Int).toNat→Zu.funF (c.getD j default)=true;exact Zu.all0 _ _
 rintro w hF3 kw17 Z3 hZ3;obtain ⟨aS,ay,az,ad⟩:=hF3;refine vG [.u 2,.l 0,.ln (kF 3 c t),.u 1] fun aT=>?_;intro _ _;refine vd (w < (c.length:Int)) (fun aU=>?_) fun aV=>?_
 ·refine nm (c.getD w.toNat default:DFunc) fun x3 P=>nm ((decide (8 < (x3.Params.l.length:Int))) || (!(Zu.exF (er x3.Body))):Bool) fun p4 ak=>vG [.u 1,.l 0,.u 1,.iX (kF 3 c t) w,.u 1,.le g0 (kF 3 c t) w (some 1) true x3 P (fun _=>⟨by omega,by omega⟩) false (fun _=>[x3.Params.s.v]),.ln (kx false (.g 5 0) x3 x3.Params.l (fun _=>x3.Params.s) (fun _ H (h:Dat.good H (x3:DFunc))=>h.1)),.u 3,.l 0,.u 1,.ix (gF (b:=decide (8 < (x3.Params.l.length:Int))) iDF) (kF 3 c t) w (fun hg=>⟨by omega,by omega⟩),.u 1,.le (gF (b:=decide (8 < (x3.Params.l.length:Int))) iDF) (kF 3 c t) w (some 2) true x3 P (fun hg=>⟨by omega,by omega⟩) true (fun _=>Dat.cells x3.Body),.cp (gF (b:=decide (8 < (x3.Params.l.length:Int))) iDF) 15 63 [(kx false (.g 14 0) x3 x3.Body.Args.l (fun _=>x3.Body.Args.s) (fun _ H (h:Dat.good H (x3:DFunc))=>(exG.1 h.2))).a] (fun hg G=>rfex_ct x3.Body),.u 1,.orn g0 false (decide (8 < (x3.Params.l.length:Int))) (!(Zu.exF (er x3.Body))) p4 ak] fun aW=>?_;intro _ _
  refine V.cn (b:=p4) (iN ak (iOT iDT (iNT Iff.rfl))) (iN ak (iOF iDF (iNF Iff.rfl))) (fun aX=>?_) (fun aY=>?_)
  ·refine vG [.kb false] fun aZ=>?_;intro _ _
   have e0:false=Zu.few20 A m o d c e q r f:=by
    unfold Zu.few20;rw [(Zu.all_no (p:=Zu.funF) (by omega) (by omega) P (by unfold Zu.funF;grind))];simp
   exact vb 0 [] e0
  refine vG [.u 1] fun a0=>?_;intro _ _
  refine V.lp (γ:=Int) (fun k=>⟨[(1,pp ((G1 0).b) 0),(5,iv w),(6,iv k)],[fs false m B,fs false o C,fs false d y,fs false c t,fs false e z,fs false q D,fs false r E,fs false f x],[.blk ((G1 0).b) (ca (DSheet.mk A ⟨m,B⟩ ⟨o,C⟩ ⟨d,y⟩ ⟨c,t⟩ ⟨e,z⟩ ⟨q,D⟩ ⟨r,E⟩ ⟨f,x⟩)) 31]⟩) (fun k=>(0≤k)∧(∀ j:Nat,j < k.toNat→Zu.parF (x3.Params.l.getD j default)=true)) (fun k=>((x3.Params.l.length:Int)-k).toNat) 0 [0,1,2,3,4,5,6,7] ?_ ?_
  ·refine ⟨by omega,?_⟩;show ∀ j:Nat,j < (0:Int).toNat→Zu.parF (x3.Params.l.getD j default)=true;exact Zu.all0 _ _
  rintro k hF4 kw22 Z4 hZ4;obtain ⟨aA,ae⟩:=hF4;refine nm (c.getD w.toNat default:DFunc) fun x4 Z=>vR [.u 2,.l 0,.u 1,.iX (kF 3 c t) w,.u 1,.le g0 (kF 3 c t) w (some 1) true x4 Z (fun _=>⟨by omega,by omega⟩) false (fun _=>[x4.Params.s.v]),.ln (kx false (.g 6 0) x4 x4.Params.l (fun _=>x4.Params.s) (fun _ H (h:Dat.good H (x4:DFunc))=>h.1)),.u 1] fun a1 aq=>?_;intro _ _;obtain ⟨⟨aB, -⟩,⟨kl15, -⟩⟩:(Lq x4.Params.l x4.Params.s.v∧Lq x4.Body.Args.l x4.Body.Args.s.v):=kj aq 0;have Q:x4=x3:=Z.trans P.symm;refine vd (k < (x4.Params.l.length:Int)) (fun a2=>?_) fun a3=>?_
  ·refine nm (x4.Params.l.getD k.toNat default:DParam) fun x5 ab=>nm ((decide (60 < (x5.Name.size:Int))) || (decide (60 < (x5.Unit.size:Int))):Bool) fun p5 al=>vG [.u 1,.l 0,.u 1,.iX (kF 3 c t) w,.u 1,.le g0 (kF 3 c t) w (some 1) true x4 Z (fun _=>⟨by omega,by omega⟩) false (fun _=>[x4.Params.s.v]),.u 1,.iX (kx false (.g 5 0) x4 x4.Params.l (fun _=>x4.Params.s) (fun _ H (h:Dat.good H (x4:DFunc))=>h.1)) k,.u 1,.le g0 (kx false (.g 5 0) x4 x4.Params.l (fun _=>x4.Params.s) (fun _ H (h:Dat.good H (x4:DFunc))=>h.1)) k (some 0) false x5 ab (fun _=>⟨by omega,by omega⟩) false (fun _=>[tv x5.Name]),.u 4,.l 0,.u 1,.ix (gF (b:=decide (60 < (x5.Name.size:Int))) iDF) (kF 3 c t) w (fun hg=>⟨by omega,by omega⟩),.u 1,.le (gF (b:=decide (60 < (x5.Name.size:Int))) iDF) (kF 3 c t) w (some 1) true x4 Z (fun hg=>⟨by omega,by omega⟩) false (fun _=>[x4.Params.s.v]),.u 1,.ix (gF (b:=decide (60 < (x5.Name.size:Int))) iDF) (kx false (.g 18 0) x4 x4.Params.l (fun _=>x4.Params.s) (fun _ H (h:Dat.good H (x4:DFunc))=>h.1)) k (fun hg=>⟨by omega,by omega⟩),.u 1,.le (gF (b:=decide (60 < (x5.Name.size:Int))) iDF) (kx false (.g 18 0) x4 x4.Params.l (fun _=>x4.Params.s) (fun _ H (h:Dat.good H (x4:DFunc))=>h.1)) k (some 1) false x5 ab (fun hg=>⟨by omega,by omega⟩) false (fun _=>[tv x5.Unit]),.u 2,.orn g0 false (decide (60 < (x5.Name.size:Int))) (decide (60 < (x5.Unit.size:Int))) p5 al] fun a4=>?_;intro _ _
   refine V.cn (b:=p5) (iN al (iOT iDT iDT)) (iN al (iOF iDF iDF)) (fun a5=>?_) (fun a6=>?_)
   ·refine vG [.kb false] fun a7=>?_;intro _ _
    have e0:false=Zu.few20 A m o d c e q r f:=by
     unfold Zu.few20;rw [Zu.all_no (p:=Zu.funF) (by omega) (by omega) P (by unfold Zu.funF;rw [Zu.all_no (p:=Zu.parF) (l:=x3.Params.l) (i:=k) (by omega) (by rw [←Q];omega) (ab.trans (by rw [Q])) (by unfold Zu.parF Zu.sh60;grind),Bool.and_false])];simp
    exact vb 0 [] e0
   refine vG [.u 1,.aa (k+1),.u 1] fun a8=>?_;intro _ _
   refine V.rn hZ4 (k+1) [0,1,2,3,4,5,6,7] ?_ ?_
   ·refine ⟨by omega,?_⟩;show ∀ j:Nat,j < (k+1).toNat→Zu.parF (x3.Params.l.getD j default)=true;exact Zu.all_step ae (by omega) (ab.trans (by rw [Q])) (by unfold Zu.parF Zu.sh60;grind)
   show ((x3.Params.l.length:Int)-(k+1)).toNat < ((x3.Params.l.length:Int)-k).toNat;rw [←Q];omega
  refine vG [.u 1,.aa (w+1),.u 1] fun a9=>?_;intro _ _
  refine V.rn hZ3 (w+1) [0,1,2,3,4,5,6,7] ?_ ?_
  ·refine ⟨by omega,by omega,by omega,?_⟩;show ∀ j:Nat,j < (w+1).toNat→Zu.funF (c.getD j default)=true;refine Zu.all_step ad (by omega) P ?_;unfold Zu.funF;rw [Zu.all_end (p:=Zu.parF) (l:=x3.Params.l) ae (by rw [←Q];omega)];grind
  omega
 have aw:=Zu.all_end (p:=Zu.funF) ad (by omega);refine vG [.u 1] fun ba=>?_;intro _ _
 refine V.lp (γ:=Int) (fun M=>⟨[(1,pp ((G1 0).b) 0),(7,iv M)],[fs false m B,fs false o C,fs false d y,fs false c t,fs false e z,fs false q D,fs false r E,fs false f x],[.blk ((G1 0).b) (ca (DSheet.mk A ⟨m,B⟩ ⟨o,C⟩ ⟨d,y⟩ ⟨c,t⟩ ⟨e,z⟩ ⟨q,D⟩ ⟨r,E⟩ ⟨f,x⟩)) 31]⟩) (fun M=>(0≤M)∧(M≤(e.length:Int))∧(0≤M)∧(∀ j:Nat,j < M.toNat→Zu.celF (e.getD j default)=true)) (fun M=>((e.length:Int)-M).toNat) 0 [0,1,2,3,4,5,6,7] ?_ ?_
 ·refine ⟨by omega,by omega,by omega,?_⟩;show ∀ j:Nat,j < (0:Int).toNat→Zu.celF (e.getD j default)=true;exact Zu.all0 _ _
 rintro M hF5 kw29 Z5 hZ5;obtain ⟨aC,aD,aE,af⟩:=hF5;refine vG [.u 2,.l 0,.ln (kF 4 e z),.u 1] fun bb=>?_;intro _ _;refine vd (M < (e.length:Int)) (fun bc=>?_) fun be=>?_
 ·refine nm (e.getD M.toNat default:DCell) fun x6 ac=>nm ((decide (60 < (x6.Unit.size:Int))) || (!(Zu.exF (er x6.Def))):Bool) fun p6 am=>vG [.u 1,.l 0,.u 1,.iX (kF 4 e z) M,.u 1,.le g0 (kF 4 e z) M (some 1) true x6 ac (fun _=>⟨by omega,by omega⟩) false (fun _=>[tv x6.Unit]),.u 4,.l 0,.u 1,.ix (gF (b:=decide (60 < (x6.Unit.size:Int))) iDF) (kF 4 e z) M (fun hg=>⟨by omega,by omega⟩),.u 1,.le (gF (b:=decide (60 < (x6.Unit.size:Int))) iDF) (kF 4 e z) M (some 2) true x6 ac (fun hg=>⟨by omega,by omega⟩) true (fun _=>Dat.cells x6.Def),.cp (gF (b:=decide (60 < (x6.Unit.size:Int))) iDF) 15 63 [(kx false (.g 14 0) x6 x6.Def.Args.l (fun _=>x6.Def.Args.s) (fun _ H (h:Dat.good H (x6:DCell))=>(exG.1 h))).a] (fun hg G=>rfex_ct x6.Def),.u 1,.orn g0 false (decide (60 < (x6.Unit.size:Int))) (!(Zu.exF (er x6.Def))) p6 am] fun bf=>?_;intro _ _
  refine V.cn (b:=p6) (iN am (iOT iDT (iNT Iff.rfl))) (iN am (iOF iDF (iNF Iff.rfl))) (fun bg=>?_) (fun bh=>?_)
  ·refine vG [.kb false] fun bi=>?_;intro _ _
   have e0:false=Zu.few20 A m o d c e q r f:=by
    unfold Zu.few20;rw [(Zu.all_no (p:=Zu.celF) (by omega) (by omega) ac (by unfold Zu.celF Zu.sh60;grind))];simp
   exact vb 0 [] e0
  refine vG [.u 1,.aa (M+1),.u 1] fun bj=>?_;intro _ _
  refine V.rn hZ5 (M+1) [0,1,2,3,4,5,6,7] ?_ ?_
  ·refine ⟨by omega,by omega,by omega,?_⟩;show ∀ j:Nat,j < (M+1).toNat→Zu.celF (e.getD j default)=true;exact Zu.all_step af (by omega) ac (by unfold Zu.celF Zu.sh60;grind)
  omega
 have ax:=Zu.all_end (p:=Zu.celF) af (by omega);refine vG [.kb true] fun bk=>?_;intro _ _
 have e0:true=Zu.few20 A m o d c e q r f:=by
  unfold Zu.few20;rw [au,av,aw,ax];unfold Zu.sh60;grind
 exact vb 0 [] e0

theorem rfw21_ct (v:BA) (e:List DImport) (x:SV) (f:List DInput) (y:SV) (k:List DTable) (z:SV) (c:List DFunc) (r:SV) (d:List DCell) (t:SV) (m:List DPort) (A:SV) (o:List DStore) (B:SV) (q:List DRecipe) (C:SV) (hL:(e.length:Int)+f.length+k.length+c.length+d.length+m.length+o.length+q.length≤100000000) :
  Cp Tryz.prog 10 #[ag (DSheet.mk v ⟨e,x⟩ ⟨f,y⟩ ⟨k,z⟩ ⟨c,r⟩ ⟨d,t⟩ ⟨m,A⟩ ⟨o,B⟩ ⟨q,C⟩)] [fs true e x,fs true f y,fs true k z,fs true c r,fs true d t,fs true m A,fs true o B,fs true q C] (bv (Zu.few21 v e f k c d m o q)):=by
 refine vf mo Tryz.func10 50 1 fun _=>?_
 refine vG [.n 0,.kb false] fun G1=>?_;intro _ _
 refine nm ((!(Zu.few20 v e f k c d m o q)) || (decide (7 < (d.length:Int))):Bool) fun p1 D=>vG [.l 0,.cP 1 28 [kA 0 e x,kA 1 f y,kA 2 k z,kA 3 c r,kA 4 d t,kA 5 m A,kA 6 o B,kA 7 q C] fun G=>rfw20_ct v e x f y k z c r d t m A o B q C (by omega),.u 3,.l 0,.ln (kF 4 d t),.u 1,.orn g0 false (!(Zu.few20 v e f k c d m o q)) (decide (7 < (d.length:Int))) p1 D,.u 2,.l 0,.ln (kF 3 c r),.u 1,.or g0 false p1 (decide (5 < (c.length:Int)))] fun G2=>?_;intro _ _
 refine V.cn (b:=p1 || (decide (5 < (c.length:Int)))) (iOT (iN D (iOT (iNT Iff.rfl) iDT)) iDT) (iOF (iN D (iOF (iNF Iff.rfl) iDF)) iDF) (fun q1=>?_) (fun q2=>?_)
 ·refine vG [.kb false] fun G3=>?_;intro _ _
  have e0:false=Zu.few21 v e f k c d m o q:=by
   unfold Zu.few21;grind
  exact vb 0 [] e0
 refine vG [.u 1] fun G4=>?_;intro _ _
 refine V.lp (γ:=Int) (fun i=>⟨[(1,pp ((G1 0).b) 0),(3,iv i)],[fs false e x,fs false f y,fs false k z,fs false c r,fs false d t,fs false m A,fs false o B,fs false q C],[.blk ((G1 0).b) (ca (DSheet.mk v ⟨e,x⟩ ⟨f,y⟩ ⟨k,z⟩ ⟨c,r⟩ ⟨d,t⟩ ⟨m,A⟩ ⟨o,B⟩ ⟨q,C⟩)) 31]⟩) (fun i=>(0≤i)∧(i≤(d.length:Int))∧(0≤i)∧(∀ j:Nat,j < i.toNat→Zu.cel21 (d.getD j default)=true)) (fun i=>((d.length:Int)-i).toNat) 0 [0,1,2,3,4,5,6,7] ?_ ?_
 ·refine ⟨by omega,by omega,by omega,?_⟩;show ∀ j:Nat,j < (0:Int).toNat→Zu.cel21 (d.getD j default)=true;exact Zu.all0 _ _
 rintro i hF1 kw5 Z1 hZ1;obtain ⟨Y,Z,ab,M⟩:=hF1;refine vG [.u 2,.l 0,.ln (kF 4 d t),.u 1] fun G5=>?_;intro _ _;refine vd (i < (d.length:Int)) (fun q3=>?_) fun q4=>?_
 ·refine nm (d.getD i.toNat default:DCell) fun x1 E=>vG [.u 1,.l 0,.u 1,.iX (kF 4 d t) i,.u 1,.le g0 (kF 4 d t) i (some 2) true x1 E (fun _=>⟨by omega,by omega⟩) true (fun _=>Dat.cells x1.Def),.cP 6 27 [(kx false (.g 5 0) x1 x1.Def.Args.l (fun _=>x1.Def.Args.s) (fun _ H (h:Dat.good H (x1:DCell))=>(exG.1 h))).a] fun G=>rfew_ct x1.Def (60:Int) (12:Int) (by omega) (by omega),.u 1] fun G6=>?_;intro _ _
  refine V.cn (b:=!(Zu.fw (er x1.Def) (60:Int) (12:Int))) (iNT Iff.rfl) (iNF Iff.rfl) (fun q5=>?_) (fun q6=>?_)
  ·refine vG [.kb false] fun G7=>?_;intro _ _
   have e0:false=Zu.few21 v e f k c d m o q:=by
    unfold Zu.few21;rw [(Zu.all_no (p:=Zu.cel21) (by omega) (by omega) E (by unfold Zu.cel21;grind))];simp
   exact vb 0 [] e0
  refine vG [.u 1,.aa (i+1),.u 1] fun G8=>?_;intro _ _
  refine V.rn hZ1 (i+1) [0,1,2,3,4,5,6,7] ?_ ?_
  ·refine ⟨by omega,by omega,by omega,?_⟩;show ∀ j:Nat,j < (i+1).toNat→Zu.cel21 (d.getD j default)=true;exact Zu.all_step M (by omega) E (by unfold Zu.cel21;grind)
  omega
 have Q:=Zu.all_end (p:=Zu.cel21) M (by omega);refine vG [.u 1] fun G9=>?_;intro _ _
 refine V.lp (γ:=Int) (fun w=>⟨[(1,pp ((G1 0).b) 0),(4,iv w)],[fs false e x,fs false f y,fs false k z,fs false c r,fs false d t,fs false m A,fs false o B,fs false q C],[.blk ((G1 0).b) (ca (DSheet.mk v ⟨e,x⟩ ⟨f,y⟩ ⟨k,z⟩ ⟨c,r⟩ ⟨d,t⟩ ⟨m,A⟩ ⟨o,B⟩ ⟨q,C⟩)) 31]⟩) (fun w=>(0≤w)∧(w≤(c.length:Int))∧(0≤w)∧(∀ j:Nat,j < w.toNat→Zu.fun21 (c.getD j default)=true)) (fun w=>((c.length:Int)-w).toNat) 0 [0,1,2,3,4,5,6,7] ?_ ?_
 ·refine ⟨by omega,by omega,by omega,?_⟩;show ∀ j:Nat,j < (0:Int).toNat→Zu.fun21 (c.getD j default)=true;exact Zu.all0 _ _
 rintro w hF2 kw11 Z2 hZ2;obtain ⟨ac,ad,ae,P⟩:=hF2;refine vG [.u 2,.l 0,.ln (kF 3 c r),.u 1] fun af=>?_;intro _ _;refine vd (w < (c.length:Int)) (fun q7=>?_) fun q8=>?_
 ·refine nm (c.getD w.toNat default:DFunc) fun x2 I=>vG [.u 1,.l 0,.u 1,.iX (kF 3 c r) w,.u 1,.le g0 (kF 3 c r) w (some 2) true x2 I (fun _=>⟨by omega,by omega⟩) true (fun _=>Dat.cells x2.Body),.cP 6 27 [(kx false (.g 5 0) x2 x2.Body.Args.l (fun _=>x2.Body.Args.s) (fun _ H (h:Dat.good H (x2:DFunc))=>(exG.1 h.2))).a] fun G=>rfew_ct x2.Body (60:Int) (12:Int) (by omega) (by omega),.u 1] fun ah=>?_;intro _ _
  refine V.cn (b:=!(Zu.fw (er x2.Body) (60:Int) (12:Int))) (iNT Iff.rfl) (iNF Iff.rfl) (fun q9=>?_) (fun ai=>?_)
  ·refine vG [.kb false] fun aj=>?_;intro _ _
   have e0:false=Zu.few21 v e f k c d m o q:=by
    unfold Zu.few21;rw [(Zu.all_no (p:=Zu.fun21) (by omega) (by omega) I (by unfold Zu.fun21;grind))];simp
   exact vb 0 [] e0
  refine vG [.u 1,.aa (w+1),.u 1] fun ak=>?_;intro _ _
  refine V.rn hZ2 (w+1) [0,1,2,3,4,5,6,7] ?_ ?_
  ·refine ⟨by omega,by omega,by omega,?_⟩;show ∀ j:Nat,j < (w+1).toNat→Zu.fun21 (c.getD j default)=true;exact Zu.all_step P (by omega) I (by unfold Zu.fun21;grind)
  omega
 have X:=Zu.all_end (p:=Zu.fun21) P (by omega);refine vG [.kb true] fun al=>?_;intro _ _
 have e0:true=Zu.few21 v e f k c d m o q:=by
  unfold Zu.few21;rw [Q,X];grind
 exact vb 0 [] e0

namespace Zo
structure FarI (G:List (List Int)) (goal:Nat) (s:Int) (d:List Int):Prop where
 len:d.length=G.length
 low:∀ k:Nat, -1≤d.getD k 0∨G.length≤k
 top:∀ k:Nat,k < G.length→d.getD k 0 < s
 zero:∀ k:Nat,k < G.length→(d.getD k 0=0↔k=goal)
 pre:∀ k:Nat,k < G.length→0 < d.getD k 0→∃ y ∈ G.getD k [],d.getD y.toNat 0=d.getD k 0 - 1
theorem getD_set_int {d:List Int} {i j:Nat} {x:Int}:(d.set i x).getD j 0=if i=j∧i < d.length then x else d.getD j 0:=by
 rw [List.getD_eq_getElem?_getD,List.getElem?_set,List.getD_eq_getElem?_getD];by_cases e:i=j
 ·subst e;by_cases h:i < d.length
  ·simp [h]
  ·simp [h,List.getElem?_eq_none (Nat.le_of_not_lt h)]
 ·simp [e]
structure FarJ (G:List (List Int)) (goal:Nat) (s:Int) (d0 d:List Int):Prop where
 len:d.length=G.length
 same:∀ k:Nat,d.getD k 0=d0.getD k 0∨(k < G.length∧d0.getD k 0 < 0∧d.getD k 0=s∧∃ y ∈ G.getD k [],d0.getD y.toNat 0=s - 1)
theorem FarJ.step {G:List (List Int)} {goal:Nat} {s:Int} {d0 d:List Int} (h1:1≤s) (h0:FarI G goal s d0) (h:FarJ G goal s d0 d) (i:Nat) (hi:i < G.length):FarJ G goal s d0 (stepD G s d i):=by
 unfold stepD;split
 ·rename_i hc
  obtain ⟨c1,c2⟩:=hc;have c1:d.getD i 0 < 0:=c1;refine ⟨by rw [List.length_set];exact h.len,fun k=>?_⟩;rw [getD_set_int];by_cases e:i=k
  ·subst e;rw [if_pos ⟨rfl,by rw [h.len];exact hi⟩];rcases h.same i with h2 | ⟨_,_,h2,_⟩
   ·refine .inr ⟨hi,by rw [←h2];exact c1,rfl,?_⟩;obtain ⟨y,hy,hd⟩:=List.any_eq_true.1 c2;have hd:d.getD y.toNat 0=s - 1:=of_decide_eq_true hd;refine ⟨y,hy,?_⟩;rcases h.same y.toNat with h3 | ⟨_,_,h3,_⟩
    ·rw [←h3];exact hd
    ·rw [h3] at hd;omega
   ·rw [h2] at c1;omega
  ·rw [if_neg (fun h=>e h.1)];exact h.same k
 ·exact h
theorem FarJ.round {G:List (List Int)} {goal:Nat} {s:Int} {d0:List Int} (h1:1≤s) (h0:FarI G goal s d0):∀ k,k≤G.length→FarJ G goal s d0 (roundK G s d0 k)
 | 0,_=>⟨h0.len,fun k=>.inl rfl⟩
 | k+1,hk=>by rw [roundK_succ];exact FarJ.step h1 h0 (FarJ.round h1 h0 k (by omega)) k (by omega)
theorem FarJ.fin {G:List (List Int)} {goal:Nat} {s:Int} {d0 d:List Int} (h1:1≤s) (h0:FarI G goal s d0) (h:FarJ G goal s d0 d):FarI G goal (s+1) d:=by
 refine ⟨h.len,fun k=>?_,fun k hk=>?_,fun k hk=>?_,fun k hk hp=>?_⟩
 ·rcases h.same k with e | ⟨a,_,e,_⟩
  ·rw [e];exact h0.low k
  ·rw [e];left;omega
 ·rcases h.same k with e | ⟨a,_,e,_⟩
  ·rw [e];have:=h0.top k hk;omega
  ·rw [e];omega
 ·rcases h.same k with e | ⟨a,b,e,_⟩
  ·rw [e];exact h0.zero k hk
  ·rw [e,← h0.zero k hk];constructor <;> intro <;> omega
 ·rcases h.same k with e | ⟨a,b,e,y,hy,hd⟩
  ·rw [e] at hp ⊢;obtain ⟨y,hy,hd⟩:=h0.pre k hk hp;refine ⟨y,hy,?_⟩;rcases h.same y.toNat with e2 | ⟨_,b2,_,_⟩
   ·rw [e2];exact hd
   ·omega
  ·refine ⟨y,hy,?_⟩;rw [e];rcases h.same y.toNat with e2 | ⟨_,b2,_,_⟩
   ·rw [e2];exact hd
   ·omega
theorem farK_I {G:List (List Int)} {goal:Nat} (hg:goal < G.length):∀ k:Nat,FarI G goal ((k:Int)+1) (farK G goal k)
 | 0=>by
  have e:∀ k:Nat,(farK G goal 0).getD k 0=if goal=k then 0 else if k < G.length then -1 else 0:=fun k=>by
   show ((List.replicate G.length (-1:Int)).set goal 0).getD k 0=_;rw [getD_set_int,List.length_replicate];by_cases h:goal=k
   ·rw [if_pos ⟨h,hg⟩,if_pos h]
   ·rw [if_neg (fun x=>h x.1),if_neg h,List.getD_eq_getElem?_getD,List.getElem?_replicate];split <;> rfl
  refine ⟨farK_len G goal 0,fun k=>?_,fun k hk=>?_,fun k hk=>?_,fun k hk hp=>?_⟩
  ·rw [e];split
   ·left;omega
   ·split
    ·left;omega
    ·left;omega
  ·rw [e,if_pos hk];split
   ·simp
   ·simp
  ·rw [e,if_pos hk];split
   ·rename_i h;exact ⟨fun _=>h.symm,fun _=>rfl⟩
   ·rename_i h;exact ⟨fun h=>by omega,fun h2=>absurd h2.symm h⟩
  ·rw [e,if_pos hk] at hp;split at hp
   ·omega
   ·omega
 | k+1=>by
  rw [farK_succ];have ih:=farK_I hg k
  have:=FarJ.fin (by omega) ih (FarJ.round (by omega) ih G.length (Nat.le_refl _))
  exact_mod_cast this
theorem farD_I {G:List (List Int)} {goal:Nat} (hg:goal < G.length):FarI G goal (G.length:Int) (farD G goal):=by
 have:=farK_I hg (G.length - 1)
 rw [show ((G.length - 1:Nat):Int)+1=(G.length:Int) by omega] at this;exact this
def nxK (d:List Int) (b k:Int):Int:=if 0≤d.getD k.toNat default∧(b < 0∨d.getD k.toNat default < d.getD b.toNat default) then k else b
def nxt (d l:List Int):Int:=l.foldl (nxK d) (-1)
theorem nxt_snoc (d l:List Int) (x:Int):nxt d (l ++[x])=nxK d (nxt d l) x:=by
 unfold nxt;rw [List.foldl_append];rfl
theorem nxt_step {d l:List Int} {k x m:Int} (h:m=nxt d (l.take k.toNat)) (h0:0≤k) (hk:k < l.length) (hx:x=l.getD k.toNat default):nxK d m x=nxt d (l.take (k+1).toNat):=by
 rw [show (k+1).toNat=k.toNat+1 by omega,List.take_add_one,List.getElem?_eq_getElem (show k.toNat < l.length by omega)];simp only [Option.toList];rw [nxt_snoc,h,hx,List.getD_eq_getElem?_getD,List.getElem?_eq_getElem (show k.toNat < l.length by omega)];rfl
theorem nxt_all {d l:List Int} {k m:Int} (h:m=nxt d (l.take k.toNat)) (hk:(l.length:Int)≤k):m=nxt d l:=by
 rw [h,List.take_of_length_le (by omega)]
structure Nx (d l:List Int) (r:Int):Prop where
 out:(r= -1∧∀ y ∈ l,d.getD y.toNat default < 0)∨(r ∈ l∧0≤r∧0≤d.getD r.toNat default∧∀ y ∈ l,0≤d.getD y.toNat default→d.getD r.toNat default≤d.getD y.toNat default)
theorem nxt_spec (d:List Int):∀ (n:Nat) (l:List Int),l.length=n→(∀ y ∈ l,0≤y)→Nx d l (nxt d l)
 | 0,l,hn,_=>by
  have:l=[]:=List.eq_nil_of_length_eq_zero hn
  subst this;exact ⟨.inl ⟨rfl,fun _ h=>by cases h⟩⟩
 | n+1,l,hn,hl=>by
  have f:l≠[]:=fun e=>by rw [e] at hn;cases hn
  have e:=(List.dropLast_concat_getLast f).symm;generalize hm:l.dropLast=m at e;generalize hx:l.getLast f=x at e;clear hm hx f;subst e;have ih:=(nxt_spec d n m (by simpa using hn) fun y hy=>hl y (by simp [hy])).out;have i:0≤x:=hl x (by simp);rw [nxt_snoc];unfold nxK;refine ⟨?_⟩;split
  ·rename_i hc
   refine .inr ⟨by simp,i,hc.1,fun y hy b=>?_⟩;rcases List.mem_append.1 hy with hy | hy
   ·rcases ih with ⟨h1,h2⟩ | ⟨h1,h2,h3,h4⟩
    ·have:=h2 y hy;omega
    ·have:=h4 y hy b;rcases hc.2 with h | h <;> omega
   ·have:y=x:=by simpa using hy
    subst this;exact Int.le_refl _
  ·rename_i hc
   rcases ih with ⟨h1,h2⟩ | ⟨h1,h2,h3,h4⟩
   ·refine .inl ⟨h1,fun y hy=>?_⟩;rcases List.mem_append.1 hy with hy | hy
    ·exact h2 y hy
    ·have:y=x:=by simpa using hy
     subst this;exact Int.not_le.1 fun h=>hc ⟨h,.inl (by omega)⟩
   ·refine .inr ⟨by simp [h1],h2,h3,fun y hy b=>?_⟩;rcases List.mem_append.1 hy with hy | hy
    ·exact h4 y hy b
    ·have:y=x:=by simpa using hy
     subst this;exact Int.not_lt.1 fun h=>hc ⟨b,.inr h⟩
def walkF (G:List (List Int)) (d:List Int) (i:Int):Nat→List Int→Int→List Int
 | 0,_,_=>[]
 | f+1,l,a=>if nxt d (G.getD a.toNat []) < 0 then [] else if nxt d (G.getD a.toNat [])=i then l else walkF G d i f (l ++[nxt d (G.getD a.toNat [])]) (nxt d (G.getD a.toNat []))
def cyc (G:List (List Int)) (i:Int):List Int:=walkF G (farD G i.toNat) i G.length [i] i
def bet (b l:List Int):List Int:=if 0 < l.length∧(b=[]∨l.length < b.length) then l else b
def cycK (G:List (List Int)) (k:Nat):List Int:=(List.range k).foldl (fun (b:List Int) (i:Nat)=>bet b (cyc G (i:Int))) []
theorem cycK_succ (G:List (List Int)) (k:Nat):cycK G (k+1)=bet (cycK G k) (cyc G (k:Int)):=by
 unfold cycK;rw [List.range_succ,List.foldl_append];rfl
def cycle (G:List (List Int)):List Int:=cycK G G.length
def WK (G:List (List Int)) (i:Int) (l:List Int) (a:Int):Prop :=
 (0≤a∧a < G.length∧1≤l.length)∧walkF G (farD G i.toNat) i (G.length+1 - l.length) l a=cyc G i∧((a=i∧l.length=1)∨(1≤(farD G i.toNat).getD a.toNat 0∧(farD G i.toNat).getD a.toNat 0+l.length≤(G.length:Int)+1))
theorem WK.init {G:List (List Int)} {i:Int} (h0:0≤i) (hi:i < G.length):WK G i [i] i:=⟨⟨h0,hi,by simp⟩,by
 show walkF G _ i (G.length+1 - 1) [i] i=_;rw [Nat.add_sub_cancel];rfl,.inl ⟨rfl,rfl⟩⟩
theorem WK.lt {G:List (List Int)} {i a:Int} {l:List Int} (h:WK G i l a):l.length≤G.length:=by
 obtain ⟨⟨h1,h2,h3⟩,_,⟨_,h4⟩ | ⟨h4,h5⟩⟩:=h <;> omega
theorem WK.next {G:List (List Int)} {i a r:Int} {l:List Int} (hG:∀ x ∈ G,∀ y ∈ x,0≤y∧y < G.length) (A:0≤i) (hi:i < G.length) (h:WK G i l a) (hr:r=nxt (farD G i.toNat) (G.getD a.toNat [])) :
  (r < 0→[]=cyc G i)∧(r=i→l=cyc G i)∧(0≤r→r≠i→WK G i (l ++[r]) r):=by
 have B:=h.lt;obtain ⟨⟨h1,h2,h3⟩,h4,h5⟩:=h;rw [show G.length+1 - l.length=(G.length - l.length)+1 by omega,walkF,← hr] at h4;have hI:=farD_I (G:=G) (goal:=i.toNat) (by omega);have f:G.getD a.toNat [] ∈ G:=by
  rw [List.getD_eq_getElem?_getD,List.getElem?_eq_getElem (show a.toNat < G.length by omega)];exact List.getElem_mem _
 have d:=hG _ f;have j:=(nxt_spec (farD G i.toNat) _ (G.getD a.toNat []) rfl fun y hy=>(d y hy).1).out;rw [←hr] at j;refine ⟨fun o=>by rw [if_pos o] at h4;exact h4,fun b=>?_,fun o b=>?_⟩
 ·rw [if_neg (by omega),if_pos b] at h4;exact h4
 ·rw [if_neg (by omega),if_neg b] at h4;rcases j with ⟨e,_⟩ | ⟨e1,e2,e3,e4⟩
  ·omega
  ·have hb:=d r e1;have hz:=hI.zero r.toNat (by omega);have ht:=hI.top r.toNat (by omega);have hd:(farD G i.toNat).getD r.toNat 0≠0:=fun h=>b (by have:=hz.1 h;omega)
   have e3:0≤(farD G i.toNat).getD r.toNat 0:=e3;refine ⟨⟨e2,hb.2,by simp⟩,?_,.inr ⟨by omega,?_⟩⟩
   ·rw [List.length_append,show G.length+1 - (l.length+[r].length)=G.length - l.length by simp];exact h4
   ·rw [List.length_append];simp only [List.length_cons,List.length_nil];rcases h5 with ⟨g1,g2⟩ | ⟨g1,g2⟩
    ·omega
    ·obtain ⟨y,hy,w⟩:=hI.pre a.toNat (by omega) (by omega);have t:(farD G i.toNat).getD y.toNat default=(farD G i.toNat).getD a.toNat 0 - 1:=w
     have:=e4 y hy (by omega)
     have this:(farD G i.toNat).getD r.toNat 0≤(farD G i.toNat).getD a.toNat 0 - 1:=by rw [←t];exact this
     omega
theorem rowM_in {m:List (Int × Bool)} {n:Nat} {y:Int} (h:y ∈ rowM m n):0≤y∧y < n:=by
 unfold rowM at h;obtain ⟨k,hk,rfl⟩:=List.mem_map.1 (List.mem_filter.1 h).1
 have:=List.mem_range.1 hk
 simp only [Int.ofNat_eq_natCast];omega
theorem grf_in {fs:List Zc.FE} {cs:List DCell}:∀ x ∈ grf fs cs,∀ y ∈ x,0≤y∧y < (grf fs cs).length:=fun x hx y hy=>by
 rw [grf_len];obtain ⟨e,_,rfl⟩:=List.mem_map.1 hx;exact rowM_in hy
end Zo

namespace Zh
abbrev at_ (l:List Int) (i:Nat):Int:=l.getD i 0
def swp (l:List Int) (i k:Nat):List Int:=(l.set i (at_ l k)).set k (at_ l i)
@[simp] theorem swp_len (l:List Int) (i k:Nat):(swp l i k).length=l.length:=by simp [swp]
theorem at_set {l:List Int} {i k:Nat} {x:Int} (h:i < l.length):at_ (l.set i x) k=if i=k then x else at_ l k:=by
 unfold at_;rw [List.getD_eq_getElem?_getD,List.getElem?_set,List.getD_eq_getElem?_getD];by_cases e:i=k
 ·subst e;simp [h]
 ·simp [e]
theorem at_swp {l:List Int} {i k j:Nat} (hi:i < l.length) (hk:k < l.length):at_ (swp l i k) j=if k=j then at_ l i else if i=j then at_ l k else at_ l j:=by
 unfold swp;rw [at_set (by simpa using hk),at_set hi]
def hup:Nat→List Int→Nat→List Int
 | 0,l,_=>l
 | f+1,l,j=>if (j - 1) / 2=j∨¬ at_ l j < at_ l ((j - 1) / 2) then l else hup f (swp l ((j - 1) / 2) j) ((j - 1) / 2)
theorem hup_fuel:∀ (f:Nat) (l:List Int) (j:Nat),j < f→hup f l j=hup (j+1) l j
 | 0,_,_,h=>by omega
 | f+1,l,j,h=>by
  rw [hup,hup];by_cases e:(j - 1) / 2=j∨¬ at_ l j < at_ l ((j - 1) / 2)
  ·rw [if_pos e,if_pos e]
  ·rw [if_neg e,if_neg e];have hj:0 < j:=by
    rcases Nat.eq_zero_or_pos j with h0 | h0
    ·exact absurd (.inl (by subst h0;rfl)) e
    ·exact h0
   rw [hup_fuel f _ _ (by omega),hup_fuel j _ _ (by omega)]
theorem hup_len:∀ (f:Nat) (l:List Int) (j:Nat),(hup f l j).length=l.length
 | 0,_,_=>rfl
 | f+1,l,j=>by
  rw [hup];split
  ·rfl
  ·rw [hup_len f];simp
def hdn:Nat→List Int→Nat→Nat→List Int
 | 0,l,_,_=>l
 | f+1,l,i,n =>
  if n≤2 * i+1 then l
  else
   let j:=if 2 * i+2 < n∧at_ l (2 * i+2) < at_ l (2 * i+1) then 2 * i+2 else 2 * i+1
   if at_ l j < at_ l i then hdn f (swp l i j) j n else l
def kid (l:List Int) (i n:Nat):Nat:=if 2 * i+2 < n∧at_ l (2 * i+2) < at_ l (2 * i+1) then 2 * i+2 else 2 * i+1
theorem kid_gt (l:List Int) (i n:Nat):i < kid l i n:=by unfold kid;split <;> omega
theorem kid_lt {l:List Int} {i n:Nat} (h:¬ n≤2 * i+1):kid l i n < n:=by unfold kid;split <;> omega
theorem hdn_step (f:Nat) (l:List Int) (i n:Nat):hdn (f+1) l i n=if n≤2 * i+1 then l else if at_ l (kid l i n) < at_ l i then hdn f (swp l i (kid l i n)) (kid l i n) n else l:=rfl
theorem hdn_len:∀ (f:Nat) (l:List Int) (i n:Nat),(hdn f l i n).length=l.length
 | 0,_,_,_=>rfl
 | f+1,l,i,n=>by
  rw [hdn_step];split
  ·rfl
  ·split
   ·rw [hdn_len f];simp
   ·rfl
theorem hdn_fuel:∀ (f:Nat) (l:List Int) (i n:Nat),n - i≤f→hdn f l i n=hdn (n - i) l i n
 | 0,l,i,n,h=>by rw [show n - i=0 by omega]
 | f+1,l,i,n,h=>by
  by_cases h0:n≤2 * i+1
  ·cases hk:n - i with
   | zero=>rw [hdn_step,if_pos h0];rfl
   | succ k=>rw [hdn_step,if_pos h0,hdn_step,if_pos h0]
  ·obtain ⟨k,hk⟩:∃ k,n - i=k+1:=⟨n - i - 1,by omega⟩;have h1:=kid_gt l i n;rw [hk,hdn_step,hdn_step,if_neg h0,if_neg h0];split
   ·rw [hdn_fuel f _ _ _ (by omega),hdn_fuel k _ _ _ (by omega)]
   ·rfl
def push (l:List Int) (x:Int):List Int:=hup (l.length+1) (l ++[x]) l.length
def popped (l:List Int):List Int:=hdn (l.length - 1) (swp l 0 (l.length - 1)) 0 (l.length - 1)
def popV (l:List Int):Int:=at_ (popped l) (l.length - 1)
def popL (l:List Int):List Int:=(popped l).take (l.length - 1)
theorem push_len (l:List Int) (x:Int):(push l x).length=l.length+1:=by unfold push;rw [hup_len];simp
theorem popped_len (l:List Int):(popped l).length=l.length:=by unfold popped;rw [hdn_len];simp
theorem popL_len (l:List Int):(popL l).length=l.length - 1:=by unfold popL;rw [List.length_take,popped_len];omega
def Ord (l:List Int) (n:Nat):Prop:=∀ i,0 < i→i < n→at_ l ((i - 1) / 2)≤at_ l i
theorem swp_perm {l:List Int} {i k:Nat} (hi:i < l.length) (hk:k < l.length):(swp l i k).Perm l:=by
 refine List.perm_iff_count.2 fun a=>?_;unfold swp at_
 have e1:l.getD k 0=l[k]:=by rw [List.getD_eq_getElem?_getD,List.getElem?_eq_getElem hk];rfl
 have e2:l.getD i 0=l[i]:=by rw [List.getD_eq_getElem?_getD,List.getElem?_eq_getElem hi];rfl
 rw [e1,e2,List.count_set (by simpa using hk),List.count_set hi];have h1:(l[i] == a)=true→0 < l.count a:=fun h=>by
  have:l[i]=a:=by simpa using h
  rw [←this];exact List.count_pos_iff.2 (List.getElem_mem hi)
 have h2:(l[k] == a)=true→0 < l.count a:=fun h=>by
  have:l[k]=a:=by simpa using h
  rw [←this];exact List.count_pos_iff.2 (List.getElem_mem hk)
 by_cases e:i=k
 ·subst e;simp only [List.getElem_set_self];cases h:(l[i] == a) with
  | true=>have:=h1 h;simp;omega
  | false=>simp
 ·rw [List.getElem_set_ne e];cases ha:(l[i] == a) <;> cases hb:(l[k] == a) <;> simp
  ·have:=h1 ha;omega
  ·have:=h2 hb;omega
theorem hup_perm:∀ (f:Nat) (l:List Int) (j:Nat),j < l.length→(hup f l j).Perm l
 | 0,_,_,_=>List.Perm.refl _
 | f+1,l,j,h=>by
  rw [hup];split
  ·exact List.Perm.refl _
  ·exact (hup_perm f _ _ (by simp;omega)).trans (swp_perm (by omega) h)
def UpI (l:List Int) (j:Nat):Prop:=(∀ i,0 < i→i < l.length→i≠j→at_ l ((i - 1) / 2)≤at_ l i)∧(∀ c,0 < j→0 < c→c < l.length→(c - 1) / 2=j→at_ l ((j - 1) / 2)≤at_ l c)
theorem hup_ord:∀ (f:Nat) (l:List Int) (j:Nat),j < f→j < l.length→UpI l j→Ord (hup f l j) l.length
 | 0,_,_,h,_,_=>by omega
 | f+1,l,j,hf,hl,⟨h1,h2⟩=>by
  rw [hup];split
  ·rename_i h
   intro i b hi;by_cases e:i=j
   ·subst e;rcases h with h | h
    ·omega
    ·omega
   ·exact h1 i b hi e
  ·rename_i h
   have hj:0 < j:=by
    rcases Nat.eq_zero_or_pos j with h0 | h0
    ·exact absurd (.inl (by subst h0;rfl)) h
    ·exact h0
   have A:at_ l j < at_ l ((j - 1) / 2):=Decidable.not_not.1 fun hn=>h (.inr hn)
   have hp:(j - 1) / 2 < l.length:=by omega
   have:=hup_ord f (swp l ((j - 1) / 2) j) ((j - 1) / 2) (by omega) (by simpa using hp) ⟨?_,?_⟩
   ·simpa using this
   ·intro i b hi d;rw [swp_len] at hi;rw [at_swp hp hl,at_swp hp hl];by_cases e:j=i
    ·subst e;rw [if_pos rfl,if_neg (by omega),if_pos rfl];omega
    ·have n1:¬ (j - 1) / 2=i:=fun h=>d h.symm
     rw [if_neg e,if_neg n1];by_cases e2:j=(i - 1) / 2
     ·rw [if_pos e2];exact h2 i hj b hi e2.symm
     ·rw [if_neg e2];by_cases e3:(j - 1) / 2=(i - 1) / 2
      ·rw [if_pos e3]
       have:=h1 i b hi (fun h=>e h.symm)
       rw [←e3] at this;omega
      ·rw [if_neg e3];exact h1 i b hi (fun h=>e h.symm)
   ·intro c o t hc w;rw [swp_len] at hc;rw [at_swp hp hl,at_swp hp hl];have g1:=h1 ((j - 1) / 2) o hp (by omega);rw [if_neg (by omega),if_neg (by omega)];by_cases e:j=c
    ·rw [if_pos e];exact g1
    ·rw [if_neg e,if_neg (by omega)];have g2:=h1 c t hc (fun h=>e h.symm);rw [w] at g2;omega
theorem push_perm (l:List Int) (x:Int):(push l x).Perm (x :: l):=by
 unfold push;exact (hup_perm _ _ _ (by simp)).trans (List.perm_append_comm.trans (List.Perm.refl _))
theorem push_ord {l:List Int} {x:Int} (h:Ord l l.length):Ord (push l x) (push l x).length:=by
 rw [push_len]
 have:=hup_ord (l.length+1) (l ++[x]) l.length (by omega) (by simp) ⟨?_,?_⟩
 ·simpa [push] using this
 ·intro i b hi d;have hi:i < l.length:=by simp at hi;omega
  have e1:∀ k,k < l.length→at_ (l ++[x]) k=at_ l k:=fun k hk=>by
   unfold at_;rw [List.getD_eq_getElem?_getD,List.getElem?_append_left hk,← List.getD_eq_getElem?_getD]
  rw [e1 _ (by omega),e1 _ hi];exact h i b hi
 ·intro c hj f hc j;simp at hc;omega
theorem hdn_perm:∀ (f:Nat) (l:List Int) (i n:Nat),i < l.length→n≤l.length→(hdn f l i n).Perm l
 | 0,_,_,_,_,_=>List.Perm.refl _
 | f+1,l,i,n,h,hn=>by
  rw [hdn_step];split
  ·exact List.Perm.refl _
  ·rename_i h0
   have:=kid_lt (l:=l) h0
   split
   ·exact (hdn_perm f _ _ _ (by simp;omega) (by simpa using hn)).trans (swp_perm h (by omega))
   ·exact List.Perm.refl _
def DnI (l:List Int) (i n:Nat):Prop:=(∀ k,0 < k→k < n→(k - 1) / 2≠i→at_ l ((k - 1) / 2)≤at_ l k)∧(∀ k,0 < i→0 < k→k < n→(k - 1) / 2=i→at_ l ((i - 1) / 2)≤at_ l k)
theorem hdn_ord:∀ (f:Nat) (l:List Int) (i n:Nat),n - i≤f→n≤l.length→i < l.length→DnI l i n→Ord (hdn f l i n) n
 | 0,l,i,n,hf,hn,hi,⟨h1,h2⟩=>fun k b hk=>h1 k b hk (by omega)
 | f+1,l,i,n,hf,hn,hi,⟨h1,h2⟩=>by
  rw [hdn_step];split
  ·rename_i h0
   intro k b hk;exact h1 k b hk (by omega)
  ·rename_i h0
   have o:=kid_lt (l:=l) h0;have w:=kid_gt l i n;have j:(kid l i n - 1) / 2=i:=by unfold kid;split <;> omega
   have d:∀ k,0 < k→k < n→(k - 1) / 2=i→at_ l (kid l i n)≤at_ l k:=fun k b hk A=>by
    have:k=2 * i+1∨k=2 * i+2:=by omega
    unfold kid;split
    ·rename_i hh
     rcases this with rfl | rfl <;> omega
    ·rename_i hh
     rcases this with rfl | rfl
     ·omega
     ·have:¬ at_ l (2 * i+2) < at_ l (2 * i+1):=fun h=>hh ⟨hk,h⟩
      omega
   split
   ·rename_i hlt
    refine hdn_ord f _ _ _ (by omega) (by simpa using hn) (by simp;omega) ⟨?_,?_⟩
    ·intro k b hk t;rw [at_swp hi (by omega),at_swp hi (by omega)];by_cases e:kid l i n=k
     ·subst e;rw [if_neg (by omega),j,if_pos rfl,if_pos rfl];omega
     ·rw [if_neg (fun h=>t h.symm),if_neg e];by_cases e2:i=(k - 1) / 2
      ·rw [if_pos e2,if_neg (by omega)];exact d k b hk e2.symm
      ·rw [if_neg e2];by_cases e3:i=k
       ·subst e3;rw [if_pos rfl];exact h2 (kid l i n) b (by omega) o j
       ·rw [if_neg e3];exact h1 k b hk (fun h=>e2 h.symm)
    ·intro k _ b hk hke;rw [at_swp hi (by omega),at_swp hi (by omega),j,if_neg (by omega),if_pos rfl,if_neg (by omega),if_neg (by omega)]
     have:=h1 k b hk (by omega)
     rw [hke] at this;exact this
   ·rename_i hlt
    intro k b hk;by_cases e:(k - 1) / 2=i
    ·have:=d k b hk e
     rw [e];omega
    ·exact h1 k b hk e
theorem at_take {l:List Int} {n k:Nat} (h:k < n):at_ (l.take n) k=at_ l k:=by
 unfold at_;rw [List.getD_eq_getElem?_getD,List.getElem?_take,if_pos h,← List.getD_eq_getElem?_getD]
theorem popped_perm {l:List Int} (h:0 < l.length):(popped l).Perm l :=
 (hdn_perm _ _ _ _ (by simpa using h) (by simp)).trans (swp_perm h (by omega))
theorem pop_perm {l:List Int} (h:0 < l.length):(popV l :: popL l).Perm l:=by
 refine List.Perm.trans ?_ (popped_perm h);have hl:=popped_len l
 have:popped l=popL l ++[popV l]:=by
  unfold popL popV;refine List.ext_getElem? fun k=>?_;rcases Nat.lt_trichotomy k (l.length - 1) with hk | hk | hk
  ·rw [List.getElem?_append_left (by rw [List.length_take];omega),List.getElem?_take,if_pos hk]
  ·subst hk;rw [List.getElem?_append_right (by rw [List.length_take];omega),List.length_take];rw [show l.length - 1 - min (l.length - 1) (popped l).length=0 by omega]
   have:l.length - 1 < (popped l).length:=by omega
   simp [at_,List.getD_eq_getElem?_getD,this]
  ·rw [List.getElem?_eq_none (by omega),List.getElem?_eq_none (by simp;omega)]
 rw [this];exact (List.perm_append_comm (l₁:=popL l) (l₂:=[popV l])).symm
theorem pop_ord {l:List Int} (h:0 < l.length) (ho:Ord l l.length):Ord (popL l) (popL l).length:=by
 rw [popL_len]
 have:=hdn_ord (l.length - 1) (swp l 0 (l.length - 1)) 0 (l.length - 1) (by omega) (by simp) (by simpa using h) ⟨?_,?_⟩
 ·intro i b hi;unfold popL;rw [at_take (by omega),at_take hi];exact this i b hi
 ·intro k d hk f;rw [at_swp h (by omega),at_swp h (by omega),if_neg (by omega),if_neg (by omega),if_neg (by omega),if_neg (by omega)];exact ho k d (by omega)
 ·intro k h0;omega
theorem tdq {x:Int} (h: -1≤x):((x.toNat / 2:Nat):Int)=Int.tdiv x 2:=by
 rcases Int.lt_or_le x 0 with h0 | h0
 ·have:x= -1:=by omega
  subst this;rfl
 ·obtain ⟨n,rfl⟩:=Int.eq_ofNat_of_zero_le h0;rw [Int.tdiv_eq_ediv_of_nonneg (by omega)];omega
theorem hup_next {l:List Int} {j i:Nat} (hi:i=(j - 1) / 2) (h:¬ (i=j∨¬ at_ l j < at_ l i)):hup (j+1) l j=hup (i+1) (swp l i j) i:=by
 subst hi;have hj:0 < j:=by
  rcases Nat.eq_zero_or_pos j with h0 | h0
  ·exact absurd (.inl (by subst h0;rfl)) h
  ·exact h0
 rw [hup,if_neg h,hup_fuel j _ _ (by omega)]
theorem hup_end {l:List Int} {j i:Nat} (hi:i=(j - 1) / 2) (h:i=j∨¬ at_ l j < at_ l i):hup (j+1) l j=l:=by
 subst hi;rw [hup,if_pos h]
theorem hdn_next {l:List Int} {i n j:Nat} (hj:j=kid l i n) (h0:¬ n≤2 * i+1) (h:at_ l j < at_ l i):hdn (n - i) l i n=hdn (n - j) (swp l i j) j n:=by
 subst hj
 have:=kid_gt l i n
 obtain ⟨k,hk⟩:∃ k,n - i=k+1:=⟨n - i - 1,by omega⟩;rw [hk,hdn_step,if_neg h0,if_pos h,hdn_fuel k _ _ _ (by omega)]
theorem hdn_end {l:List Int} {i n:Nat} (h:n≤2 * i+1∨¬ at_ l (kid l i n) < at_ l i):hdn (n - i) l i n=l:=by
 cases hk:n - i with
 | zero=>rfl
 | succ k =>
  rw [hdn_step];split
  ·rfl
  ·rename_i h0
   rw [if_neg (by rcases h with h | h;exact absurd h h0;exact h)]
theorem kid_a {l:List Int} {i n a b:Nat} (ha:a=2 * i+1) (hb:b=2 * i+2) (h:b < n∧at_ l b < at_ l a):b=kid l i n:=by
 subst ha hb;unfold kid;rw [if_pos h]
theorem kid_b {l:List Int} {i n a b:Nat} (ha:a=2 * i+1) (hb:b=2 * i+2) (h:¬ (b < n∧at_ l b < at_ l a)):a=kid l i n:=by
 subst ha hb;unfold kid;rw [if_neg h]
def hdi:Nat→List Int→Nat→Nat→Nat
 | 0,_,i,_=>i
 | f+1,l,i,n=>if n≤2 * i+1 then i else if at_ l (kid l i n) < at_ l i then hdi f (swp l i (kid l i n)) (kid l i n) n else i
theorem hdi_step (f:Nat) (l:List Int) (i n:Nat):hdi (f+1) l i n=if n≤2 * i+1 then i else if at_ l (kid l i n) < at_ l i then hdi f (swp l i (kid l i n)) (kid l i n) n else i:=rfl
theorem hdi_fuel:∀ (f:Nat) (l:List Int) (i n:Nat),n - i≤f→hdi f l i n=hdi (n - i) l i n
 | 0,l,i,n,h=>by rw [show n - i=0 by omega]
 | f+1,l,i,n,h=>by
  by_cases h0:n≤2 * i+1
  ·cases hk:n - i with
   | zero=>rw [hdi_step,if_pos h0];rfl
   | succ k=>rw [hdi_step,if_pos h0,hdi_step,if_pos h0]
  ·obtain ⟨k,hk⟩:∃ k,n - i=k+1:=⟨n - i - 1,by omega⟩;have h1:=kid_gt l i n;rw [hk,hdi_step,hdi_step,if_neg h0,if_neg h0];split
   ·rw [hdi_fuel f _ _ _ (by omega),hdi_fuel k _ _ _ (by omega)]
   ·rfl
theorem hdi_next {l:List Int} {i n j:Nat} (hj:j=kid l i n) (h0:¬ n≤2 * i+1) (h:at_ l j < at_ l i):hdi (n - i) l i n=hdi (n - j) (swp l i j) j n:=by
 subst hj
 have:=kid_gt l i n
 obtain ⟨k,hk⟩:∃ k,n - i=k+1:=⟨n - i - 1,by omega⟩;rw [hk,hdi_step,if_neg h0,if_pos h,hdi_fuel k _ _ _ (by omega)]
theorem hdi_end {l:List Int} {i n:Nat} (h:n≤2 * i+1∨¬ at_ l (kid l i n) < at_ l i):hdi (n - i) l i n=i:=by
 cases hk:n - i with
 | zero=>rfl
 | succ k =>
  rw [hdi_step];split
  ·rfl
  ·rename_i h0
   rw [if_neg (by rcases h with h | h;exact absurd h h0;exact h)]
end Zh

namespace Zo
def addU (us:List (List Int)) (i k:Int):List (List Int):=us.set k.toNat (us.getD k.toNat [] ++[i])
def usI (us:List (List Int)) (i:Int) (r:List Int):List (List Int):=r.foldl (fun us k=>addU us i k) us
def usK (rows:List (List Int)) (m:Nat):List (List Int):=(List.range m).foldl (fun (us:List (List Int)) (i:Nat)=>usI us (i:Int) (rows.getD i [])) (List.replicate rows.length [])
theorem usK_succ (rows:List (List Int)) (m:Nat):usK rows (m+1)=usI (usK rows m) (m:Int) (rows.getD m []):=by
 unfold usK;rw [List.range_succ,List.foldl_append];rfl
theorem addU_len (us:List (List Int)) (i k:Int):(addU us i k).length=us.length:=by simp [addU]
theorem usI_len (i:Int):∀ (r:List Int) (us:List (List Int)),(usI us i r).length=us.length
 | [],us=>rfl
 | k :: r,us=>by
  show (usI (addU us i k) i r).length=_;rw [usI_len i r,addU_len]
@[simp] theorem usK_len (rows:List (List Int)) (m:Nat):(usK rows m).length=rows.length:=by
 induction m with
 | zero=>simp [usK]
 | succ m ih=>rw [usK_succ,usI_len,ih]
theorem usI_snoc (us:List (List Int)) (i:Int) (r:List Int) (k:Int):usI us i (r ++[k])=addU (usI us i r) i k:=by
 unfold usI;rw [List.foldl_append];rfl
theorem take_snoc {l:List Int} {k x:Int} (h0:0≤k) (hk:k < l.length) (hx:x=l.getD k.toNat default):l.take (k+1).toNat=l.take k.toNat ++[x]:=by
 rw [show (k+1).toNat=k.toNat+1 by omega,List.take_add_one,List.getElem?_eq_getElem (show k.toNat < l.length by omega),hx,List.getD_eq_getElem?_getD,List.getElem?_eq_getElem (show k.toNat < l.length by omega)];rfl
def lfK (rows:List (List Int)) (m:Nat):List Int:=(rows.take m).map (fun r=>(r.length:Int)) ++List.replicate (rows.length - m) 0
theorem lfK_step {rows:List (List Int)} {k:Int} {r:List Int} (h0:0≤k) (hk:k < rows.length) (hr:rows.getD k.toNat []=r):(lfK rows k.toNat).set k.toNat (r.length:Int)=lfK rows (k+1).toNat:=by
 unfold lfK;have hl:((rows.take k.toNat).map (fun r=>(r.length:Int))).length=k.toNat:=by simp;omega
 rw [List.set_append,if_neg (by omega),hl,Nat.sub_self,show rows.length - k.toNat=(rows.length - (k+1).toNat)+1 by omega,List.replicate_succ,List.set_cons_zero,show (k+1).toNat=k.toNat+1 by omega,List.take_add_one,List.getElem?_eq_getElem (show k.toNat < rows.length by omega),List.map_append,List.append_assoc,← hr,List.getD_eq_getElem?_getD,List.getElem?_eq_getElem (show k.toNat < rows.length by omega)];rfl
def hpK (rows:List (List Int)) (m:Nat):List Int:=(List.range m).foldl (fun (h:List Int) (i:Nat)=>if (rows.getD i []).length=0 then Zh.push h (i:Int) else h) []
theorem hpK_succ (rows:List (List Int)) (m:Nat):hpK rows (m+1)=if (rows.getD m []).length=0 then Zh.push (hpK rows m) (m:Int) else hpK rows m:=by
 unfold hpK;rw [List.range_succ,List.foldl_append];rfl
def lessU (s:List Int × List Int) (k:Int):List Int × List Int :=
 (s.1.set k.toNat (s.1.getD k.toNat default - 1),if s.1.getD k.toNat default - 1=0 then Zh.push s.2 k else s.2)
def roundO (us:List (List Int)) (s:List Int × List Int × List Int):List Int × List Int × List Int :=
 let q:=(us.getD (Zh.popV s.2.1).toNat []).foldl lessU (s.1,Zh.popL s.2.1)
 (q.1,q.2,s.2.2 ++[Zh.popV s.2.1])
def runO (us:List (List Int)):Nat→List Int × List Int × List Int→List Int
 | 0,s=>s.2.2
 | n+1,s=>if s.2.1.length=0 then s.2.2 else runO us n (roundO us s)
def pos (l:List Int):Nat:=(l.filter fun x=>decide (0 < x)).length
theorem pos_cons (x:Int) (l:List Int):pos (x :: l)=(if 0 < x then 1 else 0)+pos l:=by
 unfold pos;rw [List.filter_cons];by_cases h:0 < x
 ·simp [h];omega
 ·simp [h]
theorem pos_set:∀ (l:List Int) (i:Nat) (x:Int),i < l.length→pos (l.set i x)+(if 0 < l.getD i 0 then 1 else 0)=pos l+(if 0 < x then 1 else 0)
 | [],i,x,h=>by simp at h
 | y :: l,0,x,h=>by
  rw [List.set_cons_zero,pos_cons,pos_cons,List.getD_cons_zero];omega
 | y :: l,i+1,x,h=>by
  rw [List.set_cons_succ,pos_cons,pos_cons,List.getD_cons_succ]
  have:=pos_set l i x (by simpa using h)
  omega
theorem lessU_mu (s:List Int × List Int) (k:Int) (hk:k.toNat < s.1.length):(lessU s k).2.length+pos (lessU s k).1=s.2.length+pos s.1:=by
 have:=pos_set s.1 k.toNat (s.1.getD k.toNat default - 1) hk
 have e:s.1.getD k.toNat 0=s.1.getD k.toNat default:=rfl;rw [e] at this;show (if s.1.getD k.toNat default - 1=0 then Zh.push s.2 k else s.2).length+pos (s.1.set k.toNat (s.1.getD k.toNat default - 1))=_;by_cases h:s.1.getD k.toNat default - 1=0
 ·rw [if_pos h];have hl:(Zh.push s.2 k).length=s.2.length+1:=by have:=(Zh.push_perm s.2 k).length_eq;simpa using this
  rw [hl];rw [if_pos (by omega),if_neg (by omega)] at this;omega
 ·rw [if_neg h];by_cases h2:0 < s.1.getD k.toNat default
  ·rw [if_pos h2,if_pos (by omega)] at this;omega
  ·rw [if_neg h2,if_neg (by omega)] at this;omega
theorem lessU_len (s:List Int × List Int) (k:Int):(lessU s k).1.length=s.1.length:=by simp [lessU]
theorem fold_mu:∀ (r:List Int) (s:List Int × List Int),(∀ k ∈ r,k.toNat < s.1.length)→(r.foldl lessU s).2.length+pos (r.foldl lessU s).1=s.2.length+pos s.1∧(r.foldl lessU s).1.length=s.1.length
 | [],s,_=>⟨rfl,rfl⟩
 | k :: r,s,h=>by
  obtain ⟨h1,h2⟩:=fold_mu r (lessU s k) fun j hj=>by rw [lessU_len];exact h j (by simp [hj])
  exact ⟨by rw [List.foldl_cons,h1,lessU_mu s k (h k (by simp))],by rw [List.foldl_cons,h2,lessU_len]⟩
theorem popL_len {h:List Int} (hh:0 < h.length):(Zh.popL h).length+1=h.length:=by
 have:=(Zh.pop_perm hh).length_eq
 simpa using this
theorem roundO_mu {us:List (List Int)} {s:List Int × List Int × List Int} (hh:0 < s.2.1.length) (hu:∀ k ∈ us.getD (Zh.popV s.2.1).toNat [],k.toNat < s.1.length):(roundO us s).2.1.length+pos (roundO us s).1+1=s.2.1.length+pos s.1:=by
 have h:=(fold_mu _ (s.1,Zh.popL s.2.1) hu).1;have h2:=popL_len hh;show ((us.getD (Zh.popV s.2.1).toNat []).foldl lessU (s.1,Zh.popL s.2.1)).2.length+pos ((us.getD (Zh.popV s.2.1).toNat []).foldl lessU (s.1,Zh.popL s.2.1)).1+1=_;rw [h];show (Zh.popL s.2.1).length+pos s.1+1=_;omega
end Zo

namespace Zo
theorem mem_addU {us:List (List Int)} {i k:Int} {x:List Int} (h:x ∈ addU us i k):x ∈ us∨x=us.getD k.toNat [] ++[i]:=by
 unfold addU at h;exact List.mem_or_eq_of_mem_set h
theorem getD_or (us:List (List Int)) (k:Nat):us.getD k [] ∈ us∨us.getD k []=[]:=by
 by_cases h:k < us.length
 ·left;rw [List.getD_eq_getElem?_getD,List.getElem?_eq_getElem h];exact List.getElem_mem _
 ·right;rw [List.getD_eq_getElem?_getD,List.getElem?_eq_none (by omega)];rfl
structure UsR (us:List (List Int)) (m:Int) (c:Nat):Prop where
 rng:∀ x ∈ us,∀ y ∈ x,0≤y∧y < m
 len:∀ x ∈ us,x.length≤c
theorem UsR.mono {us:List (List Int)} {m m2:Int} {c c2:Nat} (h:UsR us m c) (hm:m≤m2) (hc:c≤c2):UsR us m2 c2 :=
 ⟨fun x hx y hy=>by have:=h.rng x hx y hy;omega,fun x hx=>Nat.le_trans (h.len x hx) hc⟩
theorem UsR.add {us:List (List Int)} {m:Int} {c:Nat} {i:Int} (k:Int) (h:UsR us m c) (h0:0≤i) (hi:i < m):UsR (addU us i k) m (c+1):=by
 refine ⟨fun x hx y hy=>?_,fun x hx=>?_⟩
 ·rcases mem_addU hx with hx | rfl
  ·exact h.rng x hx y hy
  ·rcases List.mem_append.1 hy with hy | hy
   ·rcases getD_or us k.toNat with h2 | h2
    ·exact h.rng _ h2 y hy
    ·rw [h2] at hy;cases hy
   ·have:y=i:=by simpa using hy
    omega
 ·rcases mem_addU hx with hx | rfl
  ·exact Nat.le_succ_of_le (h.len x hx)
  ·rw [List.length_append,List.length_singleton];rcases getD_or us k.toNat with h2 | h2
   ·have:=h.len _ h2;omega
   ·rw [h2];simp
theorem UsR.row {m:Int} {i:Int} (h0:0≤i) (hi:i < m):∀ (r:List Int) {us:List (List Int)} {c:Nat},UsR us m c→UsR (usI us i r) m (c+r.length)
 | [],us,c,h=>h
 | k :: r,us,c,h=>by
  have:=UsR.row h0 hi r (h.add k h0 hi)
  show UsR (usI (addU us i k) i r) m (c+(k :: r).length);rw [List.length_cons,show c+(r.length+1)=c+1+r.length by omega];exact this
theorem UsR.all {rows:List (List Int)} {c:Nat} (hc:∀ r ∈ rows,r.length≤c):∀ m:Nat,UsR (usK rows m) m (m * c)
 | 0=>by
  refine ⟨fun x hx y hy=>?_,fun x hx=>?_⟩
  ·have:x=[]:=(List.mem_replicate.1 (show x ∈ List.replicate rows.length [] from hx)).2
   rw [this] at hy;cases hy
  ·have:x=[]:=(List.mem_replicate.1 (show x ∈ List.replicate rows.length [] from hx)).2
   rw [this];simp
 | m+1=>by
  rw [usK_succ];have h1:=UsR.row (m:=((m+1:Nat):Int)) (i:=(m:Int)) (by omega) (by omega) (rows.getD m []) ((UsR.all hc m).mono (by omega) (Nat.le_refl _));refine h1.mono (Int.le_refl _) ?_
  have:(rows.getD m []).length≤c:=by
   rcases getD_or rows m with h2 | h2
   ·exact hc _ h2
   ·rw [h2];simp
  rw [Nat.succ_mul];omega
theorem hpK_in (rows:List (List Int)):∀ (m:Nat),∀ y ∈ hpK rows m,0≤y∧y < (m:Int)
 | 0,y,h=>by cases h
 | m+1,y,h=>by
  rw [hpK_succ] at h;split at h
  ·have h:=(Zh.push_perm _ _).mem_iff.1 h;rcases List.mem_cons.1 h with rfl | h
   ·omega
   ·have:=hpK_in rows m y h;omega
  ·have:=hpK_in rows m y h;omega
theorem lfK_at {rows:List (List Int)} {m:Nat} (h:m≤rows.length):(lfK rows m).length=rows.length:=by
 unfold lfK;simp;omega
theorem lfK_sum (rows:List (List Int)):∀ m:Nat,m≤rows.length→(hpK rows m).length+pos (lfK rows m)=m
 | 0,_=>by
  have:pos (lfK rows 0)=0:=by
   unfold pos lfK;rw [List.take_zero,List.map_nil,List.nil_append];rw [List.length_eq_zero_iff,List.filter_eq_nil_iff];intro a ha
   have:=(List.mem_replicate.1 ha).2
   subst this;decide
  rw [this];rfl
 | m+1,h=>by
  have ih:=lfK_sum rows m (by omega);have hs:=lfK_step (rows:=rows) (k:=(m:Int)) (by omega) (by omega) rfl;have hp:=pos_set (lfK rows m) m ((rows.getD m []).length:Int) (by rw [lfK_at (by omega)];omega);have h0:(lfK rows m).getD m 0=0:=by
   have hl:((rows.take m).map (fun r=>(r.length:Int))).length=m:=by simp;omega
   unfold lfK;rw [List.getD_eq_getElem?_getD,List.getElem?_append_right (by omega),hl,Nat.sub_self,List.getElem?_replicate];split <;> rfl
  rw [h0,if_neg (by omega)] at hp;rw [show ((m:Int)+1).toNat=m+1 by omega] at hs;simp only [Int.toNat_natCast] at hs;rw [←hs,hpK_succ];split
  ·rename_i e
   rw [Zh.push_len];rw [if_neg (by omega)] at hp;omega
  ·rename_i e
   rw [if_pos (by omega)] at hp;omega
theorem lfK_val {rows:List (List Int)} {c:Nat} (hc:∀ r ∈ rows,r.length≤c) (m k:Nat):0≤(lfK rows m).getD k default∧(lfK rows m).getD k default≤c:=by
 by_cases h:k < (lfK rows m).length
 ·rw [List.getD_eq_getElem?_getD,List.getElem?_eq_getElem h];show 0≤(lfK rows m)[k]∧(lfK rows m)[k]≤c
  have:=List.getElem_mem h
  generalize (lfK rows m)[k]=x at this;unfold lfK at this;rcases List.mem_append.1 this with h | h
  ·obtain ⟨r,hr,rfl⟩:=List.mem_map.1 h
   have:=hc r (List.mem_of_mem_take hr)
   omega
  ·have:=(List.mem_replicate.1 h).2;omega
 ·rw [List.getD_eq_getElem?_getD,List.getElem?_eq_none (by omega)];show (0:Int)≤0∧(0:Int)≤c;omega
structure InvO (n c:Nat) (lf hp b:List Int):Prop where
 len:lf.length=n
 rng:∀ y ∈ hp,0≤y∧y < (n:Int)
 sum:b.length+hp.length+pos lf=n
 low:∀ k:Nat, -((b.length * c:Nat):Int)≤lf.getD k default∧lf.getD k default≤c
theorem InvO.init {rows:List (List Int)} {c:Nat} (hc:∀ r ∈ rows,r.length≤c):InvO rows.length c (lfK rows rows.length) (hpK rows rows.length) []:=by
 refine ⟨lfK_at (Nat.le_refl _),hpK_in rows _,?_,fun k=>?_⟩
 ·have:=lfK_sum rows rows.length (Nat.le_refl _)
  simp only [List.length_nil];omega
 ·have:=lfK_val hc rows.length k
  simp only [List.length_nil];omega
structure InvI (n c:Nat) (r d f b:List Int) (k:Nat) (lf hp:List Int):Prop where
 eq:(lf,hp)=(r.take k).foldl lessU (d,f)
 len:lf.length=n
 rng:∀ y ∈ hp,0≤y∧y < (n:Int)
 sum:b.length+1+hp.length+pos lf=n
 low:∀ j:Nat, -((b.length * c+k:Nat):Int)≤lf.getD j default∧lf.getD j default≤c
theorem InvI.init {n c:Nat} {r lf hp b:List Int} (h:InvO n c lf hp b) (hh:0 < hp.length):InvI n c r lf (Zh.popL hp) b 0 lf (Zh.popL hp):=by
 refine ⟨by simp,h.len,fun y hy=>h.rng y ((Zh.pop_perm hh).mem_iff.1 (List.mem_cons_of_mem _ hy)),?_,h.low⟩
 have:=popL_len hh
 have:=h.sum
 omega
theorem foldl_snoc {l:List Int} {k:Nat} {x:Int} {s:List Int × List Int} (hk:k < l.length) (hx:x=l.getD k default):(l.take (k+1)).foldl lessU s=lessU ((l.take k).foldl lessU s) x:=by
 rw [List.take_add_one,List.getElem?_eq_getElem hk,List.foldl_append,hx,List.getD_eq_getElem?_getD,List.getElem?_eq_getElem hk];rfl
theorem InvI.step {n c:Nat} {r b d f lf hp:List Int} {k:Nat} {x:Int} (h:InvI n c r b d f k lf hp) (hk:k < r.length) (hx:x=r.getD k default) (hr:0≤x∧x < (n:Int)):InvI n c r b d f (k+1) (lessU (lf,hp) x).1 (lessU (lf,hp) x).2:=by
 have hl:=h.len;have i:=lessU_mu (lf,hp) x (by show x.toNat < lf.length;omega);refine ⟨?_,by rw [lessU_len];exact hl,fun y hy=>?_,?_,fun j=>?_⟩
 ·rw [foldl_snoc hk hx,← h.eq]
 ·have hy:y ∈ (if lf.getD x.toNat default - 1=0 then Zh.push hp x else hp):=hy;split at hy
  ·rcases List.mem_cons.1 ((Zh.push_perm _ _).mem_iff.1 hy) with rfl | hy
   ·exact hr
   ·exact h.rng y hy
  ·exact h.rng y hy
 ·have:=h.sum
  have e:(lf,hp).2.length+pos (lf,hp).1=hp.length+pos lf:=rfl;rw [e] at i;omega
 ·show _≤(lf.set x.toNat (lf.getD x.toNat default - 1)).getD j default∧(lf.set x.toNat (lf.getD x.toNat default - 1)).getD j default≤_;have h1:=h.low j;have h2:=h.low x.toNat;rw [List.getD_eq_getElem?_getD (l:=lf.set _ _),List.getElem?_set];by_cases e:x.toNat=j
  ·rw [if_pos e,if_pos (by omega)];show _≤lf.getD x.toNat default - 1∧lf.getD x.toNat default - 1≤_;omega
  ·rw [if_neg e,← List.getD_eq_getElem?_getD];omega
theorem InvI.stepY {n c:Nat} {r b d f lf hp:List Int} {k:Nat} {x:Int} (h:InvI n c r b d f k lf hp) (hk:k < r.length) (hx:x=r.getD k default) (hr:0≤x∧x < (n:Int)) (hq:lf.getD x.toNat default - 1=0):InvI n c r b d f (k+1) (lf.set x.toNat (lf.getD x.toNat default - 1)) (Zh.push hp x):=by
 have:=h.step hk hx hr
 unfold lessU at this;simp only [if_pos hq] at this;exact this
theorem InvI.stepN {n c:Nat} {r b d f lf hp:List Int} {k:Nat} {x:Int} (h:InvI n c r b d f k lf hp) (hk:k < r.length) (hx:x=r.getD k default) (hr:0≤x∧x < (n:Int)) (hq:¬ lf.getD x.toNat default - 1=0):InvI n c r b d f (k+1) (lf.set x.toNat (lf.getD x.toNat default - 1)) hp:=by
 have:=h.step hk hx hr
 unfold lessU at this;simp only [if_neg hq] at this;exact this
theorem InvI.fin {n c:Nat} {r d f b lf hp:List Int} {k:Nat} (v:Int) (h:InvI n c r d f b k lf hp) (hk:k≤c):InvO n c lf hp (b ++[v]):=by
 refine ⟨h.len,h.rng,?_,fun j=>?_⟩
 ·have:=h.sum
  rw [List.length_append,List.length_singleton];omega
 ·have:=h.low j
  rw [List.length_append,List.length_singleton,Nat.succ_mul];omega
def finO (us:List (List Int)) (s:List Int × List Int × List Int):List Int:=runO us (s.2.1.length+pos s.1) s
theorem finO_end {us:List (List Int)} {lf hp b:List Int} (h:hp.length=0):finO us (lf,hp,b)=b:=by
 unfold finO;show runO us (hp.length+pos lf) (lf,hp,b)=b;cases e:hp.length+pos lf with
 | zero=>rfl
 | succ k=>rw [runO,if_pos h]
theorem finO_round {us:List (List Int)} {n c:Nat} {lf hp b d f r:List Int} {k:Nat} (h:InvO n c lf hp b) (hu:UsR us n c) (hh:0 < hp.length) (hr:r=us.getD (Zh.popV hp).toNat []) (hi:InvI n c r lf (Zh.popL hp) b k d f) (hk:r.length≤k):finO us (d,f,b ++[Zh.popV hp])=finO us (lf,hp,b):=by
 have hm:=roundO_mu (us:=us) (s:=(lf,hp,b)) hh fun y hy=>by
  show y.toNat < lf.length;rw [h.len];rcases getD_or us (Zh.popV hp).toNat with h2 | h2
  ·have:=hu.rng _ h2 y hy;omega
  ·rw [show us.getD (Zh.popV (lf,hp,b).2.1).toNat []=[] from h2] at hy;cases hy
 have he:roundO us (lf,hp,b)=(d,f,b ++[Zh.popV hp]):=by
  have e:=hi.eq;rw [List.take_of_length_le hk,hr] at e;unfold roundO;show (((us.getD (Zh.popV hp).toNat []).foldl lessU (lf,Zh.popL hp)).1,((us.getD (Zh.popV hp).toNat []).foldl lessU (lf,Zh.popL hp)).2,b ++[Zh.popV hp])=_;rw [←e]
 unfold finO;rw [←hm,runO,if_neg (by show ¬ hp.length=0;omega),he]
def orun (rows:List (List Int)):List Int:=finO (usK rows rows.length) (lfK rows rows.length,hpK rows rows.length,[])
def ordL (rows:List (List Int)):List Int:=if (orun rows).length < rows.length then [] else orun rows
def ordN (rows:List (List Int)):Int:=if (orun rows).length < rows.length then 23 else 0
theorem set_at {l:List Int} {k x:Int} (hk:0≤k∧k < (l.length:Int)):(l.set k.toNat x).getD k.toNat default=x:=by
 rw [List.getD_eq_getElem?_getD,List.getElem?_set,if_pos rfl,if_pos (by omega)];rfl
theorem grf_row {fs:List Zc.FE} {cs:List DCell}:∀ x ∈ grf fs cs,x.length≤cs.length:=fun x hx=>by
 obtain ⟨e,_,rfl⟩:=List.mem_map.1 hx;exact rowM_len _ _
theorem usR_row {us:List (List Int)} {m:Int} {c:Nat} {r:List Int} {v:Nat} (h:UsR us m c) (hr:r=us.getD v []):(∀ y ∈ r,0≤y∧y < m)∧r.length≤c:=by
 rcases getD_or us v with h2 | h2
 ·rw [hr];exact ⟨h.rng _ h2,h.len _ h2⟩
 ·rw [hr,h2];exact ⟨fun y hy=>(by cases hy),Nat.zero_le _⟩
end Zo

namespace Zo
abbrev rw_ (G:List (List Int)) (i:Int):List Int:=G.getD i.toNat []
def Rdy (G:List (List Int)) (b:List Int) (i:Int):Prop:=(0≤i∧i < (G.length:Int))∧i ∉ b∧∀ y ∈ rw_ G i,y ∈ b
instance (G : List (List Int)) (out : List Int) (i : Int) : Decidable (Rdy G out i) := by unfold Rdy; infer_instance
def nextF (G:List (List Int)) (b:List Int):Nat→Nat→Int
 | 0,_=> -1
 | f+1,k=>if Rdy G b (k:Int) then (k:Int) else nextF G b f (k+1)
def next (G:List (List Int)) (b:List Int):Int:=nextF G b G.length 0
theorem nextF_spec (G:List (List Int)) (b:List Int):∀ f k:Nat,(nextF G b f k= -1∧∀ j:Nat,k≤j→j < k+f→¬ Rdy G b (j:Int))∨(Rdy G b (nextF G b f k)∧(k:Int)≤nextF G b f k∧∀ j:Nat,k≤j→(j:Int) < nextF G b f k→¬ Rdy G b (j:Int))
 | 0,k=>.inl ⟨rfl,fun j h1 h2=>by omega⟩
 | f+1,k=>by
  rw [nextF];by_cases h:Rdy G b (k:Int)
  ·rw [if_pos h];exact .inr ⟨h,Int.le_refl _,fun j h1 h2=>by omega⟩
  ·rw [if_neg h];rcases nextF_spec G b f (k+1) with ⟨h1,h2⟩ | ⟨h1,h2,h3⟩
   ·refine .inl ⟨h1,fun j d i=>?_⟩;rcases Nat.eq_or_lt_of_le d with rfl | hlt
    ·exact h
    ·exact h2 j (by omega) (by omega)
   ·refine .inr ⟨h1,by omega,fun j d i=>?_⟩;rcases Nat.eq_or_lt_of_le d with rfl | hlt
    ·exact h
    ·exact h3 j (by omega) i
theorem next_rdy {G:List (List Int)} {b:List Int} (h:0≤next G b):Rdy G b (next G b):=by
 rcases nextF_spec G b G.length 0 with ⟨h1,h2⟩ | ⟨h1,h2,h3⟩
 ·unfold next at h;omega
 ·exact h1
theorem next_min {G:List (List Int)} {b:List Int} (h:0≤next G b) {i:Int} (hi:Rdy G b i):next G b≤i:=by
 rcases nextF_spec G b G.length 0 with ⟨h1,h2⟩ | ⟨h1,h2,h3⟩
 ·unfold next at h;omega
 ·have:=hi.1
  refine Int.not_lt.1 fun d=>h3 i.toNat (by omega) ?_ (by rw [show ((i.toNat:Nat):Int)=i by omega];exact hi)
  show ((i.toNat:Nat):Int) < next G b;omega
def gr (G:List (List Int)):Nat→List Int→List Int
 | 0,out=>out
 | f+1,out=>if next G out < 0 then out else gr G f (out ++[next G out])
def miss (b r:List Int):Nat:=(r.filter fun y=>decide (y ∉ b)).length
theorem miss_zero {b r:List Int}:miss b r=0↔∀ y ∈ r,y ∈ b:=by
 unfold miss;rw [List.length_eq_zero_iff,List.filter_eq_nil_iff];exact ⟨fun h y hy=>by have:=h y hy;simpa using this,fun h y hy=>by have:=h y hy;simpa using this⟩
theorem miss_app {b r:List Int} {v:Int} (hv:v ∉ b):miss (b ++[v]) r+r.count v=miss b r:=by
 unfold miss;induction r with
 | nil=>rfl
 | cons y r ih =>
  rw [List.filter_cons,List.filter_cons,List.count_cons];by_cases hy:y ∈ b
  ·have d:¬ (y == v)=true:=fun h=>hv ((show y=v by simpa using h) ▸ hy)
   simp only [List.mem_append,hy,true_or,not_true,decide_false,Bool.false_eq_true,if_false,d]
   simpa using ih
  ·by_cases e:y=v
   ·subst e;simp only [List.mem_append,List.mem_singleton,or_true,not_true,decide_false,Bool.false_eq_true,if_false,hy,not_false_iff,decide_true,if_true,List.length_cons,BEq.rfl];simp at ih ⊢;omega
   ·have d:¬ (y == v)=true:=by simpa using e
    simp only [List.mem_append,List.mem_singleton,hy,e,or_self,not_false_iff,decide_true,if_true,List.length_cons,d];simp at ih ⊢;omega
theorem count_usI (i:Int) (v:Nat):∀ (r:List Int) (us:List (List Int)),(∀ y ∈ r,0≤y∧y < (us.length:Int))→∀ k,((usI us i r).getD v []).count k=(us.getD v []).count k+if k=i then r.count (v:Int) else 0
 | [],us,_,k=>by simp [usI]
 | y :: r,us,h,k=>by
  have hy:=h y (by simp);show ((usI (addU us i y) i r).getD v []).count k=_;rw [count_usI i v r (addU us i y) (fun z hz=>by rw [addU_len];exact h z (by simp [hz])) k,List.count_cons];unfold addU;rw [List.getD_eq_getElem?_getD,List.getElem?_set];by_cases e:y.toNat=v
  ·subst e;have e2:(y == ((y.toNat:Nat):Int))=true:=by rw [show ((y.toNat:Nat):Int)=y by omega];simp
   rw [if_pos rfl,if_pos (by omega),if_pos e2];simp only [Option.getD_some,List.count_append,List.count_cons,List.count_nil];by_cases hk:k=i
   ·subst hk;simp;omega
   ·have:¬ (i == k)=true:=by simpa using fun h=>hk h.symm
    simp [hk,this]
  ·have e2:¬ (y == (v:Int))=true:=fun h=>e (by have h3:y=(v:Int):=(by simpa using h);omega)
   rw [if_neg e,if_neg e2,← List.getD_eq_getElem?_getD]
   simp
theorem count_usK {rows:List (List Int)} (h:∀ r ∈ rows,∀ y ∈ r,0≤y∧y < (rows.length:Int)) (v k:Nat):∀ m:Nat,m≤rows.length→((usK rows m).getD v []).count (k:Int)=if k < m then (rows.getD k []).count (v:Int) else 0
 | 0,_=>by
  have:(usK rows 0).getD v []=[]:=by
   show (List.replicate rows.length []).getD v []=[];rw [List.getD_eq_getElem?_getD,List.getElem?_replicate];split <;> rfl
  rw [this];simp
 | m+1,hm=>by
  rw [usK_succ,count_usI,count_usK h v k m (by omega)]
  ·by_cases e:k=m
   ·subst e;rw [if_neg (by omega),if_pos rfl,if_pos (by omega)];omega
   ·rw [if_neg (show ¬ (k:Int)=(m:Int) by omega)];by_cases e2:k < m
    ·rw [if_pos e2,if_pos (by omega)];omega
    ·rw [if_neg e2,if_neg (by omega)]
  ·intro y hy;rw [usK_len];exact h _ (by rw [List.getD_eq_getElem?_getD,List.getElem?_eq_getElem (show m < rows.length by omega)];exact List.getElem_mem _) y hy
theorem fold_lessU:∀ (r lf hp:List Int),(∀ k ∈ r,0≤k∧k < (lf.length:Int))→(∀ k ∈ r,((r.count k:Nat):Int)≤lf.getD k.toNat 0)→(∀ k ∈ hp,k ∉ r)→hp.Nodup→Zh.Ord hp hp.length →
  (∀ j:Nat,(r.foldl lessU (lf,hp)).1.getD j 0=lf.getD j 0 - ((r.count (j:Int):Nat):Int))∧(r.foldl lessU (lf,hp)).2.Nodup∧Zh.Ord (r.foldl lessU (lf,hp)).2 (r.foldl lessU (lf,hp)).2.length ∧
  (∀ k,k ∈ (r.foldl lessU (lf,hp)).2↔k ∈ hp∨(k ∈ r∧lf.getD k.toNat 0=((r.count k:Nat):Int)))
 | [],lf,hp,h1,h2,h3,h4,h5=>⟨fun j=>by simp,h4,h5,fun k=>by simp⟩
 | x :: r,lf,hp,h1,h2,h3,h4,h5=>by
  have hx:=h1 x (by simp);have d:∀ j:Nat,(lf.set x.toNat (lf.getD x.toNat default - 1)).getD j 0=if x.toNat=j then lf.getD x.toNat 0 - 1 else lf.getD j 0:=fun j=>by
   rw [getD_set_int];by_cases e:x.toNat=j
   ·rw [if_pos ⟨e,by omega⟩,if_pos e];rfl
   ·rw [if_neg (fun h=>e h.1),if_neg e]
  have A:=h2 x (by simp);have e1:(lf.getD x.toNat default - 1=0)=(lf.getD x.toNat 0=1):=by
   have:lf.getD x.toNat default=lf.getD x.toNat 0:=rfl
   rw [this];apply propext;omega
  have hc:∀ k,(x :: r).count k=r.count k+if x=k then 1 else 0:=fun k=>by
   rw [List.count_cons];by_cases e:x=k
   ·simp [e]
   ·have:¬ (x == k)=true:=by simpa using e
    simp [e]
  have o:=hc x;rw [if_pos rfl] at o;have g2:∀ k ∈ r,((r.count k:Nat):Int)≤(lf.set x.toNat (lf.getD x.toNat default - 1)).getD k.toNat 0:=fun k hk=>by
   have B:=h1 k (by simp [hk]);have i:=h2 k (by simp [hk]);rw [d];rw [hc] at i;by_cases e:x=k
   ·subst e;rw [if_pos rfl] at i ⊢;omega
   ·rw [if_neg e] at i;rw [if_neg (by omega)];omega
  have g1:∀ k ∈ r,0≤k∧k < ((lf.set x.toNat (lf.getD x.toNat default - 1)).length:Int):=fun k hk=>by rw [List.length_set];exact h1 k (by simp [hk])
  have f:∀ (b:List Int),(∀ k ∈ b,k ∉ r)→b.Nodup→Zh.Ord b b.length→(∀ k,k ∈ b↔k ∈ hp∨(k=x∧lf.getD x.toNat 0=1))→lessU (lf,hp) x=(lf.set x.toNat (lf.getD x.toNat default - 1),b) →
   (∀ j:Nat,((x :: r).foldl lessU (lf,hp)).1.getD j 0=lf.getD j 0 - (((x :: r).count (j:Int):Nat):Int))∧((x :: r).foldl lessU (lf,hp)).2.Nodup∧Zh.Ord ((x :: r).foldl lessU (lf,hp)).2 ((x :: r).foldl lessU (lf,hp)).2.length ∧
   (∀ k,k ∈ ((x :: r).foldl lessU (lf,hp)).2↔k ∈ hp∨(k ∈ x :: r∧lf.getD k.toNat 0=(((x :: r).count k:Nat):Int))):=fun b k3 k4 k5 k6 he=>by
   rw [List.foldl_cons,he];obtain ⟨q1,q2,q3,q4⟩:=fold_lessU r _ b g1 g2 k3 k4 k5;refine ⟨fun j=>?_,q2,q3,fun k=>?_⟩
   ·rw [q1 j,d,hc];by_cases e:x.toNat=j
    ·rw [if_pos e,if_pos (by omega),← e];omega
    ·rw [if_neg e,if_neg (by omega)];omega
   ·rw [q4 k,k6 k,d,hc];by_cases e:x=k
    ·subst e;rw [if_pos rfl,if_pos rfl];constructor
     ·rintro ((h | ⟨_,h⟩) | ⟨h,h'⟩)
      ·exact .inl h
      ·have:r.count x=0:=by omega
       exact .inr ⟨by simp,by omega⟩
      ·exact .inr ⟨by simp,by omega⟩
     ·rintro (h | ⟨_,h⟩)
      ·exact .inl (.inl h)
      ·by_cases hm:x ∈ r
       ·exact .inr ⟨hm,by omega⟩
       ·have:=List.count_eq_zero.2 hm
        exact .inl (.inr ⟨rfl,by omega⟩)
    ·rw [if_neg e];constructor
     ·rintro ((h | ⟨h,_⟩) | ⟨h,h'⟩)
      ·exact .inl h
      ·exact absurd h.symm e
      ·have:=h1 k (by simp [h])
       rw [if_neg (by omega)] at h';exact .inr ⟨by simp [h],by omega⟩
     ·rintro (h | ⟨h,h'⟩)
      ·exact .inl (.inl h)
      ·have:=h1 k h
       rcases List.mem_cons.1 h with h | h
       ·exact absurd h.symm e
       ·rw [if_neg (by omega)];exact .inr ⟨h,by omega⟩
  by_cases hq:lf.getD x.toNat 0=1
  ·have t:x ∉ r:=fun h=>by
    have:=List.count_pos_iff.2 h
    omega
   have w:x ∉ hp:=fun h=>h3 x h (by simp)
   refine f (Zh.push hp x) (fun k hk=>?_) ?_ (Zh.push_ord h5) (fun k=>?_) (by unfold lessU;rw [if_pos (e1.symm ▸ hq)])
   ·rcases List.mem_cons.1 ((Zh.push_perm _ _).mem_iff.1 hk) with rfl | hk
    ·exact t
    ·exact fun h=>h3 k hk (by simp [h])
   ·exact (Zh.push_perm hp x).nodup_iff.2 (List.nodup_cons.2 ⟨w,h4⟩)
   ·rw [(Zh.push_perm hp x).mem_iff,List.mem_cons];constructor
    ·rintro (rfl | h)
     ·exact .inr ⟨rfl,hq⟩
     ·exact .inl h
    ·rintro (h | ⟨rfl,_⟩)
     ·exact .inr h
     ·exact .inl rfl
  ·exact f hp (fun k hk h=>h3 k hk (by simp [h])) h4 h5 (fun k=>⟨.inl,fun h=>h.elim id fun h=>absurd h.2 hq⟩) (by unfold lessU;rw [if_neg (fun h=>hq (e1 ▸ h))])
theorem max_len (G:List (List Int)):∀ r ∈ G,r.length≤G.foldr (fun r m=>max r.length m) 0:=by
 induction G with
 | nil=>intro r h;cases h
 | cons x l ih =>
  intro r h;rw [List.foldr_cons];rcases List.mem_cons.1 h with rfl | h
  ·omega
  ·have:=ih r h;omega
structure KI (G:List (List Int)) (lf hp b:List Int):Prop where
 len:lf.length=G.length
 cnt:∀ k:Nat,k < G.length→lf.getD k 0=((miss b (G.getD k []):Nat):Int)
 nd:hp.Nodup
 ord:Zh.Ord hp hp.length
 mem:∀ i,i ∈ hp↔Rdy G b i
 old:∀ i ∈ b,∀ y ∈ rw_ G i,y ∈ b
theorem KI.round {G:List (List Int)} {lf hp b:List Int} (hG:∀ r ∈ G,∀ y ∈ r,0≤y∧y < (G.length:Int)) (h:KI G lf hp b) (hh:0 < hp.length) :
  KI G (roundO (usK G G.length) (lf,hp,b)).1 (roundO (usK G G.length) (lf,hp,b)).2.1 (b ++[Zh.popV hp]):=by
 have o:=Zh.pop_perm hh;have w:Zh.popV hp ∈ hp:=o.mem_iff.1 (by simp);have hv:=(h.mem _).1 w;generalize hve:Zh.popV hp=v at *;have t:=o.nodup_iff.2 h.nd;rw [List.nodup_cons] at t;have hL:∀ k,k ∈ Zh.popL hp↔Rdy G b k∧k≠v:=fun k=>by
  have:=o.mem_iff (a:=k)
  rw [h.mem k,List.mem_cons] at this;constructor
  ·intro hk;exact ⟨this.1 (.inr hk),fun e=>t.1 (e ▸ hk)⟩
  ·rintro ⟨h1,h2⟩;exact (this.2 h1).resolve_left h2
 have d:∀ k:Nat,((usK G G.length).getD v.toNat []).count (k:Int)=if k < G.length then (G.getD k []).count v else 0:=fun k=>by
  have:=count_usK hG v.toNat k G.length (Nat.le_refl _)
  rw [show ((v.toNat:Nat):Int)=v by have:=hv.1;omega] at this;exact this
 have hun:∀ k ∈ (usK G G.length).getD v.toNat [],0≤k∧k < (G.length:Int):=fun k hk=>by
  rcases getD_or (usK G G.length) v.toNat with h2 | h2
  ·exact (UsR.all (max_len G) G.length).rng _ h2 k hk
  ·rw [h2] at hk;cases hk
 have j:∀ k:Nat,k < G.length→miss (b ++[v]) (G.getD k [])+(G.getD k []).count v=miss b (G.getD k []):=fun k _=>miss_app hv.2.1
 obtain ⟨q1,q2,q3,q4⟩:=fold_lessU ((usK G G.length).getD v.toNat []) lf (Zh.popL hp) (fun k hk=>by rw [h.len];exact hun k hk) (fun k hk=>by
   have A:=hun k hk;have e:((k.toNat:Nat):Int)=k:=by omega
   have h1:=d k.toNat;rw [e,if_pos (by omega)] at h1;rw [h1,h.cnt k.toNat (by omega)]
   have:=j k.toNat (by omega)
   omega) (fun k hk hu=>by
   have A:=hun k hu;have e:((k.toNat:Nat):Int)=k:=by omega
   have h1:=d k.toNat;rw [e,if_pos (by omega)] at h1;have h2:=List.count_pos_iff.2 hu;have h3:v ∈ G.getD k.toNat []:=List.count_pos_iff.1 (by omega);exact hv.2.1 (((hL k).1 hk).1.2.2 v h3)) t.2 (Zh.pop_ord hh h.ord)
 have B:(roundO (usK G G.length) (lf,hp,b)).1=(((usK G G.length).getD v.toNat []).foldl lessU (lf,Zh.popL hp)).1:=by unfold roundO;simp only [hve]
 have C:(roundO (usK G G.length) (lf,hp,b)).2.1=(((usK G G.length).getD v.toNat []).foldl lessU (lf,Zh.popL hp)).2:=by unfold roundO;simp only [hve]
 rw [B,C];refine ⟨?_,fun k hk=>?_,q2,q3,fun i=>?_,fun i hi y hy=>?_⟩
 ·have:=(fold_mu ((usK G G.length).getD v.toNat []) (lf,Zh.popL hp) fun k hk=>by have:=hun k hk;show k.toNat < lf.length;rw [h.len];omega).2
  rw [this];exact h.len
 ·rw [q1 k,h.cnt k hk,d k,if_pos hk]
  have:=j k hk
  omega
 ·rw [q4 i,hL i];constructor
  ·rintro (⟨h1,h2⟩ | ⟨h1,h2⟩)
   ·exact ⟨h1.1,by simp [h1.2.1,h2],fun y hy=>List.mem_append_left _ (h1.2.2 y hy)⟩
   ·have hi:=hun i h1;have e:((i.toNat:Nat):Int)=i:=by omega
    have h3:=d i.toNat;rw [e,if_pos (by omega)] at h3;have h4:=j i.toNat (by omega);rw [h.cnt i.toNat (by omega),h3] at h2;have h5:v ∈ G.getD i.toNat []:=List.count_pos_iff.1 (by have:=List.count_pos_iff.2 h1;omega);have h6:miss (b ++[v]) (G.getD i.toNat [])=0:=by omega
    have h7:=miss_zero.1 h6;refine ⟨hi,fun f=>?_,h7⟩;rcases List.mem_append.1 f with f | f
    ·exact hv.2.1 (h.old i f v h5)
    ·have:i=v:=by simpa using f
     subst this;exact absurd (hv.2.2 i h5) hv.2.1
  ·rintro ⟨h1,h2,h3⟩;have e:((i.toNat:Nat):Int)=i:=by omega
   have D:i≠v:=fun e=>h2 (by simp [e])
   have E:i ∉ b:=fun h=>h2 (by simp [h])
   by_cases hvi:v ∈ G.getD i.toNat []
   ·refine .inr ⟨?_,?_⟩
    ·have h4:=d i.toNat;rw [e,if_pos (by omega)] at h4;exact List.count_pos_iff.1 (by rw [h4];exact List.count_pos_iff.2 hvi)
    ·have h4:=d i.toNat;rw [e,if_pos (by omega)] at h4;have h5:=j i.toNat (by omega);have h6:=miss_zero.2 h3;rw [h.cnt i.toNat (by omega),h4];have h6:miss (b ++[v]) (G.getD i.toNat [])=0:=h6;omega
   ·refine .inl ⟨⟨h1,E,fun y hy=>?_⟩,D⟩;rcases List.mem_append.1 (h3 y hy) with h | h
    ·exact h
    ·have:y=v:=by simpa using h
     subst this;exact absurd hy hvi
 ·rcases List.mem_append.1 hi with hi | hi
  ·exact List.mem_append_left _ (h.old i hi y hy)
  ·have:i=v:=by simpa using hi
   subst this;exact List.mem_append_left _ (hv.2.2 y hy)
theorem KI.init {G:List (List Int)} (hG:∀ r ∈ G,∀ y ∈ r,0≤y∧y < (G.length:Int)):KI G (lfK G G.length) (hpK G G.length) []:=by
 have b:∀ m:Nat,m≤G.length→(hpK G m).Nodup∧Zh.Ord (hpK G m) (hpK G m).length∧∀ i,i ∈ hpK G m↔(0≤i∧i < (m:Int))∧rw_ G i=[]:=fun m=>by
  induction m with
  | zero=>intro _;exact ⟨List.nodup_nil,(fun i h1 (h2:i < 0)=>absurd h2 (Nat.not_lt_zero _)),fun i=>⟨fun h=>(by cases h),fun h=>(by omega)⟩⟩
  | succ m ih =>
   intro hm;obtain ⟨h1,h2,h3⟩:=ih (by omega);rw [hpK_succ];split
   ·rename_i e
    have e2:rw_ G (m:Int)=[]:=List.length_eq_zero_iff.1 e;refine ⟨(Zh.push_perm _ _).nodup_iff.2 (List.nodup_cons.2 ⟨fun h=>?_,h1⟩),Zh.push_ord h2,fun i=>?_⟩
    ·have:=((h3 _).1 h).1;omega
    ·rw [(Zh.push_perm _ _).mem_iff,List.mem_cons,h3];constructor
     ·rintro (rfl | ⟨h,h'⟩)
      ·exact ⟨by omega,e2⟩
      ·exact ⟨by omega,h'⟩
     ·rintro ⟨h,h'⟩;by_cases e:i=(m:Int)
      ·exact .inl e
      ·exact .inr ⟨by omega,h'⟩
   ·rename_i e
    refine ⟨h1,h2,fun i=>?_⟩;rw [h3];constructor
    ·rintro ⟨h,h'⟩;exact ⟨by omega,h'⟩
    ·rintro ⟨h,h'⟩;refine ⟨⟨h.1,?_⟩,h'⟩;rcases Int.lt_or_le i m with h4 | h4
     ·exact h4
     ·have:i=(m:Int):=by omega
      subst this;exact absurd (List.length_eq_zero_iff.2 h') e
 obtain ⟨h1,h2,h3⟩:=b G.length (Nat.le_refl _);refine ⟨lfK_at (Nat.le_refl _),fun k hk=>?_,h1,h2,fun i=>?_,fun i hi=>by cases hi⟩
 ·have hm:miss [] (G.getD k [])=(G.getD k []).length:=by
   unfold miss;rw [List.filter_eq_self.2 (fun a _=>by simp)]
  rw [hm];unfold lfK;rw [List.take_length,Nat.sub_self,List.replicate_zero,List.append_nil,List.getD_eq_getElem?_getD,List.getElem?_map,List.getD_eq_getElem?_getD,List.getElem?_eq_getElem hk];rfl
 ·rw [h3];unfold Rdy;constructor
  ·rintro ⟨h,h'⟩;exact ⟨h,by simp,fun y hy=>by rw [h'] at hy;cases hy⟩
  ·rintro ⟨h,_,h'⟩;refine ⟨h,List.eq_nil_iff_forall_not_mem.2 fun y hy=>?_⟩
   have:=h' y hy;cases this
def Beg (G:List (List Int)) (b:List Int):Prop:=∀ k,k < b.length→next G (b.take k)=b.getD k 0∧0≤b.getD k 0
theorem Beg.nil (G:List (List Int)):Beg G []:=fun k h=>by cases h
theorem Beg.snoc {G:List (List Int)} {out:List Int} (h:Beg G out) (hn:0≤next G out):Beg G (out ++[next G out]):=fun k hk=>by
 rw [List.length_append,List.length_singleton] at hk;by_cases e:k < out.length
 ·rw [List.take_append_of_le_length (by omega),List.getD_eq_getElem?_getD,List.getElem?_append_left e,← List.getD_eq_getElem?_getD];exact h k e
 ·have:k=out.length:=by omega
  subst this;rw [List.take_left',List.getD_eq_getElem?_getD,List.getElem?_append_right (Nat.le_refl _),Nat.sub_self]
  ·exact ⟨rfl,hn⟩
  ·rfl
theorem Beg.gr {G:List (List Int)}:∀ (f:Nat) {b:List Int},Beg G b→Beg G (gr G f b)
 | 0,_,h=>h
 | f+1,b,h=>by
  rw [Zo.gr];split
  ·exact h
  ·rename_i hn
   exact Beg.gr f (h.snoc (by omega))
theorem Beg.rdy {G:List (List Int)} {b:List Int} (h:Beg G b) {k:Nat} (hk:k < b.length):Rdy G (b.take k) (b.getD k 0):=by
 obtain ⟨h1,h2⟩:=h k hk;rw [←h1] at h2 ⊢;exact next_rdy h2
theorem Beg.min {G:List (List Int)} {b:List Int} (h:Beg G b) {k:Nat} (hk:k < b.length) {i:Int} (hi:Rdy G (b.take k) i):b.getD k 0≤i:=by
 obtain ⟨h1,h2⟩:=h k hk;rw [←h1] at h2 ⊢;exact next_min h2 hi
theorem getD_mem0 {l:List Int} {k:Nat} (h:k < l.length):l.getD k 0 ∈ l:=by
 rw [List.getD_eq_getElem?_getD,List.getElem?_eq_getElem h];exact List.getElem_mem _
theorem mem_getD0 {l:List Int} {x:Int} (h:x ∈ l):∃ k,k < l.length∧l.getD k 0=x:=by
 obtain ⟨k,hk,rfl⟩:=List.getElem_of_mem h;exact ⟨k,hk,by rw [List.getD_eq_getElem?_getD,List.getElem?_eq_getElem hk];rfl⟩
theorem mem_take0 {l:List Int} {x:Int} {n:Nat}:x ∈ l.take n↔∃ k,k < n∧k < l.length∧l.getD k 0=x:=by
 constructor
 ·intro h;obtain ⟨k,hk,e⟩:=mem_getD0 h;rw [List.length_take] at hk;refine ⟨k,by omega,by omega,?_⟩;rw [List.getD_eq_getElem?_getD,List.getElem?_take,if_pos (by omega),← List.getD_eq_getElem?_getD] at e;exact e
 ·rintro ⟨k,h1,h2,rfl⟩
  have:(l.take n).getD k 0=l.getD k 0:=by rw [List.getD_eq_getElem?_getD,List.getElem?_take,if_pos h1,← List.getD_eq_getElem?_getD]
  rw [←this];exact getD_mem0 (by rw [List.length_take];omega)
theorem Beg.inj {G:List (List Int)} {b:List Int} (h:Beg G b) {i k:Nat} (hk:k < b.length) (hi:i < k):b.getD i 0≠b.getD k 0:=fun e=>by
 have:=(h.rdy hk).2.1
 exact this (mem_take0.2 ⟨i,hi,by omega,e⟩)
theorem nodup_of {l:List Int} (h:∀ i k,i < k→k < l.length→l.getD i 0≠l.getD k 0):l.Nodup:=by
 refine List.pairwise_iff_getElem.2 fun i j hi hj b=>?_
 have:=h i j b hj
 rw [List.getD_eq_getElem?_getD,List.getD_eq_getElem?_getD,List.getElem?_eq_getElem hi,List.getElem?_eq_getElem hj] at this;exact this
theorem Beg.nodup {G:List (List Int)} {out:List Int} (h:Beg G out):out.Nodup:=nodup_of fun i k hi hk=>h.inj hk hi
theorem nodup_le:∀ (n:Nat) (l:List Int),l.Nodup→(∀ x ∈ l,0≤x∧x < (n:Int))→l.length≤n
 | 0,l,_,h=>by
  cases l with
  | nil=>exact Nat.le_refl _
  | cons x l=>have:=h x (by simp);omega
 | n+1,l,hn,h=>by
  have h1:=nodup_le n (l.filter fun x=>decide (x≠(n:Int))) (hn.filter _) fun x hx=>by
   have hx:=List.mem_filter.1 hx;have h2:=h x hx.1
   have:x≠(n:Int):=of_decide_eq_true hx.2
   omega
  have h2:l.length=(l.filter fun x=>decide (x≠(n:Int))).length+l.count (n:Int):=by
   rw [List.count_eq_length_filter,← List.countP_eq_length_filter,← List.countP_eq_length_filter,Nat.add_comm]
   have:=List.length_eq_countP_add_countP (fun x=>x == (n:Int)) (l:=l)
   rw [this]
   congr 1
   apply List.countP_congr;intro x _
   simp
  have h3:=List.nodup_iff_count.1 hn (n:Int);omega
theorem Beg.rng {G:List (List Int)} {b:List Int} (h:Beg G b):∀ x ∈ b,0≤x∧x < (G.length:Int):=fun x hx=>by
 obtain ⟨k,hk,rfl⟩:=mem_getD0 hx;exact (h.rdy hk).1
theorem Beg.le {G:List (List Int)} {b:List Int} (h:Beg G b):b.length≤G.length:=nodup_le _ _ h.nodup h.rng
end Zo

namespace Zo
def W (G:List (List Int)):Nat→Int→Int→Prop
 | 0,a,b=>a=b
 | m+1,a,b=>∃ y ∈ rw_ G a,W G m y b
theorem W.app {G:List (List Int)}:∀ {m k:Nat} {a b c:Int},W G m a b→W G k b c→W G (m+k) a c
 | 0,k,a,b,c,h1,h2=>by
  have h1:a=b:=h1;subst h1;rw [Nat.zero_add];exact h2
 | m+1,k,a,b,c,⟨y,hy,h1⟩,h2=>by
  rw [show m+1+k=(m+k)+1 by omega];exact ⟨y,hy,W.app h1 h2⟩
abbrev InR (G:List (List Int)):Prop:=∀ r ∈ G,∀ y ∈ r,0≤y∧y < (G.length:Int)
theorem InR.at {G:List (List Int)} (hG:InR G) {a y:Int} (hy:y ∈ rw_ G a):0≤y∧y < (G.length:Int):=by
 rcases getD_or G a.toNat with h | h
 ·exact hG _ h y hy
 ·rw [show rw_ G a=[] from h] at hy;cases hy
theorem roundK_full {G:List (List Int)} {goal:Nat} {s:Int} {d0:List Int} (h1:1≤s) (h0:FarI G goal s d0):∀ k,k≤G.length→∀ i,i < k→(∃ y ∈ G.getD i [],d0.getD y.toNat 0=s - 1)→0≤(roundK G s d0 k).getD i 0
 | 0,_,i,h,_=>by omega
 | k+1,hk,i,hi,⟨y,hy,hd⟩=>by
  rw [roundK_succ];have hJ:=FarJ.round h1 h0 k (by omega);have b:(roundK G s d0 k).getD y.toNat 0=s - 1:=by
   rcases hJ.same y.toNat with h | ⟨_,h,_⟩
   ·rw [h];exact hd
   ·omega
  unfold stepD;split
  ·rw [getD_set_int];split
   ·omega
   ·rename_i hc hne
    by_cases e:i=k
    ·subst e;exact absurd ⟨rfl,by rw [hJ.len];omega⟩ hne
    ·exact roundK_full h1 h0 k (by omega) i (by omega) ⟨y,hy,hd⟩
  ·rename_i hc
   by_cases e:i=k
   ·subst e;refine Int.not_lt.1 fun d=>hc ⟨d,List.any_eq_true.2 ⟨y,hy,decide_eq_true b⟩⟩
   ·exact roundK_full h1 h0 k (by omega) i (by omega) ⟨y,hy,hd⟩
theorem FarI.sound {G:List (List Int)} (hG:InR G) {goal:Nat} {s:Int} {d:List Int} (h:FarI G goal s d):∀ (m:Nat) (a:Int),0≤a→a < (G.length:Int)→d.getD a.toNat 0=(m:Int)→W G m a (goal:Int)
 | 0,a,h0,h1,hd=>by
  have:=(h.zero a.toNat (by omega)).1 (by omega)
  show a=(goal:Int);omega
 | m+1,a,h0,h1,hd=>by
  obtain ⟨y,hy,b⟩:=h.pre a.toNat (by omega) (by omega);have hr:=hG.at hy;exact ⟨y,hy,FarI.sound hG h m y hr.1 hr.2 (by omega)⟩
theorem farK_full {G:List (List Int)} (hG:InR G) {goal:Nat} (hg:goal < G.length):∀ (K m:Nat),m≤K→∀ a:Int,0≤a→a < (G.length:Int)→W G m a (goal:Int)→0≤(farK G goal K).getD a.toNat 0∧(farK G goal K).getD a.toNat 0≤(m:Int)
 | 0,m,hm,a,h0,h1,hw=>by
  have:m=0:=by omega
  subst this;have hw:a=(goal:Int):=hw
  have:=((farK_I hg 0).zero a.toNat (by omega)).2 (by omega)
  omega
 | K+1,m,hm,a,h0,h1,hw=>by
  have hI:=farK_I hg K;have hJ:=FarJ.round (s:=(K:Int)+1) (by omega) hI G.length (Nat.le_refl _);have b:=farK_I hg (K+1);rw [farK_succ] at b ⊢;rcases Nat.eq_or_lt_of_le hm with rfl | hlt
  ·by_cases hd:0≤(farK G goal K).getD a.toNat 0
   ·have ht:=hI.top a.toNat (by omega);rcases hJ.same a.toNat with e | ⟨_,e,_⟩
    ·omega
    ·omega
   ·obtain ⟨y,hy,d⟩:=hw;have hr:=hG.at hy;have f:=farK_full hG hg K K (Nat.le_refl _) y hr.1 hr.2 d;have hK:(farK G goal K).getD y.toNat 0=(K:Int):=by
     rcases Int.lt_or_le ((farK G goal K).getD y.toNat 0) K with hl | hl
     ·have hs:=hI.sound hG ((farK G goal K).getD y.toNat 0).toNat y hr.1 hr.2 (by omega)
      have:=farK_full hG hg K (((farK G goal K).getD y.toNat 0).toNat+1) (by omega) a h0 h1 ⟨y,hy,hs⟩
      exact absurd this.1 hd
     ·omega
    have h2:=roundK_full (s:=(K:Int)+1) (by omega) hI G.length (Nat.le_refl _) a.toNat (by omega) ⟨y,hy,by omega⟩;have ht:=b.top a.toNat (by omega);omega
  ·have hd:=farK_full hG hg K m (by omega) a h0 h1 hw;rcases hJ.same a.toNat with e | ⟨_,e,_⟩
   ·omega
   ·omega
theorem farD_full {G:List (List Int)} (hG:InR G) {i:Int} (h0:0≤i) (hi:i < (G.length:Int)) {m:Nat} (hm:m < G.length) {a:Int} (ha:0≤a) (hb:a < (G.length:Int)) (hw:W G m a i):0≤(farD G i.toNat).getD a.toNat 0∧(farD G i.toNat).getD a.toNat 0≤(m:Int) :=
 farK_full hG (by omega) (G.length - 1) m (by omega) a ha hb (by rw [show ((i.toNat:Nat):Int)=i by omega];exact hw)
theorem walk_ok {G:List (List Int)} (hG:InR G) {i:Int} (h0:0≤i) (hi:i < (G.length:Int)):∀ (f e:Nat) (l:List Int) (a:Int),l≠[]→(∃ y ∈ rw_ G a,0≤(farD G i.toNat).getD y.toNat 0∧(farD G i.toNat).getD y.toNat 0≤(e:Int))→e+1≤f→walkF G (farD G i.toNat) i f l a≠[]∧(walkF G (farD G i.toNat) i f l a).length≤l.length+e
 | 0,e,l,a,_,_,h=>by omega
 | f+1,e,l,a,hl,⟨y,hy,hd0,hde⟩,hf=>by
  have hn:=(nxt_spec (farD G i.toNat) _ (rw_ G a) rfl fun z hz=>(hG.at hz).1).out;rw [walkF];generalize nxt (farD G i.toNat) (G.getD a.toNat [])=r at hn ⊢;rcases hn with ⟨_,h⟩ | ⟨hr,t,b,d⟩
  ·exact absurd (h y hy) (by show ¬ (farD G i.toNat).getD y.toNat 0 < 0;omega)
  ·have w:(farD G i.toNat).getD r.toNat 0≤(farD G i.toNat).getD y.toNat 0:=d y hy hd0;have A:=hG.at hr;rw [if_neg (by omega)];by_cases e1:r=i
   ·rw [if_pos e1];exact ⟨hl,by omega⟩
   ·rw [if_neg e1];have hI:=farD_I (G:=G) (goal:=i.toNat) (by omega);have hz:=hI.zero r.toNat (by omega);have b:0≤(farD G i.toNat).getD r.toNat 0:=b;have j:0 < (farD G i.toNat).getD r.toNat 0:=by
     rcases Int.lt_or_le 0 ((farD G i.toNat).getD r.toNat 0) with h | h
     ·exact h
     ·have:=hz.1 (by omega);omega
    obtain ⟨z,o,B⟩:=hI.pre r.toNat (by omega) j;obtain ⟨q1,q2⟩:=walk_ok hG h0 hi f (e - 1) (l ++[r]) r (by simp) ⟨z,o,by omega,by omega⟩ (by omega);exact ⟨q1,by rw [List.length_append,List.length_singleton] at q2;omega⟩
theorem cyc_full {G:List (List Int)} (hG:InR G) {i:Int} (h0:0≤i) (hi:i < (G.length:Int)) {m:Nat} (hm:m+1≤G.length) (hw:W G (m+1) i i):cyc G i≠[]∧(cyc G i).length≤m+1:=by
 obtain ⟨y,hy,hw⟩:=hw;have hr:=hG.at hy;have hd:=farD_full hG h0 hi (by omega) hr.1 hr.2 hw
 have:=walk_ok hG h0 hi G.length m [i] i (by simp) ⟨y,hy,hd⟩ hm
 exact ⟨this.1,by have:=this.2;rw [List.length_singleton] at this;unfold cyc;omega⟩
def Chn (G:List (List Int)) (l:List Int):Prop:=∀ k,k+1 < l.length→l.getD (k+1) 0 ∈ rw_ G (l.getD k 0)
theorem getD_snoc {l:List Int} {x:Int} {k:Nat}:(l ++[x]).getD k 0=if k < l.length then l.getD k 0 else if k=l.length then x else 0:=by
 rw [List.getD_eq_getElem?_getD,List.getElem?_append];split
 ·rw [←List.getD_eq_getElem?_getD]
 ·split
  ·rename_i h1 h2;subst h2;simp
  ·rename_i h1 h2
   rw [List.getElem?_eq_none (by rw [List.length_singleton];omega)];rfl
theorem Chn.snoc {G:List (List Int)} {l:List Int} {r:Int} (h:Chn G l) (hl:0 < l.length) (hr:r ∈ rw_ G (l.getD (l.length - 1) 0)):Chn G (l ++[r]):=fun k hk=>by
 rw [List.length_append,List.length_singleton] at hk;rw [getD_snoc,getD_snoc,if_pos (show k < l.length by omega)];by_cases e:k+1 < l.length
 ·rw [if_pos e];exact h k e
 ·rw [if_neg e,if_pos (by omega)];rw [show k=l.length - 1 by omega];exact hr
theorem Chn.W {G:List (List Int)} {l:List Int} (h:Chn G l):∀ (m j:Nat),j+m < l.length→Zo.W G m (l.getD j 0) (l.getD (j+m) 0)
 | 0,j,_=>rfl
 | m+1,j,hj=>⟨l.getD (j+1) 0,h j (by omega),by
  have:=Chn.W h m (j+1) (by omega)
  rw [show j+(m+1)=j+1+m by omega];exact this⟩
structure Circ (G:List (List Int)) (i:Int) (l:List Int):Prop where
 pos:0 < l.length
 fst:l.getD 0 0=i
 chn:Chn G l
 back:i ∈ rw_ G (l.getD (l.length - 1) 0)
 nd:l.Nodup
 rng:∀ x ∈ l,0≤x∧x < (G.length:Int)
theorem Circ.le {G:List (List Int)} {i:Int} {l:List Int} (h:Circ G i l):l.length≤G.length:=nodup_le _ _ h.nd h.rng
theorem Circ.W {G:List (List Int)} {i:Int} {l:List Int} (h:Circ G i l) {k:Nat} (hk:k < l.length):Zo.W G l.length (l.getD k 0) (l.getD k 0):=by
 have h1:=h.chn.W (l.length - 1 - k) k (by omega);rw [show k+(l.length - 1 - k)=l.length - 1 by omega] at h1;have h2:Zo.W G 1 (l.getD (l.length - 1) 0) i:=⟨i,h.back,rfl⟩;have h3:=h.chn.W k 0 (by omega);rw [h.fst,Nat.zero_add] at h3
 have:=(h1.app h2).app h3
 rw [show l.length - 1 - k+1+k=l.length by omega] at this;exact this
structure Wk (G:List (List Int)) (i:Int) (l:List Int) (a:Int):Prop where
 pos:0 < l.length
 fst:l.getD 0 0=i
 lst:l.getD (l.length - 1) 0=a
 chn:Chn G l
 rng:∀ x ∈ l,0≤x∧x < (G.length:Int)
 far:∀ k,1≤k→k < l.length→1≤(farD G i.toNat).getD (l.getD k 0).toNat 0
 dec:∀ j k,1≤j→j < k→k < l.length→(farD G i.toNat).getD (l.getD k 0).toNat 0 < (farD G i.toNat).getD (l.getD j 0).toNat 0
theorem walk_circ {G:List (List Int)} (hG:InR G) {i:Int} (h0:0≤i) (hi:i < (G.length:Int)):∀ (f:Nat) (l:List Int) (a:Int),Wk G i l a→walkF G (farD G i.toNat) i f l a≠[]→Circ G i (walkF G (farD G i.toNat) i f l a)
 | 0,l,a,_,h=>absurd rfl h
 | f+1,l,a,h,hne=>by
  have hn:=(nxt_spec (farD G i.toNat) _ (rw_ G a) rfl fun z hz=>(hG.at hz).1).out;rw [walkF] at hne ⊢;generalize nxt (farD G i.toNat) (G.getD a.toNat [])=r at hn hne ⊢;have hI:=farD_I (G:=G) (goal:=i.toNat) (by omega);have t:(farD G i.toNat).getD i.toNat 0=0:=(hI.zero i.toNat (by omega)).2 rfl;have ha:0≤a∧a < (G.length:Int):=by rw [←h.lst];exact h.rng _ (getD_mem0 (by have:=h.pos;omega))
  rcases hn with ⟨hr,_⟩ | ⟨hr,D,b,d⟩
  ·rw [if_pos (by omega)] at hne;exact absurd rfl hne
  ·rw [if_neg (by omega)] at hne ⊢;have w:=hG.at hr;by_cases e:r=i
   ·rw [if_pos e] at hne ⊢;refine ⟨h.pos,h.fst,h.chn,by rw [h.lst,← e];exact hr,nodup_of fun j k hj hk he=>?_,h.rng⟩;rcases Nat.eq_zero_or_pos j with hj0 | hj0
    ·subst hj0
     have:=h.far k (by omega) hk
     rw [←he,h.fst,t] at this;omega
    ·have:=h.dec j k (by omega) hj hk
     rw [he] at this;omega
   ·rw [if_neg e] at hne ⊢;have b:0≤(farD G i.toNat).getD r.toNat 0:=b;have o:1≤(farD G i.toNat).getD r.toNat 0:=by
     have hz:=hI.zero r.toNat (by omega);rcases Int.lt_or_le 0 ((farD G i.toNat).getD r.toNat 0) with h | h
     ·exact h
     ·have:=hz.1 (by omega);omega
    refine walk_circ hG h0 hi f (l ++[r]) r ⟨by simp,?_,?_,h.chn.snoc h.pos (by rw [h.lst];exact hr),fun x hx=>?_,fun k A hk=>?_,fun j k hj B hk=>?_⟩ hne
    ·rw [getD_snoc,if_pos h.pos];exact h.fst
    ·rw [List.length_append,List.length_singleton,getD_snoc,if_neg (by omega),if_pos (by omega)]
    ·rcases List.mem_append.1 hx with hx | hx
     ·exact h.rng x hx
     ·rw [List.mem_singleton.1 hx];exact w
    ·rw [List.length_append,List.length_singleton] at hk;rw [getD_snoc];by_cases e2:k < l.length
     ·rw [if_pos e2];exact h.far k A e2
     ·rw [if_neg e2,if_pos (by omega)];exact o
    ·rw [List.length_append,List.length_singleton] at hk;rw [getD_snoc,getD_snoc,if_pos (show j < l.length by omega)];by_cases e2:k < l.length
     ·rw [if_pos e2];exact h.dec j k hj B e2
     ·rw [if_neg e2,if_pos (by omega)];have C:=h.far (l.length - 1) (by omega) (by omega);rw [h.lst] at C;obtain ⟨y,hy,E⟩:=hI.pre a.toNat (by omega) (by omega);have h4:(farD G i.toNat).getD r.toNat 0≤(farD G i.toNat).getD y.toNat 0:=d y hy (by show 0≤(farD G i.toNat).getD y.toNat 0;omega);by_cases e3:j=l.length - 1
      ·rw [e3,h.lst];omega
      ·have:=h.dec j (l.length - 1) hj (by omega) (by omega)
       rw [h.lst] at this;omega
theorem cyc_circ {G:List (List Int)} (hG:InR G) {i:Int} (h0:0≤i) (hi:i < (G.length:Int)) (h:cyc G i≠[]):Circ G i (cyc G i):=by
 refine walk_circ hG h0 hi _ [i] i ⟨by simp,rfl,rfl,fun k hk=>?_,fun x hx=>?_,fun k h1 h2=>?_,fun j k h1 h2 h3=>?_⟩ h
 ·rw [List.length_singleton] at hk;omega
 ·rw [List.mem_singleton.1 hx];exact ⟨h0,hi⟩
 ·rw [List.length_singleton] at h2;omega
 ·rw [List.length_singleton] at h3;omega
theorem cycK_spec (G:List (List Int)):∀ k:Nat,(cycK G k=[]∧∀ j:Nat,j < k→cyc G (j:Int)=[])∨∃ i:Nat,i < k∧cycK G k=cyc G (i:Int)∧cyc G (i:Int)≠[]∧∀ j:Nat,j < k→cyc G (j:Int)≠[]→(cyc G (i:Int)).length≤(cyc G (j:Int)).length∧(j < i→(cyc G (i:Int)).length < (cyc G (j:Int)).length)
 | 0=>.inl ⟨rfl,fun j h=>by omega⟩
 | k+1=>by
  rw [cycK_succ];unfold bet;have b:∀ l:List Int,0 < l.length↔l≠[]:=fun l=>List.length_pos_iff
  rcases cycK_spec G k with ⟨h1,h2⟩ | ⟨i,hi,h1,h2,h3⟩
  ·rw [h1];by_cases hc:0 < (cyc G (k:Int)).length∧((([]:List Int)=[])∨(cyc G (k:Int)).length < ([]:List Int).length)
   ·rw [if_pos hc];refine .inr ⟨k,by omega,rfl,(b _).1 hc.1,fun j hj d=>?_⟩;by_cases e:j=k
    ·subst e;exact ⟨Nat.le_refl _,fun h=>by omega⟩
    ·exact absurd (h2 j (by omega)) d
   ·rw [if_neg hc];refine .inl ⟨rfl,fun j hj=>?_⟩;by_cases e:j=k
    ·subst e;exact Decidable.byContradiction fun h=>hc ⟨(b _).2 h,.inl rfl⟩
    ·exact h2 j (by omega)
  ·rw [h1];by_cases hc:0 < (cyc G (k:Int)).length∧(cyc G (i:Int)=[]∨(cyc G (k:Int)).length < (cyc G (i:Int)).length)
   ·rw [if_pos hc];have f:(cyc G (k:Int)).length < (cyc G (i:Int)).length:=hc.2.resolve_left h2;refine .inr ⟨k,by omega,rfl,(b _).1 hc.1,fun j hj d=>?_⟩;by_cases e:j=k
    ·subst e;exact ⟨Nat.le_refl _,fun h=>by omega⟩
    ·have:=(h3 j (by omega) d).1
     exact ⟨by omega,fun _=>by omega⟩
   ·rw [if_neg hc];refine .inr ⟨i,by omega,rfl,h2,fun j hj d=>?_⟩;by_cases e:j=k
    ·subst e;refine ⟨Nat.not_lt.1 fun h=>hc ⟨(b _).2 d,.inr h⟩,fun h=>by omega⟩
    ·exact h3 j (by omega) d
theorem cycle_none {G:List (List Int)} (hG:InR G):cycle G=[]↔∀ (m:Nat) (i:Int),0≤i→i < (G.length:Int)→m+1≤G.length→¬ W G (m+1) i i:=by
 unfold cycle;constructor
 ·intro h m i h0 hi hm hw;have h1:=(cyc_full hG h0 hi hm hw).1;rcases cycK_spec G G.length with ⟨_,h2⟩ | ⟨j,hj,h2,h3,_⟩
  ·exact h1 (by have:=h2 i.toNat (by omega);rwa [show ((i.toNat:Nat):Int)=i by omega] at this)
  ·exact h3 (by rw [←h2];exact h)
 ·intro h;rcases cycK_spec G G.length with ⟨h2,_⟩ | ⟨j,hj,h2,h3,_⟩
  ·exact h2
  ·have hc:=cyc_circ hG (i:=(j:Int)) (by omega) (by omega) h3;have hw:=hc.W hc.pos;rw [hc.fst] at hw;have hl:=hc.le;have hp:=hc.pos;exact absurd (by rw [show (cyc G (j:Int)).length - 1+1=(cyc G (j:Int)).length by omega];exact hw) (h ((cyc G (j:Int)).length - 1) (j:Int) (by omega) (by omega) (by omega))
theorem Beg.W {G:List (List Int)} {d:List Int} (h:Beg G d):∀ (m k:Nat) (b:Int),k < d.length→Zo.W G m (d.getD k 0) b→∃ j,j+m≤k∧d.getD j 0=b
 | 0,k,b,hk,hw=>⟨k,by omega,hw⟩
 | m+1,k,b,hk,⟨y,hy,hw⟩=>by
  obtain ⟨j,h1,h2,h3⟩:=mem_take0.1 ((h.rdy hk).2.2 y hy);rw [←h3] at hw;obtain ⟨j2,h4,h5⟩:=Beg.W h m j b h2 hw;exact ⟨j2,by omega,h5⟩
theorem twice {l:List Int} {n:Nat} (hr:∀ x ∈ l,0≤x∧x < (n:Int)) (hl:n < l.length):∃ j k,j < k∧k < l.length∧l.getD j 0=l.getD k 0:=by
 refine Classical.byContradiction fun h=>?_
 have:=nodup_le n l (nodup_of fun i k hi hk e=>h ⟨i,k,hi,hk,e⟩) hr
 omega
end Zo
end Kb
