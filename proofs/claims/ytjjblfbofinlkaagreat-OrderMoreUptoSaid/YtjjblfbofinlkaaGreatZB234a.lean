/- Texts for the claim, put together: the calculus of regions, its rules, and contracts of the functions that the law reaches. -/
import Derived.Test.YtjjblfbofinlkaaGreatZBwg
import Derived.Test.YtjjblfbofinlkaaGreatZB0234a
import Derived.Test.YtjjblfbofinlkaaGreatZB1234a
set_option linter.all false
set_option maxRecDepth 10000
namespace Kb
open Go
section
variable {α : Type} [Inhabited α] {p : α → Bool} {l : List α} {k : Int} {x : α}
theorem fidx_lt (h:0≤fidx p l):(fidx p l).toNat < l.length∧p (l.getD (fidx p l).toNat default)=true:=by
 have h1:=fidx_nn.1 h;have h2:l.findIdx p < l.length:=List.findIdx_lt_length_of_exists (by simpa using h1);have e:fidx p l=l.findIdx p:=by unfold fidx;rw [if_pos h1]
 rw [e,Int.toNat_natCast,getD_of h2];exact ⟨h2,List.findIdx_getElem⟩
end

namespace Zu
def nmP (s:ByteArray) (y:Ex):Bool:=decide (y.op=1) && decide (y.m=s)
def nmd (s:ByteArray) (x:Ex):Bool:=Zc.anyN (nmP s) x
end Zu

open Go
namespace Zl
open Fx Sx Zc Zd Zo
def okIt (e:It):Bool:=((e.2.1 && e.2.2) && decide (fre e.1))
def AllT (m:List (ByteArray × Bool)):Prop:=∀ k v,mlook k m=some v→v=true
theorem AllT.upd {m:List (ByteArray × Bool)} (h:AllT m) (k:ByteArray):AllT (mupd k true m):=fun j v hv=>by
 rw [mlook_upd] at hv;split at hv
 ·cases hv;rfl
 ·exact h j v hv
theorem AllT.no {m:List (ByteArray × Bool)} (h:AllT m) {k:ByteArray} (hk:(mlook k m).getD false=false):mlook k m=none:=by
 cases e:mlook k m with
 | none=>rfl
 | some v=>rw [e] at hk;have:=h k v e;subst this;cases hk
theorem upd_len {m:List (ByteArray × Bool)} {k:ByteArray} {x:Bool}:mlook k m=none→(mupd k x m).length=m.length+1:=by
 induction m with
 | nil=>intro _;rfl
 | cons p m ih =>
  intro h;unfold mlook at h;unfold mupd;split at h
  ·cases h
  ·rename_i e
   rw [if_neg e,List.length_cons,ih h,List.length_cons]
theorem useL_char:∀ (l:List It) (st:US),AllT st.1→((useL st l).2=true↔st.2=true∧(∀ e ∈ l,okIt e=true)∧(l.map (·.1)).Nodup∧∀ e ∈ l,mlook e.1 st.1=none)
 | [],st,_=>by
  show st.2=true↔_
  simp
 | e :: l,st,h=>by
  have h2:AllT (useS st e.1 e.2.1 e.2.2).1:=h.upd _;have ih:=useL_char l (useS st e.1 e.2.1 e.2.2) h2;show (useL (useS st e.1 e.2.1 e.2.2) l).2=true↔_;rw [ih,List.map_cons,List.nodup_cons];have hs:(useS st e.1 e.2.1 e.2.2).2=true↔st.2=true∧okIt e=true∧mlook e.1 st.1=none:=by
   unfold useS okIt;simp only [Bool.and_eq_true,Bool.not_eq_true'];constructor
   ·rintro ⟨⟨⟨⟨a,b⟩,c⟩,d⟩,f⟩;exact ⟨a,⟨⟨b,c⟩,d⟩,h.no f⟩
   ·rintro ⟨a,⟨⟨b,c⟩,d⟩,f⟩;exact ⟨⟨⟨⟨a,b⟩,c⟩,d⟩,by rw [f];rfl⟩
  have hm:(∀ x ∈ l,mlook x.1 (useS st e.1 e.2.1 e.2.2).1=none)↔(e.1 ∉ l.map (·.1))∧∀ x ∈ l,mlook x.1 st.1=none:=by
   unfold useS;constructor
   ·intro hx;refine ⟨fun o=>?_,fun x j=>?_⟩
    ·obtain ⟨x,j,he⟩:=List.mem_map.1 o
     have:=hx x j
     rw [mlook_upd,if_pos he] at this;cases this
    ·have:=hx x j
     rw [mlook_upd] at this;split at this
     ·cases this
     ·exact this
   ·rintro ⟨h1,h2⟩ x j;rw [mlook_upd,if_neg]
    ·exact h2 x j
    ·intro he;exact h1 (List.mem_map.2 ⟨x,j,he⟩)
  rw [hs,hm];simp only [List.forall_mem_cons];constructor
  ·rintro ⟨⟨a,b,c⟩,d,f,g,i⟩;exact ⟨a,⟨b,d⟩,⟨g,f⟩,c,i⟩
  ·rintro ⟨a,⟨b,d⟩,⟨g,f⟩,c,i⟩;exact ⟨⟨a,b,c⟩,d,f,g,i⟩
theorem useL_len:∀ (l:List It) (st:US),AllT st.1→(l.map (·.1)).Nodup→(∀ e ∈ l,mlook e.1 st.1=none)→(useL st l).1.length=st.1.length+l.length
 | [],st,_,_,_=>rfl
 | e :: l,st,h,hn,hm=>by
  rw [List.map_cons,List.nodup_cons] at hn;have h1:mlook e.1 st.1=none:=hm e (by simp);have ih:=useL_len l (useS st e.1 e.2.1 e.2.2) (h.upd _) hn.2 fun x hx=>by
   show mlook x.1 (mupd e.1 true st.1)=none;rw [mlook_upd,if_neg]
   ·exact hm x (by simp [hx])
   ·intro he;exact hn.1 (List.mem_map.2 ⟨x,hx,he⟩)
  show (useL (useS st e.1 e.2.1 e.2.2) l).1.length=_;rw [ih];show (mupd e.1 true st.1).length+l.length=_;rw [upd_len h1,List.length_cons];omega
def itsE (a:List DImport) (b:List DInput) (t:List DTable) (F:List FE) (C:List CE) (p:List DPort) (d:List DStore):List It:=goodsL a b p d ++formsE t F C
theorem itE_app (nm:ByteArray) (a:List DImport) (b:List DInput) (t:List DTable) (F:List FE) (C:List CE) (p:List DPort) (d:List DStore):itE nm a b t F C p d=useL ([],decide (fre nm)) (itsE a b t F C p d):=(useL_app _ _ _).symm
theorem AllT.nil:AllT []:=fun k v h=>by cases h
theorem RtE_char (nm:ByteArray) (a:List DImport) (b:List DInput) (t:List DTable) (F:List FE) (C:List CE) (p:List DPort) (d:List DStore) (r:List DRecipe) :
  RtE nm a b t F C p d r↔(fre nm∧(∀ e ∈ itsE a b t F C p d,okIt e=true)∧((itsE a b t F C p d).map (·.1)).Nodup)∧(((itsE a b t F C p d).length:Int)+r.length≤100)∧(reS r).2=true:=by
 unfold RtE;rw [itE_app];have h1:=useL_char (itsE a b t F C p d) ([],decide (fre nm)) AllT.nil;have h0:∀ e ∈ itsE a b t F C p d,mlook e.1 ([]:List (ByteArray × Bool))=none:=fun e _=>rfl
 rw [h1];constructor
 ·rintro ⟨⟨⟨a1,a2,a3,a4⟩,a5⟩,a6⟩;rw [useL_len _ _ AllT.nil a3 h0] at a5;exact ⟨⟨of_decide_eq_true a1,a2,a3⟩,by simpa using a5,a6⟩
 ·rintro ⟨⟨a1,a2,a3⟩,a5,a6⟩;refine ⟨⟨⟨decide_eq_true a1,a2,a3,h0⟩,?_⟩,a6⟩;rw [useL_len _ _ AllT.nil a3 h0]
  simpa using a5
theorem RtE.names {nm:ByteArray} {a:List DImport} {b:List DInput} {t:List DTable} {F:List FE} {C:List CE} {p:List DPort} {d:List DStore} {r:List DRecipe} (h:RtE nm a b t F C p d r):(F.map (·.m)).Nodup∧(C.map (·.1)).Nodup:=by
 have h:=((RtE_char ..).1 h).1.2.2;unfold itsE formsE at h;simp only [List.map_append,List.map_map,List.append_assoc] at h;have h1:=(List.nodup_append.1 (List.nodup_append.1 (List.nodup_append.1 h).2.1).2.1);exact ⟨h1.1,h1.2.1⟩
theorem RtE.perm {nm:ByteArray} {a:List DImport} {b:List DInput} {t:List DTable} {F F':List FE} {C C':List CE} {p:List DPort} {d:List DStore} {r:List DRecipe} (hF:F'.Perm F) (hC:C'.Perm C) (h:RtE nm a b t F C p d r):RtE nm a b t F' C' p d r:=by
 obtain ⟨⟨h1,h2,h3⟩,h4,h5⟩:=(RtE_char ..).1 h;have hp:(itsE a b t F' C' p d).Perm (itsE a b t F C p d):=by
  unfold itsE formsE;exact List.Perm.append_left _ (((List.Perm.refl _).append (hF.map _)).append (hC.map _))
 exact (RtE_char ..).2 ⟨⟨h1,fun e he=>h2 e (hp.mem_iff.1 he),(hp.map _).nodup_iff.2 h3⟩,by rw [hp.length_eq];exact h4,h5⟩
end Zl

open Go
namespace Zl
open Fx Sx Zc Zd Zo
theorem map_inj {α β:Type} {g:α→β}:∀ {l:List α} {x y:α},(l.map g).Nodup→x ∈ l→y ∈ l→g x=g y→x=y
 | a :: l,x,y,hn,hx,hy,e=>by
  rw [List.map_cons,List.nodup_cons] at hn;rcases List.mem_cons.1 hx with e1 | hx
  ·rcases List.mem_cons.1 hy with e2 | hy
   ·rw [e1,e2]
   ·exact absurd (show g a ∈ l.map g by rw [←e1,e];exact List.mem_map_of_mem hy) hn.1
  ·rcases List.mem_cons.1 hy with e2 | hy
   ·exact absurd (show g a ∈ l.map g by rw [←e2,← e];exact List.mem_map_of_mem hx) hn.1
   ·exact map_inj hn.2 hx hy e
theorem getD_in {α:Type} [Inhabited α] {l:List α} {i:Nat} (h:i < l.length):l.getD i default ∈ l:=getD_mem h rfl
theorem idx_inj {α β:Type} [Inhabited α] {g:α→β} {l:List α} {i j:Nat} (hn:(l.map g).Nodup) (hi:i < l.length) (hj:j < l.length) (e:g (l.getD i default)=g (l.getD j default)):i=j:=by
 rw [List.getD_eq_getElem?_getD,List.getElem?_eq_getElem hi,List.getD_eq_getElem?_getD,List.getElem?_eq_getElem hj] at e;have e:g l[i]=g l[j]:=e;have hp:=List.pairwise_iff_getElem.1 hn;rcases Nat.lt_trichotomy i j with h | h | h
 ·exact absurd (by rw [List.getElem_map,List.getElem_map];exact e) (hp i j (by simpa using hi) (by simpa using hj) h)
 ·exact h
 ·exact absurd (by rw [List.getElem_map,List.getElem_map];exact e.symm) (hp j i (by simpa using hj) (by simpa using hi) h)
theorem find_pos {F:List FE} {m:ByteArray} (h:0≤find F m):(find F m).toNat < F.length∧(F.getD (find F m).toNat default).m=m:=by
 have:=fidx_lt (p:=fun f:FE=>decide (f.m=m)) (l:=F) h
 exact ⟨this.1,of_decide_eq_true this.2⟩
theorem find_mem {F:List FE} {f:FE} (h:f ∈ F):0≤find F f.m:=by
 unfold find;rw [fidx_nn];exact List.any_eq_true.2 ⟨f,h,decide_eq_true rfl⟩
theorem find_self {F:List FE} {f:FE} (hn:(F.map (·.m)).Nodup) (h:f ∈ F):F.getD (find F f.m).toNat default=f:=by
 obtain ⟨h1,h2⟩:=find_pos (find_mem h);exact map_inj hn (getD_in h1) h h2
theorem find_at {F:List FE} {i:Nat} (hn:(F.map (·.m)).Nodup) (hi:i < F.length):find F (F.getD i default).m=(i:Int):=by
 have h0:=find_mem (getD_in hi);obtain ⟨h1,h2⟩:=find_pos h0
 have:=idx_inj hn h1 hi h2
 omega
structure Sm (F F':List FE):Prop where
 perm:F'.Perm F
 nd:(F.map (·.m)).Nodup
theorem Sm.nd' {F F':List FE} (h:Sm F F'):(F'.map (·.m)).Nodup:=(h.perm.map _).nodup_iff.2 h.nd
theorem Sm.symm {F F':List FE} (h:Sm F F'):Sm F' F:=⟨h.perm.symm,h.nd'⟩
theorem Sm.lk {F F':List FE} (h:Sm F F') {m:ByteArray} (h0:0≤find F m):0≤find F' m∧F'.getD (find F' m).toNat default=F.getD (find F m).toNat default:=by
 obtain ⟨h1,h2⟩:=find_pos h0;have hm:=h.perm.mem_iff.2 (getD_in h1);have h3:=find_mem hm;have h4:=find_self h.nd' hm;rw [h2] at h3 h4;exact ⟨h3,h4⟩
theorem Sm.neg {F F':List FE} (h:Sm F F') (m:ByteArray):find F' m < 0↔find F m < 0:=by
 constructor
 ·intro hn;refine Int.not_le.1 fun h0=>?_
  have:=(h.lk h0).1;omega
 ·intro hn;refine Int.not_le.1 fun h0=>?_
  have:=(h.symm.lk h0).1;omega
theorem Sm.unk {F F':List FE} (h:Sm F F'):Zc.unk F'=Zc.unk F:=by
 funext x
 unfold Zc.unk
 congr 1
 exact decide_eq_decide.2 (h.neg x.m)
def callsN (x:Ex) (m:ByteArray):Prop:=anyN (fun y=>decide (y.op=3) && decide (y.m=m)) x=true
theorem callsN_top {o n:Int} {u m:ByteArray} {l:List Ex} (h:o=3):callsN (.mk o n u m l) m:=by
 unfold callsN;rw [anyN,Bool.or_eq_true]
 left
 show (decide (o=3) && decide (m=m))=true;rw [decide_eq_true h,decide_eq_true rfl];rfl
theorem callsN_arg {o n:Int} {u m k:ByteArray} {l:List Ex} {y:Ex} (hy:y ∈ l) (h:callsN y k):callsN (.mk o n u m l) k:=by
 unfold callsN at h ⊢;rw [anyN,anyNL_any,Bool.or_eq_true];exact .inr (List.any_eq_true.2 ⟨y,hy,h⟩)
theorem callsN_found {F:List FE}:∀ {x:Ex} {m:ByteArray},anyN (Zc.unk F) x=false→callsN x m→0≤find F m:=fun {x}=>by
 induction x using Ex.ind with
 | h x ih =>
  intro m hu hc;cases x with
  | mk o n u k l =>
   obtain ⟨b,d⟩:=un_mk hu;unfold callsN at hc;rw [anyN,anyNL_any,Bool.or_eq_true] at hc;rcases hc with hc | hc
   ·rw [Bool.and_eq_true] at hc;have h1:o=3:=of_decide_eq_true hc.1;have h2:k=m:=of_decide_eq_true hc.2;rw [←h2];exact unk_mk b h1
   ·obtain ⟨y,hy,hc⟩:=List.any_eq_true.1 hc;exact ih y hy (d y hy) hc
theorem callsN_in {F:List FE} {x:Ex} {m:ByteArray} (h:callsN x m):callsIn F x (find F m).toNat:=by
 unfold callsN at h;unfold callsIn
 revert h
 induction x using Ex.ind with
 | h x ih =>
  cases x with
  | mk o n u k l =>
   intro h;rw [anyN,anyNL_any,Bool.or_eq_true] at h ⊢;rcases h with h | h
   ·left
    rw [Bool.and_eq_true] at h ⊢;have h2:k=m:=of_decide_eq_true h.2;exact ⟨h.1,decide_eq_true (by show (find F k).toNat=_;rw [h2])⟩
   ·obtain ⟨y,hy,h⟩:=List.any_eq_true.1 h;exact .inr (List.any_eq_true.2 ⟨y,hy,ih y hy h⟩)
theorem callsIn_N {F:List FE} {x:Ex} {j:Nat} (h:callsIn F x j):∃ m,callsN x m∧(find F m).toNat=j:=by
 induction x using Ex.ind with
 | h x ih =>
  cases x with
  | mk o n u k l =>
   rcases callsIn_mk h with ⟨h3,hk⟩ | ⟨y,hy,hj⟩
   ·exact ⟨k,callsN_top h3,hk⟩
   ·obtain ⟨m,h1,h2⟩:=ih y hy hj;exact ⟨m,callsN_arg hy h1,h2⟩
mutual
theorem Sm.unev {F F':List FE} (h:Sm F F'):∀ x:Ex,anyN (Zc.unk F) x=false→anyN (Zc.unev F') x=anyN (Zc.unev F) x
 | .mk o n u m l,hu=>by
  obtain ⟨b,d⟩:=un_mk hu;rw [anyN,anyN,Sm.unevL h l d]
  congr 1
  unfold Zc.unev;by_cases h3:o=3
  ·have h0:=unk_mk b h3;show (decide (o=3) && !decide ((l.length:Int)=((F'.getD (find F' m).toNat default).p.length:Int)))=(decide (o=3) && !decide ((l.length:Int)=((F.getD (find F m).toNat default).p.length:Int)));rw [(h.lk h0).2]
  ·show (decide (o=3) && _)=(decide (o=3) && _);rw [decide_eq_false h3];rfl
theorem Sm.unevL {F F':List FE} (h:Sm F F'):∀ l:List Ex,(∀ y ∈ l,anyN (Zc.unk F) y=false)→anyNL (Zc.unev F') l=anyNL (Zc.unev F) l
 | [],_=>rfl
 | x :: l,hu=>by rw [anyNL,anyNL,Sm.unev h x (hu x (by simp)),Sm.unevL h l fun y hy=>hu y (by simp [hy])]
end
def twB (f:FE):Bool:=(List.range f.p.length).any (twP f)
structure FOk (F:List FE) (f:FE):Prop where
 formed:formed f
 par:twB f=false
 unit:f.p.any wrong=false
 stray:anyN (stray f.p) f.b=false
 unk:anyN (Zc.unk F) f.b=false
 unev:anyN (Zc.unev F) f.b=false
theorem chkF_zero {F:List FE}:∀ (n k:Nat),(∀ i:Nat,k≤i→i < k+n→chk F (i:Int)=0)→chkF F n k=0
 | 0,_,_=>rfl
 | n+1,k,h=>by
  rw [chkF,if_neg (fun hn=>hn (h k (Nat.le_refl _) (by omega)))];exact chkF_zero n (k+1) fun i h1 h2=>h i (by omega) (by omega)
theorem fidx_le {α:Type} [Inhabited α] {p:α→Bool} {l:List α} {i:Nat} (hi:i < l.length) (hp:p (l.getD i default)=true):fidx p l≤(i:Int):=by
 have ha:l.any p=true:=List.any_eq_true.2 ⟨_,getD_in hi,hp⟩;unfold fidx;rw [if_pos ha];rw [List.getD_eq_getElem?_getD,List.getElem?_eq_getElem hi] at hp;refine Int.not_lt.1 fun b=>?_
 have:=List.not_of_lt_findIdx (xs:=l) (p:=p) (i:=i) (by omega)
 rw [show p l[i]=true from hp] at this;cases this
theorem chk_char {F:List FE}:(∀ i:Nat,i < F.length→chk F (i:Int)=0)↔(F.map (·.m)).Nodup∧∀ f ∈ F,FOk F f:=by
 constructor
 ·intro h;have b:∀ i:Nat,i < F.length→(i:Int)≤find F (F.getD i default).m∧FOk F (F.getD i default):=fun i hi=>by
   obtain ⟨h1,h2,h3,h4,h5,h6⟩:=chk_ok (h i hi);rw [show ((i:Int).toNat)=i from rfl] at h1 h2 h3 h4 h5 h6;unfold Zc.twice at h2;rw [Bool.or_eq_false_iff] at h2
   have:=of_decide_eq_false h2.1
   exact ⟨by omega,⟨h1,h2.2,h3,h4,h5,h6⟩⟩
  refine ⟨?_,fun f hf=>?_⟩
  ·refine List.pairwise_iff_getElem.2 fun i j hi hj d e=>?_;simp only [List.length_map] at hi hj
   have h1:=(b j hj).1;have h2:find F (F.getD j default).m≤(i:Int):=by
    refine fidx_le (p:=fun f:FE=>decide (f.m=(F.getD j default).m)) hi (decide_eq_true ?_);simp only [List.getElem_map] at e;rw [List.getD_eq_getElem?_getD,List.getElem?_eq_getElem hi,List.getD_eq_getElem?_getD,List.getElem?_eq_getElem hj];exact e
   omega
  ·obtain ⟨i,hi,rfl⟩:=List.getElem_of_mem hf
   have:=(b i hi).2
   rwa [List.getD_eq_getElem?_getD,List.getElem?_eq_getElem hi] at this
 ·rintro ⟨hn,hf⟩ i hi;have h:=hf _ (getD_in hi);have e:((i:Int).toNat)=i:=rfl;refine chk0 (by rw [e];exact h.formed) ?_ (by rw [e,h.unit];simp) (by rw [e,h.stray,h.unk];simp) (by rw [e,h.unev];simp);rw [e];unfold Zc.twice;rw [find_at hn hi,decide_eq_false (by omega)];show ¬ (false || twB (F.getD i default))=true;rw [h.par];simp
def Acy (F:List FE) (rk:ByteArray→Nat):Prop:=∀ f ∈ F,∀ m,callsN f.b m→rk m < rk f.m
section
variable {F : List FE} {rk : ByteArray → Nat}
def rkI (F:List FE) (rk:ByteArray→Nat) (i:Nat):Nat:=rk (F.getD i default).m
mutual
theorem anyS_no {f:List Int→Int→Bool × List Int} {n len:Nat} (b:F.length=len) (d:∀ S i,OkS n len S→OkS n len (f S i).2)
  (hf:∀ S (i:Int),OkS n len S→0≤i→i < len→(∀ j:Nat,S.getD j 0=1→rkI F rk i.toNat < rkI F rk j)→(f S i).1=false∧∀ j:Nat,(f S i).2.getD j 0=1↔S.getD j 0=1) :
  ∀ (x:Ex) (S:List Int),anyN (Zc.unk F) x=false→OkS n len S→(∀ k:Nat,callsIn F x k→∀ j:Nat,S.getD j 0=1→rkI F rk k < rkI F rk j)→(anyS f F x S).1=false∧∀ j:Nat,(anyS f F x S).2.getD j 0=1↔S.getD j 0=1
 | .mk o m u k l,S,hu,h,hr=>by
  obtain ⟨t,w⟩:=un_mk hu;rw [anyS];generalize hq:(if o=3 then f S (find F k) else (false,S))=r;have h1:OkS n len r.2∧r.1=false∧∀ j:Nat,r.2.getD j 0=1↔S.getD j 0=1:=by
   rw [←hq];by_cases h3:o=3
   ·rw [if_pos h3];have A:=find_rng F k;have h0:=unk_mk t h3
    have:=hf S (find F k) h h0 (by omega) (hr _ (callsIn_of (.inl ⟨h3,rfl⟩)))
    exact ⟨d _ _ h,this.1,this.2⟩
   ·rw [if_neg h3];exact ⟨h,rfl,fun j=>Iff.rfl⟩
  show (if r.1=true then (true,r.2) else anySL f F l r.2).1=false∧∀ j:Nat,(if r.1=true then (true,r.2) else anySL f F l r.2).2.getD j 0=1↔S.getD j 0=1;rw [if_neg (by rw [h1.2.1];simp)]
  have:=anySL_no b d hf l r.2 w h1.1 fun y hy k hk j hj=>hr k (callsIn_of (.inr ⟨y,hy,hk⟩)) j ((h1.2.2 j).1 hj)
  exact ⟨this.1,fun j=>(this.2 j).trans (h1.2.2 j)⟩
theorem anySL_no {f:List Int→Int→Bool × List Int} {n len:Nat} (b:F.length=len) (d:∀ S i,OkS n len S→OkS n len (f S i).2)
  (hf:∀ S (i:Int),OkS n len S→0≤i→i < len→(∀ j:Nat,S.getD j 0=1→rkI F rk i.toNat < rkI F rk j)→(f S i).1=false∧∀ j:Nat,(f S i).2.getD j 0=1↔S.getD j 0=1) :
  ∀ (l:List Ex) (S:List Int),(∀ y ∈ l,anyN (Zc.unk F) y=false)→OkS n len S→(∀ y ∈ l,∀ k:Nat,callsIn F y k→∀ j:Nat,S.getD j 0=1→rkI F rk k < rkI F rk j)→(anySL f F l S).1=false∧∀ j:Nat,(anySL f F l S).2.getD j 0=1↔S.getD j 0=1
 | [],S,_,_,_=>⟨rfl,fun j=>Iff.rfl⟩
 | x :: l,S,hu,h,hr=>by
  rw [anySL];have h1:=anyS_no b d hf x S (hu x (by simp)) h (hr x (by simp));rw [if_neg (by rw [h1.1];simp)]
  have:=anySL_no b d hf l _ (fun y hy=>hu y (by simp [hy])) (anyS_ok d x S h) fun y hy k hk j hj=>hr y (by simp [hy]) k hk j ((h1.2 j).1 hj)
  exact ⟨this.1,fun j=>(this.2 j).trans (h1.2 j)⟩
end
theorem thr_no (hn:(F.map (·.m)).Nodup) (hu:∀ f ∈ F,anyN (Zc.unk F) f.b=false) (ha:Acy F rk):∀ (n:Nat) (S:List Int) (i:Int),OkS n F.length S→0≤i→i < F.length→(∀ j:Nat,S.getD j 0=1→rkI F rk i.toNat < rkI F rk j)→(thr F n S i).1=false∧∀ j:Nat,(thr F n S i).2.getD j 0=1↔S.getD j 0=1
 | 0,S,i,h,_,_,_=>absurd h.nf (Nat.not_lt_zero _)
 | n+1,S,i,h,h0,h1,hr=>by
  by_cases hS:S.getD i.toNat 0=0
  ·rw [thr_new hS];have hi:i.toNat < F.length:=by omega
   have d:∀ j:Nat,(S.set i.toNat 1).getD j 0=1↔S.getD j 0=1∨i.toNat=j:=fun j=>by
    rw [Zd.getD_set,h.len];by_cases e:i.toNat=j
    ·rw [if_pos ⟨e,hi⟩];exact ⟨fun _=>.inr e,fun _=>rfl⟩
    ·rw [if_neg (fun h=>e h.1)];exact ⟨.inl,fun h=>h.elim id fun h=>absurd h e⟩
   have hq:=anyS_no (rk:=rk) rfl (fun S i h=>thr_ok F F.length n n S i h) (fun S i h2 h3 h4 h5=>thr_no hn hu ha n S i h2 h3 h4 h5) (F.getD i.toNat default).b (S.set i.toNat 1) (hu _ (getD_in hi)) (h.set1 (by decide) hi hS) (fun k hk j hj=>by
    obtain ⟨m,o,t⟩:=callsIn_N hk;have w:=callsN_found (hu _ (getD_in hi)) o;have A:=find_pos w;have B:rkI F rk k < rkI F rk i.toNat:=by
     unfold rkI;rw [←t,A.2];exact ha _ (getD_in hi) m o
    rcases (d j).1 hj with hj | hj
    ·have:=hr j hj;omega
    ·rw [←hj];exact B)
   refine ⟨hq.1,fun j=>?_⟩;have hl:(anyS (thr F n) F (F.getD i.toNat default).b (S.set i.toNat 1)).2.length=F.length:=(anyS_ok (fun S i h=>thr_ok F F.length n n S i h) _ _ (h.set1 (by decide) hi hS)).len;show ((anyS (thr F n) F (F.getD i.toNat default).b (S.set i.toNat 1)).2.set i.toNat 2).getD j 0=1↔_;rw [Zd.getD_set,hl];by_cases e:i.toNat=j
   ·rw [if_pos ⟨e,hi⟩];refine ⟨fun h=>absurd h (by decide),fun h=>?_⟩;rw [←e,hS] at h;cases h
   ·rw [if_neg (fun h=>e h.1),hq.2 j,d j];exact ⟨fun h=>h.elim id fun h=>absurd h e,.inl⟩
  ·rw [thr_open hS];refine ⟨decide_eq_false fun h1=>?_,fun j=>Iff.rfl⟩
   have:=hr i.toNat h1;omega
theorem cycF_no (hn:(F.map (·.m)).Nodup) (hu:∀ f ∈ F,anyN (Zc.unk F) f.b=false) (ha:Acy F rk) (m:Nat):∀ (k i:Nat) (S:List Int),OkS m F.length S→(∀ j:Nat,S.getD j 0≠1)→i+k≤F.length→cycF F m k i S=false
 | 0,i,S,_,_,_=>rfl
 | k+1,i,S,h,ho,hl=>by
  have:=thr_no hn hu ha m S (i:Int) h (by omega) (by omega) fun j hj=>absurd hj (ho j)
  rw [cycF,if_neg (by rw [this.1];simp)];exact cycF_no hn hu ha m k (i+1) _ (thr_ok _ _ _ _ _ _ h) (fun j hj=>ho j ((this.2 j).1 hj)) (by omega)
theorem cyc_no (hn:(F.map (·.m)).Nodup) (hu:∀ f ∈ F,anyN (Zc.unk F) f.b=false) (ha:Acy F rk):Zc.cyc F=false:=by
 unfold Zc.cyc;refine cycF_no hn hu ha _ F.length 0 _ (ok_start _) (fun j h=>?_) (by omega);rw [List.getD_eq_getElem?_getD,List.getElem?_replicate] at h;split at h <;> cases h
end
theorem Check_char {F:List FE}:Check F=0↔F.length≤100∧(F.map (·.m)).Nodup∧(∀ f ∈ F,FOk F f)∧∃ rk,Acy F rk:=by
 constructor
 ·intro h;obtain ⟨h1,h2,h3⟩:=Check_ok h;have hc:=chk_char.1 fun i hi=>chkF_all _ _ h2 i (Nat.zero_le _) (by omega)
  refine ⟨by omega,hc.1,hc.2,?_⟩;obtain ⟨rk,_,hr⟩:=rank_ex (fun i hi=>(hc.2 _ (getD_in hi)).unk) h3;refine ⟨fun m=>rk (find F m).toNat,fun f hf m hm=>?_⟩;obtain ⟨h4,h5⟩:=find_pos (find_mem hf);have h6:=find_self hc.1 hf;refine hr _ h4 _ ?_;rw [h6];exact callsN_in hm
 ·rintro ⟨h1,h2,h3,rk,h4⟩;exact Check_0 (by omega) (chkF_zero _ _ fun i _ hi=>chk_char.2 ⟨h2,h3⟩ i (by omega)) (cyc_no h2 (fun f hf=>(h3 f hf).unk) h4)
theorem Sm.FOk {F F':List FE} (h:Sm F F') {f:FE} (hf:Zl.FOk F f):Zl.FOk F' f:=⟨hf.formed,hf.par,hf.unit,hf.stray,by rw [h.unk];exact hf.unk,by rw [h.unev _ hf.unk];exact hf.unev⟩
theorem Sm.check {F F':List FE} (h:Sm F F') (hc:Check F=0):Check F'=0:=by
 obtain ⟨h1,h2,h3,rk,h4⟩:=Check_char.1 hc;exact Check_char.2 ⟨by rw [h.perm.length_eq];exact h1,h.nd',fun f hf=>h.FOk (h3 f (h.perm.mem_iff.1 hf)),rk,fun f hf=>h4 f (h.perm.mem_iff.1 hf)⟩
mutual
theorem growT_lk {F F':List FE} {bd bd':Nat→WE}:∀ x:Ex,(∀ m,callsN x m→F'.getD (find F' m).toNat default=F.getD (find F m).toNat default∧bd' (find F' m).toNat=bd (find F m).toNat)→growT F' bd' x=growT F bd x
 | .mk o n u m l,h=>by
  have hl:=growL_lk (F:=F) (F':=F') (bd:=bd) (bd':=bd') l fun y hy k hk=>h k (callsN_arg hy hk)
  rw [growT,growT,hl];by_cases h3:o=3
  ·have:=h m (callsN_top h3)
   rw [if_pos h3,if_pos h3,this.1,this.2]
  ·rw [if_neg h3,if_neg h3]
theorem growL_lk {F F':List FE} {bd bd':Nat→WE}:∀ l:List Ex,(∀ y ∈ l,∀ m,callsN y m→F'.getD (find F' m).toNat default=F.getD (find F m).toNat default∧bd' (find F' m).toNat=bd (find F m).toNat)→growL F' bd' l=growL F bd l
 | [],_=>rfl
 | x :: l,h=>by rw [growL,growL,growT_lk x (h x (by simp)),growL_lk l fun y hy=>h y (by simp [hy])]
end
theorem Sm.bd {F F':List FE} (h:Sm F F') (hc:Check F=0):∀ m,0≤find F m→bdF F' (find F' m).toNat=bdF F (find F m).toNat:=by
 obtain ⟨_,hn,hf,rk,ha⟩:=Check_char.1 hc;obtain ⟨r1,b1⟩:=bdF_spec hc;obtain ⟨r2,b2⟩:=bdF_spec (h.check hc);have d:∀ k m,rk m < k→0≤find F m→bdF F' (find F' m).toNat=bdF F (find F m).toNat:=fun k=>by
  induction k with
  | zero=>intro m hk;omega
  | succ k ih =>
   intro m hk h0;obtain ⟨h1,h2⟩:=find_pos h0;obtain ⟨h3,h4⟩:=h.lk h0;obtain ⟨h5,_⟩:=find_pos h3;rw [b2.eq _ h5,b1.eq _ h1,h4];refine growT_lk _ fun m2 b=>?_;have f:=hf _ (getD_in h1)
   have h6:=callsN_found f.unk b;refine ⟨(h.lk h6).2,ih m2 ?_ h6⟩
   have:=ha _ (getD_in h1) m2 b
   rw [h2] at this;omega
 exact fun m h0=>d (rk m+1) m (by omega) h0
theorem Sm.xpd {F F':List FE} (h:Sm F F') (hc:Check F=0) (x:Ex):Zd.xpd F' x=Zd.xpd F x:=by
 unfold Zd.xpd;by_cases hr:¬ rt x
 ·rw [if_pos (.inl hr),if_pos (.inl hr)]
 ·rw [if_neg (show ¬ (¬rt x∨Check F'≠0) by rintro (k | k);exact hr k;exact k (h.check hc)),if_neg (show ¬ (¬rt x∨Check F≠0) by rintro (k | k);exact hr k;exact k hc),h.unk];by_cases hu:anyN (Zc.unk F) x=true
  ·rw [if_pos hu,if_pos hu]
  ·rw [if_neg hu,if_neg hu];have hu:anyN (Zc.unk F) x=false:=Zu.not_true hu;rw [h.unev x hu,growT_lk (F:=F) (F':=F') (bd:=bdF F) (bd':=bdF F') x fun m hm=>⟨(h.lk (callsN_found hu hm)).2,h.bd hc m (callsN_found hu hm)⟩]
end Zl

open Go
namespace Zl
open Fx Sx Zc Zd Zo
def lkN (ix:List (ByteArray × Int)) (j:Int) (y:Ex):Bool:=decide (y.op=1) && decide (mlook y.m ix=some j)
mutual
theorem nmE_look (ix:List (ByteArray × Int)) (j:Int):∀ (e:Ex) (m:List (Int × Bool)),(mlook j (nmE ix m e)).getD default=((mlook j m).getD default || anyN (lkN ix j) e)
 | .mk o n u nm ls,m=>by
  rw [nmE,nmL_look ix j ls,anyN,← Bool.or_assoc]
  congr 1
  show _=((mlook j m).getD default || (decide (o=1) && decide (mlook nm ix=some j)));by_cases h:(mlook nm ix).isSome=true∧o=1
  ·rw [if_pos h,mlook_upd];obtain ⟨i,hi⟩:=Option.isSome_iff_exists.1 h.1;rw [hi,decide_eq_true h.2,Bool.true_and];show (if j=i then some true else mlook j m).getD default=_;by_cases e:j=i
   ·subst e;rw [if_pos rfl,decide_eq_true rfl,Bool.or_true];rfl
   ·rw [if_neg (by simpa using e),decide_eq_false (by simpa using fun h=>e h.symm),Bool.or_false]
  ·rw [if_neg h];by_cases h1:o=1
   ·have:mlook nm ix≠some j:=fun e=>h ⟨by rw [e];rfl,h1⟩
    rw [decide_eq_false this,Bool.and_false,Bool.or_false]
   ·rw [decide_eq_false h1,Bool.false_and,Bool.or_false]
theorem nmL_look (ix:List (ByteArray × Int)) (j:Int):∀ (l:List Ex) (m:List (Int × Bool)),(mlook j (nmL ix m l)).getD default=((mlook j m).getD default || anyNL (lkN ix j) l)
 | [],m=>by rw [nmL,anyNL,Bool.or_false]
 | x :: l,m=>by rw [nmL,nmL_look ix j l,nmE_look ix j x,anyNL,Bool.or_assoc]
end
theorem ixR_look (s:ByteArray):∀ (l:List ByteArray) (i:Int) (m:List (ByteArray × Int)),l.Nodup→(s ∉ l∧mlook s (ixR l i m)=mlook s m)∨∃ k:Nat,k < l.length∧l.getD k ByteArray.empty=s∧mlook s (ixR l i m)=some (i+k)
 | [],i,m,_=>.inl ⟨by simp,rfl⟩
 | x :: l,i,m,hn=>by
  rw [List.nodup_cons] at hn;rw [ixR];rcases ixR_look s l (i+1) (mupd x i m) hn.2 with ⟨h1,h2⟩ | ⟨k,h1,h2,h3⟩
  ·rw [h2,mlook_upd];by_cases e:s=x
   ·rw [if_pos e];exact .inr ⟨0,by simp,by simp [e],by simp⟩
   ·rw [if_neg e];exact .inl ⟨by simp [e,h1],rfl⟩
  ·exact .inr ⟨k+1,by simp [h1],by simpa using h2,by rw [h3];congr 1;omega⟩
theorem ixE_look {C:List CE} (hn:(C.map (·.1)).Nodup) {k:Nat} (hk:k < C.length) (s:ByteArray):mlook s (ixE C)=some (k:Int)↔(C.getD k default).1=s:=by
 have hg:∀ j:Nat,j < C.length→(C.map (·.1)).getD j ByteArray.empty=(C.getD j default).1:=fun j hj=>by
  rw [List.getD_eq_getElem?_getD,List.getElem?_map,List.getD_eq_getElem?_getD,List.getElem?_eq_getElem hj];rfl
 unfold ixE;rcases ixR_look s (C.map (·.1)) 0 [] hn with ⟨h1,h2⟩ | ⟨j,h1,h2,h3⟩
 ·rw [h2];constructor
  ·intro h;cases h
  ·intro h;exact absurd (by rw [←h];exact List.mem_map_of_mem (getD_in hk)) h1
 ·rw [h3];rw [List.length_map] at h1;rw [hg j h1] at h2;constructor
  ·intro h
   have:j=k:=by simp only [Option.some.injEq] at h;omega
   rw [←this];exact h2
  ·intro h
   have:=idx_inj hn hk h1 (h.trans h2.symm)
   rw [this];simp
theorem anyN_congr {p q:Ex→Bool} (h:∀ y,p y=q y) (e:Ex):anyN p e=anyN q e:=by rw [show p=q from funext h]
theorem row_names {C:List CE} (hn:(C.map (·.1)).Nodup) (e:Ex):row (ixE C) C.length e=((List.range C.length).map Int.ofNat).filter fun j=>Zu.nmd (C.getD j.toNat default).1 e:=by
 unfold row rowM;refine List.filter_congr fun j hj=>?_;obtain ⟨k,hk,rfl⟩:=List.mem_map.1 hj
 have hk:=List.mem_range.1 hk;rw [nmE_look];show (false || anyN (lkN (ixE C) (Int.ofNat k)) e)=Zu.nmd (C.getD k default).1 e;rw [Bool.false_or];unfold Zu.nmd;refine anyN_congr (fun y=>?_) e;unfold lkN Zu.nmP
 congr 1
 refine decide_eq_decide.2 ?_;rw [show Int.ofNat k=(k:Int) from rfl,ixE_look hn hk];exact eq_comm
theorem grE_at (F:List FE) {C:List CE} {i:Nat} (hi:i < C.length):(grE F C).getD i []=row (ixE C) C.length (xpd F (C.getD i default).2.2).1:=by
 unfold grE exX;rw [List.getD_eq_getElem?_getD,List.getElem?_map,List.getElem?_map,List.getD_eq_getElem?_getD,List.getElem?_eq_getElem hi];rfl
structure Mir (G G':List (List Int)):Prop where
 len:G'.length=G.length
 mem:∀ i k:Int,0≤i→i < (G.length:Int)→0≤k→k < (G.length:Int)→(k ∈ rw_ G i↔(G.length:Int) - 1 - k ∈ rw_ G' ((G.length:Int) - 1 - i))
theorem Mir.symm {G G':List (List Int)} (h:Mir G G'):Mir G' G:=⟨h.len.symm,fun i k h1 h2 h3 h4=>by
 rw [h.len] at h2 h4 ⊢
 have:=h.mem ((G.length:Int) - 1 - i) ((G.length:Int) - 1 - k) (by omega) (by omega) (by omega) (by omega)
 rw [show (G.length:Int) - 1 - ((G.length:Int) - 1 - k)=k by omega,show (G.length:Int) - 1 - ((G.length:Int) - 1 - i)=i by omega] at this;exact this.symm⟩
theorem Mir.W {G G':List (List Int)} (hG:InR G) (h:Mir G G'):∀ (m:Nat) (a b:Int),0≤a→a < (G.length:Int)→Zo.W G m a b→Zo.W G' m ((G.length:Int) - 1 - a) ((G.length:Int) - 1 - b)
 | 0,a,b,_,_,hw=>by
  have hw:a=b:=hw;subst hw;rfl
 | m+1,a,b,h0,h1,⟨y,hy,hw⟩=>by
  have hr:=hG.at hy;exact ⟨_,(h.mem a y h0 h1 hr.1 hr.2).1 hy,Mir.W hG h m y b hr.1 hr.2 hw⟩
theorem Mir.none {G G':List (List Int)} (hG:InR G) (b:InR G') (h:Mir G G') (hc:cycle G=[]):cycle G'=[]:=by
 rw [cycle_none b] ;intro m i h0 hi hm hw;rw [h.len] at hi hm
 have:=h.symm.W b m.succ i i h0 (by rw [h.len];exact hi) hw
 rw [h.len] at this;exact (cycle_none hG).1 hc m _ (by omega) (by omega) hm this
theorem Mir.le {G G':List (List Int)} (hG:InR G) (b:InR G') (h:Mir G G') (hc:cycle G≠[]):(cycle G').length≤(cycle G).length:=by
 obtain ⟨i,h1,_,_⟩:=cycle_some hG hc;have d:cycle G'≠[]:=fun e=>hc (h.symm.none b hG e);obtain ⟨_,_,h2,_⟩:=cycle_some b d;have hw:=h1.W h1.pos;rw [h1.fst] at hw;have hr:0≤i∧i < (G.length:Int):=by rw [←h1.fst];exact h1.rng _ (getD_mem0 h1.pos)
 have f:=h.W hG _ i i hr.1 hr.2 hw;have hp:=h1.pos;have hl:=h1.le
 have:=h2 ((cycle G).length - 1) ((G.length:Int) - 1 - i) (by omega) (by rw [h.len];omega) (by rw [h.len];omega) (by rw [show (cycle G).length - 1+1=(cycle G).length by omega];exact f)
 omega
theorem Mir.cycle {G G':List (List Int)} (hG:InR G) (b:InR G') (h:Mir G G'):(Zo.cycle G').length=(Zo.cycle G).length:=by
 by_cases hc:Zo.cycle G=[]
 ·rw [hc,h.none hG b hc]
 ·have d:Zo.cycle G'≠[]:=fun e=>hc (h.symm.none b hG e)
  have:=h.le hG b hc
  have:=h.symm.le b hG d
  omega
theorem Mir.ordN {G G':List (List Int)} (hG:InR G) (b:InR G') (h:Mir G G'):Zo.ordN G'=Zo.ordN G:=by
 rcases ordN_is hG with ⟨h1,h2,_⟩ | ⟨h1,h2,_⟩
 ·rcases ordN_is b with ⟨h3,_⟩ | ⟨_,h3,_⟩
  ·rw [h1,h3]
  ·exact absurd (h.none hG b h2) h3
 ·rcases ordN_is b with ⟨_,h3,_⟩ | ⟨h3,_⟩
  ·exact absurd (h.symm.none b hG h3) h2
  ·rw [h1,h3]
structure Mr (G G':List (List Int)):Prop where
 len:G'.length=G.length+1
 row:∀ i:Int,0≤i→i < (G.length:Int)→rw_ G' i=rw_ G i
theorem Mr.W {G G':List (List Int)} (hG:InR G) (h:Mr G G'):∀ (m:Nat) (a b:Int),0≤a→a < (G.length:Int)→Zo.W G m a b→Zo.W G' m a b
 | 0,a,b,_,_,hw=>hw
 | m+1,a,b,h0,h1,⟨y,hy,hw⟩=>by
  have hr:=hG.at hy;exact ⟨y,by rw [h.row a h0 h1];exact hy,Mr.W hG h m y b hr.1 hr.2 hw⟩
end Zl
end Kb
