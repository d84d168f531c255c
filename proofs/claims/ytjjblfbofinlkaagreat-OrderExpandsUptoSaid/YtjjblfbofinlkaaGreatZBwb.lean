/- Texts for the claim, put together: the calculus of regions, its rules, and contracts of the functions that the law reaches. -/
import Derived.Test.YtjjblfbofinlkaaGreatZBwa
import Derived.ChangeArms
import Derived.WideKeyArgs
import Derived.Carry
import Derived.OpenShut
import Derived.Test.YtjjblfbofinlkaaGreatRows
import Derived.JoinedCond
import Derived.Test.YtjjblfbofinlkaaGreatChecked
import Derived.MapKept
import Derived.Lib.AppendZeros
import Derived.Laws.Strings
import Derived.Laws.Slices
import Derived.Lib.Join
set_option linter.all false
set_option maxRecDepth 10000
namespace Kb
open Go Go.RowKit Go.WideShapes Go.ChangeShapes
theorem whole_agrees (w:World):Agrees w (whole w):=fun _ _ h=>h
theorem hcells_of {w:World} {a:Addr} {vs:List Value} (h0:vs≠[]) (h:∀ (j:Nat) (v:Value),vs[j]?=some v→w.cell? (a.add j)=some v):HCells (whole w) a vs:=by
 obtain ⟨v0,b,rfl⟩:=List.exists_cons_of_ne_nil h0;have h1:=h 0 v0 rfl;have e0:a.add 0=a:=by simp [Addr.add]
 rw [e0] at h1;have hs:=World.cell?_spot h1;unfold World.cell? at h1;split at h1
 ·rename_i c T fr hb
  refine ⟨hs,c,T,fr,hb,fun j v hj=>?_⟩;have h2:=h j v hj;rw [add_eq hs] at h2
  simpa [World.cell?,hb] using h2
 ·cases h1
section
variable {H : Type} {enc : TypeId × Value → H} {P : Program} {w : World} {base : Nat} {sp : Nat → Bool} {held : Bool}
theorem cells_get {a:Addr} {n:Nat} {cs:List Value} (h:w.cells? base a n=some cs):∀ (j:Nat) (v:Value),cs[j]?=some v→w.cell? (a.add j)=some v:=by
 intro j v hj;unfold World.cells? at h;split at h
 ·have hl:=mapM_some_length h;have b:=(List.getElem?_eq_some_iff.1 hj).1;rw [hl,List.length_range] at b
  have:=mapM_some_get h j j (by simp [b])
  rw [this,hj]
 ·cases h
theorem keep_all (hl:laidOutB P=true) {W W':World} (hb:Below W.heap.size W W'):∀ {ts:List TypeId} {vs:List Value} {ds:List (DataW H)} {ps:List MemPlace},(ts.all fun t=>P.readableRec t && decide (t < P.types.size))=true →
  DataW.TrodAll enc P W 0 (fun _=>true) true ts vs ds ps→(∀ x ∈ ps,x.block < W.heap.size)→∀ b:Nat→Bool,(∀ x ∈ ps,b x.block=true)→DataW.TrodAll enc P W' 0 b true ts vs ds ps
 | [],[],[],_,_,h,_,_,_=>h
 | t :: ts,_ :: _,_ :: _,_,ht,⟨p,q,h1,h2,e⟩,hlt,b,hs=>by
  simp only [List.all_cons,Bool.and_eq_true,decide_eq_true_eq] at ht;refine ⟨p,q,WideElems.Trod_stays hl ht.1.1 ht.1.2 h1 (fun x hx=>hb.same (hlt x (by rw [e];exact List.mem_append_left _ hx))) (fun x hx=>hs x (by rw [e];exact List.mem_append_left _ hx)),keep_all hl hb (by simpa using ht.2) h2 (fun x hx=>hlt x (by rw [e];exact List.mem_append_right _ hx)) b (fun x hx=>hs x (by rw [e];exact List.mem_append_right _ hx)),e⟩
theorem Cp.law {P:Program} {f:FuncId} {d:Array Value} {F:List FP} {v:Value} (h:Cp P f d F v) (W:World) (hF:conjL (F.map fun q=>q.p (whole W))):Calls P f d W fun e w'=>e=.returned v∧Base [] W w':=by
 refine (h W (whole W) (fun _=>none) (whole_agrees W) (fun q hq=>conjL_mem hF _ (List.mem_map_of_mem hq)) ⟨Base.refl _ _,fun K hK=>?_,fun k b o hk=>?_,fun k l b o o' hk _=>?_⟩ fun r x hx=>?_).mono ?_
 ·have:K=whole W:=by simpa using hK
  subst this;exact whole_agrees W
 ·simp [ents] at hk
 ·simp [ents] at hk
 ·simp at hx
 ·rintro e w' ⟨g,C⟩;exact ⟨C.ret,C.base⟩
end

open Go
structure DExpr where
 Op:Int
 N:Int
 Unit:ByteArray
 Name:ByteArray
 Args:Fat DExpr
def ecells (x:DExpr):List Value:=[.int .i64 x.Op,.int .i64 x.N,.string x.Unit,.string x.Name,x.Args.v]
inductive EGood (H:Heaplet):DExpr→Prop
 | mk (x:DExpr) (h:HSlice H 5 (x.Args.l.map ecells) x.Args.v) (k:∀ y ∈ x.Args.l,EGood H y):EGood H x
theorem EGood.sl {H:Heaplet} {x:DExpr}:EGood H x→HSlice H 5 (x.Args.l.map ecells) x.Args.v:=fun ⟨_,h,_⟩=>h
theorem EGood.sub {H:Heaplet} {x:DExpr}:EGood H x→∀ y ∈ x.Args.l,EGood H y:=fun ⟨_,_,k⟩=>k
theorem HSlice.lq1 {H:Heaplet} {x:DExpr} (h:HSlice H 5 (x.Args.l.map ecells) x.Args.v):Lq x.Args.l x.Args.v:=⟨by
 have:=h.lim;simpa using this,fun s e hn=>by
 obtain ⟨a,c,e',h1,_⟩:=h.isSl;rw [e] at e';have ha:s.a=a:=by injection e'
 have hs:s.a=none:=by simpa using hn
 have h2:=h1 (ha ▸ hs);exact List.eq_nil_of_length_eq_zero (by simpa using h2)⟩
instance : Dat DExpr where
  default := ⟨0, 0, ByteArray.empty, ByteArray.empty, {}⟩
  size := 5
  cells := ecells
  good := EGood
  len _ := rfl
  one H x h u hu := by
    simp only [ecells, List.mem_cons, List.not_mem_nil, or_false] at hu
    rcases hu with rfl | rfl | rfl | rfl | rfl
    · rfl
    · rfl
    · rfl
    · rfl
    · obtain ⟨a, c, e, _⟩ := h.sl.val
      rw [e]; rfl
  mono H K x k h := by
    induction h with
    | mk x h _ ih => exact ⟨x, h.mono k, ih⟩
  zero H := ⟨_, HSlice.nil, fun y hy => by cases hy⟩
  q x := Lq x.Args.l x.Args.v
  hq _ x h := h.sl.lq1
theorem exG {H:Heaplet} {x:DExpr}:Dat.good H x↔RSl H x.Args.l x.Args.v:=⟨fun h=>⟨h.sl,h.sub⟩,fun h=>⟨x,h.sl,h.good⟩⟩
theorem exI {H:Heaplet} {o n:Int} {u m:ByteArray} {l:List DExpr} {s:SV} (h:RSl H l s.v):Dat.good H (DExpr.mk o n u m ⟨l,s⟩):=exG.2 h
inductive Ex where
 | mk (op n:Int) (u m:ByteArray) (l:List Ex)
instance : Inhabited Ex := ⟨.mk 0 0 ByteArray.empty ByteArray.empty []⟩
def Ex.op:Ex→Int | .mk o _ _ _ _=>o
def Ex.n:Ex→Int | .mk _ n _ _ _=>n
def Ex.u:Ex→ByteArray | .mk _ _ u _ _=>u
def Ex.m:Ex→ByteArray | .mk _ _ _ m _=>m
def Ex.l:Ex→List Ex | .mk _ _ _ _ l=>l
mutual
def er:DExpr→Ex
 | ⟨o,n,u,m,a⟩=>.mk o n u m (erF a)
def erF:Fat DExpr→List Ex
 | ⟨l,_⟩=>erL l
def erL:List DExpr→List Ex
 | []=>[]
 | x :: l=>er x :: erL l
end
theorem erL_map:∀ l:List DExpr,erL l=l.map er
 | []=>rfl
 | x :: l=>by rw [erL,List.map_cons,erL_map l]
@[simp] theorem er_op (x:DExpr):(er x).op=x.Op:=by cases x;rfl
@[simp] theorem er_n (x:DExpr):(er x).n=x.N:=by cases x;rfl
@[simp] theorem er_u (x:DExpr):(er x).u=x.Unit:=by cases x;rfl
@[simp] theorem er_m (x:DExpr):(er x).m=x.Name:=by cases x;rfl
@[simp] theorem er_l (x:DExpr):(er x).l=x.Args.l.map er:=by
 obtain ⟨o,n,u,m,⟨l,s⟩⟩:=x;show erL l=_;exact erL_map l
theorem er_mk (o n:Int) (u m:ByteArray) (l:List DExpr) (s:SV):er ⟨o,n,u,m,⟨l,s⟩⟩=.mk o n u m (l.map er):=by
 show Ex.mk o n u m (erL l)=_;rw [erL_map]
theorem Ex.ind {p:Ex→Prop} (h:∀ x,(∀ y ∈ x.l,p y)→p x):∀ x,p x
 | .mk o n u m l=>h _ fun y (hy:y ∈ l)=>Ex.ind h y
mutual
def tr:Ex→GT→DExpr
 | .mk o n u m l,.node s g=>⟨o,n,u,m,⟨trL l g,s⟩⟩
def trL:List Ex→List GT→List DExpr
 | [],_=>[]
 | x :: l,[]=>tr x default :: trL l []
 | x :: l,g :: gs=>tr x g :: trL l gs
end
mutual
def gtE:DExpr→GT
 | ⟨_,_,_,_,a⟩=>gtF a
def gtF:Fat DExpr→GT
 | ⟨l,s⟩=>.node s (gtL l)
def gtL:List DExpr→List GT
 | []=>[]
 | x :: l=>gtE x :: gtL l
end
mutual
theorem tr_gt:∀ x:DExpr,tr (er x) (gtE x)=x
 | ⟨o,n,u,m,⟨l,s⟩⟩=>by
  show DExpr.mk o n u m ⟨trL (erL l) (gtL l),s⟩=_;rw [trL_gt l]
theorem trL_gt:∀ l:List DExpr,trL (erL l) (gtL l)=l
 | []=>rfl
 | x :: l=>by
  show tr (er x) (gtE x) :: trL (erL l) (gtL l)=_;rw [tr_gt x,trL_gt l]
end
mutual
theorem er_tr:∀ (x:Ex) (g:GT),er (tr x g)=x
 | .mk o n u m l,.node s g=>by
  show Ex.mk o n u m (erL (trL l g))=_;rw [erL_trL l g]
theorem erL_trL:∀ (l:List Ex) (g:List GT),erL (trL l g)=l
 | [],_=>rfl
 | x :: l,[]=>by
  show er (tr x default) :: erL (trL l [])=_;rw [er_tr x default,erL_trL l []]
 | x :: l,g :: gs=>by
  show er (tr x g) :: erL (trL l gs)=_;rw [er_tr x g,erL_trL l gs]
end
theorem tr_ex {x:DExpr} {e:Ex} (h:er x=e):∃ g,x=tr e g:=⟨gtE x,by rw [←h,tr_gt]⟩

open Go Go.RowKit Go.WideShapes Go.ChangeShapes
open Go.Proofs.YtjjblfbofinlkaaGreat.Rows (uptoBulk uptoBulkAll uptoSmall)
def OpAt (P:Program) (w:World) (e:TypeId) (α:Type) [Dat α] (bk:α→Nat) (b:Nat):Prop :=
 ∀ {H:Type} {enc:TypeId × Value→H} {base:Nat} {sp:Nat→Bool} {d:Bool} {cs:List Value} {x:DataW H × List MemPlace},DataW.trod enc P w base sp d b e cs=some x→∃ y:α,cs=Dat.cells y∧Dat.good (whole w) y∧bk y≤uptoBulk x.1
structure OpB (P:Program) (w:World) (e:TypeId) (α:Type) [Dat α] (bk:α→Nat):Prop where
 cells:P.cellsOf e=Dat.size α
 full:0 < Dat.size α
 at_:∀ n,OpAt P w e α bk n
def bkF {α:Type} (bk:α→Nat) (f:Fat α):Nat:=(f.l.map bk).sum+1
def bkI (_:Int):Nat:=1
def bkT (s:ByteArray):Nat:=s.size+1
section
variable {H : Type} {enc : TypeId × Value → H} {P : Program} {w : World} {base : Nat} {sp : Nat → Bool} {held : Bool}
theorem sum_bulk {α:Type} {bk:α→Nat}:∀ (l:List α) (es:List (DataW H × List MemPlace)),(∀ i (hi:i < l.length),∃ z,es[i]?=some z∧bk l[i]≤uptoBulk z.1)→(l.map bk).sum≤uptoBulkAll (es.map (·.1))
 | [],es,_=>Nat.zero_le _
 | a :: l,[],h=>by obtain ⟨z,h1,_⟩:=h 0 (by simp);cases h1
 | a :: l,e :: es,h=>by
  have h0:bk a≤uptoBulk e.1:=by
   obtain ⟨z,h1,h2⟩:=h 0 (by simp);simp at h1;subst h1;exact h2
  have h1:=sum_bulk l es fun i hi=>by
   obtain ⟨z,h1,h2⟩:=h (i+1) (by simpa using hi);exact ⟨z,by simpa using h1,by simpa using h2⟩
  simp only [List.map_cons,List.sum_cons,uptoBulkAll];omega
theorem slice_at {α:Type} [Dat α] {bk:α→Nat} {t e:TypeId} (ht:P.underlying t=some (.slice e)) (M:P.cellsOf e=Dat.size α) (B:0 < Dat.size α) {D:Nat} (o:∀ m,m < D→OpAt P w e α bk m) {cs:List Value} {x:DataW H × List MemPlace} (h:DataW.trod enc P w base sp held D t cs=some x) :
  ∃ (l:List α) (s:SV),cs=[s.v]∧RSl (whole w) l s.v∧(l.map bk).sum+1≤uptoBulk x.1:=by
 rcases DataW.trod_slice ht h with ⟨rfl,rfl⟩ | ⟨a,len,G,d,rest,n,ab,rfl,rfl,_,hl,hm,Z,Q,_⟩
 ·exact ⟨[],{},rfl,RSl.nil,by simp [uptoBulk]⟩
 ·have E:∀ i,i < len→∃ y:α,w.cells? base (a.add (i * Dat.size α)) (Dat.size α)=some (Dat.cells y)∧Dat.good (whole w) y∧∃ z,d[i]?=some z∧bk y≤uptoBulk z.1:=fun i hi=>by
   have h1:=Q i hi;rw [M,List.getElem?_eq_getElem (by omega),Option.bind_eq_some_iff] at h1;obtain ⟨ac,h2,h3⟩:=h1;obtain ⟨y,rfl,hg,hb⟩:=o n (by omega) h3;exact ⟨y,h2,hg,_,List.getElem?_eq_getElem (by omega),hb⟩
  have ⟨f,hf⟩:∃ f:Nat→α,∀ i,i < len→w.cells? base (a.add (i * Dat.size α)) (Dat.size α)=some (Dat.cells (f i))∧Dat.good (whole w) (f i)∧∃ z,d[i]?=some z∧bk (f i)≤uptoBulk z.1 :=
   ⟨fun i=>if hi:i < len then Classical.choose (E i hi) else default,fun i hi=>by simp only [dif_pos hi];exact Classical.choose_spec (E i hi)⟩
  refine ⟨(List.range len).map f,⟨some a,len,G⟩,rfl,⟨⟨?_,?_,some a,G,?_,?_,hm,?_,?_⟩,?_⟩,?_⟩
  ·intro r hr;simp [rows] at hr;obtain ⟨i,_,rfl⟩:=hr;exact Dat.len _
  ·intro r hr;simp [rows] at hr;obtain ⟨i,hi,rfl⟩:=hr;exact Dat.one _ _ (hf i hi).2.1
  ·simp [SV.v]
  ·simpa using hl
  ·intro h;cases h
  ·intro b hb X;cases hb;have I:∀ r ∈ rows ((List.range len).map f),r.length=Dat.size α:=by intro r hr;simp [rows] at hr;obtain ⟨i,_,rfl⟩:=hr;exact Dat.len _
   have h0:0 < len:=by
    rcases Nat.eq_zero_or_pos len with h | h
    ·subst h;simp [rows] at X
    ·exact h
   have C:=flatten_len I;simp only [rows_length,List.length_map,List.length_range] at C;have A:a.spot=none:=by
    have h1:=cells_get (hf 0 h0).1;have h2:(Dat.cells (f 0)).length=Dat.size α:=Dat.len _;have h3:=h1 0 _ (List.getElem?_eq_getElem (by omega))
    have:=World.cell?_spot h3
    simpa [Addr.add] using this
   refine hcells_of (fun e=>?_) fun j v hj=>?_
   ·rw [e] at C
    have:=Nat.mul_pos h0 B
    simp at C;omega
   ·have Y:=(List.getElem?_eq_some_iff.1 hj).1;rw [C] at Y;have hk:j / Dat.size α < len:=Nat.div_lt_of_lt_mul (by rwa [Nat.mul_comm]);have hr:j % Dat.size α < Dat.size α:=Nat.mod_lt _ B;have h2:(Dat.cells (f (j / Dat.size α))).length=Dat.size α:=Dat.len _;have e1:(rows ((List.range len).map f))[j / Dat.size α]?=some (Dat.cells (f (j / Dat.size α))):=by simp [rows,hk]
    have e2:=List.getElem?_eq_getElem (l:=Dat.cells (f (j / Dat.size α))) (i:=j % Dat.size α) (by omega);have e3:=flatten_get I _ _ _ _ e1 e2;have ej:j / Dat.size α * Dat.size α+j % Dat.size α=j:=by rw [Nat.mul_comm];exact Nat.div_add_mod j _
    rw [ej,hj] at e3;have h4:=cells_get (hf _ hk).1 _ _ e2;rw [←Option.some.inj e3] at h4;rw [←h4,add_eq A,add_eq (a:=a.add _) (by rw [add_eq A]),add_eq A];simp only [Nat.add_assoc,ej]
  ·intro y hy;simp at hy;obtain ⟨i,hi,rfl⟩:=hy;exact (hf i hi).2.1
  ·have:=sum_bulk (bk:=bk) ((List.range len).map f) d fun i hi=>by
    have hi:i < len:=by simpa using hi
    obtain ⟨z,h1,h2⟩:=(hf i hi).2.2;exact ⟨z,h1,by simpa using h2⟩
   simp only [uptoBulk];omega
theorem fat_at {α:Type} [Dat α] {bk:α→Nat} {t e:TypeId} (ht:P.underlying t=some (.slice e)) (f:P.cellsOf e=Dat.size α) (d:0 < Dat.size α) {b:Nat} (o:∀ m,m < b→OpAt P w e α bk m):OpAt P w t (Fat α) (bkF bk) b:=fun h=>by
 obtain ⟨l,s,rfl,hr,hb⟩:=slice_at ht f d o h;exact ⟨⟨l,s⟩,rfl,hr,hb⟩
theorem opB_fat {α:Type} [Dat α] {bk:α→Nat} {t e:TypeId} (ht:P.underlying t=some (.slice e)) (hc:P.cellsOf t=1) (o:OpB P w e α bk):OpB P w t (Fat α) (bkF bk) :=
 ⟨hc,by show 0 < 1;decide,fun n=>fat_at ht o.cells o.full fun m _=>o.at_ m⟩
theorem opB_int {t:TypeId} (ht:P.underlying t=some (.int .i64)) (hc:P.cellsOf t=1):OpB P w t Int bkI :=
 ⟨hc,by decide,fun n {_ _ _ _ _ _ _} h=>by
  obtain ⟨n,rfl,rfl,_⟩:=DataW.trod_int ht h;exact ⟨n,rfl,trivial,by simp [uptoBulk,bkI]⟩⟩
theorem opB_string {t:TypeId} (ht:P.underlying t=some .string) (hc:P.cellsOf t=1):OpB P w t ByteArray bkT :=
 ⟨hc,by decide,fun n {_ _ _ _ _ _ _} h=>by
  obtain ⟨s,rfl,rfl,_⟩:=DataW.trod_string ht h;refine ⟨s,rfl,trivial,?_⟩;have e:s.data.toList.length=s.size:=by rw [Array.length_toList];rfl
  simp only [uptoBulk,bkT];omega⟩
theorem fld_at {α:Type} [Dat α] {bk:α→Nat} {fs:Array Field} {cs:List Value} {xs:List (DataW H × List MemPlace)} {n:Nat} (hf:∀ (i:Nat) (f:Field),fs[i]?=some f→DataW.trod enc P w base sp held n f.type ((cs.drop f.offset).take (P.cellsOf f.type))=xs[i]?) (hx:xs.length=fs.size)
  (i:Nat) {f:Field} (hi:fs[i]?=some f) (hc:P.cellsOf f.type=Dat.size α) (o:OpAt P w f.type α bk n):∃ (y:α) (z:DataW H × List MemPlace),xs[i]?=some z∧(cs.drop f.offset).take (Dat.size α)=Dat.cells y∧Dat.good (whole w) y∧bk y≤uptoBulk z.1:=by
 have h1:=hf i f hi;have b:=(Array.getElem?_eq_some_iff.1 hi).1;rw [List.getElem?_eq_getElem (by omega),hc] at h1;obtain ⟨y,h2,h3,h4⟩:=o h1;exact ⟨y,_,List.getElem?_eq_getElem (by omega),h2,h3,h4⟩
theorem argB_agg {α:Type} [Dat α] {bk:α→Nat} {r:Reach} {b0:Nat} {t:TypeId} {fs:Array Field} (ht:P.underlying t=some (.struct fs)) (o:OpB P w t α bk)
  {v:Value} {d:DataW H} {ps:List MemPlace} (hv:Value.okWide P w r b0 t v) (h:DataW.Trod enc P w base sp held t v d ps) :
  ∃ x:α,v=.agg (Dat.cells x).toArray∧Dat.good (whole w) x∧bk x≤uptoBulk d:=by
 obtain ⟨n,hn⟩:=h;obtain ⟨cs,rfl,hl⟩:=okWide_struct ht hv;obtain ⟨x,h1,h2,h3⟩:=o.at_ n hn;refine ⟨x,?_,h2,h3⟩;have b:cs.toList=Dat.cells x:=h1;rw [←b]
theorem small_all {l:List (DataW H)} (hk:uptoSmall H l=true):uptoBulkAll l≤1048576:=of_decide_eq_true hk
end
mutual
def bkX:Ex→Nat
 | .mk _ _ u m l=>u.size+m.size+5+bkXL l
def bkXL:List Ex→Nat
 | []=>0
 | x :: l=>bkX x+bkXL l
end
def bkE (x:DExpr):Nat:=bkX (er x)
theorem bkXL_sum:∀ l:List DExpr,bkXL (l.map er)=(l.map bkE).sum
 | []=>rfl
 | x :: l=>by rw [List.map_cons,bkXL,bkXL_sum l,List.map_cons,List.sum_cons];rfl
theorem bkE_mk (o n:Int) (u m:ByteArray) (l:List DExpr) (s:SV):bkE ⟨o,n,u,m,⟨l,s⟩⟩=u.size+m.size+5+(l.map bkE).sum:=by
 unfold bkE;rw [er_mk,bkX,bkXL_sum];rfl

open Go
structure DBig where
 Sign:Int:=0
 Digits:Fat Int:={}
instance : Dat DBig where
  default := {}
  size := 2
  cells x := Dat.cells x.Sign ++ Dat.cells x.Digits
  good H x := Dat.good H x.Digits
  len _ := rfl
  one H x h u hu := by
    simp only [List.mem_append] at hu
    rcases hu with hu | hu
    · exact Dat.one H x.Sign trivial u hu
    · exact Dat.one H x.Digits h u hu
  q x := Dat.q x.Digits
  hq H x h := Dat.hq H _ h
  mono _ _ _ k h := Dat.mono _ _ _ k h
  zero H := Dat.zero H
structure DFrac where
 P:DBig:=default
 Q:DBig:=default
instance : Dat DFrac where
  default := {}
  size := 4
  cells x := Dat.cells x.P ++ Dat.cells x.Q
  good H x := Dat.good H x.P ∧ Dat.good H x.Q
  len x := by simp [Dat.len]; rfl
  one H x h u hu := by
    obtain ⟨h0, h1⟩ := h
    simp only [List.mem_append] at hu
    rcases hu with hu | hu
    · exact Dat.one H x.P h0 u hu
    · exact Dat.one H x.Q h1 u hu
  q x := Dat.q x.P ∧ Dat.q x.Q
  hq H x h := ⟨Dat.hq H _ h.1, Dat.hq H _ h.2⟩
  mono _ _ _ k h := ⟨Dat.mono _ _ _ k h.1, Dat.mono _ _ _ k h.2⟩
  zero H := ⟨Dat.zero H, Dat.zero H⟩
structure DRow where
 Key:Int:=0
 Value:Int:=0
instance : Dat DRow where
  default := {}
  size := 2
  cells x := Dat.cells x.Key ++ Dat.cells x.Value
  good H x := True
  len _ := rfl
  one H x h u hu := by
    simp only [List.mem_append] at hu
    rcases hu with hu | hu
    · exact Dat.one H x.Key trivial u hu
    · exact Dat.one H x.Value trivial u hu
  mono _ _ _ _ h := h
  zero _ := trivial
structure Ditem where
 word:ByteArray:=ByteArray.empty
 exp:Int:=0
instance : Dat Ditem where
  default := {}
  size := 2
  cells x := Dat.cells x.word ++ Dat.cells x.exp
  good H x := True
  len _ := rfl
  one H x h u hu := by
    simp only [List.mem_append] at hu
    rcases hu with hu | hu
    · exact Dat.one H x.word trivial u hu
    · exact Dat.one H x.exp trivial u hu
  mono _ _ _ _ h := h
  zero _ := trivial
structure DTable where
 Name:ByteArray:=ByteArray.empty
 Unit:ByteArray:=ByteArray.empty
 Rows:Fat DRow:={}
instance : Dat DTable where
  default := {}
  size := 3
  cells x := Dat.cells x.Name ++ Dat.cells x.Unit ++ Dat.cells x.Rows
  good H x := Dat.good H x.Rows
  len _ := rfl
  one H x h u hu := by
    simp only [List.mem_append] at hu
    rcases hu with (hu | hu) | hu
    · exact Dat.one H x.Name trivial u hu
    · exact Dat.one H x.Unit trivial u hu
    · exact Dat.one H x.Rows h u hu
  q x := Dat.q x.Rows
  hq H x h := Dat.hq H _ h
  mono _ _ _ k h := Dat.mono _ _ _ k h
  zero H := Dat.zero H
structure DParam where
 Name:ByteArray:=ByteArray.empty
 Unit:ByteArray:=ByteArray.empty
instance : Dat DParam where
  default := {}
  size := 2
  cells x := Dat.cells x.Name ++ Dat.cells x.Unit
  good H x := True
  len _ := rfl
  one H x h u hu := by
    simp only [List.mem_append] at hu
    rcases hu with hu | hu
    · exact Dat.one H x.Name trivial u hu
    · exact Dat.one H x.Unit trivial u hu
  mono _ _ _ _ h := h
  zero _ := trivial
structure DFunc where
 Name:ByteArray:=ByteArray.empty
 Params:Fat DParam:={}
 Body:DExpr:=default
instance : Dat DFunc where
  default := {}
  size := 7
  cells x := Dat.cells x.Name ++ Dat.cells x.Params ++ Dat.cells x.Body
  good H x := Dat.good H x.Params ∧ Dat.good H x.Body
  len x := by simp [Dat.len]; rfl
  one H x h u hu := by
    obtain ⟨h1, h2⟩ := h
    simp only [List.mem_append] at hu
    rcases hu with (hu | hu) | hu
    · exact Dat.one H x.Name trivial u hu
    · exact Dat.one H x.Params h1 u hu
    · exact Dat.one H x.Body h2 u hu
  q x := Dat.q x.Params ∧ Dat.q x.Body
  hq H x h := ⟨Dat.hq H _ h.1, Dat.hq H _ h.2⟩
  mono _ _ _ k h := ⟨Dat.mono _ _ _ k h.1, Dat.mono _ _ _ k h.2⟩
  zero H := ⟨Dat.zero H, Dat.zero H⟩
structure DCell where
 Name:ByteArray:=ByteArray.empty
 Unit:ByteArray:=ByteArray.empty
 Def:DExpr:=default
instance : Dat DCell where
  default := {}
  size := 7
  cells x := Dat.cells x.Name ++ Dat.cells x.Unit ++ Dat.cells x.Def
  good H x := Dat.good H x.Def
  len x := by simp [Dat.len]; rfl
  one H x h u hu := by
    simp only [List.mem_append] at hu
    rcases hu with (hu | hu) | hu
    · exact Dat.one H x.Name trivial u hu
    · exact Dat.one H x.Unit trivial u hu
    · exact Dat.one H x.Def h u hu
  q x := Dat.q x.Def
  hq H x h := Dat.hq H _ h
  mono _ _ _ k h := Dat.mono _ _ _ k h
  zero H := Dat.zero H
structure DImport where
 Name:ByteArray:=ByteArray.empty
 Unit:ByteArray:=ByteArray.empty
 Amount:Int:=0
 House:Int:=0
 Port:ByteArray:=ByteArray.empty
 Version:Int:=0
instance : Dat DImport where
  default := {}
  size := 6
  cells x := Dat.cells x.Name ++ Dat.cells x.Unit ++ Dat.cells x.Amount ++ Dat.cells x.House ++ Dat.cells x.Port ++ Dat.cells x.Version
  good H x := True
  len _ := rfl
  one H x h u hu := by
    simp only [List.mem_append] at hu
    rcases hu with ((((hu | hu) | hu) | hu) | hu) | hu
    · exact Dat.one H x.Name trivial u hu
    · exact Dat.one H x.Unit trivial u hu
    · exact Dat.one H x.Amount trivial u hu
    · exact Dat.one H x.House trivial u hu
    · exact Dat.one H x.Port trivial u hu
    · exact Dat.one H x.Version trivial u hu
  mono _ _ _ _ h := h
  zero _ := trivial
structure DInput where
 Name:ByteArray:=ByteArray.empty
 Unit:ByteArray:=ByteArray.empty
 Kind:ByteArray:=ByteArray.empty
instance : Dat DInput where
  default := {}
  size := 3
  cells x := Dat.cells x.Name ++ Dat.cells x.Unit ++ Dat.cells x.Kind
  good H x := True
  len _ := rfl
  one H x h u hu := by
    simp only [List.mem_append] at hu
    rcases hu with (hu | hu) | hu
    · exact Dat.one H x.Name trivial u hu
    · exact Dat.one H x.Unit trivial u hu
    · exact Dat.one H x.Kind trivial u hu
  mono _ _ _ _ h := h
  zero _ := trivial
structure DPort where
 Name:ByteArray:=ByteArray.empty
 Unit:ByteArray:=ByteArray.empty
 Amount:Int:=0
instance : Dat DPort where
  default := {}
  size := 3
  cells x := Dat.cells x.Name ++ Dat.cells x.Unit ++ Dat.cells x.Amount
  good H x := True
  len _ := rfl
  one H x h u hu := by
    simp only [List.mem_append] at hu
    rcases hu with (hu | hu) | hu
    · exact Dat.one H x.Name trivial u hu
    · exact Dat.one H x.Unit trivial u hu
    · exact Dat.one H x.Amount trivial u hu
  mono _ _ _ _ h := h
  zero _ := trivial
structure DStore where
 Name:ByteArray:=ByteArray.empty
 Unit:ByteArray:=ByteArray.empty
 Rule:Int:=0
instance : Dat DStore where
  default := {}
  size := 3
  cells x := Dat.cells x.Name ++ Dat.cells x.Unit ++ Dat.cells x.Rule
  good H x := True
  len _ := rfl
  one H x h u hu := by
    simp only [List.mem_append] at hu
    rcases hu with (hu | hu) | hu
    · exact Dat.one H x.Name trivial u hu
    · exact Dat.one H x.Unit trivial u hu
    · exact Dat.one H x.Rule trivial u hu
  mono _ _ _ _ h := h
  zero _ := trivial
structure DStep where
 Kind:Int:=0
 In:Fat ByteArray:={}
 Out:Fat ByteArray:={}
 Name:ByteArray:=ByteArray.empty
 Cells:Fat ByteArray:={}
 Amount:Int:=0
instance : Dat DStep where
  default := {}
  size := 6
  cells x := Dat.cells x.Kind ++ Dat.cells x.In ++ Dat.cells x.Out ++ Dat.cells x.Name ++ Dat.cells x.Cells ++ Dat.cells x.Amount
  good H x := Dat.good H x.In ∧ Dat.good H x.Out ∧ Dat.good H x.Cells
  len _ := rfl
  one H x h u hu := by
    obtain ⟨h1, h2, h4⟩ := h
    simp only [List.mem_append] at hu
    rcases hu with ((((hu | hu) | hu) | hu) | hu) | hu
    · exact Dat.one H x.Kind trivial u hu
    · exact Dat.one H x.In h1 u hu
    · exact Dat.one H x.Out h2 u hu
    · exact Dat.one H x.Name trivial u hu
    · exact Dat.one H x.Cells h4 u hu
    · exact Dat.one H x.Amount trivial u hu
  q x := Dat.q x.In ∧ Dat.q x.Out ∧ Dat.q x.Cells
  hq H x h := ⟨Dat.hq H _ h.1, Dat.hq H _ h.2.1, Dat.hq H _ h.2.2⟩
  mono _ _ _ k h := ⟨Dat.mono _ _ _ k h.1, Dat.mono _ _ _ k h.2.1, Dat.mono _ _ _ k h.2.2⟩
  zero H := ⟨Dat.zero H, Dat.zero H, Dat.zero H⟩
structure DRecipe where
 Kind:ByteArray:=ByteArray.empty
 Steps:Fat DStep:={}
instance : Dat DRecipe where
  default := {}
  size := 2
  cells x := Dat.cells x.Kind ++ Dat.cells x.Steps
  good H x := Dat.good H x.Steps
  len _ := rfl
  one H x h u hu := by
    simp only [List.mem_append] at hu
    rcases hu with hu | hu
    · exact Dat.one H x.Kind trivial u hu
    · exact Dat.one H x.Steps h u hu
  q x := Dat.q x.Steps
  hq H x h := Dat.hq H _ h
  mono _ _ _ k h := Dat.mono _ _ _ k h
  zero H := Dat.zero H
structure DSheet where
 Name:ByteArray:=ByteArray.empty
 Imports:Fat DImport:={}
 Inputs:Fat DInput:={}
 Tables:Fat DTable:={}
 Funcs:Fat DFunc:={}
 Cells:Fat DCell:={}
 Ports:Fat DPort:={}
 Stores:Fat DStore:={}
 Recipes:Fat DRecipe:={}
instance : Dat DSheet where
  default := {}
  size := 9
  cells x := Dat.cells x.Name ++ Dat.cells x.Imports ++ Dat.cells x.Inputs ++ Dat.cells x.Tables ++ Dat.cells x.Funcs ++ Dat.cells x.Cells ++ Dat.cells x.Ports ++ Dat.cells x.Stores ++ Dat.cells x.Recipes
  good H x := Dat.good H x.Imports ∧ Dat.good H x.Inputs ∧ Dat.good H x.Tables ∧ Dat.good H x.Funcs ∧ Dat.good H x.Cells ∧ Dat.good H x.Ports ∧ Dat.good H x.Stores ∧ Dat.good H x.Recipes
  len _ := rfl
  one H x h u hu := by
    obtain ⟨h1, h2, h3, h4, h5, h6, h7, h8⟩ := h
    simp only [List.mem_append] at hu
    rcases hu with (((((((hu | hu) | hu) | hu) | hu) | hu) | hu) | hu) | hu
    · exact Dat.one H x.Name trivial u hu
    · exact Dat.one H x.Imports h1 u hu
    · exact Dat.one H x.Inputs h2 u hu
    · exact Dat.one H x.Tables h3 u hu
    · exact Dat.one H x.Funcs h4 u hu
    · exact Dat.one H x.Cells h5 u hu
    · exact Dat.one H x.Ports h6 u hu
    · exact Dat.one H x.Stores h7 u hu
    · exact Dat.one H x.Recipes h8 u hu
  q x := Dat.q x.Imports ∧ Dat.q x.Inputs ∧ Dat.q x.Tables ∧ Dat.q x.Funcs ∧ Dat.q x.Cells ∧ Dat.q x.Ports ∧ Dat.q x.Stores ∧ Dat.q x.Recipes
  hq H x h := ⟨Dat.hq H _ h.1, Dat.hq H _ h.2.1, Dat.hq H _ h.2.2.1, Dat.hq H _ h.2.2.2.1, Dat.hq H _ h.2.2.2.2.1, Dat.hq H _ h.2.2.2.2.2.1, Dat.hq H _ h.2.2.2.2.2.2.1, Dat.hq H _ h.2.2.2.2.2.2.2⟩
  mono _ _ _ k h := ⟨Dat.mono _ _ _ k h.1, Dat.mono _ _ _ k h.2.1, Dat.mono _ _ _ k h.2.2.1, Dat.mono _ _ _ k h.2.2.2.1, Dat.mono _ _ _ k h.2.2.2.2.1, Dat.mono _ _ _ k h.2.2.2.2.2.1, Dat.mono _ _ _ k h.2.2.2.2.2.2.1, Dat.mono _ _ _ k h.2.2.2.2.2.2.2⟩
  zero H := ⟨Dat.zero H, Dat.zero H, Dat.zero H, Dat.zero H, Dat.zero H, Dat.zero H, Dat.zero H, Dat.zero H⟩
structure Dwhole where
 x:DExpr:=default
 nodes:Int:=0
 levels:Int:=0
 full:Bool:=false
instance : Dat Dwhole where
  default := {}
  size := 8
  cells x := Dat.cells x.x ++ Dat.cells x.nodes ++ Dat.cells x.levels ++ Dat.cells x.full
  good H x := Dat.good H x.x
  len x := by simp [Dat.len]; rfl
  one H x h u hu := by
    simp only [List.mem_append] at hu
    rcases hu with ((hu | hu) | hu) | hu
    · exact Dat.one H x.x h u hu
    · exact Dat.one H x.nodes trivial u hu
    · exact Dat.one H x.levels trivial u hu
    · exact Dat.one H x.full trivial u hu
  q x := Dat.q x.x
  hq H x h := Dat.hq H _ h
  mono _ _ _ k h := Dat.mono _ _ _ k h
  zero H := Dat.zero H

open Go Go.Proofs Go.Proofs.YtjjblfbofinlkaaGreat
theorem opA_48 (w:World) (n:Nat):OpAt Tryz.prog w 48 DExpr bkE n:=by
 induction n using Nat.strongRecOn with
 | _ n ih =>
 intro H enc base sp f cs x h;obtain ⟨xs,m,rfl,rfl,d,b,hf⟩:=DataW.trod_struct Tryz.underlying48 h;have hl:cs.length=5:=d.trans (by kernel_rfl);have hx:xs.length=5:=b;obtain ⟨y0,z0,i0,e0,g0,b0⟩:=fld_at (α:=Int) hf b 0 rfl (by kernel_rfl) ((Kb.opB_int Tryz.underlying3 (by kernel_rfl)).at_ m);obtain ⟨y1,z1,i1,e1,g1,b1⟩:=fld_at (α:=Int) hf b 1 rfl (by kernel_rfl) ((Kb.opB_int Tryz.underlying3 (by kernel_rfl)).at_ m);obtain ⟨y2,z2,i2,e2,g2,b2⟩:=fld_at (α:=ByteArray) hf b 2 rfl (by kernel_rfl) ((Kb.opB_string Tryz.underlying9 (by kernel_rfl)).at_ m);obtain ⟨y3,z3,i3,e3,g3,b3⟩:=fld_at (α:=ByteArray) hf b 3 rfl (by kernel_rfl) ((Kb.opB_string Tryz.underlying9 (by kernel_rfl)).at_ m);obtain ⟨y4,z4,i4,e4,g4,b4⟩:=fld_at (α:=Fat DExpr) hf b 4 rfl (by kernel_rfl) (fat_at (e:=48) Tryz.underlying46 (by kernel_rfl) (by decide) fun k hk=>ih k (by omega));obtain ⟨c0,c1,c2,c3,c4,rfl⟩:∃ c0 c1 c2 c3 c4,cs=[c0,c1,c2,c3,c4]:=by
  rcases cs with _ | ⟨c0,_ | ⟨c1,_ | ⟨c2,_ | ⟨c3,_ | ⟨c4,_ | ⟨_,_⟩⟩⟩⟩⟩⟩
  all_goals first | exact ⟨_,_,_,_,_,rfl⟩ | (simp at hl;done) | (simp at hl;omega)
 obtain ⟨x0,x1,x2,x3,x4,rfl⟩:∃ x0 x1 x2 x3 x4,xs=[x0,x1,x2,x3,x4]:=by
  rcases xs with _ | ⟨x0,_ | ⟨x1,_ | ⟨x2,_ | ⟨x3,_ | ⟨x4,_ | ⟨_,_⟩⟩⟩⟩⟩⟩
  all_goals first | exact ⟨_,_,_,_,_,rfl⟩ | (simp at hx;done) | (simp at hx;omega)
 obtain rfl:x0=z0:=by simpa using i0
 obtain rfl:x1=z1:=by simpa using i1
 obtain rfl:x2=z2:=by simpa using i2
 obtain rfl:x3=z3:=by simpa using i3
 obtain rfl:x4=z4:=by simpa using i4
 simp [Dat.cells,Dat.size] at e0 e1 e2 e3 e4;refine ⟨⟨y0,y1,y2,y3,y4⟩,?_,exG.2 g4,?_⟩
 ·simp [Dat.cells,ecells,e0,e1,e2,e3,e4]
 ·simp only [List.map_cons,List.map_nil,Rows.uptoBulk,Rows.uptoBulkAll];obtain ⟨l,s⟩:=y4;rw [bkE_mk];simp only [bkI,bkT,bkF] at b0 b1 b2 b3 b4;omega
theorem opB_48 (w:World):OpB Tryz.prog w 48 DExpr bkE:=⟨by kernel_rfl,by decide,opA_48 w⟩
def bkParam (x:DParam):Nat:=bkT x.Name+bkT x.Unit+1
theorem opA_111 (w:World) (n:Nat):OpAt Tryz.prog w 111 DParam bkParam n:=by
 intro H enc base sp f cs x h;obtain ⟨xs,m,rfl,rfl,d,b,hf⟩:=DataW.trod_struct Tryz.underlying111 h;have hl:cs.length=2:=d.trans (by kernel_rfl);have hx:xs.length=2:=b;obtain ⟨y0,z0,i0,e0,g0,b0⟩:=fld_at (α:=ByteArray) hf b 0 rfl (by kernel_rfl) ((Kb.opB_string Tryz.underlying9 (by kernel_rfl)).at_ m);obtain ⟨y1,z1,i1,e1,g1,b1⟩:=fld_at (α:=ByteArray) hf b 1 rfl (by kernel_rfl) ((Kb.opB_string Tryz.underlying9 (by kernel_rfl)).at_ m);obtain ⟨c0,c1,rfl⟩:∃ c0 c1,cs=[c0,c1]:=by
  rcases cs with _ | ⟨c0,_ | ⟨c1,_ | ⟨_,_⟩⟩⟩
  all_goals first | exact ⟨_,_,rfl⟩ | (simp at hl;done) | (simp at hl;omega)
 obtain ⟨x0,x1,rfl⟩:∃ x0 x1,xs=[x0,x1]:=by
  rcases xs with _ | ⟨x0,_ | ⟨x1,_ | ⟨_,_⟩⟩⟩
  all_goals first | exact ⟨_,_,rfl⟩ | (simp at hx;done) | (simp at hx;omega)
 obtain rfl:x0=z0:=by simpa using i0
 obtain rfl:x1=z1:=by simpa using i1
 simp [Dat.cells,Dat.size] at e0 e1;refine ⟨⟨y0,y1⟩,?_,trivial,?_⟩
 ·simp [Dat.cells,ecells,e0,e1]
 ·simp only [List.map_cons,List.map_nil,Rows.uptoBulk,Rows.uptoBulkAll];show bkT y0+bkT y1+1≤_;omega
theorem opB_111 (w:World):OpB Tryz.prog w 111 DParam bkParam:=⟨by kernel_rfl,by decide,opA_111 w⟩
def bkFunc (x:DFunc):Nat:=bkT x.Name+(bkF bkParam) x.Params+bkE x.Body+1
theorem opA_59 (w:World) (n:Nat):OpAt Tryz.prog w 59 DFunc bkFunc n:=by
 intro H enc base sp f cs x h;obtain ⟨xs,m,rfl,rfl,d,b,hf⟩:=DataW.trod_struct Tryz.underlying59 h;have hl:cs.length=7:=d.trans (by kernel_rfl);have hx:xs.length=3:=b;obtain ⟨y0,z0,i0,e0,g0,b0⟩:=fld_at (α:=ByteArray) hf b 0 rfl (by kernel_rfl) ((Kb.opB_string Tryz.underlying9 (by kernel_rfl)).at_ m);obtain ⟨y1,z1,i1,e1,g1,b1⟩:=fld_at (α:=Fat DParam) hf b 1 rfl (by kernel_rfl) ((Kb.opB_fat Tryz.underlying57 (by kernel_rfl) (Kb.opB_111 w)).at_ m);obtain ⟨y2,z2,i2,e2,g2,b2⟩:=fld_at (α:=DExpr) hf b 2 rfl (by kernel_rfl) ((Kb.opB_48 w).at_ m);obtain ⟨c0,c1,c2,c3,c4,c5,c6,rfl⟩:∃ c0 c1 c2 c3 c4 c5 c6,cs=[c0,c1,c2,c3,c4,c5,c6]:=by
  rcases cs with _ | ⟨c0,_ | ⟨c1,_ | ⟨c2,_ | ⟨c3,_ | ⟨c4,_ | ⟨c5,_ | ⟨c6,_ | ⟨_,_⟩⟩⟩⟩⟩⟩⟩⟩
  all_goals first | exact ⟨_,_,_,_,_,_,_,rfl⟩ | (simp at hl;done) | (simp at hl;omega)
 obtain ⟨x0,x1,x2,rfl⟩:∃ x0 x1 x2,xs=[x0,x1,x2]:=by
  rcases xs with _ | ⟨x0,_ | ⟨x1,_ | ⟨x2,_ | ⟨_,_⟩⟩⟩⟩
  all_goals first | exact ⟨_,_,_,rfl⟩ | (simp at hx;done) | (simp at hx;omega)
 obtain rfl:x0=z0:=by simpa using i0
 obtain rfl:x1=z1:=by simpa using i1
 obtain rfl:x2=z2:=by simpa using i2
 simp [Dat.cells,Dat.size,ecells] at e0 e1 e2;refine ⟨⟨y0,y1,y2⟩,?_,⟨g1,g2⟩,?_⟩
 ·simp [Dat.cells,ecells,e0,e1,e2]
 ·simp only [List.map_cons,List.map_nil,Rows.uptoBulk,Rows.uptoBulkAll];show bkT y0+(bkF bkParam) y1+bkE y2+1≤_;omega
theorem opB_59 (w:World):OpB Tryz.prog w 59 DFunc bkFunc:=⟨by kernel_rfl,by decide,opA_59 w⟩
def bkCell (x:DCell):Nat:=bkT x.Name+bkT x.Unit+bkE x.Def+1
theorem opA_52 (w:World) (n:Nat):OpAt Tryz.prog w 52 DCell bkCell n:=by
 intro H enc base sp f cs x h;obtain ⟨xs,m,rfl,rfl,d,b,hf⟩:=DataW.trod_struct Tryz.underlying52 h;have hl:cs.length=7:=d.trans (by kernel_rfl);have hx:xs.length=3:=b;obtain ⟨y0,z0,i0,e0,g0,b0⟩:=fld_at (α:=ByteArray) hf b 0 rfl (by kernel_rfl) ((Kb.opB_string Tryz.underlying9 (by kernel_rfl)).at_ m);obtain ⟨y1,z1,i1,e1,g1,b1⟩:=fld_at (α:=ByteArray) hf b 1 rfl (by kernel_rfl) ((Kb.opB_string Tryz.underlying9 (by kernel_rfl)).at_ m);obtain ⟨y2,z2,i2,e2,g2,b2⟩:=fld_at (α:=DExpr) hf b 2 rfl (by kernel_rfl) ((Kb.opB_48 w).at_ m);obtain ⟨c0,c1,c2,c3,c4,c5,c6,rfl⟩:∃ c0 c1 c2 c3 c4 c5 c6,cs=[c0,c1,c2,c3,c4,c5,c6]:=by
  rcases cs with _ | ⟨c0,_ | ⟨c1,_ | ⟨c2,_ | ⟨c3,_ | ⟨c4,_ | ⟨c5,_ | ⟨c6,_ | ⟨_,_⟩⟩⟩⟩⟩⟩⟩⟩
  all_goals first | exact ⟨_,_,_,_,_,_,_,rfl⟩ | (simp at hl;done) | (simp at hl;omega)
 obtain ⟨x0,x1,x2,rfl⟩:∃ x0 x1 x2,xs=[x0,x1,x2]:=by
  rcases xs with _ | ⟨x0,_ | ⟨x1,_ | ⟨x2,_ | ⟨_,_⟩⟩⟩⟩
  all_goals first | exact ⟨_,_,_,rfl⟩ | (simp at hx;done) | (simp at hx;omega)
 obtain rfl:x0=z0:=by simpa using i0
 obtain rfl:x1=z1:=by simpa using i1
 obtain rfl:x2=z2:=by simpa using i2
 simp [Dat.cells,Dat.size,ecells] at e0 e1 e2;refine ⟨⟨y0,y1,y2⟩,?_,g2,?_⟩
 ·simp [Dat.cells,ecells,e0,e1,e2]
 ·simp only [List.map_cons,List.map_nil,Rows.uptoBulk,Rows.uptoBulkAll];show bkT y0+bkT y1+bkE y2+1≤_;omega
theorem opB_52 (w:World):OpB Tryz.prog w 52 DCell bkCell:=⟨by kernel_rfl,by decide,opA_52 w⟩
def bkImport (x:DImport):Nat:=bkT x.Name+bkT x.Unit+bkI x.Amount+bkI x.House+bkT x.Port+bkI x.Version+1
theorem opA_135 (w:World) (n:Nat):OpAt Tryz.prog w 135 DImport bkImport n:=by
 intro H enc base sp f cs x h;obtain ⟨xs,m,rfl,rfl,d,b,hf⟩:=DataW.trod_struct Tryz.underlying135 h;have hl:cs.length=6:=d.trans (by kernel_rfl);have hx:xs.length=6:=b;obtain ⟨y0,z0,i0,e0,g0,b0⟩:=fld_at (α:=ByteArray) hf b 0 rfl (by kernel_rfl) ((Kb.opB_string Tryz.underlying9 (by kernel_rfl)).at_ m);obtain ⟨y1,z1,i1,e1,g1,b1⟩:=fld_at (α:=ByteArray) hf b 1 rfl (by kernel_rfl) ((Kb.opB_string Tryz.underlying9 (by kernel_rfl)).at_ m);obtain ⟨y2,z2,i2,e2,g2,b2⟩:=fld_at (α:=Int) hf b 2 rfl (by kernel_rfl) ((Kb.opB_int Tryz.underlying3 (by kernel_rfl)).at_ m);obtain ⟨y3,z3,i3,e3,g3,b3⟩:=fld_at (α:=Int) hf b 3 rfl (by kernel_rfl) ((Kb.opB_int Tryz.underlying3 (by kernel_rfl)).at_ m);obtain ⟨y4,z4,i4,e4,g4,b4⟩:=fld_at (α:=ByteArray) hf b 4 rfl (by kernel_rfl) ((Kb.opB_string Tryz.underlying9 (by kernel_rfl)).at_ m);obtain ⟨y5,z5,i5,e5,g5,b5⟩:=fld_at (α:=Int) hf b 5 rfl (by kernel_rfl) ((Kb.opB_int Tryz.underlying3 (by kernel_rfl)).at_ m);obtain ⟨c0,c1,c2,c3,c4,c5,rfl⟩:∃ c0 c1 c2 c3 c4 c5,cs=[c0,c1,c2,c3,c4,c5]:=by
  rcases cs with _ | ⟨c0,_ | ⟨c1,_ | ⟨c2,_ | ⟨c3,_ | ⟨c4,_ | ⟨c5,_ | ⟨_,_⟩⟩⟩⟩⟩⟩⟩
  all_goals first | exact ⟨_,_,_,_,_,_,rfl⟩ | (simp at hl;done) | (simp at hl;omega)
 obtain ⟨x0,x1,x2,x3,x4,x5,rfl⟩:∃ x0 x1 x2 x3 x4 x5,xs=[x0,x1,x2,x3,x4,x5]:=by
  rcases xs with _ | ⟨x0,_ | ⟨x1,_ | ⟨x2,_ | ⟨x3,_ | ⟨x4,_ | ⟨x5,_ | ⟨_,_⟩⟩⟩⟩⟩⟩⟩
  all_goals first | exact ⟨_,_,_,_,_,_,rfl⟩ | (simp at hx;done) | (simp at hx;omega)
 obtain rfl:x0=z0:=by simpa using i0
 obtain rfl:x1=z1:=by simpa using i1
 obtain rfl:x2=z2:=by simpa using i2
 obtain rfl:x3=z3:=by simpa using i3
 obtain rfl:x4=z4:=by simpa using i4
 obtain rfl:x5=z5:=by simpa using i5
 simp [Dat.cells,Dat.size] at e0 e1 e2 e3 e4 e5;refine ⟨⟨y0,y1,y2,y3,y4,y5⟩,?_,trivial,?_⟩
 ·simp [Dat.cells,ecells,e0,e1,e2,e3,e4,e5]
 ·simp only [List.map_cons,List.map_nil,Rows.uptoBulk,Rows.uptoBulkAll];show bkT y0+bkT y1+bkI y2+bkI y3+bkT y4+bkI y5+1≤_;omega
theorem opB_135 (w:World):OpB Tryz.prog w 135 DImport bkImport:=⟨by kernel_rfl,by decide,opA_135 w⟩
def bkInput (x:DInput):Nat:=bkT x.Name+bkT x.Unit+bkT x.Kind+1
theorem opA_137 (w:World) (n:Nat):OpAt Tryz.prog w 137 DInput bkInput n:=by
 intro H enc base sp f cs x h;obtain ⟨xs,m,rfl,rfl,d,b,hf⟩:=DataW.trod_struct Tryz.underlying137 h;have hl:cs.length=3:=d.trans (by kernel_rfl);have hx:xs.length=3:=b;obtain ⟨y0,z0,i0,e0,g0,b0⟩:=fld_at (α:=ByteArray) hf b 0 rfl (by kernel_rfl) ((Kb.opB_string Tryz.underlying9 (by kernel_rfl)).at_ m);obtain ⟨y1,z1,i1,e1,g1,b1⟩:=fld_at (α:=ByteArray) hf b 1 rfl (by kernel_rfl) ((Kb.opB_string Tryz.underlying9 (by kernel_rfl)).at_ m);obtain ⟨y2,z2,i2,e2,g2,b2⟩:=fld_at (α:=ByteArray) hf b 2 rfl (by kernel_rfl) ((Kb.opB_string Tryz.underlying9 (by kernel_rfl)).at_ m);obtain ⟨c0,c1,c2,rfl⟩:∃ c0 c1 c2,cs=[c0,c1,c2]:=by
  rcases cs with _ | ⟨c0,_ | ⟨c1,_ | ⟨c2,_ | ⟨_,_⟩⟩⟩⟩
  all_goals first | exact ⟨_,_,_,rfl⟩ | (simp at hl;done) | (simp at hl;omega)
 obtain ⟨x0,x1,x2,rfl⟩:∃ x0 x1 x2,xs=[x0,x1,x2]:=by
  rcases xs with _ | ⟨x0,_ | ⟨x1,_ | ⟨x2,_ | ⟨_,_⟩⟩⟩⟩
  all_goals first | exact ⟨_,_,_,rfl⟩ | (simp at hx;done) | (simp at hx;omega)
 obtain rfl:x0=z0:=by simpa using i0
 obtain rfl:x1=z1:=by simpa using i1
 obtain rfl:x2=z2:=by simpa using i2
 simp [Dat.cells,Dat.size] at e0 e1 e2;refine ⟨⟨y0,y1,y2⟩,?_,trivial,?_⟩
 ·simp [Dat.cells,ecells,e0,e1,e2]
 ·simp only [List.map_cons,List.map_nil,Rows.uptoBulk,Rows.uptoBulkAll];show bkT y0+bkT y1+bkT y2+1≤_;omega
theorem opB_137 (w:World):OpB Tryz.prog w 137 DInput bkInput:=⟨by kernel_rfl,by decide,opA_137 w⟩
def bkRow (x:DRow):Nat:=bkI x.Key+bkI x.Value+1
theorem opA_184 (w:World) (n:Nat):OpAt Tryz.prog w 184 DRow bkRow n:=by
 intro H enc base sp f cs x h;obtain ⟨xs,m,rfl,rfl,d,b,hf⟩:=DataW.trod_struct Tryz.underlying184 h;have hl:cs.length=2:=d.trans (by kernel_rfl);have hx:xs.length=2:=b;obtain ⟨y0,z0,i0,e0,g0,b0⟩:=fld_at (α:=Int) hf b 0 rfl (by kernel_rfl) ((Kb.opB_int Tryz.underlying3 (by kernel_rfl)).at_ m);obtain ⟨y1,z1,i1,e1,g1,b1⟩:=fld_at (α:=Int) hf b 1 rfl (by kernel_rfl) ((Kb.opB_int Tryz.underlying3 (by kernel_rfl)).at_ m);obtain ⟨c0,c1,rfl⟩:∃ c0 c1,cs=[c0,c1]:=by
  rcases cs with _ | ⟨c0,_ | ⟨c1,_ | ⟨_,_⟩⟩⟩
  all_goals first | exact ⟨_,_,rfl⟩ | (simp at hl;done) | (simp at hl;omega)
 obtain ⟨x0,x1,rfl⟩:∃ x0 x1,xs=[x0,x1]:=by
  rcases xs with _ | ⟨x0,_ | ⟨x1,_ | ⟨_,_⟩⟩⟩
  all_goals first | exact ⟨_,_,rfl⟩ | (simp at hx;done) | (simp at hx;omega)
 obtain rfl:x0=z0:=by simpa using i0
 obtain rfl:x1=z1:=by simpa using i1
 simp [Dat.cells,Dat.size] at e0 e1;refine ⟨⟨y0,y1⟩,?_,trivial,?_⟩
 ·simp [Dat.cells,ecells,e0,e1]
 ·simp only [List.map_cons,List.map_nil,Rows.uptoBulk,Rows.uptoBulkAll];show bkI y0+bkI y1+1≤_;omega
theorem opB_184 (w:World):OpB Tryz.prog w 184 DRow bkRow:=⟨by kernel_rfl,by decide,opA_184 w⟩
def bkTable (x:DTable):Nat:=bkT x.Name+bkT x.Unit+(bkF bkRow) x.Rows+1
theorem opA_109 (w:World) (n:Nat):OpAt Tryz.prog w 109 DTable bkTable n:=by
 intro H enc base sp f cs x h;obtain ⟨xs,m,rfl,rfl,d,b,hf⟩:=DataW.trod_struct Tryz.underlying109 h;have hl:cs.length=3:=d.trans (by kernel_rfl);have hx:xs.length=3:=b;obtain ⟨y0,z0,i0,e0,g0,b0⟩:=fld_at (α:=ByteArray) hf b 0 rfl (by kernel_rfl) ((Kb.opB_string Tryz.underlying9 (by kernel_rfl)).at_ m);obtain ⟨y1,z1,i1,e1,g1,b1⟩:=fld_at (α:=ByteArray) hf b 1 rfl (by kernel_rfl) ((Kb.opB_string Tryz.underlying9 (by kernel_rfl)).at_ m);obtain ⟨y2,z2,i2,e2,g2,b2⟩:=fld_at (α:=Fat DRow) hf b 2 rfl (by kernel_rfl) ((Kb.opB_fat Tryz.underlying107 (by kernel_rfl) (Kb.opB_184 w)).at_ m);obtain ⟨c0,c1,c2,rfl⟩:∃ c0 c1 c2,cs=[c0,c1,c2]:=by
  rcases cs with _ | ⟨c0,_ | ⟨c1,_ | ⟨c2,_ | ⟨_,_⟩⟩⟩⟩
  all_goals first | exact ⟨_,_,_,rfl⟩ | (simp at hl;done) | (simp at hl;omega)
 obtain ⟨x0,x1,x2,rfl⟩:∃ x0 x1 x2,xs=[x0,x1,x2]:=by
  rcases xs with _ | ⟨x0,_ | ⟨x1,_ | ⟨x2,_ | ⟨_,_⟩⟩⟩⟩
  all_goals first | exact ⟨_,_,_,rfl⟩ | (simp at hx;done) | (simp at hx;omega)
 obtain rfl:x0=z0:=by simpa using i0
 obtain rfl:x1=z1:=by simpa using i1
 obtain rfl:x2=z2:=by simpa using i2
 simp [Dat.cells,Dat.size] at e0 e1 e2;refine ⟨⟨y0,y1,y2⟩,?_,g2,?_⟩
 ·simp [Dat.cells,ecells,e0,e1,e2]
 ·simp only [List.map_cons,List.map_nil,Rows.uptoBulk,Rows.uptoBulkAll];show bkT y0+bkT y1+(bkF bkRow) y2+1≤_;omega
theorem opB_109 (w:World):OpB Tryz.prog w 109 DTable bkTable:=⟨by kernel_rfl,by decide,opA_109 w⟩
def bkPort (x:DPort):Nat:=bkT x.Name+bkT x.Unit+bkI x.Amount+1
theorem opA_139 (w:World) (n:Nat):OpAt Tryz.prog w 139 DPort bkPort n:=by
 intro H enc base sp f cs x h;obtain ⟨xs,m,rfl,rfl,d,b,hf⟩:=DataW.trod_struct Tryz.underlying139 h;have hl:cs.length=3:=d.trans (by kernel_rfl);have hx:xs.length=3:=b;obtain ⟨y0,z0,i0,e0,g0,b0⟩:=fld_at (α:=ByteArray) hf b 0 rfl (by kernel_rfl) ((Kb.opB_string Tryz.underlying9 (by kernel_rfl)).at_ m);obtain ⟨y1,z1,i1,e1,g1,b1⟩:=fld_at (α:=ByteArray) hf b 1 rfl (by kernel_rfl) ((Kb.opB_string Tryz.underlying9 (by kernel_rfl)).at_ m);obtain ⟨y2,z2,i2,e2,g2,b2⟩:=fld_at (α:=Int) hf b 2 rfl (by kernel_rfl) ((Kb.opB_int Tryz.underlying3 (by kernel_rfl)).at_ m);obtain ⟨c0,c1,c2,rfl⟩:∃ c0 c1 c2,cs=[c0,c1,c2]:=by
  rcases cs with _ | ⟨c0,_ | ⟨c1,_ | ⟨c2,_ | ⟨_,_⟩⟩⟩⟩
  all_goals first | exact ⟨_,_,_,rfl⟩ | (simp at hl;done) | (simp at hl;omega)
 obtain ⟨x0,x1,x2,rfl⟩:∃ x0 x1 x2,xs=[x0,x1,x2]:=by
  rcases xs with _ | ⟨x0,_ | ⟨x1,_ | ⟨x2,_ | ⟨_,_⟩⟩⟩⟩
  all_goals first | exact ⟨_,_,_,rfl⟩ | (simp at hx;done) | (simp at hx;omega)
 obtain rfl:x0=z0:=by simpa using i0
 obtain rfl:x1=z1:=by simpa using i1
 obtain rfl:x2=z2:=by simpa using i2
 simp [Dat.cells,Dat.size] at e0 e1 e2;refine ⟨⟨y0,y1,y2⟩,?_,trivial,?_⟩
 ·simp [Dat.cells,ecells,e0,e1,e2]
 ·simp only [List.map_cons,List.map_nil,Rows.uptoBulk,Rows.uptoBulkAll];show bkT y0+bkT y1+bkI y2+1≤_;omega
theorem opB_139 (w:World):OpB Tryz.prog w 139 DPort bkPort:=⟨by kernel_rfl,by decide,opA_139 w⟩
def bkStore (x:DStore):Nat:=bkT x.Name+bkT x.Unit+bkI x.Rule+1
theorem opA_141 (w:World) (n:Nat):OpAt Tryz.prog w 141 DStore bkStore n:=by
 intro H enc base sp f cs x h;obtain ⟨xs,m,rfl,rfl,d,b,hf⟩:=DataW.trod_struct Tryz.underlying141 h;have hl:cs.length=3:=d.trans (by kernel_rfl);have hx:xs.length=3:=b;obtain ⟨y0,z0,i0,e0,g0,b0⟩:=fld_at (α:=ByteArray) hf b 0 rfl (by kernel_rfl) ((Kb.opB_string Tryz.underlying9 (by kernel_rfl)).at_ m);obtain ⟨y1,z1,i1,e1,g1,b1⟩:=fld_at (α:=ByteArray) hf b 1 rfl (by kernel_rfl) ((Kb.opB_string Tryz.underlying9 (by kernel_rfl)).at_ m);obtain ⟨y2,z2,i2,e2,g2,b2⟩:=fld_at (α:=Int) hf b 2 rfl (by kernel_rfl) ((Kb.opB_int Tryz.underlying3 (by kernel_rfl)).at_ m);obtain ⟨c0,c1,c2,rfl⟩:∃ c0 c1 c2,cs=[c0,c1,c2]:=by
  rcases cs with _ | ⟨c0,_ | ⟨c1,_ | ⟨c2,_ | ⟨_,_⟩⟩⟩⟩
  all_goals first | exact ⟨_,_,_,rfl⟩ | (simp at hl;done) | (simp at hl;omega)
 obtain ⟨x0,x1,x2,rfl⟩:∃ x0 x1 x2,xs=[x0,x1,x2]:=by
  rcases xs with _ | ⟨x0,_ | ⟨x1,_ | ⟨x2,_ | ⟨_,_⟩⟩⟩⟩
  all_goals first | exact ⟨_,_,_,rfl⟩ | (simp at hx;done) | (simp at hx;omega)
 obtain rfl:x0=z0:=by simpa using i0
 obtain rfl:x1=z1:=by simpa using i1
 obtain rfl:x2=z2:=by simpa using i2
 simp [Dat.cells,Dat.size] at e0 e1 e2;refine ⟨⟨y0,y1,y2⟩,?_,trivial,?_⟩
 ·simp [Dat.cells,ecells,e0,e1,e2]
 ·simp only [List.map_cons,List.map_nil,Rows.uptoBulk,Rows.uptoBulkAll];show bkT y0+bkT y1+bkI y2+1≤_;omega
theorem opB_141 (w:World):OpB Tryz.prog w 141 DStore bkStore:=⟨by kernel_rfl,by decide,opA_141 w⟩
def bkStep (x:DStep):Nat:=bkI x.Kind+(bkF bkT) x.In+(bkF bkT) x.Out+bkT x.Name+(bkF bkT) x.Cells+bkI x.Amount+1
theorem opA_89 (w:World) (n:Nat):OpAt Tryz.prog w 89 DStep bkStep n:=by
 intro H enc base sp f cs x h;obtain ⟨xs,m,rfl,rfl,d,b,hf⟩:=DataW.trod_struct Tryz.underlying89 h;have hl:cs.length=6:=d.trans (by kernel_rfl);have hx:xs.length=6:=b;obtain ⟨y0,z0,i0,e0,g0,b0⟩:=fld_at (α:=Int) hf b 0 rfl (by kernel_rfl) ((Kb.opB_int Tryz.underlying3 (by kernel_rfl)).at_ m);obtain ⟨y1,z1,i1,e1,g1,b1⟩:=fld_at (α:=Fat ByteArray) hf b 1 rfl (by kernel_rfl) ((Kb.opB_fat Tryz.underlying87 (by kernel_rfl) (Kb.opB_string Tryz.underlying9 (by kernel_rfl))).at_ m);obtain ⟨y2,z2,i2,e2,g2,b2⟩:=fld_at (α:=Fat ByteArray) hf b 2 rfl (by kernel_rfl) ((Kb.opB_fat Tryz.underlying87 (by kernel_rfl) (Kb.opB_string Tryz.underlying9 (by kernel_rfl))).at_ m);obtain ⟨y3,z3,i3,e3,g3,b3⟩:=fld_at (α:=ByteArray) hf b 3 rfl (by kernel_rfl) ((Kb.opB_string Tryz.underlying9 (by kernel_rfl)).at_ m);obtain ⟨y4,z4,i4,e4,g4,b4⟩:=fld_at (α:=Fat ByteArray) hf b 4 rfl (by kernel_rfl) ((Kb.opB_fat Tryz.underlying87 (by kernel_rfl) (Kb.opB_string Tryz.underlying9 (by kernel_rfl))).at_ m);obtain ⟨y5,z5,i5,e5,g5,b5⟩:=fld_at (α:=Int) hf b 5 rfl (by kernel_rfl) ((Kb.opB_int Tryz.underlying3 (by kernel_rfl)).at_ m);obtain ⟨c0,c1,c2,c3,c4,c5,rfl⟩:∃ c0 c1 c2 c3 c4 c5,cs=[c0,c1,c2,c3,c4,c5]:=by
  rcases cs with _ | ⟨c0,_ | ⟨c1,_ | ⟨c2,_ | ⟨c3,_ | ⟨c4,_ | ⟨c5,_ | ⟨_,_⟩⟩⟩⟩⟩⟩⟩
  all_goals first | exact ⟨_,_,_,_,_,_,rfl⟩ | (simp at hl;done) | (simp at hl;omega)
 obtain ⟨x0,x1,x2,x3,x4,x5,rfl⟩:∃ x0 x1 x2 x3 x4 x5,xs=[x0,x1,x2,x3,x4,x5]:=by
  rcases xs with _ | ⟨x0,_ | ⟨x1,_ | ⟨x2,_ | ⟨x3,_ | ⟨x4,_ | ⟨x5,_ | ⟨_,_⟩⟩⟩⟩⟩⟩⟩
  all_goals first | exact ⟨_,_,_,_,_,_,rfl⟩ | (simp at hx;done) | (simp at hx;omega)
 obtain rfl:x0=z0:=by simpa using i0
 obtain rfl:x1=z1:=by simpa using i1
 obtain rfl:x2=z2:=by simpa using i2
 obtain rfl:x3=z3:=by simpa using i3
 obtain rfl:x4=z4:=by simpa using i4
 obtain rfl:x5=z5:=by simpa using i5
 simp [Dat.cells,Dat.size] at e0 e1 e2 e3 e4 e5;refine ⟨⟨y0,y1,y2,y3,y4,y5⟩,?_,⟨g1,g2,g4⟩,?_⟩
 ·simp [Dat.cells,ecells,e0,e1,e2,e3,e4,e5]
 ·simp only [List.map_cons,List.map_nil,Rows.uptoBulk,Rows.uptoBulkAll];show bkI y0+(bkF bkT) y1+(bkF bkT) y2+bkT y3+(bkF bkT) y4+bkI y5+1≤_;omega
theorem opB_89 (w:World):OpB Tryz.prog w 89 DStep bkStep:=⟨by kernel_rfl,by decide,opA_89 w⟩
def bkRecipe (x:DRecipe):Nat:=bkT x.Kind+(bkF bkStep) x.Steps+1
theorem opA_84 (w:World) (n:Nat):OpAt Tryz.prog w 84 DRecipe bkRecipe n:=by
 intro H enc base sp f cs x h;obtain ⟨xs,m,rfl,rfl,d,b,hf⟩:=DataW.trod_struct Tryz.underlying84 h;have hl:cs.length=2:=d.trans (by kernel_rfl);have hx:xs.length=2:=b;obtain ⟨y0,z0,i0,e0,g0,b0⟩:=fld_at (α:=ByteArray) hf b 0 rfl (by kernel_rfl) ((Kb.opB_string Tryz.underlying9 (by kernel_rfl)).at_ m);obtain ⟨y1,z1,i1,e1,g1,b1⟩:=fld_at (α:=Fat DStep) hf b 1 rfl (by kernel_rfl) ((Kb.opB_fat Tryz.underlying82 (by kernel_rfl) (Kb.opB_89 w)).at_ m);obtain ⟨c0,c1,rfl⟩:∃ c0 c1,cs=[c0,c1]:=by
  rcases cs with _ | ⟨c0,_ | ⟨c1,_ | ⟨_,_⟩⟩⟩
  all_goals first | exact ⟨_,_,rfl⟩ | (simp at hl;done) | (simp at hl;omega)
 obtain ⟨x0,x1,rfl⟩:∃ x0 x1,xs=[x0,x1]:=by
  rcases xs with _ | ⟨x0,_ | ⟨x1,_ | ⟨_,_⟩⟩⟩
  all_goals first | exact ⟨_,_,rfl⟩ | (simp at hx;done) | (simp at hx;omega)
 obtain rfl:x0=z0:=by simpa using i0
 obtain rfl:x1=z1:=by simpa using i1
 simp [Dat.cells,Dat.size] at e0 e1;refine ⟨⟨y0,y1⟩,?_,g1,?_⟩
 ·simp [Dat.cells,ecells,e0,e1]
 ·simp only [List.map_cons,List.map_nil,Rows.uptoBulk,Rows.uptoBulkAll];show bkT y0+(bkF bkStep) y1+1≤_;omega
theorem opB_84 (w:World):OpB Tryz.prog w 84 DRecipe bkRecipe:=⟨by kernel_rfl,by decide,opA_84 w⟩
def bkSheet (x:DSheet):Nat:=bkT x.Name+(bkF bkImport) x.Imports+(bkF bkInput) x.Inputs+(bkF bkTable) x.Tables+(bkF bkFunc) x.Funcs+(bkF bkCell) x.Cells+(bkF bkPort) x.Ports+(bkF bkStore) x.Stores+(bkF bkRecipe) x.Recipes+1
theorem opA_31 (w:World) (n:Nat):OpAt Tryz.prog w 31 DSheet bkSheet n:=by
 intro H enc base sp f cs x h;obtain ⟨xs,m,rfl,rfl,d,b,hf⟩:=DataW.trod_struct Tryz.underlying31 h;have hl:cs.length=9:=d.trans (by kernel_rfl);have hx:xs.length=9:=b;obtain ⟨y0,z0,i0,e0,g0,b0⟩:=fld_at (α:=ByteArray) hf b 0 rfl (by kernel_rfl) ((Kb.opB_string Tryz.underlying9 (by kernel_rfl)).at_ m);obtain ⟨y1,z1,i1,e1,g1,b1⟩:=fld_at (α:=Fat DImport) hf b 1 rfl (by kernel_rfl) ((Kb.opB_fat Tryz.underlying22 (by kernel_rfl) (Kb.opB_135 w)).at_ m);obtain ⟨y2,z2,i2,e2,g2,b2⟩:=fld_at (α:=Fat DInput) hf b 2 rfl (by kernel_rfl) ((Kb.opB_fat Tryz.underlying23 (by kernel_rfl) (Kb.opB_137 w)).at_ m);obtain ⟨y3,z3,i3,e3,g3,b3⟩:=fld_at (α:=Fat DTable) hf b 3 rfl (by kernel_rfl) ((Kb.opB_fat Tryz.underlying24 (by kernel_rfl) (Kb.opB_109 w)).at_ m);obtain ⟨y4,z4,i4,e4,g4,b4⟩:=fld_at (α:=Fat DFunc) hf b 4 rfl (by kernel_rfl) ((Kb.opB_fat Tryz.underlying25 (by kernel_rfl) (Kb.opB_59 w)).at_ m);obtain ⟨y5,z5,i5,e5,g5,b5⟩:=fld_at (α:=Fat DCell) hf b 5 rfl (by kernel_rfl) ((Kb.opB_fat Tryz.underlying26 (by kernel_rfl) (Kb.opB_52 w)).at_ m);obtain ⟨y6,z6,i6,e6,g6,b6⟩:=fld_at (α:=Fat DPort) hf b 6 rfl (by kernel_rfl) ((Kb.opB_fat Tryz.underlying27 (by kernel_rfl) (Kb.opB_139 w)).at_ m);obtain ⟨y7,z7,i7,e7,g7,b7⟩:=fld_at (α:=Fat DStore) hf b 7 rfl (by kernel_rfl) ((Kb.opB_fat Tryz.underlying28 (by kernel_rfl) (Kb.opB_141 w)).at_ m);obtain ⟨y8,z8,i8,e8,g8,b8⟩:=fld_at (α:=Fat DRecipe) hf b 8 rfl (by kernel_rfl) ((Kb.opB_fat Tryz.underlying29 (by kernel_rfl) (Kb.opB_84 w)).at_ m);obtain ⟨c0,c1,c2,c3,c4,c5,c6,c7,c8,rfl⟩:∃ c0 c1 c2 c3 c4 c5 c6 c7 c8,cs=[c0,c1,c2,c3,c4,c5,c6,c7,c8]:=by
  rcases cs with _ | ⟨c0,_ | ⟨c1,_ | ⟨c2,_ | ⟨c3,_ | ⟨c4,_ | ⟨c5,_ | ⟨c6,_ | ⟨c7,_ | ⟨c8,_ | ⟨_,_⟩⟩⟩⟩⟩⟩⟩⟩⟩⟩
  all_goals first | exact ⟨_,_,_,_,_,_,_,_,_,rfl⟩ | (simp at hl;done) | (simp at hl;omega)
 obtain ⟨x0,x1,x2,x3,x4,x5,x6,x7,x8,rfl⟩:∃ x0 x1 x2 x3 x4 x5 x6 x7 x8,xs=[x0,x1,x2,x3,x4,x5,x6,x7,x8]:=by
  rcases xs with _ | ⟨x0,_ | ⟨x1,_ | ⟨x2,_ | ⟨x3,_ | ⟨x4,_ | ⟨x5,_ | ⟨x6,_ | ⟨x7,_ | ⟨x8,_ | ⟨_,_⟩⟩⟩⟩⟩⟩⟩⟩⟩⟩
  all_goals first | exact ⟨_,_,_,_,_,_,_,_,_,rfl⟩ | (simp at hx;done) | (simp at hx;omega)
 obtain rfl:x0=z0:=by simpa using i0
 obtain rfl:x1=z1:=by simpa using i1
 obtain rfl:x2=z2:=by simpa using i2
 obtain rfl:x3=z3:=by simpa using i3
 obtain rfl:x4=z4:=by simpa using i4
 obtain rfl:x5=z5:=by simpa using i5
 obtain rfl:x6=z6:=by simpa using i6
 obtain rfl:x7=z7:=by simpa using i7
 obtain rfl:x8=z8:=by simpa using i8
 simp [Dat.cells,Dat.size] at e0 e1 e2 e3 e4 e5 e6 e7 e8;refine ⟨⟨y0,y1,y2,y3,y4,y5,y6,y7,y8⟩,?_,⟨g1,g2,g3,g4,g5,g6,g7,g8⟩,?_⟩
 ·simp [Dat.cells,ecells,e0,e1,e2,e3,e4,e5,e6,e7,e8]
 ·simp only [List.map_cons,List.map_nil,Rows.uptoBulk,Rows.uptoBulkAll];show bkT y0+(bkF bkImport) y1+(bkF bkInput) y2+(bkF bkTable) y3+(bkF bkFunc) y4+(bkF bkCell) y5+(bkF bkPort) y6+(bkF bkStore) y7+(bkF bkRecipe) y8+1≤_;omega
theorem opB_31 (w:World):OpB Tryz.prog w 31 DSheet bkSheet:=⟨by kernel_rfl,by decide,opA_31 w⟩

open Go
def tellK (P:Program) (kt:TypeId):Option TypeDesc × List (Bool × Nat × Option TypeDesc) × Bool:=match P.underlying kt with
 | some (.struct fs)=>(none,fs.toList.map fun f=>(f.name == "_", f.offset,P.underlying f.type),P.stoodInHeld kt)
 | d=>(d,[],false)
section
variable {κ α : Type} [DecidableEq κ]
def mfind (k:κ):List (κ × α)→Option (Nat × α)
 | []=>none
 | p :: m=>if k=p.1 then some (0,p.2) else (mfind k m).map fun q=>(q.1+1,q.2)
end
class MKey (κ:Type) [DecidableEq κ] where
 enc:κ→Value
 want:Option TypeDesc × List (Bool × Nat × Option TypeDesc) × Bool
 find:∀ {P:Program} {w:World} {kt:TypeId},tellK P kt=want→∀ {α:Type} (f:α→Value) (k:κ) (m:List (κ × α)) (es:List MapEntry),es.map (fun e=>(e.key,e.val))=m.map (fun p=>(enc p.1,f p.2))→(Instr.findKey kt (enc k) es).run P w=.ok ((mfind k m).map fun q=>(q.1,f q.2)) w
 check:∀ {P:Program} {w:World} {kt:TypeId},tellK P kt=want→∀ (k:κ) (e:Bool) (n:Nat),(Instr.checkKey e (n+2) kt (enc k)).run P w=.ok () w
 stays:∀ k,Instr.sameBits 10000 (enc k) (enc k)=true
section
variable {κ : Type} [DecidableEq κ]
theorem plain_under {P:Program} {kt:TypeId} {d:TypeDesc} (hd:(match d with | .struct _=>false | _=>true)=true) (h:tellK P kt=(some d,[],false)):P.underlying kt=some d:=by
 unfold tellK at h;split at h
 ·cases h
 ·simpa using h
theorem find_plain {d:TypeDesc} {enc:κ→Value} (j:∀ a b,Instr.sameNow d (enc a) (enc b)=some (decide (a=b))) {α:Type} (f:α→Value) (k:κ):∀ (m:List (κ × α)) (es:List MapEntry) (i:Nat),es.map (fun e=>(e.key,e.val))=m.map (fun p=>(enc p.1,f p.2))→Instr.findNow d (enc k) es i=some ((mfind k m).map fun q=>(i+q.1,f q.2))
 | [],[],i,_=>rfl
 | [],_ :: _,i,h=>by simp at h
 | _ :: _,[],i,h=>by simp at h
 | p :: m,e :: es,i,h=>by
  simp only [List.map_cons,List.cons.injEq,Prod.mk.injEq] at h;obtain ⟨⟨h1,h2⟩,h3⟩:=h;unfold Instr.findNow;rw [h1,j];unfold mfind;by_cases e0:k=p.1
  ·rw [if_pos e0,decide_eq_true e0];simp [h2]
  ·rw [if_neg e0,decide_eq_false e0];simp only [];rw [find_plain j f k m es (i+1) h3];cases mfind k m <;> simp
   omega
end
instance : MKey Int where
  enc := .int .i64
  want := (some (.int .i64), [], false)
  find h α f k m es he := by
    have hs : ∀ a b : Int, Instr.sameNow (.int .i64) (.int .i64 a) (.int .i64 b) = some (decide (a = b)) := fun a b => by
      show (if IntKind.i64 = IntKind.i64 then some (a == b) else none) = _
      rw [if_pos rfl]; rfl
    refine MapKept.run_findKey (plain_under rfl h) ?_
    rw [find_plain (enc := fun n : Int => Value.int .i64 n) hs f k m es 0 he]; cases mfind k m <;> simp
  check h k e n := MapKept.run_checkKey (plain_under rfl h) (show MapKept.IsKey (.int .i64) (.int .i64 k) from rfl) e (n + 1)
  stays k := MapKept.sameBits_self (d := .int .i64) (k := .int .i64 k) rfl 10000
instance : MKey ByteArray where
  enc := .string
  want := (some .string, [], false)
  find h α f k m es he := by
    have hs : ∀ a b : ByteArray, Instr.sameNow .string (.string a) (.string b) = some (decide (a = b)) := fun a b => by
      show some (a == b) = _
      rw [beq_bytes]
    refine MapKept.run_findKey (plain_under rfl h) ?_
    rw [find_plain (enc := fun s : ByteArray => Value.string s) hs f k m es 0 he]; cases mfind k m <;> simp
  check h k e n := MapKept.run_checkKey (plain_under rfl h) (show MapKept.IsKey .string (.string k) from trivial) e (n + 1)
  stays k := MapKept.sameBits_self (d := .string) (k := .string k) trivial 10000
section
variable {κ α : Type} [DecidableEq κ] [MKey κ]
def mlook (k:κ):List (κ × α)→Option α
 | []=>none
 | p :: m=>if k=p.1 then some p.2 else mlook k m
def mupd (k:κ) (x:α):List (κ × α)→List (κ × α)
 | []=>[(k,x)]
 | p :: m=>if k=p.1 then (k,x) :: m else p :: mupd k x m
theorem mlook_eq (k:κ):∀ m:List (κ × α),mlook k m=(mfind k m).map (·.2)
 | []=>rfl
 | p :: m=>by
  unfold mlook mfind;split
  ·rfl
  ·rw [mlook_eq k m];cases mfind k m <;> rfl
theorem mupd_some {k:κ} {x:α}:∀ {m:List (κ × α)} {q:Nat × α},mfind k m=some q→mupd k x m=m.set q.1 (k,x)∧∃ y,m[q.1]?=some (k,y)
 | p :: m,q,h=>by
  unfold mfind at h;unfold mupd;split at h
  ·rename_i e
   cases h
   rw [if_pos e];exact ⟨rfl,p.2,by simp [e]⟩
  ·rename_i e
   rw [if_neg e];simp only [Option.map_eq_some_iff] at h;obtain ⟨q',h1,rfl⟩:=h;obtain ⟨h2,y,h3⟩:=mupd_some (x:=x) h1;exact ⟨by rw [h2];rfl,y,by simpa using h3⟩
theorem mupd_none {k:κ} {x:α}:∀ {m:List (κ × α)},mfind k m=none→mupd k x m=m ++[(k,x)]
 | [],_=>rfl
 | p :: m,h=>by
  unfold mfind at h;unfold mupd;split at h
  ·cases h
  ·rename_i e
   rw [if_neg e];simp only [Option.map_eq_none_iff] at h;rw [mupd_none h];rfl
theorem mupd_mem {k:κ} {x:α}:∀ {m:List (κ × α)} {p:κ × α},p ∈ mupd k x m→p=(k,x)∨p ∈ m
 | [],p,h=>by unfold mupd at h;exact .inl (by simpa using h)
 | q :: m,p,h=>by
  unfold mupd at h;split at h
  ·rcases List.mem_cons.1 h with h | h
   ·exact .inl h
   ·exact .inr (List.mem_cons_of_mem _ h)
  ·rcases List.mem_cons.1 h with h | h
   ·exact .inr (by rw [h];exact List.mem_cons_self)
   ·rcases mupd_mem h with h | h
    ·exact .inl h
    ·exact .inr (List.mem_cons_of_mem _ h)
theorem mlook_upd {k:κ} {x:α} (k':κ):∀ m:List (κ × α),mlook k' (mupd k x m)=if k'=k then some x else mlook k' m
 | []=>by unfold mupd mlook;rfl
 | p :: m=>by
  unfold mupd;by_cases e:k=p.1
  ·rw [if_pos e];unfold mlook;by_cases e2:k'=k
   ·rw [if_pos e2,if_pos e2]
   ·rw [if_neg e2,if_neg e2];rw [if_neg (by rw [←e];exact e2)]
  ·rw [if_neg e];unfold mlook;by_cases e2:k'=p.1
   ·rw [if_pos e2,if_pos e2,if_neg (by rw [e2];exact fun h=>e h.symm)]
   ·rw [if_neg e2,if_neg e2,mlook_upd k' m]
theorem mlook_mem {k:κ}:∀ {m:List (κ × α)} {y:α},mlook k m=some y→(k,y) ∈ m
 | p :: m,y,h=>by
  unfold mlook at h;split at h
  ·rename_i e;cases h;rw [e];exact List.mem_cons_self
  ·exact List.mem_cons_of_mem _ (mlook_mem h)
theorem mupd_len {k:κ} {x:α} (m:List (κ × α)):(mupd k x m).length=m.length+(if (mlook k m).isSome then 0 else 1):=by
 rw [mlook_eq];cases h:mfind k m with
 | none=>rw [mupd_none h];simp
 | some q=>rw [(mupd_some h).1];simp
def MOb (f:α→Value) (m:List (κ × α)) (o:Obj):Prop:=∃ (es:Array MapEntry) (c:Nat),o=.map es c∧es.toList.map (fun e=>(e.key,e.val))=m.map (fun p=>(MKey.enc p.1,f p.2))
end
def mapOf (P:Program) (t:TypeId):Option (TypeId × TypeId):=match P.underlying t with
 | some (.map k e)=>some (k,e)
 | _=>none
theorem map_of {P:Program} {t k e:TypeId} (h:mapOf P t=some (k,e)):P.underlying t=some (.map k e):=by
 unfold mapOf at h;split at h <;> simp_all
section
variable {κ α : Type} [DecidableEq κ] [MKey κ] {P : Program} {w : World} {t kt et : TypeId} {f : α → Value} {m : List (κ × α)} {b : Nat} {o : Obj} {k : κ} {x : α}
theorem find_run {es:List MapEntry} (hk:tellK P kt=MKey.want κ) (h:es.map (fun e=>(e.key,e.val))=m.map (fun p=>(MKey.enc p.1,f p.2))):(Instr.findKey kt (MKey.enc k) es).run P w=.ok ((mfind k m).map fun q=>(q.1,f q.2)) w :=
 MKey.find hk f k m es h
theorem stays_run:(Instr.keyThatStays (MKey.enc k) (MKey.enc k)).run P w=.ok (MKey.enc k) w:=by
 simp [Instr.keyThatStays,MKey.stays k]
theorem mu_run (hu:P.underlying t=some (.map kt et)) (hk:tellK P kt=MKey.want κ) (hm:MOb f m o) (hb:w.heap[b]?=some o) :
  ∃ o',(Instr.mapUpdate t (.map (some b)) (MKey.enc k) (f x)).run P w=.ok () (setBlk w b o')∧MOb f (mupd k x m) o':=by
 obtain ⟨es,c,rfl,d⟩:=hm;have h:=find_run (P:=P) (w:=w) (k:=k) hk d;cases hfd:mfind k m with
 | none =>
  rw [hfd] at h;refine ⟨.map (es.push { key:=MKey.enc k,val:=f x,born:=c }) (c+1),?_,_,_,rfl,?_⟩
  ·simp [Instr.mapUpdate,run_underlying hu,MapKept.run_getObj_map hb,MKey.check hk k,h,MapKept.run_setObj_map _ hb,Result.andThen,setBlk]
  ·rw [mupd_none hfd];simp [d]
 | some q =>
  rw [hfd] at h;obtain ⟨hup,y,hy⟩:=mupd_some (x:=x) hfd;have A:es.toList.length=m.length:=by have:=congrArg List.length d;simpa using this
  have i:q.1 < es.toList.length:=by rw [A];exact (List.getElem?_eq_some_iff.1 hy).1
  have B:(es[q.1]?).map (·.key)=some (MKey.enc k):=by
   have:=congrArg (fun l=>(l[q.1]?).map (·.1)) d
   simp only [List.getElem?_map,hy,Option.map_map] at this
   simpa using this
  refine ⟨.map (es.modify q.1 fun e=>{ e with key:=MKey.enc k,val:=f x }) c,?_,_,_,rfl,?_⟩
  ·simp [Instr.mapUpdate,run_underlying hu,MapKept.run_getObj_map hb,MKey.check hk k,h,B,stays_run,MapKept.run_setObj_map _ hb,Result.andThen,setBlk]
  ·rw [hup,Array.toList_modify,List.map_set,← d];refine List.ext_getElem? fun j=>?_;simp only [List.getElem?_map,List.getElem?_set,List.getElem?_modify,List.length_map]
   by_cases e:q.1=j
   ·subst e;simp [i];simp at i;rw [Array.getElem?_eq_getElem i,if_pos i];rfl
   ·simp [e]
theorem lk_run {z:Value} {ok:Bool} (hu:P.underlying t=some (.map kt et)) (hk:tellK P kt=MKey.want κ) (hm:MOb f m o) (hb:w.heap[b]?=some o) (hz:(zeroValue et).run P w=.ok z w) :
  (Instr.lookup t (.map (some b)) (MKey.enc k) ok).run P w=.ok (if ok then .tuple #[((mlook k m).map f).getD z,.bool (mlook k m).isSome] else ((mlook k m).map f).getD z) w:=by
 obtain ⟨es,c,rfl,h⟩:=hm;have d:=find_run (P:=P) (w:=w) (k:=k) hk h;rw [mlook_eq];cases hfd:mfind k m with
 | none =>
  rw [hfd] at d;simp [Instr.lookup,run_underlying hu,MapKept.run_getObj_map hb,MKey.check hk k,d,hz,Result.andThen]
 | some q =>
  rw [hfd] at d;simp [Instr.lookup,run_underlying hu,MapKept.run_getObj_map hb,MKey.check hk k,d,Result.andThen]
theorem ml_run {ty:TypeId} (hu:P.underlying t=some (.map kt et)) (hm:MOb f m o) (hb:w.heap[b]?=some o):(Builtin.len_ #[t] ty #[.map (some b)]).run P w=.ok (.int .i64 (m.length:Int)) w:=by
 obtain ⟨es,c,rfl,h⟩:=hm;have d:es.size=m.length:=by have:=congrArg List.length h;simpa using this
 simp [Builtin.len_,run_underlying hu,MapKept.run_getObj_map hb,goInt,Result.andThen,d]
end
section
variable {κ α : Type} [DecidableEq κ] [MKey κ] [Dat α]
def MP (a:Bool) (m:List (κ × α)) (b:Nat) (e:Ent) (H:Heaplet):Prop:=(∃ o,e=some (b,o)∧MOb (fun x:α=>aggV a (Dat.cells x)) m o)∧∀ p ∈ m,Dat.good H p.2
def mp (t a:Bool) (m:List (κ × α)) (b:Nat):LE:=.own t (MP a m b) (fun _ _ _ k h=>⟨h.1,fun p hp=>Dat.mono _ _ _ k (h.2 p hp)⟩) True (fun _ _ _=>trivial)
theorem mp_at {t a:Bool} {m:List (κ × α)} {b:Nat} {e:Ent} {N K:Heaplet} (h:(mp t a m b).at e N K):MP a m b e (bif t then N else K):=by
 cases t
 ·exact h
 ·exact h
end
def RC.mpu (R:RC) (G:Gh) (i:Nat):Option (TypeId × Value × Value × Value):=match (R.ops[i]?).map (fun o:Oper=>o.op) with
 | some (.mapUpdate t m k x)=>some (t,R.evalAt G i m,R.evalAt G i k,R.evalAt G i x)
 | some (.insert t m k x)=>some (t,R.evalAt G i m,R.evalAt G i k,R.evalAt G i x)
 | _=>none
def RC.mlk (R:RC) (G:Gh) (i:Nat):Option (TypeId × Value × Value × Bool):=match (R.ops[i]?).map (fun o:Oper=>o.op) with
 | some (.lookup t m k ok)=>some (t,R.evalAt G i m,R.evalAt G i k,ok)
 | _=>none
def RC.mln (R:RC) (G:Gh) (i:Nat):Option (TypeId × Value):=match (R.ops[i]?).map (fun o:Oper=>o.op) with
 | some (.call { callee:=.builtin .len,args,argTypes })=>match args.toList,argTypes.toList with
  | [x],[t]=>some (t,R.evalAt G i x)
  | _,_=>none
 | _=>none
def lkV (a ok:Bool) (x:List Value) (is:Bool):Value:=bif ok then .tuple #[aggV a x,.bool is] else aggV a x
namespace Hint
variable {P : Program} {κ α : Type} [DecidableEq κ] [MKey κ] [Dat α]
def mm (κ α:Type) [DecidableEq κ] [MKey κ] [Dat α] (n r:Nat) (a:Bool):Hint P where
 d:={ val:=fun G=>.map (some (G n).b),news:=[(r,fun G=>mp true a ([]:List (κ × α)) (G n).b,fun G=>some ((G n).b,.map #[] 0))] }
 τ:=Option (Result Next) × Nat
 lhs c i G _ w:=(c.R.ex P G i w,i)
 rhs _ _ _ _ w:=(some (.ok (.value (.map (some w.heap.size))) { w with heap:=w.heap.push (.map #[] 0) }),n)
 sound c i ok hil hi h:=fun o ho G w hs=>by
  have h0:=h G { b:=w.heap.size } w;simp only [Prod.mk.injEq,RC.ex,ho,Option.map_some,Option.some.injEq] at h0;obtain ⟨e1,rfl⟩:=h0;unfold Does;rw [e1];have hv:=Cx.vis_self (c:=c) (i:=i) (G:=G) { b:=w.heap.size };refine ⟨{ b:=w.heap.size },left_turn ok hil hi hs (e1:=some (w.heap.size,.map #[] 0)) rfl rfl rfl grows_push ?_ ?_ rfl rfl ?_⟩
  ·show some _=_;rw [hv]
  ·show MP _ _ _ _ _;rw [hv];exact ⟨⟨_,rfl,#[],0,rfl,rfl⟩,fun p hp=>by cases hp⟩
  ·rw [Cx.valOf hi];show Value.map _=_;rw [hv]
def mu (n r:Nat) (tt kt et:TypeId) (t a:Bool) (m:List (κ × α)) (b:Gh→Nat) (k:κ) (x:α) (m2:List (κ × α)) (hm:m2=mupd k x m) (t2:Bool) (ht:t2=true→t=true) (qs:List Kv) (hq:∀ G H,allR qs G H→Dat.good H x):Hint P where
 d:={ val:=fun _=>undef,news:=[(r,fun G=>mp t2 a m2 (b G),fun G=>(G n).e)] }
 τ:=Option (TypeId × Value × Value × Value) × Option (TypeId × TypeId) × (Option TypeDesc × List (Bool × Nat × Option TypeDesc) × Bool) × Option LE × Nat × Bool × List (Option (Bool × (Ent→Heaplet→Prop)) × Bool) × Nat
 lhs c i G g _:=(c.R.mpu G i,mapOf P tt,tellK P kt,c.leAt i r G,i,tOk t2 qs,qs.map (Kv.chk c i G),b (c.R.vis i (RC.put G i g)))
 rhs _ _ G _ _:=(some (tt,.map (some (b G)),MKey.enc k,aggV a (Dat.cells x)),some (kt,et),MKey.want κ,some (mp t a m (b G)),n,true,qs.map (Kv.want G),b G)
 sound c i ok hil hi h0:=fun o ho G w hs=>by
  have h1:=fun g=>h0 G g w
  simp only [Prod.mk.injEq] at h1;obtain ⟨e1,e2,e3,e4,rfl,e6,e7,_⟩:=h1 {};have hw:c.R.wrE r i=true:=by unfold RC.wrE;rw [Cx.upsOf hi];simp
  obtain ⟨en,a1,a2,a3⟩:=Cx.own_at ok hil hs e4 (by rw [hw];simp);obtain ⟨⟨ob,rfl,D⟩,hgood⟩:=mp_at a2;have hb:=a3 (b G) ob rfl;have E:=RC.heap_lt hb;obtain ⟨o',hr,h⟩:=mu_run (P:=P) (w:=w) (k:=k) (x:=x) (map_of e2) e3 D hb;have hg:Grows (some (b G,ob)) (some (b G,o')) w (setBlk w (b G) o') :=
   ⟨fun b' o2 f=>by cases f;simp [setBlk,E],fun b' o2 f=>by cases f;exact .inr ⟨_,rfl⟩,⟨rfl,rfl,rfl,by simp [setBlk],fun j hj hn=>by
    have:b G≠j:=fun e=>hn (by subst e;simp)
    simp [setBlk,Array.getElem?_setIfInBounds_ne this]⟩⟩
  have A:(execOp (c.R.evalAt G i) o).run P w=.ok .skip (setBlk w (b G) o'):=by
   unfold RC.mpu at e1;rw [ho] at e1;obtain ⟨dst,op,X,pos,I,M⟩:=o;cases op <;> simp only [Option.map_some] at e1 <;> first | cases e1 | skip
   all_goals
    simp only [Option.some.injEq,Prod.mk.injEq] at e1;obtain ⟨rfl,h1,h2,h3⟩:=e1;simp [execOp,h1,h2,h3,hr]
  unfold Does;rw [A];have hv:=Cx.vis_self (c:=c) (i:=i) (G:=G) { e:=some (b G,o') };have Q:=(h1 { e:=some (b G,o') }).2.2.2.2.2.2.2;refine ⟨{ e:=some (b G,o') },left_turn ok hil hi hs rfl rfl a1 hg ?_ ?_ rfl rfl (by rw [Cx.valOf hi])⟩
  ·show (c.R.vis i (RC.put G i { e:=some (b G,o') }) i).e=_;rw [hv]
  ·have B:∀ H,(∀ p ∈ m,Dat.good H p.2)→Dat.good H x→MP a m2 (b G) (some (b G,o')) H:=fun H h1 h2=>⟨⟨_,rfl,hm ▸ h⟩,fun p hp=>by
    rw [hm] at hp;rcases mupd_mem hp with hp | hp
    ·rw [hp];exact h2
    ·exact h1 p hp⟩
   have C:=hq G _ (allR_of ok hil hs e7 e6);show bif t2 then MP _ _ _ _ _ else MP _ _ _ _ _
   rw [hv,Q];cases t2 with
   | true=>rw [ht rfl] at hgood;exact B _ hgood C
   | false=>exact B _ (fun p hp=>by
     cases t with
     | true=>exact Dat.mono _ _ _ (Cx.J_true_le hs false) (hgood p hp)
     | false=>exact hgood p hp) C
def lk (r:Nat) (tt kt et:TypeId) (t a ok:Bool) (m:List (κ × α)) (b:Gh→Nat) (k:κ) (x:α) (hx:x=(mlook k m).getD default) (is:Bool) (E:is=(mlook k m).isSome) (A:Bool):Hint P where
 d:={ val:=fun _=>lkV a ok (Dat.cells x) is,rds:=[r],facts:=fun _=>bif A then [gf t x] else [] }
 τ:=Option (TypeId × Value × Value × Bool) × Option (TypeId × TypeId) × (Option TypeDesc × List (Bool × Nat × Option TypeDesc) × Bool) × Option LE × Result Value
 lhs c i G _ w:=(c.R.mlk G i,mapOf P tt,tellK P kt,c.leAt i r G,(zeroValue et).run P w)
 rhs _ _ G _ w:=(some (tt,.map (some (b G)),MKey.enc k,ok),some (kt,et),MKey.want κ,some (mp t a m (b G)),.ok (aggV a (Dat.cells (default:α))) w)
 sound c i ok' hil hi h0:=fun o ho G w hs=>by
  have h1:=h0 G {} w;simp only [Prod.mk.injEq] at h1;obtain ⟨e1,e2,e3,e4,e5⟩:=h1;obtain ⟨en,a1,a2,a3⟩:=Cx.own_at ok' hil hs e4 (by rw [Cx.c_of hi];simp [HintD.cert]);obtain ⟨⟨ob,rfl,I⟩,hgood⟩:=mp_at a2;have hb:=a3 (b G) ob rfl;have hr:=lk_run (P:=P) (w:=w) (k:=k) (ok:=ok) (map_of e2) e3 I hb e5;have B:(if ok then .tuple #[((mlook k m).map fun x:α=>aggV a (Dat.cells x)).getD (aggV a (Dat.cells (default:α))),.bool (mlook k m).isSome] else ((mlook k m).map fun x:α=>aggV a (Dat.cells x)).getD (aggV a (Dat.cells (default:α))))=lkV a ok (Dat.cells x) is:=by
   unfold lkV;rw [hx,E];cases mlook k m <;> cases ok <;> rfl
  rw [B] at hr;have C:(execOp (c.R.evalAt G i) o).run P w=.ok (.value (lkV a ok (Dat.cells x) is)) w:=by
   unfold RC.mlk at e1;rw [ho] at e1;obtain ⟨dst,op,X,pos,M,Q⟩:=o;cases op <;> simp only [Option.map_some] at e1 <;> first | cases e1 | skip
   case lookup t' m' k' ok2 =>
    simp only [Option.some.injEq,Prod.mk.injEq] at e1;obtain ⟨rfl,h1,h2,rfl⟩:=e1;simp [execOp,h1,h2,hr]
  unfold Does;rw [C];obtain ⟨a4,a5,_⟩:=ahead ok' hil hs (g:={}) no_H;have D:∀ H,(∀ p ∈ m,Dat.good H p.2)→Dat.good H x:=fun H hH=>by
   rw [hx];cases hl:mlook k m with
   | none=>exact Dat.zero H
   | some y=>exact hH _ (mlook_mem hl)
  refine ⟨{},left_grow ok' hil hi hs rfl (Base.refl _ _) (fun b o h=>by cases h) no_H (fun f j=>?_) trivial ?_⟩
  ·cases A with
   | false=>cases j
   | true =>
    have j:f=gf t x:=by simpa using j
    subst j;show bif t then _ else _
    cases t
    ·exact Dat.mono _ _ _ a5 (D _ hgood)
    ·exact Dat.mono _ _ _ a4 (D _ hgood)
  ·rw [Cx.valOf hi]
def ml (r:Nat) (tt kt et:TypeId) (t a:Bool) (m:List (κ × α)) (b:Gh→Nat):Hint P where
 d:={ val:=fun _=>.int .i64 (m.length:Int),rds:=[r] }
 τ:=Option (TypeId × Value) × Option (TypeId × TypeId) × Option LE
 lhs c i G _ _:=(c.R.mln G i,mapOf P tt,c.leAt i r G)
 rhs _ _ G _ _:=(some (tt,.map (some (b G))),some (kt,et),some (mp t a m (b G)))
 sound c i ok' hil hi h0:=fun o ho G w hs=>by
  have h1:=h0 G {} w;simp only [Prod.mk.injEq] at h1;obtain ⟨e1,e2,e4⟩:=h1;obtain ⟨en,a1,a2,a3⟩:=Cx.own_at ok' hil hs e4 (by rw [Cx.c_of hi];simp [HintD.cert]);obtain ⟨⟨ob,rfl,h⟩,hgood⟩:=mp_at a2;have hb:=a3 (b G) ob rfl;refine Cx.still hi rfl (fun _=>⟨rfl,rfl⟩) ho (x:=.int .i64 (m.length:Int)) ?_ (by rw [Cx.valOf hi]);unfold RC.mln at e1;rw [ho] at e1;obtain ⟨dst,op,f,pos,j,A⟩:=o;simp only [Option.map_some] at e1;split at e1
  ·rename_i args argTypes heq
   simp only [Option.some.injEq] at heq;subst heq;split at e1
   ·rename_i x t' hx ht
    simp only [Option.some.injEq,Prod.mk.injEq] at e1;obtain ⟨rfl,hv⟩:=e1;obtain ⟨l,rfl⟩:∃ l:List Operand,args=l.toArray:=⟨args.toList,by simp⟩;obtain ⟨l2,rfl⟩:∃ l:List TypeId,argTypes=l.toArray:=⟨argTypes.toList,by simp⟩;simp only at hx ht;subst hx ht;simp [execOp,resolve,invoke,builtin,hv,ml_run (P:=P) (w:=w) (ty:=f) (map_of e2) h hb]
   ·cases e1
  ·cases e1
end Hint
theorem V.trm {P:Program} {E:Env P} {S:Stop} {t:St} {κ α:Type} [DecidableEq κ] [MKey κ] [Dat α] (a:Bool) (m:List (κ × α)) (b r:Nat) (hr:t.L[r]?=some (mp false a m b)) (hg:∀ (H:Heaplet) (x:α),Dat.good H x) (k:V E S ⟨t.sl,t.F,t.L.set r (mp true a m b)⟩):V E S t:=fun N ε ac w d=>by
 have h:r < t.L.length:=(List.getElem?_eq_some_iff.1 hr).1;have f:ents (t.L.set r (mp true a m b)) ε=ents t.L ε:=by
  refine List.ext_getElem? fun j=>?_;rw [ents_get,ents_get,List.getElem?_set]
  by_cases e:r=j
  ·subst e;rw [if_pos rfl,if_pos h,hr];rfl
  ·rw [if_neg e]
 refine k N ε ac w ⟨d.slots,by rw [f];exact d.st,d.new,d.facts,fun j y hy=>?_⟩;rw [List.getElem?_set] at hy;by_cases e:r=j
 ·subst e;rw [if_pos rfl,if_pos h] at hy;cases hy
  have:=d.own r _ hr
  exact ⟨(this:MP a m b _ _).1,fun p _=>hg _ _⟩
 ·rw [if_neg e] at hy;exact d.own j y hy

open Go
def RC.bnr (R:RC) (G:Gh) (i:Nat):Option (BinOp × Value × Value):=match (R.ops[i]?).map (fun o:Oper=>o.op) with
 | some (.binOp op _ x y _)=>some (op,R.evalAt G i x,R.evalAt G i y)
 | _=>none
def noEq:BinOp→Bool
 | .eql=>false
 | .neq=>false
 | _=>true
theorem noEq_guard {P:Program} {op:BinOp} (h:noEq op=true) (T:TypeId) (x y:Operand) (a b:Value) (w:World):(eqGuard op T x y a b).run P w=.ok () w:=by
 cases op <;> first | exact absurd h (by decide) | rfl
theorem rem_run {P:Program} {T:TypeId} {w:World} {x y n:Int} (h0:0≤x) (hy:y≠0) (hn:n=x % y):(binOp .rem T (.int .i64 x) (.int .i64 y)).run P w=.ok (.int .i64 n) w:=by
 simp [binOp,Op.intDiv,hy,Int.tmod_eq_emod_of_nonneg h0,hn]
theorem quo_run {P:Program} {T:TypeId} {w:World} {x y n:Int} (h0:0≤x) (hy:0 < y) (hn:n=x / y) (hi:n≤9223372036854775807):(binOp .quo T (.int .i64 x) (.int .i64 y)).run P w=.ok (.int .i64 n) w:=by
 have b:y≠0:=by omega
 have h3:0≤x / y:=Int.ediv_nonneg h0 (by omega);have hw:IntKind.i64.wrap (x.tdiv y)=n:=by rw [Int.tdiv_eq_ediv_of_nonneg h0,← hn,IntKind.wrap_i64];omega
 simp [binOp,Op.intDiv,b,hw]
namespace Hint
variable {P : Program}
def bin {g:Prop} (Γ:GdI g) (op:BinOp) (x y v:Value) (h:g→∀ (T:TypeId) (w:World),(binOp op T x y).run P w=.ok v w):Hint P where
 d:={ val:=fun _=>v }
 τ:=Option (BinOp × Value × Value) × Value × Option Bool × Bool
 lhs c i G _ _:=(c.R.bnr G i,c.R.val i (RC.put G i {}),Γ.B.map fun _=>c.R.gd G i,noEq op)
 rhs _ _ _ _ _:=(some (op,x,y),v,Γ.B,true)
 sound c i _ _ hi h0:=fun o ho G w hs=>by
  have h1:=h0 G {} w;simp only [Prod.mk.injEq] at h1;obtain ⟨e1,e2,e3,e4⟩:=h1;refine Cx.still hi rfl (fun _=>⟨rfl,rfl⟩) ho (x:=v) ?_ e2;have hr:=h (Cx.gdOk Γ hs e3);unfold RC.bnr at e1;rw [ho] at e1;obtain ⟨dst,b,t,pos,f,j⟩:=o;cases b <;> simp only [Option.map_some] at e1 <;> first | (simp at e1;done) | skip
  case binOp o2 t' x' y' b' =>
   simp only [Option.some.injEq,Prod.mk.injEq] at e1;obtain ⟨rfl,h1,h2⟩:=e1;simp [execOp,h1,h2,noEq_guard e4,hr]
def rmv {g:Prop} (Γ:GdI g) (x y n:Int) (hn:n=x % y) (h:g→0≤x∧0 < y):Hint P:=bin Γ .rem (.int .i64 x) (.int .i64 y) (.int .i64 n) fun hg _ _=>rem_run (h hg).1 (by have:=(h hg).2;omega) hn
def qov {g:Prop} (Γ:GdI g) (x y n:Int) (hn:n=x / y) (h:g→0≤x∧0 < y) (hi:g→n≤9223372036854775807):Hint P:=bin Γ .quo (.int .i64 x) (.int .i64 y) (.int .i64 n) fun hg _ _=>quo_run (h hg).1 (h hg).2 hn (hi hg)
def fro {α:Type} [Dat α] (n r:Nat) (E:TypeId) (t:Bool) (l:List α) (s:Gh→SV) (b:Int) (l2:List α) (hl:l2=l.take b.toNat) (h0:0≤b) (h1:b≤l.length):Hint P where
 d:={ val:=fun G=>((s G).sub (Dat.size α) 0 b.toNat).v,news:=[(r,fun G=>os t E l2 ((s G).sub (Dat.size α) 0 b.toNat),fun G=>(G n).e)] }
 τ:=Option (TypeId × Value × Option Value × Option Value × Bool) × Option Nat × SV × Option LE × Nat
 lhs c i G g _:=(c.R.slr G i,(sliceOf P (c.R.slt i)).bind (sizeT P),s (c.R.vis i (RC.put G i g)),c.leAt i r G,i)
 rhs c i G _ _:=(some (c.R.slt i,(s G).v,none,some (.int .i64 b),true),some (Dat.size α),s G,some (os t E l (s G)),n)
 sound c i ok hil hi h:=fun o ho G w hs=>by
  have h2:=fun g=>h G g w
  simp only [Prod.mk.injEq] at h2;obtain ⟨e1,e2,_,e4,rfl⟩:=h2 {};simp only [Option.bind_eq_some_iff] at e2;obtain ⟨E',e2,e6⟩:=e2;have hw:c.R.wrE r i=true:=by unfold RC.wrE;rw [Cx.upsOf hi];simp
  obtain ⟨en,a1,a2,a3⟩:=Cx.own_at ok hil hs e4 (by rw [hw];simp);have f:OSl E (c.J i G t) l (s G).v en:=by
   unfold os ow LE.at at a2;cases t <;> exact a2
  have j:=slice_does (w:=w) (lo:=none) (hi:=some b) (l:=0) (h:=b) ho e1 e2 e6 rfl rfl f.isSl (by omega) h0 h1;unfold Does;rw [j];have hv:=Cx.vis_self (c:=c) (i:=i) (G:=G) { e:=en };have A:=(h2 { e:=en }).2.2.1;refine ⟨{ e:=en },left_turn ok hil hi hs rfl rfl a1 ⟨a3,fun b o hb=>.inr ⟨o,hb⟩,Base.refl _ _⟩ ?_ ?_ rfl rfl ?_⟩
  ·show (c.R.vis i (RC.put G i { e:=en }) i).e=_;rw [hv];rfl
  ·have B:OSl E (c.J i G t) l2 ((s G).sub (Dat.size α) 0 b.toNat).v en:=by
    rw [hl];exact f.take (by omega)
   show bif t then OSl E _ l2 _ _ else OSl E _ l2 _ _
   rw [hv,A];cases t <;> exact B
  ·rw [Cx.valOf hi];show SV.v _=_;rw [A];rfl
def nrG {α:Type} [Dat α] (n:Nat) (t:Bool) (E:TypeId) (l:Gh→List α) (k:Nat) (hk:∀ G,(l G).length=k) (qs:List Kv) (hq:∀ G H,allR qs G H→∀ x ∈ l G,Dat.good H x) (j:Gh→Array Value):Hint P where
 d:={ val:=fun G=>.slice (atB (G n).b) k k,facts:=fun G=>[fs t (l G) ⟨atB (G n).b,k,k⟩] }
 τ:=Option (Result Next) × Nat × List Value × Bool × Bool × List (Option (Bool × (Ent→Heaplet→Prop)) × Bool) × List α
 lhs c i G g w:=(c.R.ex P G i w,i,(j G).toList,decide (k≤maxLen),tOk t qs,qs.map (Kv.chk c i G),l (c.R.vis i (RC.put G i g)))
 rhs _ _ G _ w:=(some (.ok (.value (.slice (atB w.heap.size) k k)) { w with heap:=w.heap.push (.cells (j G) E) }),n,(rows (l G)).flatten,true,true,qs.map (Kv.want G),l G)
 sound c i ok hil hi h:=fun o ho G w hs=>by
  have h0:=fun g=>h G g w
  simp only [Prod.mk.injEq,RC.ex,ho,Option.map_some,Option.some.injEq] at h0;obtain ⟨e1,rfl,e4,e5,e6,e7,_⟩:=h0 {};unfold Does;rw [e1];have hv:=Cx.vis_self (c:=c) (i:=i) (G:=G) { b:=w.heap.size,H:=entH (some (w.heap.size,.cells (j G) E)) };have e8:=(h0 { b:=w.heap.size,H:=entH (some (w.heap.size,.cells (j G) E)) }).2.2.2.2.2.2;have A:∀ b,entH (some (w.heap.size,.cells (j G) E)) b≠none→w.heap.size≤b:=entH_new (w0:=w) fun b o he=>by cases he;exact Nat.le_refl _
  obtain ⟨a1,a2,a3,a4⟩:=ahead ok hil hs (g:={ b:=w.heap.size,H:=entH (some (w.heap.size,.cells (j G) E)) }) A;refine ⟨{ b:=w.heap.size,H:=entH (some (w.heap.size,.cells (j G) E)) },left_grow ok hil hi hs rfl (base_push _ _) (entH_agrees (e:=some (w.heap.size,.cells (j G) E)) fun b o he=>by cases he;exact push_get) A (fun f hf=>?_) trivial ?_⟩
  ·have hf:f=fs t (l (c.R.vis i (RC.put G i { b:=w.heap.size,H:=entH (some (w.heap.size,.cells (j G) E)) }))) ⟨atB (c.R.vis i (RC.put G i { b:=w.heap.size,H:=entH (some (w.heap.size,.cells (j G) E)) }) i).b,k,k⟩:=by simpa using hf
   rw [hv,e8] at hf;subst hf;have B:∀ H K,Sub H K→Sub (entH (some (w.heap.size,.cells (j G) E))) K→(∀ x ∈ l G,Dat.good H x)→RSl K (l G) (.slice (atB w.heap.size) k k):=fun H K k1 k2 hg=>(OSl.lit (E:=E) (g:=w.heap.size) hg (by rw [e4,hk,e5])).frozen k1 k2
   have hR:=hq G _ (allR_of ok hil hs e7 e6);show bif t then _ else _
   cases t
   ·exact B _ _ a2 a4 hR
   ·exact B _ _ a1 a3 hR
  ·rw [Cx.valOf hi];show Value.slice _ _ _=_;rw [hv]
def apG {α:Type} [Dat α] (n r:Nat) (E:TypeId) (b:Nat) (z t:Bool) (l:List α) (s:Gh→SV) (I:Src) (ts:Bool) (m:Gh→List α) (k:Nat) (hk:∀ G,(m G).length=k) (s2:Gh→SV) (t2:Bool) (hb:(l.length+k) * b≤140737488355328)
  (hz:z=true→l=[]∧∀ G,s G={}) (ht:t2=true→t=true∧ts=true):Hint P where
 d:={ val:=fun G=>(G n).s.v,news:=[(r,fun G=>os t2 E (l ++m G) (G n).s,fun G=>(G n).e)] }
 τ:=Option (TypeId × TypeId × Value × Value) × Option TypeId × Option (Nat × Nat × Option Nat) × Option LE × Nat × Bool × Bool × (Option (Bool × (Ent→Heaplet→Prop)) × Bool) × List α
 lhs c i G g _:=(c.R.apr G i,sliceOf P (c.R.apt G i),infoOf P E,c.leAt i r G,i,decide (0 < Dat.size α),decide (0 < b),I.what c i G,m (c.R.vis i (RC.put G i g)))
 rhs c i G _ _:=(some (c.R.apt G i,c.R.apt G i,(s G).v,(s2 G).v),some E,some (Dat.size α,b,some (Dat.size α)),some (nilOr t E l (s G) z),n,true,true,(some (ts,fun _ H=>RSl H (m G) (s2 G).v),true),m G)
 sound c i ok hil hi h:=fun o ho G w hs=>by
  have h0:=fun g=>h G g w
  simp only [Prod.mk.injEq] at h0;obtain ⟨e1,e2,e3,e4,rfl,e6,e7,e8,_⟩:=h0 {};have hw:c.R.wrE r i=true:=by unfold RC.wrE;rw [Cx.upsOf hi];simp
  obtain ⟨en,a1,a2,a3⟩:=Cx.own_at ok hil hs e4 (by rw [hw];simp);obtain ⟨M,j⟩:=nilOr_own (fun B=>⟨(hz B).1,(hz B).2 G⟩) a2;obtain ⟨e',q1,q2,_⟩:=Src.get ok hil hs e8;have hx:RSl (c.J i G ts) (m G) (s2 G).v:=q1;obtain ⟨v',A,w',hr,C,hg⟩:=append_does ho e1 e2 e3 (of_decide_eq_true e6) (of_decide_eq_true e7) M a3 hx.sl (Cx.J_le hs ts) (by simpa [hk] using hb);obtain ⟨s',rfl⟩:=own_sv C;unfold Does;rw [hr];have hv:=Cx.vis_self (c:=c) (i:=i) (G:=G) { s:=s',e:=A };have e9:=(h0 { s:=s',e:=A }).2.2.2.2.2.2.2.2;refine ⟨{ s:=s',e:=A },left_turn ok hil hi hs rfl rfl a1 hg ?_ ?_ rfl rfl ?_⟩
  ·show (c.R.vis i (RC.put G i { s:=s',e:=A }) i).e=_;rw [hv]
  ·show bif t2 then OSl E _ _ _ _ else OSl E _ _ _ _
   rw [hv,e9];have D:OwnS E (Dat.size α) (rows (l ++m G)) s'.v A:=by rw [rows_append];exact C
   have fin:∀ x ∈ l ++m G,Dat.good (c.J i G t2) x:=fun x f=>by
    rcases List.mem_append.1 f with f | f
    ·cases t2 with
     | true=>have:=j x f;rw [(ht rfl).1] at this;exact this
     | false =>
      have:=j x f
      cases t
      ·exact this
      ·exact Dat.mono _ _ _ (Cx.J_true_le hs false) this
    ·cases t2 with
     | true=>have:=hx.good x f;rw [(ht rfl).2] at this;exact this
     | false=>exact Dat.mono _ _ _ (Cx.J_le_false hs _) (hx.good x f)
   cases t2
   ·exact ⟨D,fin⟩
   ·exact ⟨D,fin⟩
  ·rw [Cx.valOf hi];show SV.v _=_;rw [hv]
end Hint

open Go
structure Rw where
 s:SV:={}
instance : Dat Rw where
  default := {}
  size := 1
  cells x := [x.s.v]
  good _ _ := True
  len _ := rfl
  one _ _ _ u hu := by simp at hu; subst hu; rfl
  mono _ _ _ _ _ := trivial
  zero _ := trivial
namespace Hint
variable {P : Program}
def seR {g:Prop} (Γ:GdI g) (n r:Nat) (E:TypeId) (t:Bool) (l:List Rw) (s:Gh→SV) (k:Int) (u:Gh→SV) (h:g→0≤k∧k < l.length):Hint P where
 d:={ val:=fun _=>undef,news:=[(r,fun G=>os t E (l.set k.toNat ⟨u G⟩) (s G),fun G=>(G n).e)] }
 τ:=Option (TypeId × Value × Value) × Option Nat × Option LE × Nat × Value × Option Bool × SV × SV
 lhs c i G g _:=(c.R.str G i,sizeT P (c.R.stt i),c.leAt i r G,i,c.R.stv G i,Γ.B.map fun _=>c.R.gd G i,s (c.R.vis i (RC.put G i g)),u (c.R.vis i (RC.put G i g)))
 rhs c i G _ _:=(some (c.R.stt i,.pointer (some (offA (elemAddr (s G).v (k.toNat * 1)) none)),(u G).v),some 1,some (os t E l (s G)),n,(u G).v,Γ.B,s G,u G)
 sound c i ok hil hi h0:=fun o ho G w hs=>by
  have h1:=fun g=>h0 G g w
  simp only [Prod.mk.injEq] at h1;obtain ⟨e1,e2,e4,rfl,e5,j,_⟩:=h1 {};obtain ⟨b0,b1⟩:=h (Cx.gdOk Γ hs j);have hw:c.R.wrE r i=true:=by unfold RC.wrE;rw [Cx.upsOf hi];simp
  obtain ⟨en,a1,a2,a3⟩:=Cx.own_at ok hil hs e4 (by rw [hw];simp);have A:OwnS E 1 (rows l) (s G).v en:=by
   unfold os ow LE.at at a2;cases t
   ·exact a2.sl
   ·exact a2.sl
  have C:k.toNat < l.length:=by omega
  obtain ⟨b,w',hr,D,hg⟩:=storeOwn_does (w:=w) (k:=k.toNat) (row:=Dat.cells (l.getD k.toNat default)) (vs:=[(u G).v]) ho e1 (offA_eq _ _) e2 rfl A a3 (get_map' C rfl) (by simp) (by simp;rfl);unfold Does;rw [hr];have hv:=Cx.vis_self (c:=c) (i:=i) (G:=G) { e:=b };obtain ⟨_,_,_,_,_,_,H,I⟩:=h1 { e:=b };refine ⟨{ e:=b },left_turn ok hil hi hs rfl rfl a1 hg ?_ ?_ rfl rfl (by rw [Cx.valOf hi])⟩
  ·show (c.R.vis i (RC.put G i { e:=b }) i).e=_;rw [hv]
  ·show bif t then OSl E _ (l.set k.toNat ⟨u (c.R.vis i (RC.put G i { e:=b }))⟩) _ _ else OSl E _ (l.set k.toNat ⟨u (c.R.vis i (RC.put G i { e:=b }))⟩) _ _
   rw [hv,H,I];have f:OwnS E 1 (rows (l.set k.toNat ⟨u G⟩)) (s G).v b:=by
    have:rows (l.set k.toNat (⟨u G⟩:Rw))=(rows l).set k.toNat (writeL (Dat.cells (l.getD k.toNat default)) 0 [(u G).v]):=by
     simp only [rows,List.map_set];rfl
    rw [this];exact D
   cases t
   ·exact ⟨f,fun _ _=>trivial⟩
   ·exact ⟨f,fun _ _=>trivial⟩
end Hint

open Go
theorem wrapU64 (n:Int):IntKind.u64.wrap n=n % 18446744073709551616:=by simp [IntKind.wrap,IntKind.bits,IntKind.signed]
theorem wrapU8 (n:Int):IntKind.u8.wrap n=n % 256:=by simp [IntKind.wrap,IntKind.bits,IntKind.signed]
theorem ofInt64 (x:Int):(BitVec.ofInt 64 x).toNat=(x % 18446744073709551616).toNat:=by simp [BitVec.toNat_ofInt]
theorem and64 (x:Int) {b:Nat} {m:Int} (hb:b≤62) (hm:m=2 ^ b - 1):((BitVec.ofInt 64 x &&& BitVec.ofInt 64 m).toNat:Int)=x % (2 ^ b:Nat):=by
 have d:(BitVec.ofInt 64 m).toNat=2 ^ b - 1:=by
  rw [ofInt64];have h1:(2:Int) ^ b=((2 ^ b:Nat):Int):=by simp
  have h2:2 ^ b≤2 ^ 62:=Nat.pow_le_pow_right (by omega) hb;have h3:0 < 2 ^ b:=Nat.pow_pos (by omega);rw [hm,h1];omega
 rw [BitVec.toNat_and,d,ofInt64,Nat.and_two_pow_sub_one_eq_mod];have h4:(2 ^ b:Nat) ∣ 18446744073709551616:=⟨2 ^ (64 - b),by rw [←Nat.pow_add,show b+(64 - b)=64 by omega]⟩;have h5:((2 ^ b:Nat):Int) ∣ (18446744073709551616:Int):=Int.natCast_dvd_natCast.2 h4;rw [Int.natCast_emod,Int.toNat_of_nonneg (Int.emod_nonneg _ (by omega)),Int.emod_emod_of_dvd _ h5]
theorem or64 {r a:Int} {b:Nat} (hr:0≤r) (ha:0≤a∧a < (2 ^ b:Nat)) (hs:r * (2 ^ b:Nat) < 18446744073709551616) (hb:b≤63):((BitVec.ofInt 64 (r * (2 ^ b:Nat)) ||| BitVec.ofInt 64 a).toNat:Int)=r * (2 ^ b:Nat)+a:=by
 rw [BitVec.toNat_or,ofInt64,ofInt64];have h2:2 ^ b≤2 ^ 63:=Nat.pow_le_pow_right (by omega) hb;have h0:0≤r * (2 ^ b:Nat):=Int.mul_nonneg hr (by omega);have e1:(r * (2 ^ b:Nat) % 18446744073709551616).toNat=2 ^ b * r.toNat:=by
  rw [Int.emod_eq_of_lt h0 hs,Int.toNat_mul hr (by omega),Nat.mul_comm,Int.toNat_natCast]
 have e2:(a % 18446744073709551616).toNat=a.toNat:=by
  rw [Int.emod_eq_of_lt ha.1 (by omega)]
 rw [e1,e2,← Nat.two_pow_add_eq_or_of_lt (by omega)];have e3:((r.toNat:Nat):Int)=r:=by omega
 rw [Int.natCast_add,Int.natCast_mul,e3,Int.mul_comm r];omega
section
variable {P : Program} {T : TypeId} {w : World}
theorem and_run {x n m:Int} {b:Nat} (hb:b≤62) (hm:m=2 ^ b - 1) (hn:n=x % (2 ^ b:Nat)):(binOp .and T (.int .i64 x) (.int .i64 m)).run P w=.ok (.int .i64 n) w:=by
 have h:=and64 x hb hm;have h3:0 < 2 ^ b:=Nat.pow_pos (by omega);have h2:2 ^ b≤2 ^ 62:=Nat.pow_le_pow_right (by omega) hb;have d:0≤n∧n < 2 ^ 62:=by rw [hn];exact ⟨Int.emod_nonneg _ (by omega),by have:=Int.emod_lt_of_pos x (show (0:Int) < ((2 ^ b:Nat):Int) by omega);omega⟩
 have e:(binOp .and T (.int .i64 x) (.int .i64 m)).run P w=.ok (.int .i64 (IntKind.i64.wrap ((BitVec.ofInt 64 x &&& BitVec.ofInt 64 m).toNat:Int))) w:=rfl;rw [e,h,← hn,IntKind.wrap_i64]
 congr 2;omega
theorem andu_run {x n m:Int} {b:Nat} (hb:b≤62) (hm:m=2 ^ b - 1) (hn:n=x % (2 ^ b:Nat)):(binOp .and T (.int .u64 x) (.int .u64 m)).run P w=.ok (.int .u64 n) w:=by
 have h:=and64 x hb hm;have h3:0 < 2 ^ b:=Nat.pow_pos (by omega);have h2:2 ^ b≤2 ^ 62:=Nat.pow_le_pow_right (by omega) hb;have d:0≤n∧n < 2 ^ 62:=by rw [hn];exact ⟨Int.emod_nonneg _ (by omega),by have:=Int.emod_lt_of_pos x (show (0:Int) < ((2 ^ b:Nat):Int) by omega);omega⟩
 have e:(binOp .and T (.int .u64 x) (.int .u64 m)).run P w=.ok (.int .u64 (IntKind.u64.wrap ((BitVec.ofInt 64 x &&& BitVec.ofInt 64 m).toNat:Int))) w:=rfl;rw [e,h,← hn,wrapU64]
 congr 2;omega
theorem or_run {r a n:Int} {b:Nat} (hb:b≤62) (hr:0≤r) (ha:0≤a∧a < (2 ^ b:Nat)) (hn:n=r * (2 ^ b:Nat)+a) (hs:n≤9223372036854775807):(binOp .or T (.int .i64 (r * (2 ^ b:Nat))) (.int .i64 a)).run P w=.ok (.int .i64 n) w:=by
 have h0:0≤r * (2 ^ b:Nat):=Int.mul_nonneg hr (by omega);have h:=or64 hr ha (by omega) (by omega);have e:(binOp .or T (.int .i64 (r * (2 ^ b:Nat))) (.int .i64 a)).run P w=.ok (.int .i64 (IntKind.i64.wrap ((BitVec.ofInt 64 (r * (2 ^ b:Nat)) ||| BitVec.ofInt 64 a).toNat:Int))) w:=rfl;rw [e,h,← hn,IntKind.wrap_i64]
 congr 2;omega
theorem oru_run {r a n:Int} {b:Nat} (hb:b≤63) (hr:0≤r) (ha:0≤a∧a < (2 ^ b:Nat)) (hn:n=r * (2 ^ b:Nat)+a) (hs:n < 18446744073709551616):(binOp .or T (.int .u64 a) (.int .u64 (r * (2 ^ b:Nat)))).run P w=.ok (.int .u64 n) w:=by
 have h0:0≤r * (2 ^ b:Nat):=Int.mul_nonneg hr (by omega);have h:=or64 hr ha (by omega) hb;have e:(binOp .or T (.int .u64 a) (.int .u64 (r * (2 ^ b:Nat)))).run P w=.ok (.int .u64 (IntKind.u64.wrap ((BitVec.ofInt 64 a ||| BitVec.ofInt 64 (r * (2 ^ b:Nat))).toNat:Int))) w:=rfl;rw [e,BitVec.or_comm,h,← hn,wrapU64]
 congr 2;omega
theorem shr_run {k yk:IntKind} {x n:Int} (s:Nat) (hs:s≤k.bits) (hn:n=x / (2 ^ s:Nat)):(binOp .shr T (.int k x) (.int yk s)).run P w=.ok (.int k n) w:=by
 have e:(binOp .shr T (.int k x) (.int yk s)).run P w=.ok (.int k (x.fdiv (2 ^ s))) w:=by
  simp [binOp,Op.shift,Nat.min_eq_left hs,show ¬ (s:Int) < 0 by omega]
 have h1:(2:Int) ^ s=((2 ^ s:Nat):Int):=by simp
 rw [e,h1,Int.fdiv_eq_ediv_of_nonneg _ (Int.natCast_nonneg _),← hn]
theorem shl_run {k yk:IntKind} {x n y:Int} (s:Nat) (hy:y=s) (hs:s≤k.bits) (hn:n=k.wrap (x * (2 ^ s:Nat))):(binOp .shl T (.int k x) (.int yk y)).run P w=.ok (.int k n) w:=by
 subst hy;have h1:(2:Int) ^ s=((2 ^ s:Nat):Int):=by simp
 have e:(binOp .shl T (.int k x) (.int yk s)).run P w=.ok (.int k (k.wrap (x * 2 ^ s))) w:=by
  simp [binOp,Op.shift,Nat.min_eq_left hs,show ¬ (s:Int) < 0 by omega]
 rw [e,h1,← hn]
theorem sadd_run {a b:ByteArray} (h:(a.size:Int)+b.size≤9223372036854775807):(binOp .add T (.string a) (.string b)).run P w=.ok (.string (a ++b)) w:=by
 have h2:¬ (IntKind.i64.max < ((a.size+b.size:Nat):Int)):=by
  have:IntKind.i64.max=9223372036854775807:=by decide
  rw [this];omega
 simp [binOp,Op.stringOp,h2];omega
end
def bl (s:ByteArray):List UInt8:=s.data.toList
@[simp] theorem bl_len (s:ByteArray):(bl s).length=s.size:=by unfold bl;rw [Array.length_toList];rfl
theorem bl_inj {a b:ByteArray} (h:bl a=bl b):a=b:=by
 cases a;cases b
 simp only [bl] at h
 congr 1
 exact Array.toList_inj.1 h
@[simp] theorem bl_empty:bl ByteArray.empty=[]:=rfl
theorem bl_get {s:ByteArray} {i:Nat} (h:i < s.size):s[i]=(bl s).getD i default:=by
 have h2:i < (bl s).length:=by simpa using h
 rw [List.getD_eq_getElem?_getD,List.getElem?_eq_getElem h2];simp [bl,ByteArray.getElem_eq_getElem_data]
def isStr (P:Program) (t:TypeId):Bool:=match P.underlying t with
 | some .string=>true
 | _=>false
theorem str_of {P:Program} {t:TypeId} (h:isStr P t=true):P.underlying t=some .string:=by
 unfold isStr at h;split at h
 ·assumption
 ·cases h
def RC.idr (R:RC) (G:Gh) (i:Nat):Option (TypeId × Value × Value):=match (R.ops[i]?).map (fun o:Oper=>o.op) with
 | some (.index t x y)=>some (t,R.evalAt G i x,R.evalAt G i y)
 | _=>none
def RC.idt (R:RC) (i:Nat):TypeId:=match (R.ops[i]?).map (fun o:Oper=>o.op) with
 | some (.index t _ _)=>t
 | _=>0
namespace Hint
variable {P : Program}
def ek {g:Prop} (Γ:GdI g) (k:IntKind) (t n:Int) (h:g→k.wrap t=n):Hint P:=e Γ (.int k (k.wrap t)) (.int k n) fun hg=>by rw [h hg]
def andm {g:Prop} (Γ:GdI g) (x m n:Int) (b:Nat) (hb:b≤62) (hm:m=2 ^ b - 1) (hn:n=x % (2 ^ b:Nat)):Hint P:=bin Γ .and (.int .i64 x) (.int .i64 m) (.int .i64 n) fun _ _ _=>and_run hb hm hn
def andu {g:Prop} (Γ:GdI g) (x m n:Int) (b:Nat) (hb:b≤62) (hm:m=2 ^ b - 1) (hn:n=x % (2 ^ b:Nat)):Hint P:=bin Γ .and (.int .u64 x) (.int .u64 m) (.int .u64 n) fun _ _ _=>andu_run hb hm hn
def orm {g:Prop} (Γ:GdI g) (z r a n:Int) (b:Nat) (hz:z=r * (2 ^ b:Nat)) (h:g→b≤62∧0≤r∧(0≤a∧a < (2 ^ b:Nat))∧n=r * (2 ^ b:Nat)+a∧n≤9223372036854775807):Hint P:=bin Γ .or (.int .i64 z) (.int .i64 a) (.int .i64 n) fun hg _ _=>by
 obtain ⟨h1,h2,h3,h4,h5⟩:=h hg;rw [hz];exact or_run h1 h2 h3 h4 h5
def oru {g:Prop} (Γ:GdI g) (a z r n:Int) (b:Nat) (hz:z=r * (2 ^ b:Nat)) (h:g→b≤63∧0≤r∧(0≤a∧a < (2 ^ b:Nat))∧n=r * (2 ^ b:Nat)+a∧n < 18446744073709551616):Hint P:=bin Γ .or (.int .u64 a) (.int .u64 z) (.int .u64 n) fun hg _ _=>by
 obtain ⟨h1,h2,h3,h4,h5⟩:=h hg;rw [hz];exact oru_run h1 h2 h3 h4 h5
def shrm {g:Prop} (Γ:GdI g) (k yk:IntKind) (x n:Int) (s:Nat) (hs:s≤k.bits) (hn:n=x / (2 ^ s:Nat)):Hint P:=bin Γ .shr (.int k x) (.int yk s) (.int k n) fun _ _ _=>shr_run s hs hn
def shlm {g:Prop} (Γ:GdI g) (k yk:IntKind) (x y n:Int) (s:Nat) (h:g→y=s∧s≤k.bits∧n=k.wrap (x * (2 ^ s:Nat))):Hint P:=bin Γ .shl (.int k x) (.int yk y) (.int k n) fun hg _ _=>by
 obtain ⟨h1,h2,h3⟩:=h hg;exact shl_run s h1 h2 h3
def sad {g:Prop} (Γ:GdI g) (a b c:ByteArray) (hc:c=a ++b) (h:g→(a.size:Int)+b.size≤9223372036854775807):Hint P:=bin Γ .add (.string a) (.string b) (.string c) fun hg _ _=>by
 rw [hc];exact sadd_run (h hg)
def sid {g:Prop} (Γ:GdI g) (s:ByteArray) (i:Int) (x:UInt8) (hx:x=(bl s).getD i.toNat default) (h:g→0≤i∧i < s.size):Hint P where
 d:={ val:=fun _=>.int .u8 x.toNat }
 τ:=Option (TypeId × Value × Value) × Value × Option Bool × Bool
 lhs c i' G _ _:=(c.R.idr G i',c.R.val i' (RC.put G i' {}),Γ.B.map fun _=>c.R.gd G i',isStr P (c.R.idt i'))
 rhs c i' _ _ _:=(some (c.R.idt i',.string s,.int .i64 i),.int .u8 x.toNat,Γ.B,true)
 sound c i' _ _ hi h0:=fun o ho G w hs=>by
  have h1:=h0 G {} w;simp only [Prod.mk.injEq] at h1;obtain ⟨e1,e2,e3,e4⟩:=h1;refine Cx.still hi rfl (fun _=>⟨rfl,rfl⟩) ho (x:=.int .u8 x.toNat) ?_ e2;obtain ⟨b0,b1⟩:=h (Cx.gdOk Γ hs e3);have hu:=str_of e4;generalize hT:c.R.idt i'=T at *;unfold RC.idr at e1;rw [ho] at e1;obtain ⟨dst,b,t,pos,f,j⟩:=o;cases b <;> simp only [Option.map_some] at e1 <;> first | (simp at e1;done) | skip
  case index t' x' y' =>
   simp only [Option.some.injEq,Prod.mk.injEq] at e1;obtain ⟨rfl,h1,h2⟩:=e1;have hr:=run_index_string (P:=P) w t' s .i64 i hu;rw [dif_pos ⟨b0,b1⟩,bl_get (show i.toNat < s.size by omega),← hx] at hr;simp [execOp,h1,h2,hr]
def ssl {g:Prop} (Γ:GdI g) (s:ByteArray) (lo hi:Option Int) (a b:Int) (ha:a=lo.getD 0) (hb:b=hi.getD s.size) (t:ByteArray) (ht:t=s.extract a.toNat b.toNat) (h:g→0≤a∧a≤b∧b≤s.size):Hint P where
 d:={ val:=fun _=>.string t }
 τ:=Option (TypeId × Value × Option Value × Option Value × Bool) × Value × Option Bool × Bool
 lhs c i' G _ _:=(c.R.slr G i',c.R.val i' (RC.put G i' {}),Γ.B.map fun _=>c.R.gd G i',isStr P (c.R.slt i'))
 rhs c i' _ _ _:=(some (c.R.slt i',.string s,lo.map (.int .i64 ·),hi.map (.int .i64 ·),true),.string t,Γ.B,true)
 sound c i' _ _ hi' h0:=fun o ho G w hs=>by
  have h1:=h0 G {} w;simp only [Prod.mk.injEq] at h1;obtain ⟨e1,e2,e3,e4⟩:=h1;refine Cx.still hi' rfl (fun _=>⟨rfl,rfl⟩) ho (x:=.string t) ?_ e2;obtain ⟨b0,b1,b2⟩:=h (Cx.gdOk Γ hs e3);have hu:=str_of e4;generalize hT:c.R.slt i'=T at *;unfold RC.slr at e1;rw [ho] at e1;obtain ⟨dst,j,I,pos,A,C⟩:=o;cases j <;> simp only [Option.map_some] at e1 <;> first | (simp at e1;done) | skip
  case slice t' x lo' hi2 mx =>
   simp only [Option.some.injEq,Prod.mk.injEq] at e1;obtain ⟨rfl,hx,hl,hh,hm⟩:=e1;have D:mx=none:=by simpa using hm
   subst D;have E:(Instr.sliceBounds false s.size s.size (lo'.map (c.R.evalAt G i')) (hi2.map (c.R.evalAt G i')) none).run P w=.ok (a.toNat,b.toNat,s.size) w:=by
    rw [hl,hh];have H:a≤(b.toNat:Int):=by omega
    have f:0≤b:=by omega
    have i:a≤max b 0:=by omega
    cases lo with
    | none =>
     simp only [Option.getD_none] at ha;subst ha;cases hi with
     | none =>
      simp only [Option.getD_none] at hb;subst hb;simp [Instr.sliceBounds]
     | some h' =>
      simp only [Option.getD_some] at hb;subst hb;simp [Instr.sliceBounds,Instr.sliceBound,asIntOf,b2,f]
    | some l' =>
     simp only [Option.getD_some] at ha;subst ha;cases hi with
     | none =>
      simp only [Option.getD_none] at hb;subst hb;simp [Instr.sliceBounds,Instr.sliceBound,asIntOf,b0,b1]
     | some h' =>
      simp only [Option.getD_some] at hb;subst hb;simp [Instr.sliceBounds,Instr.sliceBound,asIntOf,b2,f,b0,b1,H,i]
   simp [execOp,Instr.sliceAt,underlying,hu,hx,Instr.slice,E,ht]
end Hint

open Go
section
variable {α : Type} [Dat α]
theorem mid_take (a p b:List α):((a ++p ++b).take (a.length+p.length)).drop a.length=p:=by
 rw [List.take_append_of_le_length (by simp),List.take_of_length_le (by simp)]
 first | rfl | simp
theorem mid_sub {H:Heaplet} {a p b:List α} {s:SV} (h:RSl H (a ++p ++b) s.v):RSl H p (s.sub (Dat.size α) a.length (a.length+p.length)).v:=by
 have:=h.sub (lo:=a.length) (hi:=a.length+p.length) (by omega) (by simp)
 rw [mid_take] at this;exact this
def kop (t:Bool) (E:TypeId) (r:Nat) (a p b:List α) (m:Nat) (hm:p.length=m) (s:Gh→SV):Kw α p (fun G=>(s G).sub (Dat.size α) a.length (a.length+m)):=⟨.o r,t,false,fun G e H=>OSl E H (a ++p ++b) (s G).v e,fun G e H U h k he=>by
 subst hm;exact mid_sub ⟨h.sl.toH.mono he,fun x hx=>Dat.mono _ _ x k (h.good x hx)⟩,fun _ _ _ h x hx=>h.good x (by simp [hx]),fun h=>by cases h⟩
theorem cut3 {l:List α} {lo hi:Nat} (h1:lo≤hi) (h2:hi≤l.length):l=l.take lo ++(l.take hi).drop lo ++l.drop hi:=by
 have e:l.take lo=(l.take hi).take lo:=by rw [List.take_take,Nat.min_eq_left h1]
 rw [e,List.take_append_drop,List.take_append_drop]
theorem cutlo {l:List α} {lo:Nat} (h:lo≤l.length):lo=(l.take lo).length:=by rw [List.length_take];omega
theorem cuthi {l:List α} {lo hi:Nat} (h1:lo≤hi) (h2:hi≤l.length):hi=(l.take lo).length+((l.take hi).drop lo).length:=by rw [List.length_drop,List.length_take,List.length_take];omega
theorem mid_set (a p b:List α) (k:Nat) (x:α) (hk:k < p.length):(a ++p ++b).set (a.length+k) x=a ++p.set k x ++b:=by
 rw [List.append_assoc,List.set_append_right _ _ (by omega),List.append_assoc]
 congr 1
 rw [show a.length+k - a.length=k by omega,List.set_append_left _ _ hk]
theorem mid_get (a p b:List α) (k:Nat) (hk:k < p.length):(a ++p ++b).getD (a.length+k) default=p.getD k default:=by
 simp only [List.getD_eq_getElem?_getD];rw [List.append_assoc,List.getElem?_append_right (by omega),show a.length+k - a.length=k by omega,List.getElem?_append_left hk]
theorem mid_addr {E:TypeId} {a p b:List α} {s:SV} {e:Ent} (h:OwnS E (Dat.size α) (rows (a ++p ++b)) s.v e) {k:Nat} (hk:k < p.length) :
  elemAddr (s.sub (Dat.size α) a.length (a.length+p.length)).v (k * Dat.size α)=(elemAddr s.v ((a.length+k) * Dat.size α)).add 0:=by
 rcases h.val with ⟨_,h2,_⟩ | ⟨g,d,i,e1,_,h2,_⟩
 ·exfalso
  have:=congrArg List.length h2
  simp at this;have h3:=this.2.1;rw [h3] at hk;simp at hk
 ·have ha:s.a=some ⟨g,0,none⟩:=by unfold SV.v at e1;injection e1
  have hc:s.c=d:=by unfold SV.v at e1;injection e1
  have f:¬ s.c=a.length:=by simp at h2;omega
  unfold SV.sub SV.v;rw [if_neg f,ha];show ((⟨g,0,none⟩:Addr).add _).add _=((⟨g,0,none⟩:Addr).add _).add _;have ad:∀ (o n:Nat),(⟨g,o,none⟩:Addr).add n=⟨g,o+n,none⟩:=fun o n=>add_eq rfl n
  rw [ad,ad,ad,ad];simp only [Addr.mk.injEq,and_true,true_and];rw [Nat.add_mul];omega
end
theorem V.tro {P:Program} {E:Env P} {S:Stop} {t:St} {α:Type} [Dat α] (T:TypeId) (l:List α) (s:SV) (r:Nat) (hr:t.L[r]?=some (os false T l s)) (hg:∀ (H:Heaplet) (x:α),Dat.good H x) (k:V E S ⟨t.sl,t.F,t.L.set r (os true T l s)⟩):V E S t:=fun N ε ac w b=>by
 have f:r < t.L.length:=(List.getElem?_eq_some_iff.1 hr).1;have d:ents (t.L.set r (os true T l s)) ε=ents t.L ε:=by
  refine List.ext_getElem? fun j=>?_;rw [ents_get,ents_get,List.getElem?_set]
  by_cases e:r=j
  ·subst e;rw [if_pos rfl,if_pos f,hr];rfl
  ·rw [if_neg e]
 refine k N ε ac w ⟨b.slots,by rw [d];exact b.st,b.new,b.facts,fun j y hy=>?_⟩;rw [List.getElem?_set] at hy;by_cases e:r=j
 ·subst e;rw [if_pos rfl,if_pos f] at hy;cases hy;have h:=b.own r _ hr;have h2:OSl T (hun N E.H) l s.v (ε r):=h;show OSl T N l s.v (ε r);exact h2.any fun x _=>hg _ x
 ·rw [if_neg e] at hy;exact b.own j y hy
namespace Hint
variable {P : Program}
def slv {α:Type} [Dat α] {l:List α} {s:Gh→SV} {g:Prop} (Γ:GdI g) (κ:Kw α l s) (lo hi:Option Int) (a b:Int) (ha:a=lo.getD 0) (hb:b=hi.getD l.length) (h:g→0≤a∧a≤b∧b≤l.length):Hint P where
 d:={ val:=fun G=>((s G).sub (Dat.size α) a.toNat b.toNat).v,rds:=κ.rdr }
 τ:=Option (TypeId × Value × Option Value × Option Value × Bool) × Option Nat × Value × Option Bool × (Option (Bool × (Ent→Heaplet→Prop)) × Bool)
 lhs c i G g _:=(c.R.slr G i,(sliceOf P (c.R.slt i)).bind (sizeT P),c.R.val i (RC.put G i {}),Γ.B.map fun _=>c.R.gd G i,κ.lhs c i G)
 rhs c i G _ _:=(some (c.R.slt i,κ.v G,lo.map (.int .i64 ·),hi.map (.int .i64 ·),true),some (Dat.size α),((s G).sub (Dat.size α) a.toNat b.toNat).v,Γ.B,κ.rhs G)
 sound c i ok hil hi h0:=fun o ho G w hs=>by
  have h1:=h0 G {} w;simp only [Prod.mk.injEq] at h1;obtain ⟨e1,e2,e3,e4,e5⟩:=h1;obtain ⟨b0,b1,b2⟩:=h (Cx.gdOk Γ hs e4);simp only [Option.bind_eq_some_iff] at e2;obtain ⟨E,e2,e6⟩:=e2;have hr:=κ.read ok hil hs e5;have f:=slice_does (w:=w) ho e1 e2 e6 ha hb hr.isSl b0 b1 b2;exact still_does hi rfl (fun g=>conj_nil hi rfl (fun _=>⟨rfl,rfl⟩) _) f e3
def sep {α:Type} [Dat α] {g:Prop} (Γ:GdI g) (n r:Nat) (E:TypeId) (t:Bool) (a p b:List α) (m:Nat) (hm:p.length=m) (s:Gh→SV) (k:Int) (x':α) (p2:List α) (hp:p2=p.set k.toNat x') (h:g→0≤k∧k < p.length) (hq:∀ H,Dat.good H x'):Hint P where
 d:={ val:=fun _=>undef,news:=[(r,fun G=>os t E (a ++p2 ++b) (s G),fun G=>(G n).e)] }
 τ:=Option (TypeId × Value × Value) × Option Nat × Option LE × Nat × Bool × List Value × SV × Option Bool
 lhs c i G g _:=(c.R.str G i,sizeT P (c.R.stt i),c.leAt i r G,i,(c.R.stv G i).cells.toList.all cell1,(c.R.stv G i).cells.toList,s (c.R.vis i (RC.put G i g)),Γ.B.map fun _=>c.R.gd G i)
 rhs c i G _ _:=(some (c.R.stt i,.pointer (some (elemAddr ((s G).sub (Dat.size α) a.length (a.length+m)).v (k.toNat * Dat.size α))),c.R.stv G i),some (c.R.stv G i).cells.toList.length,some (os t E (a ++p ++b) (s G)),n,true,Dat.cells x',s G,Γ.B)
 sound c i ok hil hi h0:=fun o ho G w hs=>by
  subst hm;have h1:=fun g=>h0 G g w
  simp only [Prod.mk.injEq] at h1;obtain ⟨e1,e2,e4,rfl,e6,e7,_,C⟩:=h1 {};obtain ⟨b0,b1⟩:=h (Cx.gdOk Γ hs C);have hw:c.R.wrE r i=true:=by unfold RC.wrE;rw [Cx.upsOf hi];simp
  obtain ⟨en,a1,a2,a3⟩:=Cx.own_at ok hil hs e4 (by rw [hw];simp);have j:OwnS E (Dat.size α) (rows (a ++p ++b)) (s G).v en∧∀ x ∈ a ++p ++b,Dat.good (c.J i G t) x:=by
   unfold os ow LE.at at a2;cases t
   ·exact ⟨a2.sl,a2.good⟩
   ·exact ⟨a2.sl,a2.good⟩
  have hk:k.toNat < p.length:=by omega
  have Q:(c.R.stv G i).cells.toList.length=Dat.size α:=by rw [e7];exact Dat.len _
  obtain ⟨f,w',hr,D,hg⟩:=storeOwn_does (w:=w) (k:=a.length+k.toNat) (off:=0) (row:=Dat.cells (p.getD k.toNat default)) ho e1 (mid_addr j.1 hk) e2 rfl j.1 a3 (get_map' (by simp;omega) (mid_get a p b _ hk).symm) (by omega) e6;unfold Does;rw [hr];have hv:=Cx.vis_self (c:=c) (i:=i) (G:=G) { e:=f };obtain ⟨_,_,_,_,_,_,I,_⟩:=h1 { e:=f };refine ⟨{ e:=f },left_turn ok hil hi hs rfl rfl a1 hg ?_ ?_ rfl rfl (by rw [Cx.valOf hi])⟩
  ·show (c.R.vis i (RC.put G i { e:=f }) i).e=_;rw [hv]
  ·show bif t then OSl E _ (a ++p2 ++b) _ _ else OSl E _ (a ++p2 ++b) _ _
   rw [hv,I];have e8:a ++p2 ++b=(a ++p ++b).set (a.length+k.toNat) x':=by rw [hp,mid_set _ _ _ _ _ hk]
   have A:OwnS E (Dat.size α) (rows (a ++p2 ++b)) (s G).v f:=by
    have:rows (a ++p2 ++b)=(rows (a ++p ++b)).set (a.length+k.toNat) (writeL (Dat.cells (p.getD k.toNat default)) 0 (c.R.stv G i).cells.toList):=by
     rw [e8,e7];have M:writeL (Dat.cells (p.getD k.toNat default)) 0 (Dat.cells x')=Dat.cells x':=by
      unfold writeL;rw [List.take_zero,List.nil_append,List.drop_of_length_le,List.append_nil];have l1:=Dat.len (p.getD k.toNat default);have l2:=Dat.len x';omega
     rw [M];simp [rows,List.map_set]
    rw [this];exact D
   have fin:∀ x ∈ a ++p2 ++b,Dat.good (c.J i G t) x:=fun y hy=>by
    rw [e8] at hy;rcases List.mem_or_eq_of_mem_set hy with hy | hy
    ·exact j.2 y hy
    ·rw [hy];exact hq _
   cases t
   ·exact ⟨A,fin⟩
   ·exact ⟨A,fin⟩
end Hint

open Go
namespace Dm
def Rt (l:List Int):Prop:=∀ x ∈ l, -9≤x∧x≤9
instance (l : List Int) : Decidable (Rt l) := by unfold Rt; infer_instance
theorem Rt6 {a b c d e f:Int}:Rt [a,b,c,d,e,f]↔(-9≤a∧a≤9)∧(-9≤b∧b≤9)∧(-9≤c∧c≤9)∧(-9≤d∧d≤9)∧(-9≤e∧e≤9)∧ -9≤f∧f≤9:=by
 unfold Rt;simp
def cpB (s p:ByteArray):Prop:=(p.size:Int)≤s.size∧s.extract 0 p.size=p
instance (s p : ByteArray) : Decidable (cpB s p) := by unfold cpB; infer_instance
def cpR (s p:ByteArray):ByteArray:=if cpB s p then s.extract p.size s.size else s
theorem cpR_size {s p:ByteArray}:(cpR s p).size≤s.size:=by
 unfold cpR;split
 ·rw [ByteArray.size_extract];omega
 ·omega
theorem size_ne {r:ByteArray} (h:¬ r=ByteArray.empty):r.size≠0:=fun h0=>h (by
 apply bl_inj;rw [bl_empty];exact List.eq_nil_of_length_eq_zero (by rw [bl_len];exact h0))
theorem Rt_all {l:List Int} (hl:l.length=6) (h:∀ j:Nat,j < 6→ -9≤l.getD j 0∧l.getD j 0≤9):Rt l:=fun x hx=>by
 obtain ⟨j,hj,rfl⟩:=List.mem_iff_getElem.1 hx
 have:=h j (by omega)
 simpa [List.getD_eq_getElem?_getD,hj] using this
theorem upto_succ {P:Nat→Prop} {k n:Nat} (hk:k=n) (h:∀ j,j < k→P j) (hp:P n):∀ j,j < n+1→P j:=fun j hj=>by
 by_cases e:j < k
 ·exact h j e
 ·have:j=n:=by omega
  subst this;exact hp
end Dm

namespace Bg
def nv:List Int→Nat
 | []=>0
 | d :: l=>d.toNat+1048576 * nv l
def digF:Nat→Nat→List Int
 | 0,_=>[]
 | f+1,n=>if n=0 then [] else ((n % 1048576:Nat):Int) :: digF f (n / 1048576)
def dig (n:Nat):List Int:=digF n n
def Dg (l:List Int):Prop:=∀ d ∈ l,0≤d∧d < 1048576
instance (l : List Int) : Decidable (Dg l) := by unfold Dg; infer_instance
theorem digF_fuel:∀ (f g n:Nat),n≤f→n≤g→digF f n=digF g n
 | 0,0,_,_,_=>rfl
 | 0,g+1,n,h,_=>by
  have:n=0:=by omega
  subst this;simp [digF]
 | f+1,0,n,_,h=>by
  have:n=0:=by omega
  subst this;simp [digF]
 | f+1,g+1,n,h1,h2=>by
  unfold digF;by_cases e:n=0
  ·rw [if_pos e,if_pos e]
  ·rw [if_neg e,if_neg e,digF_fuel f g (n / 1048576) (by omega) (by omega)]
theorem dig_zero:dig 0=[]:=rfl
theorem dig_pos {n:Nat} (h:n≠0):dig n=((n % 1048576:Nat):Int) :: dig (n / 1048576):=by
 unfold dig;obtain ⟨m,rfl⟩:∃ m,n=m+1:=⟨n - 1,by omega⟩;rw [digF,if_neg h,digF_fuel m _ ((m+1) / 1048576) (by omega) (Nat.le_refl _)]
theorem dig_Dg:∀ n:Nat,Dg (dig n):=fun n=>by
 induction n using Nat.strongRecOn with
 | _ n ih =>
  by_cases h:n=0
  ·subst h;intro d hd;cases hd
  ·rw [dig_pos h];intro d hd;rcases List.mem_cons.1 hd with rfl | hd
   ·omega
   ·exact ih _ (by omega) d hd
theorem nv_dig:∀ n:Nat,nv (dig n)=n:=fun n=>by
 induction n using Nat.strongRecOn with
 | _ n ih =>
  by_cases h:n=0
  ·subst h;rfl
  ·rw [dig_pos h,nv,ih _ (by omega)];simp only [Int.toNat_natCast];omega
def Nz (l:List Int):Prop:=l.getLast?≠some 0
instance (l : List Int) : Decidable (Nz l) := by unfold Nz; infer_instance
theorem Dg.tail {d:Int} {l:List Int} (h:Dg (d :: l)):Dg l:=fun x hx=>h x (List.mem_cons_of_mem _ hx)
theorem Dg.head {d:Int} {l:List Int} (h:Dg (d :: l)):0≤d∧d < 1048576:=h d List.mem_cons_self
theorem dig_ne {n:Nat}:dig n=[]↔n=0:=⟨fun h=>by have:=congrArg nv h;rwa [nv_dig] at this,fun h=>by subst h;rfl⟩
theorem dig_Nz:∀ n:Nat,Nz (dig n):=fun n=>by
 induction n using Nat.strongRecOn with
 | _ n ih =>
  by_cases h:n=0
  ·subst h;unfold Nz dig;simp [digF]
  ·rw [dig_pos h];by_cases e:n / 1048576=0
   ·rw [e];unfold Nz dig;simp [digF];omega
   ·unfold Nz;have h1:=ih (n / 1048576) (by omega);unfold Nz at h1;rw [List.getLast?_cons];cases hl:(dig (n / 1048576)).getLast? with
    | none=>exact absurd (List.getLast?_eq_none_iff.1 hl) (fun h=>e (dig_ne.1 h))
    | some x=>rw [hl] at h1;simpa using h1
theorem eq_dig:∀ {l:List Int},Dg l→Nz l→l=dig (nv l)
 | [],_,_=>rfl
 | d :: l,h,hz=>by
  have hd:=h.head;by_cases e:l=[]
  ·subst e;have h0:d≠0:=by intro e;subst e;exact hz rfl
   have e1:nv [d]=d.toNat:=by simp [nv]
   rw [e1,dig_pos (by omega),show d.toNat / 1048576=0 by omega,dig_zero]
   congr 1;omega
  ·have b:Nz l:=by
    unfold Nz at hz ⊢;rw [List.getLast?_cons] at hz;cases hl:l.getLast? with
    | none=>exact absurd (List.getLast?_eq_none_iff.1 hl) e
    | some x=>rw [hl] at hz;simpa using hz
   have ih:=eq_dig h.tail b;have hn:nv l≠0:=fun h0=>by rw [h0] at ih;exact e ih
   have e1:nv (d :: l)=d.toNat+1048576 * nv l:=rfl;rw [e1,dig_pos (by omega),show (d.toNat+1048576 * nv l) / 1048576=nv l by omega,← ih]
   congr 1;omega
theorem nv_append (a b:List Int):nv (a ++b)=nv a+1048576 ^ a.length * nv b:=by
 induction a with
 | nil=>simp [nv]
 | cons d a ih =>
  rw [List.cons_append,nv,nv,ih,List.length_cons,Nat.pow_succ,Nat.mul_add,Nat.mul_comm (1048576 ^ a.length) 1048576,Nat.mul_assoc];omega
theorem nv_zeros (n:Nat):nv (List.replicate n 0)=0:=by
 induction n with
 | zero=>rfl
 | succ n ih=>rw [List.replicate_succ,nv,ih];rfl
theorem nv_lt:∀ {l:List Int},Dg l→nv l < 1048576 ^ l.length
 | [],_=>by simp [nv]
 | d :: l,h=>by
  have ih:=nv_lt h.tail;have hd:=h.head;rw [nv,List.length_cons,Nat.pow_succ];omega
theorem nv_ge {l:List Int} (h:l≠[]) (hd:Dg l) (hz:Nz l):1048576 ^ (l.length - 1)≤nv l:=by
 have e:=List.dropLast_concat_getLast h;have hx:l.getLast h≠0:=by
  intro h0;apply hz;rw [List.getLast?_eq_some_getLast h,h0]
 have hr:=hd _ (List.getLast_mem h);have h2:=nv_append l.dropLast [l.getLast h];rw [e,List.length_dropLast] at h2;have h3:nv [l.getLast h]=(l.getLast h).toNat:=by simp [nv]
 rw [h2,h3]
 have:1≤(l.getLast h).toNat:=by omega
 have:=Nat.mul_le_mul_left (1048576 ^ (l.length - 1)) this
 omega
theorem nv_set:∀ {l:List Int} {i:Nat} (d:Int),i < l.length→nv (l.set i d)+1048576 ^ i * (l.getD i 0).toNat=nv l+1048576 ^ i * d.toNat
 | x :: l,0,d,_=>by simp [nv];omega
 | x :: l,i+1,d,h=>by
  have ih:=nv_set (l:=l) (i:=i) d (by simpa using h);rw [List.set_cons_succ,nv,nv,Nat.pow_succ,List.getD_cons_succ];generalize 1048576 ^ i=P at *;rw [Nat.mul_comm P 1048576,Nat.mul_assoc,Nat.mul_assoc];omega
theorem nv_take:∀ {l:List Int} {i:Nat},i < l.length→nv (l.take (i+1))=nv (l.take i)+1048576 ^ i * (l.getD i 0).toNat
 | x :: l,0,_=>by simp [nv]
 | x :: l,i+1,h=>by
  have ih:=nv_take (l:=l) (i:=i) (by simpa using h);rw [List.take_succ_cons,List.take_succ_cons,nv,nv,ih,Nat.pow_succ,List.getD_cons_succ];generalize 1048576 ^ i=P at *;rw [Nat.mul_comm P 1048576,Nat.mul_assoc];omega
theorem nv_drop:∀ {l:List Int} {i:Nat},i < l.length→nv (l.drop i)=(l.getD i 0).toNat+1048576 * nv (l.drop (i+1))
 | x :: l,0,_=>by simp [nv]
 | x :: l,i+1,h=>by
  rw [List.drop_succ_cons,List.drop_succ_cons,List.getD_cons_succ];exact nv_drop (l:=l) (i:=i) (by simpa using h)
theorem nv_split (l:List Int) (i:Nat):nv l=nv (l.take i)+1048576 ^ (min i l.length) * nv (l.drop i):=by
 have:=nv_append (l.take i) (l.drop i)
 rw [List.take_append_drop,List.length_take] at this;exact this
theorem Dg.get {l:List Int} (h:Dg l) {i:Nat} (hi:i < l.length):0≤l.getD i 0∧l.getD i 0 < 1048576:=by
 have:l.getD i 0 ∈ l:=by simp [List.getD_eq_getElem?_getD,hi]
 exact h _ this
theorem Dg.append {a b:List Int} (h:Dg a) (k:Dg b):Dg (a ++b):=fun d hd=>by
 rcases List.mem_append.1 hd with hd | hd
 ·exact h d hd
 ·exact k d hd
theorem Dg.set {l:List Int} (h:Dg l) {i:Nat} {d:Int} (hd:0≤d∧d < 1048576):Dg (l.set i d):=fun x hx=>by
 rcases List.mem_or_eq_of_mem_set hx with hx | rfl
 ·exact h x hx
 ·exact hd
theorem Dg.take {l:List Int} (h:Dg l) (n:Nat):Dg (l.take n):=fun d hd=>h d (List.mem_of_mem_take hd)
theorem Dg.drop {l:List Int} (h:Dg l) (n:Nat):Dg (l.drop n):=fun d hd=>h d (List.mem_of_mem_drop hd)
theorem Dg.zeros (n:Nat):Dg (List.replicate n 0):=fun d hd=>by
 have:=List.eq_of_mem_replicate hd
 subst this;omega
theorem Dg.nil:Dg []:=fun d hd=>by cases hd
theorem Dg.one {d:Int} (h:0≤d∧d < 1048576):Dg [d]:=fun x hx=>by
 have:x=d:=by simpa using hx
 subst this;exact h
theorem trim_eq {l:List Int} {n:Nat} (h:Dg l) (hn:n≤l.length) (hz:∀ i,n≤i→i < l.length→l.getD i 0=0) (h0:n=0∨l.getD (n - 1) 0≠0):l.take n=dig (nv l):=by
 have e:l.drop n=List.replicate (l.length - n) 0:=by
  refine List.ext_getElem (by simp) fun i h1 h2=>?_;simp only [List.length_drop] at h1
  have:=hz (n+i) (by omega) (by omega)
  simp only [List.getElem_drop,List.getElem_replicate]
  simpa [List.getD_eq_getElem?_getD,show n+i < l.length by omega] using this
 have e2:nv l=nv (l.take n):=by
  rw [nv_split l n,e,nv_zeros];omega
 rw [e2];refine eq_dig (h.take n) ?_;unfold Nz;rcases h0 with rfl | h0
 ·simp
 ·by_cases hn0:n=0
  ·subst hn0;simp
  ·rw [List.getLast?_eq_getElem?];simp only [List.length_take,Nat.min_eq_left hn];rw [List.getElem?_take,if_pos (by omega)];have hl:n - 1 < l.length:=by omega
   rw [List.getElem?_eq_getElem hl];intro hc;apply h0
   simpa [List.getD_eq_getElem?_getD,hl] using hc
end Bg

namespace Bg
theorem nv_take' (l:List Int) (i:Nat):nv (l.take (i+1))=nv (l.take i)+1048576 ^ i * (l.getD i 0).toNat:=by
 by_cases h:i < l.length
 ·exact nv_take h
 ·rw [List.take_of_length_le (by omega),List.take_of_length_le (by omega)];simp [List.getD_eq_getElem?_getD,List.getElem?_eq_none (show l.length≤i by omega)]
theorem Dg.get' {l:List Int} (h:Dg l) (i:Nat):0≤l.getD i 0∧l.getD i 0 < 1048576:=by
 by_cases hi:i < l.length
 ·exact h.get hi
 ·simp [List.getD_eq_getElem?_getD,List.getElem?_eq_none (show l.length≤i by omega)]
theorem pow_succ' (i:Nat):1048576 ^ (i+1)=1048576 * 1048576 ^ i:=by rw [Nat.pow_succ,Nat.mul_comm]
theorem split_mul (P q r n:Nat) (h:r+1048576 * q=n):P * r+1048576 * P * q=P * n:=by
 rw [←h,Nat.mul_add,Nat.mul_comm 1048576 P,Nat.mul_assoc]
structure AddI (a b d:List Int) (i:Nat) (c:Int):Prop where
 len:d.length=a.length+1
 dg:Dg d
 hi:∀ j,i≤j→d.getD j 0=0
 c0:0≤c∧c≤1
 sum:nv d+1048576 ^ i * c.toNat=nv (a.take i)+nv (b.take i)
theorem getD_set {l:List Int} {i j:Nat} {x:Int} (h:i < l.length):(l.set i x).getD j 0=if j=i then x else l.getD j 0:=by
 simp only [List.getD_eq_getElem?_getD,List.getElem?_set];by_cases e:i=j
 ·subst e;simp [h]
 ·rw [if_neg e,if_neg (fun h=>e h.symm)]
theorem add_start (a b:List Int):AddI a b (List.replicate (a.length+1) 0) 0 0 :=
 ⟨by simp,Dg.zeros _,fun j _=>by simp [List.getD_eq_getElem?_getD,List.getElem?_replicate];split <;> rfl,by omega,by rw [nv_zeros];simp [nv]⟩
theorem add_step {a b out:List Int} {i:Nat} {c x:Int} (h:AddI a b out i c) (ha:Dg a) (hb:Dg b) (hi:i < a.length) (hx:x=c+a.getD i 0+b.getD i 0):AddI a b (out.set i (x % 1048576)) (i+1) (x / 1048576):=by
 have b1:=ha.get' i;have b2:=hb.get' i;have b3:=h.c0;have hl:=h.len;have d:i < out.length:=by omega
 refine ⟨by rw [List.length_set];exact hl,h.dg.set (by omega),fun j hj=>?_,by omega,?_⟩
 ·rw [getD_set d,if_neg (by omega)];exact h.hi j (by omega)
 ·have e1:=nv_set (x % 1048576) d;have e2:=nv_take' a i;have e3:=nv_take' b i;have e4:=h.sum;rw [h.hi i (Nat.le_refl _)] at e1;rw [e2,e3,pow_succ'];have e5:=split_mul (1048576 ^ i) (x / 1048576).toNat (x % 1048576).toNat (c.toNat+(a.getD i 0).toNat+(b.getD i 0).toNat) (by omega);rw [Nat.mul_add,Nat.mul_add] at e5;simp only [Int.toNat_zero,Nat.mul_zero] at e1;omega
theorem add_end {a b d:List Int} {c:Int} (h:AddI a b d a.length c) (hb:b.length≤a.length):Dg (d.set a.length c)∧nv (d.set a.length c)=nv a+nv b:=by
 have hl:=h.len;have b3:=h.c0;refine ⟨h.dg.set (by omega),?_⟩;have e1:=nv_set c (show a.length < d.length by omega);have e4:=h.sum;rw [h.hi _ (Nat.le_refl _)] at e1;rw [List.take_length,List.take_of_length_le hb] at e4;simp only [Int.toNat_zero,Nat.mul_zero] at e1;omega
structure SubI (a b d:List Int) (i:Nat) (c:Int):Prop where
 len:d.length=a.length
 dg:Dg d
 c0:0≤c∧c≤1
 sum:nv d+nv (b.take i)=nv a+1048576 ^ i * c.toNat
theorem sub_start (a b:List Int) (h:Dg a):SubI a b a 0 0:=⟨rfl,h,by omega,by simp [nv]⟩
theorem sub_step {a b out:List Int} {i:Nat} {c x:Int} (h:SubI a b out i c) (hb:Dg b) (hi:i < a.length) (hx:x=out.getD i 0 - c - b.getD i 0):SubI a b (out.set i (x % 1048576)) (i+1) (x / 1048576 % 2):=by
 have b1:=h.dg.get' i;have b2:=hb.get' i;have b3:=h.c0;have hl:=h.len;have d:i < out.length:=by omega
 refine ⟨by rw [List.length_set];exact hl,h.dg.set (by omega),by omega,?_⟩;have e1:=nv_set (x % 1048576) d;have e3:=nv_take' b i;have e4:=h.sum;rw [e3,pow_succ'];have e5:(x % 1048576).toNat+(b.getD i 0).toNat+c.toNat=(out.getD i 0).toNat+1048576 * (x / 1048576 % 2).toNat:=by omega
 have e6:=congrArg (fun n=>1048576 ^ i * n) e5;simp only [Nat.mul_add] at e6;rw [←Nat.mul_assoc,Nat.mul_comm (1048576 ^ i) 1048576] at e6;omega
theorem len_le {a b:List Int} (ha:Dg a) (hb:Dg b) (hz:Nz b) (h:nv b≤nv a):b.length≤a.length:=by
 by_cases e:b=[]
 ·subst e;simp
 ·have h1:=nv_ge e hb hz;have h2:=nv_lt ha;refine Decidable.by_contra fun hc=>?_
  have:1048576 ^ a.length≤1048576 ^ (b.length - 1):=Nat.pow_le_pow_right (by omega) (by omega)
  omega
theorem sub_end {a b d:List Int} {c:Int} (h:SubI a b d a.length c) (hb:b.length≤a.length) (f:nv b≤nv a):nv d=nv a - nv b:=by
 have e4:=h.sum;rw [List.take_of_length_le hb] at e4;have h2:=nv_lt h.dg;rw [h.len] at h2;have b3:=h.c0;have hc:c.toNat=0∨c.toNat=1:=by omega
 rcases hc with hc | hc <;> rw [hc] at e4 <;> omega
structure MulO (a b d:List Int) (i:Nat):Prop where
 len:d.length=a.length+b.length
 dg:Dg d
 hi:∀ j,i+b.length≤j→d.getD j 0=0
 sum:nv d=nv (a.take i) * nv b
structure MulI (a b d:List Int) (i k:Nat) (c:Int):Prop where
 len:d.length=a.length+b.length
 dg:Dg d
 hi:∀ j,i+b.length≤j→d.getD j 0=0
 c0:0≤c∧c < 1048576
 sum:nv d+1048576 ^ (i+k) * c.toNat=nv (a.take i) * nv b+1048576 ^ i * ((a.getD i 0).toNat * nv (b.take k))
theorem mul_start (a b:List Int):MulO a b (List.replicate (a.length+b.length) 0) 0 :=
 ⟨by simp,Dg.zeros _,fun j _=>by simp [List.getD_eq_getElem?_getD,List.getElem?_replicate];split <;> rfl,by rw [nv_zeros];simp [nv]⟩
theorem MulO.inner {a b d:List Int} {i:Nat} (h:MulO a b d i):MulI a b d i 0 0:=⟨h.len,h.dg,h.hi,by omega,by rw [h.sum];simp [nv]⟩
theorem mul_step {a b out:List Int} {i k:Nat} {c x:Int} (h:MulI a b out i k c) (ha:Dg a) (hb:Dg b) (hi:i < a.length) (hk:k < b.length) (hx:x=out.getD (i+k) 0+a.getD i 0 * b.getD k 0+c) :
  (0≤x∧x < 1099511627776)∧MulI a b (out.set (i+k) (x % 1048576)) i (k+1) (x / 1048576):=by
 have b1:=h.dg.get' (i+k);have b2:=ha.get' i;have b3:=hb.get' k;have b4:=h.c0;have hl:=h.len;have d:i+k < out.length:=by omega
 have p0:0≤a.getD i 0 * b.getD k 0:=Int.mul_nonneg b2.1 b3.1;have p1:a.getD i 0 * b.getD k 0≤1048575 * 1048575:=Int.mul_le_mul (by omega) (by omega) b3.1 (by omega);have ex:x.toNat=(out.getD (i+k) 0).toNat+(a.getD i 0).toNat * (b.getD k 0).toNat+c.toNat:=by
  have:(a.getD i 0 * b.getD k 0).toNat=(a.getD i 0).toNat * (b.getD k 0).toNat:=Int.toNat_mul b2.1 b3.1
  rw [←this];omega
 refine ⟨by omega,by rw [List.length_set];exact hl,h.dg.set (by omega),fun j hj=>?_,by omega,?_⟩
 ·rw [getD_set d,if_neg (by omega)];exact h.hi j (by omega)
 ·have e1:=nv_set (x % 1048576) d;have e3:=nv_take' b k;have e4:=h.sum;rw [e3,show i+(k+1)=(i+k)+1 by omega,pow_succ'];have e5:=split_mul (1048576 ^ (i+k)) (x / 1048576).toNat (x % 1048576).toNat x.toNat (by omega);rw [ex,Nat.mul_add,Nat.mul_add] at e5;have e6:1048576 ^ i * ((a.getD i 0).toNat * (nv (b.take k)+1048576 ^ k * (b.getD k 0).toNat))=1048576 ^ i * ((a.getD i 0).toNat * nv (b.take k))+1048576 ^ (i+k) * ((a.getD i 0).toNat * (b.getD k 0).toNat):=by
   rw [Nat.mul_add,Nat.mul_add,Nat.pow_add,Nat.mul_assoc,Nat.mul_left_comm (a.getD i 0).toNat]
  rw [e6];omega
theorem mul_end {a b out:List Int} {i:Nat} {c x:Int} (h:MulI a b out i b.length c) (hi:i < a.length) (hx:x=out.getD (i+b.length) 0+c):MulO a b (out.set (i+b.length) x) (i+1):=by
 have hl:=h.len;have b4:=h.c0;have d:i+b.length < out.length:=by omega
 rw [h.hi _ (Nat.le_refl _)] at hx;have f:x=c:=by omega
 subst f;refine ⟨by rw [List.length_set];exact hl,h.dg.set b4,fun j hj=>?_,?_⟩
 ·rw [getD_set d,if_neg (by omega)];exact h.hi j (by omega)
 ·have e1:=nv_set x d;have e4:=h.sum;rw [h.hi _ (Nat.le_refl _)] at e1;rw [List.take_length] at e4;rw [nv_take',Nat.add_mul,Nat.mul_assoc];simp only [Int.toNat_zero,Nat.mul_zero] at e1;omega
structure ShoI (a b:List Int) (d:Int) (i:Nat) (r:Int):Prop where
 len:b.length=a.length
 dg:Dg b
 r0:0≤r∧r < d
 sum:nv (a.drop i)=d.toNat * nv (b.drop i)+r.toNat
theorem sho_start (a:List Int) {d:Int} (hd:0 < d):ShoI a (List.replicate a.length 0) d a.length 0:=⟨by simp,Dg.zeros _,by omega,by simp [nv]⟩
theorem sho_step {a out:List Int} {d r x:Int} {i:Nat} (h:ShoI a out d (i+1) r) (ha:Dg a) (hd:0 < d∧d < 1048576) (hi:i < a.length) (hx:x=r * 1048576+a.getD i 0) :
  (0≤x∧x < 1099511627776)∧(0≤x / d∧x / d < 1048576)∧ShoI a (out.set i (x / d)) d i (x % d):=by
 have b1:=ha.get' i;have b2:=h.r0;have hl:=h.len;have q0:0≤x / d:=Int.ediv_nonneg (by omega) (by omega);have q1:x / d < 1048576:=Int.ediv_lt_of_lt_mul (by omega) (by
  have:(r+1) * 1048576≤d * 1048576:=Int.mul_le_mul_of_nonneg_right (by omega) (by omega)
  rw [Int.mul_comm 1048576 d];omega)
 refine ⟨by omega,⟨q0,q1⟩,by rw [List.length_set];exact hl,h.dg.set ⟨q0,q1⟩,⟨Int.emod_nonneg _ (by omega),Int.emod_lt_of_pos _ (by omega)⟩,?_⟩;have b:i < out.length:=by omega
 rw [nv_drop hi,nv_drop (l:=out.set i (x / d)) (by rw [List.length_set];exact b),getD_set b,if_pos rfl,h.sum];have e:(out.set i (x / d)).drop (i+1)=out.drop (i+1):=by rw [List.drop_set,if_pos (by omega)]
 rw [e];have e2:=Int.mul_ediv_add_emod x d;have e4:0≤x % d:=Int.emod_nonneg _ (by omega);have e3:(a.getD i 0).toNat+1048576 * r.toNat=d.toNat * (x / d).toNat+(x % d).toNat:=by
  have:d.toNat * (x / d).toNat=(d * (x / d)).toNat:=(Int.toNat_mul (by omega) q0).symm
  have h5:0≤d * (x / d):=Int.mul_nonneg (by omega) q0;rw [this];omega
 rw [Nat.mul_add,Nat.mul_add,Nat.mul_left_comm d.toNat];omega
theorem sho_end {a b:List Int} {d r:Int} (h:ShoI a b d 0 r):nv b=nv a / d.toNat∧r=((nv a % d.toNat:Nat):Int):=by
 have e:=h.sum;rw [List.drop_zero,List.drop_zero] at e;have hr:=h.r0;have hd:0 < d.toNat:=by omega
 rw [e,Nat.mul_add_div hd,Nat.mul_add_mod,Nat.div_eq_of_lt (by omega),Nat.mod_eq_of_lt (by omega)];omega
end Bg

namespace Bg
def digL:Nat→Nat→List Int
 | 0,_=>[]
 | L+1,n=>((n % 1048576:Nat):Int) :: digL L (n / 1048576)
@[simp] theorem digL_len:∀ L n,(digL L n).length=L
 | 0,_=>rfl
 | L+1,n=>by simp [digL,digL_len L]
theorem digL_Dg:∀ L n,Dg (digL L n)
 | 0,_=>Dg.nil
 | L+1,n=>fun d hd=>by
  rw [digL] at hd;rcases List.mem_cons.1 hd with rfl | hd
  ·omega
  ·exact digL_Dg L _ d hd
theorem nv_digL:∀ L n,n < 1048576 ^ L→nv (digL L n)=n
 | 0,n,h=>by simp at h;subst h;rfl
 | L+1,n,h=>by
  rw [digL,nv,nv_digL L (n / 1048576) (by rw [pow_succ'] at h;exact Nat.div_lt_of_lt_mul h)];simp only [Int.toNat_natCast];omega
theorem eq_digL:∀ {L:Nat} {l:List Int},l.length=L→Dg l→l=digL L (nv l)
 | 0,[],_,_=>rfl
 | L+1,d :: l,h,hd=>by
  have b:=hd.head;have ih:=eq_digL (L:=L) (l:=l) (by simpa using h) hd.tail;have e1:nv (d :: l)=d.toNat+1048576 * nv l:=rfl;rw [e1,digL,show (d.toNat+1048576 * nv l) / 1048576=nv l by omega,← ih]
  congr 1;omega
structure SetI (p v b:List Int) (g:Int) (i:Nat) (c:Int):Prop where
 len:b.length=p.length
 dg:Dg b
 c0:0≤c∧c≤1048575
 sum:nv b+g.toNat * nv (v.take i)=nv p+1048576 ^ i * c.toNat
theorem set_start (p v:List Int) (g:Int) (h:Dg p):SetI p v p g 0 0:=⟨rfl,h,by omega,by simp [nv]⟩
theorem set_step {p v cur:List Int} {g c x:Int} {i:Nat} (h:SetI p v cur g i c) (hv:Dg v) (hg:0≤g∧g < 1048576) (hi:i < p.length) (hx:x=cur.getD i 0 - c - g * v.getD i 0) :
  (-1099511627776≤x∧x < 1048576)∧SetI p v (cur.set i (x % 1048576)) g (i+1) (-(x / 1048576)):=by
 have b1:=h.dg.get' i;have b2:=hv.get' i;have b3:=h.c0;have hl:=h.len;have b:i < cur.length:=by omega
 have p0:0≤g * v.getD i 0:=Int.mul_nonneg hg.1 b2.1;have p1:g * v.getD i 0≤1048575 * 1048575:=Int.mul_le_mul (by omega) (by omega) b2.1 (by omega);have ex:(g * v.getD i 0).toNat=g.toNat * (v.getD i 0).toNat:=Int.toNat_mul hg.1 b2.1;refine ⟨by omega,by rw [List.length_set];exact hl,h.dg.set (by omega),by omega,?_⟩;have e1:=nv_set (x % 1048576) b;have e3:=nv_take' v i;have e4:=h.sum;rw [e3,pow_succ',Nat.mul_add];have e5:(x % 1048576).toNat+(g * v.getD i 0).toNat+c.toNat=(cur.getD i 0).toNat+1048576 * (-(x / 1048576)).toNat:=by omega
 rw [ex] at e5;have e6:=congrArg (fun n=>1048576 ^ i * n) e5;simp only [Nat.mul_add] at e6;rw [←Nat.mul_assoc (1048576 ^ i) 1048576,Nat.mul_comm (1048576 ^ i) 1048576] at e6;rw [Nat.mul_left_comm g.toNat];omega
def setG (p v:List Int) (g:Int):Int:=if g.toNat * nv v≤nv p then g else g - 1
def setP (p v:List Int) (g:Int):List Int:=digL p.length (nv p - (setG p v g).toNat * nv v)
theorem set_mid {p v b:List Int} {g c:Int} (h:SetI p v b g p.length c) (hl:v.length≤p.length) (hg:0≤g) :
  (c=0↔g.toNat * nv v≤nv p)∧(c=0→b=setP p v g):=by
 have e4:=h.sum;rw [List.take_of_length_le hl] at e4;have b3:=h.c0;have h2:=nv_lt h.dg;rw [h.len] at h2;have d:c=0↔g.toNat * nv v≤nv p:=by
  constructor
  ·intro e;subst e
   have:(0:Int).toNat=0:=rfl
   rw [this] at e4;omega
  ·intro f;refine Decidable.by_contra fun hc=>?_
   have:1≤c.toNat:=by omega
   have:=Nat.mul_le_mul_left (1048576 ^ p.length) this
   omega
 refine ⟨d,fun hc=>?_⟩;have f:=d.1 hc;unfold setP setG;rw [if_pos f,eq_digL h.len h.dg]
 congr 1
 subst hc
 have:(0:Int).toNat=0:=rfl
 rw [this] at e4;omega
structure BakI (p v b:List Int) (i:Nat) (c:Int):Prop where
 len:b.length=p.length
 dg:Dg b
 c0:0≤c∧c≤1
 sum:nv b+1048576 ^ i * c.toNat=nv p+nv (v.take i)
theorem bak_start (p v:List Int) (h:Dg p):BakI p v p 0 0:=⟨rfl,h,by omega,by simp [nv]⟩
theorem bak_step {p v cur:List Int} {c x:Int} {i:Nat} (h:BakI p v cur i c) (hv:Dg v) (hi:i < p.length) (hx:x=c+cur.getD i 0+v.getD i 0):BakI p v (cur.set i (x % 1048576)) (i+1) (x / 1048576):=by
 have b1:=h.dg.get' i;have b2:=hv.get' i;have b3:=h.c0;have hl:=h.len;have b:i < cur.length:=by omega
 refine ⟨by rw [List.length_set];exact hl,h.dg.set (by omega),by omega,?_⟩;have e1:=nv_set (x % 1048576) b;have e3:=nv_take' v i;have e4:=h.sum;rw [e3,pow_succ'];have e5:=split_mul (1048576 ^ i) (x / 1048576).toNat (x % 1048576).toNat (c.toNat+(cur.getD i 0).toNat+(v.getD i 0).toNat) (by omega);rw [Nat.mul_add,Nat.mul_add] at e5;omega
theorem set_end {p v d b:List Int} {g c k:Int} (h:SetI p v d g p.length c) (hb:BakI d v b p.length k) (hd:Dg p) (hl:v.length≤p.length) (hg:0≤g) (hc:¬ c=0) (h1:(g.toNat - 1) * nv v≤nv p):g - 1=setG p v g∧b=setP p v g:=by
 have hm:=(set_mid h hl hg).1;have hn:¬ g.toNat * nv v≤nv p:=fun hh=>hc (hm.2 hh)
 have i:1≤g.toNat:=by
  refine Decidable.by_contra fun hh=>hn ?_
  rw [show g.toNat=0 by omega];omega
 have e4:=h.sum;have e5:=hb.sum;rw [List.take_of_length_le hl] at e4 e5;have b1:=nv_lt hb.dg;rw [hb.len,h.len] at b1;have b2:=nv_lt hd;have eG:setG p v g=g - 1:=by unfold setG;rw [if_neg hn]
 refine ⟨eG.symm,?_⟩;unfold setP;rw [eG,eq_digL (hb.len.trans h.len) hb.dg]
 congr 1
 have e6:g.toNat * nv v=(g.toNat - 1) * nv v+nv v:=by
  obtain ⟨m,hm⟩:∃ m,g.toNat=m+1:=⟨g.toNat - 1,by omega⟩;rw [hm,Nat.add_mul];simp
 have e7:(g - 1).toNat=g.toNat - 1:=by omega
 rw [e7];have hk:=hb.c0;have j:1048576 ^ p.length * k.toNat=1048576 ^ p.length * c.toNat:=by
  have f:nv b+1048576 ^ p.length * k.toNat+(g.toNat - 1) * nv v=nv p+1048576 ^ p.length * c.toNat:=by omega
  have hP:0 < 1048576 ^ p.length:=Nat.pow_pos (by omega);generalize 1048576 ^ p.length=P at *
  have:k.toNat=c.toNat:=by
   rcases Nat.lt_trichotomy k.toNat c.toNat with hlt | heq | hgt
   ·exfalso
    have:=Nat.mul_le_mul_left P (show k.toNat+1≤c.toNat from hlt)
    rw [Nat.mul_add] at this;omega
   ·exact heq
   ·exfalso
    have:=Nat.mul_le_mul_left P (show c.toNat+1≤k.toNat from hgt)
    rw [Nat.mul_add] at this;omega
  rw [this]
 omega
theorem guess_less {q g:Nat} {top v1 v2 u2 rest V U Rv Ru P:Nat} (hU:U=(top * 1048576+u2) * P+Ru) (hV:V=(v1 * 1048576+v2) * P+Rv) (b:Ru < P) (hr:rest+g * v1=top) (hq:q * V≤U) (d:q≤g) (f:rest * 1048576+u2 < g * v2):q+1≤g:=by
 refine Decidable.by_contra fun hc=>?_;have e:q=g:=by omega
 subst e;have h1:q * (v1 * 1048576+v2)=(q * v1) * 1048576+q * v2:=by rw [Nat.mul_add,Nat.mul_assoc]
 have h2:top * 1048576+u2+1≤q * (v1 * 1048576+v2):=by rw [h1,← hr];omega
 have h3:(top * 1048576+u2+1) * P≤q * (v1 * 1048576+v2) * P:=Nat.mul_le_mul_right P h2;have h4:q * V=q * (v1 * 1048576+v2) * P+q * Rv:=by rw [hV,Nat.mul_add,Nat.mul_assoc]
 rw [Nat.add_mul] at h3;omega
theorem guess_fits {g top v1 v2 u2 rest V U Rv Ru P:Nat} (hU:U=(top * 1048576+u2) * P+Ru) (hV:V=(v1 * 1048576+v2) * P+Rv) (d:Rv < P) (hr:rest+g * v1=top) (b:1≤v1) (f:v2 < 1048576) (hg:g < 1048576) (hf:1048576≤rest∨g * v2≤rest * 1048576+u2):(g - 1) * V≤U:=by
 have h:g * v2≤rest * 1048576+u2:=by
  rcases hf with hf | hf
  ·have:g * v2≤1048575 * 1048575:=Nat.mul_le_mul (by omega) (by omega)
   omega
  ·exact hf
 by_cases h0:g=0
 ·subst h0;simp
 ·have h1:g * (v1 * 1048576+v2)=(g * v1) * 1048576+g * v2:=by rw [Nat.mul_add,Nat.mul_assoc]
  have h2:g * (v1 * 1048576+v2)≤top * 1048576+u2:=by rw [h1,← hr];omega
  have h3:=Nat.mul_le_mul_right P h2;have h4:g * V=g * (v1 * 1048576+v2) * P+g * Rv:=by rw [hV,Nat.mul_add,Nat.mul_assoc]
  have h5:g * Rv≤1048576 * P:=Nat.mul_le_mul (by omega) (by omega);have h6:1048576 * P≤v1 * 1048576 * P:=by
   have:=Nat.mul_le_mul_right (1048576 * P) b
   rw [Nat.one_mul] at this;rw [Nat.mul_assoc];exact this
  have h7:V=v1 * 1048576 * P+v2 * P+Rv:=by rw [hV,Nat.add_mul]
  have h8:g * V=(g - 1) * V+V:=by
   obtain ⟨m,hm⟩:∃ m,g=m+1:=⟨g - 1,by omega⟩;subst hm;rw [Nat.add_mul];simp
  omega
end Bg

namespace Bg
structure DivI (u0 v u q:List Int) (i:Nat):Prop where
 len:u.length=q.length+v.length
 dg:Dg u
 qd:Dg q
 lt:nv (u.drop i) < nv v
 sum:nv u0=nv u+1048576 ^ i * (nv (q.drop i) * nv v)
theorem ar3 (B P x y z w:Nat):w+P * z+B * P * y+B * (B * P) * x=((x * B+y) * B+z) * P+w:=by grind
theorem ar2 (B P x y w:Nat):w+P * y+B * P * x=(x * B+y) * P+w:=by grind
theorem nv_head (l:List Int) (n:Nat) (h:n+2≤l.length):nv (l.take (n+2))=((l.getD (n+1) 0).toNat * 1048576+(l.getD n 0).toNat) * 1048576 ^ n+nv (l.take n):=by
 rw [nv_take' l (n+1),nv_take' l n,pow_succ'];exact ar2 _ _ _ _ _
theorem nv_head3 (l:List Int) (n:Nat) (h:n+3≤l.length):nv (l.take (n+3))=(((l.getD (n+2) 0).toNat * 1048576+(l.getD (n+1) 0).toNat) * 1048576+(l.getD n 0).toNat) * 1048576 ^ n+nv (l.take n):=by
 rw [nv_take' l (n+2),nv_take' l (n+1),nv_take' l n,pow_succ' (n+1),pow_succ'];exact ar3 _ _ _ _ _ _
theorem take_lt {l:List Int} (h:Dg l) (n:Nat):nv (l.take n) < 1048576 ^ n:=by
 have:=nv_lt (h.take n)
 rw [List.length_take] at this;have h2:1048576 ^ (min n l.length)≤1048576 ^ n:=Nat.pow_le_pow_right (by omega) (by omega);omega
theorem getD_drop (l:List Int) (k i:Nat):(l.drop k).getD i 0=l.getD (k+i) 0:=by
 simp [List.getD_eq_getElem?_getD,List.getElem?_drop]
section
variable {u0 v u q : List Int} {k : Nat}
def win (u:List Int) (k n:Nat):List Int:=(u.drop k).take (n+1)
theorem win_len (h:DivI u0 v u q (k+1)) (hk:k < q.length):(win u k v.length).length=v.length+1:=by
 unfold win;rw [List.length_take,List.length_drop,h.len];omega
theorem win_ar {B P U W X V:Nat} (h6:U=W+B * P * X) (h4:U < B * V) (h5:V < P):X=0:=by
 refine Decidable.by_contra fun hc=>?_;have h1:=Nat.mul_le_mul_left B (Nat.le_of_lt h5)
 have h2:=Nat.mul_le_mul_left (B * P) (Nat.pos_of_ne_zero hc);rw [Nat.mul_one] at h2;omega
theorem win_nv (h:DivI u0 v u q (k+1)) (hv:Dg v) (hk:k < q.length):nv (u.drop k)=nv (win u k v.length)∧nv (win u k v.length) < 1048576 * nv v∧nv (u.drop (k+v.length+1))=0:=by
 have h1:=nv_drop (l:=u) (i:=k) (by rw [h.len];omega);have h2:=h.lt;have h3:=h.dg.get' k;have h4:nv (u.drop k) < 1048576 * nv v:=by omega
 have h5:=nv_lt hv;have h6:=nv_split (u.drop k) (v.length+1);rw [List.length_drop,h.len,Nat.min_eq_left (by omega),List.drop_drop] at h6;rw [pow_succ'] at h6;have h7:nv (u.drop (k+(v.length+1)))=0:=win_ar h6 h4 h5;rw [h7,Nat.mul_zero,Nat.add_zero] at h6;exact ⟨by unfold win;exact h6,by unfold win;rw [←h6];exact h4,by rw [Nat.add_assoc];exact h7⟩
def qk (v u:List Int) (k:Nat):Nat:=nv (win u k v.length) / nv v
theorem qk_is (h:DivI u0 v u q (k+1)) (hv:Dg v) (hk:k < q.length):qk v u k < 1048576∧qk v u k * nv v≤nv (win u k v.length)∧nv (win u k v.length) - qk v u k * nv v < nv v:=by
 obtain ⟨h1,h2,h3⟩:=win_nv h hv hk;have hp:0 < nv v:=by have:=h.lt;omega
 refine ⟨Nat.div_lt_of_lt_mul (by rw [Nat.mul_comm];exact h2),Nat.div_mul_le_self _ _,?_⟩
 have:=Nat.mod_lt (nv (win u k v.length)) hp
 rw [Nat.mod_eq_sub_mul_div,Nat.mul_comm] at this;exact this
theorem win_head (h:DivI u0 v u q (k+1)) (hk:k < q.length) {n:Nat} (hn:v.length=n+2) :
  nv (win u k v.length)=(((u.getD (k+n+2) 0).toNat * 1048576+(u.getD (k+n+1) 0).toNat) * 1048576+(u.getD (k+n) 0).toNat) * 1048576 ^ n+nv ((u.drop k).take n):=by
 unfold win;rw [hn,nv_head3 _ _ (by rw [List.length_drop,h.len];omega),getD_drop,getD_drop,getD_drop];rfl
theorem v_head {n:Nat} (hn:v.length=n+2):nv v=((v.getD (n+1) 0).toNat * 1048576+(v.getD n 0).toNat) * 1048576 ^ n+nv (v.take n):=by
 have:=nv_head v n (by omega)
 rwa [←hn,List.take_length] at this
theorem toNat_div {a b:Int} (ha:0≤a) (hb:0≤b):(a / b).toNat=a.toNat / b.toNat:=by
 obtain ⟨m,rfl⟩:=Int.eq_ofNat_of_zero_le ha;obtain ⟨n,rfl⟩:=Int.eq_ofNat_of_zero_le hb;rw [←Int.natCast_ediv,Int.toNat_natCast,Int.toNat_natCast,Int.toNat_natCast]
theorem guess_ge {q top v1 v2 u2 V U Rv Ru P B:Nat} (hU:U=(top * B+u2) * P+Ru) (hV:V=(v1 * B+v2) * P+Rv) (d:u2 < B) (f:Ru < P) (hq:q * V≤U):q * v1≤top:=by
 refine Decidable.by_contra fun hc=>?_;have b:top+1≤q * v1:=by omega
 have m1:=Nat.mul_le_mul_right (B * P) b;have m2:q * v1 * (B * P)≤q * V:=by
  rw [Nat.mul_assoc];refine Nat.mul_le_mul_left _ ?_;rw [hV,Nat.add_mul,Nat.mul_assoc];omega
 have m3:(top * B+u2+1) * P≤((top+1) * B) * P:=Nat.mul_le_mul_right _ (by rw [Nat.add_mul,Nat.one_mul];omega);rw [←Nat.mul_assoc] at m1;rw [Nat.add_mul (top * B+u2) 1,Nat.one_mul] at m3;omega
structure Gss (v u:List Int) (k:Nat) (g r:Int):Prop where
 g0:0≤g
 g1:g≤1099511627776
 r0:0≤r
 eq:r+g * v.getD (v.length - 1) 0=u.getD (k+v.length) 0 * 1048576+u.getD (k+v.length - 1) 0
 ge:qk v u k≤g.toNat
theorem gss_nat {g r:Int} (h:Gss v u k g r) (hu:Dg u) (hv:Dg v):r.toNat+g.toNat * (v.getD (v.length - 1) 0).toNat=(u.getD (k+v.length) 0).toNat * 1048576+(u.getD (k+v.length - 1) 0).toNat:=by
 have a:=hv.get' (v.length - 1);have b:=hu.get' (k+v.length);have c:=hu.get' (k+v.length - 1);have e:=h.eq
 have:=h.g0;have:=h.r0
 have e2:(g * v.getD (v.length - 1) 0).toNat=g.toNat * (v.getD (v.length - 1) 0).toNat:=Int.toNat_mul h.g0 a.1;have e3:0≤g * v.getD (v.length - 1) 0:=Int.mul_nonneg h.g0 a.1;rw [←e2];omega
theorem gss_start (h:DivI u0 v u q (k+1)) (hv:Dg v) (hk:k < q.length) (h2:2≤v.length) (hz:0 < v.getD (v.length - 1) 0) {t g r:Int} (ht:t=u.getD (k+v.length) 0 * 1048576+u.getD (k+v.length - 1) 0) (hg:g=t / v.getD (v.length - 1) 0) (hr:r=t % v.getD (v.length - 1) 0):Gss v u k g r:=by
 obtain ⟨n,hn⟩:∃ n,v.length=n+2:=⟨v.length - 2,by omega⟩;have b:=h.dg.get' (k+v.length);have c:=h.dg.get' (k+v.length - 1);have a:=hv.get' (v.length - 1);have t0:0≤t∧t < 1099511627776:=by omega
 have d:0≤g:=by rw [hg];exact Int.ediv_nonneg t0.1 (by omega)
 have f:g≤t:=by rw [hg];exact Int.ediv_le_self _ t0.1
 refine ⟨d,by omega,by rw [hr];exact Int.emod_nonneg _ (by omega),?_,?_⟩
 ·rw [hg,hr,← ht,Int.mul_comm];have:=Int.mul_ediv_add_emod t (v.getD (v.length - 1) 0);omega
 ·obtain ⟨q1,q2,q3⟩:=qk_is h hv hk;have e1:=win_head h hk hn;have e2:=v_head hn;have e3:=take_lt (h.dg.drop k) n;rw [hn,show n+2 - 1=n+1 by omega] at hg a hz;rw [hn,show k+(n+2)=k+n+2 by omega,show k+n+2 - 1=k+n+1 by omega] at ht c;rw [hn,show k+(n+2)=k+n+2 by omega] at b;rw [hn] at e1 q2;have c2:=h.dg.get' (k+n);have et:t.toNat=(u.getD (k+n+2) 0).toNat * 1048576+(u.getD (k+n+1) 0).toNat:=by omega
  have e4:qk v u k * (v.getD (n+1) 0).toNat≤t.toNat:=by
   rw [et];exact guess_ge (u2:=(u.getD (k+n) 0).toNat) e1 e2 (by omega) e3 q2
  have e5:qk v u k≤t.toNat / (v.getD (n+1) 0).toNat:=(Nat.le_div_iff_mul_le (by omega)).2 e4;have e6:g.toNat=t.toNat / (v.getD (n+1) 0).toNat:=by rw [hg];exact toNat_div t0.1 (by omega)
  omega
theorem gss_less {g r:Int} (hG:Gss v u k g r) (h:DivI u0 v u q (k+1)) (hv:Dg v) (hk:k < q.length) (h2:2≤v.length) (hz:0 < v.getD (v.length - 1) 0)
  (hc:1048576≤g∨r < 1048576∧r * 1048576+u.getD (k+v.length - 2) 0 < g * v.getD (v.length - 2) 0):Gss v u k (g - 1) (r+v.getD (v.length - 1) 0)∧0 < g:=by
 obtain ⟨q1,q2,q3⟩:=qk_is h hv hk;have b:qk v u k+1≤g.toNat:=by
  rcases hc with hc | ⟨_,hc⟩
  ·omega
  ·obtain ⟨n,hn⟩:∃ n,v.length=n+2:=⟨v.length - 2,by omega⟩;have e1:=win_head h hk hn;have e2:=v_head hn;have e3:=take_lt (h.dg.drop k) n;have e4:=gss_nat hG h.dg hv;rw [hn,show n+2 - 1=n+1 by omega,show k+(n+2)=k+n+2 by omega,show k+n+2 - 1=k+n+1 by omega] at e4;rw [hn,show k+(n+2) - 2=k+n by omega,show n+2 - 2=n by omega] at hc;have a:=hv.get' n;have c:=h.dg.get' (k+n)
   have:=hG.g0;have:=hG.r0
   refine guess_less (top:=(u.getD (k+n+2) 0).toNat * 1048576+(u.getD (k+n+1) 0).toNat) (u2:=(u.getD (k+n) 0).toNat) (rest:=r.toNat) (v1:=(v.getD (n+1) 0).toNat) (v2:=(v.getD n 0).toNat) e1 e2 e3 e4 q2 hG.ge ?_;have e5:(g * v.getD n 0).toNat=g.toNat * (v.getD n 0).toNat:=Int.toNat_mul hG.g0 a.1;rw [←e5];omega
 have e:=hG.eq;have a:=hv.get' (v.length - 1);refine ⟨⟨by omega,by have:=hG.g1;omega,by have:=hG.r0;omega,?_,by omega⟩,by omega⟩;rw [←e,Int.sub_mul];omega
theorem gss_end {g r:Int} (hG:Gss v u k g r) (h:DivI u0 v u q (k+1)) (hv:Dg v) (hk:k < q.length) (h2:2≤v.length) (hz:0 < v.getD (v.length - 1) 0)
  (hc:¬ 1048576≤g∧(¬r < 1048576∨¬ r * 1048576+u.getD (k+v.length - 2) 0 < g * v.getD (v.length - 2) 0)):(0≤g∧g < 1048576)∧(g.toNat - 1) * nv v≤nv (win u k v.length)∧setG (win u k v.length) v g=(qk v u k:Int):=by
 obtain ⟨q1,q2,q3⟩:=qk_is h hv hk;have h0:=hG.g0;have b:(g.toNat - 1) * nv v≤nv (win u k v.length):=by
  obtain ⟨n,hn⟩:∃ n,v.length=n+2:=⟨v.length - 2,by omega⟩;have e1:=win_head h hk hn;have e2:=v_head hn;have e4:=gss_nat hG h.dg hv;rw [hn,show n+2 - 1=n+1 by omega,show k+(n+2)=k+n+2 by omega,show k+n+2 - 1=k+n+1 by omega] at e4;rw [hn,show k+(n+2) - 2=k+n by omega,show n+2 - 2=n by omega] at hc;rw [hn,show n+2 - 1=n+1 by omega] at hz;have a:=hv.get' n;have c:=h.dg.get' (k+n)
  have:=hG.r0
  have e5:(g * v.getD n 0).toNat=g.toNat * (v.getD n 0).toNat:=Int.toNat_mul hG.g0 a.1;have e6:0≤g * v.getD n 0:=Int.mul_nonneg hG.g0 a.1;refine guess_fits (top:=(u.getD (k+n+2) 0).toNat * 1048576+(u.getD (k+n+1) 0).toNat) (u2:=(u.getD (k+n) 0).toNat) (rest:=r.toNat) (v1:=(v.getD (n+1) 0).toNat) (v2:=(v.getD n 0).toNat) e1 e2 (take_lt hv n) e4 (by omega) (by omega) (by omega) ?_;rcases hc.2 with hc | hc
  ·exact .inl (by omega)
  ·exact .inr (by rw [←e5];omega)
 refine ⟨⟨h0,by omega⟩,b,?_⟩;have d:=hG.ge;have hp:0 < nv v:=by have:=h.lt;omega
 unfold setG;by_cases hle:g.toNat * nv v≤nv (win u k v.length)
 ·rw [if_pos hle]
  have:g.toNat≤qk v u k:=(Nat.le_div_iff_mul_le hp).2 hle
  omega
 ·rw [if_neg hle];have a1:g.toNat - 1≤qk v u k:=(Nat.le_div_iff_mul_le hp).2 b;have a2:qk v u k≠g.toNat:=fun e=>hle (by rw [←e];exact q2)
  omega
def nxtU (v u:List Int) (k:Nat) (g:Int):List Int:=u.take k ++setP (win u k v.length) v g ++u.drop (k+v.length+1)
theorem div_step {g x:Int} (h:DivI u0 v u q (k+1)) (hv:Dg v) (hk:k < q.length) (hs:setG (win u k v.length) v g=(qk v u k:Int)) (hx:x=setG (win u k v.length) v g):DivI u0 v (nxtU v u k g) (q.set k x) k:=by
 obtain ⟨q1,q2,q3⟩:=qk_is h hv hk;obtain ⟨w1,w2,w3⟩:=win_nv h hv hk;have wl:=win_len h hk;rw [hs] at hx;subst hx;have eP:setP (win u k v.length) v g=digL (v.length+1) (nv (win u k v.length) - qk v u k * nv v):=by unfold setP;rw [hs,wl];rfl
 have eL:(u.take k).length=k:=by rw [List.length_take,h.len];omega
 have b:=nv_lt hv;have e1:nv (digL (v.length+1) (nv (win u k v.length) - qk v u k * nv v))=nv (win u k v.length) - qk v u k * nv v:=nv_digL _ _ (by rw [pow_succ'];omega);have eD:nv ((nxtU v u k g).drop k)=nv (win u k v.length) - qk v u k * nv v:=by
  unfold nxtU;rw [List.append_assoc,List.drop_append_of_le_length (by omega),List.drop_of_length_le (by omega),List.nil_append,nv_append,w3,eP,e1];simp
 have eN:nv (nxtU v u k g)=nv (u.take k)+1048576 ^ k * (nv (win u k v.length) - qk v u k * nv v):=by
  unfold nxtU;rw [List.append_assoc,nv_append,eL,nv_append,w3,eP,e1];simp
 refine ⟨?_,?_,h.qd.set (by omega),by rw [eD];exact q3,?_⟩
 ·unfold nxtU;rw [List.length_set,List.length_append,List.length_append,eL,eP,digL_len,List.length_drop,h.len];omega
 ·unfold nxtU;rw [eP];exact ((h.dg.take k).append (digL_Dg _ _)).append (h.dg.drop _)
 ·have e3:=nv_split u k;rw [h.len,Nat.min_eq_left (by omega),w1] at e3;have e4:=nv_drop (l:=q.set k (qk v u k:Int)) (i:=k) (by rw [List.length_set];exact hk);have e7:(q.set k (qk v u k:Int)).drop (k+1)=q.drop (k+1):=by rw [List.drop_set,if_pos (by omega)]
  rw [getD_set hk,if_pos rfl,e7] at e4;have e5:=h.sum;rw [e4,eN,e5,e3,pow_succ'];have e6:1048576 ^ k * nv (win u k v.length)=1048576 ^ k * (nv (win u k v.length) - qk v u k * nv v)+1048576 ^ k * (qk v u k * nv v):=by
   rw [←Nat.mul_add];congr 1;omega
  rw [e6];simp only [Int.toNat_natCast];rw [Nat.add_mul,Nat.mul_add,Nat.mul_assoc 1048576 (nv (q.drop (k+1))),Nat.mul_left_comm (1048576 ^ k) 1048576,Nat.mul_assoc 1048576 (1048576 ^ k)];omega
end
theorem div_end {u0 v u q:List Int} (h:DivI u0 v u q 0):nv q=nv u0 / nv v∧nv u=nv u0 % nv v:=by
 have h1:=h.sum;have h2:=h.lt;simp only [List.drop_zero,Nat.pow_zero,Nat.one_mul] at h1 h2;have hp:0 < nv v:=by omega
 rw [h1,Nat.add_comm,Nat.mul_comm,Nat.mul_add_div hp,Nat.mul_add_mod,Nat.div_eq_of_lt h2,Nat.mod_eq_of_lt h2];exact ⟨by omega,rfl⟩
theorem div_start {a v q:List Int} (ha:Dg a) (hv:Dg v) (hz:Nz v) (d:v≠[]) (hl:v.length≤a.length) (hq:q=List.replicate (a.length+1 - v.length) 0):DivI (a ++[0]) v (a ++[0]) q q.length:=by
 have b:q.length=a.length+1 - v.length:=by rw [hq];simp
 have f:1≤v.length:=by cases v <;> simp_all
 refine ⟨by rw [b];simp;omega,ha.append (Dg.one (by omega)),by rw [hq];exact Dg.zeros _,?_,?_⟩
 ·have h:=nv_ge d hv hz;rw [b,List.drop_append_of_le_length (by omega),nv_append]
  have:=nv_lt (ha.drop (a.length+1 - v.length))
  rw [List.length_drop,show a.length - (a.length+1 - v.length)=v.length - 1 by omega] at this;have h0:nv [0]=0:=rfl;rw [h0];omega
 ·rw [List.drop_length];simp [nv]
end Bg

namespace Bg
def sgn (z:Int):Int:=if z < 0 then -1 else if z=0 then 0 else 1
theorem sgn_mul_abs (z:Int):sgn z * (z.natAbs:Int)=z:=by
 unfold sgn;split
 ·omega
 ·split <;> omega
def RtB (s:Int) (l:List Int):Prop:=Dg l∧((l=[]∧s=0)∨(l≠[]∧(s=1∨s= -1)∧Nz l))
instance (s : Int) (l : List Int) : Decidable (RtB s l) := by unfold RtB; infer_instance
def zv (s:Int) (l:List Int):Int:=s * nv l
theorem Nz_iff {l:List Int} (h:l≠[]):Nz l↔l.getD (l.length - 1) 0≠0:=by
 unfold Nz;rw [List.getLast?_eq_getElem?];have hl:l.length - 1 < l.length:=by cases l <;> simp_all
 rw [List.getElem?_eq_getElem hl,List.getD_eq_getElem?_getD,List.getElem?_eq_getElem hl]
 simp
theorem RtB.dg {s:Int} {l:List Int} (h:RtB s l):Dg l:=h.1
theorem RtB.nz {s:Int} {l:List Int} (h:RtB s l):Nz l:=by
 rcases h.2 with ⟨rfl,_⟩ | ⟨_,_,h⟩
 ·unfold Nz;simp
 ·exact h
theorem RtB.eq {s:Int} {l:List Int} (h:RtB s l):l=dig (nv l):=eq_dig h.dg h.nz
theorem RtB.cases {s:Int} {l:List Int} (h:RtB s l):(nv l=0∧s=0)∨(0 < nv l∧s=1)∨(0 < nv l∧s= -1):=by
 rcases h.2 with ⟨rfl,h2⟩ | ⟨h1,h2,h3⟩
 ·exact .inl ⟨rfl,h2⟩
 ·have:nv l≠0:=fun e=>h1 (by have:=h.eq;rw [e] at this;exact this)
  rcases h2 with h2 | h2
  ·exact .inr (.inl ⟨by omega,h2⟩)
  ·exact .inr (.inr ⟨by omega,h2⟩)
theorem RtB.abs {s:Int} {l:List Int} (h:RtB s l):(zv s l).natAbs=nv l:=by
 unfold zv;rcases h.cases with ⟨a,rfl⟩ | ⟨a,rfl⟩ | ⟨a,rfl⟩ <;> omega
theorem RtB.sg {s:Int} {l:List Int} (h:RtB s l):sgn (zv s l)=s:=by
 unfold zv sgn;rcases h.cases with ⟨a,rfl⟩ | ⟨a,rfl⟩ | ⟨a,rfl⟩
 ·rw [if_neg (by omega),if_pos (by omega)]
 ·rw [if_neg (by omega),if_neg (by omega)]
 ·rw [if_pos (by omega)]
theorem RtB.eqd {s:Int} {l:List Int} (h:RtB s l):l=dig (zv s l).natAbs:=by rw [h.abs];exact h.eq
theorem RtB.of (z:Int):RtB (sgn z) (dig z.natAbs):=by
 refine ⟨dig_Dg _,?_⟩;by_cases e:z.natAbs=0
 ·left;rw [e];refine ⟨rfl,?_⟩;unfold sgn;rw [if_neg (by omega),if_pos (by omega)]
 ·right
  refine ⟨fun h=>e (dig_ne.1 h),?_,dig_Nz _⟩;unfold sgn;split
  ·exact .inr rfl
  ·rw [if_neg (by omega)];exact .inl rfl
theorem zv_of (z:Int):zv (sgn z) (dig z.natAbs)=z:=by unfold zv;rw [nv_dig];exact sgn_mul_abs z
theorem RtB.of1 {n:Nat} (h:n≠0):RtB 1 (dig n):=by
 have:=RtB.of (n:Int)
 unfold sgn at this
 rwa [if_neg (by omega),if_neg (by omega),Int.natAbs_natCast] at this
def oS (p:Prop) [Decidable p] (z:Int):Int:=if p then sgn z else 0
def oD (p:Prop) [Decidable p] (z:Int):List Int:=if p then dig z.natAbs else []
theorem oS_y {p:Prop} [Decidable p] (h:p) (z:Int):oS p z=sgn z:=if_pos h
theorem oD_y {p:Prop} [Decidable p] (h:p) (z:Int):oD p z=dig z.natAbs:=if_pos h
theorem oS_n {p:Prop} [Decidable p] (h:¬ p) (z:Int):oS p z=0:=if_neg h
theorem oD_n {p:Prop} [Decidable p] (h:¬ p) (z:Int):oD p z=[]:=if_neg h
def cmpI (x y:Int):Int:=if x < y then -1 else if x=y then 0 else 1
theorem cmp_len {a b:List Int} (ha:Dg a) (hb:Dg b) (hz:Nz b) (h:a.length < b.length):nv a < nv b:=by
 refine Decidable.by_contra fun hc=>?_
 have:=len_le ha hb hz (by omega)
 omega
theorem cmp_at {a b:List Int} {i:Nat} (ha:Dg a) (hb:Dg b) (hl:a.length=b.length) (hi:i < a.length) (hd:a.drop (i+1)=b.drop (i+1)) (h:a.getD i 0 < b.getD i 0):nv a < nv b:=by
 have e1:=nv_split a i;have e2:=nv_split b i;rw [Nat.min_eq_left (by omega),nv_drop hi] at e1;rw [Nat.min_eq_left (by omega),nv_drop (l:=b) (by omega),← hd] at e2;have t1:=nv_lt (ha.take i);rw [List.length_take,Nat.min_eq_left (by omega)] at t1;have a1:=ha.get' i;have b1:=hb.get' i;have d:(a.getD i 0).toNat+1≤(b.getD i 0).toNat:=by omega
 have h2:=Nat.mul_le_mul_left (1048576 ^ i) d;rw [Nat.mul_add] at h2 e1 e2;omega
theorem drop_eq {a b:List Int} {i:Nat} (hl:a.length=b.length) (hi:i < a.length) (hd:a.drop (i+1)=b.drop (i+1)) (h:a.getD i 0=b.getD i 0):a.drop i=b.drop i:=by
 rw [List.drop_eq_getElem_cons hi,List.drop_eq_getElem_cons (show i < b.length by omega),hd]
 congr 1
 simpa [List.getD_eq_getElem?_getD,hi,show i < b.length by omega] using h
theorem cmp_ne {a b:List Int} {i:Nat} (ha:Dg a) (hb:Dg b) (hl:a.length=b.length) (hi:i < a.length) (hd:a.drop (i+1)=b.drop (i+1)) (h:a.getD i 0≠b.getD i 0):cmpI (a.getD i 0) (b.getD i 0)=cmpI (nv a) (nv b):=by
 rcases Int.lt_or_gt_of_ne h with h | h
 ·have:=cmp_at ha hb hl hi hd h
  unfold cmpI;rw [if_pos h,if_pos (by omega)]
 ·have:=cmp_at hb ha hl.symm (by omega) hd.symm h
  unfold cmpI;rw [if_neg (by omega),if_neg (by omega),if_neg (by omega),if_neg (by omega)]
theorem cmp_lens {a b:List Int} (ha:Dg a) (hb:Dg b) (za:Nz a) (zb:Nz b) (h:¬ (a.length:Int)=b.length):cmpI a.length b.length=cmpI (nv a) (nv b):=by
 rcases Int.lt_or_gt_of_ne h with h | h
 ·have:=cmp_len ha hb zb (by omega)
  unfold cmpI;rw [if_pos h,if_pos (by omega)]
 ·have:=cmp_len hb ha za (by omega)
  unfold cmpI;rw [if_neg (by omega),if_neg (by omega),if_neg (by omega),if_neg (by omega)]
section
variable {s t : Int} {l m : List Int}
theorem neg_z (h:RtB s l):zv (-s) l= - zv s l:=by unfold zv;rw [Int.neg_mul]
theorem RtB.neg (h:RtB s l):RtB (-s) l:=by
 refine ⟨h.1,?_⟩;rcases h.2 with ⟨h1,h2⟩ | ⟨h1,h2,h3⟩
 ·exact .inl ⟨h1,by omega⟩
 ·exact .inr ⟨h1,by omega,h3⟩
theorem mul_z (h:RtB s l) (k:RtB t m):(zv s l * zv t m).natAbs=nv l * nv m∧(if nv l * nv m=0 then 0 else s * t)=sgn (zv s l * zv t m):=by
 have e:(zv s l * zv t m).natAbs=nv l * nv m:=by rw [Int.natAbs_mul,h.abs,k.abs]
 refine ⟨e,?_⟩;have e2:zv s l * zv t m=(s * t) * ((nv l * nv m:Nat):Int):=by
  unfold zv;rw [Int.natCast_mul,Int.mul_assoc,Int.mul_assoc,Int.mul_left_comm (nv l:Int)]
 rw [e2];rcases h.cases with ⟨a,rfl⟩ | ⟨a,rfl⟩ | ⟨a,rfl⟩ <;> rcases k.cases with ⟨b,rfl⟩ | ⟨b,rfl⟩ | ⟨b,rfl⟩ <;> (try (rw [a];simp [sgn];done)) <;> (try (rw [b];simp [sgn];done))
 all_goals
  have hp:0 < nv l * nv m:=Nat.mul_pos a b;generalize nv l * nv m=p at *;rw [if_neg (by omega)];unfold sgn
  simp
  omega
def flo (a b:Int):Int:=if 0 < b then a / b else (-a) / (-b)
def fmo (a b:Int):Int:=a - b * flo a b
theorem div_same (h:RtB s l) (k:RtB t m) (ht:nv m≠0) (hs:0≤s * t∨nv l % nv m=0):(flo (zv s l) (zv t m)).natAbs=nv l / nv m∧(fmo (zv s l) (zv t m)).natAbs=nv l % nv m ∧
  (if nv l / nv m=0 then 0 else s * t)=sgn (flo (zv s l) (zv t m))∧(if nv l % nv m=0 then 0 else s)=sgn (fmo (zv s l) (zv t m)):=by
 have hd:=Nat.div_add_mod (nv l) (nv m);have hr:=Nat.mod_lt (nv l) (Nat.pos_of_ne_zero ht);have hf:flo (zv s l) (zv t m)=s * t * ((nv l / nv m:Nat):Int):=by
  unfold flo zv;have f:(nv l:Int) / nv m=((nv l / nv m:Nat):Int):=(Int.natCast_ediv _ _).symm;have d:nv l % nv m=0→(-(nv l:Int)) / nv m= -((nv l / nv m:Nat):Int):=fun h0=>by
   have:(nv l:Int)=nv m * ((nv l / nv m:Nat):Int):=by rw [←Int.natCast_mul];congr 1;omega
   rw [this,← Int.mul_neg,Int.mul_ediv_cancel_left _ (by omega)]
  rcases h.cases with ⟨a,rfl⟩ | ⟨a,rfl⟩ | ⟨a,rfl⟩ <;> rcases k.cases with ⟨b,rfl⟩ | ⟨b,rfl⟩ | ⟨b,rfl⟩ <;> (try omega)
  ·simp
  ·simp
  ·rw [if_pos (by omega)];simp only [Int.one_mul];exact f
  ·rw [if_neg (by omega)];have h0:nv l % nv m=0:=by rcases hs with hs | hs <;> omega
   have:=d h0
   simp only [Int.neg_mul,Int.one_mul,Int.neg_neg] at this ⊢;exact this
  ·rw [if_pos (by omega)];have h0:nv l % nv m=0:=by rcases hs with hs | hs <;> omega
   have:=d h0
   simp only [Int.neg_mul,Int.one_mul,Int.mul_one] at this ⊢;exact this
  ·rw [if_neg (by omega)];simp only [Int.neg_mul,Int.one_mul,Int.neg_neg,Int.mul_neg,Int.mul_one];exact f
 have hm:fmo (zv s l) (zv t m)=s * ((nv l % nv m:Nat):Int):=by
  unfold fmo;rw [hf];have e:zv t m * (s * t * ((nv l / nv m:Nat):Int))=s * (t * t) * ((nv m * (nv l / nv m):Nat):Int):=by
   unfold zv;rw [Int.natCast_mul];generalize (nv m:Int)=x;generalize ((nv l / nv m:Nat):Int)=y
   grind
  have tt:t * t=1:=by rcases k.cases with ⟨b,rfl⟩ | ⟨b,rfl⟩ | ⟨b,rfl⟩ <;> first | omega | rfl
  rw [e,tt,Int.mul_one];unfold zv;rw [←Int.mul_sub];congr 1;omega
 rw [hf,hm];refine ⟨?_,?_,?_,?_⟩
 ·have e0:nv l=0→nv l / nv m=0:=fun a=>by rw [a];simp
  generalize nv l / nv m=q at *;rcases h.cases with ⟨a,rfl⟩ | ⟨a,rfl⟩ | ⟨a,rfl⟩ <;> rcases k.cases with ⟨b,rfl⟩ | ⟨b,rfl⟩ | ⟨b,rfl⟩ <;> omega
 ·have e0:nv l=0→nv l % nv m=0:=fun a=>by rw [a];simp
  generalize nv l % nv m=q at *;rcases h.cases with ⟨a,rfl⟩ | ⟨a,rfl⟩ | ⟨a,rfl⟩ <;> omega
 ·generalize hq:nv l / nv m=q at *;unfold sgn;rcases h.cases with ⟨a,rfl⟩ | ⟨a,rfl⟩ | ⟨a,rfl⟩ <;> rcases k.cases with ⟨b,rfl⟩ | ⟨b,rfl⟩ | ⟨b,rfl⟩ <;> (try omega) <;> simp <;> (repeat' split) <;> omega
 ·generalize hq:nv l % nv m=q at *;unfold sgn;rcases h.cases with ⟨a,rfl⟩ | ⟨a,rfl⟩ | ⟨a,rfl⟩ <;> simp <;> (repeat' split) <;> omega
theorem div_diff (h:RtB s l) (k:RtB t m) (ht:nv m≠0) (hs:s * t < 0) (h0:nv l % nv m≠0):(flo (zv s l) (zv t m)).natAbs=nv l / nv m+1∧(fmo (zv s l) (zv t m)).natAbs=nv m - nv l % nv m ∧
  -1=sgn (flo (zv s l) (zv t m))∧t=sgn (fmo (zv s l) (zv t m)):=by
 have hd:=Nat.div_add_mod (nv l) (nv m);have hr:=Nat.mod_lt (nv l) (Nat.pos_of_ne_zero ht);have hf:flo (zv s l) (zv t m)= -((nv l / nv m+1:Nat):Int):=by
  have d:(-(nv l:Int)) / nv m= -((nv l / nv m+1:Nat):Int):=by
   refine ((Int.ediv_emod_unique (r:=((nv m - nv l % nv m:Nat):Int)) (by omega)).2 ⟨?_,by omega,by omega⟩).1;rw [Int.mul_neg,← Int.natCast_mul,Nat.mul_add];omega
  unfold flo zv;rcases h.cases with ⟨a,rfl⟩ | ⟨a,rfl⟩ | ⟨a,rfl⟩ <;> rcases k.cases with ⟨b,rfl⟩ | ⟨b,rfl⟩ | ⟨b,rfl⟩ <;> (try omega)
  ·rw [if_neg (by omega)];simp only [Int.neg_mul,Int.one_mul,Int.neg_neg];exact d
  ·rw [if_pos (by omega)];simp only [Int.neg_mul,Int.one_mul,Int.mul_one];exact d
 have hm:fmo (zv s l) (zv t m)=t * ((nv m - nv l % nv m:Nat):Int):=by
  unfold fmo;rw [hf];have e:nv m * (nv l / nv m+1)=nv m * (nv l / nv m)+nv m:=by rw [Nat.mul_add,Nat.mul_one]
  unfold zv;rw [Int.mul_neg,Int.mul_assoc,← Int.natCast_mul,e];rcases h.cases with ⟨a,rfl⟩ | ⟨a,rfl⟩ | ⟨a,rfl⟩ <;> rcases k.cases with ⟨b,rfl⟩ | ⟨b,rfl⟩ | ⟨b,rfl⟩ <;> omega
 rw [hf,hm];refine ⟨by rw [Int.natAbs_neg,Int.natAbs_natCast],?_,?_,?_⟩
 ·rcases k.cases with ⟨b,rfl⟩ | ⟨b,rfl⟩ | ⟨b,rfl⟩ <;> omega
 ·unfold sgn
  have:((nv l / nv m+1:Nat):Int) > 0:=by
   generalize nv l / nv m=q;omega
  rw [if_pos (by omega)]
 ·unfold sgn;rcases k.cases with ⟨b,rfl⟩ | ⟨b,rfl⟩ | ⟨b,rfl⟩
  ·omega
  ·rw [if_neg (by omega),if_neg (by omega)]
  ·rw [if_pos (by omega)]
end
end Bg

namespace Bg
theorem Dg_of {l:List Int} (h:∀ i,i < l.length→0≤l.getD i default∧l.getD i default < 1048576):Dg l:=fun d hd=>by
 obtain ⟨i,hi,rfl⟩:=List.mem_iff_getElem.1 hd
 have:=h i hi
 simpa [List.getD_eq_getElem?_getD,hi] using this
theorem rt_bad {s:Int} {l:List Int} {k:Nat} {v:Int} (hk:k < l.length) (hv:v=l.getD k default) (h:v < 0∨1048575 < v):¬ RtB s l:=fun hr=>by
 have:=hr.dg.get hk
 have e:l.getD k 0=v:=hv.symm;omega
theorem rt_nil {s:Int} {l:List Int} (h:l.length=0):s=0↔RtB s l:=by
 have:=List.eq_nil_of_length_eq_zero h
 subst this;exact ⟨fun h=>⟨Dg.nil,.inl ⟨rfl,h⟩⟩,fun h=>by rcases h.2 with h | h;exact h.2;exact absurd rfl h.1⟩
theorem rt_ok {s v:Int} {l:List Int} {n:Int} (h:¬ (l.length:Int)=0) (hd:∀ i,i < l.length→0≤l.getD i default∧l.getD i default < 1048576) (hv:v=l.getD n.toNat default) (hn:n=(l.length:Int) - 1):((s=1∨s= -1)∧¬ v=0)↔RtB s l:=by
 have b:l≠[]:=fun e=>by subst e;exact h rfl
 have hz:=Nz_iff b;have e:l.getD (l.length - 1) 0=v:=by rw [hv,hn,show ((l.length:Int) - 1).toNat=l.length - 1 by omega];rfl
 rw [e] at hz;exact ⟨fun ⟨h1,h2⟩=>⟨Dg_of hd,.inr ⟨b,h1,hz.2 h2⟩⟩,fun hr=>by rcases hr.2 with h | h;exact absurd h.1 b;exact ⟨h.2.1,hz.1 h.2.2⟩⟩
theorem trim_stop {l:List Int} {n v:Int} (hv:0 < n→v=l.getD (n - 1).toNat default) (h:¬ 0 < n∨¬ v=0):n.toNat=0∨l.getD (n.toNat - 1) 0≠0:=by
 by_cases hn:0 < n
 ·refine .inr fun e=>?_;rcases h with h | h
  ·exact h hn
  ·apply h;rw [hv hn,show (n - 1).toNat=n.toNat - 1 by omega];exact e
 ·exact .inl (by omega)
def sg0 (n:Nat) (s:Int):Int:=if n=0 then 0 else s
theorem len_dig0 {n:Nat}:((dig n).length:Int)=0↔n=0:=by
 rw [←dig_ne (n:=n),← List.length_eq_zero_iff];omega
theorem getD_out {l:List Int} {i:Nat} (h:¬ (i:Int) < l.length):l.getD i 0=0:=by
 rw [List.getD_eq_getElem?_getD,List.getElem?_eq_none (by omega)];rfl
structure OfI (N:Nat) (l:List Int) (u:Int):Prop where
 dg:Dg l
 u0:0≤u
 sum:nv l+1048576 ^ l.length * u.toNat=N
theorem of_start {u:Int} {N:Nat} (h:u.toNat=N) (h0:0≤u):OfI N [] u:=⟨Dg.nil,h0,by simp [nv,h]⟩
theorem of_len {N:Nat} {l:List Int} {u:Int} (h:OfI N l u) (hu:0 < u) (hN:N≤9223372036854775808):l.length≤3:=by
 have h1:=h.sum;refine Decidable.by_contra fun hc=>?_;have h2:1048576 ^ 4≤1048576 ^ l.length:=Nat.pow_le_pow_right (by omega) (by omega)
 have h3:1048576 ^ l.length * 1≤1048576 ^ l.length * u.toNat:=Nat.mul_le_mul_left _ (by omega);have h4:(1048576:Nat) ^ 4=1208925819614629174706176:=by decide
 omega
theorem of_step {N:Nat} {l:List Int} {u:Int} (h:OfI N l u):OfI N (l ++[u % 1048576]) (u / 1048576):=by
 have h0:=h.u0;refine ⟨h.dg.append (Dg.one (by omega)),by omega,?_⟩;have h1:=h.sum;have e:u.toNat=(u % 1048576).toNat+1048576 * (u / 1048576).toNat:=by omega
 rw [nv_append,List.length_append];have e2:=congrArg (fun n=>1048576 ^ l.length * n) e;simp only [Nat.mul_add] at e2;have e3:nv [u % 1048576]=(u % 1048576).toNat:=by simp [nv]
 have e4:1048576 ^ (l.length+1) * (u / 1048576).toNat=1048576 ^ l.length * (1048576 * (u / 1048576).toNat):=by rw [Nat.pow_succ,Nat.mul_assoc]
 rw [e3,show l.length+[u % 1048576].length=l.length+1 from rfl,e4];omega
theorem of_end {N:Nat} {l:List Int} {u:Int} (h:OfI N l u) (hu:¬ 0 < u):nv l=N:=by
 have h0:=h.u0;have h1:=h.sum
 have:u.toNat=0:=by omega
 rw [this] at h1;omega
theorem of_sgn {n:Int} {N:Nat} (h:n.natAbs=N) (k:Int) (hk:(n < 0∧k= -1)∨(¬n < 0∧k=1)):(if N=0 then 0 else k)=sgn n:=by
 unfold sgn;by_cases h0:N=0
 ·rw [if_pos h0,if_neg (by omega),if_pos (by omega)]
 ·rw [if_neg h0];rcases hk with ⟨h1,rfl⟩ | ⟨h1,rfl⟩
  ·rw [if_pos h1]
  ·rw [if_neg h1,if_neg (by omega)]
def inI (s:Int) (l:List Int):Prop:=RtB s l∧ -9223372036854775808≤zv s l∧zv s l≤9223372036854775807
instance (s : Int) (l : List Int) : Decidable (inI s l) := by unfold inI; infer_instance
def intV (s:Int) (l:List Int):Int:=if inI s l then zv s l else 0
theorem intV_y {s:Int} {l:List Int} (h:inI s l):intV s l=zv s l:=if_pos h
theorem intV_n {s:Int} {l:List Int} (h:¬ inI s l):intV s l=0:=if_neg h
theorem nv_big {s:Int} {l:List Int} (h:RtB s l) (hn:9223372036854775808 < nv l):¬ inI s l:=fun hi=>by
 have h1:=hi.2;have h2:=h.abs;omega
theorem int_len {s:Int} {l:List Int} (h:RtB s l) (hl:4 < (l.length:Int)):¬ inI s l:=by
 refine nv_big h ?_;have b:l≠[]:=fun e=>by subst e;simp at hl
 have h1:=nv_ge b h.dg h.nz;have h2:1048576 ^ 4≤1048576 ^ (l.length - 1):=Nat.pow_le_pow_right (by omega) (by omega);have h4:(1048576:Nat) ^ 4=1208925819614629174706176:=by decide
 omega
theorem int_top {s:Int} {l:List Int} {v:Int} (h:RtB s l) (hl:3 < l.length) (hv:v=l.getD 3 default) (h8:8 < v):¬ inI s l:=by
 refine nv_big h ?_;have e1:=nv_split l 3;rw [Nat.min_eq_left (by omega),nv_drop hl] at e1;have e:l.getD 3 0=v:=hv.symm;rw [e] at e1;have h4:(1048576:Nat) ^ 3=1152921504606846976:=by decide
 rw [h4] at e1;omega
theorem int_step {l:List Int} {k:Nat} {v:Int} (hk:k < l.length) (hv:v=l.getD k default) (hd:Dg l):nv (l.take (k+1))=nv (l.take k)+1048576 ^ k * v.toNat∧0≤v∧v < 1048576:=by
 have e:l.getD k 0=v:=hv.symm;have h:=hd.get hk;rw [e] at h
 have:=nv_take hk
 rw [e] at this;exact ⟨this,h⟩
theorem zv_s {s:Int} {l:List Int} (h:RtB s l):(s < 0→zv s l= -(nv l:Int))∧(0≤s→zv s l=nv l):=by
 unfold zv;rcases h.cases with ⟨a,rfl⟩ | ⟨a,rfl⟩ | ⟨a,rfl⟩ <;> omega
theorem sg_le {s:Int} {l:List Int} (h:RtB s l): -1≤s∧s≤1:=by rcases h.cases with ⟨_,rfl⟩ | ⟨_,rfl⟩ | ⟨_,rfl⟩ <;> omega
theorem mul1 {s c:Int} (hs: -1≤s∧s≤1) (hc: -1≤c∧c≤1): -9223372036854775808≤s * c∧s * c≤9223372036854775807:=by
 have:s= -1∨s=0∨s=1:=by omega
 rcases this with rfl | rfl | rfl <;> omega
theorem neg_s {s:Int} {l:List Int} (h:RtB s l):(if nv l=0 then 0 else -s)=sgn (-zv s l):=by
 rw [←neg_z h]
 have:=h.neg.sg
 rw [this];rcases h.cases with ⟨a,rfl⟩ | ⟨a,rfl⟩ | ⟨a,rfl⟩
 ·rw [if_pos a];rfl
 ·rw [if_neg (by omega)]
 ·rw [if_neg (by omega)]
theorem neg_d {s:Int} {l:List Int} (h:RtB s l):dig (nv l)=dig (-zv s l).natAbs:=by rw [Int.natAbs_neg,h.abs]
theorem dmul {x y:Int} (hx:0≤x∧x < 1048576) (hy:0≤y∧y < 1048576):0≤x * y∧x * y≤1099509530625 :=
 ⟨Int.mul_nonneg hx.1 hy.1,by have:=Int.mul_le_mul (a:=x) (b:=y) (c:=1048575) (d:=1048575) (by omega) (by omega) hy.1 (by omega);omega⟩
theorem nv_one (x:Int):nv [x]=x.toNat:=by simp [nv]
theorem sh_step {b s x:Int} (h:x=b * s) (hx:x < 524288):b * (s * 2) < 1048576:=by
 have:b * (s * 2)=b * s * 2:=by rw [Int.mul_assoc]
 omega
theorem sh_lt {b s:Int} (hb:1≤b) (hs:1≤s) (h:b * s < 1048576):s < 1048576:=by
 have:=Int.mul_le_mul_of_nonneg_right hb (show 0≤s by omega)
 omega
theorem top_pos {l:List Int} (h:l≠[]) (hd:Dg l) (hz:Nz l):1≤l.getD (l.length - 1) 0:=by
 have h1:=(Nz_iff h).1 hz;have h2:=hd.get' (l.length - 1);omega
theorem win_is {u:List Int} {lo hi n:Nat} (h:hi=lo+n+1):(u.take hi).drop lo=win u lo n:=by
 unfold win;rw [List.drop_take,h,show lo+n+1 - lo=n+1 by omega]
theorem dig_len_mono {l:List Int} {n:Nat} (hd:Dg l) (hz:Nz l) (h:nv l≤n):l.length≤(dig n).length :=
 len_le (dig_Dg n) hd hz (by rw [nv_dig];exact h)
theorem dig_lt {n k:Nat} (h:n < 1048576 ^ k):(dig n).length≤k:=by
 refine Decidable.by_contra fun hc=>?_;have b:dig n≠[]:=fun e=>by rw [e] at hc;simp at hc
 have h1:=nv_ge b (dig_Dg n) (dig_Nz n);rw [nv_dig] at h1;have h2:1048576 ^ k≤1048576 ^ ((dig n).length - 1):=Nat.pow_le_pow_right (by omega) (by omega);omega
theorem mul_len {m n i j:Nat} (h:m < 1048576 ^ i) (k:n < 1048576 ^ j):(dig (m * n)).length≤i+j:=by
 refine dig_lt ?_;rw [Nat.pow_add];have h0:0 < 1048576 ^ j:=Nat.pow_pos (by omega);exact Nat.lt_of_le_of_lt (Nat.mul_le_mul_left m (Nat.le_of_lt k)) (Nat.mul_lt_mul_of_pos_right h h0)
theorem mul_dig_len (a b:List Int) (ha:Dg a) (hb:Dg b):(dig (nv a * nv b)).length≤a.length+b.length:=mul_len (nv_lt ha) (nv_lt hb)
theorem div_fin {a b s:Nat} (hs:0 < s):a * s / (b * s)=a / b∧a * s % (b * s) / s=a % b:=by
 refine ⟨Nat.mul_div_mul_right _ _ hs,?_⟩;rw [Nat.mul_mod_mul_right,Nat.mul_div_cancel _ hs]
theorem div_less {a b:Nat} (h:a < b):dig (a / b)=[]∧a % b=a:=by rw [Nat.div_eq_of_lt h,Nat.mod_eq_of_lt h];exact ⟨rfl,rfl⟩
theorem dvals {v u0 u q:List Int} (h:DivI u0 v u q 0) {s A B:Nat} (hs:0 < s) (h1:nv u0=A * s) (h2:nv v=B * s):nv q=A / B∧nv u / s=A % B:=by
 obtain ⟨e1,e2⟩:=div_end h;rw [e1,e2,h1,h2];exact div_fin hs
theorem nv_app0 (l:List Int):nv (l ++[0])=nv l:=by rw [nv_append];simp [nv]
theorem cmp_lt {x y:Int}:cmpI x y < 0↔x < y:=by unfold cmpI;split;omega;split <;> omega
theorem gmul {x y:Int} (hx:0≤x∧x≤1099511627776) (hy:0≤y∧y < 1048576):0≤x * y∧x * y≤1152921504606846976 :=
 ⟨Int.mul_nonneg hx.1 hy.1,by have:=Int.mul_le_mul (a:=x) (b:=y) (c:=1099511627776) (d:=1048576) (by omega) (by omega) hy.1 (by omega);omega⟩
theorem nv_len1 {l:List Int} (h:l.length=1):nv l=(l.getD 0 0).toNat:=by
 match l,h with
 | [x],_=>simp [nv]
theorem nv_r {a d:Nat} (hd:0 < d) (h:d < 1048576):Dg [((a % d:Nat):Int)]∧nv [((a % d:Nat):Int)]=a % d:=by
 have:=Nat.mod_lt a hd
 exact ⟨Dg.one (by omega),by rw [nv_one,Int.toNat_natCast]⟩
theorem dig_self {l:List Int} (hd:Dg l) (hz:Nz l) {n:Nat} (h:n=nv l):l=dig n:=by rw [h];exact eq_dig hd hz
theorem dig_le {l:List Int} (h:Dg l):(dig (nv l)).length≤l.length:=dig_lt (nv_lt h)
section
variable {s t : Int} {l m : List Int}
theorem mulS (h:RtB s l) (k:RtB t m):(if nv (dig (nv l * nv m))=0 then 0 else s * t)=sgn (zv s l * zv t m):=by
 rw [nv_dig];exact (mul_z h k).2
theorem mulD (h:RtB s l) (k:RtB t m):dig (nv (dig (nv l * nv m)))=dig (zv s l * zv t m).natAbs:=by
 rw [nv_dig,(mul_z h k).1]
theorem gcdS (n:Nat):(if nv (dig n)=0 then 0 else 1)=sgn (n:Int):=by
 rw [nv_dig];unfold sgn;by_cases h:n=0
 ·rw [if_pos h,if_neg (by omega),if_pos (by omega)]
 ·rw [if_neg h,if_neg (by omega),if_neg (by omega)]
theorem gcdD (n:Nat):dig (nv (dig n))=dig (n:Int).natAbs:=by rw [nv_dig,Int.natAbs_natCast]
theorem nv_pos (h:RtB s l) (hs:¬ s=0):nv l≠0∧l≠[]:=by
 rcases h.cases with ⟨_,e⟩ | ⟨a,_⟩ | ⟨a,_⟩
 ·exact absurd e hs
 ·exact ⟨by omega,fun e=>by subst e;simp [nv] at a⟩
 ·exact ⟨by omega,fun e=>by subst e;simp [nv] at a⟩
theorem sml (h:RtB s l) (k:RtB t m): -9223372036854775808≤s * t∧s * t≤9223372036854775807:=mul1 (sg_le h) (by have:=sg_le k;omega)
theorem qS (h:RtB s l) (k:RtB t m) (ht:nv m≠0) (hs:0≤s * t∨nv l % nv m=0):(if nv (dig (nv l / nv m))=0 then 0 else s * t)=sgn (flo (zv s l) (zv t m)):=by rw [nv_dig];exact (div_same h k ht hs).2.2.1
theorem qD (h:RtB s l) (k:RtB t m) (ht:nv m≠0) (hs:0≤s * t∨nv l % nv m=0):dig (nv (dig (nv l / nv m)))=dig (flo (zv s l) (zv t m)).natAbs:=by rw [nv_dig,(div_same h k ht hs).1]
theorem rS (h:RtB s l) (k:RtB t m) (ht:nv m≠0) (hs:0≤s * t∨nv l % nv m=0):(if nv (dig (nv l % nv m))=0 then 0 else s)=sgn (fmo (zv s l) (zv t m)):=by rw [nv_dig];exact (div_same h k ht hs).2.2.2
theorem rD (h:RtB s l) (k:RtB t m) (ht:nv m≠0) (hs:0≤s * t∨nv l % nv m=0):dig (nv (dig (nv l % nv m)))=dig (fmo (zv s l) (zv t m)).natAbs:=by rw [nv_dig,(div_same h k ht hs).2.1]
theorem gcd_step {x y g:Nat} (h:Nat.gcd x y=g):Nat.gcd y (x % y)=g:=by rw [←h,Nat.gcd_comm x y,Nat.gcd_comm y (x % y)];exact (Nat.gcd_rec y x).symm
end
theorem dig_len_mono' {m n:Nat} (h:m≤n):(dig m).length≤(dig n).length:=len_le (dig_Dg n) (dig_Dg m) (dig_Nz m) (by rw [nv_dig,nv_dig];exact h)
theorem nv_ne {l:List Int} (hd:Dg l) (hz:Nz l) (h:l≠[]):nv l≠0:=fun e=>h (by rw [eq_dig hd hz,e];rfl)
end Bg

namespace Bg
section
variable {s t : Int} {l m : List Int}
theorem dqS (h:RtB s l) (k:RtB t m) (ht:nv m≠0) (hs:s * t < 0) (h0:nv l % nv m≠0):(if nv (dig (nv (dig (nv l / nv m))+nv [1]))=0 then 0 else -1)=sgn (flo (zv s l) (zv t m)):=by
 rw [nv_dig,nv_dig,nv_one,if_neg (show ¬ (nv l / nv m+(1:Int).toNat=0) from Nat.succ_ne_zero _)];exact (div_diff h k ht hs h0).2.2.1
theorem dqD (h:RtB s l) (k:RtB t m) (ht:nv m≠0) (hs:s * t < 0) (h0:nv l % nv m≠0):dig (nv (dig (nv (dig (nv l / nv m))+nv [1])))=dig (flo (zv s l) (zv t m)).natAbs:=by
 rw [nv_dig,nv_dig,nv_one,(div_diff h k ht hs h0).1];rfl
theorem drS (h:RtB s l) (k:RtB t m) (ht:nv m≠0) (hs:s * t < 0) (h0:nv l % nv m≠0):(if nv (dig (nv m - nv (dig (nv l % nv m))))=0 then 0 else t)=sgn (fmo (zv s l) (zv t m)):=by
 have:=Nat.mod_lt (nv l) (Nat.pos_of_ne_zero ht)
 rw [nv_dig,nv_dig,if_neg (by omega)];exact (div_diff h k ht hs h0).2.2.2
theorem drD (h:RtB s l) (k:RtB t m) (ht:nv m≠0) (hs:s * t < 0) (h0:nv l % nv m≠0):dig (nv (dig (nv m - nv (dig (nv l % nv m)))))=dig (fmo (zv s l) (zv t m)).natAbs:=by
 rw [nv_dig,nv_dig,(div_diff h k ht hs h0).2.1]
end
end Bg

namespace Fr
open Bg
def FrB (ps:Int) (pd:List Int) (qs:Int) (qd:List Int):Prop:=RtB ps pd∧RtB qs qd∧qs=1∧Nat.gcd (nv pd) (nv qd)=1
instance (ps : Int) (pd : List Int) (qs : Int) (qd : List Int) : Decidable (FrB ps pd qs qd) := by unfold FrB; infer_instance
def fq (ps:Int) (pd qd:List Int):Rat:=mkRat (zv ps pd) (nv qd)
def rS (p:Prop) [Decidable p] (r:Rat):Int:=if p then sgn r.num else 0
def rD (p:Prop) [Decidable p] (r:Rat):List Int:=if p then dig r.num.natAbs else []
def rT (p:Prop) [Decidable p]:Int:=if p then 1 else 0
def rE (p:Prop) [Decidable p] (r:Rat):List Int:=if p then dig r.den else []
section
variable {p : Prop} [Decidable p]
theorem rS_y (h:p) (r:Rat):rS p r=sgn r.num:=if_pos h
theorem rD_y (h:p) (r:Rat):rD p r=dig r.num.natAbs:=if_pos h
theorem rT_y (h:p):rT p=1:=if_pos h
theorem rE_y (h:p) (r:Rat):rE p r=dig r.den:=if_pos h
theorem rS_n (h:¬ p) (r:Rat):rS p r=0:=if_neg h
theorem rD_n (h:¬ p) (r:Rat):rD p r=[]:=if_neg h
theorem rT_n (h:¬ p):rT p=0:=if_neg h
theorem rE_n (h:¬ p) (r:Rat):rE p r=[]:=if_neg h
end
section
variable {ps qs : Int} {pd qd : List Int}
theorem FrB.q0 (h:FrB ps pd qs qd):nv qd≠0:=by
 obtain ⟨h1,h2,h3,h4⟩:=h;rcases h2.cases with ⟨_,e⟩ | ⟨e,_⟩ | ⟨e,_⟩ <;> omega
theorem FrB.q1 (h:FrB ps pd qs qd):zv qs qd=(nv qd:Int):=by
 obtain ⟨_,_,h3,_⟩:=h;subst h3;unfold zv;omega
theorem FrB.is (h:FrB ps pd qs qd):(fq ps pd qd).num=zv ps pd∧(fq ps pd qd).den=nv qd:=by
 have hq:=h.q0;obtain ⟨h1,h2,h3,h4⟩:=h;have hc:(zv ps pd).natAbs.Coprime (nv qd):=by rw [h1.abs];exact h4
 have e:fq ps pd qd=⟨zv ps pd,nv qd,hq,hc⟩:=(Rat.mk_eq_mkRat _ _ hq hc).symm;rw [e];exact ⟨rfl,rfl⟩
theorem FrB.num (h:FrB ps pd qs qd):(fq ps pd qd).num=zv ps pd:=h.is.1
theorem FrB.den (h:FrB ps pd qs qd):(fq ps pd qd).den=nv qd:=h.is.2
theorem FrB.eqs (h:FrB ps pd qs qd):ps=sgn (fq ps pd qd).num∧pd=dig (fq ps pd qd).num.natAbs∧qs=1∧qd=dig (fq ps pd qd).den:=by
 rw [h.num,h.den];exact ⟨h.1.sg.symm,h.1.eqd,h.2.2.1,h.2.1.eq⟩
theorem FrB.of (r:Rat):FrB (sgn r.num) (dig r.num.natAbs) 1 (dig r.den) :=
 ⟨RtB.of _,RtB.of1 r.den_nz,rfl,by rw [nv_dig,nv_dig];exact r.reduced⟩
theorem fq_of (r:Rat):fq (sgn r.num) (dig r.num.natAbs) (dig r.den)=r:=by
 unfold fq;rw [zv_of,nv_dig];exact Rat.mkRat_self r
theorem FrB.r {p:Prop} [Decidable p] (h:p) (r:Rat):FrB (rS p r) (rD p r) (rT p) (rE p r):=by
 rw [rS_y h,rD_y h,rT_y h,rE_y h];exact FrB.of r
theorem fq_r {p:Prop} [Decidable p] (h:p) (r:Rat):fq (rS p r) (rD p r) (rE p r)=r:=by
 rw [rS_y h,rD_y h,rE_y h];exact fq_of r
end
def Hb (r:Rat) (k:Nat):Prop:=r.num.natAbs < 1048576 ^ k∧r.den < 1048576 ^ k
theorem FrB.hb {ps qs:Int} {pd qd:List Int} (h:FrB ps pd qs qd) {k:Nat} (h1:pd.length≤k) (h2:qd.length≤k):Hb (fq ps pd qd) k:=by
 unfold Hb;rw [h.num,h.den,h.1.abs];exact ⟨Nat.lt_of_lt_of_le (nv_lt h.1.dg) (Nat.pow_le_pow_right (by omega) h1),Nat.lt_of_lt_of_le (nv_lt h.2.1.dg) (Nat.pow_le_pow_right (by omega) h2)⟩
theorem Hb.mono {r:Rat} {k m:Nat} (h:Hb r k) (e:k≤m):Hb r m :=
 ⟨Nat.lt_of_lt_of_le h.1 (Nat.pow_le_pow_right (by omega) e),Nat.lt_of_lt_of_le h.2 (Nat.pow_le_pow_right (by omega) e)⟩
theorem plt {a b A B:Nat} (h:a < A) (k:b < B):a * b < A * B:=by
 have h1:a * b≤a * B:=Nat.mul_le_mul_left a (Nat.le_of_lt k);have h2:a * B < A * B:=Nat.mul_lt_mul_of_pos_right h (by omega);omega
theorem Hb.pos {r:Rat} {k:Nat} (h:Hb r k):0 < k:=by
 rcases Nat.eq_zero_or_pos k with rfl | e
 ·have h2:r.den < 1:=h.2
  have:=r.den_nz;omega
 ·exact e
theorem Hb.mk {n:Int} {d k:Nat} (hk:0 < k) (h:n.natAbs < 1048576 ^ k) (e:d < 1048576 ^ k):Hb (mkRat n d) k:=by
 have hp:=Nat.pow_pos (n:=k) (show 0 < 1048576 by omega);unfold Hb;rw [Rat.num_mkRat,Rat.den_mkRat];by_cases h0:d=0
 ·rw [if_pos h0,if_pos h0];cases k with
  | zero=>omega
  | succ k=>refine ⟨hp,?_⟩;rw [pow_succ'];have:=Nat.pow_pos (n:=k) (show 0 < 1048576 by omega);omega
 ·rw [if_neg h0,if_neg h0];refine ⟨Nat.lt_of_le_of_lt ?_ h,Nat.lt_of_le_of_lt (Nat.div_le_self _ _) e⟩;exact Int.natAbs_ediv_le_natAbs _ _
theorem Hb.divI {n d:Int} {k:Nat} (hk:0 < k) (h:n.natAbs < 1048576 ^ k) (e:d.natAbs < 1048576 ^ k):Hb (Rat.divInt n d) k:=by
 rcases Int.lt_or_le d 0 with hd | hd
 ·have:Rat.divInt n d=mkRat (-n) d.natAbs:=by
   rw [←Rat.divInt_ofNat,← Rat.neg_divInt_neg,show -d=(d.natAbs:Int) by omega]
  rw [this];exact Hb.mk hk (by rw [Int.natAbs_neg];exact h) e
 ·have:Rat.divInt n d=mkRat n d.natAbs:=by rw [←Rat.divInt_ofNat,show d=(d.natAbs:Int) by omega];rfl
  rw [this];exact Hb.mk hk h e
theorem Hb.mul {a b:Rat} {i j:Nat} (h:Hb a i) (k:Hb b j):Hb (a * b) (i+j):=by
 rw [Rat.mul_def']
 have:=h.pos
 refine Hb.mk (by omega) ?_ ?_ <;> rw [Nat.pow_add]
 ·rw [Int.natAbs_mul];exact plt h.1 k.1
 ·exact plt h.2 k.2
theorem div_is (a b:Rat):a / b=Rat.divInt (a.num * b.den) (a.den * b.num):=by
 rw [Rat.div_def,Rat.inv_def]
 conv=>lhs;rw [←Rat.num_divInt_den a]
 exact Rat.divInt_mul_divInt _ _
theorem Hb.div {a b:Rat} {i j:Nat} (h:Hb a i) (k:Hb b j):Hb (a / b) (i+j):=by
 rw [div_is]
 have:=h.pos
 refine Hb.divI (by omega) ?_ ?_ <;> rw [Nat.pow_add,Int.natAbs_mul,Int.natAbs_natCast]
 ·exact plt h.1 k.2
 ·exact plt h.2 k.1
theorem red {n d:Int} (hd:0 < d):(Rat.divInt n d).num=n / (Nat.gcd n.natAbs d.natAbs:Int)∧((Rat.divInt n d).den:Int)=d / (Nat.gcd n.natAbs d.natAbs:Int):=by
 have e:Rat.divInt n d=mkRat n d.natAbs:=by rw [←Rat.divInt_ofNat,show d=(d.natAbs:Int) by omega];rfl
 rw [e,Rat.num_mkRat,Rat.den_mkRat,if_neg (by omega),if_neg (by omega),Nat.gcd_comm d.natAbs];refine ⟨rfl,?_⟩;rw [Int.natCast_ediv,show ((d.natAbs:Nat):Int)=d by omega]
theorem flo_pos {a b:Int} (h:0 < b):flo a b=a / b:=if_pos h
end Fr

namespace Fr
open Bg
structure Bz (s:Int) (l:List Int) (z:Int):Prop where
 rt:RtB s l
 v:zv s l=z
section
variable {s t u x y : Int} {l m n : List Int}
theorem RtB.z (h:RtB s l):Bz s l (zv s l):=⟨h,rfl⟩
theorem Bz.of {p:Prop} [Decidable p] (h:p) (hs:s=oS p x) (hl:l=oD p x):Bz s l x:=by
 rw [oS_y h] at hs;rw [oD_y h] at hl;subst hs hl;exact ⟨RtB.of x,zv_of x⟩
theorem Bz.nat (h:Bz s l x):nv l=x.natAbs:=by rw [←h.v,h.rt.abs]
theorem Bz.eqs (h:Bz s l x):s=sgn x∧l=dig x.natAbs:=by rw [←h.v];exact ⟨h.rt.sg.symm,h.rt.eqd⟩
theorem Bz.lt (h:Bz s l x):x.natAbs < 1048576 ^ l.length:=by rw [←h.nat];exact nv_lt h.rt.dg
theorem Bz.len (h:Bz s l x) {k:Nat} (e:x.natAbs < 1048576 ^ k):l.length≤k:=by rw [h.eqs.2];exact dig_lt e
theorem Bz.pos (h:Bz s l x) (e:0 < s):0 < x:=by
 rcases h.rt.cases with ⟨_,e'⟩ | ⟨a,e'⟩ | ⟨_,e'⟩
 ·omega
 ·have:=h.v;unfold zv at this;subst e';omega
 ·omega
theorem Bz.neg0 (h:Bz s l x) (e:s < 0):x < 0:=by
 rcases h.rt.cases with ⟨_,e'⟩ | ⟨a,e'⟩ | ⟨a,e'⟩
 ·omega
 ·omega
 ·have:=h.v;unfold zv at this;subst e';omega
theorem Bz.ne (h:Bz s l x):s≠0↔x≠0:=by
 rcases h.rt.cases with ⟨a,e'⟩ | ⟨a,e'⟩ | ⟨a,e'⟩ <;> have:=h.v <;> unfold zv at this <;> subst e' <;> omega
theorem Bz.mul (a:Bz s l x) (b:Bz t m y) (hs:u=oS (RtB s l∧RtB t m) (zv s l * zv t m)) (hl:n=oD (RtB s l∧RtB t m) (zv s l * zv t m)):Bz u n (x * y)∧n.length≤l.length+m.length:=by
 have h:=Bz.of ⟨a.rt,b.rt⟩ hs hl;rw [a.v,b.v] at h;refine ⟨h,h.len ?_⟩;rw [Int.natAbs_mul,Nat.pow_add];exact plt a.lt b.lt
theorem Bz.neg (a:Bz s l x) (hs:u=oS (RtB s l) (-zv s l)) (hl:n=oD (RtB s l) (-zv s l)):Bz u n (-x)∧n.length=l.length:=by
 have h:=Bz.of a.rt hs hl;rw [a.v] at h;refine ⟨h,?_⟩;rw [h.eqs.2,a.eqs.2,Int.natAbs_neg]
theorem Bz.int {k:Int} (hs:u=sgn k) (hl:n=dig k.natAbs):Bz u n k:=by subst hs hl;exact ⟨RtB.of k,zv_of k⟩
theorem Bz.int_len {k:Int} (h:Bz u n k) (hk: -9223372036854775808≤k∧k≤9223372036854775807):n.length≤4:=by
 refine h.len ?_
 have:(1048576:Nat) ^ 4=1208925819614629174706176:=by decide
 omega
theorem Bz.gcd (a:Bz s l x) (b:Bz t m y) (hs:u=oS (RtB s l∧RtB t m) ((Nat.gcd (nv l) (nv m):Nat):Int)) (hl:n=oD (RtB s l∧RtB t m) ((Nat.gcd (nv l) (nv m):Nat):Int)):Bz u n ((Nat.gcd x.natAbs y.natAbs:Nat):Int):=by
 have h:=Bz.of ⟨a.rt,b.rt⟩ hs hl;rw [a.nat,b.nat] at h;exact h
theorem Bz.div (a:Bz s l x) (b:Bz t m y) (hy:0 < y) (hs:u=oS ((RtB s l∧RtB t m)∧t≠0) (flo (zv s l) (zv t m))) (hl:n=oD ((RtB s l∧RtB t m)∧t≠0) (flo (zv s l) (zv t m))):Bz u n (x / y):=by
 have h:=Bz.of ⟨⟨a.rt,b.rt⟩,b.ne.2 (by omega)⟩ hs hl;rw [a.v,b.v,flo_pos hy] at h;exact h
theorem Bz.gcd_len (a:Bz s l x) (b:Bz t m y) (hy:0 < y) (h:Bz u n ((Nat.gcd x.natAbs y.natAbs:Nat):Int)):n.length≤m.length:=by
 refine h.len (Nat.lt_of_le_of_lt ?_ b.lt);rw [Int.natAbs_natCast];exact Nat.le_of_dvd (by omega) (Nat.gcd_dvd_right _ _)
theorem Bz.inI (h:Bz s l x):Bg.inI s l↔ -9223372036854775808≤x∧x≤9223372036854775807:=by
 unfold Bg.inI;rw [h.v];exact ⟨fun k=>k.2,fun k=>⟨h.rt,k⟩⟩
theorem one_is (h:Bz s l x):Bg.intV s l=1↔x=1:=by
 unfold Bg.intV;by_cases k:Bg.inI s l
 ·rw [if_pos k,h.v]
 ·rw [if_neg k];exact ⟨fun e=>by omega,fun e=>(k (h.inI.2 (by omega))).elim⟩
end
structure Fz (ps:Int) (pd:List Int) (qs:Int) (qd:List Int) (r:Rat):Prop where
 rt:FrB ps pd qs qd
 v:fq ps pd qd=r
section
variable {ps qs : Int} {pd qd : List Int} {r r' : Rat}
theorem FrB.z (h:FrB ps pd qs qd):Fz ps pd qs qd (fq ps pd qd):=⟨h,rfl⟩
theorem Fz.of {p:Prop} [Decidable p] (h:p) (e1:ps=rS p r) (e2:pd=rD p r) (e3:qs=rT p) (e4:qd=rE p r):Fz ps pd qs qd r:=by
 subst e1 e2 e3 e4;exact ⟨FrB.r h r,fq_r h r⟩
theorem Fz.p (h:Fz ps pd qs qd r):Bz ps pd r.num:=⟨h.rt.1,by rw [←h.v,h.rt.num]⟩
theorem Fz.q (h:Fz ps pd qs qd r):Bz qs qd (r.den:Int):=⟨h.rt.2.1,by rw [←h.v,h.rt.den,h.rt.q1]⟩
theorem Fz.eqs (h:Fz ps pd qs qd r):ps=sgn r.num∧pd=dig r.num.natAbs∧qs=1∧qd=dig r.den:=by rw [←h.v];exact h.rt.eqs
theorem Fz.ret {p:Prop} [Decidable p] (h:Fz ps pd qs qd r) (hp:p) (e:r=r'):ps=rS p r'∧pd=rD p r'∧qs=rT p∧qd=rE p r':=by
 rw [rS_y hp,rD_y hp,rT_y hp,rE_y hp,← e];exact h.eqs
theorem Fz.no {p:Prop} [Decidable p] (hp:¬ p) (r':Rat):0=rS p r'∧[]=rD p r'∧0=rT p∧[]=rE p r':=by
 rw [rS_n hp,rD_n hp,rT_n hp,rE_n hp];exact ⟨rfl,rfl,rfl,rfl⟩
theorem Fz.len (h:Fz ps pd qs qd r) {k:Nat} (e:Hb r k):pd.length≤k∧qd.length≤k:=⟨h.p.len e.1,h.q.len (by rw [Int.natAbs_natCast];exact e.2)⟩
theorem Fz.den (h:Fz ps pd qs qd r):(r.den:Int)≠0:=by have:=r.den_nz;omega
end
section
variable {s t x y ps qs : Int} {l m pd qd : List Int}
theorem new_fin {gs sa sb:Int} {gd ad bd:List Int} (a:Bz s l x) (b:Bz t m y) (hy:0 < y) (g:Bz gs gd ((Nat.gcd x.natAbs y.natAbs:Nat):Int)) (ha:Bz sa ad (x / (Nat.gcd x.natAbs y.natAbs:Nat))) (hb:Bz sb bd (y / (Nat.gcd x.natAbs y.natAbs:Nat))):Fz sa ad sb bd (Rat.divInt x y):=by
 obtain ⟨e1,e2⟩:=red (n:=x) hy;rw [←e1] at ha;rw [←e2] at hb;obtain ⟨h1,h2⟩:=ha.eqs;obtain ⟨h3,h4⟩:=hb.eqs;have hd:sgn ((Rat.divInt x y).den:Int)=1:=by
  have:=(Rat.divInt x y).den_nz
  unfold sgn;rw [if_neg (by omega),if_neg (by omega)]
 rw [hd] at h3;rw [Int.natAbs_natCast] at h4;subst h1 h2 h3 h4;exact ⟨FrB.of _,fq_of _⟩
theorem new_is (a:Bz s l x) (b:Bz t m y) (hy:y≠0) (e1:ps=rS ((RtB s l∧RtB t m)∧t≠0) (Rat.divInt (zv s l) (zv t m))) (e2:pd=rD ((RtB s l∧RtB t m)∧t≠0) (Rat.divInt (zv s l) (zv t m)))
  (e3:qs=rT ((RtB s l∧RtB t m)∧t≠0)) (e4:qd=rE ((RtB s l∧RtB t m)∧t≠0) (Rat.divInt (zv s l) (zv t m))):Fz ps pd qs qd (Rat.divInt x y):=by
 have h:=Fz.of ⟨⟨a.rt,b.rt⟩,b.ne.2 hy⟩ e1 e2 e3 e4;rw [a.v,b.v] at h;exact h
end
theorem gcd_pos {x y gs:Int} {gd:List Int} (g:Bz gs gd ((Nat.gcd x.natAbs y.natAbs:Nat):Int)) (hy:0 < y):0 < ((Nat.gcd x.natAbs y.natAbs:Nat):Int) :=
 Int.natCast_pos.2 (Nat.gcd_pos_of_pos_right _ (by omega))
theorem of_all {s t p q ps qs e:Int} {l m pd qd:List Int} (a:Bz s l p) (b:Bz t m q) (e1:ps=rS ((RtB s l∧RtB t m)∧t≠0) (Rat.divInt (zv s l) (zv t m))) (e2:pd=rD ((RtB s l∧RtB t m)∧t≠0) (Rat.divInt (zv s l) (zv t m)))
  (e3:qs=rT ((RtB s l∧RtB t m)∧t≠0)) (e4:qd=rE ((RtB s l∧RtB t m)∧t≠0) (Rat.divInt (zv s l) (zv t m))) (e5:e=if ¬ (RtB s l∧RtB t m) then 1 else if t=0 then 15 else 0) :
  ps=rS (q≠0) (Rat.divInt p q)∧pd=rD (q≠0) (Rat.divInt p q)∧qs=rT (q≠0)∧qd=rE (q≠0) (Rat.divInt p q)∧e=if q=0 then 15 else 0:=by
 have h0:=b.ne;rw [if_neg (fun h=>h ⟨a.rt,b.rt⟩)] at e5;by_cases hq:q=0
 ·have ht:t=0:=Classical.byContradiction fun k=>h0.1 k hq
  rw [rS_n (fun h=>h.2 ht)] at e1;rw [rD_n (fun h=>h.2 ht)] at e2;rw [rT_n (fun h=>h.2 ht)] at e3;rw [rE_n (fun h=>h.2 ht)] at e4;rw [if_pos ht] at e5;rw [rS_n (fun h=>h hq),rD_n (fun h=>h hq),rT_n (fun h=>h hq),rE_n (fun h=>h hq),if_pos hq];exact ⟨e1,e2,e3,e4,e5⟩
 ·have ht:¬ t=0:=h0.2 hq;obtain ⟨a1,a2,a3,a4⟩:=(new_is a b hq e1 e2 e3 e4).ret (p:=q≠0) (r':=Rat.divInt p q) hq rfl;rw [if_neg ht] at e5;rw [if_neg hq];exact ⟨a1,a2,a3,a4,e5⟩
theorem mul_is (a b:Rat):Rat.divInt (a.num * b.num) (a.den * b.den)=a * b:=by
 rw [Rat.mul_def',← Rat.divInt_ofNat,Int.natCast_mul]
theorem sgn_num {r:Rat}:(sgn r.num < 0↔r < 0)∧(sgn r.num=0↔r=0)∧(0 < sgn r.num↔0 < r):=by
 have h1:r < 0↔r.num < 0:=by rw [Rat.lt_iff];simp
 have h2:r=0↔r.num=0:=Rat.num_eq_zero.symm;have h3:0 < r↔0 < r.num:=by rw [Rat.lt_iff];simp
 rw [h1,h2,h3];unfold sgn;refine ⟨?_,?_,?_⟩ <;> split <;> (try split) <;> omega
end Fr

open Go
namespace Un
open Fr Bg
abbrev U:=List Int × Rat
def dv (o:Option U) (i:Nat):Int:=(o.getD ([],0)).1.getD i 0
def fv (o:Option U):Rat:=(o.getD ([],0)).2
theorem dv_s {o:Option U} {d:List Int} {r:Rat} (h:o=some (d,r)) (i:Nat):dv o i=d.getD i 0:=by subst h;rfl
theorem fv_s {o:Option U} {d:List Int} {r:Rat} (h:o=some (d,r)):fv o=r:=by subst h;rfl
theorem is_s {o:Option U} {u:U} (h:o=some u):o.isSome=true:=by subst h;rfl
theorem dv_n {o:Option U} (h:o=none) (i:Nat):dv o i=0:=by subst h;simp [dv]
theorem is_n {o:Option U} (h:o=none):¬ o.isSome=true:=by subst h;simp
theorem some_of {o:Option U} (h:o.isSome=true):o=some ((o.getD ([],0)).1,fv o):=by
 obtain ⟨x,rfl⟩:=Option.isSome_iff_exists.1 h;rfl
def sl:List (ByteArray × U):=[(⟨#[103]⟩,[1,0,0,0,0,0],Rat.divInt 1 1),(⟨#[116]⟩,[1,0,0,0,0,0],Rat.divInt 1000000 1),(⟨#[109]⟩,[0,1,0,0,0,0],Rat.divInt 1 1),(⟨#[108]⟩,[0,3,0,0,0,0],Rat.divInt 1 1000),
 (⟨#[115]⟩,[0,0,1,0,0,0],Rat.divInt 1 1),(⟨#[104]⟩,[0,0,1,0,0,0],Rat.divInt 3600 1),(⟨#[100]⟩,[0,0,1,0,0,0],Rat.divInt 86400 1),(⟨#[74]⟩,[0,0,0,1,0,0],Rat.divInt 1 1),(⟨#[87,104]⟩,[0,0,0,1,0,0],Rat.divInt 3600 1),
 (⟨#[99,101,110,116]⟩,[0,0,0,0,1,0],Rat.divInt 1 1),(⟨#[101,117,114]⟩,[0,0,0,0,1,0],Rat.divInt 100 1),(⟨#[112,99]⟩,[0,0,0,0,0,1],Rat.divInt 1 1)]
def look:List (ByteArray × U)→ByteArray→Option U
 | [],_=>none
 | x :: l,s=>if s=x.1 then some x.2 else look l s
def sym (s:ByteArray):Option U:=look sl s
theorem look_mem {s:ByteArray} {u:U}:∀ {l:List (ByteArray × U)},look l s=some u→(s,u) ∈ l
 | [],h=>by cases h
 | x :: l,h=>by
  unfold look at h;split at h
  ·rename_i e;obtain rfl:=Option.some.inj h;subst e;exact List.mem_cons_self
  ·exact List.mem_cons_of_mem _ (look_mem h)
theorem look_no {s:ByteArray}:∀ {l:List (ByteArray × U)},(∀ x ∈ l,¬ s=x.1)→look l s=none
 | [],_=>rfl
 | x :: l,h=>by
  unfold look;rw [if_neg (h x List.mem_cons_self)];exact look_no fun y hy=>h y (List.mem_cons_of_mem _ hy)
theorem sym_no {s:ByteArray} (h1:¬ s=⟨#[103]⟩) (h2:¬ s=⟨#[116]⟩) (h3:¬ s=⟨#[109]⟩) (h4:¬ s=⟨#[108]⟩) (h5:¬ s=⟨#[115]⟩) (h6:¬ s=⟨#[104]⟩) (h7:¬ s=⟨#[100]⟩) (h8:¬ s=⟨#[74]⟩) (h9:¬ s=⟨#[87,104]⟩)
  (b:¬ s=⟨#[99,101,110,116]⟩) (d:¬ s=⟨#[101,117,114]⟩) (f:¬ s=⟨#[112,99]⟩):sym s=none:=by
 refine look_no fun x hx=>?_;simp only [sl,List.mem_cons,List.not_mem_nil,or_false] at hx
 rcases hx with rfl | rfl | rfl | rfl | rfl | rfl | rfl | rfl | rfl | rfl | rfl | rfl <;> assumption
def ok (u:U) (k:Nat):Prop:=u.1.length=6∧(∀ x ∈ u.1, -3≤x∧x≤3)∧0 < u.2∧Hb u.2 k
instance (r : Rat) (k : Nat) : Decidable (Hb r k) := by unfold Hb; infer_instance
instance (u : U) (k : Nat) : Decidable (ok u k) := by unfold ok; infer_instance
theorem sl_ok:∀ x ∈ sl,ok x.2 1:=by decide +kernel
theorem sym_ok {s:ByteArray} {u:U} (h:sym s=some u):ok u 1:=sl_ok _ (look_mem h)
def pre (c:Int):Option (Int × Int):=if c=107 then some (1000,1) else if c=77 then some (1000000,1) else if c=71 then some (1000000000,1) else if c=109 then some (1,1000) else none
def pp (o:Option (Int × Int)):Int:=(o.getD (0,0)).1
def pq (o:Option (Int × Int)):Int:=(o.getD (0,0)).2
theorem pre_ok {c:Int} (h:(pre c).isSome=true):(0 < pp (pre c)∧pp (pre c)≤1000000000)∧0 < pq (pre c)∧pq (pre c)≤1000:=by
 unfold pre at h ⊢;split
 ·decide
 ·split
  ·decide
  ·split
   ·decide
   ·split
    ·decide
    ·rename_i h1 h2 h3 h4
     rw [if_neg h1,if_neg h2,if_neg h3,if_neg h4] at h;cases h
def pf (s:ByteArray):Prop:=((((s=⟨#[103]⟩∨s=⟨#[109]⟩)∨s=⟨#[108]⟩)∨s=⟨#[115]⟩)∨s=⟨#[74]⟩)∨s=⟨#[87,104]⟩
instance (s : ByteArray) : Decidable (pf s) := by unfold pf; infer_instance
def wdB (s:ByteArray):Prop:=(pre (((bl s).getD 0 default).toNat:Int)).isSome=true∧(sym (s.extract 1 s.size)).isSome=true∧pf (s.extract 1 s.size)
instance (s : ByteArray) : Decidable (wdB s) := by unfold wdB; infer_instance
def wd (s:ByteArray):Option U:=if wdB s then some (((sym (s.extract 1 s.size)).getD ([],0)).1,fv (sym (s.extract 1 s.size)) * Rat.divInt (pp (pre (((bl s).getD 0 default).toNat:Int))) (pq (pre (((bl s).getD 0 default).toNat:Int)))) else none
def word (s:ByteArray):Option U:=if (sym s).isSome=true then sym s else wd s
theorem word_y {s:ByteArray} (h:(sym s).isSome=true):word s=sym s:=if_pos h
theorem word_n {s:ByteArray} (h:¬ (sym s).isSome=true) (k:¬ wdB s):word s=none:=by unfold word wd;rw [if_neg h,if_neg k]
theorem word_p {s:ByteArray} (h:¬ (sym s).isSome=true) (k:wdB s):word s=some (((sym (s.extract 1 s.size)).getD ([],0)).1,fv (sym (s.extract 1 s.size)) * Rat.divInt (pp (pre (((bl s).getD 0 default).toNat:Int))) (pq (pre (((bl s).getD 0 default).toNat:Int)))):=by unfold word wd;rw [if_neg h,if_pos k]
theorem divI_pos {p q:Int} (hp:0 < p) (hq:0 < q):0 < Rat.divInt p q:=by
 have h:=(Fr.red (n:=p) hq).1;have hg:0 < Nat.gcd p.natAbs q.natAbs:=Nat.gcd_pos_of_pos_left _ (by omega);have hd:((Nat.gcd p.natAbs q.natAbs:Nat):Int) ∣ p:=Int.dvd_natAbs.1 (Int.natCast_dvd_natCast.2 (Nat.gcd_dvd_left _ _));have b:=Int.ediv_pos_of_pos_of_dvd hp (by omega) hd;rw [←Fr.sgn_num.2.2,h];generalize p / ((Nat.gcd p.natAbs q.natAbs:Nat):Int)=x at b;unfold Bg.sgn;omega
theorem word_ok {s:ByteArray} {u:U} (h:word s=some u):ok u 4:=by
 by_cases hs:(sym s).isSome=true
 ·rw [word_y hs] at h;obtain ⟨a,b,c,d⟩:=sym_ok h;exact ⟨a,b,c,d.mono (by omega)⟩
 ·by_cases hk:wdB s
  ·rw [word_p hs hk] at h;obtain rfl:=Option.some.inj h;obtain ⟨a,b,c,d⟩:=sym_ok (some_of hk.2.1);obtain ⟨⟨h1,h2⟩,h3,h4⟩:=pre_ok hk.1;refine ⟨a,b,Rat.mul_pos c (divI_pos h1 h3),?_⟩;refine (d.mul (Hb.divI (k:=3) (by omega) ?_ ?_))
   ·have:(1048576:Nat) ^ 3=1152921504606846976:=by decide
    omega
   ·have:(1048576:Nat) ^ 3=1152921504606846976:=by decide
    omega
  ·rw [word_n hs hk] at h;cases h
def tmN (a f:Rat) (p:Prop) [Decidable p]:Nat→Rat
 | 0=>a
 | n+1=>if p then tmN a f p n * f else tmN a f p n / f
def tm (a f:Rat) (e:Int):Rat:=tmN a f (0 < e) e.natAbs
theorem tmN_y {a f:Rat} {p:Prop} [Decidable p] (h:p) (n:Nat):tmN a f p (n+1)=tmN a f p n * f:=by rw [tmN,if_pos h]
theorem tmN_n {a f:Rat} {p:Prop} [Decidable p] (h:¬ p) (n:Nat):tmN a f p (n+1)=tmN a f p n / f:=by rw [tmN,if_neg h]
theorem tmN_hb {a f:Rat} {p:Prop} [Decidable p] {i j:Nat} (ha:Hb a i) (hf:Hb f j):∀ n,Hb (tmN a f p n) (i+n * j)
 | 0=>by rw [Nat.zero_mul];exact ha
 | n+1=>by
  have ih:=tmN_hb (p:=p) ha hf n;rw [tmN,show i+(n+1) * j=i+n * j+j by rw [Nat.succ_mul,Nat.add_assoc]];split
  ·exact ih.mul hf
  ·exact ih.div hf
theorem tm_hb {a f:Rat} {e:Int} {i j:Nat} (ha:Hb a i) (hf:Hb f j) (he: -9≤e∧e≤9):Hb (tm a f e) (i+9 * j):=by
 refine (tmN_hb ha hf _).mono ?_
 have:e.natAbs * j≤9 * j:=Nat.mul_le_mul_right _ (by omega)
 omega
def ltr (c:Int):Prop:=(97≤c∧c≤122)∨(65≤c∧c≤90)
instance (c : Int) : Decidable (ltr c) := by unfold ltr; infer_instance
def nlL:List UInt8→Nat
 | []=>0
 | c :: l=>if ltr (c.toNat:Int) then nlL l+1 else 0
def nl (s:ByteArray):Nat:=nlL (bl s)
theorem nlL_at:∀ {l:List UInt8} {n:Nat},n≤l.length→(∀ j,j < n→ltr ((l.getD j default).toNat:Int))→(n=l.length∨¬ ltr ((l.getD n default).toNat:Int))→nlL l=n
 | [],n,hn,_,_=>by simp at hn;subst hn;rfl
 | c :: l,0,_,_,h=>by
  rcases h with h | h
  ·simp at h
  ·unfold nlL;rw [if_neg (by simpa using h)]
 | c :: l,n+1,hn,hj,h=>by
  unfold nlL;rw [if_pos (by simpa using hj 0 (by omega)),nlL_at (by simpa using hn) (fun j b=>by have:=hj (j+1) (by omega);simpa using this) (by simpa using h)]
theorem nlL_le:∀ (l:List UInt8),nlL l≤l.length
 | []=>Nat.le_refl _
 | c :: l=>by unfold nlL;have:=nlL_le l;split <;> simp <;> omega
theorem nl_le (s:ByteArray):nl s≤s.size:=by have:=nlL_le (bl s);rw [bl_len] at this;exact this
theorem nl_at {s:ByteArray} {n:Nat} (hn:n≤s.size) (hj:∀ j,j < n→ltr (((bl s).getD j default).toNat:Int)) (h:n=s.size∨¬ ltr (((bl s).getD n default).toNat:Int)):nl s=n :=
 nlL_at (by rw [bl_len];exact hn) hj (by rw [bl_len];exact h)
def rest (s:ByteArray):ByteArray:=s.extract (nl s) s.size
def num (t:ByteArray):Prop:=(¬t=ByteArray.empty∧50≤(((bl t).getD 0 default).toNat:Int))∧(((bl t).getD 0 default).toNat:Int)≤57
instance (t : ByteArray) : Decidable (num t) := by unfold num; infer_instance
def cuW (s:ByteArray):ByteArray:=s.extract 0 (nl s)
def cuE (s:ByteArray):Int:=if num (rest s) then (((bl (rest s)).getD 0 default).toNat:Int) - 48 else 1
def cuR (s:ByteArray):ByteArray:=if num (rest s) then (rest s).extract 1 (rest s).size else rest s
theorem cuE_rg (s:ByteArray):1≤cuE s∧cuE s≤9:=by
 unfold cuE;split
 ·rename_i h;obtain ⟨⟨_,h1⟩,h2⟩:=h;omega
 ·omega
theorem cuR_size (s:ByteArray):(cuR s).size≤s.size - nl s:=by
 have h1:=nl_le s;have h2:(rest s).size=s.size - nl s:=by unfold rest;rw [ByteArray.size_extract];omega
 unfold cuR;split
 ·rw [ByteArray.size_extract];omega
 ·omega
theorem cuW_size (s:ByteArray):(cuW s).size=nl s:=by
 have h1:=nl_le s;unfold cuW;rw [ByteArray.size_extract];omega
def itm (c:UInt8) (t:ByteArray):Ditem:=⟨cuW t,if (c.toNat:Int)=47 then -cuE t else cuE t⟩
def good (r:ByteArray):Prop:=0 < nl (r.extract 1 r.size)∧((((bl r).getD 0 default).toNat:Int)=42∨(((bl r).getD 0 default).toNat:Int)=47)
instance (r : ByteArray) : Decidable (good r) := by unfold good; infer_instance
def itN:Nat→ByteArray→Option (List Ditem)
 | 0,_=>some []
 | n+1,r=>if r=ByteArray.empty then some [] else if good r then (itN n (cuR (r.extract 1 r.size))).map (itm ((bl r).getD 0 default) (r.extract 1 r.size) :: ·) else none
def it (r:ByteArray):Option (List Ditem):=itN r.size r
theorem itN_fuel:∀ (n m:Nat) (r:ByteArray),r.size≤n→r.size≤m→itN n r=itN m r
 | 0,0,_,_,_=>rfl
 | 0,m+1,r,h,_=>by
  have h0:r=ByteArray.empty:=Classical.byContradiction fun e=>Dm.size_ne e (by omega)
  unfold itN;rw [if_pos h0]
 | n+1,0,r,_,h=>by
  have h0:r=ByteArray.empty:=Classical.byContradiction fun e=>Dm.size_ne e (by omega)
  unfold itN;rw [if_pos h0]
 | n+1,m+1,r,h1,h2=>by
  unfold itN;by_cases h0:r=ByteArray.empty
  ·rw [if_pos h0,if_pos h0]
  ·rw [if_neg h0,if_neg h0];have hs:=Dm.size_ne h0;have h3:=cuR_size (r.extract 1 r.size);rw [ByteArray.size_extract] at h3;rw [itN_fuel n m _ (by omega) (by omega)]
theorem it_end {r:ByteArray} (h:r=ByteArray.empty):it r=some []:=by subst h;rfl
theorem it_bad {r:ByteArray} (h:¬ r=ByteArray.empty) (k:¬ good r):it r=none:=by
 have hs:=Dm.size_ne h;unfold it;obtain ⟨n,hn⟩:∃ n,r.size=n+1:=⟨r.size - 1,by omega⟩;rw [hn,itN,if_neg h,if_neg k]
theorem it_step {r:ByteArray} (h:¬ r=ByteArray.empty) (k:good r):it r=(it (cuR (r.extract 1 r.size))).map (itm (((bl r).getD 0 default)) (r.extract 1 r.size) :: ·):=by
 have hs:=Dm.size_ne h;have h3:=cuR_size (r.extract 1 r.size);rw [ByteArray.size_extract] at h3;have e:it r=itN r.size r:=rfl;rw [e];obtain ⟨n,hn⟩:∃ n,r.size=n+1:=⟨r.size - 1,by omega⟩;rw [hn,itN,if_neg h,if_pos k,← hn];unfold it;rw [itN_fuel n _ _ (by omega) (Nat.le_refl _)]
def itA (b:List Ditem) (r:ByteArray):Option (List Ditem):=(it r).map (b ++·)
theorem itA_nil (r:ByteArray):itA [] r=it r:=by
 unfold itA;cases it r <;> simp
theorem itA_end {r:ByteArray} {b:List Ditem} (h:r=ByteArray.empty):itA b r=some b:=by unfold itA;rw [it_end h];simp
theorem itA_bad {r:ByteArray} {b:List Ditem} (h:¬ r=ByteArray.empty) (k:¬ good r):itA b r=none:=by unfold itA;rw [it_bad h k];rfl
theorem itA_step {r t:ByteArray} {b:List Ditem} {x:Ditem} (h:¬ r=ByteArray.empty) (k:good r) (ht:t=r.extract (1:Int).toNat (r.size:Int).toNat) (hx:x=itm ((bl r).getD 0 default) t):itA (b ++[x]) (cuR t)=itA b r:=by
 have d:t=r.extract 1 r.size:=ht;unfold itA;rw [it_step h k,← d,← hx];cases it (cuR t) <;> simp
def start (s:ByteArray):ByteArray:=if Dm.cpB s ⟨#[49]⟩ then Dm.cpR s ⟨#[49]⟩ else ⟨#[42]⟩ ++s
def items (s:ByteArray):Option (List Ditem):=if s=ByteArray.empty then some [] else if 40 < s.size then none else it (start s)
theorem items_nil {s:ByteArray} (h:s=ByteArray.empty):items s=some []:=if_pos h
theorem items_far {s:ByteArray} (h:¬ s=ByteArray.empty) (k:40 < s.size):items s=none:=by unfold items;rw [if_neg h,if_pos k]
theorem items_is {s:ByteArray} (h:¬ s=ByteArray.empty) (k:¬ 40 < s.size):items s=itA [] (start s):=by unfold items;rw [if_neg h,if_neg k,itA_nil]
theorem start_size {s:ByteArray}:(start s).size≤s.size+1:=by
 unfold start;split
 ·have:=Dm.cpR_size (s:=s) (p:=⟨#[49]⟩);omega
 ·rw [ByteArray.size_append];have:(⟨#[42]⟩:ByteArray).size=1:=rfl;omega
def addD (a b:List Int) (e:Int):List Int:=[a.getD 0 0+b.getD 0 0 * e,a.getD 1 0+b.getD 1 0 * e,a.getD 2 0+b.getD 2 0 * e,a.getD 3 0+b.getD 3 0 * e,a.getD 4 0+b.getD 4 0 * e,a.getD 5 0+b.getD 5 0 * e]
def acc:List Ditem→U→Option U
 | [],u=>some u
 | x :: l,u=>if (word x.word).isSome=true then acc l (addD u.1 ((word x.word).getD ([],0)).1 x.exp,tm u.2 (fv (word x.word)) x.exp) else none
theorem acc_drop {l:List Ditem} {k:Nat} {u:U} (h:k < l.length):acc (l.drop k) u=if (word (l.getD k default).word).isSome=true then acc (l.drop (k+1)) (addD u.1 ((word (l.getD k default).word).getD ([],0)).1 (l.getD k default).exp,tm u.2 (fv (word (l.getD k default).word)) (l.getD k default).exp) else none:=by
 rw [List.drop_eq_getElem_cons h,acc]
 have:l.getD k default=l[k]:=by simp [List.getD_eq_getElem?_getD,h]
 rw [this]
def fin (o:Option U):Option U × Int:=if o.isSome=true then (if Dm.Rt (o.getD ([],0)).1 then (o,0) else (none,3)) else (none,11)
def read (s:ByteArray):Option U × Int:=if (items s).isSome=true then fin (acc ((items s).getD []) ([0,0,0,0,0,0],1)) else (none,12)
theorem read_syn {s:ByteArray} (h:¬ (items s).isSome=true):read s=(none,12):=if_neg h
theorem read_nam {s:ByteArray} (h:(items s).isSome=true) (k:acc ((items s).getD []) ([0,0,0,0,0,0],1)=none):read s=(none,11):=by unfold read;rw [if_pos h,k];rfl
theorem read_rng {s:ByteArray} {d:List Int} {r:Rat} (h:(items s).isSome=true) (k:acc ((items s).getD []) ([0,0,0,0,0,0],1)=some (d,r)) (hd:¬ Dm.Rt d):read s=(none,3):=by unfold read fin;rw [if_pos h,k,if_pos (show (some (d,r)).isSome=true from rfl)];exact if_neg hd
theorem read_ok {s:ByteArray} {d:List Int} {r:Rat} (h:(items s).isSome=true) (k:acc ((items s).getD []) ([0,0,0,0,0,0],1)=some (d,r)) (hd:Dm.Rt d):read s=(some (d,r),0):=by unfold read fin;rw [if_pos h,k,if_pos (show (some (d,r)).isSome=true from rfl)];exact if_pos hd
def itOk (x:Ditem):Prop:=0 < x.word.size∧ -9≤x.exp∧x.exp≤9
theorem itm_ok {c:UInt8} {t:ByteArray} (h:0 < nl t):itOk (itm c t):=by
 have h1:=cuW_size t;have h2:=cuE_rg t;refine ⟨by show 0 < (cuW t).size;omega,?_⟩;show -9≤(if (c.toNat:Int)=47 then -cuE t else cuE t)∧(if (c.toNat:Int)=47 then -cuE t else cuE t)≤9;split <;> omega
theorem it_ok:∀ (n:Nat) (r:ByteArray) (l:List Ditem),itN n r=some l→l.length≤r.size∧∀ x ∈ l,itOk x
 | 0,r,l,h=>by obtain rfl:=Option.some.inj h;exact ⟨by simp,fun x hx=>by cases hx⟩
 | n+1,r,l,h=>by
  unfold itN at h;split at h
  ·obtain rfl:=Option.some.inj h;exact ⟨by simp,fun x hx=>by cases hx⟩
  ·rename_i hne
   split at h
   ·rename_i hg
    obtain ⟨m,hm,rfl⟩:=Option.map_eq_some_iff.1 h;obtain ⟨h1,h2⟩:=it_ok n _ m hm;have h3:=cuR_size (r.extract 1 r.size);rw [ByteArray.size_extract] at h3;have hs:=Dm.size_ne hne;refine ⟨by simp;omega,fun x hx=>?_⟩;rcases List.mem_cons.1 hx with rfl | hx
    ·exact itm_ok hg.1
    ·exact h2 x hx
   ·cases h
theorem items_ok {s:ByteArray} {l:List Ditem} (h:items s=some l):l.length≤41∧∀ x ∈ l,itOk x:=by
 unfold items at h;split at h
 ·obtain rfl:=Option.some.inj h;exact ⟨by simp,fun x hx=>by cases hx⟩
 ·split at h
  ·cases h
  ·obtain ⟨h1,h2⟩:=it_ok _ _ l h
   have:=start_size (s:=s)
   exact ⟨by omega,h2⟩
theorem its {s:ByteArray} (h:(items s).isSome=true):items s=some ((items s).getD []):=by
 obtain ⟨x,hx⟩:=Option.isSome_iff_exists.1 h;rw [hx];rfl
theorem mul27 {x e:Int} (h: -3≤x∧x≤3) (k: -9≤e∧e≤9): -27≤x * e∧x * e≤27:=by
 have h1:(x * e).natAbs≤27:=by
  rw [Int.natAbs_mul]
  have:x.natAbs * e.natAbs≤3 * 9:=Nat.mul_le_mul (by omega) (by omega)
  omega
 omega
def R27 (k o:Int):Prop:= -27 * k≤o∧o≤27 * k
theorem R27.mul {x e n:Int} (h: -3≤x∧x≤3) (k: -9≤e∧e≤9) (hn:n=x * e):R27 1 n:=by
 have:=mul27 h k
 unfold R27;omega
theorem R27.r64 {n:Int} (h:R27 1 n): -9223372036854775808≤n∧n≤9223372036854775807:=by unfold R27 at h;omega
theorem R27.a64 {n o k:Int} (a:R27 k o) (h:R27 1 n) (hk:0≤k∧k≤41): -9223372036854775808≤o+n∧o+n≤9223372036854775807:=by unfold R27 at h a;omega
theorem R27.add {n o k:Int} (a:R27 k o) (h:R27 1 n):R27 (k+1) (o+n):=by unfold R27 at h a ⊢;omega
theorem R27.zero:R27 0 0:=by unfold R27;omega
theorem dv_rg {o:Option U} {k:Nat} (h:∀ u,o=some u→ok u k) (i:Nat): -3≤dv o i∧dv o i≤3:=by
 unfold dv;cases o with
 | none=>simp
 | some u =>
  obtain ⟨_,h2,_⟩:=h u rfl;show -3≤u.1.getD i 0∧u.1.getD i 0≤3;by_cases hi:i < u.1.length
  ·rw [List.getD_eq_getElem?_getD,List.getElem?_eq_getElem hi];exact h2 _ (List.getElem_mem hi)
  ·rw [List.getD_eq_getElem?_getD,List.getElem?_eq_none (by omega)];simp
theorem word_rg (w:ByteArray) (i:Nat): -3≤dv (word w) i∧dv (word w) i≤3:=dv_rg (k:=4) (fun _ h=>word_ok h) i
end Un

open Go
namespace Tb
open Fr Bg
def dgt (c:Int):Prop:=48≤c∧c≤57
def inn (c:Int):Prop:=(Un.ltr c∨dgt c)∨c=95
instance (c : Int) : Decidable (dgt c) := by unfold dgt; infer_instance
instance (c : Int) : Decidable (inn c) := by unfold inn; infer_instance
def spL:List UInt8→Nat
 | []=>0
 | c :: l=>if inn (c.toNat:Int) then spL l+1 else 0
def spn (s:ByteArray):Nat:=spL (bl s)
theorem spL_at:∀ {l:List UInt8} {n:Nat},n≤l.length→(∀ j,j < n→inn ((l.getD j default).toNat:Int))→(n=l.length∨¬ inn ((l.getD n default).toNat:Int))→spL l=n
 | [],n,hn,_,_=>by simp at hn;subst hn;rfl
 | c :: l,0,_,_,h=>by
  rcases h with h | h
  ·simp at h
  ·unfold spL;rw [if_neg (by simpa using h)]
 | c :: l,n+1,hn,hj,h=>by
  unfold spL;rw [if_pos (by simpa using hj 0 (by omega)),spL_at (by simpa using hn) (fun j b=>by have:=hj (j+1) (by omega);simpa using this) (by simpa using h)]
theorem spn_at {s:ByteArray} {n:Nat} (hn:n≤s.size) (hj:∀ j,j < n→inn (((bl s).getD j default).toNat:Int)) (h:n=s.size∨¬ inn (((bl s).getD n default).toNat:Int)):spn s=n :=
 spL_at (by rw [bl_len];exact hn) hj (by rw [bl_len];exact h)
def Nm (s:ByteArray):Prop:=((¬s=ByteArray.empty∧Un.ltr (((bl s).getD 0 default).toNat:Int))∧(s.size:Int)≤20)∧(spn s:Int)=(s.size:Int)
instance (s : ByteArray) : Decidable (Nm s) := by unfold Nm; infer_instance
def inR (n:Int):Prop:= -1099511627776≤n∧n≤1099511627776
instance (n : Int) : Decidable (inR n) := by unfold inR; infer_instance
def ky (l:List DRow) (i:Nat):Int:=(l.getD i default).Key
def vl (l:List DRow) (i:Nat):Int:=(l.getD i default).Value
def RowOk (l:List DRow) (i:Nat):Prop:=(inR (ky l i)∧inR (vl l i))∧(0 < i→ky l (i - 1) < ky l i)
instance (l : List DRow) (i : Nat) : Decidable (RowOk l i) := by unfold RowOk; infer_instance
def RtT (nm un:ByteArray) (l:List DRow):Prop:=(((Un.read un).2=0∧Nm nm)∧(l.length:Int)≤100)∧∀ i,i < l.length→RowOk l i
instance rowsDec (l : List DRow) : Decidable (∀ i, i < l.length → RowOk l i) := Nat.decidableBallLT l.length fun i _ => RowOk l i
instance (nm un : ByteArray) (l : List DRow) : Decidable (RtT nm un l) := by
  have d := rowsDec l
  unfold RtT
  exact instDecidableAnd
end Tb

open Go
namespace Fx
def pln (c:Int):Prop:=32≤c∧c≤126
instance (c : Int) : Decidable (pln c) := by unfold pln; infer_instance
def plL:List UInt8→Nat
 | []=>0
 | c :: l=>if pln (c.toNat:Int) then plL l+1 else 0
def plS (s:ByteArray):Nat:=plL (bl s)
theorem plL_at:∀ {l:List UInt8} {n:Nat},n≤l.length→(∀ j,j < n→pln ((l.getD j default).toNat:Int))→(n=l.length∨¬ pln ((l.getD n default).toNat:Int))→plL l=n
 | [],n,hn,_,_=>by simp at hn;subst hn;rfl
 | c :: l,0,_,_,h=>by
  rcases h with h | h
  ·simp at h
  ·unfold plL;rw [if_neg (by simpa using h)]
 | c :: l,n+1,hn,hj,h=>by
  unfold plL;rw [if_pos (by simpa using hj 0 (by omega)),plL_at (by simpa using hn) (fun j b=>by have:=hj (j+1) (by omega);simpa using this) (by simpa using h)]
theorem plS_at {s:ByteArray} {n:Nat} (hn:n≤s.size) (hj:∀ j,j < n→pln (((bl s).getD j default).toNat:Int)) (h:n=s.size∨¬ pln (((bl s).getD n default).toNat:Int)):plS s=n :=
 plL_at (by rw [bl_len];exact hn) hj (by rw [bl_len];exact h)
def Qt (s:ByteArray):Prop:=(s.size:Int)≤400∧(plS s:Int)=(s.size:Int)
instance (s : ByteArray) : Decidable (Qt s) := by unfold Qt; infer_instance
def esc1 (c:UInt8):List UInt8:=if (c.toNat:Int)=34∨(c.toNat:Int)=92 then [92,c] else [c]
def escL (l:List UInt8):List UInt8:=34 :: l.flatMap esc1
def esc (s:ByteArray):ByteArray:=⟨(escL (bl s) ++[34]).toArray⟩
def quo (s:ByteArray):ByteArray:=if Qt s then esc s else ByteArray.empty
theorem escL_step {l:List UInt8} {i:Int} {c:UInt8} (h0:0≤i) (hi:i < l.length) (hc:c=l.getD i.toNat default):escL (l.take (i+1).toNat)=escL (l.take i.toNat) ++esc1 c:=by
 have b:i.toNat < l.length:=by omega
 rw [show (i+1).toNat=i.toNat+1 by omega];have e:l[i.toNat]=c:=by rw [hc,List.getD_eq_getElem?_getD,List.getElem?_eq_getElem b];rfl
 unfold escL;rw [List.take_add_one,List.getElem?_eq_getElem b,e,List.flatMap_append]
 simp
theorem escL_len:∀ l:List UInt8,(escL l).length≤2 * l.length+1:=fun l=>by
 unfold escL
 have:∀ m:List UInt8,(m.flatMap esc1).length≤2 * m.length:=fun m=>by
  induction m with
  | nil=>simp
  | cons c m ih =>
   rw [List.flatMap_cons,List.length_append,List.length_cons]
   have:(esc1 c).length≤2:=by unfold esc1;split <;> simp
   omega
 have:=this l
 simp only [List.length_cons];omega
def isW (s:ByteArray):Prop:=s=⟨#[110,111,116]⟩∨s=⟨#[105,102]⟩∨s=⟨#[116,104,101,110]⟩∨s=⟨#[101,108,115,101]⟩∨s=⟨#[97,110,100]⟩∨s=⟨#[111,114]⟩∨s=⟨#[108,111,111,107]⟩∨s=⟨#[109,105,110]⟩∨s=⟨#[109,97,120]⟩∨s=⟨#[105,110,116,111]⟩∨s=⟨#[116,111]⟩∨s=⟨#[97,115]⟩
instance (s : ByteArray) : Decidable (isW s) := by unfold isW; infer_instance
def fre (s:ByteArray):Prop:=Tb.Nm s∧¬ isW s
instance (s : ByteArray) : Decidable (fre s) := by unfold fre; infer_instance
def opT (o:Int):ByteArray:=if o=6 then ⟨#[43]⟩ else if o=7 then ⟨#[45]⟩ else if o=8 then ⟨#[42]⟩ else if o=9 then ⟨#[47]⟩ else if o=12 then ⟨#[60]⟩ else if o=13 then ⟨#[61]⟩ else if o=14 then ⟨#[97,110,100]⟩ else if o=15 then ⟨#[111,114]⟩ else ByteArray.empty
def isO (o:Int):Prop:=(6≤o∧o≤9)∨(12≤o∧o≤15)
instance (o : Int) : Decidable (isO o) := by unfold isO; infer_instance
def nodeP (o N:Int) (u m:ByteArray) (n:Int):Prop :=
 if o=0 then Qt u∧(0≤N∧N≤1099511627776)∧m=ByteArray.empty∧n=0
 else (N=0∧u=ByteArray.empty) ∧
  if o=1 then fre m∧n=0 else if o=2 then fre m∧n=1 else if o=3 then fre m∧1≤n∧n≤6 else if o=4 then m=ByteArray.empty∧n=1
  else if o=5 then m=ByteArray.empty∧n=3 else if o=10∨o=11 then m=ByteArray.empty∧n=2 else isO o∧m=ByteArray.empty∧n=2
instance (o N : Int) (u m : ByteArray) (n : Int) : Decidable (nodeP o N u m n) := by unfold nodeP; infer_instance
mutual
def sz:Ex→Nat
 | .mk _ _ _ _ l=>1+szL l
def szL:List Ex→Nat
 | []=>0
 | x :: l=>sz x+szL l
end
theorem sz_pos (x:Ex):0 < sz x:=by cases x;unfold sz;omega
theorem szL_mem:∀ {l:List Ex} {y:Ex},y ∈ l→sz y≤szL l
 | x :: l,y,h=>by
  unfold szL;rcases List.mem_cons.1 h with rfl | h
  ·omega
  ·have:=szL_mem h;omega
theorem sz_sub {x y:Ex} (h:y ∈ x.l):sz y < sz x:=by
 cases x with
 | mk o n u m l=>have:=szL_mem (show y ∈ l from h);show sz y < 1+szL l;omega
theorem sz_arg {x y:DExpr} (h:y ∈ x.Args.l):sz (er y) < sz (er x):=sz_sub (by rw [er_l];exact List.mem_map_of_mem h)
mutual
def shp:Ex→Prop
 | .mk o n u m l=>nodeP o n u m l.length∧shpL l
def shpL:List Ex→Prop
 | []=>True
 | x :: l=>shp x∧shpL l
end
theorem shpL_iff:∀ {l:List Ex},shpL l↔∀ y ∈ l,shp y
 | []=>by simp [shpL]
 | x :: l=>by unfold shpL;rw [shpL_iff];simp
theorem shp_iff (x:DExpr):shp (er x)↔nodeP x.Op x.N x.Unit x.Name x.Args.l.length∧∀ y ∈ x.Args.l,shp (er y):=by
 obtain ⟨o,n,u,m,⟨l,s⟩⟩:=x;rw [er_mk,shp,shpL_iff,List.length_map]
 simp
mutual
def shpD:(x:Ex)→Decidable (shp x)
 | .mk o n u m l=>by
  unfold shp;exact @instDecidableAnd _ _ inferInstance (shpLD l)
def shpLD:(l:List Ex)→Decidable (shpL l)
 | []=>by unfold shpL;infer_instance
 | x :: l=>by
  unfold shpL;exact @instDecidableAnd _ _ (shpD x) (shpLD l)
end
instance (x : Ex) : Decidable (shp x) := shpD x
mutual
def sm:Ex→Prop
 | .mk _ _ u m l=>(u.size≤9223372036854775807∧m.size≤9223372036854775807)∧smL l
def smL:List Ex→Prop
 | []=>True
 | x :: l=>sm x∧smL l
end
theorem smL_iff:∀ {l:List Ex},smL l↔∀ y ∈ l,sm y
 | []=>by simp [smL]
 | x :: l=>by unfold smL;rw [smL_iff];simp
theorem sm_iff (x:DExpr):sm (er x)↔(x.Unit.size≤9223372036854775807∧x.Name.size≤9223372036854775807)∧∀ y ∈ x.Args.l,sm (er y):=by
 obtain ⟨o,n,u,m,⟨l,s⟩⟩:=x;rw [er_mk,sm,smL_iff]
 simp
mutual
def cnt:Ex→Int→Int→Bool × Int
 | .mk _ _ _ _ l,v,n=>if 200 < n+1∨20 < v then (false,n+1) else cntL l (v+1) (n+1)
def cntL:List Ex→Int→Int→Bool × Int
 | [],_,n=>(true,n)
 | x :: l,v,n=>if (cnt x v n).1=true then cntL l v (cnt x v n).2 else (false,(cnt x v n).2)
end
theorem cnt_er (x:DExpr) (v n:Int):cnt (er x) v n=if 200 < n+1∨20 < v then (false,n+1) else cntL (x.Args.l.map er) (v+1) (n+1):=by
 obtain ⟨o,m,u,k,⟨l,s⟩⟩:=x;rw [er_mk,cnt]
mutual
theorem cnt_rng:∀ (x:Ex) (v n:Int),n≤(cnt x v n).2∧(cnt x v n).2≤max n 200+1∧((cnt x v n).1=true→(cnt x v n).2≤200)
 | .mk _ _ _ _ l,v,n=>by
  rw [cnt];split
  ·exact ⟨by show n≤n+1;omega,by show n+1≤_;omega,fun h=>by cases h⟩
  ·rename_i h
   have:=cntL_rng l (v+1) (n+1)
   exact ⟨by omega,by omega,fun h=>by have:=this.2.2 h;omega⟩
theorem cntL_rng:∀ (l:List Ex) (v n:Int),n≤(cntL l v n).2∧(cntL l v n).2≤max n 200+1∧((cntL l v n).1=true→(cntL l v n).2≤max n 200)
 | [],v,n=>by rw [cntL];exact ⟨Int.le_refl _,by show n≤_;omega,fun _=>by show n≤_;omega⟩
 | x :: l,v,n=>by
  have h1:=cnt_rng x v n;rw [cntL];split
  ·rename_i h
   have h2:=cntL_rng l v (cnt x v n).2;have h3:=h1.2.2 h;exact ⟨by omega,by omega,fun k=>by have:=h2.2.2 k;omega⟩
  ·exact ⟨h1.1,h1.2.1,fun k=>by cases k⟩
end
theorem cntL_step {l:List DExpr} {i v n:Int} {y:DExpr} (h0:0≤i) (hi:i < l.length) (hy:y=l.getD i.toNat default):cntL ((l.map er).drop i.toNat) v n=if (cnt (er y) v n).1=true then cntL ((l.map er).drop (i+1).toNat) v (cnt (er y) v n).2 else (false,(cnt (er y) v n).2):=by
 have b:i.toNat < l.length:=by omega
 have e:l[i.toNat]=y:=by rw [hy,List.getD_eq_getElem?_getD,List.getElem?_eq_getElem b];rfl
 rw [List.drop_eq_getElem_cons (by simpa using b),List.getElem_map,e,cntL,show (i+1).toNat=i.toNat+1 by omega]
def rt (x:Ex):Prop:=(cnt x 1 0).1=true∧shp x
instance (x : Ex) : Decidable (rt x) := by unfold rt; infer_instance
end Fx

open Go
namespace Sx
open Fx
def rds (s:ByteArray):Prop:=(Un.read s).2=0
instance (s : ByteArray) : Decidable (rds s) := by unfold rds; infer_instance
def amt (n:Int):Prop:=1≤n∧n≤1099511627776
instance (n : Int) : Decidable (amt n) := by unfold amt; infer_instance
def nms (l:List ByteArray) (lo hi:Int):Prop:=(lo≤(l.length:Int)∧(l.length:Int)≤hi)∧l.any (fun s=>!decide (fre s))=false
instance (l : List ByteArray) (lo hi : Int) : Decidable (nms l lo hi) := by unfold nms; infer_instance
def stp (k:Int) (i o:List ByteArray) (m:ByteArray) (c:List ByteArray) (a:Int):Prop :=
 (0≤k∧k < 9)∧(nms i (if k=0∨k=1∨k=2 then 0 else 1) (if k=0∨k=1∨k=2 then 0 else if k=4 then 100 else 1) ∧
  nms o (if k=0∨k=1∨k=2∨k=3∨k=4 then 1 else 0) (if k=3 then 100 else if k=0∨k=1∨k=2∨k=4 then 1 else 0) ∧
  nms c (if k=3 then (o.length:Int) else 0) (if k=3 then (o.length:Int) else 0)) ∧
 ((k=0∨k=1∨k=2∨k=5∨k=6∨k=7)→fre m)∧(¬(k=0∨k=1∨k=2∨k=5∨k=6∨k=7)→m=ByteArray.empty)∧((k=2∨k=6)→amt a)∧(¬(k=2∨k=6)→a=0)
instance (k : Int) (i o : List ByteArray) (m : ByteArray) (c : List ByteArray) (a : Int) : Decidable (stp k i o m c a) := by unfold stp; infer_instance
abbrev US:=List (ByteArray × Bool) × Bool
def useS (st:US) (nm:ByteArray) (u m:Bool):US:=(mupd nm true st.1,(((st.2 && u) && m) && decide (fre nm)) && !((mlook nm st.1).getD false))
abbrev It:=ByteArray × Bool × Bool
def useL (st:US) (l:List It):US:=l.foldl (fun st e=>useS st e.1 e.2.1 e.2.2) st
theorem useL_app (st:US) (l m:List It):useL st (l ++m)=useL (useL st l) m:=List.foldl_append ..
theorem useS_len (st:US) (nm:ByteArray) (u m:Bool):(useS st nm u m).1.length≤st.1.length+1:=by
 show (mupd nm true st.1).length≤_;rw [mupd_len];split <;> omega
theorem useL_len:∀ (l:List It) (st:US),(useL st l).1.length≤st.1.length+l.length
 | [],st=>Nat.le_refl _
 | e :: l,st=>by
  have h1:=useL_len l (useS st e.1 e.2.1 e.2.2);have h2:=useS_len st e.1 e.2.1 e.2.2;show (useL (useS st e.1 e.2.1 e.2.2) l).1.length≤_;rw [List.length_cons];omega
theorem useL_step {α:Type} [Inhabited α] {f:α→It} {l:List α} {k:Int} {x:α} {st s1:US} (h:s1=useL st ((l.take k.toNat).map f)) (h0:0≤k) (hk:k < l.length) (hx:x=l.getD k.toNat default):useS s1 (f x).1 (f x).2.1 (f x).2.2=useL st ((l.take (k+1).toNat).map f):=by
 have b:k.toNat < l.length:=by omega
 have e:l[k.toNat]=x:=by rw [hx,List.getD_eq_getElem?_getD,List.getElem?_eq_getElem b];rfl
 rw [show (k+1).toNat=k.toNat+1 by omega,List.take_add_one,List.getElem?_eq_getElem b,e,List.map_append,useL_app,← h];rfl
theorem useL_all {α:Type} {f:α→It} {l:List α} {k:Int} {st s1:US} (h:s1=useL st ((l.take k.toNat).map f)) (hk:(l.length:Int)≤k):s1=useL st (l.map f):=by
 rw [h,List.take_of_length_le (by omega)]
def impI (x:DImport):It:=(x.Name,decide (rds x.Unit),((((decide (amt x.Amount) && decide (0≤x.House)) && decide (x.House < 400)) && decide (0≤x.Version)) && decide (x.Version≤2000)) && decide (fre x.Port))
def inpI (x:DInput):It:=(x.Name,decide (rds x.Unit),decide (x.Kind=ByteArray.empty) || decide (fre x.Kind))
def porI (x:DPort):It:=(x.Name,decide (rds x.Unit),decide (amt x.Amount))
def stoI (x:DStore):It:=(x.Name,decide (rds x.Unit),decide (0≤x.Rule) && decide (x.Rule < 3))
def tabI (x:DTable):It:=(x.Name,true,decide (Tb.RtT x.Name x.Unit x.Rows.l))
def parO (p:DParam):Bool:=!decide (fre p.Name) || !decide (rds p.Unit)
def funI (x:DFunc):It:=(x.Name,!(x.Params.l.any parO),(decide (1≤(x.Params.l.length:Int)) && decide ((x.Params.l.length:Int)≤6)) && decide (rt (er x.Body)))
def celI (x:DCell):It:=(x.Name,decide (rds x.Unit),decide (rt (er x.Def)))
def stpB (x:DStep):Bool:=!decide (stp x.Kind x.In.l x.Out.l x.Name x.Cells.l x.Amount)
def recI (x:DRecipe):It:=(x.Kind,true,decide ((x.Steps.l.length:Int)≤100) && !(x.Steps.l.any stpB))
def goodsL (a:List DImport) (b:List DInput) (c:List DPort) (d:List DStore):List It:=a.map impI ++b.map inpI ++c.map porI ++d.map stoI
def formsL (a:List DTable) (b:List DFunc) (c:List DCell):List It:=a.map tabI ++b.map funI ++c.map celI
abbrev tx (s:ByteArray):Prop:=s.size≤9223372036854775807
structure Sml (nm:ByteArray) (a:List DImport) (b:List DInput) (t:List DTable) (f:List DFunc) (c:List DCell) (p:List DPort) (d:List DStore) (r:List DRecipe):Prop where
 nm:tx nm
 imp:∀ x ∈ a,tx x.Name∧tx x.Unit∧tx x.Port
 inp:∀ x ∈ b,tx x.Name∧tx x.Unit∧tx x.Kind
 tab:∀ x ∈ t,tx x.Name∧tx x.Unit
 fun_:∀ x ∈ f,tx x.Name∧(∀ q ∈ x.Params.l,tx q.Name∧tx q.Unit)∧sm (er x.Body)
 cel:∀ x ∈ c,tx x.Name∧tx x.Unit∧sm (er x.Def)
 por:∀ x ∈ p,tx x.Name∧tx x.Unit
 sto:∀ x ∈ d,tx x.Name∧tx x.Unit
 rec_:∀ x ∈ r,tx x.Kind∧∀ y ∈ x.Steps.l,tx y.Name∧(∀ s ∈ y.In.l,tx s)∧(∀ s ∈ y.Out.l,tx s)∧∀ s ∈ y.Cells.l,tx s
theorem its_len (st:US) (a:List DImport) (b:List DInput) (t:List DTable) (f:List DFunc) (c:List DCell) (p:List DPort) (d:List DStore):(useL ((useL st (goodsL a b p d)).1,(useL st (goodsL a b p d)).2) (formsL t f c)).1.length≤st.1.length+(a.length+b.length+t.length+f.length+c.length+p.length+d.length):=by
 show (useL (useL st (goodsL a b p d)) (formsL t f c)).1.length≤_;have h1:=useL_len (formsL t f c) (useL st (goodsL a b p d));have h2:=useL_len (goodsL a b p d) st;simp only [goodsL,formsL,List.length_append,List.length_map] at h1 h2 ⊢;omega
def itS (nm:ByteArray) (a:List DImport) (b:List DInput) (t:List DTable) (f:List DFunc) (c:List DCell) (p:List DPort) (d:List DStore):US:=useL (useL ([],decide (fre nm)) (goodsL a b p d)) (formsL t f c)
def reS (r:List DRecipe):US:=useL ([],true) (r.map recI)
def Rt (nm:ByteArray) (a:List DImport) (b:List DInput) (t:List DTable) (f:List DFunc) (c:List DCell) (p:List DPort) (d:List DStore) (r:List DRecipe):Prop :=
 ((itS nm a b t f c p d).2=true∧((itS nm a b t f c p d).1.length:Int)+(r.length:Int)≤100)∧(reS r).2=true
instance (nm : ByteArray) (a : List DImport) (b : List DInput) (t : List DTable) (f : List DFunc) (c : List DCell) (p : List DPort) (d : List DStore) (r : List DRecipe) : Decidable (Rt nm a b t f c p d r) := by unfold Rt; infer_instance
end Sx

open Go
namespace Zv
open Fx Sx
theorem mem_sum {α:Type} {bk:α→Nat}:∀ {l:List α} {x:α},x ∈ l→bk x≤(l.map bk).sum
 | y :: l,x,h=>by
  rw [List.map_cons,List.sum_cons];rcases List.mem_cons.1 h with rfl | h
  ·omega
  ·have:=mem_sum (bk:=bk) h;omega
theorem len_sum {α:Type} {bk:α→Nat} (h1:∀ x,1≤bk x):∀ l:List α,l.length≤(l.map bk).sum
 | []=>Nat.zero_le _
 | y :: l=>by
  rw [List.map_cons,List.sum_cons,List.length_cons]
  have:=h1 y;have:=len_sum h1 l;omega
mutual
theorem sm_of:∀ (x:Ex),bkX x≤1048576→sm x
 | .mk o n u m l,h=>by
  rw [bkX] at h;rw [sm];exact ⟨⟨by omega,by omega⟩,smL_of l (by omega)⟩
theorem smL_of:∀ (l:List Ex),bkXL l≤1048576→smL l
 | [],_=>by rw [smL];trivial
 | x :: l,h=>by
  rw [bkXL] at h;rw [smL];exact ⟨sm_of x (by omega),smL_of l (by omega)⟩
end
section
variable {nm : ByteArray} {a : List DImport} {b : List DInput} {t : List DTable} {f : List DFunc} {c : List DCell} {p : List DPort} {d : List DStore} {r : List DRecipe} {s1 s2 s3 s4 s5 s6 s7 s8 : SV}
theorem sml (h:bkSheet (DSheet.mk nm ⟨a,s1⟩ ⟨b,s2⟩ ⟨t,s3⟩ ⟨f,s4⟩ ⟨c,s5⟩ ⟨p,s6⟩ ⟨d,s7⟩ ⟨r,s8⟩)≤1048576):Sml nm a b t f c p d r:=by
 simp only [bkSheet,bkF,bkT] at h;constructor
 ·show nm.size≤_;omega
 ·intro x hx
  have:=mem_sum (bk:=bkImport) hx
  simp only [bkImport,bkT,bkI] at this;exact ⟨by show x.Name.size≤_;omega,by show x.Unit.size≤_;omega,by show x.Port.size≤_;omega⟩
 ·intro x hx
  have:=mem_sum (bk:=bkInput) hx
  simp only [bkInput,bkT,bkI] at this;exact ⟨by show x.Name.size≤_;omega,by show x.Unit.size≤_;omega,by show x.Kind.size≤_;omega⟩
 ·intro x hx
  have:=mem_sum (bk:=bkTable) hx
  simp only [bkTable,bkT,bkI,bkF] at this;exact ⟨by show x.Name.size≤_;omega,by show x.Unit.size≤_;omega⟩
 ·intro x hx
  have:=mem_sum (bk:=bkFunc) hx
  simp only [bkFunc,bkT,bkI,bkF] at this;refine ⟨by show x.Name.size≤_;omega,fun q hq=>?_,sm_of _ (by unfold bkE at this;omega)⟩;have h2:=mem_sum (bk:=bkParam) hq;simp only [bkParam,bkT] at h2;exact ⟨by show q.Name.size≤_;omega,by show q.Unit.size≤_;omega⟩
 ·intro x hx
  have:=mem_sum (bk:=bkCell) hx
  simp only [bkCell,bkT,bkI,bkF] at this;exact ⟨by show x.Name.size≤_;omega,by show x.Unit.size≤_;omega,sm_of _ (by unfold bkE at this;omega)⟩
 ·intro x hx
  have:=mem_sum (bk:=bkPort) hx
  simp only [bkPort,bkT,bkI] at this;exact ⟨by show x.Name.size≤_;omega,by show x.Unit.size≤_;omega⟩
 ·intro x hx
  have:=mem_sum (bk:=bkStore) hx
  simp only [bkStore,bkT,bkI] at this;exact ⟨by show x.Name.size≤_;omega,by show x.Unit.size≤_;omega⟩
 ·intro x hx
  have:=mem_sum (bk:=bkRecipe) hx
  simp only [bkRecipe,bkT,bkI,bkF] at this;refine ⟨by show x.Kind.size≤_;omega,fun y hy=>?_⟩;have h2:=mem_sum (bk:=bkStep) hy;simp only [bkStep,bkT,bkI,bkF] at h2;refine ⟨by show y.Name.size≤_;omega,fun s hs=>?_,fun s hs=>?_,fun s hs=>?_⟩
  all_goals (have h3:=mem_sum (bk:=bkT) hs;simp only [bkT] at h3;show s.size≤_;omega)
theorem len (h:bkSheet (DSheet.mk nm ⟨a,s1⟩ ⟨b,s2⟩ ⟨t,s3⟩ ⟨f,s4⟩ ⟨c,s5⟩ ⟨p,s6⟩ ⟨d,s7⟩ ⟨r,s8⟩)≤1048576):(a.length:Int)+b.length+t.length+f.length+c.length+p.length+d.length+r.length≤100000000:=by
 simp only [bkSheet,bkF,bkT] at h;have h1:=len_sum (bk:=bkImport) (fun x=>by simp only [bkImport];omega) a;have h2:=len_sum (bk:=bkInput) (fun x=>by simp only [bkInput];omega) b;have h3:=len_sum (bk:=bkTable) (fun x=>by simp only [bkTable];omega) t;have h4:=len_sum (bk:=bkFunc) (fun x=>by simp only [bkFunc];omega) f;have h5:=len_sum (bk:=bkCell) (fun x=>by simp only [bkCell];omega) c;have h6:=len_sum (bk:=bkPort) (fun x=>by simp only [bkPort];omega) p;have h7:=len_sum (bk:=bkStore) (fun x=>by simp only [bkStore];omega) d;have h8:=len_sum (bk:=bkRecipe) (fun x=>by simp only [bkRecipe];omega) r;omega
end
end Zv

open Go
def mpE {κ α:Type} [DecidableEq κ] [MKey κ] [Dat α] (t a:Bool) (Q:List (κ × α)→Prop) (b:Nat):LE:=.own t (fun e H=>∃ m,Q m∧MP a m b e H) (fun _ _ _ k ⟨m,q,h⟩=>⟨m,q,h.1,fun p hp=>Dat.mono _ _ _ k (h.2 p hp)⟩) True (fun _ _ _=>trivial)
section
variable {P : Program} {E : Env P} {S : Stop} {t : St}
theorem V.chg (r:Nat) {tt:Bool} {p p':Ent→Heaplet→Prop} {m q hq m' q' hq'} (hr:t.L[r]?=some (.own tt p m q hq)) (h:∀ e H,p e H→p' e H) (k:V E S ⟨t.sl,t.F,t.L.set r (.own tt p' m' q' hq')⟩):V E S t:=fun N ε ac w b=>by
 have f:r < t.L.length:=(List.getElem?_eq_some_iff.1 hr).1;have d:ents (t.L.set r (.own tt p' m' q' hq')) ε=ents t.L ε:=by
  refine List.ext_getElem? fun j=>?_;rw [ents_get,ents_get,List.getElem?_set]
  by_cases e:r=j
  ·subst e;rw [if_pos rfl,if_pos f,hr];rfl
  ·rw [if_neg e]
 refine k N ε ac w ⟨b.slots,by rw [d];exact b.st,b.new,b.facts,fun j y hy=>?_⟩;rw [List.getElem?_set] at hy;by_cases e:r=j
 ·subst e;rw [if_pos rfl,if_pos f] at hy;cases hy;have h0:=b.own r _ hr;cases tt
  ·exact h _ _ h0
  ·exact h _ _ h0
 ·rw [if_neg e] at hy;exact b.own j y hy
theorem V.opn {X:Type} (r:Nat) {tt:Bool} {Q:X→Prop} {p:X→Ent→Heaplet→Prop} {m q hq} {m':∀ x e H K,Sub H K→p x e H→p x e K} {q':X→Prop} {d:∀ x e H,p x e H→q' x} (hr:t.L[r]?=some (.own tt (fun e H=>∃ x,Q x∧p x e H) m q hq)) (k:∀ x,Q x→V E S ⟨t.sl,t.F,t.L.set r (.own tt (p x) (m' x) (q' x) (d x))⟩):V E S t:=fun N ε ac w b=>by
 have h0:=b.own r _ hr;have hx:∃ x,Q x∧(LE.own tt (p x) (m' x) (q' x) (d x)).at (ε r) N (hun N E.H):=by
  cases tt
  ·obtain ⟨x,h1,h2⟩:=h0;exact ⟨x,h1,h2⟩
  ·obtain ⟨x,h1,h2⟩:=h0;exact ⟨x,h1,h2⟩
 obtain ⟨x,hQ,hx⟩:=hx;have h:r < t.L.length:=(List.getElem?_eq_some_iff.1 hr).1;have f:ents (t.L.set r (.own tt (p x) (m' x) (q' x) (d x))) ε=ents t.L ε:=by
  refine List.ext_getElem? fun j=>?_;rw [ents_get,ents_get,List.getElem?_set]
  by_cases e:r=j
  ·subst e;rw [if_pos rfl,if_pos h,hr];rfl
  ·rw [if_neg e]
 refine k x hQ N ε ac w ⟨b.slots,by rw [f];exact b.st,b.new,b.facts,fun j y hy=>?_⟩;rw [List.getElem?_set] at hy;by_cases e:r=j
 ·subst e;rw [if_pos rfl,if_pos h] at hy;cases hy;exact hx
 ·rw [if_neg e] at hy;exact b.own j y hy
theorem V.opM {κ α:Type} [DecidableEq κ] [MKey κ] [Dat α] (r:Nat) (tt a:Bool) (Q:List (κ × α)→Prop) (b:Nat) (hr:t.L[r]?=some (mpE tt a Q b)) (k:∀ m,Q m→V E S ⟨t.sl,t.F,t.L.set r (mp tt a m b)⟩):V E S t:=V.opn r hr k
theorem V.clM {κ α:Type} [DecidableEq κ] [MKey κ] [Dat α] (r:Nat) (tt a:Bool) (Q:List (κ × α)→Prop) (b:Nat) (m:List (κ × α)) (hr:t.L[r]?=some (mp tt a m b)) (hQ:Q m) (k:V E S ⟨t.sl,t.F,t.L.set r (mpE tt a Q b)⟩):V E S t:=V.chg r hr (fun e H h=>⟨m,hQ,h⟩) k
end

open Go
section
variable {P : Program} {E : Env P} {S : Stop} {t : St}
theorem V.frzB {α:Type} [Dat α] (r b0:Nat) (A:Array Value) (T:TypeId) (x:α) (b:Bool) (j0:Nat) (f0:FP) (hr:(t.L[r]?,E.X,A.toList,t.F[j0]?,f0.t)=(some (.blk b0 A T),[],Dat.cells x,some f0,b)) (hg:∀ H,f0.p H→Dat.good H x)
  (k:V E S ⟨t.sl,t.F ++[fs b [x] ⟨atB b0,1,1⟩],t.L.set r .no⟩):V E S t:=fun N ε a w d=>by
 simp only [Prod.mk.injEq] at hr;obtain ⟨hr,hX,D,I,M⟩:=hr;have B:=d.facts f0 (List.mem_of_getElem? I);have C:∀ J:Heaplet,Dat.good J x→OSl T J [x] (SV.v ⟨atB b0,1,1⟩) (some (b0,.cells A T)):=fun J P=>OSl.lit (E:=T) (g:=b0) (fun y hy=>by rw [List.mem_singleton.1 hy];exact P) (by rw [D];simp [rows];decide)
 have he:(ents t.L ε)[r]?=some (some (b0,.cells A T)):=by rw [ents_get,hr];rfl
 generalize (some (b0,Obj.cells A T):Ent)=ρ at C he;have hK:Agrees w (hun N E.H):=d.st.agr _ (by simp);have hE:Agrees w (entH ρ):=entH_agrees fun b o hb=>(d.st.ent r b o (by rw [he,hb])).1
 have s1:Sub N (hun (entH ρ) N):=hun_right' (U:=whole w) hE (hun_left.trans hK);have eK:hun (hun (entH ρ) N) E.H=hun (entH ρ) (hun N E.H):=hun_assoc _ _ _;have s2:Sub (hun N E.H) (hun (hun (entH ρ) N) E.H):=by rw [eK];exact hun_right' (U:=whole w) hE hK
 have i:∀ (j b:Nat) (o:Obj),(ents (t.L.set r .no) ε)[j]?=some (some (b,o))→j≠r∧(ents t.L ε)[j]?=some (some (b,o)):=fun j b o h=>by
  rw [ents_get,Option.map_eq_some_iff] at h;obtain ⟨y,hy,he⟩:=h;rcases set_get hy with ⟨rfl,rfl⟩ | ⟨hj,hy⟩
  ·cases he
  ·exact ⟨hj,by rw [ents_get,hy,← he];rfl⟩
 refine k (hun (entH ρ) N) ε a w ⟨d.slots,⟨d.st.base,fun K hk=>?_,fun j b o h=>?_,fun j j' b o o' h h'=>d.st.dis j j' b o o' (i _ _ _ h).2 (i _ _ _ h').2⟩,fun b hb=>?_,fun f hf=>?_,fun j y hy=>?_⟩
 ·have:K=hun (hun (entH ρ) N) E.H:=by simpa using hk
  subst this;rw [eK];exact hun_agrees hE hK
 ·obtain ⟨hj,h⟩:=i j b o h;obtain ⟨h1,h2,h3⟩:=d.st.ent j b o h;refine ⟨h1,h2,fun K hk=>?_⟩
  have:K=hun (hun (entH ρ) N) E.H:=by simpa using hk
  subst this;rw [eK];have hn:entH ρ b=none:=by
   cases hh:entH ρ b with
   | none=>rfl
   | some o' =>
    exfalso;unfold entH at hh;cases hp:ρ with
    | none=>rw [hp] at hh;cases hh
    | some p =>
     rw [hp] at hh;simp only at hh;split at hh
     ·rename_i hb;subst hb
      exact hj (d.st.dis j r p.1 o p.2 h (by rw [he,hp]))
     ·cases hh
  simp only [hun,hn];exact h3 (hun N E.H) (by simp)
 ·cases hh:entH ρ b with
  | none =>
   simp only [hun,hh] at hb;exact d.new b hb
  | some o' =>
   unfold entH at hh;cases hp:ρ with
   | none=>rw [hp] at hh;cases hh
   | some p =>
    rw [hp] at hh;simp only at hh;split at hh
    ·rename_i hb';subst hb'
     rcases (d.st.ent r p.1 p.2 (by rw [he,hp])).2.1 with h1 | h1
     ·exact h1
     ·rw [hX] at h1;cases h1
    ·cases hh
 ·rcases List.mem_append.1 hf with hf | hf
  ·exact FP.mono (d.facts f hf) s1 s2
  ·have:f=fs b [x] ⟨atB b0,1,1⟩:=by simpa using hf
   subst this;have G:∀ J J':Heaplet,Sub J J'→Sub (entH ρ) J'→Dat.good J x→RSl J' [x] (SV.v ⟨atB b0,1,1⟩):=fun J J' h1 h2 h=>(C J h).frozen h1 h2
   unfold FP.at at B;rw [M] at B;show bif b then RSl _ [x] _ else RSl _ [x] _
   cases b
   ·exact G _ _ s2 (by rw [eK];exact hun_left) (hg _ B)
   ·exact G _ _ s1 hun_left (hg _ B)
 ·rcases set_get hy with ⟨rfl,rfl⟩ | ⟨hj,hy⟩
  ·trivial
  ·exact LE.mono (d.own j y hy) s1 s2
end
def FP.up (f:FP):FP:=⟨true,f.p,f.m,f.q,f.hq⟩
def sideT (qs:List Kv):Bool:=qs.all fun q=>q.κ.f && q.κ.t
namespace Hint
variable {P : Program}
def ctT {g:Prop} (Γ:GdI g) (n f:Nat) (qs:List Kv) {A:Gh→Array Value} {V:Gh→Rec→Value} {F':Gh→Rec→List FP} {pu:Gh→Rec→List Prop}
  (ct:g→∀ G,Ct P f (A G) (qs.map (Kv.fp G)) [] (V G) (F' G) (fun _=>[]) (pu G)):Hint P where
 d:={ val:=fun G=>V G (G n),facts:=fun G=>(F' G (G n)).map FP.up,rds:=qrds qs,pu:=fun G=>pu G (G n) }
 τ:=Option (Result Next) × Nat × Value × List FP × List Prop × List (Option (Bool × (Ent→Heaplet→Prop)) × Bool) × Bool × Option Bool
 lhs c i G g w:=(c.R.ex P G i w,i,V (c.R.vis i (RC.put G i g)) g,F' (c.R.vis i (RC.put G i g)) g,pu (c.R.vis i (RC.put G i g)) g,qs.map (Kv.chk c i G),sideT qs,Γ.B.map fun _=>c.R.gd G i)
 rhs _ _ G g w:=(some (.ok (.enter f (A G)) w),n,V G g,F' G g,pu G g,qs.map (Kv.want G),true,Γ.B)
 sound c i ok hil hi h:=fun o ho G w hs=>by
  have h0:=h G {} w;simp only [Prod.mk.injEq,RC.ex,ho,Option.map_some,Option.some.injEq] at h0;obtain ⟨e1,rfl,_,_,_,e8,e9,H⟩:=h0;have I:=ct (Cx.gdOk Γ hs H) G;have hup:c.R.ups i=[]:=by rw [Cx.upsOf hi];rfl
  have j:∀ q ∈ qs.map (Kv.fp G),q.p (c.J i G true):=fun p hp=>by
   obtain ⟨q,hq,rfl⟩:=List.mem_map.1 hp;have hm:q.κ.src.what c i G=(some (q.κ.t,q.κ.p G),true):=map_eq e8 q hq;obtain ⟨e,a1,_,_,_⟩:=Src.get ok hil hs hm;have h2:=List.all_eq_true.1 e9 q hq;rw [Bool.and_eq_true] at h2;rw [h2.2] at a1;exact q.κ.rj h2.1 G e _ a1
  have M:StW w (blks (ents [] fun _=>none)) [c.J i G true] (ents [] fun _=>none) w:=by
   refine ⟨Base.refl _ _,fun K hK=>?_,fun k b o hk=>by simp [ents] at hk,fun k l b o o' hk _=>by simp [ents] at hk⟩
   have:K=c.J i G true:=by simpa using hK
   subst this;exact Cx.J_le hs true
  have D:=I w (c.J i G true) (fun _=>none) (Cx.J_le hs true) j M (fun k x hx=>by simp at hx);unfold Does;rw [e1];refine D.mono ?_;rintro e w' ⟨g,C⟩;refine ⟨_,C.ret,g,?_⟩;have hg:=h G g w;simp only [Prod.mk.injEq] at hg;obtain ⟨_,_,f1,f2,f4,_⟩:=hg;have hv:=Cx.vis_self (c:=c) (i:=i) (G:=G) g;obtain ⟨a1,a2,a3,a4⟩:=ahead ok hil hs C.new;refine ⟨?_,fact_of ok hil hi hs C.new (fun f hf=>?_) (fun q hq=>by cases hq) ?_,?_,C.agr,C.new,fun p hp=>?_,fun p hp=>?_⟩
  ·rw [Cx.valOf hi];show _=V _ (c.R.vis i (RC.put G i g) i);rw [hv,f1]
  ·have E:f ∈ (F' (c.R.vis i (RC.put G i g)) (c.R.vis i (RC.put G i g) i)).map FP.up:=hf;rw [hv,f2] at E;obtain ⟨f0,Q,rfl⟩:=List.mem_map.1 E;have hc:=C.facts f0 Q;show f0.p _;unfold FP.at at hc;cases ht:f0.t with
   | true=>rw [ht] at hc;exact f0.m _ _ a3 hc
   | false=>rw [ht] at hc;exact f0.m _ _ (hun_sub a3 a1) hc
  ·show conjL (pu _ (c.R.vis i (RC.put G i g) i));rw [hv,f4];exact C.pu
  ·refine ⟨C.base.os,C.base.tape,C.base.output,C.base.size,fun b hb X=>C.base.keep b hb fun hm=>?_⟩;simp [ents,blks] at hm
  ·rw [hup] at hp;cases hp
  ·rw [hup] at hp;cases hp
def dead:Hint P where
 d:={ val:=fun _=>undef }
 τ:=Bool
 lhs c i G _ _:=c.R.gd G i
 rhs _ _ _ _ _:=false
 sound c i _ _ hi h:=fun o ho G w hs=>by
  have h0:=h G {} w;rw [hs.gd] at h0;cases h0
def eb (x:Value) (b:Bool) (f:x=.bool b):Hint P where
 d:={ val:=fun _=>.bool b,sure:=some b,sok:=fun b' h _=>by cases h;rfl }
 τ:=Option (Result Next) × Value
 lhs c i G _ w:=(c.R.ex P G i w,c.R.val i (RC.put G i {}))
 rhs _ _ _ _ w:=(some (.ok (.value x) w),.bool b)
 sound c i _ _ hi h:=fun o ho G w hs=>by
  have h0:=h G {} w;simp only [Prod.mk.injEq,RC.ex,ho,Option.map_some,Option.some.injEq] at h0;exact Cx.still hi rfl (fun _=>⟨rfl,rfl⟩) ho h0.1 (by rw [h0.2,f])
end Hint
theorem V.g {P:Program} {E:Env P} {S:Stop} {t:St} (hs:List (Hint P)) (k:∀ N ε G,let S':=S.next;let t':=post (cxOf E S t hs N ε) G;V E S' t')
  (hk:∀ N ε,(S,(cxOf E S t hs N ε).R.check E.nt,hs.length,lhsAll (cxOf E S t hs N ε) hs 0)=(.reg S.rid S.ops S.dr S.K,true,S.ops.size,rhsAll (cxOf E S t hs N ε) hs 0):=by intro _ _;kernel_rfl):V E S t:=V.go hs hk k
theorem V.r {P:Program} {E:Env P} {S:Stop} {t:St} (hs:List (Hint P)) (k:∀ N ε G,Knw ((cxOf E S t hs N ε).know G)→let S':=S.next;let t':=post (cxOf E S t hs N ε) G;V E S' t')
  (hk:∀ N ε,(S,(cxOf E S t hs N ε).R.check E.nt,hs.length,lhsAll (cxOf E S t hs N ε) hs 0)=(.reg S.rid S.ops S.dr S.K,true,S.ops.size,rhsAll (cxOf E S t hs N ε) hs 0):=by intro _ _;kernel_rfl):V E S t:=V.reg hs hk k

open Go
theorem V.unrollL {P:Program} {E:Env P} {S:Stop} {t:St} (n:Nat) (hk:S=.loop S.x S.K) (k:let L:=S;V E (norm 200 (.inl L.x) (.rndN L.x n :: L.K)) t):V E S t:=V.unroll n hk k
theorem V.againL {P:Program} {E:Env P} (L:Stop) {S:Stop} {t:St} (n:Nat) (hk:S=.rndN L.x (n+1) L.K) (k:V E (norm 200 (.inl L.x) (.rndN L.x n :: L.K)) t):V E S t:=fun N ε a w b=>by
 rw [hk];exact norm_sound 200 (.inl L.x) (.rndN L.x n :: L.K) a w (k N ε a w b)
namespace Hint
variable {P : Program}
def nlG {α:Type} [Dat α] (n r:Nat) (t:Bool) (E:TypeId) (l:Gh→List α) (k:Nat) (hk:∀ G,(l G).length=k) (qs:List Kv) (hq:∀ G H,allR qs G H→∀ x ∈ l G,Dat.good H x) (f:Gh→Array Value):Hint P where
 d:={ val:=fun G=>.slice (atB (G n).b) k k,news:=[(r,fun G=>os t E (l G) ⟨atB (G n).b,k,k⟩,fun G=>some ((G n).b,.cells (f G) E))] }
 τ:=Option (Result Next) × Nat × Array Value × List Value × Bool × Bool × List (Option (Bool × (Ent→Heaplet→Prop)) × Bool) × List α
 lhs c i G g w:=(c.R.ex P G i w,i,f (c.R.vis i (RC.put G i g)),(f G).toList,decide (k≤maxLen),tOk t qs,qs.map (Kv.chk c i G),l (c.R.vis i (RC.put G i g)))
 rhs _ _ G _ w:=(some (.ok (.value (.slice (atB w.heap.size) k k)) { w with heap:=w.heap.push (.cells (f G) E) }),n,f G,(rows (l G)).flatten,true,true,qs.map (Kv.want G),l G)
 sound c i ok hil hi h:=fun o ho G w hs=>by
  have h0:=h G { b:=w.heap.size } w;simp only [Prod.mk.injEq,RC.ex,ho,Option.map_some,Option.some.injEq] at h0;obtain ⟨e1,rfl,e3,e4,e5,e6,e7,e8⟩:=h0;unfold Does;rw [e1];have hv:=Cx.vis_self (c:=c) (i:=i) (G:=G) { b:=w.heap.size };refine ⟨{ b:=w.heap.size },left_turn ok hil hi hs (e1:=some (w.heap.size,.cells (f G) E)) rfl rfl rfl grows_push ?_ ?_ rfl rfl ?_⟩
  ·show some _=_;rw [hv,e3]
  ·show bif t then OSl E _ (l _) _ _ else OSl E _ (l _) _ _
   rw [hv,e3,e8];have j:∀ H,(∀ x ∈ l G,Dat.good H x)→OSl E H (l G) (.slice (atB w.heap.size) k k) (some (w.heap.size,.cells (f G) E)):=fun H hg=>OSl.lit hg (by rw [e4,hk,e5])
   have hR:=hq G _ (allR_of ok hil hs e7 e6);cases t
   ·exact j _ hR
   ·exact j _ hR
  ·rw [Cx.valOf hi];show Value.slice _ _ _=_;rw [hv]
end Hint
end Kb
