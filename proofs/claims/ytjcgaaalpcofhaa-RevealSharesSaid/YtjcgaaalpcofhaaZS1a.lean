/- Texts for the claim, put together: the calculus of regions, its rules, and contracts of the functions that the law reaches. -/
import Derived.Test.YtjcgaaalpcofhaaZSwe
import Derived.Laws.Cover3
import Derived.MapKept
import Derived.Lib.AppendZeros
import Derived.ChangeArms
import Derived.WideKeyArgs
import Derived.Carry
import Derived.OpenShut
set_option linter.unusedVariables false
set_option linter.unusedSectionVars false
set_option linter.unusedSimpArgs false
namespace Kb
open Go
section
variable {α : Type} [Dat α]
theorem fats_ex {α:Type}:∀ {l:List (Fat α)} {m:List (List α)},l.map (·.l)=m→∃ σ,l=fats m σ
  | [],m,h=>⟨fun _=>{},by subst h;rfl⟩
  | x :: l,m,h=>by
    subst h
    obtain ⟨σ,e⟩:=fats_ex (l:=l) rfl
    exact ⟨fun i=>match i with | 0=>x.s | i+1=>σ i,by
      show _=fats (x.l :: l.map (·.l)) _
      rw [fats]
      show x :: l=⟨x.l,x.s⟩ :: fats (l.map (·.l)) σ
      rw [←e]⟩
theorem getD_l {α:Type} (l:List (Fat α)) (k:Nat):(l.map (·.l)).getD k []=(l.getD k {}).l:=by
  simp only [List.getD_eq_getElem?_getD,List.getElem?_map]
  cases l[k]? <;> rfl
end

open Go
def gf {α:Type} [Dat α] (b:Bool) (x:α):FP:=⟨b,fun H=>Dat.good H x,fun _ _ k h=>Dat.mono _ _ _ k h,Dat.q x,fun H h=>Dat.hq H x h⟩
namespace Hint
variable {P : Program}
def sne (a b:ByteArray):Hint P:=e g0 (.bool (!(a.toList == b.toList))) (.bool (!(decide (a=b)))) fun _=>by rw [toList_bytes]
end Hint

open Go
section
variable {κ α : Type} [DecidableEq κ] [MKey κ]
def mfind (k:κ):List (κ × α)→Option (Nat × α)
  | []=>none
  | p :: m=>if k=p.1 then some (0,p.2) else (mfind k m).map fun q=>(q.1+1,q.2)
theorem mlook_eq (k:κ):∀ m:List (κ × α),mlook k m=(mfind k m).map (·.2)
  | []=>rfl
  | p :: m=>by
    unfold mlook mfind
    split
    · rfl
    · rw [mlook_eq k m];cases mfind k m <;> rfl
theorem mupd_some {k:κ} {x:α}:∀ {m:List (κ × α)} {q:Nat × α},mfind k m=some q→mupd k x m=m.set q.1 (k,x)∧∃ y,m[q.1]?=some (k,y)
  | p :: m,q,h=>by
    unfold mfind at h
    unfold mupd
    split at h
    · rename_i e
      cases h
      rw [if_pos e]
      exact ⟨rfl,p.2,by simp [e]⟩
    · rename_i e
      rw [if_neg e]
      simp only [Option.map_eq_some_iff] at h
      obtain ⟨q',h1,rfl⟩:=h
      obtain ⟨h2,y,h3⟩:=mupd_some (x:=x) h1
      exact ⟨by rw [h2];rfl,y,by simpa using h3⟩
theorem mupd_none {k:κ} {x:α}:∀ {m:List (κ × α)},mfind k m=none→mupd k x m=m ++[(k,x)]
  | [],_=>rfl
  | p :: m,h=>by
    unfold mfind at h
    unfold mupd
    split at h
    · cases h
    · rename_i e
      rw [if_neg e]
      simp only [Option.map_eq_none_iff] at h
      rw [mupd_none h];rfl
theorem mupd_mem {k:κ} {x:α}:∀ {m:List (κ × α)} {p:κ × α},p ∈ mupd k x m→p=(k,x)∨p ∈ m
  | [],p,h=>by unfold mupd at h;exact .inl (by simpa using h)
  | q :: m,p,h=>by
    unfold mupd at h
    split at h
    · rcases List.mem_cons.1 h with h | h
      · exact .inl h
      · exact .inr (List.mem_cons_of_mem _ h)
    · rcases List.mem_cons.1 h with h | h
      · exact .inr (by rw [h];exact List.mem_cons_self)
      · rcases mupd_mem h with h | h
        · exact .inl h
        · exact .inr (List.mem_cons_of_mem _ h)
theorem mlook_upd {k:κ} {x:α} (k':κ):∀ m:List (κ × α),mlook k' (mupd k x m)=if k'=k then some x else mlook k' m
  | []=>by unfold mupd mlook;rfl
  | p :: m=>by
    unfold mupd
    by_cases e:k=p.1
    · rw [if_pos e]
      unfold mlook
      by_cases e2:k'=k
      · rw [if_pos e2,if_pos e2]
      · rw [if_neg e2,if_neg e2]
        rw [if_neg (by rw [←e];exact e2)]
    · rw [if_neg e]
      unfold mlook
      by_cases e2:k'=p.1
      · rw [if_pos e2,if_pos e2,if_neg (by rw [e2];exact fun h=>e h.symm)]
      · rw [if_neg e2,if_neg e2,mlook_upd k' m]
theorem mlook_mem {k:κ}:∀ {m:List (κ × α)} {y:α},mlook k m=some y→(k,y) ∈ m
  | p :: m,y,h=>by
    unfold mlook at h
    split at h
    · rename_i e;cases h;rw [e];exact List.mem_cons_self
    · exact List.mem_cons_of_mem _ (mlook_mem h)
theorem mupd_len {k:κ} {x:α} (m:List (κ × α)):(mupd k x m).length=m.length+(if (mlook k m).isSome then 0 else 1):=by
  rw [mlook_eq]
  cases h:mfind k m with
  | none=>rw [mupd_none h];simp
  | some q=>rw [(mupd_some h).1];simp
theorem findNow_eq (f:α→Value) (k:κ):∀ (m:List (κ × α)) (es:List MapEntry) (i:Nat),es.map (fun e=>(e.key,e.val))=m.map (fun p=>(MKey.enc p.1,f p.2))→Instr.findNow (MKey.desc κ) (MKey.enc k) es i=some ((mfind k m).map fun q=>(i+q.1,f q.2))
  | [],[],i,_=>rfl
  | [],_ :: _,i,h=>by simp at h
  | _ :: _,[],i,h=>by simp at h
  | p :: m,e :: es,i,h=>by
    simp only [List.map_cons,List.cons.injEq,Prod.mk.injEq] at h
    obtain ⟨⟨h1,h2⟩,h3⟩:=h
    unfold Instr.findNow
    rw [h1,MKey.same]
    unfold mfind
    by_cases e0:k=p.1
    · rw [if_pos e0,decide_eq_true e0]
      simp [h2]
    · rw [if_neg e0,decide_eq_false e0]
      simp only []
      rw [findNow_eq f k m es (i+1) h3]
      cases mfind k m <;> simp
      omega
def MOb (f:α→Value) (m:List (κ × α)) (o:Obj):Prop:=∃ (es:Array MapEntry) (c:Nat),o=.map es c∧es.toList.map (fun e=>(e.key,e.val))=m.map (fun p=>(MKey.enc p.1,f p.2))
end
def mapOf (P:Program) (t:TypeId):Option (TypeId × TypeId):=match P.underlying t with
  | some (.map k e)=>some (k,e)
  | _=>none
theorem map_of {P:Program} {t k e:TypeId} (h:mapOf P t=some (k,e)):P.underlying t=some (.map k e):=by
  unfold mapOf at h
  split at h <;> simp_all
section
variable {κ α : Type} [DecidableEq κ] [MKey κ] {P : Program} {w : World} {t kt et : TypeId} {f : α → Value} {m : List (κ × α)} {b : Nat} {o : Obj} {k : κ} {x : α}
theorem find_run {es:List MapEntry} (hk:P.underlying kt=some (MKey.desc κ)) (h:es.map (fun e=>(e.key,e.val))=m.map (fun p=>(MKey.enc p.1,f p.2))):(Instr.findKey kt (MKey.enc k) es).run P w=.ok ((mfind k m).map fun q=>(q.1,f q.2)) w :=
  MapKept.run_findKey hk (by rw [findNow_eq f k m es 0 h];cases mfind k m <;> simp)
theorem mu_run (hu:P.underlying t=some (.map kt et)) (hk:P.underlying kt=some (MKey.desc κ)) (hm:MOb f m o) (hb:w.heap[b]?=some o) :
    ∃ o',(Instr.mapUpdate t (.map (some b)) (MKey.enc k) (f x)).run P w=.ok () (setBlk w b o')∧MOb f (mupd k x m) o':=by
  obtain ⟨es,c,rfl,hes⟩:=hm
  have hfk:=find_run (P:=P) (w:=w) (k:=k) hk hes
  cases hfd:mfind k m with
  | none =>
    rw [hfd] at hfk
    refine ⟨.map (es.push { key:=MKey.enc k,val:=f x,born:=c }) (c+1),?_,_,_,rfl,?_⟩
    · simp [Instr.mapUpdate,run_underlying hu,MapKept.run_getObj_map hb,MapKept.run_checkKey hk (MKey.key k),hfk,MapKept.run_setObj_map _ hb,Result.andThen,setBlk]
    · rw [mupd_none hfd]
      simp [hes]
  | some q =>
    rw [hfd] at hfk
    obtain ⟨hup,y,hy⟩:=mupd_some (x:=x) hfd
    have hlen:es.toList.length=m.length:=by have:=congrArg List.length hes;simpa using this
    have hql:q.1 < es.toList.length:=by rw [hlen];exact (List.getElem?_eq_some_iff.1 hy).1
    have hkey:(es[q.1]?).map (·.key)=some (MKey.enc k):=by
      have:=congrArg (fun l=>(l[q.1]?).map (·.1)) hes
      simp only [List.getElem?_map,hy,Option.map_map] at this
      simpa using this
    refine ⟨.map (es.modify q.1 fun e=>{ e with key:=MKey.enc k,val:=f x }) c,?_,_,_,rfl,?_⟩
    · simp [Instr.mapUpdate,run_underlying hu,MapKept.run_getObj_map hb,MapKept.run_checkKey hk (MKey.key k),hfk,hkey,MapKept.run_keyThatStays (MKey.key k),MapKept.run_setObj_map _ hb,Result.andThen,setBlk]
    · rw [hup,Array.toList_modify,List.map_set,← hes]
      refine List.ext_getElem? fun j=>?_
      simp only [List.getElem?_map,List.getElem?_set,List.getElem?_modify,List.length_map]
      by_cases e:q.1=j
      · subst e
        simp [hql]
        simp at hql
        rw [Array.getElem?_eq_getElem hql,if_pos hql];rfl
      · simp [e]
theorem lk_run {z:Value} {ok:Bool} (hu:P.underlying t=some (.map kt et)) (hk:P.underlying kt=some (MKey.desc κ)) (hm:MOb f m o) (hb:w.heap[b]?=some o) (hz:(zeroValue et).run P w=.ok z w) :
    (Instr.lookup t (.map (some b)) (MKey.enc k) ok).run P w=.ok (if ok then .tuple #[((mlook k m).map f).getD z,.bool (mlook k m).isSome] else ((mlook k m).map f).getD z) w:=by
  obtain ⟨es,c,rfl,hes⟩:=hm
  have hfk:=find_run (P:=P) (w:=w) (k:=k) hk hes
  rw [mlook_eq]
  cases hfd:mfind k m with
  | none =>
    rw [hfd] at hfk
    simp [Instr.lookup,run_underlying hu,MapKept.run_getObj_map hb,MapKept.run_checkKey hk (MKey.key k),hfk,hz,Result.andThen]
  | some q =>
    rw [hfd] at hfk
    simp [Instr.lookup,run_underlying hu,MapKept.run_getObj_map hb,MapKept.run_checkKey hk (MKey.key k),hfk,Result.andThen]
theorem ml_run {ty:TypeId} (hu:P.underlying t=some (.map kt et)) (hm:MOb f m o) (hb:w.heap[b]?=some o):(Builtin.len_ #[t] ty #[.map (some b)]).run P w=.ok (.int .i64 (m.length:Int)) w:=by
  obtain ⟨es,c,rfl,hes⟩:=hm
  have hlen:es.size=m.length:=by have:=congrArg List.length hes;simpa using this
  simp [Builtin.len_,run_underlying hu,MapKept.run_getObj_map hb,goInt,Result.andThen,hlen]
end
section
variable {κ α : Type} [DecidableEq κ] [MKey κ] [Dat α]
def MP (a:Bool) (m:List (κ × α)) (b:Nat) (e:Ent) (H:Heaplet):Prop:=(∃ o,e=some (b,o)∧MOb (fun x:α=>aggV a (Dat.cells x)) m o)∧∀ p ∈ m,Dat.good H p.2
def mp (t a:Bool) (m:List (κ × α)) (b:Nat):LE:=.own t (MP a m b) (fun _ _ _ k h=>⟨h.1,fun p hp=>Dat.mono _ _ _ k (h.2 p hp)⟩) True (fun _ _ _=>trivial)
theorem mp_at {t a:Bool} {m:List (κ × α)} {b:Nat} {e:Ent} {N K:Heaplet} (h:(mp t a m b).at e N K):MP a m b e (bif t then N else K):=by
  cases t
  · exact h
  · exact h
end
def RC.mpu (R:RC) (G:Gh) (i:Nat):Option (TypeId × Value × Value × Value):=match (R.ops[i]?).map (fun o:Oper=>o.op) with
  | some (.mapUpdate t m k x)=>some (t,R.evalAt G i m,R.evalAt G i k,R.evalAt G i x)
  | some (.insert t m k x)=>some (t,R.evalAt G i m,R.evalAt G i k,R.evalAt G i x)
  | _=>none
def RC.mlk (R:RC) (G:Gh) (i:Nat):Option (TypeId × Value × Value × Bool):=match (R.ops[i]?).map (fun o:Oper=>o.op) with
  | some (.lookup t m k ok)=>some (t,R.evalAt G i m,R.evalAt G i k,ok)
  | _=>none
def RC.mln (R:RC) (G:Gh) (i:Nat):Option (TypeId × Value):=match (R.ops[i]?).map (fun o:Oper=>o.op) with
  | some (.call { callee:=.builtin .len,args,argTypes })=>match args.toList,argTypes.toList with
    | [x],[t]=>some (t,R.evalAt G i x)
    | _,_=>none
  | _=>none
def lkV (a ok:Bool) (x:List Value) (is:Bool):Value:=bif ok then .tuple #[aggV a x,.bool is] else aggV a x
namespace Hint
variable {P : Program} {κ α : Type} [DecidableEq κ] [MKey κ] [Dat α]
def mm (κ α:Type) [DecidableEq κ] [MKey κ] [Dat α] (n r:Nat) (a:Bool):Hint P where
  d:={ val:=fun G=>.map (some (G n).b),news:=[(r,fun G=>mp true a ([]:List (κ × α)) (G n).b,fun G=>some ((G n).b,.map #[] 0))] }
  τ:=Option (Result Next) × Nat
  lhs c i G _ w:=(c.R.ex P G i w,i)
  rhs _ _ _ _ w:=(some (.ok (.value (.map (some w.heap.size))) { w with heap:=w.heap.push (.map #[] 0) }),n)
  sound c i ok hil hi h:=fun o ho G w hs=>by
    have h0:=h G { b:=w.heap.size } w
    simp only [Prod.mk.injEq,RC.ex,ho,Option.map_some,Option.some.injEq] at h0
    obtain ⟨e1,rfl⟩:=h0
    unfold Does
    rw [e1]
    have hv:=Cx.vis_self (c:=c) (i:=i) (G:=G) { b:=w.heap.size }
    refine ⟨{ b:=w.heap.size },left_turn ok hil hi hs (e1:=some (w.heap.size,.map #[] 0)) rfl rfl rfl grows_push ?_ ?_ rfl rfl ?_⟩
    · show some _=_
      rw [hv]
    · show MP _ _ _ _ _
      rw [hv]
      exact ⟨⟨_,rfl,#[],0,rfl,rfl⟩,fun p hp=>by cases hp⟩
    · rw [Cx.valOf hi]
      show Value.map _=_
      rw [hv]
def mu (n r:Nat) (tt kt et:TypeId) (t a:Bool) (m:List (κ × α)) (b:Gh→Nat) (k:κ) (x:α) (m2:List (κ × α)) (hm:m2=mupd k x m) (t2:Bool) (ht:t2=true→t=true) (qs:List Kv) (hq:∀ G H,allR qs G H→Dat.good H x):Hint P where
  d:={ val:=fun _=>undef,news:=[(r,fun G=>mp t2 a m2 (b G),fun G=>(G n).e)] }
  τ:=Option (TypeId × Value × Value × Value) × Option (TypeId × TypeId) × Option TypeDesc × Option LE × Nat × Bool × List (Option (Bool × (Ent→Heaplet→Prop)) × Bool) × Nat
  lhs c i G g _:=(c.R.mpu G i,mapOf P tt,P.underlying kt,c.leAt i r G,i,tOk t2 qs,qs.map (Kv.chk c i G),b (c.R.vis i (RC.put G i g)))
  rhs _ _ G _ _:=(some (tt,.map (some (b G)),MKey.enc k,aggV a (Dat.cells x)),some (kt,et),some (MKey.desc κ),some (mp t a m (b G)),n,true,qs.map (Kv.want G),b G)
  sound c i ok hil hi h0:=fun o ho G w hs=>by
    have h1:=fun g=>h0 G g w
    simp only [Prod.mk.injEq] at h1
    obtain ⟨e1,e2,e3,e4,rfl,e6,e7,_⟩:=h1 {}
    have hw:c.R.wrE r i=true:=by unfold RC.wrE;rw [Cx.upsOf hi];simp
    obtain ⟨en,a1,a2,a3⟩:=Cx.own_at ok hil hs e4 (by rw [hw];simp)
    obtain ⟨⟨ob,rfl,hob⟩,hgood⟩:=mp_at a2
    have hb:=a3 (b G) ob rfl
    have hlt:=RC.heap_lt hb
    obtain ⟨o',hr,hob'⟩:=mu_run (P:=P) (w:=w) (k:=k) (x:=x) (map_of e2) e3 hob hb
    have hg:Grows (some (b G,ob)) (some (b G,o')) w (setBlk w (b G) o') :=
      ⟨fun b' o2 hbo=>by cases hbo;simp [setBlk,hlt],fun b' o2 hbo=>by cases hbo;exact .inr ⟨_,rfl⟩,⟨rfl,rfl,rfl,by simp [setBlk],fun j hj hn=>by
        have:b G≠j:=fun e=>hn (by subst e;simp)
        simp [setBlk,Array.getElem?_setIfInBounds_ne this]⟩⟩
    have hrun:(execOp (c.R.evalAt G i) o).run P w=.ok .skip (setBlk w (b G) o'):=by
      unfold RC.mpu at e1
      rw [ho] at e1
      obtain ⟨dst,op,type,pos,after,guard⟩:=o
      cases op <;> simp only [Option.map_some] at e1 <;> first | cases e1 | skip
      all_goals
        simp only [Option.some.injEq,Prod.mk.injEq] at e1
        obtain ⟨rfl,h1,h2,h3⟩:=e1
        simp [execOp,h1,h2,h3,hr]
    unfold Does
    rw [hrun]
    have hv:=Cx.vis_self (c:=c) (i:=i) (G:=G) { e:=some (b G,o') }
    have hbv:=(h1 { e:=some (b G,o') }).2.2.2.2.2.2.2
    refine ⟨{ e:=some (b G,o') },left_turn ok hil hi hs rfl rfl a1 hg ?_ ?_ rfl rfl (by rw [Cx.valOf hi])⟩
    · show (c.R.vis i (RC.put G i { e:=some (b G,o') }) i).e=_
      rw [hv]
    · have key:∀ H,(∀ p ∈ m,Dat.good H p.2)→Dat.good H x→MP a m2 (b G) (some (b G,o')) H:=fun H h1 h2=>⟨⟨_,rfl,hm ▸ hob'⟩,fun p hp=>by
        rw [hm] at hp
        rcases mupd_mem hp with hp | hp
        · rw [hp];exact h2
        · exact h1 p hp⟩
      have hgx:=hq G _ (allR_of ok hil hs e7 e6)
      show bif t2 then MP _ _ _ _ _ else MP _ _ _ _ _
      rw [hv,hbv]
      cases t2 with
      | true=>rw [ht rfl] at hgood;exact key _ hgood hgx
      | false=>exact key _ (fun p hp=>by
          cases t with
          | true=>exact Dat.mono _ _ _ (Cx.J_true_le hs false) (hgood p hp)
          | false=>exact hgood p hp) hgx
def lk (r:Nat) (tt kt et:TypeId) (t a ok:Bool) (m:List (κ × α)) (b:Gh→Nat) (k:κ) (x:α) (hx:x=(mlook k m).getD default) (is:Bool) (his:is=(mlook k m).isSome) (nest:Bool):Hint P where
  d:={ val:=fun _=>lkV a ok (Dat.cells x) is,rds:=[r],facts:=fun _=>bif nest then [gf t x] else [] }
  τ:=Option (TypeId × Value × Value × Bool) × Option (TypeId × TypeId) × Option TypeDesc × Option LE × Result Value
  lhs c i G _ w:=(c.R.mlk G i,mapOf P tt,P.underlying kt,c.leAt i r G,(zeroValue et).run P w)
  rhs _ _ G _ w:=(some (tt,.map (some (b G)),MKey.enc k,ok),some (kt,et),some (MKey.desc κ),some (mp t a m (b G)),.ok (aggV a (Dat.cells (default:α))) w)
  sound c i ok' hil hi h0:=fun o ho G w hs=>by
    have h1:=h0 G {} w
    simp only [Prod.mk.injEq] at h1
    obtain ⟨e1,e2,e3,e4,e5⟩:=h1
    obtain ⟨en,a1,a2,a3⟩:=Cx.own_at ok' hil hs e4 (by rw [Cx.c_of hi];simp [HintD.cert])
    obtain ⟨⟨ob,rfl,hob⟩,hgood⟩:=mp_at a2
    have hb:=a3 (b G) ob rfl
    have hr:=lk_run (P:=P) (w:=w) (k:=k) (ok:=ok) (map_of e2) e3 hob hb e5
    have hval:(if ok then .tuple #[((mlook k m).map fun x:α=>aggV a (Dat.cells x)).getD (aggV a (Dat.cells (default:α))),.bool (mlook k m).isSome] else ((mlook k m).map fun x:α=>aggV a (Dat.cells x)).getD (aggV a (Dat.cells (default:α))))=lkV a ok (Dat.cells x) is:=by
      unfold lkV
      rw [hx,his]
      cases mlook k m <;> cases ok <;> rfl
    rw [hval] at hr
    have hrun:(execOp (c.R.evalAt G i) o).run P w=.ok (.value (lkV a ok (Dat.cells x) is)) w:=by
      unfold RC.mlk at e1
      rw [ho] at e1
      obtain ⟨dst,op,type,pos,after,guard⟩:=o
      cases op <;> simp only [Option.map_some] at e1 <;> first | cases e1 | skip
      case lookup t' m' k' ok2 =>
        simp only [Option.some.injEq,Prod.mk.injEq] at e1
        obtain ⟨rfl,h1,h2,rfl⟩:=e1
        simp [execOp,h1,h2,hr]
    unfold Does
    rw [hrun]
    obtain ⟨a4,a5,_⟩:=ahead ok' hil hs (g:={}) no_H
    have hgx:∀ H,(∀ p ∈ m,Dat.good H p.2)→Dat.good H x:=fun H hH=>by
      rw [hx]
      cases hl:mlook k m with
      | none=>exact Dat.zero H
      | some y=>exact hH _ (mlook_mem hl)
    refine ⟨{},left_grow ok' hil hi hs rfl (Base.refl _ _) (fun b o h=>by cases h) no_H (fun f hf'=>?_) trivial ?_⟩
    · cases nest with
      | false=>cases hf'
      | true =>
        have hf':f=gf t x:=by simpa using hf'
        subst hf'
        show bif t then _ else _
        cases t
        · exact Dat.mono _ _ _ a5 (hgx _ hgood)
        · exact Dat.mono _ _ _ a4 (hgx _ hgood)
    · rw [Cx.valOf hi]
def ml (r:Nat) (tt kt et:TypeId) (t a:Bool) (m:List (κ × α)) (b:Gh→Nat):Hint P where
  d:={ val:=fun _=>.int .i64 (m.length:Int),rds:=[r] }
  τ:=Option (TypeId × Value) × Option (TypeId × TypeId) × Option LE
  lhs c i G _ _:=(c.R.mln G i,mapOf P tt,c.leAt i r G)
  rhs _ _ G _ _:=(some (tt,.map (some (b G))),some (kt,et),some (mp t a m (b G)))
  sound c i ok' hil hi h0:=fun o ho G w hs=>by
    have h1:=h0 G {} w
    simp only [Prod.mk.injEq] at h1
    obtain ⟨e1,e2,e4⟩:=h1
    obtain ⟨en,a1,a2,a3⟩:=Cx.own_at ok' hil hs e4 (by rw [Cx.c_of hi];simp [HintD.cert])
    obtain ⟨⟨ob,rfl,hob⟩,hgood⟩:=mp_at a2
    have hb:=a3 (b G) ob rfl
    refine Cx.still hi rfl (fun _=>⟨rfl,rfl⟩) ho (x:=.int .i64 (m.length:Int)) ?_ (by rw [Cx.valOf hi])
    unfold RC.mln at e1
    rw [ho] at e1
    obtain ⟨dst,op,type,pos,after,guard⟩:=o
    simp only [Option.map_some] at e1
    split at e1
    · rename_i args argTypes heq
      simp only [Option.some.injEq] at heq
      subst heq
      split at e1
      · rename_i x t' hx ht
        simp only [Option.some.injEq,Prod.mk.injEq] at e1
        obtain ⟨rfl,hv⟩:=e1
        obtain ⟨l,rfl⟩:∃ l:List Operand,args=l.toArray:=⟨args.toList,by simp⟩
        obtain ⟨l2,rfl⟩:∃ l:List TypeId,argTypes=l.toArray:=⟨argTypes.toList,by simp⟩
        simp only at hx ht
        subst hx ht
        simp [execOp,resolve,invoke,builtin,hv,ml_run (P:=P) (w:=w) (ty:=type) (map_of e2) hob hb]
      · cases e1
    · cases e1
end Hint
theorem V.trm {P:Program} {E:Env P} {S:Stop} {t:St} {κ α:Type} [DecidableEq κ] [MKey κ] [Dat α] (a:Bool) (m:List (κ × α)) (b r:Nat) (hr:t.L[r]?=some (mp false a m b)) (hg:∀ (H:Heaplet) (x:α),Dat.good H x) (k:V E S ⟨t.sl,t.F,t.L.set r (mp true a m b)⟩):V E S t:=fun N ε ac w hin=>by
  have hlt:r < t.L.length:=(List.getElem?_eq_some_iff.1 hr).1
  have hents:ents (t.L.set r (mp true a m b)) ε=ents t.L ε:=by
    refine List.ext_getElem? fun j=>?_
    rw [ents_get,ents_get,List.getElem?_set]
    by_cases e:r=j
    · subst e;rw [if_pos rfl,if_pos hlt,hr];rfl
    · rw [if_neg e]
  refine k N ε ac w ⟨hin.slots,by rw [hents];exact hin.st,hin.new,hin.facts,fun j y hy=>?_⟩
  rw [List.getElem?_set] at hy
  by_cases e:r=j
  · subst e
    rw [if_pos rfl,if_pos hlt] at hy
    cases hy
    have:=hin.own r _ hr
    exact ⟨(this:MP a m b _ _).1,fun p _=>hg _ _⟩
  · rw [if_neg e] at hy
    exact hin.own j y hy

open Go
theorem zero_flatten {row:List Value}:∀ n:Nat,(Builtin.zeroCells row.toArray n).toList=(List.replicate n row).flatten:=by
  intro n
  have hlen:(List.replicate n row).flatten.length=n * row.length:=by
    rw [flatten_len (size:=row.length) (fun r hr=>by rw [List.eq_of_mem_replicate hr]),List.length_replicate]
  refine List.ext_getElem? fun j=>?_
  by_cases hj:j < n * row.length
  · have hp:0 < row.length:=by
      rcases Nat.eq_zero_or_pos row.length with h | h
      · rw [h] at hj;simp at hj
      · exact h
    have hm:j % row.length < row.length:=Nat.mod_lt _ hp
    have hd:j / row.length < n:=by rw [Nat.div_lt_iff_lt_mul hp];exact hj
    have h1:=flatten_get (size:=row.length) (rows:=List.replicate n row) (fun r hr=>by rw [List.eq_of_mem_replicate hr]) (j / row.length) (j % row.length) row row[j % row.length] (by simp [hd]) (by simp [hm])
    rw [Nat.div_add_mod'] at h1
    rw [h1]
    simp [Builtin.zeroCells,hj,hm]
  · have h0:n * row.length≤j:=Nat.le_of_not_lt hj
    rw [List.getElem?_eq_none (by simp [Builtin.zeroCells];exact h0),List.getElem?_eq_none (by rw [hlen];exact h0)]
theorem apz_run {P:Program} {w:World} {t tn ty E:TypeId} {i:TypeInfo} {z:Value} {kn:IntKind} {row:List Value} (ht:P.underlying t=some (.slice E)) (htn:P.underlying tn=some (.int kn)) (hi:P.info? E=some i) (hz:i.zero=some z) (hzc:z.cells.toList=row) (hs:i.size=row.length) (h1:∀ u ∈ row,cell1 u=true) (hp:0 < row.length)
    {n:Nat} (h0:0 < n) (h63:n≤maxLen) (h48:n * i.bytes≤281474976710656) :
    ∃ v' e' w',(Builtin.append_ #[t,tn] ty #[.slice none 0 0,.int .i64 n]).run P w=.ok v' w'∧OwnS E row.length (List.replicate n row) v' e'∧Grows none e' w w':=by
  have hr:=Lib.run_append_nil_zeros w t tn ty E i z .i64 kn ht htn hi hz n h0 (by omega) (by simp only [maxLen] at h63;omega) h48
  have hrow:row.toArray=z.cells:=by rw [←hzc]
  rw [←hrow] at hr
  have hge:=grownCap_ge w n 0 E
  refine ⟨_,some (w.heap.size,.cells (Builtin.zeroCells row.toArray n ++Builtin.zeroCells row.toArray (grownCap w n 0 E - n)) E),_,hr,⟨fun r hr=>by rw [List.eq_of_mem_replicate hr],fun r hr=>by rw [List.eq_of_mem_replicate hr];exact h1,.inr ⟨_,_,_,by simp,rfl,by simpa using hge,grownCap_le_maxLen w n 0 E h63,?_,?_⟩⟩,?_,?_,?_⟩
  · rw [Array.size_append,size_zeroCells,size_zeroCells,← Nat.add_mul];congr 1;omega
  · rw [Array.toList_append,zero_flatten,List.length_replicate]
    rw [List.take_append_of_le_length (by rw [flatten_len (size:=row.length) (fun r hr=>by rw [List.eq_of_mem_replicate hr]),List.length_replicate];exact Nat.le_refl _)]
    rw [List.take_of_length_le]
    rw [flatten_len (size:=row.length) (fun r hr=>by rw [List.eq_of_mem_replicate hr]),List.length_replicate];exact Nat.le_refl _
  · intro b o hb;cases hb;exact push_get
  · intro b o hb;cases hb;exact .inl (Nat.le_refl _)
  · refine ⟨rfl,rfl,rfl,?_,fun k hk _=>?_⟩
    · show _≤(w.heap.push _).size
      rw [Array.size_push];exact Nat.le_succ _
    · show (w.heap.push _)[k]?=_
      rw [Array.getElem?_push,if_neg (Nat.ne_of_lt hk)]
def intOf (P:Program) (t:TypeId):Bool:=match P.underlying t with
  | some (.int _)=>true
  | _=>false
theorem int_of {P:Program} {t:TypeId} (h:intOf P t=true):∃ k,P.underlying t=some (.int k):=by
  unfold intOf at h
  split at h
  · exact ⟨_,by assumption⟩
  · cases h
namespace Hint
variable {P : Program}
def apz {α:Type} [Dat α] (n r:Nat) (t tn:TypeId) (E:TypeId) (bytes:Nat) (k:Int) (l2:List α) (hl:l2=List.replicate k.toNat default) (h0:0 < k) (h63:k≤9223372036854775807) (hb:k * bytes≤281474976710656):Hint P where
  d:={ val:=fun G=>(G n).s.v,news:=[(r,fun G=>os true E l2 (G n).s,fun G=>(G n).e)] }
  τ:=Option (TypeId × TypeId × Value × Value) × Option TypeId × Bool × Option (Nat × Nat × Option (List Value)) × Nat × Bool × Bool × Ent
  lhs c i G _ _:=(c.R.apr G i,sliceOf P t,intOf P tn,zeroOf P E,i,decide (0 < Dat.size α),(Dat.cells (default:α)).all cell1,c.R.entAt G i r)
  rhs c i _ _ _:=(some (t,tn,.slice none 0 0,.int .i64 k),some E,true,some (Dat.size α,bytes,some (Dat.cells (default:α))),n,true,true,none)
  sound c i ok hil hi h:=fun o ho G w hs=>by
    have h1:=h G {} w
    simp only [Prod.mk.injEq] at h1
    obtain ⟨e1,e2,e3,e4,rfl,e5,e6,e7⟩:=h1
    obtain ⟨kn,e3⟩:=int_of e3
    unfold zeroOf at e4
    cases hin:P.info? E with
    | none=>simp [hin] at e4
    | some inf =>
      simp only [hin,Option.map_some,Option.some.injEq,Prod.mk.injEq] at e4
      obtain ⟨i1,i2,i3⟩:=e4
      cases hz:inf.zero with
      | none=>simp [hz] at i3
      | some z =>
        simp only [hz,Option.map_some,Option.some.injEq] at i3
        have hkn:(k.toNat:Int)=k:=by omega
        clear h
        obtain ⟨v',e',w',hr,ho',hg⟩:=apz_run (w:=w) (ty:=o.type) (n:=k.toNat) (slice_of e2) e3 hin hz i3 (by rw [i1,Dat.len]) (fun u hu=>List.all_eq_true.1 e6 u hu) (by rw [Dat.len];exact of_decide_eq_true e5) (by omega) (by simp only [maxLen];omega) (by
          rw [i2]
          have h3:((k.toNat * bytes:Nat):Int)≤((281474976710656:Nat):Int):=by rw [Int.natCast_mul,hkn];exact hb
          exact Int.ofNat_le.1 h3)
        rw [hkn] at hr
        have hrun:(execOp (c.R.evalAt G i) o).run P w=.ok (.value v') w':=by
          unfold RC.apr at e1
          rw [ho] at e1
          obtain ⟨dst,op,type,pos,after,guard⟩:=o
          simp only [Option.map_some] at e1
          split at e1
          · rename_i args argTypes heq
            simp only [Option.some.injEq] at heq
            subst heq
            split at e1
            · rename_i x y t' u' hx ht
              simp only [Option.some.injEq,Prod.mk.injEq] at e1
              obtain ⟨rfl,rfl,hv,hxv⟩:=e1
              obtain ⟨l,rfl⟩:∃ l:List Operand,args=l.toArray:=⟨args.toList,by simp⟩
              obtain ⟨l2,rfl⟩:∃ l:List TypeId,argTypes=l.toArray:=⟨argTypes.toList,by simp⟩
              simp only at hx ht
              subst hx ht
              simp only at hr
              simp [execOp,resolve,invoke,builtin,hv,hxv,hr]
            · cases e1
          · cases e1
        obtain ⟨s',rfl⟩:=own_sv ho'
        unfold Does
        rw [hrun]
        have hv:=Cx.vis_self (c:=c) (i:=i) (G:=G) { s:=s',e:=e' }
        refine ⟨{ s:=s',e:=e' },left_turn ok hil hi hs rfl rfl e7 hg ?_ ?_ rfl rfl ?_⟩
        · show (c.R.vis i (RC.put G i { s:=s',e:=e' }) i).e=_
          rw [hv]
        · show OSl E _ l2 _ _
          rw [hv]
          refine ⟨?_,fun x hx=>?_⟩
          · have:rows l2=List.replicate k.toNat (Dat.cells (default:α)):=by rw [hl];simp [rows]
            rw [this,← Dat.len (default:α)];exact ho'
          · rw [hl] at hx
            rw [(List.eq_of_mem_replicate hx:x=default)]
            exact Dat.zero _
        · rw [Cx.valOf hi]
          show SV.v _=_
          rw [hv]
def nrG {α:Type} [Dat α] (n:Nat) (t:Bool) (E:TypeId) (l:Gh→List α) (k:Nat) (hk:∀ G,(l G).length=k) (qs:List Kv) (hq:∀ G H,allR qs G H→∀ x ∈ l G,Dat.good H x) (arr:Gh→Array Value):Hint P where
  d:={ val:=fun G=>.slice (atB (G n).b) k k,facts:=fun G=>[fs t (l G) ⟨atB (G n).b,k,k⟩] }
  τ:=Option (Result Next) × Nat × List Value × Bool × Bool × List (Option (Bool × (Ent→Heaplet→Prop)) × Bool) × List α
  lhs c i G g w:=(c.R.ex P G i w,i,(arr G).toList,decide (k≤maxLen),tOk t qs,qs.map (Kv.chk c i G),l (c.R.vis i (RC.put G i g)))
  rhs _ _ G _ w:=(some (.ok (.value (.slice (atB w.heap.size) k k)) { w with heap:=w.heap.push (.cells (arr G) E) }),n,(rows (l G)).flatten,true,true,qs.map (Kv.want G),l G)
  sound c i ok hil hi h:=fun o ho G w hs=>by
    have h0:=fun g=>h G g w
    simp only [Prod.mk.injEq,RC.ex,ho,Option.map_some,Option.some.injEq] at h0
    obtain ⟨e1,rfl,e4,e5,e6,e7,_⟩:=h0 {}
    unfold Does
    rw [e1]
    have hv:=Cx.vis_self (c:=c) (i:=i) (G:=G) { b:=w.heap.size,H:=entH (some (w.heap.size,.cells (arr G) E)) }
    have e8:=(h0 { b:=w.heap.size,H:=entH (some (w.heap.size,.cells (arr G) E)) }).2.2.2.2.2.2
    have hfr:∀ b,entH (some (w.heap.size,.cells (arr G) E)) b≠none→w.heap.size≤b:=entH_new (w0:=w) fun b o he=>by cases he;exact Nat.le_refl _
    obtain ⟨a1,a2,a3,a4⟩:=ahead ok hil hs (g:={ b:=w.heap.size,H:=entH (some (w.heap.size,.cells (arr G) E)) }) hfr
    refine ⟨{ b:=w.heap.size,H:=entH (some (w.heap.size,.cells (arr G) E)) },left_grow ok hil hi hs rfl (base_push _ _) (entH_agrees (e:=some (w.heap.size,.cells (arr G) E)) fun b o he=>by cases he;exact push_get) hfr (fun f hf=>?_) trivial ?_⟩
    · have hf:f=fs t (l (c.R.vis i (RC.put G i { b:=w.heap.size,H:=entH (some (w.heap.size,.cells (arr G) E)) }))) ⟨atB (c.R.vis i (RC.put G i { b:=w.heap.size,H:=entH (some (w.heap.size,.cells (arr G) E)) }) i).b,k,k⟩:=by simpa using hf
      rw [hv,e8] at hf
      subst hf
      have key:∀ H K,Sub H K→Sub (entH (some (w.heap.size,.cells (arr G) E))) K→(∀ x ∈ l G,Dat.good H x)→RSl K (l G) (.slice (atB w.heap.size) k k):=fun H K k1 k2 hg=>(OSl.lit (E:=E) (g:=w.heap.size) hg (by rw [e4,hk,e5])).frozen k1 k2
      have hR:=hq G _ (allR_of ok hil hs e7 e6)
      show bif t then _ else _
      cases t
      · exact key _ _ a2 a4 hR
      · exact key _ _ a1 a3 hR
    · rw [Cx.valOf hi]
      show Value.slice _ _ _=_
      rw [hv]
def apG {α:Type} [Dat α] (n r:Nat) (E:TypeId) (bytes:Nat) (z t:Bool) (l:List α) (s:Gh→SV) (src:Src) (ts:Bool) (m:Gh→List α) (k:Nat) (hk:∀ G,(m G).length=k) (s2:Gh→SV) (t2:Bool) (hb:(l.length+k) * bytes≤140737488355328)
    (hz:z=true→l=[]∧∀ G,s G={}) (ht:t2=true→t=true∧ts=true):Hint P where
  d:={ val:=fun G=>(G n).s.v,news:=[(r,fun G=>os t2 E (l ++m G) (G n).s,fun G=>(G n).e)] }
  τ:=Option (TypeId × TypeId × Value × Value) × Option TypeId × Option (Nat × Nat × Option Nat) × Option LE × Nat × Bool × Bool × (Option (Bool × (Ent→Heaplet→Prop)) × Bool) × List α
  lhs c i G g _:=(c.R.apr G i,sliceOf P (c.R.apt G i),infoOf P E,c.leAt i r G,i,decide (0 < Dat.size α),decide (0 < bytes),src.what c i G,m (c.R.vis i (RC.put G i g)))
  rhs c i G _ _:=(some (c.R.apt G i,c.R.apt G i,(s G).v,(s2 G).v),some E,some (Dat.size α,bytes,some (Dat.size α)),some (nilOr t E l (s G) z),n,true,true,(some (ts,fun _ H=>RSl H (m G) (s2 G).v),true),m G)
  sound c i ok hil hi h:=fun o ho G w hs=>by
    have h0:=fun g=>h G g w
    simp only [Prod.mk.injEq] at h0
    obtain ⟨e1,e2,e3,e4,rfl,e6,e7,e8,_⟩:=h0 {}
    have hw:c.R.wrE r i=true:=by unfold RC.wrE;rw [Cx.upsOf hi];simp
    obtain ⟨en,a1,a2,a3⟩:=Cx.own_at ok hil hs e4 (by rw [hw];simp)
    obtain ⟨own,hgood⟩:=nilOr_own (fun hz'=>⟨(hz hz').1,(hz hz').2 G⟩) a2
    obtain ⟨e',q1,q2,_⟩:=Src.get ok hil hs e8
    have hx:RSl (c.J i G ts) (m G) (s2 G).v:=q1
    obtain ⟨v',en',w',hr,ho',hg⟩:=append_does ho e1 e2 e3 (of_decide_eq_true e6) (of_decide_eq_true e7) own a3 hx.sl (Cx.J_le hs ts) (by simpa [hk] using hb)
    obtain ⟨s',rfl⟩:=own_sv ho'
    unfold Does
    rw [hr]
    have hv:=Cx.vis_self (c:=c) (i:=i) (G:=G) { s:=s',e:=en' }
    have e9:=(h0 { s:=s',e:=en' }).2.2.2.2.2.2.2.2
    refine ⟨{ s:=s',e:=en' },left_turn ok hil hi hs rfl rfl a1 hg ?_ ?_ rfl rfl ?_⟩
    · show (c.R.vis i (RC.put G i { s:=s',e:=en' }) i).e=_
      rw [hv]
    · show bif t2 then OSl E _ _ _ _ else OSl E _ _ _ _
      rw [hv,e9]
      have ho2:OwnS E (Dat.size α) (rows (l ++m G)) s'.v en':=by rw [rows_append];exact ho'
      have fin:∀ x ∈ l ++m G,Dat.good (c.J i G t2) x:=fun x hx'=>by
        rcases List.mem_append.1 hx' with hx' | hx'
        · cases t2 with
          | true=>have:=hgood x hx';rw [(ht rfl).1] at this;exact this
          | false =>
            have:=hgood x hx'
            cases t
            · exact this
            · exact Dat.mono _ _ _ (Cx.J_true_le hs false) this
        · cases t2 with
          | true=>have:=hx.good x hx';rw [(ht rfl).2] at this;exact this
          | false=>exact Dat.mono _ _ _ (Cx.J_le_false hs _) (hx.good x hx')
      cases t2
      · exact ⟨ho2,fin⟩
      · exact ⟨ho2,fin⟩
    · rw [Cx.valOf hi]
      show SV.v _=_
      rw [hv]
end Hint

open Go
namespace Rv
open Tm
def idx (v:Int):List Int→Int
  | []=> -1
  | x :: l=>if x=v then 0 else if idx v l < 0 then -1 else idx v l+1
theorem idx_no {v:Int}:∀ {l:List Int},(∀ i,i < l.length→l.getD i default≠v)→idx v l= -1
  | [],_=>rfl
  | x :: l,h=>by
    unfold idx
    have ih:=idx_no (v:=v) (l:=l) fun i hi=>by have:=h (i+1) (by simp;omega);simpa using this
    have h0:¬ x=v:=by have:=h 0 (by simp);simpa using this
    rw [if_neg h0,ih];rfl
theorem idx_at {v:Int}:∀ {l:List Int} {k:Nat},k < l.length→(∀ i,i < k→l.getD i default≠v)→l.getD k default=v→idx v l=k
  | x :: l,0,_,_,e=>by unfold idx;rw [if_pos (by simpa using e)];rfl
  | x :: l,k+1,hk,h,e=>by
    unfold idx
    have ih:=idx_at (l:=l) (k:=k) (by simpa using hk) (fun i hi=>by have:=h (i+1) (by omega);simpa using this) (by simpa using e)
    rw [if_neg (by have:=h 0 (by omega);simpa using this),ih,if_neg (by omega)];omega
theorem idx_mem {v:Int}:∀ {l:List Int},0≤idx v l↔v ∈ l
  | []=>by unfold idx;simp
  | x :: l=>by
    have ih:=idx_mem (v:=v) (l:=l)
    unfold idx
    by_cases e:x=v
    · rw [if_pos e];simp [e]
    · rw [if_neg e,List.mem_cons]
      by_cases h:idx v l < 0
      · rw [if_pos h]
        constructor
        · intro h;omega
        · rintro (h2 | h2)
          · exact absurd h2.symm e
          · have:=ih.2 h2;omega
      · rw [if_neg h]
        constructor
        · intro _;exact .inr (ih.1 (by omega))
        · intro _;omega
theorem eq_of_getD {α:Type} [Inhabited α] {l m:List α} (hl:l.length=m.length) (h:∀ i,i < l.length→l.getD i default=m.getD i default):l=m:=by
  refine List.ext_getElem hl fun i h1 h2=>?_
  have:=h i h1
  simpa [List.getD_eq_getElem?_getD,h1,h2] using this
theorem mid_iff {p:List Int} {s l:List DThing} {n k v:Int} {x:DThing} (h0:0≤k) (hk:k < l.length) (hl:l=s.take n.toNat) (hx:x=l.getD k.toNat default) (hv:v=p.getD (k+1).toNat default) :
    mid p s k.toNat↔(x.Text=ByteArray.empty∧(x.Left=v∨x.Right=v))∧(¬0 < k∨x.Value= -1∧x.Blind= -1):=by
  have e1:te s k.toNat=x:=by
    rw [hx,hl]
    unfold te
    have hk':k.toNat < n.toNat:=by rw [hl] at hk;simp at hk;omega
    simp [List.getD_eq_getElem?_getD,List.getElem?_take,hk']
  have e2:pe p (k.toNat+1)=v:=by rw [hv];unfold pe;rw [show (k+1).toNat=k.toNat+1 by omega];rfl
  unfold mid hid
  rw [e1,e2]
  constructor
  · rintro ⟨a,b,c⟩
    refine ⟨⟨a,b⟩,?_⟩
    by_cases h:0 < k
    · exact .inr (c (by omega))
    · exact .inl h
  · rintro ⟨⟨a,b⟩,c⟩
    refine ⟨a,b,fun h=>?_⟩
    rcases c with c | c
    · omega
    · exact c
theorem mid_step {p:List Int} {s l:List DThing} {n k v:Int} {x:DThing} (h:∀ i,i < k.toNat→mid p s i) (h0:0≤k) (hk:k < l.length) (hl:l=s.take n.toNat) (hx:x=l.getD k.toNat default) (hv:v=p.getD (k+1).toNat default)
    (hq:(x.Text=ByteArray.empty∧(x.Left=v∨x.Right=v))∧(¬0 < k∨x.Value= -1∧x.Blind= -1)):∀ i,i < (k+1).toNat→mid p s i:=fun i hi=>by
  by_cases e:i < k.toNat
  · exact h i e
  · rw [show i=k.toNat by omega];exact (mid_iff h0 hk hl hx hv).2 hq
theorem walk_no {p:List Int} {s l:List DThing} {n k v:Int} {x:DThing} (h0:0≤k) (hk:k < l.length) (hl:l=s.take n.toNat) (hn:n=p.length - 1) (hx:x=l.getD k.toNat default) (hv:v=p.getD (k+1).toNat default)
    (hq:(¬x.Text=ByteArray.empty∨¬ x.Left=v∧¬ x.Right=v)∨0 < k∧¬ (x.Value= -1∧x.Blind= -1)):¬ walk p s:=by
  rintro ⟨_,_,h,_⟩
  obtain ⟨⟨a,b⟩,c⟩:=(mid_iff h0 hk hl hx hv).1 (h _ (by rw [hl] at hk;simp at hk;omega))
  rcases hq with (h | h) | h
  · exact h a
  · rcases b with b | b
    · exact h.1 b
    · exact h.2 b
  · rcases c with c | c
    · exact c h.1
    · exact h.2 c
theorem walk_fin {p:List Int} {s:List DThing} {n:Int} {x y:DThing} (h1:p.length≠0) (h2:s.length=p.length) (h3:∀ i,i < p.length - 1→mid p s i) (hn:n=p.length - 1) (hx:x=s.getD n.toNat default) (hy:y=s.getD (0:Int).toNat default) :
    walk p s↔(((Bd y∧Bd x)∧x.Left= -1)∧x.Right= -1)∧(x.Text.size:Int)≤8000:=by
  have e1:te s (p.length - 1)=x:=by rw [hx,show n.toNat=p.length - 1 by omega];rfl
  have e2:te s 0=y:=by rw [hy];rfl
  unfold walk endT
  rw [e1,e2]
  constructor
  · rintro ⟨_,_,_,a,b,c,d,e⟩;exact ⟨⟨⟨⟨a,b⟩,c⟩,d⟩,by omega⟩
  · rintro ⟨⟨⟨⟨a,b⟩,c⟩,d⟩,e⟩;exact ⟨h1,h2,h3,a,b,c,d,by omega⟩
theorem snoc_ind {α:Type} {motive:List α→Prop} (h0:motive []) (h1:∀ l a,motive l→motive (l ++[a])) (l:List α):motive l:=by
  have:∀ m:List α,motive m.reverse:=fun m=>by
    induction m with
    | nil=>exact h0
    | cons a m ih=>rw [List.reverse_cons];exact h1 _ _ ih
  have h:=this l.reverse
  rwa [List.reverse_reverse] at h
def endm:List (List Int)→List (Int × Bool):=List.foldl (fun m p=>mupd (lastI p) true m) []
theorem endm_snoc (P:List (List Int)) (p:List Int):endm (P ++[p])=mupd (lastI p) true (endm P):=by
  unfold endm;rw [List.foldl_append];rfl
theorem endm_look (k:Int):∀ (P:List (List Int)),(mlook k (endm P)).isSome=decide (k ∈ P.map lastI):=by
  refine snoc_ind rfl fun P p ih=>?_
  · rw [endm_snoc,mlook_upd]
    by_cases e:k=lastI p
    · rw [if_pos e];simp [e]
    · rw [if_neg e,ih];simp [e]
theorem endm_len (P:List (List Int)):(endm P).length≤P.length∧((endm P).length=P.length↔(P.map lastI).Nodup):=by
  refine snoc_ind (motive:=fun P=>(endm P).length≤P.length∧((endm P).length=P.length↔(P.map lastI).Nodup)) ⟨Nat.le_refl _,by simp [endm]⟩ (fun P p ih=>?_) P
  · obtain ⟨h1,h2⟩:=ih
    rw [endm_snoc,mupd_len,endm_look]
    simp only [List.length_append,List.length_singleton,List.map_append,List.map_cons,List.map_nil,List.nodup_append]
    by_cases e:lastI p ∈ P.map lastI
    · simp only [e,decide_true,if_true]
      refine ⟨by omega,?_,?_⟩
      · intro h;omega
      · rintro ⟨_,_,h⟩;exact absurd rfl (h _ e _ (by simp))
    · simp only [e,decide_false,Bool.false_eq_true,if_false]
      refine ⟨by omega,?_,?_⟩
      · intro h
        refine ⟨h2.1 (by omega),by simp,?_⟩
        intro a ha b hb hab
        have:b=lastI p:=by simpa using hb
        subst this;subst hab;exact e ha
      · rintro ⟨h,_,_⟩;have:=h2.2 h;omega
theorem pl_ls {l:List (Fat Int)} {k:Int} {x:Fat Int} (h:x=l.getD k.toNat default):pl (ls l) k.toNat=x.l:=by
  rw [h];exact getD_l l k.toNat
theorem sl_ls {l:List (Fat DThing)} {k:Int} {x:Fat DThing} (h:x=l.getD k.toNat default):sl (ls l) k.toNat=x.l:=by
  rw [h];exact getD_l l k.toNat
theorem pl_ls' {l:List (Fat Int)} (i:Nat):pl (ls l) i=(l.getD i default).l:=getD_l l i
theorem sl_ls' {l:List (Fat DThing)} (i:Nat):sl (ls l) i=(l.getD i default).l:=getD_l l i
theorem row_iff {p:List (Fat Int)} {q:List (Fat DThing)} {k:Int} {x1 x3:Fat Int} {x2 x4:Fat DThing} {v1 v2:Int} {x5 x6:DThing} (h1:x1=p.getD k.toNat default) (h2:x2=q.getD k.toNat default) (h3:v1=x1.l.getD (0:Int).toNat default) (h4:x3=p.getD (0:Int).toNat default)
    (h5:v2=x3.l.getD (0:Int).toNat default) (h6:x4=q.getD (0:Int).toNat default) (h7:x5=x4.l.getD (0:Int).toNat default) (h8:x6=x2.l.getD (0:Int).toNat default) :
    row (ls p) (ls q) k.toNat↔(walk x1.l x2.l∧v1=v2)∧x5.Value=x6.Value∧x5.Blind=x6.Blind:=by
  unfold row
  have e0:=pl_ls h4
  have e1:=sl_ls h6
  rw [show (0:Int).toNat=0 from rfl] at e0 e1 h3 h5 h7 h8
  rw [pl_ls h1,sl_ls h2,e0,e1]
  unfold pe te
  rw [h3,h5,h7,h8]
  constructor
  · rintro ⟨a,b,c,d⟩;exact ⟨⟨a,b⟩,c.symm,d.symm⟩
  · rintro ⟨⟨a,b⟩,c,d⟩;exact ⟨a,b,c.symm,d.symm⟩
theorem head_ne {p:List (Fat Int)} {q:List (Fat DThing)} {k:Int} {x1 x3:Fat Int} {x2:Fat DThing} (hk:0≤k) (hr:∀ i,i < k.toNat→row (ls p) (ls q) i) (h1:x1=p.getD k.toNat default) (h2:x2=q.getD k.toNat default) (hw:walk x1.l x2.l) (h4:x3=p.getD (0:Int).toNat default):x3.l.length≠0:=by
  by_cases e:k=0
  · subst e;rw [h4,← h1];exact hw.1
  · have:=(hr 0 (by omega)).1.1
    rw [pl_ls'] at this
    rw [h4];exact this
theorem head_ne2 {p:List (Fat Int)} {q:List (Fat DThing)} {k:Int} {x1:Fat Int} {x2 x4:Fat DThing} (hk:0≤k) (hr:∀ i,i < k.toNat→row (ls p) (ls q) i) (h1:x1=p.getD k.toNat default) (h2:x2=q.getD k.toNat default) (hw:walk x1.l x2.l) (h4:x4=q.getD (0:Int).toNat default):x4.l.length≠0:=by
  by_cases e:k=0
  · subst e;rw [h4,← h2,hw.2.1];exact hw.1
  · have h:=(hr 0 (by omega)).1
    have h1:=h.1
    have h2:=h.2.1
    rw [pl_ls'] at h1 h2;rw [sl_ls'] at h2
    rw [h4];show (q.getD 0 default).l.length≠0
    omega
theorem form_no {P:List (List Int)} {S:List (List DThing)} {k:Nat} (hk:k < P.length) (h:¬ row P S k):¬ Form P S:=fun f=>h (f.2.2.2.1 k hk)
theorem row_step {P:List (List Int)} {S:List (List DThing)} {k:Int} (h0:0≤k) (h:∀ i,i < k.toNat→row P S i) (hr:row P S k.toNat):∀ i,i < (k+1).toNat→row P S i:=fun i hi=>by
  by_cases e:i < k.toNat
  · exact h i e
  · rw [show i=k.toNat by omega];exact hr
theorem endm_step {p:List (Fat Int)} {k n v:Int} {x:Fat Int} {m m2:List (Int × Bool)} (h0:0≤k) (hk:k < p.length) (h:m=endm ((ls p).take k.toNat)) (hx:x=p.getD k.toNat default) (hn:n=x.l.length - 1) (hl:x.l.length≠0) (hv:v=x.l.getD n.toNat default) (hm:m2=mupd v true m):m2=endm ((ls p).take (k+1).toNat):=by
  have e:(ls p).take (k+1).toNat=(ls p).take k.toNat ++[x.l]:=by
    rw [show (k+1).toNat=k.toNat+1 by omega]
    have hk':k.toNat < (ls p).length:=by simp;omega
    rw [List.take_add_one,List.getElem?_eq_getElem hk']
    congr 1
    show [(ls p)[k.toNat]]=[x.l]
    congr 1
    rw [←pl_ls hx];unfold pl;rw [List.getD_eq_getElem?_getD,List.getElem?_eq_getElem hk'];rfl
  rw [e,endm_snoc,hm,h]
  congr 1
  rw [hv];unfold lastI pe
  rw [show n.toNat=x.l.length - 1 by omega];rfl
theorem form_fin {p:List (Fat Int)} {q:List (Fat DThing)} {k:Int} {m:List (Int × Bool)} (h1:p.length≠0) (h2:p.length≤64) (h3:q.length=p.length) (hr:∀ i,i < k.toNat→row (ls p) (ls q) i) (hk:k.toNat=p.length) (hm:m=endm ((ls p).take k.toNat)):(m.length:Int)=p.length↔Form (ls p) (ls q):=by
  have e:(ls p).take k.toNat=ls p:=List.take_of_length_le (by simp;omega)
  rw [e] at hm
  have hh:=(endm_len (ls p)).2
  rw [ls_length] at hh
  unfold Form
  rw [hm,ls_length,ls_length]
  constructor
  · intro h;exact ⟨h1,h2,h3,fun i hi=>hr i (by omega),hh.1 (by omega)⟩
  · rintro ⟨_,_,_,_,h⟩;have:=hh.2 h;omega
def restV (P:List (List Int)) (S:List (List DThing)):Int:=if restB P S then restT S else 0
theorem form_lst {P:List (List Int)} {S:List (List DThing)} (f:Form P S) {i:Nat} (hi:i < S.length):(sl S i).length≠0∧Bd (lst (sl S i))∧Bd (te (sl S i) 0):=by
  have h:=(f.2.2.2.1 i (by have:=f.2.2.1;omega)).1
  refine ⟨by rw [h.2.1];exact h.1,?_,h.2.2.2.1⟩
  have:=h.2.2.2.2.1
  unfold lst;rw [h.2.1];exact this
theorem opn_step {q:List (Fat DThing)} {k n:Int} {x:Fat DThing} {y:DThing} (h0:0≤k) (hk:k < q.length) (hx:x=q.getD k.toNat default) (hn:n=x.l.length - 1) (hy:y=x.l.getD n.toNat default):opn (ls q) (k+1).toNat=opn (ls q) k.toNat+y.Value:=by
  unfold opn
  rw [show (k+1).toNat=k.toNat+1 by omega]
  have hk':k.toNat < (ls q).length:=by simp;omega
  rw [List.take_add_one,List.getElem?_eq_getElem hk',List.map_append,List.sum_append]
  have e:(ls q)[k.toNat]=x.l:=by rw [←sl_ls hx];unfold sl;rw [List.getD_eq_getElem?_getD,List.getElem?_eq_getElem hk'];rfl
  have e2:lst x.l=y:=by rw [hy];unfold lst te;rw [show n.toNat=x.l.length - 1 by omega]
  rw [e]
  simp [e2]
theorem last_bd {P:List (List Int)} {q:List (Fat DThing)} (f:Form P (ls q)) {k n:Int} {x:Fat DThing} {y:DThing} (h0:0≤k) (hk:k < q.length) (hx:x=q.getD k.toNat default) (hn:n=x.l.length - 1) (hy:y=x.l.getD n.toNat default):Bd y:=by
  have h:=(form_lst f (i:=k.toNat) (by simp;omega)).2.1
  rw [sl_ls hx] at h
  have e2:lst x.l=y:=by rw [hy];unfold lst te;rw [show n.toNat=x.l.length - 1 by omega]
  rwa [e2] at h
theorem len_ne {P:List (List Int)} {q:List (Fat DThing)} (f:Form P (ls q)) {k:Int} {x:Fat DThing} (h0:0≤k) (hk:k < q.length) (hx:x=q.getD k.toNat default):x.l.length≠0:=by
  have h:=(form_lst f (i:=k.toNat) (by simp;omega)).1
  rwa [sl_ls hx] at h
theorem form_q {P:List (List Int)} {q:List (Fat DThing)} (f:Form P (ls q)):0 < q.length∧q.length≤64:=by
  have a:=f.1;have b:=f.2.1;have c:=f.2.2.1
  rw [ls_length] at c;omega
theorem rest_eq {q:List (Fat DThing)} {k r:Int} {x:Fat DThing} {y:DThing} (hx:x=q.getD (0:Int).toNat default) (hy:y=x.l.getD (0:Int).toNat default) (hr:r=y.Value - opn (ls q) k.toNat) (hk:k.toNat=q.length):r=restT (ls q):=by
  have e:=sl_ls hx
  rw [show (0:Int).toNat=0 from rfl] at e hy
  unfold restT
  rw [e,hr,hk,ls_length,hy];rfl
theorem restV_no {P:List (List Int)} {S:List (List DThing)} (h:¬ restB P S):restV P S=0:=by unfold restV;rw [if_neg h]
theorem restV_yes {P:List (List Int)} {S:List (List DThing)} (h:restB P S):restV P S=restT S:=by unfold restV;rw [if_pos h]
theorem check_step {v:List DThing} {p:List (Fat Int)} {q:List (Fat DThing)} {k:Int} {x:Fat Int} {y:Fat DThing} (h0:0≤k) (h:∀ i,i < k.toNat→viewF v (pl (ls p) i)=sl (ls q) i) (hx:x=p.getD k.toNat default) (hy:y=q.getD k.toNat default) (e:viewF v x.l=y.l):∀ i,i < (k+1).toNat→viewF v (pl (ls p) i)=sl (ls q) i:=fun i hi=>by
  by_cases e2:i < k.toNat
  · exact h i e2
  · rw [show i=k.toNat by omega,pl_ls hx,sl_ls hy];exact e
theorem put_1 {h o:TM} {k:Int} {x y:DThing} {b:Bool} (hy:y=(mlook k h).getD default) (hb:b=(mlook k h).isSome) (hq:b=true∧¬ (y.Text=ByteArray.empty∧y.Value=0∧y.Blind=0∧y.Left=x.Left∧y.Right=x.Right)):¬ putB h o k x∧putH h k x=h∧putO h o k x=o:=by
  have hn:¬ okM h k (hx x):=fun hok=>hq.2 (by
    have:=hok (by rw [←hb];exact hq.1)
    rw [←hy] at this;subst this;exact ⟨rfl,rfl,rfl,rfl,rfl⟩)
  have hB:¬ putB h o k x:=fun hh=>hn hh.1
  exact ⟨hB,by unfold putH;rw [if_neg hn],by unfold putO;rw [if_neg fun hh=>hB hh.1]⟩
theorem okM_of {m:TM} {k:Int} {x y:DThing} {b:Bool} (hy:y=(mlook k m).getD default) (hb:b=(mlook k m).isSome) (hq:b=false∨(y.Text=x.Text∧y.Value=x.Value∧y.Blind=x.Blind∧y.Left=x.Left∧y.Right=x.Right)):okM m k x:=fun hs=>by
  rcases hq with hq | hq
  · rw [←hb,hq] at hs;cases hs
  · rw [←hy];exact (thing_ext _ _).2 hq
theorem put_2 {h o:TM} {k:Int} {x y:DThing} {b:Bool} (hy:y=(mlook k h).getD default) (hb:b=(mlook k h).isSome) (hq:b=false∨(y.Text=ByteArray.empty∧y.Value=0∧y.Blind=0∧y.Left=x.Left∧y.Right=x.Right)):okM h k (hx x)∧putH h k x=mupd k (hx x) h:=by
  have hok:okM h k (hx x):=okM_of hy hb hq
  exact ⟨hok,by unfold putH;rw [if_pos hok]⟩
theorem put_3 {h o:TM} {k:Int} {x:DThing} (hok:okM h k (hx x)) (hv:x.Value= -1):putB h o k x∧putO h o k x=o :=
  ⟨⟨hok,.inl hv⟩,by unfold putO;rw [if_neg fun hh=>hh.2 hv]⟩
theorem put_4 {h o:TM} {k:Int} {x y:DThing} {b:Bool} (hok:okM h k (hx x)) (hv:¬ x.Value= -1) (hy:y=(mlook k o).getD default) (hb:b=(mlook k o).isSome) (hq:b=true∧¬ (y.Text=x.Text∧y.Value=x.Value∧y.Blind=x.Blind∧y.Left=x.Left∧y.Right=x.Right)):¬ putB h o k x∧putO h o k x=o:=by
  have hB:¬ putB h o k x:=fun hh=>by
    rcases hh.2 with h2 | h2
    · exact hv h2
    · refine hq.2 ?_
      have:=h2 (by rw [←hb];exact hq.1)
      rw [←hy] at this;subst this;exact ⟨rfl,rfl,rfl,rfl,rfl⟩
  exact ⟨hB,by unfold putO;rw [if_neg fun hh=>hB hh.1]⟩
theorem put_5 {h o:TM} {k:Int} {x y:DThing} {b:Bool} (hok:okM h k (hx x)) (hv:¬ x.Value= -1) (hy:y=(mlook k o).getD default) (hb:b=(mlook k o).isSome) (hq:b=false∨(y.Text=x.Text∧y.Value=x.Value∧y.Blind=x.Blind∧y.Left=x.Left∧y.Right=x.Right)):putB h o k x∧putO h o k x=mupd k x o:=by
  have hB:putB h o k x:=⟨hok,.inr (okM_of hy hb hq)⟩
  exact ⟨hB,by unfold putO;rw [if_pos ⟨hB,hv⟩]⟩
def cat {α:Type} (l:List (Fat (Fat α))):List (Fat α):=(l.map (·.l)).flatten
theorem cat2 {α:Type} (a b:List (Fat α)) (s t:SV):cat [⟨a,s⟩,⟨b,t⟩]=a ++b:=by simp [cat]
theorem cat_step {α:Type} [Dat α] {l:List (Fat (Fat α))} {k:Int} {m m2:List (Fat α)} {x:Fat (Fat α)} (h0:0≤k) (hk:k < l.length) (h:m=cat (l.take k.toNat)) (hx:x=l.getD k.toNat default) (h2:m2=m ++x.l):m2=cat (l.take (k+1).toNat):=by
  rw [show (k+1).toNat=k.toNat+1 by omega]
  have hk':k.toNat < l.length:=by omega
  have e:l[k.toNat]=x:=by rw [hx,List.getD_eq_getElem?_getD,List.getElem?_eq_getElem hk'];rfl
  rw [h2,h,List.take_add_one,List.getElem?_eq_getElem hk',e]
  simp [cat]
theorem runs_snoc (l:List (Int × DThing)) (e:Int × DThing):runs (l ++[e])=(runs l).bind fun s=>put1 s e:=by
  unfold runs;rw [List.foldl_append];rfl
theorem runs_none {l:List (Int × DThing)} (h:runs l=none) (m:List (Int × DThing)):runs (l ++m)=none:=by
  refine snoc_ind (motive:=fun m=>runs (l ++m)=none) (by simpa using h) (fun m a ih=>?_) m
  rw [←List.append_assoc,runs_snoc,ih];rfl
theorem zip_take {α β:Type} [Inhabited α] [Inhabited β] {l:List α} {m:List β} (h:m.length=l.length) {k:Nat} (hk:k < l.length):(l.zip m).take (k+1)=(l.zip m).take k ++[(l.getD k default,m.getD k default)]:=by
  have hz:k < (l.zip m).length:=by rw [List.length_zip];omega
  rw [List.take_add_one,List.getElem?_eq_getElem hz]
  congr 1
  have hm:k < m.length:=by omega
  simp [List.getD_eq_getElem?_getD,hk,hm]
theorem take_zip' {α β:Type} (l:List α) (m:List β) (n:Nat):(l.zip m).take n=(l.take n).zip (m.take n):=by
  rw [List.zip_eq_zipWith,List.zip_eq_zipWith,List.take_zipWith]
theorem drop_zip' {α β:Type} (l:List α) (m:List β) (n:Nat):(l.zip m).drop n=(l.drop n).zip (m.drop n):=by
  rw [List.zip_eq_zipWith,List.zip_eq_zipWith,List.drop_zipWith]
theorem flat_take {P:List (List Int)} {S:List (List DThing)} (h:S.length=P.length) {k:Nat} (hk:k < P.length):flat (P.take (k+1)) (S.take (k+1))=flat (P.take k) (S.take k) ++(pl P k).zip (sl S k):=by
  unfold flat
  rw [←take_zip',← take_zip',zip_take h hk,List.flatMap_append]
  simp;rfl
theorem flat_more {P:List (List Int)} {S:List (List DThing)} (h:S.length=P.length) {k:Nat} (hk:k < P.length) (j:Nat):∃ m,flat P S=flat (P.take k) (S.take k) ++((pl P k).zip (sl S k)).take j ++m:=by
  have e1:flat P S=flat (P.take (k+1)) (S.take (k+1)) ++flat (P.drop (k+1)) (S.drop (k+1)):=by
    unfold flat
    rw [←List.flatMap_append,← take_zip',← drop_zip',List.take_append_drop]
  refine ⟨((pl P k).zip (sl S k)).drop j ++flat (P.drop (k+1)) (S.drop (k+1)),?_⟩
  rw [e1,flat_take h hk]
  simp only [List.append_assoc]
  congr 1
  rw [←List.append_assoc,List.take_append_drop]
theorem ls_append {α:Type} (a b:List (Fat α)):ls (a ++b)=ls a ++ls b:=by simp [ls]
section
variable {p p' : List (Fat Int)} {q q' : List (Fat DThing)}
theorem agree_len {s s' t t':SV} (h1:Form (ls p) (ls q)) (h2:Form (ls p') (ls q')):(cat [⟨q,s⟩,⟨q',s'⟩]).length=(cat [⟨p,t⟩,⟨p',t'⟩]).length∧(cat [⟨p,t⟩,⟨p',t'⟩]).length≤128∧∀ i,i < (cat [⟨p,t⟩,⟨p',t'⟩]).length→((cat [⟨q,s⟩,⟨q',s'⟩]).getD i default).l.length=((cat [⟨p,t⟩,⟨p',t'⟩]).getD i default).l.length:=by
  rw [cat2,cat2]
  have a1:=h1.2.2.1;have a2:=h2.2.2.1;have b1:=h1.2.1;have b2:=h2.2.1
  rw [ls_length,ls_length] at a1 a2;rw [ls_length] at b1 b2
  refine ⟨by simp;omega,by simp;omega,fun i hi=>?_⟩
  have row:∀ {p:List (Fat Int)} {q:List (Fat DThing)},Form (ls p) (ls q)→∀ j,j < p.length→(q.getD j default).l.length=(p.getD j default).l.length:=fun {p q} h j hj=>by
    have:=(h.2.2.2.1 j (by rw [ls_length];exact hj)).1.2.1
    rw [pl_ls',sl_ls'] at this;exact this
  simp only [List.length_append] at hi
  simp only [List.getD_eq_getElem?_getD] at row ⊢
  by_cases e:i < p.length
  · rw [List.getElem?_append_left e,List.getElem?_append_left (by omega)];exact row h1 i e
  · rw [List.getElem?_append_right (by omega),List.getElem?_append_right (by omega),a1];exact row h2 _ (by omega)
end
section
variable {p : List (Fat Int)} {q : List (Fat DThing)} {k j v : Int} {x : Fat Int} {y : Fat DThing} {z : DThing} {h o : TM}
theorem agree_start (e:runs (flat ((ls p).take k.toNat) ((ls q).take k.toNat))=some (h,o)) (m:List (Int × DThing)):runs (flat ((ls p).take k.toNat) ((ls q).take k.toNat) ++m.take (0:Int).toNat)=some (h,o):=by
  simpa using e
theorem agree_next (e:runs (flat ((ls p).take k.toNat) ((ls q).take k.toNat) ++(x.l.zip (sl (ls q) k.toNat)).take j.toNat)=some (h,o)) (h0:0≤k) (hk:k < p.length) (hl:q.length=p.length) (hx:x=p.getD k.toNat default) (hj:j.toNat=x.l.length):runs (flat ((ls p).take (k+1).toNat) ((ls q).take (k+1).toNat))=some (h,o):=by
  rw [show (k+1).toNat=k.toNat+1 by omega,flat_take (by simpa using hl) (by simp;omega),pl_ls hx]
  rwa [List.take_of_length_le (l:=x.l.zip (sl (ls q) k.toNat)) (by rw [List.length_zip];omega)] at e
theorem agree_zip (hl:(sl (ls q) k.toNat).length=x.l.length) (h1:0≤j) (hj:j < x.l.length) (hv:v=x.l.getD j.toNat default) (hy:y=q.getD k.toNat default) (hz:z=y.l.getD j.toNat default):(x.l.zip (sl (ls q) k.toNat)).take (j+1).toNat=(x.l.zip (sl (ls q) k.toNat)).take j.toNat ++[(v,z)]:=by
  rw [show (j+1).toNat=j.toNat+1 by omega,zip_take hl (by omega),hv,hz,sl_ls hy]
theorem agree_put (e:runs (flat ((ls p).take k.toNat) ((ls q).take k.toNat) ++(x.l.zip (sl (ls q) k.toNat)).take j.toNat)=some (h,o)) (hl:(sl (ls q) k.toNat).length=x.l.length) (h1:0≤j) (hj:j < x.l.length) (hv:v=x.l.getD j.toNat default) (hy:y=q.getD k.toNat default) (hz:z=y.l.getD j.toNat default)
    (hp:putB h o v z):runs (flat ((ls p).take k.toNat) ((ls q).take k.toNat) ++(x.l.zip (sl (ls q) k.toNat)).take (j+1).toNat)=some (putH h v z,putO h o v z):=by
  rw [agree_zip hl h1 hj hv hy hz,← List.append_assoc,runs_snoc,e]
  show put1 _ _=_
  unfold put1;rw [if_pos hp]
theorem agree_no (e:runs (flat ((ls p).take k.toNat) ((ls q).take k.toNat) ++(x.l.zip (sl (ls q) k.toNat)).take j.toNat)=some (h,o)) (hl:(sl (ls q) k.toNat).length=x.l.length) (h1:0≤j) (hj:j < x.l.length) (hv:v=x.l.getD j.toNat default) (hy:y=q.getD k.toNat default) (hz:z=y.l.getD j.toNat default)
    (h0:0≤k) (hk:k < p.length) (hx:x=p.getD k.toNat default) (hql:q.length=p.length) (hp:¬ putB h o v z):runs (flat (ls p) (ls q))=none:=by
  obtain ⟨m,hm⟩:=flat_more (P:=ls p) (S:=ls q) (by simpa using hql) (k:=k.toNat) (by simp;omega) (j+1).toNat
  rw [pl_ls hx] at hm
  rw [hm]
  refine runs_none ?_ m
  rw [agree_zip hl h1 hj hv hy hz,← List.append_assoc,runs_snoc,e]
  show put1 _ _=_
  unfold put1;rw [if_neg hp]
end
theorem agree_iff {p p':List (Fat Int)} {q q':List (Fat DThing)} {s s' t t':SV} (h1:Form (ls p) (ls q)) (h2:Form (ls p') (ls q')):AgreeP (ls p) (ls q) (ls p') (ls q')↔(runs (flat (ls (cat [⟨p,t⟩,⟨p',t'⟩])) (ls (cat [⟨q,s⟩,⟨q',s'⟩])))).isSome=true:=by
  rw [cat2,cat2,ls_append,ls_append]
  exact ⟨fun h=>h.2.2,fun h=>⟨h1,h2,h⟩⟩
end Rv

open Go Go.Proofs
set_option maxRecDepth 10000 in
theorem index_ct (s:List Int) (ss:SV) (v:Int) :
    Cp Try.prog 97 #[ss.v,iv v] [fs true s ss] (iv (Rv.idx v s)):=by
  refine V.fn mo Try.func97 19 0 (by kernel_rfl) fun w H ε k0=>?_;obtain ⟨⟨kl1, -⟩, -⟩:Lq s ss.v∧True:=kq k0
  clear k0;refine V.g [.k (iv 0)] fun _ _ G1=>?_;intro S_ s_
  refine V.g [.k (ss.v),.ln (kf false (.f 0) s (fun _=>ss)),.k (iv 0)] fun _ _ G2=>?_;intro S_ s_
  refine V.loop (γ:=Int) (fun k0=>⟨[(0,ss.v),(1,iv v),(7,iv (s.length:Int)),(8,iv k0)],[fs false s ss],[]⟩) (fun k0=>(0≤k0)∧(k0≤(s.length:Int))∧(∀ i,i < k0.toNat→s.getD i default≠v)) (fun k0=>((s.length:Int)-k0).toNat) 0 (by kernel_rfl) [0] (by kernel_rfl) ?_ ?_
  · refine ⟨?_,?_,?_⟩
    · show 0≤(0:Int)
      first | omega | rfl | (simp;done) | (subst_vars;simp;done)
    · show (0:Int)≤(s.length:Int)
      first | omega | rfl | (simp;done) | (subst_vars;simp;done)
    show ∀ i,i < (0:Int).toNat→s.getD i default≠v;intro i hi;simp at hi
  rintro k0 hF1 kw3 Z1 hZ1;have hF1:(0≤k0)∧(k0≤(s.length:Int))∧(∀ i,i < k0.toNat→s.getD i default≠v):=hF1;obtain ⟨hf1,hf2,hf3⟩:=hF1;clear kw3;refine V.g [.k (bv (decide (k0 < (s.length:Int))))] fun _ _ G3=>?_;intro S_ s_;refine V.cn (b:=decide (k0 < (s.length:Int))) iDT iDF (fun q1=>?_) (fun q2=>?_)
  · refine V.g [.k (iv k0),.k (iv k0)] fun _ _ G4=>?_;intro S_ s_
    refine nm (s.getD k0.toNat default:Int) fun v1 hv1=>?_;refine V.g [.k (iv v),.k (ss.v),.k (iv k0),.ix g0 (kf false (.f 0) s (fun _=>ss)) k0 (fun _=>⟨by omega,by omega⟩),.le g0 (kf false (.f 0) s (fun _=>ss)) k0 none false v1 hv1 (fun _=>⟨by omega,by omega⟩) false (fun _=>[iv v1]),.k (bv (decide (v=v1)))] fun _ _ G5=>?_;intro S_ s_
    refine V.cn (b:=decide (v=v1)) iDT iDF (fun q3=>?_) (fun q4=>?_)
    · refine V.g [.k (iv k0),.k (iv k0)] fun _ _ G6=>?_;intro S_ s_
      have e0:k0=Rv.idx v s:=by rw [Rv.idx_at (k:=k0.toNat) (by omega) hf3 (by rw [←hv1];exact q3.symm)];omega
      exact V.rt [0] [] [] [] [] [] (iv k0) (cong1 (fun (x0:Int)=>(iv x0:Value)) e0)
    refine V.g [.a (k0+1) (by omega) (by omega),.k (iv (k0+1))] fun _ _ G7=>?_;intro S_ s_
    refine V.rnd hZ1 (k0+1) [0] (by kernel_rfl) ?_ ?_
    · refine ⟨?_,?_,?_⟩
      · show 0≤(k0+1)
        first | omega | rfl | (simp;done) | (subst_vars;simp;done)
      · show (k0+1)≤(s.length:Int)
        first | omega | rfl | (simp;done) | (subst_vars;simp;done)
      show ∀ i,i < (k0+1).toNat→s.getD i default≠v;intro i hi;by_cases e:i < k0.toNat
      · exact hf3 i e
      rw [show i=k0.toNat by omega,← hv1];exact fun e=>q4 e.symm
    show ((s.length:Int)-(k0+1)).toNat < ((s.length:Int)-k0).toNat;omega
  refine V.g [.k (iv (-1))] fun _ _ G8=>?_;intro S_ s_
  have e0:(-1:Int)=Rv.idx v s:=(Rv.idx_no fun i hi=>hf3 i (by omega)).symm;exact V.rt [0] [] [] [] [] [] (iv (-1)) (cong1 (fun (x0:Int)=>(iv x0:Value)) e0)
set_option maxRecDepth 10000 in
theorem contains_ct (s:List Int) (ss:SV) (v:Int) :
    Cp Try.prog 73 #[ss.v,iv v] [fs true s ss] (bv (decide (v ∈ s))):=by
  refine V.fn mo Try.func73 9 0 (by kernel_rfl) fun w H ε k0=>?_;obtain ⟨⟨kl1, -⟩, -⟩:Lq s ss.v∧True:=kq k0
  clear k0;refine V.g [.kb false] fun _ _ G1=>?_;intro S_ s_
  refine V.g [.k (ss.v),.k (iv v),.cp g0 2 97 [(kf false (.f 0) s (fun _=>ss)).a] (fun _ G=>index_ct s ss v),.k (bv (decide (0≤Rv.idx v s))),.k (bv (decide (0≤Rv.idx v s)))] fun _ _ G2=>?_;intro S_ s_
  have e0:(decide (0≤Rv.idx v s))=decide (v ∈ s):=by
    refine Bool.eq_iff_iff.2 (Iff.trans iDT (Iff.trans ?_ decide_eq_true_iff.symm));exact Rv.idx_mem
  exact V.rt [0] [] [] [] [] [] (bv (decide (0≤Rv.idx v s))) (cong1 (fun (x0:Bool)=>(bv x0:Value)) e0)
set_option maxRecDepth 10000 in
theorem equal_ct (s1:List DThing) (s1s:SV) (s2:List DThing) (s2s:SV) :
    Cp Try.prog 96 #[s1s.v,s2s.v] [fs true s1 s1s,fs true s2 s2s] (bv (decide (s1=s2))):=by
  refine V.fn mo Try.func96 26 0 (by kernel_rfl) fun w H ε k0=>?_;obtain ⟨⟨kl1, -⟩,⟨kl2, -⟩, -⟩:Lq s1 s1s.v∧Lq s2 s2s.v∧True:=kq k0
  clear k0;refine V.g [.kb false] fun _ _ G1=>?_;intro S s
  refine V.g [.k (s1s.v),.ln (kf false (.f 0) s1 (fun _=>s1s)),.k (s2s.v),.ln (kf false (.f 1) s2 (fun _=>s2s)),.k (bv (!(decide ((s1.length:Int)=(s2.length:Int)))))] fun _ _ G2=>?_;intro S s
  refine V.cn (b:=!(decide ((s1.length:Int)=(s2.length:Int)))) (iNT iDF) (iNF iDT) (fun q1=>?_) (fun q2=>?_)
  · refine V.g [.kb false] fun _ _ G3=>?_;intro S s
    have e0:false=decide (s1=s2):=by symm;rw [decide_eq_false_iff_not];intro h;apply q1;rw [h]
    exact V.rt [0] [] [] [] [] [] (bv false) (cong1 (fun (x0:Bool)=>(bv x0:Value)) e0)
  refine V.g [.k (s1s.v),.ln (kf false (.f 0) s1 (fun _=>s1s)),.k (iv 0)] fun _ _ G4=>?_;intro S s
  refine V.loop (γ:=Int) (fun k0=>⟨[(0,s1s.v),(1,s2s.v),(12,iv (s1.length:Int)),(13,iv k0)],[fs false s1 s1s,fs false s2 s2s],[]⟩) (fun k0=>(0≤k0)∧(k0≤(s1.length:Int))∧(∀ i,i < k0.toNat→s1.getD i default=s2.getD i default)) (fun k0=>((s1.length:Int)-k0).toNat) 0 (by kernel_rfl) [0,1] (by kernel_rfl) ?_ ?_
  · refine ⟨?_,?_,?_⟩
    · show 0≤(0:Int)
      first | omega | rfl | (simp;done) | (subst_vars;simp;done)
    · show (0:Int)≤(s1.length:Int)
      first | omega | rfl | (simp;done) | (subst_vars;simp;done)
    show ∀ i,i < (0:Int).toNat→s1.getD i default=s2.getD i default;intro i hi;simp at hi
  rintro k0 hF1 kw5 Z1 hZ1;have hF1:(0≤k0)∧(k0≤(s1.length:Int))∧(∀ i,i < k0.toNat→s1.getD i default=s2.getD i default):=hF1;obtain ⟨hf1,hf2,hf3⟩:=hF1;clear kw5;refine V.g [.k (bv (decide (k0 < (s1.length:Int))))] fun _ _ G5=>?_;intro S s;refine V.cn (b:=decide (k0 < (s1.length:Int))) iDT iDF (fun q3=>?_) (fun q4=>?_)
  · refine V.g [.k (iv k0),.k (iv k0)] fun _ _ G6=>?_;intro S s
    refine nm (s1.getD k0.toNat default:DThing) fun x1 hx1=>?_;refine nm (s2.getD k0.toNat default:DThing) fun x2 hx2=>?_;refine V.g [.k (s1s.v),.k (iv k0),.ix g0 (kf false (.f 0) s1 (fun _=>s1s)) k0 (fun _=>⟨by omega,by omega⟩),.le g0 (kf false (.f 0) s1 (fun _=>s1s)) k0 none false x1 hx1 (fun _=>⟨by omega,by omega⟩) true (fun _=>Dat.cells x1),.k (s2s.v),.k (iv k0),.ix g0 (kf false (.f 1) s2 (fun _=>s2s)) k0 (fun _=>⟨by omega,by omega⟩),.le g0 (kf false (.f 1) s2 (fun _=>s2s)) k0 none false x2 hx2 (fun _=>⟨by omega,by omega⟩) true (fun _=>Dat.cells x2),.aeq true 88 (ca x1) (ca x2) _ fun w=>thing_equal w x1.Text x1.Value x1.Blind x1.Left x1.Right x2.Text x2.Value x2.Blind x2.Left x2.Right] fun _ _ G7=>?_;intro S s
    refine V.cn (b:=!(decide (x1.Text=x2.Text∧x1.Value=x2.Value∧x1.Blind=x2.Blind∧x1.Left=x2.Left∧x1.Right=x2.Right))) (iNT iDF) (iNF iDT) (fun q5=>?_) (fun q6=>?_)
    · refine V.g [.kb false] fun _ _ G8=>?_;intro S s
      have e0:false=decide (s1=s2):=by
        symm;rw [decide_eq_false_iff_not];intro h;apply q5
        rw [←Tm.thing_ext,hx1,hx2,h]
      exact V.rt [0] [] [] [] [] [] (bv false) (cong1 (fun (x0:Bool)=>(bv x0:Value)) e0)
    refine V.g [.a (k0+1) (by omega) (by omega),.k (iv (k0+1))] fun _ _ G9=>?_;intro S s
    refine V.rnd hZ1 (k0+1) [0,1] (by kernel_rfl) ?_ ?_
    · refine ⟨?_,?_,?_⟩
      · show 0≤(k0+1)
        first | omega | rfl | (simp;done) | (subst_vars;simp;done)
      · show (k0+1)≤(s1.length:Int)
        first | omega | rfl | (simp;done) | (subst_vars;simp;done)
      show ∀ i,i < (k0+1).toNat→s1.getD i default=s2.getD i default;intro i hi;by_cases e:i < k0.toNat
      · exact hf3 i e
      rw [show i=k0.toNat by omega,← hx1,← hx2];exact (Tm.thing_ext _ _).2 q6
    show ((s1.length:Int)-(k0+1)).toNat < ((s1.length:Int)-k0).toNat;omega
  refine V.g [.kb true] fun _ _ G10=>?_;intro S s
  have e0:true=decide (s1=s2):=by symm;rw [decide_eq_true_iff];exact Rv.eq_of_getD (by omega) fun i hi=>hf3 i (by omega)
  exact V.rt [0] [] [] [] [] [] (bv true) (cong1 (fun (x0:Bool)=>(bv x0:Value)) e0)
set_option maxRecDepth 10000 in
theorem hidden_ct (d:ByteArray) (a c e f:Int) :
    Cp Try.prog 108 #[ag (DThing.mk d a c e f)] [] (bv (decide (a= -1∧c= -1))):=by
  refine V.fn mo Try.func108 11 1 (by kernel_rfl) fun w H ε k0=>?_;clear k0
  refine V.g [.nb 0 0 (fun b=>pp b 0) 88 (fun _=>ca (DThing.mk d a c e f)),.kb false] fun _ _ G1=>?_;intro S s
  refine nm ((decide (a=(-1))) && (decide (c=(-1))):Bool) fun p1 hp1=>?_;refine V.g [.k (pp ((G1 0).b) 1),.ld 0 1 false (fun _=>[iv a]),.k (bv (decide (a=(-1)))),.k (bv (decide (a=(-1)))),.k (pp ((G1 0).b) 2),.ld 0 2 false (fun _=>[iv c]),.k (bv (decide (c=(-1)))),.andn g0 false (decide (a=(-1))) (decide (c=(-1))) p1 hp1,.k (bv p1)] fun _ _ G2=>?_;intro S s
  have e0:p1=decide (a= -1∧c= -1):=by
    refine Bool.eq_iff_iff.2 (Iff.trans (iN hp1 (iAT iDT iDT)) (Iff.trans ?_ decide_eq_true_iff.symm));exact Iff.rfl
  exact V.rt [0] [] [] [] [] [] (bv p1) (cong1 (fun (x0:Bool)=>(bv x0:Value)) e0)
set_option maxRecDepth 10000 in
theorem opened_ct (d:ByteArray) (c a e f:Int) :
    Cp Try.prog 109 #[ag (DThing.mk d c a e f)] [] (bv (decide (Tm.Bd ⟨d,c,a,e,f⟩))):=by
  refine V.fn mo Try.func109 21 1 (by kernel_rfl) fun w H ε k0=>?_;clear k0
  refine V.g [.nb 0 0 (fun b=>pp b 0) 88 (fun _=>ca (DThing.mk d c a e f)),.kb false] fun _ _ G1=>?_;intro S s
  refine nm ((decide (0≤c)) && (decide (c≤1125899906842624)):Bool) fun p1 hp1=>?_;refine nm ((p1 && (decide (0≤a))) && (decide (a≤1125899906842624)):Bool) fun p2 hp2=>?_;refine V.g [.k (pp ((G1 0).b) 1),.ld 0 1 false (fun _=>[iv c]),.k (bv (decide (0≤c))),.k (bv (decide (0≤c))),.k (pp ((G1 0).b) 1),.ld 0 1 false (fun _=>[iv c]),.k (bv (decide (c≤1125899906842624))),.andn g0 false (decide (0≤c)) (decide (c≤1125899906842624)) p1 hp1,.k (bv p1),.k (pp ((G1 0).b) 2),.ld 0 2 false (fun _=>[iv a]),.k (bv (decide (0≤a))),.and g0 false p1 (decide (0≤a)),.k (bv (p1 && (decide (0≤a)))),.k (pp ((G1 0).b) 2),.ld 0 2 false (fun _=>[iv a]),.k (bv (decide (a≤1125899906842624))),.andn g0 false (p1 && (decide (0≤a))) (decide (a≤1125899906842624)) p2 hp2,.k (bv p2)] fun _ _ G2=>?_;intro S s
  have e0:p2=decide (Tm.Bd ⟨d,c,a,e,f⟩):=by
    refine Bool.eq_iff_iff.2 (Iff.trans (iN hp2 (iAT (iAT (iN hp1 (iAT iDT iDT)) iDT) iDT)) (Iff.trans ?_ decide_eq_true_iff.symm));simp only [Tm.Bd];omega
  exact V.rt [0] [] [] [] [] [] (bv p2) (cong1 (fun (x0:Bool)=>(bv x0:Value)) e0)
set_option maxRecDepth 10000 in
theorem walk_ct (path:List Int) (paths:SV) (seen:List DThing) (seens:SV) :
    Cp Try.prog 98 #[paths.v,seens.v] [fs true path paths,fs true seen seens] (bv (decide (Rv.walk path seen))):=by
  refine V.fn mo Try.func98 89 2 (by kernel_rfl) fun w H ε k0=>?_;obtain ⟨⟨kl1, -⟩,⟨kl2, -⟩, -⟩:Lq path paths.v∧Lq seen seens.v∧True:=kq k0
  clear k0;refine V.g [.kb false] fun _ _ G1=>?_;intro S s
  refine V.g [.k (paths.v),.ln (kf false (.f 0) path (fun _=>paths)),.k (iv (path.length:Int))] fun _ _ G2=>?_;intro S s
  refine nm ((decide ((path.length:Int)=0)) || (!(decide ((seen.length:Int)=(path.length:Int)))):Bool) fun p1 hp1=>?_;refine V.g [.k (iv (path.length:Int)),.k (bv (decide ((path.length:Int)=0))),.k (bv (decide ((path.length:Int)=0))),.k (seens.v),.ln (kf false (.f 1) seen (fun _=>seens)),.k (iv (path.length:Int)),.k (bv (!(decide ((seen.length:Int)=(path.length:Int))))),.orn g0 false (decide ((path.length:Int)=0)) (!(decide ((seen.length:Int)=(path.length:Int)))) p1 hp1] fun _ _ G3=>?_;intro S s
  refine V.cn (b:=p1) (iN hp1 (iOT iDT (iNT iDF))) (iN hp1 (iOF iDF (iNF iDT))) (fun q1=>?_) (fun q2=>?_)
  · refine V.g [.kb false] fun _ _ G4=>?_;intro S s
    have e0:false=decide (Rv.walk path seen):=by
      symm;rw [decide_eq_false_iff_not]
      rintro ⟨h1,h2,_⟩;omega
    exact V.rt [0] [] [] [] [] [] (bv false) (cong1 (fun (x0:Bool)=>(bv x0:Value)) e0)
  refine nm ((path.length:Int)-1:Int) fun n1 hn1=>?_;refine nm (seen.take n1.toNat:List DThing) fun l1 hl1=>?_;have hl1n:=congrArg List.length hl1;try simp only [List.length_append,List.length_cons,List.length_nil,List.length_replicate,List.length_set,List.length_take,List.length_drop,List.length_map,List.length_reverse,List.length_range] at hl1n
  refine V.r [.k (seens.v),.k (iv (path.length:Int)),.ar ((path.length:Int)-1) n1 hn1 (by omega) (by omega),.sl g0 (kf false (.f 1) seen (fun _=>seens)) rfl none (some n1) 0 n1 rfl rfl l1 (by rw [hl1];simp) (fun _=>⟨by omega,by omega,by omega⟩),.ln (kf false (.g 3 0) l1 (fun _=>(seens.sub 5 (0:Int).toNat n1.toNat))),.k (iv 0)] fun _ _ G5 kw5=>?_;intro S s
  obtain ⟨⟨kl3, -⟩, -⟩:Lq l1 ((seens.sub 5 (0:Int).toNat n1.toNat).v)∧True:=kq kw5;clear kw5;refine V.loop (γ:=Int) (fun k0=>⟨[(0,paths.v),(1,seens.v),(5,iv (path.length:Int)),(23,(seens.sub 5 (0:Int).toNat n1.toNat).v),(24,iv (l1.length:Int)),(25,iv k0)],[fs false path paths,fs false seen seens,fs false l1 (seens.sub 5 (0:Int).toNat n1.toNat)],[.no,.no]⟩) (fun k0=>(0≤k0)∧(k0≤(l1.length:Int))∧(∀ i,i < k0.toNat→Rv.mid path seen i)) (fun k0=>((l1.length:Int)-k0).toNat) 0 (by kernel_rfl) [0,1,2] (by kernel_rfl) ?_ ?_
  · refine ⟨?_,?_,?_⟩
    · show 0≤(0:Int)
      first | omega | rfl | (simp;done) | (subst_vars;simp;done)
    · show (0:Int)≤(l1.length:Int)
      first | omega | rfl | (simp;done) | (subst_vars;simp;done)
    show ∀ i,i < (0:Int).toNat→Rv.mid path seen i;intro i hi;simp at hi
  rintro k0 hF1 kw6 Z1 hZ1;have hF1:(0≤k0)∧(k0≤(l1.length:Int))∧(∀ i,i < k0.toNat→Rv.mid path seen i):=hF1;obtain ⟨hf1,hf2,hf3⟩:=hF1;clear kw6;refine V.g [.k (bv (decide (k0 < (l1.length:Int))))] fun _ _ G6=>?_;intro S s;refine V.cn (b:=decide (k0 < (l1.length:Int))) iDT iDF (fun q3=>?_) (fun q4=>?_)
  · refine nm (l1.getD k0.toNat default:DThing) fun x1 hx1=>?_;refine V.g [.k (iv k0),.ix g0 (kf false (.f 2) l1 (fun _=>(seens.sub 5 (0:Int).toNat n1.toNat))) k0 (fun _=>⟨by omega,by omega⟩),.le g0 (kf false (.f 2) l1 (fun _=>(seens.sub 5 (0:Int).toNat n1.toNat))) k0 none false x1 hx1 (fun _=>⟨by omega,by omega⟩) true (fun _=>Dat.cells x1),.nb 3 0 (fun b=>pp b 0) 88 (fun _=>ca (DThing.mk ByteArray.empty 0 0 0 0)),.k (iv k0),.st 0 (fun G=>.blk ((G 3).b) (ca x1) 88)] fun _ _ G7=>?_;intro S s
    refine nm (path.getD (k0+1).toNat default:Int) fun v1 hv1=>?_;refine V.g [.k (paths.v),.k (iv k0),.a (k0+1) (by omega) (by omega),.ix g0 (kf false (.f 0) path (fun _=>paths)) (k0+1) (fun _=>⟨by omega,by omega⟩),.le g0 (kf false (.f 0) path (fun _=>paths)) (k0+1) none false v1 hv1 (fun _=>⟨by omega,by omega⟩) false (fun _=>[iv v1]),.k (iv v1)] fun _ _ G8=>?_;intro S s
    refine nm ((!(decide (x1.Left=v1))) && (!(decide (x1.Right=v1))):Bool) fun p2 hp2=>?_;refine nm ((decide (0 < k0)) && (!(decide (x1.Value= -1∧x1.Blind= -1))):Bool) fun p3 hp3=>?_;refine nm (((!(decide (x1.Text=ByteArray.empty))) || p2) || p3:Bool) fun p4 hp4=>?_;refine V.g [.k (pp ((G7 3).b) 0),.ld 0 0 false (fun _=>[tv x1.Text]),.sne x1.Text ByteArray.empty,.k (bv (!(decide (x1.Text=ByteArray.empty)))),.k (pp ((G7 3).b) 3),.ld 0 3 false (fun _=>[iv x1.Left]),.k (iv v1),.k (bv (!(decide (x1.Left=v1)))),.k (bv (!(decide (x1.Left=v1)))),.k (pp ((G7 3).b) 4),.ld 0 4 false (fun _=>[iv x1.Right]),.k (iv v1),.k (bv (!(decide (x1.Right=v1)))),.andn (gF (b:=!(decide (x1.Text=ByteArray.empty))) (iNF iDT)) false (!(decide (x1.Left=v1))) (!(decide (x1.Right=v1))) p2 hp2,.or g0 false (!(decide (x1.Text=ByteArray.empty))) p2,.k (bv ((!(decide (x1.Text=ByteArray.empty))) || p2)),.k (iv k0),.k (bv (decide (0 < k0))),.k (bv (decide (0 < k0))),.ld 0 0 true (fun _=>Dat.cells x1),.cp ((gF (b:=(!(decide (x1.Text=ByteArray.empty))) || p2) (iOF (iNF iDT) (iN hp2 (iAF (iNF iDT) (iNF iDT))))).T (b:=decide (0 < k0)) iDT) 20 108 [] (fun hg G=>hidden_ct x1.Text x1.Value x1.Blind x1.Left x1.Right),.k (bv (!(decide (x1.Value= -1∧x1.Blind= -1)))),.andn (gF (b:=(!(decide (x1.Text=ByteArray.empty))) || p2) (iOF (iNF iDT) (iN hp2 (iAF (iNF iDT) (iNF iDT))))) false (decide (0 < k0)) (!(decide (x1.Value= -1∧x1.Blind= -1))) p3 hp3,.orn g0 false ((!(decide (x1.Text=ByteArray.empty))) || p2) p3 p4 hp4] fun _ _ G9=>?_;intro S s
    refine V.cn (b:=p4) (iN hp4 (iOT (iOT (iNT iDF) (iN hp2 (iAT (iNT iDF) (iNT iDF)))) (iN hp3 (iAT iDT (iNT iDF))))) (iN hp4 (iOF (iOF (iNF iDT) (iN hp2 (iAF (iNF iDT) (iNF iDT)))) (iN hp3 (iAF iDF (iNF iDT))))) (fun q5=>?_) (fun q6=>?_)
    · refine V.g [.kb false] fun _ _ G10=>?_;intro S s
      have e0:false=decide (Rv.walk path seen):=by
        symm;rw [decide_eq_false_iff_not]
        exact Rv.walk_no (by omega) (by omega) hl1 hn1 hx1 hv1 q5
      exact V.rt [0] [] [] [] [] [] (bv false) (cong1 (fun (x0:Bool)=>(bv x0:Value)) e0)
    refine V.g [.a (k0+1) (by omega) (by omega),.k (iv (k0+1))] fun _ _ G11=>?_;intro S s
    refine V.rnd hZ1 (k0+1) [0,1,2] (by kernel_rfl) ?_ ?_
    · refine ⟨?_,?_,?_⟩
      · show 0≤(k0+1)
        first | omega | rfl | (simp;done) | (subst_vars;simp;done)
      · show (k0+1)≤(l1.length:Int)
        first | omega | rfl | (simp;done) | (subst_vars;simp;done)
      show ∀ i,i < (k0+1).toNat→Rv.mid path seen i;exact Rv.mid_step hf3 (by omega) (by omega) hl1 hx1 hv1 q6
    show ((l1.length:Int)-(k0+1)).toNat < ((l1.length:Int)-k0).toNat;omega
  refine nm ((path.length:Int)-1:Int) fun n2 hn2=>?_;refine nm (seen.getD n2.toNat default:DThing) fun x2 hx2=>?_;refine V.g [.k (seens.v),.k (iv (path.length:Int)),.ar ((path.length:Int)-1) n2 hn2 (by omega) (by omega),.ix g0 (kf false (.f 1) seen (fun _=>seens)) n2 (fun _=>⟨by omega,by omega⟩),.le g0 (kf false (.f 1) seen (fun _=>seens)) n2 none false x2 hx2 (fun _=>⟨by omega,by omega⟩) true (fun _=>Dat.cells x2),.nb 5 1 (fun b=>pp b 0) 88 (fun _=>ca (DThing.mk ByteArray.empty 0 0 0 0)),.st 1 (fun G=>.blk ((G 5).b) (ca x2) 88)] fun _ _ G12=>?_;intro S s
  refine nm (seen.getD (0:Int).toNat default:DThing) fun x3 hx3=>?_;refine nm ((decide (Tm.Bd ⟨x3.Text,x3.Value,x3.Blind,x3.Left,x3.Right⟩)) && (decide (Tm.Bd ⟨x2.Text,x2.Value,x2.Blind,x2.Left,x2.Right⟩)):Bool) fun p5 hp5=>?_;refine nm ((p5 && (decide (x2.Left=(-1)))) && (decide (x2.Right=(-1))):Bool) fun p6 hp6=>?_;refine V.g [.k (seens.v),.ix g0 (kf false (.f 1) seen (fun _=>seens)) 0 (fun _=>⟨by omega,by omega⟩),.le g0 (kf false (.f 1) seen (fun _=>seens)) (0:Int) none false x3 hx3 (fun _=>⟨by omega,by omega⟩) true (fun _=>Dat.cells x3),.cp g0 3 109 [] (fun _ G=>opened_ct x3.Text x3.Value x3.Blind x3.Left x3.Right),.k (bv (decide (Tm.Bd ⟨x3.Text,x3.Value,x3.Blind,x3.Left,x3.Right⟩))),.ld 1 0 true (fun _=>Dat.cells x2),.cp (gT (b:=decide (Tm.Bd ⟨x3.Text,x3.Value,x3.Blind,x3.Left,x3.Right⟩)) iDT) 6 109 [] (fun hg G=>opened_ct x2.Text x2.Value x2.Blind x2.Left x2.Right),.andn g0 false (decide (Tm.Bd ⟨x3.Text,x3.Value,x3.Blind,x3.Left,x3.Right⟩)) (decide (Tm.Bd ⟨x2.Text,x2.Value,x2.Blind,x2.Left,x2.Right⟩)) p5 hp5,.k (bv p5),.k (pp ((G12 5).b) 3),.ld 1 3 false (fun _=>[iv x2.Left]),.k (bv (decide (x2.Left=(-1)))),.and g0 false p5 (decide (x2.Left=(-1))),.k (bv (p5 && (decide (x2.Left=(-1))))),.k (pp ((G12 5).b) 4),.ld 1 4 false (fun _=>[iv x2.Right]),.k (bv (decide (x2.Right=(-1)))),.andn g0 false (p5 && (decide (x2.Left=(-1)))) (decide (x2.Right=(-1))) p6 hp6,.k (bv p6),.k (pp ((G12 5).b) 0),.ld 1 0 false (fun _=>[tv x2.Text]),.k (iv (x2.Text.size:Int)),.k (bv (decide ((x2.Text.size:Int)≤8000))),.and g0 false p6 (decide ((x2.Text.size:Int)≤8000)),.k (bv (p6 && (decide ((x2.Text.size:Int)≤8000))))] fun _ _ G13=>?_;intro S s
  have e0:(p6 && (decide ((x2.Text.size:Int)≤8000)))=decide (Rv.walk path seen):=by
    refine Bool.eq_iff_iff.2 (Iff.trans (iAT (iN hp6 (iAT (iAT (iN hp5 (iAT iDT iDT)) iDT) iDT)) iDT) (Iff.trans ?_ decide_eq_true_iff.symm));exact (Rv.walk_fin (by omega) (by omega) (fun i hi=>hf3 i (by omega)) hn2 hx2 hx3).symm
  exact V.rt [0] [] [] [] [] [] (bv (p6 && (decide ((x2.Text.size:Int)≤8000)))) (cong1 (fun (x0:Bool)=>(bv x0:Value)) e0)

open Go Go.Proofs
set_option maxRecDepth 10000 in
theorem form_ct (paths:List (Fat Int)) (pathss:SV) (seen:List (Fat DThing)) (seens:SV) :
    Cp Try.prog 74 #[pathss.v,seens.v] [fs true paths pathss,fs true seen seens] (bv (decide (Rv.Form (Rv.ls paths) (Rv.ls seen)))):=by
  refine V.fn mo Try.func74 87 3 (by kernel_rfl) fun w H ε k0=>?_;obtain ⟨⟨kl1, -⟩,⟨kl2, -⟩, -⟩:Lq paths pathss.v∧Lq seen seens.v∧True:=kq k0
  clear k0;refine V.g [.kb false] fun _ _ G1=>?_;intro S_ s_
  refine nm ((decide ((paths.length:Int)=0)) || (decide (64 < (paths.length:Int))):Bool) fun p1 hp1=>?_;refine nm (p1 || (!(decide ((seen.length:Int)=(paths.length:Int)))):Bool) fun p2 hp2=>?_;refine V.g [.k (pathss.v),.ln (kf false (.f 0) paths (fun _=>pathss)),.k (bv (decide ((paths.length:Int)=0))),.k (bv (decide ((paths.length:Int)=0))),.k (pathss.v),.ln (kf false (.f 0) paths (fun _=>pathss)),.k (bv (decide (64 < (paths.length:Int)))),.orn g0 false (decide ((paths.length:Int)=0)) (decide (64 < (paths.length:Int))) p1 hp1,.k (bv p1),.k (seens.v),.ln (kf false (.f 1) seen (fun _=>seens)),.k (pathss.v),.ln (kf false (.f 0) paths (fun _=>pathss)),.k (bv (!(decide ((seen.length:Int)=(paths.length:Int))))),.orn g0 false p1 (!(decide ((seen.length:Int)=(paths.length:Int)))) p2 hp2] fun _ _ G2=>?_;intro S_ s_
  refine V.cn (b:=p2) (iN hp2 (iOT (iN hp1 (iOT iDT iDT)) (iNT iDF))) (iN hp2 (iOF (iN hp1 (iOF iDF iDF)) (iNF iDT))) (fun q1=>?_) (fun q2=>?_)
  · refine V.g [.kb false] fun _ _ G3=>?_;intro S_ s_
    have e0:false=decide (Rv.Form (Rv.ls paths) (Rv.ls seen)):=by
      symm;rw [decide_eq_false_iff_not]
      rintro ⟨h1,h2,h3,_⟩;rw [Rv.ls_length] at h1 h2;rw [Rv.ls_length,Rv.ls_length] at h3;omega
    exact V.rt [0] [] [] [] [] [] (bv false) (cong1 (fun (x0:Bool)=>(bv x0:Value)) e0)
  refine V.g [.mm Int Bool 0 0 false,.v fun G=>.map (some ((G 0).b))] fun _ _ G4=>?_;intro S_ s_
  refine V.g [.k (pathss.v),.ln (kf false (.f 0) paths (fun _=>pathss)),.k (iv 0)] fun _ _ G5=>?_;intro S_ s_
  refine V.loop (γ:=Int × List (Int × Bool)) (fun ⟨k0,m0⟩=>⟨[(0,pathss.v),(1,seens.v),(5,.map (some ((G4 0).b))),(26,pathss.v),(27,iv (paths.length:Int)),(28,iv k0)],[fs false paths pathss,fs false seen seens],[mp true false m0 ((G4 0).b),.no,.no]⟩) (fun ⟨k0,m0⟩=>(0≤k0)∧(k0≤(paths.length:Int))∧(∀ i,i < k0.toNat→Rv.row (Rv.ls paths) (Rv.ls seen) i)∧(m0=Rv.endm ((Rv.ls paths).take k0.toNat))) (fun ⟨k0,m0⟩=>((paths.length:Int)-k0).toNat) (0,([]:List (Int × Bool))) (by kernel_rfl) [0,1] (by kernel_rfl) ?_ ?_
  · refine ⟨?_,?_,?_,?_⟩
    · show 0≤(0:Int)
      first | omega | rfl | (simp;done) | (subst_vars;simp;done)
    · show (0:Int)≤(paths.length:Int)
      first | omega | rfl | (simp;done) | (subst_vars;simp;done)
    · show ∀ i,i < (0:Int).toNat→Rv.row (Rv.ls paths) (Rv.ls seen) i;intro i hi;simp at hi
    show ([]:List (Int × Bool))=Rv.endm ((Rv.ls paths).take (0:Int).toNat)
    first | omega | rfl | (simp;done) | (subst_vars;simp;done)
  rintro ⟨k0,m0⟩ hF1 kw6 Z1 hZ1;have hF1:(0≤k0)∧(k0≤(paths.length:Int))∧(∀ i,i < k0.toNat→Rv.row (Rv.ls paths) (Rv.ls seen) i)∧(m0=Rv.endm ((Rv.ls paths).take k0.toNat)):=hF1;obtain ⟨hf1,hf2,hf3,hf4⟩:=hF1;clear kw6;refine V.g [.k (bv (decide (k0 < (paths.length:Int))))] fun _ _ G6=>?_;intro S_ s_;refine V.cn (b:=decide (k0 < (paths.length:Int))) iDT iDF (fun q3=>?_) (fun q4=>?_)
  · refine nm (paths.getD k0.toNat default:Fat Int) fun x1 hx1=>?_;refine V.r [.k (iv k0),.ix g0 (kf false (.f 0) paths (fun _=>pathss)) k0 (fun _=>⟨by omega,by omega⟩),.le g0 (kf false (.f 0) paths (fun _=>pathss)) k0 none true x1 hx1 (fun _=>⟨by omega,by omega⟩) false (fun _=>[x1.s.v]),.k (iv k0),.k (x1.s.v)] fun _ _ G7 kw8=>?_;intro S_ s_
    obtain ⟨⟨kl3, -⟩, -⟩:Lq x1.l x1.s.v∧True∧True:=kq kw8;clear kw8;refine nm (seen.getD k0.toNat default:Fat DThing) fun x2 hx2=>?_;refine nm (x1.l.getD (0:Int).toNat default:Int) fun v1 hv1=>?_;refine nm (paths.getD (0:Int).toNat default:Fat Int) fun x3 hx3=>?_;refine nm (x3.l.getD (0:Int).toNat default:Int) fun v2 hv2=>?_;refine nm ((!(decide (Rv.walk x1.l x2.l))) || (!(decide (v1=v2))):Bool) fun p3 hp3=>?_;refine V.r [.k (x1.s.v),.k (seens.v),.k (iv k0),.ix g0 (kf false (.f 1) seen (fun _=>seens)) k0 (fun _=>⟨by omega,by omega⟩),.le g0 (kf false (.f 1) seen (fun _=>seens)) k0 none true x2 hx2 (fun _=>⟨by omega,by omega⟩) false (fun _=>[x2.s.v]),.cp g0 5 98 [(kx false (.f 2) x1 x1.l (fun _=>x1.s) (fun _ _ h=>h)).a,(kx false (.g 4 0) x2 x2.l (fun _=>x2.s) (fun _ _ h=>h)).a] (fun _ G=>walk_ct x1.l x1.s x2.l x2.s),.k (bv (!(decide (Rv.walk x1.l x2.l)))),.k (bv (!(decide (Rv.walk x1.l x2.l)))),.k (x1.s.v),.ix (gF (b:=!(decide (Rv.walk x1.l x2.l))) (iNF iDT)) (kx false (.f 2) x1 x1.l (fun _=>x1.s) (fun _ _ h=>h)) 0 (fun hg=>⟨by omega,by have:=hg.1;omega⟩),.le (gF (b:=!(decide (Rv.walk x1.l x2.l))) (iNF iDT)) (kx false (.f 2) x1 x1.l (fun _=>x1.s) (fun _ _ h=>h)) (0:Int) none false v1 hv1 (fun hg=>⟨by omega,by have:=hg.1;omega⟩) false (fun _=>[iv v1]),.k (pathss.v),.ix (gF (b:=!(decide (Rv.walk x1.l x2.l))) (iNF iDT)) (kf false (.f 0) paths (fun _=>pathss)) 0 (fun hg=>⟨by omega,by omega⟩),.le (gF (b:=!(decide (Rv.walk x1.l x2.l))) (iNF iDT)) (kf false (.f 0) paths (fun _=>pathss)) (0:Int) none true x3 hx3 (fun hg=>⟨by omega,by omega⟩) false (fun _=>[x3.s.v]),.ix (gF (b:=!(decide (Rv.walk x1.l x2.l))) (iNF iDT)) (kx false (.g 13 0) x3 x3.l (fun _=>x3.s) (fun _ _ h=>h)) 0 (fun hg=>⟨by omega,by have:=Rv.head_ne (by omega) hf3 hx1 hx2 hg hx3;omega⟩),.le (gF (b:=!(decide (Rv.walk x1.l x2.l))) (iNF iDT)) (kx false (.g 13 0) x3 x3.l (fun _=>x3.s) (fun _ _ h=>h)) (0:Int) none false v2 hv2 (fun hg=>⟨by omega,by have:=Rv.head_ne (by omega) hf3 hx1 hx2 hg hx3;omega⟩) false (fun _=>[iv v2]),.k (bv (!(decide (v1=v2)))),.orn g0 false (!(decide (Rv.walk x1.l x2.l))) (!(decide (v1=v2))) p3 hp3] fun _ _ G8 kw9=>?_;intro S_ s_;obtain ⟨⟨kl4, -⟩, -⟩:Lq x2.l x2.s.v∧True∧True:=kq kw9;clear kw9;refine V.cn (b:=p3) (iN hp3 (iOT (iNT iDF) (iNT iDF))) (iN hp3 (iOF (iNF iDT) (iNF iDT))) (fun q5=>?_) (fun q6=>?_)
    · refine V.g [.kb false] fun _ _ G9=>?_;intro S_ s_
      have e0:false=decide (Rv.Form (Rv.ls paths) (Rv.ls seen)):=by
        symm;rw [decide_eq_false_iff_not]
        refine Rv.form_no (k:=k0.toNat) (by simp;omega) fun hr=>?_;have hr2:=(Rv.row_iff hx1 hx2 hv1 hx3 hv2 rfl rfl rfl).1 hr
        rcases q5 with h | h
        · exact h hr2.1.1
        exact h hr2.1.2
      exact V.rt [0] [] [] [] [] [] (bv false) (cong1 (fun (x0:Bool)=>(bv x0:Value)) e0)
    have hw:=q6.1;have hw1:=hw.1;have hw2:x2.l.length≠0:=by rw [hw.2.1];exact hw.1
    refine nm (seen.getD (0:Int).toNat default:Fat DThing) fun x4 hx4=>?_;refine nm (x4.l.getD (0:Int).toNat default:DThing) fun x5 hx5=>?_;refine nm (x2.l.getD (0:Int).toNat default:DThing) fun x6 hx6=>?_;refine V.r [.k (seens.v),.ix g0 (kf false (.f 1) seen (fun _=>seens)) 0 (fun _=>⟨by omega,by omega⟩),.le g0 (kf false (.f 1) seen (fun _=>seens)) (0:Int) none true x4 hx4 (fun _=>⟨by omega,by omega⟩) false (fun _=>[x4.s.v]),.ix g0 (kx false (.g 2 0) x4 x4.l (fun _=>x4.s) (fun _ _ h=>h)) 0 (fun _=>⟨by omega,by have:=Rv.head_ne2 (by omega) hf3 hx1 hx2 hw hx4;omega⟩),.le g0 (kx false (.g 2 0) x4 x4.l (fun _=>x4.s) (fun _ _ h=>h)) (0:Int) none false x5 hx5 (fun _=>⟨by omega,by have:=Rv.head_ne2 (by omega) hf3 hx1 hx2 hw hx4;omega⟩) true (fun _=>Dat.cells x5),.k (seens.v),.k (iv k0),.ix g0 (kf false (.f 1) seen (fun _=>seens)) k0 (fun _=>⟨by omega,by omega⟩),.le g0 (kf false (.f 1) seen (fun _=>seens)) k0 none true x2 hx2 (fun _=>⟨by omega,by omega⟩) false (fun _=>[x2.s.v]),.ix g0 (kx false (.g 8 0) x2 x2.l (fun _=>x2.s) (fun _ _ h=>h)) 0 (fun _=>⟨by omega,by have:=hw2;omega⟩),.le g0 (kx false (.g 8 0) x2 x2.l (fun _=>x2.s) (fun _ _ h=>h)) (0:Int) none false x6 hx6 (fun _=>⟨by omega,by have:=hw2;omega⟩) true (fun _=>Dat.cells x6),.nb 11 1 (fun b=>pp b 0) 88 (fun _=>ca (DThing.mk ByteArray.empty 0 0 0 0)),.nb 12 2 (fun b=>pp b 0) 88 (fun _=>ca (DThing.mk ByteArray.empty 0 0 0 0)),.st 1 (fun G=>.blk ((G 11).b) (ca x5) 88),.st 2 (fun G=>.blk ((G 12).b) (ca x6) 88)] fun _ _ G10 kw11=>?_;intro S_ s_
    obtain ⟨⟨kl5, -⟩,⟨kl6, -⟩, -⟩:Lq x4.l x4.s.v∧Lq x2.l x2.s.v∧True∧True:=kq kw11;clear kw11;refine nm ((!(decide (x5.Value=x6.Value))) || (!(decide (x5.Blind=x6.Blind))):Bool) fun p4 hp4=>?_;refine V.g [.k (pp ((G10 11).b) 1),.ld 1 1 false (fun _=>[iv x5.Value]),.k (pp ((G10 12).b) 1),.ld 2 1 false (fun _=>[iv x6.Value]),.k (bv (!(decide (x5.Value=x6.Value)))),.k (bv (!(decide (x5.Value=x6.Value)))),.k (pp ((G10 11).b) 2),.ld 1 2 false (fun _=>[iv x5.Blind]),.k (pp ((G10 12).b) 2),.ld 2 2 false (fun _=>[iv x6.Blind]),.k (bv (!(decide (x5.Blind=x6.Blind)))),.orn g0 false (!(decide (x5.Value=x6.Value))) (!(decide (x5.Blind=x6.Blind))) p4 hp4] fun _ _ G11=>?_;intro S_ s_;refine V.cn (b:=p4) (iN hp4 (iOT (iNT iDF) (iNT iDF))) (iN hp4 (iOF (iNF iDT) (iNF iDT))) (fun q7=>?_) (fun q8=>?_)
    · refine V.g [.kb false] fun _ _ G12=>?_;intro S_ s_
      have e0:false=decide (Rv.Form (Rv.ls paths) (Rv.ls seen)):=by
        symm;rw [decide_eq_false_iff_not]
        refine Rv.form_no (k:=k0.toNat) (by simp;omega) fun hr=>?_;have hr2:=(Rv.row_iff hx1 hx2 hv1 hx3 hv2 hx4 hx5 hx6).1 hr
        rcases q7 with h | h
        · exact h hr2.2.1
        exact h hr2.2.2
      exact V.rt [0] [] [] [] [] [] (bv false) (cong1 (fun (x0:Bool)=>(bv x0:Value)) e0)
    refine nm ((x1.l.length:Int)-1:Int) fun n1 hn1=>?_;refine nm (x1.l.getD n1.toNat default:Int) fun v3 hv3=>?_;refine nm (mupd v3 true m0:List (Int × Bool)) fun m1 hm1=>?_;refine V.g [.k (.map (some ((G4 0).b))),.k (x1.s.v),.k (x1.s.v),.ln (kx false (.f 2) x1 x1.l (fun _=>x1.s) (fun _ _ h=>h)),.ar ((x1.l.length:Int)-1) n1 hn1 (by omega) (by omega),.ix g0 (kx false (.f 2) x1 x1.l (fun _=>x1.s) (fun _ _ h=>h)) n1 (fun _=>⟨by omega,by omega⟩),.le g0 (kx false (.f 2) x1 x1.l (fun _=>x1.s) (fun _ _ h=>h)) n1 none false v3 hv3 (fun _=>⟨by omega,by omega⟩) false (fun _=>[iv v3]),.mu 7 0 132 3 4 true false m0 (fun _=>(G4 0).b) v3 true m1 hm1 true (fun _=>rfl) [] (fun _ _ _=>trivial)] fun _ _ G13=>?_;intro S_ s_
    refine V.g [.a (k0+1) (by omega) (by omega),.k (iv (k0+1))] fun _ _ G14=>?_;intro S_ s_
    refine V.rnd hZ1 (k0+1,m1) [0,1] (by kernel_rfl) ?_ ?_
    · refine ⟨?_,?_,?_,?_⟩
      · show 0≤(k0+1)
        first | omega | rfl | (simp;done) | (subst_vars;simp;done)
      · show (k0+1)≤(paths.length:Int)
        first | omega | rfl | (simp;done) | (subst_vars;simp;done)
      · show ∀ i,i < (k0+1).toNat→Rv.row (Rv.ls paths) (Rv.ls seen) i;exact Rv.row_step (by omega) hf3 ((Rv.row_iff hx1 hx2 hv1 hx3 hv2 hx4 hx5 hx6).2 ⟨q6,q8⟩)
      show m1=Rv.endm ((Rv.ls paths).take (k0+1).toNat);exact Rv.endm_step (by omega) (by omega) hf4 hx1 hn1 hw.1 hv3 hm1
    show ((paths.length:Int)-(k0+1)).toNat < ((paths.length:Int)-k0).toNat;omega
  refine V.g [.k (.map (some ((G4 0).b))),.ml 0 132 3 4 true false m0 (fun _=>(G4 0).b),.k (pathss.v),.ln (kf false (.f 0) paths (fun _=>pathss)),.k (bv (decide ((m0.length:Int)=(paths.length:Int)))),.k (bv (decide ((m0.length:Int)=(paths.length:Int))))] fun _ _ G15=>?_;intro S_ s_
  have e0:(decide ((m0.length:Int)=(paths.length:Int)))=decide (Rv.Form (Rv.ls paths) (Rv.ls seen)):=by
    refine Bool.eq_iff_iff.2 (Iff.trans iDT (Iff.trans ?_ decide_eq_true_iff.symm));exact Rv.form_fin (by omega) (by omega) (by omega) hf3 (by omega) hf4
  exact V.rt [0] [] [] [] [] [] (bv (decide ((m0.length:Int)=(paths.length:Int)))) (cong1 (fun (x0:Bool)=>(bv x0:Value)) e0)
set_option maxRecDepth 10000 in
theorem rcheck_ct (v:List DThing) (vs:SV) (paths:List (Fat Int)) (pathss:SV) (seen:List (Fat DThing)) (seens:SV) (hp:∀ x ∈ paths,x.l.length≤5000000000000) :
    Cp Try.prog 72 #[ag (DVault.mk ⟨v,vs⟩),pathss.v,seens.v] [fs true v vs,fs true paths pathss,fs true seen seens] (bv (decide (Rv.CheckP v (Rv.ls paths) (Rv.ls seen)))):=by
  refine V.fn mo Try.func72 30 1 (by kernel_rfl) fun w H ε k0=>?_;obtain ⟨⟨kl1, -⟩,⟨kl2, -⟩,⟨kl3, -⟩, -⟩:Lq v vs.v∧Lq paths pathss.v∧Lq seen seens.v∧True:=kq k0
  clear k0;refine V.g [.nb 0 0 (fun b=>pp b 0) 51 (fun _=>ca (DVault.mk ⟨v,vs⟩)),.kb false] fun _ _ G1=>?_;intro S_ s_
  refine V.g [.k (pathss.v),.k (seens.v),.cp g0 2 74 [(kf false (.f 1) paths (fun _=>pathss)).a,(kf false (.f 2) seen (fun _=>seens)).a] (fun _ G=>form_ct paths pathss seen seens),.k (bv (!(decide (Rv.Form (Rv.ls paths) (Rv.ls seen)))))] fun _ _ G2=>?_;intro S_ s_
  refine V.cn (b:=!(decide (Rv.Form (Rv.ls paths) (Rv.ls seen)))) (iNT iDF) (iNF iDT) (fun q1=>?_) (fun q2=>?_)
  · refine V.g [.kb false] fun _ _ G3=>?_;intro S_ s_
    have e0:false=decide (Rv.CheckP v (Rv.ls paths) (Rv.ls seen)):=by
      symm;rw [decide_eq_false_iff_not]
      exact fun h=>q1 h.1
    exact V.rt [0] [] [] [] [] [] (bv false) (cong1 (fun (x0:Bool)=>(bv x0:Value)) e0)
  have hF:Rv.Form (Rv.ls paths) (Rv.ls seen):=by first | exact q2 | exact Decidable.not_not.1 q2
  have hq1:seen.length=paths.length:=by have:=hF.2.2.1;rwa [Rv.ls_length,Rv.ls_length] at this
  refine V.g [.k (pathss.v),.ln (kf false (.f 1) paths (fun _=>pathss)),.k (iv 0)] fun _ _ G4=>?_;intro S_ s_
  refine V.loop (γ:=Int) (fun k0=>⟨[(2,seens.v),(3,pp ((G1 0).b) 0),(13,pathss.v),(14,iv (paths.length:Int)),(15,iv k0)],[fs false seen seens,fs false paths pathss,fs false v vs],[.blk ((G1 0).b) (ca (DVault.mk ⟨v,vs⟩)) 51]⟩) (fun k0=>(0≤k0)∧(k0≤(paths.length:Int))∧(∀ i,i < k0.toNat→Tm.viewF v (Rv.pl (Rv.ls paths) i)=Rv.sl (Rv.ls seen) i)) (fun k0=>((paths.length:Int)-k0).toNat) 0 (by kernel_rfl) [2,1,0] (by kernel_rfl) ?_ ?_
  · refine ⟨?_,?_,?_⟩
    · show 0≤(0:Int)
      first | omega | rfl | (simp;done) | (subst_vars;simp;done)
    · show (0:Int)≤(paths.length:Int)
      first | omega | rfl | (simp;done) | (subst_vars;simp;done)
    show ∀ i,i < (0:Int).toNat→Tm.viewF v (Rv.pl (Rv.ls paths) i)=Rv.sl (Rv.ls seen) i;intro i hi;simp at hi
  rintro k0 hF1 kw5 Z1 hZ1;have hF1:(0≤k0)∧(k0≤(paths.length:Int))∧(∀ i,i < k0.toNat→Tm.viewF v (Rv.pl (Rv.ls paths) i)=Rv.sl (Rv.ls seen) i):=hF1;obtain ⟨hf1,hf2,hf3⟩:=hF1;clear kw5;refine V.g [.k (bv (decide (k0 < (paths.length:Int))))] fun _ _ G5=>?_;intro S_ s_;refine V.cn (b:=decide (k0 < (paths.length:Int))) iDT iDF (fun q3=>?_) (fun q4=>?_)
  · refine nm (paths.getD k0.toNat default:Fat Int) fun x1 hx1=>?_;refine V.r [.k (iv k0),.ix g0 (kf false (.f 1) paths (fun _=>pathss)) k0 (fun _=>⟨by omega,by omega⟩),.le g0 (kf false (.f 1) paths (fun _=>pathss)) k0 none true x1 hx1 (fun _=>⟨by omega,by omega⟩) false (fun _=>[x1.s.v]),.k (iv k0),.k (x1.s.v)] fun _ _ G6 kw7=>?_;intro S_ s_
    obtain ⟨⟨kl4, -⟩, -⟩:Lq x1.l x1.s.v∧True:=kq kw7;clear kw7;refine nm (seen.getD k0.toNat default:Fat DThing) fun x2 hx2=>?_;refine V.r [.ld 0 0 true (fun _=>Dat.cells (DVault.mk ⟨v,vs⟩)),.k (x1.s.v),.ct g0 2 58 false [] [] [(kf false (.f 2) v (fun _=>vs)).a,(kx false (.f 3) x1 x1.l (fun _=>x1.s) (fun _ _ h=>h)).a] (fun _ G=>view_ct v vs x1.l x1.s (hp _ (getD_mem (by omega) hx1))),.k (seens.v),.k (iv k0),.ix g0 (kf false (.f 0) seen (fun _=>seens)) k0 (fun _=>⟨by omega,by omega⟩),.le g0 (kf false (.f 0) seen (fun _=>seens)) k0 none true x2 hx2 (fun _=>⟨by omega,by omega⟩) false (fun _=>[x2.s.v]),.cp g0 7 96 [(kf true (.g 2 0) (Tm.viewF v x1.l) (fun G=>(G 2).ss 0)).a,(kx false (.g 6 0) x2 x2.l (fun _=>x2.s) (fun _ _ h=>h)).a] (fun _ G=>equal_ct (Tm.viewF v x1.l) ((G 2).ss 0) x2.l x2.s),.k (bv (!(decide ((Tm.viewF v x1.l)=x2.l))))] fun _ _ G7 kw8=>?_;intro S_ s_;obtain ⟨⟨kl5, -⟩,⟨kl6, -⟩, -⟩:Lq (Tm.viewF v x1.l) (((G7 2).ss 0).v)∧Lq x2.l x2.s.v∧True:=kq kw8;clear kw8;refine V.cn (b:=!(decide ((Tm.viewF v x1.l)=x2.l))) (iNT iDF) (iNF iDT) (fun q5=>?_) (fun q6=>?_)
    · refine V.g [.kb false] fun _ _ G8=>?_;intro S_ s_
      have e0:false=decide (Rv.CheckP v (Rv.ls paths) (Rv.ls seen)):=by
        symm;rw [decide_eq_false_iff_not]
        intro h;apply q5;have h2:=h.2 k0.toNat (by simp;omega);rw [Rv.pl_ls hx1,Rv.sl_ls hx2] at h2;exact h2
      exact V.rt [0] [] [] [] [] [] (bv false) (cong1 (fun (x0:Bool)=>(bv x0:Value)) e0)
    refine V.g [.a (k0+1) (by omega) (by omega),.k (iv (k0+1))] fun _ _ G9=>?_;intro S_ s_
    refine V.rnd hZ1 (k0+1) [0,1,2] (by kernel_rfl) ?_ ?_
    · refine ⟨?_,?_,?_⟩
      · show 0≤(k0+1)
        first | omega | rfl | (simp;done) | (subst_vars;simp;done)
      · show (k0+1)≤(paths.length:Int)
        first | omega | rfl | (simp;done) | (subst_vars;simp;done)
      show ∀ i,i < (k0+1).toNat→Tm.viewF v (Rv.pl (Rv.ls paths) i)=Rv.sl (Rv.ls seen) i;exact Rv.check_step (by omega) hf3 hx1 hx2 q6
    show ((paths.length:Int)-(k0+1)).toNat < ((paths.length:Int)-k0).toNat;omega
  refine V.g [.kb true] fun _ _ G10=>?_;intro S_ s_
  have e0:true=decide (Rv.CheckP v (Rv.ls paths) (Rv.ls seen)):=by symm;rw [decide_eq_true_iff];exact ⟨hF,fun i hi=>hf3 i (by rw [Rv.ls_length] at hi;omega)⟩
  exact V.rt [0] [] [] [] [] [] (bv true) (cong1 (fun (x0:Bool)=>(bv x0:Value)) e0)
set_option maxRecDepth 10000 in
theorem rest_ct (paths:List (Fat Int)) (pathss:SV) (seen:List (Fat DThing)) (seens:SV) :
    Cp Try.prog 29 #[pathss.v,seens.v] [fs true paths pathss,fs true seen seens] (.tuple #[iv (Rv.restV (Rv.ls paths) (Rv.ls seen)),bv (decide (Rv.restB (Rv.ls paths) (Rv.ls seen)))]):=by
  refine V.fn mo Try.func29 38 0 (by kernel_rfl) fun w H ε k0=>?_;obtain ⟨⟨kl1, -⟩,⟨kl2, -⟩, -⟩:Lq paths pathss.v∧Lq seen seens.v∧True:=kq k0
  clear k0;refine V.g [.k (iv 0),.kb false] fun _ _ G1=>?_;intro S_ s_
  refine V.g [.k (pathss.v),.k (seens.v),.cp g0 2 74 [(kf false (.f 0) paths (fun _=>pathss)).a,(kf false (.f 1) seen (fun _=>seens)).a] (fun _ G=>form_ct paths pathss seen seens),.k (bv (!(decide (Rv.Form (Rv.ls paths) (Rv.ls seen)))))] fun _ _ G2=>?_;intro S_ s_
  refine V.cn (b:=!(decide (Rv.Form (Rv.ls paths) (Rv.ls seen)))) (iNT iDF) (iNF iDT) (fun q1=>?_) (fun q2=>?_)
  · refine V.g [.k (iv 0),.kb false] fun _ _ G3=>?_;intro S_ s_
    have e0:(0:Int)=Rv.restV (Rv.ls paths) (Rv.ls seen):=(Rv.restV_no fun h=>q1 h.1).symm;have e1:false=decide (Rv.restB (Rv.ls paths) (Rv.ls seen)):=by
      symm;rw [decide_eq_false_iff_not]
      exact fun h=>q1 h.1
    exact V.rt [0,0] [] [] [] [] [] (.tuple #[iv 0,bv false]) (cong2 (fun (x0:Int) (x1:Bool)=>(.tuple #[iv x0,bv x1]:Value)) e0 e1)
  have hF:Rv.Form (Rv.ls paths) (Rv.ls seen):=by first | exact q2 | exact Decidable.not_not.1 q2
  have hq1:=Rv.form_q hF;refine nm (seen.getD (0:Int).toNat default:Fat DThing) fun x1 hx1=>?_;refine nm (x1.l.getD (0:Int).toNat default:DThing) fun x2 hx2=>?_;have hl0:=Rv.len_ne hF (k:=0) (by omega) (by omega) hx1
  have hb0:=(Rv.form_lst hF (i:=0) (by rw [Rv.ls_length];omega)).2.2;rw [show Rv.te (Rv.sl (Rv.ls seen) 0) 0=x2 by rw [hx2,hx1,Rv.sl_ls'];rfl] at hb0;unfold Tm.Bd at hb0;refine V.r [.k (seens.v),.ix g0 (kf false (.f 1) seen (fun _=>seens)) 0 (fun _=>⟨by omega,by omega⟩),.le g0 (kf false (.f 1) seen (fun _=>seens)) (0:Int) none true x1 hx1 (fun _=>⟨by omega,by omega⟩) false (fun _=>[x1.s.v]),.ix g0 (kx false (.g 2 0) x1 x1.l (fun _=>x1.s) (fun _ _ h=>h)) 0 (fun _=>⟨by omega,by omega⟩),.k (.pointer (some ((elemAddr x1.s.v ((0:Int).toNat * 5)).add 1))),.le g0 (kx false (.g 2 0) x1 x1.l (fun _=>x1.s) (fun _ _ h=>h)) (0:Int) (some 1) false x2 hx2 (fun _=>⟨by omega,by omega⟩) false (fun _=>[iv x2.Value]),.k (iv x2.Value)] fun _ _ G4 kw4=>?_;intro S_ s_
  obtain ⟨⟨kl3, -⟩, -⟩:Lq x1.l x1.s.v∧True:=kq kw4;clear kw4;refine V.g [.k (seens.v),.ln (kf false (.f 1) seen (fun _=>seens)),.k (iv 0)] fun _ _ G5=>?_;intro S_ s_;refine V.loop (γ:=Int × Int) (fun ⟨rest,k0⟩=>⟨[(6,iv rest),(19,seens.v),(20,iv (seen.length:Int)),(21,iv k0)],[fs false seen seens],[]⟩) (fun ⟨rest,k0⟩=>(0≤k0)∧(k0≤(seen.length:Int))∧(rest=x2.Value-Rv.opn (Rv.ls seen) k0.toNat)∧(-1125899906842624 * k0≤rest)∧(rest≤1125899906842624)) (fun ⟨rest,k0⟩=>((seen.length:Int)-k0).toNat) (x2.Value,0) (by kernel_rfl) [1] (by kernel_rfl) ?_ ?_
  · refine ⟨?_,?_,?_,?_,?_⟩
    · show 0≤(0:Int);omega
    · show (0:Int)≤(seen.length:Int);omega
    · show x2.Value=x2.Value-Rv.opn (Rv.ls seen) (0:Int).toNat;simp [Rv.opn]
    · show -1125899906842624 * (0:Int)≤x2.Value;omega
    show x2.Value≤1125899906842624;omega
  rintro ⟨rest,k0⟩ hF1 kw6 Z1 hZ1;have hF1:(0≤k0)∧(k0≤(seen.length:Int))∧(rest=x2.Value-Rv.opn (Rv.ls seen) k0.toNat)∧(-1125899906842624 * k0≤rest)∧(rest≤1125899906842624):=hF1;obtain ⟨hf1,hf2,hf3,hf4,hf5⟩:=hF1;clear kw6;refine V.g [.k (bv (decide (k0 < (seen.length:Int))))] fun _ _ G6=>?_;intro S_ s_;refine V.cn (b:=decide (k0 < (seen.length:Int))) iDT iDF (fun q3=>?_) (fun q4=>?_)
  · refine nm (seen.getD k0.toNat default:Fat DThing) fun x3 hx3=>?_;refine V.r [.ix g0 (kf false (.f 0) seen (fun _=>seens)) k0 (fun _=>⟨by omega,by omega⟩),.le g0 (kf false (.f 0) seen (fun _=>seens)) k0 none true x3 hx3 (fun _=>⟨by omega,by omega⟩) false (fun _=>[x3.s.v]),.k (x3.s.v)] fun _ _ G7 kw8=>?_;intro S_ s_
    obtain ⟨⟨kl4, -⟩, -⟩:Lq x3.l x3.s.v∧True:=kq kw8;clear kw8;refine nm ((x3.l.length:Int)-1:Int) fun n1 hn1=>?_;refine nm (x3.l.getD n1.toNat default:DThing) fun x4 hx4=>?_;refine nm (rest-x4.Value:Int) fun n2 hn2=>?_;have hl1:=Rv.len_ne hF (by omega) (by omega) hx3;have hb1:=Rv.last_bd hF (by omega) (by omega) hx3 hn1 hx4;unfold Tm.Bd at hb1;refine V.g [.k (iv rest),.k (x3.s.v),.k (x3.s.v),.ln (kx false (.f 1) x3 x3.l (fun _=>x3.s) (fun _ _ h=>h)),.ar ((x3.l.length:Int)-1) n1 hn1 (by omega) (by omega),.ix g0 (kx false (.f 1) x3 x3.l (fun _=>x3.s) (fun _ _ h=>h)) n1 (fun _=>⟨by omega,by omega⟩),.k (.pointer (some ((elemAddr x3.s.v (n1.toNat * 5)).add 1))),.le g0 (kx false (.f 1) x3 x3.l (fun _=>x3.s) (fun _ _ h=>h)) n1 (some 1) false x4 hx4 (fun _=>⟨by omega,by omega⟩) false (fun _=>[iv x4.Value]),.ar (rest-x4.Value) n2 hn2 (by omega) (by omega),.k (iv n2)] fun _ _ G8=>?_;intro S_ s_;refine V.g [.a (k0+1) (by omega) (by omega),.k (iv (k0+1))] fun _ _ G9=>?_;intro S_ s_;refine V.rnd hZ1 (n2,k0+1) [0] (by kernel_rfl) ?_ ?_
    · refine ⟨?_,?_,?_,?_,?_⟩
      · show 0≤(k0+1);omega
      · show (k0+1)≤(seen.length:Int);omega
      · show n2=x2.Value-Rv.opn (Rv.ls seen) (k0+1).toNat;rw [Rv.opn_step (by omega) (by omega) hx3 hn1 hx4];omega
      · show -1125899906842624 * (k0+1)≤n2;omega
      show n2≤1125899906842624;omega
    show ((seen.length:Int)-(k0+1)).toNat < ((seen.length:Int)-k0).toNat;omega
  refine V.g [.k (iv rest),.k (bv (decide (rest < 0)))] fun _ _ G10=>?_;intro S_ s_
  refine V.cn (b:=decide (rest < 0)) iDT iDF (fun q5=>?_) (fun q6=>?_)
  · refine V.g [.k (iv 0),.kb false] fun _ _ G11=>?_;intro S_ s_
    have e0:(0:Int)=Rv.restV (Rv.ls paths) (Rv.ls seen):=by
      have hR:=Rv.rest_eq (k:=k0) hx1 hx2 hf3 (by omega);exact (Rv.restV_no fun h=>by have:=h.2;omega).symm
    have e1:false=decide (Rv.restB (Rv.ls paths) (Rv.ls seen)):=by
      have hR:=Rv.rest_eq (k:=k0) hx1 hx2 hf3 (by omega)
      symm;rw [decide_eq_false_iff_not]
      exact fun h=>by have:=h.2;omega
    exact V.rt [0,0] [] [] [] [] [] (.tuple #[iv 0,bv false]) (cong2 (fun (x0:Int) (x1:Bool)=>(.tuple #[iv x0,bv x1]:Value)) e0 e1)
  refine V.g [.k (iv rest),.k (iv rest),.kb true] fun _ _ G12=>?_;intro S_ s_
  have e0:rest=Rv.restV (Rv.ls paths) (Rv.ls seen):=by
    have hR:=Rv.rest_eq (k:=k0) hx1 hx2 hf3 (by omega);rw [Rv.restV_yes ⟨hF,by omega⟩];exact hR
  have e1:true=decide (Rv.restB (Rv.ls paths) (Rv.ls seen)):=by
    have hR:=Rv.rest_eq (k:=k0) hx1 hx2 hf3 (by omega)
    symm;rw [decide_eq_true_iff];exact ⟨hF,by omega⟩
  exact V.rt [0,0] [] [] [] [] [] (.tuple #[iv rest,bv true]) (cong2 (fun (x0:Int) (x1:Bool)=>(.tuple #[iv x0,bv x1]:Value)) e0 e1)
set_option maxRecDepth 10000 in
theorem put_ct (k_halves:List (Int × DThing)) (k_halvesb:Nat) (k_open:List (Int × DThing)) (k_openb:Nat) (at_:Int) (e:ByteArray) (d f a c:Int) :
    Ct Try.prog 95 #[.agg #[.map (some k_halvesb),.map (some k_openb)],iv at_,ag (DThing.mk e d f a c)] [] [mp false true k_halves k_halvesb,mp false true k_open k_openb] (fun g=>bv (decide (Rv.putB k_halves k_open at_ ⟨e,d,f,a,c⟩))) (fun g=>[]) (fun g=>[mp true true (Rv.putH k_halves at_ ⟨e,d,f,a,c⟩) k_halvesb,mp true true (Rv.putO k_halves k_open at_ ⟨e,d,f,a,c⟩) k_openb]) (fun g=>[]):=by
  refine V.fn mo Try.func95 54 5 (by kernel_rfl) fun w H ε k0=>?_;clear k0
  refine V.trm true k_halves k_halvesb 0 (by kernel_rfl) (fun _ _=>trivial) ?_;refine V.trm true k_open k_openb 1 (by kernel_rfl) (fun _ _=>trivial) ?_;refine V.g [.nb 0 2 (fun b=>pp b 0) 127 (fun _=>#[.map (some k_halvesb),.map (some k_openb)]),.nb 1 3 (fun b=>pp b 0) 88 (fun _=>ca (DThing.mk e d f a c)),.kb false] fun _ _ G1=>?_;intro S s
  refine V.g [.k (pp ((G1 1).b) 3),.ld 3 3 false (fun _=>[iv a]),.k (pp ((G1 1).b) 4),.ld 3 4 false (fun _=>[iv c]),.k (ag (DThing.mk ByteArray.empty 0 0 a c)),.nb 5 4 (fun b=>pp b 0) 88 (fun _=>ca (DThing.mk ByteArray.empty 0 0 0 0)),.st 4 (fun G=>.blk ((G 5).b) (ca (DThing.mk ByteArray.empty 0 0 a c)) 88)] fun _ _ G2=>?_;intro S s
  refine nm ((mlook at_ k_halves).getD default:DThing) fun x1 hx1=>?_;refine nm ((mlook at_ k_halves).isSome:Bool) fun is1 his1=>?_;refine V.g [.k (pp ((G1 0).b) 0),.ld 2 0 false (fun _=>[.map (some k_halvesb)]),.k (iv at_),.lk 0 125 3 88 true true true k_halves (fun _=>k_halvesb) at_ x1 hx1 is1 his1 false,.k (.tuple #[ag x1,bv is1]),.k (ag x1),.k (bv is1),.nb 7 5 (fun b=>pp b 0) 88 (fun _=>ca (DThing.mk ByteArray.empty 0 0 0 0)),.st 5 (fun G=>.blk ((G 7).b) (ca x1) 88),.k (bv is1)] fun _ _ G3=>?_;intro S s
  refine nm (is1 && (!(decide (x1.Text=ByteArray.empty∧x1.Value=0∧x1.Blind=0∧x1.Left=a∧x1.Right=c))):Bool) fun p1 hp1=>?_;refine V.g [.k (bv is1),.k (bv is1),.ld 5 0 true (fun _=>Dat.cells x1),.ld 4 0 true (fun _=>Dat.cells (DThing.mk ByteArray.empty 0 0 a c)),.aeq true 88 (ca x1) (ca (DThing.mk ByteArray.empty 0 0 a c)) _ fun w=>thing_equal w x1.Text x1.Value x1.Blind x1.Left x1.Right ByteArray.empty 0 0 a c,.andn g0 false is1 (!(decide (x1.Text=ByteArray.empty∧x1.Value=0∧x1.Blind=0∧x1.Left=a∧x1.Right=c))) p1 hp1] fun _ _ G4=>?_;intro S s
  refine V.cn (b:=p1) (iN hp1 (iAT Iff.rfl (iNT iDF))) (iN hp1 (iAF Iff.rfl (iNF iDT))) (fun q1=>?_) (fun q2=>?_)
  · have hP:=Rv.put_1 (o:=k_open) (x:=⟨e,d,f,a,c⟩) hx1 his1 q1;refine V.g [.kb false] fun _ _ G5=>?_;intro S s
    have e0:false=decide (Rv.putB k_halves k_open at_ ⟨e,d,f,a,c⟩):=(decide_eq_false hP.1).symm;have eL0:k_halves=Rv.putH k_halves at_ ⟨e,d,f,a,c⟩:=hP.2.1.symm;refine V.alt (fun (zz1:List (Int × DThing))=>(⟨[(6,bv false)],[],[mp true true zz1 k_halvesb,mp true true k_open k_openb,.blk ((G1 0).b) #[.map (some k_halvesb),.map (some k_openb)] 127,.blk ((G1 1).b) (ca (DThing.mk e d f a c)) 88,.blk ((G2 5).b) (ca (DThing.mk ByteArray.empty 0 0 a c)) 88,.blk ((G3 7).b) (ca x1) 88,.no]⟩:St)) eL0 [] (by kernel_rfl) ?_;have eL1:k_open=Rv.putO k_halves k_open at_ ⟨e,d,f,a,c⟩:=hP.2.2.symm;refine V.alt (fun (zz2:List (Int × DThing))=>(⟨[(6,bv false)],[],[mp true true (Rv.putH k_halves at_ ⟨e,d,f,a,c⟩) k_halvesb,mp true true zz2 k_openb,.blk ((G1 0).b) #[.map (some k_halvesb),.map (some k_openb)] 127,.blk ((G1 1).b) (ca (DThing.mk e d f a c)) 88,.blk ((G2 5).b) (ca (DThing.mk ByteArray.empty 0 0 a c)) 88,.blk ((G3 7).b) (ca x1) 88,.no]⟩:St)) eL1 [] (by kernel_rfl) ?_;exact V.rt [0] [] [] [] [] [0,1] (bv false) (cong1 (fun (x0:Bool)=>(bv x0:Value)) e0)
  have hP2:=Rv.put_2 (o:=k_open) (x:=⟨e,d,f,a,c⟩) hx1 his1 q2;refine nm (mupd at_ (DThing.mk ByteArray.empty 0 0 a c) k_halves:List (Int × DThing)) fun m1 hm1=>?_;refine V.g [.k (pp ((G1 0).b) 0),.ld 2 0 false (fun _=>[.map (some k_halvesb)]),.k (iv at_),.ld 4 0 true (fun _=>Dat.cells (DThing.mk ByteArray.empty 0 0 a c)),.mu 4 0 125 3 88 true true k_halves (fun _=>k_halvesb) at_ (DThing.mk ByteArray.empty 0 0 a c) m1 hm1 true (fun _=>rfl) [] (fun _ _ _=>trivial)] fun _ _ G6=>?_;intro S s
  refine V.g [.k (pp ((G1 1).b) 1),.ld 3 1 false (fun _=>[iv d]),.k (bv (decide (d=(-1))))] fun _ _ G7=>?_;intro S s
  refine V.cn (b:=decide (d=(-1))) iDT iDF (fun q3=>?_) (fun q4=>?_)
  · have hP:=Rv.put_3 (o:=k_open) hP2.1 q3;refine V.g [.kb true] fun _ _ G8=>?_;intro S s
    have e0:true=decide (Rv.putB k_halves k_open at_ ⟨e,d,f,a,c⟩):=(decide_eq_true hP.1).symm;have eL0:m1=Rv.putH k_halves at_ ⟨e,d,f,a,c⟩:=by rw [hm1];exact hP2.2.symm
    subst eL0;have eL1:k_open=Rv.putO k_halves k_open at_ ⟨e,d,f,a,c⟩:=hP.2.symm;refine V.alt (fun (zz3:List (Int × DThing))=>(⟨[(6,bv true)],[],[mp true true (Rv.putH k_halves at_ ⟨e,d,f,a,c⟩) k_halvesb,mp true true zz3 k_openb,.blk ((G1 0).b) #[.map (some k_halvesb),.map (some k_openb)] 127,.blk ((G1 1).b) (ca (DThing.mk e d f a c)) 88,.blk ((G2 5).b) (ca (DThing.mk ByteArray.empty 0 0 a c)) 88,.blk ((G3 7).b) (ca x1) 88,.no]⟩:St)) eL1 [] (by kernel_rfl) ?_;exact V.rt [0] [] [] [] [] [0,1] (bv true) (cong1 (fun (x0:Bool)=>(bv x0:Value)) e0)
  refine nm ((mlook at_ k_open).getD default:DThing) fun x2 hx2=>?_;refine nm ((mlook at_ k_open).isSome:Bool) fun is2 his2=>?_;refine V.g [.k (pp ((G1 0).b) 1),.ld 2 1 false (fun _=>[.map (some k_openb)]),.k (iv at_),.lk 1 125 3 88 true true true k_open (fun _=>k_openb) at_ x2 hx2 is2 his2 false,.k (.tuple #[ag x2,bv is2]),.k (ag x2),.k (bv is2),.nb 7 6 (fun b=>pp b 0) 88 (fun _=>ca (DThing.mk ByteArray.empty 0 0 0 0)),.st 6 (fun G=>.blk ((G 7).b) (ca x2) 88),.k (bv is2)] fun _ _ G9=>?_;intro S s
  refine nm (is2 && (!(decide (x2.Text=e∧x2.Value=d∧x2.Blind=f∧x2.Left=a∧x2.Right=c))):Bool) fun p2 hp2=>?_;refine V.g [.k (bv is2),.k (bv is2),.ld 6 0 true (fun _=>Dat.cells x2),.ld 3 0 true (fun _=>Dat.cells (DThing.mk e d f a c)),.aeq true 88 (ca x2) (ca (DThing.mk e d f a c)) _ fun w=>thing_equal w x2.Text x2.Value x2.Blind x2.Left x2.Right e d f a c,.andn g0 false is2 (!(decide (x2.Text=e∧x2.Value=d∧x2.Blind=f∧x2.Left=a∧x2.Right=c))) p2 hp2] fun _ _ G10=>?_;intro S s
  refine V.cn (b:=p2) (iN hp2 (iAT Iff.rfl (iNT iDF))) (iN hp2 (iAF Iff.rfl (iNF iDT))) (fun q5=>?_) (fun q6=>?_)
  · have hP:=Rv.put_4 (x:=⟨e,d,f,a,c⟩) hP2.1 q4 hx2 his2 q5;refine V.g [.kb false] fun _ _ G11=>?_;intro S s
    have e0:false=decide (Rv.putB k_halves k_open at_ ⟨e,d,f,a,c⟩):=(decide_eq_false hP.1).symm;have eL0:m1=Rv.putH k_halves at_ ⟨e,d,f,a,c⟩:=by rw [hm1];exact hP2.2.symm
    subst eL0;have eL1:k_open=Rv.putO k_halves k_open at_ ⟨e,d,f,a,c⟩:=hP.2.symm;refine V.alt (fun (zz4:List (Int × DThing))=>(⟨[(6,bv false)],[],[mp true true (Rv.putH k_halves at_ ⟨e,d,f,a,c⟩) k_halvesb,mp true true zz4 k_openb,.blk ((G1 0).b) #[.map (some k_halvesb),.map (some k_openb)] 127,.blk ((G1 1).b) (ca (DThing.mk e d f a c)) 88,.blk ((G2 5).b) (ca (DThing.mk ByteArray.empty 0 0 a c)) 88,.blk ((G3 7).b) (ca x1) 88,.blk ((G9 7).b) (ca x2) 88]⟩:St)) eL1 [] (by kernel_rfl) ?_;exact V.rt [0] [] [] [] [] [0,1] (bv false) (cong1 (fun (x0:Bool)=>(bv x0:Value)) e0)
  have hP:=Rv.put_5 (x:=⟨e,d,f,a,c⟩) hP2.1 q4 hx2 his2 q6;refine nm (mupd at_ (DThing.mk e d f a c) k_open:List (Int × DThing)) fun m2 hm2=>?_;refine V.g [.k (pp ((G1 0).b) 1),.ld 2 1 false (fun _=>[.map (some k_openb)]),.k (iv at_),.ld 3 0 true (fun _=>Dat.cells (DThing.mk e d f a c)),.mu 4 1 125 3 88 true true k_open (fun _=>k_openb) at_ (DThing.mk e d f a c) m2 hm2 true (fun _=>rfl) [] (fun _ _ _=>trivial)] fun _ _ G12=>?_;intro S s
  refine V.g [.kb true] fun _ _ G13=>?_;intro S s
  have e0:true=decide (Rv.putB k_halves k_open at_ ⟨e,d,f,a,c⟩):=(decide_eq_true hP.1).symm;have eL0:m1=Rv.putH k_halves at_ ⟨e,d,f,a,c⟩:=by rw [hm1];exact hP2.2.symm
  subst eL0;have eL1:m2=Rv.putO k_halves k_open at_ ⟨e,d,f,a,c⟩:=by rw [hm2];exact hP.2.symm
  subst eL1;exact V.rt [0] [] [] [] [] [0,1] (bv true) (cong1 (fun (x0:Bool)=>(bv x0:Value)) e0)

open Go Go.Proofs
set_option maxRecDepth 10000 in
theorem growt_ct (n:Int) (h0:0≤n) (hb:n≤1000) :
    Ct Try.prog 106 #[.slice none 0 0,iv n] [] [] (fun g=>((g.ss 0)).v) (fun g=>[]) (fun g=>[os true 49 ([]:List (Fat DThing)) (g.ss 0)]) (fun g=>[]):=by
  refine V.fn mo Try.func106 27 2 (by kernel_rfl) fun w H ε k0=>?_;clear k0
  refine V.g [.k (.slice none 0 0)] fun _ _ G1=>?_;intro S_ s_
  refine V.g [.k (iv n),.k (bv (decide (n < 0)))] fun _ _ G2=>?_;intro S_ s_
  refine V.cn (b:=decide (n < 0)) iDT iDF (fun q1=>?_) (fun q2=>?_)
  · exfalso;omega
  refine V.g [.k (iv n),.k (.slice none 0 0),.k (iv 0),.k (.slice none 0 0),.k (iv 0),.k (iv 0),.a (n-0) (by omega) (by omega),.k (iv (n-0))] fun _ _ G3=>?_;intro S_ s_
  refine V.g [.k (iv (n-0)),.k (bv (decide (0 < n-0)))] fun _ _ G4=>?_;intro S_ s_
  refine V.cn (b:=decide (0 < n-0)) iDT iDF (fun q3=>?_) (fun q4=>?_)
  · refine nm (List.replicate (n-0).toNat (default:Fat DThing):List (Fat DThing)) fun l1 hl1=>?_;have hl1n:=congrArg List.length hl1;try simp only [List.length_append,List.length_cons,List.length_nil,List.length_replicate,List.length_set,List.length_take,List.length_drop,List.length_map,List.length_reverse,List.length_range] at hl1n
    refine nm (l1.take (0:Int).toNat:List (Fat DThing)) fun l2 hl2=>?_;have hl2n:=congrArg List.length hl2;try simp only [List.length_append,List.length_cons,List.length_nil,List.length_replicate,List.length_set,List.length_take,List.length_drop,List.length_map,List.length_reverse,List.length_range] at hl2n
    refine V.g [.k (.slice none 0 0),.k (.slice none 0 0),.k (iv 0),.k (.slice none 0 0),.k (iv (n-0)),.apz 5 0 61 3 49 24 (n-0) l1 hl1 (by omega) (by omega) (by omega),.k (.slice none 0 0),.k (iv 0),.fro 8 0 49 true l1 (fun G=>(G 5).s) 0 l2 hl2 (by omega) (by omega),.v fun G=>(((G 5).s).sub 1 0 (0:Int).toNat).v] fun _ _ G5=>?_;intro S_ s_
    refine V.g [.k ((((G5 5).s).sub 1 0 (0:Int).toNat).v),.k ((((G5 5).s).sub 1 0 (0:Int).toNat).v)] fun _ _ G6=>?_;intro S_ s_
    have e0:l2=([]:List (Fat DThing)):=by rw [hl2];rfl
    subst e0;exact V.rs [0] [(((G5 5).s).sub 1 0 (0:Int).toNat)] [fun _=>{}] [] [] [0] ((((G5 5).s).sub 1 0 (0:Int).toNat).v)
  refine V.g [.k (.slice none 0 0),.k (.slice none 0 0)] fun _ _ G7=>?_;intro S_ s_
  refine V.on (α:=Fat DThing) 0 49 (by kernel_rfl) ?_;exact V.rs [0] [{}] [fun _=>{}] [] [] [0] (SV.v ({}))
set_option maxRecDepth 10000 in
theorem growi_ct (n:Int) (h0:0≤n) (hb:n≤1000) :
    Ct Try.prog 107 #[.slice none 0 0,iv n] [] [] (fun g=>((g.ss 0)).v) (fun g=>[]) (fun g=>[os true 29 ([]:List (Fat Int)) (g.ss 0)]) (fun g=>[]):=by
  refine V.fn mo Try.func107 27 2 (by kernel_rfl) fun w H ε k0=>?_;clear k0
  refine V.g [.k (.slice none 0 0)] fun _ _ G1=>?_;intro S_ s_
  refine V.g [.k (iv n),.k (bv (decide (n < 0)))] fun _ _ G2=>?_;intro S_ s_
  refine V.cn (b:=decide (n < 0)) iDT iDF (fun q1=>?_) (fun q2=>?_)
  · exfalso;omega
  refine V.g [.k (iv n),.k (.slice none 0 0),.k (iv 0),.k (.slice none 0 0),.k (iv 0),.k (iv 0),.a (n-0) (by omega) (by omega),.k (iv (n-0))] fun _ _ G3=>?_;intro S_ s_
  refine V.g [.k (iv (n-0)),.k (bv (decide (0 < n-0)))] fun _ _ G4=>?_;intro S_ s_
  refine V.cn (b:=decide (0 < n-0)) iDT iDF (fun q3=>?_) (fun q4=>?_)
  · refine nm (List.replicate (n-0).toNat (default:Fat Int):List (Fat Int)) fun l1 hl1=>?_;have hl1n:=congrArg List.length hl1;try simp only [List.length_append,List.length_cons,List.length_nil,List.length_replicate,List.length_set,List.length_take,List.length_drop,List.length_map,List.length_reverse,List.length_range] at hl1n
    refine nm (l1.take (0:Int).toNat:List (Fat Int)) fun l2 hl2=>?_;have hl2n:=congrArg List.length hl2;try simp only [List.length_append,List.length_cons,List.length_nil,List.length_replicate,List.length_set,List.length_take,List.length_drop,List.length_map,List.length_reverse,List.length_range] at hl2n
    refine V.g [.k (.slice none 0 0),.k (.slice none 0 0),.k (iv 0),.k (.slice none 0 0),.k (iv (n-0)),.apz 5 0 60 3 29 24 (n-0) l1 hl1 (by omega) (by omega) (by omega),.k (.slice none 0 0),.k (iv 0),.fro 8 0 29 true l1 (fun G=>(G 5).s) 0 l2 hl2 (by omega) (by omega),.v fun G=>(((G 5).s).sub 1 0 (0:Int).toNat).v] fun _ _ G5=>?_;intro S_ s_
    refine V.g [.k ((((G5 5).s).sub 1 0 (0:Int).toNat).v),.k ((((G5 5).s).sub 1 0 (0:Int).toNat).v)] fun _ _ G6=>?_;intro S_ s_
    have e0:l2=([]:List (Fat Int)):=by rw [hl2];rfl
    subst e0;exact V.rs [0] [(((G5 5).s).sub 1 0 (0:Int).toNat)] [fun _=>{}] [] [] [0] ((((G5 5).s).sub 1 0 (0:Int).toNat).v)
  refine V.g [.k (.slice none 0 0),.k (.slice none 0 0)] fun _ _ G7=>?_;intro S_ s_
  refine V.on (α:=Fat Int) 0 29 (by kernel_rfl) ?_;exact V.rs [0] [{}] [fun _=>{}] [] [] [0] (SV.v ({}))
set_option maxRecDepth 10000 in
theorem concatt_ct (slices:List (Fat (Fat DThing))) (slicess:SV) (hn:slices.length≤2) (hb:∀ x ∈ slices,x.l.length≤100) :
    Ct Try.prog 93 #[slicess.v] [fs true slices slicess] [] (fun g=>((g.ss 0)).v) (fun g=>[]) (fun g=>[os false 49 (Rv.cat slices) (g.ss 0)]) (fun g=>[]):=by
  refine V.fn mo Try.func93 36 1 (by kernel_rfl) fun w H ε k0=>?_;obtain ⟨⟨kl1, -⟩, -⟩:Lq slices slicess.v∧True:=kq k0
  clear k0;refine V.g [.k (.slice none 0 0)] fun _ _ G1=>?_;intro S_ s_
  refine V.g [.k (iv 0)] fun _ _ G2=>?_;intro S_ s_
  refine V.g [.k (slicess.v),.ln (kf false (.f 0) slices (fun _=>slicess)),.k (iv 0)] fun _ _ G3=>?_;intro S_ s_
  refine V.loop (γ:=Int × Int) (fun ⟨size,k0⟩=>⟨[(0,slicess.v),(3,iv size),(9,slicess.v),(10,iv (slices.length:Int)),(11,iv k0)],[fs false slices slicess],[.no]⟩) (fun ⟨size,k0⟩=>(0≤k0)∧(k0≤(slices.length:Int))∧(0≤size)∧(size≤100 * k0)) (fun ⟨size,k0⟩=>((slices.length:Int)-k0).toNat) (0,0) (by kernel_rfl) [0] (by kernel_rfl) ?_ ?_
  · refine ⟨?_,?_,?_,?_⟩
    · show 0≤(0:Int)
      first | omega | rfl | (simp;done) | (subst_vars;simp;done)
    · show (0:Int)≤(slices.length:Int)
      first | omega | rfl | (simp;done) | (subst_vars;simp;done)
    · show 0≤(0:Int)
      first | omega | rfl | (simp;done) | (subst_vars;simp;done)
    show (0:Int)≤100 * (0:Int)
    first | omega | rfl | (simp;done) | (subst_vars;simp;done)
  rintro ⟨size,k0⟩ hF1 kw4 Z1 hZ1;have hF1:(0≤k0)∧(k0≤(slices.length:Int))∧(0≤size)∧(size≤100 * k0):=hF1;obtain ⟨hf1,hf2,hf3,hf4⟩:=hF1;clear kw4;refine V.g [.k (bv (decide (k0 < (slices.length:Int))))] fun _ _ G4=>?_;intro S_ s_;refine V.cn (b:=decide (k0 < (slices.length:Int))) iDT iDF (fun q1=>?_) (fun q2=>?_)
  · refine nm (slices.getD k0.toNat default:Fat (Fat DThing)) fun x1 hx1=>?_;refine V.r [.ix g0 (kf false (.f 0) slices (fun _=>slicess)) k0 (fun _=>⟨by omega,by omega⟩),.le g0 (kf false (.f 0) slices (fun _=>slicess)) k0 none true x1 hx1 (fun _=>⟨by omega,by omega⟩) false (fun _=>[x1.s.v]),.k (x1.s.v)] fun _ _ G5 kw6=>?_;intro S_ s_
    obtain ⟨⟨kl2, -⟩, -⟩:Lq x1.l x1.s.v∧True:=kq kw6;clear kw6;have hbx:=hb _ (getD_mem (by omega) hx1);refine nm (size+(x1.l.length:Int):Int) fun n1 hn1=>?_;refine V.g [.k (iv size),.k (x1.s.v),.ln (kx false (.f 1) x1 x1.l (fun _=>x1.s) (fun _ _ h=>h)),.ar (size+(x1.l.length:Int)) n1 hn1 (by omega) (by omega),.k (iv n1)] fun _ _ G6=>?_;intro S_ s_;refine V.g [.k (iv n1),.k (bv (decide (n1 < 0)))] fun _ _ G7=>?_;intro S_ s_;refine V.cn (b:=decide (n1 < 0)) iDT iDF (fun q3=>?_) (fun q4=>?_)
    · exfalso;omega
    refine V.g [.a (k0+1) (by omega) (by omega),.k (iv (k0+1))] fun _ _ G8=>?_;intro S_ s_
    refine V.rnd hZ1 (n1,k0+1) [0] (by kernel_rfl) ?_ ?_
    · refine ⟨?_,?_,?_,?_⟩
      · show 0≤(k0+1);omega
      · show (k0+1)≤(slices.length:Int);omega
      · show 0≤n1;omega
      show n1≤100 * (k0+1);omega
    show ((slices.length:Int)-(k0+1)).toNat < ((slices.length:Int)-k0).toNat;omega
  refine V.g [.k (iv size),.ct g0 1 106 false [] [0] [] (fun _ G=>growt_ct size (by omega) (by omega)),.v fun G=>((G 1).ss 0).v] fun _ _ G9=>?_;intro S_ s_
  refine V.g [.k (slicess.v),.ln (kf false (.f 0) slices (fun _=>slicess)),.k (iv 0)] fun _ _ G10=>?_;intro S_ s_
  refine V.loop (γ:=List (Fat DThing) × SV × Int) (fun ⟨newslice,newslices,k1⟩=>⟨[(6,newslices.v),(25,slicess.v),(26,iv (slices.length:Int)),(27,iv k1)],[fs false slices slicess],[os false 49 newslice newslices]⟩) (fun ⟨newslice,newslices,k1⟩=>(0≤k1)∧(k1≤(slices.length:Int))∧(newslice=Rv.cat (slices.take k1.toNat))∧((newslice.length:Int)≤100 * k1)) (fun ⟨newslice,newslices,k1⟩=>((slices.length:Int)-k1).toNat) (([]:List (Fat DThing)),(G9 1).ss 0,0) (by kernel_rfl) [0] (by kernel_rfl) ?_ ?_
  · refine ⟨?_,?_,?_,?_⟩
    · show 0≤(0:Int)
      first | omega | simp
    · show (0:Int)≤(slices.length:Int)
      first | omega | simp
    · show ([]:List (Fat DThing))=Rv.cat (slices.take (0:Int).toNat);rfl
    show (([]:List (Fat DThing)).length:Int)≤100 * (0:Int)
    first | omega | simp
  rintro ⟨newslice,newslices,k1⟩ hF2 kw12 Z2 hZ2;have hF2:(0≤k1)∧(k1≤(slices.length:Int))∧(newslice=Rv.cat (slices.take k1.toNat))∧((newslice.length:Int)≤100 * k1):=hF2;obtain ⟨hf5,hf6,hf7,hf8⟩:=hF2;obtain ⟨-,⟨kl3, -⟩, -⟩:Lq slices slicess.v∧Lq newslice newslices.v∧True:=kq kw12;clear kw12;refine V.g [.k (bv (decide (k1 < (slices.length:Int))))] fun _ _ G11=>?_;intro S_ s_;refine V.cn (b:=decide (k1 < (slices.length:Int))) iDT iDF (fun q5=>?_) (fun q6=>?_)
  · refine nm (slices.getD k1.toNat default:Fat (Fat DThing)) fun x2 hx2=>?_;refine V.r [.ix g0 (kf false (.f 0) slices (fun _=>slicess)) k1 (fun _=>⟨by omega,by omega⟩),.le g0 (kf false (.f 0) slices (fun _=>slicess)) k1 none true x2 hx2 (fun _=>⟨by omega,by omega⟩) false (fun _=>[x2.s.v]),.k (x2.s.v)] fun _ _ G12 kw14=>?_;intro S_ s_
    obtain ⟨⟨kl4, -⟩, -⟩:Lq x2.l x2.s.v∧Lq newslice newslices.v∧True:=kq kw14;clear kw14;have hbx:=hb _ (getD_mem (by omega) hx2);refine nm (newslice ++x2.l:List (Fat DThing)) fun l1 hl1=>?_;have hl1n:=congrArg List.length hl1;try simp only [List.length_append,List.length_cons,List.length_nil,List.length_replicate,List.length_set,List.length_take,List.length_drop,List.length_map,List.length_reverse,List.length_range] at hl1n
    refine V.g [.k (newslices.v),.k (x2.s.v),.ap 2 0 49 24 false false newslice (fun _=>newslices) (kx false (.f 1) x2 x2.l (fun _=>x2.s) (fun _ _ h=>h)) false l1 hl1 (by (try simp only [List.length_append,List.length_cons,List.length_nil,List.length_replicate,List.length_set,List.length_take,List.length_drop,List.length_map,List.length_reverse,List.length_range]);omega) (fun h=>by cases h) (.inl fun h=>by cases h),.v fun G=>((G 2).s).v] fun _ _ G13=>?_;intro S_ s_
    refine V.g [.a (k1+1) (by omega) (by omega),.k (iv (k1+1))] fun _ _ G14=>?_;intro S_ s_
    refine V.rnd hZ2 (l1,(G13 2).s,k1+1) [0] (by kernel_rfl) ?_ ?_
    · refine ⟨?_,?_,?_,?_⟩
      · show 0≤(k1+1)
        first | omega | rfl | (simp;done) | (subst_vars;simp;done)
      · show (k1+1)≤(slices.length:Int)
        first | omega | rfl | (simp;done) | (subst_vars;simp;done)
      · show l1=Rv.cat (slices.take (k1+1).toNat);exact Rv.cat_step (by omega) (by omega) hf7 hx2 hl1
      show (l1.length:Int)≤100 * (k1+1);omega
    show ((slices.length:Int)-(k1+1)).toNat < ((slices.length:Int)-k1).toNat;omega
  refine V.g [.k (newslices.v),.k (newslices.v)] fun _ _ G15=>?_;intro S_ s_
  have e0:newslice=Rv.cat slices:=by rw [hf7,List.take_of_length_le (by omega)]
  subst e0;exact V.rs [0] [newslices] [fun _=>{}] [] [] [0] (newslices.v)
set_option maxRecDepth 10000 in
theorem concati_ct (slices:List (Fat (Fat Int))) (slicess:SV) (hn:slices.length≤2) (hb:∀ x ∈ slices,x.l.length≤100) :
    Ct Try.prog 94 #[slicess.v] [fs true slices slicess] [] (fun g=>((g.ss 0)).v) (fun g=>[]) (fun g=>[os false 29 (Rv.cat slices) (g.ss 0)]) (fun g=>[]):=by
  refine V.fn mo Try.func94 36 1 (by kernel_rfl) fun w H ε k0=>?_;obtain ⟨⟨kl1, -⟩, -⟩:Lq slices slicess.v∧True:=kq k0
  clear k0;refine V.g [.k (.slice none 0 0)] fun _ _ G1=>?_;intro S_ s_
  refine V.g [.k (iv 0)] fun _ _ G2=>?_;intro S_ s_
  refine V.g [.k (slicess.v),.ln (kf false (.f 0) slices (fun _=>slicess)),.k (iv 0)] fun _ _ G3=>?_;intro S_ s_
  refine V.loop (γ:=Int × Int) (fun ⟨size,k0⟩=>⟨[(0,slicess.v),(3,iv size),(9,slicess.v),(10,iv (slices.length:Int)),(11,iv k0)],[fs false slices slicess],[.no]⟩) (fun ⟨size,k0⟩=>(0≤k0)∧(k0≤(slices.length:Int))∧(0≤size)∧(size≤100 * k0)) (fun ⟨size,k0⟩=>((slices.length:Int)-k0).toNat) (0,0) (by kernel_rfl) [0] (by kernel_rfl) ?_ ?_
  · refine ⟨?_,?_,?_,?_⟩
    · show 0≤(0:Int)
      first | omega | rfl | (simp;done) | (subst_vars;simp;done)
    · show (0:Int)≤(slices.length:Int)
      first | omega | rfl | (simp;done) | (subst_vars;simp;done)
    · show 0≤(0:Int)
      first | omega | rfl | (simp;done) | (subst_vars;simp;done)
    show (0:Int)≤100 * (0:Int)
    first | omega | rfl | (simp;done) | (subst_vars;simp;done)
  rintro ⟨size,k0⟩ hF1 kw4 Z1 hZ1;have hF1:(0≤k0)∧(k0≤(slices.length:Int))∧(0≤size)∧(size≤100 * k0):=hF1;obtain ⟨hf1,hf2,hf3,hf4⟩:=hF1;clear kw4;refine V.g [.k (bv (decide (k0 < (slices.length:Int))))] fun _ _ G4=>?_;intro S_ s_;refine V.cn (b:=decide (k0 < (slices.length:Int))) iDT iDF (fun q1=>?_) (fun q2=>?_)
  · refine nm (slices.getD k0.toNat default:Fat (Fat Int)) fun x1 hx1=>?_;refine V.r [.ix g0 (kf false (.f 0) slices (fun _=>slicess)) k0 (fun _=>⟨by omega,by omega⟩),.le g0 (kf false (.f 0) slices (fun _=>slicess)) k0 none true x1 hx1 (fun _=>⟨by omega,by omega⟩) false (fun _=>[x1.s.v]),.k (x1.s.v)] fun _ _ G5 kw6=>?_;intro S_ s_
    obtain ⟨⟨kl2, -⟩, -⟩:Lq x1.l x1.s.v∧True:=kq kw6;clear kw6;have hbx:=hb _ (getD_mem (by omega) hx1);refine nm (size+(x1.l.length:Int):Int) fun n1 hn1=>?_;refine V.g [.k (iv size),.k (x1.s.v),.ln (kx false (.f 1) x1 x1.l (fun _=>x1.s) (fun _ _ h=>h)),.ar (size+(x1.l.length:Int)) n1 hn1 (by omega) (by omega),.k (iv n1)] fun _ _ G6=>?_;intro S_ s_;refine V.g [.k (iv n1),.k (bv (decide (n1 < 0)))] fun _ _ G7=>?_;intro S_ s_;refine V.cn (b:=decide (n1 < 0)) iDT iDF (fun q3=>?_) (fun q4=>?_)
    · exfalso;omega
    refine V.g [.a (k0+1) (by omega) (by omega),.k (iv (k0+1))] fun _ _ G8=>?_;intro S_ s_
    refine V.rnd hZ1 (n1,k0+1) [0] (by kernel_rfl) ?_ ?_
    · refine ⟨?_,?_,?_,?_⟩
      · show 0≤(k0+1);omega
      · show (k0+1)≤(slices.length:Int);omega
      · show 0≤n1;omega
      show n1≤100 * (k0+1);omega
    show ((slices.length:Int)-(k0+1)).toNat < ((slices.length:Int)-k0).toNat;omega
  refine V.g [.k (iv size),.ct g0 1 107 false [] [0] [] (fun _ G=>growi_ct size (by omega) (by omega)),.v fun G=>((G 1).ss 0).v] fun _ _ G9=>?_;intro S_ s_
  refine V.g [.k (slicess.v),.ln (kf false (.f 0) slices (fun _=>slicess)),.k (iv 0)] fun _ _ G10=>?_;intro S_ s_
  refine V.loop (γ:=List (Fat Int) × SV × Int) (fun ⟨newslice,newslices,k1⟩=>⟨[(6,newslices.v),(25,slicess.v),(26,iv (slices.length:Int)),(27,iv k1)],[fs false slices slicess],[os false 29 newslice newslices]⟩) (fun ⟨newslice,newslices,k1⟩=>(0≤k1)∧(k1≤(slices.length:Int))∧(newslice=Rv.cat (slices.take k1.toNat))∧((newslice.length:Int)≤100 * k1)) (fun ⟨newslice,newslices,k1⟩=>((slices.length:Int)-k1).toNat) (([]:List (Fat Int)),(G9 1).ss 0,0) (by kernel_rfl) [0] (by kernel_rfl) ?_ ?_
  · refine ⟨?_,?_,?_,?_⟩
    · show 0≤(0:Int)
      first | omega | simp
    · show (0:Int)≤(slices.length:Int)
      first | omega | simp
    · show ([]:List (Fat Int))=Rv.cat (slices.take (0:Int).toNat);rfl
    show (([]:List (Fat Int)).length:Int)≤100 * (0:Int)
    first | omega | simp
  rintro ⟨newslice,newslices,k1⟩ hF2 kw12 Z2 hZ2;have hF2:(0≤k1)∧(k1≤(slices.length:Int))∧(newslice=Rv.cat (slices.take k1.toNat))∧((newslice.length:Int)≤100 * k1):=hF2;obtain ⟨hf5,hf6,hf7,hf8⟩:=hF2;obtain ⟨-,⟨kl3, -⟩, -⟩:Lq slices slicess.v∧Lq newslice newslices.v∧True:=kq kw12;clear kw12;refine V.g [.k (bv (decide (k1 < (slices.length:Int))))] fun _ _ G11=>?_;intro S_ s_;refine V.cn (b:=decide (k1 < (slices.length:Int))) iDT iDF (fun q5=>?_) (fun q6=>?_)
  · refine nm (slices.getD k1.toNat default:Fat (Fat Int)) fun x2 hx2=>?_;refine V.r [.ix g0 (kf false (.f 0) slices (fun _=>slicess)) k1 (fun _=>⟨by omega,by omega⟩),.le g0 (kf false (.f 0) slices (fun _=>slicess)) k1 none true x2 hx2 (fun _=>⟨by omega,by omega⟩) false (fun _=>[x2.s.v]),.k (x2.s.v)] fun _ _ G12 kw14=>?_;intro S_ s_
    obtain ⟨⟨kl4, -⟩, -⟩:Lq x2.l x2.s.v∧Lq newslice newslices.v∧True:=kq kw14;clear kw14;have hbx:=hb _ (getD_mem (by omega) hx2);refine nm (newslice ++x2.l:List (Fat Int)) fun l1 hl1=>?_;have hl1n:=congrArg List.length hl1;try simp only [List.length_append,List.length_cons,List.length_nil,List.length_replicate,List.length_set,List.length_take,List.length_drop,List.length_map,List.length_reverse,List.length_range] at hl1n
    refine V.g [.k (newslices.v),.k (x2.s.v),.ap 2 0 29 24 false false newslice (fun _=>newslices) (kx false (.f 1) x2 x2.l (fun _=>x2.s) (fun _ _ h=>h)) false l1 hl1 (by (try simp only [List.length_append,List.length_cons,List.length_nil,List.length_replicate,List.length_set,List.length_take,List.length_drop,List.length_map,List.length_reverse,List.length_range]);omega) (fun h=>by cases h) (.inl fun h=>by cases h),.v fun G=>((G 2).s).v] fun _ _ G13=>?_;intro S_ s_
    refine V.g [.a (k1+1) (by omega) (by omega),.k (iv (k1+1))] fun _ _ G14=>?_;intro S_ s_
    refine V.rnd hZ2 (l1,(G13 2).s,k1+1) [0] (by kernel_rfl) ?_ ?_
    · refine ⟨?_,?_,?_,?_⟩
      · show 0≤(k1+1)
        first | omega | rfl | (simp;done) | (subst_vars;simp;done)
      · show (k1+1)≤(slices.length:Int)
        first | omega | rfl | (simp;done) | (subst_vars;simp;done)
      · show l1=Rv.cat (slices.take (k1+1).toNat);exact Rv.cat_step (by omega) (by omega) hf7 hx2 hl1
      show (l1.length:Int)≤100 * (k1+1);omega
    show ((slices.length:Int)-(k1+1)).toNat < ((slices.length:Int)-k1).toNat;omega
  refine V.g [.k (newslices.v),.k (newslices.v)] fun _ _ G15=>?_;intro S_ s_
  have e0:newslice=Rv.cat slices:=by rw [hf7,List.take_of_length_le (by omega)]
  subst e0;exact V.rs [0] [newslices] [fun _=>{}] [] [] [0] (newslices.v)

namespace Tm
theorem Down.has1 {l:List DThing} {r a:Int} (h:Down l r a):has l r:=by cases h <;> assumption
theorem down_path {l:List DThing} {p:List Int} (hw:walksTo l p p.length):∀ d i:Nat,i+d < p.length→Down l (pe p i) (pe p (i+d))
  | 0,i,h=>.refl (hw i h).1
  | d+1,i,h=>by
    have h1:=hw (i+1) (by omega)
    have h2:=h1.2 (by omega)
    rw [show i+1 - 1=i by omega] at h2
    have:=down_path hw d (i+1) (by omega)
    rw [show i+1+d=i+(d+1) by omega] at this
    exact .step (hw i (by omega)).1 h1.1 h2 this
theorem bd_el {l:List DThing} (hS:Sound l) {r:Int} (hr:has l r):0≤(el l r).Value∧(el l r).Value≤1125899906842624∧0≤(el l r).Blind∧(el l r).Blind≤1125899906842624:=by
  unfold has at hr
  have:=bd_of hS.2 (Nat.le_refl _) r.toNat (by omega)
  exact this
end Tm

namespace Tm
theorem pathF_len (l:List DThing) (root leaf:Int):(pathF l root leaf).length≤2001:=by
  by_cases h:(pathF l root leaf).length=0
  · omega
  · obtain ⟨hS,h1,h2,h3⟩:=pathF_cond h
    rw [pathF_yes hS h1 h2 h3]
    have:=(rest_len l leaf root.toNat root).2
    have:=hS.1
    unfold has at h1
    unfold rest;omega
theorem view_len {l:List DThing} {p:List Int} {w:List DThing} (hw:w=viewF l p) (hW:Walks l p):w.length=p.length∧∀ i:Nat,i < p.length→w.getD i default=viewEl l p i:=by
  subst hw
  unfold viewF;rw [if_pos hW]
  refine ⟨by simp [viewN],fun i hi=>?_⟩
  simp [viewN,hi]
end Tm

open Go
namespace Rv
open Tm
def oe (o:List Int) (i:Nat):Int:=o.getD i default
def stepE (v:List DThing) (r:Int) (o:List Int) (i:Nat):Int:=if (pathF v r (oe o i)).length=0∨¬ (el v (oe o i)).Left= -1 then 4 else if oe o i ∈ o.take i then 5 else 0
def scanE (v:List DThing) (r:Int) (o:List Int):Nat→Int
  | 0=>0
  | n+1=>if scanE v r o n=0 then stepE v r o n else scanE v r o n
def showE (v:List DThing) (r:Int) (o:List Int):Int:=if argS v r o then scanE v r o o.length else 1
def showP (v:List DThing) (r:Int) (o:List Int):List (List Int):=if showE v r o=0 then o.map (pathF v r) else []
def showS (v:List DThing) (r:Int) (o:List Int):List (List DThing):=if showE v r o=0 then o.map fun a=>viewF v (pathF v r a) else []
theorem scan_stop {v:List DThing} {r:Int} {o:List Int} {k:Nat} (h:scanE v r o k=0) (hs:stepE v r o k≠0):∀ n,k < n→scanE v r o n=stepE v r o k
  | n+1,hn=>by
    unfold scanE
    by_cases e:k=n
    · subst e;rw [if_pos h]
    · rw [scan_stop h hs n (by omega),if_neg hs]
section
variable {v : List DThing} {r : Int} {o : List Int} {k a : Int} {x : DThing}
theorem show_arg (h:¬ argS v r o):showE v r o=1∧showP v r o=[]∧showS v r o=[]:=by
  have e:showE v r o=1:=by unfold showE;rw [if_neg h]
  exact ⟨e,by unfold showP;rw [e];rfl,by unfold showS;rw [e];rfl⟩
theorem show_stop (h:argS v r o) (hk:k.toNat < o.length) (hs:scanE v r o k.toNat=0) {e:Int} (he:stepE v r o k.toNat=e) (hn:e≠0):showE v r o=e∧showP v r o=[]∧showS v r o=[]:=by
  have e1:showE v r o=e:=by unfold showE;rw [if_pos h,scan_stop hs (by rw [he];exact hn) _ hk,he]
  exact ⟨e1,by unfold showP;rw [e1,if_neg hn],by unfold showS;rw [e1,if_neg hn]⟩
theorem show_ok (h:argS v r o) (hk:k.toNat=o.length) (hs:scanE v r o k.toNat=0):showE v r o=0∧showP v r o=o.map (pathF v r)∧showS v r o=o.map fun a=>viewF v (pathF v r a):=by
  have e1:showE v r o=0:=by unfold showE;rw [if_pos h,← hk,hs]
  exact ⟨e1,by unfold showP;rw [e1,if_pos rfl],by unfold showS;rw [e1,if_pos rfl]⟩
theorem step_4 (ha:a=o.getD k.toNat default) (hx:x=v.getD a.toNat default) (hq:((pathF v r a).length:Int)=0∨¬ x.Left= -1):stepE v r o k.toNat=4:=by
  unfold stepE oe el
  rw [←ha,← hx,if_pos (by rcases hq with h | h;exact .inl (by omega);exact .inr h)]
theorem step_5 (ha:a=o.getD k.toNat default) (hx:x=v.getD a.toNat default) (hq:¬ ((pathF v r a).length:Int)=0∧x.Left= -1) (hm:a ∈ o.take k.toNat):stepE v r o k.toNat=5:=by
  unfold stepE oe el
  rw [←ha,← hx,if_neg (by rintro (h | h);exact hq.1 (by omega);exact h hq.2),if_pos hm]
theorem step_0 (ha:a=o.getD k.toNat default) (hx:x=v.getD a.toNat default) (hq:¬ ((pathF v r a).length:Int)=0∧x.Left= -1) (hm:¬ a ∈ o.take k.toNat) (h0:0≤k) (hs:scanE v r o k.toNat=0):scanE v r o (k+1).toNat=0:=by
  rw [show (k+1).toNat=k.toNat+1 by omega]
  unfold scanE
  rw [if_pos hs]
  unfold stepE oe el
  rw [←ha,← hx,if_neg (by rintro (h | h);exact hq.1 (by omega);exact h hq.2),if_neg hm]
theorem path_has (h:¬ ((pathF v r a).length:Int)=0):0≤a∧a < v.length:=(pathF_cond (l:=v) (root:=r) (leaf:=a) (fun e=>h (by omega))).2.2.1
theorem take_map {β:Type} {f:Int→List β} {m m2:List (Fat β)} {s:SV} (h0:0≤k) (hk:k < o.length) (ha:a=o.getD k.toNat default) (h:m.map (·.l)=(o.take k.toNat).map f) (h2:m2=m ++[⟨f a,s⟩]):m2.map (·.l)=(o.take (k+1).toNat).map f:=by
  rw [show (k+1).toNat=k.toNat+1 by omega]
  have hk':k.toNat < o.length:=by omega
  have e:o[k.toNat]=a:=by rw [ha,List.getD_eq_getElem?_getD,List.getElem?_eq_getElem hk'];rfl
  rw [List.take_add_one,List.getElem?_eq_getElem hk',e,h2,List.map_append,h]
  simp
end
end Rv

open Go Go.Proofs
set_option maxRecDepth 10000 in
theorem show_ct (v:List DThing) (vs:SV) (root:Int) (open_:List Int) (open_s:SV) :
    Ct Try.prog 28 #[ag (DVault.mk ⟨v,vs⟩),iv root,open_s.v] [fs true v vs,fs true open_ open_s] [] (fun g=>.tuple #[((g.ss 0)).v,((g.ss 1)).v,iv (Rv.showE v root open_)]) (fun g=>[fs true (fats (Rv.showP v root open_) (g.sl 0)) (g.ss 0),fs true (fats (Rv.showS v root open_) (g.sl 1)) (g.ss 1)]) (fun g=>[]) (fun g=>[]):=by
  refine V.fn mo Try.func28 79 3 (by kernel_rfl) fun w H ε k0=>?_;obtain ⟨⟨kl1, -⟩,⟨kl2, -⟩, -⟩:Lq v vs.v∧Lq open_ open_s.v∧True:=kq k0
  clear k0;refine V.g [.nb 0 0 (fun b=>pp b 0) 51 (fun _=>ca (DVault.mk ⟨v,vs⟩)),.k (.slice none 0 0),.k (.slice none 0 0),.k (iv 0)] fun _ _ G1=>?_;intro S_ s_
  refine nm ((!(decide (Tm.Sound v))) || (decide (root < 0)):Bool) fun p1 hp1=>?_;refine nm ((p1 || (decide ((v.length:Int)≤root))) || (decide ((open_.length:Int)=0)):Bool) fun p2 hp2=>?_;refine V.g [.ld 0 0 true (fun _=>Dat.cells (DVault.mk ⟨v,vs⟩)),.cp g0 1 59 [(kf false (.f 0) v (fun _=>vs)).a] (fun _ G=>sound_ct v vs),.k (bv (!(decide (Tm.Sound v)))),.k (bv (!(decide (Tm.Sound v)))),.k (iv root),.k (bv (decide (root < 0))),.orn g0 false (!(decide (Tm.Sound v))) (decide (root < 0)) p1 hp1,.k (bv p1),.k (iv root),.k (pp ((G1 0).b) 0),.ld 0 0 false (fun _=>[vs.v]),.ln (kf false (.f 0) v (fun _=>vs)),.k (bv (decide ((v.length:Int)≤root))),.or g0 false p1 (decide ((v.length:Int)≤root)),.k (bv (p1 || (decide ((v.length:Int)≤root)))),.k (open_s.v),.ln (kf false (.f 1) open_ (fun _=>open_s)),.k (bv (decide ((open_.length:Int)=0))),.orn g0 false (p1 || (decide ((v.length:Int)≤root))) (decide ((open_.length:Int)=0)) p2 hp2,.k (bv p2),.k (open_s.v),.ln (kf false (.f 1) open_ (fun _=>open_s)),.k (bv (decide (64 < (open_.length:Int)))),.or g0 false p2 (decide (64 < (open_.length:Int)))] fun _ _ G2=>?_;intro S_ s_
  refine V.cn (b:=p2 || (decide (64 < (open_.length:Int)))) (iOT (iN hp2 (iOT (iOT (iN hp1 (iOT (iNT iDF) iDT)) iDT) iDT)) iDT) (iOF (iN hp2 (iOF (iOF (iN hp1 (iOF (iNF iDT) iDF)) iDF) iDF)) iDF) (fun q1=>?_) (fun q2=>?_)
  · have hno:=Rv.show_arg (v:=v) (r:=root) (o:=open_) (by rintro ⟨h1,h2,h3,h4⟩;rcases q1 with (((h | h) | h) | h) | h <;> first | exact h h1 | omega);refine V.g [.k (.slice none 0 0),.k (.slice none 0 0),.k (iv 1)] fun _ _ G3=>?_;intro S_ s_
    refine V.nilF (α:=Fat Int) ?_;refine V.nilF (α:=Fat DThing) ?_;have e0:([]:List (Fat Int)).map (·.l)=(Rv.showP v root open_):=by rw [hno.2.1];rfl
    rw [←e0];have e1:([]:List (Fat DThing)).map (·.l)=(Rv.showS v root open_):=by rw [hno.2.2];rfl
    rw [←e1];have e2:(1:Int)=Rv.showE v root open_:=hno.1.symm;exact V.rt [0,0,0] [{},{}] [fun _=>{},fun _=>{}] [] [2,3] [] (.tuple #[SV.v ({}),SV.v ({}),iv 1]) (cong1 (fun (x2:Int)=>(.tuple #[SV.v ({}),SV.v ({}),iv x2]:Value)) e2)
  have hA:Rv.argS v root open_:=⟨by rcases q2 with ⟨⟨⟨⟨h,_⟩,_⟩,_⟩,_⟩;first | exact h | exact Decidable.not_not.1 h,by omega,by omega,by omega⟩;refine V.g [.k (open_s.v),.ln (kf false (.f 1) open_ (fun _=>open_s)),.k (iv 0)] fun _ _ G4=>?_;intro S_ s_
  refine V.on (α:=Fat Int) 1 29 (by kernel_rfl) ?_;refine V.on (α:=Fat DThing) 2 49 (by kernel_rfl) ?_;refine V.loop (γ:=List (Fat Int) × SV × List (Fat DThing) × SV × Int) (fun ⟨paths,pathss,seen,seens,k0⟩=>⟨[(1,iv root),(2,open_s.v),(3,pp ((G1 0).b) 0),(6,pathss.v),(7,seens.v),(36,open_s.v),(37,iv (open_.length:Int)),(38,iv k0)],[fs false open_ open_s,fs false v vs],[.blk ((G1 0).b) (ca (DVault.mk ⟨v,vs⟩)) 51,os true 29 paths pathss,os true 49 seen seens]⟩) (fun ⟨paths,pathss,seen,seens,k0⟩=>(0≤k0)∧(k0≤(open_.length:Int))∧(Rv.scanE v root open_ k0.toNat=0)∧(paths.map (·.l)=(open_.take k0.toNat).map (Tm.pathF v root))∧(seen.map (·.l)=(open_.take k0.toNat).map (fun a=>Tm.viewF v (Tm.pathF v root a)))) (fun ⟨paths,pathss,seen,seens,k0⟩=>((open_.length:Int)-k0).toNat) (([]:List (Fat Int)),{},([]:List (Fat DThing)),{},0) (by kernel_rfl) [1,0] (by kernel_rfl) ?_ ?_
  · refine ⟨?_,?_,?_,?_,?_⟩
    · show 0≤(0:Int)
      first | omega | rfl | (simp;done) | (subst_vars;simp;done)
    · show (0:Int)≤(open_.length:Int)
      first | omega | rfl | (simp;done) | (subst_vars;simp;done)
    · show Rv.scanE v root open_ (0:Int).toNat=0;rfl
    · show ([]:List (Fat Int)).map (·.l)=(open_.take (0:Int).toNat).map (Tm.pathF v root);rfl
    show ([]:List (Fat DThing)).map (·.l)=(open_.take (0:Int).toNat).map (fun a=>Tm.viewF v (Tm.pathF v root a));rfl
  rintro ⟨paths,pathss,seen,seens,k0⟩ hF1 kw5 Z1 hZ1;have hF1:(0≤k0)∧(k0≤(open_.length:Int))∧(Rv.scanE v root open_ k0.toNat=0)∧(paths.map (·.l)=(open_.take k0.toNat).map (Tm.pathF v root))∧(seen.map (·.l)=(open_.take k0.toNat).map (fun a=>Tm.viewF v (Tm.pathF v root a))):=hF1;obtain ⟨hf1,hf2,hf3,hf4,hf5⟩:=hF1;obtain ⟨-, -,⟨kl3, -⟩,⟨kl4, -⟩, -⟩:Lq open_ open_s.v∧Lq v vs.v∧Lq paths pathss.v∧Lq seen seens.v∧True:=kq kw5;clear kw5;have hln1:=congrArg List.length hf4;simp only [List.length_map,List.length_take] at hln1;have hln2:=congrArg List.length hf5;simp only [List.length_map,List.length_take] at hln2;refine V.g [.k (bv (decide (k0 < (open_.length:Int))))] fun _ _ G5=>?_;intro S_ s_;refine V.cn (b:=decide (k0 < (open_.length:Int))) iDT iDF (fun q3=>?_) (fun q4=>?_)
  · refine nm (open_.getD k0.toNat default:Int) fun v1 hv1=>?_;refine V.g [.k (iv k0),.ix g0 (kf false (.f 0) open_ (fun _=>open_s)) k0 (fun _=>⟨by omega,by omega⟩),.le g0 (kf false (.f 0) open_ (fun _=>open_s)) k0 none false v1 hv1 (fun _=>⟨by omega,by omega⟩) false (fun _=>[iv v1]),.k (iv k0),.k (iv v1)] fun _ _ G6=>?_;intro S_ s_
    refine V.r [.ld 0 0 true (fun _=>Dat.cells (DVault.mk ⟨v,vs⟩)),.k (iv root),.k (iv v1),.ct g0 3 25 false [] [] [(kf false (.f 1) v (fun _=>vs)).a] (fun _ G=>path_ct v vs root v1),.v fun G=>((G 3).ss 0).v] fun _ _ G7 kw8=>?_;intro S_ s_
    obtain ⟨⟨kl5, -⟩, -⟩:Lq (Tm.pathF v root v1) (((G7 3).ss 0).v)∧Lq paths pathss.v∧Lq seen seens.v∧True:=kq kw8;clear kw8;refine nm (v.getD v1.toNat default:DThing) fun x1 hx1=>?_;refine nm ((decide (((Tm.pathF v root v1).length:Int)=0)) || (!(decide (x1.Left=(-1)))):Bool) fun p3 hp3=>?_;refine V.g [.k (((G7 3).ss 0).v),.ln (kf true (.f 2) (Tm.pathF v root v1) (fun _=>(G7 3).ss 0)),.k (bv (decide (((Tm.pathF v root v1).length:Int)=0))),.k (bv (decide (((Tm.pathF v root v1).length:Int)=0))),.k (pp ((G1 0).b) 0),.ld 0 0 false (fun _=>[vs.v]),.k (iv v1),.ix (gF (b:=decide (((Tm.pathF v root v1).length:Int)=0)) iDF) (kf false (.f 1) v (fun _=>vs)) v1 (fun hg=>⟨(Rv.path_has hg).1,(Rv.path_has hg).2⟩),.k (.pointer (some ((elemAddr vs.v (v1.toNat * 5)).add 3))),.le (gF (b:=decide (((Tm.pathF v root v1).length:Int)=0)) iDF) (kf false (.f 1) v (fun _=>vs)) v1 (some 3) false x1 hx1 (fun hg=>⟨(Rv.path_has hg).1,(Rv.path_has hg).2⟩) false (fun _=>[iv x1.Left]),.k (bv (!(decide (x1.Left=(-1))))),.orn g0 false (decide (((Tm.pathF v root v1).length:Int)=0)) (!(decide (x1.Left=(-1)))) p3 hp3,.k (bv p3)] fun _ _ G8=>?_;intro S_ s_;refine V.cn (b:=p3) (iN hp3 (iOT iDT (iNT iDF))) (iN hp3 (iOF iDF (iNF iDT))) (fun q5=>?_) (fun q6=>?_)
    · have hno:=Rv.show_stop hA (by omega) hf3 (Rv.step_4 hv1 hx1 q5) (by decide);refine V.g [.k (.slice none 0 0),.k (.slice none 0 0),.k (iv 4)] fun _ _ G9=>?_;intro S_ s_
      refine V.nilF (α:=Fat Int) ?_;refine V.nilF (α:=Fat DThing) ?_;have e0:([]:List (Fat Int)).map (·.l)=(Rv.showP v root open_):=by rw [hno.2.1];rfl
      rw [←e0];have e1:([]:List (Fat DThing)).map (·.l)=(Rv.showS v root open_):=by rw [hno.2.2];rfl
      rw [←e1];have e2:(4:Int)=Rv.showE v root open_:=hno.1.symm;exact V.rt [0,0,0] [{},{}] [fun _=>{},fun _=>{}] [] [3,4] [] (.tuple #[SV.v ({}),SV.v ({}),iv 4]) (cong1 (fun (x2:Int)=>(.tuple #[SV.v ({}),SV.v ({}),iv x2]:Value)) e2)
    refine nm (open_.take k0.toNat:List Int) fun l1 hl1=>?_;have hl1n:=congrArg List.length hl1;try simp only [List.length_append,List.length_cons,List.length_nil,List.length_replicate,List.length_set,List.length_take,List.length_drop,List.length_map,List.length_reverse,List.length_range] at hl1n
    refine V.r [.k (open_s.v),.k (iv k0),.sl g0 (kf false (.f 0) open_ (fun _=>open_s)) rfl none (some k0) 0 k0 rfl rfl l1 (by rw [hl1];simp) (fun _=>⟨by omega,by omega,by omega⟩),.k (iv v1),.cp g0 4 73 [(kf false (.g 2 0) l1 (fun _=>(open_s.sub 1 (0:Int).toNat k0.toNat))).a] (fun _ G=>contains_ct l1 (open_s.sub 1 (0:Int).toNat k0.toNat) v1),.k (bv (decide (v1 ∈ l1)))] fun _ _ G10 kw11=>?_;intro S_ s_
    obtain ⟨⟨kl6, -⟩, -⟩:Lq l1 ((open_s.sub 1 (0:Int).toNat k0.toNat).v)∧Lq paths pathss.v∧Lq seen seens.v∧True:=kq kw11;clear kw11;refine V.cn (b:=decide (v1 ∈ l1)) iDT iDF (fun q7=>?_) (fun q8=>?_)
    · have hno:=Rv.show_stop hA (by omega) hf3 (Rv.step_5 hv1 hx1 q6 (hl1 ▸ q7)) (by decide);refine V.g [.k (.slice none 0 0),.k (.slice none 0 0),.k (iv 5)] fun _ _ G11=>?_;intro S_ s_
      refine V.nilF (α:=Fat Int) ?_;refine V.nilF (α:=Fat DThing) ?_;have e0:([]:List (Fat Int)).map (·.l)=(Rv.showP v root open_):=by rw [hno.2.1];rfl
      rw [←e0];have e1:([]:List (Fat DThing)).map (·.l)=(Rv.showS v root open_):=by rw [hno.2.2];rfl
      rw [←e1];have e2:(5:Int)=Rv.showE v root open_:=hno.1.symm;exact V.rt [0,0,0] [{},{}] [fun _=>{},fun _=>{}] [] [4,5] [] (.tuple #[SV.v ({}),SV.v ({}),iv 5]) (cong1 (fun (x2:Int)=>(.tuple #[SV.v ({}),SV.v ({}),iv x2]:Value)) e2)
    refine nm (paths ++([⟨Tm.pathF v root v1,(G7 3).ss 0⟩]:List (Fat Int)):List (Fat Int)) fun l2 hl2=>?_;have hl2n:=congrArg List.length hl2;try simp only [List.length_append,List.length_cons,List.length_nil,List.length_replicate,List.length_set,List.length_take,List.length_drop,List.length_map,List.length_reverse,List.length_range] at hl2n
    refine V.r [.k (pathss.v),.k (((G7 3).ss 0).v),.nr 2 true 29 ([⟨Tm.pathF v root v1,(G7 3).ss 0⟩]:List (Fat Int)) [(kf true (.f 2) (Tm.pathF v root v1) (fun _=>(G7 3).ss 0)).a] (fun _ _ h=>(List.forall_mem_cons.2 ⟨h.1,(List.forall_mem_nil _)⟩)) (fun _=>#[((G7 3).ss 0).v]),.ap 3 1 29 24 false true paths (fun _=>pathss) (kf true (.g 2 0) ([⟨Tm.pathF v root v1,(G7 3).ss 0⟩]:List (Fat Int)) (fun G=>⟨atB (G 2).b,1,1⟩)) true l2 hl2 (by (try simp only [List.length_append,List.length_cons,List.length_nil,List.length_replicate,List.length_set,List.length_take,List.length_drop,List.length_map,List.length_reverse,List.length_range]);omega) (fun h=>by cases h) (.inl fun _=>⟨rfl,rfl⟩),.k (seens.v),.ld 0 0 true (fun _=>Dat.cells (DVault.mk ⟨v,vs⟩)),.k (((G7 3).ss 0).v),.ct g0 7 58 false [] [] [(kf false (.f 1) v (fun _=>vs)).a,(kf true (.f 2) (Tm.pathF v root v1) (fun _=>(G7 3).ss 0)).a] (fun _ G=>view_ct v vs (Tm.pathF v root v1) ((G7 3).ss 0) (by have:=Tm.pathF_len v root v1;omega)),.nrG 8 true 49 (fun G=>([⟨Tm.viewF v (Tm.pathF v root v1),(G 7).ss 0⟩]:List (Fat DThing))) 1 (fun _=>rfl) [(kf true (.g 7 0) (Tm.viewF v (Tm.pathF v root v1)) (fun G=>(G 7).ss 0)).a] (fun _ _ h=>(List.forall_mem_cons.2 ⟨h.1,(List.forall_mem_nil _)⟩)) (fun G=>#[((G 7).ss 0).v]),.apG 9 2 49 24 false true seen (fun _=>seens) (.g 8 0) true (fun G=>([⟨Tm.viewF v (Tm.pathF v root v1),(G 7).ss 0⟩]:List (Fat DThing))) 1 (fun _=>rfl) (fun G=>⟨atB (G 8).b,1,1⟩) true (by (try simp only [List.length_append,List.length_cons,List.length_nil,List.length_replicate,List.length_set,List.length_take,List.length_drop,List.length_map,List.length_reverse,List.length_range]);omega) (fun h=>by cases h) (fun _=>⟨rfl,rfl⟩),.v fun G=>((G 3).s).v,.v fun G=>((G 9).s).v] fun _ _ G12 kw13=>?_;intro S_ s_
    obtain ⟨⟨kl7, -⟩,⟨kl8, -⟩,⟨kl9, -⟩, -⟩:Lq ([⟨Tm.pathF v root v1,(G7 3).ss 0⟩]:List (Fat Int)) (SV.v ⟨atB (G12 2).b,1,1⟩)∧Lq (Tm.viewF v (Tm.pathF v root v1)) (((G12 7).ss 0).v)∧Lq ([⟨Tm.viewF v (Tm.pathF v root v1),(G12 7).ss 0⟩]:List (Fat DThing)) (SV.v ⟨atB (G12 8).b,1,1⟩)∧Lq l2 (((G12 3).s).v)∧Lq (seen ++([⟨Tm.viewF v (Tm.pathF v root v1),(G12 7).ss 0⟩]:List (Fat DThing))) (((G12 9).s).v)∧True:=kq kw13;clear kw13;refine V.g [.a (k0+1) (by omega) (by omega),.k (iv (k0+1))] fun _ _ G13=>?_;intro S_ s_;refine V.rnd hZ1 (l2,(G12 3).s,seen ++([⟨Tm.viewF v (Tm.pathF v root v1),(G12 7).ss 0⟩]:List (Fat DThing)),(G12 9).s,k0+1) [0,1] (by kernel_rfl) ?_ ?_
    · refine ⟨?_,?_,?_,?_,?_⟩
      · show 0≤(k0+1)
        first | omega | rfl | (simp;done) | (subst_vars;simp;done)
      · show (k0+1)≤(open_.length:Int)
        first | omega | rfl | (simp;done) | (subst_vars;simp;done)
      · show Rv.scanE v root open_ (k0+1).toNat=0;exact Rv.step_0 hv1 hx1 q6 (hl1 ▸ q8) (by omega) hf3
      · show l2.map (·.l)=(open_.take (k0+1).toNat).map (Tm.pathF v root);exact Rv.take_map (by omega) (by omega) hv1 hf4 hl2
      show (seen ++([⟨Tm.viewF v (Tm.pathF v root v1),(G12 7).ss 0⟩]:List (Fat DThing))).map (·.l)=(open_.take (k0+1).toNat).map (fun a=>Tm.viewF v (Tm.pathF v root a));exact Rv.take_map (f:=fun a=>Tm.viewF v (Tm.pathF v root a)) (by omega) (by omega) hv1 hf5 rfl
    show ((open_.length:Int)-(k0+1)).toNat < ((open_.length:Int)-k0).toNat;omega
  have hno:=Rv.show_ok hA (k:=k0) (by omega) hf3;refine V.g [.k (pathss.v),.k (seens.v),.k (pathss.v),.k (seens.v),.k (iv 0)] fun _ _ G14=>?_;intro S_ s_
  refine V.frz 1 true 29 paths pathss (by kernel_rfl) ?_;refine V.frz 2 true 49 seen seens (by kernel_rfl) ?_;have e0:paths.map (·.l)=(Rv.showP v root open_):=by rw [hno.2.1,← List.take_of_length_le (l:=open_) (i:=k0.toNat) (by omega)];exact hf4
  obtain ⟨σ0,E0⟩:=fats_ex e0;subst E0;clear e0;have e1:seen.map (·.l)=(Rv.showS v root open_):=by rw [hno.2.2,← List.take_of_length_le (l:=open_) (i:=k0.toNat) (by omega)];exact hf5
  obtain ⟨σ1,E1⟩:=fats_ex e1;subst E1;clear e1;have e2:(0:Int)=Rv.showE v root open_:=hno.1.symm;exact V.rt [0,0,0] [pathss,seens] [σ0,σ1] [] [2,3] [] (.tuple #[pathss.v,seens.v,iv 0]) (cong1 (fun (x2:Int)=>(.tuple #[pathss.v,seens.v,iv x2]:Value)) e2)

open Go
namespace Rv
open Tm
def plS (l:List Int) (s:List Int × List Int) (a:UInt8):List Int × List Int:=if (a.toNat:Int) % l.length ∈ s.2 then s else (s.1 ++[l.getD ((a.toNat:Int) % l.length).toNat default],s.2 ++[(a.toNat:Int) % l.length])
def plN (l:List Int) (as':List UInt8):List Int × List Int:=if l.length=0 then ([],[]) else as'.foldl (plS l) ([],[])
theorem plN_step {l:List Int} {as':List UInt8} {k n:Int} {x:UInt8} (h0:0≤k) (hk:k < as'.length) (hl:0 < (l.length:Int)) (hx:x=as'.getD k.toNat default) (hn:n=(x.toNat:Int) % l.length):plN l (as'.take (k+1).toNat)=if n ∈ (plN l (as'.take k.toNat)).2 then plN l (as'.take k.toNat) else ((plN l (as'.take k.toNat)).1 ++[l.getD n.toNat default],(plN l (as'.take k.toNat)).2 ++[n]):=by
  rw [show (k+1).toNat=k.toNat+1 by omega]
  have hk':k.toNat < as'.length:=by omega
  have e:as'[k.toNat]=x:=by rw [hx,List.getD_eq_getElem?_getD,List.getElem?_eq_getElem hk'];rfl
  have hl':¬ l.length=0:=by omega
  unfold plN
  simp only [if_neg hl']
  rw [List.take_add_one,List.getElem?_eq_getElem hk',e,List.foldl_append,hn]
  rfl
theorem plN_end {l:List Int} {as':List UInt8} {k:Int} (h0:0≤k) (h:¬ (k < as'.length∧0 < (l.length:Int))):plN l (as'.take k.toNat)=plN l as':=by
  by_cases e:l.length=0
  · unfold plN;rw [if_pos e,if_pos e]
  · rw [List.take_of_length_le (by omega)]
theorem plN_zero (l:List Int):plN l []=([],[]):=by unfold plN;split <;> rfl
end Rv

open Go Go.Proofs
set_option maxRecDepth 10000 in
theorem has49_ct (l:List Int) (ls:SV) (n:Int) :
    Cp Try.prog 30 #[ls.v,iv n] [fs true l ls] (bv (decide (n ∈ l))):=by
  refine V.fn mo Try.func30 18 0 (by kernel_rfl) fun w H ε k0=>?_;obtain ⟨⟨kl1, -⟩, -⟩:Lq l ls.v∧True:=kq k0
  clear k0;refine V.g [.kb false] fun _ _ G1=>?_;intro S s
  refine V.g [.k (iv 0)] fun _ _ G2=>?_;intro S s
  refine V.loop (γ:=Int) (fun i=>⟨[(0,ls.v),(1,iv n),(5,iv i)],[fs false l ls],[]⟩) (fun i=>(0≤i)∧(i≤(l.length:Int))∧(∀ j,j < i.toNat→l.getD j default≠n)) (fun i=>((l.length:Int)-i).toNat) 0 (by kernel_rfl) [0] (by kernel_rfl) ?_ ?_
  · refine ⟨?_,?_,?_⟩
    · show 0≤(0:Int)
      first | omega | rfl | (simp;done) | (subst_vars;simp;done)
    · show (0:Int)≤(l.length:Int)
      first | omega | rfl | (simp;done) | (subst_vars;simp;done)
    show ∀ j,j < (0:Int).toNat→l.getD j default≠n;intro j hj;simp at hj
  rintro i hF1 kw3 Z1 hZ1;have hF1:(0≤i)∧(i≤(l.length:Int))∧(∀ j,j < i.toNat→l.getD j default≠n):=hF1;obtain ⟨hf1,hf2,hf3⟩:=hF1;clear kw3;refine V.g [.k (iv i),.k (ls.v),.ln (kf false (.f 0) l (fun _=>ls)),.k (bv (decide (i < (l.length:Int))))] fun _ _ G3=>?_;intro S s;refine V.cn (b:=decide (i < (l.length:Int))) iDT iDF (fun q1=>?_) (fun q2=>?_)
  · refine nm (l.getD i.toNat default:Int) fun v1 hv1=>?_;refine V.g [.k (ls.v),.k (iv i),.ix g0 (kf false (.f 0) l (fun _=>ls)) i (fun _=>⟨by omega,by omega⟩),.le g0 (kf false (.f 0) l (fun _=>ls)) i none false v1 hv1 (fun _=>⟨by omega,by omega⟩) false (fun _=>[iv v1]),.k (iv n),.k (bv (decide (v1=n)))] fun _ _ G4=>?_;intro S s
    refine V.cn (b:=decide (v1=n)) iDT iDF (fun q3=>?_) (fun q4=>?_)
    · refine V.g [.kb true] fun _ _ G5=>?_;intro S s
      have e0:true=decide (n ∈ l):=by symm;rw [decide_eq_true_iff,← q3,hv1];exact getD_mem (by omega) rfl
      exact V.rt [0] [] [] [] [] [] (bv true) (cong1 (fun (x0:Bool)=>(bv x0:Value)) e0)
    refine V.g [.k (iv i),.a (i+1) (by omega) (by omega),.k (iv (i+1))] fun _ _ G6=>?_;intro S s
    refine V.rnd hZ1 (i+1) [0] (by kernel_rfl) ?_ ?_
    · refine ⟨?_,?_,?_⟩
      · show 0≤(i+1)
        first | omega | rfl | (simp;done) | (subst_vars;simp;done)
      · show (i+1)≤(l.length:Int)
        first | omega | rfl | (simp;done) | (subst_vars;simp;done)
      show ∀ j,j < (i+1).toNat→l.getD j default≠n;intro j hj;by_cases e:j < i.toNat
      · exact hf3 j e
      rw [show j=i.toNat by omega,← hv1];exact q4
    show ((l.length:Int)-(i+1)).toNat < ((l.length:Int)-i).toNat;omega
  refine V.g [.kb false] fun _ _ G7=>?_;intro S s
  have e0:false=decide (n ∈ l):=by symm;rw [decide_eq_false_iff_not];intro h;obtain ⟨j,hj,e⟩:=List.getElem_of_mem h;refine hf3 j (by omega) ?_;simp [List.getD_eq_getElem?_getD,hj,e]
  exact V.rt [0] [] [] [] [] [] (bv false) (cong1 (fun (x0:Bool)=>(bv x0:Value)) e0)
set_option maxRecDepth 10000 in
theorem places_ct (l:List Int) (ls:SV) (at_:List UInt8) (at_s:SV) (hb:at_.length≤1000) :
    Ct Try.prog 27 #[ls.v,at_s.v] [fs true l ls,fs true at_ at_s] [] (fun g=>.tuple #[((g.ss 0)).v,((g.ss 1)).v]) (fun g=>[fs true ((Rv.plN l at_).1) (g.ss 0),fs true ((Rv.plN l at_).2) (g.ss 1)]) (fun g=>[]) (fun g=>[]):=by
  refine V.fn mo Try.func27 48 2 (by kernel_rfl) fun w H ε k0=>?_;obtain ⟨⟨kl1, -⟩,⟨kl2, -⟩, -⟩:Lq l ls.v∧Lq at_ at_s.v∧True:=kq k0
  clear k0;refine V.g [.k (.slice none 0 0),.k (.slice none 0 0)] fun _ _ G1=>?_;intro S_ s_
  refine V.g [.nl 0 0 true 3 ([]:List Int) [] (fun _ _ _ _ _=>trivial) (fun _=>#[]),.v fun G=>SV.v ⟨atB (G 0).b,0,0⟩] fun _ _ G2=>?_;intro S_ s_
  refine V.g [.nl 0 1 true 3 ([]:List Int) [] (fun _ _ _ _ _=>trivial) (fun _=>#[]),.v fun G=>SV.v ⟨atB (G 0).b,0,0⟩] fun _ _ G3=>?_;intro S_ s_
  refine V.g [.k (iv 0)] fun _ _ G4=>?_;intro S_ s_
  refine V.loop (γ:=List Int × SV × List Int × SV × Int) (fun ⟨things,thingss,out,outs,i⟩=>⟨[(0,ls.v),(1,at_s.v),(6,thingss.v),(7,outs.v),(8,iv i)],[fs false l ls,fs false at_ at_s],[os true 3 things thingss,os true 3 out outs]⟩) (fun ⟨things,thingss,out,outs,i⟩=>(0≤i)∧(things=(Rv.plN l (at_.take i.toNat)).1)∧(out=(Rv.plN l (at_.take i.toNat)).2)∧((things.length:Int)≤i)∧((out.length:Int)≤i)) (fun ⟨things,thingss,out,outs,i⟩=>((at_.length:Int)-i).toNat) (([]:List Int),⟨atB (G2 0).b,0,0⟩,([]:List Int),⟨atB (G3 0).b,0,0⟩,0) (by kernel_rfl) [0,1] (by kernel_rfl) ?_ ?_
  · refine ⟨?_,?_,?_,?_,?_⟩
    · show 0≤(0:Int)
      first | omega | simp
    · show ([]:List Int)=(Rv.plN l (at_.take (0:Int).toNat)).1;rw [show at_.take (0:Int).toNat=[] from rfl,Rv.plN_zero]
    · show ([]:List Int)=(Rv.plN l (at_.take (0:Int).toNat)).2;rw [show at_.take (0:Int).toNat=[] from rfl,Rv.plN_zero]
    · show (([]:List Int).length:Int)≤(0:Int)
      first | omega | simp
    show (([]:List Int).length:Int)≤(0:Int)
    first | omega | simp
  rintro ⟨things,thingss,out,outs,i⟩ hF1 kw5 Z1 hZ1;have hF1:(0≤i)∧(things=(Rv.plN l (at_.take i.toNat)).1)∧(out=(Rv.plN l (at_.take i.toNat)).2)∧((things.length:Int)≤i)∧((out.length:Int)≤i):=hF1;obtain ⟨hf1,hf2,hf3,hf4,hf5⟩:=hF1;obtain ⟨-, -,⟨kl3, -⟩,⟨kl4, -⟩, -⟩:Lq l ls.v∧Lq at_ at_s.v∧Lq things thingss.v∧Lq out outs.v∧True:=kq kw5;clear kw5;refine nm ((decide (i < (at_.length:Int))) && (decide (0 < (l.length:Int))):Bool) fun p1 hp1=>?_;refine V.g [.k (iv i),.k (at_s.v),.ln (kf false (.f 1) at_ (fun _=>at_s)),.k (bv (decide (i < (at_.length:Int)))),.k (bv (decide (i < (at_.length:Int)))),.k (ls.v),.ln (kf false (.f 0) l (fun _=>ls)),.k (bv (decide (0 < (l.length:Int)))),.andn g0 false (decide (i < (at_.length:Int))) (decide (0 < (l.length:Int))) p1 hp1] fun _ _ G5=>?_;intro S_ s_;refine V.cn (b:=p1) (iN hp1 (iAT iDT iDT)) (iN hp1 (iAF iDF iDF)) (fun q1=>?_) (fun q2=>?_)
  · refine nm (at_.getD i.toNat default:UInt8) fun x1 hx1=>?_;refine nm ((x1.toNat:Int) % (l.length:Int):Int) fun n1 hn1=>?_;refine V.g [.k (at_s.v),.k (iv i),.ix g0 (kf false (.f 1) at_ (fun _=>at_s)) i (fun _=>⟨by omega,by omega⟩),.le g0 (kf false (.f 1) at_ (fun _=>at_s)) i none false x1 hx1 (fun _=>⟨by omega,by omega⟩) false (fun _=>[.int .u8 (x1.toNat:Int)]),.arg g0 (x1.toNat:Int) (x1.toNat:Int) rfl (fun _=>by have:=UInt8.toNat_lt x1;omega),.k (ls.v),.ln (kf false (.f 0) l (fun _=>ls)),.rmv g0 (x1.toNat:Int) (l.length:Int) n1 hn1 (fun _=>⟨by omega,by omega⟩),.k (iv n1)] fun _ _ G6=>?_;intro S_ s_
    refine V.g [.k (outs.v),.k (iv n1),.cp g0 2 30 [(ko true 3 1 out (fun _=>outs)).a] (fun _ G=>has49_ct out outs n1),.k (bv (!(decide (n1 ∈ out))))] fun _ _ G7=>?_;intro S_ s_
    refine V.cn (b:=!(decide (n1 ∈ out))) (iNT iDF) (iNF iDT) (fun q3=>?_) (fun q4=>?_)
    · refine nm (out ++[n1]:List Int) fun l1 hl1=>?_;have hl1n:=congrArg List.length hl1;try simp only [List.length_append,List.length_cons,List.length_nil,List.length_replicate,List.length_set,List.length_take,List.length_drop,List.length_map,List.length_reverse,List.length_range] at hl1n
      refine V.r [.k (outs.v),.k (iv n1),.nr 2 true 3 [n1] [] (fun _ _ _ _ _=>trivial) (fun _=>#[iv n1]),.ap 3 1 3 8 false true out (fun _=>outs) (kf true (.g 2 0) [n1] (fun G=>⟨atB (G 2).b,1,1⟩)) true l1 hl1 (by (try simp only [List.length_append,List.length_cons,List.length_nil,List.length_replicate,List.length_set,List.length_take,List.length_drop,List.length_map,List.length_reverse,List.length_range]);omega) (fun h=>by cases h) (.inr fun _ _=>trivial),.v fun G=>((G 3).s).v] fun _ _ G8 kw9=>?_;intro S_ s_
      obtain ⟨⟨kl5, -⟩, -⟩:Lq [n1] (SV.v ⟨atB (G8 2).b,1,1⟩)∧Lq things thingss.v∧Lq l1 (((G8 3).s).v)∧True:=kq kw9;clear kw9;refine nm (l.getD n1.toNat default:Int) fun v1 hv1=>?_;refine nm (things ++[v1]:List Int) fun l2 hl2=>?_;have hl2n:=congrArg List.length hl2;try simp only [List.length_append,List.length_cons,List.length_nil,List.length_replicate,List.length_set,List.length_take,List.length_drop,List.length_map,List.length_reverse,List.length_range] at hl2n
      refine V.r [.k (thingss.v),.k (ls.v),.k (iv n1),.ix g0 (kf false (.f 0) l (fun _=>ls)) n1 (fun _=>⟨by rw [hn1];exact Int.emod_nonneg _ (by omega),by rw [hn1];exact Int.emod_lt_of_pos _ (by omega)⟩),.le g0 (kf false (.f 0) l (fun _=>ls)) n1 none false v1 hv1 (fun _=>⟨by rw [hn1];exact Int.emod_nonneg _ (by omega),by rw [hn1];exact Int.emod_lt_of_pos _ (by omega)⟩) false (fun _=>[iv v1]),.nr 5 true 3 [v1] [] (fun _ _ _ _ _=>trivial) (fun _=>#[iv v1]),.ap 6 0 3 8 false true things (fun _=>thingss) (kf true (.g 5 0) [v1] (fun G=>⟨atB (G 5).b,1,1⟩)) true l2 hl2 (by (try simp only [List.length_append,List.length_cons,List.length_nil,List.length_replicate,List.length_set,List.length_take,List.length_drop,List.length_map,List.length_reverse,List.length_range]);omega) (fun h=>by cases h) (.inr fun _ _=>trivial),.v fun G=>((G 6).s).v] fun _ _ G9 kw10=>?_;intro S_ s_
      obtain ⟨⟨kl6, -⟩, -⟩:Lq [v1] (SV.v ⟨atB (G9 5).b,1,1⟩)∧Lq l2 (((G9 6).s).v)∧Lq l1 (((G8 3).s).v)∧True:=kq kw10;clear kw10;refine V.g [.k (iv i),.a (i+1) (by omega) (by omega),.k (iv (i+1))] fun _ _ G10=>?_;intro S_ s_;refine V.rnd hZ1 (l2,(G9 6).s,l1,(G8 3).s,i+1) [0,1] (by kernel_rfl) ?_ ?_
      · refine ⟨?_,?_,?_,?_,?_⟩
        · show 0≤(i+1)
          first | omega | (rw [List.length_append];simp;omega)
        · show l2=(Rv.plN l (at_.take (i+1).toNat)).1;have hP:=Rv.plN_step (l:=l) (by omega) (by omega) (by omega) hx1 hn1;rw [←hf3,← hf2,if_neg q3] at hP;rw [hP,hl2,hv1]
        · show l1=(Rv.plN l (at_.take (i+1).toNat)).2;have hP:=Rv.plN_step (l:=l) (by omega) (by omega) (by omega) hx1 hn1;rw [←hf3,← hf2,if_neg q3] at hP;rw [hP,hl1]
        · show (l2.length:Int)≤(i+1)
          first | omega | (rw [List.length_append];simp;omega)
        show (l1.length:Int)≤(i+1)
        first | omega | (rw [List.length_append];simp;omega)
      show ((at_.length:Int)-(i+1)).toNat < ((at_.length:Int)-i).toNat;omega
    refine V.g [.k (iv i),.a (i+1) (by omega) (by omega),.k (iv (i+1))] fun _ _ G11=>?_;intro S_ s_
    refine V.rnd hZ1 (things,thingss,out,outs,i+1) [0,1] (by kernel_rfl) ?_ ?_
    · refine ⟨?_,?_,?_,?_,?_⟩
      · show 0≤(i+1);omega
      · show things=(Rv.plN l (at_.take (i+1).toNat)).1;have hP:=Rv.plN_step (l:=l) (by omega) (by omega) (by omega) hx1 hn1;rw [←hf3,if_pos q4] at hP;rw [hP];exact hf2
      · show out=(Rv.plN l (at_.take (i+1).toNat)).2;have hP:=Rv.plN_step (l:=l) (by omega) (by omega) (by omega) hx1 hn1;rw [←hf3,if_pos q4] at hP;rw [hP];exact hf3
      · show (things.length:Int)≤(i+1);omega
      show (out.length:Int)≤(i+1);omega
    show ((at_.length:Int)-(i+1)).toNat < ((at_.length:Int)-i).toNat;omega
  refine V.g [.k (thingss.v),.k (outs.v),.k (thingss.v),.k (outs.v)] fun _ _ G12=>?_;intro S_ s_
  refine V.frz 0 true 3 things thingss (by kernel_rfl) ?_;refine V.frz 1 true 3 out outs (by kernel_rfl) ?_;have e0:things=(Rv.plN l at_).1:=by rw [←Rv.plN_end (by omega) (by omega)];exact hf2
  subst e0;have e1:out=(Rv.plN l at_).2:=by rw [←Rv.plN_end (by omega) (by omega)];exact hf3
  subst e1;exact V.rs [0,0] [thingss,outs] [fun _=>{},fun _=>{}] [] [2,3] [] (.tuple #[thingss.v,outs.v])

namespace Fr
open Bg
theorem Frs.cons {x:DFrac} {r:Rat} {l:List DFrac} {m:List Rat} (hx:rt x) (e:qv x=r) (h:Frs l m):Frs (x :: l) (r :: m) :=
  ⟨fun y hy=>by rcases List.mem_cons.1 hy with rfl | hy;exact hx;exact h.1 y hy,by rw [List.map_cons,e,h.2]⟩
end Fr

namespace Tm
theorem ids_get {l:List Int} {a n:Nat} {i x:Int} (hl:l=idsN a n) (h0:0≤i) (hi:i < n) (hx:x=l.getD i.toNat default):x=((a+i.toNat:Nat):Int):=by
  subst hl hx
  have:i.toNat < n:=by omega
  simp [idsN,this]
end Tm

open Go Go.RowKit Go.WideShapes Go.ChangeShapes
section
variable {H : Type} {enc : TypeId × Value → H} {P : Program} {w : World} {base : Nat} {sp : Nat → Bool} {held : Bool}
theorem opens_u8 {k:TypeId} (ht:P.underlying k=some (.int .u8)) (hc:P.cellsOf k=1):Opens P w k UInt8 :=
  ⟨hc,by decide,fun h=>by
    obtain ⟨n,rfl,_,hw⟩:=DataW.trod_int ht h
    have:0≤n∧n < 256:=by simp [Lit.wf,IntKind.min,IntKind.max,IntKind.signed,IntKind.bits] at hw;omega
    exact ⟨UInt8.ofNat n.toNat,by
      show _=[Value.int .u8 _]
      rw [UInt8.toNat_ofNat']
      congr 2
      omega,trivial⟩⟩
end

open Go Go.Proofs
set_option maxRecDepth 10000 in
theorem agree_ct (paths:List (Fat Int)) (pathss:SV) (seen:List (Fat DThing)) (seens:SV) (others:List (Fat Int)) (otherss:SV) (shown:List (Fat DThing)) (showns:SV) :
    Cp Try.prog 71 #[pathss.v,seens.v,otherss.v,showns.v] [fs true paths pathss,fs true seen seens,fs true others otherss,fs true shown showns] (bv (decide (Rv.AgreeP (Rv.ls paths) (Rv.ls seen) (Rv.ls others) (Rv.ls shown)))):=by
  refine V.fn mo Try.func71 62 5 (by kernel_rfl) fun w H ε k0=>?_;obtain ⟨⟨kl1, -⟩,⟨kl2, -⟩,⟨kl3, -⟩,⟨kl4, -⟩, -⟩:Lq paths pathss.v∧Lq seen seens.v∧Lq others otherss.v∧Lq shown showns.v∧True:=kq k0
  clear k0;refine V.g [.kb false] fun _ _ G1=>?_;intro S_ s_
  refine nm ((!(decide (Rv.Form (Rv.ls paths) (Rv.ls seen)))) || (!(decide (Rv.Form (Rv.ls others) (Rv.ls shown)))):Bool) fun p1 hp1=>?_;refine V.g [.k (pathss.v),.k (seens.v),.cp g0 2 74 [(kf false (.f 0) paths (fun _=>pathss)).a,(kf false (.f 1) seen (fun _=>seens)).a] (fun _ G=>form_ct paths pathss seen seens),.k (bv (!(decide (Rv.Form (Rv.ls paths) (Rv.ls seen))))),.k (bv (!(decide (Rv.Form (Rv.ls paths) (Rv.ls seen))))),.k (otherss.v),.k (showns.v),.cp (gF (b:=!(decide (Rv.Form (Rv.ls paths) (Rv.ls seen)))) (iNF iDT)) 7 74 [(kf false (.f 2) others (fun _=>otherss)).a,(kf false (.f 3) shown (fun _=>showns)).a] (fun hg G=>form_ct others otherss shown showns),.k (bv (!(decide (Rv.Form (Rv.ls others) (Rv.ls shown))))),.orn g0 false (!(decide (Rv.Form (Rv.ls paths) (Rv.ls seen)))) (!(decide (Rv.Form (Rv.ls others) (Rv.ls shown)))) p1 hp1] fun _ _ G2=>?_;intro S_ s_
  refine V.cn (b:=p1) (iN hp1 (iOT (iNT iDF) (iNT iDF))) (iN hp1 (iOF (iNF iDT) (iNF iDT))) (fun q1=>?_) (fun q2=>?_)
  · refine V.g [.kb false] fun _ _ G3=>?_;intro S_ s_
    have e0:false=decide (Rv.AgreeP (Rv.ls paths) (Rv.ls seen) (Rv.ls others) (Rv.ls shown)):=by
      symm;rw [decide_eq_false_iff_not]
      rintro ⟨h1,h2,_⟩;rcases q1 with h | h
      · exact h h1
      exact h h2
    exact V.rt [0] [] [] [] [] [] (bv false) (cong1 (fun (x0:Bool)=>(bv x0:Value)) e0)
  have hG1:Rv.Form (Rv.ls paths) (Rv.ls seen):=by first | exact q2.1 | exact Decidable.not_not.1 q2.1
  have hG2:Rv.Form (Rv.ls others) (Rv.ls shown):=by first | exact q2.2 | exact Decidable.not_not.1 q2.2
  have hq1:=Rv.form_q hG1;have hq2:=Rv.form_q hG2;have hq3:seen.length=paths.length:=by have:=hG1.2.2.1;rwa [Rv.ls_length,Rv.ls_length] at this
  have hq4:shown.length=others.length:=by have:=hG2.2.2.1;rwa [Rv.ls_length,Rv.ls_length] at this
  refine V.g [.mm Int DThing 0 0 true,.mm Int DThing 1 1 true,.v fun G=>.agg #[.map (some ((G 0).b)),.map (some ((G 1).b))],.nb 3 2 (fun b=>pp b 0) 127 (fun _=>#[.map none,.map none]),.st 2 (fun G=>.blk ((G 3).b) #[.map (some ((G 0).b)),.map (some ((G 1).b))] 127)] fun _ _ G4=>?_;intro S_ s_
  refine V.r [.k (seens.v),.k (showns.v),.nr 2 false 61 ([⟨seen,seens⟩,⟨shown,showns⟩]:List (Fat (Fat DThing))) [(kf false (.f 1) seen (fun _=>seens)).a,(kf false (.f 3) shown (fun _=>showns)).a] (fun _ _ h=>(List.forall_mem_cons.2 ⟨h.1,(List.forall_mem_cons.2 ⟨h.2.1,(List.forall_mem_nil _)⟩)⟩)) (fun _=>#[seens.v,showns.v]),.ct g0 3 93 true [] [3] [(kf false (.g 2 0) ([⟨seen,seens⟩,⟨shown,showns⟩]:List (Fat (Fat DThing))) (fun G=>⟨atB (G 2).b,2,2⟩)).a] (fun _ G=>concatt_ct ([⟨seen,seens⟩,⟨shown,showns⟩]:List (Fat (Fat DThing))) ⟨atB (G 2).b,2,2⟩ (by simp) (by rintro x hx;simp only [List.mem_cons,List.not_mem_nil,or_false] at hx;rcases hx with rfl | rfl <;> (first | (show seen.length≤100;omega) | (show shown.length≤100;omega) | (show paths.length≤100;omega) | (show others.length≤100;omega)))),.v fun G=>((G 3).ss 0).v] fun _ _ G5 kw5=>?_;intro S_ s_
  obtain ⟨⟨kl5, -⟩, -⟩:Lq ([⟨seen,seens⟩,⟨shown,showns⟩]:List (Fat (Fat DThing))) (SV.v ⟨atB (G5 2).b,2,2⟩)∧True∧True∧Lq (Rv.cat ([⟨seen,seens⟩,⟨shown,showns⟩]:List (Fat (Fat DThing)))) (((G5 3).ss 0).v)∧True:=kq kw5;clear kw5;refine V.r [.k (pathss.v),.k (otherss.v),.nr 2 false 60 ([⟨paths,pathss⟩,⟨others,otherss⟩]:List (Fat (Fat Int))) [(kf false (.f 0) paths (fun _=>pathss)).a,(kf false (.f 2) others (fun _=>otherss)).a] (fun _ _ h=>(List.forall_mem_cons.2 ⟨h.1,(List.forall_mem_cons.2 ⟨h.2.1,(List.forall_mem_nil _)⟩)⟩)) (fun _=>#[pathss.v,otherss.v]),.ct g0 3 94 true [] [4] [(kf false (.g 2 0) ([⟨paths,pathss⟩,⟨others,otherss⟩]:List (Fat (Fat Int))) (fun G=>⟨atB (G 2).b,2,2⟩)).a] (fun _ G=>concati_ct ([⟨paths,pathss⟩,⟨others,otherss⟩]:List (Fat (Fat Int))) ⟨atB (G 2).b,2,2⟩ (by simp) (by rintro x hx;simp only [List.mem_cons,List.not_mem_nil,or_false] at hx;rcases hx with rfl | rfl <;> (first | (show seen.length≤100;omega) | (show shown.length≤100;omega) | (show paths.length≤100;omega) | (show others.length≤100;omega)))),.ln (ko false 29 4 (Rv.cat ([⟨paths,pathss⟩,⟨others,otherss⟩]:List (Fat (Fat Int)))) (fun G=>(G 3).ss 0)),.k (iv 0)] fun _ _ G6 kw6=>?_;intro S_ s_;obtain ⟨⟨kl6, -⟩, -⟩:Lq ([⟨paths,pathss⟩,⟨others,otherss⟩]:List (Fat (Fat Int))) (SV.v ⟨atB (G6 2).b,2,2⟩)∧True∧True∧Lq (Rv.cat ([⟨seen,seens⟩,⟨shown,showns⟩]:List (Fat (Fat DThing)))) (((G5 3).ss 0).v)∧Lq (Rv.cat ([⟨paths,pathss⟩,⟨others,otherss⟩]:List (Fat (Fat Int)))) (((G6 3).ss 0).v)∧True:=kq kw6;clear kw6;obtain ⟨hagl,hagb,hagw⟩:=Rv.agree_len (s:=seens) (s':=showns) (t:=pathss) (t':=otherss) hG1 hG2;refine V.loop (γ:=Int × List (Int × DThing) × List (Int × DThing)) (fun ⟨k0,mh,mo⟩=>⟨[(9,pp ((G4 3).b) 0),(10,((G5 3).ss 0).v),(35,((G6 3).ss 0).v),(36,iv ((Rv.cat ([⟨paths,pathss⟩,⟨others,otherss⟩]:List (Fat (Fat Int)))).length:Int)),(37,iv k0)],[],[mp true true mh ((G4 0).b),mp true true mo ((G4 1).b),.blk ((G4 3).b) #[.map (some ((G4 0).b)),.map (some ((G4 1).b))] 127,os false 49 (Rv.cat ([⟨seen,seens⟩,⟨shown,showns⟩]:List (Fat (Fat DThing)))) ((G5 3).ss 0),os false 29 (Rv.cat ([⟨paths,pathss⟩,⟨others,otherss⟩]:List (Fat (Fat Int)))) ((G6 3).ss 0)]⟩) (fun ⟨k0,mh,mo⟩=>(0≤k0)∧(k0≤((Rv.cat ([⟨paths,pathss⟩,⟨others,otherss⟩]:List (Fat (Fat Int)))).length:Int))∧(Rv.runs (Rv.flat ((Rv.ls (Rv.cat ([⟨paths,pathss⟩,⟨others,otherss⟩]:List (Fat (Fat Int))))).take k0.toNat) ((Rv.ls (Rv.cat ([⟨seen,seens⟩,⟨shown,showns⟩]:List (Fat (Fat DThing))))).take k0.toNat))=some (mh,mo))) (fun ⟨k0,mh,mo⟩=>(((Rv.cat ([⟨paths,pathss⟩,⟨others,otherss⟩]:List (Fat (Fat Int)))).length:Int)-k0).toNat) (0,([]:List (Int × DThing)),([]:List (Int × DThing))) (by kernel_rfl) [] (by kernel_rfl) ?_ ?_
  · refine ⟨?_,?_,?_⟩
    · show 0≤(0:Int)
      first | omega | rfl | (simp;done) | (subst_vars;simp;done)
    · show (0:Int)≤((Rv.cat ([⟨paths,pathss⟩,⟨others,otherss⟩]:List (Fat (Fat Int)))).length:Int)
      first | omega | rfl | (simp;done) | (subst_vars;simp;done)
    show Rv.runs (Rv.flat ((Rv.ls (Rv.cat ([⟨paths,pathss⟩,⟨others,otherss⟩]:List (Fat (Fat Int))))).take (0:Int).toNat) ((Rv.ls (Rv.cat ([⟨seen,seens⟩,⟨shown,showns⟩]:List (Fat (Fat DThing))))).take (0:Int).toNat))=some (([]:List (Int × DThing)),([]:List (Int × DThing)));rfl
  rintro ⟨k0,mh,mo⟩ hF1 kw7 Z1 hZ1;have hF1:(0≤k0)∧(k0≤((Rv.cat ([⟨paths,pathss⟩,⟨others,otherss⟩]:List (Fat (Fat Int)))).length:Int))∧(Rv.runs (Rv.flat ((Rv.ls (Rv.cat ([⟨paths,pathss⟩,⟨others,otherss⟩]:List (Fat (Fat Int))))).take k0.toNat) ((Rv.ls (Rv.cat ([⟨seen,seens⟩,⟨shown,showns⟩]:List (Fat (Fat DThing))))).take k0.toNat))=some (mh,mo)):=hF1;obtain ⟨hf1,hf2,hf3⟩:=hF1;clear kw7;refine V.g [.k (bv (decide (k0 < ((Rv.cat ([⟨paths,pathss⟩,⟨others,otherss⟩]:List (Fat (Fat Int)))).length:Int))))] fun _ _ G7=>?_;intro S_ s_;refine V.cn (b:=decide (k0 < ((Rv.cat ([⟨paths,pathss⟩,⟨others,otherss⟩]:List (Fat (Fat Int)))).length:Int))) iDT iDF (fun q3=>?_) (fun q4=>?_)
  · refine nm ((Rv.cat ([⟨paths,pathss⟩,⟨others,otherss⟩]:List (Fat (Fat Int)))).getD k0.toNat default:Fat Int) fun x1 hx1=>?_;refine V.r [.k (iv k0),.ix g0 (ko false 29 4 (Rv.cat ([⟨paths,pathss⟩,⟨others,otherss⟩]:List (Fat (Fat Int)))) (fun _=>(G6 3).ss 0)) k0 (fun _=>⟨by omega,by omega⟩),.le g0 (ko false 29 4 (Rv.cat ([⟨paths,pathss⟩,⟨others,otherss⟩]:List (Fat (Fat Int)))) (fun _=>(G6 3).ss 0)) k0 none true x1 hx1 (fun _=>⟨by omega,by omega⟩) false (fun _=>[x1.s.v]),.k (iv k0),.k (x1.s.v)] fun _ _ G8 kw9=>?_;intro S_ s_
    obtain ⟨⟨kl7, -⟩, -⟩:Lq x1.l x1.s.v∧True∧True∧Lq (Rv.cat ([⟨seen,seens⟩,⟨shown,showns⟩]:List (Fat (Fat DThing)))) (((G5 3).ss 0).v)∧Lq (Rv.cat ([⟨paths,pathss⟩,⟨others,otherss⟩]:List (Fat (Fat Int)))) (((G6 3).ss 0).v)∧True:=kq kw9;clear kw9;have hagx:=hagw k0.toNat (by omega);rw [←hx1] at hagx;refine V.g [.k (x1.s.v),.ln (kx false (.f 0) x1 x1.l (fun _=>x1.s) (fun _ _ h=>h)),.k (iv 0)] fun _ _ G9=>?_;intro S_ s_;refine V.loop (γ:=Int × List (Int × DThing) × List (Int × DThing)) (fun ⟨k1,nh,no⟩=>⟨[(9,pp ((G4 3).b) 0),(10,((G5 3).ss 0).v),(11,iv k0),(35,((G6 3).ss 0).v),(36,iv ((Rv.cat ([⟨paths,pathss⟩,⟨others,otherss⟩]:List (Fat (Fat Int)))).length:Int)),(37,iv k0),(42,x1.s.v),(43,iv (x1.l.length:Int)),(44,iv k1)],[gf false x1],[mp true true nh ((G4 0).b),mp true true no ((G4 1).b),.blk ((G4 3).b) #[.map (some ((G4 0).b)),.map (some ((G4 1).b))] 127,os false 49 (Rv.cat ([⟨seen,seens⟩,⟨shown,showns⟩]:List (Fat (Fat DThing)))) ((G5 3).ss 0),os false 29 (Rv.cat ([⟨paths,pathss⟩,⟨others,otherss⟩]:List (Fat (Fat Int)))) ((G6 3).ss 0)]⟩) (fun ⟨k1,nh,no⟩=>(0≤k1)∧(k1≤(x1.l.length:Int))∧(Rv.runs (Rv.flat ((Rv.ls (Rv.cat ([⟨paths,pathss⟩,⟨others,otherss⟩]:List (Fat (Fat Int))))).take k0.toNat) ((Rv.ls (Rv.cat ([⟨seen,seens⟩,⟨shown,showns⟩]:List (Fat (Fat DThing))))).take k0.toNat) ++(x1.l.zip (Rv.sl (Rv.ls (Rv.cat ([⟨seen,seens⟩,⟨shown,showns⟩]:List (Fat (Fat DThing))))) k0.toNat)).take k1.toNat)=some (nh,no))) (fun ⟨k1,nh,no⟩=>((x1.l.length:Int)-k1).toNat) (0,mh,mo) (by kernel_rfl) [0] (by kernel_rfl) ?_ ?_
    · refine ⟨?_,?_,?_⟩
      · show 0≤(0:Int)
        first | omega | rfl | (simp;done) | (subst_vars;simp;done)
      · show (0:Int)≤(x1.l.length:Int)
        first | omega | rfl | (simp;done) | (subst_vars;simp;done)
      show Rv.runs (Rv.flat ((Rv.ls (Rv.cat ([⟨paths,pathss⟩,⟨others,otherss⟩]:List (Fat (Fat Int))))).take k0.toNat) ((Rv.ls (Rv.cat ([⟨seen,seens⟩,⟨shown,showns⟩]:List (Fat (Fat DThing))))).take k0.toNat) ++(x1.l.zip (Rv.sl (Rv.ls (Rv.cat ([⟨seen,seens⟩,⟨shown,showns⟩]:List (Fat (Fat DThing))))) k0.toNat)).take (0:Int).toNat)=some (mh,mo);exact Rv.agree_start hf3 _
    rintro ⟨k1,nh,no⟩ hF2 kw11 Z2 hZ2;have hF2:(0≤k1)∧(k1≤(x1.l.length:Int))∧(Rv.runs (Rv.flat ((Rv.ls (Rv.cat ([⟨paths,pathss⟩,⟨others,otherss⟩]:List (Fat (Fat Int))))).take k0.toNat) ((Rv.ls (Rv.cat ([⟨seen,seens⟩,⟨shown,showns⟩]:List (Fat (Fat DThing))))).take k0.toNat) ++(x1.l.zip (Rv.sl (Rv.ls (Rv.cat ([⟨seen,seens⟩,⟨shown,showns⟩]:List (Fat (Fat DThing))))) k0.toNat)).take k1.toNat)=some (nh,no)):=hF2;obtain ⟨hf4,hf5,hf6⟩:=hF2;clear kw11;refine V.g [.k (bv (decide (k1 < (x1.l.length:Int))))] fun _ _ G10=>?_;intro S_ s_;refine V.cn (b:=decide (k1 < (x1.l.length:Int))) iDT iDF (fun q5=>?_) (fun q6=>?_)
    · refine nm (x1.l.getD k1.toNat default:Int) fun v1 hv1=>?_;refine V.g [.k (iv k1),.ix g0 (kx false (.f 0) x1 x1.l (fun _=>x1.s) (fun _ _ h=>h)) k1 (fun _=>⟨by omega,by omega⟩),.le g0 (kx false (.f 0) x1 x1.l (fun _=>x1.s) (fun _ _ h=>h)) k1 none false v1 hv1 (fun _=>⟨by omega,by omega⟩) false (fun _=>[iv v1]),.k (iv k1),.k (iv v1)] fun _ _ G11=>?_;intro S_ s_
      refine nm ((Rv.cat ([⟨seen,seens⟩,⟨shown,showns⟩]:List (Fat (Fat DThing)))).getD k0.toNat default:Fat DThing) fun x2 hx2=>?_;refine nm (x2.l.getD k1.toNat default:DThing) fun x3 hx3=>?_;have hagy:x2.l.length=x1.l.length:=by rw [hx2];exact hagx
      refine V.r [.ld 2 0 true (fun _=>[.map (some ((G4 0).b)),.map (some ((G4 1).b))]),.k (iv v1),.k (((G5 3).ss 0).v),.k (iv k0),.ix g0 (ko false 49 3 (Rv.cat ([⟨seen,seens⟩,⟨shown,showns⟩]:List (Fat (Fat DThing)))) (fun _=>(G5 3).ss 0)) k0 (fun _=>⟨by omega,by omega⟩),.le g0 (ko false 49 3 (Rv.cat ([⟨seen,seens⟩,⟨shown,showns⟩]:List (Fat (Fat DThing)))) (fun _=>(G5 3).ss 0)) k0 none true x2 hx2 (fun _=>⟨by omega,by omega⟩) false (fun _=>[x2.s.v]),.k (iv k1),.ix g0 (kx false (.g 5 0) x2 x2.l (fun _=>x2.s) (fun _ _ h=>h)) k1 (fun _=>⟨by omega,by omega⟩),.le g0 (kx false (.g 5 0) x2 x2.l (fun _=>x2.s) (fun _ _ h=>h)) k1 none false x3 hx3 (fun _=>⟨by omega,by omega⟩) true (fun _=>Dat.cells x3),.ct g0 9 95 false [0,1] [] [] (fun _ G=>put_ct nh ((G4 0).b) no ((G4 1).b) v1 x3.Text x3.Value x3.Blind x3.Left x3.Right),.k (bv (!(decide (Rv.putB nh no v1 ⟨x3.Text,x3.Value,x3.Blind,x3.Left,x3.Right⟩))))] fun _ _ G12 kw14=>?_;intro S_ s_
      obtain ⟨⟨kl8, -⟩, -⟩:Lq x2.l x2.s.v∧True∧True∧Lq (Rv.cat ([⟨seen,seens⟩,⟨shown,showns⟩]:List (Fat (Fat DThing)))) (((G5 3).ss 0).v)∧Lq (Rv.cat ([⟨paths,pathss⟩,⟨others,otherss⟩]:List (Fat (Fat Int)))) (((G6 3).ss 0).v)∧True:=kq kw14;clear kw14;refine V.cn (b:=!(decide (Rv.putB nh no v1 ⟨x3.Text,x3.Value,x3.Blind,x3.Left,x3.Right⟩))) (iNT iDF) (iNF iDT) (fun q7=>?_) (fun q8=>?_)
      · refine V.g [.kb false] fun _ _ G13=>?_;intro S_ s_
        have e0:false=decide (Rv.AgreeP (Rv.ls paths) (Rv.ls seen) (Rv.ls others) (Rv.ls shown)):=by
          symm;rw [decide_eq_false_iff_not]
          rw [Rv.agree_iff hG1 hG2,Rv.agree_no hf6 (by rw [Rv.sl_ls',hagw _ (by omega),← hx1]) (by omega) (by omega) hv1 hx2 hx3 (by omega) (by omega) hx1 hagl q7];decide
        exact V.rt [0] [] [] [] [] [] (bv false) (cong1 (fun (x0:Bool)=>(bv x0:Value)) e0)
      refine V.g [.a (k1+1) (by omega) (by omega),.k (iv (k1+1))] fun _ _ G14=>?_;intro S_ s_
      refine V.rnd hZ2 (k1+1,Rv.putH nh v1 ⟨x3.Text,x3.Value,x3.Blind,x3.Left,x3.Right⟩,Rv.putO nh no v1 ⟨x3.Text,x3.Value,x3.Blind,x3.Left,x3.Right⟩) [0] (by kernel_rfl) ?_ ?_
      · refine ⟨?_,?_,?_⟩
        · show 0≤(k1+1)
          first | omega | rfl | (simp;done) | (subst_vars;simp;done)
        · show (k1+1)≤(x1.l.length:Int)
          first | omega | rfl | (simp;done) | (subst_vars;simp;done)
        show Rv.runs (Rv.flat ((Rv.ls (Rv.cat ([⟨paths,pathss⟩,⟨others,otherss⟩]:List (Fat (Fat Int))))).take k0.toNat) ((Rv.ls (Rv.cat ([⟨seen,seens⟩,⟨shown,showns⟩]:List (Fat (Fat DThing))))).take k0.toNat) ++(x1.l.zip (Rv.sl (Rv.ls (Rv.cat ([⟨seen,seens⟩,⟨shown,showns⟩]:List (Fat (Fat DThing))))) k0.toNat)).take (k1+1).toNat)=some ((Rv.putH nh v1 ⟨x3.Text,x3.Value,x3.Blind,x3.Left,x3.Right⟩),(Rv.putO nh no v1 ⟨x3.Text,x3.Value,x3.Blind,x3.Left,x3.Right⟩));exact Rv.agree_put hf6 (by rw [Rv.sl_ls',hagw _ (by omega),← hx1]) (by omega) (by omega) hv1 hx2 hx3 q8
      show ((x1.l.length:Int)-(k1+1)).toNat < ((x1.l.length:Int)-k1).toNat;omega
    refine V.g [.a (k0+1) (by omega) (by omega),.k (iv (k0+1))] fun _ _ G15=>?_;intro S_ s_
    refine V.rnd hZ1 (k0+1,nh,no) [] (by kernel_rfl) ?_ ?_
    · refine ⟨?_,?_,?_⟩
      · show 0≤(k0+1)
        first | omega | rfl | (simp;done) | (subst_vars;simp;done)
      · show (k0+1)≤((Rv.cat ([⟨paths,pathss⟩,⟨others,otherss⟩]:List (Fat (Fat Int)))).length:Int)
        first | omega | rfl | (simp;done) | (subst_vars;simp;done)
      show Rv.runs (Rv.flat ((Rv.ls (Rv.cat ([⟨paths,pathss⟩,⟨others,otherss⟩]:List (Fat (Fat Int))))).take (k0+1).toNat) ((Rv.ls (Rv.cat ([⟨seen,seens⟩,⟨shown,showns⟩]:List (Fat (Fat DThing))))).take (k0+1).toNat))=some (nh,no);exact Rv.agree_next hf6 (by omega) (by omega) hagl hx1 (by omega)
    show (((Rv.cat ([⟨paths,pathss⟩,⟨others,otherss⟩]:List (Fat (Fat Int)))).length:Int)-(k0+1)).toNat < (((Rv.cat ([⟨paths,pathss⟩,⟨others,otherss⟩]:List (Fat (Fat Int)))).length:Int)-k0).toNat;omega
  refine V.g [.kb true] fun _ _ G16=>?_;intro S_ s_
  have e0:true=decide (Rv.AgreeP (Rv.ls paths) (Rv.ls seen) (Rv.ls others) (Rv.ls shown)):=by
    symm;rw [decide_eq_true_iff,Rv.agree_iff hG1 hG2]
    have hr:=hf3;rw [List.take_of_length_le (by rw [Rv.ls_length];omega),List.take_of_length_le (by rw [Rv.ls_length];omega)] at hr;rw [hr];rfl
  exact V.rt [0] [] [] [] [] [] (bv true) (cong1 (fun (x0:Bool)=>(bv x0:Value)) e0)

open Go Go.Proofs
set_option maxRecDepth 10000 in
theorem example_ct :
    Ct Try.prog 70 #[] [] [] (fun g=>ag (DVault.mk ⟨Tm.exT,(g.ss 0)⟩)) (fun g=>[fs true Tm.exT (g.ss 0)]) (fun g=>[]) (fun g=>[]):=by
  refine V.fn mo Try.func70 16 2 (by kernel_rfl) fun w H ε k0=>?_;clear k0
  refine V.g [.nb 0 0 (fun b=>pp b 0) 51 (fun _=>ca (DVault.mk ⟨[],{}⟩))] fun _ _ G1=>?_;intro S s
  refine V.r [.k (ag (DVault.mk ⟨[],{}⟩)),.nr 1 true 9 ([⟨#[97]⟩,⟨#[98]⟩,⟨#[99]⟩]:List ByteArray) [] (fun _ _ _ _ _=>trivial) (fun _=>#[tv ⟨#[97]⟩,tv ⟨#[98]⟩,tv ⟨#[99]⟩]),.nr 2 true 3 ([30,20,10]:List Int) [] (fun _ _ _ _ _=>trivial) (fun _=>#[iv 30,iv 20,iv 10]),.nr 3 true 3 ([7,8,9]:List Int) [] (fun _ _ _ _ _=>trivial) (fun _=>#[iv 7,iv 8,iv 9]),.ct g0 4 23 false [] [] [(knil (α:=DThing)).a,(kf true (.g 1 0) ([⟨#[97]⟩,⟨#[98]⟩,⟨#[99]⟩]:List ByteArray) (fun G=>⟨atB (G 1).b,3,3⟩)).a,(kf true (.g 2 0) ([30,20,10]:List Int) (fun G=>⟨atB (G 2).b,3,3⟩)).a,(kf true (.g 3 0) ([7,8,9]:List Int) (fun G=>⟨atB (G 3).b,3,3⟩)).a] (fun _ G=>build_ct ([]:List DThing) ({}) ([⟨#[97]⟩,⟨#[98]⟩,⟨#[99]⟩]:List ByteArray) ⟨atB (G 1).b,3,3⟩ ([30,20,10]:List Int) ⟨atB (G 2).b,3,3⟩ ([7,8,9]:List Int) ⟨atB (G 3).b,3,3⟩),.v fun G=>.tuple #[ag (DVault.mk ⟨Tm.buildT ([]:List DThing) ([⟨#[97]⟩,⟨#[98]⟩,⟨#[99]⟩]:List ByteArray) ([30,20,10]:List Int) ([7,8,9]:List Int),(G 4).ss 0⟩),iv (Tm.buildR ([]:List DThing) ([⟨#[97]⟩,⟨#[98]⟩,⟨#[99]⟩]:List ByteArray) ([30,20,10]:List Int) ([7,8,9]:List Int)),((G 4).ss 1).v,iv (Tm.buildE ([]:List DThing) ([⟨#[97]⟩,⟨#[98]⟩,⟨#[99]⟩]:List ByteArray) ([30,20,10]:List Int) ([7,8,9]:List Int))],.v fun G=>ag (DVault.mk ⟨Tm.buildT ([]:List DThing) ([⟨#[97]⟩,⟨#[98]⟩,⟨#[99]⟩]:List ByteArray) ([30,20,10]:List Int) ([7,8,9]:List Int),(G 4).ss 0⟩),.k (iv (Tm.buildR ([]:List DThing) ([⟨#[97]⟩,⟨#[98]⟩,⟨#[99]⟩]:List ByteArray) ([30,20,10]:List Int) ([7,8,9]:List Int))),.v fun G=>((G 4).ss 1).v,.k (iv (Tm.buildE ([]:List DThing) ([⟨#[97]⟩,⟨#[98]⟩,⟨#[99]⟩]:List ByteArray) ([30,20,10]:List Int) ([7,8,9]:List Int))),.nb 10 1 (fun b=>pp b 0) 51 (fun _=>ca (DVault.mk ⟨[],{}⟩)),.st 1 (fun G=>.blk ((G 10).b) (ca (DVault.mk ⟨Tm.buildT ([]:List DThing) ([⟨#[97]⟩,⟨#[98]⟩,⟨#[99]⟩]:List ByteArray) ([30,20,10]:List Int) ([7,8,9]:List Int),(G 4).ss 0⟩)) 51),.k (iv (Tm.buildR ([]:List DThing) ([⟨#[97]⟩,⟨#[98]⟩,⟨#[99]⟩]:List ByteArray) ([30,20,10]:List Int) ([7,8,9]:List Int))),.v fun G=>((G 4).ss 1).v,.k (iv (Tm.buildE ([]:List DThing) ([⟨#[97]⟩,⟨#[98]⟩,⟨#[99]⟩]:List ByteArray) ([30,20,10]:List Int) ([7,8,9]:List Int)))] fun _ _ G2 kw2=>?_;intro S s
  obtain ⟨⟨kl1, -⟩,⟨kl2, -⟩,⟨kl3, -⟩,⟨kl4, -⟩,⟨kl5, -⟩, -⟩:Lq ([⟨#[97]⟩,⟨#[98]⟩,⟨#[99]⟩]:List ByteArray) (SV.v ⟨atB (G2 1).b,3,3⟩)∧Lq ([30,20,10]:List Int) (SV.v ⟨atB (G2 2).b,3,3⟩)∧Lq ([7,8,9]:List Int) (SV.v ⟨atB (G2 3).b,3,3⟩)∧Lq (Tm.buildT ([]:List DThing) ([⟨#[97]⟩,⟨#[98]⟩,⟨#[99]⟩]:List ByteArray) ([30,20,10]:List Int) ([7,8,9]:List Int)) (((G2 4).ss 0).v)∧Lq (Tm.buildL ([]:List DThing) ([⟨#[97]⟩,⟨#[98]⟩,⟨#[99]⟩]:List ByteArray) ([30,20,10]:List Int) ([7,8,9]:List Int)) (((G2 4).ss 1).v)∧True:=kq kw2;clear kw2;refine V.g [.ld 1 0 true (fun _=>Dat.cells (DVault.mk ⟨Tm.buildT ([]:List DThing) ([⟨#[97]⟩,⟨#[98]⟩,⟨#[99]⟩]:List ByteArray) ([30,20,10]:List Int) ([7,8,9]:List Int),(G2 4).ss 0⟩)),.st 0 (fun _=>.blk ((G1 0).b) (ca (DVault.mk ⟨Tm.buildT ([]:List DThing) ([⟨#[97]⟩,⟨#[98]⟩,⟨#[99]⟩]:List ByteArray) ([30,20,10]:List Int) ([7,8,9]:List Int),(G2 4).ss 0⟩)) 51)] fun _ _ G3=>?_;intro S s;have e0:Tm.buildT ([]:List DThing) ([⟨#[97]⟩,⟨#[98]⟩,⟨#[99]⟩]:List ByteArray) ([30,20,10]:List Int) ([7,8,9]:List Int)=Tm.exT:=by kernel_rfl
  rw [←e0];exact V.rs [0] [(G2 4).ss 0] [fun _=>{}] [] [3] [] (ag (DVault.mk ⟨Tm.buildT ([]:List DThing) ([⟨#[97]⟩,⟨#[98]⟩,⟨#[99]⟩]:List ByteArray) ([30,20,10]:List Int) ([7,8,9]:List Int),(G2 4).ss 0⟩))
theorem show_ctv (v:List DThing) (vs:SV) (root:Int) (open_:List Int) (open_s:SV) (rP:List (List Int)) (rS:List (List DThing)) (rE:Int) (erP:Rv.showP v root open_=rP) (erS:Rv.showS v root open_=rS) (erE:Rv.showE v root open_=rE) :
    Ct Try.prog 28 #[ag (DVault.mk ⟨v,vs⟩),iv root,open_s.v] [fs true v vs,fs true open_ open_s] [] (fun g=>.tuple #[((g.ss 0)).v,((g.ss 1)).v,iv (rE)]) (fun g=>[fs true (fats (rP) (g.sl 0)) (g.ss 0),fs true (fats (rS) (g.sl 1)) (g.ss 1)]) (fun g=>[]) (fun g=>[]):=by
  subst erP erS erE;exact show_ct v vs root open_ open_s 
theorem rest_ctv (paths:List (Fat Int)) (pathss:SV) (seen:List (Fat DThing)) (seens:SV) (rV:Int) (rB:Bool) (erV:Rv.restV (Rv.ls paths) (Rv.ls seen)=rV) (erB:decide (Rv.restB (Rv.ls paths) (Rv.ls seen))=rB) :
    Cp Try.prog 29 #[pathss.v,seens.v] [fs true paths pathss,fs true seen seens] (.tuple #[iv (rV),bv (rB)]):=by
  subst erV erB;exact rest_ct paths pathss seen seens 
theorem agree_ctv (paths:List (Fat Int)) (pathss:SV) (seen:List (Fat DThing)) (seens:SV) (others:List (Fat Int)) (otherss:SV) (shown:List (Fat DThing)) (showns:SV) (rB:Bool) (erB:decide (Rv.AgreeP (Rv.ls paths) (Rv.ls seen) (Rv.ls others) (Rv.ls shown))=rB) :
    Cp Try.prog 71 #[pathss.v,seens.v,otherss.v,showns.v] [fs true paths pathss,fs true seen seens,fs true others otherss,fs true shown showns] (bv (rB)):=by
  subst erB;exact agree_ct paths pathss seen seens others otherss shown showns 
theorem rcheck_ctv (v:List DThing) (vs:SV) (paths:List (Fat Int)) (pathss:SV) (seen:List (Fat DThing)) (seens:SV) (rB:Bool) (hp:∀ x ∈ paths,x.l.length≤5000000000000) (erB:decide (Rv.CheckP v (Rv.ls paths) (Rv.ls seen))=rB) :
    Cp Try.prog 72 #[ag (DVault.mk ⟨v,vs⟩),pathss.v,seens.v] [fs true v vs,fs true paths pathss,fs true seen seens] (bv (rB)):=by
  subst erB;exact rcheck_ct v vs paths pathss seen seens hp
theorem samei_ctv (a:List Int) (as_:SV) (b:List Int) (bs:SV) (rB:Bool) (erB:decide (a=b)=rB) :
    Cp Try.prog 55 #[as_.v,bs.v] [fs true a as_,fs true b bs] (bv (rB)):=by
  subst erB;exact samei_ct a as_ b bs 
set_option maxRecDepth 10000 in
theorem sane_ct :
    Cp Try.prog 26 #[] [] (bv true):=by
  refine V.fn mo Try.func26 194 2 (by kernel_rfl) fun w H ε k0=>?_;clear k0
  refine V.g [.kb false] fun _ _ G1=>?_;intro S_ s_
  refine V.r [.ct g0 0 70 false [] [] [] (fun _ G=>example_ct ),.nb 1 0 (fun b=>pp b 0) 51 (fun _=>ca (DVault.mk ⟨[],{}⟩)),.st 0 (fun G=>.blk ((G 1).b) (ca (DVault.mk ⟨Tm.exT,(G 0).ss 0⟩)) 51)] fun _ _ G2 kw2=>?_;intro S_ s_
  obtain ⟨⟨kl1, -⟩, -⟩:Lq Tm.exT (((G2 0).ss 0).v)∧True:=kq kw2;clear kw2;refine V.r [.ld 0 0 true (fun _=>Dat.cells (DVault.mk ⟨Tm.exT,(G2 0).ss 0⟩)),.nr 1 true 3 ([1,2]:List Int) [] (fun _ _ _ _ _=>trivial) (fun _=>#[iv 1,iv 2]),.ct g0 2 28 false [] [] [(kf true (.f 0) Tm.exT (fun _=>(G2 0).ss 0)).a,(kf true (.g 1 0) ([1,2]:List Int) (fun G=>⟨atB (G 1).b,2,2⟩)).a] (fun _ G=>show_ctv Tm.exT ((G2 0).ss 0) (4:Int) ([1,2]:List Int) ⟨atB (G 1).b,2,2⟩ ([[4,3,1],[4,2]]:List (List Int)) ([[⟨ByteArray.empty,60,24,3,2⟩,⟨ByteArray.empty, -1, -1,0,1⟩,⟨⟨#[98]⟩,20,8, -1, -1⟩],[⟨ByteArray.empty,60,24,3,2⟩,⟨⟨#[99]⟩,10,9, -1, -1⟩]]:List (List DThing)) 0 (by kernel_rfl) (by kernel_rfl) (by kernel_rfl)),.v fun G=>.tuple #[((G 2).ss 0).v,((G 2).ss 1).v,iv (0:Int)],.v fun G=>((G 2).ss 0).v,.v fun G=>((G 2).ss 1).v,.k (iv (0:Int)),.v fun G=>((G 2).ss 0).v,.v fun G=>((G 2).ss 1).v,.k (iv (0:Int))] fun _ _ G3 kw3=>?_;intro S_ s_;obtain ⟨⟨kl2, -⟩,⟨kl3, -⟩,⟨kl4, -⟩, -⟩:Lq ([1,2]:List Int) (SV.v ⟨atB (G3 1).b,2,2⟩)∧Lq (fats ([[4,3,1],[4,2]]:List (List Int)) ((G3 2).sl 0)) (((G3 2).ss 0).v)∧Lq (fats ([[⟨ByteArray.empty,60,24,3,2⟩,⟨ByteArray.empty, -1, -1,0,1⟩,⟨⟨#[98]⟩,20,8, -1, -1⟩],[⟨ByteArray.empty,60,24,3,2⟩,⟨⟨#[99]⟩,10,9, -1, -1⟩]]:List (List DThing)) ((G3 2).sl 1)) (((G3 2).ss 1).v)∧True:=kq kw3;clear kw3;refine V.g [.k (((G3 2).ss 0).v),.k (((G3 2).ss 1).v),.cp g0 2 29 [(kf true (.f 2) (fats ([[4,3,1],[4,2]]:List (List Int)) ((G3 2).sl 0)) (fun _=>(G3 2).ss 0)).a,(kf true (.f 3) (fats ([[⟨ByteArray.empty,60,24,3,2⟩,⟨ByteArray.empty, -1, -1,0,1⟩,⟨⟨#[98]⟩,20,8, -1, -1⟩],[⟨ByteArray.empty,60,24,3,2⟩,⟨⟨#[99]⟩,10,9, -1, -1⟩]]:List (List DThing)) ((G3 2).sl 1)) (fun _=>(G3 2).ss 1)).a] (fun _ G=>rest_ctv (fats ([[4,3,1],[4,2]]:List (List Int)) ((G3 2).sl 0)) ((G3 2).ss 0) (fats ([[⟨ByteArray.empty,60,24,3,2⟩,⟨ByteArray.empty, -1, -1,0,1⟩,⟨⟨#[98]⟩,20,8, -1, -1⟩],[⟨ByteArray.empty,60,24,3,2⟩,⟨⟨#[99]⟩,10,9, -1, -1⟩]]:List (List DThing)) ((G3 2).sl 1)) ((G3 2).ss 1) 30 true (by kernel_rfl) (by kernel_rfl)),.k (.tuple #[iv (30:Int),bv true]),.k (iv (30:Int)),.kb true,.k (iv (30:Int)),.kb true] fun _ _ G4=>?_;intro S_ s_;refine V.r [.ld 0 0 true (fun _=>Dat.cells (DVault.mk ⟨Tm.exT,(G2 0).ss 0⟩)),.nr 1 true 3 ([1,1]:List Int) [] (fun _ _ _ _ _=>trivial) (fun _=>#[iv 1,iv 1]),.ct g0 2 28 false [] [] [(kf true (.f 0) Tm.exT (fun _=>(G2 0).ss 0)).a,(kf true (.g 1 0) ([1,1]:List Int) (fun G=>⟨atB (G 1).b,2,2⟩)).a] (fun _ G=>show_ctv Tm.exT ((G2 0).ss 0) (4:Int) ([1,1]:List Int) ⟨atB (G 1).b,2,2⟩ ([]:List (List Int)) ([]:List (List DThing)) 5 (by kernel_rfl) (by kernel_rfl) (by kernel_rfl)),.v fun G=>.tuple #[((G 2).ss 0).v,((G 2).ss 1).v,iv (5:Int)],.v fun G=>((G 2).ss 0).v,.v fun G=>((G 2).ss 1).v,.k (iv (5:Int)),.v fun G=>((G 2).ss 0).v,.v fun G=>((G 2).ss 1).v,.k (iv (5:Int))] fun _ _ G5 kw5=>?_;intro S_ s_;obtain ⟨⟨kl5, -⟩,⟨kl6, -⟩,⟨kl7, -⟩, -⟩:Lq ([1,1]:List Int) (SV.v ⟨atB (G5 1).b,2,2⟩)∧Lq (fats ([]:List (List Int)) ((G5 2).sl 0)) (((G5 2).ss 0).v)∧Lq (fats ([]:List (List DThing)) ((G5 2).sl 1)) (((G5 2).ss 1).v)∧True:=kq kw5;clear kw5;refine V.r [.ld 0 0 true (fun _=>Dat.cells (DVault.mk ⟨Tm.exT,(G2 0).ss 0⟩)),.nr 1 true 3 ([3]:List Int) [] (fun _ _ _ _ _=>trivial) (fun _=>#[iv 3]),.ct g0 2 28 false [] [] [(kf true (.f 0) Tm.exT (fun _=>(G2 0).ss 0)).a,(kf true (.g 1 0) ([3]:List Int) (fun G=>⟨atB (G 1).b,1,1⟩)).a] (fun _ G=>show_ctv Tm.exT ((G2 0).ss 0) (4:Int) ([3]:List Int) ⟨atB (G 1).b,1,1⟩ ([]:List (List Int)) ([]:List (List DThing)) 4 (by kernel_rfl) (by kernel_rfl) (by kernel_rfl)),.v fun G=>.tuple #[((G 2).ss 0).v,((G 2).ss 1).v,iv (4:Int)],.v fun G=>((G 2).ss 0).v,.v fun G=>((G 2).ss 1).v,.k (iv (4:Int)),.v fun G=>((G 2).ss 0).v,.v fun G=>((G 2).ss 1).v,.k (iv (4:Int))] fun _ _ G6 kw6=>?_;intro S_ s_;obtain ⟨⟨kl8, -⟩,⟨kl9, -⟩,⟨kl10, -⟩, -⟩:Lq ([3]:List Int) (SV.v ⟨atB (G6 1).b,1,1⟩)∧Lq (fats ([]:List (List Int)) ((G6 2).sl 0)) (((G6 2).ss 0).v)∧Lq (fats ([]:List (List DThing)) ((G6 2).sl 1)) (((G6 2).ss 1).v)∧True:=kq kw6;clear kw6;refine V.r [.ld 0 0 true (fun _=>Dat.cells (DVault.mk ⟨Tm.exT,(G2 0).ss 0⟩)),.nr 1 true 3 ([2]:List Int) [] (fun _ _ _ _ _=>trivial) (fun _=>#[iv 2]),.ct g0 2 28 false [] [] [(kf true (.f 0) Tm.exT (fun _=>(G2 0).ss 0)).a,(kf true (.g 1 0) ([2]:List Int) (fun G=>⟨atB (G 1).b,1,1⟩)).a] (fun _ G=>show_ctv Tm.exT ((G2 0).ss 0) (3:Int) ([2]:List Int) ⟨atB (G 1).b,1,1⟩ ([]:List (List Int)) ([]:List (List DThing)) 4 (by kernel_rfl) (by kernel_rfl) (by kernel_rfl)),.v fun G=>.tuple #[((G 2).ss 0).v,((G 2).ss 1).v,iv (4:Int)],.v fun G=>((G 2).ss 0).v,.v fun G=>((G 2).ss 1).v,.k (iv (4:Int)),.v fun G=>((G 2).ss 0).v,.v fun G=>((G 2).ss 1).v,.k (iv (4:Int))] fun _ _ G7 kw7=>?_;intro S_ s_;obtain ⟨⟨kl11, -⟩,⟨kl12, -⟩,⟨kl13, -⟩, -⟩:Lq ([2]:List Int) (SV.v ⟨atB (G7 1).b,1,1⟩)∧Lq (fats ([]:List (List Int)) ((G7 2).sl 0)) (((G7 2).ss 0).v)∧Lq (fats ([]:List (List DThing)) ((G7 2).sl 1)) (((G7 2).ss 1).v)∧True:=kq kw7;clear kw7;refine nm ((!(decide ((0:Int)=0))) || (!(decide ((5:Int)=5))):Bool) fun p1 hp1=>?_;refine nm ((p1 || (!(decide ((4:Int)=4)))) || (!(decide ((4:Int)=4))):Bool) fun p2 hp2=>?_;refine nm ((p2 || false) || (!(decide ((30:Int)=30))):Bool) fun p3 hp3=>?_;refine nm (p3 || (!(decide (((fats ([[4,3,1],[4,2]]:List (List Int)) ((G3 2).sl 0)).length:Int)=2))):Bool) fun p4 hp4=>?_;refine nm (p4 || (!(decide (((fats ([[⟨ByteArray.empty,60,24,3,2⟩,⟨ByteArray.empty, -1, -1,0,1⟩,⟨⟨#[98]⟩,20,8, -1, -1⟩],[⟨ByteArray.empty,60,24,3,2⟩,⟨⟨#[99]⟩,10,9, -1, -1⟩]]:List (List DThing)) ((G3 2).sl 1)).length:Int)=2))):Bool) fun p5 hp5=>?_;refine V.g [.k (iv (0:Int)),.k (bv (!(decide ((0:Int)=0)))),.k (bv (!(decide ((0:Int)=0)))),.k (iv (5:Int)),.k (bv (!(decide ((5:Int)=5)))),.orn g0 false (!(decide ((0:Int)=0))) (!(decide ((5:Int)=5))) p1 hp1,.k (bv p1),.k (iv (4:Int)),.k (bv (!(decide ((4:Int)=4)))),.or g0 false p1 (!(decide ((4:Int)=4))),.k (bv (p1 || (!(decide ((4:Int)=4))))),.k (iv (4:Int)),.k (bv (!(decide ((4:Int)=4)))),.orn g0 false (p1 || (!(decide ((4:Int)=4)))) (!(decide ((4:Int)=4))) p2 hp2,.k (bv p2),.kb true,.kb false,.or g0 false p2 false,.k (bv (p2 || false)),.k (iv (30:Int)),.k (bv (!(decide ((30:Int)=30)))),.orn g0 false (p2 || false) (!(decide ((30:Int)=30))) p3 hp3,.k (bv p3),.k (((G3 2).ss 0).v),.ln (kf true (.f 2) (fats ([[4,3,1],[4,2]]:List (List Int)) ((G3 2).sl 0)) (fun _=>(G3 2).ss 0)),.k (bv (!(decide (((fats ([[4,3,1],[4,2]]:List (List Int)) ((G3 2).sl 0)).length:Int)=2)))),.orn g0 false p3 (!(decide (((fats ([[4,3,1],[4,2]]:List (List Int)) ((G3 2).sl 0)).length:Int)=2))) p4 hp4,.k (bv p4),.k (((G3 2).ss 1).v),.ln (kf true (.f 3) (fats ([[⟨ByteArray.empty,60,24,3,2⟩,⟨ByteArray.empty, -1, -1,0,1⟩,⟨⟨#[98]⟩,20,8, -1, -1⟩],[⟨ByteArray.empty,60,24,3,2⟩,⟨⟨#[99]⟩,10,9, -1, -1⟩]]:List (List DThing)) ((G3 2).sl 1)) (fun _=>(G3 2).ss 1)),.k (bv (!(decide (((fats ([[⟨ByteArray.empty,60,24,3,2⟩,⟨ByteArray.empty, -1, -1,0,1⟩,⟨⟨#[98]⟩,20,8, -1, -1⟩],[⟨ByteArray.empty,60,24,3,2⟩,⟨⟨#[99]⟩,10,9, -1, -1⟩]]:List (List DThing)) ((G3 2).sl 1)).length:Int)=2)))),.orn g0 false p4 (!(decide (((fats ([[⟨ByteArray.empty,60,24,3,2⟩,⟨ByteArray.empty, -1, -1,0,1⟩,⟨⟨#[98]⟩,20,8, -1, -1⟩],[⟨ByteArray.empty,60,24,3,2⟩,⟨⟨#[99]⟩,10,9, -1, -1⟩]]:List (List DThing)) ((G3 2).sl 1)).length:Int)=2))) p5 hp5] fun _ _ G8=>?_;intro S_ s_;refine V.cn (b:=p5) (iN hp5 (iOT (iN hp4 (iOT (iN hp3 (iOT (iOT (iN hp2 (iOT (iOT (iN hp1 (iOT (iNT iDF) (iNT iDF))) (iNT iDF)) (iNT iDF))) iFT) (iNT iDF))) (iNT iDF))) (iNT iDF))) (iN hp5 (iOF (iN hp4 (iOF (iN hp3 (iOF (iOF (iN hp2 (iOF (iOF (iN hp1 (iOF (iNF iDT) (iNF iDT))) (iNF iDT)) (iNF iDT))) iFF) (iNF iDT))) (iNF iDT))) (iNF iDT))) (fun q1=>?_) (fun q2=>?_)
  · exact absurd q1 (by simp)
  refine V.r [.ld 0 0 true (fun _=>Dat.cells (DVault.mk ⟨Tm.exT,(G2 0).ss 0⟩)),.nr 1 true 3 ([0]:List Int) [] (fun _ _ _ _ _=>trivial) (fun _=>#[iv 0]),.ct g0 2 28 false [] [] [(kf true (.f 0) Tm.exT (fun _=>(G2 0).ss 0)).a,(kf true (.g 1 0) ([0]:List Int) (fun G=>⟨atB (G 1).b,1,1⟩)).a] (fun _ G=>show_ctv Tm.exT ((G2 0).ss 0) (4:Int) ([0]:List Int) ⟨atB (G 1).b,1,1⟩ ([[4,3,0]]:List (List Int)) ([[⟨ByteArray.empty,60,24,3,2⟩,⟨ByteArray.empty, -1, -1,0,1⟩,⟨⟨#[97]⟩,30,7, -1, -1⟩]]:List (List DThing)) 0 (by kernel_rfl) (by kernel_rfl) (by kernel_rfl)),.v fun G=>.tuple #[((G 2).ss 0).v,((G 2).ss 1).v,iv (0:Int)],.v fun G=>((G 2).ss 0).v,.v fun G=>((G 2).ss 1).v,.k (iv (0:Int)),.v fun G=>((G 2).ss 0).v,.v fun G=>((G 2).ss 1).v,.k (iv (0:Int))] fun _ _ G9 kw9=>?_;intro S_ s_
  obtain ⟨⟨kl14, -⟩,⟨kl15, -⟩,⟨kl16, -⟩, -⟩:Lq ([0]:List Int) (SV.v ⟨atB (G9 1).b,1,1⟩)∧Lq (fats ([[4,3,0]]:List (List Int)) ((G9 2).sl 0)) (((G9 2).ss 0).v)∧Lq (fats ([[⟨ByteArray.empty,60,24,3,2⟩,⟨ByteArray.empty, -1, -1,0,1⟩,⟨⟨#[97]⟩,30,7, -1, -1⟩]]:List (List DThing)) ((G9 2).sl 1)) (((G9 2).ss 1).v)∧True:=kq kw9;clear kw9;refine V.r [.ld 0 0 true (fun _=>Dat.cells (DVault.mk ⟨Tm.exT,(G2 0).ss 0⟩)),.nr 1 true 3 ([1]:List Int) [] (fun _ _ _ _ _=>trivial) (fun _=>#[iv 1]),.ct g0 2 28 false [] [] [(kf true (.f 0) Tm.exT (fun _=>(G2 0).ss 0)).a,(kf true (.g 1 0) ([1]:List Int) (fun G=>⟨atB (G 1).b,1,1⟩)).a] (fun _ G=>show_ctv Tm.exT ((G2 0).ss 0) (4:Int) ([1]:List Int) ⟨atB (G 1).b,1,1⟩ ([[4,3,1]]:List (List Int)) ([[⟨ByteArray.empty,60,24,3,2⟩,⟨ByteArray.empty, -1, -1,0,1⟩,⟨⟨#[98]⟩,20,8, -1, -1⟩]]:List (List DThing)) 0 (by kernel_rfl) (by kernel_rfl) (by kernel_rfl)),.v fun G=>.tuple #[((G 2).ss 0).v,((G 2).ss 1).v,iv (0:Int)],.v fun G=>((G 2).ss 0).v,.v fun G=>((G 2).ss 1).v,.k (iv (0:Int)),.v fun G=>((G 2).ss 0).v,.v fun G=>((G 2).ss 1).v,.k (iv (0:Int))] fun _ _ G10 kw10=>?_;intro S_ s_;obtain ⟨⟨kl17, -⟩,⟨kl18, -⟩,⟨kl19, -⟩, -⟩:Lq ([1]:List Int) (SV.v ⟨atB (G10 1).b,1,1⟩)∧Lq (fats ([[4,3,1]]:List (List Int)) ((G10 2).sl 0)) (((G10 2).ss 0).v)∧Lq (fats ([[⟨ByteArray.empty,60,24,3,2⟩,⟨ByteArray.empty, -1, -1,0,1⟩,⟨⟨#[98]⟩,20,8, -1, -1⟩]]:List (List DThing)) ((G10 2).sl 1)) (((G10 2).ss 1).v)∧True:=kq kw10;clear kw10;refine V.r [.ld 0 0 true (fun _=>Dat.cells (DVault.mk ⟨Tm.exT,(G2 0).ss 0⟩)),.nr 1 true 3 ([0,2]:List Int) [] (fun _ _ _ _ _=>trivial) (fun _=>#[iv 0,iv 2]),.ct g0 2 28 false [] [] [(kf true (.f 0) Tm.exT (fun _=>(G2 0).ss 0)).a,(kf true (.g 1 0) ([0,2]:List Int) (fun G=>⟨atB (G 1).b,2,2⟩)).a] (fun _ G=>show_ctv Tm.exT ((G2 0).ss 0) (4:Int) ([0,2]:List Int) ⟨atB (G 1).b,2,2⟩ ([[4,3,0],[4,2]]:List (List Int)) ([[⟨ByteArray.empty,60,24,3,2⟩,⟨ByteArray.empty, -1, -1,0,1⟩,⟨⟨#[97]⟩,30,7, -1, -1⟩],[⟨ByteArray.empty,60,24,3,2⟩,⟨⟨#[99]⟩,10,9, -1, -1⟩]]:List (List DThing)) 0 (by kernel_rfl) (by kernel_rfl) (by kernel_rfl)),.v fun G=>.tuple #[((G 2).ss 0).v,((G 2).ss 1).v,iv (0:Int)],.v fun G=>((G 2).ss 0).v,.v fun G=>((G 2).ss 1).v,.k (iv (0:Int)),.v fun G=>((G 2).ss 0).v,.v fun G=>((G 2).ss 1).v,.k (iv (0:Int))] fun _ _ G11 kw11=>?_;intro S_ s_;obtain ⟨⟨kl20, -⟩,⟨kl21, -⟩,⟨kl22, -⟩, -⟩:Lq ([0,2]:List Int) (SV.v ⟨atB (G11 1).b,2,2⟩)∧Lq (fats ([[4,3,0],[4,2]]:List (List Int)) ((G11 2).sl 0)) (((G11 2).ss 0).v)∧Lq (fats ([[⟨ByteArray.empty,60,24,3,2⟩,⟨ByteArray.empty, -1, -1,0,1⟩,⟨⟨#[97]⟩,30,7, -1, -1⟩],[⟨ByteArray.empty,60,24,3,2⟩,⟨⟨#[99]⟩,10,9, -1, -1⟩]]:List (List DThing)) ((G11 2).sl 1)) (((G11 2).ss 1).v)∧True:=kq kw11;clear kw11;refine nm ((!(decide ((0:Int)=0))) || (!(decide ((0:Int)=0))):Bool) fun p6 hp6=>?_;refine nm ((p6 || (!(decide ((0:Int)=0)))) || (!(decide (((fats ([[⟨ByteArray.empty,60,24,3,2⟩,⟨ByteArray.empty, -1, -1,0,1⟩,⟨⟨#[97]⟩,30,7, -1, -1⟩]]:List (List DThing)) ((G9 2).sl 1)).length:Int)=1))):Bool) fun p7 hp7=>?_;refine V.g [.k (iv (0:Int)),.k (bv (!(decide ((0:Int)=0)))),.k (bv (!(decide ((0:Int)=0)))),.k (iv (0:Int)),.k (bv (!(decide ((0:Int)=0)))),.orn g0 false (!(decide ((0:Int)=0))) (!(decide ((0:Int)=0))) p6 hp6,.k (bv p6),.k (iv (0:Int)),.k (bv (!(decide ((0:Int)=0)))),.or g0 false p6 (!(decide ((0:Int)=0))),.k (bv (p6 || (!(decide ((0:Int)=0))))),.k (((G9 2).ss 1).v),.ln (kf true (.f 15) (fats ([[⟨ByteArray.empty,60,24,3,2⟩,⟨ByteArray.empty, -1, -1,0,1⟩,⟨⟨#[97]⟩,30,7, -1, -1⟩]]:List (List DThing)) ((G9 2).sl 1)) (fun _=>(G9 2).ss 1)),.k (bv (!(decide (((fats ([[⟨ByteArray.empty,60,24,3,2⟩,⟨ByteArray.empty, -1, -1,0,1⟩,⟨⟨#[97]⟩,30,7, -1, -1⟩]]:List (List DThing)) ((G9 2).sl 1)).length:Int)=1)))),.orn g0 false (p6 || (!(decide ((0:Int)=0)))) (!(decide (((fats ([[⟨ByteArray.empty,60,24,3,2⟩,⟨ByteArray.empty, -1, -1,0,1⟩,⟨⟨#[97]⟩,30,7, -1, -1⟩]]:List (List DThing)) ((G9 2).sl 1)).length:Int)=1))) p7 hp7,.k (bv p7),.k (((G9 2).ss 0).v),.k (((G9 2).ss 1).v),.k (((G10 2).ss 0).v),.k (((G10 2).ss 1).v),.cp (gF (b:=p7) (iN hp7 (iOF (iOF (iN hp6 (iOF (iNF iDT) (iNF iDT))) (iNF iDT)) (iNF iDT)))) 20 71 [(kf true (.f 14) (fats ([[4,3,0]]:List (List Int)) ((G9 2).sl 0)) (fun _=>(G9 2).ss 0)).a,(kf true (.f 15) (fats ([[⟨ByteArray.empty,60,24,3,2⟩,⟨ByteArray.empty, -1, -1,0,1⟩,⟨⟨#[97]⟩,30,7, -1, -1⟩]]:List (List DThing)) ((G9 2).sl 1)) (fun _=>(G9 2).ss 1)).a,(kf true (.f 17) (fats ([[4,3,1]]:List (List Int)) ((G10 2).sl 0)) (fun _=>(G10 2).ss 0)).a,(kf true (.f 18) (fats ([[⟨ByteArray.empty,60,24,3,2⟩,⟨ByteArray.empty, -1, -1,0,1⟩,⟨⟨#[98]⟩,20,8, -1, -1⟩]]:List (List DThing)) ((G10 2).sl 1)) (fun _=>(G10 2).ss 1)).a] (fun hg G=>agree_ctv (fats ([[4,3,0]]:List (List Int)) ((G9 2).sl 0)) ((G9 2).ss 0) (fats ([[⟨ByteArray.empty,60,24,3,2⟩,⟨ByteArray.empty, -1, -1,0,1⟩,⟨⟨#[97]⟩,30,7, -1, -1⟩]]:List (List DThing)) ((G9 2).sl 1)) ((G9 2).ss 1) (fats ([[4,3,1]]:List (List Int)) ((G10 2).sl 0)) ((G10 2).ss 0) (fats ([[⟨ByteArray.empty,60,24,3,2⟩,⟨ByteArray.empty, -1, -1,0,1⟩,⟨⟨#[98]⟩,20,8, -1, -1⟩]]:List (List DThing)) ((G10 2).sl 1)) ((G10 2).ss 1) true (by kernel_rfl)),.kb false,.or g0 false p7 false,.k (bv (p7 || false)),.k (((G9 2).ss 0).v),.k (((G9 2).ss 1).v),.k (((G11 2).ss 0).v),.k (((G11 2).ss 1).v),.cp (gF (b:=p7 || false) (iOF (iN hp7 (iOF (iOF (iN hp6 (iOF (iNF iDT) (iNF iDT))) (iNF iDT)) (iNF iDT))) iFF)) 28 71 [(kf true (.f 14) (fats ([[4,3,0]]:List (List Int)) ((G9 2).sl 0)) (fun _=>(G9 2).ss 0)).a,(kf true (.f 15) (fats ([[⟨ByteArray.empty,60,24,3,2⟩,⟨ByteArray.empty, -1, -1,0,1⟩,⟨⟨#[97]⟩,30,7, -1, -1⟩]]:List (List DThing)) ((G9 2).sl 1)) (fun _=>(G9 2).ss 1)).a,(kf true (.f 20) (fats ([[4,3,0],[4,2]]:List (List Int)) ((G11 2).sl 0)) (fun _=>(G11 2).ss 0)).a,(kf true (.f 21) (fats ([[⟨ByteArray.empty,60,24,3,2⟩,⟨ByteArray.empty, -1, -1,0,1⟩,⟨⟨#[97]⟩,30,7, -1, -1⟩],[⟨ByteArray.empty,60,24,3,2⟩,⟨⟨#[99]⟩,10,9, -1, -1⟩]]:List (List DThing)) ((G11 2).sl 1)) (fun _=>(G11 2).ss 1)).a] (fun hg G=>agree_ctv (fats ([[4,3,0]]:List (List Int)) ((G9 2).sl 0)) ((G9 2).ss 0) (fats ([[⟨ByteArray.empty,60,24,3,2⟩,⟨ByteArray.empty, -1, -1,0,1⟩,⟨⟨#[97]⟩,30,7, -1, -1⟩]]:List (List DThing)) ((G9 2).sl 1)) ((G9 2).ss 1) (fats ([[4,3,0],[4,2]]:List (List Int)) ((G11 2).sl 0)) ((G11 2).ss 0) (fats ([[⟨ByteArray.empty,60,24,3,2⟩,⟨ByteArray.empty, -1, -1,0,1⟩,⟨⟨#[97]⟩,30,7, -1, -1⟩],[⟨ByteArray.empty,60,24,3,2⟩,⟨⟨#[99]⟩,10,9, -1, -1⟩]]:List (List DThing)) ((G11 2).sl 1)) ((G11 2).ss 1) true (by kernel_rfl)),.kb false,.or g0 false (p7 || false) false,.k (bv ((p7 || false) || false)),.ld 0 0 true (fun _=>Dat.cells (DVault.mk ⟨Tm.exT,(G2 0).ss 0⟩)),.k (((G9 2).ss 0).v),.k (((G9 2).ss 1).v),.cp (gF (b:=(p7 || false) || false) (iOF (iOF (iN hp7 (iOF (iOF (iN hp6 (iOF (iNF iDT) (iNF iDT))) (iNF iDT)) (iNF iDT))) iFF) iFF)) 35 72 [(kf true (.f 0) Tm.exT (fun _=>(G2 0).ss 0)).a,(kf true (.f 14) (fats ([[4,3,0]]:List (List Int)) ((G9 2).sl 0)) (fun _=>(G9 2).ss 0)).a,(kf true (.f 15) (fats ([[⟨ByteArray.empty,60,24,3,2⟩,⟨ByteArray.empty, -1, -1,0,1⟩,⟨⟨#[97]⟩,30,7, -1, -1⟩]]:List (List DThing)) ((G9 2).sl 1)) (fun _=>(G9 2).ss 1)).a] (fun hg G=>rcheck_ctv Tm.exT ((G2 0).ss 0) (fats ([[4,3,0]]:List (List Int)) ((G9 2).sl 0)) ((G9 2).ss 0) (fats ([[⟨ByteArray.empty,60,24,3,2⟩,⟨ByteArray.empty, -1, -1,0,1⟩,⟨⟨#[97]⟩,30,7, -1, -1⟩]]:List (List DThing)) ((G9 2).sl 1)) ((G9 2).ss 1) true (by intro x hx;simp only [fats,List.mem_cons,List.not_mem_nil,or_false] at hx;subst hx;simp) (by kernel_rfl)),.kb false,.or g0 false ((p7 || false) || false) false] fun _ _ G12=>?_;intro S_ s_;refine V.cn (b:=((p7 || false) || false) || false) (iOT (iOT (iOT (iN hp7 (iOT (iOT (iN hp6 (iOT (iNT iDF) (iNT iDF))) (iNT iDF)) (iNT iDF))) iFT) iFT) iFT) (iOF (iOF (iOF (iN hp7 (iOF (iOF (iN hp6 (iOF (iNF iDT) (iNF iDT))) (iNF iDT)) (iNF iDT))) iFF) iFF) iFF) (fun q3=>?_) (fun q4=>?_)
  · exact absurd q3 (by simp)
  refine nm ((fats ([[⟨ByteArray.empty,60,24,3,2⟩,⟨ByteArray.empty, -1, -1,0,1⟩,⟨⟨#[97]⟩,30,7, -1, -1⟩]]:List (List DThing)) ((G9 2).sl 1)).getD (0:Int).toNat default:Fat DThing) fun x1 hx1=>?_;refine nm (([]:List DThing) ++x1.l:List DThing) fun l1 hl1=>?_;have hl1n:=congrArg List.length hl1;try simp only [List.length_append,List.length_cons,List.length_nil,List.length_replicate,List.length_set,List.length_take,List.length_drop,List.length_map,List.length_reverse,List.length_range] at hl1n
  refine V.r [.nl 0 1 true 88 ([]:List DThing) [] (fun _ _ _ _ _=>trivial) (fun _=>#[]),.k (((G9 2).ss 1).v),.ix g0 (kf true (.f 15) (fats ([[⟨ByteArray.empty,60,24,3,2⟩,⟨ByteArray.empty, -1, -1,0,1⟩,⟨⟨#[97]⟩,30,7, -1, -1⟩]]:List (List DThing)) ((G9 2).sl 1)) (fun _=>(G9 2).ss 1)) 0 (fun _=>⟨by omega,by simp⟩),.le g0 (kf true (.f 15) (fats ([[⟨ByteArray.empty,60,24,3,2⟩,⟨ByteArray.empty, -1, -1,0,1⟩,⟨⟨#[97]⟩,30,7, -1, -1⟩]]:List (List DThing)) ((G9 2).sl 1)) (fun _=>(G9 2).ss 1)) (0:Int) none true x1 hx1 (fun _=>⟨by omega,by simp⟩) false (fun _=>[x1.s.v]),.ap 4 1 88 48 false true ([]:List DThing) (fun G=>⟨atB (G 0).b,0,0⟩) (kx true (.g 3 0) x1 x1.l (fun _=>x1.s) (fun _ _ h=>h)) true l1 hl1 (by rw [hx1];simp [fats]) (fun h=>by cases h) (.inr fun _ _=>trivial),.v fun G=>((G 4).s).v] fun _ _ G13 kw13=>?_;intro S_ s_
  obtain ⟨⟨kl23, -⟩, -⟩:Lq x1.l x1.s.v∧Lq l1 (((G13 4).s).v)∧True:=kq kw13;clear kw13;refine V.g [.k (((G13 4).s).v),.ln (ko true 88 1 l1 (fun _=>(G13 4).s)),.k (bv (!(decide ((l1.length:Int)=3))))] fun _ _ G14=>?_;intro S_ s_;refine V.cn (b:=!(decide ((l1.length:Int)=3))) (iNT iDF) (iNF iDT) (fun q5=>?_) (fun q6=>?_)
  · exact absurd q5 (by rw [hl1,hx1];simp [fats])
  refine nm (l1.getD (2:Int).toNat default:DThing) fun x2 hx2=>?_;refine nm (l1.set (2:Int).toNat (DThing.mk x2.Text 31 x2.Blind x2.Left x2.Right):List DThing) fun l2 hl2=>?_;have hl2n:=congrArg List.length hl2;try simp only [List.length_append,List.length_cons,List.length_nil,List.length_replicate,List.length_set,List.length_take,List.length_drop,List.length_map,List.length_reverse,List.length_range] at hl2n
  refine V.g [.k (((G13 4).s).v),.ix g0 (ko true 88 1 l1 (fun _=>(G13 4).s)) 2 (fun _=>⟨by omega,by omega⟩),.k (.pointer (some ((elemAddr (((G13 4).s).v) ((2:Int).toNat * 5)).add 1))),.se g0 3 1 88 true l1 (fun _=>(G13 4).s) (2:Int) (some 1) x2 (DThing.mk x2.Text 31 x2.Blind x2.Left x2.Right) hx2 true l2 hl2 (fun _=>⟨by omega,by omega⟩) (fun _=>rfl) [] (fun _ _ _ _=>trivial)] fun _ _ G15=>?_;intro S_ s_
  refine nm ((fats ([[4,3,1],[4,2]]:List (List Int)) ((G3 2).sl 0)).getD (0:Int).toNat default:Fat Int) fun x3 hx3=>?_;refine nm ((fats ([[4,3,1],[4,2]]:List (List Int)) ((G3 2).sl 0)).getD (1:Int).toNat default:Fat Int) fun x4 hx4=>?_;refine V.r [.k (((G3 2).ss 0).v),.ix g0 (kf true (.f 2) (fats ([[4,3,1],[4,2]]:List (List Int)) ((G3 2).sl 0)) (fun _=>(G3 2).ss 0)) 0 (fun _=>⟨by omega,by simp⟩),.le g0 (kf true (.f 2) (fats ([[4,3,1],[4,2]]:List (List Int)) ((G3 2).sl 0)) (fun _=>(G3 2).ss 0)) (0:Int) none true x3 hx3 (fun _=>⟨by omega,by simp⟩) false (fun _=>[x3.s.v]),.nr 3 true 3 ([4,3,1]:List Int) [] (fun _ _ _ _ _=>trivial) (fun _=>#[iv 4,iv 3,iv 1]),.cp g0 4 55 [(kx true (.g 2 0) x3 x3.l (fun _=>x3.s) (fun _ _ h=>h)).a,(kf true (.g 3 0) ([4,3,1]:List Int) (fun G=>⟨atB (G 3).b,3,3⟩)).a] (fun _ G=>samei_ctv x3.l x3.s ([4,3,1]:List Int) ⟨atB (G 3).b,3,3⟩ true (by rw [hx3];kernel_rfl)),.kb true,.k (((G3 2).ss 0).v),.ix g0 (kf true (.f 2) (fats ([[4,3,1],[4,2]]:List (List Int)) ((G3 2).sl 0)) (fun _=>(G3 2).ss 0)) 1 (fun _=>⟨by omega,by simp⟩),.le g0 (kf true (.f 2) (fats ([[4,3,1],[4,2]]:List (List Int)) ((G3 2).sl 0)) (fun _=>(G3 2).ss 0)) (1:Int) none true x4 hx4 (fun _=>⟨by omega,by simp⟩) false (fun _=>[x4.s.v]),.nr 9 true 3 ([4,2]:List Int) [] (fun _ _ _ _ _=>trivial) (fun _=>#[iv 4,iv 2]),.cp g0 10 55 [(kx true (.g 8 0) x4 x4.l (fun _=>x4.s) (fun _ _ h=>h)).a,(kf true (.g 9 0) ([4,2]:List Int) (fun G=>⟨atB (G 9).b,2,2⟩)).a] (fun _ G=>samei_ctv x4.l x4.s ([4,2]:List Int) ⟨atB (G 9).b,2,2⟩ true (by rw [hx4];kernel_rfl)),.kb true,.kb true] fun _ _ G16 kw16=>?_;intro S_ s_
  obtain ⟨⟨kl24, -⟩,⟨kl25, -⟩, -⟩:Lq x3.l x3.s.v∧Lq ([4,3,1]:List Int) (SV.v ⟨atB (G16 3).b,3,3⟩)∧Lq l2 (((G13 4).s).v)∧True:=kq kw16;clear kw16;refine V.frz 1 true 88 l2 ((G13 4).s) (by kernel_rfl) ?_;refine V.g [.kb true,.kb true,.k (((G9 2).ss 0).v),.k (((G13 4).s).v),.nr 4 true 49 ([⟨l2,(G13 4).s⟩]:List (Fat DThing)) [(kf true (.f 25) l2 (fun _=>(G13 4).s)).a] (fun _ _ h=>(List.forall_mem_cons.2 ⟨h.1,(List.forall_mem_nil _)⟩)) (fun _=>#[((G13 4).s).v]),.k (((G11 2).ss 0).v),.k (((G11 2).ss 1).v),.cp g0 7 71 [(kf true (.f 14) (fats ([[4,3,0]]:List (List Int)) ((G9 2).sl 0)) (fun _=>(G9 2).ss 0)).a,(kf true (.g 4 0) ([⟨l2,(G13 4).s⟩]:List (Fat DThing)) (fun G=>⟨atB (G 4).b,1,1⟩)).a,(kf true (.f 20) (fats ([[4,3,0],[4,2]]:List (List Int)) ((G11 2).sl 0)) (fun _=>(G11 2).ss 0)).a,(kf true (.f 21) (fats ([[⟨ByteArray.empty,60,24,3,2⟩,⟨ByteArray.empty, -1, -1,0,1⟩,⟨⟨#[97]⟩,30,7, -1, -1⟩],[⟨ByteArray.empty,60,24,3,2⟩,⟨⟨#[99]⟩,10,9, -1, -1⟩]]:List (List DThing)) ((G11 2).sl 1)) (fun _=>(G11 2).ss 1)).a] (fun _ G=>agree_ctv (fats ([[4,3,0]]:List (List Int)) ((G9 2).sl 0)) ((G9 2).ss 0) ([⟨l2,(G13 4).s⟩]:List (Fat DThing)) ⟨atB (G 4).b,1,1⟩ (fats ([[4,3,0],[4,2]]:List (List Int)) ((G11 2).sl 0)) ((G11 2).ss 0) (fats ([[⟨ByteArray.empty,60,24,3,2⟩,⟨ByteArray.empty, -1, -1,0,1⟩,⟨⟨#[97]⟩,30,7, -1, -1⟩],[⟨ByteArray.empty,60,24,3,2⟩,⟨⟨#[99]⟩,10,9, -1, -1⟩]]:List (List DThing)) ((G11 2).sl 1)) ((G11 2).ss 1) false (by rw [hl2,hx2,hl1,hx1];kernel_rfl)),.kb true,.kb true,.kb true,.ld 0 0 true (fun _=>Dat.cells (DVault.mk ⟨Tm.exT,(G2 0).ss 0⟩)),.k (((G9 2).ss 0).v),.k (((G13 4).s).v),.nr 14 true 49 ([⟨l2,(G13 4).s⟩]:List (Fat DThing)) [(kf true (.f 25) l2 (fun _=>(G13 4).s)).a] (fun _ _ h=>(List.forall_mem_cons.2 ⟨h.1,(List.forall_mem_nil _)⟩)) (fun _=>#[((G13 4).s).v]),.cp g0 15 72 [(kf true (.f 0) Tm.exT (fun _=>(G2 0).ss 0)).a,(kf true (.f 14) (fats ([[4,3,0]]:List (List Int)) ((G9 2).sl 0)) (fun _=>(G9 2).ss 0)).a,(kf true (.g 14 0) ([⟨l2,(G13 4).s⟩]:List (Fat DThing)) (fun G=>⟨atB (G 14).b,1,1⟩)).a] (fun _ G=>rcheck_ctv Tm.exT ((G2 0).ss 0) (fats ([[4,3,0]]:List (List Int)) ((G9 2).sl 0)) ((G9 2).ss 0) ([⟨l2,(G13 4).s⟩]:List (Fat DThing)) ⟨atB (G 14).b,1,1⟩ false (by intro x hx;simp only [fats,List.mem_cons,List.not_mem_nil,or_false] at hx;subst hx;simp) (by rw [hl2,hx2,hl1,hx1];kernel_rfl)),.kb true,.kb true,.kb true] fun _ _ G17=>?_;intro S_ s_;exact V.rs [0] [] [] [] [] [] (bv true)

namespace Tm
structure Alike (l m:List DThing):Prop where
  len:l.length=m.length
  left:∀ k:Nat,(l.getD k default).Left=(m.getD k default).Left
  right:∀ k:Nat,(l.getD k default).Right=(m.getD k default).Right
theorem Alike.refl (l:List DThing):Alike l l:=⟨rfl,fun _=>rfl,fun _=>rfl⟩
end Tm

open Go
namespace Rv
open Tm
theorem sum_part {α:Type} (f:α→Int) (q:α→Bool):∀ l:List α,((l.filter q).map f).sum+((l.filter fun a=>!q a).map f).sum=(l.map f).sum
  | []=>rfl
  | a :: l=>by
    have ih:=sum_part f q l
    cases h:q a <;> simp [List.filter_cons,h] <;> omega
theorem down_many {l:List DThing} (hS:Sound l):∀ (n:Nat) (r:Int),r.toNat=n→has l r→∀ A:List Int,A.Nodup→(∀ a ∈ A,Down l r a∧(el l a).Left= -1)→(A.map fun a=>(el l a).Value).sum≤(el l r).Value:=by
  intro n
  induction n using Nat.strongRecOn with
  | _ n ih =>
    intro r hn hr A hA h
    have hb:=bd_el hS hr
    by_cases e:(el l r).Left= -1
    · have all:∀ a ∈ A,a=r:=fun a ha=>by
        obtain ⟨h1,h2⟩:=h a ha
        cases h1 with
        | refl _=>rfl
        | step hr hc hx hd=>exact absurd e (half hS hr hc hx).1
      match A,hA,all with
      | [],_,_=>simpa using hb.1
      | [a],_,all=>rw [all a (by simp)];simp
      | a :: b :: A,hA,all =>
        exfalso
        have h1:=all a (by simp);have h2:=all b (by simp)
        rw [List.nodup_cons] at hA
        exact hA.1 (by rw [h1,← h2];simp)
    · unfold has at hr
      have hp:=sound_pair hS hr.1 hr.2 (x:=el l r) rfl e
      have hL:has l (el l r).Left:=by unfold has;omega
      have hR:has l (el l r).Right:=by unfold has;omega
      have hh:=half hS hr hL (.inl rfl)
      have hs:=sum_part (fun a=>(el l a).Value) (fun a=>near l a (el l r).Left) A
      have key:∀ a ∈ A,near l a (el l r).Left=true→Down l (el l r).Left a:=fun a ha hn=>by
        have h2:=(h a ha).1.has2
        obtain ⟨g1,g2,g3,g4⟩:=rest_walks hS h2 _ _ rfl hL hn
        have:=down_path g1 ((rest l a (el l r).Left).length - 1) 0 (by omega)
        rw [g2,Nat.zero_add] at this
        have e3:pe (rest l a (el l r).Left) ((rest l a (el l r).Left).length - 1)=a:=g3
        rwa [e3] at this
      have key2:∀ a ∈ A,near l a (el l r).Left=false→Down l (el l r).Right a:=fun a ha hn=>by
        obtain ⟨h1,h2⟩:=h a ha
        cases h1 with
        | refl _=>exact absurd h2 e
        | step hr hc hx hd =>
          rcases hx with hx | hx
          · rw [←hx] at hd;rw [near_of hS hd] at hn;cases hn
          · rw [hx];exact hd
      have i1:=ih (el l r).Left.toNat (by omega) _ rfl hL (A.filter fun a=>near l a (el l r).Left) (hA.filter _) fun a ha=>by
        rw [List.mem_filter] at ha
        exact ⟨key a ha.1 ha.2,(h a ha.1).2⟩
      have i2:=ih (el l r).Right.toNat (by omega) _ rfl hR (A.filter fun a=>!near l a (el l r).Left) (hA.filter _) fun a ha=>by
        rw [List.mem_filter] at ha
        exact ⟨key2 a ha.1 (by simpa using ha.2),(h a ha.1).2⟩
      have hv:=hh.2.2.1
      omega
theorem view_el {v:List DThing} {p:List Int} (hW:Walks v p) {i:Nat} (hi:i < p.length):te (viewF v p) i=viewEl v p i:=(view_len rfl hW).2 i hi
theorem check_walks {v:List DThing} {P:List (List Int)} {S:List (List DThing)} (h:CheckP v P S) {i:Nat} (hi:i < P.length) :
    Walks v (pl P i)∧sl S i=viewF v (pl P i)∧te (sl S i) 0=el v (pe (pl P i) 0)∧lst (sl S i)=el v (lastI (pl P i))∧(el v (lastI (pl P i))).Left= -1∧Down v (pe (pl P i) 0) (lastI (pl P i)):=by
  obtain ⟨hF,hv⟩:=h
  have hr:=(hF.2.2.2.1 i hi).1
  have e:=hv i hi
  have hW:Walks v (pl P i):=Decidable.by_contra fun hc=>by
    rw [viewF_no hc] at e
    have:=hr.2.1;rw [←e] at this
    exact hr.1 this.symm
  have hl:=(view_len (rfl:viewF v (pl P i)=_) hW).1
  have hn:=hr.1
  have e0:te (sl S i) 0=el v (pe (pl P i) 0):=by
    rw [←e,view_el hW (by omega)];unfold viewEl;rw [if_neg (by omega)]
  have e1:lst (sl S i)=el v (lastI (pl P i)):=by
    unfold lst;rw [←e,hl,view_el hW (by omega)];unfold viewEl lastI;rw [if_neg (by omega)]
  refine ⟨hW,e.symm,e0,e1,?_,?_⟩
  · rw [←e1];unfold lst;rw [hr.2.1];exact hr.2.2.2.2.2.1
  · have:=down_path hW.2.2 ((pl P i).length - 1) 0 (by omega)
    rwa [Nat.zero_add] at this
theorem pl_map {β:Type} (f:List Int→β) (P:List (List Int)) (n:Nat) (hn:n≤P.length):(P.take n).map f=(List.range n).map fun i=>f (pl P i):=by
  refine List.ext_getElem (by simp;omega) fun j h1 h2=>?_
  have hj:j < P.length:=by simp at h1;omega
  simp [pl,List.getD_eq_getElem?_getD,hj]
theorem sl_map {β:Type} (f:List DThing→β) (S:List (List DThing)) (n:Nat) (hn:n≤S.length):(S.take n).map f=(List.range n).map fun i=>f (sl S i):=by
  refine List.ext_getElem (by simp;omega) fun j h1 h2=>?_
  have hj:j < S.length:=by simp at h1;omega
  simp [sl,List.getD_eq_getElem?_getD,hj]
theorem check_sum {v:List DThing} {P:List (List Int)} {S:List (List DThing)} (h:CheckP v P S):opn S S.length≤(te (sl S 0) 0).Value∧∀ i,i < P.length→0≤(lst (sl S i)).Value:=by
  have hF:=h.1
  have h0:0 < P.length:=Nat.pos_of_ne_zero hF.1
  have hl:=hF.2.2.1
  obtain ⟨hW,_,e0,_,_,hd⟩:=check_walks h h0
  have hS:=hW.1
  refine ⟨?_,fun i hi=>(form_lst hF (i:=i) (by omega)).2.1.1⟩
  have e:opn S S.length=((P.map lastI).map fun a=>(el v a).Value).sum:=by
    unfold opn
    have h2:(P.map lastI).map (fun a=>(el v a).Value)=(List.range P.length).map fun i=>(el v (lastI (pl P i))).Value:=by
      rw [List.map_map]
      have:=pl_map (fun p=>(el v (lastI p)).Value) P P.length (Nat.le_refl _)
      rwa [List.take_length] at this
    rw [sl_map _ S S.length (Nat.le_refl _),h2,hl]
    refine congrArg List.sum (List.map_congr_left fun i hi=>?_)
    rw [(check_walks h (by simpa using hi)).2.2.2.1]
  rw [e,e0]
  refine down_many hS _ _ rfl hd.has1 _ hF.2.2.2.2 fun a ha=>?_
  obtain ⟨p,hp,rfl⟩:=List.mem_map.1 ha
  obtain ⟨j,hj,rfl⟩:=List.mem_iff_getElem.1 hp
  have ep:pl P j=P[j]:=by unfold pl;simp [List.getD_eq_getElem?_getD,hj]
  obtain ⟨_,_,_,_,k1,k2⟩:=check_walks h hj
  rw [ep] at k1 k2
  have hr:=(hF.2.2.2.1 j hj).2.1
  rw [ep] at hr
  rw [←hr]
  exact ⟨k2,k1⟩
theorem rest_ok {v:List DThing} {P:List (List Int)} {S:List (List DThing)} (h:CheckP v P S):restB P S∧restV P S=restT S:=by
  have:restB P S:=⟨h.1,by unfold restT;have:=(check_sum h).1;omega⟩
  exact ⟨this,restV_yes this⟩
theorem plN_foldl (l:List Int) (at':List UInt8) (hl:l.length≠0):plN l at'=at'.foldl (plS l) ([],[]):=by unfold plN;rw [if_neg hl]
theorem plN_is {a n:Nat} {l:List Int} (hl:l=idsN a n) (at':List UInt8) :
    (plN l at').1=(plN l at').2.map (fun k=>(a:Int)+k)∧(plN l at').2.Nodup∧(∀ k ∈ (plN l at').2,0≤k∧k < n)∧(plN l at').2.length≤at'.length:=by
  have hlen:l.length=n:=by subst hl;simp [idsN]
  by_cases h0:l.length=0
  · unfold plN;rw [if_pos h0];simp
  · refine snoc_ind (motive:=fun at'=>(plN l at').1=(plN l at').2.map (fun k=>(a:Int)+k)∧(plN l at').2.Nodup∧(∀ k ∈ (plN l at').2,0≤k∧k < n)∧(plN l at').2.length≤at'.length) ?_ (fun at' x ih=>?_) at'
    · rw [plN_zero];simp
    · obtain ⟨i1,i2,i3,i4⟩:=ih
      have e:plN l (at' ++[x])=plS l (plN l at') x:=by rw [plN_foldl _ _ h0,plN_foldl _ _ h0,List.foldl_append];rfl
      have hm0:0≤(x.toNat:Int) % l.length:=Int.emod_nonneg _ (by omega)
      have hm1:(x.toNat:Int) % l.length < l.length:=Int.emod_lt_of_pos _ (by omega)
      rw [e];unfold plS
      by_cases hc:(x.toNat:Int) % l.length ∈ (plN l at').2
      · rw [if_pos hc];exact ⟨i1,i2,i3,by simp;omega⟩
      · rw [if_neg hc]
        refine ⟨?_,?_,fun k hk=>?_,by simp;omega⟩
        · simp only [List.map_append,← i1]
          congr 1
          have:=ids_get hl (i:=(x.toNat:Int) % l.length) hm0 (by omega) rfl
          rw [this]
          have hq:∀ q:Int,0≤q→((a+q.toNat:Nat):Int)=(a:Int)+q:=fun q h=>by omega
          exact congrArg (fun z=>[z]) (hq _ hm0)
        · rw [List.nodup_append]
          refine ⟨i2,by simp,fun b hb c hcc=>?_⟩
          have:c=(x.toNat:Int) % l.length:=by simpa using hcc
          subst this
          exact fun e=>hc (e ▸ hb)
        · rcases List.mem_append.1 hk with hk | hk
          · exact i3 k hk
          · have:k=(x.toNat:Int) % l.length:=by simpa using hk
            subst this;omega
def lfs (a:Nat) (W:List Int):List Int:=W.map fun k=>(a:Int)+k
structure Wh (n:Nat) (W:List Int):Prop where
  nd:W.Nodup
  rg:∀ k ∈ W,0≤k∧k < n
  ne:W.length≠0
  le:W.length≤64
theorem lfs_get {a:Nat} {W:List Int} {i:Nat} (hi:i < W.length):(lfs a W).getD i default=(a:Int)+W.getD i default:=by
  simp [lfs,List.getD_eq_getElem?_getD,hi]
theorem lfs_nodup {a:Nat} {W:List Int} (h:W.Nodup):(lfs a W).Nodup:=by
  unfold lfs;unfold List.Nodup at *
  rw [List.pairwise_map]
  exact h.imp fun h e=>h (by omega)
theorem get_mem {W:List Int} {i:Nat} (hi:i < W.length):W.getD i default ∈ W:=by
  simp [List.getD_eq_getElem?_getD,hi]
section
variable {v : List DThing} {t : List ByteArray} {x b W : List Int}
theorem leaf_path (he:buildE v t x b=0) {k:Int} (h0:0≤k) (hk:k < t.length) :
    ∃ p,p=pathF (buildT v t x b) (buildR v t x b) ((v.length:Int)+k)∧p.length≠0∧Walks (buildT v t x b) p∧pe p 0=buildR v t x b∧lastI p=(v.length:Int)+k∧el (buildT v t x b) ((v.length:Int)+k)=leafAt t x b k.toNat:=by
  obtain ⟨hOK,_,hS,hl,_,hr,h1,h2,_,hd⟩:=built_is he
  obtain ⟨d1,d2⟩:=hd k.toNat (by omega)
  have ek:((v.length+k.toNat:Nat):Int)=(v.length:Int)+k:=by omega
  rw [ek] at d1 d2
  have hlen:(pathF (buildT v t x b) (buildR v t x b) ((v.length:Int)+k)).length≠0:=by
    rw [pathF_yes hS hr d1.has2 (near_of hS d1)]
    have:=(rest_len (buildT v t x b) ((v.length:Int)+k) (buildR v t x b).toNat (buildR v t x b)).1
    unfold rest;omega
  obtain ⟨hW,e0,e1,_⟩:=path_is (l:=buildT v t x b) rfl hlen
  exact ⟨_,rfl,hlen,hW,e0,e1,d2⟩
theorem show_built (he:buildE v t x b=0) (hW:Wh t.length W):showE (buildT v t x b) (buildR v t x b) (lfs v.length W)=0:=by
  obtain ⟨hOK,_,hS,hl,_,hr,_⟩:=built_is he
  have hA:argS (buildT v t x b) (buildR v t x b) (lfs v.length W):=⟨hS,hr,by unfold lfs;rw [List.length_map];exact hW.ne,by unfold lfs;rw [List.length_map];exact hW.le⟩
  unfold showE;rw [if_pos hA]
  have hlen:(lfs v.length W).length=W.length:=by simp [lfs]
  have key:∀ n,n≤W.length→scanE (buildT v t x b) (buildR v t x b) (lfs v.length W) n=0:=by
    intro n
    induction n with
    | zero=>intro _;rfl
    | succ n ih =>
      intro hn
      unfold scanE
      rw [if_pos (ih (by omega))]
      have hm:=hW.rg _ (get_mem (W:=W) (i:=n) (by omega))
      obtain ⟨p,hp,h1,h2,h3,h4,h5⟩:=leaf_path he hm.1 hm.2
      unfold stepE oe
      rw [lfs_get (by omega),← hp]
      rw [if_neg (by
        rintro (h | h)
        · exact h1 h
        · rw [h5] at h;exact h rfl),if_neg]
      intro hmem
      have hnd:=lfs_nodup (a:=v.length) hW.nd
      have hn':n < (lfs v.length W).length:=by omega
      have e2:(lfs v.length W)[n]=(v.length:Int)+W.getD n default:=by
        rw [←lfs_get (a:=v.length) (by omega)];simp [List.getD_eq_getElem?_getD,hn']
      rw [←e2] at hmem
      obtain ⟨j,hj,ej⟩:=List.mem_iff_getElem.1 hmem
      simp only [List.length_take] at hj
      rw [List.getElem_take] at ej
      have:=(List.getElem_inj hnd).1 ej
      omega
  rw [hlen];exact key _ (Nat.le_refl _)
theorem showP_built (he:buildE v t x b=0) (hW:Wh t.length W):showP (buildT v t x b) (buildR v t x b) (lfs v.length W)=(lfs v.length W).map (pathF (buildT v t x b) (buildR v t x b))∧showS (buildT v t x b) (buildR v t x b) (lfs v.length W)=(lfs v.length W).map fun a=>viewF (buildT v t x b) (pathF (buildT v t x b) (buildR v t x b) a):=by
  unfold showP showS;rw [if_pos (show_built he hW),if_pos (show_built he hW)];exact ⟨rfl,rfl⟩
theorem view_form {l:List DThing} {p:List Int} (hp:Walks l p) (hl:isLeaf (el l (lastI p))):walk p (viewF l p):=by
  obtain ⟨hS,hne,hw⟩:=hp
  have hp:Walks l p:=⟨hS,hne,hw⟩
  have hlen:=(view_len (rfl:viewF l p=_) hp).1
  refine ⟨hne,hlen,fun i hi=>?_,?_,?_⟩
  · have h1:=hw (i+1) (by omega)
    have h2:=h1.2 (by omega)
    have h3:=(hw i (by omega)).1
    rw [Nat.add_sub_cancel] at h2
    have hh:=half hS h3 h1.1 h2
    have h3':=h3
    unfold has at h3'
    have ht:(el l (pe p i)).Text=ByteArray.empty:=by
      rcases sound_cases hS (k:=(pe p i).toNat) (by omega) with h4 | h4
      · exact absurd h4.1 hh.1
      · exact h4.2.2.2.2.1
    unfold mid
    rw [view_el hp (by omega)]
    unfold viewEl
    by_cases hc:0 < i∧i+1 < p.length
    · rw [if_pos hc];exact ⟨ht,h2,fun _=>⟨rfl,rfl⟩⟩
    · rw [if_neg hc];exact ⟨ht,h2,fun h=>absurd ⟨h,by omega⟩ hc⟩
  · rw [view_el hp (by omega)];unfold viewEl;rw [if_neg (by omega)]
    exact bd_el hS (hw 0 (by omega)).1
  · rw [view_el hp (by omega)];unfold viewEl;rw [if_neg (by omega)]
    unfold isLeaf lastI at hl
    exact ⟨bd_el hS (hw _ (by omega)).1,hl.1,hl.2.1,by omega⟩
theorem leaf_is {v:List DThing} {t:List ByteArray} {x b:List Int} (h:argsOK v t x b) {i:Nat} (hi:i < t.length):isLeaf (leafAt t x b i):=h.2.2.2.2 i hi
theorem show_check (he:buildE v t x b=0) (hW:Wh t.length W):CheckP (buildT v t x b) (showP (buildT v t x b) (buildR v t x b) (lfs v.length W)) (showS (buildT v t x b) (buildR v t x b) (lfs v.length W)):=by
  obtain ⟨eP,eS⟩:=showP_built he hW
  rw [eP,eS]
  have hOK:=(built_is he).1
  have hlen:(lfs v.length W).length=W.length:=by simp [lfs]
  have at1:∀ i,i < W.length→∃ p,pl ((lfs v.length W).map (pathF (buildT v t x b) (buildR v t x b))) i=p∧sl ((lfs v.length W).map fun a=>viewF (buildT v t x b) (pathF (buildT v t x b) (buildR v t x b) a)) i=viewF (buildT v t x b) p ∧
      p.length≠0∧Walks (buildT v t x b) p∧pe p 0=buildR v t x b∧lastI p=(v.length:Int)+W.getD i default∧el (buildT v t x b) (lastI p)=leafAt t x b (W.getD i default).toNat:=fun i hi=>by
    have hm:=hW.rg _ (get_mem (W:=W) (i:=i) hi)
    obtain ⟨p,hp,h1,h2,h3,h4,h5⟩:=leaf_path he hm.1 hm.2
    have e:=lfs_get (a:=v.length) hi
    have hi':i < (lfs v.length W).length:=by omega
    have e':(lfs v.length W)[i]=(v.length:Int)+W.getD i default:=by rw [←e];simp [List.getD_eq_getElem?_getD,hi']
    refine ⟨p,?_,?_,h1,h2,h3,h4,by rw [h4];exact h5⟩
    · unfold pl;simp only [List.getD_eq_getElem?_getD,List.getElem?_map,List.getElem?_eq_getElem hi',e',Option.map_some,Option.getD_some]
      rw [←List.getD_eq_getElem?_getD];exact hp.symm
    · unfold sl;simp only [List.getD_eq_getElem?_getD,List.getElem?_map,List.getElem?_eq_getElem hi',e',Option.map_some,Option.getD_some]
      rw [←List.getD_eq_getElem?_getD,← hp]
  have hn:=hW.ne
  obtain ⟨p0,a0,b0,c0,d0,f0,_⟩:=at1 0 (by omega)
  have hv0:te (viewF (buildT v t x b) p0) 0=el (buildT v t x b) (buildR v t x b):=by
    rw [view_el d0 (by omega)];unfold viewEl;rw [if_neg (by omega),f0]
  refine ⟨⟨by simp [hlen];exact fun h=>hn (by rw [h];rfl),by simp [hlen];exact hW.le,by simp,fun i hi=>?_,?_⟩,fun i hi=>?_⟩
  · have hi:i < W.length:=by simpa [hlen] using hi
    obtain ⟨p,a,b',c,d,f,g,hh⟩:=at1 i hi
    have hm:=hW.rg _ (get_mem (W:=W) (i:=i) hi)
    have hv:te (viewF (buildT v t x b) p) 0=el (buildT v t x b) (buildR v t x b):=by
      rw [view_el d (by omega)];unfold viewEl;rw [if_neg (by omega),f]
    unfold row
    rw [a,b',a0,b0,f,f0,hv,hv0]
    exact ⟨view_form d (by rw [hh];exact leaf_is hOK (by omega)),rfl,rfl,rfl⟩
  · rw [List.map_map]
    have:(lfs v.length W).map (lastI ∘ pathF (buildT v t x b) (buildR v t x b))=lfs v.length W:=by
      refine (List.map_congr_left fun a ha=>?_).trans (List.map_id _)
      obtain ⟨k,hk,rfl⟩:=List.mem_map.1 ha
      have hr:=hW.rg k hk
      obtain ⟨p,hp,h1,h2,h3,h4,h5⟩:=leaf_path he hr.1 hr.2
      show lastI (pathF _ _ _)=_
      rw [←hp];exact h4
    rw [this];exact lfs_nodup hW.nd
  · have hi:i < W.length:=by simpa [hlen] using hi
    obtain ⟨p,a,b',_⟩:=at1 i hi
    rw [a,b']
theorem show_at (he:buildE v t x b=0) (hW:Wh t.length W) {i:Nat} (hi:i < W.length):(sl (showS (buildT v t x b) (buildR v t x b) (lfs v.length W)) i).length≠0 ∧
    (te (sl (showS (buildT v t x b) (buildR v t x b) (lfs v.length W)) i) 0).Value=totV x t.length∧lst (sl (showS (buildT v t x b) (buildR v t x b) (lfs v.length W)) i)=leafAt t x b (W.getD i default).toNat:=by
  have hC:=show_check he hW
  have hlen:(lfs v.length W).length=W.length:=by simp [lfs]
  have hPl:(showP (buildT v t x b) (buildR v t x b) (lfs v.length W)).length=W.length:=by rw [(showP_built he hW).1];simp [hlen]
  obtain ⟨w1,w2,w3,w4,w5,w6⟩:=check_walks hC (i:=i) (by omega)
  have hm:=hW.rg _ (get_mem (W:=W) (i:=i) hi)
  obtain ⟨p,hp,h1,h2,h3,h4,h5⟩:=leaf_path he hm.1 hm.2
  have e':pl (showP (buildT v t x b) (buildR v t x b) (lfs v.length W)) i=p:=by
    rw [(showP_built he hW).1]
    have hi':i < (lfs v.length W).length:=by omega
    have e'':(lfs v.length W)[i]=(v.length:Int)+W.getD i default:=by rw [←lfs_get (a:=v.length) hi];simp [List.getD_eq_getElem?_getD,hi']
    unfold pl;simp only [List.getD_eq_getElem?_getD,List.getElem?_map,List.getElem?_eq_getElem hi',e'',Option.map_some,Option.getD_some]
    rw [←List.getD_eq_getElem?_getD];exact hp.symm
  rw [e'] at w2 w3 w4
  rw [w3,w4,h3,h4,h5]
  refine ⟨?_,(built_is he).2.2.2.2.2.2.1,rfl⟩
  rw [w2,(view_len rfl h2).1];exact h1
theorem filter_one (n:Int):∀ W:List Int,W.Nodup→W.filter (fun k=>decide (k=n))=if n ∈ W then [n] else []
  | [],_=>rfl
  | a :: W,h=>by
    rw [List.nodup_cons] at h
    have ih:=filter_one n W h.2
    by_cases e:a=n
    · subst e
      rw [if_neg h.1] at ih
      rw [List.filter_cons,if_pos (by simp),ih,if_pos (by simp)]
    · rw [List.filter_cons,if_neg (by simpa using e),ih]
      by_cases hm:n ∈ W
      · rw [if_pos hm,if_pos (by simp [hm])]
      · rw [if_neg hm,if_neg (by simp [hm];exact fun h=>e h.symm)]
theorem sum_places {f:Int→Int} {n:Nat} (hW:Wh n W):(W.map f).sum+(((List.range n).map fun i:Nat=>if (i:Int) ∈ W then 0 else f i)).sum=((List.range n).map fun i:Nat=>f (i:Int)).sum:=by
  have key:∀ (W:List Int) (n:Nat),W.Nodup→(∀ k ∈ W,0≤k∧k < n)→(W.map f).sum+(((List.range n).map fun i:Nat=>if (i:Int) ∈ W then 0 else f i)).sum=((List.range n).map fun i:Nat=>f (i:Int)).sum:=by
    intro W n
    induction n generalizing W with
    | zero =>
      intro _ h
      cases W with
      | nil=>rfl
      | cons k W=>have:=h k (by simp);omega
    | succ n ih =>
      intro hn h
      have hs:=sum_part f (fun k=>decide (k=(n:Int))) W
      have e1:W.filter (fun k=>decide (k=(n:Int)))=if (n:Int) ∈ W then [(n:Int)] else []:=by
        exact filter_one (n:Int) W hn
      have i2:=ih (W.filter fun k=>!decide (k=(n:Int))) (hn.filter _) fun k hk=>by
        rw [List.mem_filter] at hk
        have:=h k hk.1
        have h2:¬ k=(n:Int):=by simpa using hk.2
        omega
      have e2:((List.range n).map fun i:Nat=>if (i:Int) ∈ (W.filter fun k=>!decide (k=(n:Int))) then 0 else f (i:Int))=(List.range n).map fun i:Nat=>if (i:Int) ∈ W then 0 else f (i:Int):=by
        refine List.map_congr_left fun i hi=>?_
        have hi:i < n:=by simpa using hi
        have:((i:Int) ∈ W.filter fun k=>!decide (k=(n:Int)))↔(i:Int) ∈ W:=by
          rw [List.mem_filter]
          constructor
          · exact fun h=>h.1
          · intro h;exact ⟨h,by simp;omega⟩
        by_cases hm:(i:Int) ∈ W
        · rw [if_pos (this.2 hm),if_pos hm]
        · rw [if_neg fun h=>hm (this.1 h),if_neg hm]
      rw [e2] at i2
      rw [e1] at hs
      rw [List.range_succ,List.map_append,List.sum_append,List.map_append,List.sum_append]
      by_cases hm:(n:Int) ∈ W
      · simp [hm] at hs ⊢;omega
      · simp [hm] at hs ⊢;omega
  exact key W n hW.nd hW.rg
def others (x W:List Int) (n:Nat):Int:=((List.range n).map fun i:Nat=>if (i:Int) ∈ W then 0 else x.getD i default).sum
theorem others_succ (x W:List Int) (n:Nat):others x W (n+1)=others x W n+if (n:Int) ∈ W then 0 else x.getD n default:=by
  unfold others;rw [List.range_succ,List.map_append,List.sum_append];simp
theorem show_rest (he:buildE v t x b=0) (hW:Wh t.length W):restB (showP (buildT v t x b) (buildR v t x b) (lfs v.length W)) (showS (buildT v t x b) (buildR v t x b) (lfs v.length W)) ∧
    restV (showP (buildT v t x b) (buildR v t x b) (lfs v.length W)) (showS (buildT v t x b) (buildR v t x b) (lfs v.length W))=others x W t.length:=by
  have hC:=show_check he hW
  obtain ⟨r1,r2⟩:=rest_ok hC
  refine ⟨r1,r2.trans ?_⟩
  have hn:=hW.ne
  have hlen:(showS (buildT v t x b) (buildR v t x b) (lfs v.length W)).length=W.length:=by rw [(showP_built he hW).2];simp [lfs]
  unfold restT
  rw [(show_at he hW (i:=0) (by omega)).2.1]
  have e1:opn (showS (buildT v t x b) (buildR v t x b) (lfs v.length W)) (showS (buildT v t x b) (buildR v t x b) (lfs v.length W)).length=(W.map fun k=>x.getD k.toNat default).sum:=by
    unfold opn
    rw [sl_map _ _ _ (Nat.le_refl _),hlen]
    have:W.map (fun k=>x.getD k.toNat default)=(List.range W.length).map fun i=>x.getD (W.getD i default).toNat default:=by
      refine List.ext_getElem (by simp) fun j h1 h2=>?_
      have hj:j < W.length:=by simpa using h1
      simp [List.getD_eq_getElem?_getD,hj]
    rw [this]
    refine congrArg List.sum (List.map_congr_left fun i hi=>?_)
    rw [(show_at he hW (i:=i) (by simpa using hi)).2.2];rfl
  have e2:=sum_places (f:=fun k=>x.getD k.toNat default) hW
  rw [e1]
  unfold totV others
  simp only [Int.toNat_natCast] at e2
  omega
end
section
variable {v : List DThing} {t : List ByteArray} {x b W O : List Int}
theorem pl_wh (he:buildE v t x b=0) {at':List UInt8} (h20:(at'.length:Int)≤20) (hne:¬ ((plN (buildL v t x b) at').1.length:Int)=0):(plN (buildL v t x b) at').1=lfs v.length (plN (buildL v t x b) at').2∧Wh t.length (plN (buildL v t x b) at').2:=by
  obtain ⟨h1,h2,h3,h4⟩:=plN_is (built_is he).2.2.2.2.2.2.2.2.1 at'
  refine ⟨h1,h2,h3,fun h=>hne ?_,by omega⟩
  rw [h1,List.length_map,h];rfl
theorem shows_is (he:buildE v t x b=0) (hO:O=lfs v.length W) (hW:Wh t.length W):showE (buildT v t x b) (buildR v t x b) O=0∧CheckP (buildT v t x b) (showP (buildT v t x b) (buildR v t x b) O) (showS (buildT v t x b) (buildR v t x b) O)∧(showP (buildT v t x b) (buildR v t x b) O).length=O.length∧(showS (buildT v t x b) (buildR v t x b) O).length=O.length∧W.length=O.length ∧
    restB (showP (buildT v t x b) (buildR v t x b) O) (showS (buildT v t x b) (buildR v t x b) O)∧restV (showP (buildT v t x b) (buildR v t x b) O) (showS (buildT v t x b) (buildR v t x b) O)=others x W t.length:=by
  subst hO
  obtain ⟨a,c⟩:=showP_built he hW
  refine ⟨show_built he hW,show_check he hW,by rw [a,List.length_map],by rw [c,List.length_map],by simp [lfs],show_rest he hW⟩
theorem ls_fats {α:Type} (S:List (List α)) (σ:Nat→SV):ls (fats S σ)=S:=fats_l S σ
theorem others_step {i s k:Int} (h0:0≤i) (hs:s=others x W i.toNat) (hk:k=x.getD i.toNat default):others x W (i+1).toNat=if i ∈ W then s else s+k:=by
  rw [show (i+1).toNat=i.toNat+1 by omega,others_succ,show ((i.toNat:Nat):Int)=i by omega,← hs,← hk]
  split <;> omega
end
end Rv
end Kb
