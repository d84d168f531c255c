/- Texts for the claim, put together: the calculus of regions, its rules, and contracts of the functions that the law reaches. -/
import Derived.Test.YtjjblfbofinlkaaGreatZBwe
set_option linter.all false
set_option maxRecDepth 10000
namespace Kb
open Go
def RC.ivr (R:RC) (G:Gh) (i:Nat):Option (Value × String × Array Value):=match (R.ops[i]?).map (fun o:Oper=>o.op) with
 | some (.call c)=>match c.callee with
  | .invoke recv name=>some (R.evalAt G i recv,name,c.args.map (R.evalAt G i))
  | _=>none
 | _=>none
def RC.ivt (R:RC) (G:Gh) (i:Nat):TypeId:=match R.ivr G i with
 | some (.iface t _,_,_)=>t
 | _=>0
def RC.ivo (R:RC) (G:Gh) (i:Nat):Nat:=match R.ivr G i with
 | some (.iface _ p,_,_)=>(addrOf p).off
 | _=>0
def RC.ivn (R:RC) (i:Nat):String:=match (R.ops[i]?).map (fun o:Oper=>o.op) with
 | some (.call c)=>match c.callee with
  | .invoke _ name=>name
  | _=> ""
 | _=> ""
def RC.iva (R:RC) (G:Gh) (i:Nat):Array Value:=match R.ivr G i with
 | some (_,_,a)=>a
 | _=>#[]
def ivm (P:Program) (t:TypeId) (b:String):Option FuncId:=match P.info? t,P.underlying t with
 | some i,some (.pointer elem)=>match i.methods.find? (·.name == b) with
  | some m=>match m.path.toList,m.func with
   | [],some (f,false)=>match P.funcs[f]? with
    | some fn=>bif (P.underlying elem).isSome && (sizeT P elem == some 1) && !aggB P elem && !(fn.name == "runtime.NumGoroutine") && fn.body.isSome then some f else none
    | none=>none
   | _,_=>none
  | none=>none
 | _,_=>none
theorem inv_run {P:Program} {R:RC} {G:Gh} {i:Nat} {w:World} {o:Oper} (ho:R.ops[i]?=some o) {t b off:Nat} {A:String} {ls:Array Value} {f:FuncId} {hd:Value} (e1:R.ivr G i=some (.iface t (.pointer (some ⟨b,off,none⟩)),A,ls)) (e2:ivm P t A=some f)
  (hc:w.cell? ⟨b,off,none⟩=some hd) (h1:cell1 hd=true):(execOp (R.evalAt G i) o).run P w=.ok (.enter f (#[hd] ++ls)) w:=by
 unfold RC.ivr at e1;rw [ho] at e1;obtain ⟨dst,op,C,pos,E,H⟩:=o;cases op <;> simp only [Option.map_some] at e1 <;> first | cases e1 | skip
 case call c =>
  obtain ⟨h,D,ats⟩:=c;cases h <;> simp only at e1 <;> first | cases e1 | skip
  case invoke recv nm =>
   simp only [Option.some.injEq,Prod.mk.injEq] at e1;obtain ⟨hr,rfl,ha⟩:=e1;unfold ivm at e2;split at e2
   ·rename_i inf elem hinf hund
    split at e2
    ·rename_i m hm
     split at e2
     ·rename_i f' hp hf
      split at e2
      ·rename_i fn hfn
       cases hb:((P.underlying elem).isSome && (sizeT P elem == some 1) && !aggB P elem && !(fn.name == "runtime.NumGoroutine") && fn.body.isSome) with
       | false=>rw [hb] at e2;cases e2
       | true =>
        rw [hb] at e2;simp only [cond_true,Option.some.injEq] at e2;subst e2;simp only [Bool.and_eq_true,beq_iff_eq,Bool.not_eq_true'] at hb;obtain ⟨⟨⟨⟨u1,u2⟩,u3⟩,u4⟩,u5⟩:=hb;have hl:=loadVar_run (P:=P) (w:=w) (a:=⟨b,off,none⟩) (vs:=[hd]) u1 u2 (fun _=>rfl) (fun j v hj=>by
         cases j with
         | zero=>simp at hj;subst hj;simpa [Addr.add] using hc
         | succ j=>simp at hj)
        have hw:wrapT P elem [hd]=hd:=by unfold wrapT;rw [u3];rfl
        rw [hw] at hl;obtain ⟨cd,I⟩:=Option.isSome_iff_exists.1 u5;have M:∀ w,(typeInfo t).run P w=.ok inf w:=fun w=>by simp [typeInfo,hinf]
        have hu:∀ w,(underlying t).run P w=.ok (.pointer elem) w:=fun w=>by simp [underlying,hund]
        have g0:∀ x:Value,(#[x] ++ls)[0]?=some x:=fun x=>by simp [Array.getElem?_append]
        have g1:∀ x:Value,(#[x] ++ls).extract 1 (#[x] ++ls).size=ls:=fun x=>by
         apply Array.ext';simp [List.extract]
        have Q:∀ B:Array Value,(callFunc f' B).run P w=.ok (.enter f' B) w:=fun B=>by
         have X:fn.name≠ "runtime.NumGoroutine" := by simpa using u4
         simp [callFunc,hfn,X,I]
        obtain ⟨k,hk⟩:∃ k,P.types.size+Made.depth=k+1:=⟨P.types.size+(Made.depth - 1),rfl⟩;have Y:(method (k+1) t (.pointer (some ⟨b,off,none⟩)) nm).run P w=.ok (f',hd) w:=by
         simp [method,M,hm,hp,follow,hf,receiverAt,hu,Place.get];have Z:∀ s:String,(Builtin.ssaWrapNilChk_ #[t] t #[.pointer (some ⟨b,off,none⟩),strVal "", strVal s]).run P w=.ok (.pointer (some ⟨b,off,none⟩)) w:=fun s=>rfl
         split <;> simp [Z,asAddr,hl]
        have ab:(callMethod (.iface t (.pointer (some ⟨b,off,none⟩))) nm ls).run P w=.ok (.enter f' (#[hd] ++ls)) w:=by
         simp [callMethod,hk,Y,Q]
        show (do let d ← resolve (R.evalAt G i) ⟨.invoke recv nm,D,ats⟩ C;invoke d.target d.args:Sem Next).run P w=_;simp only [resolve,hr,ha,Sem.run_bind,Sem.run_pure,Result.andThen_ok,invoke,g0,g1,ab]
      ·cases e2
     ·cases e2
    ·cases e2
   ·cases e2
namespace Hint
variable {P : Program}
def callI {g:Prop} (Γ:GdI g) (n f r0:Nat) (hd:Gh→Value) (ex:Bool) (rs ns:List Nat) (qs:List Kv) (Q:Gh→Array Value) (L:Gh→List LE) (V:Gh→Rec→Value) (F':Gh→Rec→List FP) (L':Gh→Rec→List LE) (pu:Gh→Rec→List Prop)
  (ct:g→∀ G,Ct P f (Q G) (qs.map (Kv.fp G)) (L G) (V G) (F' G) (L' G) (pu G)):Hint P where
 d:={ val:=fun G=>V G (G n),facts:=fun G=>F' G (G n),news:=newsOf n L' (rs ++ns) 0,rds:=qrds qs ++[r0],pu:=fun G=>pu G (G n) }
 τ:=(Option (Value × String × Array Value) × Option FuncId × Option Value × Ent × Bool × Array Value) × Nat × Value × List FP × List LE × List Prop × List (Option LE) × List (Option (Bool × (Ent→Heaplet→Prop)) × Bool) × Bool × Option Bool
 lhs c i G g w:=((c.R.ivr G i,ivm P (c.R.ivt G i) (c.R.ivn i),(entA (c.R.entAt G i r0))[c.R.ivo G i]?,c.R.entAt G i r0,cell1 (hd G),Q G),i,V (c.R.vis i (RC.put G i g)) g,F' (c.R.vis i (RC.put G i g)) g,L' (c.R.vis i (RC.put G i g)) g,pu (c.R.vis i (RC.put G i g)) g,rs.map (fun r=>(c.leAt i r G).map LE.drop),qs.map (Kv.chk c i G),sideOk ex rs ns qs (F' G g) (L' G g),Γ.B.map fun _=>c.R.gd G i)
 rhs c i G g w:=((some (.iface (c.R.ivt G i) (.pointer (some ⟨entB (c.R.entAt G i r0),c.R.ivo G i,none⟩)),c.R.ivn i,c.R.iva G i),some f,some (hd G),some (entB (c.R.entAt G i r0),.cells (entA (c.R.entAt G i r0)) (entT (c.R.entAt G i r0))),true,#[hd G] ++c.R.iva G i),n,V G g,F' G g,L' G g,pu G g,(L G).map some,qs.map (Kv.want G),true,Γ.B)
 sound c i ok hil hi h:=fun o ho G w hs=>by
  have h0:=h G {} w;simp only [Prod.mk.injEq] at h0;obtain ⟨⟨i1,i2,i3,i4,i5,i6⟩,rfl,_,_,_,_,e7,e8,_,e10⟩:=h0;have ao:(c.R.c i).rds.contains r0=true:=by rw [Cx.c_of hi];simp [HintD.cert]
  have ah:w.cell? ⟨entB (c.R.entAt G i r0),c.R.ivo G i,none⟩=some (hd G):=by
   obtain ⟨az,_⟩:=hs.ent r0 (by rw [ao];rfl) _ _ i4;simp [World.cell?,az,i3]
  have e1:(execOp (c.R.evalAt G i) o).run P w=.ok (.enter f (Q G)) w:=by rw [i6];exact inv_run ho i1 i2 ah i5
  have aA:=ct (Cx.gdOk Γ hs e10) G;have hup:=Cx.upsOf hi;have X:(c.R.ups i).map (·.1)=rs ++ns:=by rw [hup,List.map_map];exact newsOf_fst
  have E:∀ r ∈ rs,c.R.wrE r i=true:=fun r hr=>by
   have:r ∈ (c.R.ups i).map (·.1):=by rw [X];exact List.mem_append_left _ hr
   obtain ⟨p,hp,rfl⟩:=List.mem_map.1 this;exact List.any_eq_true.2 ⟨p,hp,by simp⟩
  let olds:=rs.map (c.R.entAt G i)
  let ε:Nat→Ent:=fun k=>c.R.entAt G i (rs.getD k 0)
  have aL:(L G).length=rs.length:=by have:=congrArg List.length e7;simpa using this.symm
  have aq:∀ k r:Nat,rs[k]?=some r→∃ x',c.leAt i r G=some x'∧(L G)[k]?=some x'.drop:=fun k r hk=>by
   have:=congrArg (fun l:List (Option LE)=>l[k]?) e7
   simp only [List.getElem?_map,hk,Option.map_some] at this;cases hl:(L G)[k]? with
   | none=>rw [hl] at this;cases this
   | some x =>
    rw [hl] at this;simp only [Option.map_some,Option.some.injEq,Option.map_eq_some_iff] at this;obtain ⟨x',h1,h2⟩:=this;exact ⟨x',h1,by rw [h2]⟩
  have ai:∀ (x:LE) e,x.drop.ent e=x.ent e:=fun x e=>by cases x <;> rfl
  have Y:ents (L G) ε=olds:=by
   refine List.ext_getElem? fun k=>?_;rw [ents_get]
   show _=(rs.map (c.R.entAt G i))[k]?;rw [List.getElem?_map];cases hk:rs[k]? with
   | none =>
    have:(L G)[k]?=none:=by rw [List.getElem?_eq_none_iff] at hk ⊢;omega
    rw [this];rfl
   | some r =>
    obtain ⟨x',h1,h2⟩:=aq k r hk;obtain ⟨e,a1,_,_⟩:=Cx.own_at ok hil hs h1 (by rw [E r (List.mem_of_getElem? hk)];simp);have hε:ε k=c.R.entAt G i r:=by show c.R.entAt G i (rs.getD k 0)=_;rw [List.getD_eq_getElem?_getD,hk];rfl
    rw [h2];simp only [Option.map_some,Option.some.injEq];rw [ai,hε,a1];cases x' <;> rfl
  have aj:∀ g,sideOk ex rs ns qs (F' G g) (L' G g)=true:=fun g=>by
   have:=h G g w
   simp only [Prod.mk.injEq] at this;exact this.2.2.2.2.2.2.2.2.1
  have ak:=aj {};unfold sideOk at ak;simp only [Bool.and_eq_true] at ak;obtain ⟨⟨⟨aB,_⟩,hsrc⟩,hex⟩:=ak;have A:∀ b ∈ blks olds,∃ r ∈ rs,∃ o,c.R.entAt G i r=some (b,o):=fun b hb=>by
   obtain ⟨x,hx,Z⟩:=List.mem_filterMap.1 hb;obtain ⟨r,hr,rfl⟩:=List.mem_map.1 hx;cases he:c.R.entAt G i r with
   | none=>rw [he] at Z;cases Z
   | some p=>rw [he] at Z;simp at Z;subst Z;exact ⟨r,hr,p.2,he⟩
  have af:=fun r hr=>hs.ent r (by rw [E r hr];simp)
  have D:∀ t,∀ b ∈ blks olds,c.J i G t b=none:=fun t b hb=>by
   obtain ⟨r,hr,o',he⟩:=A b hb;obtain ⟨_,_,h3,h4⟩:=af r hr b o' he;refine JV_none ?_ _ fun j _=>?_
   ·have hK:hun c.N c.H b=none:=h3 _ (by show _ ∈ [_];simp);cases t
    ·exact hK
    ·cases hN:c.N b with
     | none=>exact hN
     | some o''=>unfold hun at hK;rw [hN] at hK;cases hK
   ·unfold Cx.pre;cases ac:c.R.bef i j with
    | false=>rfl
    | true=>exact h4 j ac
  let Hc:Heaplet:=bif ex then c.J i G false else wholeBut w (blks olds)
  have ad:∀ t,Sub (c.J i G t) Hc:=fun t=>by
   cases hx:ex with
   | true=>show Sub _ (bif ex then _ else _);rw [hx];exact Cx.J_le_false hs t
   | false=>show Sub _ (bif ex then _ else _);rw [hx];exact sub_but (Cx.J_le hs t) (D t)
  have au:Agrees w Hc:=by
   cases hx:ex with
   | true=>show Agrees w (bif ex then _ else _);rw [hx];exact Cx.J_le hs false
   | false =>
    show Agrees w (bif ex then _ else _);rw [hx];intro b o e;simp only [cond_false,wholeBut] at e;split at e
    ·cases e
    ·exact e
  have aC:∀ b ∈ blks olds,Hc b=none:=fun b hb=>by
   cases hx:ex with
   | true=>show (bif ex then _ else _:Heaplet) b=none;rw [hx];exact D false b hb
   | false=>show (bif ex then _ else _:Heaplet) b=none;rw [hx];simp only [cond_false,wholeBut];rw [if_pos hb]
  have ae:∀ q ∈ qs.map (Kv.fp G),q.p Hc:=fun p hp=>by
   obtain ⟨q,hq,rfl⟩:=List.mem_map.1 hp;have hm:q.κ.src.what c i G=(some (q.κ.t,q.κ.p G),true):=map_eq e8 q hq;obtain ⟨e,a1,a2,a3,a4⟩:=Src.get ok hil hs hm;cases hx:ex with
   | true =>
    rw [hx] at hex;simp only [cond_true] at hex;exact (q.κ.rj (List.all_eq_true.1 hex q hq) G e _ a1).mono (ad _)
   | false =>
    refine q.κ.rd G e _ _ a1 (ad _) ?_;show Sub _ (bif ex then _ else _);rw [hx];refine sub_but (entH_agrees a2) fun b hb=>?_;by_cases I:∃ r,q.κ.src=.o r
    ·obtain ⟨r,I⟩:=I;have hE:=a3 r I;have hr:r ∉ rs:=by
      have:=List.all_eq_true.1 hsrc q hq
      rw [I] at this
      simpa [srcNot] using this
     obtain ⟨r',M,o',he⟩:=A b hb;cases hne:entH e b with
     | none=>rfl
     | some o'' =>
      exfalso;have aD:c.R.entAt G i r=some (b,o''):=by
       rw [hE];cases e with
       | none=>cases hne
       | some p =>
        unfold entH at hne;simp only at hne;split at hne
        ·rename_i hbe;subst hbe;cases hne;rfl
        ·cases hne
      have aE:((c.R.c i).rds.contains r || c.R.wrE r i)=true:=by
       rw [Cx.c_of hi]
       have:(qrds qs ++[r0]).contains r=true:=by
        have:=qrds_mem hq I
        simp [this]
       show ((qrds qs ++[r0]).contains r || _)=true;rw [this];rfl
      have:=hs.dis r r' b o'' o' aE (by rw [E r' M];simp) aD he
      subst this;exact hr M
    ·rw [a4 fun r hr=>I ⟨r,hr⟩];rfl
  have aF:StW w (blks olds) [Hc] olds w:=by
   refine ⟨Base.refl _ _,fun K hK=>?_,fun k b o hk=>?_,fun k l b o o' hk hl=>?_⟩
   ·have:K=Hc:=by simpa using hK
    subst this;exact au
   ·have hm:some (b,o) ∈ olds:=List.mem_of_getElem? hk;obtain ⟨r,hr,he⟩:=List.mem_map.1 hm;have av:b ∈ blks olds:=List.mem_filterMap.2 ⟨_,hm,rfl⟩;refine ⟨(af r hr b o he).1,.inr av,fun K hK=>?_⟩
    have:K=Hc:=by simpa using hK
    subst this;exact aC b av
   ·have h1:(rs.map (c.R.entAt G i))[k]?=some (some (b,o)):=hk;have h2:(rs.map (c.R.entAt G i))[l]?=some (some (b,o')):=hl;simp only [List.getElem?_map,Option.map_eq_some_iff] at h1 h2;obtain ⟨r,hr,he⟩:=h1;obtain ⟨r',M,aG⟩:=h2;have hm:=List.mem_of_getElem? hr;have aH:=List.mem_of_getElem? M
    have:=hs.dis r r' b o o' (by rw [E r hm];simp) (by rw [E r' aH];simp) he aG
    subst this;refine nodup_inj (l:=rs ++ns) aB (x:=r) ?_ ?_
    ·rw [List.getElem?_append_left (List.getElem?_eq_some_iff.1 hr).1];exact hr
    ·rw [List.getElem?_append_left (List.getElem?_eq_some_iff.1 M).1];exact M
  have aw:∀ (k:Nat) (x:LE),(L G)[k]?=some x→x.at (ε k) Hc Hc:=fun k x hx=>by
   have hk:k < rs.length:=by have:=(List.getElem?_eq_some_iff.1 hx).1;omega
   have ax:rs[k]?=some rs[k]:=List.getElem?_eq_getElem hk;obtain ⟨x',h1,h2⟩:=aq k _ ax;rw [hx] at h2;cases h2;obtain ⟨e,a1,a2,_⟩:=Cx.own_at ok hil hs h1 (by rw [E _ (List.getElem_mem hk)];simp);have hε:ε k=c.R.entAt G i rs[k]:=by show c.R.entAt G i (rs.getD k 0)=_;rw [List.getD_eq_getElem?_getD,ax];rfl
   cases x' with
   | own t p m q hq =>
    rw [hε,a1];show p e Hc;cases t
    ·exact m _ _ _ (ad false) a2
    ·exact m _ _ _ (ad true) a2
   | _=>trivial
  have ab:=aA w Hc ε au ae (by rw [Y];exact aF) aw;rw [Y] at ab;unfold Does;rw [e1];refine ab.mono ?_;rintro e w' ⟨g,C⟩;refine ⟨_,C.ret,g,?_⟩;have hg:=h G g w;simp only [Prod.mk.injEq] at hg;obtain ⟨_,_,f1,f2,f3,f4,_,_,f5,_⟩:=hg;unfold sideOk at f5;simp only [Bool.and_eq_true,beq_iff_eq] at f5;obtain ⟨⟨⟨_,aM⟩,_⟩,hex'⟩:=f5;have hv:=Cx.vis_self (c:=c) (i:=i) (G:=G) g;obtain ⟨a1,a2,a3,a4⟩:=ahead ok hil hs C.new;have ay:ex=true→Sub (hun g.H Hc) (JV (c.R.vis i (RC.put G i g)) (hun c.N c.H) c.ops.size):=fun hx=>hun_sub a4 (by
   show Sub (bif ex then _ else _) _;rw [hx];exact a2)
  have al:∀ k:Nat,(((L' (c.R.vis i (RC.put G i g)) g)[k]?).getD .no).ent (g.es k)=((ents (L' G g) g.es)[k]?).getD none:=fun k=>by rw [f3,ents_ent]
  have am:∀ p ∈ c.R.ups i,∃ k:Nat,(rs ++ns)[k]?=some p.1∧p.2 (RC.put G i g)=((ents (L' G g) g.es)[k]?).getD none:=fun p hp=>by
   rw [hup] at hp;obtain ⟨q,hq,rfl⟩:=List.mem_map.1 hp;obtain ⟨k,h1,h2,h3⟩:=newsOf_mem hq;refine ⟨k,h1,?_⟩;show (q.2.1 _).ent (q.2.2 _)=_;rw [h2,h3,← al k];simp only [hv,Nat.zero_add]
  refine ⟨?_,fact_of ok hil hi hs C.new (fun f hf=>?_) (fun q hq=>?_) ?_,?_,C.agr,C.new,fun p hp b o hb=>?_,fun p hp q hq b o o' hb ac=>?_⟩
  ·rw [Cx.valOf hi];show _=V _ (c.R.vis i (RC.put G i g) i);rw [hv,f1]
  ·have an:f ∈ F' (c.R.vis i (RC.put G i g)) (c.R.vis i (RC.put G i g) i):=hf;rw [hv,f2] at an;have hc:=C.facts f an;unfold FP.at at hc ⊢;cases ht:f.t with
   | true=>rw [ht] at hc;exact f.m _ _ a3 hc
   | false =>
    rw [ht] at hc;cases hx:ex with
    | true=>exact f.m _ _ (ay hx) hc
    | false =>
     rw [hx] at hex';simp only [cond_false,Bool.and_eq_true] at hex'
     have:=List.all_eq_true.1 hex'.1 f an
     rw [ht] at this;cases this
  ·obtain ⟨k,h1,h2,h3⟩:=newsOf_mem hq;rw [h2,h3];simp only [hv,Nat.zero_add];rw [f3];cases hk:(L' G g)[k]? with
   | none=>trivial
   | some x =>
    have hc:=C.own k x hk;simp only [Option.getD_some];cases x with
    | own t p m q hq =>
     cases t with
     | true=>exact m _ _ _ a3 hc
     | false =>
      cases hx:ex with
      | true=>exact m _ _ _ (ay hx) hc
      | false =>
       rw [hx] at hex';simp only [cond_false,Bool.and_eq_true] at hex'
       have:=List.all_eq_true.1 hex'.2 _ (List.mem_of_getElem? hk)
       simp [LE.tag] at this
    | _=>trivial
  ·show conjL (pu _ (c.R.vis i (RC.put G i g) i));rw [hv,f4];exact C.pu
  ·refine ⟨C.base.os,C.base.tape,C.base.output,C.base.size,fun b hb aI=>C.base.keep b hb fun hm=>aI ?_⟩;obtain ⟨r,hr,o',he⟩:=A b hm
   have:r ∈ (c.R.ups i).map (·.1):=by rw [X];exact List.mem_append_left _ hr
   obtain ⟨p,hp,aJ⟩:=List.mem_map.1 this;exact List.mem_filterMap.2 ⟨p,hp,by rw [aJ,he];rfl⟩
  ·obtain ⟨k,h1,h2⟩:=am p hp;rw [h2] at hb;cases hk:(ents (L' G g) g.es)[k]? with
   | none=>rw [hk] at hb;cases hb
   | some x =>
    rw [hk] at hb;simp only [Option.getD_some] at hb;subst hb;obtain ⟨b1,b2,b3⟩:=C.ent k b o hk;refine ⟨b1,?_,b3⟩;rcases b2 with b2 | b2
    ·exact .inl b2
    ·obtain ⟨r,hr,o',he⟩:=A b b2
     have:r ∈ (c.R.ups i).map (·.1):=by rw [X];exact List.mem_append_left _ hr
     obtain ⟨q,hq,aK⟩:=List.mem_map.1 this;exact .inr ⟨q,hq,o',by rw [aK];exact he⟩
  ·obtain ⟨k,h1,h2⟩:=am p hp;obtain ⟨l,h3,h4⟩:=am q hq;rw [h2] at hb;rw [h4] at ac;have get:∀ (k b:Nat) (o:Obj),((ents (L' G g) g.es)[k]?).getD none=some (b,o)→(ents (L' G g) g.es)[k]?=some (some (b,o)):=fun k b o hh=>by
    cases hk:(ents (L' G g) g.es)[k]? with
    | none=>rw [hk] at hh;cases hh
    | some x=>rw [hk] at hh;simp only [Option.getD_some] at hh;rw [hh]
   have:=C.dis k l b o o' (get k b o hb) (get l b o' ac)
   subst this;rw [h1] at h3;exact Option.some.inj h3
def ci {g:Prop} (Γ:GdI g) (n f r0:Nat) (hd:Gh→Value) (ex:Bool) (rs ns:List Nat) (qs:List Kv) {b:Gh→Array Value} {L:Gh→List LE} {V:Gh→Rec→Value} {F':Gh→Rec→List FP} {L':Gh→Rec→List LE} {pu:Gh→Rec→List Prop}
  (h:g→∀ G,Ct P f (b G) (qs.map (Kv.fp G)) (L G) (V G) (F' G) (L' G) (pu G)):Hint P:=callI Γ n f r0 hd ex rs ns qs b L V F' L' pu h
end Hint

open Go Go.Proofs
theorem rlen_ct (h:LI) (b:SV) :
  Cp Tryz.prog 33 #[b.v] [fs true h b] (iv (h.length:Int)):=by
 refine vf mo Tryz.func33 5 0 fun _=>?_
 refine vG [.u 1] fun G1=>?_;intro _ _
 refine vG [.u 1,.ln (kF 0 h b),.u 1] fun G2=>?_;intro _ _
 exact V.rS [0] [] [] [] [] []
theorem rlen_ctv (h:List Int) (b:SV) (d:Int) (f:d=(h.length:Int)) :
  Cp Tryz.prog 33 #[b.v] [fs true h b] (iv d):=by
 subst f;exact rlen_ct h b 
theorem rless_ct (h:LI) (b:SV) (i k:Int) (hi:0≤i∧i < h.length) (hk:0≤k∧k < h.length) :
  Cp Tryz.prog 249 #[b.v,iv i,iv k] [fs true h b] (bv (decide (Zh.at_ h i.toNat < Zh.at_ h k.toNat))):=by
 refine vf mo Tryz.func249 16 0 fun _=>?_
 refine vG [.kb false] fun G1=>?_;intro _ _
 refine nm (h.getD i.toNat default:Int) fun v1 d=>nm (h.getD k.toNat default:Int) fun v2 f=>vG [.u 2,.iX (kF 0 h b) i,.lE (kF 0 h b) i false v1 d false,.u 2,.iX (kF 0 h b) k,.lE (kF 0 h b) k false v2 f false,.u 2] fun G2=>?_;intro _ _
 have e0:(decide (v1 < v2))=decide (Zh.at_ h i.toNat < Zh.at_ h k.toNat):=by
  rw [f,d];rfl
 exact vb 0 [] e0
theorem rswap_ct (h:LI) (b:SV) (i k:Int) (hi:0≤i∧i < h.length) (hk:0≤k∧k < h.length) :
  Ct Tryz.prog 252 #[b.v,iv i,iv k] [] [os false 3 h b] (fun g=>.tuple #[]) (fun g=>[]) (fun g=>[os true 3 (Zh.swp h i.toNat k.toNat) b]) (fun g=>[]):=by
 refine vf mo Tryz.func252 20 0 fun _=>?_
 refine V.tro 3 h b 0 (by kernel_rfl) (fun _ _=>trivial) ?_;refine nm (h.getD k.toNat default:Int) fun v1 o=>nm (h.getD i.toNat default:Int) fun v2 d=>nm (h.set i.toNat v1:LI) fun l1 f=>?_;have j:=congrArg List.length f;try simp at j
 refine nm (l1.getD k.toNat default:Int) fun v3 t=>nm (l1.set k.toNat v2:LI) fun l2 w=>vG [.u 6,.iX (kO 3 0 h b) k,.lE (kO 3 0 h b) k false v1 o false,.u 2,.iX (kO 3 0 h b) i,.lE (kO 3 0 h b) i false v2 d false,.iX (kO 3 0 h b) i,.se g0 13 0 3 true h (fun _=>b) i none v2 v1 d true l1 f (fun _=>⟨by omega,by omega⟩) (fun _=>rfl) [] (fun _ _ _ _=>trivial),.iX (kO 3 0 l1 b) k,.se g0 15 0 3 true l1 (fun _=>b) k none v3 v2 t true l2 w (fun _=>⟨by omega,by omega⟩) (fun _=>rfl) [] (fun _ _ _ _=>trivial)] fun G1=>?_;intro _ _
 have A:l2=Zh.swp h i.toNat k.toNat:=by subst_vars;rfl
 subst A;exact V.rS [] [] [] [] [] [0]
theorem rpush_ct (hb:Nat) (hl:LI) (d:SV) (x:Int) (hL:(hl.length:Int)≤1000000000) :
  Ct Tryz.prog 251 #[pp hb 0,.iface 3 (iv x)] [] [.blk hb #[d.v] 65,os false 3 hl d] (fun g=>.tuple #[]) (fun g=>[]) (fun g=>[.blk hb #[(g.ss 0).v] 65,os true 3 (hl ++[x]) (g.ss 0)]) (fun g=>[]):=by
 refine vf mo Tryz.func251 13 0 fun _=>?_
 refine nm (hl ++[x]:LI) fun l1 f=>vG [.u 3,.l 0,.u 2,.nr 6 true 3 [x] [] (fun _ _ _ _ _=>trivial) (fun _=>#[iv x]),.ap 7 1 3 8 false false hl (fun _=>d) (kf true (.g 6 0) [x] (fun G=>⟨atB (G 6).b,1,1⟩)) true l1 f (by first | omega | (simp;omega) | simp) (fun h=>by cases h) (.inr fun _ _=>trivial),.u 1,.s 0] fun G1=>?_;intro _ _
 have i:l1=hl ++[x]:=by subst_vars;rfl
 subst i;exact V.rS [] [(G1 7).s] [] [] [] [0,1]
theorem rpop_ct (hb:Nat) (hl:LI) (hls:SV) (hL:0 < hl.length) :
  Ct Tryz.prog 250 #[pp hb 0] [] [.blk hb #[hls.v] 65,os false 3 hl hls] (fun g=>.iface 3 (iv (Zh.at_ hl (hl.length-1)))) (fun g=>[]) (fun g=>[.blk hb #[(g.ss 0).v] 65,os true 3 (hl.take (hl.length-1)) (g.ss 0)]) (fun g=>[]):=by
 refine vf mo Tryz.func250 23 0 fun k0=>?_;obtain ⟨j, -⟩:Lq hl hls.v:=kj k0 0
 refine vG [.u 1] fun G1=>?_;intro _ _
 refine vG [.u 2,.l 0,.u 1] fun G2=>?_;intro _ _
 refine nm ((hl.length:Int)-1:Int) fun n1 b=>nm (hl.getD n1.toNat default:Int) fun v1 d=>vG [.u 2,.ln (ko false 3 1 hl (fun _=>hls)),.aR ((hl.length:Int)-1) n1 b,.iX (ko false 3 1 hl (fun _=>hls)) n1,.lE (ko false 3 1 hl (fun _=>hls)) n1 false v1 d false,.u 1] fun G3=>?_;intro _ _
 refine nm (hl.take n1.toNat:LI) fun l1 f=>vG [.u 3,.ln (ko false 3 1 hl (fun _=>hls)),.aR ((hl.length:Int)-1) n1 b,.fro 5 1 3 false hl (fun _=>hls) n1 l1 f (by omega) (by omega),.u 1,.s 0] fun G4=>?_;intro _ _
 refine vG [.u 3] fun G5=>?_;intro _ _
 have e0:v1=Zh.at_ hl (hl.length-1):=by
  rw [d,b];rw [show ((hl.length:Int)-1).toNat=hl.length-1 by omega];rfl
 refine V.tro 3 l1 (hls.sub 1 0 n1.toNat) 1 (by kernel_rfl) (fun _ _=>trivial) ?_;have h:l1=hl.take (hl.length-1):=by subst_vars;congr 1;omega
 subst h;exact V.rT [0] [(hls.sub 1 0 n1.toNat)] [] [] [] [0,1] (cong1 (fun (i:Int)=>(.iface 3 (iv i):Value)) e0)

theorem hpup_ct (hb:Nat) (hl:LI) (d:SV) (a:Int) (hL:0≤a∧a < hl.length) (hM:(hl.length:Int)≤2000000000) :
  Ct Tryz.prog 66 #[.iface 64 (pp hb 0),iv a] [] [.blk hb #[d.v] 65,os false 3 hl d] (fun g=>.tuple #[]) (fun g=>[]) (fun g=>[.blk hb #[d.v] 65,os true 3 (Zh.hup (a.toNat+1) hl a.toNat) d]) (fun g=>[]):=by
 refine vf mo Tryz.func66 23 0 fun _=>?_
 refine V.lp (γ:=Int × List Int) (fun ⟨j,h⟩=>⟨[(0,.iface 64 (pp hb 0)),(1,iv j)],[],[.blk hb #[d.v] 65,os false 3 h d]⟩) (fun ⟨j,h⟩=>(Zh.hup (j.toNat+1) h j.toNat=Zh.hup (a.toNat+1) hl a.toNat)∧(0≤j∧j < (hl.length:Int))∧(h.length=hl.length)) (fun ⟨j,h⟩=>j.toNat) (a,hl) [] ?_ ?_
 ·refine ⟨?_,?_,?_⟩
  ·show Zh.hup (a.toNat+1) hl a.toNat=Zh.hup (a.toNat+1) hl a.toNat;rfl
  ·show 0≤a∧a < (hl.length:Int);omega
  show hl.length=hl.length;rfl
 rintro ⟨j,h⟩ hF1 kw1 Z1 hZ1;obtain ⟨o,B,w⟩:=hF1;refine nm ((((j-1).toNat / 2:Nat):Int):Int) fun n1 t=>vG [.u 1,.aa (j-1),.aR (Int.tdiv (j-1) 2) n1 (by rw [t];exact Zh.tdq (by omega)),.u 1] fun G1=>?_;intro _ _;refine nm ((decide (n1=j)) || (!(decide (Zh.at_ h j.toNat < Zh.at_ h n1.toNat))):Bool) fun p1 f=>vG [.u 7,.ci (gF (b:=decide (n1=j)) iDF) 7 249 0 (fun _=>d.v) false [] [] [(ko false 3 1 h (fun _=>d)).a] (fun hg G=>rless_ct h d j n1 (by omega) (by omega)),.u 1,.orn g0 false (decide (n1=j)) (!(decide (Zh.at_ h j.toNat < Zh.at_ h n1.toNat))) p1 f] fun G2=>?_;intro _ _;refine V.cn (b:=p1) (iN f (iOT iDT (iNT iDF))) (iN f (iOF iDF (iNF iDT))) (fun q1=>?_) (fun q2=>?_)
 ·refine V.tro 3 h d 1 (by kernel_rfl) (fun _ _=>trivial) ?_;have A:h=Zh.hup (a.toNat+1) hl a.toNat:=by rw [←o];exact (Zh.hup_end (i:=n1.toNat) (by omega) (by omega)).symm
  subst A;exact V.rS [] [] [] [] [] [0,1]
 refine vG [.u 3,.ci g0 3 252 0 (fun _=>d.v) false [1] [] [] (fun _ G=>rswap_ct h d n1 j (by omega) (by omega))] fun G3=>?_;intro _ _
 refine vG [.u 2] fun G4=>?_;intro _ _
 refine V.rn hZ1 (n1,Zh.swp h n1.toNat j.toNat) [] ?_ ?_
 ·refine ⟨?_,?_,?_⟩
  ·show Zh.hup (n1.toNat+1) (Zh.swp h n1.toNat j.toNat) n1.toNat=Zh.hup (a.toNat+1) hl a.toNat;rw [←o];exact (Zh.hup_next (i:=n1.toNat) (by omega) (by omega)).symm
  ·show 0≤n1∧n1 < (hl.length:Int);omega
  show (Zh.swp h n1.toNat j.toNat).length=hl.length;rw [Zh.swp_len];exact w
 show n1.toNat < j.toNat;rw [t];omega
theorem hpdn_ct (hb:Nat) (hl:LI) (d:SV) (a n:Int) (hA:0≤a∧a < hl.length) (hN:n+1≤(hl.length:Int)∧0≤n) (hM:(hl.length:Int)≤2000000000) :
  Ct Tryz.prog 67 #[.iface 64 (pp hb 0),iv a,iv n] [] [.blk hb #[d.v] 65,os false 3 hl d] (fun g=>bv (decide (a < ((Zh.hdi (n.toNat-a.toNat) hl a.toNat n.toNat:Nat):Int)))) (fun g=>[]) (fun g=>[.blk hb #[d.v] 65,os true 3 (Zh.hdn (n.toNat-a.toNat) hl a.toNat n.toNat) d]) (fun g=>[]):=by
 refine vf mo Tryz.func67 48 0 fun _=>?_
 refine vG [.kb false] fun G1=>?_;intro _ _
 refine vG [.u 2] fun G2=>?_;intro _ _
 refine V.lp (γ:=Int × List Int) (fun ⟨i,h⟩=>⟨[(0,.iface 64 (pp hb 0)),(1,iv a),(2,iv n),(7,iv i)],[],[.blk hb #[d.v] 65,os false 3 h d]⟩) (fun ⟨i,h⟩=>(Zh.hdn (n.toNat-i.toNat) h i.toNat n.toNat=Zh.hdn (n.toNat-a.toNat) hl a.toNat n.toNat)∧(0≤i∧i < (hl.length:Int))∧(h.length=hl.length)∧(Zh.hdi (n.toNat-i.toNat) h i.toNat n.toNat=Zh.hdi (n.toNat-a.toNat) hl a.toNat n.toNat)) (fun ⟨i,h⟩=>(n-i).toNat) (a,hl) [] ?_ ?_
 ·refine ⟨?_,?_,?_,?_⟩
  ·show Zh.hdn (n.toNat-a.toNat) hl a.toNat n.toNat=Zh.hdn (n.toNat-a.toNat) hl a.toNat n.toNat;rfl
  ·show 0≤a∧a < (hl.length:Int);omega
  ·show hl.length=hl.length;rfl
  show Zh.hdi (n.toNat-a.toNat) hl a.toNat n.toNat=Zh.hdi (n.toNat-a.toNat) hl a.toNat n.toNat;rfl
 rintro ⟨i,h⟩ hF1 kw3 Z1 hZ1;obtain ⟨j,E,D,o⟩:=hF1;refine nm (2 * i:Int) fun n1 w=>vG [.u 1,.aR (2 * i) n1 w,.aa (n1+1),.u 1] fun G3=>?_;intro _ _;refine nm ((decide (n≤n1+1)) || (decide (n1+1 < 0)):Bool) fun p1 A=>vG [.u 6,.orn g0 false (decide (n≤n1+1)) (decide (n1+1 < 0)) p1 A] fun G4=>?_;intro _ _;refine V.cn (b:=p1) (iN A (iOT iDT iDT)) (iN A (iOF iDF iDF)) (fun q1=>?_) (fun q2=>?_)
 ·refine vG [.u 4] fun G5=>?_;intro _ _
  have e0:(decide (a < i))=decide (a < ((Zh.hdi (n.toNat-a.toNat) hl a.toNat n.toNat:Nat):Int)):=by rw [←o,(Zh.hdi_end (i:=i.toNat) (n:=n.toNat) (.inl (by omega))),show ((i.toNat:Nat):Int)=i by omega]
  refine V.tro 3 h d 1 (by kernel_rfl) (fun _ _=>trivial) ?_;have t:h=Zh.hdn (n.toNat-a.toNat) hl a.toNat n.toNat:=by rw [←j];exact (Zh.hdn_end (i:=i.toNat) (n:=n.toNat) (.inl (by omega))).symm
  subst t;exact vb 0 [0,1] e0
 refine vG [.u 2] fun G6=>?_;intro _ _
 refine vG [.u 1,.aa (n1+1+1),.u 1] fun G7=>?_;intro _ _
 refine nm ((decide (n1+1+1 < n)) && (decide (Zh.at_ h (n1+1+1).toNat < Zh.at_ h (n1+1).toNat)):Bool) fun p2 B=>vG [.u 7,.ci (gT (b:=decide (n1+1+1 < n)) iDT) 7 249 0 (fun _=>d.v) false [] [] [(ko false 3 1 h (fun _=>d)).a] (fun hg G=>rless_ct h d (n1+1+1) (n1+1) (by omega) (by omega)),.andn g0 false (decide (n1+1+1 < n)) (decide (Zh.at_ h (n1+1+1).toNat < Zh.at_ h (n1+1).toNat)) p2 B] fun G8=>?_;intro _ _
 refine V.cn (b:=p2) (iN B (iAT iDT iDT)) (iN B (iAF iDF iDF)) (fun q3=>?_) (fun q4=>?_)
 ·refine vG [.u 2] fun G9=>?_;intro _ _
  have C:=q3;have f:(n1+1+1).toNat=Zh.kid h i.toNat n.toNat:=Zh.kid_a (a:=(n1+1).toNat) (b:=((n1+1)+1).toNat) (by omega) (by omega) (by omega);clear C;refine vG [.u 3,.ci g0 3 249 0 (fun _=>d.v) false [] [] [(ko false 3 1 h (fun _=>d)).a] (fun _ G=>rless_ct h d (n1+1+1) i (by omega) (by omega)),.u 1] fun H=>?_;intro _ _
  refine vn (Zh.at_ h (n1+1+1).toNat < Zh.at_ h i.toNat) (fun q5=>?_) fun q6=>?_
  ·refine vG [.u 4] fun I=>?_;intro _ _
   have e0:(decide (a < i))=decide (a < ((Zh.hdi (n.toNat-a.toNat) hl a.toNat n.toNat:Nat):Int)):=by rw [←o,(Zh.hdi_end (i:=i.toNat) (n:=n.toNat) (.inr (by rw [←f];omega))),show ((i.toNat:Nat):Int)=i by omega]
   refine V.tro 3 h d 1 (by kernel_rfl) (fun _ _=>trivial) ?_;have t:h=Zh.hdn (n.toNat-a.toNat) hl a.toNat n.toNat:=by rw [←j];exact (Zh.hdn_end (i:=i.toNat) (n:=n.toNat) (.inr (by rw [←f];omega))).symm
   subst t;exact vb 0 [0,1] e0
  refine vG [.u 3,.ci g0 3 252 0 (fun _=>d.v) false [1] [] [] (fun _ G=>rswap_ct h d i (n1+1+1) (by omega) (by omega))] fun M=>?_;intro _ _
  refine vG [.u 2] fun P=>?_;intro _ _
  refine V.rn hZ1 (n1+1+1,Zh.swp h i.toNat (n1+1+1).toNat) [] ?_ ?_
  ·refine ⟨?_,?_,?_,?_⟩
   ·show Zh.hdn (n.toNat-(n1+1+1).toNat) (Zh.swp h i.toNat (n1+1+1).toNat) (n1+1+1).toNat n.toNat=Zh.hdn (n.toNat-a.toNat) hl a.toNat n.toNat;rw [←j];exact (Zh.hdn_next (i:=i.toNat) f (by omega) (by omega)).symm
   ·show 0≤(n1+1+1)∧(n1+1+1) < (hl.length:Int);omega
   ·show (Zh.swp h i.toNat (n1+1+1).toNat).length=hl.length;rw [Zh.swp_len];exact D
   show Zh.hdi (n.toNat-(n1+1+1).toNat) (Zh.swp h i.toNat (n1+1+1).toNat) (n1+1+1).toNat n.toNat=Zh.hdi (n.toNat-a.toNat) hl a.toNat n.toNat;rw [←o];exact (Zh.hdi_next (i:=i.toNat) f (by omega) (by omega)).symm
  show (n-(n1+1+1)).toNat < (n-i).toNat;rw [w];omega
 have C:=q4;have f:(n1+1).toNat=Zh.kid h i.toNat n.toNat:=Zh.kid_b (a:=(n1+1).toNat) (b:=((n1+1)+1).toNat) (by omega) (by omega) (by omega);clear C;refine vG [.u 3,.ci g0 3 249 0 (fun _=>d.v) false [] [] [(ko false 3 1 h (fun _=>d)).a] (fun _ G=>rless_ct h d (n1+1) i (by omega) (by omega)),.u 1] fun Q=>?_;intro _ _
 refine vn (Zh.at_ h (n1+1).toNat < Zh.at_ h i.toNat) (fun q7=>?_) fun q8=>?_
 ·refine vG [.u 4] fun X=>?_;intro _ _
  have e0:(decide (a < i))=decide (a < ((Zh.hdi (n.toNat-a.toNat) hl a.toNat n.toNat:Nat):Int)):=by rw [←o,(Zh.hdi_end (i:=i.toNat) (n:=n.toNat) (.inr (by rw [←f];omega))),show ((i.toNat:Nat):Int)=i by omega]
  refine V.tro 3 h d 1 (by kernel_rfl) (fun _ _=>trivial) ?_;have t:h=Zh.hdn (n.toNat-a.toNat) hl a.toNat n.toNat:=by rw [←j];exact (Zh.hdn_end (i:=i.toNat) (n:=n.toNat) (.inr (by rw [←f];omega))).symm
  subst t;exact vb 0 [0,1] e0
 refine vG [.u 3,.ci g0 3 252 0 (fun _=>d.v) false [1] [] [] (fun _ G=>rswap_ct h d i (n1+1) (by omega) (by omega))] fun Y=>?_;intro _ _
 refine vG [.u 2] fun Z=>?_;intro _ _
 refine V.rn hZ1 (n1+1,Zh.swp h i.toNat (n1+1).toNat) [] ?_ ?_
 ·refine ⟨?_,?_,?_,?_⟩
  ·show Zh.hdn (n.toNat-(n1+1).toNat) (Zh.swp h i.toNat (n1+1).toNat) (n1+1).toNat n.toNat=Zh.hdn (n.toNat-a.toNat) hl a.toNat n.toNat;rw [←j];exact (Zh.hdn_next (i:=i.toNat) f (by omega) (by omega)).symm
  ·show 0≤(n1+1)∧(n1+1) < (hl.length:Int);omega
  ·show (Zh.swp h i.toNat (n1+1).toNat).length=hl.length;rw [Zh.swp_len];exact D
  show Zh.hdi (n.toNat-(n1+1).toNat) (Zh.swp h i.toNat (n1+1).toNat) (n1+1).toNat n.toNat=Zh.hdi (n.toNat-a.toNat) hl a.toNat n.toNat;rw [←o];exact (Zh.hdi_next (i:=i.toNat) f (by omega) (by omega)).symm
 show (n-(n1+1)).toNat < (n-i).toNat;rw [w];omega
theorem hpush_ct (hb:Nat) (hl:LI) (b:SV) (x:Int) (hL:(hl.length:Int)≤1000000000) :
  Ct Tryz.prog 32 #[.iface 64 (pp hb 0),.iface 3 (iv x)] [] [.blk hb #[b.v] 65,os false 3 hl b] (fun g=>.tuple #[]) (fun g=>[]) (fun g=>[.blk hb #[(g.ss 0).v] 65,os true 3 (Zh.push hl x) (g.ss 0)]) (fun g=>[]):=by
 refine vf mo Tryz.func32 12 0 fun _=>?_
 refine vG [.u 2,.cB 2 251 false [0,1] [] [] fun G=>rpush_ct hb hl b x (by omega)] fun G1=>?_;intro _ _
 refine nm (((hl ++[x]).length:Int):Int) fun n1 d=>?_;have h:n1=(hl.length:Int)+1:=by rw [d];simp
 refine vG [.u 2,.ci g0 2 33 0 (fun _=>((G1 2).ss 0).v) false [] [] [(kO 3 1 (hl ++[x]) ((G1 2).ss 0)).a] (fun _ G=>rlen_ctv (hl ++[x]) ((G1 2).ss 0) n1 d),.aa (n1-1),.cB 4 66 false [0,1] [] [] fun G=>hpup_ct hb (hl ++[x]) ((G1 2).ss 0) (n1-1) (by omega) (by omega)] fun G2=>?_;intro _ _
 have f:Zh.hup ((n1-1).toNat+1) (hl ++[x]) (n1-1).toNat=Zh.push hl x:=by unfold Zh.push;rw [show (n1-1).toNat=hl.length by omega]
 rw [←f];exact V.rS [] [((G1 2).ss 0)] [] [] [] [0,1]
theorem hpop_ct (hb:Nat) (hl:LI) (b:SV) (hL:0 < (hl.length:Int)∧(hl.length:Int)≤1000000000) :
  Ct Tryz.prog 34 #[.iface 64 (pp hb 0)] [] [.blk hb #[b.v] 65,os false 3 hl b] (fun g=>.iface 3 (iv (Zh.popV hl))) (fun g=>[]) (fun g=>[.blk hb #[(g.ss 0).v] 65,os true 3 (Zh.popL hl) (g.ss 0)]) (fun g=>[]):=by
 refine vf mo Tryz.func34 15 0 fun _=>?_
 refine vG [.u 1] fun G1=>?_;intro _ _
 refine nm ((hl.length:Int):Int) fun n1 f=>vG [.u 1,.ci g0 1 33 0 (fun _=>b.v) false [] [] [(ko false 3 1 hl (fun _=>b)).a] (fun _ G=>rlen_ctv hl b n1 f),.aa (n1-1),.u 1] fun G2=>?_;intro _ _
 refine vG [.u 2,.ci g0 2 252 0 (fun _=>b.v) false [1] [] [] (fun _ G=>rswap_ct hl b (0:Int) (n1-1) (by omega) (by omega))] fun G3=>?_;intro _ _
 have j:=Zh.swp_len hl (0:Int).toNat (n1-1).toNat;refine vG [.u 2,.cB 2 67 false [0,1] [] [] fun G=>hpdn_ct hb (Zh.swp hl (0:Int).toNat (n1-1).toNat) b (0:Int) (n1-1) (by omega) (by omega) (by omega)] fun G4=>?_;intro _ _
 have o:=Zh.hdn_len ((n1-1).toNat-(0:Int).toNat) (Zh.swp hl (0:Int).toNat (n1-1).toNat) (0:Int).toNat (n1-1).toNat;have d:Zh.hdn ((n1-1).toNat-(0:Int).toNat) (Zh.swp hl (0:Int).toNat (n1-1).toNat) (0:Int).toNat (n1-1).toNat=Zh.popped hl:=by unfold Zh.popped;rw [show (n1-1).toNat=hl.length-1 by omega];rfl
 refine vG [.u 1,.cB 1 250 false [0,1] [] [] fun G=>rpop_ct hb (Zh.hdn ((n1-1).toNat-(0:Int).toNat) (Zh.swp hl (0:Int).toNat (n1-1).toNat) (0:Int).toNat (n1-1).toNat) b (by omega),.u 1] fun G5=>?_;intro _ _
 have e0:(Zh.at_ (Zh.hdn ((n1-1).toNat-(0:Int).toNat) (Zh.swp hl (0:Int).toNat (n1-1).toNat) (0:Int).toNat (n1-1).toNat) ((Zh.hdn ((n1-1).toNat-(0:Int).toNat) (Zh.swp hl (0:Int).toNat (n1-1).toNat) (0:Int).toNat (n1-1).toNat).length-1))=Zh.popV hl:=by rw [d,Zh.popped_len];rfl
 have h:(Zh.hdn ((n1-1).toNat-(0:Int).toNat) (Zh.swp hl (0:Int).toNat (n1-1).toNat) (0:Int).toNat (n1-1).toNat).take ((Zh.hdn ((n1-1).toNat-(0:Int).toNat) (Zh.swp hl (0:Int).toNat (n1-1).toNat) (0:Int).toNat (n1-1).toNat).length-1)=Zh.popL hl:=by rw [d,Zh.popped_len];rfl
 rw [←h];exact V.rT [0] [(G5 1).ss 0] [] [] [] [0,1] (cong1 (fun (i:Int)=>(.iface 3 (iv i):Value)) e0)

theorem cfi1_ct (a:BA) (c:List DParam) (d:SV) (b:DExpr) (f:Nat) (cn:BA) :
  Ct Tryz.prog 135 #[ag (DFunc.mk a ⟨c,d⟩ b),pp f 0] [fs true c d,fs true b.Args.l b.Args.s] [.blk f #[tv cn] 9] (fun g=>bv (decide (a=cn))) (fun g=>[]) (fun g=>[.blk f #[tv cn] 9]) (fun g=>[]):=by
 refine vf mo Tryz.func135 8 1 fun _=>?_
 refine vG [.n 1,.kb false] fun G1=>?_;intro _ _
 refine vG [.u 1,.l 1,.l 0,.seq a cn,.u 1] fun G2=>?_;intro _ _
 exact V.rS [0] [] [] [] [] [0]
theorem cfii_ct (s:List DFunc) (ss:SV) (b:Nat) (cn:BA) :
  Ct Tryz.prog 134 #[ss.v,.func (.func 135) #[] #[pp b 0]] [fs true s ss] [.blk b #[tv cn] 9] (fun g=>iv (fidx (fun y:DFunc=>decide (y.Name=cn)) s)) (fun g=>[]) (fun g=>[.blk b #[tv cn] 9]) (fun g=>[]):=by
 refine vf mo Tryz.func134 19 0 fun k0=>?_;obtain ⟨i, -⟩:Lq s ss.v:=kj k0 0
 refine vG [.u 1] fun G1=>?_;intro _ _
 refine vG [.u 1,.ln (kF 0 s ss),.u 1] fun G2=>?_;intro _ _
 refine V.lp (γ:=Int) (fun k0=>⟨[(0,ss.v),(1,.func (.func 135) #[] #[pp b 0]),(7,iv (s.length:Int)),(8,iv k0)],[fs false s ss],[.blk b #[tv cn] 9]⟩) (fun k0=>(0≤k0)∧(k0≤(s.length:Int))∧(∀ j,j < k0.toNat→(fun y:DFunc=>decide (y.Name=cn)) (s.getD j default)=false)) (fun k0=>((s.length:Int)-k0).toNat) 0 [0] ?_ ?_
 ·refine ⟨by omega,by omega,?_⟩;show ∀ j,j < (0:Int).toNat→(fun y:DFunc=>decide (y.Name=cn)) (s.getD j default)=false;intro j hj;simp at hj
 rintro k0 hF1 kw3 Z1 hZ1;obtain ⟨o,t,d⟩:=hF1;refine vG [.u 1] fun G3=>?_;intro _ _;refine vd (k0 < (s.length:Int)) (fun q1=>?_) fun q2=>?_
 ·refine vG [.u 2] fun G4=>?_;intro _ _
  refine nm (s.getD k0.toNat default:DFunc) fun x1 f=>vG [.u 3,.iX (kF 0 s ss) k0,.lE (kF 0 s ss) k0 true x1 f true,.cB 5 135 false [0] [] [(kx false (.g 4 0) x1 x1.Params.l (fun _=>x1.Params.s) (fun _ H (h:Dat.good H (x1:DFunc))=>h.1)).a,(kx false (.g 4 0) x1 x1.Body.Args.l (fun _=>x1.Body.Args.s) (fun _ H (h:Dat.good H (x1:DFunc))=>(exG.1 h.2))).a] fun G=>cfi1_ct x1.Name x1.Params.l x1.Params.s x1.Body b cn] fun G5=>?_;intro _ _
  refine vd (x1.Name=cn) (fun q3=>?_) fun q4=>?_
  ·refine vG [.u 2] fun G6=>?_;intro _ _
   have e0:k0=fidx (fun y:DFunc=>decide (y.Name=cn)) s:=by rw [fidx_at (p:=(fun y:DFunc=>decide (y.Name=cn))) (k:=k0) (by omega) (by omega) f d (by simpa using q3)]
   exact vi 0 [0] e0
  refine vG [.aa (k0+1),.u 1] fun G7=>?_;intro _ _
  refine V.rn hZ1 (k0+1) [0] ?_ ?_
  ·refine ⟨by omega,by omega,?_⟩;show ∀ j,j < (k0+1).toNat→(fun y:DFunc=>decide (y.Name=cn)) (s.getD j default)=false;exact fidx_step (p:=(fun y:DFunc=>decide (y.Name=cn))) d (by omega) f (by simpa using q4)
  omega
 refine vG [.u 1] fun G8=>?_;intro _ _
 have e0:(-1:Int)=fidx (fun y:DFunc=>decide (y.Name=cn)) s:=(fidx_no fun j hj=>d j (by omega)).symm;exact vi 0 [0] e0
theorem cfind_ct (d:List DFunc) (f:SV) (h:BA) :
  Cp Tryz.prog 97 #[f.v,tv h] [fs true d f] (iv (Zc.find (d.map Zc.fe) h)):=by
 refine vf mo Tryz.func97 8 1 fun _=>?_
 refine vG [.n 0,.u 1] fun G1=>?_;intro _ _
 refine vG [.u 2,.cB 2 134 false [0] [] [kA 0 d f] fun G=>cfii_ct d f ((G1 0).b) h,.u 1] fun G2=>?_;intro _ _
 have e0:(fidx (fun y:DFunc=>decide (y.Name=h)) d)=Zc.find (d.map Zc.fe) h:=by rw [Zc.find_fe]
 exact vi 0 [] e0
theorem cpi1_ct (a b:BA) (d:Nat) (cn:BA) :
  Ct Tryz.prog 160 #[ag (DParam.mk a b),pp d 0] [] [.blk d #[tv cn] 9] (fun g=>bv (decide (a=cn))) (fun g=>[]) (fun g=>[.blk d #[tv cn] 9]) (fun g=>[]):=by
 refine vf mo Tryz.func160 8 1 fun _=>?_
 refine vG [.n 1,.kb false] fun G1=>?_;intro _ _
 refine vG [.u 1,.l 1,.l 0,.seq a cn,.u 1] fun G2=>?_;intro _ _
 exact V.rS [0] [] [] [] [] [0]
theorem cpii_ct (s:List DParam) (ss:SV) (b:Nat) (cn:BA) :
  Ct Tryz.prog 125 #[ss.v,.func (.func 160) #[] #[pp b 0]] [fs true s ss] [.blk b #[tv cn] 9] (fun g=>iv (fidx (fun y:DParam=>decide (y.Name=cn)) s)) (fun g=>[]) (fun g=>[.blk b #[tv cn] 9]) (fun g=>[]):=by
 refine vf mo Tryz.func125 19 0 fun k0=>?_;obtain ⟨h, -⟩:Lq s ss.v:=kj k0 0
 refine vG [.u 1] fun G1=>?_;intro _ _
 refine vG [.u 1,.ln (kF 0 s ss),.u 1] fun G2=>?_;intro _ _
 refine V.lp (γ:=Int) (fun k0=>⟨[(0,ss.v),(1,.func (.func 160) #[] #[pp b 0]),(7,iv (s.length:Int)),(8,iv k0)],[fs false s ss],[.blk b #[tv cn] 9]⟩) (fun k0=>(0≤k0)∧(k0≤(s.length:Int))∧(∀ j,j < k0.toNat→(fun y:DParam=>decide (y.Name=cn)) (s.getD j default)=false)) (fun k0=>((s.length:Int)-k0).toNat) 0 [0] ?_ ?_
 ·refine ⟨by omega,by omega,?_⟩;show ∀ j,j < (0:Int).toNat→(fun y:DParam=>decide (y.Name=cn)) (s.getD j default)=false;intro j hj;simp at hj
 rintro k0 hF1 kw3 Z1 hZ1;obtain ⟨i,o,d⟩:=hF1;refine vG [.u 1] fun G3=>?_;intro _ _;refine vd (k0 < (s.length:Int)) (fun q1=>?_) fun q2=>?_
 ·refine vG [.u 2] fun G4=>?_;intro _ _
  refine nm (s.getD k0.toNat default:DParam) fun x1 f=>vG [.u 3,.iX (kF 0 s ss) k0,.lE (kF 0 s ss) k0 false x1 f true,.cB 5 160 false [0] [] [] fun G=>cpi1_ct x1.Name x1.Unit b cn] fun G5=>?_;intro _ _
  refine vd (x1.Name=cn) (fun q3=>?_) fun q4=>?_
  ·refine vG [.u 2] fun G6=>?_;intro _ _
   have e0:k0=fidx (fun y:DParam=>decide (y.Name=cn)) s:=by rw [fidx_at (p:=(fun y:DParam=>decide (y.Name=cn))) (k:=k0) (by omega) (by omega) f d (by simpa using q3)]
   exact vi 0 [0] e0
  refine vG [.aa (k0+1),.u 1] fun G7=>?_;intro _ _
  refine V.rn hZ1 (k0+1) [0] ?_ ?_
  ·refine ⟨by omega,by omega,?_⟩;show ∀ j,j < (k0+1).toNat→(fun y:DParam=>decide (y.Name=cn)) (s.getD j default)=false;exact fidx_step (p:=(fun y:DParam=>decide (y.Name=cn))) d (by omega) f (by simpa using q4)
  omega
 refine vG [.u 1] fun G8=>?_;intro _ _
 have e0:(-1:Int)=fidx (fun y:DParam=>decide (y.Name=cn)) s:=(fidx_no fun j hj=>d j (by omega)).symm;exact vi 0 [0] e0
theorem cparm_ct (e:BA) (a:List DParam) (c:SV) (d:DExpr) (f:BA) :
  Cp Tryz.prog 129 #[ag (DFunc.mk e ⟨a,c⟩ d),tv f] [fs true a c,fs true d.Args.l d.Args.s] (iv (Zc.pidx a f)):=by
 refine vf mo Tryz.func129 9 2 fun _=>?_
 refine vG [.n 0,.n 1,.u 1] fun G1=>?_;intro _ _
 refine vG [.u 1,.l 0,.u 1,.cB 3 125 false [1] [] [kA 0 a c] fun G=>cpii_ct a c ((G1 1).b) f,.u 1] fun G2=>?_;intro _ _
 have e0:(fidx (fun y:DParam=>decide (y.Name=f)) a)=Zc.pidx a f:=by rfl
 exact vi 0 [] e0
theorem cfo1_ct (s:BA) (hs:Sx.tx s) :
  Cp Tryz.prog 158 #[tv s] [] (bv (decide (Fx.fre s))):=by
 refine vf mo Tryz.func158 10 0 fun _=>?_
 refine vG [.kb false] fun G1=>?_;intro _ _
 refine vG [.u 1,.cP 1 82 [] fun G=>lname_ct s (by omega),.u 2,.cp (gT (b:=decide (Tb.Nm s)) iDT) 4 83 [] (fun hg G=>fword_ct s),.u 1,.and g0 false (decide (Tb.Nm s)) (!(decide (Fx.isW s))),.u 1] fun G2=>?_;intro _ _
 have e0:((decide (Tb.Nm s)) && (!(decide (Fx.isW s))))=decide (Fx.fre s):=by
  refine Bool.eq_iff_iff.2 (Iff.trans (iAT iDT (iNT iDF)) (Iff.trans ?_ decide_eq_true_iff.symm));exact Iff.rfl
 exact vb 0 [] e0
theorem cfo2_ct (c a:BA) (d:Nat) (hn:Sx.tx c) (hu:Sx.tx a) :
  Cp Tryz.prog 159 #[ag (DParam.mk c a),pp d 0] [fs true ([(⟨.func (.func 158) #[] #[],rfl⟩:Fv)]:List Fv) ⟨atB d,1,1⟩] (bv (Zc.odd ⟨c,a⟩)):=by
 refine vf mo Tryz.func159 21 1 fun _=>?_
 refine vG [.n 0,.kb false] fun G1=>?_;intro _ _
 refine vG [.u 1,.l 0,.cP 2 136 [] fun G=>lquo_ct a (by omega),.u 5] fun G2=>?_;intro _ _
 refine nm ((!(decide (Fx.Qt a))) || (!(decide (Fx.fre c))):Bool) fun p1 f=>vG [.u 3,.le (gF (b:=!(decide (Fx.Qt a))) (iNF iDT)) (kF 0 ([(⟨.func (.func 158) #[] #[],rfl⟩:Fv)]:List Fv) ⟨atB d,1,1⟩) (0:Int) none false ((⟨.func (.func 158) #[] #[],rfl⟩:Fv):Fv) rfl (fun hg=>⟨Int.le_refl 0,Int.zero_lt_one⟩) false (fun _=>[.func (.func 158) #[] #[]]),.u 1,.l 0,.cp (gF (b:=!(decide (Fx.Qt a))) (iNF iDT)) 6 158 [] (fun hg G=>cfo1_ct c (by omega)),.u 1,.orn g0 false (!(decide (Fx.Qt a))) (!(decide (Fx.fre c))) p1 f,.u 1] fun G3=>?_;intro _ _
 have e0:p1=Zc.odd ⟨c,a⟩:=by subst_vars;rfl
 exact vb 0 [] e0
theorem cfoi_ct (s:List DParam) (ss:SV) (b:Nat) (hS:∀ x ∈ s,Sx.tx x.Name∧Sx.tx x.Unit) :
  Cp Tryz.prog 125 #[ss.v,.func (.func 159) #[] #[pp b 0]] [fs true s ss,fs true ([(⟨.func (.func 158) #[] #[],rfl⟩:Fv)]:List Fv) ⟨atB b,1,1⟩] (iv (fidx (fun y:DParam=>Zc.odd y) s)):=by
 refine vf mo Tryz.func125 19 0 fun k0=>?_;obtain ⟨h, -⟩:Lq s ss.v:=kj k0 0
 refine vG [.u 1] fun G1=>?_;intro _ _
 refine vG [.u 1,.ln (kF 0 s ss),.u 1] fun G2=>?_;intro _ _
 refine V.lp (γ:=Int) (fun k0=>⟨[(0,ss.v),(1,.func (.func 159) #[] #[pp b 0]),(7,iv (s.length:Int)),(8,iv k0)],[fs false s ss,fs false ([(⟨.func (.func 158) #[] #[],rfl⟩:Fv)]:List Fv) ⟨atB b,1,1⟩],[]⟩) (fun k0=>(0≤k0)∧(k0≤(s.length:Int))∧(∀ j,j < k0.toNat→(fun y:DParam=>Zc.odd y) (s.getD j default)=false)) (fun k0=>((s.length:Int)-k0).toNat) 0 [0,1] ?_ ?_
 ·refine ⟨by omega,by omega,?_⟩;show ∀ j,j < (0:Int).toNat→(fun y:DParam=>Zc.odd y) (s.getD j default)=false;intro j hj;simp at hj
 rintro k0 hF1 kw3 Z1 hZ1;obtain ⟨i,o,f⟩:=hF1;refine vG [.u 1] fun G3=>?_;intro _ _;refine vd (k0 < (s.length:Int)) (fun q1=>?_) fun q2=>?_
 ·refine vG [.u 2] fun G4=>?_;intro _ _
  refine nm (s.getD k0.toNat default:DParam) fun x1 d=>vG [.u 3,.iX (kF 0 s ss) k0,.lE (kF 0 s ss) k0 false x1 d true,.cP 5 159 [kA 1 ([(⟨.func (.func 158) #[] #[],rfl⟩:Fv)]:List Fv) ⟨atB b,1,1⟩] fun G=>cfo2_ct x1.Name x1.Unit b (hS _ (getD_mem (by omega) d)).1 (hS _ (getD_mem (by omega) d)).2] fun G5=>?_;intro _ _
  refine vc (Zc.odd ⟨x1.Name,x1.Unit⟩) (fun q3=>?_) fun q4=>?_
  ·refine vG [.u 2] fun G6=>?_;intro _ _
   have e0:k0=fidx (fun y:DParam=>Zc.odd y) s:=by rw [fidx_at (p:=(fun y:DParam=>Zc.odd y)) (k:=k0) (by omega) (by omega) d f (by simpa using q3)]
   exact vi 0 [] e0
  refine vG [.aa (k0+1),.u 1] fun G7=>?_;intro _ _
  refine V.rn hZ1 (k0+1) [0,1] ?_ ?_
  ·refine ⟨by omega,by omega,?_⟩;show ∀ j,j < (k0+1).toNat→(fun y:DParam=>Zc.odd y) (s.getD j default)=false;exact fidx_step (p:=(fun y:DParam=>Zc.odd y)) f (by omega) d (by simpa using q4)
  omega
 refine vG [.u 1] fun G8=>?_;intro _ _
 have e0:(-1:Int)=fidx (fun y:DParam=>Zc.odd y) s:=(fidx_no fun j hj=>f j (by omega)).symm;exact vi 0 [] e0
theorem cfoi_ctv (s:List DParam) (ss:SV) (b:Nat) (hS:∀ x ∈ s,Sx.tx x.Name∧Sx.tx x.Unit) (d:Int) (f:d=fidx (fun y:DParam=>Zc.odd y) s) :
  Cp Tryz.prog 125 #[ss.v,.func (.func 159) #[] #[pp b 0]] [fs true s ss,fs true ([(⟨.func (.func 158) #[] #[],rfl⟩:Fv)]:List Fv) ⟨atB b,1,1⟩] (iv d):=by
 subst f;exact cfoi_ct s ss b hS
theorem cfok_ct (s:List DParam) (ss:SV) (b:Nat) (hS:∀ x ∈ s,Sx.tx x.Name∧Sx.tx x.Unit) :
  Cp Tryz.prog 87 #[ss.v,.func (.func 159) #[] #[pp b 0]] [fs true s ss,fs true ([(⟨.func (.func 158) #[] #[],rfl⟩:Fv)]:List Fv) ⟨atB b,1,1⟩] (bv (s.any (fun y:DParam=>Zc.odd y))):=by
 refine vf mo Tryz.func87 9 0 fun _=>?_
 refine vG [.kb false] fun G1=>?_;intro _ _
 refine nm (fidx (fun y:DParam=>Zc.odd y) s:Int) fun n1 d=>vG [.u 2,.cP 2 125 [kA 0 s ss,kA 1 ([(⟨.func (.func 158) #[] #[],rfl⟩:Fv)]:List Fv) ⟨atB b,1,1⟩] fun G=>cfoi_ctv s ss b (by assumption) n1 d,.u 2] fun G2=>?_;intro _ _
 have e0:(decide (0≤n1))=s.any (fun y:DParam=>Zc.odd y):=by
  refine Bool.eq_iff_iff.2 (Iff.trans iDT (Iff.trans ?_ Iff.rfl));have f:=d;rw [f];exact fidx_nn
 exact vb 0 [] e0
theorem cform_ct (d:BA) (a:List DParam) (e:SV) (c:DExpr) (hm:Sx.tx d) (hp:∀ x ∈ a,Sx.tx x.Name∧Sx.tx x.Unit) (hb:Fx.sm (er c)) :
  Cp Tryz.prog 128 #[ag (DFunc.mk d ⟨a,e⟩ c)] [fs true a e,fs true c.Args.l c.Args.s] (bv (decide (Zc.formed (Zc.fe (DFunc.mk d ⟨a,e⟩ c))))):=by
 refine vf mo Tryz.func128 34 2 fun _=>?_
 refine vG [.n 0,.kb false] fun G1=>?_;intro _ _
 refine vG [.n 1,.s 1] fun G2=>?_;intro _ _
 refine vG [.u 2] fun G3=>?_;intro _ _
 refine vG [.u 1,.l 0,.ln (kF 0 a e),.u 1] fun G4=>?_;intro _ _
 refine V.frzC 1 ((G2 0).b) #[.func (.func 158) #[] #[]] 78 ((⟨.func (.func 158) #[] #[],rfl⟩:Fv):Fv) true [] (by kernel_rfl) (fun _ h=>trivial) ?_;refine nm ((decide (Fx.fre d)) && (decide (1≤(a.length:Int))):Bool) fun p1 f=>nm ((p1 && (decide ((a.length:Int)≤6))) && (!(a.any (fun y:DParam=>Zc.odd y))):Bool) fun p2 i=>vG [.le g0 (kG 2 ([(⟨.func (.func 158) #[] #[],rfl⟩:Fv)]:List Fv) ⟨atB (G2 0).b,1,1⟩) (0:Int) none false ((⟨.func (.func 158) #[] #[],rfl⟩:Fv):Fv) rfl (fun _=>⟨Int.le_refl 0,Int.zero_lt_one⟩) false (fun _=>[.func (.func 158) #[] #[]]),.u 1,.l 0,.cP 3 158 [] fun G=>cfo1_ct d (by omega),.u 3,.andn g0 false (decide (Fx.fre d)) (decide (1≤(a.length:Int))) p1 f,.u 3,.and g0 false p1 (decide ((a.length:Int)≤6)),.u 2,.l 0,.u 1,.cp (gT (b:=p1 && (decide ((a.length:Int)≤6))) (iAT (iN f (iAT iDT iDT)) iDT)) 16 87 [kA 0 a e,kB 2 ([(⟨.func (.func 158) #[] #[],rfl⟩:Fv)]:List Fv) ⟨atB (G2 0).b,1,1⟩] (fun hg G=>cfok_ct a e ((G2 0).b) (by assumption)),.u 1,.andn g0 false (p1 && (decide ((a.length:Int)≤6))) (!(a.any (fun y:DParam=>Zc.odd y))) p2 i,.u 2,.l 0,.cp (gT (b:=p2) (iN i (iAT (iAT (iN f (iAT iDT iDT)) iDT) (iNT Iff.rfl)))) 22 25 [kA 1 c.Args.l c.Args.s] (fun hg G=>frt_ct c (by assumption)),.and g0 false p2 (decide (Fx.rt (er c))),.u 1] fun G5=>?_;intro _ _
 have e0:(p2 && (decide (Fx.rt (er c))))=decide (Zc.formed (Zc.fe (DFunc.mk d ⟨a,e⟩ c))):=by
  refine Bool.eq_iff_iff.2 (Iff.trans (iAT (iN i (iAT (iAT (iN f (iAT iDT iDT)) iDT) (iNT Iff.rfl))) iDT) (Iff.trans ?_ decide_eq_true_iff.symm));unfold Zc.formed Zc.fe;grind
 exact vb 0 [] e0

theorem cwr_ct (b a:BA) (hu:Sx.tx a) :
  Cp Tryz.prog 130 #[ag (DParam.mk b a)] [] (bv (Zc.wrong ⟨b,a⟩)):=by
 refine vf mo Tryz.func130 13 2 fun _=>?_
 refine vG [.n 0,.kb false] fun G1=>?_;intro _ _
 refine nm (Un.dv ((Un.read a).1) 0:Int) fun n1 f=>nm (Un.dv ((Un.read a).1) 1:Int) fun n2 h=>nm (Un.dv ((Un.read a).1) 2:Int) fun n3 i=>nm (Un.dv ((Un.read a).1) 3:Int) fun n4 j=>nm (Un.dv ((Un.read a).1) 4:Int) fun n5 o=>nm (Un.dv ((Un.read a).1) 5:Int) fun n6 t=>nm (Fr.rS (((Un.read a).1).isSome=true) (Un.fv ((Un.read a).1)):Int) fun n7 w=>nm (Fr.rD (((Un.read a).1).isSome=true) (Un.fv ((Un.read a).1)):LI) fun l1 A=>nm (Fr.rT (((Un.read a).1).isSome=true):Int) fun n8 B=>nm (Fr.rE (((Un.read a).1).isSome=true) (Un.fv ((Un.read a).1)):LI) fun l2 C=>nm ((Un.read a).2:Int) fun n9 d=>vG [.u 1,.l 0,.cA 2 123 [] fun G=>uread_ctv a (by omega) n1 f n2 h n3 i n4 j n5 o n6 t n7 w l1 A n8 B l2 C n9 d,.u 3,.n 1,.s 1,.u 1] fun G2=>?_;intro _ _
 refine vG [.u 3] fun G3=>?_;intro _ _
 have e0:(!(decide (n9=0)))=Zc.wrong ⟨b,a⟩:=by
  rw [d];unfold Zc.wrong;first | rfl | (show (!decide _)=!decide _;rfl)
 exact vb 0 [] e0
theorem cwri_ct (s:List DParam) (ss:SV) (hS:∀ x ∈ s,Sx.tx x.Name∧Sx.tx x.Unit) :
  Cp Tryz.prog 125 #[ss.v,.func (.func 130) #[] #[]] [fs true s ss] (iv (fidx (fun y:DParam=>Zc.wrong y) s)):=by
 refine vf mo Tryz.func125 19 0 fun k0=>?_;obtain ⟨f, -⟩:Lq s ss.v:=kj k0 0
 refine vG [.u 1] fun G1=>?_;intro _ _
 refine vG [.u 1,.ln (kF 0 s ss),.u 1] fun G2=>?_;intro _ _
 refine V.lp (γ:=Int) (fun k0=>⟨[(0,ss.v),(1,.func (.func 130) #[] #[]),(7,iv (s.length:Int)),(8,iv k0)],[fs false s ss],[]⟩) (fun k0=>(0≤k0)∧(k0≤(s.length:Int))∧(∀ j,j < k0.toNat→(fun y:DParam=>Zc.wrong y) (s.getD j default)=false)) (fun k0=>((s.length:Int)-k0).toNat) 0 [0] ?_ ?_
 ·refine ⟨by omega,by omega,?_⟩;show ∀ j,j < (0:Int).toNat→(fun y:DParam=>Zc.wrong y) (s.getD j default)=false;intro j hj;simp at hj
 rintro k0 hF1 kw3 Z1 hZ1;obtain ⟨h,i,d⟩:=hF1;refine vG [.u 1] fun G3=>?_;intro _ _;refine vd (k0 < (s.length:Int)) (fun q1=>?_) fun q2=>?_
 ·refine vG [.u 2] fun G4=>?_;intro _ _
  refine nm (s.getD k0.toNat default:DParam) fun x1 b=>vG [.u 3,.iX (kF 0 s ss) k0,.lE (kF 0 s ss) k0 false x1 b true,.cP 5 130 [] fun G=>cwr_ct x1.Name x1.Unit (hS _ (getD_mem (by omega) b)).2] fun G5=>?_;intro _ _
  refine vc (Zc.wrong ⟨x1.Name,x1.Unit⟩) (fun q3=>?_) fun q4=>?_
  ·refine vG [.u 2] fun G6=>?_;intro _ _
   have e0:k0=fidx (fun y:DParam=>Zc.wrong y) s:=by rw [fidx_at (p:=(fun y:DParam=>Zc.wrong y)) (k:=k0) (by omega) (by omega) b d (by simpa using q3)]
   exact vi 0 [] e0
  refine vG [.aa (k0+1),.u 1] fun G7=>?_;intro _ _
  refine V.rn hZ1 (k0+1) [0] ?_ ?_
  ·refine ⟨by omega,by omega,?_⟩;show ∀ j,j < (k0+1).toNat→(fun y:DParam=>Zc.wrong y) (s.getD j default)=false;exact fidx_step (p:=(fun y:DParam=>Zc.wrong y)) d (by omega) b (by simpa using q4)
  omega
 refine vG [.u 1] fun G8=>?_;intro _ _
 have e0:(-1:Int)=fidx (fun y:DParam=>Zc.wrong y) s:=(fidx_no fun j hj=>d j (by omega)).symm;exact vi 0 [] e0
theorem cwri_ctv (s:List DParam) (ss:SV) (hS:∀ x ∈ s,Sx.tx x.Name∧Sx.tx x.Unit) (b:Int) (d:b=fidx (fun y:DParam=>Zc.wrong y) s) :
  Cp Tryz.prog 125 #[ss.v,.func (.func 130) #[] #[]] [fs true s ss] (iv b):=by
 subst d;exact cwri_ct s ss hS
theorem cwrk_ct (s:List DParam) (ss:SV) (hS:∀ x ∈ s,Sx.tx x.Name∧Sx.tx x.Unit) :
  Cp Tryz.prog 87 #[ss.v,.func (.func 130) #[] #[]] [fs true s ss] (bv (s.any (fun y:DParam=>Zc.wrong y))):=by
 refine vf mo Tryz.func87 9 0 fun _=>?_
 refine vG [.kb false] fun G1=>?_;intro _ _
 refine nm (fidx (fun y:DParam=>Zc.wrong y) s:Int) fun n1 b=>vG [.u 2,.cP 2 125 [kA 0 s ss] fun G=>cwri_ctv s ss (by assumption) n1 b,.u 2] fun G2=>?_;intro _ _
 have e0:(decide (0≤n1))=s.any (fun y:DParam=>Zc.wrong y):=by
  refine Bool.eq_iff_iff.2 (Iff.trans iDT (Iff.trans ?_ Iff.rfl));have d:=b;rw [d];exact fidx_nn
 exact vb 0 [] e0
theorem cst_ct (x:DExpr) (gb:Nat) (f:BA) (c:List DParam) (e:SV) (d:DExpr) :
  Cp Tryz.prog 131 #[ag x,pp gb 0] [fs true x.Args.l x.Args.s,fs true ([DFunc.mk f ⟨c,e⟩ d]:List DFunc) ⟨atB gb,1,1⟩] (bv (Zc.stray c (er x))):=by
 refine vf mo Tryz.func131 14 1 fun _=>?_
 refine vG [.n 0,.kb false] fun G1=>?_;intro _ _
 refine nm ((decide (x.Op=1)) && (decide (Zc.pidx c x.Name < 0)):Bool) fun p1 i=>vG [.u 1,.l 0,.u 2,.le (gT (b:=decide (x.Op=1)) iDT) (kF 1 ([DFunc.mk f ⟨c,e⟩ d]:List DFunc) ⟨atB gb,1,1⟩) (0:Int) none true (DFunc.mk f ⟨c,e⟩ d:DFunc) rfl (fun hg=>⟨Int.le_refl 0,Int.zero_lt_one⟩) true (fun _=>Dat.cells (DFunc.mk f ⟨c,e⟩ d)),.u 1,.l 0,.cp (gT (b:=decide (x.Op=1)) iDT) 7 129 [(kx false (.g 4 0) (DFunc.mk f ⟨c,e⟩ d:DFunc) c (fun _=>e) (fun _ H (h:Dat.good H ((DFunc.mk f ⟨c,e⟩ d:DFunc):DFunc))=>h.1)).a,(kx false (.g 4 0) (DFunc.mk f ⟨c,e⟩ d:DFunc) d.Args.l (fun _=>d.Args.s) (fun _ H (h:Dat.good H ((DFunc.mk f ⟨c,e⟩ d:DFunc):DFunc))=>(exG.1 h.2))).a] (fun hg G=>cparm_ct f c e d x.Name),.u 1,.andn g0 false (decide (x.Op=1)) (decide (Zc.pidx c x.Name < 0)) p1 i,.u 1] fun G2=>?_;intro _ _
 have e0:p1=Zc.stray c (er x):=by
  unfold Zc.stray;rw [er_op,er_m];exact i
 exact vb 0 [] e0
theorem cun_ct (x:DExpr) (f:Nat) (gs:List DFunc) (d:SV) :
  Cp Tryz.prog 96 #[ag x,pp f 0] [fs true x.Args.l x.Args.s,fs true ([⟨gs,d⟩]:List (Fat DFunc)) ⟨atB f,1,1⟩] (bv (Zc.unk (gs.map Zc.fe) (er x))):=by
 refine vf mo Tryz.func96 14 1 fun _=>?_
 refine vG [.n 0,.kb false] fun G1=>?_;intro _ _
 refine nm ((decide (x.Op=3)) && (decide (Zc.find (gs.map Zc.fe) x.Name < 0)):Bool) fun p1 i=>vG [.u 1,.l 0,.u 2,.le (gT (b:=decide (x.Op=3)) iDT) (kF 1 ([⟨gs,d⟩]:List (Fat DFunc)) ⟨atB f,1,1⟩) (0:Int) none true (⟨gs,d⟩:Fat DFunc) rfl (fun hg=>⟨Int.le_refl 0,Int.zero_lt_one⟩) false (fun _=>Dat.cells (⟨gs,d⟩:Fat DFunc)),.u 1,.l 0,.cp (gT (b:=decide (x.Op=3)) iDT) 7 97 [(kx false (.g 4 0) (⟨gs,d⟩:Fat DFunc) gs (fun _=>d) (fun _ _ h=>h)).a] (fun hg G=>cfind_ct gs d x.Name),.u 1,.andn g0 false (decide (x.Op=3)) (decide (Zc.find (gs.map Zc.fe) x.Name < 0)) p1 i,.u 1] fun G2=>?_;intro _ _
 have e0:p1=Zc.unk (gs.map Zc.fe) (er x):=by
  unfold Zc.unk;rw [er_op,er_m];exact i
 exact vb 0 [] e0
theorem cunk_ct (f:List DFunc) (d:SV) :
  Ct Tryz.prog 53 #[d.v] [fs true f d] [] (fun g=>.func (.func 96) #[] #[pp (g.bs 0) 0]) (fun g=>[fs false ([⟨f,d⟩]:List (Fat DFunc)) ⟨atB (g.bs 0),1,1⟩]) eF eF:=by
 refine vf mo Tryz.func53 4 1 fun _=>?_
 refine vG [.n 0,.u 1] fun G1=>?_;intro _ _
 refine vG [.u 2] fun G2=>?_;intro _ _
 refine V.frzB 0 ((G1 0).b) #[d.v] 25 (⟨f,d⟩:Fat DFunc) false 0 (fs false f d) (by kernel_rfl) (fun _ h=>h) ?_;exact V.rS [0] [] [] [(G1 0).b] [1] []
theorem cunv_ct (f:List DFunc) (d:SV) :
  Ct Tryz.prog 54 #[d.v] [fs true f d] [] (fun g=>.func (.func 98) #[] #[pp (g.bs 0) 0]) (fun g=>[fs false ([⟨f,d⟩]:List (Fat DFunc)) ⟨atB (g.bs 0),1,1⟩]) eF eF:=by
 refine vf mo Tryz.func54 4 1 fun _=>?_
 refine vG [.n 0,.u 1] fun G1=>?_;intro _ _
 refine vG [.u 2] fun G2=>?_;intro _ _
 refine V.frzB 0 ((G1 0).b) #[d.v] 25 (⟨f,d⟩:Fat DFunc) false 0 (fs false f d) (by kernel_rfl) (fun _ h=>h) ?_;exact V.rS [0] [] [] [(G1 0).b] [1] []

theorem cuv_ct (x:DExpr) (f:Nat) (gs:List DFunc) (d:SV) (hU:x.Op=3→0≤Zc.find (gs.map Zc.fe) x.Name) :
  Cp Tryz.prog 98 #[ag x,pp f 0] [fs true x.Args.l x.Args.s,fs true ([⟨gs,d⟩]:List (Fat DFunc)) ⟨atB f,1,1⟩] (bv (Zc.unev (gs.map Zc.fe) (er x))):=by
 refine vf mo Tryz.func98 22 1 fun _=>?_
 refine vG [.n 0,.kb false] fun G1=>?_;intro _ _
 refine nm (gs.getD (Zc.find (gs.map Zc.fe) x.Name).toNat default:DFunc) fun x1 j=>nm ((decide (x.Op=3)) && (!(decide ((x.Args.l.length:Int)=(x1.Params.l.length:Int)))):Bool) fun p1 i=>vG [.u 1,.l 0,.u 3,.l 0,.ln (kF 0 x.Args.l x.Args.s),.le (gT (b:=decide (x.Op=3)) iDT) (kF 1 ([⟨gs,d⟩]:List (Fat DFunc)) ⟨atB f,1,1⟩) (0:Int) none true (⟨gs,d⟩:Fat DFunc) rfl (fun hg=>⟨Int.le_refl 0,Int.zero_lt_one⟩) false (fun _=>Dat.cells (⟨gs,d⟩:Fat DFunc)),.le (gT (b:=decide (x.Op=3)) iDT) (kF 1 ([⟨gs,d⟩]:List (Fat DFunc)) ⟨atB f,1,1⟩) (0:Int) none true (⟨gs,d⟩:Fat DFunc) rfl (fun hg=>⟨Int.le_refl 0,Int.zero_lt_one⟩) false (fun _=>Dat.cells (⟨gs,d⟩:Fat DFunc)),.u 1,.l 0,.cp (gT (b:=decide (x.Op=3)) iDT) 11 97 [(kx false (.g 8 0) (⟨gs,d⟩:Fat DFunc) gs (fun _=>d) (fun _ _ h=>h)).a] (fun hg G=>cfind_ct gs d x.Name),.ix (gT (b:=decide (x.Op=3)) iDT) (kx false (.g 7 0) (⟨gs,d⟩:Fat DFunc) gs (fun _=>d) (fun _ _ h=>h)) (Zc.find (gs.map Zc.fe) x.Name) (fun hg=>(by have h0:=hU hg;have h1:=Zc.find_rng (gs.map Zc.fe) x.Name;rw [List.length_map] at h1;exact ⟨h0,h1.2⟩)),.u 1,.le (gT (b:=decide (x.Op=3)) iDT) (kx false (.g 7 0) (⟨gs,d⟩:Fat DFunc) gs (fun _=>d) (fun _ _ h=>h)) (Zc.find (gs.map Zc.fe) x.Name) (some 1) true x1 j (fun hg=>(by have h0:=hU hg;have h1:=Zc.find_rng (gs.map Zc.fe) x.Name;rw [List.length_map] at h1;exact ⟨h0,h1.2⟩)) false (fun _=>[x1.Params.s.v]),.ln (kx false (.g 14 0) x1 x1.Params.l (fun _=>x1.Params.s) (fun _ H (h:Dat.good H (x1:DFunc))=>h.1)),.u 1,.andn g0 false (decide (x.Op=3)) (!(decide ((x.Args.l.length:Int)=(x1.Params.l.length:Int)))) p1 i,.u 1] fun G2=>?_;intro _ _
 have e0:p1=Zc.unev (gs.map Zc.fe) (er x):=by
  unfold Zc.unev;rw [er_op,er_m,er_l,List.length_map];by_cases h3:x.Op=3
  ·have h0:=hU h3;have h1:=Zc.find_rng (gs.map Zc.fe) x.Name;rw [List.length_map] at h1;rw [i,j,Zc.getD_map Zc.fe (by omega)];rfl
  rw [i];simp [h3]
 exact vb 0 [] e0
theorem cs11_ct (y:DExpr) (f gb:Nat) (b:BA) (a:List DParam) (c:SV) (d:DExpr) (m0:Nat) (ih:∀ (x:DExpr) (gb:Nat) (b:BA) (a:List DParam) (c:SV) (d:DExpr),Fx.sz (er x) < m0→Cp Tryz.prog 52 #[ag x,.func (.func 131) #[] #[pp gb 0]] [fs true x.Args.l x.Args.s,fs true ([DFunc.mk b ⟨a,c⟩ d]:List DFunc) ⟨atB gb,1,1⟩] (bv (Zc.anyN (Zc.stray a) (er x)))) (hm:Fx.sz (er y) < m0) :
  Cp Tryz.prog 95 #[ag y,pp f 0] [fs true y.Args.l y.Args.s,fs true ([DFunc.mk b ⟨a,c⟩ d]:List DFunc) ⟨atB gb,1,1⟩,fs true ([(⟨.func (.func 131) #[] #[pp gb 0],rfl⟩:Fv)]:List Fv) ⟨atB f,1,1⟩] (bv (Zc.anyN (Zc.stray a) (er y))):=by
 refine vf mo Tryz.func95 7 1 fun _=>?_
 refine vG [.n 0,.kb false] fun G1=>?_;intro _ _
 refine vG [.l 0,.le g0 (kF 2 ([(⟨.func (.func 131) #[] #[pp gb 0],rfl⟩:Fv)]:List Fv) ⟨atB f,1,1⟩) (0:Int) none false ((⟨.func (.func 131) #[] #[pp gb 0],rfl⟩:Fv):Fv) rfl (fun _=>⟨Int.le_refl 0,Int.zero_lt_one⟩) false (fun _=>[.func (.func 131) #[] #[pp gb 0]]),.cP 2 52 [kA 0 y.Args.l y.Args.s,kA 1 ([DFunc.mk b ⟨a,c⟩ d]:List DFunc) ⟨atB gb,1,1⟩] fun G=>ih y gb b a c d (by omega),.u 1] fun G2=>?_;intro _ _
 exact V.rS [0] [] [] [] [] []
theorem cs1i_ct (s:List DExpr) (ss:SV) (b gb:Nat) (d:BA) (c:List DParam) (e:SV) (f:DExpr) (m0:Nat) (ih:∀ (x:DExpr) (gb:Nat) (d:BA) (c:List DParam) (e:SV) (f:DExpr),Fx.sz (er x) < m0→Cp Tryz.prog 52 #[ag x,.func (.func 131) #[] #[pp gb 0]] [fs true x.Args.l x.Args.s,fs true ([DFunc.mk d ⟨c,e⟩ f]:List DFunc) ⟨atB gb,1,1⟩] (bv (Zc.anyN (Zc.stray c) (er x)))) (hm:∀ y ∈ s,Fx.sz (er y) < m0) :
  Cp Tryz.prog 133 #[ss.v,.func (.func 95) #[] #[pp b 0]] [fs true s ss,fs true ([DFunc.mk d ⟨c,e⟩ f]:List DFunc) ⟨atB gb,1,1⟩,fs true ([(⟨.func (.func 131) #[] #[pp gb 0],rfl⟩:Fv)]:List Fv) ⟨atB b,1,1⟩] (iv (fidx (fun y:DExpr=>Zc.anyN (Zc.stray c) (er y)) s)):=by
 refine vf mo Tryz.func133 19 0 fun k0=>?_;obtain ⟨t, -⟩:Lq s ss.v:=kj k0 0
 refine vG [.u 1] fun G1=>?_;intro _ _
 refine vG [.u 1,.ln (kF 0 s ss),.u 1] fun G2=>?_;intro _ _
 refine V.lp (γ:=Int) (fun k0=>⟨[(0,ss.v),(1,.func (.func 95) #[] #[pp b 0]),(7,iv (s.length:Int)),(8,iv k0)],[fs false s ss,fs false ([(⟨.func (.func 131) #[] #[pp gb 0],rfl⟩:Fv)]:List Fv) ⟨atB b,1,1⟩,fs false ([DFunc.mk d ⟨c,e⟩ f]:List DFunc) ⟨atB gb,1,1⟩],[]⟩) (fun k0=>(0≤k0)∧(k0≤(s.length:Int))∧(∀ j,j < k0.toNat→(fun y:DExpr=>Zc.anyN (Zc.stray c) (er y)) (s.getD j default)=false)) (fun k0=>((s.length:Int)-k0).toNat) 0 [0,2,1] ?_ ?_
 ·refine ⟨by omega,by omega,?_⟩;show ∀ j,j < (0:Int).toNat→(fun y:DExpr=>Zc.anyN (Zc.stray c) (er y)) (s.getD j default)=false;intro j hj;simp at hj
 rintro k0 hF1 kw3 Z1 hZ1;obtain ⟨w,A,o⟩:=hF1;refine vG [.u 1] fun G3=>?_;intro _ _;refine vd (k0 < (s.length:Int)) (fun q1=>?_) fun q2=>?_
 ·refine vG [.u 2] fun G4=>?_;intro _ _
  refine nm (s.getD k0.toNat default:DExpr) fun x1 i=>vG [.u 3,.iX (kF 0 s ss) k0,.lE (kF 0 s ss) k0 true x1 i true,.cP 5 95 [(kx false (.g 4 0) x1 x1.Args.l (fun _=>x1.Args.s) (fun _ H (h:Dat.good H (x1:DExpr))=>(exG.1 h))).a,kA 2 ([DFunc.mk d ⟨c,e⟩ f]:List DFunc) ⟨atB gb,1,1⟩,kA 1 ([(⟨.func (.func 131) #[] #[pp gb 0],rfl⟩:Fv)]:List Fv) ⟨atB b,1,1⟩] fun G=>cs11_ct x1 b gb d c e f m0 ih (hm _ (getD_mem (by omega) i))] fun G5=>?_;intro _ _
  refine vc (Zc.anyN (Zc.stray c) (er x1)) (fun q3=>?_) fun q4=>?_
  ·refine vG [.u 2] fun G6=>?_;intro _ _
   have e0:k0=fidx (fun y:DExpr=>Zc.anyN (Zc.stray c) (er y)) s:=by rw [fidx_at (p:=(fun y:DExpr=>Zc.anyN (Zc.stray c) (er y))) (k:=k0) (by omega) (by omega) i o (by simpa using q3)]
   exact vi 0 [] e0
  refine vG [.aa (k0+1),.u 1] fun G7=>?_;intro _ _
  refine V.rn hZ1 (k0+1) [0,1,2] ?_ ?_
  ·refine ⟨by omega,by omega,?_⟩;show ∀ j,j < (k0+1).toNat→(fun y:DExpr=>Zc.anyN (Zc.stray c) (er y)) (s.getD j default)=false;exact fidx_step (p:=(fun y:DExpr=>Zc.anyN (Zc.stray c) (er y))) o (by omega) i (by simpa using q4)
  omega
 refine vG [.u 1] fun G8=>?_;intro _ _
 have e0:(-1:Int)=fidx (fun y:DExpr=>Zc.anyN (Zc.stray c) (er y)) s:=(fidx_no fun j hj=>o j (by omega)).symm;exact vi 0 [] e0
theorem cs1i_ctv (s:List DExpr) (ss:SV) (f gb:Nat) (b:ByteArray) (a:List DParam) (c:SV) (d:DExpr) (m0:Nat) (ih:∀ (x:DExpr) (gb:Nat) (b:ByteArray) (a:List DParam) (c:SV) (d:DExpr),Fx.sz (er x) < m0→Cp Tryz.prog 52 #[ag x,.func (.func 131) #[] #[pp gb 0]] [fs true x.Args.l x.Args.s,fs true ([DFunc.mk b ⟨a,c⟩ d]:List DFunc) ⟨atB gb,1,1⟩] (bv (Zc.anyN (Zc.stray a) (er x)))) (hm:∀ y ∈ s,Fx.sz (er y) < m0) (h:Int) (i:h=fidx (fun y:DExpr=>Zc.anyN (Zc.stray a) (er y)) s) :
  Cp Tryz.prog 133 #[ss.v,.func (.func 95) #[] #[pp f 0]] [fs true s ss,fs true ([DFunc.mk b ⟨a,c⟩ d]:List DFunc) ⟨atB gb,1,1⟩,fs true ([(⟨.func (.func 131) #[] #[pp gb 0],rfl⟩:Fv)]:List Fv) ⟨atB f,1,1⟩] (iv h):=by
 subst i;exact cs1i_ct s ss f gb b a c d m0 ih hm
theorem cs1k_ct (s:List DExpr) (ss:SV) (f gb:Nat) (b:BA) (a:List DParam) (c:SV) (d:DExpr) (m0:Nat) (ih:∀ (x:DExpr) (gb:Nat) (b:BA) (a:List DParam) (c:SV) (d:DExpr),Fx.sz (er x) < m0→Cp Tryz.prog 52 #[ag x,.func (.func 131) #[] #[pp gb 0]] [fs true x.Args.l x.Args.s,fs true ([DFunc.mk b ⟨a,c⟩ d]:List DFunc) ⟨atB gb,1,1⟩] (bv (Zc.anyN (Zc.stray a) (er x)))) (hm:∀ y ∈ s,Fx.sz (er y) < m0) :
  Cp Tryz.prog 94 #[ss.v,.func (.func 95) #[] #[pp f 0]] [fs true s ss,fs true ([DFunc.mk b ⟨a,c⟩ d]:List DFunc) ⟨atB gb,1,1⟩,fs true ([(⟨.func (.func 131) #[] #[pp gb 0],rfl⟩:Fv)]:List Fv) ⟨atB f,1,1⟩] (bv (s.any (fun y:DExpr=>Zc.anyN (Zc.stray a) (er y)))):=by
 refine vf mo Tryz.func94 9 0 fun _=>?_
 refine vG [.kb false] fun G1=>?_;intro _ _
 refine nm (fidx (fun y:DExpr=>Zc.anyN (Zc.stray a) (er y)) s:Int) fun n1 h=>vG [.u 2,.cP 2 133 [kA 0 s ss,kA 1 ([DFunc.mk b ⟨a,c⟩ d]:List DFunc) ⟨atB gb,1,1⟩,kA 2 ([(⟨.func (.func 131) #[] #[pp gb 0],rfl⟩:Fv)]:List Fv) ⟨atB f,1,1⟩] fun G=>cs1i_ctv s ss f gb b a c d m0 ih (by assumption) n1 h,.u 2] fun G2=>?_;intro _ _
 have e0:(decide (0≤n1))=s.any (fun y:DExpr=>Zc.anyN (Zc.stray a) (er y)):=by
  refine Bool.eq_iff_iff.2 (Iff.trans iDT (Iff.trans ?_ Iff.rfl));have i:=h;rw [i];exact fidx_nn
 exact vb 0 [] e0
theorem cs1_ct_n (m0:Nat):∀ (x:DExpr) (gb:Nat) (c:BA) (a:List DParam) (d:SV) (e:DExpr),Fx.sz (er x) < m0 →
  Cp Tryz.prog 52 #[ag x,.func (.func 131) #[] #[pp gb 0]] [fs true x.Args.l x.Args.s,fs true ([DFunc.mk c ⟨a,d⟩ e]:List DFunc) ⟨atB gb,1,1⟩] (bv (Zc.anyN (Zc.stray a) (er x))):=by
 induction m0 with
 | zero=>intro _ _ _ _ _ _ hm;exact absurd hm (Nat.not_lt_zero _)
 | succ m0 ih =>
  intro x gb c a d e hm;refine vf mo Tryz.func52 12 2 fun _=>?_
  refine vG [.n 0,.n 1,.kb false] fun G1=>?_;intro _ _
  refine V.frzC 1 ((G1 1).b) #[.func (.func 131) #[] #[pp gb 0]] 53 ((⟨.func (.func 131) #[] #[pp gb 0],rfl⟩:Fv):Fv) true [] (by kernel_rfl) (fun _ h=>trivial) ?_;refine vG [.le g0 (kG 2 ([(⟨.func (.func 131) #[] #[pp gb 0],rfl⟩:Fv)]:List Fv) ⟨atB (G1 1).b,1,1⟩) (0:Int) none false ((⟨.func (.func 131) #[] #[pp gb 0],rfl⟩:Fv):Fv) rfl (fun _=>⟨Int.le_refl 0,Int.zero_lt_one⟩) false (fun _=>[.func (.func 131) #[] #[pp gb 0]]),.l 0,.cP 2 131 [kA 0 x.Args.l x.Args.s,kA 1 ([DFunc.mk c ⟨a,d⟩ e]:List DFunc) ⟨atB gb,1,1⟩] fun G=>cst_ct x gb c a d e] fun G2=>?_;intro _ _
  refine vc (Zc.stray a (er x)) (fun q1=>?_) fun q2=>?_
  ·refine vG [.kb true] fun G3=>?_;intro _ _
   have e0:true=Zc.anyN (Zc.stray a) (er x):=by rw [Zc.anyN_er,q1,Bool.true_or]
   exact vb 0 [] e0
  refine vG [.u 1,.l 0,.u 1,.cp g0 3 94 [kA 0 x.Args.l x.Args.s,kA 1 ([DFunc.mk c ⟨a,d⟩ e]:List DFunc) ⟨atB gb,1,1⟩,kB 2 ([(⟨.func (.func 131) #[] #[pp gb 0],rfl⟩:Fv)]:List Fv) ⟨atB (G1 1).b,1,1⟩] (fun _ G=>cs1k_ct x.Args.l x.Args.s ((G1 1).b) gb c a d e m0 ih (fun y hy=>by have:=Fx.sz_arg hy;omega)),.u 1] fun G4=>?_;intro _ _
  have e0:(x.Args.l.any (fun y:DExpr=>Zc.anyN (Zc.stray a) (er y)))=Zc.anyN (Zc.stray a) (er x):=by rw [Zc.anyN_er];have f:_=false:=q2;rw [f,Bool.false_or]
  exact vb 0 [] e0
theorem cs1_ct (x:DExpr) (gb:Nat) (b:ByteArray) (a:List DParam) (c:SV) (d:DExpr) :
  Cp Tryz.prog 52 #[ag x,.func (.func 131) #[] #[pp gb 0]] [fs true x.Args.l x.Args.s,fs true ([DFunc.mk b ⟨a,c⟩ d]:List DFunc) ⟨atB gb,1,1⟩] (bv (Zc.anyN (Zc.stray a) (er x))):=cs1_ct_n (Fx.sz (er x)+1) x gb b a c d (Nat.lt_succ_self _)
theorem cs21_ct (y:DExpr) (f b:Nat) (gs:List DFunc) (d:SV) (m0:Nat) (ih:∀ (x:DExpr) (b:Nat) (gs:List DFunc) (d:SV),Fx.sz (er x) < m0→Cp Tryz.prog 52 #[ag x,.func (.func 96) #[] #[pp b 0]] [fs true x.Args.l x.Args.s,fs true ([⟨gs,d⟩]:List (Fat DFunc)) ⟨atB b,1,1⟩] (bv (Zc.anyN (Zc.unk (gs.map Zc.fe)) (er x)))) (hm:Fx.sz (er y) < m0) :
  Cp Tryz.prog 95 #[ag y,pp f 0] [fs true y.Args.l y.Args.s,fs true ([⟨gs,d⟩]:List (Fat DFunc)) ⟨atB b,1,1⟩,fs true ([(⟨.func (.func 96) #[] #[pp b 0],rfl⟩:Fv)]:List Fv) ⟨atB f,1,1⟩] (bv (Zc.anyN (Zc.unk (gs.map Zc.fe)) (er y))):=by
 refine vf mo Tryz.func95 7 1 fun _=>?_
 refine vG [.n 0,.kb false] fun G1=>?_;intro _ _
 refine vG [.l 0,.le g0 (kF 2 ([(⟨.func (.func 96) #[] #[pp b 0],rfl⟩:Fv)]:List Fv) ⟨atB f,1,1⟩) (0:Int) none false ((⟨.func (.func 96) #[] #[pp b 0],rfl⟩:Fv):Fv) rfl (fun _=>⟨Int.le_refl 0,Int.zero_lt_one⟩) false (fun _=>[.func (.func 96) #[] #[pp b 0]]),.cP 2 52 [kA 0 y.Args.l y.Args.s,kA 1 ([⟨gs,d⟩]:List (Fat DFunc)) ⟨atB b,1,1⟩] fun G=>ih y b gs d (by omega),.u 1] fun G2=>?_;intro _ _
 exact V.rS [0] [] [] [] [] []
theorem cs2i_ct (s:List DExpr) (ss:SV) (d b:Nat) (gs:List DFunc) (f:SV) (m0:Nat) (ih:∀ (x:DExpr) (b:Nat) (gs:List DFunc) (f:SV),Fx.sz (er x) < m0→Cp Tryz.prog 52 #[ag x,.func (.func 96) #[] #[pp b 0]] [fs true x.Args.l x.Args.s,fs true ([⟨gs,f⟩]:List (Fat DFunc)) ⟨atB b,1,1⟩] (bv (Zc.anyN (Zc.unk (gs.map Zc.fe)) (er x)))) (hm:∀ y ∈ s,Fx.sz (er y) < m0) :
  Cp Tryz.prog 133 #[ss.v,.func (.func 95) #[] #[pp d 0]] [fs true s ss,fs true ([⟨gs,f⟩]:List (Fat DFunc)) ⟨atB b,1,1⟩,fs true ([(⟨.func (.func 96) #[] #[pp b 0],rfl⟩:Fv)]:List Fv) ⟨atB d,1,1⟩] (iv (fidx (fun y:DExpr=>Zc.anyN (Zc.unk (gs.map Zc.fe)) (er y)) s)):=by
 refine vf mo Tryz.func133 19 0 fun k0=>?_;obtain ⟨t, -⟩:Lq s ss.v:=kj k0 0
 refine vG [.u 1] fun G1=>?_;intro _ _
 refine vG [.u 1,.ln (kF 0 s ss),.u 1] fun G2=>?_;intro _ _
 refine V.lp (γ:=Int) (fun k0=>⟨[(0,ss.v),(1,.func (.func 95) #[] #[pp d 0]),(7,iv (s.length:Int)),(8,iv k0)],[fs false s ss,fs false ([(⟨.func (.func 96) #[] #[pp b 0],rfl⟩:Fv)]:List Fv) ⟨atB d,1,1⟩,fs false ([⟨gs,f⟩]:List (Fat DFunc)) ⟨atB b,1,1⟩],[]⟩) (fun k0=>(0≤k0)∧(k0≤(s.length:Int))∧(∀ j,j < k0.toNat→(fun y:DExpr=>Zc.anyN (Zc.unk (gs.map Zc.fe)) (er y)) (s.getD j default)=false)) (fun k0=>((s.length:Int)-k0).toNat) 0 [0,2,1] ?_ ?_
 ·refine ⟨by omega,by omega,?_⟩;show ∀ j,j < (0:Int).toNat→(fun y:DExpr=>Zc.anyN (Zc.unk (gs.map Zc.fe)) (er y)) (s.getD j default)=false;intro j hj;simp at hj
 rintro k0 hF1 kw3 Z1 hZ1;obtain ⟨w,A,o⟩:=hF1;refine vG [.u 1] fun G3=>?_;intro _ _;refine vd (k0 < (s.length:Int)) (fun q1=>?_) fun q2=>?_
 ·refine vG [.u 2] fun G4=>?_;intro _ _
  refine nm (s.getD k0.toNat default:DExpr) fun x1 i=>vG [.u 3,.iX (kF 0 s ss) k0,.lE (kF 0 s ss) k0 true x1 i true,.cP 5 95 [(kx false (.g 4 0) x1 x1.Args.l (fun _=>x1.Args.s) (fun _ H (h:Dat.good H (x1:DExpr))=>(exG.1 h))).a,kA 2 ([⟨gs,f⟩]:List (Fat DFunc)) ⟨atB b,1,1⟩,kA 1 ([(⟨.func (.func 96) #[] #[pp b 0],rfl⟩:Fv)]:List Fv) ⟨atB d,1,1⟩] fun G=>cs21_ct x1 d b gs f m0 ih (hm _ (getD_mem (by omega) i))] fun G5=>?_;intro _ _
  refine vc (Zc.anyN (Zc.unk (gs.map Zc.fe)) (er x1)) (fun q3=>?_) fun q4=>?_
  ·refine vG [.u 2] fun G6=>?_;intro _ _
   have e0:k0=fidx (fun y:DExpr=>Zc.anyN (Zc.unk (gs.map Zc.fe)) (er y)) s:=by rw [fidx_at (p:=(fun y:DExpr=>Zc.anyN (Zc.unk (gs.map Zc.fe)) (er y))) (k:=k0) (by omega) (by omega) i o (by simpa using q3)]
   exact vi 0 [] e0
  refine vG [.aa (k0+1),.u 1] fun G7=>?_;intro _ _
  refine V.rn hZ1 (k0+1) [0,1,2] ?_ ?_
  ·refine ⟨by omega,by omega,?_⟩;show ∀ j,j < (k0+1).toNat→(fun y:DExpr=>Zc.anyN (Zc.unk (gs.map Zc.fe)) (er y)) (s.getD j default)=false;exact fidx_step (p:=(fun y:DExpr=>Zc.anyN (Zc.unk (gs.map Zc.fe)) (er y))) o (by omega) i (by simpa using q4)
  omega
 refine vG [.u 1] fun G8=>?_;intro _ _
 have e0:(-1:Int)=fidx (fun y:DExpr=>Zc.anyN (Zc.unk (gs.map Zc.fe)) (er y)) s:=(fidx_no fun j hj=>o j (by omega)).symm;exact vi 0 [] e0
theorem cs2i_ctv (s:List DExpr) (ss:SV) (f b:Nat) (gs:List DFunc) (d:SV) (m0:Nat) (ih:∀ (x:DExpr) (b:Nat) (gs:List DFunc) (d:SV),Fx.sz (er x) < m0→Cp Tryz.prog 52 #[ag x,.func (.func 96) #[] #[pp b 0]] [fs true x.Args.l x.Args.s,fs true ([⟨gs,d⟩]:List (Fat DFunc)) ⟨atB b,1,1⟩] (bv (Zc.anyN (Zc.unk (gs.map Zc.fe)) (er x)))) (hm:∀ y ∈ s,Fx.sz (er y) < m0) (h:Int) (i:h=fidx (fun y:DExpr=>Zc.anyN (Zc.unk (gs.map Zc.fe)) (er y)) s) :
  Cp Tryz.prog 133 #[ss.v,.func (.func 95) #[] #[pp f 0]] [fs true s ss,fs true ([⟨gs,d⟩]:List (Fat DFunc)) ⟨atB b,1,1⟩,fs true ([(⟨.func (.func 96) #[] #[pp b 0],rfl⟩:Fv)]:List Fv) ⟨atB f,1,1⟩] (iv h):=by
 subst i;exact cs2i_ct s ss f b gs d m0 ih hm
theorem cs2k_ct (s:List DExpr) (ss:SV) (f b:Nat) (gs:List DFunc) (d:SV) (m0:Nat) (ih:∀ (x:DExpr) (b:Nat) (gs:List DFunc) (d:SV),Fx.sz (er x) < m0→Cp Tryz.prog 52 #[ag x,.func (.func 96) #[] #[pp b 0]] [fs true x.Args.l x.Args.s,fs true ([⟨gs,d⟩]:List (Fat DFunc)) ⟨atB b,1,1⟩] (bv (Zc.anyN (Zc.unk (gs.map Zc.fe)) (er x)))) (hm:∀ y ∈ s,Fx.sz (er y) < m0) :
  Cp Tryz.prog 94 #[ss.v,.func (.func 95) #[] #[pp f 0]] [fs true s ss,fs true ([⟨gs,d⟩]:List (Fat DFunc)) ⟨atB b,1,1⟩,fs true ([(⟨.func (.func 96) #[] #[pp b 0],rfl⟩:Fv)]:List Fv) ⟨atB f,1,1⟩] (bv (s.any (fun y:DExpr=>Zc.anyN (Zc.unk (gs.map Zc.fe)) (er y)))):=by
 refine vf mo Tryz.func94 9 0 fun _=>?_
 refine vG [.kb false] fun G1=>?_;intro _ _
 refine nm (fidx (fun y:DExpr=>Zc.anyN (Zc.unk (gs.map Zc.fe)) (er y)) s:Int) fun n1 h=>vG [.u 2,.cP 2 133 [kA 0 s ss,kA 1 ([⟨gs,d⟩]:List (Fat DFunc)) ⟨atB b,1,1⟩,kA 2 ([(⟨.func (.func 96) #[] #[pp b 0],rfl⟩:Fv)]:List Fv) ⟨atB f,1,1⟩] fun G=>cs2i_ctv s ss f b gs d m0 ih (by assumption) n1 h,.u 2] fun G2=>?_;intro _ _
 have e0:(decide (0≤n1))=s.any (fun y:DExpr=>Zc.anyN (Zc.unk (gs.map Zc.fe)) (er y)):=by
  refine Bool.eq_iff_iff.2 (Iff.trans iDT (Iff.trans ?_ Iff.rfl));have i:=h;rw [i];exact fidx_nn
 exact vb 0 [] e0
theorem cs2_ct_n (m0:Nat):∀ (x:DExpr) (d:Nat) (gs:List DFunc) (f:SV),Fx.sz (er x) < m0 →
  Cp Tryz.prog 52 #[ag x,.func (.func 96) #[] #[pp d 0]] [fs true x.Args.l x.Args.s,fs true ([⟨gs,f⟩]:List (Fat DFunc)) ⟨atB d,1,1⟩] (bv (Zc.anyN (Zc.unk (gs.map Zc.fe)) (er x))):=by
 induction m0 with
 | zero=>intro _ _ _ _ hm;exact absurd hm (Nat.not_lt_zero _)
 | succ m0 ih =>
  intro x d gs f hm;refine vf mo Tryz.func52 12 2 fun _=>?_
  refine vG [.n 0,.n 1,.kb false] fun G1=>?_;intro _ _
  refine V.frzC 1 ((G1 1).b) #[.func (.func 96) #[] #[pp d 0]] 53 ((⟨.func (.func 96) #[] #[pp d 0],rfl⟩:Fv):Fv) true [] (by kernel_rfl) (fun _ h=>trivial) ?_;refine vG [.le g0 (kG 2 ([(⟨.func (.func 96) #[] #[pp d 0],rfl⟩:Fv)]:List Fv) ⟨atB (G1 1).b,1,1⟩) (0:Int) none false ((⟨.func (.func 96) #[] #[pp d 0],rfl⟩:Fv):Fv) rfl (fun _=>⟨Int.le_refl 0,Int.zero_lt_one⟩) false (fun _=>[.func (.func 96) #[] #[pp d 0]]),.l 0,.cP 2 96 [kA 0 x.Args.l x.Args.s,kA 1 ([⟨gs,f⟩]:List (Fat DFunc)) ⟨atB d,1,1⟩] fun G=>cun_ct x d gs f] fun G2=>?_;intro _ _
  refine vc (Zc.unk (gs.map Zc.fe) (er x)) (fun q1=>?_) fun q2=>?_
  ·refine vG [.kb true] fun G3=>?_;intro _ _
   have e0:true=Zc.anyN (Zc.unk (gs.map Zc.fe)) (er x):=by rw [Zc.anyN_er,q1,Bool.true_or]
   exact vb 0 [] e0
  refine vG [.u 1,.l 0,.u 1,.cp g0 3 94 [kA 0 x.Args.l x.Args.s,kA 1 ([⟨gs,f⟩]:List (Fat DFunc)) ⟨atB d,1,1⟩,kB 2 ([(⟨.func (.func 96) #[] #[pp d 0],rfl⟩:Fv)]:List Fv) ⟨atB (G1 1).b,1,1⟩] (fun _ G=>cs2k_ct x.Args.l x.Args.s ((G1 1).b) d gs f m0 ih (fun y hy=>by have:=Fx.sz_arg hy;omega)),.u 1] fun G4=>?_;intro _ _
  have e0:(x.Args.l.any (fun y:DExpr=>Zc.anyN (Zc.unk (gs.map Zc.fe)) (er y)))=Zc.anyN (Zc.unk (gs.map Zc.fe)) (er x):=by rw [Zc.anyN_er];have i:_=false:=q2;rw [i,Bool.false_or]
  exact vb 0 [] e0
theorem cs2_ct (x:DExpr) (b:Nat) (gs:List DFunc) (d:SV) :
  Cp Tryz.prog 52 #[ag x,.func (.func 96) #[] #[pp b 0]] [fs true x.Args.l x.Args.s,fs true ([⟨gs,d⟩]:List (Fat DFunc)) ⟨atB b,1,1⟩] (bv (Zc.anyN (Zc.unk (gs.map Zc.fe)) (er x))):=cs2_ct_n (Fx.sz (er x)+1) x b gs d (Nat.lt_succ_self _)
theorem cs31_ct (y:DExpr) (f b:Nat) (gs:List DFunc) (d:SV) (m0:Nat) (ih:∀ (x:DExpr) (b:Nat) (gs:List DFunc) (d:SV) (hU:Zc.anyN (Zc.unk (gs.map Zc.fe)) (er x)=false),Fx.sz (er x) < m0→Cp Tryz.prog 52 #[ag x,.func (.func 98) #[] #[pp b 0]] [fs true x.Args.l x.Args.s,fs true ([⟨gs,d⟩]:List (Fat DFunc)) ⟨atB b,1,1⟩] (bv (Zc.anyN (Zc.unev (gs.map Zc.fe)) (er x)))) (hU:Zc.anyN (Zc.unk (gs.map Zc.fe)) (er y)=false) (hm:Fx.sz (er y) < m0) :
  Cp Tryz.prog 95 #[ag y,pp f 0] [fs true y.Args.l y.Args.s,fs true ([⟨gs,d⟩]:List (Fat DFunc)) ⟨atB b,1,1⟩,fs true ([(⟨.func (.func 98) #[] #[pp b 0],rfl⟩:Fv)]:List Fv) ⟨atB f,1,1⟩] (bv (Zc.anyN (Zc.unev (gs.map Zc.fe)) (er y))):=by
 refine vf mo Tryz.func95 7 1 fun _=>?_
 refine vG [.n 0,.kb false] fun G1=>?_;intro _ _
 refine vG [.l 0,.le g0 (kF 2 ([(⟨.func (.func 98) #[] #[pp b 0],rfl⟩:Fv)]:List Fv) ⟨atB f,1,1⟩) (0:Int) none false ((⟨.func (.func 98) #[] #[pp b 0],rfl⟩:Fv):Fv) rfl (fun _=>⟨Int.le_refl 0,Int.zero_lt_one⟩) false (fun _=>[.func (.func 98) #[] #[pp b 0]]),.cP 2 52 [kA 0 y.Args.l y.Args.s,kA 1 ([⟨gs,d⟩]:List (Fat DFunc)) ⟨atB b,1,1⟩] fun G=>ih y b gs d (by assumption) (by omega),.u 1] fun G2=>?_;intro _ _
 exact V.rS [0] [] [] [] [] []
theorem cs3i_ct (s:List DExpr) (ss:SV) (d b:Nat) (gs:List DFunc) (f:SV) (m0:Nat) (ih:∀ (x:DExpr) (b:Nat) (gs:List DFunc) (f:SV) (hU:Zc.anyN (Zc.unk (gs.map Zc.fe)) (er x)=false),Fx.sz (er x) < m0→Cp Tryz.prog 52 #[ag x,.func (.func 98) #[] #[pp b 0]] [fs true x.Args.l x.Args.s,fs true ([⟨gs,f⟩]:List (Fat DFunc)) ⟨atB b,1,1⟩] (bv (Zc.anyN (Zc.unev (gs.map Zc.fe)) (er x)))) (hU:∀ y ∈ s,Zc.anyN (Zc.unk (gs.map Zc.fe)) (er y)=false) (hm:∀ y ∈ s,Fx.sz (er y) < m0) :
  Cp Tryz.prog 133 #[ss.v,.func (.func 95) #[] #[pp d 0]] [fs true s ss,fs true ([⟨gs,f⟩]:List (Fat DFunc)) ⟨atB b,1,1⟩,fs true ([(⟨.func (.func 98) #[] #[pp b 0],rfl⟩:Fv)]:List Fv) ⟨atB d,1,1⟩] (iv (fidx (fun y:DExpr=>Zc.anyN (Zc.unev (gs.map Zc.fe)) (er y)) s)):=by
 refine vf mo Tryz.func133 19 0 fun k0=>?_;obtain ⟨t, -⟩:Lq s ss.v:=kj k0 0
 refine vG [.u 1] fun G1=>?_;intro _ _
 refine vG [.u 1,.ln (kF 0 s ss),.u 1] fun G2=>?_;intro _ _
 refine V.lp (γ:=Int) (fun k0=>⟨[(0,ss.v),(1,.func (.func 95) #[] #[pp d 0]),(7,iv (s.length:Int)),(8,iv k0)],[fs false s ss,fs false ([(⟨.func (.func 98) #[] #[pp b 0],rfl⟩:Fv)]:List Fv) ⟨atB d,1,1⟩,fs false ([⟨gs,f⟩]:List (Fat DFunc)) ⟨atB b,1,1⟩],[]⟩) (fun k0=>(0≤k0)∧(k0≤(s.length:Int))∧(∀ j,j < k0.toNat→(fun y:DExpr=>Zc.anyN (Zc.unev (gs.map Zc.fe)) (er y)) (s.getD j default)=false)) (fun k0=>((s.length:Int)-k0).toNat) 0 [0,2,1] ?_ ?_
 ·refine ⟨by omega,by omega,?_⟩;show ∀ j,j < (0:Int).toNat→(fun y:DExpr=>Zc.anyN (Zc.unev (gs.map Zc.fe)) (er y)) (s.getD j default)=false;intro j hj;simp at hj
 rintro k0 hF1 kw3 Z1 hZ1;obtain ⟨w,A,o⟩:=hF1;refine vG [.u 1] fun G3=>?_;intro _ _;refine vd (k0 < (s.length:Int)) (fun q1=>?_) fun q2=>?_
 ·refine vG [.u 2] fun G4=>?_;intro _ _
  refine nm (s.getD k0.toNat default:DExpr) fun x1 i=>vG [.u 3,.iX (kF 0 s ss) k0,.lE (kF 0 s ss) k0 true x1 i true,.cP 5 95 [(kx false (.g 4 0) x1 x1.Args.l (fun _=>x1.Args.s) (fun _ H (h:Dat.good H (x1:DExpr))=>(exG.1 h))).a,kA 2 ([⟨gs,f⟩]:List (Fat DFunc)) ⟨atB b,1,1⟩,kA 1 ([(⟨.func (.func 98) #[] #[pp b 0],rfl⟩:Fv)]:List Fv) ⟨atB d,1,1⟩] fun G=>cs31_ct x1 d b gs f m0 ih (hU _ (getD_mem (by omega) i)) (hm _ (getD_mem (by omega) i))] fun G5=>?_;intro _ _
  refine vc (Zc.anyN (Zc.unev (gs.map Zc.fe)) (er x1)) (fun q3=>?_) fun q4=>?_
  ·refine vG [.u 2] fun G6=>?_;intro _ _
   have e0:k0=fidx (fun y:DExpr=>Zc.anyN (Zc.unev (gs.map Zc.fe)) (er y)) s:=by rw [fidx_at (p:=(fun y:DExpr=>Zc.anyN (Zc.unev (gs.map Zc.fe)) (er y))) (k:=k0) (by omega) (by omega) i o (by simpa using q3)]
   exact vi 0 [] e0
  refine vG [.aa (k0+1),.u 1] fun G7=>?_;intro _ _
  refine V.rn hZ1 (k0+1) [0,1,2] ?_ ?_
  ·refine ⟨by omega,by omega,?_⟩;show ∀ j,j < (k0+1).toNat→(fun y:DExpr=>Zc.anyN (Zc.unev (gs.map Zc.fe)) (er y)) (s.getD j default)=false;exact fidx_step (p:=(fun y:DExpr=>Zc.anyN (Zc.unev (gs.map Zc.fe)) (er y))) o (by omega) i (by simpa using q4)
  omega
 refine vG [.u 1] fun G8=>?_;intro _ _
 have e0:(-1:Int)=fidx (fun y:DExpr=>Zc.anyN (Zc.unev (gs.map Zc.fe)) (er y)) s:=(fidx_no fun j hj=>o j (by omega)).symm;exact vi 0 [] e0
theorem cs3i_ctv (s:List DExpr) (ss:SV) (f b:Nat) (gs:List DFunc) (d:SV) (m0:Nat) (ih:∀ (x:DExpr) (b:Nat) (gs:List DFunc) (d:SV) (hU:Zc.anyN (Zc.unk (gs.map Zc.fe)) (er x)=false),Fx.sz (er x) < m0→Cp Tryz.prog 52 #[ag x,.func (.func 98) #[] #[pp b 0]] [fs true x.Args.l x.Args.s,fs true ([⟨gs,d⟩]:List (Fat DFunc)) ⟨atB b,1,1⟩] (bv (Zc.anyN (Zc.unev (gs.map Zc.fe)) (er x)))) (hU:∀ y ∈ s,Zc.anyN (Zc.unk (gs.map Zc.fe)) (er y)=false) (hm:∀ y ∈ s,Fx.sz (er y) < m0) (h:Int) (i:h=fidx (fun y:DExpr=>Zc.anyN (Zc.unev (gs.map Zc.fe)) (er y)) s) :
  Cp Tryz.prog 133 #[ss.v,.func (.func 95) #[] #[pp f 0]] [fs true s ss,fs true ([⟨gs,d⟩]:List (Fat DFunc)) ⟨atB b,1,1⟩,fs true ([(⟨.func (.func 98) #[] #[pp b 0],rfl⟩:Fv)]:List Fv) ⟨atB f,1,1⟩] (iv h):=by
 subst i;exact cs3i_ct s ss f b gs d m0 ih hU hm
theorem cs3k_ct (s:List DExpr) (ss:SV) (f b:Nat) (gs:List DFunc) (d:SV) (m0:Nat) (ih:∀ (x:DExpr) (b:Nat) (gs:List DFunc) (d:SV) (hU:Zc.anyN (Zc.unk (gs.map Zc.fe)) (er x)=false),Fx.sz (er x) < m0→Cp Tryz.prog 52 #[ag x,.func (.func 98) #[] #[pp b 0]] [fs true x.Args.l x.Args.s,fs true ([⟨gs,d⟩]:List (Fat DFunc)) ⟨atB b,1,1⟩] (bv (Zc.anyN (Zc.unev (gs.map Zc.fe)) (er x)))) (hU:∀ y ∈ s,Zc.anyN (Zc.unk (gs.map Zc.fe)) (er y)=false) (hm:∀ y ∈ s,Fx.sz (er y) < m0) :
  Cp Tryz.prog 94 #[ss.v,.func (.func 95) #[] #[pp f 0]] [fs true s ss,fs true ([⟨gs,d⟩]:List (Fat DFunc)) ⟨atB b,1,1⟩,fs true ([(⟨.func (.func 98) #[] #[pp b 0],rfl⟩:Fv)]:List Fv) ⟨atB f,1,1⟩] (bv (s.any (fun y:DExpr=>Zc.anyN (Zc.unev (gs.map Zc.fe)) (er y)))):=by
 refine vf mo Tryz.func94 9 0 fun _=>?_
 refine vG [.kb false] fun G1=>?_;intro _ _
 refine nm (fidx (fun y:DExpr=>Zc.anyN (Zc.unev (gs.map Zc.fe)) (er y)) s:Int) fun n1 h=>vG [.u 2,.cP 2 133 [kA 0 s ss,kA 1 ([⟨gs,d⟩]:List (Fat DFunc)) ⟨atB b,1,1⟩,kA 2 ([(⟨.func (.func 98) #[] #[pp b 0],rfl⟩:Fv)]:List Fv) ⟨atB f,1,1⟩] fun G=>cs3i_ctv s ss f b gs d m0 ih (by assumption) (by assumption) n1 h,.u 2] fun G2=>?_;intro _ _
 have e0:(decide (0≤n1))=s.any (fun y:DExpr=>Zc.anyN (Zc.unev (gs.map Zc.fe)) (er y)):=by
  refine Bool.eq_iff_iff.2 (Iff.trans iDT (Iff.trans ?_ Iff.rfl));have i:=h;rw [i];exact fidx_nn
 exact vb 0 [] e0
theorem cs3_ct_n (m0:Nat):∀ (x:DExpr) (d:Nat) (gs:List DFunc) (f:SV) (hU:Zc.anyN (Zc.unk (gs.map Zc.fe)) (er x)=false),Fx.sz (er x) < m0 →
  Cp Tryz.prog 52 #[ag x,.func (.func 98) #[] #[pp d 0]] [fs true x.Args.l x.Args.s,fs true ([⟨gs,f⟩]:List (Fat DFunc)) ⟨atB d,1,1⟩] (bv (Zc.anyN (Zc.unev (gs.map Zc.fe)) (er x))):=by
 induction m0 with
 | zero=>intro _ _ _ _ _ hm;exact absurd hm (Nat.not_lt_zero _)
 | succ m0 ih =>
  intro x d gs f hU hm;refine vf mo Tryz.func52 12 2 fun _=>?_
  refine vG [.n 0,.n 1,.kb false] fun G1=>?_;intro _ _
  refine V.frzC 1 ((G1 1).b) #[.func (.func 98) #[] #[pp d 0]] 53 ((⟨.func (.func 98) #[] #[pp d 0],rfl⟩:Fv):Fv) true [] (by kernel_rfl) (fun _ h=>trivial) ?_;refine vG [.le g0 (kG 2 ([(⟨.func (.func 98) #[] #[pp d 0],rfl⟩:Fv)]:List Fv) ⟨atB (G1 1).b,1,1⟩) (0:Int) none false ((⟨.func (.func 98) #[] #[pp d 0],rfl⟩:Fv):Fv) rfl (fun _=>⟨Int.le_refl 0,Int.zero_lt_one⟩) false (fun _=>[.func (.func 98) #[] #[pp d 0]]),.l 0,.cp g0 2 98 [kA 0 x.Args.l x.Args.s,kA 1 ([⟨gs,f⟩]:List (Fat DFunc)) ⟨atB d,1,1⟩] (fun _ G=>cuv_ct x d gs f (fun h3=>Zc.unk_op hU h3))] fun G2=>?_;intro _ _
  refine vc (Zc.unev (gs.map Zc.fe) (er x)) (fun q1=>?_) fun q2=>?_
  ·refine vG [.kb true] fun G3=>?_;intro _ _
   have e0:true=Zc.anyN (Zc.unev (gs.map Zc.fe)) (er x):=by rw [Zc.anyN_er,q1,Bool.true_or]
   exact vb 0 [] e0
  refine vG [.u 1,.l 0,.u 1,.cp g0 3 94 [kA 0 x.Args.l x.Args.s,kA 1 ([⟨gs,f⟩]:List (Fat DFunc)) ⟨atB d,1,1⟩,kB 2 ([(⟨.func (.func 98) #[] #[pp d 0],rfl⟩:Fv)]:List Fv) ⟨atB (G1 1).b,1,1⟩] (fun _ G=>cs3k_ct x.Args.l x.Args.s ((G1 1).b) d gs f m0 ih (fun y hy=>Zc.anyN_sub hU hy) (fun y hy=>by have:=Fx.sz_arg hy;omega)),.u 1] fun G4=>?_;intro _ _
  have e0:(x.Args.l.any (fun y:DExpr=>Zc.anyN (Zc.unev (gs.map Zc.fe)) (er y)))=Zc.anyN (Zc.unev (gs.map Zc.fe)) (er x):=by rw [Zc.anyN_er];have i:_=false:=q2;rw [i,Bool.false_or]
  exact vb 0 [] e0
theorem cs3_ct (x:DExpr) (b:Nat) (gs:List DFunc) (d:SV) (hU:Zc.anyN (Zc.unk (gs.map Zc.fe)) (er x)=false) :
  Cp Tryz.prog 52 #[ag x,.func (.func 98) #[] #[pp b 0]] [fs true x.Args.l x.Args.s,fs true ([⟨gs,d⟩]:List (Fat DFunc)) ⟨atB b,1,1⟩] (bv (Zc.anyN (Zc.unev (gs.map Zc.fe)) (er x))):=cs3_ct_n (Fx.sz (er x)+1) x b gs d hU (Nat.lt_succ_self _)

theorem cchk_ct (d:List DFunc) (j:SV) (i:Int) (hS:∀ x ∈ d,Sx.tx x.Name∧(∀ q ∈ x.Params.l,Sx.tx q.Name∧Sx.tx q.Unit)∧Fx.sm (er x.Body)) (hi:0≤i∧i < (d.length:Int)) :
  Cp Tryz.prog 92 #[j.v,iv i] [fs true d j] (iv (Zc.chk (d.map Zc.fe) i)):=by
 refine vf mo Tryz.func92 67 2 fun _=>?_
 refine vG [.u 1] fun G1=>?_;intro _ _
 refine nm (d.getD i.toNat default:DFunc) fun x1 D=>vR [.u 2,.iX (kF 0 d j) i,.lE (kF 0 d j) i true x1 D true,.n 0,.s 0] fun G2 P=>?_;intro _ _
 obtain ⟨⟨Z, -⟩,⟨kl3, -⟩⟩:(Lq x1.Params.l x1.Params.s.v∧Lq x1.Body.Args.l x1.Body.Args.s.v):=kj P 0;have C:=hS x1 (getD_mem (by omega) D);have o:(d.map Zc.fe).getD i.toNat default=Zc.fe x1:=by rw [D,Zc.getD_map Zc.fe (by omega)]
 refine vG [.l 0,.cP 1 128 [(kx false (.f 1) x1 x1.Params.l (fun _=>x1.Params.s) (fun _ H (h:Dat.good H (x1:DFunc))=>h.1)).a,(kx false (.f 1) x1 x1.Body.Args.l (fun _=>x1.Body.Args.s) (fun _ H (h:Dat.good H (x1:DFunc))=>(exG.1 h.2))).a] fun G=>cform_ct x1.Name x1.Params.l x1.Params.s x1.Body C.1 C.2.1 C.2.2,.u 1] fun G3=>?_;intro _ _
 refine vn (Zc.formed (Zc.fe (DFunc.mk x1.Name ⟨x1.Params.l,x1.Params.s⟩ x1.Body))) (fun q1=>?_) fun q2=>?_
 ·refine vG [.u 1] fun G4=>?_;intro _ _
  have e0:(2:Int)=Zc.chk (d.map Zc.fe) i:=by exact (Zc.chk2 (by rw [o];exact q1)).symm
  exact vi 0 [] e0
 refine vG [.u 2,.l 0,.cP 3 97 [kA 0 d j] fun G=>cfind_ct d j x1.Name,.u 3] fun G5=>?_;intro _ _
 refine vG [.u 1,.l 0,.ln (kx false (.f 1) x1 x1.Params.l (fun _=>x1.Params.s) (fun _ H (h:Dat.good H (x1:DFunc))=>h.1)),.u 1] fun G6=>?_;intro _ _
 refine V.lp (γ:=Bool × Int) (fun ⟨twice,k0⟩=>⟨[(0,j.v),(5,pp ((G2 4).b) 0),(6,bv twice),(25,x1.Params.s.v),(26,iv (x1.Params.l.length:Int)),(27,iv k0)],[fs false d j,gf false x1],[.blk ((G2 4).b) (ca x1) 59,.no]⟩) (fun ⟨twice,k0⟩=>(0≤k0)∧(k0≤(x1.Params.l.length:Int))∧(twice=(decide (Zc.find (d.map Zc.fe) (Zc.fe x1).m < i) || (List.range k0.toNat).any (Zc.twP (Zc.fe x1))))) (fun ⟨twice,k0⟩=>((x1.Params.l.length:Int)-k0).toNat) (decide (Zc.find (d.map Zc.fe) x1.Name < i),0) [0,1] ?_ ?_
 ·refine ⟨by omega,by omega,?_⟩;show (decide (Zc.find (d.map Zc.fe) x1.Name < i))=(decide (Zc.find (d.map Zc.fe) (Zc.fe x1).m < i) || (List.range (0:Int).toNat).any (Zc.twP (Zc.fe x1)))
  simp;rfl
 rintro ⟨twice,k0⟩ hF1 kw7 Z1 hZ1;obtain ⟨ab,ac,A⟩:=hF1;refine vG [.u 1] fun G7=>?_;intro _ _;refine vd (k0 < (x1.Params.l.length:Int)) (fun q3=>?_) fun q4=>?_
 ·refine nm (x1.Params.l.getD k0.toNat default:DParam) fun x2 I=>vG [.u 1,.iX (kx false (.f 1) x1 x1.Params.l (fun _=>x1.Params.s) (fun _ H (h:Dat.good H (x1:DFunc))=>h.1)) k0,.lE (kx false (.f 1) x1 x1.Params.l (fun _=>x1.Params.s) (fun _ H (h:Dat.good H (x1:DFunc))=>h.1)) k0 false x2 I true,.n 1,.u 1,.s 1] fun G8=>?_;intro _ _
  refine nm (twice || (decide (Zc.pidx x1.Params.l x2.Name < k0)):Bool) fun p1 M=>vG [.u 2,.l 0,.u 1,.l 1,.cp (gF (b:=twice) Iff.rfl) 5 129 [(kx false (.f 1) x1 x1.Params.l (fun _=>x1.Params.s) (fun _ H (h:Dat.good H (x1:DFunc))=>h.1)).a,(kx false (.f 1) x1 x1.Body.Args.l (fun _=>x1.Body.Args.s) (fun _ H (h:Dat.good H (x1:DFunc))=>(exG.1 h.2))).a] (fun hg G=>cparm_ct x1.Name x1.Params.l x1.Params.s x1.Body x2.Name),.u 2,.orn g0 false twice (decide (Zc.pidx x1.Params.l x2.Name < k0)) p1 M,.u 1] fun G9=>?_;intro _ _
  refine vG [.aa (k0+1),.u 1] fun ad=>?_;intro _ _
  refine V.rn hZ1 (p1,k0+1) [0,1] ?_ ?_
  ·refine ⟨by omega,by omega,?_⟩;show p1=(decide (Zc.find (d.map Zc.fe) (Zc.fe x1).m < i) || (List.range (k0+1).toNat).any (Zc.twP (Zc.fe x1)));have hz:=Zc.twice_step (f:=Zc.fe x1) A (by omega);rw [←hz];have hq:Zc.twP (Zc.fe x1) k0.toNat=decide (Zc.pidx x1.Params.l x2.Name < k0):=by unfold Zc.twP;rw [I,show ((k0.toNat:Nat):Int)=k0 by omega];rfl
   rw [hq];first | exact M | rfl
  dsimp only;omega
 refine vG [.u 1] fun ae=>?_;intro _ _
 refine vc twice (fun q5=>?_) fun q6=>?_
 ·refine vG [.u 1] fun af=>?_;intro _ _
  have e0:(5:Int)=Zc.chk (d.map Zc.fe) i:=by
   have t:Zc.formed ((d.map Zc.fe).getD i.toNat default):=by rw [o];first | exact q2 | exact Decidable.not_not.1 q2
   have w:=Zc.twice_at A (by show (x1.Params.l.length:Int)=k0;omega);exact (Zc.chk5 t (by rw [o,← w];exact q5)).symm
  exact vi 0 [] e0
 refine vG [.u 1] fun ah=>?_;intro _ _
 refine V.exF 1 false x1 x1.Params.l x1.Params.s (by kernel_rfl) (fun H (h:Dat.good H (x1:DFunc))=>h.1) ?_;refine V.exF 1 false x1 x1.Body.Args.l x1.Body.Args.s (by kernel_rfl) (fun H (h:Dat.good H (x1:DFunc))=>(exG.1 h.2)) ?_;refine V.frzC 0 ((G2 4).b) (ca x1) 59 (x1:DFunc) false [(2,fs false x1.Params.l x1.Params.s),(3,fs false x1.Body.Args.l x1.Body.Args.s)] (by kernel_rfl) (fun _ h=>(And.intro h.1 (exG.2 h.2.1))) ?_;refine vG [.u 2] fun ai=>?_;intro _ _
 refine vG [.u 1,.le g0 (kF 4 ([x1]:List DFunc) ⟨atB (G2 4).b,1,1⟩) (0:Int) (some 1) true (x1:DFunc) rfl (fun _=>⟨Int.le_refl 0,Int.zero_lt_one⟩) false (fun _=>[x1.Params.s.v]),.u 1,.cP 3 87 [(kx false (.g 1 0) (x1:DFunc) x1.Params.l (fun _=>x1.Params.s) (fun _ H (h:Dat.good H ((x1:DFunc):DFunc))=>h.1)).a] fun G=>cwrk_ct x1.Params.l x1.Params.s C.2.1,.u 1] fun aj=>?_;intro _ _
 refine vc (x1.Params.l.any (fun y:DParam=>Zc.wrong y)) (fun q7=>?_) fun q8=>?_
 ·refine vG [.u 1] fun ak=>?_;intro _ _
  have e0:(14:Int)=Zc.chk (d.map Zc.fe) i:=by
   have t:Zc.formed ((d.map Zc.fe).getD i.toNat default):=by rw [o];first | exact q2 | exact Decidable.not_not.1 q2
   have w:=Zc.twice_at A (by show (x1.Params.l.length:Int)=k0;omega);exact (Zc.chk14 t (by rw [o,← w];exact Bool.eq_false_iff.1 q6) (by rw [o];exact q7)).symm
  exact vi 0 [] e0
 refine nm ((Zc.anyN (Zc.stray x1.Params.l) (er x1.Body)) || (Zc.anyN (Zc.unk (d.map Zc.fe)) (er x1.Body)):Bool) fun p2 E=>vG [.u 1,.le g0 (kF 4 ([x1]:List DFunc) ⟨atB (G2 4).b,1,1⟩) (0:Int) (some 2) true (x1:DFunc) rfl (fun _=>⟨Int.le_refl 0,Int.zero_lt_one⟩) true (fun _=>Dat.cells x1.Body),.u 1,.cP 3 52 [(kx false (.g 1 0) (x1:DFunc) x1.Body.Args.l (fun _=>x1.Body.Args.s) (fun _ H (h:Dat.good H ((x1:DFunc):DFunc))=>(exG.1 h.2))).a,kA 4 ([x1]:List DFunc) ⟨atB (G2 4).b,1,1⟩] fun G=>cs1_ct x1.Body ((G2 4).b) x1.Name x1.Params.l x1.Params.s x1.Body,.u 2,.le (gF (b:=Zc.anyN (Zc.stray x1.Params.l) (er x1.Body)) Iff.rfl) (kF 4 ([x1]:List DFunc) ⟨atB (G2 4).b,1,1⟩) (0:Int) (some 2) true (x1:DFunc) rfl (fun hg=>⟨Int.le_refl 0,Int.zero_lt_one⟩) true (fun _=>Dat.cells x1.Body),.u 1,.ct (gF (b:=Zc.anyN (Zc.stray x1.Params.l) (er x1.Body)) Iff.rfl) 8 53 true [] [] [kA 0 d j] (fun hg G=>cunk_ct d j),.cp (gF (b:=Zc.anyN (Zc.stray x1.Params.l) (er x1.Body)) Iff.rfl) 9 52 [(kx false (.g 6 0) (x1:DFunc) x1.Body.Args.l (fun _=>x1.Body.Args.s) (fun _ H (h:Dat.good H ((x1:DFunc):DFunc))=>(exG.1 h.2))).a,(kf false (.g 8 0) ([⟨d,j⟩]:List (Fat DFunc)) (fun G=>⟨atB ((G 8).bs 0),1,1⟩)).a] (fun hg G=>cs2_ct x1.Body ((G 8).bs 0) d j),.orn g0 false (Zc.anyN (Zc.stray x1.Params.l) (er x1.Body)) (Zc.anyN (Zc.unk (d.map Zc.fe)) (er x1.Body)) p2 E,.u 1] fun al=>?_;intro _ _
 refine V.cn (b:=p2) (iN E (iOT Iff.rfl Iff.rfl)) (iN E (iOF Iff.rfl Iff.rfl)) (fun q9=>?_) (fun B=>?_)
 ·refine vG [.u 1] fun am=>?_;intro _ _
  have e0:(11:Int)=Zc.chk (d.map Zc.fe) i:=by
   have t:Zc.formed ((d.map Zc.fe).getD i.toNat default):=by rw [o];first | exact q2 | exact Decidable.not_not.1 q2
   have w:=Zc.twice_at A (by show (x1.Params.l.length:Int)=k0;omega);exact (Zc.chk11 t (by rw [o,← w];exact Bool.eq_false_iff.1 q6) (by rw [o];exact Bool.eq_false_iff.1 q8) (by rw [o];exact q9)).symm
  exact vi 0 [] e0
 have Q:Zc.anyN (Zc.unk (d.map Zc.fe)) (er x1.Body)=false:=by exact B.2
 refine vG [.u 1,.le g0 (kF 4 ([x1]:List DFunc) ⟨atB (G2 4).b,1,1⟩) (0:Int) (some 2) true (x1:DFunc) rfl (fun _=>⟨Int.le_refl 0,Int.zero_lt_one⟩) true (fun _=>Dat.cells x1.Body),.u 1,.cB 3 54 true [] [] [kA 0 d j] fun G=>cunv_ct d j,.cP 4 52 [(kx false (.g 1 0) (x1:DFunc) x1.Body.Args.l (fun _=>x1.Body.Args.s) (fun _ H (h:Dat.good H ((x1:DFunc):DFunc))=>(exG.1 h.2))).a,(kf false (.g 3 0) ([⟨d,j⟩]:List (Fat DFunc)) (fun G=>⟨atB ((G 3).bs 0),1,1⟩)).a] fun G=>cs3_ct x1.Body ((G 3).bs 0) d j Q,.u 1] fun an=>?_;intro _ _
 refine vc (Zc.anyN (Zc.unev (d.map Zc.fe)) (er x1.Body)) (fun X=>?_) fun Y=>?_
 ·refine vG [.u 1] fun ao=>?_;intro _ _
  have e0:(1:Int)=Zc.chk (d.map Zc.fe) i:=by
   have t:Zc.formed ((d.map Zc.fe).getD i.toNat default):=by rw [o];first | exact q2 | exact Decidable.not_not.1 q2
   have w:=Zc.twice_at A (by show (x1.Params.l.length:Int)=k0;omega);exact (Zc.chk1 t (by rw [o,← w];exact Bool.eq_false_iff.1 q6) (by rw [o];exact Bool.eq_false_iff.1 q8) (by rw [o];rintro (h | h);exact Bool.eq_false_iff.1 B.1 h;exact Bool.eq_false_iff.1 B.2 h) (by rw [o];exact X)).symm
  exact vi 0 [] e0
 refine vG [.u 1] fun aq=>?_;intro _ _
 have e0:(0:Int)=Zc.chk (d.map Zc.fe) i:=by
  have t:Zc.formed ((d.map Zc.fe).getD i.toNat default):=by rw [o];first | exact q2 | exact Decidable.not_not.1 q2
  have w:=Zc.twice_at A (by show (x1.Params.l.length:Int)=k0;omega);exact (Zc.chk0 t (by rw [o,← w];exact Bool.eq_false_iff.1 q6) (by rw [o];exact Bool.eq_false_iff.1 q8) (by rw [o];rintro (h | h);exact Bool.eq_false_iff.1 B.1 h;exact Bool.eq_false_iff.1 B.2 h) (by rw [o];exact Bool.eq_false_iff.1 Y)).symm
 exact vi 0 [] e0

open Go
structure Dcircles where
 funcs:Fat DFunc:={}
 state:Fat Int:={}
instance : Dat Dcircles where
  default := {}
  size := 2
  cells x := Dat.cells x.funcs ++ Dat.cells x.state
  good H x := Dat.good H x.funcs ∧ Dat.good H x.state
  len _ := rfl
  one H x h u hu := by
    obtain ⟨h0, h1⟩ := h
    simp only [List.mem_append] at hu
    rcases hu with hu | hu
    · exact Dat.one H x.funcs h0 u hu
    · exact Dat.one H x.state h1 u hu
  q x := Dat.q x.funcs ∧ Dat.q x.state
  hq H x h := ⟨Dat.hq H _ h.1, Dat.hq H _ h.2⟩
  mono _ _ _ k h := ⟨Dat.mono _ _ _ k h.1, Dat.mono _ _ _ k h.2⟩
  zero H := ⟨Dat.zero H, Dat.zero H⟩

theorem cthc_ct (x:DExpr) (cb C:Nat) (d:List DFunc) (j:SV) (h:LI) (o:SV) (n mT:Nat) (H:∀ (cb:Nat) (t:List DFunc) (B:SV) (w:LI) (A:SV) (i:Int) (n:Nat) (hi:0≤i∧i < (t.length:Int)) (E:Zc.OkS n t.length w) (hun:∀ f ∈ t,Zc.anyN (Zc.unk (t.map Zc.fe)) (er f.Body)=false),n < mT→Ct Tryz.prog 93 #[pp cb 0,iv i] [fs true t B] [.blk cb (ca (Dcircles.mk ⟨t,B⟩ ⟨w,A⟩)) 154,os false 3 w A] (fun g=>bv ((Zc.thr (t.map Zc.fe) n w i).1)) (fun g=>[]) (fun g=>[.blk cb (ca (Dcircles.mk ⟨t,B⟩ ⟨(Zc.thr (t.map Zc.fe) n w i).2,A⟩)) 154,os true 3 ((Zc.thr (t.map Zc.fe) n w i).2) A]) (fun g=>[])) (E:Zc.OkS n d.length h) (hun:∀ f ∈ d,Zc.anyN (Zc.unk (d.map Zc.fe)) (er f.Body)=false) (hn:n < mT) (hx:Zc.anyN (Zc.unk (d.map Zc.fe)) (er x)=false) :
  Ct Tryz.prog 132 #[ag x,pp cb 0] [fs true x.Args.l x.Args.s,fs true d j] [.blk cb #[pp C 0] 152,.blk C (ca (Dcircles.mk ⟨d,j⟩ ⟨h,o⟩)) 154,os false 3 h o] (fun g=>bv ((Zc.clS (Zc.thr (d.map Zc.fe) n) (d.map Zc.fe) (er x) h).1)) (fun g=>[]) (fun g=>[.blk cb #[pp C 0] 152,.blk C (ca (Dcircles.mk ⟨d,j⟩ ⟨(Zc.clS (Zc.thr (d.map Zc.fe) n) (d.map Zc.fe) (er x) h).2,o⟩)) 154,os true 3 ((Zc.clS (Zc.thr (d.map Zc.fe) n) (d.map Zc.fe) (er x) h).2) o]) (fun g=>[]):=by
 refine vf mo Tryz.func132 18 1 fun _=>?_
 refine vG [.n 3,.kb false] fun G1=>?_;intro _ _
 by_cases hsp1:x.Op=3
 ·refine vG [.u 1,.l 3,.eb (bv (decide (x.Op=3))) true (by rw [decide_eq_true hsp1]),.kb true,.l 0,.l 0,.u 2,.l 1,.u 1,.l 3,.cP 11 97 [kA 1 d j] fun G=>cfind_ct d j x.Name,.cB 12 93 false [1,2] [] [kA 1 d j] fun G=>H C d j h o (Zc.find (d.map Zc.fe) x.Name) n (⟨Zc.unk_op hx hsp1,by have:=(Zc.find_rng (d.map Zc.fe) x.Name).2;rwa [List.length_map] at this⟩) E hun hn,.u 2] fun G2=>?_;intro _ _
  have e0:((Zc.thr (d.map Zc.fe) n h (Zc.find (d.map Zc.fe) x.Name)).1)=(Zc.clS (Zc.thr (d.map Zc.fe) n) (d.map Zc.fe) (er x) h).1:=by unfold Zc.clS;rw [er_op,if_pos hsp1];rw [er_m]
  have D:(Zc.thr (d.map Zc.fe) n h (Zc.find (d.map Zc.fe) x.Name)).2=(Zc.clS (Zc.thr (d.map Zc.fe) n) (d.map Zc.fe) (er x) h).2:=by unfold Zc.clS;rw [er_op,if_pos hsp1];rw [er_m]
  rw [←D];exact vb 0 [0,1,2] e0
 refine vG [.u 1,.l 3,.eb (bv (decide (x.Op=3))) false (by rw [decide_eq_false hsp1]),.kb false,.dead,.dead,.dead,.dead,.dead,.dead,.dead,.dead,.dead,.kb false,.kb false] fun G3=>?_;intro _ _
 have e0:false=(Zc.clS (Zc.thr (d.map Zc.fe) n) (d.map Zc.fe) (er x) h).1:=by unfold Zc.clS;rw [er_op,if_neg hsp1]
 refine V.tro 3 h o 2 (by kernel_rfl) (fun _ _=>trivial) ?_;have D:h=(Zc.clS (Zc.thr (d.map Zc.fe) n) (d.map Zc.fe) (er x) h).2:=by unfold Zc.clS;rw [er_op,if_neg hsp1]
 refine V.alt (fun (I:LI)=>(⟨[(3,bv false)],[fs false x.Args.l x.Args.s,fs false d j],[.blk cb #[pp C 0] 152,.blk C (ca (Dcircles.mk ⟨d,j⟩ ⟨h,o⟩)) 154,os true 3 I o,.blk ((G1 0).b) (ca x) 48]⟩:St)) D [0,1] (by kernel_rfl) ?_;exact vb 0 [0,1,2] e0

theorem csS1_ct (y:DExpr) (C cb B:Nat) (b:List DFunc) (t:SV) (h:LI) (j:SV) (n mT m0:Nat) (ih:∀ (x:DExpr) (cb B:Nat) (b:List DFunc) (t:SV) (h:LI) (j:SV) (n mT:Nat) (E:∀ (cb:Nat) (d:List DFunc) (A:SV) (o:LI) (w:SV) (i:Int) (n:Nat) (hi:0≤i∧i < (d.length:Int)) (D:Zc.OkS n d.length o) (hun:∀ f ∈ d,Zc.anyN (Zc.unk (d.map Zc.fe)) (er f.Body)=false),n < mT→Ct Tryz.prog 93 #[pp cb 0,iv i] [fs true d A] [.blk cb (ca (Dcircles.mk ⟨d,A⟩ ⟨o,w⟩)) 154,os false 3 o w] (fun g=>bv ((Zc.thr (d.map Zc.fe) n o i).1)) (fun g=>[]) (fun g=>[.blk cb (ca (Dcircles.mk ⟨d,A⟩ ⟨(Zc.thr (d.map Zc.fe) n o i).2,w⟩)) 154,os true 3 ((Zc.thr (d.map Zc.fe) n o i).2) w]) (fun g=>[])) (D:Zc.OkS n b.length h) (hun:∀ f ∈ b,Zc.anyN (Zc.unk (b.map Zc.fe)) (er f.Body)=false) (hn:n < mT) (hx:Zc.anyN (Zc.unk (b.map Zc.fe)) (er x)=false),Fx.sz (er x) < m0→Ct Tryz.prog 52 #[ag x,.func (.func 132) #[] #[pp cb 0]] [fs true x.Args.l x.Args.s,fs true b t] [.blk cb #[pp B 0] 152,.blk B (ca (Dcircles.mk ⟨b,t⟩ ⟨h,j⟩)) 154,os false 3 h j] (fun g=>bv ((Zc.anyS (Zc.thr (b.map Zc.fe) n) (b.map Zc.fe) (er x) h).1)) (fun g=>[]) (fun g=>[.blk cb #[pp B 0] 152,.blk B (ca (Dcircles.mk ⟨b,t⟩ ⟨(Zc.anyS (Zc.thr (b.map Zc.fe) n) (b.map Zc.fe) (er x) h).2,j⟩)) 154,os true 3 ((Zc.anyS (Zc.thr (b.map Zc.fe) n) (b.map Zc.fe) (er x) h).2) j]) (fun g=>[])) (E:∀ (cb:Nat) (d:List DFunc) (A:SV) (o:LI) (w:SV) (i:Int) (n:Nat) (hi:0≤i∧i < (d.length:Int)) (D:Zc.OkS n d.length o) (hun:∀ f ∈ d,Zc.anyN (Zc.unk (d.map Zc.fe)) (er f.Body)=false),n < mT→Ct Tryz.prog 93 #[pp cb 0,iv i] [fs true d A] [.blk cb (ca (Dcircles.mk ⟨d,A⟩ ⟨o,w⟩)) 154,os false 3 o w] (fun g=>bv ((Zc.thr (d.map Zc.fe) n o i).1)) (fun g=>[]) (fun g=>[.blk cb (ca (Dcircles.mk ⟨d,A⟩ ⟨(Zc.thr (d.map Zc.fe) n o i).2,w⟩)) 154,os true 3 ((Zc.thr (d.map Zc.fe) n o i).2) w]) (fun g=>[])) (D:Zc.OkS n b.length h) (hun:∀ f ∈ b,Zc.anyN (Zc.unk (b.map Zc.fe)) (er f.Body)=false) (hn:n < mT) (hx:Zc.anyN (Zc.unk (b.map Zc.fe)) (er y)=false) (hm:Fx.sz (er y) < m0) :
  Ct Tryz.prog 95 #[ag y,pp C 0] [fs true y.Args.l y.Args.s,fs true b t] [.blk C #[.func (.func 132) #[] #[pp cb 0]] 53,.blk cb #[pp B 0] 152,.blk B (ca (Dcircles.mk ⟨b,t⟩ ⟨h,j⟩)) 154,os false 3 h j] (fun g=>bv ((Zc.anyS (Zc.thr (b.map Zc.fe) n) (b.map Zc.fe) (er y) h).1)) (fun g=>[]) (fun g=>[.blk C #[.func (.func 132) #[] #[pp cb 0]] 53,.blk cb #[pp B 0] 152,.blk B (ca (Dcircles.mk ⟨b,t⟩ ⟨(Zc.anyS (Zc.thr (b.map Zc.fe) n) (b.map Zc.fe) (er y) h).2,j⟩)) 154,os true 3 ((Zc.anyS (Zc.thr (b.map Zc.fe) n) (b.map Zc.fe) (er y) h).2) j]) (fun g=>[]):=by
 refine vf mo Tryz.func95 7 1 fun _=>?_
 refine vG [.n 4,.kb false] fun G1=>?_;intro _ _
 refine vG [.l 4,.l 0,.cB 2 52 false [1,2,3] [] [kA 0 y.Args.l y.Args.s,kA 1 b t] fun G=>ih y cb B b t h j n mT E (by assumption) hun hn (by assumption) (by omega),.u 1] fun G2=>?_;intro _ _
 exact V.rS [0] [] [] [] [] [0,1,2,3]
theorem csSi_ct (s:List DExpr) (ss:SV) (E cb D:Nat) (b:List DFunc) (t:SV) (d:LI) (o:SV) (n mT m0:Nat) (ih:∀ (x:DExpr) (cb D:Nat) (b:List DFunc) (t:SV) (d:LI) (o:SV) (n mT:Nat) (X:∀ (cb:Nat) (j:List DFunc) (B:SV) (w:LI) (A:SV) (i:Int) (n:Nat) (hi:0≤i∧i < (j.length:Int)) (P:Zc.OkS n j.length w) (hun:∀ f ∈ j,Zc.anyN (Zc.unk (j.map Zc.fe)) (er f.Body)=false),n < mT→Ct Tryz.prog 93 #[pp cb 0,iv i] [fs true j B] [.blk cb (ca (Dcircles.mk ⟨j,B⟩ ⟨w,A⟩)) 154,os false 3 w A] (fun g=>bv ((Zc.thr (j.map Zc.fe) n w i).1)) (fun g=>[]) (fun g=>[.blk cb (ca (Dcircles.mk ⟨j,B⟩ ⟨(Zc.thr (j.map Zc.fe) n w i).2,A⟩)) 154,os true 3 ((Zc.thr (j.map Zc.fe) n w i).2) A]) (fun g=>[])) (P:Zc.OkS n b.length d) (hun:∀ f ∈ b,Zc.anyN (Zc.unk (b.map Zc.fe)) (er f.Body)=false) (hn:n < mT) (hx:Zc.anyN (Zc.unk (b.map Zc.fe)) (er x)=false),Fx.sz (er x) < m0→Ct Tryz.prog 52 #[ag x,.func (.func 132) #[] #[pp cb 0]] [fs true x.Args.l x.Args.s,fs true b t] [.blk cb #[pp D 0] 152,.blk D (ca (Dcircles.mk ⟨b,t⟩ ⟨d,o⟩)) 154,os false 3 d o] (fun g=>bv ((Zc.anyS (Zc.thr (b.map Zc.fe) n) (b.map Zc.fe) (er x) d).1)) (fun g=>[]) (fun g=>[.blk cb #[pp D 0] 152,.blk D (ca (Dcircles.mk ⟨b,t⟩ ⟨(Zc.anyS (Zc.thr (b.map Zc.fe) n) (b.map Zc.fe) (er x) d).2,o⟩)) 154,os true 3 ((Zc.anyS (Zc.thr (b.map Zc.fe) n) (b.map Zc.fe) (er x) d).2) o]) (fun g=>[])) (X:∀ (cb:Nat) (j:List DFunc) (B:SV) (w:LI) (A:SV) (i:Int) (n:Nat) (hi:0≤i∧i < (j.length:Int)) (P:Zc.OkS n j.length w) (hun:∀ f ∈ j,Zc.anyN (Zc.unk (j.map Zc.fe)) (er f.Body)=false),n < mT→Ct Tryz.prog 93 #[pp cb 0,iv i] [fs true j B] [.blk cb (ca (Dcircles.mk ⟨j,B⟩ ⟨w,A⟩)) 154,os false 3 w A] (fun g=>bv ((Zc.thr (j.map Zc.fe) n w i).1)) (fun g=>[]) (fun g=>[.blk cb (ca (Dcircles.mk ⟨j,B⟩ ⟨(Zc.thr (j.map Zc.fe) n w i).2,A⟩)) 154,os true 3 ((Zc.thr (j.map Zc.fe) n w i).2) A]) (fun g=>[])) (P:Zc.OkS n b.length d) (hun:∀ f ∈ b,Zc.anyN (Zc.unk (b.map Zc.fe)) (er f.Body)=false) (hn:n < mT) (hx:∀ y ∈ s,Zc.anyN (Zc.unk (b.map Zc.fe)) (er y)=false) (hm:∀ y ∈ s,Fx.sz (er y) < m0) :
  Ct Tryz.prog 133 #[ss.v,.func (.func 95) #[] #[pp E 0]] [fs true s ss,fs true b t] [.blk E #[.func (.func 132) #[] #[pp cb 0]] 53,.blk cb #[pp D 0] 152,.blk D (ca (Dcircles.mk ⟨b,t⟩ ⟨d,o⟩)) 154,os false 3 d o] (fun g=>iv ((Zc.ixS (Zc.thr (b.map Zc.fe) n) (b.map Zc.fe) 0 (s.map er) d).1)) (fun g=>[]) (fun g=>[.blk E #[.func (.func 132) #[] #[pp cb 0]] 53,.blk cb #[pp D 0] 152,.blk D (ca (Dcircles.mk ⟨b,t⟩ ⟨(Zc.ixS (Zc.thr (b.map Zc.fe) n) (b.map Zc.fe) 0 (s.map er) d).2,o⟩)) 154,os true 3 ((Zc.ixS (Zc.thr (b.map Zc.fe) n) (b.map Zc.fe) 0 (s.map er) d).2) o]) (fun g=>[]):=by
 refine vf mo Tryz.func133 19 0 fun k0=>?_;obtain ⟨Z, -⟩:Lq s ss.v:=kj k0 0
 refine vG [.u 1] fun G1=>?_;intro _ _
 refine vG [.u 1,.ln (kF 0 s ss),.u 1] fun G2=>?_;intro _ _
 refine V.lp (γ:=Int × List Int) (fun ⟨k0,C⟩=>⟨[(0,ss.v),(1,.func (.func 95) #[] #[pp E 0]),(7,iv (s.length:Int)),(8,iv k0)],[fs false s ss,fs false b t],[.blk E #[.func (.func 132) #[] #[pp cb 0]] 53,.blk cb #[pp D 0] 152,.blk D (ca (Dcircles.mk ⟨b,t⟩ ⟨C,o⟩)) 154,os false 3 C o]⟩) (fun ⟨k0,C⟩=>(0≤k0)∧(k0≤(s.length:Int))∧((Zc.ixS (Zc.thr (b.map Zc.fe) n) (b.map Zc.fe) 0 (s.map er) d)=Zc.ixS (Zc.thr (b.map Zc.fe) n) (b.map Zc.fe) k0 ((s.map er).drop k0.toNat) C)∧(Zc.OkS n b.length C)) (fun ⟨k0,C⟩=>((s.length:Int)-k0).toNat) (0,d) [0,1] ?_ ?_
 ·refine ⟨by omega,by omega,?_,?_⟩
  ·show (Zc.ixS (Zc.thr (b.map Zc.fe) n) (b.map Zc.fe) 0 (s.map er) d)=Zc.ixS (Zc.thr (b.map Zc.fe) n) (b.map Zc.fe) (0:Int) ((s.map er).drop (0:Int).toNat) d;rfl
  show Zc.OkS n b.length d;exact P
 rintro ⟨k0,C⟩ hF1 kw3 Z1 hZ1;obtain ⟨ab,ac,M,Y⟩:=hF1;refine vG [.u 1] fun G3=>?_;intro _ _;refine vd (k0 < (s.length:Int)) (fun q1=>?_) fun q2=>?_
 ·refine vG [.u 2] fun G4=>?_;intro _ _
  refine nm (s.getD k0.toNat default:DExpr) fun x1 I=>vG [.u 3,.iX (kF 0 s ss) k0,.lE (kF 0 s ss) k0 true x1 I true,.cB 5 95 false [0,1,2,3] [] [(kx false (.g 4 0) x1 x1.Args.l (fun _=>x1.Args.s) (fun _ H (h:Dat.good H (x1:DExpr))=>(exG.1 h))).a,kA 1 b t] fun G=>csS1_ct x1 E cb D b t C o n mT m0 ih X Y hun hn (hx _ (getD_mem (by omega) I)) (hm _ (getD_mem (by omega) I))] fun G5=>?_;intro _ _
  refine vc ((Zc.anyS (Zc.thr (b.map Zc.fe) n) (b.map Zc.fe) (er x1) C).1) (fun q3=>?_) fun q4=>?_
  ·refine vG [.u 2] fun G6=>?_;intro _ _
   have e0:k0=(Zc.ixS (Zc.thr (b.map Zc.fe) n) (b.map Zc.fe) 0 (s.map er) d).1:=by rw [M,Zc.ixS_step (by omega) (by omega) I,if_pos q3]
   have Q:(Zc.anyS (Zc.thr (b.map Zc.fe) n) (b.map Zc.fe) (er x1) C).2=(Zc.ixS (Zc.thr (b.map Zc.fe) n) (b.map Zc.fe) 0 (s.map er) d).2:=by rw [M,Zc.ixS_step (by omega) (by omega) I,if_pos q3]
   rw [←Q];exact vi 0 [0,1,2,3] e0
  refine vG [.aa (k0+1),.u 1] fun G7=>?_;intro _ _
  refine V.rn hZ1 (k0+1,(Zc.anyS (Zc.thr (b.map Zc.fe) n) (b.map Zc.fe) (er x1) C).2) [0,1] ?_ ?_
  ·refine ⟨by omega,by omega,?_,?_⟩
   ·show (Zc.ixS (Zc.thr (b.map Zc.fe) n) (b.map Zc.fe) 0 (s.map er) d)=Zc.ixS (Zc.thr (b.map Zc.fe) n) (b.map Zc.fe) (k0+1) ((s.map er).drop (k0+1).toNat) ((Zc.anyS (Zc.thr (b.map Zc.fe) n) (b.map Zc.fe) (er x1) C).2);rw [M,Zc.ixS_step (by omega) (by omega) I,if_neg (by simp [q4])]
   show Zc.OkS n b.length ((Zc.anyS (Zc.thr (b.map Zc.fe) n) (b.map Zc.fe) (er x1) C).2);exact Zc.anyS_ok (fun S i h=>Zc.thr_ok _ _ _ n S i h) _ _ Y
  dsimp only;omega
 refine vG [.u 1] fun G8=>?_;intro _ _
 have e0:(-1:Int)=(Zc.ixS (Zc.thr (b.map Zc.fe) n) (b.map Zc.fe) 0 (s.map er) d).1:=by rw [M,List.drop_eq_nil_of_le (by rw [List.length_map];omega)];rfl
 refine V.tro 3 C o 3 (by kernel_rfl) (fun _ _=>trivial) ?_;have Q:C=(Zc.ixS (Zc.thr (b.map Zc.fe) n) (b.map Zc.fe) 0 (s.map er) d).2:=by rw [M,List.drop_eq_nil_of_le (by rw [List.length_map];omega)];rfl
 subst Q;exact vi 0 [0,1,2,3] e0
theorem csSk_ct (s:List DExpr) (ss:SV) (C cb B:Nat) (b:List DFunc) (t:SV) (h:LI) (j:SV) (n mT m0:Nat) (ih:∀ (x:DExpr) (cb B:Nat) (b:List DFunc) (t:SV) (h:LI) (j:SV) (n mT:Nat) (E:∀ (cb:Nat) (d:List DFunc) (A:SV) (o:LI) (w:SV) (i:Int) (n:Nat) (hi:0≤i∧i < (d.length:Int)) (D:Zc.OkS n d.length o) (hun:∀ f ∈ d,Zc.anyN (Zc.unk (d.map Zc.fe)) (er f.Body)=false),n < mT→Ct Tryz.prog 93 #[pp cb 0,iv i] [fs true d A] [.blk cb (ca (Dcircles.mk ⟨d,A⟩ ⟨o,w⟩)) 154,os false 3 o w] (fun g=>bv ((Zc.thr (d.map Zc.fe) n o i).1)) (fun g=>[]) (fun g=>[.blk cb (ca (Dcircles.mk ⟨d,A⟩ ⟨(Zc.thr (d.map Zc.fe) n o i).2,w⟩)) 154,os true 3 ((Zc.thr (d.map Zc.fe) n o i).2) w]) (fun g=>[])) (D:Zc.OkS n b.length h) (hun:∀ f ∈ b,Zc.anyN (Zc.unk (b.map Zc.fe)) (er f.Body)=false) (hn:n < mT) (hx:Zc.anyN (Zc.unk (b.map Zc.fe)) (er x)=false),Fx.sz (er x) < m0→Ct Tryz.prog 52 #[ag x,.func (.func 132) #[] #[pp cb 0]] [fs true x.Args.l x.Args.s,fs true b t] [.blk cb #[pp B 0] 152,.blk B (ca (Dcircles.mk ⟨b,t⟩ ⟨h,j⟩)) 154,os false 3 h j] (fun g=>bv ((Zc.anyS (Zc.thr (b.map Zc.fe) n) (b.map Zc.fe) (er x) h).1)) (fun g=>[]) (fun g=>[.blk cb #[pp B 0] 152,.blk B (ca (Dcircles.mk ⟨b,t⟩ ⟨(Zc.anyS (Zc.thr (b.map Zc.fe) n) (b.map Zc.fe) (er x) h).2,j⟩)) 154,os true 3 ((Zc.anyS (Zc.thr (b.map Zc.fe) n) (b.map Zc.fe) (er x) h).2) j]) (fun g=>[])) (E:∀ (cb:Nat) (d:List DFunc) (A:SV) (o:LI) (w:SV) (i:Int) (n:Nat) (hi:0≤i∧i < (d.length:Int)) (D:Zc.OkS n d.length o) (hun:∀ f ∈ d,Zc.anyN (Zc.unk (d.map Zc.fe)) (er f.Body)=false),n < mT→Ct Tryz.prog 93 #[pp cb 0,iv i] [fs true d A] [.blk cb (ca (Dcircles.mk ⟨d,A⟩ ⟨o,w⟩)) 154,os false 3 o w] (fun g=>bv ((Zc.thr (d.map Zc.fe) n o i).1)) (fun g=>[]) (fun g=>[.blk cb (ca (Dcircles.mk ⟨d,A⟩ ⟨(Zc.thr (d.map Zc.fe) n o i).2,w⟩)) 154,os true 3 ((Zc.thr (d.map Zc.fe) n o i).2) w]) (fun g=>[])) (D:Zc.OkS n b.length h) (hun:∀ f ∈ b,Zc.anyN (Zc.unk (b.map Zc.fe)) (er f.Body)=false) (hn:n < mT) (hx:∀ y ∈ s,Zc.anyN (Zc.unk (b.map Zc.fe)) (er y)=false) (hm:∀ y ∈ s,Fx.sz (er y) < m0) :
  Ct Tryz.prog 94 #[ss.v,.func (.func 95) #[] #[pp C 0]] [fs true s ss,fs true b t] [.blk C #[.func (.func 132) #[] #[pp cb 0]] 53,.blk cb #[pp B 0] 152,.blk B (ca (Dcircles.mk ⟨b,t⟩ ⟨h,j⟩)) 154,os false 3 h j] (fun g=>bv ((Zc.anySL (Zc.thr (b.map Zc.fe) n) (b.map Zc.fe) (s.map er) h).1)) (fun g=>[]) (fun g=>[.blk C #[.func (.func 132) #[] #[pp cb 0]] 53,.blk cb #[pp B 0] 152,.blk B (ca (Dcircles.mk ⟨b,t⟩ ⟨(Zc.anySL (Zc.thr (b.map Zc.fe) n) (b.map Zc.fe) (s.map er) h).2,j⟩)) 154,os true 3 ((Zc.anySL (Zc.thr (b.map Zc.fe) n) (b.map Zc.fe) (s.map er) h).2) j]) (fun g=>[]):=by
 refine vf mo Tryz.func94 9 0 fun _=>?_
 refine vG [.kb false] fun G1=>?_;intro _ _
 refine vG [.u 2,.cB 2 133 false [0,1,2,3] [] [kA 0 s ss,kA 1 b t] fun G=>csSi_ct s ss C cb B b t h j n mT m0 ih E (by assumption) hun hn (by assumption) (by assumption),.u 2] fun G2=>?_;intro _ _
 have e0:(decide (0≤(Zc.ixS (Zc.thr (b.map Zc.fe) n) (b.map Zc.fe) 0 (s.map er) h).1))=(Zc.anySL (Zc.thr (b.map Zc.fe) n) (b.map Zc.fe) (s.map er) h).1:=by rw [Zc.ixS_any _ 0 _ (Int.le_refl 0)]
 have H:(Zc.ixS (Zc.thr (b.map Zc.fe) n) (b.map Zc.fe) 0 (s.map er) h).2=(Zc.anySL (Zc.thr (b.map Zc.fe) n) (b.map Zc.fe) (s.map er) h).2:=by rw [Zc.ixS_any _ 0 _ (Int.le_refl 0)]
 rw [←H];exact vb 0 [0,1,2,3] e0
theorem csS_ct_n (m0:Nat):∀ (x:DExpr) (cb C:Nat) (d:List DFunc) (j:SV) (h:LI) (t:SV) (n mT:Nat) (E:∀ (cb:Nat) (o:List DFunc) (B:SV) (w:LI) (A:SV) (i:Int) (n:Nat) (hi:0≤i∧i < (o.length:Int)) (D:Zc.OkS n o.length w) (hun:∀ f ∈ o,Zc.anyN (Zc.unk (o.map Zc.fe)) (er f.Body)=false),n < mT→Ct Tryz.prog 93 #[pp cb 0,iv i] [fs true o B] [.blk cb (ca (Dcircles.mk ⟨o,B⟩ ⟨w,A⟩)) 154,os false 3 w A] (fun g=>bv ((Zc.thr (o.map Zc.fe) n w i).1)) (fun g=>[]) (fun g=>[.blk cb (ca (Dcircles.mk ⟨o,B⟩ ⟨(Zc.thr (o.map Zc.fe) n w i).2,A⟩)) 154,os true 3 ((Zc.thr (o.map Zc.fe) n w i).2) A]) (fun g=>[])) (D:Zc.OkS n d.length h) (hun:∀ f ∈ d,Zc.anyN (Zc.unk (d.map Zc.fe)) (er f.Body)=false) (hn:n < mT) (hx:Zc.anyN (Zc.unk (d.map Zc.fe)) (er x)=false),Fx.sz (er x) < m0 →
  Ct Tryz.prog 52 #[ag x,.func (.func 132) #[] #[pp cb 0]] [fs true x.Args.l x.Args.s,fs true d j] [.blk cb #[pp C 0] 152,.blk C (ca (Dcircles.mk ⟨d,j⟩ ⟨h,t⟩)) 154,os false 3 h t] (fun g=>bv ((Zc.anyS (Zc.thr (d.map Zc.fe) n) (d.map Zc.fe) (er x) h).1)) (fun g=>[]) (fun g=>[.blk cb #[pp C 0] 152,.blk C (ca (Dcircles.mk ⟨d,j⟩ ⟨(Zc.anyS (Zc.thr (d.map Zc.fe) n) (d.map Zc.fe) (er x) h).2,t⟩)) 154,os true 3 ((Zc.anyS (Zc.thr (d.map Zc.fe) n) (d.map Zc.fe) (er x) h).2) t]) (fun g=>[]):=by
 induction m0 with
 | zero=>intro _ _ _ _ _ _ _ _ _ _ _ _ _ _ hm;exact absurd hm (Nat.not_lt_zero _)
 | succ m0 ih =>
  intro x cb C d j h t n mT E D hun hn hx hm;refine vf mo Tryz.func52 12 2 fun _=>?_
  refine vG [.n 3,.n 4,.kb false] fun G1=>?_;intro _ _
  refine vG [.l 4,.l 3,.cB 2 132 false [0,1,2] [] [kA 0 x.Args.l x.Args.s,kA 1 d j] fun G=>cthc_ct x cb C d j h t n mT E D hun hn hx] fun G2=>?_;intro _ _
  refine vc ((Zc.clS (Zc.thr (d.map Zc.fe) n) (d.map Zc.fe) (er x) h).1) (fun q1=>?_) fun q2=>?_
  ·refine vG [.kb true] fun G3=>?_;intro _ _
   have e0:true=(Zc.anyS (Zc.thr (d.map Zc.fe) n) (d.map Zc.fe) (er x) h).1:=by rw [Zc.anyS_er,if_pos q1]
   have H:(Zc.clS (Zc.thr (d.map Zc.fe) n) (d.map Zc.fe) (er x) h).2=(Zc.anyS (Zc.thr (d.map Zc.fe) n) (d.map Zc.fe) (er x) h).2:=by rw [Zc.anyS_er,if_pos q1]
   rw [←H];exact vb 0 [0,1,2] e0
  refine vG [.u 1,.l 3,.u 1,.ct g0 3 94 false [4,0,1,2] [] [kA 0 x.Args.l x.Args.s,kA 1 d j] (fun _ G=>csSk_ct x.Args.l x.Args.s ((G1 1).b) cb C d j ((Zc.clS (Zc.thr (d.map Zc.fe) n) (d.map Zc.fe) (er x) h).2) t n mT m0 ih E (by unfold Zc.clS;split;exact Zc.thr_ok _ _ _ n _ _ D;exact D) hun hn (fun y hy=>Zc.anyN_sub hx hy) (fun y hy=>by have:=Fx.sz_arg hy;omega)),.u 1] fun G4=>?_;intro _ _
  have e0:((Zc.anySL (Zc.thr (d.map Zc.fe) n) (d.map Zc.fe) (x.Args.l.map er) ((Zc.clS (Zc.thr (d.map Zc.fe) n) (d.map Zc.fe) (er x) h).2)).1)=(Zc.anyS (Zc.thr (d.map Zc.fe) n) (d.map Zc.fe) (er x) h).1:=by rw [Zc.anyS_er,if_neg (by rw [q2];simp)]
  have H:(Zc.anySL (Zc.thr (d.map Zc.fe) n) (d.map Zc.fe) (x.Args.l.map er) ((Zc.clS (Zc.thr (d.map Zc.fe) n) (d.map Zc.fe) (er x) h).2)).2=(Zc.anyS (Zc.thr (d.map Zc.fe) n) (d.map Zc.fe) (er x) h).2:=by rw [Zc.anyS_er,if_neg (by rw [q2];simp)]
  rw [←H];exact vb 0 [0,1,2] e0
theorem csS_ct (x:DExpr) (cb B:Nat) (b:List DFunc) (t:SV) (h:List Int) (j:SV) (n mT:Nat) (D:∀ (cb:Nat) (d:List DFunc) (A:SV) (o:List Int) (w:SV) (i:Int) (n:Nat) (hi:0≤i∧i < (d.length:Int)) (C:Zc.OkS n d.length o) (hun:∀ f ∈ d,Zc.anyN (Zc.unk (d.map Zc.fe)) (er f.Body)=false),n < mT→Ct Tryz.prog 93 #[pp cb 0,iv i] [fs true d A] [.blk cb (ca (Dcircles.mk ⟨d,A⟩ ⟨o,w⟩)) 154,os false 3 o w] (fun g=>bv ((Zc.thr (d.map Zc.fe) n o i).1)) (fun g=>[]) (fun g=>[.blk cb (ca (Dcircles.mk ⟨d,A⟩ ⟨(Zc.thr (d.map Zc.fe) n o i).2,w⟩)) 154,os true 3 ((Zc.thr (d.map Zc.fe) n o i).2) w]) (fun g=>[])) (C:Zc.OkS n b.length h) (hun:∀ f ∈ b,Zc.anyN (Zc.unk (b.map Zc.fe)) (er f.Body)=false) (hn:n < mT) (hx:Zc.anyN (Zc.unk (b.map Zc.fe)) (er x)=false) :
  Ct Tryz.prog 52 #[ag x,.func (.func 132) #[] #[pp cb 0]] [fs true x.Args.l x.Args.s,fs true b t] [.blk cb #[pp B 0] 152,.blk B (ca (Dcircles.mk ⟨b,t⟩ ⟨h,j⟩)) 154,os false 3 h j] (fun g=>bv ((Zc.anyS (Zc.thr (b.map Zc.fe) n) (b.map Zc.fe) (er x) h).1)) (fun g=>[]) (fun g=>[.blk cb #[pp B 0] 152,.blk B (ca (Dcircles.mk ⟨b,t⟩ ⟨(Zc.anyS (Zc.thr (b.map Zc.fe) n) (b.map Zc.fe) (er x) h).2,j⟩)) 154,os true 3 ((Zc.anyS (Zc.thr (b.map Zc.fe) n) (b.map Zc.fe) (er x) h).2) j]) (fun g=>[]):=csS_ct_n (Fx.sz (er x)+1) x cb B b t h j n mT D C hun hn hx (Nat.lt_succ_self _)

theorem cthr_ct_n (m0:Nat):∀ (cb:Nat) (d:List DFunc) (o:SV) (j:LI) (cl_states:SV) (i:Int) (n:Nat) (hi:0≤i∧i < (d.length:Int)) (A:Zc.OkS n d.length j) (hun:∀ f ∈ d,Zc.anyN (Zc.unk (d.map Zc.fe)) (er f.Body)=false),n < m0 →
  Ct Tryz.prog 93 #[pp cb 0,iv i] [fs true d o] [.blk cb (ca (Dcircles.mk ⟨d,o⟩ ⟨j,cl_states⟩)) 154,os false 3 j cl_states] (fun g=>bv ((Zc.thr (d.map Zc.fe) n j i).1)) (fun g=>[]) (fun g=>[.blk cb (ca (Dcircles.mk ⟨d,o⟩ ⟨(Zc.thr (d.map Zc.fe) n j i).2,cl_states⟩)) 154,os true 3 ((Zc.thr (d.map Zc.fe) n j i).2) cl_states]) (fun g=>[]):=by
 induction m0 with
 | zero=>intro _ _ _ _ _ _ _ _ _ _ hm;exact absurd hm (Nat.not_lt_zero _)
 | succ m0 ih =>
  intro cb d o j cl_states i n hi A hun hm;refine vf mo Tryz.func93 45 1 fun k0=>?_;obtain ⟨ad, -⟩:Lq j cl_states.v:=kj k0 1
  have B:0 < n:=by have:=A.nf;omega
  have ae:=A.len;refine vG [.n 2,.kb false] fun G1=>?_;intro _ _
  refine nm (j.getD i.toNat default:Int) fun v1 t=>vG [.l 2,.u 2,.l 0,.u 1,.iX (ko false 3 1 j (fun _=>cl_states)) i,.lE (ko false 3 1 j (fun _=>cl_states)) i false v1 t false,.u 1] fun G2=>?_;intro _ _
  refine vn (v1=0) (fun q1=>?_) fun q2=>?_
  ·refine vG [.l 2,.u 2,.l 0,.u 1,.iX (ko false 3 1 j (fun _=>cl_states)) i,.lE (ko false 3 1 j (fun _=>cl_states)) i false v1 t false,.u 2] fun G3=>?_;intro _ _
   have e0:(decide (v1=1))=(Zc.thr (d.map Zc.fe) n j i).1:=by
    rw [Zc.thr_open' B (by rw [t] at q1;exact q1)];show decide _=decide _;rw [t];rfl
   refine V.tro 3 j cl_states 1 (by kernel_rfl) (fun _ _=>trivial) ?_;have D:j=(Zc.thr (d.map Zc.fe) n j i).2:=by rw [Zc.thr_open' B (by rw [t] at q1;exact q1)]
   refine V.alt (fun (Y:LI)=>(⟨[(4,bv (decide (v1=1)))],[fs false d o],[.blk cb (ca (Dcircles.mk ⟨d,o⟩ ⟨j,cl_states⟩)) 154,os true 3 Y cl_states,.blk ((G1 0).b) #[pp cb 0] 152]⟩:St)) D [0] (by kernel_rfl) ?_;exact vb 0 [0,1] e0
  have E:j.getD i.toNat 0=0:=by rw [t] at q2;exact q2
  refine nm (j.set i.toNat 1:LI) fun l1 w=>?_;have P:=congrArg List.length w;try simp at P
  refine vG [.l 2,.u 2,.l 0,.u 1,.iX (ko false 3 1 j (fun _=>cl_states)) i,.se g0 6 1 3 false j (fun _=>cl_states) i none v1 1 t false l1 w (fun _=>⟨by omega,by omega⟩) (fun h=>by cases h) [] (fun _ _ _ _=>trivial)] fun G4=>?_;intro _ _
  refine nm (d.getD i.toNat default:DFunc) fun x1 I=>?_;have C:Zc.OkS (n-1) d.length l1:=by rw [w];exact Zc.OkS.set1 (n:=n-1) (A.mono (by omega)) (by decide) (by omega) E
  have Z:=hun x1 (getD_mem (by omega) I);have Q:(d.map Zc.fe).getD i.toNat default=Zc.fe x1:=by rw [I,Zc.getD_map Zc.fe (by omega)]
  refine vG [.l 2,.u 2,.l 0,.u 1,.iX (kF 0 d o) i,.u 1,.le g0 (kF 0 d o) i (some 2) true x1 I (fun _=>⟨by omega,by omega⟩) true (fun _=>Dat.cells x1.Body),.u 1,.cB 9 52 false [2,0,1] [] [(kx false (.g 7 0) x1 x1.Body.Args.l (fun _=>x1.Body.Args.s) (fun _ H (h:Dat.good H (x1:DFunc))=>(exG.1 h.2))).a,kA 0 d o] fun G=>csS_ct x1.Body ((G1 0).b) cb d o l1 cl_states (n-1) m0 ih C hun (by omega) Z,.u 1] fun G5=>?_;intro _ _
  refine nm (((Zc.anyS (Zc.thr (d.map Zc.fe) (n-1)) (d.map Zc.fe) (er x1.Body) l1).2).getD i.toNat default:Int) fun v2 ab=>nm (((Zc.anyS (Zc.thr (d.map Zc.fe) (n-1)) (d.map Zc.fe) (er x1.Body) l1).2).set i.toNat 2:LI) fun l2 M=>?_;have X:=congrArg List.length M;try simp at X
  have ac:=(Zc.anyS_ok (f:=Zc.thr (d.map Zc.fe) (n-1)) (fs:=d.map Zc.fe) (fun S i h=>Zc.thr_ok (d.map Zc.fe) d.length (n-1) (n-1) S i h) (er x1.Body) _ C).len;refine vG [.l 2,.u 2,.l 0,.u 1,.iX (kO 3 1 ((Zc.anyS (Zc.thr (d.map Zc.fe) (n-1)) (d.map Zc.fe) (er x1.Body) l1).2) cl_states) i,.se g0 6 1 3 true ((Zc.anyS (Zc.thr (d.map Zc.fe) (n-1)) (d.map Zc.fe) (er x1.Body) l1).2) (fun _=>cl_states) i none v2 2 ab true l2 M (fun _=>⟨by omega,by omega⟩) (fun _=>rfl) [] (fun _ _ _ _=>trivial)] fun G6=>?_;intro _ _
  refine vG [.u 2] fun G7=>?_;intro _ _
  have e0:((Zc.anyS (Zc.thr (d.map Zc.fe) (n-1)) (d.map Zc.fe) (er x1.Body) l1).1)=(Zc.thr (d.map Zc.fe) n j i).1:=by rw [Zc.thr_new' B E,Q,← w];rfl
  have D:l2=(Zc.thr (d.map Zc.fe) n j i).2:=by rw [M];rw [Zc.thr_new' B E,Q,← w];rfl
  subst D;exact vb 0 [0,1] e0
theorem cthr_ct (cb:Nat) (b:List DFunc) (j:SV) (d:List Int) (h:SV) (i:Int) (n:Nat) (hi:0≤i∧i < (b.length:Int)) (o:Zc.OkS n b.length d) (hun:∀ f ∈ b,Zc.anyN (Zc.unk (b.map Zc.fe)) (er f.Body)=false) :
  Ct Tryz.prog 93 #[pp cb 0,iv i] [fs true b j] [.blk cb (ca (Dcircles.mk ⟨b,j⟩ ⟨d,h⟩)) 154,os false 3 d h] (fun g=>bv ((Zc.thr (b.map Zc.fe) n d i).1)) (fun g=>[]) (fun g=>[.blk cb (ca (Dcircles.mk ⟨b,j⟩ ⟨(Zc.thr (b.map Zc.fe) n d i).2,h⟩)) 154,os true 3 ((Zc.thr (b.map Zc.fe) n d i).2) h]) (fun g=>[]):=cthr_ct_n (n+1) cb b j d h i n hi o hun (Nat.lt_succ_self _)

theorem cChk_ct (d:List DFunc) (funcss:SV) (hS:∀ x ∈ d,Sx.tx x.Name∧(∀ q ∈ x.Params.l,Sx.tx q.Name∧Sx.tx q.Unit)∧Fx.sm (er x.Body)) :
  Cp Tryz.prog 51 #[funcss.v] [fs true d funcss] (iv (Zc.Check (d.map Zc.fe))):=by
 refine vf mo Tryz.func51 37 2 fun k0=>?_;obtain ⟨H, -⟩:Lq d funcss.v:=kj k0 0
 refine vG [.u 1] fun G1=>?_;intro _ _
 refine vG [.u 1,.ln (kF 0 d funcss),.u 1] fun G2=>?_;intro _ _
 refine vd (100 < (d.length:Int)) (fun q1=>?_) fun q2=>?_
 ·refine vG [.u 1] fun G3=>?_;intro _ _
  have e0:(6:Int)=Zc.Check (d.map Zc.fe):=by unfold Zc.Check;rw [if_pos (by rw [List.length_map];omega)]
  exact vi 0 [] e0
 refine vG [.u 1,.ln (kF 0 d funcss),.u 1] fun G4=>?_;intro _ _
 refine V.lp (γ:=Int) (fun k0=>⟨[(0,funcss.v),(11,iv (d.length:Int)),(12,iv k0)],[fs false d funcss],[.no,.no]⟩) (fun k0=>(0≤k0)∧(k0≤(d.length:Int))∧(Zc.chkF (d.map Zc.fe) d.length 0=Zc.chkF (d.map Zc.fe) ((d.length:Int)-k0).toNat k0.toNat)) (fun k0=>((d.length:Int)-k0).toNat) 0 [0] ?_ ?_
 ·refine ⟨by omega,by omega,?_⟩;show Zc.chkF (d.map Zc.fe) d.length 0=Zc.chkF (d.map Zc.fe) ((d.length:Int)-(0:Int)).toNat (0:Int).toNat
  simp
 rintro k0 hF1 kw5 Z1 hZ1;obtain ⟨I,M,t⟩:=hF1;refine vG [.u 1] fun G5=>?_;intro _ _;refine vd (k0 < (d.length:Int)) (fun q3=>?_) fun q4=>?_
 ·refine vG [.u 2] fun G6=>?_;intro _ _
  refine vG [.u 2,.cP 2 92 [kA 0 d funcss] fun G=>cchk_ct d funcss k0 hS (by omega),.u 1] fun G7=>?_;intro _ _
  refine vG [.u 2] fun G8=>?_;intro _ _
  refine vn (Zc.chk (d.map Zc.fe) k0=0) (fun q5=>?_) fun q6=>?_
  ·refine vG [.u 2] fun G9=>?_;intro _ _
   have e0:(Zc.chk (d.map Zc.fe) k0)=Zc.Check (d.map Zc.fe):=by
    refine (Zc.Check_e (by rw [List.length_map];omega) ?_ q5).symm;rw [List.length_map,t,Zc.chkF_step (by omega) (by omega),if_pos q5]
   exact vi 0 [] e0
  refine vG [.aa (k0+1),.u 1] fun P=>?_;intro _ _
  refine V.rn hZ1 (k0+1) [0] ?_ ?_
  ·refine ⟨by omega,by omega,?_⟩;show Zc.chkF (d.map Zc.fe) d.length 0=Zc.chkF (d.map Zc.fe) ((d.length:Int)-(k0+1)).toNat (k0+1).toNat;rw [t,Zc.chkF_step (by omega) (by omega),if_neg (by exact fun h=>h q6)]
  omega
 have j:Zc.chkF (d.map Zc.fe) d.length 0=0:=by rw [t];exact Zc.chkF_end (by omega)
 have B:=Zc.un_of (fs:=d) (by rw [List.length_map];exact j);refine nm (List.replicate (d.length:Int).toNat (0:Int):LI) fun l1 w=>?_;have C:=congrArg List.length w;try simp at C
 refine vG [.u 2,.ln (kF 0 d funcss),.mks 3 0 3 8 (d.length:Int) l1 w (by omega) (by omega) (by omega),.u 1,.n 1,.u 1] fun o=>?_;intro _ _
 refine vG [.u 1,.ln (kF 0 d funcss),.u 1] fun Q=>?_;intro _ _
 refine V.lp (γ:=Int × List Int × SV) (fun ⟨k1,f,i⟩=>⟨[(5,pp ((o 5).b) 0),(29,iv (d.length:Int)),(30,iv k1)],[fs false d funcss],[os true 3 f i,.blk ((o 5).b) (ca (Dcircles.mk ⟨d,funcss⟩ ⟨f,i⟩)) 154]⟩) (fun ⟨k1,f,i⟩=>(0≤k1)∧(k1≤(d.length:Int))∧(Zc.cyc (d.map Zc.fe)=Zc.cycF (d.map Zc.fe) (d.length+1) ((d.length:Int)-k1).toNat k1.toNat f)∧(Zc.OkS (d.length+1) d.length f)) (fun ⟨k1,f,i⟩=>((d.length:Int)-k1).toNat) (0,l1,(o 3).s) [0] ?_ ?_
 ·refine ⟨by omega,by omega,?_,?_⟩
  ·show Zc.cyc (d.map Zc.fe)=Zc.cycF (d.map Zc.fe) (d.length+1) ((d.length:Int)-(0:Int)).toNat (0:Int).toNat l1;unfold Zc.cyc;rw [List.length_map];simp [*];try rfl
  show Zc.OkS (d.length+1) d.length l1;rw [w];exact Zc.ok_start d.length
 rintro ⟨k1,f,i⟩ hF2 kw14 Z2 hZ2;obtain ⟨X,Y,A,D⟩:=hF2;refine vG [.u 1] fun Z=>?_;intro _ _;refine vd (k1 < (d.length:Int)) (fun q7=>?_) fun q8=>?_
 ·refine vG [.u 2] fun ab=>?_;intro _ _
  refine vG [.u 2,.cB 2 93 false [1,0] [] [kA 0 d funcss] fun G=>cthr_ct ((o 5).b) d funcss f i k1 (d.length+1) (by omega) D B] fun ac=>?_;intro _ _
  refine vc ((Zc.thr (d.map Zc.fe) (d.length+1) f k1).1) (fun q9=>?_) fun E=>?_
  ·refine vG [.u 1] fun ad=>?_;intro _ _
   have e0:(23:Int)=Zc.Check (d.map Zc.fe):=by
    refine (Zc.Check_c (by rw [List.length_map];omega) (by rw [List.length_map];exact j) ?_).symm;rw [A,Zc.cycF_step (by omega) (by omega),if_pos q9]
   exact vi 0 [] e0
  refine vG [.aa (k1+1),.u 1] fun ae=>?_;intro _ _
  refine V.rn hZ2 (k1+1,(Zc.thr (d.map Zc.fe) (d.length+1) f k1).2,i) [0] ?_ ?_
  ·refine ⟨by omega,by omega,?_,?_⟩
   ·show Zc.cyc (d.map Zc.fe)=Zc.cycF (d.map Zc.fe) (d.length+1) ((d.length:Int)-(k1+1)).toNat (k1+1).toNat ((Zc.thr (d.map Zc.fe) (d.length+1) f k1).2);rw [A,Zc.cycF_step (by omega) (by omega),if_neg (by rw [E];simp)]
   show Zc.OkS (d.length+1) d.length ((Zc.thr (d.map Zc.fe) (d.length+1) f k1).2);exact Zc.thr_ok _ _ _ _ _ _ D
  dsimp only;omega
 refine vG [.u 1] fun af=>?_;intro _ _
 have e0:(0:Int)=Zc.Check (d.map Zc.fe):=by
  refine (Zc.Check_0 (by rw [List.length_map];omega) (by rw [List.length_map];exact j) ?_).symm;rw [A,show ((d.length:Int)-k1).toNat=0 by omega];rfl
 exact vi 0 [] e0

theorem cjo_ct (x:DExpr) (d:List Dwhole) (j:SV) (hA:∀ w ∈ d,Zd.small (Zd.ew w)) (hL:d.length≤1000) :
  Ct Tryz.prog 99 #[ag x,j.v] [fs true x.Args.l x.Args.s,fs true d j] [] (fun g=>ag (Dwhole.mk (tr ((Zd.join (er x) (d.map Zd.ew)).x) (g.gt 0)) ((Zd.join (er x) (d.map Zd.ew)).n) ((Zd.join (er x) (d.map Zd.ew)).v) ((Zd.join (er x) (d.map Zd.ew)).full))) (fun g=>[fs false ((tr ((Zd.join (er x) (d.map Zd.ew)).x) (g.gt 0)).Args.l) ((tr ((Zd.join (er x) (d.map Zd.ew)).x) (g.gt 0)).Args.s)]) eF eF:=by
 refine vf mo Tryz.func99 53 5 fun _=>?_
 refine vG [.n 0,.n 1] fun G1=>?_;intro _ _
 refine vG [.u 1,.n 2,.s 2] fun G2=>?_;intro _ _
 refine vG [.u 1,.s 0] fun G3=>?_;intro _ _
 refine vG [.u 1,.ln (kF 1 d j),.u 1] fun G4=>?_;intro _ _
 refine V.on (α:=DExpr) 4 48 (by kernel_rfl) ?_;refine V.lp (γ:=Int × List DExpr × SV × Int × Int) (fun ⟨k0,B,t,i,o⟩=>⟨[(2,pp ((G1 0).b) 0),(4,pp ((G1 1).b) 0),(5,pp ((G2 1).b) 0),(10,j.v),(11,iv (d.length:Int)),(12,iv k0)],[fs false d j],[.blk ((G1 0).b) (ca (DExpr.mk x.Op x.N x.Unit x.Name ⟨B,t⟩)) 48,.blk ((G1 1).b) (ca (Dwhole.mk (DExpr.mk 0 0 ByteArray.empty ByteArray.empty ⟨[],{}⟩) 0 0 false)) 98,.blk ((G2 1).b) (ca (Dwhole.mk (DExpr.mk 0 0 ByteArray.empty ByteArray.empty ⟨[],{}⟩) i o false)) 98,.no,os false 48 B t]⟩) (fun ⟨k0,B,t,i,o⟩=>(0≤k0)∧(k0≤(d.length:Int))∧((Zd.join (er x) (d.map Zd.ew))=Zd.joinL x.Op x.N x.Unit x.Name (B.map er) i o ((d.map Zd.ew).drop k0.toNat))∧(0≤i∧i≤200)∧(0≤o∧o≤20)∧((B.length:Int)=k0)) (fun ⟨k0,B,t,i,o⟩=>((d.length:Int)-k0).toNat) (0,([]:List DExpr),{},1,1) [1] ?_ ?_
 ·refine ⟨by omega,by omega,?_,?_,?_,?_⟩
  ·show (Zd.join (er x) (d.map Zd.ew))=Zd.joinL x.Op x.N x.Unit x.Name (([]:List DExpr).map er) (1:Int) (1:Int) ((d.map Zd.ew).drop (0:Int).toNat);unfold Zd.join;rw [er_op,er_n,er_u,er_m];rfl
  ·show 0≤(1:Int)∧(1:Int)≤200;omega
  ·show 0≤(1:Int)∧(1:Int)≤20;omega
  show (([]:List DExpr).length:Int)=(0:Int);rfl
 rintro ⟨k0,B,t,i,o⟩ hF1 kw5 Z1 hZ1;obtain ⟨ac,ad,C,ae,af,ah⟩:=hF1;refine vG [.u 1] fun G5=>?_;intro _ _;refine vd (k0 < (d.length:Int)) (fun q1=>?_) fun q2=>?_
 ·refine nm (d.getD k0.toNat default:Dwhole) fun x1 D=>vG [.iX (kF 0 d j) k0,.lE (kF 0 d j) k0 true x1 D true,.n 3,.s 3] fun G6=>?_;intro _ _
  have ai:(0≤x1.nodes∧x1.nodes≤200)∧0≤x1.levels∧x1.levels≤20:=hA x1 (getD_mem (by omega) D);refine vG [.u 1,.l 2,.u 1,.l 3,.aa (i+x1.nodes),.u 1,.s 2] fun G7=>?_;intro _ _
  refine vG [.u 1,.l 2,.u 1,.l 3,.aa (x1.levels+1),.mx o (x1.levels+1),.u 1,.s 2] fun G8=>?_;intro _ _
  refine nm ((x1.full || (decide (200 < i+x1.nodes))) || (decide (20 < max o (x1.levels+1))):Bool) fun p1 I=>vG [.u 1,.l 3,.u 2,.l 2,.u 1,.or g0 false x1.full (decide (200 < i+x1.nodes)),.u 2,.l 2,.u 1,.orn g0 false (x1.full || (decide (200 < i+x1.nodes))) (decide (20 < max o (x1.levels+1))) p1 I] fun G9=>?_;intro _ _
  refine V.cn (b:=p1) (iN I (iOT (iOT Iff.rfl iDT) iDT)) (iN I (iOF (iOF Iff.rfl iDF) iDF)) (fun q3=>?_) (fun q4=>?_)
  ·refine vG [.u 1,.s 1] fun aj=>?_;intro _ _
   refine V.nilF (α:=DExpr) ?_;have M:er (DExpr.mk 0 0 ByteArray.empty ByteArray.empty ⟨([]:List DExpr),{}⟩)=(Zd.join (er x) (d.map Zd.ew)).x:=by
    rw [C,Zd.joinL_step (g:=Zd.ew) (by omega) (by omega) D,if_pos (by exact q3)];rfl
   obtain ⟨A,P⟩:=tr_ex M;refine V.alt (fun (zz:DExpr)=>(⟨[(4,pp ((G1 1).b) 0)],[fs false d j,gf false x1,fs true zz.Args.l zz.Args.s],[.blk ((G1 0).b) (ca (DExpr.mk x.Op x.N x.Unit x.Name ⟨B,t⟩)) 48,.blk ((G1 1).b) (ca (Dwhole.mk zz 0 0 true)) 98,.blk ((G2 1).b) (ca (Dwhole.mk (DExpr.mk 0 0 ByteArray.empty ByteArray.empty ⟨[],{}⟩) (i+x1.nodes) (max o (x1.levels+1)) false)) 98,.blk ((G6 2).b) (ca x1) 98,os false 48 B t]⟩:St)) P [0,1,2] (by kernel_rfl) ?_;have e5:(0:Int)=(Zd.join (er x) (d.map Zd.ew)).n:=by
    rw [C,Zd.joinL_step (g:=Zd.ew) (by omega) (by omega) D,if_pos (by exact q3)];rfl
   have e6:(0:Int)=(Zd.join (er x) (d.map Zd.ew)).v:=by
    rw [C,Zd.joinL_step (g:=Zd.ew) (by omega) (by omega) D,if_pos (by exact q3)];rfl
   have e7:true=(Zd.join (er x) (d.map Zd.ew)).full:=by
    rw [C,Zd.joinL_step (g:=Zd.ew) (by omega) (by omega) D,if_pos (by exact q3)];rfl
   exact V.retG [A] [1] [(tr ((Zd.join (er x) (d.map Zd.ew)).x) A).Args.s] [] [] [2] [] (ag (Dwhole.mk (tr ((Zd.join (er x) (d.map Zd.ew)).x) A) 0 0 true)) (fun _ _=>by kernel_rfl) (fun _ _=>(Eq.trans (by kernel_rfl) (cong3 (fun (Q X:Int) (Y:Bool)=>(.agg #[iv ((tr ((Zd.join (er x) (d.map Zd.ew)).x) A).Op),iv ((tr ((Zd.join (er x) (d.map Zd.ew)).x) A).N),tv ((tr ((Zd.join (er x) (d.map Zd.ew)).x) A).Unit),tv ((tr ((Zd.join (er x) (d.map Zd.ew)).x) A).Name),((tr ((Zd.join (er x) (d.map Zd.ew)).x) A).Args.s).v,iv Q,iv X,bv Y]:Value)) e5 e6 e7)).trans (by kernel_rfl)) (fun _ _=>trivial)
  refine nm (B ++([x1.x]:List DExpr):List DExpr) fun l1 Z=>?_;have E:=congrArg List.length Z;try simp at E
  refine vG [.u 1,.l 0,.u 1,.l 3,.nr 4 false 48 ([x1.x]:List DExpr) [(kx false (.f 1) x1 x1.x.Args.l (fun _=>x1.x.Args.s) (fun _ H (h:Dat.good H (x1:Dwhole))=>(exG.1 h))).a] (fun _ _ h=>(List.forall_mem_cons.2 ⟨(exG.2 h.1),(List.forall_mem_nil _)⟩)) (fun _=>#[iv x1.x.Op,iv x1.x.N,tv x1.x.Unit,tv x1.x.Name,x1.x.Args.s.v]),.ap 5 4 48 72 false false B (fun _=>t) (kf false (.g 4 0) ([x1.x]:List DExpr) (fun G=>⟨atB (G 4).b,1,1⟩)) false l1 Z (by first | omega | (simp;omega) | simp) (fun h=>by cases h) (.inl fun h=>by cases h),.u 1,.s 0] fun ab=>?_;intro _ _
  refine vG [.aa (k0+1),.u 1] fun ak=>?_;intro _ _
  refine V.rn hZ1 (k0+1,l1,(ab 5).s,i+x1.nodes,max o (x1.levels+1)) [0] ?_ ?_
  ·refine ⟨by omega,by omega,?_,?_,?_,?_⟩
   ·show (Zd.join (er x) (d.map Zd.ew))=Zd.joinL x.Op x.N x.Unit x.Name (l1.map er) (i+x1.nodes) (max o (x1.levels+1)) ((d.map Zd.ew).drop (k0+1).toNat);rw [C,Zd.joinL_step (g:=Zd.ew) (by omega) (by omega) D,if_neg (by rintro ((h | h) | h);exact Bool.false_ne_true (q4.1.1.symm.trans h);exact q4.1.2 h;exact q4.2 h),Z,List.map_append];rfl
   ·show 0≤(i+x1.nodes)∧(i+x1.nodes)≤200;omega
   ·show 0≤(max o (x1.levels+1))∧(max o (x1.levels+1))≤20;omega
   show (l1.length:Int)=(k0+1);rw [E];omega
  dsimp only;omega
 refine vG [.l 0,.u 1,.s 2] fun al=>?_;intro _ _
 refine vG [.l 2,.s 1] fun am=>?_;intro _ _
 refine V.frz 4 false 48 B t (by kernel_rfl) ?_;have M:er (DExpr.mk x.Op x.N x.Unit x.Name ⟨B,t⟩)=(Zd.join (er x) (d.map Zd.ew)).x:=by
  rw [C,Zd.joinL_end (by omega)];exact er_mk _ _ _ _ _ _
 obtain ⟨A,P⟩:=tr_ex M;refine V.alt (fun (zz:DExpr)=>(⟨[(4,pp ((G1 1).b) 0)],[fs false d j,fs false zz.Args.l zz.Args.s],[.blk ((G1 0).b) (ca (DExpr.mk x.Op x.N x.Unit x.Name ⟨B,t⟩)) 48,.blk ((G1 1).b) (ca (Dwhole.mk zz i o false)) 98,.blk ((G2 1).b) (ca (Dwhole.mk (DExpr.mk x.Op x.N x.Unit x.Name ⟨B,t⟩) i o false)) 98,.no,.no]⟩:St)) P [0,1] (by kernel_rfl) ?_;have e5:i=(Zd.join (er x) (d.map Zd.ew)).n:=by rw [C,Zd.joinL_end (by omega)]
 have e6:o=(Zd.join (er x) (d.map Zd.ew)).v:=by rw [C,Zd.joinL_end (by omega)]
 have e7:false=(Zd.join (er x) (d.map Zd.ew)).full:=by rw [C,Zd.joinL_end (by omega)]
 exact V.retG [A] [1] [(tr ((Zd.join (er x) (d.map Zd.ew)).x) A).Args.s] [] [] [1] [] (ag (Dwhole.mk (tr ((Zd.join (er x) (d.map Zd.ew)).x) A) i o false)) (fun _ _=>by kernel_rfl) (fun _ _=>(Eq.trans (by kernel_rfl) (cong3 (fun (Q X:Int) (Y:Bool)=>(.agg #[iv ((tr ((Zd.join (er x) (d.map Zd.ew)).x) A).Op),iv ((tr ((Zd.join (er x) (d.map Zd.ew)).x) A).N),tv ((tr ((Zd.join (er x) (d.map Zd.ew)).x) A).Unit),tv ((tr ((Zd.join (er x) (d.map Zd.ew)).x) A).Name),((tr ((Zd.join (er x) (d.map Zd.ew)).x) A).Args.s).v,iv Q,iv X,bv Y]:Value)) e5 e6 e7)).trans (by kernel_rfl)) (fun _ _=>trivial)

theorem cpu_ct_n (m0:Nat):∀ (body:DExpr) (i:BA) (c:List DParam) (e:SV) (d:DExpr) (j:List Dwhole) (t:SV) (hA:∀ w ∈ j,Zd.small (Zd.ew w)) (hL:j.length=c.length∧j.length≤1000) (hN:Zc.anyN (Zc.stray c) (er body)=false) (hB:Fx.sz (er body)≤1000),Fx.sz (er body) < m0 →
  Ct Tryz.prog 101 #[ag body,ag (DFunc.mk i ⟨c,e⟩ d),t.v] [fs true body.Args.l body.Args.s,fs true c e,fs true d.Args.l d.Args.s,fs true j t] [] (fun g=>ag (Dwhole.mk (tr ((Zd.putE c (j.map Zd.ew) (er body)).x) (g.gt 0)) ((Zd.putE c (j.map Zd.ew) (er body)).n) ((Zd.putE c (j.map Zd.ew) (er body)).v) ((Zd.putE c (j.map Zd.ew) (er body)).full))) (fun g=>[fs false ((tr ((Zd.putE c (j.map Zd.ew) (er body)).x) (g.gt 0)).Args.l) ((tr ((Zd.putE c (j.map Zd.ew) (er body)).x) (g.gt 0)).Args.s)]) eF eF:=by
 induction m0 with
 | zero=>intro _ _ _ _ _ _ _ _ _ _ _ hm;exact absurd hm (Nat.not_lt_zero _)
 | succ m0 ih =>
  intro body i c e d j t hA hL hN hB hm;refine vf mo Tryz.func101 43 6 fun _=>?_
  have ad:=Zd.sz_len body;have Z:∀ y ∈ j.map Zd.ew,Zd.small y:=fun y hy=>by obtain ⟨w,hw,rfl⟩:=List.mem_map.1 hy;exact hA w hw
  refine vG [.n 0,.n 1,.n 2] fun G1=>?_;intro _ _
  refine vG [.u 1,.l 0,.u 1] fun G2=>?_;intro _ _
  refine vd (body.Op=1) (fun q1=>?_) fun q2=>?_
  ·refine nm (j.getD (Zc.pidx c body.Name).toNat default:Dwhole) fun x1 C=>vG [.u 1,.l 1,.u 1,.l 0,.cP 4 129 [kA 1 c e,kA 2 d.Args.l d.Args.s] fun G=>cparm_ct i c e d body.Name,.ix g0 (kF 3 j t) (Zc.pidx c body.Name) (fun _=>(by have h0:=Zd.stray_op hN q1;have h1:=Zc.pidx_rng c body.Name;exact ⟨h0,by omega⟩)),.le g0 (kF 3 j t) (Zc.pidx c body.Name) none true x1 C (fun _=>(by have h0:=Zd.stray_op hN q1;have h1:=Zc.pidx_rng c body.Name;exact ⟨h0,by omega⟩)) true (fun _=>Dat.cells x1),.s 2] fun G3=>?_;intro _ _
   refine V.exF 4 false x1 x1.x.Args.l x1.x.Args.s (by kernel_rfl) (fun H (h:Dat.good H (x1:Dwhole))=>(exG.1 h)) ?_;have D:er x1.x=(Zd.putE c (j.map Zd.ew) (er body)).x:=by rw [Zd.putE_er,if_pos q1,Zc.getD_map Zd.ew (by have h0:=Zd.stray_op hN q1;have h1:=Zc.pidx_rng c body.Name;omega),← C];rfl
   obtain ⟨o,E⟩:=tr_ex D;refine V.alt (fun (zz:DExpr)=>(⟨[(6,pp ((G1 2).b) 0)],[fs false body.Args.l body.Args.s,fs false c e,fs false d.Args.l d.Args.s,fs false j t,gf false x1,fs false zz.Args.l zz.Args.s],[.blk ((G1 0).b) (ca body) 48,.blk ((G1 1).b) (ca (DFunc.mk i ⟨c,e⟩ d)) 59,.blk ((G1 2).b) (ca (Dwhole.mk zz x1.nodes x1.levels x1.full)) 98,.no,.no,.no]⟩:St)) E [0,1,2,3,4,5] (by kernel_rfl) ?_;have e5:x1.nodes=(Zd.putE c (j.map Zd.ew) (er body)).n:=by
    rw [C];rw [Zd.putE_er,if_pos q1,Zc.getD_map Zd.ew (by have h0:=Zd.stray_op hN q1;have h1:=Zc.pidx_rng c body.Name;omega),← C];rfl
   have e6:x1.levels=(Zd.putE c (j.map Zd.ew) (er body)).v:=by
    rw [C];rw [Zd.putE_er,if_pos q1,Zc.getD_map Zd.ew (by have h0:=Zd.stray_op hN q1;have h1:=Zc.pidx_rng c body.Name;omega),← C];rfl
   have e7:x1.full=(Zd.putE c (j.map Zd.ew) (er body)).full:=by
    rw [C];rw [Zd.putE_er,if_pos q1,Zc.getD_map Zd.ew (by have h0:=Zd.stray_op hN q1;have h1:=Zc.pidx_rng c body.Name;omega),← C];rfl
   exact V.retG [o] [2] [(tr ((Zd.putE c (j.map Zd.ew) (er body)).x) o).Args.s] [] [] [5] [] (ag (Dwhole.mk (tr ((Zd.putE c (j.map Zd.ew) (er body)).x) o) x1.nodes x1.levels x1.full)) (fun _ _=>by kernel_rfl) (fun _ _=>(Eq.trans (by kernel_rfl) (cong3 (fun (I M:Int) (P:Bool)=>(.agg #[iv ((tr ((Zd.putE c (j.map Zd.ew) (er body)).x) o).Op),iv ((tr ((Zd.putE c (j.map Zd.ew) (er body)).x) o).N),tv ((tr ((Zd.putE c (j.map Zd.ew) (er body)).x) o).Unit),tv ((tr ((Zd.putE c (j.map Zd.ew) (er body)).x) o).Name),((tr ((Zd.putE c (j.map Zd.ew) (er body)).x) o).Args.s).v,iv I,iv M,bv P]:Value)) e5 e6 e7)).trans (by kernel_rfl)) (fun _ _=>trivial)
  refine vG [.u 1] fun G4=>?_;intro _ _
  refine vG [.u 1,.l 0,.ln (kF 0 body.Args.l body.Args.s),.u 1] fun G5=>?_;intro _ _
  refine V.on (α:=Dwhole) 5 98 (by kernel_rfl) ?_;refine V.lp (γ:=List Dwhole × SV × Int) (fun ⟨l,ls,k0⟩=>⟨[(2,t.v),(3,pp ((G1 0).b) 0),(4,pp ((G1 1).b) 0),(6,pp ((G1 2).b) 0),(7,ls.v),(22,body.Args.s.v),(23,iv (body.Args.l.length:Int)),(24,iv k0)],[fs false j t,fs false body.Args.l body.Args.s,fs false c e,fs false d.Args.l d.Args.s],[.blk ((G1 0).b) (ca body) 48,.blk ((G1 1).b) (ca (DFunc.mk i ⟨c,e⟩ d)) 59,.blk ((G1 2).b) (ca (Dwhole.mk (DExpr.mk 0 0 ByteArray.empty ByteArray.empty ⟨[],{}⟩) 0 0 false)) 98,.no,.no,os false 98 l ls]⟩) (fun ⟨l,ls,k0⟩=>(0≤k0)∧(k0≤(body.Args.l.length:Int))∧((Zd.putE c (j.map Zd.ew) (er body))=Zd.putL c (j.map Zd.ew) body.Op body.N body.Unit body.Name (l.map Zd.ew) ((body.Args.l.map er).drop k0.toNat))∧((l.length:Int)=k0)∧(∀ w ∈ l,Zd.small (Zd.ew w))) (fun ⟨l,ls,k0⟩=>((body.Args.l.length:Int)-k0).toNat) (([]:List Dwhole),{},0) [3,0,1,2] ?_ ?_
  ·refine ⟨by omega,by omega,?_,?_,?_⟩
   ·show (Zd.putE c (j.map Zd.ew) (er body))=Zd.putL c (j.map Zd.ew) body.Op body.N body.Unit body.Name (([]:List Dwhole).map Zd.ew) ((body.Args.l.map er).drop (0:Int).toNat);rw [Zd.putE_er,if_neg q2];rfl
   ·show (([]:List Dwhole).length:Int)=(0:Int);rfl
   show ∀ w ∈ ([]:List Dwhole),Zd.small (Zd.ew w);intro w hw;cases hw
  rintro ⟨l,ls,k0⟩ hF1 kw6 Z1 hZ1;obtain ⟨ae,af,A,ah,Y⟩:=hF1;refine vG [.u 1] fun G6=>?_;intro _ _;refine vd (k0 < (body.Args.l.length:Int)) (fun q3=>?_) fun q4=>?_
  ·refine nm (body.Args.l.getD k0.toNat default:DExpr) fun x2 B=>vG [.iX (kF 1 body.Args.l body.Args.s) k0,.lE (kF 1 body.Args.l body.Args.s) k0 true x2 B true,.n 3,.s 3] fun G7=>?_;intro _ _
   refine vG [.l 3,.l 1,.u 1,.cB 3 101 true [] [] [(kx false (.f 4) x2 x2.Args.l (fun _=>x2.Args.s) (fun _ H (h:Dat.good H (x2:DExpr))=>(exG.1 h))).a,kA 2 c e,kA 3 d.Args.l d.Args.s,kA 0 j t] fun G=>ih x2 i c e d j t hA hL (Zc.anyN_sub hN (getD_mem (by omega) B)) (by have:=Fx.sz_arg (x:=body) (getD_mem (by omega) B);omega) (by have:=Fx.sz_arg (x:=body) (getD_mem (by omega) B);omega),.n 4,.s 4] fun G8=>?_;intro _ _
   refine vG [.u 1,.l 4] fun G9=>?_;intro _ _
   refine vc ((Zd.putE c (j.map Zd.ew) (er x2)).full) (fun q5=>?_) fun q6=>?_
   ·refine vG [.l 4,.s 2] fun ai=>?_;intro _ _
    have D:er (tr ((Zd.putE c (j.map Zd.ew) (er x2)).x) ((G8 3).gt 0))=(Zd.putE c (j.map Zd.ew) (er body)).x:=by
     rw [er_tr];rw [A,Zd.putL_step (by omega) (by omega) B,if_pos q5]
    obtain ⟨o,E⟩:=tr_ex D;refine V.alt (fun (zz:DExpr)=>(⟨[(6,pp ((G1 2).b) 0)],[fs false j t,fs false body.Args.l body.Args.s,fs false c e,fs false d.Args.l d.Args.s,gf false x2,fs false zz.Args.l zz.Args.s],[.blk ((G1 0).b) (ca body) 48,.blk ((G1 1).b) (ca (DFunc.mk i ⟨c,e⟩ d)) 59,.blk ((G1 2).b) (ca (Dwhole.mk zz ((Zd.putE c (j.map Zd.ew) (er x2)).n) ((Zd.putE c (j.map Zd.ew) (er x2)).v) ((Zd.putE c (j.map Zd.ew) (er x2)).full))) 98,.blk ((G7 2).b) (ca x2) 48,.blk ((G8 4).b) (ca (Dwhole.mk (tr ((Zd.putE c (j.map Zd.ew) (er x2)).x) ((G8 3).gt 0)) ((Zd.putE c (j.map Zd.ew) (er x2)).n) ((Zd.putE c (j.map Zd.ew) (er x2)).v) ((Zd.putE c (j.map Zd.ew) (er x2)).full))) 98,os false 98 l ls]⟩:St)) E [0,1,2,3,4,5] (by kernel_rfl) ?_;have e5:((Zd.putE c (j.map Zd.ew) (er x2)).n)=(Zd.putE c (j.map Zd.ew) (er body)).n:=by rw [A,Zd.putL_step (by omega) (by omega) B,if_pos q5]
    have e6:((Zd.putE c (j.map Zd.ew) (er x2)).v)=(Zd.putE c (j.map Zd.ew) (er body)).v:=by rw [A,Zd.putL_step (by omega) (by omega) B,if_pos q5]
    have e7:((Zd.putE c (j.map Zd.ew) (er x2)).full)=(Zd.putE c (j.map Zd.ew) (er body)).full:=by rw [A,Zd.putL_step (by omega) (by omega) B,if_pos q5]
    exact V.retG [o] [2] [(tr ((Zd.putE c (j.map Zd.ew) (er body)).x) o).Args.s] [] [] [5] [] (ag (Dwhole.mk (tr ((Zd.putE c (j.map Zd.ew) (er body)).x) o) ((Zd.putE c (j.map Zd.ew) (er x2)).n) ((Zd.putE c (j.map Zd.ew) (er x2)).v) ((Zd.putE c (j.map Zd.ew) (er x2)).full))) (fun _ _=>by kernel_rfl) (fun _ _=>(Eq.trans (by kernel_rfl) (cong3 (fun (I M:Int) (P:Bool)=>(.agg #[iv ((tr ((Zd.putE c (j.map Zd.ew) (er body)).x) o).Op),iv ((tr ((Zd.putE c (j.map Zd.ew) (er body)).x) o).N),tv ((tr ((Zd.putE c (j.map Zd.ew) (er body)).x) o).Unit),tv ((tr ((Zd.putE c (j.map Zd.ew) (er body)).x) o).Name),((tr ((Zd.putE c (j.map Zd.ew) (er body)).x) o).Args.s).v,iv I,iv M,bv P]:Value)) e5 e6 e7)).trans (by kernel_rfl)) (fun _ _=>trivial)
   refine nm (l ++([Dwhole.mk (tr ((Zd.putE c (j.map Zd.ew) (er x2)).x) ((G8 3).gt 0)) ((Zd.putE c (j.map Zd.ew) (er x2)).n) ((Zd.putE c (j.map Zd.ew) (er x2)).v) ((Zd.putE c (j.map Zd.ew) (er x2)).full)]:List Dwhole):List Dwhole) fun l1 Q=>?_;have X:=congrArg List.length Q;try simp at X
   refine vG [.u 1,.l 4,.nr 2 false 98 ([Dwhole.mk (tr ((Zd.putE c (j.map Zd.ew) (er x2)).x) ((G8 3).gt 0)) ((Zd.putE c (j.map Zd.ew) (er x2)).n) ((Zd.putE c (j.map Zd.ew) (er x2)).v) ((Zd.putE c (j.map Zd.ew) (er x2)).full)]:List Dwhole) [kA 5 ((tr ((Zd.putE c (j.map Zd.ew) (er x2)).x) ((G8 3).gt 0)).Args.l) (tr ((Zd.putE c (j.map Zd.ew) (er x2)).x) ((G8 3).gt 0)).Args.s] (fun _ _ h=>(List.forall_mem_cons.2 ⟨(exG.2 h.1),(List.forall_mem_nil _)⟩)) (fun _=>#[iv ((tr ((Zd.putE c (j.map Zd.ew) (er x2)).x) ((G8 3).gt 0)).Op),iv ((tr ((Zd.putE c (j.map Zd.ew) (er x2)).x) ((G8 3).gt 0)).N),tv ((tr ((Zd.putE c (j.map Zd.ew) (er x2)).x) ((G8 3).gt 0)).Unit),tv ((tr ((Zd.putE c (j.map Zd.ew) (er x2)).x) ((G8 3).gt 0)).Name),((tr ((Zd.putE c (j.map Zd.ew) (er x2)).x) ((G8 3).gt 0)).Args.s).v,iv ((Zd.putE c (j.map Zd.ew) (er x2)).n),iv ((Zd.putE c (j.map Zd.ew) (er x2)).v),bv ((Zd.putE c (j.map Zd.ew) (er x2)).full)]),.ap 3 5 98 96 false false l (fun _=>ls) (kf false (.g 2 0) ([Dwhole.mk (tr ((Zd.putE c (j.map Zd.ew) (er x2)).x) ((G8 3).gt 0)) ((Zd.putE c (j.map Zd.ew) (er x2)).n) ((Zd.putE c (j.map Zd.ew) (er x2)).v) ((Zd.putE c (j.map Zd.ew) (er x2)).full)]:List Dwhole) (fun G=>⟨atB (G 2).b,1,1⟩)) false l1 Q (by first | omega | (simp;omega) | simp) (fun h=>by cases h) (.inl fun h=>by cases h),.u 1] fun ab=>?_;intro _ _
   refine vG [.aa (k0+1),.u 1] fun aj=>?_;intro _ _
   refine V.rn hZ1 (l1,(ab 3).s,k0+1) [0,1,2,3] ?_ ?_
   ·refine ⟨by omega,by omega,?_,?_,?_⟩
    ·show (Zd.putE c (j.map Zd.ew) (er body))=Zd.putL c (j.map Zd.ew) body.Op body.N body.Unit body.Name (l1.map Zd.ew) ((body.Args.l.map er).drop (k0+1).toNat);rw [A,Zd.putL_step (by omega) (by omega) B,if_neg (by rw [q6];simp),Q,List.map_append,List.map_cons,List.map_nil,Zd.ew_tr]
    ·show (l1.length:Int)=(k0+1);rw [X];omega
    show ∀ w ∈ l1,Zd.small (Zd.ew w);intro w hw;rw [Q] at hw;rcases List.mem_append.1 hw with h | h
    ·exact Y w h
    rw [List.mem_singleton.1 h,Zd.ew_tr];exact Zd.putE_small Z _
   dsimp only;omega
  refine V.frz 5 false 98 l ls (by kernel_rfl) ?_;refine vG [.l 0,.u 1,.cB 2 99 true [] [] [kA 1 body.Args.l body.Args.s,kA 4 l ls] fun G=>cjo_ct body l ls Y (by omega),.s 2] fun ac=>?_;intro _ _
  have D:er (tr ((Zd.join (er body) (l.map Zd.ew)).x) ((ac 2).gt 0))=(Zd.putE c (j.map Zd.ew) (er body)).x:=by
   rw [er_tr];rw [A,Zd.putL_end (by omega)]
  obtain ⟨o,E⟩:=tr_ex D;refine V.alt (fun (zz:DExpr)=>(⟨[(6,pp ((G1 2).b) 0)],[fs false j t,fs false body.Args.l body.Args.s,fs false c e,fs false d.Args.l d.Args.s,fs false l ls,fs false zz.Args.l zz.Args.s],[.blk ((G1 0).b) (ca body) 48,.blk ((G1 1).b) (ca (DFunc.mk i ⟨c,e⟩ d)) 59,.blk ((G1 2).b) (ca (Dwhole.mk zz ((Zd.join (er body) (l.map Zd.ew)).n) ((Zd.join (er body) (l.map Zd.ew)).v) ((Zd.join (er body) (l.map Zd.ew)).full))) 98,.no,.no,.no]⟩:St)) E [0,1,2,3,4,5] (by kernel_rfl) ?_;have e5:((Zd.join (er body) (l.map Zd.ew)).n)=(Zd.putE c (j.map Zd.ew) (er body)).n:=by rw [A,Zd.putL_end (by omega)]
  have e6:((Zd.join (er body) (l.map Zd.ew)).v)=(Zd.putE c (j.map Zd.ew) (er body)).v:=by rw [A,Zd.putL_end (by omega)]
  have e7:((Zd.join (er body) (l.map Zd.ew)).full)=(Zd.putE c (j.map Zd.ew) (er body)).full:=by rw [A,Zd.putL_end (by omega)]
  exact V.retG [o] [2] [(tr ((Zd.putE c (j.map Zd.ew) (er body)).x) o).Args.s] [] [] [5] [] (ag (Dwhole.mk (tr ((Zd.putE c (j.map Zd.ew) (er body)).x) o) ((Zd.join (er body) (l.map Zd.ew)).n) ((Zd.join (er body) (l.map Zd.ew)).v) ((Zd.join (er body) (l.map Zd.ew)).full))) (fun _ _=>by kernel_rfl) (fun _ _=>(Eq.trans (by kernel_rfl) (cong3 (fun (I M:Int) (P:Bool)=>(.agg #[iv ((tr ((Zd.putE c (j.map Zd.ew) (er body)).x) o).Op),iv ((tr ((Zd.putE c (j.map Zd.ew) (er body)).x) o).N),tv ((tr ((Zd.putE c (j.map Zd.ew) (er body)).x) o).Unit),tv ((tr ((Zd.putE c (j.map Zd.ew) (er body)).x) o).Name),((tr ((Zd.putE c (j.map Zd.ew) (er body)).x) o).Args.s).v,iv I,iv M,bv P]:Value)) e5 e6 e7)).trans (by kernel_rfl)) (fun _ _=>trivial)
theorem cpu_ct (body:DExpr) (d:ByteArray) (a:List DParam) (c:SV) (b:DExpr) (f:List Dwhole) (h:SV) (hA:∀ w ∈ f,Zd.small (Zd.ew w)) (hL:f.length=a.length∧f.length≤1000) (hN:Zc.anyN (Zc.stray a) (er body)=false) (hB:Fx.sz (er body)≤1000) :
  Ct Tryz.prog 101 #[ag body,ag (DFunc.mk d ⟨a,c⟩ b),h.v] [fs true body.Args.l body.Args.s,fs true a c,fs true b.Args.l b.Args.s,fs true f h] [] (fun g=>ag (Dwhole.mk (tr ((Zd.putE a (f.map Zd.ew) (er body)).x) (g.gt 0)) ((Zd.putE a (f.map Zd.ew) (er body)).n) ((Zd.putE a (f.map Zd.ew) (er body)).v) ((Zd.putE a (f.map Zd.ew) (er body)).full))) (fun g=>[fs false ((tr ((Zd.putE a (f.map Zd.ew) (er body)).x) (g.gt 0)).Args.l) ((tr ((Zd.putE a (f.map Zd.ew) (er body)).x) (g.gt 0)).Args.s)]) (fun g=>[]) (fun g=>[]):=cpu_ct_n (Fx.sz (er body)+1) body d a c b f h hA hL hN hB (Nat.lt_succ_self _)

theorem cco_ct_n (m0:Nat):∀ (x:DExpr) (hB:Fx.sz (er x)≤1000),Fx.sz (er x) < m0 →
  Ct Tryz.prog 56 #[ag x] [fs true x.Args.l x.Args.s] [] (fun g=>ag (tr (er x) (g.gt 0))) (fun g=>[fs true ((tr (er x) (g.gt 0)).Args.l) ((tr (er x) (g.gt 0)).Args.s)]) eF eF:=by
 induction m0 with
 | zero=>intro _ _ hm;exact absurd hm (Nat.not_lt_zero _)
 | succ m0 ih =>
  intro x hB hm;refine vf mo Tryz.func56 24 4 fun k0=>?_;obtain ⟨A, -⟩:Lq x.Args.l x.Args.s.v:=kj k0 0
  have B:=Zd.sz_len x;refine vG [.n 0,.n 1] fun G1=>?_;intro _ _
  refine vG [.u 1,.l 0,.u 1] fun G2=>?_;intro _ _
  refine vG [.u 1,.s 0] fun G3=>?_;intro _ _
  refine vG [.u 1,.ln (kF 0 x.Args.l x.Args.s),.u 1] fun G4=>?_;intro _ _
  refine V.on (α:=DExpr) 3 48 (by kernel_rfl) ?_;refine V.lp (γ:=Int × List DExpr × SV) (fun ⟨k0,d,x_4s⟩=>⟨[(1,pp ((G1 0).b) 0),(2,pp ((G1 1).b) 0),(9,x.Args.s.v),(10,iv (x.Args.l.length:Int)),(11,iv k0)],[fs false x.Args.l x.Args.s],[.blk ((G1 0).b) (ca (DExpr.mk x.Op x.N x.Unit x.Name ⟨d,x_4s⟩)) 48,.blk ((G1 1).b) (ca (DExpr.mk 0 0 ByteArray.empty ByteArray.empty ⟨[],{}⟩)) 48,.no,os true 48 d x_4s]⟩) (fun ⟨k0,d,x_4s⟩=>(0≤k0)∧(k0≤(x.Args.l.length:Int))∧(d.map er=(x.Args.l.map er).take k0.toNat)∧((d.length:Int)=k0)) (fun ⟨k0,d,x_4s⟩=>((x.Args.l.length:Int)-k0).toNat) (0,([]:List DExpr),{}) [0] ?_ ?_
  ·refine ⟨by omega,by omega,?_,?_⟩
   ·show ([]:List DExpr).map er=(x.Args.l.map er).take (0:Int).toNat;rfl
   show (([]:List DExpr).length:Int)=(0:Int);rfl
  rintro ⟨k0,d,x_4s⟩ hF1 kw5 Z1 hZ1;obtain ⟨C,D,o,E⟩:=hF1;obtain ⟨I, -⟩:Lq d x_4s.v:=kj kw5 1;refine vG [.u 1] fun G5=>?_;intro _ _;refine vd (k0 < (x.Args.l.length:Int)) (fun q1=>?_) fun q2=>?_
  ·refine nm (x.Args.l.getD k0.toNat default:DExpr) fun x1 i=>vG [.iX (kF 0 x.Args.l x.Args.s) k0,.lE (kF 0 x.Args.l x.Args.s) k0 true x1 i true,.n 2,.s 2] fun G6=>?_;intro _ _
   refine vG [.u 1,.l 0,.l 2,.cA 3 56 [(kx false (.f 1) x1 x1.Args.l (fun _=>x1.Args.s) (fun _ H (h:Dat.good H (x1:DExpr))=>(exG.1 h))).a] fun G=>ih x1 (by have:=Fx.sz_arg (x:=x) (getD_mem (by omega) i);omega) (by have:=Fx.sz_arg (x:=x) (getD_mem (by omega) i);omega),.nrG 4 true 48 (fun G=>([(tr (er x1) ((G 3).gt 0))]:List DExpr)) 1 (fun _=>rfl) [(kg true (.g 3 0) (fun G=>(tr (er x1) ((G 3).gt 0)).Args.l) (fun G=>(tr (er x1) ((G 3).gt 0)).Args.s))] (fun _ _ h=>(List.forall_mem_cons.2 ⟨(exG.2 h.1),(List.forall_mem_nil _)⟩)) (fun G=>#[iv ((tr (er x1) ((G 3).gt 0)).Op),iv ((tr (er x1) ((G 3).gt 0)).N),tv ((tr (er x1) ((G 3).gt 0)).Unit),tv ((tr (er x1) ((G 3).gt 0)).Name),((tr (er x1) ((G 3).gt 0)).Args.s).v]),.apG 5 3 48 72 false true d (fun _=>x_4s) (.g 4 0) true (fun G=>([(tr (er x1) ((G 3).gt 0))]:List DExpr)) 1 (fun _=>rfl) (fun G=>⟨atB (G 4).b,1,1⟩) true (by first | omega | (simp;omega) | simp) (fun h=>by cases h) (fun _=>⟨rfl,rfl⟩),.u 1,.s 0] fun G7=>?_;intro _ _
   refine vG [.aa (k0+1),.u 1] fun G8=>?_;intro _ _
   refine V.rn hZ1 (k0+1,d ++([(tr (er x1) ((G7 3).gt 0))]:List DExpr),(G7 5).s) [0] ?_ ?_
   ·refine ⟨by omega,by omega,?_,?_⟩
    ·show (d ++([(tr (er x1) ((G7 3).gt 0))]:List DExpr)).map er=(x.Args.l.map er).take (k0+1).toNat;rw [List.map_append,o,List.map_cons,List.map_nil,er_tr];exact Zd.map_take (by omega) (by omega) i
    show ((d ++([(tr (er x1) ((G7 3).gt 0))]:List DExpr)).length:Int)=(k0+1);rw [List.length_append,List.length_cons,List.length_nil];omega
   dsimp only;omega
  refine vG [.l 0,.s 1] fun G9=>?_;intro _ _
  refine V.frz 3 true 48 d x_4s (by kernel_rfl) ?_;have t:er (DExpr.mk x.Op x.N x.Unit x.Name ⟨d,x_4s⟩)=er x:=by rw [er_mk,o,List.take_of_length_le (by rw [List.length_map];omega)];exact (Zd.er_is x).symm
  obtain ⟨j,w⟩:=tr_ex t;refine V.alt (fun (zz:DExpr)=>(⟨[(2,pp ((G1 1).b) 0)],[fs false x.Args.l x.Args.s,fs true zz.Args.l zz.Args.s],[.blk ((G1 0).b) (ca (DExpr.mk x.Op x.N x.Unit x.Name ⟨d,x_4s⟩)) 48,.blk ((G1 1).b) (ca zz) 48,.no,.no]⟩:St)) w [0,1] (by kernel_rfl) ?_;exact V.retG [j] [1] [(tr (er x) j).Args.s] [] [] [1] [] (ag (tr (er x) j)) (fun _ _=>by kernel_rfl) (fun _ _=>by kernel_rfl) (fun _ _=>trivial)
theorem cco_ct (x:DExpr) (hB:Fx.sz (er x)≤1000) :
  Ct Tryz.prog 56 #[ag x] [fs true x.Args.l x.Args.s] [] (fun g=>ag (tr (er x) (g.gt 0))) (fun g=>[fs true ((tr (er x) (g.gt 0)).Args.l) ((tr (er x) (g.gt 0)).Args.s)]) (fun g=>[]) (fun g=>[]):=cco_ct_n (Fx.sz (er x)+1) x hB (Nat.lt_succ_self _)

open Go
theorem ownS_blk {T:TypeId} {size:Nat} {rows:List (List Value)} {s:SV} {e:Ent} {b:Nat} {o:Obj} (h:OwnS T size rows s.v e) (hp:e=some (b,o)):s.a=some ⟨b,0,none⟩:=by
 rcases h.val with ⟨_,_,h3⟩ | ⟨g,d,f,h1,h2,_⟩
 ·rw [h3] at hp;cases hp
 ·rw [h2] at hp;cases hp;unfold SV.v at h1
  injection h1
theorem app_new {T:TypeId} {size:Nat} {rows:List (List Value)} {s:SV} {e e':Ent} {w w':World} {B:Nat} (h:OwnS T size rows s.v e') (hg:Grows e e' w w') (he:∀ b o,e=some (b,o)→B≤b) (hB:B≤w.heap.size):NewS B s:=fun a ha=>by
 rcases h.val with ⟨h1,_,_⟩ | ⟨g,d,f,h1,h2,_⟩
 ·unfold SV.v at h1;injection h1 with h1;rw [ha] at h1;cases h1
 ·unfold SV.v at h1
  injection h1 with h1
  rw [ha] at h1;cases h1;rcases hg.from' _ _ h2 with h3 | ⟨o',h3⟩
  ·exact Nat.le_trans hB h3
  ·exact he _ _ h3
namespace Hint
variable {P : Program}
def apGB {α:Type} [Dat α] (B n r:Nat) (E:TypeId) (f:Nat) (z t:Bool) (l:List α) (s:Gh→SV) (X:Src) (ts:Bool) (m:Gh→List α) (k:Nat) (hk:∀ G,(m G).length=k) (s2:Gh→SV) (t2:Bool) (hb:(l.length+k) * f≤140737488355328)
  (hz:z=true→l=[]∧∀ G,s G={}) (ht:t2=true→t=true∧ts=true) (hN:z=true∨∀ G,NewS B (s G)):Hint P where
 d:={ val:=fun G=>(G n).s.v,news:=[(r,fun G=>os t2 E (l ++m G) (G n).s,fun G=>(G n).e)],pu:=fun G=>[NewS B (G n).s] }
 τ:=Option (TypeId × TypeId × Value × Value) × Option TypeId × Option (Nat × Nat × Option Nat) × Option LE × Nat × Bool × Bool × (Option (Bool × (Ent→Heaplet→Prop)) × Bool) × List α × Nat
 lhs c i G g _:=(c.R.apr G i,sliceOf P (c.R.apt G i),infoOf P E,c.leAt i r G,i,decide (0 < Dat.size α),decide (0 < f),X.what c i G,m (c.R.vis i (RC.put G i g)),c.w0.heap.size)
 rhs c i G _ _:=(some (c.R.apt G i,c.R.apt G i,(s G).v,(s2 G).v),some E,some (Dat.size α,f,some (Dat.size α)),some (nilOr t E l (s G) z),n,true,true,(some (ts,fun _ H=>RSl H (m G) (s2 G).v),true),m G,B)
 sound c i ok hil hi h:=fun o ho G w hs=>by
  have h0:=fun g=>h G g w
  simp only [Prod.mk.injEq] at h0;obtain ⟨e1,e2,e3,e4,rfl,e6,e7,e8,_,eB⟩:=h0 {};have hw:c.R.wrE r i=true:=by unfold RC.wrE;rw [Cx.upsOf hi];simp
  obtain ⟨en,a1,a2,a3⟩:=Cx.own_at ok hil hs e4 (by rw [hw];simp);obtain ⟨I,A⟩:=nilOr_own (fun M=>⟨(hz M).1,(hz M).2 G⟩) a2;obtain ⟨e',q1,q2,_⟩:=Src.get ok hil hs e8;have hx:RSl (c.J i G ts) (m G) (s2 G).v:=q1;obtain ⟨v',C,w',hr,D,hg⟩:=append_does ho e1 e2 e3 (of_decide_eq_true e6) (of_decide_eq_true e7) I a3 hx.sl (Cx.J_le hs ts) (by simpa [hk] using hb);obtain ⟨s',rfl⟩:=own_sv D;unfold Does;rw [hr];have hv:=Cx.vis_self (c:=c) (i:=i) (G:=G) { s:=s',e:=C };have e9:=(h0 { s:=s',e:=C }).2.2.2.2.2.2.2.2.1;refine ⟨{ s:=s',e:=C },left_turnP ok hil hi hs rfl rfl a1 hg ?_ ?_ rfl ?_ ?_⟩
  ·show (c.R.vis i (RC.put G i { s:=s',e:=C }) i).e=_;rw [hv]
  ·show bif t2 then OSl E _ _ _ _ else OSl E _ _ _ _
   rw [hv,e9];have Q:OwnS E (Dat.size α) (rows (l ++m G)) s'.v C:=by rw [rows_append];exact D
   have fin:∀ x ∈ l ++m G,Dat.good (c.J i G t2) x:=fun x j=>by
    rcases List.mem_append.1 j with j | j
    ·cases t2 with
     | true=>have:=A x j;rw [(ht rfl).1] at this;exact this
     | false =>
      have:=A x j
      cases t
      ·exact this
      ·exact Dat.mono _ _ _ (Cx.J_true_le hs false) this
    ·cases t2 with
     | true=>have:=hx.good x j;rw [(ht rfl).2] at this;exact this
     | false=>exact Dat.mono _ _ _ (Cx.J_le_false hs _) (hx.good x j)
   cases t2
   ·exact ⟨Q,fin⟩
   ·exact ⟨Q,fin⟩
  ·refine ⟨?_,trivial⟩;show NewS B _;rw [hv];refine app_new D hg (fun b o hb=>?_) (by rw [←eB];exact hs.base.size);rcases hN with hN | hN
   ·subst hN;cases hb
   ·have:=ownS_blk I hb
    exact hN G _ this
  ·rw [Cx.valOf hi];show SV.v _=_;rw [hv]
end Hint

theorem cbo_ct (qb:Nat) (d:List DFunc) (j:SV) (o:List (Int × Dwhole)) (f:Nat) (i:Int) (bd:Nat→Zd.WE) (rk:Nat→Nat) (m0:Nat) (ih:∀ (qb:Nat) (d:List DFunc) (j:SV) (o:List (Int × Dwhole)) (f:Nat) (x:DExpr) (bd:Nat→Zd.WE) (rk:Nat→Nat) (hD:Zd.BD (d.map Zc.fe) bd rk) (hQ:Zd.Qm d.length bd o) (hU:Zc.anyN (Zc.unk (d.map Zc.fe)) (er x)=false) (hV:Zc.anyN (Zc.unev (d.map Zc.fe)) (er x)=false) (hB:Fx.sz (er x)≤1000),Zd.mu (d.map Zc.fe) rk (er x) < m0→Ct Tryz.prog 55 #[pp qb 0,ag x] [fs true d j,fs true x.Args.l x.Args.s] [.blk qb #[j.v,.map (some f)] 96,mp false true o f] (fun g=>ag (Dwhole.mk (tr ((Zd.growT (d.map Zc.fe) bd (er x)).x) (g.gt 0)) ((Zd.growT (d.map Zc.fe) bd (er x)).n) ((Zd.growT (d.map Zc.fe) bd (er x)).v) ((Zd.growT (d.map Zc.fe) bd (er x)).full))) (fun g=>[fs false ((tr ((Zd.growT (d.map Zc.fe) bd (er x)).x) (g.gt 0)).Args.l) ((tr ((Zd.growT (d.map Zc.fe) bd (er x)).x) (g.gt 0)).Args.s)]) (fun g=>[.blk qb #[j.v,.map (some f)] 96,mpE false true (Zd.Qm d.length bd) f]) (fun g=>[])) (hD:Zd.BD (d.map Zc.fe) bd rk) (hQ:Zd.Qm d.length bd o) (hi:0≤i∧i < (d.length:Int)) (hm:Zd.mu (d.map Zc.fe) rk ((d.map Zc.fe).getD i.toNat default).b < m0) :
  Ct Tryz.prog 100 #[pp qb 0,iv i] [fs true d j] [.blk qb #[j.v,.map (some f)] 96,mp false true o f] (fun g=>ag (Dwhole.mk (tr ((bd i.toNat).x) (g.gt 0)) ((bd i.toNat).n) ((bd i.toNat).v) ((bd i.toNat).full))) (fun g=>[fs false ((tr ((bd i.toNat).x) (g.gt 0)).Args.l) ((tr ((bd i.toNat).x) (g.gt 0)).Args.s)]) (fun g=>[.blk qb #[j.v,.map (some f)] 96,mpE false true (Zd.Qm d.length bd) f]) (fun g=>[]):=by
 refine vf mo Tryz.func100 35 2 fun _=>?_
 refine vG [.n 2] fun G1=>?_;intro _ _
 refine nm ((mlook i o).getD default:Dwhole) fun x1 Y=>nm ((mlook i o).isSome:Bool) fun af D=>vG [.u 3,.l 0,.u 1,.lk 1 94 3 98 false true true o (fun _=>f) i x1 Y af D true,.u 3,.n 3,.s 3,.u 1] fun G2=>?_;intro _ _
 refine vG [.u 2] fun G3=>?_;intro _ _
 refine V.cn (b:=!af) (iNT Iff.rfl) (iNF Iff.rfl) (fun q1=>?_) (fun q2=>?_)
 ·refine nm (d.getD i.toNat default:DFunc) fun x2 Z=>?_;have A:((d.map Zc.fe).getD i.toNat default)=Zc.fe x2:=by rw [Z,Zc.getD_map Zc.fe (by omega)]
  have B:i.toNat < ((d.map Zc.fe)).length:=by rw [List.length_map];omega
  have ab:=hD.unk i.toNat B;rw [A] at ab;have ac:=hD.unev i.toNat B;rw [A] at ac;have ad:=hD.szb i.toNat B;rw [A] at ad;have w:=hD.eq i.toNat B;rw [A] at w;rw [A] at hm;refine vG [.u 4,.l 0,.u 1,.iX (kF 0 d j) i,.u 1,.le g0 (kF 0 d j) i (some 2) true x2 Z (fun _=>⟨by omega,by omega⟩) true (fun _=>Dat.cells x2.Body),.cB 9 55 true [0,1] [] [kA 0 d j,(kx false (.g 8 0) x2 x2.Body.Args.l (fun _=>x2.Body.Args.s) (fun _ H (h:Dat.good H (x2:DFunc))=>(exG.1 h.2))).a] fun G=>ih qb d j o f x2.Body bd rk hD hQ ab ac ad hm,.s 3] fun G4=>?_;intro _ _
  refine V.opM 1 false true (Zd.Qm d.length bd) f (by kernel_rfl) fun m1 ah=>nm (mupd i (Dwhole.mk (tr ((Zd.growT (d.map Zc.fe) bd (er x2.Body)).x) ((G4 9).gt 0)) ((Zd.growT (d.map Zc.fe) bd (er x2.Body)).n) ((Zd.growT (d.map Zc.fe) bd (er x2.Body)).v) ((Zd.growT (d.map Zc.fe) bd (er x2.Body)).full)) m1:List (Int × Dwhole)) fun m2 ae=>vG [.u 3,.l 0,.u 1,.l 3,.mu 6 1 94 3 98 false true m1 (fun _=>f) i (Dwhole.mk (tr ((Zd.growT (d.map Zc.fe) bd (er x2.Body)).x) ((G4 9).gt 0)) ((Zd.growT (d.map Zc.fe) bd (er x2.Body)).n) ((Zd.growT (d.map Zc.fe) bd (er x2.Body)).v) ((Zd.growT (d.map Zc.fe) bd (er x2.Body)).full)) m2 ae false (fun h=>by cases h) [kA 3 ((tr ((Zd.growT (d.map Zc.fe) bd (er x2.Body)).x) ((G4 9).gt 0)).Args.l) (tr ((Zd.growT (d.map Zc.fe) bd (er x2.Body)).x) ((G4 9).gt 0)).Args.s] (fun _ _ h=>(exG.2 h.1))] fun G5=>?_;intro _ _
  refine vG [.l 3,.s 2] fun G6=>?_;intro _ _
  have E:er (tr ((Zd.growT (d.map Zc.fe) bd (er x2.Body)).x) ((G4 9).gt 0))=(bd i.toNat).x:=by rw [er_tr,w];rfl
  obtain ⟨t,I⟩:=tr_ex E;refine V.alt (fun (zz:DExpr)=>(⟨[(4,pp ((G1 0).b) 0)],[fs false d j,gf false x1,gf false x2,fs false zz.Args.l zz.Args.s],[.blk qb #[j.v,.map (some f)] 96,mp false true m2 f,.blk ((G1 0).b) (ca (Dwhole.mk zz ((Zd.growT (d.map Zc.fe) bd (er x2.Body)).n) ((Zd.growT (d.map Zc.fe) bd (er x2.Body)).v) ((Zd.growT (d.map Zc.fe) bd (er x2.Body)).full))) 98,.blk ((G2 9).b) (ca (Dwhole.mk (tr ((Zd.growT (d.map Zc.fe) bd (er x2.Body)).x) ((G4 9).gt 0)) ((Zd.growT (d.map Zc.fe) bd (er x2.Body)).n) ((Zd.growT (d.map Zc.fe) bd (er x2.Body)).v) ((Zd.growT (d.map Zc.fe) bd (er x2.Body)).full))) 98]⟩:St)) I [0,1,2,3] (by kernel_rfl) ?_;have e5:((Zd.growT (d.map Zc.fe) bd (er x2.Body)).n)=(bd i.toNat).n:=by rw [w];rfl
  have e6:((Zd.growT (d.map Zc.fe) bd (er x2.Body)).v)=(bd i.toNat).v:=by rw [w];rfl
  have e7:((Zd.growT (d.map Zc.fe) bd (er x2.Body)).full)=(bd i.toNat).full:=by rw [w];rfl
  have M:(Zd.Qm d.length bd) m2:=by rw [ae];exact Zd.Qm_upd ah hi (by rw [Zd.ew_tr,w];rfl)
  refine V.clM 1 false true (Zd.Qm d.length bd) f m2 (by kernel_rfl) M ?_;exact V.retG [t] [2] [(tr ((bd i.toNat).x) t).Args.s] [] [] [3] [0,1] (ag (Dwhole.mk (tr ((bd i.toNat).x) t) ((Zd.growT (d.map Zc.fe) bd (er x2.Body)).n) ((Zd.growT (d.map Zc.fe) bd (er x2.Body)).v) ((Zd.growT (d.map Zc.fe) bd (er x2.Body)).full))) (fun _ _=>by kernel_rfl) (fun _ _=>(Eq.trans (by kernel_rfl) (cong3 (fun (P Q:Int) (X:Bool)=>(.agg #[iv ((tr ((bd i.toNat).x) t).Op),iv ((tr ((bd i.toNat).x) t).N),tv ((tr ((bd i.toNat).x) t).Unit),tv ((tr ((bd i.toNat).x) t).Name),((tr ((bd i.toNat).x) t).Args.s).v,iv P,iv Q,bv X]:Value)) e5 e6 e7)).trans (by kernel_rfl)) (fun _ _=>trivial)
 have C:=Zd.Qm_get hQ Y D q2;refine vG [.l 3,.s 2] fun G7=>?_;intro _ _
 refine V.exF 1 false x1 x1.x.Args.l x1.x.Args.s (by kernel_rfl) (fun H (h:Dat.good H (x1:Dwhole))=>(exG.1 h)) ?_;have E:er x1.x=(bd i.toNat).x:=by rw [←C];rfl
 obtain ⟨t,I⟩:=tr_ex E;refine V.alt (fun (zz:DExpr)=>(⟨[(4,pp ((G1 0).b) 0)],[fs false d j,gf false x1,fs false zz.Args.l zz.Args.s],[.blk qb #[j.v,.map (some f)] 96,mp false true o f,.blk ((G1 0).b) (ca (Dwhole.mk zz x1.nodes x1.levels x1.full)) 98,.blk ((G2 9).b) (ca x1) 98]⟩:St)) I [0,1,2] (by kernel_rfl) ?_;have e5:x1.nodes=(bd i.toNat).n:=by rw [←C];rfl
 have e6:x1.levels=(bd i.toNat).v:=by rw [←C];rfl
 have e7:x1.full=(bd i.toNat).full:=by rw [←C];rfl
 have M:(Zd.Qm d.length bd) o:=hQ;refine V.clM 1 false true (Zd.Qm d.length bd) f o (by kernel_rfl) M ?_;exact V.retG [t] [2] [(tr ((bd i.toNat).x) t).Args.s] [] [] [2] [0,1] (ag (Dwhole.mk (tr ((bd i.toNat).x) t) x1.nodes x1.levels x1.full)) (fun _ _=>by kernel_rfl) (fun _ _=>(Eq.trans (by kernel_rfl) (cong3 (fun (P Q:Int) (X:Bool)=>(.agg #[iv ((tr ((bd i.toNat).x) t).Op),iv ((tr ((bd i.toNat).x) t).N),tv ((tr ((bd i.toNat).x) t).Unit),tv ((tr ((bd i.toNat).x) t).Name),((tr ((bd i.toNat).x) t).Args.s).v,iv P,iv Q,bv X]:Value)) e5 e6 e7)).trans (by kernel_rfl)) (fun _ _=>trivial)

theorem cex_ct_n (m0:Nat):∀ (qb:Nat) (d:List DFunc) (j:SV) (t:List (Int × Dwhole)) (i:Nat) (x:DExpr) (bd:Nat→Zd.WE) (rk:Nat→Nat) (hD:Zd.BD (d.map Zc.fe) bd rk) (hQ:Zd.Qm d.length bd t) (hU:Zc.anyN (Zc.unk (d.map Zc.fe)) (er x)=false) (hV:Zc.anyN (Zc.unev (d.map Zc.fe)) (er x)=false) (hB:Fx.sz (er x)≤1000),Zd.mu (d.map Zc.fe) rk (er x) < m0 →
  Ct Tryz.prog 55 #[pp qb 0,ag x] [fs true d j,fs true x.Args.l x.Args.s] [.blk qb #[j.v,.map (some i)] 96,mp false true t i] (fun g=>ag (Dwhole.mk (tr ((Zd.growT (d.map Zc.fe) bd (er x)).x) (g.gt 0)) ((Zd.growT (d.map Zc.fe) bd (er x)).n) ((Zd.growT (d.map Zc.fe) bd (er x)).v) ((Zd.growT (d.map Zc.fe) bd (er x)).full))) (fun g=>[fs false ((tr ((Zd.growT (d.map Zc.fe) bd (er x)).x) (g.gt 0)).Args.l) ((tr ((Zd.growT (d.map Zc.fe) bd (er x)).x) (g.gt 0)).Args.s)]) (fun g=>[.blk qb #[j.v,.map (some i)] 96,mpE false true (Zd.Qm d.length bd) i]) (fun g=>[]):=by
 induction m0 with
 | zero=>intro _ _ _ _ _ _ _ _ _ _ _ _ _ hm;exact absurd hm (Nat.not_lt_zero _)
 | succ m0 ih =>
  intro qb d j t i x bd rk hD hQ hU hV hB hm;refine V.fn mo Tryz.func55 55 5 (by kernel_rfl) fun w H ε k0=>?_
  have aw:=Zd.sz_len x;refine vG [.n 2,.n 3] fun G1=>?_;intro _ _
  refine vG [.u 1] fun G2=>?_;intro _ _
  refine vG [.u 1,.l 2,.ln (kF 1 x.Args.l x.Args.s),.u 1] fun G3=>?_;intro _ _
  refine V.on (α:=Dwhole) 5 98 (by kernel_rfl) ?_;refine V.lp (γ:=List Dwhole × SV × Int × List (Int × Dwhole)) (fun ⟨l,ls,k0,m1⟩=>⟨[(0,pp qb 0),(3,pp ((G1 0).b) 0),(4,pp ((G1 1).b) 0),(5,ls.v),(11,x.Args.s.v),(12,iv (x.Args.l.length:Int)),(13,iv k0)],[fs false x.Args.l x.Args.s,fs false d j],[.blk qb #[j.v,.map (some i)] 96,mp false true m1 i,.blk ((G1 0).b) (ca x) 48,.blk ((G1 1).b) (ca (Dwhole.mk (DExpr.mk 0 0 ByteArray.empty ByteArray.empty ⟨[],{}⟩) 0 0 false)) 98,.no,os false 98 l ls,.no]⟩) (fun ⟨l,ls,k0,m1⟩=>(0≤k0)∧(k0≤(x.Args.l.length:Int))∧(l.map Zd.ew=((x.Args.l.map er).map (Zd.growT (d.map Zc.fe) bd)).take k0.toNat)∧((l.length:Int)=k0)∧(Zd.Qm d.length bd m1)∧(NewS w.heap.size ls)∧(∀ v ∈ l,Zd.small (Zd.ew v))) (fun ⟨l,ls,k0,m1⟩=>((x.Args.l.length:Int)-k0).toNat) (([]:List Dwhole),{},0,t) [1,0] ?_ ?_
  ·refine ⟨by omega,by omega,?_,?_,?_,?_,?_⟩
   ·show ([]:List Dwhole).map Zd.ew=((x.Args.l.map er).map (Zd.growT (d.map Zc.fe) bd)).take (0:Int).toNat;rfl
   ·show (([]:List Dwhole).length:Int)=(0:Int);rfl
   ·show Zd.Qm d.length bd t;exact hQ
   ·show NewS w.heap.size ({});intro a ha;cases ha
   show ∀ v ∈ ([]:List Dwhole),Zd.small (Zd.ew v);intro v hv;cases hv
  rintro ⟨l,ls,k0,m1⟩ hF1 kw4 Z1 hZ1;obtain ⟨ax,ay,ae,az,I,ab,ac⟩:=hF1;refine vG [.u 1] fun G4=>?_;intro _ _;refine vd (k0 < (x.Args.l.length:Int)) (fun q1=>?_) fun q2=>?_
  ·refine nm (x.Args.l.getD k0.toNat default:DExpr) fun x1 E=>vG [.iX (kF 0 x.Args.l x.Args.s) k0,.lE (kF 0 x.Args.l x.Args.s) k0 true x1 E true,.n 4,.s 4] fun G5=>?_;intro _ _
   refine vR [.u 2,.l 4,.cB 3 55 true [0,1] [] [kA 1 d j,(kx false (.f 2) x1 x1.Args.l (fun _=>x1.Args.s) (fun _ H (h:Dat.good H (x1:DExpr))=>(exG.1 h))).a] fun G=>ih qb d j m1 i x1 bd rk hD I (Zc.anyN_sub hU (getD_mem (by omega) E)) (Zc.anyN_sub hV (getD_mem (by omega) E)) (by have:=Fx.sz_arg (x:=x) (getD_mem (by omega) E);omega) (by have:=Zd.mu_arg (fs:=(d.map Zc.fe)) (rk:=rk) (x:=x) (getD_mem (by omega) E);omega),.nrG 4 false 98 (fun G=>([Dwhole.mk (tr ((Zd.growT (d.map Zc.fe) bd (er x1)).x) ((G 3).gt 0)) ((Zd.growT (d.map Zc.fe) bd (er x1)).n) ((Zd.growT (d.map Zc.fe) bd (er x1)).v) ((Zd.growT (d.map Zc.fe) bd (er x1)).full)]:List Dwhole)) 1 (fun _=>rfl) [(kg false (.g 3 0) (fun G=>(tr ((Zd.growT (d.map Zc.fe) bd (er x1)).x) ((G 3).gt 0)).Args.l) (fun G=>(tr ((Zd.growT (d.map Zc.fe) bd (er x1)).x) ((G 3).gt 0)).Args.s))] (fun _ _ h=>(List.forall_mem_cons.2 ⟨(exG.2 h.1),(List.forall_mem_nil _)⟩)) (fun G=>#[iv ((tr ((Zd.growT (d.map Zc.fe) bd (er x1)).x) ((G 3).gt 0)).Op),iv ((tr ((Zd.growT (d.map Zc.fe) bd (er x1)).x) ((G 3).gt 0)).N),tv ((tr ((Zd.growT (d.map Zc.fe) bd (er x1)).x) ((G 3).gt 0)).Unit),tv ((tr ((Zd.growT (d.map Zc.fe) bd (er x1)).x) ((G 3).gt 0)).Name),((tr ((Zd.growT (d.map Zc.fe) bd (er x1)).x) ((G 3).gt 0)).Args.s).v,iv ((Zd.growT (d.map Zc.fe) bd (er x1)).n),iv ((Zd.growT (d.map Zc.fe) bd (er x1)).v),bv ((Zd.growT (d.map Zc.fe) bd (er x1)).full)]),.apGB w.heap.size 5 5 98 96 false false l (fun _=>ls) (.g 4 0) false (fun G=>([Dwhole.mk (tr ((Zd.growT (d.map Zc.fe) bd (er x1)).x) ((G 3).gt 0)) ((Zd.growT (d.map Zc.fe) bd (er x1)).n) ((Zd.growT (d.map Zc.fe) bd (er x1)).v) ((Zd.growT (d.map Zc.fe) bd (er x1)).full)]:List Dwhole)) 1 (fun _=>rfl) (fun G=>⟨atB (G 4).b,1,1⟩) false (by first | omega | (simp;omega) | simp) (fun h=>by cases h) (fun h=>by cases h) (.inr fun _=>ab),.u 1] fun G6 al=>?_;intro _ _
   have am:NewS w.heap.size (G6 5).s:=kj al 0;refine V.opM 1 false true (Zd.Qm d.length bd) i (by kernel_rfl) fun m2 an=>vG [.aa (k0+1),.u 1] fun G7=>?_;intro _ _
   refine V.rn hZ1 (l ++([Dwhole.mk (tr ((Zd.growT (d.map Zc.fe) bd (er x1)).x) ((G6 3).gt 0)) ((Zd.growT (d.map Zc.fe) bd (er x1)).n) ((Zd.growT (d.map Zc.fe) bd (er x1)).v) ((Zd.growT (d.map Zc.fe) bd (er x1)).full)]:List Dwhole),(G6 5).s,k0+1,m2) [0,1] ?_ ?_
   ·refine ⟨by omega,by omega,?_,?_,?_,?_,?_⟩
    ·show (l ++([Dwhole.mk (tr ((Zd.growT (d.map Zc.fe) bd (er x1)).x) ((G6 3).gt 0)) ((Zd.growT (d.map Zc.fe) bd (er x1)).n) ((Zd.growT (d.map Zc.fe) bd (er x1)).v) ((Zd.growT (d.map Zc.fe) bd (er x1)).full)]:List Dwhole)).map Zd.ew=((x.Args.l.map er).map (Zd.growT (d.map Zc.fe) bd)).take (k0+1).toNat;rw [List.map_append,ae,List.map_cons,List.map_nil,Zd.ew_tr];exact Zd.map_take (g:=Zd.growT (d.map Zc.fe) bd) (l:=x.Args.l.map er) (by omega) (by rw [List.length_map];omega) (by rw [E];exact (Zc.getD_map er (by omega)).symm)
    ·show ((l ++([Dwhole.mk (tr ((Zd.growT (d.map Zc.fe) bd (er x1)).x) ((G6 3).gt 0)) ((Zd.growT (d.map Zc.fe) bd (er x1)).n) ((Zd.growT (d.map Zc.fe) bd (er x1)).v) ((Zd.growT (d.map Zc.fe) bd (er x1)).full)]:List Dwhole)).length:Int)=(k0+1);rw [List.length_append,List.length_cons,List.length_nil];omega
    ·show Zd.Qm d.length bd m2;exact an
    ·show NewS w.heap.size ((G6 5).s);exact am
    show ∀ v ∈ (l ++([Dwhole.mk (tr ((Zd.growT (d.map Zc.fe) bd (er x1)).x) ((G6 3).gt 0)) ((Zd.growT (d.map Zc.fe) bd (er x1)).n) ((Zd.growT (d.map Zc.fe) bd (er x1)).v) ((Zd.growT (d.map Zc.fe) bd (er x1)).full)]:List Dwhole)),Zd.small (Zd.ew v);intro v hv;rcases List.mem_append.1 hv with h | h
    ·exact ac v h
    rw [List.mem_singleton.1 h,Zd.ew_tr];exact Zd.growT_small _ _ _
   dsimp only;omega
  have C:l.map Zd.ew=((x.Args.l.map er).map (Zd.growT (d.map Zc.fe) bd)):=by rw [ae,List.take_of_length_le (by simp only [List.length_map];omega)]
  refine vG [.u 1,.l 2,.u 1] fun G8=>?_;intro _ _
  refine vn (x.Op=3) (fun q3=>?_) fun q4=>?_
  ·refine V.frzN 5 false 98 l ls (by kernel_rfl) ab ?_;refine vG [.l 2,.u 1,.cB 2 99 true [] [] [kA 0 x.Args.l x.Args.s,kA 2 l ls] fun G=>cjo_ct x l ls ac (by omega),.s 3] fun G9=>?_;intro _ _
   have M:er (tr ((Zd.join (er x) (l.map Zd.ew)).x) ((G9 2).gt 0))=(Zd.growT (d.map Zc.fe) bd (er x)).x:=by rw [er_tr,C,Zd.growT_er,if_neg q3]
   obtain ⟨o,P⟩:=tr_ex M;refine V.alt (fun (zz:DExpr)=>(⟨[(4,pp ((G1 1).b) 0)],[fs false x.Args.l x.Args.s,fs false d j,fs false l ls,fs false zz.Args.l zz.Args.s],[.blk qb #[j.v,.map (some i)] 96,mp false true m1 i,.blk ((G1 0).b) (ca x) 48,.blk ((G1 1).b) (ca (Dwhole.mk zz ((Zd.join (er x) (l.map Zd.ew)).n) ((Zd.join (er x) (l.map Zd.ew)).v) ((Zd.join (er x) (l.map Zd.ew)).full))) 98,.no,.no,.no]⟩:St)) P [0,1,2,3] (by kernel_rfl) ?_;have e5:((Zd.join (er x) (l.map Zd.ew)).n)=(Zd.growT (d.map Zc.fe) bd (er x)).n:=by rw [C,Zd.growT_er,if_neg q3]
   have e6:((Zd.join (er x) (l.map Zd.ew)).v)=(Zd.growT (d.map Zc.fe) bd (er x)).v:=by rw [C,Zd.growT_er,if_neg q3]
   have e7:((Zd.join (er x) (l.map Zd.ew)).full)=(Zd.growT (d.map Zc.fe) bd (er x)).full:=by rw [C,Zd.growT_er,if_neg q3]
   have Q:(Zd.Qm d.length bd) m1:=by first | exact I | exact hm1
   refine V.clM 1 false true (Zd.Qm d.length bd) i m1 (by kernel_rfl) Q ?_;exact V.retG [o] [3] [(tr ((Zd.growT (d.map Zc.fe) bd (er x)).x) o).Args.s] [] [] [3] [0,1] (ag (Dwhole.mk (tr ((Zd.growT (d.map Zc.fe) bd (er x)).x) o) ((Zd.join (er x) (l.map Zd.ew)).n) ((Zd.join (er x) (l.map Zd.ew)).v) ((Zd.join (er x) (l.map Zd.ew)).full))) (fun _ _=>by kernel_rfl) (fun _ _=>(Eq.trans (by kernel_rfl) (cong3 (fun (X Y:Int) (Z:Bool)=>(.agg #[iv ((tr ((Zd.growT (d.map Zc.fe) bd (er x)).x) o).Op),iv ((tr ((Zd.growT (d.map Zc.fe) bd (er x)).x) o).N),tv ((tr ((Zd.growT (d.map Zc.fe) bd (er x)).x) o).Unit),tv ((tr ((Zd.growT (d.map Zc.fe) bd (er x)).x) o).Name),((tr ((Zd.growT (d.map Zc.fe) bd (er x)).x) o).Args.s).v,iv X,iv Y,bv Z]:Value)) e5 e6 e7)).trans (by kernel_rfl)) (fun _ _=>trivial)
  have h3:x.Op=3:=by first | exact q4 | exact Decidable.not_not.1 q4
  refine vG [.u 3,.l 0,.u 1,.l 2,.cP 6 97 [kA 1 d j] fun G=>cfind_ct d j x.Name,.u 1] fun aA=>?_;intro _ _
  have af:=Zc.find_rng (d.map Zc.fe) x.Name;rw [List.length_map] at af;have ah:=Zc.unk_op hU h3;refine vG [.u 2,.cB 2 100 true [0,1] [] [kA 1 d j] fun G=>cbo_ct qb d j m1 i (Zc.find (d.map Zc.fe) x.Name) bd rk m0 ih hD I (⟨ah,af.2⟩) (Nat.lt_of_lt_of_le (hD.mu_body h3 ah) (Nat.le_of_lt_succ hm)),.n 6,.s 6] fun A=>?_;intro _ _
  refine V.opM 1 false true (Zd.Qm d.length bd) i (by kernel_rfl) fun m3 ai=>vG [.u 1,.l 6,.u 1] fun aB=>?_;intro _ _
  refine V.cn (b:=!((bd (Zc.find (d.map Zc.fe) x.Name).toNat).full)) (iNT Iff.rfl) (iNF Iff.rfl) (fun q5=>?_) (fun q6=>?_)
  ·refine V.frzN 5 false 98 l ls (by kernel_rfl) ab ?_;refine nm (d.getD (Zc.find (d.map Zc.fe) x.Name).toNat default:DFunc) fun x2 aj=>?_;have D:(d.map Zc.fe).getD (Zc.find (d.map Zc.fe) x.Name).toNat default=Zc.fe x2:=by rw [aj,Zc.getD_map Zc.fe (by omega)]
   have ad:(Zc.find (d.map Zc.fe) x.Name).toNat < (d.map Zc.fe).length:=by rw [List.length_map];omega
   have B:(bd (Zc.find (d.map Zc.fe) x.Name).toNat).full=false:=q5;have ak:=hD.par _ ad B;rw [D] at ak;have ao:=hD.szx _ ad B;have aq:=hD.few _ ad;rw [D] at aq;have au:=Zd.unev_op hV h3;rw [D] at au;have aC:(Zc.fe x2).p.length=x2.Params.l.length:=rfl;refine vG [.u 1,.l 6,.u 3,.l 0,.u 1,.iX (kF 1 d j) (Zc.find (d.map Zc.fe) x.Name),.lE (kF 1 d j) (Zc.find (d.map Zc.fe) x.Name) true x2 aj true,.u 1,.cB 10 101 true [] [] [kA 2 ((tr ((bd (Zc.find (d.map Zc.fe) x.Name).toNat).x) ((A 2).gt 0)).Args.l) (tr ((bd (Zc.find (d.map Zc.fe) x.Name).toNat).x) ((A 2).gt 0)).Args.s,(kx false (.g 8 0) x2 x2.Params.l (fun _=>x2.Params.s) (fun _ H (h:Dat.good H (x2:DFunc))=>h.1)).a,(kx false (.g 8 0) x2 x2.Body.Args.l (fun _=>x2.Body.Args.s) (fun _ H (h:Dat.good H (x2:DFunc))=>(exG.1 h.2))).a,kA 3 l ls] fun G=>cpu_ct (tr ((bd (Zc.find (d.map Zc.fe) x.Name).toNat).x) ((A 2).gt 0)) x2.Name x2.Params.l x2.Params.s x2.Body l ls ac (⟨by omega,by omega⟩) (by rw [er_tr];exact ak) (by rw [er_tr];exact ao),.s 3] fun av=>?_;intro _ _
   have M:er (tr ((Zd.putE x2.Params.l (l.map Zd.ew) (er (tr ((bd (Zc.find (d.map Zc.fe) x.Name).toNat).x) ((A 2).gt 0)))).x) ((av 10).gt 0))=(Zd.growT (d.map Zc.fe) bd (er x)).x:=by rw [er_tr,er_tr,C,Zd.growT_er,if_pos h3,if_neg (by rw [B];simp),D];rfl
   obtain ⟨o,P⟩:=tr_ex M;refine V.alt (fun (zz:DExpr)=>(⟨[(4,pp ((G1 1).b) 0)],[fs false x.Args.l x.Args.s,fs false d j,fs false ((tr ((bd (Zc.find (d.map Zc.fe) x.Name).toNat).x) ((A 2).gt 0)).Args.l) ((tr ((bd (Zc.find (d.map Zc.fe) x.Name).toNat).x) ((A 2).gt 0)).Args.s),fs false l ls,gf false x2,fs false zz.Args.l zz.Args.s],[.blk qb #[j.v,.map (some i)] 96,mp false true m3 i,.blk ((G1 0).b) (ca x) 48,.blk ((G1 1).b) (ca (Dwhole.mk zz ((Zd.putE x2.Params.l (l.map Zd.ew) (er (tr ((bd (Zc.find (d.map Zc.fe) x.Name).toNat).x) ((A 2).gt 0)))).n) ((Zd.putE x2.Params.l (l.map Zd.ew) (er (tr ((bd (Zc.find (d.map Zc.fe) x.Name).toNat).x) ((A 2).gt 0)))).v) ((Zd.putE x2.Params.l (l.map Zd.ew) (er (tr ((bd (Zc.find (d.map Zc.fe) x.Name).toNat).x) ((A 2).gt 0)))).full))) 98,.no,.no,.blk ((A 3).b) (ca (Dwhole.mk (tr ((bd (Zc.find (d.map Zc.fe) x.Name).toNat).x) ((A 2).gt 0)) ((bd (Zc.find (d.map Zc.fe) x.Name).toNat).n) ((bd (Zc.find (d.map Zc.fe) x.Name).toNat).v) ((bd (Zc.find (d.map Zc.fe) x.Name).toNat).full))) 98]⟩:St)) P [0,1,2,3,4,5] (by kernel_rfl) ?_;have e5:((Zd.putE x2.Params.l (l.map Zd.ew) (er (tr ((bd (Zc.find (d.map Zc.fe) x.Name).toNat).x) ((A 2).gt 0)))).n)=(Zd.growT (d.map Zc.fe) bd (er x)).n:=by rw [er_tr,C,Zd.growT_er,if_pos h3,if_neg (by rw [B];simp),D];rfl
   have e6:((Zd.putE x2.Params.l (l.map Zd.ew) (er (tr ((bd (Zc.find (d.map Zc.fe) x.Name).toNat).x) ((A 2).gt 0)))).v)=(Zd.growT (d.map Zc.fe) bd (er x)).v:=by rw [er_tr,C,Zd.growT_er,if_pos h3,if_neg (by rw [B];simp),D];rfl
   have e7:((Zd.putE x2.Params.l (l.map Zd.ew) (er (tr ((bd (Zc.find (d.map Zc.fe) x.Name).toNat).x) ((A 2).gt 0)))).full)=(Zd.growT (d.map Zc.fe) bd (er x)).full:=by rw [er_tr,C,Zd.growT_er,if_pos h3,if_neg (by rw [B];simp),D];rfl
   have Q:(Zd.Qm d.length bd) m3:=by first | exact I | exact ai
   refine V.clM 1 false true (Zd.Qm d.length bd) i m3 (by kernel_rfl) Q ?_;exact V.retG [o] [3] [(tr ((Zd.growT (d.map Zc.fe) bd (er x)).x) o).Args.s] [] [] [5] [0,1] (ag (Dwhole.mk (tr ((Zd.growT (d.map Zc.fe) bd (er x)).x) o) ((Zd.putE x2.Params.l (l.map Zd.ew) (er (tr ((bd (Zc.find (d.map Zc.fe) x.Name).toNat).x) ((A 2).gt 0)))).n) ((Zd.putE x2.Params.l (l.map Zd.ew) (er (tr ((bd (Zc.find (d.map Zc.fe) x.Name).toNat).x) ((A 2).gt 0)))).v) ((Zd.putE x2.Params.l (l.map Zd.ew) (er (tr ((bd (Zc.find (d.map Zc.fe) x.Name).toNat).x) ((A 2).gt 0)))).full))) (fun _ _=>by kernel_rfl) (fun _ _=>(Eq.trans (by kernel_rfl) (cong3 (fun (X Y:Int) (Z:Bool)=>(.agg #[iv ((tr ((Zd.growT (d.map Zc.fe) bd (er x)).x) o).Op),iv ((tr ((Zd.growT (d.map Zc.fe) bd (er x)).x) o).N),tv ((tr ((Zd.growT (d.map Zc.fe) bd (er x)).x) o).Unit),tv ((tr ((Zd.growT (d.map Zc.fe) bd (er x)).x) o).Name),((tr ((Zd.growT (d.map Zc.fe) bd (er x)).x) o).Args.s).v,iv X,iv Y,bv Z]:Value)) e5 e6 e7)).trans (by kernel_rfl)) (fun _ _=>trivial)
  refine vG [.u 1,.s 3] fun aD=>?_;intro _ _
  refine V.nilF (α:=DExpr) ?_;have M:er (DExpr.mk 0 0 ByteArray.empty ByteArray.empty ⟨([]:List DExpr),{}⟩)=(Zd.growT (d.map Zc.fe) bd (er x)).x:=by rw [Zd.growT_er,if_pos h3,if_pos q6];rfl
  obtain ⟨o,P⟩:=tr_ex M;refine V.alt (fun (zz:DExpr)=>(⟨[(4,pp ((G1 1).b) 0)],[fs false x.Args.l x.Args.s,fs false d j,fs false ((tr ((bd (Zc.find (d.map Zc.fe) x.Name).toNat).x) ((A 2).gt 0)).Args.l) ((tr ((bd (Zc.find (d.map Zc.fe) x.Name).toNat).x) ((A 2).gt 0)).Args.s),fs true zz.Args.l zz.Args.s],[.blk qb #[j.v,.map (some i)] 96,mp false true m3 i,.blk ((G1 0).b) (ca x) 48,.blk ((G1 1).b) (ca (Dwhole.mk zz 0 0 true)) 98,.no,os false 98 l ls,.blk ((A 3).b) (ca (Dwhole.mk (tr ((bd (Zc.find (d.map Zc.fe) x.Name).toNat).x) ((A 2).gt 0)) ((bd (Zc.find (d.map Zc.fe) x.Name).toNat).n) ((bd (Zc.find (d.map Zc.fe) x.Name).toNat).v) ((bd (Zc.find (d.map Zc.fe) x.Name).toNat).full))) 98]⟩:St)) P [0,1,2,3] (by kernel_rfl) ?_;have e5:(0:Int)=(Zd.growT (d.map Zc.fe) bd (er x)).n:=by rw [Zd.growT_er,if_pos h3,if_pos q6];rfl
  have e6:(0:Int)=(Zd.growT (d.map Zc.fe) bd (er x)).v:=by rw [Zd.growT_er,if_pos h3,if_pos q6];rfl
  have e7:true=(Zd.growT (d.map Zc.fe) bd (er x)).full:=by rw [Zd.growT_er,if_pos h3,if_pos q6];rfl
  have Q:(Zd.Qm d.length bd) m3:=by first | exact I | exact ai
  refine V.clM 1 false true (Zd.Qm d.length bd) i m3 (by kernel_rfl) Q ?_;exact V.retG [o] [3] [(tr ((Zd.growT (d.map Zc.fe) bd (er x)).x) o).Args.s] [] [] [3] [0,1] (ag (Dwhole.mk (tr ((Zd.growT (d.map Zc.fe) bd (er x)).x) o) 0 0 true)) (fun _ _=>by kernel_rfl) (fun _ _=>(Eq.trans (by kernel_rfl) (cong3 (fun (X Y:Int) (Z:Bool)=>(.agg #[iv ((tr ((Zd.growT (d.map Zc.fe) bd (er x)).x) o).Op),iv ((tr ((Zd.growT (d.map Zc.fe) bd (er x)).x) o).N),tv ((tr ((Zd.growT (d.map Zc.fe) bd (er x)).x) o).Unit),tv ((tr ((Zd.growT (d.map Zc.fe) bd (er x)).x) o).Name),((tr ((Zd.growT (d.map Zc.fe) bd (er x)).x) o).Args.s).v,iv X,iv Y,bv Z]:Value)) e5 e6 e7)).trans (by kernel_rfl)) (fun _ _=>trivial)
theorem cex_ct (qb:Nat) (b:List DFunc) (f:SV) (h:List (Int × Dwhole)) (d:Nat) (x:DExpr) (bd:Nat→Zd.WE) (rk:Nat→Nat) (hD:Zd.BD (b.map Zc.fe) bd rk) (hQ:Zd.Qm b.length bd h) (hU:Zc.anyN (Zc.unk (b.map Zc.fe)) (er x)=false) (hV:Zc.anyN (Zc.unev (b.map Zc.fe)) (er x)=false) (hB:Fx.sz (er x)≤1000) :
  Ct Tryz.prog 55 #[pp qb 0,ag x] [fs true b f,fs true x.Args.l x.Args.s] [.blk qb #[f.v,.map (some d)] 96,mp false true h d] (fun g=>ag (Dwhole.mk (tr ((Zd.growT (b.map Zc.fe) bd (er x)).x) (g.gt 0)) ((Zd.growT (b.map Zc.fe) bd (er x)).n) ((Zd.growT (b.map Zc.fe) bd (er x)).v) ((Zd.growT (b.map Zc.fe) bd (er x)).full))) (fun g=>[fs false ((tr ((Zd.growT (b.map Zc.fe) bd (er x)).x) (g.gt 0)).Args.l) ((tr ((Zd.growT (b.map Zc.fe) bd (er x)).x) (g.gt 0)).Args.s)]) (fun g=>[.blk qb #[f.v,.map (some d)] 96,mpE false true (Zd.Qm b.length bd) d]) (fun g=>[]):=cex_ct_n (Zd.mu (b.map Zc.fe) rk (er x)+1) qb b f h d x bd rk hD hQ hU hV hB (Nat.lt_succ_self _)

theorem cXp_ct (x:DExpr) (d:List DFunc) (f:SV) (hS:∀ x ∈ d,Sx.tx x.Name∧(∀ q ∈ x.Params.l,Sx.tx q.Name∧Sx.tx q.Unit)∧Fx.sm (er x.Body)) (hX:Fx.sm (er x)) :
  Ct Tryz.prog 24 #[ag x,f.v] [fs true x.Args.l x.Args.s,fs true d f] [] (fun g=>.tuple #[ag (tr ((Zd.xpd (d.map Zc.fe) (er x)).1) (g.gt 0)),iv ((Zd.xpd (d.map Zc.fe) (er x)).2)]) (fun g=>[fs true ((tr ((Zd.xpd (d.map Zc.fe) (er x)).1) (g.gt 0)).Args.l) ((tr ((Zd.xpd (d.map Zc.fe) (er x)).1) (g.gt 0)).Args.s)]) eF eF:=by
 refine vf mo Tryz.func24 43 5 fun _=>?_
 refine vG [.n 0,.n 1,.u 1] fun G1=>?_;intro _ _
 refine nm ((!(decide (Fx.rt (er x)))) || (!(decide (Zc.Check (d.map Zc.fe)=0))):Bool) fun p1 B=>vG [.l 0,.cP 1 25 [kA 0 x.Args.l x.Args.s] fun G=>frt_ct x hX,.u 3,.cp (gF (b:=!(decide (Fx.rt (er x)))) (iNF iDT)) 5 51 [kA 1 d f] (fun hg G=>cChk_ct d f hS),.u 1,.orn g0 false (!(decide (Fx.rt (er x)))) (!(decide (Zc.Check (d.map Zc.fe)=0))) p1 B,.u 1] fun G2=>?_;intro _ _
 refine V.cn (b:=p1) (iN B (iOT (iNT iDF) (iNT iDF))) (iN B (iOF (iNF iDT) (iNF iDT))) (fun q1=>?_) (fun q2=>?_)
 ·refine vG [.u 1,.s 1,.u 1] fun G3=>?_;intro _ _
  refine V.nilF (α:=DExpr) ?_;have i:er (DExpr.mk 0 0 ByteArray.empty ByteArray.empty ⟨([]:List DExpr),{}⟩)=(Zd.xpd (d.map Zc.fe) (er x)).1:=by rw [Zd.xpd2 (by first | exact q1 | exact q1.imp id id | grind)];rfl
  obtain ⟨h,j⟩:=tr_ex i;refine V.alt (fun (zz:DExpr)=>(⟨[(4,pp ((G1 1).b) 0),(5,iv 2)],[fs false x.Args.l x.Args.s,fs false d f,fs true zz.Args.l zz.Args.s],[.blk ((G1 0).b) (ca x) 48,.blk ((G1 1).b) (ca zz) 48,.no,.no,.no]⟩:St)) j [0,1,2] (by kernel_rfl) ?_;have e5:(2:Int)=(Zd.xpd (d.map Zc.fe) (er x)).2:=by rw [Zd.xpd2 (by first | exact q1 | exact q1.imp id id | grind)]
  exact V.retG [h] [1,0] [(tr ((Zd.xpd (d.map Zc.fe) (er x)).1) h).Args.s] [] [] [2] [] (.tuple #[ag (tr ((Zd.xpd (d.map Zc.fe) (er x)).1) h),iv 2]) (fun _ _=>by kernel_rfl) (fun _ _=>(Eq.trans (by kernel_rfl) (cong1 (fun (o:Int)=>(.tuple #[.agg #[iv ((tr ((Zd.xpd (d.map Zc.fe) (er x)).1) h).Op),iv ((tr ((Zd.xpd (d.map Zc.fe) (er x)).1) h).N),tv ((tr ((Zd.xpd (d.map Zc.fe) (er x)).1) h).Unit),tv ((tr ((Zd.xpd (d.map Zc.fe) (er x)).1) h).Name),((tr ((Zd.xpd (d.map Zc.fe) (er x)).1) h).Args.s).v],iv o]:Value)) e5)).trans (by kernel_rfl)) (fun _ _=>trivial)
 have t:Fx.rt (er x):=by first | exact q2.1 | exact Decidable.not_not.1 q2.1
 have w:Zc.Check (d.map Zc.fe)=0:=by first | exact q2.2 | exact Decidable.not_not.1 q2.2
 refine vG [.l 0,.u 1,.cB 2 53 true [] [] [kA 1 d f] fun G=>cunk_ct d f,.cP 3 52 [kA 0 x.Args.l x.Args.s,(kf false (.g 2 0) ([⟨d,f⟩]:List (Fat DFunc)) (fun G=>⟨atB ((G 2).bs 0),1,1⟩)).a] fun G=>cs2_ct x ((G 2).bs 0) d f,.u 1] fun G4=>?_;intro _ _
 refine vc (Zc.anyN (Zc.unk (d.map Zc.fe)) (er x)) (fun q3=>?_) fun q4=>?_
 ·refine vG [.u 1,.s 1,.u 1] fun G5=>?_;intro _ _
  refine V.nilF (α:=DExpr) ?_;have i:er (DExpr.mk 0 0 ByteArray.empty ByteArray.empty ⟨([]:List DExpr),{}⟩)=(Zd.xpd (d.map Zc.fe) (er x)).1:=by rw [Zd.xpd11 t w q3];rfl
  obtain ⟨h,j⟩:=tr_ex i;refine V.alt (fun (zz:DExpr)=>(⟨[(4,pp ((G1 1).b) 0),(5,iv 11)],[fs false x.Args.l x.Args.s,fs false d f,fs false ([⟨d,f⟩]:List (Fat DFunc)) ⟨atB ((G4 2).bs 0),1,1⟩,fs true zz.Args.l zz.Args.s],[.blk ((G1 0).b) (ca x) 48,.blk ((G1 1).b) (ca zz) 48,.no,.no,.no]⟩:St)) j [0,1,2,3] (by kernel_rfl) ?_;have e5:(11:Int)=(Zd.xpd (d.map Zc.fe) (er x)).2:=by rw [Zd.xpd11 t w q3]
  exact V.retG [h] [1,0] [(tr ((Zd.xpd (d.map Zc.fe) (er x)).1) h).Args.s] [] [] [3] [] (.tuple #[ag (tr ((Zd.xpd (d.map Zc.fe) (er x)).1) h),iv 11]) (fun _ _=>by kernel_rfl) (fun _ _=>(Eq.trans (by kernel_rfl) (cong1 (fun (o:Int)=>(.tuple #[.agg #[iv ((tr ((Zd.xpd (d.map Zc.fe) (er x)).1) h).Op),iv ((tr ((Zd.xpd (d.map Zc.fe) (er x)).1) h).N),tv ((tr ((Zd.xpd (d.map Zc.fe) (er x)).1) h).Unit),tv ((tr ((Zd.xpd (d.map Zc.fe) (er x)).1) h).Name),((tr ((Zd.xpd (d.map Zc.fe) (er x)).1) h).Args.s).v],iv o]:Value)) e5)).trans (by kernel_rfl)) (fun _ _=>trivial)
 have hu:Zc.anyN (Zc.unk (d.map Zc.fe)) (er x)=false:=q4;refine vG [.l 0,.u 1,.cB 2 54 true [] [] [kA 1 d f] fun G=>cunv_ct d f,.cP 3 52 [kA 0 x.Args.l x.Args.s,(kf false (.g 2 0) ([⟨d,f⟩]:List (Fat DFunc)) (fun G=>⟨atB ((G 2).bs 0),1,1⟩)).a] fun G=>cs3_ct x ((G 2).bs 0) d f hu,.u 1] fun G6=>?_;intro _ _
 refine vc (Zc.anyN (Zc.unev (d.map Zc.fe)) (er x)) (fun q5=>?_) fun q6=>?_
 ·refine vG [.u 1,.s 1,.u 1] fun G7=>?_;intro _ _
  refine V.nilF (α:=DExpr) ?_;have i:er (DExpr.mk 0 0 ByteArray.empty ByteArray.empty ⟨([]:List DExpr),{}⟩)=(Zd.xpd (d.map Zc.fe) (er x)).1:=by rw [Zd.xpd1 t w hu q5];rfl
  obtain ⟨h,j⟩:=tr_ex i;refine V.alt (fun (zz:DExpr)=>(⟨[(4,pp ((G1 1).b) 0),(5,iv 1)],[fs false x.Args.l x.Args.s,fs false d f,fs false ([⟨d,f⟩]:List (Fat DFunc)) ⟨atB ((G4 2).bs 0),1,1⟩,fs false ([⟨d,f⟩]:List (Fat DFunc)) ⟨atB ((G6 2).bs 0),1,1⟩,fs true zz.Args.l zz.Args.s],[.blk ((G1 0).b) (ca x) 48,.blk ((G1 1).b) (ca zz) 48,.no,.no,.no]⟩:St)) j [0,1,2,3,4] (by kernel_rfl) ?_;have e5:(1:Int)=(Zd.xpd (d.map Zc.fe) (er x)).2:=by rw [Zd.xpd1 t w hu q5]
  exact V.retG [h] [1,0] [(tr ((Zd.xpd (d.map Zc.fe) (er x)).1) h).Args.s] [] [] [4] [] (.tuple #[ag (tr ((Zd.xpd (d.map Zc.fe) (er x)).1) h),iv 1]) (fun _ _=>by kernel_rfl) (fun _ _=>(Eq.trans (by kernel_rfl) (cong1 (fun (o:Int)=>(.tuple #[.agg #[iv ((tr ((Zd.xpd (d.map Zc.fe) (er x)).1) h).Op),iv ((tr ((Zd.xpd (d.map Zc.fe) (er x)).1) h).N),tv ((tr ((Zd.xpd (d.map Zc.fe) (er x)).1) h).Unit),tv ((tr ((Zd.xpd (d.map Zc.fe) (er x)).1) h).Name),((tr ((Zd.xpd (d.map Zc.fe) (er x)).1) h).Args.s).v],iv o]:Value)) e5)).trans (by kernel_rfl)) (fun _ _=>trivial)
 have hv:Zc.anyN (Zc.unev (d.map Zc.fe)) (er x)=false:=q6;obtain ⟨rk,hD⟩:=Zd.bdF_spec w;have D:=Fx.sz_pos (er x);have E:=Zd.rt_sz t;refine vG [.u 1,.mm Int Dwhole 1 2 true,.u 1,.n 3,.u 1] fun G8=>?_;intro _ _
 refine vG [.u 1,.l 0,.cB 2 55 true [3,2] [] [kA 1 d f,kA 0 x.Args.l x.Args.s] fun G=>cex_ct ((G8 3).b) d f ([]:List (Int × Dwhole)) ((G8 1).b) x (Zd.bdF (d.map Zc.fe)) rk hD Zd.Qm_nil hu hv (by omega),.n 4,.s 4] fun G9=>?_;intro _ _
 refine V.opM 2 false true (Zd.Qm d.length (Zd.bdF (d.map Zc.fe))) ((G8 1).b) (by kernel_rfl) fun m1 H=>vG [.u 1,.l 4] fun I=>?_;intro _ _
 refine vc ((Zd.growT (d.map Zc.fe) (Zd.bdF (d.map Zc.fe)) (er x)).full) (fun q7=>?_) fun q8=>?_
 ·refine vG [.u 1,.s 1,.u 1] fun M=>?_;intro _ _
  refine V.nilF (α:=DExpr) ?_;have i:er (DExpr.mk 0 0 ByteArray.empty ByteArray.empty ⟨([]:List DExpr),{}⟩)=(Zd.xpd (d.map Zc.fe) (er x)).1:=by rw [Zd.xpd6 t w hu hv q7];rfl
  obtain ⟨h,j⟩:=tr_ex i;refine V.alt (fun (zz:DExpr)=>(⟨[(4,pp ((G1 1).b) 0),(5,iv 6)],[fs false x.Args.l x.Args.s,fs false d f,fs false ([⟨d,f⟩]:List (Fat DFunc)) ⟨atB ((G4 2).bs 0),1,1⟩,fs false ([⟨d,f⟩]:List (Fat DFunc)) ⟨atB ((G6 2).bs 0),1,1⟩,fs false ((tr ((Zd.growT (d.map Zc.fe) (Zd.bdF (d.map Zc.fe)) (er x)).x) ((G9 2).gt 0)).Args.l) ((tr ((Zd.growT (d.map Zc.fe) (Zd.bdF (d.map Zc.fe)) (er x)).x) ((G9 2).gt 0)).Args.s),fs true zz.Args.l zz.Args.s],[.blk ((G1 0).b) (ca x) 48,.blk ((G1 1).b) (ca zz) 48,mp false true m1 ((G8 1).b),.blk ((G8 3).b) #[f.v,.map (some ((G8 1).b))] 96,.blk ((G9 3).b) (ca (Dwhole.mk (tr ((Zd.growT (d.map Zc.fe) (Zd.bdF (d.map Zc.fe)) (er x)).x) ((G9 2).gt 0)) ((Zd.growT (d.map Zc.fe) (Zd.bdF (d.map Zc.fe)) (er x)).n) ((Zd.growT (d.map Zc.fe) (Zd.bdF (d.map Zc.fe)) (er x)).v) ((Zd.growT (d.map Zc.fe) (Zd.bdF (d.map Zc.fe)) (er x)).full))) 98]⟩:St)) j [0,1,2,3,4,5] (by kernel_rfl) ?_;have e5:(6:Int)=(Zd.xpd (d.map Zc.fe) (er x)).2:=by rw [Zd.xpd6 t w hu hv q7]
  exact V.retG [h] [1,0] [(tr ((Zd.xpd (d.map Zc.fe) (er x)).1) h).Args.s] [] [] [5] [] (.tuple #[ag (tr ((Zd.xpd (d.map Zc.fe) (er x)).1) h),iv 6]) (fun _ _=>by kernel_rfl) (fun _ _=>(Eq.trans (by kernel_rfl) (cong1 (fun (o:Int)=>(.tuple #[.agg #[iv ((tr ((Zd.xpd (d.map Zc.fe) (er x)).1) h).Op),iv ((tr ((Zd.xpd (d.map Zc.fe) (er x)).1) h).N),tv ((tr ((Zd.xpd (d.map Zc.fe) (er x)).1) h).Unit),tv ((tr ((Zd.xpd (d.map Zc.fe) (er x)).1) h).Name),((tr ((Zd.xpd (d.map Zc.fe) (er x)).1) h).Args.s).v],iv o]:Value)) e5)).trans (by kernel_rfl)) (fun _ _=>trivial)
 have A:(Zd.growT (d.map Zc.fe) (Zd.bdF (d.map Zc.fe)) (er x)).full=false:=q8;have P:=Zd.growT_sz A;refine vG [.u 1,.l 4,.cA 2 56 [kA 4 ((tr ((Zd.growT (d.map Zc.fe) (Zd.bdF (d.map Zc.fe)) (er x)).x) ((G9 2).gt 0)).Args.l) (tr ((Zd.growT (d.map Zc.fe) (Zd.bdF (d.map Zc.fe)) (er x)).x) ((G9 2).gt 0)).Args.s] fun G=>cco_ct (tr ((Zd.growT (d.map Zc.fe) (Zd.bdF (d.map Zc.fe)) (er x)).x) ((G9 2).gt 0)) (by rw [er_tr];omega),.s 1,.u 1] fun C=>?_;intro _ _
 have i:er (tr (er (tr ((Zd.growT (d.map Zc.fe) (Zd.bdF (d.map Zc.fe)) (er x)).x) ((G9 2).gt 0))) ((C 2).gt 0))=(Zd.xpd (d.map Zc.fe) (er x)).1:=by rw [er_tr,er_tr,Zd.xpd0 t w hu hv A]
 obtain ⟨h,j⟩:=tr_ex i;refine V.alt (fun (zz:DExpr)=>(⟨[(4,pp ((G1 1).b) 0),(5,iv 0)],[fs false x.Args.l x.Args.s,fs false d f,fs false ([⟨d,f⟩]:List (Fat DFunc)) ⟨atB ((G4 2).bs 0),1,1⟩,fs false ([⟨d,f⟩]:List (Fat DFunc)) ⟨atB ((G6 2).bs 0),1,1⟩,fs false ((tr ((Zd.growT (d.map Zc.fe) (Zd.bdF (d.map Zc.fe)) (er x)).x) ((G9 2).gt 0)).Args.l) ((tr ((Zd.growT (d.map Zc.fe) (Zd.bdF (d.map Zc.fe)) (er x)).x) ((G9 2).gt 0)).Args.s),fs true zz.Args.l zz.Args.s],[.blk ((G1 0).b) (ca x) 48,.blk ((G1 1).b) (ca zz) 48,mp false true m1 ((G8 1).b),.blk ((G8 3).b) #[f.v,.map (some ((G8 1).b))] 96,.blk ((G9 3).b) (ca (Dwhole.mk (tr ((Zd.growT (d.map Zc.fe) (Zd.bdF (d.map Zc.fe)) (er x)).x) ((G9 2).gt 0)) ((Zd.growT (d.map Zc.fe) (Zd.bdF (d.map Zc.fe)) (er x)).n) ((Zd.growT (d.map Zc.fe) (Zd.bdF (d.map Zc.fe)) (er x)).v) ((Zd.growT (d.map Zc.fe) (Zd.bdF (d.map Zc.fe)) (er x)).full))) 98]⟩:St)) j [0,1,2,3,4,5] (by kernel_rfl) ?_;have e5:(0:Int)=(Zd.xpd (d.map Zc.fe) (er x)).2:=by rw [Zd.xpd0 t w hu hv A]
 exact V.retG [h] [1,0] [(tr ((Zd.xpd (d.map Zc.fe) (er x)).1) h).Args.s] [] [] [5] [] (.tuple #[ag (tr ((Zd.xpd (d.map Zc.fe) (er x)).1) h),iv 0]) (fun _ _=>by kernel_rfl) (fun _ _=>(Eq.trans (by kernel_rfl) (cong1 (fun (o:Int)=>(.tuple #[.agg #[iv ((tr ((Zd.xpd (d.map Zc.fe) (er x)).1) h).Op),iv ((tr ((Zd.xpd (d.map Zc.fe) (er x)).1) h).N),tv ((tr ((Zd.xpd (d.map Zc.fe) (er x)).1) h).Unit),tv ((tr ((Zd.xpd (d.map Zc.fe) (er x)).1) h).Name),((tr ((Zd.xpd (d.map Zc.fe) (er x)).1) h).Args.s).v],iv o]:Value)) e5)).trans (by kernel_rfl)) (fun _ _=>trivial)

theorem oex_ct (r:BA) (i:List DImport) (y:SV) (k:List DInput) (z:SV) (m:List DTable) (A:SV) (c:List DFunc) (x:SV) (d:List DCell) (t:SV) (o:List DPort) (B:SV) (p:List DStore) (C:SV) (q:List DRecipe) (D:SV) (hS:Sx.Sml r i k m c d o p q) (hL:(i.length:Int)+k.length+m.length+c.length+d.length+o.length+p.length+q.length≤100000000) :
  Ct Tryz.prog 37 #[ag (DSheet.mk r ⟨i,y⟩ ⟨k,z⟩ ⟨m,A⟩ ⟨c,x⟩ ⟨d,t⟩ ⟨o,B⟩ ⟨p,C⟩ ⟨q,D⟩)] [fs true i y,fs true k z,fs true m A,fs true c x,fs true d t,fs true o B,fs true p C,fs true q D] [] (fun g=>.tuple #[((tr (Zd.nd (if (Zo.snd r i k m c d o p q) then Zo.exs (c.map Zc.fe) d else [])) (g.gt 0)).Args.s).v,bv (decide (Zo.snd r i k m c d o p q))]) (fun g=>[fs true ((tr (Zd.nd (if (Zo.snd r i k m c d o p q) then Zo.exs (c.map Zc.fe) d else [])) (g.gt 0)).Args.l) ((tr (Zd.nd (if (Zo.snd r i k m c d o p q) then Zo.exs (c.map Zc.fe) d else [])) (g.gt 0)).Args.s)]) eF eF:=by
 refine vf mo Tryz.func37 46 4 fun _=>?_
 refine vG [.n 0,.u 1,.kb false] fun G1=>?_;intro _ _
 refine nm ((!(decide (Sx.Rt r i k m c d o p q))) || (!(decide (Zc.Check (c.map Zc.fe)=0))):Bool) fun p1 ab=>vG [.l 0,.cP 1 20 [kA 0 i y,kA 1 k z,kA 2 m A,kA 3 c x,kA 4 d t,kA 5 o B,kA 6 p C,kA 7 q D] fun G=>srgt_ct r i y k z m A c x d t o B p C q D hS hL,.u 3,.l 0,.cp (gF (b:=!(decide (Sx.Rt r i k m c d o p q))) (iNF iDT)) 6 51 [kA 3 c x] (fun hg G=>cChk_ct c x hS.fun_),.u 1,.orn g0 false (!(decide (Sx.Rt r i k m c d o p q))) (!(decide (Zc.Check (c.map Zc.fe)=0))) p1 ab] fun G2=>?_;intro _ _
 refine V.cn (b:=p1) (iN ab (iOT (iNT iDF) (iNT iDF))) (iN ab (iOF (iNF iDT) (iNF iDT))) (fun q1=>?_) (fun q2=>?_)
 ·refine vG [.u 1,.kb false] fun G3=>?_;intro _ _
  refine V.nilF (α:=DExpr) ?_;have Q:er (DExpr.mk 0 0 ByteArray.empty ByteArray.empty ⟨([]:List DExpr),{}⟩)=Zd.nd (if (Zo.snd r i k m c d o p q) then Zo.exs (c.map Zc.fe) d else []):=by
   have M:¬ (Zo.snd r i k m c d o p q):=by rintro ⟨⟨h1,h2⟩,_⟩;rcases q1 with h | h;exact h h1;exact h h2
   exact Zd.nd_of (by rw [if_neg M];rfl)
  obtain ⟨E,X⟩:=tr_ex Q;refine V.alt (fun (zz:DExpr)=>(⟨[(2,zz.Args.s.v),(3,bv false)],[fs false i y,fs false k z,fs false m A,fs false c x,fs false d t,fs false o B,fs false p C,fs false q D,fs true zz.Args.l zz.Args.s],[.blk ((G1 0).b) (ca (DSheet.mk r ⟨i,y⟩ ⟨k,z⟩ ⟨m,A⟩ ⟨c,x⟩ ⟨d,t⟩ ⟨o,B⟩ ⟨p,C⟩ ⟨q,D⟩)) 31,.no,.no,.no]⟩:St)) X [0,1,2,3,4,5,6,7,8] (by kernel_rfl) ?_;have e1:false=decide (Zo.snd r i k m c d o p q):=by
   have M:¬ (Zo.snd r i k m c d o p q):=by rintro ⟨⟨h1,h2⟩,_⟩;rcases q1 with h | h;exact h h1;exact h h2
   exact (decide_eq_false M).symm
  exact V.retG [E] [0,0] [(tr (Zd.nd (if (Zo.snd r i k m c d o p q) then Zo.exs (c.map Zc.fe) d else [])) E).Args.s] [] [] [8] [] (.tuple #[((tr (Zd.nd (if (Zo.snd r i k m c d o p q) then Zo.exs (c.map Zc.fe) d else [])) E).Args.s).v,bv false]) (fun _ _=>by kernel_rfl) (fun _ _=>(Eq.trans (by kernel_rfl) (cong1 (fun (Y:Bool)=>(.tuple #[((tr (Zd.nd (if (Zo.snd r i k m c d o p q) then Zo.exs (c.map Zc.fe) d else [])) E).Args.s).v,bv Y]:Value)) e1)).trans (by kernel_rfl)) (fun _ _=>trivial)
 refine nm (List.replicate (d.length:Int).toNat (default:DExpr):List DExpr) fun l1 af=>?_;have Z:=congrArg List.length af;try simp only [List.length_append,List.length_cons,List.length_nil,List.length_replicate,List.length_set,List.length_take,List.length_drop,List.length_map,List.length_reverse,List.length_range] at Z
 refine vG [.u 1,.l 0,.ln (kF 4 d t),.mks 3 1 48 72 (d.length:Int) l1 af (by omega) (by omega) (by omega),.u 1] fun G4=>?_;intro _ _
 refine vG [.u 1,.l 0,.ln (kF 4 d t),.u 1] fun G5=>?_;intro _ _
 refine V.lp (γ:=List DExpr × SV × Int) (fun ⟨I,w,k0⟩=>⟨[(1,pp ((G1 0).b) 0),(4,w.v),(23,t.v),(24,iv (d.length:Int)),(25,iv k0)],[fs false d t,fs false i y,fs false k z,fs false m A,fs false c x,fs false o B,fs false p C,fs false q D],[.blk ((G1 0).b) (ca (DSheet.mk r ⟨i,y⟩ ⟨k,z⟩ ⟨m,A⟩ ⟨c,x⟩ ⟨d,t⟩ ⟨o,B⟩ ⟨p,C⟩ ⟨q,D⟩)) 31,os true 48 I w,.no,.no]⟩) (fun ⟨I,w,k0⟩=>(0≤k0)∧(k0≤(d.length:Int))∧(I.length=d.length)∧(∀ j,j < k0.toNat→(Zd.xpd (c.map Zc.fe) (er (d.getD j default).Def)).2=0)∧(∀ j,j < k0.toNat→er (I.getD j default)=(Zd.xpd (c.map Zc.fe) (er (d.getD j default).Def)).1)) (fun ⟨I,w,k0⟩=>((d.length:Int)-k0).toNat) (l1,(G4 3).s,0) [4,0,1,2,3,5,6,7] ?_ ?_
 ·refine ⟨by omega,by omega,?_,?_,?_⟩
  ·show l1.length=d.length;rw [Z];omega
  ·show ∀ j,j < (0:Int).toNat→(Zd.xpd (c.map Zc.fe) (er (d.getD j default).Def)).2=0;intro j hj;simp at hj
  show ∀ j,j < (0:Int).toNat→er (l1.getD j default)=(Zd.xpd (c.map Zc.fe) (er (d.getD j default).Def)).1;intro j hj;simp at hj
 rintro ⟨I,w,k0⟩ hF1 kw6 Z1 hZ1;obtain ⟨ak,al,ah,ac,ai⟩:=hF1;refine vG [.u 1] fun G6=>?_;intro _ _;refine vd (k0 < (d.length:Int)) (fun q3=>?_) fun q4=>?_
 ·refine nm (d.getD k0.toNat default:DCell) fun x1 P=>vG [.u 1,.iX (kF 0 d t) k0,.lE (kF 0 d t) k0 true x1 P true,.n 2,.u 1,.s 2] fun G7=>?_;intro _ _
  refine vG [.u 1,.l 2,.u 1,.l 0,.cA 4 24 [(kx false (.f 8) x1 x1.Def.Args.l (fun _=>x1.Def.Args.s) (fun _ H (h:Dat.good H (x1:DCell))=>(exG.1 h))).a,kA 4 c x] fun G=>cXp_ct x1.Def c x hS.fun_ (hS.cel _ (getD_mem (by omega) P)).2.2,.u 3,.n 3,.s 3,.u 1] fun G8=>?_;intro _ _
  refine vG [.u 2] fun G9=>?_;intro _ _
  refine vn ((Zd.xpd (c.map Zc.fe) (er x1.Def)).2=0) (fun q5=>?_) fun q6=>?_
  ·refine vG [.u 1,.kb false] fun am=>?_;intro _ _
   refine V.nilF (α:=DExpr) ?_;have Q:er (DExpr.mk 0 0 ByteArray.empty ByteArray.empty ⟨([]:List DExpr),{}⟩)=Zd.nd (if (Zo.snd r i k m c d o p q) then Zo.exs (c.map Zc.fe) d else []):=by
    have M:¬ (Zo.snd r i k m c d o p q):=by rintro ⟨_,h3⟩;rw [Zo.okE_no (by omega) (by omega) P q5] at h3;cases h3
    exact Zd.nd_of (by rw [if_neg M];rfl)
   obtain ⟨E,X⟩:=tr_ex Q;refine V.alt (fun (zz:DExpr)=>(⟨[(2,zz.Args.s.v),(3,bv false)],[fs false d t,fs false i y,fs false k z,fs false m A,fs false c x,fs false o B,fs false p C,fs false q D,gf false x1,fs true ((tr ((Zd.xpd (c.map Zc.fe) (er x1.Def)).1) ((G8 4).gt 0)).Args.l) ((tr ((Zd.xpd (c.map Zc.fe) (er x1.Def)).1) ((G8 4).gt 0)).Args.s),fs true zz.Args.l zz.Args.s],[.blk ((G1 0).b) (ca (DSheet.mk r ⟨i,y⟩ ⟨k,z⟩ ⟨m,A⟩ ⟨c,x⟩ ⟨d,t⟩ ⟨o,B⟩ ⟨p,C⟩ ⟨q,D⟩)) 31,os true 48 I w,.blk ((G7 3).b) (ca x1) 52,.blk ((G8 8).b) (ca (tr ((Zd.xpd (c.map Zc.fe) (er x1.Def)).1) ((G8 4).gt 0))) 48]⟩:St)) X [0,1,2,3,4,5,6,7,8,9,10] (by kernel_rfl) ?_;have e1:false=decide (Zo.snd r i k m c d o p q):=by
    have M:¬ (Zo.snd r i k m c d o p q):=by rintro ⟨_,h3⟩;rw [Zo.okE_no (by omega) (by omega) P q5] at h3;cases h3
    exact (decide_eq_false M).symm
   exact V.retG [E] [0,0] [(tr (Zd.nd (if (Zo.snd r i k m c d o p q) then Zo.exs (c.map Zc.fe) d else [])) E).Args.s] [] [] [10] [] (.tuple #[((tr (Zd.nd (if (Zo.snd r i k m c d o p q) then Zo.exs (c.map Zc.fe) d else [])) E).Args.s).v,bv false]) (fun _ _=>by kernel_rfl) (fun _ _=>(Eq.trans (by kernel_rfl) (cong1 (fun (Y:Bool)=>(.tuple #[((tr (Zd.nd (if (Zo.snd r i k m c d o p q) then Zo.exs (c.map Zc.fe) d else [])) E).Args.s).v,bv Y]:Value)) e1)).trans (by kernel_rfl)) (fun _ _=>trivial)
  refine nm (I.getD k0.toNat default:DExpr) fun x2 aj=>nm (I.set k0.toNat (tr ((Zd.xpd (c.map Zc.fe) (er x1.Def)).1) ((G8 4).gt 0)):List DExpr) fun l2 ad=>vG [.u 2,.l 3,.iX (kO 48 1 I w) k0,.se g0 4 1 48 true I (fun _=>w) k0 none x2 (tr ((Zd.xpd (c.map Zc.fe) (er x1.Def)).1) ((G8 4).gt 0)) aj true l2 ad (fun _=>⟨by omega,by omega⟩) (fun _=>rfl) [kB 9 ((tr ((Zd.xpd (c.map Zc.fe) (er x1.Def)).1) ((G8 4).gt 0)).Args.l) (tr ((Zd.xpd (c.map Zc.fe) (er x1.Def)).1) ((G8 4).gt 0)).Args.s] (fun _ _ ho h=>(exG.2 h.1))] fun an=>?_;intro _ _
  refine vG [.aa (k0+1),.u 1] fun ao=>?_;intro _ _
  refine V.rn hZ1 (l2,w,k0+1) [0,1,2,3,4,5,6,7] ?_ ?_
  ·refine ⟨by omega,by omega,?_,?_,?_⟩
   ·show l2.length=d.length;rw [ad,List.length_set];exact ah
   ·show ∀ j,j < (k0+1).toNat→(Zd.xpd (c.map Zc.fe) (er (d.getD j default).Def)).2=0;intro j hj;by_cases e:j < k0.toNat
    ·exact ac j e
    rw [show j=k0.toNat by omega,← P];exact (by first | exact q6 | exact Decidable.not_not.1 q6)
   show ∀ j,j < (k0+1).toNat→er (l2.getD j default)=(Zd.xpd (c.map Zc.fe) (er (d.getD j default).Def)).1;intro j hj;rw [ad,Zo.set_getD];by_cases e:j < k0.toNat
   ·rw [if_neg (by omega)];exact ai j e
   rw [if_pos (by omega),er_tr,show j=k0.toNat by omega,← P]
  dsimp only;omega
 refine vG [.u 2,.kb true] fun aq=>?_;intro _ _
 refine V.frz 1 true 48 I w (by kernel_rfl) ?_;have Q:er (DExpr.mk 0 0 ByteArray.empty ByteArray.empty ⟨I,w⟩)=Zd.nd (if (Zo.snd r i k m c d o p q) then Zo.exs (c.map Zc.fe) d else []):=by
  have ae:(Zo.snd r i k m c d o p q):=by refine ⟨?_,Zo.okE_all fun j hj=>ac j (by omega)⟩;first | exact q2 | exact ⟨Decidable.not_not.1 q2.1,Decidable.not_not.1 q2.2⟩ | grind
  exact Zd.nd_of (by rw [if_pos ae];exact Zo.exs_of ah (fun j hj=>ai j (by omega)))
 obtain ⟨E,X⟩:=tr_ex Q;refine V.alt (fun (zz:DExpr)=>(⟨[(2,zz.Args.s.v),(3,bv true)],[fs false d t,fs false i y,fs false k z,fs false m A,fs false c x,fs false o B,fs false p C,fs false q D,fs true zz.Args.l zz.Args.s],[.blk ((G1 0).b) (ca (DSheet.mk r ⟨i,y⟩ ⟨k,z⟩ ⟨m,A⟩ ⟨c,x⟩ ⟨d,t⟩ ⟨o,B⟩ ⟨p,C⟩ ⟨q,D⟩)) 31,.no,.no,.no]⟩:St)) X [0,1,2,3,4,5,6,7,8] (by kernel_rfl) ?_;have e1:true=decide (Zo.snd r i k m c d o p q):=by
  have ae:(Zo.snd r i k m c d o p q):=by refine ⟨?_,Zo.okE_all fun j hj=>ac j (by omega)⟩;first | exact q2 | exact ⟨Decidable.not_not.1 q2.1,Decidable.not_not.1 q2.2⟩ | grind
  exact (decide_eq_true ae).symm
 exact V.retG [E] [0,0] [(tr (Zd.nd (if (Zo.snd r i k m c d o p q) then Zo.exs (c.map Zc.fe) d else [])) E).Args.s] [] [] [8] [] (.tuple #[((tr (Zd.nd (if (Zo.snd r i k m c d o p q) then Zo.exs (c.map Zc.fe) d else [])) E).Args.s).v,bv true]) (fun _ _=>by kernel_rfl) (fun _ _=>(Eq.trans (by kernel_rfl) (cong1 (fun (Y:Bool)=>(.tuple #[((tr (Zd.nd (if (Zo.snd r i k m c d o p q) then Zo.exs (c.map Zc.fe) d else [])) E).Args.s).v,bv Y]:Value)) e1)).trans (by kernel_rfl)) (fun _ _=>trivial)

open Go
structure TabX (T:TypeId) (k:Option Nat) (R:List (List Int)) (hs:List Rw) (D:Heaplet):Prop where
 len:hs.length=R.length
 ex:∃ es:Nat→Ent,(∀ j,j < R.length→k≠some j→OwnS T 1 (rows (R.getD j [])) (hs.getD j default).s.v (es j)∧∀ b o,es j=some (b,o)→D b=some o)∧∀ i j b o o',i < R.length→j < R.length→k≠some i→k≠some j→es i=some (b,o)→es j=some (b,o')→i=j
section
variable {P : Program}
structure Dq (E:Env P) (t:St) (N:Heaplet) (ε:Nat→Ent) (w:World) (D:Heaplet):Prop where
 agr:Agrees w D
 new:New E.w0 D
 non:∀ b,D b≠none→hun N E.H b=none
 ent:∀ (r b:Nat) (o:Obj),(ents t.L ε)[r]?=some (some (b,o))→D b=none
def VT (E:Env P) (S:Stop) (t:St) (T:Heaplet→Prop):Prop:=∀ N ε a w D,t.In E.nt E.w0 E.X E.H N ε a w→Dq E t N ε w D→T D→S.wp P E.Q a w
structure Lk (E E1:Env P) (D:Heaplet):Prop where
 nt:E1.nt=E.nt
 Q:E1.Q=E.Q
 base:Base E.X E.w0 E1.w0
 X:∀ b ∈ E1.X,E.w0.heap.size≤b∨b ∈ E.X
 agr:Agrees E1.w0 D
 new:New E.w0 D
 non:∀ b,D b≠none→b ∉ E1.X∧E1.H b=none
 H:∃ N,New E.w0 N∧E1.H=hun N E.H
def St.weak (t:St):St:=⟨t.sl,t.F.map FP.drop,t.L.map LE.drop⟩
variable {E E1 : Env P} {S : Stop} {t : St} {T : Heaplet → Prop} {D : Heaplet}
theorem drop_ent (x:LE) (e:Ent):x.drop.ent e=x.ent e:=by cases x <;> rfl
theorem ents_drop (L:List LE) (ε:Nat→Ent):ents (L.map LE.drop) ε=ents L ε:=by
 refine List.ext_getElem? fun r=>?_;rw [ents_get,ents_get,List.getElem?_map]
 cases L[r]? with
 | none=>rfl
 | some x=>simp [drop_ent]
abbrev Env.at (E:Env P) (w:World) (X:List Nat) (H:Heaplet):Env P:={ E with w0:=w,X:=X,H:=H }
theorem VT.sub (h:∀ (w:World) (X:List Nat) (H D:Heaplet),Lk E (E.at w X H) D→T D→let t':=t.weak;V (E.at w X H) S t'):VT E S t T:=fun N ε a w D d hD hT=>by
 have A:Sub N (hun N E.H):=hun_left;refine h w (blks (ents t.L ε)) (hun N E.H) D ⟨rfl,rfl,d.st.base,fun b hb=>?_,hD.agr,hD.new,fun b hb=>⟨fun hx=>?_,hD.non b hb⟩,N,d.new,rfl⟩ hT (fun _=>none) ε a w ⟨d.slots,⟨Base.refl _ _,d.st.agr,fun r b o he=>?_,fun r r' b o o' he j=>?_⟩,new_none,fun f hf=>?_,fun r x hx=>?_⟩
 ·obtain ⟨x,hx,i⟩:=List.mem_filterMap.1 hb;obtain ⟨r,hr⟩:=List.getElem?_of_mem hx;cases x with
  | none=>cases i
  | some p=>simp at i;subst i;exact (d.st.ent r p.1 p.2 hr).2.1
 ·obtain ⟨x,hx,i⟩:=List.mem_filterMap.1 hx;obtain ⟨r,hr⟩:=List.getElem?_of_mem hx;cases x with
  | none=>cases i
  | some p=>simp at i;subst i;exact hb (hD.ent r p.1 p.2 hr)
 ·have he:(ents (t.L.map LE.drop) ε)[r]?=some (some (b,o)):=he;rw [ents_drop] at he;obtain ⟨h1,_,h3⟩:=d.st.ent r b o he;exact ⟨h1,.inr (List.mem_filterMap.2 ⟨_,List.mem_of_getElem? he,rfl⟩),h3⟩
 ·have he:(ents (t.L.map LE.drop) ε)[r]?=some (some (b,o)):=he;have j:(ents (t.L.map LE.drop) ε)[r']?=some (some (b,o')):=j;rw [ents_drop] at he j;exact d.st.dis r r' b o o' he j
 ·obtain ⟨f',B,rfl⟩:=List.mem_map.1 hf;have h1:=FP.drop_at (d.facts f' B) A;exact (h1:f'.p (hun N E.H))
 ·have hx:(t.L.map LE.drop)[r]?=some x:=hx;rw [List.getElem?_map,Option.map_eq_some_iff] at hx;obtain ⟨y,hy,rfl⟩:=hx
  have:=LE.drop_at (d.own r y hy) A
  cases y with
  | own t p m q hq=>exact this
  | _=>trivial
theorem V.ofVT (lk:Lk E E1 D) (hT:T D) (h:VT E S t T):V E1 S t:=fun N1 ε a w d=>by
 obtain ⟨N,hN,hH⟩:=lk.H;have eK:hun (hun N1 N) E.H=hun N1 E1.H:=by rw [hun_assoc,hH]
 have A:E.w0.heap.size≤E1.w0.heap.size:=lk.base.size;have j:∀ b,D b≠none→b < E1.w0.heap.size:=fun b hb=>by
  cases hd:D b with
  | none=>exact absurd hd hb
  | some o=>exact RC.heap_lt (lk.agr b o hd)
 have B:∀ b,D b≠none→N1 b=none:=fun b hb=>by
  cases hn:N1 b with
  | none=>rfl
  | some o=>have:=d.new b (by rw [hn];simp);have:=j b hb;omega
 have i:SlotsOK E.nt t.sl a:=by rw [←lk.nt];exact d.slots
 rw [lk.Q];refine h (hun N1 N) ε a w D ⟨i,⟨lk.base.step d.st.base lk.X,fun K hK=>?_,fun r b o he=>?_,d.st.dis⟩,fun b hb=>?_,fun f hf=>?_,fun r x hx=>?_⟩ ⟨?_,lk.new,fun b hb=>?_,fun r b o he=>?_⟩ hT
 ·have:K=hun (hun N1 N) E.H:=by simpa using hK
  subst this;rw [eK];exact d.st.agr _ (by simp)
 ·obtain ⟨h1,h2,h3⟩:=d.st.ent r b o he;refine ⟨h1,?_,fun K hK=>?_⟩
  ·rcases h2 with h2 | h2
   ·exact .inl (Nat.le_trans A h2)
   ·exact lk.X b h2
  ·have:K=hun (hun N1 N) E.H:=by simpa using hK
   subst this;rw [eK];exact h3 _ (by simp)
 ·unfold hun at hb;cases h1:N1 b with
  | some o=>exact Nat.le_trans A (d.new b (by rw [h1];simp))
  | none=>rw [h1] at hb;exact hN b hb
 ·rw [eK];exact FP.mono (d.facts f hf) hun_left (Sub.refl _)
 ·rw [eK];exact LE.mono (d.own r x hx) hun_left (Sub.refl _)
 ·exact lk.agr.step d.st.base fun b hb=>by
   cases hd:D b with
   | none=>rfl
   | some o=>exact absurd hb (lk.non b (by rw [hd];simp)).1
 ·rw [eK];show (match N1 b with | some o=>some o | none=>E1.H b)=none;rw [B b hb];exact (lk.non b hb).2
 ·cases hd:D b with
  | none=>rfl
  | some o' =>
   have hb:D b≠none:=by rw [hd];simp
   have h1:=(d.st.ent r b o he).2.1;have h2:=j b hb;rcases h1 with h1 | h1
   ·omega
   ·exact absurd h1 (lk.non b hb).1
theorem set_ents {L:List LE} {ε ε':Nat→Ent} {q:Nat} {x:LE} (hq:q < L.length) (he:∀ j,j≠q→ε' j=ε j):∀ (r b:Nat) (o:Obj),(ents (L.set q x) ε')[r]?=some (some (b,o))→(r=q∧x.ent (ε' q)=some (b,o))∨(r≠q∧(ents L ε)[r]?=some (some (b,o))):=fun r b o h=>by
 rw [ents_get,Option.map_eq_some_iff] at h;obtain ⟨y,hy,d⟩:=h;rcases set_get hy with ⟨rfl,rfl⟩ | ⟨hj,hy⟩
 ·exact .inl ⟨rfl,d⟩
 ·exact .inr ⟨hj,by rw [ents_get,hy,← d,he r hj];rfl⟩
theorem VT.focus (q k:Nat) (l:List Int) (s:SV) {R:List (List Int)} {hs:List Rw} {TT:TypeId} (hq:t.L[q]?=some .no) (hk:k < R.length) (hl:l=R.getD k []) (hx:s=(hs.getD k default).s)
  (h:let t':St:=⟨t.sl,t.F,t.L.set q (os true TT l s)⟩;VT E S t' (TabX TT (some k) R hs)):VT E S t (TabX TT none R hs):=fun N ε a w D hin hD ⟨hlen,es,h1,h2⟩=>by
 have Z:q < t.L.length:=(List.getElem?_eq_some_iff.1 hq).1
 let ε':Nat→Ent:=fun j=>if j=q then es k else ε j
 have P:∀ j,j≠q→ε' j=ε j:=fun j hj=>if_neg hj
 have B:ε' q=es k:=if_pos rfl
 let D':Heaplet:=fun b=>match es k with
  | some (g,_)=>if b=g then none else D b
  | none=>D b
 have G:∀ b o,D' b=some o→D b=some o:=fun b o hb=>by
  show D b=some o;have hb:(match es k with | some (g,_)=>if b=g then none else D b | none=>D b)=some o:=hb;split at hb
  ·split at hb
   ·cases hb
   ·exact hb
  ·exact hb
 have Q:∀ b,D' b≠none→D b≠none:=fun b hb=>by
  cases hd:D' b with
  | none=>exact absurd hd hb
  | some o=>rw [G b o hd];simp
 have f:=h1 k hk (by simp);have C:=set_ents (x:=os true TT l s) (ε:=ε) (ε':=ε') Z P;refine h N ε' a w D' ⟨hin.slots,⟨hin.st.base,hin.st.agr,fun r b o he=>?_,fun r r' b o o' he X=>?_⟩,hin.new,hin.facts,fun r x M=>?_⟩ ⟨fun b o hb=>hD.agr b o (G b o hb),fun b hb=>hD.new b (Q b hb),fun b hb=>hD.non b (Q b hb),fun r b o he=>?_⟩ ⟨hlen,es,fun j hj Y=>?_,fun i j b o o' hi hj ad Y=>h2 i j b o o' hi hj (by simp) (by simp)⟩
 ·rcases C r b o he with ⟨rfl,he⟩ | ⟨hr,he⟩
  ·have he:es k=some (b,o):=by rw [←B];exact he
   have hd:=f.2 b o he;exact ⟨hD.agr b o hd,.inl (hD.new b (by rw [hd];simp)),fun K hK=>by
    have:K=hun N E.H:=by simpa using hK
    subst this;exact hD.non b (by rw [hd];simp)⟩
  ·exact hin.st.ent r b o he
 ·rcases C r b o he with ⟨ab,A⟩ | ⟨hr,A⟩
  ·rcases C r' b o' X with ⟨I,_⟩ | ⟨ac,d⟩
   ·rw [ab,I]
   ·have A:es k=some (b,o):=by rw [←B];exact A
    have:=hD.ent r' b o' d
    rw [f.2 b o A] at this;cases this
  ·rcases C r' b o' X with ⟨I,d⟩ | ⟨ac,d⟩
   ·have d:es k=some (b,o'):=by rw [←B];exact d
    have:=hD.ent r b o A
    rw [f.2 b o' d] at this;cases this
   ·exact hin.st.dis r r' b o o' A d
 ·rcases set_get M with ⟨rfl,rfl⟩ | ⟨hr,M⟩
  ·rw [B];show OSl TT N l s.v (es k);rw [hl,hx];exact ⟨f.1,fun _ _=>trivial⟩
  ·rw [P r hr];exact hin.own r x M
 ·show (match es k with | some (g,_)=>if b=g then none else D b | none=>D b)=none;rcases C r b o he with ⟨rfl,he⟩ | ⟨hr,he⟩
  ·have he:es k=some (b,o):=by rw [←B];exact he
   rw [he];simp
  ·have:=hD.ent r b o he
   split
   ·split
    ·rfl
    ·exact this
   ·exact this
 ·obtain ⟨g1,g2⟩:=h1 j hj (by simp);refine ⟨g1,fun b o hb=>?_⟩;show (match es k with | some (g,_)=>if b=g then none else D b | none=>D b)=some o
  have:=g2 b o hb
  split
  ·rename_i g o' hg
   rw [if_neg]
   ·exact this
   ·rintro rfl;exact Y (by rw [h2 k j b o' o hk hj (by simp) (by simp) hg hb])
  ·exact this
theorem VT.unfocus (q k:Nat) (tt:Bool) (l:List Int) (s:SV) {R:List (List Int)} {hs:List Rw} {TT:TypeId} (hq:(t.L[q]?,E.X)=(some (os tt TT l s),[])) (hk:k < R.length)
  (h:let t':St:=⟨t.sl,t.F,t.L.set q .no⟩;VT E S t' (TabX TT none (R.set k l) (hs.set k ⟨s⟩))):VT E S t (TabX TT (some k) R hs):=fun N ε a w D hin hD ⟨hlen,es,h1,h2⟩=>by
 simp only [Prod.mk.injEq] at hq;obtain ⟨hq,hX⟩:=hq;have M:q < t.L.length:=(List.getElem?_eq_some_iff.1 hq).1;have C:OSl TT (bif tt then N else hun N E.H) l s.v (ε q):=by
  have:=hin.own q _ hq
  cases tt
  ·exact this
  ·exact this
 have f:(ents t.L ε)[q]?=some (ε q):=by rw [ents_get,hq];rfl
 have B:∀ b o,ε q=some (b,o)→D b=none:=fun b o hb=>hD.ent q b o (by rw [f,hb])
 let D':Heaplet:=hun (entH (ε q)) D
 have A:∀ b,D' b≠none→(∃ o,ε q=some (b,o))∨D b≠none:=fun b hb=>by
  cases h0:entH (ε q) b with
  | none =>
   refine .inr fun hd=>hb ?_
   show hun (entH (ε q)) D b=none;unfold hun;rw [h0];exact hd
  | some o =>
   unfold entH at h0;split at h0
   ·rename_i g o' hg
    split at h0
    ·rename_i hbg;subst hbg;exact .inl ⟨o',hg⟩
    ·cases h0
   ·cases h0
 have G:∀ b o,ε q=some (b,o)→D' b=some o:=fun b o hb=>by
  show hun (entH (ε q)) D b=some o;unfold hun entH;rw [hb];simp
 have I:∀ b o,D b=some o→D' b=some o:=fun b o hb=>by
  show hun (entH (ε q)) D b=some o;unfold hun;cases h0:entH (ε q) b with
  | none=>exact hb
  | some o' =>
   exfalso;unfold entH at h0;split at h0
   ·rename_i g o'' hg
    split at h0
    ·rename_i hbg;subst hbg;rw [B _ _ hg] at hb;cases hb
    ·cases h0
   ·cases h0
 have P:=set_ents (x:=.no) (ε:=ε) (ε':=ε) M (fun _ _=>rfl);have d:∀ r b o,(ents (t.L.set q .no) ε)[r]?=some (some (b,o))→r≠q∧(ents t.L ε)[r]?=some (some (b,o)):=fun r b o he=>by
  rcases P r b o he with ⟨_,he⟩ | h
  ·cases he
  ·exact h
 refine h N ε a w D' ⟨hin.slots,⟨hin.st.base,hin.st.agr,fun r b o he=>hin.st.ent r b o (d r b o he).2,fun r r' b o o' he Q=>hin.st.dis r r' b o o' (d r b o he).2 (d r' b o' Q).2⟩,hin.new,hin.facts,fun r x hx=>?_⟩ ⟨?_,fun b hb=>?_,fun b hb=>?_,fun r b o he=>?_⟩
  ⟨by rw [List.length_set,List.length_set];exact hlen,fun j=>if j=k then ε q else es j,fun j hj _=>?_,fun i j b o o' hi hj _ _ hbi hbj=>?_⟩
 ·rcases set_get hx with ⟨rfl,rfl⟩ | ⟨_,hx⟩
  ·trivial
  ·exact hin.own r x hx
 ·exact hun_agrees (entH_agrees fun b o hb=>(hin.st.ent q b o (by rw [f,hb])).1) hD.agr
 ·rcases A b hb with ⟨o,hb⟩ | hb
  ·rcases (hin.st.ent q b o (by rw [f,hb])).2.1 with h3 | h3
   ·exact h3
   ·rw [hX] at h3;cases h3
  ·exact hD.new b hb
 ·rcases A b hb with ⟨o,hb⟩ | hb
  ·exact (hin.st.ent q b o (by rw [f,hb])).2.2 _ (by simp)
  ·exact hD.non b hb
 ·obtain ⟨hr,he⟩:=d r b o he;cases hd:D' b with
  | none=>rfl
  | some o' =>
   exfalso;rcases A b (by rw [hd];simp) with ⟨o2,h3⟩ | h3
   ·exact hr (hin.st.dis r q b o o2 he (by rw [f,h3]))
   ·exact h3 (hD.ent r b o he)
 ·rw [List.length_set] at hj;by_cases e:j=k
  ·subst e;simp only [if_pos rfl];rw [show (R.set j l).getD j []=l by rw [List.getD_eq_getElem?_getD,List.getElem?_set];simp [hj],show (hs.set j (⟨s⟩:Rw)).getD j default=⟨s⟩ by rw [List.getD_eq_getElem?_getD,List.getElem?_set];simp [hlen,hj]];exact ⟨C.sl,G⟩
  ·simp only [if_neg e];obtain ⟨g1,g2⟩:=h1 j hj (by simpa using fun h=>e h.symm);rw [show (R.set k l).getD j []=R.getD j [] by rw [List.getD_eq_getElem?_getD,List.getElem?_set_ne (fun h=>e h.symm),← List.getD_eq_getElem?_getD],show (hs.set k (⟨s⟩:Rw)).getD j default=hs.getD j default by rw [List.getD_eq_getElem?_getD,List.getElem?_set_ne (fun h=>e h.symm),← List.getD_eq_getElem?_getD]];exact ⟨g1,fun b o hb=>I b o (g2 b o hb)⟩
 ·rw [List.length_set] at hi hj;by_cases e1:i=k
  ·by_cases e2:j=k
   ·rw [e1,e2]
   ·simp only [if_pos e1] at hbi;simp only [if_neg e2] at hbj
    have:=(h1 j hj (by simpa using fun h=>e2 h.symm)).2 b o' hbj
    rw [B b o hbi] at this;cases this
  ·simp only [if_neg e1] at hbi;by_cases e2:j=k
   ·simp only [if_pos e2] at hbj
    have:=(h1 i hi (by simpa using fun h=>e1 h.symm)).2 b o hbi
    rw [B b o' hbj] at this;cases this
   ·simp only [if_neg e2] at hbj;exact h2 i j b o o' hi hj (by simpa using fun h=>e1 h.symm) (by simpa using fun h=>e2 h.symm) hbi hbj
theorem tab_new (TT:TypeId) (n:Nat):TabX TT none (List.replicate n []) (List.replicate n default) (fun _=>none):=⟨by simp,fun _=>none,fun j hj _=>by
 have hj:j < n:=by simpa using hj
 refine ⟨?_,fun b o h=>by cases h⟩;rw [show (List.replicate n ([]:List Int)).getD j []=[] by simp [List.getD_eq_getElem?_getD,hj],show ((List.replicate n (default:Rw)).getD j default)=default by simp [List.getD_eq_getElem?_getD,hj]];exact OwnS.nil _ _,fun i j b o o' _ _ _ _ h=>by cases h⟩
theorem TabX.cast {TT:TypeId} {k:Option Nat} {R R':List (List Int)} {hs:List Rw} (e:R=R'):∀ D,TabX TT k R hs D→TabX TT k R' hs D:=fun D h=>e ▸ h
theorem VT.mk (h:VT E S t T) (hT:T fun _=>none):V E S t:=fun N ε a w b =>
 h N ε a w (fun _=>none) b ⟨fun _ _ h=>by (cases h),fun _ h=>absurd rfl h,fun _ h=>absurd rfl h,fun _ _ _ _=>rfl⟩ hT
theorem fats_mem {σ:Nat→SV}:∀ (l:List (List Int)) (σ:Nat→SV) (x:Fat Int),x ∈ fats l σ→∃ i,i < l.length∧x=⟨l.getD i [],σ i⟩
 | [],_,_,h=>by cases h
 | y :: l,σ,x,h=>by
  rcases List.mem_cons.1 h with rfl | h
  ·exact ⟨0,by simp,rfl⟩
  ·obtain ⟨i,hi,e⟩:=fats_mem (σ:=σ) l (fun i=>σ (i+1)) x h;exact ⟨i+1,by simpa using hi,by rw [e];rfl⟩
theorem rows_fats:∀ (R:List (List Int)) (hs:List Rw),hs.length=R.length→rows (fats R fun i=>(hs.getD i default).s)=rows hs
 | [],[],h=>rfl
 | [],x :: hs,h=>by cases h
 | y :: R,[],h=>by cases h
 | y :: R,x :: hs,h=>by
  have:=rows_fats R hs (by simpa using h)
  simp only [fats,rows,List.map_cons] at this ⊢
  congr 1
theorem VT.fin (r:Nat) (tt:Bool) (T0:TypeId) (s:SV) {R:List (List Int)} {hs:List Rw} {TT:TypeId} (hr:t.L[r]?=some (os tt T0 hs s))
  (h:let t':St:=⟨t.sl,t.F,t.L.set r (os true T0 (fats R fun i=>(hs.getD i default).s) s)⟩;V E S t'):VT E S t (TabX TT none R hs):=fun N ε a w D hin hD ⟨hlen,es,h1,_⟩=>by
 have B:r < t.L.length:=(List.getElem?_eq_some_iff.1 hr).1;have hK:Agrees w (hun N E.H):=hin.st.agr _ (by simp);have s1:Sub N (hun D N):=hun_right' (U:=whole w) hD.agr (hun_left.trans hK);have eK:hun (hun D N) E.H=hun D (hun N E.H):=hun_assoc _ _ _;have s2:Sub (hun N E.H) (hun (hun D N) E.H):=by rw [eK];exact hun_right' (U:=whole w) hD.agr hK
 have d:∀ (q b:Nat) (o:Obj),(ents (t.L.set r (os true T0 (fats R fun i=>(hs.getD i default).s) s)) ε)[q]?=some (some (b,o))→(ents t.L ε)[q]?=some (some (b,o)):=fun q b o h=>by
  rcases set_ents (ε:=ε) (ε':=ε) B (fun _ _=>rfl) q b o h with ⟨rfl,h⟩ | ⟨_,h⟩
  ·rw [ents_get,hr];exact congrArg some h
  ·exact h
 refine h (hun D N) ε a w ⟨hin.slots,⟨hin.st.base,fun K A=>?_,fun q b o he=>?_,fun q q' b o o' he C=>hin.st.dis q q' b o o' (d _ _ _ he) (d _ _ _ C)⟩,fun b hb=>?_,fun f hf=>FP.mono (hin.facts f hf) s1 s2,fun q x hx=>?_⟩
 ·have:K=hun (hun D N) E.H:=by simpa using A
  subst this;rw [eK];exact hun_agrees hD.agr hK
 ·obtain ⟨g1,g2,g3⟩:=hin.st.ent q b o (d _ _ _ he);refine ⟨g1,g2,fun K A=>?_⟩
  have:K=hun (hun D N) E.H:=by simpa using A
  subst this;rw [eK];show (match D b with | some o=>some o | none=>hun N E.H b)=none;rw [hD.ent q b o (d _ _ _ he)];exact g3 (hun N E.H) (by simp)
 ·unfold hun at hb;cases h1:D b with
  | some o=>exact hD.new b (by rw [h1];simp)
  | none=>rw [h1] at hb;exact hin.new b hb
 ·rcases set_get hx with ⟨rfl,rfl⟩ | ⟨_,hx⟩
  ·have j:=hin.own _ _ hr;have G:OwnS T0 1 (rows hs) s.v (ε q):=by
    cases tt
    ·exact (j:OSl T0 (hun N E.H) hs s.v (ε q)).sl
    ·exact (j:OSl T0 N hs s.v (ε q)).sl
   show OSl T0 (hun D N) (fats R fun i=>(hs.getD i default).s) s.v (ε q);refine ⟨by rw [rows_fats R hs hlen];exact G,fun x hx=>?_⟩;obtain ⟨i,hi,e⟩:=fats_mem (σ:=fun _=>{}) _ _ _ hx;obtain ⟨g1,g2⟩:=h1 i hi (by simp);subst e;refine ⟨g1.toH.mono fun b o hb=>?_,fun _ _=>trivial⟩;unfold entH at hb;split at hb
   ·rename_i g o' hg
    split at hb
    ·rename_i hbg;subst hbg
     cases hb
     unfold hun;rw [g2 _ _ hg]
    ·cases hb
   ·cases hb
  ·exact LE.mono (hin.own q x hx) s1 s2
theorem le_ents {t t':St} {ε:Nat→Ent} {fi:List Nat} (hk:leSt fi t t'=leSt' t'):∀ (r b:Nat) (o:Obj),(ents t'.L ε)[r]?=some (some (b,o))→(ents t.L ε)[r]?=some (some (b,o)):=fun r b o he=>by
 simp only [leSt,leSt',Prod.mk.injEq] at hk;obtain ⟨_,_,h3,_,_⟩:=hk;rw [ents_get,Option.map_eq_some_iff] at he ⊢;obtain ⟨y,hy,he⟩:=he
 have:=congrArg (fun l:List LE=>l[r]?) h3
 simp only [List.getElem?_map,hy] at this;cases hz:(t.L.zip t'.L)[r]? with
 | none=>rw [hz] at this;cases this
 | some p =>
  rw [hz] at this;rw [List.getElem?_zip_eq_some] at hz;rw [hy] at hz;obtain ⟨z1,z2⟩:=hz;simp only [Option.some.injEq] at z2;simp only [Option.map_some,Option.some.injEq] at this;rw [←z2] at this;refine ⟨p.1,z1,?_⟩;rw [←this] at he;cases y with
  | no=>cases he
  | blk b arr T=>exact he
  | own t' q m r hr =>
   cases t'
   ·simp only [matchL] at he;rw [drop_ent] at he;exact he
   ·exact he
theorem Dq.le {t t':St} {N:Heaplet} {ε:Nat→Ent} {w:World} {D:Heaplet} (h:Dq E t N ε w D) {fi:List Nat} (hk:leSt fi t t'=leSt' t'):Dq E t' N ε w D:=⟨h.agr,h.new,h.non,fun r b o he=>h.ent r b o (le_ents hk r b o he)⟩
def TakesT {P:Program} {γ:Type} (E:Env P) (I:γ→St) (T:γ→Heaplet→Prop) (F:γ→Prop) (M:γ→Prop) (Z:Act→World→Prop):Prop:=∀ g,F g→M g→∀ N ε a w D,(I g).In E.nt E.w0 E.X E.H N ε a w→Dq E (I g) N ε w D→T g D→Z a w
theorem VT.loop {γ:Type} (I:γ→St) (T':γ→Heaplet→Prop) (F:γ→Prop) (μ:γ→Nat) (g:γ) (hk:S=.loop S.x S.K) (fi:List Nat) (h0:leSt fi t (I g)=leSt' (I g)) (d:∀ D,T D→T' g D) (hF:F g)
  (round:∀ g,F g→Knw (I g).know→∀ Z,TakesT E I T' F (fun g'=>μ g' < μ g) Z→let S':=norm 200 (.inl S.x) (.rnd Z :: S.K);let t':=I g;VT E S' t' (T' g)):VT E S t T:=fun N ε a w D b hD hT=>by
 rw [hk];show (Code.loop S.x).wp P (run P E.Q S.K) a w;refine loop_ghost (fun g a w=>F g∧∃ N ε D,(I g).In E.nt E.w0 E.X E.H N ε a w∧Dq E (I g) N ε w D∧T' g D) μ g ⟨hF,N,ε,D,b.le h0,hD.le h0,d D hT⟩ fun g a w ⟨hF,N,ε,D,b,hD,hT⟩=>?_;exact norm_sound 200 (.inl S.x) (.rnd (fun a' w'=>∃ g',(F g'∧∃ N ε D,(I g').In E.nt E.w0 E.X E.H N ε a' w'∧Dq E (I g') N ε w' D∧T' g' D)∧μ g' < μ g) :: S.K) a w (round g hF ⟨b.know⟩ _ (fun g' f hm N ε a w D h1 h2 h3=>⟨g',⟨f,N,ε,D,h1,h2,h3⟩,hm⟩) N ε a w D b hD hT)
theorem VT.rnd {γ:Type} {I:γ→St} {T':γ→Heaplet→Prop} {F:γ→Prop} {M:γ→Prop} {Z:Act→World→Prop} (hZ:TakesT E I T' F M Z) (g:γ) (fi:List Nat) (hk:(S.rz,leSt fi t (I g))=(some Z,leSt' (I g))) (b:∀ D,T D→T' g D) (hF:F g) (hM:M g):VT E S t T:=fun N ε a w D d hD hT=>by
 simp only [Prod.mk.injEq] at hk;obtain ⟨e1,e2⟩:=hk;cases S with
 | rnd Z' K =>
  simp only [Stop.rz,Option.some.injEq] at e1;subst e1;exact hZ g hF hM N ε a w D (d.le e2) (hD.le e2) (b D hT)
 | _=>cases e1
end
end Kb
