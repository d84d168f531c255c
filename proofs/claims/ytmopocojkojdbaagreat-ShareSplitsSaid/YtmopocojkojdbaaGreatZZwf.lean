/- Texts for the claim, put together: the calculus of regions, its rules, and contracts of the functions that the law reaches. -/
import Derived.Test.YtmopocojkojdbaaGreatZZwe
import Derived.ChangeKeysEq
import Derived.Laws.StructEq
set_option linter.unusedVariables false
set_option linter.unusedSimpArgs false
set_option linter.unusedSectionVars false
namespace Kb
open Go
def NewS (B:Nat) (s:SV):Prop:=∀ a,s.a=some a→B≤a.block
theorem os_blk {α:Type} [Dat α] {T:TypeId} {H:Heaplet} {l:List α} {s:SV} {e:Ent} {p:Nat × Obj} (h:OSl T H l s.v e) (hp:e=some p):∃ a:Addr,s.a=some ⟨p.1,0,none⟩:=by
  rcases h.sl.val with ⟨_,_,h3⟩ | ⟨g,cap,cur,h1,h2,_⟩
  · rw [h3] at hp;cases hp
  · rw [h2] at hp
    cases hp
    unfold SV.v at h1
    injection h1 with h1
    exact ⟨⟨g,0,none⟩,h1⟩
theorem os_ent {α:Type} [Dat α] {t:Bool} {T:TypeId} {l:List α} {s:SV} {e:Ent} {N K:Heaplet} (h:(os t T l s).at e N K) {a:Addr} (ha:s.a=some a):∃ o,(os t T l s).ent e=some (a.block,o):=by
  have h':OSl T (bif t then N else K) l s.v e:=by
    cases t
    · exact h
    · exact h
  rcases h'.sl.val with ⟨h1,_,_⟩ | ⟨g,cap,cur,h1,h2,_⟩
  · unfold SV.v at h1;injection h1 with h1;rw [ha] at h1;cases h1
  · unfold SV.v at h1
    injection h1 with h1
    rw [ha] at h1;cases h1
    exact ⟨_,h2⟩
section
variable {P : Program} {c : Cx P} {i : Nat} {h : HintD} {G : Gh} {w w' : World}
theorem left_turnP (ok:c.Ok) (hil:i < c.ops.size) (hi:c.hs[i]?=some h) (hs:c.R.Sees c.w0 c.X G i w) {g:Rec} {r:Nat} {le:Gh→LE} {en:Gh→Ent} (hn:h.news=[(r,le,en)]) (hH:g.H=fun _=>none) {e0 e1:Ent} (hE:c.R.entAt G i r=e0) (hg:Grows e0 e1 w w')
    (he:(le (c.R.vis i (RC.put G i g))).ent (en (c.R.vis i (RC.put G i g)))=e1) (hat:(le (c.R.vis i (RC.put G i g))).at (en (c.R.vis i (RC.put G i g))) (c.J i G true) (c.J i G false)) (hf:h.facts (c.R.vis i (RC.put G i g))=[]) (hp:conjL (h.pu (c.R.vis i (RC.put G i g)))) {v:Value} (hv:c.R.val i (RC.put G i g)=v):c.R.Left w w' G i g v:=by
  have hup:=Cx.upsOf hi
  rw [hn] at hup
  have hfr:∀ b,g.H b≠none→w.heap.size≤b:=fun b hb=>by rw [hH] at hb;exact absurd rfl hb
  obtain ⟨a1,a2,_⟩:=ahead ok hil hs hfr
  refine ⟨hv.symm,fact_of ok hil hi hs hfr (fun f hm=>?_) (fun q hq=>?_) ?_,?_,(fun b o hb=>by rw [hH] at hb;cases hb),hfr,fun p hp' b o hb=>?_,fun p hp' q hq b o o' _ _=>?_⟩
  · rw [hf] at hm;cases hm
  · rw [hn] at hq
    have:q=(r,le,en):=by simpa using hq
    subst this
    exact LE.mono hat a1 a2
  · exact hp
  · refine ⟨hg.base.os,hg.base.tape,hg.base.output,hg.base.size,fun k hk hnk=>hg.base.keep k hk fun hm=>hnk ?_⟩
    unfold RC.touched
    rw [hup]
    simpa [hE] using hm
  · rw [hup] at hp'
    have:p=(r,fun G=>(le (c.R.vis i G)).ent (en (c.R.vis i G))):=by simpa using hp'
    subst this
    simp only at hb
    rw [he] at hb
    exact ⟨hg.in' b o hb,by
      rcases hg.from' b o hb with h1 | ⟨o',h1⟩
      · exact .inl h1
      · exact .inr ⟨_,by rw [hup];exact List.mem_singleton.2 rfl,o',by rw [←h1];exact hE⟩,by rw [hH]⟩
  · rw [hup] at hp' hq
    have h1:p=(r,fun G=>(le (c.R.vis i G)).ent (en (c.R.vis i G))):=by simpa using hp'
    have h2:q=(r,fun G=>(le (c.R.vis i G)).ent (en (c.R.vis i G))):=by simpa using hq
    rw [h1,h2]
end
namespace Hint
variable {P : Program}
def mksB {α:Type} [Dat α] (B n r:Nat) (E:TypeId) (bytes:Nat) (k:Int) (l2:List α) (hl:l2=List.replicate k.toNat default) (h0:0≤k) (h63:k≤9223372036854775807) (hb:bytes * k≤281474976710656):Hint P where
  d:={ val:=fun G=>(G n).s.v,news:=[(r,fun G=>os true E l2 (G n).s,fun G=>(G n).e)],pu:=fun G=>[NewS B (G n).s] }
  τ:=Option (TypeId × Value × Value) × Option TypeId × Option (Nat × Nat × Option (List Value)) × Nat × List Value × Bool × Nat
  lhs c i G _ _:=(c.R.mkr G i,sliceOf P (c.R.mkt i),zeroOf P E,i,Dat.cells (default:α),(Dat.cells (default:α)).all cell1,c.w0.heap.size)
  rhs c i _ _ _:=(some (c.R.mkt i,.int .i64 k,.int .i64 k),some E,some (Dat.size α,bytes,some (Dat.cells (default:α))),n,Dat.cells (default:α),true,B)
  sound c i ok hil hi h:=fun o ho G w hs=>by
    have h1:=h G {} w
    simp only [Prod.mk.injEq] at h1
    obtain ⟨e1,e2,e3,rfl,_,e8,e9⟩:=h1
    obtain ⟨o',hr,ho'⟩:=make_does (w:=w) ho e1 e2 e3 (Dat.len _) e8 h0 h63 hb
    unfold Does
    rw [hr]
    have hv:=Cx.vis_self (c:=c) (i:=i) (G:=G) { s:=⟨atB w.heap.size,k.toNat,k.toNat⟩,e:=some (w.heap.size,o') }
    refine ⟨{ s:=⟨atB w.heap.size,k.toNat,k.toNat⟩,e:=some (w.heap.size,o') },left_turnP ok hil hi hs rfl rfl rfl grows_push ?_ ?_ rfl ?_ ?_⟩
    · show (c.R.vis i (RC.put G i { s:=⟨atB w.heap.size,k.toNat,k.toNat⟩,e:=some (w.heap.size,o') }) i).e=_
      rw [hv]
    · show OSl E _ l2 _ _
      rw [hv]
      refine ⟨?_,fun x hx=>?_⟩
      · have:rows l2=List.replicate k.toNat (Dat.cells (default:α)):=by rw [hl];simp [rows]
        rw [this];exact ho'
      · rw [hl] at hx
        rw [(List.eq_of_mem_replicate hx:x=default)]
        exact Dat.zero _
    · refine ⟨?_,trivial⟩
      show NewS B _
      rw [hv]
      intro a ha
      cases ha
      rw [←e9];exact hs.base.size
    · rw [Cx.valOf hi]
      show SV.v _=_
      rw [hv]
def muG {P:Program} {κ α:Type} [DecidableEq κ] [MKey κ] [Dat α] (n r:Nat) (tt kt et:TypeId) (t a:Bool) (m:List (κ × α)) (b:Gh→Nat) (k:κ) (x:Gh→α) (t2:Bool) (ht:t2=true→t=true) (qs:List Kv) (hq:∀ G H,allR qs G H→Dat.good H (x G)):Hint P where
  d:={ val:=fun _=>undef,news:=[(r,fun G=>mp t2 a (mupd k (x G) m) (b G),fun G=>(G n).e)] }
  τ:=Option (TypeId × Value × Value × Value) × Option (TypeId × TypeId) × (Option TypeDesc × List (Bool × Nat × Option TypeDesc) × Bool) × Option LE × Nat × Bool × List (Option (Bool × (Ent→Heaplet→Prop)) × Bool) × Nat × α
  lhs c i G g _:=(c.R.mpu G i,mapOf P tt,tellK P kt,c.leAt i r G,i,tOk t2 qs,qs.map (Kv.chk c i G),b (c.R.vis i (RC.put G i g)),x (c.R.vis i (RC.put G i g)))
  rhs _ _ G _ _:=(some (tt,.map (some (b G)),MKey.enc k,aggV a (Dat.cells (x G))),some (kt,et),MKey.want κ,some (mp t a m (b G)),n,true,qs.map (Kv.want G),b G,x G)
  sound c i ok hil hi h0:=fun o ho G w hs=>by
    have h1:=fun g=>h0 G g w
    simp only [Prod.mk.injEq] at h1
    obtain ⟨e1,e2,e3,e4,rfl,e6,e7,_,_⟩:=h1 {}
    have hw:c.R.wrE r i=true:=by unfold RC.wrE;rw [Cx.upsOf hi];simp
    obtain ⟨en,a1,a2,a3⟩:=Cx.own_at ok hil hs e4 (by rw [hw];simp)
    obtain ⟨⟨ob,rfl,hob⟩,hgood⟩:=mp_at a2
    have hb:=a3 (b G) ob rfl
    have hlt:=RC.heap_lt hb
    obtain ⟨o',hr,hob'⟩:=mu_run (P:=P) (w:=w) (k:=k) (x:=x G) (map_of e2) e3 hob hb
    have hg:Grows (some (b G,ob)) (some (b G,o')) w (setBlk w (b G) o') :=
      ⟨fun b' o2 hbo=>by cases hbo;simp [setBlk,hlt],fun b' o2 hbo=>by cases hbo;exact .inr ⟨_,rfl⟩,⟨rfl,rfl,rfl,by simp [setBlk],fun j hj hn=>by
        have:b G≠j:=fun e=>hn (by subst e;simp)
        simp [setBlk,Array.getElem?_setIfInBounds_ne this]⟩⟩
    have hrun:(execOp (c.R.evalAt G i) o).run P w=.ok .skip (setBlk w (b G) o'):=by
      unfold RC.mpu at e1
      rw [ho] at e1
      obtain ⟨dst,op,type,pos,after,guard⟩:=o
      cases op <;> simp only [Option.map_some] at e1 <;> first | cases e1 | skip
      all_goals
        simp only [Option.some.injEq,Prod.mk.injEq] at e1
        obtain ⟨rfl,h1,h2,h3⟩:=e1
        simp [execOp,h1,h2,h3,hr]
    unfold Does
    rw [hrun]
    have hv:=Cx.vis_self (c:=c) (i:=i) (G:=G) { e:=some (b G,o') }
    have hbv:=(h1 { e:=some (b G,o') }).2.2.2.2.2.2.2.1
    have hxv:=(h1 { e:=some (b G,o') }).2.2.2.2.2.2.2.2
    refine ⟨{ e:=some (b G,o') },left_turn ok hil hi hs rfl rfl a1 hg ?_ ?_ rfl rfl (by rw [Cx.valOf hi])⟩
    · show (c.R.vis i (RC.put G i { e:=some (b G,o') }) i).e=_
      rw [hv]
    · have key:∀ H,(∀ p ∈ m,Dat.good H p.2)→Dat.good H (x G)→MP a (mupd k (x G) m) (b G) (some (b G,o')) H:=fun H h1 h2=>⟨⟨_,rfl,hob'⟩,fun p hp=>by
        rcases mupd_mem hp with hp | hp
        · rw [hp];exact h2
        · exact h1 p hp⟩
      have hgx:=hq G _ (allR_of ok hil hs e7 e6)
      show bif t2 then MP _ _ _ _ _ else MP _ _ _ _ _
      rw [hv,hbv,hxv]
      cases t2 with
      | true=>rw [ht rfl] at hgood;exact key _ hgood hgx
      | false=>exact key _ (fun p hp=>by
          cases t with
          | true=>exact Dat.mono _ _ _ (Cx.J_true_le hs false) (hgood p hp)
          | false=>exact hgood p hp) hgx
def callB {g:Prop} (B kB:Nat) (Γ:GdI g) (n f:Nat) (ex:Bool) (rs ns:List Nat) (qs:List Kv) (args:Gh→Array Value) (L:Gh→List LE) (V:Gh→Rec→Value) (F':Gh→Rec→List FP) (L':Gh→Rec→List LE) (pu:Gh→Rec→List Prop)
    (ct:g→∀ G,Ct P f (args G) (qs.map (Kv.fp G)) (L G) (V G) (F' G) (L' G) (pu G)) (hrs:rs=[]) (hB0:∀ G g,(L' G g)[0]?=none→(g.ss kB).a=none) (hB:∀ G g x e N K,(L' G g)[0]?=some x→x.at e N K→∀ a,(g.ss kB).a=some a→∃ o,x.ent e=some (a.block,o)):Hint P where
  d:={ val:=fun G=>V G (G n),facts:=fun G=>F' G (G n),news:=newsOf n L' (rs ++ns) 0,rds:=qrds qs,pu:=fun G=>NewS B ((G n).ss kB) :: pu G (G n) }
  τ:=Option (Result Next) × Nat × Value × List FP × List LE × List Prop × List (Option LE) × List (Option (Bool × (Ent→Heaplet→Prop)) × Bool) × Bool × Option Bool × Nat
  lhs c i G g w:=(c.R.ex P G i w,i,V (c.R.vis i (RC.put G i g)) g,F' (c.R.vis i (RC.put G i g)) g,L' (c.R.vis i (RC.put G i g)) g,pu (c.R.vis i (RC.put G i g)) g,rs.map (fun r=>(c.leAt i r G).map LE.drop),qs.map (Kv.chk c i G),sideOk ex rs ns qs (F' G g) (L' G g),Γ.B.map fun _=>c.R.gd G i,c.w0.heap.size)
  rhs _ _ G g w:=(some (.ok (.enter f (args G)) w),n,V G g,F' G g,L' G g,pu G g,(L G).map some,qs.map (Kv.want G),true,Γ.B,B)
  sound c i ok hil hi h:=fun o ho G w hs=>by
    have h0:=h G {} w
    simp only [Prod.mk.injEq,RC.ex,ho,Option.map_some,Option.some.injEq] at h0
    obtain ⟨e1,rfl,_,_,_,_,e7,e8,_,e10,e11⟩:=h0
    have hct:=ct (Cx.gdOk Γ hs e10) G
    have hup:=Cx.upsOf hi
    have hfst:(c.R.ups i).map (·.1)=rs ++ns:=by rw [hup,List.map_map];exact newsOf_fst
    have hwr:∀ r ∈ rs,c.R.wrE r i=true:=fun r hr=>by
      have:r ∈ (c.R.ups i).map (·.1):=by rw [hfst];exact List.mem_append_left _ hr
      obtain ⟨p,hp,rfl⟩:=List.mem_map.1 this
      exact List.any_eq_true.2 ⟨p,hp,by simp⟩
    let olds:=rs.map (c.R.entAt G i)
    let ε:Nat→Ent:=fun k=>c.R.entAt G i (rs.getD k 0)
    have hlen:(L G).length=rs.length:=by have:=congrArg List.length e7;simpa using this.symm
    have hLk:∀ k r:Nat,rs[k]?=some r→∃ x',c.leAt i r G=some x'∧(L G)[k]?=some x'.drop:=fun k r hk=>by
      have:=congrArg (fun l:List (Option LE)=>l[k]?) e7
      simp only [List.getElem?_map,hk,Option.map_some] at this
      cases hl:(L G)[k]? with
      | none=>rw [hl] at this;cases this
      | some x =>
        rw [hl] at this
        simp only [Option.map_some,Option.some.injEq,Option.map_eq_some_iff] at this
        obtain ⟨x',h1,h2⟩:=this
        exact ⟨x',h1,by rw [h2]⟩
    have hdrop:∀ (x:LE) e,x.drop.ent e=x.ent e:=fun x e=>by cases x <;> rfl
    have holds:ents (L G) ε=olds:=by
      refine List.ext_getElem? fun k=>?_
      rw [ents_get]
      show _=(rs.map (c.R.entAt G i))[k]?
      rw [List.getElem?_map]
      cases hk:rs[k]? with
      | none =>
        have:(L G)[k]?=none:=by rw [List.getElem?_eq_none_iff] at hk ⊢;omega
        rw [this];rfl
      | some r =>
        obtain ⟨x',h1,h2⟩:=hLk k r hk
        obtain ⟨e,a1,_,_⟩:=Cx.own_at ok hil hs h1 (by rw [hwr r (List.mem_of_getElem? hk)];simp)
        have hε:ε k=c.R.entAt G i r:=by show c.R.entAt G i (rs.getD k 0)=_;rw [List.getD_eq_getElem?_getD,hk];rfl
        rw [h2]
        simp only [Option.map_some,Option.some.injEq]
        rw [hdrop,hε,a1]
        cases x' <;> rfl
    have hside:∀ g,sideOk ex rs ns qs (F' G g) (L' G g)=true:=fun g=>by
      have:=h G g w
      simp only [Prod.mk.injEq] at this
      exact this.2.2.2.2.2.2.2.2.1
    have hs0:=hside {}
    unfold sideOk at hs0
    simp only [Bool.and_eq_true] at hs0
    obtain ⟨⟨⟨hnd,_⟩,hsrc⟩,hex⟩:=hs0
    have hblk:∀ b ∈ blks olds,∃ r ∈ rs,∃ o,c.R.entAt G i r=some (b,o):=fun b hb=>by
      obtain ⟨x,hx,hxb⟩:=List.mem_filterMap.1 hb
      obtain ⟨r,hr,rfl⟩:=List.mem_map.1 hx
      cases he:c.R.entAt G i r with
      | none=>rw [he] at hxb;cases hxb
      | some p=>rw [he] at hxb;simp at hxb;subst hxb;exact ⟨r,hr,p.2,he⟩
    have hent:=fun r hr=>hs.ent r (by rw [hwr r hr];simp)
    have hJnone:∀ t,∀ b ∈ blks olds,c.J i G t b=none:=fun t b hb=>by
      obtain ⟨r,hr,o',he⟩:=hblk b hb
      obtain ⟨_,_,h3,h4⟩:=hent r hr b o' he
      refine JV_none ?_ _ fun j _=>?_
      · have hK:hun c.N c.H b=none:=h3 _ (by show _ ∈ [_];simp)
        cases t
        · exact hK
        · cases hN:c.N b with
          | none=>exact hN
          | some o''=>unfold hun at hK;rw [hN] at hK;cases hK
      · unfold Cx.pre
        cases hb':c.R.bef i j with
        | false=>rfl
        | true=>exact h4 j hb'
    let Hc:Heaplet:=bif ex then c.J i G false else wholeBut w (blks olds)
    have hJc:∀ t,Sub (c.J i G t) Hc:=fun t=>by
      cases hx:ex with
      | true=>show Sub _ (bif ex then _ else _);rw [hx];exact Cx.J_le_false hs t
      | false=>show Sub _ (bif ex then _ else _);rw [hx];exact sub_but (Cx.J_le hs t) (hJnone t)
    have hCw:Agrees w Hc:=by
      cases hx:ex with
      | true=>show Agrees w (bif ex then _ else _);rw [hx];exact Cx.J_le hs false
      | false =>
        show Agrees w (bif ex then _ else _);rw [hx]
        intro b o e
        simp only [cond_false,wholeBut] at e
        split at e
        · cases e
        · exact e
    have hCn:∀ b ∈ blks olds,Hc b=none:=fun b hb=>by
      cases hx:ex with
      | true=>show (bif ex then _ else _:Heaplet) b=none;rw [hx];exact hJnone false b hb
      | false=>show (bif ex then _ else _:Heaplet) b=none;rw [hx];simp only [cond_false,wholeBut];rw [if_pos hb]
    have hfacts:∀ q ∈ qs.map (Kv.fp G),q.p Hc:=fun p hp=>by
      obtain ⟨q,hq,rfl⟩:=List.mem_map.1 hp
      have hm:q.κ.src.what c i G=(some (q.κ.t,q.κ.p G),true):=map_eq e8 q hq
      obtain ⟨e,a1,a2,a3,a4⟩:=Src.get ok hil hs hm
      cases hx:ex with
      | true =>
        rw [hx] at hex
        simp only [cond_true] at hex
        exact (q.κ.rj (List.all_eq_true.1 hex q hq) G e _ a1).mono (hJc _)
      | false =>
        refine q.κ.rd G e _ _ a1 (hJc _) ?_
        show Sub _ (bif ex then _ else _)
        rw [hx]
        refine sub_but (entH_agrees a2) fun b hb=>?_
        by_cases hsr:∃ r,q.κ.src=.o r
        · obtain ⟨r,hsr⟩:=hsr
          have hE:=a3 r hsr
          have hr:r ∉ rs:=by
            have:=List.all_eq_true.1 hsrc q hq
            rw [hsr] at this
            simpa [srcNot] using this
          obtain ⟨r',hr',o',he⟩:=hblk b hb
          cases hne:entH e b with
          | none=>rfl
          | some o'' =>
            exfalso
            have hb2:c.R.entAt G i r=some (b,o''):=by
              rw [hE]
              cases e with
              | none=>cases hne
              | some p =>
                unfold entH at hne
                simp only at hne
                split at hne
                · rename_i hbe;subst hbe;cases hne;rfl
                · cases hne
            have hrd:((c.R.c i).rds.contains r || c.R.wrE r i)=true:=by
              rw [Cx.c_of hi]
              have:(qrds qs).contains r=true:=by simpa using qrds_mem hq hsr
              show ((qrds qs).contains r || _)=true
              rw [this];rfl
            have:=hs.dis r r' b o'' o' hrd (by rw [hwr r' hr'];simp) hb2 he
            subst this;exact hr hr'
        · rw [a4 fun r hr=>hsr ⟨r,hr⟩];rfl
    have hst:StW w (blks olds) [Hc] olds w:=by
      refine ⟨Base.refl _ _,fun K hK=>?_,fun k b o hk=>?_,fun k l b o o' hk hl=>?_⟩
      · have:K=Hc:=by simpa using hK
        subst this;exact hCw
      · have hm:some (b,o) ∈ olds:=List.mem_of_getElem? hk
        obtain ⟨r,hr,he⟩:=List.mem_map.1 hm
        have hbb:b ∈ blks olds:=List.mem_filterMap.2 ⟨_,hm,rfl⟩
        refine ⟨(hent r hr b o he).1,.inr hbb,fun K hK=>?_⟩
        have:K=Hc:=by simpa using hK
        subst this;exact hCn b hbb
      · have h1:(rs.map (c.R.entAt G i))[k]?=some (some (b,o)):=hk
        have h2:(rs.map (c.R.entAt G i))[l]?=some (some (b,o')):=hl
        simp only [List.getElem?_map,Option.map_eq_some_iff] at h1 h2
        obtain ⟨r,hr,he⟩:=h1
        obtain ⟨r',hr',he'⟩:=h2
        have hm:=List.mem_of_getElem? hr
        have hm':=List.mem_of_getElem? hr'
        have:=hs.dis r r' b o o' (by rw [hwr r hm];simp) (by rw [hwr r' hm'];simp) he he'
        subst this
        refine nodup_inj (l:=rs ++ns) hnd (x:=r) ?_ ?_
        · rw [List.getElem?_append_left (List.getElem?_eq_some_iff.1 hr).1];exact hr
        · rw [List.getElem?_append_left (List.getElem?_eq_some_iff.1 hr').1];exact hr'
    have hown:∀ (k:Nat) (x:LE),(L G)[k]?=some x→x.at (ε k) Hc Hc:=fun k x hx=>by
      have hk:k < rs.length:=by have:=(List.getElem?_eq_some_iff.1 hx).1;omega
      have hk':rs[k]?=some rs[k]:=List.getElem?_eq_getElem hk
      obtain ⟨x',h1,h2⟩:=hLk k _ hk'
      rw [hx] at h2
      cases h2
      obtain ⟨e,a1,a2,_⟩:=Cx.own_at ok hil hs h1 (by rw [hwr _ (List.getElem_mem hk)];simp)
      have hε:ε k=c.R.entAt G i rs[k]:=by show c.R.entAt G i (rs.getD k 0)=_;rw [List.getD_eq_getElem?_getD,hk'];rfl
      cases x' with
      | own t p m q hq =>
        rw [hε,a1]
        show p e Hc
        cases t
        · exact m _ _ _ (hJc false) a2
        · exact m _ _ _ (hJc true) a2
      | _=>trivial
    have hcall:=hct w Hc ε hCw hfacts (by rw [holds];exact hst) hown
    rw [holds] at hcall
    unfold Does
    rw [e1]
    refine hcall.mono ?_
    rintro e w' ⟨g,C⟩
    refine ⟨_,C.ret,g,?_⟩
    have hg:=h G g w
    simp only [Prod.mk.injEq] at hg
    obtain ⟨_,_,f1,f2,f3,f4,_,_,f5,_⟩:=hg
    unfold sideOk at f5
    simp only [Bool.and_eq_true,beq_iff_eq] at f5
    obtain ⟨⟨⟨_,hll⟩,_⟩,hex'⟩:=f5
    have hv:=Cx.vis_self (c:=c) (i:=i) (G:=G) g
    obtain ⟨a1,a2,a3,a4⟩:=ahead ok hil hs C.new
    have to2:ex=true→Sub (hun g.H Hc) (JV (c.R.vis i (RC.put G i g)) (hun c.N c.H) c.ops.size):=fun hx=>hun_sub a4 (by
      show Sub (bif ex then _ else _) _
      rw [hx];exact a2)
    have hentk:∀ k:Nat,(((L' (c.R.vis i (RC.put G i g)) g)[k]?).getD .no).ent (g.es k)=((ents (L' G g) g.es)[k]?).getD none:=fun k=>by rw [f3,ents_ent]
    have hp2:∀ p ∈ c.R.ups i,∃ k:Nat,(rs ++ns)[k]?=some p.1∧p.2 (RC.put G i g)=((ents (L' G g) g.es)[k]?).getD none:=fun p hp=>by
      rw [hup] at hp
      obtain ⟨q,hq,rfl⟩:=List.mem_map.1 hp
      obtain ⟨k,h1,h2,h3⟩:=newsOf_mem hq
      refine ⟨k,h1,?_⟩
      show (q.2.1 _).ent (q.2.2 _)=_
      rw [h2,h3,← hentk k]
      simp only [hv,Nat.zero_add]
    refine ⟨?_,fact_of ok hil hi hs C.new (fun f hf=>?_) (fun q hq=>?_) ?_,?_,C.agr,C.new,fun p hp b o hb=>?_,fun p hp q hq b o o' hb hb'=>?_⟩
    · rw [Cx.valOf hi]
      show _=V _ (c.R.vis i (RC.put G i g) i)
      rw [hv,f1]
    · have hf':f ∈ F' (c.R.vis i (RC.put G i g)) (c.R.vis i (RC.put G i g) i):=hf
      rw [hv,f2] at hf'
      have hc:=C.facts f hf'
      unfold FP.at at hc ⊢
      cases ht:f.t with
      | true=>rw [ht] at hc;exact f.m _ _ a3 hc
      | false =>
        rw [ht] at hc
        cases hx:ex with
        | true=>exact f.m _ _ (to2 hx) hc
        | false =>
          rw [hx] at hex'
          simp only [cond_false,Bool.and_eq_true] at hex'
          have:=List.all_eq_true.1 hex'.1 f hf'
          rw [ht] at this;cases this
    · obtain ⟨k,h1,h2,h3⟩:=newsOf_mem hq
      rw [h2,h3]
      simp only [hv,Nat.zero_add]
      rw [f3]
      cases hk:(L' G g)[k]? with
      | none=>trivial
      | some x =>
        have hc:=C.own k x hk
        simp only [Option.getD_some]
        cases x with
        | own t p m q hq =>
          cases t with
          | true=>exact m _ _ _ a3 hc
          | false =>
            cases hx:ex with
            | true=>exact m _ _ _ (to2 hx) hc
            | false =>
              rw [hx] at hex'
              simp only [cond_false,Bool.and_eq_true] at hex'
              have:=List.all_eq_true.1 hex'.2 _ (List.mem_of_getElem? hk)
              simp [LE.tag] at this
        | _=>trivial
    · show NewS B _∧conjL (pu _ (c.R.vis i (RC.put G i g) i))
      rw [hv,f4]
      refine ⟨fun a ha=>?_,C.pu⟩
      cases hx:(L' G g)[0]? with
      | none =>
        exfalso
        exact absurd ha (by rw [hB0 G g hx];simp)
      | some x =>
        obtain ⟨o',ho'⟩:=hB G g x _ _ _ hx (C.own 0 x hx) a ha
        have h6:=(C.ent 0 a.block o' (by rw [ents_get,hx,← ho'];rfl)).2.1
        rcases h6 with h6 | h6
        · rw [←e11];exact Nat.le_trans hs.base.size h6
        · exfalso
          have:olds=[]:=by show rs.map _=[];rw [hrs];rfl
          rw [this] at h6;cases h6
    · refine ⟨C.base.os,C.base.tape,C.base.output,C.base.size,fun b hb hnb=>C.base.keep b hb fun hm=>hnb ?_⟩
      obtain ⟨r,hr,o',he⟩:=hblk b hm
      have:r ∈ (c.R.ups i).map (·.1):=by rw [hfst];exact List.mem_append_left _ hr
      obtain ⟨p,hp,hpr⟩:=List.mem_map.1 this
      exact List.mem_filterMap.2 ⟨p,hp,by rw [hpr,he];rfl⟩
    · obtain ⟨k,h1,h2⟩:=hp2 p hp
      rw [h2] at hb
      cases hk:(ents (L' G g) g.es)[k]? with
      | none=>rw [hk] at hb;cases hb
      | some x =>
        rw [hk] at hb
        simp only [Option.getD_some] at hb
        subst hb
        obtain ⟨b1,b2,b3⟩:=C.ent k b o hk
        refine ⟨b1,?_,b3⟩
        rcases b2 with b2 | b2
        · exact .inl b2
        · obtain ⟨r,hr,o',he⟩:=hblk b b2
          have:r ∈ (c.R.ups i).map (·.1):=by rw [hfst];exact List.mem_append_left _ hr
          obtain ⟨q,hq,hqr⟩:=List.mem_map.1 this
          exact .inr ⟨q,hq,o',by rw [hqr];exact he⟩
    · obtain ⟨k,h1,h2⟩:=hp2 p hp
      obtain ⟨l,h3,h4⟩:=hp2 q hq
      rw [h2] at hb
      rw [h4] at hb'
      have get:∀ (k b:Nat) (o:Obj),((ents (L' G g) g.es)[k]?).getD none=some (b,o)→(ents (L' G g) g.es)[k]?=some (some (b,o)):=fun k b o hh=>by
        cases hk:(ents (L' G g) g.es)[k]? with
        | none=>rw [hk] at hh;cases hh
        | some x=>rw [hk] at hh;simp only [Option.getD_some] at hh;rw [hh]
      have:=C.dis k l b o o' (get k b o hb) (get l b o' hb')
      subst this
      rw [h1] at h3
      exact Option.some.inj h3
def ctB {g:Prop} (B kB:Nat) (Γ:GdI g) (n f:Nat) (ex:Bool) (ns:List Nat) (qs:List Kv) {args:Gh→Array Value} {L:Gh→List LE} {V:Gh→Rec→Value} {F':Gh→Rec→List FP} {L':Gh→Rec→List LE} {pu:Gh→Rec→List Prop}
    (h:g→∀ G,Ct P f (args G) (qs.map (Kv.fp G)) (L G) (V G) (F' G) (L' G) (pu G)) (hB0:∀ G g,(L' G g)[0]?=none→(g.ss kB).a=none) (hB:∀ G g x e N K,(L' G g)[0]?=some x→x.at e N K→∀ a,(g.ss kB).a=some a→∃ o,x.ent e=some (a.block,o)):Hint P:=callB B kB Γ n f ex [] ns qs args L V F' L' pu h rfl hB0 hB
end Hint
section
variable {P : Program} {E : Env P} {S : Stop} {t : St}
theorem V.frzN {α:Type} [Dat α] (r:Nat) (b:Bool) (T:TypeId) (l:List α) (s:SV) (hr:t.L[r]?=some (os b T l s)) (hnew:NewS E.w0.heap.size s) (k:V E S ⟨t.sl,t.F ++[fs b l s],t.L.set r .no⟩):V E S t:=fun N ε a w hin=>by
  have hown:=hin.own r _ hr
  have he:(ents t.L ε)[r]?=some (ε r):=by rw [ents_get,hr];rfl
  have hK:Agrees w (hun N E.H):=hin.st.agr _ (by simp)
  have hE:Agrees w (entH (ε r)):=entH_agrees fun b o hb=>(hin.st.ent r b o (by rw [he,hb])).1
  have s1:Sub N (hun (entH (ε r)) N):=hun_right' (U:=whole w) hE (hun_left.trans hK)
  have eK:hun (hun (entH (ε r)) N) E.H=hun (entH (ε r)) (hun N E.H):=hun_assoc _ _ _
  have s2:Sub (hun N E.H) (hun (hun (entH (ε r)) N) E.H):=by rw [eK];exact hun_right' (U:=whole w) hE hK
  have hents:∀ (j b:Nat) (o:Obj),(ents (t.L.set r .no) ε)[j]?=some (some (b,o))→j≠r∧(ents t.L ε)[j]?=some (some (b,o)):=fun j b o h=>by
    rw [ents_get,Option.map_eq_some_iff] at h
    obtain ⟨y,hy,he⟩:=h
    rcases set_get hy with ⟨rfl,rfl⟩ | ⟨hj,hy⟩
    · cases he
    · exact ⟨hj,by rw [ents_get,hy,← he];rfl⟩
  refine k (hun (entH (ε r)) N) ε a w ⟨hin.slots,⟨hin.st.base,fun K hk=>?_,fun j b o h=>?_,fun j j' b o o' h h'=>hin.st.dis j j' b o o' (hents _ _ _ h).2 (hents _ _ _ h').2⟩,fun b hb=>?_,fun f hf=>?_,fun j y hy=>?_⟩
  · have:K=hun (hun (entH (ε r)) N) E.H:=by simpa using hk
    subst this
    rw [eK];exact hun_agrees hE hK
  · obtain ⟨hj,h⟩:=hents j b o h
    obtain ⟨h1,h2,h3⟩:=hin.st.ent j b o h
    refine ⟨h1,h2,fun K hk=>?_⟩
    have:K=hun (hun (entH (ε r)) N) E.H:=by simpa using hk
    subst this
    rw [eK]
    have hn:entH (ε r) b=none:=by
      cases hh:entH (ε r) b with
      | none=>rfl
      | some o' =>
        exfalso
        unfold entH at hh
        cases hp:ε r with
        | none=>rw [hp] at hh;cases hh
        | some p =>
          rw [hp] at hh
          simp only at hh
          split at hh
          · rename_i hb;subst hb
            exact hj (hin.st.dis j r p.1 o p.2 h (by rw [he,hp]))
          · cases hh
    simp only [hun,hn]
    exact h3 (hun N E.H) (by simp)
  · cases hh:entH (ε r) b with
    | none =>
      simp only [hun,hh] at hb
      exact hin.new b hb
    | some o' =>
      unfold entH at hh
      cases hp:ε r with
      | none=>rw [hp] at hh;cases hh
      | some p =>
        rw [hp] at hh
        simp only at hh
        split at hh
        · rename_i hb';subst hb'
          have hown':OSl T (bif b then N else hun N E.H) l s.v (ε r):=by
            have h7:=hin.own r _ hr
            cases b
            · exact h7
            · exact h7
          obtain ⟨o2,ho2⟩:=os_blk hown' hp
          exact hnew _ ho2
        · cases hh
  · rcases List.mem_append.1 hf with hf | hf
    · exact FP.mono (hin.facts f hf) s1 s2
    · have:f=fs b l s:=by simpa using hf
      subst this
      have key:∀ J J':Heaplet,Sub J J'→Sub (entH (ε r)) J'→OSl T J l s.v (ε r)→RSl J' l s.v:=fun J J' h1 h2 h=>h.frozen h1 h2
      unfold os ow LE.at at hown
      show bif b then RSl _ l _ else RSl _ l _
      cases b
      · exact key _ _ s2 (by rw [eK];exact hun_left) hown
      · exact key _ _ s1 hun_left hown
  · rcases set_get hy with ⟨rfl,rfl⟩ | ⟨hj,hy⟩
    · trivial
    · exact LE.mono (hin.own j y hy) s1 s2
end

open Go Go.Proofs
set_option maxRecDepth 10000 in
theorem win1_ct (a b c:ByteArray) (cnb:Nat) (cn:ByteArray) :
    Ct Tryz.prog 109 #[ag (DInput.mk a b c),pp cnb 0] [] [.blk cnb #[tv cn] 9] (fun g=>bv (decide (a=cn))) (fun g=>[]) (fun g=>[.blk cnb #[tv cn] 9]) (fun g=>[]):=by
  refine V.fo mo Tryz.func109 8 1 fun w H ε k0=>?_;clear k0
  refine V.gf [.n 1,.kb false] fun _ _ G1=>?_;intro S s
  refine V.gf [.u 1,.l 1,.l 0,.seq a cn,.u 1] fun _ _ G2=>?_;intro S s
  exact V.rS [0] [] [] [] [] [0]
set_option maxRecDepth 10000 in
theorem wini_ct (s:List DInput) (ss:SV) (cnb:Nat) (cn:ByteArray) :
    Ct Tryz.prog 108 #[ss.v,.func (.func 109) #[] #[pp cnb 0]] [fs true s ss] [.blk cnb #[tv cn] 9] (fun g=>iv (fidx (fun y:DInput=>decide (y.Name=cn)) s)) (fun g=>[]) (fun g=>[.blk cnb #[tv cn] 9]) (fun g=>[]):=by
  refine V.fo mo Tryz.func108 19 0 fun w H ε k0=>?_;obtain ⟨⟨kl1, -⟩, -⟩:Lq s ss.v∧True:=kq k0
  clear k0;refine V.gf [.u 1] fun _ _ G1=>?_;intro S_ s_
  refine V.gf [.u 1,.ln (kF 0 s ss),.u 1] fun _ _ G2=>?_;intro S_ s_
  refine V.lp (γ:=Int) (fun k0=>⟨[(0,ss.v),(1,.func (.func 109) #[] #[pp cnb 0]),(7,iv (s.length:Int)),(8,iv k0)],[fs false s ss],[.blk cnb #[tv cn] 9]⟩) (fun k0=>(0≤k0)∧(k0≤(s.length:Int))∧(∀ j,j < k0.toNat→(fun y:DInput=>decide (y.Name=cn)) (s.getD j default)=false)) (fun k0=>((s.length:Int)-k0).toNat) 0 [0] ?_ ?_
  · refine ⟨?_,?_,?_⟩
    · show 0≤(0:Int)
      first | omega | rfl | (simp;done) | (subst_vars;simp;done)
    · show (0:Int)≤(s.length:Int)
      first | omega | rfl | (simp;done) | (subst_vars;simp;done)
    show ∀ j,j < (0:Int).toNat→(fun y:DInput=>decide (y.Name=cn)) (s.getD j default)=false;intro j hj;simp at hj
  rintro k0 hF1 kw3 Z1 hZ1;have hF1:(0≤k0)∧(k0≤(s.length:Int))∧(∀ j,j < k0.toNat→(fun y:DInput=>decide (y.Name=cn)) (s.getD j default)=false):=hF1;obtain ⟨hf1,hf2,hf3⟩:=hF1;clear kw3;refine V.gf [.u 1] fun _ _ G3=>?_;intro S_ s_;refine V.cn (b:=decide (k0 < (s.length:Int))) iDT iDF (fun q1=>?_) (fun q2=>?_)
  · refine V.gf [.u 2] fun _ _ G4=>?_;intro S_ s_
    refine nm (s.getD k0.toNat default:DInput) fun x1 hx1=>?_;refine V.gf [.u 3,.iX (kF 0 s ss) k0,.lE (kF 0 s ss) k0 false x1 hx1 true,.cB 5 109 false [0] [] [] fun G=>win1_ct x1.Name x1.Unit x1.Kind cnb cn] fun _ _ G5=>?_;intro S_ s_
    refine V.cn (b:=decide (x1.Name=cn)) iDT iDF (fun q3=>?_) (fun q4=>?_)
    · refine V.gf [.u 2] fun _ _ G6=>?_;intro S_ s_
      have e0:k0=fidx (fun y:DInput=>decide (y.Name=cn)) s:=by rw [fidx_at (p:=(fun y:DInput=>decide (y.Name=cn))) (k:=k0) (by omega) (by omega) hx1 hf3 (by have hqq:=q3;simpa using hqq)]
      exact V.rT [0] [] [] [] [] [0] (cong1 (fun (xz0:Int)=>(iv xz0:Value)) e0)
    refine V.gf [.aa (k0+1),.u 1] fun _ _ G7=>?_;intro S_ s_
    refine V.rn hZ1 (k0+1) [0] ?_ ?_
    · refine ⟨?_,?_,?_⟩
      · show 0≤(k0+1)
        first | omega | rfl | (simp;done) | (subst_vars;simp;done)
      · show (k0+1)≤(s.length:Int)
        first | omega | rfl | (simp;done) | (subst_vars;simp;done)
      show ∀ j,j < (k0+1).toNat→(fun y:DInput=>decide (y.Name=cn)) (s.getD j default)=false;exact fidx_step (p:=(fun y:DInput=>decide (y.Name=cn))) hf3 (by omega) hx1 (by have hqq:=q4;simpa using hqq)
    show ((s.length:Int)-(k0+1)).toNat < ((s.length:Int)-k0).toNat;omega
  refine V.gf [.u 1] fun _ _ G8=>?_;intro S_ s_
  have e0:(-1:Int)=fidx (fun y:DInput=>decide (y.Name=cn)) s:=(fidx_no fun j hj=>hf3 j (by omega)).symm;exact V.rT [0] [] [] [] [] [0] (cong1 (fun (xz0:Int)=>(iv xz0:Value)) e0)
set_option maxRecDepth 10000 in
theorem winp_ct (vb:Nat) (q:ByteArray) (z:List DImport) (h:SV) (a:List DInput) (c:SV) (A:List DTable) (i:SV) (B:List DFunc) (j:SV) (C:List DCell) (k:SV) (D:List DPort) (m:SV) (E:List DStore) (o:SV) (F:List DRecipe) (p:SV) (vl_cells:List DSpan) (vl_cellss:SV) (vl_parcels:List (ByteArray × Fat DFrac)) (vl_parcelsb:Nat) (r:List DSource) (d:SV) (t:List DOut) (e:SV) (x:List (Fat DFrac)) (f:SV) (name:ByteArray) :
    Ct Tryz.prog 66 #[pp vb 0,tv name] [fs true z h,fs true a c,fs true A i,fs true B j,fs true C k,fs true D m,fs true E o,fs true F p,fs true vl_cells vl_cellss] [.blk vb #[tv q,h.v,c.v,i.v,j.v,k.v,m.v,o.v,p.v,vl_cellss.v,.map (some vl_parcelsb),d.v,e.v,f.v] 87,mp false false vl_parcels vl_parcelsb,os false 137 r d,os false 141 t e,os false 22 x f] (fun g=>iv (fidx (fun y:DInput=>decide (y.Name=name)) a)) (fun g=>[]) (fun g=>[.blk vb #[tv q,h.v,c.v,i.v,j.v,k.v,m.v,o.v,p.v,vl_cellss.v,.map (some vl_parcelsb),d.v,e.v,f.v] 87,mp false false vl_parcels vl_parcelsb,os false 137 r d,os false 141 t e,os false 22 x f]) (fun g=>[]):=by
  refine V.fo mo Tryz.func66 12 1 fun w H ε k0=>?_;clear k0
  refine V.gf [.n 5,.u 1] fun _ _ G1=>?_;intro S s
  refine V.gf [.u 4,.l 0,.u 1,.cB 6 108 false [5] [] [kA 1 a c] fun G=>wini_ct a c ((G1 0).b) name,.u 1] fun _ _ G2=>?_;intro S s
  exact V.rS [0] [] [] [] [] [0,1,2,3,4]

open Go Go.Proofs
set_option maxRecDepth 10000 in
theorem wsrc_ct (vb:Nat) (C:ByteArray) (D:List DImport) (k:SV) (E:List DInput) (o:SV) (F:List DTable) (p:SV) (I:List DFunc) (q:SV) (J:List DCell) (r:SV) (K:List DPort) (t:SV) (L:List DStore) (x:SV) (M:List DRecipe) (y:SV) (vl_cells:List DSpan) (vl_cellss:SV) (vl_parcels:List (ByteArray × Fat DFrac)) (vl_parcelsb:Nat) (c:List DSource) (z:SV) (A:List DOut) (i:SV) (B:List (Fat DFrac)) (j:SV) (d e f:Int) (name:ByteArray) (hS:c.length=0) :
    Ct Tryz.prog 65 #[pp vb 0,ag (DSource.mk d e f),tv name] [fs true D k,fs true E o,fs true F p,fs true I q,fs true J r,fs true K t,fs true L x,fs true M y,fs true vl_cells vl_cellss] [.blk vb #[tv C,k.v,o.v,p.v,q.v,r.v,t.v,x.v,y.v,vl_cellss.v,.map (some vl_parcelsb),z.v,i.v,j.v] 87,mp false false vl_parcels vl_parcelsb,os false 137 c z,os false 141 A i,os false 22 B j] (fun g=>.tuple #[]) (fun g=>[]) (fun g=>[.blk vb #[tv C,k.v,o.v,p.v,q.v,r.v,t.v,x.v,y.v,vl_cellss.v,.map (some vl_parcelsb),(g.ss 0).v,i.v,j.v] 87,mpE false false (fun m=>Rc.upd m vl_parcels name 1) vl_parcelsb,os true 137 [DSource.mk d e f] (g.ss 0),os false 141 A i,os false 22 B j]) (fun g=>[]):=by
  refine V.fo mo Tryz.func65 50 2 fun w H ε k0=>?_;clear k0
  refine V.gf [.n 5] fun _ _ G1=>?_;intro S_ s_
  refine V.gf [.u 4,.l 0,.ln (ko false 137 2 c (fun _=>z)),.u 1] fun _ _ G2=>?_;intro S_ s_
  refine nm (c ++([DSource.mk d e f]:List DSource):List DSource) fun l1 hl1=>?_;refine V.gf [.u 5,.l 0,.l 5,.nr 7 true 137 ([DSource.mk d e f]:List DSource) [] (fun _ _ _ _ _=>trivial) (fun _=>#[iv d,iv e,iv f]),.ap 8 2 137 24 false false c (fun _=>z) (kf true (.g 7 0) ([DSource.mk d e f]:List DSource) (fun G=>⟨atB (G 7).b,1,1⟩)) true l1 hl1 (by (try simp only [List.length_append,List.length_cons,List.length_nil,List.length_replicate,List.length_set,List.length_take,List.length_drop,List.length_map,List.length_reverse,List.length_range]);omega) (fun h=>by cases h) (.inr fun _ _=>trivial),.u 3,.s 0] fun _ _ G3=>?_;intro S_ s_
  refine nm ((c.length:Int)+1:Int) fun n1 hn1=>?_;refine nm (List.replicate n1.toNat (default:DFrac):List DFrac) fun l2 hl2=>?_;have hl2n:=congrArg List.length hl2;try simp only [List.length_append,List.length_cons,List.length_nil,List.length_replicate,List.length_set,List.length_take,List.length_drop,List.length_map,List.length_reverse,List.length_range] at hl2n
  refine V.rf [.u 1,.aR ((c.length:Int)+1) n1 hn1,.mksB w.heap.size 2 6 52 64 n1 l2 hl2 (by omega) (by omega) (by omega),.u 1] fun _ _ G4 kw4=>?_;intro S_ s_
  obtain ⟨kp1, -⟩:NewS w.heap.size (G4 2).s∧True∧Lq l1 (((G3 8).s).v)∧Lq A i.v∧Lq B j.v∧Lq l2 (((G4 2).s).v)∧True:=kq kw4;clear kw4;refine V.gf [.u 1,.ln (kO 52 6 l2 (G4 2).s),.u 1] fun _ _ G5=>?_;intro S_ s_;refine V.lp (γ:=List DFrac × Int) (fun ⟨l,k0⟩=>⟨[(0,pp vb 0),(2,tv name),(6,iv (c.length:Int)),(7,((G4 2).s).v),(31,iv (l2.length:Int)),(32,iv k0)],[fs false D k,fs false E o,fs false F p,fs false I q,fs false J r,fs false K t,fs false L x,fs false M y,fs false vl_cells vl_cellss],[.blk vb #[tv C,k.v,o.v,p.v,q.v,r.v,t.v,x.v,y.v,vl_cellss.v,.map (some vl_parcelsb),((G3 8).s).v,i.v,j.v] 87,mp false false vl_parcels vl_parcelsb,os true 137 l1 ((G3 8).s),os false 141 A i,os false 22 B j,.blk ((G1 0).b) (ca (DSource.mk d e f)) 137,os true 52 l ((G4 2).s)]⟩) (fun ⟨l,k0⟩=>(0≤k0)∧(k0≤(l2.length:Int))∧(l.length=1)) (fun ⟨l,k0⟩=>((l2.length:Int)-k0).toNat) (l2,0) [0,1,2,3,4,5,6,7,8] ?_ ?_
  · refine ⟨?_,?_,?_⟩
    · show 0≤(0:Int)
      first | omega | rfl | (simp;done) | (subst_vars;simp;done)
    · show (0:Int)≤(l2.length:Int)
      first | omega | rfl | (simp;done) | (subst_vars;simp;done)
    show l2.length=1;rw [hl2n];omega
  rintro ⟨l,k0⟩ hF1 kw6 Z1 hZ1;have hF1:(0≤k0)∧(k0≤(l2.length:Int))∧(l.length=1):=hF1;obtain ⟨hf1,hf2,hf3⟩:=hF1;refine V.gf [.u 1] fun _ _ G6=>?_;intro S_ s_;refine V.cn (b:=decide (k0 < (l2.length:Int))) iDT iDF (fun q1=>?_) (fun q2=>?_)
  · refine V.gf [.u 2] fun _ _ G7=>?_;intro S_ s_
    refine nm (Bg.sgn (0:Int):Int) fun n2 hn2=>?_;refine nm (Bg.dig (0:Int).natAbs:List Int) fun l3 hl3=>?_;refine nm (Bg.dig 1:List Int) fun l4 hl4=>?_;refine nm (l.getD k0.toNat default:DFrac) fun x1 hx1=>?_;refine V.gf [.u 2,.cA 2 37 [] fun G=>fint_ctv (0:Int) (by omega) n2 hn2 l3 hl3 l4 hl4,.iX (kO 52 6 l (G4 2).s) k0,.seG g0 4 6 52 true l (fun _=>(G4 2).s) k0 none x1 (fun G=>(DFrac.mk ⟨n2,l3,(G 2).ss 0⟩ ⟨1,l4,(G 2).ss 1⟩:DFrac)) hx1 true (fun _=>⟨by omega,by omega⟩) (fun _=>rfl) [(kf true (.g 2 0) l3 (fun G=>(G 2).ss 0)).a,(kf true (.g 2 1) l4 (fun G=>(G 2).ss 1)).a] (fun _ _ ho h=>(And.intro h.1 h.2.1))] fun _ _ G8=>?_;intro S_ s_
    refine V.gf [.aa (k0+1),.u 1] fun _ _ G9=>?_;intro S_ s_
    refine V.rn hZ1 (l.set k0.toNat (DFrac.mk ⟨n2,l3,(G8 2).ss 0⟩ ⟨1,l4,(G8 2).ss 1⟩),k0+1) [0,1,2,3,4,5,6,7,8] ?_ ?_
    · refine ⟨?_,?_,?_⟩
      · show 0≤(k0+1);omega
      · show (k0+1)≤(l2.length:Int);omega
      show (l.set k0.toNat (DFrac.mk ⟨n2,l3,(G8 2).ss 0⟩ ⟨1,l4,(G8 2).ss 1⟩)).length=1;rw [List.length_set];exact hf3
    show ((l2.length:Int)-(k0+1)).toNat < ((l2.length:Int)-k0).toNat;omega
  refine nm (Bg.sgn (1:Int):Int) fun n3 hn3=>?_;refine nm (Bg.dig (1:Int).natAbs:List Int) fun l5 hl5=>?_;refine nm (Bg.dig 1:List Int) fun l6 hl6=>?_;refine nm (l.getD (c.length:Int).toNat default:DFrac) fun x2 hx2=>?_;refine V.gf [.u 2,.cA 2 37 [] fun G=>fint_ctv (1:Int) (by omega) n3 hn3 l5 hl5 l6 hl6,.iX (kO 52 6 l (G4 2).s) (c.length:Int),.seG g0 4 6 52 true l (fun _=>(G4 2).s) (c.length:Int) none x2 (fun G=>(DFrac.mk ⟨n3,l5,(G 2).ss 0⟩ ⟨1,l6,(G 2).ss 1⟩:DFrac)) hx2 true (fun _=>⟨by omega,by omega⟩) (fun _=>rfl) [(kf true (.g 2 0) l5 (fun G=>(G 2).ss 0)).a,(kf true (.g 2 1) l6 (fun G=>(G 2).ss 1)).a] (fun _ _ ho h=>(And.intro h.1 h.2.1))] fun _ _ G10=>?_;intro S_ s_
  refine V.frzN 6 true 52 (l.set (c.length:Int).toNat (DFrac.mk ⟨n3,l5,(G10 2).ss 0⟩ ⟨1,l6,(G10 2).ss 1⟩)) ((G4 2).s) (by kernel_rfl) kp1 ?_;refine nm (mupd name ⟨l.set (c.length:Int).toNat (DFrac.mk ⟨n3,l5,(G10 2).ss 0⟩ ⟨1,l6,(G10 2).ss 1⟩),(G4 2).s⟩ vl_parcels:List (ByteArray × Fat DFrac)) fun m1 hm1=>?_;refine V.gf [.u 3,.l 0,.u 2,.mu 6 1 85 9 22 false false vl_parcels (fun _=>vl_parcelsb) name ⟨l.set (c.length:Int).toNat (DFrac.mk ⟨n3,l5,(G10 2).ss 0⟩ ⟨1,l6,(G10 2).ss 1⟩),(G4 2).s⟩ m1 hm1 false (fun h=>by cases h) [kB 11 (l.set (c.length:Int).toNat (DFrac.mk ⟨n3,l5,(G10 2).ss 0⟩ ⟨1,l6,(G10 2).ss 1⟩)) (G4 2).s] (fun _ _ h=>h.1)] fun _ _ G11=>?_;intro S_ s_
  have hE1:(fun m=>Rc.upd m vl_parcels name 1) m1:=Rc.upd_put hm1 (Rc.row_one hf3 (by omega) hn3 hl5 hl6 _ _ _);refine V.clM 1 false false (fun m=>Rc.upd m vl_parcels name 1) vl_parcelsb m1 (by kernel_rfl) hE1 ?_;have eL2:l1=[DSource.mk d e f]:=by rw [hl1,List.eq_nil_of_length_eq_zero hS];rfl
  subst eL2;exact V.rS [] [(G3 8).s] [] [] [] [0,1,2,3,4]

open Go Go.Proofs
set_option maxRecDepth 10000 in
theorem wprt_ct (vb:Nat) (t:ByteArray) (A:List DImport) (e:SV) (B:List DInput) (j:SV) (C:List DTable) (k:SV) (D:List DFunc) (m:SV) (E:List DCell) (o:SV) (F:List DPort) (p:SV) (G:List DStore) (q:SV) (I:List DRecipe) (r:SV) (vl_cells:List DSpan) (vl_cellss:SV) (vl_parcels:List (ByteArray × Fat DFrac)) (vl_parcelsb:Nat) (x:List DSource) (a:SV) (y:List DOut) (c:SV) (z:List (Fat DFrac)) (d:SV) (name:ByteArray) (i:Int) (hi:0≤i∧i < (((mlook name vl_parcels).getD default).l.length:Int)) :
    Ct Tryz.prog 114 #[pp vb 0,tv name,iv i] [fs true A e,fs true B j,fs true C k,fs true D m,fs true E o,fs true F p,fs true G q,fs true I r,fs true vl_cells vl_cellss] [.blk vb #[tv t,e.v,j.v,k.v,m.v,o.v,p.v,q.v,r.v,vl_cellss.v,.map (some vl_parcelsb),a.v,c.v,d.v] 87,mp false false vl_parcels vl_parcelsb,os false 137 x a,os false 141 y c,os false 22 z d] (fun g=>ag (DFrac.mk ⟨((((mlook name vl_parcels).getD default).l.getD i.toNat default).P.Sign),(((mlook name vl_parcels).getD default).l.getD i.toNat default).P.Digits.l,(g.ss 0)⟩ ⟨((((mlook name vl_parcels).getD default).l.getD i.toNat default).Q.Sign),(((mlook name vl_parcels).getD default).l.getD i.toNat default).Q.Digits.l,(g.ss 1)⟩)) (fun g=>[fs false ((((mlook name vl_parcels).getD default).l.getD i.toNat default).P.Digits.l) (g.ss 0),fs false ((((mlook name vl_parcels).getD default).l.getD i.toNat default).Q.Digits.l) (g.ss 1)]) (fun g=>[.blk vb #[tv t,e.v,j.v,k.v,m.v,o.v,p.v,q.v,r.v,vl_cellss.v,.map (some vl_parcelsb),a.v,c.v,d.v] 87,mp false false vl_parcels vl_parcelsb,os false 137 x a,os false 141 y c,os false 22 z d]) (fun g=>[]):=by
  refine V.fo mo Tryz.func114 23 1 fun w H ε k0=>?_;clear k0
  refine V.gf [.n 5] fun _ _ G1=>?_;intro S_ s_
  refine nm ((mlook name vl_parcels).getD default:Fat DFrac) fun x1 hx1=>?_;refine nm ((mlook name vl_parcels).isSome:Bool) fun is1 his1=>?_;refine V.gf [.u 3,.l 0,.u 1,.lk 1 85 9 22 false false false vl_parcels (fun _=>vl_parcelsb) name x1 hx1 is1 his1 true,.u 1] fun _ _ G2=>?_;intro S_ s_
  refine V.gf [.u 2,.ln (kx false (.f 9) x1 x1.l (fun _=>x1.s) (fun _ _ h=>h)),.u 1] fun _ _ G3=>?_;intro S_ s_
  refine V.cn (b:=decide (i < (x1.l.length:Int))) iDT iDF (fun q1=>?_) (fun q2=>?_)
  · refine nm (x1.l.getD i.toNat default:DFrac) fun x2 hx2=>?_;refine V.gf [.u 2,.iX (kx false (.f 9) x1 x1.l (fun _=>x1.s) (fun _ _ h=>h)) i,.lE (kx false (.f 9) x1 x1.l (fun _=>x1.s) (fun _ _ h=>h)) i true x2 hx2 true,.s 5] fun _ _ G4=>?_;intro S_ s_
    have e1:x2.P.Digits.l=(((mlook name vl_parcels).getD default).l.getD i.toNat default).P.Digits.l:=by subst_vars;rfl
    rw [←e1];have e3:x2.Q.Digits.l=(((mlook name vl_parcels).getD default).l.getD i.toNat default).Q.Digits.l:=by subst_vars;rfl
    rw [←e3];have e0:x2.P.Sign=(((mlook name vl_parcels).getD default).l.getD i.toNat default).P.Sign:=by subst_vars;rfl
    have e2:x2.Q.Sign=(((mlook name vl_parcels).getD default).l.getD i.toNat default).Q.Sign:=by subst_vars;rfl
    refine V.exF 10 false x2 x2.P.Digits.l x2.P.Digits.s (by kernel_rfl) (fun H (h:Dat.good H (x2:DFrac))=>h.1) ?_;refine V.exF 10 false x2 x2.Q.Digits.l x2.Q.Digits.s (by kernel_rfl) (fun H (h:Dat.good H (x2:DFrac))=>h.2) ?_;exact V.rT [5] [x2.P.Digits.s,x2.Q.Digits.s] [] [] [11,12] [0,1,2,3,4] (cong2 (fun (xz0 xz2:Int)=>(.agg #[iv xz0,x2.P.Digits.s.v,iv xz2,x2.Q.Digits.s.v]:Value)) e0 e2)
  exfalso;have hqq:=q2;subst_vars;omega
theorem wprt_ctv (vb:Nat) (o:ByteArray) (t:List DImport) (d:SV) (u:List DInput) (e:SV) (w:List DTable) (f:SV) (x:List DFunc) (h:SV) (y:List DCell) (j:SV) (z:List DPort) (k:SV) (A:List DStore) (m:SV) (B:List DRecipe) (n:SV) (vl_cells:List DSpan) (vl_cellss:SV) (vl_parcels:List (ByteArray × Fat DFrac)) (vl_parcelsb:Nat) (p:List DSource) (a:SV) (q:List DOut) (b:SV) (r:List (Fat DFrac)) (c:SV) (name:ByteArray) (i:Int) (hi:0≤i∧i < (((mlook name vl_parcels).getD default).l.length:Int)) (rv0:Int) (erv0:rv0=(((mlook name vl_parcels).getD default).l.getD i.toNat default).P.Sign) (rv1:List Int) (erv1:rv1=(((mlook name vl_parcels).getD default).l.getD i.toNat default).P.Digits.l) (rv2:Int) (erv2:rv2=(((mlook name vl_parcels).getD default).l.getD i.toNat default).Q.Sign) (rv3:List Int) (erv3:rv3=(((mlook name vl_parcels).getD default).l.getD i.toNat default).Q.Digits.l) :
    Ct Tryz.prog 114 #[pp vb 0,tv name,iv i] [fs true t d,fs true u e,fs true w f,fs true x h,fs true y j,fs true z k,fs true A m,fs true B n,fs true vl_cells vl_cellss] [.blk vb #[tv o,d.v,e.v,f.v,h.v,j.v,k.v,m.v,n.v,vl_cellss.v,.map (some vl_parcelsb),a.v,b.v,c.v] 87,mp false false vl_parcels vl_parcelsb,os false 137 p a,os false 141 q b,os false 22 r c] (fun g=>ag (DFrac.mk ⟨rv0,rv1,(g.ss 0)⟩ ⟨rv2,rv3,(g.ss 1)⟩)) (fun g=>[fs false rv1 (g.ss 0),fs false rv3 (g.ss 1)]) (fun g=>[.blk vb #[tv o,d.v,e.v,f.v,h.v,j.v,k.v,m.v,n.v,vl_cellss.v,.map (some vl_parcelsb),a.v,b.v,c.v] 87,mp false false vl_parcels vl_parcelsb,os false 137 p a,os false 141 q b,os false 22 r c]) (fun g=>[]):=by
  subst erv0 erv1 erv2 erv3;exact wprt_ct vb o t d u e w f x h y j z k A m B n vl_cells vl_cellss vl_parcels vl_parcelsb p a q b r c name i hi

open Go Go.Proofs
set_option maxRecDepth 10000 in
theorem wmix_ct (vb:Nat) (E:ByteArray) (F:List DImport) (o:SV) (I:List DInput) (p:SV) (J:List DTable) (q:SV) (K:List DFunc) (r:SV) (L:List DCell) (t:SV) (M:List DPort) (x:SV) (N:List DStore) (y:SV) (R:List DRecipe) (z:SV) (vl_cells:List DSpan) (vl_cellss:SV) (vl_parcels:List (ByteArray × Fat DFrac)) (vl_parcelsb:Nat) (j:List DSource) (f:SV) (C:List DOut) (k:SV) (D:List (Fat DFrac)) (m:SV) (l:List ByteArray) (ls:SV) (e:Int) (c:List Int) (A:SV) (i:Int) (d:List Int) (B:SV) (hS:j.length=1) (hL:l.length=1) (hA:Rc.at_ vl_parcels (l.getD 0 default) 1) (hb:Fr.FrB e c i d) (hB:Fr.Hb (Fr.fq e c d) 1000) :
    Ct Tryz.prog 69 #[pp vb 0,ls.v,ag (DFrac.mk ⟨e,c,A⟩ ⟨i,d,B⟩)] [fs true F o,fs true I p,fs true J q,fs true K r,fs true L t,fs true M x,fs true N y,fs true R z,fs true vl_cells vl_cellss,fs true l ls,fs true c A,fs true d B] [.blk vb #[tv E,o.v,p.v,q.v,r.v,t.v,x.v,y.v,z.v,vl_cellss.v,.map (some vl_parcelsb),f.v,k.v,m.v] 87,mp false false vl_parcels vl_parcelsb,os false 137 j f,os false 141 C k,os false 22 D m] (fun g=>((g.ss 0)).v) (fun g=>[fs true (Fr.frs [Fr.fq e c d] (g.sl 0)) (g.ss 0)]) (fun g=>[.blk vb #[tv E,o.v,p.v,q.v,r.v,t.v,x.v,y.v,z.v,vl_cellss.v,.map (some vl_parcelsb),f.v,k.v,m.v] 87,mp false false vl_parcels vl_parcelsb,os false 137 j f,os false 141 C k,os false 22 D m]) (fun g=>[]):=by
  refine V.fo mo Tryz.func69 63 2 fun w H ε k0=>?_;clear k0
  have hbz:Fr.Fz e c i d (Fr.fq e c d):=⟨hb,rfl⟩;have hbl:=hbz.len hB;have hbl1:=hbl.1;have hbl2:=hbl.2;refine V.gf [.n 5,.u 1] fun _ _ G1=>?_;intro S_ s_
  refine nm (List.replicate (j.length:Int).toNat (default:DFrac):List DFrac) fun l1 hl1=>?_;have hl1n:=congrArg List.length hl1;try simp only [List.length_append,List.length_cons,List.length_nil,List.length_replicate,List.length_set,List.length_take,List.length_drop,List.length_map,List.length_reverse,List.length_range] at hl1n
  refine V.rf [.u 4,.l 0,.ln (ko false 137 2 j (fun _=>f)),.mksB w.heap.size 6 6 52 64 (j.length:Int) l1 hl1 (by omega) (by omega) (by omega),.u 1] fun _ _ G2 kw2=>?_;intro S_ s_
  obtain ⟨kp1, -⟩:NewS w.heap.size (G2 6).s∧True∧Lq j f.v∧Lq C k.v∧Lq D m.v∧Lq l1 (((G2 6).s).v)∧True:=kq kw2;clear kw2;refine V.gf [.u 1,.ln (kO 52 6 l1 (G2 6).s),.u 1] fun _ _ G3=>?_;intro S_ s_;refine V.lp (γ:=List DFrac × Int) (fun ⟨out,k0⟩=>⟨[(0,pp vb 0),(1,ls.v),(5,pp ((G1 0).b) 0),(7,((G2 6).s).v),(19,iv (l1.length:Int)),(20,iv k0)],[fs false l ls,fs false F o,fs false I p,fs false J q,fs false K r,fs false L t,fs false M x,fs false N y,fs false R z,fs false vl_cells vl_cellss,fs false c A,fs false d B],[.blk vb #[tv E,o.v,p.v,q.v,r.v,t.v,x.v,y.v,z.v,vl_cellss.v,.map (some vl_parcelsb),f.v,k.v,m.v] 87,mp false false vl_parcels vl_parcelsb,os false 137 j f,os false 141 C k,os false 22 D m,.blk ((G1 0).b) (ca (DFrac.mk ⟨e,c,A⟩ ⟨i,d,B⟩)) 52,os true 52 out ((G2 6).s)]⟩) (fun ⟨out,k0⟩=>(0≤k0)∧(k0≤(l1.length:Int))∧(out.length=1)∧(0 < k0→Fr.rt (out.getD 0 default)∧Fr.qv (out.getD 0 default)=Fr.fq e c d)) (fun ⟨out,k0⟩=>((1:Int)-k0).toNat) (l1,0) [9,0,1,2,3,4,5,6,7,8,10,11] ?_ ?_
  · refine ⟨?_,?_,?_,?_⟩
    · show 0≤(0:Int)
      first | omega | rfl | (simp;done) | (subst_vars;simp;done)
    · show (0:Int)≤(l1.length:Int)
      first | omega | rfl | (simp;done) | (subst_vars;simp;done)
    · show l1.length=1;rw [hl1n];omega
    show 0 < (0:Int)→Fr.rt (l1.getD 0 default)∧Fr.qv (l1.getD 0 default)=Fr.fq e c d;intro h;omega
  rintro ⟨out,k0⟩ hF1 kw4 Z1 hZ1;have hF1:(0≤k0)∧(k0≤(l1.length:Int))∧(out.length=1)∧(0 < k0→Fr.rt (out.getD 0 default)∧Fr.qv (out.getD 0 default)=Fr.fq e c d):=hF1;obtain ⟨hf1,hf2,hf3,hf4⟩:=hF1;refine V.gf [.u 1] fun _ _ G4=>?_;intro S_ s_;refine V.cn (b:=decide (k0 < (l1.length:Int))) iDT iDF (fun q1=>?_) (fun q2=>?_)
  · refine V.gf [.u 2] fun _ _ G5=>?_;intro S_ s_
    refine nm (Bg.sgn (0:Int):Int) fun n1 hn1=>?_;refine nm (Bg.dig (0:Int).natAbs:List Int) fun l2 hl2=>?_;refine nm (Bg.dig 1:List Int) fun l3 hl3=>?_;refine nm (out.getD k0.toNat default:DFrac) fun x1 hx1=>?_;have z0:Fr.Fz n1 l2 1 l3 0:=by rw [hn1,hl2,hl3];exact ⟨Fr.FrB.of 0,Fr.fq_of 0⟩
    refine V.gf [.u 2,.cA 2 37 [] fun G=>fint_ctv (0:Int) (by omega) n1 hn1 l2 hl2 l3 hl3,.iX (kO 52 6 out (G2 6).s) k0,.seG g0 4 6 52 true out (fun _=>(G2 6).s) k0 none x1 (fun G=>(DFrac.mk ⟨n1,l2,(G 2).ss 0⟩ ⟨1,l3,(G 2).ss 1⟩:DFrac)) hx1 true (fun _=>⟨by omega,by omega⟩) (fun _=>rfl) [(kf true (.g 2 0) l2 (fun G=>(G 2).ss 0)).a,(kf true (.g 2 1) l3 (fun G=>(G 2).ss 1)).a] (fun _ _ ho h=>(And.intro h.1 h.2.1))] fun _ _ G6=>?_;intro S_ s_
    refine V.gf [.u 1,.ln (kF 0 l ls),.u 1] fun _ _ G7=>?_;intro S_ s_
    refine V.lp (γ:=List DFrac × Int) (fun ⟨out_1,k1⟩=>⟨[(0,pp vb 0),(1,ls.v),(5,pp ((G1 0).b) 0),(7,((G2 6).s).v),(8,iv k0),(19,iv (l1.length:Int)),(20,iv k0),(27,ls.v),(28,iv (l.length:Int)),(29,iv k1)],[fs false l ls,fs false F o,fs false I p,fs false J q,fs false K r,fs false L t,fs false M x,fs false N y,fs false R z,fs false vl_cells vl_cellss,fs false c A,fs false d B],[.blk vb #[tv E,o.v,p.v,q.v,r.v,t.v,x.v,y.v,z.v,vl_cellss.v,.map (some vl_parcelsb),f.v,k.v,m.v] 87,mp false false vl_parcels vl_parcelsb,os false 137 j f,os false 141 C k,os false 22 D m,.blk ((G1 0).b) (ca (DFrac.mk ⟨e,c,A⟩ ⟨i,d,B⟩)) 52,os true 52 out_1 ((G2 6).s)]⟩) (fun ⟨out_1,k1⟩=>(0≤k1)∧(k1≤(l.length:Int))∧(out_1.length=1)∧(Fr.rt (out_1.getD 0 default)∧Fr.qv (out_1.getD 0 default)=if 0 < k1 then 1 else 0)) (fun ⟨out_1,k1⟩=>((l.length:Int)-k1).toNat) (out.set k0.toNat (DFrac.mk ⟨n1,l2,(G6 2).ss 0⟩ ⟨1,l3,(G6 2).ss 1⟩),0) [0,1,2,3,4,5,6,7,8,9,10,11] ?_ ?_
    · refine ⟨?_,?_,?_,?_⟩
      · show 0≤(0:Int)
        first | omega | rfl | (simp;done) | (subst_vars;simp;done)
      · show (0:Int)≤(l.length:Int)
        first | omega | rfl | (simp;done) | (subst_vars;simp;done)
      · show (out.set k0.toNat (DFrac.mk ⟨n1,l2,(G6 2).ss 0⟩ ⟨1,l3,(G6 2).ss 1⟩)).length=1;rw [List.length_set];exact hf3
      show Fr.rt ((out.set k0.toNat (DFrac.mk ⟨n1,l2,(G6 2).ss 0⟩ ⟨1,l3,(G6 2).ss 1⟩)).getD 0 default)∧Fr.qv ((out.set k0.toNat (DFrac.mk ⟨n1,l2,(G6 2).ss 0⟩ ⟨1,l3,(G6 2).ss 1⟩)).getD 0 default)=if 0 < (0:Int) then 1 else 0
      rw [Rc.set_one hf3 (by omega)];exact ⟨z0.rt,by rw [if_neg (by omega)];exact z0.v⟩
    rintro ⟨out_1,k1⟩ hF2 kw9 Z2 hZ2;have hF2:(0≤k1)∧(k1≤(l.length:Int))∧(out_1.length=1)∧(Fr.rt (out_1.getD 0 default)∧Fr.qv (out_1.getD 0 default)=if 0 < k1 then 1 else 0):=hF2;obtain ⟨hf5,hf6,hf7,hf8⟩:=hF2;refine V.gf [.u 1] fun _ _ G8=>?_;intro S_ s_;refine V.cn (b:=decide (k1 < (l.length:Int))) iDT iDF (fun q3=>?_) (fun q4=>?_)
    · refine nm (l.getD k1.toNat default:ByteArray) fun x2 hx2=>?_;refine V.gf [.iX (kF 0 l ls) k1,.lE (kF 0 l ls) k1 false x2 hx2 false,.u 1] fun _ _ G9=>?_;intro S_ s_
      refine nm (out_1.getD k0.toNat default:DFrac) fun x3 hx3=>?_;refine nm ((((mlook x2 vl_parcels).getD default).l.getD k0.toNat default).P.Sign:Int) fun n2 hn2=>?_;refine nm ((((mlook x2 vl_parcels).getD default).l.getD k0.toNat default).P.Digits.l:List Int) fun l4 hl4=>?_;refine nm ((((mlook x2 vl_parcels).getD default).l.getD k0.toNat default).Q.Sign:Int) fun n3 hn3=>?_;refine nm ((((mlook x2 vl_parcels).getD default).l.getD k0.toNat default).Q.Digits.l:List Int) fun l5 hl5=>?_;refine nm (Fr.rS (Fr.FrB x3.P.Sign x3.P.Digits.l x3.Q.Sign x3.Q.Digits.l∧Fr.FrB n2 l4 n3 l5) ((Fr.fq x3.P.Sign x3.P.Digits.l x3.Q.Digits.l)+(Fr.fq n2 l4 l5)):Int) fun n4 hn4=>?_;refine nm (Fr.rD (Fr.FrB x3.P.Sign x3.P.Digits.l x3.Q.Sign x3.Q.Digits.l∧Fr.FrB n2 l4 n3 l5) ((Fr.fq x3.P.Sign x3.P.Digits.l x3.Q.Digits.l)+(Fr.fq n2 l4 l5)):List Int) fun l6 hl6=>?_;refine nm (Fr.rT (Fr.FrB x3.P.Sign x3.P.Digits.l x3.Q.Sign x3.Q.Digits.l∧Fr.FrB n2 l4 n3 l5):Int) fun n5 hn5=>?_;refine nm (Fr.rE (Fr.FrB x3.P.Sign x3.P.Digits.l x3.Q.Sign x3.Q.Digits.l∧Fr.FrB n2 l4 n3 l5) ((Fr.fq x3.P.Sign x3.P.Digits.l x3.Q.Digits.l)+(Fr.fq n2 l4 l5)):List Int) fun l7 hl7=>?_;refine nm (if ¬ (Fr.FrB x3.P.Sign x3.P.Digits.l x3.Q.Sign x3.Q.Digits.l∧Fr.FrB n2 l4 n3 l5) then (1:Int) else 0:Int) fun n6 hn6=>?_;have hx2e:x2=l.getD 0 default:=by rw [hx2,show k1.toNat=0 by omega]
      have hA2:Rc.at_ vl_parcels x2 1:=by rw [hx2e];exact hA
      have hpl:=Rc.at_len hA2;have hpz:Fr.Fz n2 l4 n3 l5 1:=by rw [hn2,hl4,hn3,hl5,show k0.toNat=0 by omega];exact Rc.at_z hA2
      have hpzl:=hpz.len Rc.hb1;have hpz1:=hpzl.1;have hpz2:=hpzl.2;have hxz:Fr.Fz x3.P.Sign x3.P.Digits.l x3.Q.Sign x3.Q.Digits.l (if 0 < k1 then 1 else 0):=by have h0:=hf8;rw [show (0:Nat)=k0.toNat by omega,← hx3] at h0;exact ⟨h0.1,h0.2⟩
      have hxzl:=hxz.len (by split;exact Rc.hb1;exact Rc.hb0);have hxz1:=hxzl.1;have hxz2:=hxzl.2;have zs:=Fr.Fz.of ⟨hxz.rt,hpz.rt⟩ hn4 hl6 hn5 hl7;rw [hxz.v,hpz.v] at zs;refine V.gf [.u 4,.iX (kO 52 6 out_1 (G2 6).s) k0,.lE (kO 52 6 out_1 (G2 6).s) k0 true x3 hx3 true,.u 3,.cB 9 114 true [0,1,2,3,4] [] [kA 1 F o,kA 2 I p,kA 3 J q,kA 4 K r,kA 5 L t,kA 6 M x,kA 7 N y,kA 8 R z,kA 9 vl_cells vl_cellss] fun G=>wprt_ctv vb E F o I p J q K r L t M x N y R z vl_cells vl_cellss vl_parcels vl_parcelsb j f C k D m x2 k0 ⟨by omega,by rw [hpl];omega⟩ n2 hn2 l4 hl4 n3 hn3 l5 hl5,.cA 10 64 [(kx true (.g 5 0) x3 x3.P.Digits.l (fun _=>x3.P.Digits.s) (fun _ H (h:Dat.good H (x3:DFrac))=>h.1)).a,(kx true (.g 5 0) x3 x3.Q.Digits.l (fun _=>x3.Q.Digits.s) (fun _ H (h:Dat.good H (x3:DFrac))=>h.2)).a,(kf false (.g 9 0) l4 (fun G=>(G 9).ss 0)).a,(kf false (.g 9 1) l5 (fun G=>(G 9).ss 1)).a] fun G=>fadd_ctv x3.P.Sign x3.P.Digits.l x3.P.Digits.s x3.Q.Sign x3.Q.Digits.l x3.Q.Digits.s n2 l4 ((G 9).ss 0) n3 l5 ((G 9).ss 1) (by omega) (by omega) (by omega) (by omega) n4 hn4 l6 hl6 n5 hn5 l7 hl7 n6 hn6,.u 3,.iX (kO 52 6 out_1 (G2 6).s) k0,.seG g0 15 6 52 true out_1 (fun _=>(G2 6).s) k0 none x3 (fun G=>(DFrac.mk ⟨n4,l6,(G 10).ss 0⟩ ⟨n5,l7,(G 10).ss 1⟩:DFrac)) hx3 true (fun _=>⟨by omega,by omega⟩) (fun _=>rfl) [(kf true (.g 10 0) l6 (fun G=>(G 10).ss 0)).a,(kf true (.g 10 1) l7 (fun G=>(G 10).ss 1)).a] (fun _ _ ho h=>(And.intro h.1 h.2.1))] fun _ _ G10=>?_;intro S_ s_
      refine V.gf [.aa (k1+1),.u 1] fun _ _ G11=>?_;intro S_ s_
      refine V.rn hZ2 (out_1.set k0.toNat (DFrac.mk ⟨n4,l6,(G10 10).ss 0⟩ ⟨n5,l7,(G10 10).ss 1⟩),k1+1) [0,1,2,3,4,5,6,7,8,9,10,11] ?_ ?_
      · refine ⟨?_,?_,?_,?_⟩
        · show 0≤(k1+1);omega
        · show (k1+1)≤(l.length:Int);omega
        · show (out_1.set k0.toNat (DFrac.mk ⟨n4,l6,(G10 10).ss 0⟩ ⟨n5,l7,(G10 10).ss 1⟩)).length=1;rw [List.length_set];exact hf7
        show Fr.rt ((out_1.set k0.toNat (DFrac.mk ⟨n4,l6,(G10 10).ss 0⟩ ⟨n5,l7,(G10 10).ss 1⟩)).getD 0 default)∧Fr.qv ((out_1.set k0.toNat (DFrac.mk ⟨n4,l6,(G10 10).ss 0⟩ ⟨n5,l7,(G10 10).ss 1⟩)).getD 0 default)=if 0 < (k1+1) then 1 else 0
        rw [Rc.set_one hf7 (by omega)];exact ⟨zs.rt,by have hz:=zs.v;rw [if_neg (show ¬ 0 < k1 by omega),Rat.zero_add] at hz;rw [if_pos (by omega)];exact hz⟩
      show ((l.length:Int)-(k1+1)).toNat < ((l.length:Int)-k1).toNat;omega
    refine nm (out_1.getD k0.toNat default:DFrac) fun x4 hx4=>?_;refine nm (Fr.rS (Fr.FrB x4.P.Sign x4.P.Digits.l x4.Q.Sign x4.Q.Digits.l∧Fr.FrB e c i d) ((Fr.fq x4.P.Sign x4.P.Digits.l x4.Q.Digits.l) * (Fr.fq e c d)):Int) fun n7 hn7=>?_;refine nm (Fr.rD (Fr.FrB x4.P.Sign x4.P.Digits.l x4.Q.Sign x4.Q.Digits.l∧Fr.FrB e c i d) ((Fr.fq x4.P.Sign x4.P.Digits.l x4.Q.Digits.l) * (Fr.fq e c d)):List Int) fun l8 hl8=>?_;refine nm (Fr.rT (Fr.FrB x4.P.Sign x4.P.Digits.l x4.Q.Sign x4.Q.Digits.l∧Fr.FrB e c i d):Int) fun n8 hn8=>?_;refine nm (Fr.rE (Fr.FrB x4.P.Sign x4.P.Digits.l x4.Q.Sign x4.Q.Digits.l∧Fr.FrB e c i d) ((Fr.fq x4.P.Sign x4.P.Digits.l x4.Q.Digits.l) * (Fr.fq e c d)):List Int) fun l9 hl9=>?_;refine nm (if ¬ (Fr.FrB x4.P.Sign x4.P.Digits.l x4.Q.Sign x4.Q.Digits.l∧Fr.FrB e c i d) then (1:Int) else 0:Int) fun n9 hn9=>?_;have hyz:Fr.Fz x4.P.Sign x4.P.Digits.l x4.Q.Sign x4.Q.Digits.l 1:=by have h0:=hf8;rw [show (0:Nat)=k0.toNat by omega,← hx4,if_pos (by omega)] at h0;exact ⟨h0.1,h0.2⟩
    have hyzl:=hyz.len Rc.hb1;have hyz1:=hyzl.1;have hyz2:=hyzl.2;have zm:=Fr.Fz.of ⟨hyz.rt,hb⟩ hn7 hl8 hn8 hl9;rw [hyz.v] at zm;refine V.gf [.u 4,.iX (kO 52 6 out_1 (G2 6).s) k0,.lE (kO 52 6 out_1 (G2 6).s) k0 true x4 hx4 true,.l 5,.cA 7 36 [(kx true (.g 5 0) x4 x4.P.Digits.l (fun _=>x4.P.Digits.s) (fun _ H (h:Dat.good H (x4:DFrac))=>h.1)).a,(kx true (.g 5 0) x4 x4.Q.Digits.l (fun _=>x4.Q.Digits.s) (fun _ H (h:Dat.good H (x4:DFrac))=>h.2)).a,kA 10 c A,kA 11 d B] fun G=>fmul_ctv x4.P.Sign x4.P.Digits.l x4.P.Digits.s x4.Q.Sign x4.Q.Digits.l x4.Q.Digits.s e c A i d B (by omega) (by omega) (by omega) (by omega) n7 hn7 l8 hl8 n8 hn8 l9 hl9 n9 hn9,.u 3,.iX (kO 52 6 out_1 (G2 6).s) k0,.seG g0 12 6 52 true out_1 (fun _=>(G2 6).s) k0 none x4 (fun G=>(DFrac.mk ⟨n7,l8,(G 7).ss 0⟩ ⟨n8,l9,(G 7).ss 1⟩:DFrac)) hx4 true (fun _=>⟨by omega,by omega⟩) (fun _=>rfl) [(kf true (.g 7 0) l8 (fun G=>(G 7).ss 0)).a,(kf true (.g 7 1) l9 (fun G=>(G 7).ss 1)).a] (fun _ _ ho h=>(And.intro h.1 h.2.1))] fun _ _ G12=>?_;intro S_ s_
    refine V.gf [.aa (k0+1),.u 1] fun _ _ G13=>?_;intro S_ s_
    refine V.rn hZ1 (out_1.set k0.toNat (DFrac.mk ⟨n7,l8,(G12 7).ss 0⟩ ⟨n8,l9,(G12 7).ss 1⟩),k0+1) [0,1,2,3,4,5,6,7,8,9,10,11] ?_ ?_
    · refine ⟨?_,?_,?_,?_⟩
      · show 0≤(k0+1);omega
      · show (k0+1)≤(l1.length:Int);omega
      · show (out_1.set k0.toNat (DFrac.mk ⟨n7,l8,(G12 7).ss 0⟩ ⟨n8,l9,(G12 7).ss 1⟩)).length=1;rw [List.length_set];exact hf7
      show 0 < (k0+1)→Fr.rt ((out_1.set k0.toNat (DFrac.mk ⟨n7,l8,(G12 7).ss 0⟩ ⟨n8,l9,(G12 7).ss 1⟩)).getD 0 default)∧Fr.qv ((out_1.set k0.toNat (DFrac.mk ⟨n7,l8,(G12 7).ss 0⟩ ⟨n8,l9,(G12 7).ss 1⟩)).getD 0 default)=Fr.fq e c d;intro _;rw [Rc.set_one hf7 (by omega)];exact ⟨zm.rt,by have hz:=zm.v;rw [Rat.one_mul] at hz;exact hz⟩
    show ((1:Int)-(k0+1)).toNat < ((1:Int)-k0).toNat;omega
  refine V.gf [.u 2] fun _ _ G14=>?_;intro S_ s_
  refine V.frzN 6 true 52 out ((G2 6).s) (by kernel_rfl) kp1 ?_;have e0:Fr.Frs out [Fr.fq e c d]:=Rc.frs_one hf3 (hf4 (by omega));obtain ⟨σ0,E0⟩:=Fr.frs_ex e0;subst E0;clear e0;exact V.rS [0] [(G2 6).s] [σ0] [] [12] [0,1,2,3,4]

open Go Go.Proofs
set_option maxRecDepth 10000 in
theorem wout_ct (vb:Nat) (B:ByteArray) (D:List DImport) (m:SV) (E:List DInput) (o:SV) (F:List DTable) (p:SV) (I:List DFunc) (q:SV) (J:List DCell) (r:SV) (K:List DPort) (t:SV) (L:List DStore) (x:SV) (M:List DRecipe) (y:SV) (vl_cells:List DSpan) (vl_cellss:SV) (vl_parcels:List (ByteArray × Fat DFrac)) (vl_parcelsb:Nat) (C:List DSource) (k:SV) (i:List DOut) (z:SV) (j:List (Fat DFrac)) (A:SV) (c d e:Int) (f name:ByteArray) (hO:(i.length:Int)≤1000) (hS:(j.length:Int)≤1000) :
    Ct Tryz.prog 70 #[pp vb 0,ag (DOut.mk c d e f),tv name] [fs true D m,fs true E o,fs true F p,fs true I q,fs true J r,fs true K t,fs true L x,fs true M y,fs true vl_cells vl_cellss] [.blk vb #[tv B,m.v,o.v,p.v,q.v,r.v,t.v,x.v,y.v,vl_cellss.v,.map (some vl_parcelsb),k.v,z.v,A.v] 87,mp false false vl_parcels vl_parcelsb,os false 137 C k,os false 141 i z,os false 22 j A] (fun g=>.tuple #[]) (fun g=>[]) (fun g=>[.blk vb #[tv B,m.v,o.v,p.v,q.v,r.v,t.v,x.v,y.v,vl_cellss.v,.map (some vl_parcelsb),k.v,(g.ss 0).v,(g.ss 1).v] 87,mp false false vl_parcels vl_parcelsb,os false 137 C k,os true 141 (i ++[DOut.mk c d e f]) (g.ss 0),os false 22 (j ++[(mlook name vl_parcels).getD default]) (g.ss 1)]) (fun g=>[]):=by
  refine V.fo mo Tryz.func70 35 1 fun w H ε k0=>?_;clear k0
  refine V.gf [.n 5] fun _ _ G1=>?_;intro S_ s_
  refine nm (i ++([DOut.mk c d e f]:List DOut):List DOut) fun l1 hl1=>?_;refine V.gf [.u 5,.l 0,.l 5,.nr 7 true 141 ([DOut.mk c d e f]:List DOut) [] (fun _ _ _ _ _=>trivial) (fun _=>#[iv c,iv d,iv e,tv f]),.ap 8 3 141 40 false false i (fun _=>z) (kf true (.g 7 0) ([DOut.mk c d e f]:List DOut) (fun G=>⟨atB (G 7).b,1,1⟩)) true l1 hl1 (by (try simp only [List.length_append,List.length_cons,List.length_nil,List.length_replicate,List.length_set,List.length_take,List.length_drop,List.length_map,List.length_reverse,List.length_range]);omega) (fun h=>by cases h) (.inr fun _ _=>trivial),.u 3,.s 0] fun _ _ G2=>?_;intro S_ s_
  refine nm ((mlook name vl_parcels).getD default:Fat DFrac) fun x1 hx1=>?_;refine nm ((mlook name vl_parcels).isSome:Bool) fun is1 his1=>?_;refine nm (j ++([x1]:List (Fat DFrac)):List (Fat DFrac)) fun l2 hl2=>?_;refine V.gf [.u 5,.l 0,.u 3,.l 0,.u 1,.lk 1 85 9 22 false false false vl_parcels (fun _=>vl_parcelsb) name x1 hx1 is1 his1 true,.nr 12 false 22 ([x1]:List (Fat DFrac)) [(kx false (.g 11 0) x1 x1.l (fun _=>x1.s) (fun _ _ h=>h)).a] (fun _ _ h=>(List.forall_mem_cons.2 ⟨h.1,(List.forall_mem_nil _)⟩)) (fun _=>#[x1.s.v]),.ap 13 4 22 24 false false j (fun _=>A) (kf false (.g 12 0) ([x1]:List (Fat DFrac)) (fun G=>⟨atB (G 12).b,1,1⟩)) false l2 hl2 (by (try simp only [List.length_append,List.length_cons,List.length_nil,List.length_replicate,List.length_set,List.length_take,List.length_drop,List.length_map,List.length_reverse,List.length_range]);omega) (fun h=>by cases h) (.inl fun h=>by cases h),.u 3,.s 0] fun _ _ G3=>?_;intro S_ s_
  have eL3:l1=i ++[DOut.mk c d e f]:=by subst_vars;rfl
  subst eL3;have eL4:l2=j ++[(mlook name vl_parcels).getD default]:=by subst_vars;rfl
  subst eL4;exact V.rS [] [(G2 8).s,(G3 13).s] [] [] [] [0,1,2,3,4]

open Go Go.Proofs
set_option maxRecDepth 10000 in
theorem clonef2_ct (s:List DFrac) (ss:SV) (hcl:s.length≤1099511627) :
    Ct Tryz.prog 72 #[ss.v] [fs true s ss] [] (fun g=>((g.ss 0)).v) (fun g=>[]) (fun g=>[os false 52 s (g.ss 0)]) (fun g=>[]):=by
  refine V.fo mo Tryz.func72 8 2 fun w H ε k0=>?_;obtain ⟨⟨kl1,kn1⟩, -⟩:Lq s ss.v∧True:=kq k0
  clear k0;refine V.gf [.u 1] fun _ _ G1=>?_;intro S_ s_
  refine V.gf [.u 1,.isn false (fun _=>ss)] fun _ _ G2=>?_;intro S_ s_
  refine V.cn (b:=ss.a.isNone) Iff.rfl Iff.rfl (fun q1=>?_) (fun q2=>?_)
  · refine V.gf [.u 1] fun _ _ G3=>?_;intro S_ s_
    refine V.on (α:=DFrac) 0 52 (by kernel_rfl) ?_;have e0:([]:List DFrac)=s:=(kn1 _ rfl q1).symm;rw [←e0];exact V.rS [0] [] [] [] [] [0]
  refine nm (([]:List DFrac) ++s:List DFrac) fun l1 hl1=>?_;refine V.gf [.nl 0 1 true 52 ([]:List DFrac) [] (fun _ _ h=>(List.forall_mem_nil _)) (fun _=>#[]),.u 1,.ap 2 1 52 64 false true ([]:List DFrac) (fun G=>⟨atB (G 0).b,0,0⟩) (kF 0 s ss) false l1 hl1 (by (try simp only [List.length_append,List.length_cons,List.length_nil,List.length_replicate,List.length_set,List.length_take,List.length_drop,List.length_map,List.length_reverse,List.length_range]);omega) (fun h=>by cases h) (.inl fun h=>by cases h),.u 1] fun _ _ G4=>?_;intro S_ s_
  have e0:l1=s:=by rw [hl1];simp
  replace e0:=e0.symm
  subst e0;exact V.rS [0] [(G4 2).s] [] [] [] [1]

open Go Go.Proofs
set_option maxRecDepth 10000 in
theorem wfil_ct (vb:Nat) (z:ByteArray) (A:List DImport) (k:SV) (B:List DInput) (m:SV) (C:List DTable) (n:SV) (D:List DFunc) (o:SV) (E:List DCell) (p:SV) (F:List DPort) (q:SV) (I:List DStore) (t:SV) (J:List DRecipe) (x:SV) (vl_cells:List DSpan) (vl_cellss:SV) (vl_parcels:List (ByteArray × Fat DFrac)) (vl_parcelsb:Nat) (j:List DSource) (e:SV) (y:List DOut) (i:SV) (d:List (Fat DFrac)) (c:SV) (Vq:List Rat) (hS:j.length=1) (hV:Rc.rws d Vq) (hB:∀ r ∈ Vq,Fr.Hb r 1000) :
    Ct Tryz.prog 26 #[pp vb 0] [fs true A k,fs true B m,fs true C n,fs true D o,fs true E p,fs true F q,fs true I t,fs true J x,fs true vl_cells vl_cellss] [.blk vb #[tv z,k.v,m.v,n.v,o.v,p.v,q.v,t.v,x.v,vl_cellss.v,.map (some vl_parcelsb),e.v,i.v,c.v] 87,mp false false vl_parcels vl_parcelsb,os false 137 j e,os false 141 y i,os false 22 d c] (fun g=>.tuple #[]) (fun g=>[]) (fun g=>[.blk vb #[tv z,k.v,m.v,n.v,o.v,p.v,q.v,t.v,x.v,vl_cellss.v,.map (some vl_parcelsb),e.v,i.v,(g.ss 0).v] 87,mp false false vl_parcels vl_parcelsb,os false 137 j e,os false 141 y i,osE false 22 (fun l=>Rc.rws l Vq) (g.ss 0)]) (fun g=>[]):=by
  refine V.fo mo Tryz.func26 58 1 fun w H ε k0=>?_;obtain ⟨⟨kl1, -⟩,⟨kl2, -⟩,⟨kl3, -⟩,⟨kl4, -⟩,⟨kl5, -⟩,⟨kl6, -⟩,⟨kl7, -⟩,⟨kl8, -⟩,⟨kl9, -⟩, -,⟨kl10, -⟩,⟨kl11, -⟩,⟨kl12, -⟩, -⟩:Lq A k.v∧Lq B m.v∧Lq C n.v∧Lq D o.v∧Lq E p.v∧Lq F q.v∧Lq I t.v∧Lq J x.v∧Lq vl_cells vl_cellss.v∧True∧Lq j e.v∧Lq y i.v∧Lq d c.v∧True:=kq k0
  clear k0;refine V.gf [.u 4,.l 0,.ln (ko false 22 4 d (fun _=>c)),.u 1] fun _ _ G1=>?_;intro S_ s_
  refine V.lp (γ:=List (Fat DFrac) × Int) (fun ⟨sh,k0⟩=>⟨[(0,pp vb 0),(9,c.v),(10,iv (d.length:Int)),(11,iv k0)],[fs false A k,fs false B m,fs false C n,fs false D o,fs false E p,fs false F q,fs false I t,fs false J x,fs false vl_cells vl_cellss],[.blk vb #[tv z,k.v,m.v,n.v,o.v,p.v,q.v,t.v,x.v,vl_cellss.v,.map (some vl_parcelsb),e.v,i.v,c.v] 87,mp false false vl_parcels vl_parcelsb,os false 137 j e,os false 141 y i,os false 22 sh c,.no]⟩) (fun ⟨sh,k0⟩=>(0≤k0)∧(k0≤(d.length:Int))∧(Rc.rws sh Vq)) (fun ⟨sh,k0⟩=>((d.length:Int)-k0).toNat) (d,0) [0,1,2,3,4,5,6,7,8] ?_ ?_
  · refine ⟨?_,?_,?_⟩
    · show 0≤(0:Int)
      first | omega | rfl | (simp;done) | (subst_vars;simp;done)
    · show (0:Int)≤(d.length:Int)
      first | omega | rfl | (simp;done) | (subst_vars;simp;done)
    show Rc.rws d Vq;exact hV
  rintro ⟨sh,k0⟩ hF1 kw2 Z1 hZ1;have hF1:(0≤k0)∧(k0≤(d.length:Int))∧(Rc.rws sh Vq):=hF1;obtain ⟨hf1,hf2,hf3⟩:=hF1;have hrl:=hf3.1;have hvl:=hV.1;refine V.gf [.u 1] fun _ _ G2=>?_;intro S_ s_;refine V.cn (b:=decide (k0 < (d.length:Int))) iDT iDF (fun q1=>?_) (fun q2=>?_)
  · refine nm (sh.getD k0.toNat default:Fat DFrac) fun x1 hx1=>?_;refine V.gf [.u 1,.iX (ko false 22 4 sh (fun _=>c)) k0,.lE (ko false 22 4 sh (fun _=>c)) k0 true x1 hx1 false,.u 2] fun _ _ G3=>?_;intro S_ s_
    have hrx:=hf3.2 k0.toNat (by omega);rw [←hx1] at hrx;have hxl:=Rc.row_len hrx;refine V.rf [.u 1,.ctB w.heap.size 0 g0 1 72 true [5] [(kx false (.f 9) x1 x1.l (fun _=>x1.s) (fun _ _ h=>h)).a] (fun _ G=>clonef2_ct x1.l x1.s (by omega)) (fun _ _ h=>by cases h) (fun _ _ _ _ _ _ hx hat _ ha=>by cases hx;exact os_ent hat ha),.u 1] fun _ _ G4 kw5=>?_;intro S_ s_
    obtain ⟨kp1, -⟩:NewS w.heap.size ((G4 1).ss 0)∧True∧Lq j e.v∧Lq y i.v∧Lq sh c.v∧Lq x1.l (((G4 1).ss 0).v)∧True:=kq kw5;clear kw5;refine V.unroll 99 (by kernel_rfl) ?_;refine V.gf [.u 1,.ln (ko false 52 5 x1.l (fun _=>(G4 1).ss 0)),.u 4,.l 0,.ln (ko false 137 2 j (fun _=>e)),.u 1] fun _ _ G5=>?_;intro S_ s_;refine V.cn (b:=decide ((x1.l.length:Int) < (j.length:Int))) iDT iDF (fun q3=>?_) (fun q4=>?_)
    · exfalso;have hqq:=q3;omega
    refine V.gf [.u 1,.ln (ko false 52 5 x1.l (fun _=>(G4 1).ss 0)),.u 1] fun _ _ G6=>?_;intro S_ s_
    refine V.lp (γ:=List DFrac × Int) (fun ⟨l,k2⟩=>⟨[(0,pp vb 0),(2,iv k0),(3,((G4 1).ss 0).v),(9,c.v),(10,iv (d.length:Int)),(11,iv k0),(32,iv (x1.l.length:Int)),(33,iv k2)],[fs false A k,fs false B m,fs false C n,fs false D o,fs false E p,fs false F q,fs false I t,fs false J x,fs false vl_cells vl_cellss],[.blk vb #[tv z,k.v,m.v,n.v,o.v,p.v,q.v,t.v,x.v,vl_cellss.v,.map (some vl_parcelsb),e.v,i.v,c.v] 87,mp false false vl_parcels vl_parcelsb,os false 137 j e,os false 141 y i,os false 22 sh c,os false 52 l ((G4 1).ss 0)]⟩) (fun ⟨l,k2⟩=>(0≤k2)∧(k2≤(x1.l.length:Int))∧(l.length=1)∧(Fr.rt (l.getD 0 default)∧Fr.qv (l.getD 0 default)=Vq.getD k0.toNat 0)) (fun ⟨l,k2⟩=>((1:Int)-k2).toNat) (x1.l,0) [0,1,2,3,4,5,6,7,8] ?_ ?_
    · refine ⟨?_,?_,?_,?_⟩
      · show 0≤(0:Int)
        first | omega | rfl | (simp;done) | (subst_vars;simp;done)
      · show (0:Int)≤(x1.l.length:Int)
        first | omega | rfl | (simp;done) | (subst_vars;simp;done)
      · show x1.l.length=1;exact hxl
      show Fr.rt (x1.l.getD 0 default)∧Fr.qv (x1.l.getD 0 default)=Vq.getD k0.toNat 0;exact Rc.row_0 hrx
    rintro ⟨l,k2⟩ hF2 kw8 Z2 hZ2;have hF2:(0≤k2)∧(k2≤(x1.l.length:Int))∧(l.length=1)∧(Fr.rt (l.getD 0 default)∧Fr.qv (l.getD 0 default)=Vq.getD k0.toNat 0):=hF2;obtain ⟨hf4,hf5,hf6,hf7⟩:=hF2;refine V.gf [.u 1] fun _ _ G7=>?_;intro S_ s_;refine V.cn (b:=decide (k2 < (x1.l.length:Int))) iDT iDF (fun q5=>?_) (fun q6=>?_)
    · refine V.gf [.u 2] fun _ _ G8=>?_;intro S_ s_
      refine nm (l.getD k2.toNat default:DFrac) fun x2 hx2=>?_;refine nm (Bg.sgn (0:Int):Int) fun n1 hn1=>?_;refine nm (Bg.dig (0:Int).natAbs:List Int) fun l1 hl1=>?_;refine nm (Bg.dig 1:List Int) fun l2 hl2=>?_;refine nm (Fr.rS (Fr.FrB x2.P.Sign x2.P.Digits.l x2.Q.Sign x2.Q.Digits.l∧Fr.FrB n1 l1 (1:Int) l2) ((Fr.fq x2.P.Sign x2.P.Digits.l x2.Q.Digits.l)+(Fr.fq n1 l1 l2)):Int) fun n2 hn2=>?_;refine nm (Fr.rD (Fr.FrB x2.P.Sign x2.P.Digits.l x2.Q.Sign x2.Q.Digits.l∧Fr.FrB n1 l1 (1:Int) l2) ((Fr.fq x2.P.Sign x2.P.Digits.l x2.Q.Digits.l)+(Fr.fq n1 l1 l2)):List Int) fun l3 hl3=>?_;refine nm (Fr.rT (Fr.FrB x2.P.Sign x2.P.Digits.l x2.Q.Sign x2.Q.Digits.l∧Fr.FrB n1 l1 (1:Int) l2):Int) fun n3 hn3=>?_;refine nm (Fr.rE (Fr.FrB x2.P.Sign x2.P.Digits.l x2.Q.Sign x2.Q.Digits.l∧Fr.FrB n1 l1 (1:Int) l2) ((Fr.fq x2.P.Sign x2.P.Digits.l x2.Q.Digits.l)+(Fr.fq n1 l1 l2)):List Int) fun l4 hl4=>?_;refine nm (if ¬ (Fr.FrB x2.P.Sign x2.P.Digits.l x2.Q.Sign x2.Q.Digits.l∧Fr.FrB n1 l1 (1:Int) l2) then (1:Int) else 0:Int) fun n4 hn4=>?_;have z0:Fr.Fz n1 l1 1 l2 0:=by rw [hn1,hl1,hl2];exact ⟨Fr.FrB.of 0,Fr.fq_of 0⟩
      have z0l:=z0.len Rc.hb0;have z01:=z0l.1;have z02:=z0l.2;have hxz:Fr.Fz x2.P.Sign x2.P.Digits.l x2.Q.Sign x2.Q.Digits.l (Vq.getD k0.toNat 0):=by have h0:=hf7;rw [show (0:Nat)=k2.toNat by omega,← hx2] at h0;exact ⟨h0.1,h0.2⟩
      have hxzl:=hxz.len (hB _ (Rc.rat_mem (by omega)));have hxz1:=hxzl.1;have hxz2:=hxzl.2;have zs:=Fr.Fz.of ⟨hxz.rt,z0.rt⟩ hn2 hl3 hn3 hl4;rw [hxz.v,z0.v] at zs;refine V.gf [.u 4,.iX (ko false 52 5 l (fun _=>(G4 1).ss 0)) k2,.lE (ko false 52 5 l (fun _=>(G4 1).ss 0)) k2 true x2 hx2 true,.cA 6 37 [] fun G=>fint_ctv (0:Int) (by omega) n1 hn1 l1 hl1 l2 hl2,.cA 7 64 [(kx false (.g 5 0) x2 x2.P.Digits.l (fun _=>x2.P.Digits.s) (fun _ H (h:Dat.good H (x2:DFrac))=>h.1)).a,(kx false (.g 5 0) x2 x2.Q.Digits.l (fun _=>x2.Q.Digits.s) (fun _ H (h:Dat.good H (x2:DFrac))=>h.2)).a,(kf true (.g 6 0) l1 (fun G=>(G 6).ss 0)).a,(kf true (.g 6 1) l2 (fun G=>(G 6).ss 1)).a] fun G=>fadd_ctv x2.P.Sign x2.P.Digits.l x2.P.Digits.s x2.Q.Sign x2.Q.Digits.l x2.Q.Digits.s n1 l1 ((G 6).ss 0) (1:Int) l2 ((G 6).ss 1) (by omega) (by omega) (by omega) (by omega) n2 hn2 l3 hl3 n3 hn3 l4 hl4 n4 hn4,.u 3,.iX (ko false 52 5 l (fun _=>(G4 1).ss 0)) k2,.seG g0 12 5 52 false l (fun _=>(G4 1).ss 0) k2 none x2 (fun G=>(DFrac.mk ⟨n2,l3,(G 7).ss 0⟩ ⟨n3,l4,(G 7).ss 1⟩:DFrac)) hx2 false (fun _=>⟨by omega,by omega⟩) (fun h=>by cases h) [(kf true (.g 7 0) l3 (fun G=>(G 7).ss 0)).a,(kf true (.g 7 1) l4 (fun G=>(G 7).ss 1)).a] (fun _ _ ho h=>(And.intro h.1 h.2.1))] fun _ _ G9=>?_;intro S_ s_
      refine V.gf [.aa (k2+1),.u 1] fun _ _ G10=>?_;intro S_ s_
      refine V.rn hZ2 (l.set k2.toNat (DFrac.mk ⟨n2,l3,(G9 7).ss 0⟩ ⟨n3,l4,(G9 7).ss 1⟩),k2+1) [0,1,2,3,4,5,6,7,8] ?_ ?_
      · refine ⟨?_,?_,?_,?_⟩
        · show 0≤(k2+1);omega
        · show (k2+1)≤(x1.l.length:Int);omega
        · show (l.set k2.toNat (DFrac.mk ⟨n2,l3,(G9 7).ss 0⟩ ⟨n3,l4,(G9 7).ss 1⟩)).length=1;rw [List.length_set];exact hf6
        show Fr.rt ((l.set k2.toNat (DFrac.mk ⟨n2,l3,(G9 7).ss 0⟩ ⟨n3,l4,(G9 7).ss 1⟩)).getD 0 default)∧Fr.qv ((l.set k2.toNat (DFrac.mk ⟨n2,l3,(G9 7).ss 0⟩ ⟨n3,l4,(G9 7).ss 1⟩)).getD 0 default)=Vq.getD k0.toNat 0;rw [Rc.set_one hf6 (by omega)];exact ⟨zs.rt,by have hz:=zs.v;rw [Rat.add_zero] at hz;exact hz⟩
      show ((1:Int)-(k2+1)).toNat < ((1:Int)-k2).toNat;omega
    refine V.frzN 5 false 52 l ((G4 1).ss 0) (by kernel_rfl) kp1 ?_;refine nm (sh.getD k0.toNat default:Fat DFrac) fun x3 hx3=>?_;refine nm (sh.set k0.toNat ⟨l,(G4 1).ss 0⟩:List (Fat DFrac)) fun l5 hl5=>?_;refine V.gf [.u 4,.l 0,.u 2,.iX (ko false 22 4 sh (fun _=>c)) k0,.se g0 8 4 22 false sh (fun _=>c) k0 none x3 ⟨l,(G4 1).ss 0⟩ hx3 false l5 hl5 (fun _=>⟨by omega,by omega⟩) (fun h=>by cases h) [kA 9 l ((G4 1).ss 0)] (fun _ _ ho h=>h.1)] fun _ _ G11=>?_;intro S_ s_
    refine V.gf [.aa (k0+1),.u 1] fun _ _ G12=>?_;intro S_ s_
    refine V.rn hZ1 (l5,k0+1) [0,1,2,3,4,5,6,7,8] ?_ ?_
    · refine ⟨?_,?_,?_⟩
      · show 0≤(k0+1);omega
      · show (k0+1)≤(d.length:Int);omega
      show Rc.rws l5 Vq;exact Rc.rws_set hf3 hl5 (by omega) (Rc.row_of hf6 hf7)
    show ((d.length:Int)-(k0+1)).toNat < ((d.length:Int)-k0).toNat;omega
  have hE4:(fun l=>Rc.rws l Vq) sh:=hf3;refine V.clO (α:=Fat DFrac) 4 false 22 (fun l=>Rc.rws l Vq) c sh (by kernel_rfl) hE4 ?_;exact V.rS [] [c] [] [] [] [0,1,2,3,4]

open Go
def roL (ro:List Nat):List Nat→List LE→List (Option LE)
  | r :: rs,x :: L=>(bif ro.contains r then some x else none) :: roL ro rs L
  | _,_=>[]
def LE.isBlk:LE→Bool
  | .blk _ _ _=>true
  | _=>false
def roB (ro:List Nat):List Nat→List LE→Bool
  | r :: rs,x :: L=>(bif ro.contains r then x.isBlk else true) && roB ro rs L
  | _,_=>true
theorem roL_get {ro:List Nat}:∀ {rs:List Nat} {L:List LE} {k r:Nat} {x:LE},rs[k]?=some r→ro.contains r=true→L[k]?=some x→(roL ro rs L)[k]?=some (some x)
  | r' :: rs,y :: L,0,r,x,h1,h2,h3=>by
    simp only [List.getElem?_cons_zero,Option.some.injEq] at h1 h3
    subst h1 h3
    simp only [roL,h2,cond_true,List.getElem?_cons_zero]
  | r' :: rs,y :: L,k+1,r,x,h1,h2,h3=>by
    simp only [List.getElem?_cons_succ] at h1 h3
    simp only [roL,List.getElem?_cons_succ]
    exact roL_get h1 h2 h3
theorem roB_get {ro:List Nat}:∀ {rs:List Nat} {L:List LE} {k r:Nat} {x:LE},rs[k]?=some r→ro.contains r=true→L[k]?=some x→roB ro rs L=true→x.isBlk=true
  | r' :: rs,y :: L,0,r,x,h1,h2,h3,h4=>by
    simp only [List.getElem?_cons_zero,Option.some.injEq] at h1 h3
    subst h1 h3
    simp only [roB,h2,cond_true,Bool.and_eq_true] at h4
    exact h4.1
  | r' :: rs,y :: L,k+1,r,x,h1,h2,h3,h4=>by
    simp only [List.getElem?_cons_succ] at h1 h3
    simp only [roB,Bool.and_eq_true] at h4
    exact roB_get h1 h2 h3 h4.2
namespace Hint
variable {P : Program}
def callR {g:Prop} (Γ:GdI g) (n f:Nat) (ex:Bool) (ro rs ns:List Nat) (qs:List Kv) (args:Gh→Array Value) (L:Gh→List LE) (V:Gh→Rec→Value) (F':Gh→Rec→List FP) (L':Gh→Rec→List LE) (pu:Gh→Rec→List Prop)
    (ct:g→∀ G,Ct P f (args G) (qs.map (Kv.fp G)) (L G) (V G) (F' G) (L' G) (pu G)):Hint P where
  d:={ val:=fun G=>V G (G n),facts:=fun G=>F' G (G n),news:=(newsOf n L' (rs ++ns) 0).filter (fun q=>!ro.contains q.1),rds:=qrds qs ++ro,pu:=fun G=>pu G (G n) }
  τ:=Option (Result Next) × Nat × Value × List FP × List LE × List Prop × List (Option LE) × List (Option (Bool × (Ent→Heaplet→Prop)) × Bool) × Bool × Option Bool × List (Option LE) × Bool
  lhs c i G g w:=(c.R.ex P G i w,i,V (c.R.vis i (RC.put G i g)) g,F' (c.R.vis i (RC.put G i g)) g,L' (c.R.vis i (RC.put G i g)) g,pu (c.R.vis i (RC.put G i g)) g,rs.map (fun r=>(c.leAt i r G).map LE.drop),qs.map (Kv.chk c i G),sideOk ex rs ns qs (F' G g) (L' G g),Γ.B.map fun _=>c.R.gd G i,roL ro rs (L' G g),roB ro rs (L G))
  rhs _ _ G g w:=(some (.ok (.enter f (args G)) w),n,V G g,F' G g,L' G g,pu G g,(L G).map some,qs.map (Kv.want G),true,Γ.B,roL ro rs (L G),true)
  sound c i ok hil hi h:=fun o ho G w hs=>by
    have h0:=h G {} w
    simp only [Prod.mk.injEq,RC.ex,ho,Option.map_some,Option.some.injEq] at h0
    obtain ⟨e1,rfl,_,_,_,_,e7,e8,_,e10,_,e12⟩:=h0
    have hct:=ct (Cx.gdOk Γ hs e10) G
    have hup:=Cx.upsOf hi
    have hmem:∀ r ∈ rs,ro.contains r=false→∃ p ∈ c.R.ups i,p.1=r:=fun r hr hn=>by
      have h1:r ∈ (newsOf i L' (rs ++ns) 0).map (·.1):=by rw [newsOf_fst];exact List.mem_append_left _ hr
      obtain ⟨q,hq,rfl⟩:=List.mem_map.1 h1
      rw [hup]
      exact ⟨_,List.mem_map.2 ⟨q,List.mem_filter.2 ⟨hq,by rw [hn];rfl⟩,rfl⟩,rfl⟩
    have hwr:∀ r ∈ rs,((c.R.c i).rds.contains r || c.R.wrE r i)=true:=fun r hr=>by
      cases hn:ro.contains r with
      | true =>
        rw [Cx.c_of hi]
        have:(qrds qs ++ro).contains r=true:=by
          have:r ∈ ro:=by simpa using hn
          simp [this]
        show ((qrds qs ++ro).contains r || _)=true
        rw [this];rfl
      | false =>
        obtain ⟨p,hp,hpr⟩:=hmem r hr hn
        have:c.R.wrE r i=true:=List.any_eq_true.2 ⟨p,hp,by simp [hpr]⟩
        rw [this];simp
    let olds:=rs.map (c.R.entAt G i)
    let ε:Nat→Ent:=fun k=>c.R.entAt G i (rs.getD k 0)
    have hlen:(L G).length=rs.length:=by have:=congrArg List.length e7;simpa using this.symm
    have hLk:∀ k r:Nat,rs[k]?=some r→∃ x',c.leAt i r G=some x'∧(L G)[k]?=some x'.drop:=fun k r hk=>by
      have:=congrArg (fun l:List (Option LE)=>l[k]?) e7
      simp only [List.getElem?_map,hk,Option.map_some] at this
      cases hl:(L G)[k]? with
      | none=>rw [hl] at this;cases this
      | some x =>
        rw [hl] at this
        simp only [Option.map_some,Option.some.injEq,Option.map_eq_some_iff] at this
        obtain ⟨x',h1,h2⟩:=this
        exact ⟨x',h1,by rw [h2]⟩
    have hdrop:∀ (x:LE) e,x.drop.ent e=x.ent e:=fun x e=>by cases x <;> rfl
    have holds:ents (L G) ε=olds:=by
      refine List.ext_getElem? fun k=>?_
      rw [ents_get]
      show _=(rs.map (c.R.entAt G i))[k]?
      rw [List.getElem?_map]
      cases hk:rs[k]? with
      | none =>
        have:(L G)[k]?=none:=by rw [List.getElem?_eq_none_iff] at hk ⊢;omega
        rw [this];rfl
      | some r =>
        obtain ⟨x',h1,h2⟩:=hLk k r hk
        obtain ⟨e,a1,_,_⟩:=Cx.own_at ok hil hs h1 (hwr r (List.mem_of_getElem? hk))
        have hε:ε k=c.R.entAt G i r:=by show c.R.entAt G i (rs.getD k 0)=_;rw [List.getD_eq_getElem?_getD,hk];rfl
        rw [h2]
        simp only [Option.map_some,Option.some.injEq]
        rw [hdrop,hε,a1]
        cases x' <;> rfl
    have hside:∀ g,sideOk ex rs ns qs (F' G g) (L' G g)=true:=fun g=>by
      have:=h G g w
      simp only [Prod.mk.injEq] at this
      exact this.2.2.2.2.2.2.2.2.1
    have hs0:=hside {}
    unfold sideOk at hs0
    simp only [Bool.and_eq_true] at hs0
    obtain ⟨⟨⟨hnd,_⟩,hsrc⟩,hex⟩:=hs0
    have hblk:∀ b ∈ blks olds,∃ r ∈ rs,∃ o,c.R.entAt G i r=some (b,o):=fun b hb=>by
      obtain ⟨x,hx,hxb⟩:=List.mem_filterMap.1 hb
      obtain ⟨r,hr,rfl⟩:=List.mem_map.1 hx
      cases he:c.R.entAt G i r with
      | none=>rw [he] at hxb;cases hxb
      | some p=>rw [he] at hxb;simp at hxb;subst hxb;exact ⟨r,hr,p.2,he⟩
    have hent:=fun r hr=>hs.ent r (hwr r hr)
    have hJnone:∀ t,∀ b ∈ blks olds,c.J i G t b=none:=fun t b hb=>by
      obtain ⟨r,hr,o',he⟩:=hblk b hb
      obtain ⟨_,_,h3,h4⟩:=hent r hr b o' he
      refine JV_none ?_ _ fun j _=>?_
      · have hK:hun c.N c.H b=none:=h3 _ (by show _ ∈ [_];simp)
        cases t
        · exact hK
        · cases hN:c.N b with
          | none=>exact hN
          | some o''=>unfold hun at hK;rw [hN] at hK;cases hK
      · unfold Cx.pre
        cases hb':c.R.bef i j with
        | false=>rfl
        | true=>exact h4 j hb'
    let Hc:Heaplet:=bif ex then c.J i G false else wholeBut w (blks olds)
    have hJc:∀ t,Sub (c.J i G t) Hc:=fun t=>by
      cases hx:ex with
      | true=>show Sub _ (bif ex then _ else _);rw [hx];exact Cx.J_le_false hs t
      | false=>show Sub _ (bif ex then _ else _);rw [hx];exact sub_but (Cx.J_le hs t) (hJnone t)
    have hCw:Agrees w Hc:=by
      cases hx:ex with
      | true=>show Agrees w (bif ex then _ else _);rw [hx];exact Cx.J_le hs false
      | false =>
        show Agrees w (bif ex then _ else _);rw [hx]
        intro b o e
        simp only [cond_false,wholeBut] at e
        split at e
        · cases e
        · exact e
    have hCn:∀ b ∈ blks olds,Hc b=none:=fun b hb=>by
      cases hx:ex with
      | true=>show (bif ex then _ else _:Heaplet) b=none;rw [hx];exact hJnone false b hb
      | false=>show (bif ex then _ else _:Heaplet) b=none;rw [hx];simp only [cond_false,wholeBut];rw [if_pos hb]
    have hfacts:∀ q ∈ qs.map (Kv.fp G),q.p Hc:=fun p hp=>by
      obtain ⟨q,hq,rfl⟩:=List.mem_map.1 hp
      have hm:q.κ.src.what c i G=(some (q.κ.t,q.κ.p G),true):=map_eq e8 q hq
      obtain ⟨e,a1,a2,a3,a4⟩:=Src.get ok hil hs hm
      cases hx:ex with
      | true =>
        rw [hx] at hex
        simp only [cond_true] at hex
        exact (q.κ.rj (List.all_eq_true.1 hex q hq) G e _ a1).mono (hJc _)
      | false =>
        refine q.κ.rd G e _ _ a1 (hJc _) ?_
        show Sub _ (bif ex then _ else _)
        rw [hx]
        refine sub_but (entH_agrees a2) fun b hb=>?_
        by_cases hsr:∃ r,q.κ.src=.o r
        · obtain ⟨r,hsr⟩:=hsr
          have hE:=a3 r hsr
          have hr:r ∉ rs:=by
            have:=List.all_eq_true.1 hsrc q hq
            rw [hsr] at this
            simpa [srcNot] using this
          obtain ⟨r',hr',o',he⟩:=hblk b hb
          cases hne:entH e b with
          | none=>rfl
          | some o'' =>
            exfalso
            have hb2:c.R.entAt G i r=some (b,o''):=by
              rw [hE]
              cases e with
              | none=>cases hne
              | some p =>
                unfold entH at hne
                simp only at hne
                split at hne
                · rename_i hbe;subst hbe;cases hne;rfl
                · cases hne
            have hrd:((c.R.c i).rds.contains r || c.R.wrE r i)=true:=by
              rw [Cx.c_of hi]
              have:(qrds qs ++ro).contains r=true:=by
                have:=qrds_mem hq hsr
                simp [this]
              show ((qrds qs ++ro).contains r || _)=true
              rw [this];rfl
            have:=hs.dis r r' b o'' o' hrd (hwr r' hr') hb2 he
            subst this;exact hr hr'
        · rw [a4 fun r hr=>hsr ⟨r,hr⟩];rfl
    have hst:StW w (blks olds) [Hc] olds w:=by
      refine ⟨Base.refl _ _,fun K hK=>?_,fun k b o hk=>?_,fun k l b o o' hk hl=>?_⟩
      · have:K=Hc:=by simpa using hK
        subst this;exact hCw
      · have hm:some (b,o) ∈ olds:=List.mem_of_getElem? hk
        obtain ⟨r,hr,he⟩:=List.mem_map.1 hm
        have hbb:b ∈ blks olds:=List.mem_filterMap.2 ⟨_,hm,rfl⟩
        refine ⟨(hent r hr b o he).1,.inr hbb,fun K hK=>?_⟩
        have:K=Hc:=by simpa using hK
        subst this;exact hCn b hbb
      · have h1:(rs.map (c.R.entAt G i))[k]?=some (some (b,o)):=hk
        have h2:(rs.map (c.R.entAt G i))[l]?=some (some (b,o')):=hl
        simp only [List.getElem?_map,Option.map_eq_some_iff] at h1 h2
        obtain ⟨r,hr,he⟩:=h1
        obtain ⟨r',hr',he'⟩:=h2
        have hm:=List.mem_of_getElem? hr
        have hm':=List.mem_of_getElem? hr'
        have:=hs.dis r r' b o o' (hwr r hm) (hwr r' hm') he he'
        subst this
        refine nodup_inj (l:=rs ++ns) hnd (x:=r) ?_ ?_
        · rw [List.getElem?_append_left (List.getElem?_eq_some_iff.1 hr).1];exact hr
        · rw [List.getElem?_append_left (List.getElem?_eq_some_iff.1 hr').1];exact hr'
    have hown:∀ (k:Nat) (x:LE),(L G)[k]?=some x→x.at (ε k) Hc Hc:=fun k x hx=>by
      have hk:k < rs.length:=by have:=(List.getElem?_eq_some_iff.1 hx).1;omega
      have hk':rs[k]?=some rs[k]:=List.getElem?_eq_getElem hk
      obtain ⟨x',h1,h2⟩:=hLk k _ hk'
      rw [hx] at h2
      cases h2
      obtain ⟨e,a1,a2,_⟩:=Cx.own_at ok hil hs h1 (hwr _ (List.getElem_mem hk))
      have hε:ε k=c.R.entAt G i rs[k]:=by show c.R.entAt G i (rs.getD k 0)=_;rw [List.getD_eq_getElem?_getD,hk'];rfl
      cases x' with
      | own t p m q hq =>
        rw [hε,a1]
        show p e Hc
        cases t
        · exact m _ _ _ (hJc false) a2
        · exact m _ _ _ (hJc true) a2
      | _=>trivial
    have hcall:=hct w Hc ε hCw hfacts (by rw [holds];exact hst) hown
    rw [holds] at hcall
    unfold Does
    rw [e1]
    refine hcall.mono ?_
    rintro e w' ⟨g,C⟩
    refine ⟨_,C.ret,g,?_⟩
    have hg:=h G g w
    simp only [Prod.mk.injEq] at hg
    obtain ⟨_,_,f1,f2,f3,f4,_,_,f5,_,f11,f12⟩:=hg
    unfold sideOk at f5
    simp only [Bool.and_eq_true,beq_iff_eq] at f5
    obtain ⟨⟨⟨_,hll⟩,_⟩,hex'⟩:=f5
    have hv:=Cx.vis_self (c:=c) (i:=i) (G:=G) g
    obtain ⟨a1,a2,a3,a4⟩:=ahead ok hil hs C.new
    have to2:ex=true→Sub (hun g.H Hc) (JV (c.R.vis i (RC.put G i g)) (hun c.N c.H) c.ops.size):=fun hx=>hun_sub a4 (by
      show Sub (bif ex then _ else _) _
      rw [hx];exact a2)
    have hentk:∀ k:Nat,(((L' (c.R.vis i (RC.put G i g)) g)[k]?).getD .no).ent (g.es k)=((ents (L' G g) g.es)[k]?).getD none:=fun k=>by rw [f3,ents_ent]
    have hp2:∀ p ∈ c.R.ups i,∃ k:Nat,(rs ++ns)[k]?=some p.1∧ro.contains p.1=false∧p.2 (RC.put G i g)=((ents (L' G g) g.es)[k]?).getD none:=fun p hp=>by
      rw [hup] at hp
      obtain ⟨q,hq,rfl⟩:=List.mem_map.1 hp
      obtain ⟨hq,hqr⟩:=List.mem_filter.1 hq
      obtain ⟨k,h1,h2,h3⟩:=newsOf_mem hq
      refine ⟨k,h1,by simpa using hqr,?_⟩
      show (q.2.1 _).ent (q.2.2 _)=_
      rw [h2,h3,← hentk k]
      simp only [hv,Nat.zero_add]
    have hro:∀ k r b o,rs[k]?=some r→ro.contains r=true→(olds)[k]?=some (some (b,o))→(ents (L' G g) g.es)[k]?=some (some (b,o)):=fun k r b o hk hr ho=>by
      rw [←holds,ents_get] at ho
      obtain ⟨x,hx,hxe⟩:=Option.map_eq_some_iff.1 ho
      have hkl:k < (L' G g).length:=by
        have h1:=(List.getElem?_eq_some_iff.1 hk).1
        rw [hll,List.length_append];omega
      have hx':(L' G g)[k]?=some (L' G g)[k]:=List.getElem?_eq_getElem hkl
      have r1:=roL_get hk hr hx
      have r2:=roL_get hk hr hx'
      rw [f11,r1] at r2
      have hxx:x=(L' G g)[k]:=by simpa using r2
      have hbk:=roB_get hk hr hx f12
      rw [ents_get,hx',← hxx]
      cases x with
      | blk b' arr T=>simpa [LE.ent] using hxe
      | _=>cases hbk
    refine ⟨?_,fact_of ok hil hi hs C.new (fun f hf=>?_) (fun q hq=>?_) ?_,?_,C.agr,C.new,fun p hp b o hb=>?_,fun p hp q hq b o o' hb hb'=>?_⟩
    · rw [Cx.valOf hi]
      show _=V _ (c.R.vis i (RC.put G i g) i)
      rw [hv,f1]
    · have hf':f ∈ F' (c.R.vis i (RC.put G i g)) (c.R.vis i (RC.put G i g) i):=hf
      rw [hv,f2] at hf'
      have hc:=C.facts f hf'
      unfold FP.at at hc ⊢
      cases ht:f.t with
      | true=>rw [ht] at hc;exact f.m _ _ a3 hc
      | false =>
        rw [ht] at hc
        cases hx:ex with
        | true=>exact f.m _ _ (to2 hx) hc
        | false =>
          rw [hx] at hex'
          simp only [cond_false,Bool.and_eq_true] at hex'
          have:=List.all_eq_true.1 hex'.1 f hf'
          rw [ht] at this;cases this
    · obtain ⟨k,h1,h2,h3⟩:=newsOf_mem (List.mem_filter.1 hq).1
      rw [h2,h3]
      simp only [hv,Nat.zero_add]
      rw [f3]
      cases hk:(L' G g)[k]? with
      | none=>trivial
      | some x =>
        have hc:=C.own k x hk
        simp only [Option.getD_some]
        cases x with
        | own t p m q hq =>
          cases t with
          | true=>exact m _ _ _ a3 hc
          | false =>
            cases hx:ex with
            | true=>exact m _ _ _ (to2 hx) hc
            | false =>
              rw [hx] at hex'
              simp only [cond_false,Bool.and_eq_true] at hex'
              have:=List.all_eq_true.1 hex'.2 _ (List.mem_of_getElem? hk)
              simp [LE.tag] at this
        | _=>trivial
    · show conjL (pu _ (c.R.vis i (RC.put G i g) i))
      rw [hv,f4];exact C.pu
    · refine ⟨C.base.os,C.base.tape,C.base.output,C.base.size,fun b hb hnb=>?_⟩
      by_cases hm:b ∈ blks olds
      · obtain ⟨r,hr,o',he⟩:=hblk b hm
        cases hn:ro.contains r with
        | false =>
          obtain ⟨p,hp,hpr⟩:=hmem r hr hn
          exact absurd (List.mem_filterMap.2 ⟨p,hp,by rw [hpr,he];rfl⟩) hnb
        | true =>
          obtain ⟨k,hk⟩:=List.getElem?_of_mem hr
          have h5:=hro k r b o' hk hn (by show (rs.map _)[k]?=_;rw [List.getElem?_map,hk];exact congrArg some he)
          rw [(C.ent k b o' h5).1,(hent r hr b o' he).1]
      · exact C.base.keep b hb hm
    · obtain ⟨k,h1,hpn,h2⟩:=hp2 p hp
      rw [h2] at hb
      cases hk:(ents (L' G g) g.es)[k]? with
      | none=>rw [hk] at hb;cases hb
      | some x =>
        rw [hk] at hb
        simp only [Option.getD_some] at hb
        subst hb
        obtain ⟨b1,b2,b3⟩:=C.ent k b o hk
        refine ⟨b1,?_,b3⟩
        rcases b2 with b2 | b2
        · exact .inl b2
        · obtain ⟨r,hr,o',he⟩:=hblk b b2
          cases hn:ro.contains r with
          | false =>
            obtain ⟨q,hq,hqr⟩:=hmem r hr hn
            exact .inr ⟨q,hq,o',by rw [hqr];exact he⟩
          | true =>
            exfalso
            obtain ⟨l,hl⟩:=List.getElem?_of_mem hr
            have h5:=hro l r b o' hl hn (by show (rs.map _)[l]?=_;rw [List.getElem?_map,hl];exact congrArg some he)
            have:=C.dis k l b o o' hk h5
            subst this
            rw [List.getElem?_append_left (List.getElem?_eq_some_iff.1 hl).1,hl] at h1
            have:r=p.1:=by simpa using h1
            rw [←this,hn] at hpn;cases hpn
    · obtain ⟨k,h1,_,h2⟩:=hp2 p hp
      obtain ⟨l,h3,_,h4⟩:=hp2 q hq
      rw [h2] at hb
      rw [h4] at hb'
      have get:∀ (k b:Nat) (o:Obj),((ents (L' G g) g.es)[k]?).getD none=some (b,o)→(ents (L' G g) g.es)[k]?=some (some (b,o)):=fun k b o hh=>by
        cases hk:(ents (L' G g) g.es)[k]? with
        | none=>rw [hk] at hh;cases hh
        | some x=>rw [hk] at hh;simp only [Option.getD_some] at hh;rw [hh]
      have:=C.dis k l b o o' (get k b o hb) (get l b o' hb')
      subst this
      rw [h1] at h3
      exact Option.some.inj h3
def ctR {g:Prop} (Γ:GdI g) (n f:Nat) (ex:Bool) (ro rs ns:List Nat) (qs:List Kv) {args:Gh→Array Value} {L:Gh→List LE} {V:Gh→Rec→Value} {F':Gh→Rec→List FP} {L':Gh→Rec→List LE} {pu:Gh→Rec→List Prop}
    (h:g→∀ G,Ct P f (args G) (qs.map (Kv.fp G)) (L G) (V G) (F' G) (L' G) (pu G)):Hint P:=callR Γ n f ex ro rs ns qs args L V F' L' pu h
end Hint

open Go Go.Proofs
set_option maxRecDepth 10000 in
theorem wstp_ct (vb:Nat) (ad:ByteArray) (M:List DImport) (q:SV) (o:List DInput) (t:SV) (N:List DTable) (x:SV) (R:List DFunc) (z:SV) (K:List DCell) (A:SV) (U:List DPort) (B:SV) (W:List DStore) (C:SV) (X:List DRecipe) (D:SV) (vl_cells:List DSpan) (vl_cellss:SV) (vl_parcels:List (ByteArray × Fat DFrac)) (vl_parcelsb:Nat) (p:List DSource) (E:SV) (f:List DOut) (F:SV) (I:List (Fat DFrac)) (L:SV) (ae:Int) (J:List ByteArray) (ab:SV) (d:List ByteArray) (Y:SV) (Z:ByteArray) (ac:List ByteArray) (af:SV) (ah k i0:Int) (hk:0≤k∧k < ((Fr.shQ (vl_cells.map (·.Low))).length:Int)+2) (hV:(Fr.shQ (vl_cells.map (·.Low))).length≤8) (hB:∀ r ∈ (Fr.shQ (vl_cells.map (·.Low))),Fr.Hb r 147) (h0:k=0→ae=0∧d=[Rc.all_]∧(fidx (fun y:DInput=>decide (y.Name=Z)) o)=i0) (h1:k=1→ae=3∧J=[Rc.all_]∧d=Rc.pN (Fr.shQ (vl_cells.map (·.Low))).length) (h2:2≤k→ae=7∧J=[Rc.dg 112 (k-2).toNat]∧Z=Rc.dg 108 (k-2).toNat) (h1w:k=1→ac.length=vl_cells.length∧∀ i,i < ac.length→fidx (fun y:DCell=>decide (y.Name=ac.getD i default)) K=(i:Int)) (hW:Fr.Wb (vl_cells.map (·.Low))) (hR:∀ c ∈ vl_cells,Fr.rt c.Low) (hE:∀ c ∈ vl_cells,Rc.sam c.Low c.High) (hne:0 < vl_cells.length) (hH:∀ c ∈ vl_cells,Fr.ln 17179869184 c.High) (sS:p=Rc.srcs k i0) (sP:Rc.PM (Fr.shQ (vl_cells.map (·.Low))) k vl_parcels) (sO:f=Rc.outs k) (sH:Rc.rws I ((Fr.shQ (vl_cells.map (·.Low))).take (k-2).toNat)) :
    Ct Tryz.prog 25 #[pp vb 0,ag (DStep.mk ae ⟨J,ab⟩ ⟨d,Y⟩ Z ⟨ac,af⟩ ah)] [fs true M q,fs true o t,fs true N x,fs true R z,fs true K A,fs true U B,fs true W C,fs true X D,fs true vl_cells vl_cellss,fs true J ab,fs true d Y,fs true ac af] [.blk vb #[tv ad,q.v,t.v,x.v,z.v,A.v,B.v,C.v,D.v,vl_cellss.v,.map (some vl_parcelsb),E.v,F.v,L.v] 87,mp false false vl_parcels vl_parcelsb,os false 137 p E,os false 141 f F,os false 22 I L] (fun g=>.tuple #[]) (fun g=>[]) (fun g=>[.blk vb #[tv ad,q.v,t.v,x.v,z.v,A.v,B.v,C.v,D.v,vl_cellss.v,.map (some vl_parcelsb),(g.ss 0).v,(g.ss 1).v,(g.ss 2).v] 87,mpE false false (fun m=>Rc.PM (Fr.shQ (vl_cells.map (·.Low))) (k+1) m) vl_parcelsb,osE true 137 (fun l=>l=Rc.srcs (k+1) i0) (g.ss 0),osE true 141 (fun l=>l=Rc.outs (k+1)) (g.ss 1),osE false 22 (fun l=>Rc.rws l ((Fr.shQ (vl_cells.map (·.Low))).take (k+1-2).toNat)) (g.ss 2)]) (fun g=>[]):=by
  refine V.fo mo Tryz.func25 146 3 fun w H ε k0=>?_;clear k0
  refine V.gf [.n 5] fun _ _ G1=>?_;intro S_ s_
  refine V.gf [.cA 0 37 [] fun G=>fint_ct (1:Int) (by omega),.n 6,.s 6] fun _ _ G2=>?_;intro S_ s_
  refine V.gf [.u 1,.l 5] fun _ _ G3=>?_;intro S_ s_
  rcases ((by rcases Int.lt_or_le k 2 with h | h;rcases (by omega:k=0∨k=1) with h | h;exact .inl (h0 h).1;exact .inr (.inl (h1 h).1);exact .inr (.inr (h2 h).1)):ae=0∨ae=3∨ae=7) with rfl | rfl | rfl
  · refine V.g [.kb true,.kb true] fun _ _ G4=>?_;intro S_ s_
    refine V.condT (by kernel_rfl) ?_;have hk0:k=0:=by rcases Int.lt_or_le k 2 with h | h;rcases (by omega:k=0∨k=1) with h | h;exact h;exact absurd (h1 h).1 (by decide);exact absurd (h2 h).1 (by decide)
    obtain ⟨_,hOut,hI⟩:=h0 hk0;have hOl:d.length=1:=by rw [hOut];rfl
    have hSl:p.length=0:=by rw [sS,hk0];rfl
    refine nm (d.getD (0:Int).toNat default:ByteArray) fun x1 hx1=>?_;refine V.gf [.u 3,.l 5,.ctR g0 4 66 true [0] [0,1,2,3,4] [] [kA 0 M q,kA 1 o t,kA 2 N x,kA 3 R z,kA 4 K A,kA 5 U B,kA 6 W C,kA 7 X D,kA 8 vl_cells vl_cellss] (fun _ G=>winp_ct vb ad M q o t N x R z K A U B W C X D vl_cells vl_cellss vl_parcels vl_parcelsb p E f F I L Z),.u 2,.l 5,.iX (kF 10 d Y) 0,.lE (kF 10 d Y) (0:Int) false x1 hx1 false,.ct g0 10 65 true [0,1,2,3,4] [] [kA 0 M q,kA 1 o t,kA 2 N x,kA 3 R z,kA 4 K A,kA 5 U B,kA 6 W C,kA 7 X D,kA 8 vl_cells vl_cellss] (fun _ G=>wsrc_ct vb ad M q o t N x R z K A U B W C X D vl_cells vl_cellss vl_parcels vl_parcelsb p E f F I L (0:Int) (fidx (fun y:DInput=>decide (y.Name=Z)) o) (0:Int) x1 (by omega))] fun _ _ G5=>?_;intro S_ s_
    refine V.opM 1 false false (fun m=>Rc.upd m vl_parcels x1 1) vl_parcelsb (by kernel_rfl) fun m1 hm1=>?_;have hE1:(fun m=>Rc.PM (Fr.shQ (vl_cells.map (·.Low))) (k+1) m) m1:=by
      have hx1e:x1=Rc.all_:=by rw [hx1,hOut];rfl
      rw [hx1e] at hm1;show Rc.PM _ _ _;rw [hk0];exact Rc.PM_src hm1
    refine V.clM 1 false false (fun m=>Rc.PM (Fr.shQ (vl_cells.map (·.Low))) (k+1) m) vl_parcelsb m1 (by kernel_rfl) hE1 ?_;have hE2:(fun l=>l=Rc.srcs (k+1) i0) [DSource.mk (0:Int) (fidx (fun y:DInput=>decide (y.Name=Z)) o) (0:Int)]:=by
      show _=Rc.srcs (k+1) i0;rw [hk0,hI];rfl
    refine V.clO (α:=DSource) 2 true 137 (fun l=>l=Rc.srcs (k+1) i0) ((G5 10).ss 0) [DSource.mk (0:Int) (fidx (fun y:DInput=>decide (y.Name=Z)) o) (0:Int)] (by kernel_rfl) hE2 ?_;refine V.tro 141 f F 3 (by kernel_rfl) (fun _ _=>trivial) ?_;have hE3:(fun l=>l=Rc.outs (k+1)) f:=by
      show _=Rc.outs (k+1);rw [sO,hk0];rfl
    refine V.clO (α:=DOut) 3 true 141 (fun l=>l=Rc.outs (k+1)) F f (by kernel_rfl) hE3 ?_;have hE4:(fun l=>Rc.rws l ((Fr.shQ (vl_cells.map (·.Low))).take (k+1-2).toNat)) I:=by
      show Rc.rws _ _;rw [hk0] at sH ⊢;exact sH
    refine V.clO (α:=Fat DFrac) 4 false 22 (fun l=>Rc.rws l ((Fr.shQ (vl_cells.map (·.Low))).take (k+1-2).toNat)) L I (by kernel_rfl) hE4 ?_;exact V.rS [] [(G5 10).ss 0,F,L] [] [] [] [0,1,2,3,4]
  · refine V.g [.kb false,.kb false] fun _ _ G6=>?_;intro S_ s_
    refine V.condF (by kernel_rfl) ?_;refine V.g [.kb false,.kb false] fun _ _ G7=>?_;intro S_ s_
    refine V.condF (by kernel_rfl) ?_;refine V.g [.kb false,.kb false] fun _ _ G8=>?_;intro S_ s_
    refine V.condF (by kernel_rfl) ?_;refine V.g [.kb true,.kb true] fun _ _ G9=>?_;intro S_ s_
    refine V.condT (by kernel_rfl) ?_;have hk1:k=1:=by rcases Int.lt_or_le k 2 with h | h;rcases (by omega:k=0∨k=1) with h | h;exact absurd (h0 h).1 (by decide);exact h;exact absurd (h2 h).1 (by decide)
    obtain ⟨_,hIn,hOut⟩:=h1 hk1;obtain ⟨hwn,hwi⟩:=h1w hk1;have hSl:p.length=1:=by rw [sS,hk1];rfl
    have hIl:J.length=1:=by rw [hIn];rfl
    have hOl:d.length=(Fr.shQ (vl_cells.map (·.Low))).length:=by rw [hOut,Rc.pN_len]
    refine V.gf [.u 1,.l 5,.ctR g0 2 24 true [0] [0,1,2,3,4] [7] [kA 0 M q,kA 1 o t,kA 2 N x,kA 3 R z,kA 4 K A,kA 5 U B,kA 6 W C,kA 7 X D,kA 8 vl_cells vl_cellss,kA 9 J ab,kA 10 d Y,kA 11 ac af] (fun _ G=>wwt_ct vb ad M q o t N x R z K A U B W C X D vl_cells vl_cellss vl_parcels vl_parcelsb p E f F I L (3:Int) J ab d Y Z ac af ah hwn hwi hW hR hE hne hH),.u 5] fun _ _ G10=>?_;intro S_ s_
    refine V.gf [.u 1,.l 5,.ln (kF 10 d Y),.u 1] fun _ _ G11=>?_;intro S_ s_
    refine V.lp (γ:=Int × List (ByteArray × Fat DFrac)) (fun ⟨k0,pm⟩=>⟨[(0,pp vb 0),(3,pp ((G1 0).b) 0),(5,((G10 2).ss 0).v),(62,Y.v),(63,iv (d.length:Int)),(64,iv k0)],[fs false d Y,fs false M q,fs false o t,fs false N x,fs false R z,fs false K A,fs false U B,fs false W C,fs false X D,fs false vl_cells vl_cellss,fs false J ab,fs false ac af,fs true (Bg.dig (1:Int).natAbs) ((G2 0).ss 0),fs true (Bg.dig 1) ((G2 0).ss 1)],[.blk vb #[tv ad,q.v,t.v,x.v,z.v,A.v,B.v,C.v,D.v,vl_cellss.v,.map (some vl_parcelsb),E.v,F.v,L.v] 87,mp false false pm vl_parcelsb,os false 137 p E,os false 141 f F,os false 22 I L,.blk ((G1 0).b) (ca (DStep.mk 3 ⟨J,ab⟩ ⟨d,Y⟩ Z ⟨ac,af⟩ ah)) 39,.blk ((G2 1).b) (ca (DFrac.mk ⟨(Bg.sgn (1:Int)),Bg.dig (1:Int).natAbs,(G2 0).ss 0⟩ ⟨1,Bg.dig 1,(G2 0).ss 1⟩)) 52,os false 52 (Fr.frs (Fr.shQ (vl_cells.map (·.Low))) ((G10 2).sl 0)) ((G10 2).ss 0)]⟩) (fun ⟨k0,pm⟩=>(0≤k0)∧(k0≤(d.length:Int))∧(Rc.at_ pm Rc.all_ 1)∧(∀ j,j < k0.toNat→Rc.at_ pm (Rc.dg 112 j) ((Fr.shQ (vl_cells.map (·.Low))).getD j 0))) (fun ⟨k0,pm⟩=>((d.length:Int)-k0).toNat) (0,vl_parcels) [10,0,1,2,3,4,5,6,7,8,9,11,12,13] ?_ ?_
    · refine ⟨?_,?_,?_,?_⟩
      · show 0≤(0:Int)
        first | omega | rfl | (simp;done) | (subst_vars;simp;done)
      · show (0:Int)≤(d.length:Int)
        first | omega | rfl | (simp;done) | (subst_vars;simp;done)
      · show Rc.at_ vl_parcels Rc.all_ 1;exact sP.1 (by omega)
      show ∀ j,j < (0:Int).toNat→Rc.at_ vl_parcels (Rc.dg 112 j) ((Fr.shQ (vl_cells.map (·.Low))).getD j 0);intro j hj;simp at hj
    rintro ⟨k0,pm⟩ hF1 kw12 Z1 hZ1;have hF1:(0≤k0)∧(k0≤(d.length:Int))∧(Rc.at_ pm Rc.all_ 1)∧(∀ j,j < k0.toNat→Rc.at_ pm (Rc.dg 112 j) ((Fr.shQ (vl_cells.map (·.Low))).getD j 0)):=hF1;obtain ⟨hf1,hf2,hf3,hf4⟩:=hF1;clear kw12;refine V.gf [.u 1] fun _ _ G12=>?_;intro S_ s_;refine V.cn (b:=decide (k0 < (d.length:Int))) iDT iDF (fun q1=>?_) (fun q2=>?_)
    · refine nm (d.getD k0.toNat default:ByteArray) fun x2 hx2=>?_;refine V.gf [.u 1,.iX (kF 0 d Y) k0,.lE (kF 0 d Y) k0 false x2 hx2 false,.u 2] fun _ _ G13=>?_;intro S_ s_
      refine nm ((Fr.frs (Fr.shQ (vl_cells.map (·.Low))) ((G10 2).sl 0)).getD k0.toNat default:DFrac) fun x3 hx3=>?_;have hx2e:x2=Rc.dg 112 k0.toNat:=by rw [hx2,hOut,Rc.pN_get (by omega)]
      have hx3f:=Rc.frs_at (V:=(Fr.shQ (vl_cells.map (·.Low)))) (σ:=((G10 2).sl 0)) (j:=k0.toNat) (by omega);rw [←hx3] at hx3f;have hfl:=Fr.frs_len (Fr.shQ (vl_cells.map (·.Low))) ((G10 2).sl 0);refine V.gf [.u 3,.l 0,.u 3,.l 5,.u 2,.iX (ko false 52 7 (Fr.frs (Fr.shQ (vl_cells.map (·.Low))) ((G10 2).sl 0)) (fun _=>(G10 2).ss 0)) k0,.lE (ko false 52 7 (Fr.frs (Fr.shQ (vl_cells.map (·.Low))) ((G10 2).sl 0)) (fun _=>(G10 2).ss 0)) k0 true x3 hx3 true,.ctR g0 12 69 true [0] [0,1,2,3,4] [] [kA 1 M q,kA 2 o t,kA 3 N x,kA 4 R z,kA 5 K A,kA 6 U B,kA 7 W C,kA 8 X D,kA 9 vl_cells vl_cellss,kA 10 J ab,(kx false (.g 11 0) x3 x3.P.Digits.l (fun _=>x3.P.Digits.s) (fun _ H (h:Dat.good H (x3:DFrac))=>h.1)).a,(kx false (.g 11 0) x3 x3.Q.Digits.l (fun _=>x3.Q.Digits.s) (fun _ H (h:Dat.good H (x3:DFrac))=>h.2)).a] (fun _ G=>wmix_ct vb ad M q o t N x R z K A U B W C X D vl_cells vl_cellss pm vl_parcelsb p E f F I L J ab x3.P.Sign x3.P.Digits.l x3.P.Digits.s x3.Q.Sign x3.Q.Digits.l x3.Q.Digits.s hSl hIl (by rw [hIn];exact hf3) hx3f.1 (by rw [show Fr.fq x3.P.Sign x3.P.Digits.l x3.Q.Digits.l=_ from hx3f.2];exact (hB _ (Rc.rat_mem (by omega))).mono (by omega))),.muG 13 1 85 9 22 false false pm (fun _=>vl_parcelsb) x2 (fun G=>(⟨Fr.frs [Fr.fq x3.P.Sign x3.P.Digits.l x3.Q.Digits.l] ((G 12).sl 0),(G 12).ss 0⟩:Fat DFrac)) false (fun h=>by cases h) [(kg true (.g 12 0) (fun G=>Fr.frs [Fr.fq x3.P.Sign x3.P.Digits.l x3.Q.Digits.l] ((G 12).sl 0)) (fun G=>(G 12).ss 0))] (fun _ _ h=>h.1)] fun _ _ G14=>?_;intro S_ s_
      refine V.gf [.aa (k0+1),.u 1] fun _ _ G15=>?_;intro S_ s_
      refine V.rn hZ1 (k0+1,mupd x2 ⟨Fr.frs [Fr.fq x3.P.Sign x3.P.Digits.l x3.Q.Digits.l] ((G14 12).sl 0),(G14 12).ss 0⟩ pm) [0,1,2,3,4,5,6,7,8,9,10,11,12,13] ?_ ?_
      · refine ⟨?_,?_,?_,?_⟩
        · show 0≤(k0+1);omega
        · show (k0+1)≤(d.length:Int);omega
        · show Rc.at_ (mupd x2 ⟨Fr.frs [Fr.fq x3.P.Sign x3.P.Digits.l x3.Q.Digits.l] ((G14 12).sl 0),(G14 12).ss 0⟩ pm) Rc.all_ 1;exact Rc.upd_other (Rc.upd_put rfl (Rc.row_frs _ _ _)) (by rw [hx2e];exact (Rc.dg_all _ _).symm) hf3
        show ∀ j,j < (k0+1).toNat→Rc.at_ (mupd x2 ⟨Fr.frs [Fr.fq x3.P.Sign x3.P.Digits.l x3.Q.Digits.l] ((G14 12).sl 0),(G14 12).ss 0⟩ pm) (Rc.dg 112 j) ((Fr.shQ (vl_cells.map (·.Low))).getD j 0);intro j hj;by_cases e:j=k0.toNat
        · rw [e,← hx2e,← hx3f.2];exact (Rc.upd_put rfl (Rc.row_frs _ _ _)).1
        exact Rc.upd_other (Rc.upd_put rfl (Rc.row_frs _ _ _)) (by rw [hx2e];exact fun h=>e (Rc.dg_inj (by omega) (by omega) h)) (hf4 j (by omega))
      show ((d.length:Int)-(k0+1)).toNat < ((d.length:Int)-k0).toNat;omega
    have hE1:(fun m=>Rc.PM (Fr.shQ (vl_cells.map (·.Low))) (k+1) m) pm:=by
      show Rc.PM _ _ _;rw [hk1];exact ⟨fun _=>hf3,fun _ j hj=>hf4 j (by omega)⟩
    refine V.clM 1 false false (fun m=>Rc.PM (Fr.shQ (vl_cells.map (·.Low))) (k+1) m) vl_parcelsb pm (by kernel_rfl) hE1 ?_;refine V.tro 137 p E 2 (by kernel_rfl) (fun _ _=>trivial) ?_;have hE2:(fun l=>l=Rc.srcs (k+1) i0) p:=by
      show _=Rc.srcs (k+1) i0;rw [sS,hk1];rfl
    refine V.clO (α:=DSource) 2 true 137 (fun l=>l=Rc.srcs (k+1) i0) E p (by kernel_rfl) hE2 ?_;refine V.tro 141 f F 3 (by kernel_rfl) (fun _ _=>trivial) ?_;have hE3:(fun l=>l=Rc.outs (k+1)) f:=by
      show _=Rc.outs (k+1);rw [sO,hk1];rfl
    refine V.clO (α:=DOut) 3 true 141 (fun l=>l=Rc.outs (k+1)) F f (by kernel_rfl) hE3 ?_;have hE4:(fun l=>Rc.rws l ((Fr.shQ (vl_cells.map (·.Low))).take (k+1-2).toNat)) I:=by
      show Rc.rws _ _;rw [hk1] at sH ⊢;exact sH
    refine V.clO (α:=Fat DFrac) 4 false 22 (fun l=>Rc.rws l ((Fr.shQ (vl_cells.map (·.Low))).take (k+1-2).toNat)) L I (by kernel_rfl) hE4 ?_;exact V.rS [] [E,F,L] [] [] [] [0,1,2,3,4]
  refine V.g [.kb false,.kb false] fun _ _ G16=>?_;intro S_ s_
  refine V.condF (by kernel_rfl) ?_;refine V.g [.kb false,.kb false] fun _ _ G17=>?_;intro S_ s_
  refine V.condF (by kernel_rfl) ?_;refine V.g [.kb false,.kb false] fun _ _ G18=>?_;intro S_ s_
  refine V.condF (by kernel_rfl) ?_;refine V.g [.kb false,.kb false] fun _ _ G19=>?_;intro S_ s_
  refine V.condF (by kernel_rfl) ?_;refine V.g [.kb false,.kb false] fun _ _ G20=>?_;intro S_ s_
  refine V.condF (by kernel_rfl) ?_;refine V.g [.kb false,.kb false] fun _ _ G21=>?_;intro S_ s_
  refine V.condF (by kernel_rfl) ?_;refine V.g [.kb false,.kb false] fun _ _ G22=>?_;intro S_ s_
  refine V.condF (by kernel_rfl) ?_;refine V.g [.kb true,.kb true] fun _ _ G23=>?_;intro S_ s_
  refine V.condT (by kernel_rfl) ?_;have hk2:2≤k:=by rcases Int.lt_or_le k 2 with h | h;rcases (by omega:k=0∨k=1) with h | h;exact absurd (h0 h).1 (by decide);exact absurd (h1 h).1 (by decide);exact h
  obtain ⟨_,hIn,hNm⟩:=h2 hk2;have hOb:(f.length:Int)≤1000:=by rw [sO];unfold Rc.outs;rw [List.length_map,List.length_range];omega
  have hSb:(I.length:Int)≤1000:=by rw [sH.1,List.length_take];omega
  have hIl:J.length=1:=by rw [hIn];rfl
  refine nm (J.getD (0:Int).toNat default:ByteArray) fun x4 hx4=>?_;refine V.gf [.u 2,.l 5,.u 2,.l 5,.iX (kF 9 J ab) 0,.lE (kF 9 J ab) (0:Int) false x4 hx4 false,.cB 8 70 true [0,1,2,3,4] [] [kA 0 M q,kA 1 o t,kA 2 N x,kA 3 R z,kA 4 K A,kA 5 U B,kA 6 W C,kA 7 X D,kA 8 vl_cells vl_cellss] fun G=>wout_ct vb ad M q o t N x R z K A U B W C X D vl_cells vl_cellss vl_parcels vl_parcelsb p E f F I L (2:Int) (0:Int) (0:Int) Z x4 (by omega) (by omega)] fun _ _ G24=>?_;intro S_ s_
  have hE1:(fun m=>Rc.PM (Fr.shQ (vl_cells.map (·.Low))) (k+1) m) vl_parcels:=Rc.PM_next sP hk2;refine V.clM 1 false false (fun m=>Rc.PM (Fr.shQ (vl_cells.map (·.Low))) (k+1) m) vl_parcelsb vl_parcels (by kernel_rfl) hE1 ?_;refine V.tro 137 p E 2 (by kernel_rfl) (fun _ _=>trivial) ?_;have hE2:(fun l=>l=Rc.srcs (k+1) i0) p:=by
    show _=Rc.srcs (k+1) i0;rw [sS];unfold Rc.srcs;rw [if_neg (by omega),if_neg (by omega)]
  refine V.clO (α:=DSource) 2 true 137 (fun l=>l=Rc.srcs (k+1) i0) E p (by kernel_rfl) hE2 ?_;have hE3:(fun l=>l=Rc.outs (k+1)) (f ++[DOut.mk (2:Int) (0:Int) (0:Int) Z]):=by
    show _=Rc.outs (k+1);rw [sO,hNm];exact Rc.outs_next hk2
  refine V.clO (α:=DOut) 3 true 141 (fun l=>l=Rc.outs (k+1)) ((G24 8).ss 0) (f ++[DOut.mk (2:Int) (0:Int) (0:Int) Z]) (by kernel_rfl) hE3 ?_;have hE4:(fun l=>Rc.rws l ((Fr.shQ (vl_cells.map (·.Low))).take (k+1-2).toNat)) (I ++[(mlook x4 vl_parcels).getD default]):=by
    have hx4e:x4=Rc.dg 112 (k-2).toNat:=by rw [hx4,hIn];rfl
    exact Rc.rws_next sH hk2 (by omega) (by rw [hx4e];exact Rc.at_row (sP.2 hk2 _ (by omega)))
  refine V.clO (α:=Fat DFrac) 4 false 22 (fun l=>Rc.rws l ((Fr.shQ (vl_cells.map (·.Low))).take (k+1-2).toNat)) ((G24 8).ss 1) (I ++[(mlook x4 vl_parcels).getD default]) (by kernel_rfl) hE4 ?_;exact V.rS [] [E,(G24 8).ss 0,(G24 8).ss 1] [] [] [] [0,1,2,3,4]

open Go Go.Proofs
set_option maxRecDepth 10000 in
theorem pthg_ct (d:Int) (a:List ByteArray) (e:SV) (c:List ByteArray) (i:SV) (j:ByteArray) (k:List ByteArray) (m:SV) (o:Int) (hL:(a.length:Int)≤1000) (hL2:(c.length:Int)≤1000) (hk:0≤d∧d < 9) :
    Ct Tryz.prog 52 #[ag (DStep.mk d ⟨a,e⟩ ⟨c,i⟩ j ⟨k,m⟩ o)] [fs true a e,fs true c i,fs true k m] [] (fun g=>((g.ss 0)).v) (fun g=>[]) (fun g=>[os true 120 (Pc.things d a c j) (g.ss 0)]) (fun g=>[]):=by
  refine V.fo mo Tryz.func52 57 3 fun w H ε k0=>?_;clear k0
  refine V.gf [.n 0,.u 1] fun _ _ G1=>?_;intro S_ s_
  refine V.gf [.u 1] fun _ _ G2=>?_;intro S_ s_
  refine V.gf [.u 1,.l 0,.ln (kF 0 a e),.u 1] fun _ _ G3=>?_;intro S_ s_
  refine V.on (α:=Dthing) 1 120 (by kernel_rfl) ?_;refine V.lp (γ:=List Dthing × SV × Int) (fun ⟨l,ls,k0⟩=>⟨[(1,pp ((G1 0).b) 0),(3,ls.v),(9,e.v),(10,iv (a.length:Int)),(11,iv k0)],[fs false a e,fs false c i,fs false k m],[.blk ((G1 0).b) (ca (DStep.mk d ⟨a,e⟩ ⟨c,i⟩ j ⟨k,m⟩ o)) 39,os true 120 l ls,.no]⟩) (fun ⟨l,ls,k0⟩=>(0≤k0)∧(k0≤(a.length:Int))∧(l=(a.take k0.toNat).map (Pc.th 0))∧((l.length:Int)=k0)) (fun ⟨l,ls,k0⟩=>((a.length:Int)-k0).toNat) (([]:List Dthing),{},0) [0,1,2] ?_ ?_
  · refine ⟨?_,?_,?_,?_⟩
    · show 0≤(0:Int)
      first | omega | rfl | (simp;done) | (subst_vars;simp;done)
    · show (0:Int)≤(a.length:Int)
      first | omega | rfl | (simp;done) | (subst_vars;simp;done)
    · show ([]:List Dthing)=(a.take (0:Int).toNat).map (Pc.th 0);rfl
    show (([]:List Dthing).length:Int)=(0:Int)
    simp
  rintro ⟨l,ls,k0⟩ hF1 kw4 Z1 hZ1;have hF1:(0≤k0)∧(k0≤(a.length:Int))∧(l=(a.take k0.toNat).map (Pc.th 0))∧((l.length:Int)=k0):=hF1;obtain ⟨hf1,hf2,hf3,hf4⟩:=hF1;refine V.gf [.u 1] fun _ _ G4=>?_;intro S_ s_;refine V.cn (b:=decide (k0 < (a.length:Int))) iDT iDF (fun q1=>?_) (fun q2=>?_)
  · refine nm (a.getD k0.toNat default:ByteArray) fun x1 hx1=>?_;refine V.gf [.iX (kF 0 a e) k0,.lE (kF 0 a e) k0 false x1 hx1 false,.u 1] fun _ _ G5=>?_;intro S_ s_
    refine nm (l ++([Dthing.mk 0 x1]:List Dthing):List Dthing) fun l1 hl1=>?_;have hl1n:=congrArg List.length hl1;try simp only [List.length_append,List.length_cons,List.length_nil,List.length_replicate,List.length_set,List.length_take,List.length_drop,List.length_map,List.length_reverse,List.length_range] at hl1n
    refine V.gf [.u 3,.nr 3 true 120 ([Dthing.mk 0 x1]:List Dthing) [] (fun _ _ _ _ _=>trivial) (fun _=>#[iv 0,tv x1]),.ap 4 1 120 24 false true l (fun _=>ls) (kf true (.g 3 0) ([Dthing.mk 0 x1]:List Dthing) (fun G=>⟨atB (G 3).b,1,1⟩)) true l1 hl1 (by (try simp only [List.length_append,List.length_cons,List.length_nil,List.length_replicate,List.length_set,List.length_take,List.length_drop,List.length_map,List.length_reverse,List.length_range]);omega) (fun h=>by cases h) (.inr fun _ _=>trivial),.u 1] fun _ _ G6=>?_;intro S_ s_
    refine V.gf [.aa (k0+1),.u 1] fun _ _ G7=>?_;intro S_ s_
    refine V.rn hZ1 (l1,(G6 4).s,k0+1) [0,1,2] ?_ ?_
    · refine ⟨?_,?_,?_,?_⟩
      · show 0≤(k0+1);omega
      · show (k0+1)≤(a.length:Int);omega
      · show l1=(a.take (k0+1).toNat).map (Pc.th 0);rw [hl1,hf3];exact Pc.map_step (f:=Pc.th 0) (by omega) (by omega) hx1
      show (l1.length:Int)=(k0+1);omega
    show ((a.length:Int)-(k0+1)).toNat < ((a.length:Int)-k0).toNat;omega
  refine V.gf [.u 1,.l 0,.ln (kF 1 c i),.u 1] fun _ _ G8=>?_;intro S_ s_
  refine V.lp (γ:=List Dthing × SV × Int) (fun ⟨l_1,l_1s,k1⟩=>⟨[(1,pp ((G1 0).b) 0),(3,l_1s.v),(22,i.v),(23,iv (c.length:Int)),(24,iv k1)],[fs false c i,fs false a e,fs false k m],[.blk ((G1 0).b) (ca (DStep.mk d ⟨a,e⟩ ⟨c,i⟩ j ⟨k,m⟩ o)) 39,os true 120 l_1 l_1s,.no]⟩) (fun ⟨l_1,l_1s,k1⟩=>(0≤k1)∧(k1≤(c.length:Int))∧(l_1=a.map (Pc.th 0) ++(c.take k1.toNat).map (Pc.th 1))∧((l_1.length:Int)=a.length+k1)) (fun ⟨l_1,l_1s,k1⟩=>((c.length:Int)-k1).toNat) (l,ls,0) [1,0,2] ?_ ?_
  · refine ⟨?_,?_,?_,?_⟩
    · show 0≤(0:Int)
      first | omega | rfl | (simp;done) | (subst_vars;simp;done)
    · show (0:Int)≤(c.length:Int)
      first | omega | rfl | (simp;done) | (subst_vars;simp;done)
    · show l=a.map (Pc.th 0) ++(c.take (0:Int).toNat).map (Pc.th 1);rw [hf3,List.take_of_length_le (by omega)];simp
    show (l.length:Int)=a.length+(0:Int);omega
  rintro ⟨l_1,l_1s,k1⟩ hF2 kw10 Z2 hZ2;have hF2:(0≤k1)∧(k1≤(c.length:Int))∧(l_1=a.map (Pc.th 0) ++(c.take k1.toNat).map (Pc.th 1))∧((l_1.length:Int)=a.length+k1):=hF2;obtain ⟨hf5,hf6,hf7,hf8⟩:=hF2;refine V.gf [.u 1] fun _ _ G9=>?_;intro S_ s_;refine V.cn (b:=decide (k1 < (c.length:Int))) iDT iDF (fun q3=>?_) (fun q4=>?_)
  · refine nm (c.getD k1.toNat default:ByteArray) fun x2 hx2=>?_;refine V.gf [.iX (kF 0 c i) k1,.lE (kF 0 c i) k1 false x2 hx2 false,.u 1] fun _ _ G10=>?_;intro S_ s_
    refine nm (l_1 ++([Dthing.mk 1 x2]:List Dthing):List Dthing) fun l2 hl2=>?_;have hl2n:=congrArg List.length hl2;try simp only [List.length_append,List.length_cons,List.length_nil,List.length_replicate,List.length_set,List.length_take,List.length_drop,List.length_map,List.length_reverse,List.length_range] at hl2n
    refine V.gf [.u 3,.nr 3 true 120 ([Dthing.mk 1 x2]:List Dthing) [] (fun _ _ _ _ _=>trivial) (fun _=>#[iv 1,tv x2]),.ap 4 1 120 24 false true l_1 (fun _=>l_1s) (kf true (.g 3 0) ([Dthing.mk 1 x2]:List Dthing) (fun G=>⟨atB (G 3).b,1,1⟩)) true l2 hl2 (by (try simp only [List.length_append,List.length_cons,List.length_nil,List.length_replicate,List.length_set,List.length_take,List.length_drop,List.length_map,List.length_reverse,List.length_range]);omega) (fun h=>by cases h) (.inr fun _ _=>trivial),.u 1] fun _ _ G11=>?_;intro S_ s_
    refine V.gf [.aa (k1+1),.u 1] fun _ _ G12=>?_;intro S_ s_
    refine V.rn hZ2 (l2,(G11 4).s,k1+1) [0,1,2] ?_ ?_
    · refine ⟨?_,?_,?_,?_⟩
      · show 0≤(k1+1);omega
      · show (k1+1)≤(c.length:Int);omega
      · show l2=a.map (Pc.th 0) ++(c.take (k1+1).toNat).map (Pc.th 1);rw [hl2,hf7];rw [List.append_assoc];refine congrArg _ ?_;exact Pc.map_step (f:=Pc.th 1) (by omega) (by omega) hx2
      show (l2.length:Int)=a.length+(k1+1);omega
    show ((c.length:Int)-(k1+1)).toNat < ((c.length:Int)-k1).toNat;omega
  refine nm ((decide (d=0)) || (decide (d=1)):Bool) fun p1 hp1=>?_;refine V.gf [.u 1,.l 0,.u 3,.l 0,.u 1,.orn g0 false (decide (d=0)) (decide (d=1)) p1 hp1,.u 2,.l 0,.u 1,.or g0 false p1 (decide (d=5))] fun _ _ G13=>?_;intro S_ s_
  refine V.cn (b:=p1 || (decide (d=5))) (iOT (iN hp1 (iOT iDT iDT)) iDT) (iOF (iN hp1 (iOF iDF iDF)) iDF) (fun q5=>?_) (fun q6=>?_)
  · refine nm (l_1 ++([Dthing.mk (2+d) j]:List Dthing):List Dthing) fun l3 hl3=>?_;refine V.gf [.u 2,.l 0,.aa (2+d),.u 1,.l 0,.u 1,.nr 7 true 120 ([Dthing.mk (2+d) j]:List Dthing) [] (fun _ _ _ _ _=>trivial) (fun _=>#[iv (2+d),tv j]),.ap 8 1 120 24 false true l_1 (fun _=>l_1s) (kf true (.g 7 0) ([Dthing.mk (2+d) j]:List Dthing) (fun G=>⟨atB (G 7).b,1,1⟩)) true l3 hl3 (by (try simp only [List.length_append,List.length_cons,List.length_nil,List.length_replicate,List.length_set,List.length_take,List.length_drop,List.length_map,List.length_reverse,List.length_range]);omega) (fun h=>by cases h) (.inr fun _ _=>trivial),.u 1] fun _ _ G14=>?_;intro S_ s_
    refine V.gf [.u 2] fun _ _ G15=>?_;intro S_ s_
    have e0:l3=Pc.things d a c j:=by rw [hl3,hf7];unfold Pc.things;rw [List.take_of_length_le (by omega),if_pos (by have hqq:=q5;simpa [or_assoc] using hqq)];rfl
    subst e0;exact V.rS [0] [(G14 8).s] [] [] [] [1]
  refine V.gf [.u 2] fun _ _ G16=>?_;intro S_ s_
  have e0:l_1=Pc.things d a c j:=by rw [hf7];unfold Pc.things;rw [List.take_of_length_le (by omega),if_neg (by have hqq:=q6;omega),List.append_nil]
  subst e0;exact V.rS [0] [l_1s] [] [] [] [1]

open Go Go.Proofs
set_option maxRecDepth 10000 in
theorem pcol_ct (A:ByteArray) (d:List DImport) (k:SV) (a:List DInput) (i:SV) (p:List DTable) (q:SV) (r:List DFunc) (t:SV) (c:List DCell) (j:SV) (e:List DPort) (m:SV) (h:List DStore) (o:SV) (y:List DRecipe) (z:SV) (hI0:d.length=0) (hS0:h.length=0) (hP0:e.length=0) :
    Ct Tryz.prog 49 #[ag (DSheet.mk A ⟨d,k⟩ ⟨a,i⟩ ⟨p,q⟩ ⟨r,t⟩ ⟨c,j⟩ ⟨e,m⟩ ⟨h,o⟩ ⟨y,z⟩)] [fs true d k,fs true a i,fs true p q,fs true r t,fs true c j,fs true e m,fs true h o,fs true y z] [] (fun g=>.agg #[.map (some (g.bs 0)),.map (some (g.bs 1)),.map (some (g.bs 2))]) (fun g=>[]) (fun g=>[mp true false (Pc.celM c) (g.bs 0),mp true false (Pc.inpM a) (g.bs 1),mp true false (Pc.namM a) (g.bs 2)]) (fun g=>[]):=by
  refine V.fo mo Tryz.func49 96 8 fun w H ε k0=>?_;obtain ⟨⟨kl1, -⟩,⟨kl2, -⟩,⟨kl3, -⟩,⟨kl4, -⟩,⟨kl5, -⟩,⟨kl6, -⟩,⟨kl7, -⟩,⟨kl8, -⟩, -⟩:Lq d k.v∧Lq a i.v∧Lq p q.v∧Lq r t.v∧Lq c j.v∧Lq e m.v∧Lq h o.v∧Lq y z.v∧True:=kq k0
  clear k0;refine V.gf [.n 0,.n 1] fun _ _ G1=>?_;intro S_ s_
  refine V.gf [.mm ByteArray ByteArray 0 2 false,.mm ByteArray ByteArray 1 3 false,.mm Dthing Bool 2 4 false,.u 1,.n 5,.s 5] fun _ _ G2=>?_;intro S_ s_
  refine V.gf [.u 1,.l 0,.ln (kF 4 c j),.u 1] fun _ _ G3=>?_;intro S_ s_
  refine V.lp (γ:=Int × List (ByteArray × ByteArray)) (fun ⟨k0,m2⟩=>⟨[(1,pp ((G1 0).b) 0),(2,pp ((G1 1).b) 0),(3,pp ((G2 4).b) 0),(19,j.v),(20,iv (c.length:Int)),(21,iv k0)],[fs false c j,fs false d k,fs false a i,fs false p q,fs false r t,fs false e m,fs false h o,fs false y z],[.blk ((G1 0).b) (ca (DSheet.mk A ⟨d,k⟩ ⟨a,i⟩ ⟨p,q⟩ ⟨r,t⟩ ⟨c,j⟩ ⟨e,m⟩ ⟨h,o⟩ ⟨y,z⟩)) 36,.blk ((G1 1).b) #[.map none,.map none,.map none] 111,mp true false m2 ((G2 0).b),mp true false ([]:List (ByteArray × ByteArray)) ((G2 1).b),mp true false ([]:List (Dthing × Bool)) ((G2 2).b),.blk ((G2 4).b) #[.map (some ((G2 0).b)),.map (some ((G2 1).b)),.map (some ((G2 2).b))] 111,.no,.no]⟩) (fun ⟨k0,m2⟩=>(0≤k0)∧(k0≤(c.length:Int))∧(m2=Pc.puts [] ((c.take k0.toNat).map fun x=>(x.Name,x.Unit)))) (fun ⟨k0,m2⟩=>((c.length:Int)-k0).toNat) (0,([]:List (ByteArray × ByteArray))) [4,0,1,2,3,5,6,7] ?_ ?_
  · refine ⟨?_,?_,?_⟩
    · show 0≤(0:Int)
      first | omega | rfl | (simp;done) | (subst_vars;simp;done)
    · show (0:Int)≤(c.length:Int)
      first | omega | rfl | (simp;done) | (subst_vars;simp;done)
    show ([]:List (ByteArray × ByteArray))=Pc.puts [] ((c.take (0:Int).toNat).map fun x=>(x.Name,x.Unit));rfl
  rintro ⟨k0,m2⟩ hF1 kw4 Z1 hZ1;have hF1:(0≤k0)∧(k0≤(c.length:Int))∧(m2=Pc.puts [] ((c.take k0.toNat).map fun x=>(x.Name,x.Unit))):=hF1;obtain ⟨hf1,hf2,hf3⟩:=hF1;clear kw4;refine V.gf [.u 1] fun _ _ G4=>?_;intro S_ s_;refine V.cn (b:=decide (k0 < (c.length:Int))) iDT iDF (fun q1=>?_) (fun q2=>?_)
  · refine nm (c.getD k0.toNat default:DCell) fun x1 hx1=>?_;refine V.gf [.iX (kF 0 c j) k0,.lE (kF 0 c j) k0 true x1 hx1 true,.n 6,.s 6] fun _ _ G5=>?_;intro S_ s_
    refine nm (mupd x1.Name x1.Unit m2:List (ByteArray × ByteArray)) fun m1 hm1=>?_;refine V.gf [.u 1,.l 5,.u 1,.l 6,.u 1,.l 6,.mu 6 2 108 9 9 true false m2 (fun _=>(G2 0).b) x1.Name x1.Unit m1 hm1 true (fun _=>rfl) [] (fun _ _ _=>trivial)] fun _ _ G6=>?_;intro S_ s_
    refine V.gf [.aa (k0+1),.u 1] fun _ _ G7=>?_;intro S_ s_
    refine V.rn hZ1 (k0+1,m1) [0,1,2,3,4,5,6,7] ?_ ?_
    · refine ⟨?_,?_,?_⟩
      · show 0≤(k0+1);omega
      · show (k0+1)≤(c.length:Int);omega
      show m1=Pc.puts [] ((c.take (k0+1).toNat).map fun x=>(x.Name,x.Unit));have hus:=Pc.puts_step (f:=fun x=>(x.Name,x.Unit)) hf3 (by omega) (by omega) hx1
      subst_vars;exact hus
    show ((c.length:Int)-(k0+1)).toNat < ((c.length:Int)-k0).toNat;omega
  refine V.gf [.u 1,.l 0,.ln (kF 2 a i),.u 1] fun _ _ G8=>?_;intro S_ s_
  refine V.lp (γ:=Int × List (ByteArray × ByteArray) × List (Dthing × Bool)) (fun ⟨k1,m3,m4⟩=>⟨[(1,pp ((G1 0).b) 0),(2,pp ((G1 1).b) 0),(3,pp ((G2 4).b) 0),(33,i.v),(34,iv (a.length:Int)),(35,iv k1)],[fs false a i,fs false d k,fs false p q,fs false r t,fs false c j,fs false e m,fs false h o,fs false y z],[.blk ((G1 0).b) (ca (DSheet.mk A ⟨d,k⟩ ⟨a,i⟩ ⟨p,q⟩ ⟨r,t⟩ ⟨c,j⟩ ⟨e,m⟩ ⟨h,o⟩ ⟨y,z⟩)) 36,.blk ((G1 1).b) #[.map none,.map none,.map none] 111,mp true false m2 ((G2 0).b),mp true false m3 ((G2 1).b),mp true false m4 ((G2 2).b),.blk ((G2 4).b) #[.map (some ((G2 0).b)),.map (some ((G2 1).b)),.map (some ((G2 2).b))] 111,.no,.no]⟩) (fun ⟨k1,m3,m4⟩=>(0≤k1)∧(k1≤(a.length:Int))∧(m3=Pc.puts [] ((a.take k1.toNat).map fun x=>(x.Name,x.Kind)))∧(m4=Pc.puts [] ((a.take k1.toNat).map fun x=>(Pc.th 0 x.Name,true)))) (fun ⟨k1,m3,m4⟩=>((a.length:Int)-k1).toNat) (0,([]:List (ByteArray × ByteArray)),([]:List (Dthing × Bool))) [2,1,3,4,0,5,6,7] ?_ ?_
  · refine ⟨?_,?_,?_,?_⟩
    · show 0≤(0:Int)
      first | omega | rfl | (simp;done) | (subst_vars;simp;done)
    · show (0:Int)≤(a.length:Int)
      first | omega | rfl | (simp;done) | (subst_vars;simp;done)
    · show ([]:List (ByteArray × ByteArray))=Pc.puts [] ((a.take (0:Int).toNat).map fun x=>(x.Name,x.Kind));rfl
    show ([]:List (Dthing × Bool))=Pc.puts [] ((a.take (0:Int).toNat).map fun x=>(Pc.th 0 x.Name,true));rfl
  rintro ⟨k1,m3,m4⟩ hF2 kw10 Z2 hZ2;have hF2:(0≤k1)∧(k1≤(a.length:Int))∧(m3=Pc.puts [] ((a.take k1.toNat).map fun x=>(x.Name,x.Kind)))∧(m4=Pc.puts [] ((a.take k1.toNat).map fun x=>(Pc.th 0 x.Name,true))):=hF2;obtain ⟨hf4,hf5,hf6,hf7⟩:=hF2;clear kw10;refine V.gf [.u 1] fun _ _ G9=>?_;intro S_ s_;refine V.cn (b:=decide (k1 < (a.length:Int))) iDT iDF (fun q3=>?_) (fun q4=>?_)
  · refine nm (a.getD k1.toNat default:DInput) fun x2 hx2=>?_;refine V.gf [.iX (kF 0 a i) k1,.lE (kF 0 a i) k1 false x2 hx2 true,.n 7,.s 7] fun _ _ G10=>?_;intro S_ s_
    refine nm (mupd x2.Name x2.Kind m3:List (ByteArray × ByteArray)) fun m5 hm5=>?_;refine V.gf [.u 1,.l 5,.u 1,.l 7,.u 1,.l 7,.mu 6 3 108 9 9 true false m3 (fun _=>(G2 1).b) x2.Name x2.Kind m5 hm5 true (fun _=>rfl) [] (fun _ _ _=>trivial)] fun _ _ G11=>?_;intro S_ s_
    refine nm (mupd (Dthing.mk 0 x2.Name) true m4:List (Dthing × Bool)) fun m6 hm6=>?_;refine V.gf [.u 1,.l 5,.u 1,.l 7,.u 1,.mu 5 4 109 120 4 true false m4 (fun _=>(G2 2).b) (Dthing.mk 0 x2.Name) true m6 hm6 true (fun _=>rfl) [] (fun _ _ _=>trivial)] fun _ _ G12=>?_;intro S_ s_
    refine V.gf [.aa (k1+1),.u 1] fun _ _ G13=>?_;intro S_ s_
    refine V.rn hZ2 (k1+1,m5,m6) [0,1,2,3,4,5,6,7] ?_ ?_
    · refine ⟨?_,?_,?_,?_⟩
      · show 0≤(k1+1);omega
      · show (k1+1)≤(a.length:Int);omega
      · show m5=Pc.puts [] ((a.take (k1+1).toNat).map fun x=>(x.Name,x.Kind));have hus:=Pc.puts_step (f:=fun x:DInput=>(x.Name,x.Kind)) hf6 (by omega) (by omega) hx2
        subst_vars;exact hus
      show m6=Pc.puts [] ((a.take (k1+1).toNat).map fun x=>(Pc.th 0 x.Name,true));have hus:=Pc.puts_step (f:=fun x:DInput=>(Pc.th 0 x.Name,true)) hf7 (by omega) (by omega) hx2
      subst_vars;exact hus
    show ((a.length:Int)-(k1+1)).toNat < ((a.length:Int)-k1).toNat;omega
  refine V.gf [.u 1,.l 0,.ln (kF 1 d k),.u 1] fun _ _ G14=>?_;intro S_ s_
  refine V.lp (γ:=Int) (fun k2=>⟨[(1,pp ((G1 0).b) 0),(2,pp ((G1 1).b) 0),(3,pp ((G2 4).b) 0),(52,k.v),(53,iv (d.length:Int)),(54,iv k2)],[fs false d k,fs false a i,fs false p q,fs false r t,fs false c j,fs false e m,fs false h o,fs false y z],[.blk ((G1 0).b) (ca (DSheet.mk A ⟨d,k⟩ ⟨a,i⟩ ⟨p,q⟩ ⟨r,t⟩ ⟨c,j⟩ ⟨e,m⟩ ⟨h,o⟩ ⟨y,z⟩)) 36,.blk ((G1 1).b) #[.map none,.map none,.map none] 111,mp true false m2 ((G2 0).b),mp true false m3 ((G2 1).b),mp true false m4 ((G2 2).b),.blk ((G2 4).b) #[.map (some ((G2 0).b)),.map (some ((G2 1).b)),.map (some ((G2 2).b))] 111,.no,.no]⟩) (fun k2=>(0≤k2)∧(k2≤(d.length:Int))) (fun k2=>((d.length:Int)-k2).toNat) 0 [1,0,2,3,4,5,6,7] ?_ ?_
  · refine ⟨?_,?_⟩
    · show 0≤(0:Int)
      first | omega | rfl | (simp;done) | (subst_vars;simp;done)
    show (0:Int)≤(d.length:Int)
    first | omega | rfl | (simp;done) | (subst_vars;simp;done)
  rintro k2 hF3 kw17 Z3 hZ3;have hF3:(0≤k2)∧(k2≤(d.length:Int)):=hF3;obtain ⟨hf8,hf9⟩:=hF3;clear kw17;refine V.gf [.u 1] fun _ _ G15=>?_;intro S_ s_;refine V.cn (b:=decide (k2 < (d.length:Int))) iDT iDF (fun q5=>?_) (fun q6=>?_)
  · exfalso;have hqq:=q5;omega
  refine V.gf [.u 1,.l 0,.ln (kF 6 h o),.u 1] fun _ _ G16=>?_;intro S_ s_
  refine V.lp (γ:=Int) (fun k3=>⟨[(1,pp ((G1 0).b) 0),(2,pp ((G1 1).b) 0),(3,pp ((G2 4).b) 0),(65,o.v),(66,iv (h.length:Int)),(67,iv k3)],[fs false h o,fs false d k,fs false a i,fs false p q,fs false r t,fs false c j,fs false e m,fs false y z],[.blk ((G1 0).b) (ca (DSheet.mk A ⟨d,k⟩ ⟨a,i⟩ ⟨p,q⟩ ⟨r,t⟩ ⟨c,j⟩ ⟨e,m⟩ ⟨h,o⟩ ⟨y,z⟩)) 36,.blk ((G1 1).b) #[.map none,.map none,.map none] 111,mp true false m2 ((G2 0).b),mp true false m3 ((G2 1).b),mp true false m4 ((G2 2).b),.blk ((G2 4).b) #[.map (some ((G2 0).b)),.map (some ((G2 1).b)),.map (some ((G2 2).b))] 111,.no,.no]⟩) (fun k3=>(0≤k3)∧(k3≤(h.length:Int))) (fun k3=>((h.length:Int)-k3).toNat) 0 [6,0,1,2,3,4,5,7] ?_ ?_
  · refine ⟨?_,?_⟩
    · show 0≤(0:Int)
      first | omega | rfl | (simp;done) | (subst_vars;simp;done)
    show (0:Int)≤(h.length:Int)
    first | omega | rfl | (simp;done) | (subst_vars;simp;done)
  rintro k3 hF4 kw20 Z4 hZ4;have hF4:(0≤k3)∧(k3≤(h.length:Int)):=hF4;obtain ⟨hf10,hf11⟩:=hF4;clear kw20;refine V.gf [.u 1] fun _ _ G17=>?_;intro S_ s_;refine V.cn (b:=decide (k3 < (h.length:Int))) iDT iDF (fun q7=>?_) (fun q8=>?_)
  · exfalso;have hqq:=q7;omega
  refine V.gf [.u 1,.l 0,.ln (kF 6 e m),.u 1] fun _ _ G18=>?_;intro S_ s_
  refine V.lp (γ:=Int) (fun k4=>⟨[(2,pp ((G1 1).b) 0),(3,pp ((G2 4).b) 0),(83,m.v),(84,iv (e.length:Int)),(85,iv k4)],[fs false e m,fs false d k,fs false a i,fs false p q,fs false r t,fs false c j,fs false h o,fs false y z],[.blk ((G1 0).b) (ca (DSheet.mk A ⟨d,k⟩ ⟨a,i⟩ ⟨p,q⟩ ⟨r,t⟩ ⟨c,j⟩ ⟨e,m⟩ ⟨h,o⟩ ⟨y,z⟩)) 36,.blk ((G1 1).b) #[.map none,.map none,.map none] 111,mp true false m2 ((G2 0).b),mp true false m3 ((G2 1).b),mp true false m4 ((G2 2).b),.blk ((G2 4).b) #[.map (some ((G2 0).b)),.map (some ((G2 1).b)),.map (some ((G2 2).b))] 111,.no,.no]⟩) (fun k4=>(0≤k4)∧(k4≤(e.length:Int))) (fun k4=>((e.length:Int)-k4).toNat) 0 [6,1,2,3,4,5,0,7] ?_ ?_
  · refine ⟨?_,?_⟩
    · show 0≤(0:Int)
      first | omega | rfl | (simp;done) | (subst_vars;simp;done)
    show (0:Int)≤(e.length:Int)
    first | omega | rfl | (simp;done) | (subst_vars;simp;done)
  rintro k4 hF5 kw23 Z5 hZ5;have hF5:(0≤k4)∧(k4≤(e.length:Int)):=hF5;obtain ⟨hf12,hf13⟩:=hF5;clear kw23;refine V.gf [.u 1] fun _ _ G19=>?_;intro S_ s_;refine V.cn (b:=decide (k4 < (e.length:Int))) iDT iDF (fun q9=>?_) (fun q10=>?_)
  · exfalso;have hqq:=q9;omega
  refine V.gf [.l 5,.s 1] fun _ _ G20=>?_;intro S_ s_
  have eM0:m2=Pc.celM c:=Pc.puts_all hf3 (by omega);subst eM0;have eM1:m3=Pc.inpM a:=Pc.puts_all hf6 (by omega);subst eM1;have eM2:m4=Pc.namM a:=Pc.puts_all hf7 (by omega);subst eM2;exact V.rS [1] [] [] [(G2 0).b,(G2 1).b,(G2 2).b] [] [2,3,4]

open Go Go.Proofs
theorem dim_equal (w:World) (a0 a1 a2 a3 a4 a5 b0 b1 b2 b3 b4 b5:Int):(Op.equal 208 (.agg #[iv a0,iv a1,iv a2,iv a3,iv a4,iv a5]) (.agg #[iv b0,iv b1,iv b2,iv b3,iv b4,iv b5])).run Tryz.prog w=.ok (decide (a0=b0∧a1=b1∧a2=b2∧a3=b3∧a4=b4∧a5=b5)) w:=by
  have hu:Tryz.prog.underlying 208=some (.array 6 3):=by kernel_rfl
  have u3:Tryz.prog.underlying 3=some (.int .i64):=by kernel_rfl
  obtain ⟨i,hi⟩:∃ i,Tryz.prog.info? 3=some i:=info_of_underlying u3
  have hc:Tryz.prog.cellsOf 3=1:=by kernel_rfl
  have p3:∀ (xs:Array Value) (o:Nat) (v:Value),xs[o]?=some v→(part 3 xs o).run Tryz.prog w=.ok v w:=fun xs o v hv=>by
    have h:(isAgg 3).run Tryz.prog w=.ok false w:=by rw [run_isAgg (by kernel_rfl),show aggB Tryz.prog 3=false from by kernel_rfl]
    simp [part,h,hv]
  show (Op.equalIn (9999+1) 208 _ _).run Tryz.prog w=_
  rw [run_equalIn_array w 9999 _ _ hu hi,hc]
  have ei:=fun a b=>run_equalIn_int (P:=Tryz.prog) w 9998 3 .i64 .i64 a b u3
  have q0:∀ c0 c1 c2 c3 c4 c5:Value,(part 3 #[c0,c1,c2,c3,c4,c5] 0).run Tryz.prog w=.ok c0 w:=fun _ _ _ _ _ _=>p3 _ 0 _ rfl
  have q1:∀ c0 c1 c2 c3 c4 c5:Value,(part 3 #[c0,c1,c2,c3,c4,c5] 1).run Tryz.prog w=.ok c1 w:=fun _ _ _ _ _ _=>p3 _ 1 _ rfl
  have q2:∀ c0 c1 c2 c3 c4 c5:Value,(part 3 #[c0,c1,c2,c3,c4,c5] 2).run Tryz.prog w=.ok c2 w:=fun _ _ _ _ _ _=>p3 _ 2 _ rfl
  have q3:∀ c0 c1 c2 c3 c4 c5:Value,(part 3 #[c0,c1,c2,c3,c4,c5] 3).run Tryz.prog w=.ok c3 w:=fun _ _ _ _ _ _=>p3 _ 3 _ rfl
  have q4:∀ c0 c1 c2 c3 c4 c5:Value,(part 3 #[c0,c1,c2,c3,c4,c5] 4).run Tryz.prog w=.ok c4 w:=fun _ _ _ _ _ _=>p3 _ 4 _ rfl
  have q5:∀ c0 c1 c2 c3 c4 c5:Value,(part 3 #[c0,c1,c2,c3,c4,c5] 5).run Tryz.prog w=.ok c5 w:=fun _ _ _ _ _ _=>p3 _ 5 _ rfl
  rw [show List.range 6=[0,1,2,3,4,5] from rfl]
  simp only [Op.eqItems]
  simp [q0,q1,q2,q3,q4,q5,ei]
  by_cases h0:a0=b0 <;> by_cases h1:a1=b1 <;> by_cases h2:a2=b2 <;> by_cases h3:a3=b3 <;> by_cases h4:a4=b4 <;> by_cases h5:a5=b5 <;> simp [h0,h1,h2,h3,h4,h5]

open Go Go.Proofs
set_option maxRecDepth 10000 in
theorem pbare_ct (s:ByteArray) (hs:s.size≤9223372036854775807) :
    Cp Tryz.prog 88 #[tv s] [] (bv (decide (Pc.bareP s))):=by
  refine V.fo mo Tryz.func88 14 1 fun w H ε k0=>?_;clear k0
  refine V.g [.kb false] fun _ _ G1=>?_;intro S_ s_
  refine nm (Un.dv ((Un.read s).1) 0:Int) fun n1 hn1=>?_;refine nm (Un.dv ((Un.read s).1) 1:Int) fun n2 hn2=>?_;refine nm (Un.dv ((Un.read s).1) 2:Int) fun n3 hn3=>?_;refine nm (Un.dv ((Un.read s).1) 3:Int) fun n4 hn4=>?_;refine nm (Un.dv ((Un.read s).1) 4:Int) fun n5 hn5=>?_;refine nm (Un.dv ((Un.read s).1) 5:Int) fun n6 hn6=>?_;refine nm (Fr.rS (((Un.read s).1).isSome=true) (Un.fv ((Un.read s).1)):Int) fun n7 hn7=>?_;refine nm (Fr.rD (((Un.read s).1).isSome=true) (Un.fv ((Un.read s).1)):List Int) fun l1 hl1=>?_;refine nm (Fr.rT (((Un.read s).1).isSome=true):Int) fun n8 hn8=>?_;refine nm (Fr.rE (((Un.read s).1).isSome=true) (Un.fv ((Un.read s).1)):List Int) fun l2 hl2=>?_;refine nm ((Un.read s).2:Int) fun n9 hn9=>?_;refine V.gf [.u 1,.cA 1 129 [] fun G=>uread_ctv s (by omega) n1 hn1 n2 hn2 n3 hn3 n4 hn4 n5 hn5 n6 hn6 n7 hn7 l1 hl1 n8 hn8 l2 hl2 n9 hn9,.u 3,.n 0,.s 0,.u 1] fun _ _ G2=>?_;intro S_ s_
  refine V.gf [.u 1,.l 0,.u 1,.aeq false 208 #[iv n1,iv n2,iv n3,iv n4,iv n5,iv n6] #[iv 0,iv 0,iv 0,iv 0,iv 0,iv 0] _ fun w=>dim_equal w n1 n2 n3 n4 n5 n6 0 0 0 0 0 0,.u 1] fun _ _ G3=>?_;intro S_ s_
  have e0:(decide (n1=0∧n2=0∧n3=0∧n4=0∧n5=0∧n6=0))=decide (Pc.bareP s):=by
    rw [hn6,hn5,hn4,hn3,hn2,hn1];refine Bool.eq_iff_iff.2 (Iff.trans iDT (Iff.trans ?_ decide_eq_true_iff.symm));unfold Pc.bareP;grind
  exact V.rT [0] [] [] [] [] [] (cong1 (fun (xz0:Bool)=>(bv xz0:Value)) e0)

open Go Go.Proofs
set_option maxRecDepth 10000 in
theorem pwr1_ct (p:ByteArray) (cb:Nat) (c_cells:List (ByteArray × ByteArray)) (c_cellsb:Nat) (c_inputs:List (ByteArray × ByteArray)) (c_inputsb:Nat) (c_names:List (Dthing × Bool)) (c_namesb:Nat) (hw:(mlook p c_cells).getD default=ByteArray.empty) :
    Ct Tryz.prog 87 #[tv p,pp cb 0] [] [.blk cb #[.map (some c_cellsb),.map (some c_inputsb),.map (some c_namesb)] 111,mp false false c_cells c_cellsb,mp false false c_inputs c_inputsb,mp false false c_names c_namesb] (fun g=>bv false) (fun g=>[]) (fun g=>[.blk cb #[.map (some c_cellsb),.map (some c_inputsb),.map (some c_namesb)] 111,mp true false c_cells c_cellsb,mp true false c_inputs c_inputsb,mp true false c_names c_namesb]) (fun g=>[]):=by
  refine V.fo mo Tryz.func87 10 0 fun w H ε k0=>?_;clear k0
  refine V.trm false c_cells c_cellsb 1 (by kernel_rfl) (fun _ _=>trivial) ?_;refine V.trm false c_inputs c_inputsb 2 (by kernel_rfl) (fun _ _=>trivial) ?_;refine V.trm false c_names c_namesb 3 (by kernel_rfl) (fun _ _=>trivial) ?_;refine V.g [.kb false] fun _ _ G1=>?_;intro S s
  refine nm ((mlook p c_cells).getD default:ByteArray) fun x1 hx1=>?_;refine nm ((mlook p c_cells).isSome:Bool) fun is1 his1=>?_;refine V.gf [.u 1,.l 0,.u 1,.lk 1 108 9 9 true false false c_cells (fun _=>c_cellsb) p x1 hx1 is1 his1 false,.cP 4 88 [] fun G=>pbare_ct x1 (by rw [hx1,hw];decide),.u 2] fun _ _ G2=>?_;intro S s
  have e0:(!(decide (Pc.bareP x1)))=false:=by rw [hx1,hw];exact (by rw [decide_eq_true Pc.bare_empty];rfl)
  exact V.rT [0] [] [] [] [] [0,1,2,3] (cong1 (fun (xz0:Bool)=>(bv xz0:Value)) e0)
set_option maxRecDepth 10000 in
theorem pwri_ct (s:List ByteArray) (ss:SV) (cb:Nat) (c_cells:List (ByteArray × ByteArray)) (c_cellsb:Nat) (c_inputs:List (ByteArray × ByteArray)) (c_inputsb:Nat) (c_names:List (Dthing × Bool)) (c_namesb:Nat) (hS:∀ x ∈ s,(mlook x c_cells).getD default=ByteArray.empty) :
    Ct Tryz.prog 128 #[ss.v,.func (.func 87) #[] #[pp cb 0]] [fs true s ss] [.blk cb #[.map (some c_cellsb),.map (some c_inputsb),.map (some c_namesb)] 111,mp false false c_cells c_cellsb,mp false false c_inputs c_inputsb,mp false false c_names c_namesb] (fun g=>iv (fidx (fun y:ByteArray=>false) s)) (fun g=>[]) (fun g=>[.blk cb #[.map (some c_cellsb),.map (some c_inputsb),.map (some c_namesb)] 111,mp true false c_cells c_cellsb,mp true false c_inputs c_inputsb,mp true false c_names c_namesb]) (fun g=>[]):=by
  refine V.fo mo Tryz.func128 19 0 fun w H ε k0=>?_;obtain ⟨⟨kl1, -⟩, -, -, -, -⟩:Lq s ss.v∧True∧True∧True∧True:=kq k0
  clear k0;refine V.trm false c_cells c_cellsb 1 (by kernel_rfl) (fun _ _=>trivial) ?_;refine V.trm false c_inputs c_inputsb 2 (by kernel_rfl) (fun _ _=>trivial) ?_;refine V.trm false c_names c_namesb 3 (by kernel_rfl) (fun _ _=>trivial) ?_;refine V.gf [.u 1] fun _ _ G1=>?_;intro S_ s_
  refine V.gf [.u 1,.ln (kF 0 s ss),.u 1] fun _ _ G2=>?_;intro S_ s_
  refine V.lp (γ:=Int) (fun k0=>⟨[(0,ss.v),(1,.func (.func 87) #[] #[pp cb 0]),(7,iv (s.length:Int)),(8,iv k0)],[fs false s ss],[.blk cb #[.map (some c_cellsb),.map (some c_inputsb),.map (some c_namesb)] 111,mp true false c_cells c_cellsb,mp true false c_inputs c_inputsb,mp true false c_names c_namesb]⟩) (fun k0=>(0≤k0)∧(k0≤(s.length:Int))∧(∀ j,j < k0.toNat→(fun y:ByteArray=>false) (s.getD j default)=false)) (fun k0=>((s.length:Int)-k0).toNat) 0 [0] ?_ ?_
  · refine ⟨?_,?_,?_⟩
    · show 0≤(0:Int)
      first | omega | rfl | (simp;done) | (subst_vars;simp;done)
    · show (0:Int)≤(s.length:Int)
      first | omega | rfl | (simp;done) | (subst_vars;simp;done)
    show ∀ j,j < (0:Int).toNat→(fun y:ByteArray=>false) (s.getD j default)=false;intro j hj;simp at hj
  rintro k0 hF1 kw3 Z1 hZ1;have hF1:(0≤k0)∧(k0≤(s.length:Int))∧(∀ j,j < k0.toNat→(fun y:ByteArray=>false) (s.getD j default)=false):=hF1;obtain ⟨hf1,hf2,hf3⟩:=hF1;clear kw3;refine V.gf [.u 1] fun _ _ G3=>?_;intro S_ s_;refine V.cn (b:=decide (k0 < (s.length:Int))) iDT iDF (fun q1=>?_) (fun q2=>?_)
  · refine V.gf [.u 2] fun _ _ G4=>?_;intro S_ s_
    refine nm (s.getD k0.toNat default:ByteArray) fun x1 hx1=>?_;refine V.gf [.u 3,.iX (kF 0 s ss) k0,.lE (kF 0 s ss) k0 false x1 hx1 false,.cB 5 87 false [0,1,2,3] [] [] fun G=>pwr1_ct x1 cb c_cells c_cellsb c_inputs c_inputsb c_names c_namesb (hS _ (getD_mem (by omega) hx1))] fun _ _ G5=>?_;intro S_ s_
    refine V.condF (by kernel_rfl) ?_;refine V.gf [.aa (k0+1),.u 1] fun _ _ G6=>?_;intro S_ s_
    refine V.rn hZ1 (k0+1) [0] ?_ ?_
    · refine ⟨?_,?_,?_⟩
      · show 0≤(k0+1)
        first | omega | rfl | (simp;done) | (subst_vars;simp;done)
      · show (k0+1)≤(s.length:Int)
        first | omega | rfl | (simp;done) | (subst_vars;simp;done)
      show ∀ j,j < (k0+1).toNat→(fun y:ByteArray=>false) (s.getD j default)=false;exact fidx_step (p:=(fun y:ByteArray=>false)) hf3 (by omega) hx1 rfl
    show ((s.length:Int)-(k0+1)).toNat < ((s.length:Int)-k0).toNat;omega
  refine V.gf [.u 1] fun _ _ G7=>?_;intro S_ s_
  have e0:(-1:Int)=fidx (fun y:ByteArray=>false) s:=(fidx_no fun j hj=>hf3 j (by omega)).symm;exact V.rT [0] [] [] [] [] [0,1,2,3] (cong1 (fun (xz0:Int)=>(iv xz0:Value)) e0)
theorem pwri_ctv (s:List ByteArray) (ss:SV) (cb:Nat) (c_cells:List (ByteArray × ByteArray)) (c_cellsb:Nat) (c_inputs:List (ByteArray × ByteArray)) (c_inputsb:Nat) (c_names:List (Dthing × Bool)) (c_namesb:Nat) (hS:∀ x ∈ s,(mlook x c_cells).getD default=ByteArray.empty) (rv0:Int) (erv0:rv0=fidx (fun y:ByteArray=>false) s) :
    Ct Tryz.prog 128 #[ss.v,.func (.func 87) #[] #[pp cb 0]] [fs true s ss] [.blk cb #[.map (some c_cellsb),.map (some c_inputsb),.map (some c_namesb)] 111,mp false false c_cells c_cellsb,mp false false c_inputs c_inputsb,mp false false c_names c_namesb] (fun g=>iv rv0) (fun g=>[]) (fun g=>[.blk cb #[.map (some c_cellsb),.map (some c_inputsb),.map (some c_namesb)] 111,mp true false c_cells c_cellsb,mp true false c_inputs c_inputsb,mp true false c_names c_namesb]) (fun g=>[]):=by
  subst erv0;exact pwri_ct s ss cb c_cells c_cellsb c_inputs c_inputsb c_names c_namesb hS
set_option maxRecDepth 10000 in
theorem pwrk_ct (s:List ByteArray) (ss:SV) (cb:Nat) (c_cells:List (ByteArray × ByteArray)) (c_cellsb:Nat) (c_inputs:List (ByteArray × ByteArray)) (c_inputsb:Nat) (c_names:List (Dthing × Bool)) (c_namesb:Nat) (hS:∀ x ∈ s,(mlook x c_cells).getD default=ByteArray.empty) :
    Ct Tryz.prog 86 #[ss.v,.func (.func 87) #[] #[pp cb 0]] [fs true s ss] [.blk cb #[.map (some c_cellsb),.map (some c_inputsb),.map (some c_namesb)] 111,mp false false c_cells c_cellsb,mp false false c_inputs c_inputsb,mp false false c_names c_namesb] (fun g=>bv (s.any (fun y:ByteArray=>false))) (fun g=>[]) (fun g=>[.blk cb #[.map (some c_cellsb),.map (some c_inputsb),.map (some c_namesb)] 111,mp true false c_cells c_cellsb,mp true false c_inputs c_inputsb,mp true false c_names c_namesb]) (fun g=>[]):=by
  refine V.fo mo Tryz.func86 9 0 fun w H ε k0=>?_;clear k0
  refine V.trm false c_cells c_cellsb 1 (by kernel_rfl) (fun _ _=>trivial) ?_;refine V.trm false c_inputs c_inputsb 2 (by kernel_rfl) (fun _ _=>trivial) ?_;refine V.trm false c_names c_namesb 3 (by kernel_rfl) (fun _ _=>trivial) ?_;refine V.g [.kb false] fun _ _ G1=>?_;intro S_ s_
  refine nm (fidx (fun y:ByteArray=>false) s:Int) fun n1 hn1=>?_;refine V.gf [.u 2,.cB 2 128 false [0,1,2,3] [] [kA 0 s ss] fun G=>pwri_ctv s ss cb c_cells c_cellsb c_inputs c_inputsb c_names c_namesb (by assumption) n1 hn1,.u 2] fun _ _ G2=>?_;intro S_ s_
  have e0:(decide (0≤n1))=s.any (fun y:ByteArray=>false):=by
    refine Bool.eq_iff_iff.2 (Iff.trans iDT (Iff.trans ?_ Iff.rfl));have hfi:=hn1;rw [hfi];exact fidx_nn
  exact V.rT [0] [] [] [] [] [0,1,2,3] (cong1 (fun (xz0:Bool)=>(bv xz0:Value)) e0)

open Go Go.Proofs
set_option maxRecDepth 10000 in
theorem pwrong_ct (c_cells:List (ByteArray × ByteArray)) (c_cellsb:Nat) (c_inputs:List (ByteArray × ByteArray)) (c_inputsb:Nat) (c_names:List (Dthing × Bool)) (c_namesb:Nat) (kind:ByteArray) (had:List (Dthing × Int)) (hadb:Nat) (m:Int) (a:List ByteArray) (j:SV) (c:List ByteArray) (k:SV) (d:ByteArray) (e:List ByteArray) (i:SV) (o:Int) (hok:Pc.okS c_cells c_inputs c_names kind had m a c d e=true) (hL:(a.length:Int)≤1000) (hL2:(c.length:Int)≤1000) (hk:m=0∨m=3∨m=7) :
    Ct Tryz.prog 50 #[.agg #[.map (some c_cellsb),.map (some c_inputsb),.map (some c_namesb)],tv kind,.map (some hadb),ag (DStep.mk m ⟨a,j⟩ ⟨c,k⟩ d ⟨e,i⟩ o)] [fs true a j,fs true c k,fs true e i] [mp false false c_cells c_cellsb,mp false false c_inputs c_inputsb,mp false false c_names c_namesb,mp false false had hadb] (fun g=>iv 0) (fun g=>[]) (fun g=>[mp true false c_cells c_cellsb,mp true false c_inputs c_inputsb,mp true false c_names c_namesb,mp true false had hadb]) (fun g=>[]):=by
  refine V.fo mo Tryz.func50 116 5 fun w H ε k0=>?_;obtain ⟨⟨kl1, -⟩,⟨kl2, -⟩,⟨kl3, -⟩, -, -, -, -, -⟩:Lq a j.v∧Lq c k.v∧Lq e i.v∧True∧True∧True∧True∧True:=kq k0
  clear k0;refine V.trm false c_cells c_cellsb 0 (by kernel_rfl) (fun _ _=>trivial) ?_;refine V.trm false c_inputs c_inputsb 1 (by kernel_rfl) (fun _ _=>trivial) ?_;refine V.trm false c_names c_namesb 2 (by kernel_rfl) (fun _ _=>trivial) ?_;refine V.trm false had hadb 3 (by kernel_rfl) (fun _ _=>trivial) ?_;obtain ⟨k1,k2,k3,k4,k5,k6,k7⟩:=Pc.okS_iff hok;have htl:=Pc.th_len m a c d;refine V.gf [.n 4,.n 5,.u 1] fun _ _ G1=>?_;intro S_ s_
  refine V.gf [.u 1,.l 5,.ln (kF 0 a j),.u 1] fun _ _ G2=>?_;intro S_ s_
  refine V.lp (γ:=Int) (fun k0=>⟨[(1,tv kind),(2,.map (some hadb)),(4,pp ((G1 0).b) 0),(7,pp ((G1 1).b) 0),(23,j.v),(24,iv (a.length:Int)),(25,iv k0)],[fs false a j,fs false c k,fs false e i],[mp true false c_cells c_cellsb,mp true false c_inputs c_inputsb,mp true false c_names c_namesb,mp true false had hadb,.blk ((G1 0).b) #[.map (some c_cellsb),.map (some c_inputsb),.map (some c_namesb)] 111,.blk ((G1 1).b) (ca (DStep.mk m ⟨a,j⟩ ⟨c,k⟩ d ⟨e,i⟩ o)) 39,.no,.no,.no]⟩) (fun k0=>(0≤k0)∧(k0≤(a.length:Int))) (fun k0=>((a.length:Int)-k0).toNat) 0 [0,1,2] ?_ ?_
  · refine ⟨?_,?_⟩
    · show 0≤(0:Int)
      first | omega | rfl | (simp;done) | (subst_vars;simp;done)
    show (0:Int)≤(a.length:Int)
    first | omega | rfl | (simp;done) | (subst_vars;simp;done)
  rintro k0 hF1 kw3 Z1 hZ1;have hF1:(0≤k0)∧(k0≤(a.length:Int)):=hF1;obtain ⟨hf1,hf2⟩:=hF1;clear kw3;refine V.gf [.u 1] fun _ _ G3=>?_;intro S_ s_;refine V.cn (b:=decide (k0 < (a.length:Int))) iDT iDF (fun q1=>?_) (fun q2=>?_)
  · refine nm (a.getD k0.toNat default:ByteArray) fun x1 hx1=>?_;refine V.gf [.iX (kF 0 a j) k0,.lE (kF 0 a j) k0 false x1 hx1 false,.u 1] fun _ _ G4=>?_;intro S_ s_
    refine nm ((mlook (Dthing.mk 1 x1) had).getD default:Int) fun x2 hx2=>?_;refine nm ((mlook (Dthing.mk 1 x1) had).isSome:Bool) fun is1 his1=>?_;refine V.gf [.u 3,.lk 3 114 120 3 true false true had (fun _=>hadb) (Dthing.mk 1 x1) x2 hx2 is1 his1 false,.u 5] fun _ _ G5=>?_;intro S_ s_
    refine V.gf [.u 2] fun _ _ G6=>?_;intro S_ s_
    refine V.cn (b:=!is1) (iNT Iff.rfl) (iNF Iff.rfl) (fun q3=>?_) (fun q4=>?_)
    · have hqq:=q3;have h2:is1=true:=(by rw [his1];exact k1 _ (getD_mem (by omega) hx1));rw [h2] at hqq;cases hqq
    refine V.gf [.aa (k0+1),.u 1] fun _ _ G7=>?_;intro S_ s_
    refine V.rn hZ1 (k0+1) [0,1,2] ?_ ?_
    · refine ⟨?_,?_⟩
      · show 0≤(k0+1)
        first | omega | rfl | (simp;done) | (subst_vars;simp;done)
      show (k0+1)≤(a.length:Int)
      first | omega | rfl | (simp;done) | (subst_vars;simp;done)
    show ((a.length:Int)-(k0+1)).toNat < ((a.length:Int)-k0).toNat;omega
  refine V.gf [.u 1,.l 5,.ln (kF 2 e i),.u 1] fun _ _ G8=>?_;intro S_ s_
  refine V.lp (γ:=Int) (fun k1=>⟨[(1,tv kind),(2,.map (some hadb)),(4,pp ((G1 0).b) 0),(7,pp ((G1 1).b) 0),(40,i.v),(41,iv (e.length:Int)),(42,iv k1)],[fs false e i,fs false a j,fs false c k],[mp true false c_cells c_cellsb,mp true false c_inputs c_inputsb,mp true false c_names c_namesb,mp true false had hadb,.blk ((G1 0).b) #[.map (some c_cellsb),.map (some c_inputsb),.map (some c_namesb)] 111,.blk ((G1 1).b) (ca (DStep.mk m ⟨a,j⟩ ⟨c,k⟩ d ⟨e,i⟩ o)) 39,.no,.no,.no]⟩) (fun k1=>(0≤k1)∧(k1≤(e.length:Int))) (fun k1=>((e.length:Int)-k1).toNat) 0 [2,0,1] ?_ ?_
  · refine ⟨?_,?_⟩
    · show 0≤(0:Int)
      first | omega | rfl | (simp;done) | (subst_vars;simp;done)
    show (0:Int)≤(e.length:Int)
    first | omega | rfl | (simp;done) | (subst_vars;simp;done)
  rintro k1 hF2 kw10 Z2 hZ2;have hF2:(0≤k1)∧(k1≤(e.length:Int)):=hF2;obtain ⟨hf3,hf4⟩:=hF2;clear kw10;refine V.gf [.u 1] fun _ _ G9=>?_;intro S_ s_;refine V.cn (b:=decide (k1 < (e.length:Int))) iDT iDF (fun q5=>?_) (fun q6=>?_)
  · refine nm (e.getD k1.toNat default:ByteArray) fun x3 hx3=>?_;refine V.gf [.iX (kF 0 e i) k1,.lE (kF 0 e i) k1 false x3 hx3 false,.u 1] fun _ _ G10=>?_;intro S_ s_
    refine nm ((mlook x3 c_cells).getD default:ByteArray) fun x4 hx4=>?_;refine nm ((mlook x3 c_cells).isSome:Bool) fun is2 his2=>?_;refine V.gf [.u 1,.l 4,.u 1,.lk 0 108 9 9 true false true c_cells (fun _=>c_cellsb) x3 x4 hx4 is2 his2 false,.u 5] fun _ _ G11=>?_;intro S_ s_
    refine V.gf [.u 2] fun _ _ G12=>?_;intro S_ s_
    refine V.cn (b:=!is2) (iNT Iff.rfl) (iNF Iff.rfl) (fun q7=>?_) (fun q8=>?_)
    · have hqq:=q7;have h2:is2=true:=(by rw [his2];exact k2 _ (getD_mem (by omega) hx3));rw [h2] at hqq;cases hqq
    refine V.gf [.aa (k1+1),.u 1] fun _ _ G13=>?_;intro S_ s_
    refine V.rn hZ2 (k1+1) [0,1,2] ?_ ?_
    · refine ⟨?_,?_⟩
      · show 0≤(k1+1)
        first | omega | rfl | (simp;done) | (subst_vars;simp;done)
      show (k1+1)≤(e.length:Int)
      first | omega | rfl | (simp;done) | (subst_vars;simp;done)
    show ((e.length:Int)-(k1+1)).toNat < ((e.length:Int)-k1).toNat;omega
  refine nm ((!(decide (d=ByteArray.empty))) && (!(decide (m=7))):Bool) fun p1 hp1=>?_;refine nm ((mlook (Dthing.mk m d) c_names).getD default:Bool) fun x5 hx5=>?_;refine nm ((mlook (Dthing.mk m d) c_names).isSome:Bool) fun is3 his3=>?_;refine V.gf [.u 1,.l 5,.sne d ByteArray.empty,.u 2,.l 5,.u 1,.andn g0 false (!(decide (d=ByteArray.empty))) (!(decide (m=7))) p1 hp1,.u 2,.l 4,.u 1,.l 5,.u 1,.l 5,.u 1,.lk 2 109 120 4 true false false c_names (fun _=>c_namesb) (Dthing.mk m d) x5 hx5 is3 his3 false,.u 1,.and g0 false p1 (!x5)] fun _ _ G14=>?_;intro S_ s_
  refine V.cn (b:=p1 && (!x5)) (iAT (iN hp1 (iAT (iNT iDF) (iNT iDF))) (iNT Iff.rfl)) (iAF (iN hp1 (iAF (iNF iDT) (iNF iDT))) (iNF Iff.rfl)) (fun q9=>?_) (fun q10=>?_)
  · have hqq:=q9;rcases k3 with h | h | h;exact absurd h hqq.1.1;exact absurd h hqq.1.2;have h2:x5=true:=(by rw [hx5];exact h);rw [h2] at hqq;exact absurd hqq.2 (by decide)
  rcases (hk:m=0∨m=3∨m=7) with rfl | rfl | rfl
  · refine nm ((mlook d c_inputs).getD default:ByteArray) fun x6 hx6=>?_;refine nm ((mlook d c_inputs).isSome:Bool) fun is4 his4=>?_;refine V.gf [.u 1,.l 5,.kb true,.kb true,.u 1,.l 4,.u 1,.l 5,.lk 1 108 9 9 true false false c_inputs (fun _=>c_inputsb) d x6 hx6 is4 his4 false,.u 1,.eb (.bool (!(x6.toList == kind.toList))) false (by rw [toList_bytes,decide_eq_true (show x6=kind by rw [hx6];exact k4 rfl)];rfl),.kb false,.kb false,.u 1,.l 5,.u 1,.cB 16 86 false [4,0,1,2] [] [kA 0 e i] fun G=>pwrk_ct e i ((G1 0).b) c_cells c_cellsb c_inputs c_inputsb c_names c_namesb k5,.u 1] fun _ _ G15=>?_;intro S_ s_
    refine V.cn (b:=e.any (fun y:ByteArray=>false)) Iff.rfl Iff.rfl (fun q11=>?_) (fun q12=>?_)
    · have hqq:=q11;simp at hqq
    refine V.gf [.mm Dthing Bool 0 6 false,.u 1] fun _ _ G16=>?_;intro S_ s_
    refine V.gf [.l 5,.cB 1 52 false [] [7] [kA 1 a j,kA 2 c k,kA 0 e i] fun G=>pthg_ct (0:Int) a j c k d e i o hL hL2 (by omega),.ln (ko true 120 7 (Pc.things (0:Int) a c d) (fun G=>(G 1).ss 0)),.u 1] fun _ _ G17=>?_;intro S_ s_
    refine V.lp (γ:=Int × List (Dthing × Bool)) (fun ⟨k2,m6⟩=>⟨[(2,.map (some hadb)),(17,.map (some ((G16 0).b))),(95,((G17 1).ss 0).v),(96,iv ((Pc.things (0:Int) a c d).length:Int)),(97,iv k2)],[fs false a j,fs false c k,fs false e i],[mp true false c_cells c_cellsb,mp true false c_inputs c_inputsb,mp true false c_names c_namesb,mp true false had hadb,.blk ((G1 0).b) #[.map (some c_cellsb),.map (some c_inputsb),.map (some c_namesb)] 111,.blk ((G1 1).b) (ca (DStep.mk 0 ⟨a,j⟩ ⟨c,k⟩ d ⟨e,i⟩ o)) 39,mp true false m6 ((G16 0).b),os true 120 (Pc.things (0:Int) a c d) ((G17 1).ss 0),.no]⟩) (fun ⟨k2,m6⟩=>(0≤k2)∧(k2≤((Pc.things (0:Int) a c d).length:Int))∧(m6=Pc.puts [] (((Pc.things (0:Int) a c d).take k2.toNat).map fun y=>(y,true)))) (fun ⟨k2,m6⟩=>(((Pc.things (0:Int) a c d).length:Int)-k2).toNat) (0,([]:List (Dthing × Bool))) [1,2,0] ?_ ?_
    · refine ⟨?_,?_,?_⟩
      · show 0≤(0:Int)
        first | omega | rfl | (simp;done) | (subst_vars;simp;done)
      · show (0:Int)≤((Pc.things (0:Int) a c d).length:Int)
        first | omega | rfl | (simp;done) | (subst_vars;simp;done)
      show ([]:List (Dthing × Bool))=Pc.puts [] (((Pc.things (0:Int) a c d).take (0:Int).toNat).map fun y=>(y,true));rfl
    rintro ⟨k2,m6⟩ hF3 kw20 Z3 hZ3;have hF3:(0≤k2)∧(k2≤((Pc.things (0:Int) a c d).length:Int))∧(m6=Pc.puts [] (((Pc.things (0:Int) a c d).take k2.toNat).map fun y=>(y,true))):=hF3;obtain ⟨hf5,hf6,hf7⟩:=hF3;clear kw20;refine V.gf [.u 1] fun _ _ G18=>?_;intro S_ s_;refine V.cn (b:=decide (k2 < ((Pc.things (0:Int) a c d).length:Int))) iDT iDF (fun q13=>?_) (fun q14=>?_)
    · refine nm ((Pc.things (0:Int) a c d).getD k2.toNat default:Dthing) fun x7 hx7=>?_;refine V.gf [.iX (kO 120 7 (Pc.things (0:Int) a c d) ((G17 1).ss 0)) k2,.lE (kO 120 7 (Pc.things (0:Int) a c d) ((G17 1).ss 0)) k2 false x7 hx7 true,.n 8,.s 8] fun _ _ G19=>?_;intro S_ s_
      refine nm ((mlook x7 had).getD default:Int) fun x8 hx8=>?_;refine nm ((mlook x7 had).isSome:Bool) fun is5 his5=>?_;refine V.gf [.u 1,.l 8,.lk 3 114 120 3 true false true had (fun _=>hadb) x7 x8 hx8 is5 his5 false,.u 5] fun _ _ G20=>?_;intro S_ s_
      refine nm ((mlook x7 m6).getD default:Bool) fun x9 hx9=>?_;refine nm ((mlook x7 m6).isSome:Bool) fun is6 his6=>?_;refine V.gf [.u 3,.l 8,.lk 6 109 120 4 true false false m6 (fun _=>(G16 0).b) x7 x9 hx9 is6 his6 false,.or g0 false is5 x9] fun _ _ G21=>?_;intro S_ s_
      refine V.cn (b:=is5 || x9) (iOT Iff.rfl Iff.rfl) (iOF Iff.rfl Iff.rfl) (fun q15=>?_) (fun q16=>?_)
      · have hqq:=q15;rcases hqq with h | h;rw [his5,k6 _ (getD_mem (by omega) hx7)] at h;cases h;rw [hx9,hf7,Pc.seen_no k7 (by omega) (by omega) hx7] at h;cases h
      refine nm (mupd x7 true m6:List (Dthing × Bool)) fun m1 hm1=>?_;refine V.gf [.u 1,.l 8,.mu 2 6 109 120 4 true false m6 (fun _=>(G16 0).b) x7 true m1 hm1 true (fun _=>rfl) [] (fun _ _ _=>trivial)] fun _ _ G22=>?_;intro S_ s_
      refine V.gf [.aa (k2+1),.u 1] fun _ _ G23=>?_;intro S_ s_
      refine V.rn hZ3 (k2+1,m1) [0,1,2] ?_ ?_
      · refine ⟨?_,?_,?_⟩
        · show 0≤(k2+1);omega
        · show (k2+1)≤((Pc.things (0:Int) a c d).length:Int);omega
        show m1=Pc.puts [] (((Pc.things (0:Int) a c d).take (k2+1).toNat).map fun y=>(y,true));have hus:=Pc.puts_step (f:=fun y:Dthing=>(y,true)) hf7 (by omega) (by omega) hx7
        subst_vars;exact hus
      show (((Pc.things (0:Int) a c d).length:Int)-(k2+1)).toNat < (((Pc.things (0:Int) a c d).length:Int)-k2).toNat;omega
    refine V.gf [.u 1] fun _ _ G24=>?_;intro S_ s_
    exact V.rS [0] [] [] [] [] [0,1,2,3]
  · refine V.gf [.u 1,.l 5,.kb false,.kb false,.dead,.dead,.dead,.dead,.dead,.dead,.dead,.kb false,.kb false,.u 1,.l 5,.u 1,.cB 16 86 false [4,0,1,2] [] [kA 0 e i] fun G=>pwrk_ct e i ((G1 0).b) c_cells c_cellsb c_inputs c_inputsb c_names c_namesb k5,.u 1] fun _ _ G25=>?_;intro S_ s_
    refine V.cn (b:=e.any (fun y:ByteArray=>false)) Iff.rfl Iff.rfl (fun q17=>?_) (fun q18=>?_)
    · have hqq:=q17;simp at hqq
    refine V.gf [.mm Dthing Bool 0 6 false,.u 1] fun _ _ G26=>?_;intro S_ s_
    refine V.gf [.l 5,.cB 1 52 false [] [7] [kA 1 a j,kA 2 c k,kA 0 e i] fun G=>pthg_ct (3:Int) a j c k d e i o hL hL2 (by omega),.ln (ko true 120 7 (Pc.things (3:Int) a c d) (fun G=>(G 1).ss 0)),.u 1] fun _ _ G27=>?_;intro S_ s_
    refine V.lp (γ:=Int × List (Dthing × Bool)) (fun ⟨k2_1,m6_1⟩=>⟨[(2,.map (some hadb)),(17,.map (some ((G26 0).b))),(95,((G27 1).ss 0).v),(96,iv ((Pc.things (3:Int) a c d).length:Int)),(97,iv k2_1)],[fs false a j,fs false c k,fs false e i],[mp true false c_cells c_cellsb,mp true false c_inputs c_inputsb,mp true false c_names c_namesb,mp true false had hadb,.blk ((G1 0).b) #[.map (some c_cellsb),.map (some c_inputsb),.map (some c_namesb)] 111,.blk ((G1 1).b) (ca (DStep.mk 3 ⟨a,j⟩ ⟨c,k⟩ d ⟨e,i⟩ o)) 39,mp true false m6_1 ((G26 0).b),os true 120 (Pc.things (3:Int) a c d) ((G27 1).ss 0),.no]⟩) (fun ⟨k2_1,m6_1⟩=>(0≤k2_1)∧(k2_1≤((Pc.things (3:Int) a c d).length:Int))∧(m6_1=Pc.puts [] (((Pc.things (3:Int) a c d).take k2_1.toNat).map fun y=>(y,true)))) (fun ⟨k2_1,m6_1⟩=>(((Pc.things (3:Int) a c d).length:Int)-k2_1).toNat) (0,([]:List (Dthing × Bool))) [1,2,0] ?_ ?_
    · refine ⟨?_,?_,?_⟩
      · show 0≤(0:Int)
        first | omega | rfl | (simp;done) | (subst_vars;simp;done)
      · show (0:Int)≤((Pc.things (3:Int) a c d).length:Int)
        first | omega | rfl | (simp;done) | (subst_vars;simp;done)
      show ([]:List (Dthing × Bool))=Pc.puts [] (((Pc.things (3:Int) a c d).take (0:Int).toNat).map fun y=>(y,true));rfl
    rintro ⟨k2_1,m6_1⟩ hF4 kw31 Z4 hZ4;have hF4:(0≤k2_1)∧(k2_1≤((Pc.things (3:Int) a c d).length:Int))∧(m6_1=Pc.puts [] (((Pc.things (3:Int) a c d).take k2_1.toNat).map fun y=>(y,true))):=hF4;obtain ⟨hf8,hf9,hf10⟩:=hF4;clear kw31;refine V.gf [.u 1] fun _ _ G28=>?_;intro S_ s_;refine V.cn (b:=decide (k2_1 < ((Pc.things (3:Int) a c d).length:Int))) iDT iDF (fun q19=>?_) (fun q20=>?_)
    · refine nm ((Pc.things (3:Int) a c d).getD k2_1.toNat default:Dthing) fun x10 hx10=>?_;refine V.gf [.iX (kO 120 7 (Pc.things (3:Int) a c d) ((G27 1).ss 0)) k2_1,.lE (kO 120 7 (Pc.things (3:Int) a c d) ((G27 1).ss 0)) k2_1 false x10 hx10 true,.n 8,.s 8] fun _ _ G29=>?_;intro S_ s_
      refine nm ((mlook x10 had).getD default:Int) fun x11 hx11=>?_;refine nm ((mlook x10 had).isSome:Bool) fun is7 his7=>?_;refine V.gf [.u 1,.l 8,.lk 3 114 120 3 true false true had (fun _=>hadb) x10 x11 hx11 is7 his7 false,.u 5] fun _ _ G30=>?_;intro S_ s_
      refine nm ((mlook x10 m6_1).getD default:Bool) fun x12 hx12=>?_;refine nm ((mlook x10 m6_1).isSome:Bool) fun is8 his8=>?_;refine V.gf [.u 3,.l 8,.lk 6 109 120 4 true false false m6_1 (fun _=>(G26 0).b) x10 x12 hx12 is8 his8 false,.or g0 false is7 x12] fun _ _ G31=>?_;intro S_ s_
      refine V.cn (b:=is7 || x12) (iOT Iff.rfl Iff.rfl) (iOF Iff.rfl Iff.rfl) (fun q21=>?_) (fun q22=>?_)
      · have hqq:=q21;rcases hqq with h | h;rw [his7,k6 _ (getD_mem (by omega) hx10)] at h;cases h;rw [hx12,hf10,Pc.seen_no k7 (by omega) (by omega) hx10] at h;cases h
      refine nm (mupd x10 true m6_1:List (Dthing × Bool)) fun m2 hm2=>?_;refine V.gf [.u 1,.l 8,.mu 2 6 109 120 4 true false m6_1 (fun _=>(G26 0).b) x10 true m2 hm2 true (fun _=>rfl) [] (fun _ _ _=>trivial)] fun _ _ G32=>?_;intro S_ s_
      refine V.gf [.aa (k2_1+1),.u 1] fun _ _ G33=>?_;intro S_ s_
      refine V.rn hZ4 (k2_1+1,m2) [0,1,2] ?_ ?_
      · refine ⟨?_,?_,?_⟩
        · show 0≤(k2_1+1);omega
        · show (k2_1+1)≤((Pc.things (3:Int) a c d).length:Int);omega
        show m2=Pc.puts [] (((Pc.things (3:Int) a c d).take (k2_1+1).toNat).map fun y=>(y,true));have hus:=Pc.puts_step (f:=fun y:Dthing=>(y,true)) hf10 (by omega) (by omega) hx10
        subst_vars;exact hus
      show (((Pc.things (3:Int) a c d).length:Int)-(k2_1+1)).toNat < (((Pc.things (3:Int) a c d).length:Int)-k2_1).toNat;omega
    refine V.gf [.u 1] fun _ _ G34=>?_;intro S_ s_
    exact V.rS [0] [] [] [] [] [0,1,2,3]
  refine V.gf [.u 1,.l 5,.kb false,.kb false,.dead,.dead,.dead,.dead,.dead,.dead,.dead,.kb false,.kb false,.u 1,.l 5,.u 1,.cB 16 86 false [4,0,1,2] [] [kA 0 e i] fun G=>pwrk_ct e i ((G1 0).b) c_cells c_cellsb c_inputs c_inputsb c_names c_namesb k5,.u 1] fun _ _ G35=>?_;intro S_ s_
  refine V.cn (b:=e.any (fun y:ByteArray=>false)) Iff.rfl Iff.rfl (fun q23=>?_) (fun q24=>?_)
  · have hqq:=q23;simp at hqq
  refine V.gf [.mm Dthing Bool 0 6 false,.u 1] fun _ _ G36=>?_;intro S_ s_
  refine V.gf [.l 5,.cB 1 52 false [] [7] [kA 1 a j,kA 2 c k,kA 0 e i] fun G=>pthg_ct (7:Int) a j c k d e i o hL hL2 (by omega),.ln (ko true 120 7 (Pc.things (7:Int) a c d) (fun G=>(G 1).ss 0)),.u 1] fun _ _ G37=>?_;intro S_ s_
  refine V.lp (γ:=Int × List (Dthing × Bool)) (fun ⟨k2_2,m6_2⟩=>⟨[(2,.map (some hadb)),(17,.map (some ((G36 0).b))),(95,((G37 1).ss 0).v),(96,iv ((Pc.things (7:Int) a c d).length:Int)),(97,iv k2_2)],[fs false a j,fs false c k,fs false e i],[mp true false c_cells c_cellsb,mp true false c_inputs c_inputsb,mp true false c_names c_namesb,mp true false had hadb,.blk ((G1 0).b) #[.map (some c_cellsb),.map (some c_inputsb),.map (some c_namesb)] 111,.blk ((G1 1).b) (ca (DStep.mk 7 ⟨a,j⟩ ⟨c,k⟩ d ⟨e,i⟩ o)) 39,mp true false m6_2 ((G36 0).b),os true 120 (Pc.things (7:Int) a c d) ((G37 1).ss 0),.no]⟩) (fun ⟨k2_2,m6_2⟩=>(0≤k2_2)∧(k2_2≤((Pc.things (7:Int) a c d).length:Int))∧(m6_2=Pc.puts [] (((Pc.things (7:Int) a c d).take k2_2.toNat).map fun y=>(y,true)))) (fun ⟨k2_2,m6_2⟩=>(((Pc.things (7:Int) a c d).length:Int)-k2_2).toNat) (0,([]:List (Dthing × Bool))) [1,2,0] ?_ ?_
  · refine ⟨?_,?_,?_⟩
    · show 0≤(0:Int)
      first | omega | rfl | (simp;done) | (subst_vars;simp;done)
    · show (0:Int)≤((Pc.things (7:Int) a c d).length:Int)
      first | omega | rfl | (simp;done) | (subst_vars;simp;done)
    show ([]:List (Dthing × Bool))=Pc.puts [] (((Pc.things (7:Int) a c d).take (0:Int).toNat).map fun y=>(y,true));rfl
  rintro ⟨k2_2,m6_2⟩ hF5 kw42 Z5 hZ5;have hF5:(0≤k2_2)∧(k2_2≤((Pc.things (7:Int) a c d).length:Int))∧(m6_2=Pc.puts [] (((Pc.things (7:Int) a c d).take k2_2.toNat).map fun y=>(y,true))):=hF5;obtain ⟨hf11,hf12,hf13⟩:=hF5;clear kw42;refine V.gf [.u 1] fun _ _ G38=>?_;intro S_ s_;refine V.cn (b:=decide (k2_2 < ((Pc.things (7:Int) a c d).length:Int))) iDT iDF (fun q25=>?_) (fun q26=>?_)
  · refine nm ((Pc.things (7:Int) a c d).getD k2_2.toNat default:Dthing) fun x13 hx13=>?_;refine V.gf [.iX (kO 120 7 (Pc.things (7:Int) a c d) ((G37 1).ss 0)) k2_2,.lE (kO 120 7 (Pc.things (7:Int) a c d) ((G37 1).ss 0)) k2_2 false x13 hx13 true,.n 8,.s 8] fun _ _ G39=>?_;intro S_ s_
    refine nm ((mlook x13 had).getD default:Int) fun x14 hx14=>?_;refine nm ((mlook x13 had).isSome:Bool) fun is9 his9=>?_;refine V.gf [.u 1,.l 8,.lk 3 114 120 3 true false true had (fun _=>hadb) x13 x14 hx14 is9 his9 false,.u 5] fun _ _ G40=>?_;intro S_ s_
    refine nm ((mlook x13 m6_2).getD default:Bool) fun x15 hx15=>?_;refine nm ((mlook x13 m6_2).isSome:Bool) fun is10 his10=>?_;refine V.gf [.u 3,.l 8,.lk 6 109 120 4 true false false m6_2 (fun _=>(G36 0).b) x13 x15 hx15 is10 his10 false,.or g0 false is9 x15] fun _ _ G41=>?_;intro S_ s_
    refine V.cn (b:=is9 || x15) (iOT Iff.rfl Iff.rfl) (iOF Iff.rfl Iff.rfl) (fun q27=>?_) (fun q28=>?_)
    · have hqq:=q27;rcases hqq with h | h;rw [his9,k6 _ (getD_mem (by omega) hx13)] at h;cases h;rw [hx15,hf13,Pc.seen_no k7 (by omega) (by omega) hx13] at h;cases h
    refine nm (mupd x13 true m6_2:List (Dthing × Bool)) fun m3 hm3=>?_;refine V.gf [.u 1,.l 8,.mu 2 6 109 120 4 true false m6_2 (fun _=>(G36 0).b) x13 true m3 hm3 true (fun _=>rfl) [] (fun _ _ _=>trivial)] fun _ _ G42=>?_;intro S_ s_
    refine V.gf [.aa (k2_2+1),.u 1] fun _ _ G43=>?_;intro S_ s_
    refine V.rn hZ5 (k2_2+1,m3) [0,1,2] ?_ ?_
    · refine ⟨?_,?_,?_⟩
      · show 0≤(k2_2+1);omega
      · show (k2_2+1)≤((Pc.things (7:Int) a c d).length:Int);omega
      show m3=Pc.puts [] (((Pc.things (7:Int) a c d).take (k2_2+1).toNat).map fun y=>(y,true));have hus:=Pc.puts_step (f:=fun y:Dthing=>(y,true)) hf13 (by omega) (by omega) hx13
      subst_vars;exact hus
    show (((Pc.things (7:Int) a c d).length:Int)-(k2_2+1)).toNat < (((Pc.things (7:Int) a c d).length:Int)-k2_2).toNat;omega
  refine V.gf [.u 1] fun _ _ G44=>?_;intro S_ s_
  exact V.rS [0] [] [] [] [] [0,1,2,3]

open Go Go.Proofs
set_option maxRecDepth 10000 in
theorem pgp1_ct (kind:Int) (name:ByteArray) (hadpb:Nat) (hadp:List (Dthing × Int)) (hadpmb:Nat) (hh:(mlook (Pc.th (2+kind) name) hadp).isSome=true) (hk:0≤kind∧kind < 9) :
    Ct Tryz.prog 89 #[iv kind,tv name,pp hadpb 0] [] [.blk hadpb #[.map (some hadpmb)] 114,mp false false hadp hadpmb] (fun g=>bv false) (fun g=>[]) (fun g=>[.blk hadpb #[.map (some hadpmb)] 114,mp true false hadp hadpmb]) (fun g=>[]):=by
  refine V.fo mo Tryz.func89 19 0 fun w H ε k0=>?_;clear k0
  refine V.trm false hadp hadpmb 1 (by kernel_rfl) (fun _ _=>trivial) ?_;refine V.g [.kb false] fun _ _ G1=>?_;intro S s
  refine nm ((mlook (Dthing.mk (2+kind) name) hadp).getD default:Int) fun x1 hx1=>?_;refine nm ((mlook (Dthing.mk (2+kind) name) hadp).isSome:Bool) fun is1 his1=>?_;refine V.gf [.l 0,.u 1,.aa (2+kind),.u 2,.lk 1 114 120 3 true false true hadp (fun _=>hadpmb) (Dthing.mk (2+kind) name) x1 hx1 is1 his1 false,.u 5] fun _ _ G2=>?_;intro S s
  refine V.gf [.u 3] fun _ _ G3=>?_;intro S s
  have e0:(!is1)=false:=by
    have h2:is1=true:=by rw [his1];exact hh
    rw [h2];rfl
  exact V.rT [0] [] [] [] [] [0,1] (cong1 (fun (xz0:Bool)=>(bv xz0:Value)) e0)
set_option maxRecDepth 10000 in
theorem pgp2_ct (c f b:ByteArray) (rb:Nat) (a:ByteArray) (d:List DStep) (e:SV) (mb hadpb:Nat) (hadp:List (Dthing × Int)) (hadpmb:Nat) (hK:b=a) (hh:(mlook (Pc.th 2 c) hadp).isSome=true) :
    Ct Tryz.prog 91 #[ag (DInput.mk c f b),pp rb 0,pp mb 0] [fs true d e] [.blk rb (ca (DRecipe.mk a ⟨d,e⟩)) 57,.blk mb #[.func (.func 89) #[] #[pp hadpb 0]] 165,.blk hadpb #[.map (some hadpmb)] 114,mp false false hadp hadpmb] (fun g=>bv false) (fun g=>[]) (fun g=>[.blk rb (ca (DRecipe.mk a ⟨d,e⟩)) 57,.blk mb #[.func (.func 89) #[] #[pp hadpb 0]] 165,.blk hadpb #[.map (some hadpmb)] 114,mp true false hadp hadpmb]) (fun g=>[]):=by
  refine V.fo mo Tryz.func91 16 1 fun w H ε k0=>?_;clear k0
  refine V.trm false hadp hadpmb 3 (by kernel_rfl) (fun _ _=>trivial) ?_;refine V.gf [.n 4,.kb false] fun _ _ G1=>?_;intro S s
  refine V.gf [.u 1,.l 4,.u 1,.l 0,.eb (.bool (b.toList == a.toList)) true (by rw [toList_bytes,decide_eq_true (show b=a from hK)]),.kb true,.l 1,.u 1,.l 4,.cB 9 89 false [2,3] [] [] fun G=>pgp1_ct (0:Int) c hadpb hadp hadpmb hh (by omega),.kb false,.kb false] fun _ _ G2=>?_;intro S s
  exact V.rS [0] [] [] [] [] [0,1,2,3]
set_option maxRecDepth 10000 in
theorem pgii_ct (s:List DInput) (ss:SV) (rb:Nat) (d:ByteArray) (a:List DStep) (c:SV) (mb hadpb:Nat) (hadp:List (Dthing × Int)) (hadpmb:Nat) (hS:∀ y ∈ s,y.Kind=d∧(mlook (Pc.th 2 y.Name) hadp).isSome=true) :
    Ct Tryz.prog 108 #[ss.v,.func (.func 91) #[] #[pp rb 0,pp mb 0]] [fs true s ss,fs true a c] [.blk rb (ca (DRecipe.mk d ⟨a,c⟩)) 57,.blk mb #[.func (.func 89) #[] #[pp hadpb 0]] 165,.blk hadpb #[.map (some hadpmb)] 114,mp false false hadp hadpmb] (fun g=>iv (-1)) (fun g=>[]) (fun g=>[.blk rb (ca (DRecipe.mk d ⟨a,c⟩)) 57,.blk mb #[.func (.func 89) #[] #[pp hadpb 0]] 165,.blk hadpb #[.map (some hadpmb)] 114,mp true false hadp hadpmb]) (fun g=>[]):=by
  refine V.fo mo Tryz.func108 19 0 fun w H ε k0=>?_;obtain ⟨⟨kl1, -⟩,⟨kl2, -⟩, -, -⟩:Lq s ss.v∧Lq a c.v∧True∧True:=kq k0
  clear k0;refine V.trm false hadp hadpmb 3 (by kernel_rfl) (fun _ _=>trivial) ?_;refine V.gf [.u 1] fun _ _ G1=>?_;intro S_ s_
  refine V.gf [.u 1,.ln (kF 0 s ss),.u 1] fun _ _ G2=>?_;intro S_ s_
  refine V.lp (γ:=Int) (fun k0=>⟨[(0,ss.v),(1,.func (.func 91) #[] #[pp rb 0,pp mb 0]),(7,iv (s.length:Int)),(8,iv k0)],[fs false s ss,fs false a c],[.blk rb (ca (DRecipe.mk d ⟨a,c⟩)) 57,.blk mb #[.func (.func 89) #[] #[pp hadpb 0]] 165,.blk hadpb #[.map (some hadpmb)] 114,mp true false hadp hadpmb]⟩) (fun k0=>(0≤k0)∧(k0≤(s.length:Int))) (fun k0=>((s.length:Int)-k0).toNat) 0 [0,1] ?_ ?_
  · refine ⟨?_,?_⟩
    · show 0≤(0:Int)
      first | omega | rfl | (simp;done) | (subst_vars;simp;done)
    show (0:Int)≤(s.length:Int)
    first | omega | rfl | (simp;done) | (subst_vars;simp;done)
  rintro k0 hF1 kw3 Z1 hZ1;have hF1:(0≤k0)∧(k0≤(s.length:Int)):=hF1;obtain ⟨hf1,hf2⟩:=hF1;clear kw3;refine V.gf [.u 1] fun _ _ G3=>?_;intro S_ s_;refine V.cn (b:=decide (k0 < (s.length:Int))) iDT iDF (fun q1=>?_) (fun q2=>?_)
  · refine V.gf [.u 2] fun _ _ G4=>?_;intro S_ s_
    refine nm (s.getD k0.toNat default:DInput) fun x1 hx1=>?_;refine V.gf [.u 3,.iX (kF 0 s ss) k0,.lE (kF 0 s ss) k0 false x1 hx1 true,.cB 5 91 false [0,1,2,3] [] [kA 1 a c] fun G=>pgp2_ct x1.Name x1.Unit x1.Kind rb d a c mb hadpb hadp hadpmb (hS _ (getD_mem (by omega) hx1)).1 (hS _ (getD_mem (by omega) hx1)).2] fun _ _ G5=>?_;intro S_ s_
    refine V.condF (by kernel_rfl) ?_;refine V.gf [.aa (k0+1),.u 1] fun _ _ G6=>?_;intro S_ s_
    refine V.rn hZ1 (k0+1) [0,1] ?_ ?_
    · refine ⟨?_,?_⟩
      · show 0≤(k0+1)
        first | omega | rfl | (simp;done) | (subst_vars;simp;done)
      show (k0+1)≤(s.length:Int)
      first | omega | rfl | (simp;done) | (subst_vars;simp;done)
    show ((s.length:Int)-(k0+1)).toNat < ((s.length:Int)-k0).toNat;omega
  refine V.gf [.u 1] fun _ _ G7=>?_;intro S_ s_
  have e0:(-1:Int)= -1:=by first | rfl | omega | simp_all
  exact V.rT [0] [] [] [] [] [0,1,2,3] (cong1 (fun (xz0:Int)=>(iv xz0:Value)) e0)
set_option maxRecDepth 10000 in
theorem pgik_ct (s:List DInput) (ss:SV) (rb:Nat) (c:ByteArray) (a:List DStep) (b:SV) (mb hadpb:Nat) (hadp:List (Dthing × Int)) (hadpmb:Nat) (hS:∀ y ∈ s,y.Kind=c∧(mlook (Pc.th 2 y.Name) hadp).isSome=true) :
    Ct Tryz.prog 90 #[ss.v,.func (.func 91) #[] #[pp rb 0,pp mb 0]] [fs true s ss,fs true a b] [.blk rb (ca (DRecipe.mk c ⟨a,b⟩)) 57,.blk mb #[.func (.func 89) #[] #[pp hadpb 0]] 165,.blk hadpb #[.map (some hadpmb)] 114,mp false false hadp hadpmb] (fun g=>bv false) (fun g=>[]) (fun g=>[.blk rb (ca (DRecipe.mk c ⟨a,b⟩)) 57,.blk mb #[.func (.func 89) #[] #[pp hadpb 0]] 165,.blk hadpb #[.map (some hadpmb)] 114,mp true false hadp hadpmb]) (fun g=>[]):=by
  refine V.fo mo Tryz.func90 9 0 fun w H ε k0=>?_;clear k0
  refine V.trm false hadp hadpmb 3 (by kernel_rfl) (fun _ _=>trivial) ?_;refine V.g [.kb false] fun _ _ G1=>?_;intro S_ s_
  refine V.gf [.u 2,.cB 2 108 false [0,1,2,3] [] [kA 0 s ss,kA 1 a b] fun G=>pgii_ct s ss rb c a b mb hadpb hadp hadpmb (by assumption),.kb false,.kb false] fun _ _ G2=>?_;intro S_ s_
  exact V.rS [0] [] [] [] [] [0,1,2,3]

open Go Go.Proofs
set_option maxRecDepth 10000 in
theorem pgmi_ct (s:List DImport) (ss:SV) (mb hadpb:Nat) (hadp:List (Dthing × Int)) (hadpmb:Nat) (hN:s.length=0) :
    Ct Tryz.prog 110 #[ss.v,.func (.func 93) #[] #[pp mb 0]] [fs true s ss] [.blk mb #[.func (.func 89) #[] #[pp hadpb 0]] 165,.blk hadpb #[.map (some hadpmb)] 114,mp false false hadp hadpmb] (fun g=>iv (-1)) (fun g=>[]) (fun g=>[.blk mb #[.func (.func 89) #[] #[pp hadpb 0]] 165,.blk hadpb #[.map (some hadpmb)] 114,mp true false hadp hadpmb]) (fun g=>[]):=by
  refine V.fo mo Tryz.func110 19 0 fun w H ε k0=>?_;clear k0
  refine V.trm false hadp hadpmb 2 (by kernel_rfl) (fun _ _=>trivial) ?_;refine V.gf [.u 1] fun _ _ G1=>?_;intro S_ s_
  refine V.gf [.u 1,.ln (kF 0 s ss),.u 1] fun _ _ G2=>?_;intro S_ s_
  refine V.lp (γ:=Int) (fun k0=>⟨[(0,ss.v),(1,.func (.func 93) #[] #[pp mb 0]),(7,iv (s.length:Int)),(8,iv k0)],[fs false s ss],[.blk mb #[.func (.func 89) #[] #[pp hadpb 0]] 165,.blk hadpb #[.map (some hadpmb)] 114,mp true false hadp hadpmb]⟩) (fun k0=>(0≤k0)∧(k0≤(s.length:Int))) (fun k0=>((s.length:Int)-k0).toNat) 0 [0] ?_ ?_
  · refine ⟨?_,?_⟩
    · show 0≤(0:Int)
      first | omega | rfl | (simp;done) | (subst_vars;simp;done)
    show (0:Int)≤(s.length:Int)
    first | omega | rfl | (simp;done) | (subst_vars;simp;done)
  rintro k0 hF1 kw3 Z1 hZ1;have hF1:(0≤k0)∧(k0≤(s.length:Int)):=hF1;obtain ⟨hf1,hf2⟩:=hF1;clear kw3;refine V.gf [.u 1] fun _ _ G3=>?_;intro S_ s_;refine V.cn (b:=decide (k0 < (s.length:Int))) iDT iDF (fun q1=>?_) (fun q2=>?_)
  · exfalso;have hqq:=q1;omega
  refine V.gf [.u 1] fun _ _ G4=>?_;intro S_ s_
  have e0:(-1:Int)= -1:=by first | rfl | omega | simp_all
  exact V.rT [0] [] [] [] [] [0,1,2] (cong1 (fun (xz0:Int)=>(iv xz0:Value)) e0)
set_option maxRecDepth 10000 in
theorem pgmk_ct (s:List DImport) (ss:SV) (mb hadpb:Nat) (hadp:List (Dthing × Int)) (hadpmb:Nat) (hN:s.length=0) :
    Ct Tryz.prog 92 #[ss.v,.func (.func 93) #[] #[pp mb 0]] [fs true s ss] [.blk mb #[.func (.func 89) #[] #[pp hadpb 0]] 165,.blk hadpb #[.map (some hadpmb)] 114,mp false false hadp hadpmb] (fun g=>bv false) (fun g=>[]) (fun g=>[.blk mb #[.func (.func 89) #[] #[pp hadpb 0]] 165,.blk hadpb #[.map (some hadpmb)] 114,mp true false hadp hadpmb]) (fun g=>[]):=by
  refine V.fo mo Tryz.func92 9 0 fun w H ε k0=>?_;clear k0
  refine V.trm false hadp hadpmb 2 (by kernel_rfl) (fun _ _=>trivial) ?_;refine V.g [.kb false] fun _ _ G1=>?_;intro S_ s_
  refine V.gf [.u 2,.cB 2 110 false [0,1,2] [] [kA 0 s ss] fun G=>pgmi_ct s ss mb hadpb hadp hadpmb (by omega),.kb false,.kb false] fun _ _ G2=>?_;intro S_ s_
  exact V.rS [0] [] [] [] [] [0,1,2]
set_option maxRecDepth 10000 in
theorem pgoi_ct (s:List DPort) (ss:SV) (mb hadpb:Nat) (hadp:List (Dthing × Int)) (hadpmb:Nat) (hN:s.length=0) :
    Ct Tryz.prog 115 #[ss.v,.func (.func 95) #[] #[pp mb 0]] [fs true s ss] [.blk mb #[.func (.func 89) #[] #[pp hadpb 0]] 165,.blk hadpb #[.map (some hadpmb)] 114,mp false false hadp hadpmb] (fun g=>iv (-1)) (fun g=>[]) (fun g=>[.blk mb #[.func (.func 89) #[] #[pp hadpb 0]] 165,.blk hadpb #[.map (some hadpmb)] 114,mp true false hadp hadpmb]) (fun g=>[]):=by
  refine V.fo mo Tryz.func115 19 0 fun w H ε k0=>?_;clear k0
  refine V.trm false hadp hadpmb 2 (by kernel_rfl) (fun _ _=>trivial) ?_;refine V.gf [.u 1] fun _ _ G1=>?_;intro S_ s_
  refine V.gf [.u 1,.ln (kF 0 s ss),.u 1] fun _ _ G2=>?_;intro S_ s_
  refine V.lp (γ:=Int) (fun k0=>⟨[(0,ss.v),(1,.func (.func 95) #[] #[pp mb 0]),(7,iv (s.length:Int)),(8,iv k0)],[fs false s ss],[.blk mb #[.func (.func 89) #[] #[pp hadpb 0]] 165,.blk hadpb #[.map (some hadpmb)] 114,mp true false hadp hadpmb]⟩) (fun k0=>(0≤k0)∧(k0≤(s.length:Int))) (fun k0=>((s.length:Int)-k0).toNat) 0 [0] ?_ ?_
  · refine ⟨?_,?_⟩
    · show 0≤(0:Int)
      first | omega | rfl | (simp;done) | (subst_vars;simp;done)
    show (0:Int)≤(s.length:Int)
    first | omega | rfl | (simp;done) | (subst_vars;simp;done)
  rintro k0 hF1 kw3 Z1 hZ1;have hF1:(0≤k0)∧(k0≤(s.length:Int)):=hF1;obtain ⟨hf1,hf2⟩:=hF1;clear kw3;refine V.gf [.u 1] fun _ _ G3=>?_;intro S_ s_;refine V.cn (b:=decide (k0 < (s.length:Int))) iDT iDF (fun q1=>?_) (fun q2=>?_)
  · exfalso;have hqq:=q1;omega
  refine V.gf [.u 1] fun _ _ G4=>?_;intro S_ s_
  have e0:(-1:Int)= -1:=by first | rfl | omega | simp_all
  exact V.rT [0] [] [] [] [] [0,1,2] (cong1 (fun (xz0:Int)=>(iv xz0:Value)) e0)
set_option maxRecDepth 10000 in
theorem pgok_ct (s:List DPort) (ss:SV) (mb hadpb:Nat) (hadp:List (Dthing × Int)) (hadpmb:Nat) (hN:s.length=0) :
    Ct Tryz.prog 94 #[ss.v,.func (.func 95) #[] #[pp mb 0]] [fs true s ss] [.blk mb #[.func (.func 89) #[] #[pp hadpb 0]] 165,.blk hadpb #[.map (some hadpmb)] 114,mp false false hadp hadpmb] (fun g=>bv false) (fun g=>[]) (fun g=>[.blk mb #[.func (.func 89) #[] #[pp hadpb 0]] 165,.blk hadpb #[.map (some hadpmb)] 114,mp true false hadp hadpmb]) (fun g=>[]):=by
  refine V.fo mo Tryz.func94 9 0 fun w H ε k0=>?_;clear k0
  refine V.trm false hadp hadpmb 2 (by kernel_rfl) (fun _ _=>trivial) ?_;refine V.g [.kb false] fun _ _ G1=>?_;intro S_ s_
  refine V.gf [.u 2,.cB 2 115 false [0,1,2] [] [kA 0 s ss] fun G=>pgoi_ct s ss mb hadpb hadp hadpmb (by omega),.kb false,.kb false] fun _ _ G2=>?_;intro S_ s_
  exact V.rS [0] [] [] [] [] [0,1,2]
set_option maxRecDepth 10000 in
theorem pgap_ct (F:ByteArray) (d:List DImport) (j:SV) (e:List DInput) (k:SV) (q:List DTable) (r:SV) (t:List DFunc) (x:SV) (z:List DCell) (A:SV) (i:List DPort) (m:SV) (o:List DStore) (B:SV) (C:List DRecipe) (D:SV) (E:ByteArray) (a:List DStep) (c:SV) (had:List (Dthing × Int)) (hadb:Nat) (hO:∀ y ∈ a,∀ p ∈ y.Out.l,(mlook (Pc.th 0 p) had).isSome=true) (hK:∀ y ∈ e,y.Kind=E∧(mlook (Pc.th 2 y.Name) had).isSome=true) (hI0:d.length=0) (hS0:o.length=0) (hP0:i.length=0) :
    Ct Tryz.prog 53 #[ag (DSheet.mk F ⟨d,j⟩ ⟨e,k⟩ ⟨q,r⟩ ⟨t,x⟩ ⟨z,A⟩ ⟨i,m⟩ ⟨o,B⟩ ⟨C,D⟩),ag (DRecipe.mk E ⟨a,c⟩),.map (some hadb)] [fs true d j,fs true e k,fs true q r,fs true t x,fs true z A,fs true i m,fs true o B,fs true C D,fs true a c] [mp false false had hadb] (fun g=>.tuple #[iv (-1),bv false]) (fun g=>[]) (fun g=>[mp true false had hadb]) (fun g=>[]):=by
  refine V.fo mo Tryz.func53 62 5 fun w H ε k0=>?_;obtain ⟨⟨kl1, -⟩,⟨kl2, -⟩,⟨kl3, -⟩,⟨kl4, -⟩,⟨kl5, -⟩,⟨kl6, -⟩,⟨kl7, -⟩,⟨kl8, -⟩,⟨kl9, -⟩, -, -⟩:Lq d j.v∧Lq e k.v∧Lq q r.v∧Lq t x.v∧Lq z A.v∧Lq i m.v∧Lq o B.v∧Lq C D.v∧Lq a c.v∧True∧True:=kq k0
  clear k0;refine V.trm false had hadb 0 (by kernel_rfl) (fun _ _=>trivial) ?_;refine V.gf [.n 1,.n 2,.n 3,.u 1,.kb false] fun _ _ G1=>?_;intro S_ s_
  refine V.gf [.u 1,.l 2,.ln (kF 8 a c),.u 1] fun _ _ G2=>?_;intro S_ s_
  refine V.lp (γ:=Int) (fun k0=>⟨[(3,pp ((G1 0).b) 0),(4,pp ((G1 1).b) 0),(5,pp ((G1 2).b) 0),(17,c.v),(18,iv (a.length:Int)),(19,iv k0)],[fs false a c,fs false d j,fs false e k,fs false q r,fs false t x,fs false z A,fs false i m,fs false o B,fs false C D],[mp true false had hadb,.blk ((G1 0).b) (ca (DSheet.mk F ⟨d,j⟩ ⟨e,k⟩ ⟨q,r⟩ ⟨t,x⟩ ⟨z,A⟩ ⟨i,m⟩ ⟨o,B⟩ ⟨C,D⟩)) 36,.blk ((G1 1).b) (ca (DRecipe.mk E ⟨a,c⟩)) 57,.blk ((G1 2).b) #[.map (some hadb)] 114,.no,.no]⟩) (fun k0=>(0≤k0)∧(k0≤(a.length:Int))) (fun k0=>((a.length:Int)-k0).toNat) 0 [8,0,1,2,3,4,5,6,7] ?_ ?_
  · refine ⟨?_,?_⟩
    · show 0≤(0:Int)
      first | omega | rfl | (simp;done) | (subst_vars;simp;done)
    show (0:Int)≤(a.length:Int)
    first | omega | rfl | (simp;done) | (subst_vars;simp;done)
  rintro k0 hF1 kw3 Z1 hZ1;have hF1:(0≤k0)∧(k0≤(a.length:Int)):=hF1;obtain ⟨hf1,hf2⟩:=hF1;clear kw3;refine V.gf [.u 1] fun _ _ G3=>?_;intro S_ s_;refine V.cn (b:=decide (k0 < (a.length:Int))) iDT iDF (fun q1=>?_) (fun q2=>?_)
  · refine nm (a.getD k0.toNat default:DStep) fun x1 hx1=>?_;refine V.rf [.u 1,.iX (kF 0 a c) k0,.lE (kF 0 a c) k0 true x1 hx1 true,.n 4,.u 1,.s 4] fun _ _ G4 kw5=>?_;intro S_ s_
    obtain ⟨⟨⟨kl10, -⟩,⟨kl11, -⟩,⟨kl12, -⟩⟩, -⟩:(Lq x1.In.l x1.In.s.v∧Lq x1.Out.l x1.Out.s.v∧Lq x1.Cells.l x1.Cells.s.v)∧True∧True:=kq kw5;clear kw5;refine V.gf [.u 1,.l 4,.ln (kx false (.f 9) x1 x1.Out.l (fun _=>x1.Out.s) (fun _ H (h:Dat.good H (x1:DStep))=>h.2.1)),.u 1] fun _ _ G5=>?_;intro S_ s_;refine V.lp (γ:=Int) (fun k1=>⟨[(3,pp ((G1 0).b) 0),(4,pp ((G1 1).b) 0),(5,pp ((G1 2).b) 0),(8,iv k0),(17,c.v),(18,iv (a.length:Int)),(19,iv k0),(25,x1.Out.s.v),(26,iv (x1.Out.l.length:Int)),(27,iv k1)],[fs false a c,gf false x1,fs false d j,fs false e k,fs false q r,fs false t x,fs false z A,fs false i m,fs false o B,fs false C D],[mp true false had hadb,.blk ((G1 0).b) (ca (DSheet.mk F ⟨d,j⟩ ⟨e,k⟩ ⟨q,r⟩ ⟨t,x⟩ ⟨z,A⟩ ⟨i,m⟩ ⟨o,B⟩ ⟨C,D⟩)) 36,.blk ((G1 1).b) (ca (DRecipe.mk E ⟨a,c⟩)) 57,.blk ((G1 2).b) #[.map (some hadb)] 114,.blk ((G4 3).b) (ca x1) 39,.no]⟩) (fun k1=>(0≤k1)∧(k1≤(x1.Out.l.length:Int))) (fun k1=>((x1.Out.l.length:Int)-k1).toNat) 0 [0,9,1,2,3,4,5,6,7,8] ?_ ?_
    · refine ⟨?_,?_⟩
      · show 0≤(0:Int)
        first | omega | rfl | (simp;done) | (subst_vars;simp;done)
      show (0:Int)≤(x1.Out.l.length:Int)
      first | omega | rfl | (simp;done) | (subst_vars;simp;done)
    rintro k1 hF2 kw7 Z2 hZ2;have hF2:(0≤k1)∧(k1≤(x1.Out.l.length:Int)):=hF2;obtain ⟨hf3,hf4⟩:=hF2;clear kw7;refine V.gf [.u 1] fun _ _ G6=>?_;intro S_ s_;refine V.cn (b:=decide (k1 < (x1.Out.l.length:Int))) iDT iDF (fun q3=>?_) (fun q4=>?_)
    · refine nm (x1.Out.l.getD k1.toNat default:ByteArray) fun x2 hx2=>?_;refine V.gf [.iX (kx false (.f 1) x1 x1.Out.l (fun _=>x1.Out.s) (fun _ H (h:Dat.good H (x1:DStep))=>h.2.1)) k1,.lE (kx false (.f 1) x1 x1.Out.l (fun _=>x1.Out.s) (fun _ H (h:Dat.good H (x1:DStep))=>h.2.1)) k1 false x2 hx2 false,.u 1] fun _ _ G7=>?_;intro S_ s_
      refine nm ((mlook (Dthing.mk 0 x2) had).getD default:Int) fun x3 hx3=>?_;refine nm ((mlook (Dthing.mk 0 x2) had).isSome:Bool) fun is1 his1=>?_;refine V.gf [.l 3,.u 2,.lk 0 114 120 3 true false true had (fun _=>hadb) (Dthing.mk 0 x2) x3 hx3 is1 his1 false,.u 5] fun _ _ G8=>?_;intro S_ s_
      refine V.gf [.u 2] fun _ _ G9=>?_;intro S_ s_
      refine V.cn (b:=!is1) (iNT Iff.rfl) (iNF Iff.rfl) (fun q5=>?_) (fun q6=>?_)
      · have hqq:=q5;have h2:is1=true:=(by rw [his1];exact hO _ (getD_mem (by omega) hx1) _ (getD_mem (by omega) hx2));rw [h2] at hqq;cases hqq
      refine V.gf [.aa (k1+1),.u 1] fun _ _ G10=>?_;intro S_ s_
      refine V.rn hZ2 (k1+1) [0,1,2,3,4,5,6,7,8,9] ?_ ?_
      · refine ⟨?_,?_⟩
        · show 0≤(k1+1)
          first | omega | rfl | (simp;done) | (subst_vars;simp;done)
        show (k1+1)≤(x1.Out.l.length:Int)
        first | omega | rfl | (simp;done) | (subst_vars;simp;done)
      show ((x1.Out.l.length:Int)-(k1+1)).toNat < ((x1.Out.l.length:Int)-k1).toNat;omega
    refine V.gf [.aa (k0+1),.u 1] fun _ _ G11=>?_;intro S_ s_
    refine V.rn hZ1 (k0+1) [0,2,3,4,5,6,7,8,9] ?_ ?_
    · refine ⟨?_,?_⟩
      · show 0≤(k0+1)
        first | omega | rfl | (simp;done) | (subst_vars;simp;done)
      show (k0+1)≤(a.length:Int)
      first | omega | rfl | (simp;done) | (subst_vars;simp;done)
    show ((a.length:Int)-(k0+1)).toNat < ((a.length:Int)-k0).toNat;omega
  refine V.gf [.u 1,.n 5,.s 5] fun _ _ G12=>?_;intro S_ s_
  refine V.gf [.u 1,.l 1,.u 1,.cB 3 90 false [2,5,3,0] [] [kA 2 e k,kA 0 a c] fun G=>pgik_ct e k ((G1 1).b) E a c ((G12 1).b) ((G1 2).b) had hadb hK,.kb false] fun _ _ G13=>?_;intro S_ s_
  refine V.gf [.kb false,.kb false,.u 1,.l 1,.u 1,.cB 5 92 false [5,3,0] [] [kA 1 d j] fun G=>pgmk_ct d j ((G12 1).b) ((G1 2).b) had hadb hI0,.kb false,.kb false] fun _ _ G14=>?_;intro S_ s_
  refine V.gf [.kb false,.kb false,.u 1,.l 1,.u 1,.cB 5 94 false [5,3,0] [] [kA 6 i m] fun G=>pgok_ct i m ((G12 1).b) ((G1 2).b) had hadb (by omega),.kb false,.u 1,.kb false] fun _ _ G15=>?_;intro S_ s_
  have e0:(-1:Int)= -1:=by rfl
  exact V.rT [0,0] [] [] [] [] [0] (cong1 (fun (xz0:Int)=>(.tuple #[iv xz0,bv false]:Value)) e0)

open Go Go.Proofs
set_option maxRecDepth 10000 in
theorem plook_ct (C:ByteArray) (i:List DImport) (q:SV) (d:List DInput) (r:SV) (m:List DTable) (t:SV) (o:List DFunc) (x:SV) (e:List DCell) (z:SV) (j:List DPort) (A:SV) (k:List DStore) (B:SV) (c:List DRecipe) (p:SV) (recipe:Int) (hS:Sx.Sml C i d m o e j k c) (hL:(i.length:Int)+d.length+m.length+o.length+e.length+j.length+k.length+c.length≤100000000) (hR:Sx.Rt C i d m o e j k c) (hr:0≤recipe∧recipe < (c.length:Int)) (hG:Pc.Good i d e j k (c.getD recipe.toNat default)) :
    Ct Tryz.prog 19 #[ag (DSheet.mk C ⟨i,q⟩ ⟨d,r⟩ ⟨m,t⟩ ⟨o,x⟩ ⟨e,z⟩ ⟨j,A⟩ ⟨k,B⟩ ⟨c,p⟩),iv recipe] [fs true i q,fs true d r,fs true m t,fs true o x,fs true e z,fs true j A,fs true k B,fs true c p] [] (fun g=>.tuple #[iv 0,iv 0,((g.ss 0)).v]) (fun g=>[fs true ([]:List Int) (g.ss 0)]) (fun g=>[]) (fun g=>[]):=by
  refine V.fo mo Tryz.func19 95 10 fun w H ε k0=>?_;clear k0
  refine V.gf [.n 0,.u 3] fun _ _ G1=>?_;intro S_ s_
  refine nm ((!(decide (Sx.Rt C i d m o e j k c))) || (decide (recipe < 0)):Bool) fun p1 hp1=>?_;refine nm (p1 || (decide ((c.length:Int)≤recipe)):Bool) fun p2 hp2=>?_;refine V.gf [.l 0,.cP 1 22 [kA 0 i q,kA 1 d r,kA 2 m t,kA 3 o x,kA 4 e z,kA 5 j A,kA 6 k B,kA 7 c p] fun G=>srgt_ct C i q d r m t o x e z j A k B c p hS hL,.u 4,.orn g0 false (!(decide (Sx.Rt C i d m o e j k c))) (decide (recipe < 0)) p1 hp1,.u 3,.l 0,.ln (kF 7 c p),.u 1,.orn g0 false p1 (decide ((c.length:Int)≤recipe)) p2 hp2] fun _ _ G2=>?_;intro S_ s_
  refine V.cn (b:=p2) (iN hp2 (iOT (iN hp1 (iOT (iNT iDF) iDT)) iDT)) (iN hp2 (iOF (iN hp1 (iOF (iNF iDT) iDF)) iDF)) (fun q1=>?_) (fun q2=>?_)
  · have hqq:=q1;rcases hqq with (h | h) | h;exact absurd hR h;omega;omega
  refine nm (c.getD recipe.toNat default:DRecipe) fun x1 hx1=>?_;refine V.rf [.u 1,.l 0,.u 1,.iX (kF 7 c p) recipe,.lE (kF 7 c p) recipe true x1 hx1 true,.n 1,.s 1] fun _ _ G3 kw3=>?_;intro S_ s_
  obtain ⟨⟨kl9, -⟩, -⟩:Lq x1.Steps.l x1.Steps.s.v∧True:=kq kw3;clear kw3;have hG1:=hG;rw [←hx1] at hG1;refine V.gf [.l 0,.cB 1 49 false [] [2,3,4] [kA 0 i q,kA 1 d r,kA 2 m t,kA 3 o x,kA 4 e z,kA 5 j A,kA 6 k B,kA 7 c p] fun G=>pcol_ct C i q d r m t o x e z j A k B c p hG1.na hG1.nd hG1.np,.n 5,.s 5] fun _ _ G4=>?_;intro S_ s_;refine V.gf [.mm Dthing Int 0 6 false,.u 1] fun _ _ G5=>?_;intro S_ s_;refine V.gf [.u 1,.l 1,.ln (kx false (.f 8) x1 x1.Steps.l (fun _=>x1.Steps.s) (fun _ _ h=>h)),.u 1] fun _ _ G6=>?_;intro S_ s_;refine V.lp (γ:=Int × List (Dthing × Int)) (fun ⟨k0,m6⟩=>⟨[(2,pp ((G1 0).b) 0),(7,pp ((G3 5).b) 0),(8,pp ((G4 2).b) 0),(9,.map (some ((G5 0).b))),(40,x1.Steps.s.v),(41,iv (x1.Steps.l.length:Int)),(42,iv k0)],[gf false x1,fs false i q,fs false d r,fs false m t,fs false o x,fs false e z,fs false j A,fs false k B,fs false c p],[.blk ((G1 0).b) (ca (DSheet.mk C ⟨i,q⟩ ⟨d,r⟩ ⟨m,t⟩ ⟨o,x⟩ ⟨e,z⟩ ⟨j,A⟩ ⟨k,B⟩ ⟨c,p⟩)) 36,.blk ((G3 5).b) (ca x1) 57,mp true false (Pc.celM e) ((G4 1).bs 0),mp true false (Pc.inpM d) ((G4 1).bs 1),mp true false (Pc.namM d) ((G4 1).bs 2),.blk ((G4 2).b) #[.map (some ((G4 1).bs 0)),.map (some ((G4 1).bs 1)),.map (some ((G4 1).bs 2))] 111,mp true false m6 ((G5 0).b),.no,.no,.no]⟩) (fun ⟨k0,m6⟩=>(0≤k0)∧(k0≤(x1.Steps.l.length:Int))∧(m6=Pc.hadN x1.Steps.l k0.toNat)) (fun ⟨k0,m6⟩=>((x1.Steps.l.length:Int)-k0).toNat) (0,([]:List (Dthing × Int))) [8,0,1,2,3,4,5,6,7] ?_ ?_
  · refine ⟨?_,?_,?_⟩
    · show 0≤(0:Int)
      first | omega | rfl | (simp;done) | (subst_vars;simp;done)
    · show (0:Int)≤(x1.Steps.l.length:Int)
      first | omega | rfl | (simp;done) | (subst_vars;simp;done)
    show ([]:List (Dthing × Int))=Pc.hadN x1.Steps.l (0:Int).toNat;rfl
  rintro ⟨k0,m6⟩ hF1 kw7 Z1 hZ1;have hF1:(0≤k0)∧(k0≤(x1.Steps.l.length:Int))∧(m6=Pc.hadN x1.Steps.l k0.toNat):=hF1;obtain ⟨hf1,hf2,hf3⟩:=hF1;clear kw7;refine V.gf [.u 1] fun _ _ G7=>?_;intro S_ s_;refine V.cn (b:=decide (k0 < (x1.Steps.l.length:Int))) iDT iDF (fun q3=>?_) (fun q4=>?_)
  · refine nm (x1.Steps.l.getD k0.toNat default:DStep) fun x2 hx2=>?_;refine V.gf [.u 1,.iX (kx false (.f 0) x1 x1.Steps.l (fun _=>x1.Steps.s) (fun _ _ h=>h)) k0,.lE (kx false (.f 0) x1 x1.Steps.l (fun _=>x1.Steps.s) (fun _ _ h=>h)) k0 true x2 hx2 true,.n 7,.u 1,.s 7] fun _ _ G8=>?_;intro S_ s_
    refine V.gf [.l 5,.u 1,.l 1,.u 1,.l 7,.cB 5 50 false [2,3,4,6] [] [(kx false (.f 9) x2 x2.In.l (fun _=>x2.In.s) (fun _ H (h:Dat.good H (x2:DStep))=>h.1)).a,(kx false (.f 9) x2 x2.Out.l (fun _=>x2.Out.s) (fun _ H (h:Dat.good H (x2:DStep))=>h.2.1)).a,(kx false (.f 9) x2 x2.Cells.l (fun _=>x2.Cells.s) (fun _ H (h:Dat.good H (x2:DStep))=>h.2.2)).a] fun G=>pwrong_ct (Pc.celM e) ((G4 1).bs 0) (Pc.inpM d) ((G4 1).bs 1) (Pc.namM d) ((G4 1).bs 2) x1.Kind m6 ((G5 0).b) x2.Kind x2.In.l x2.In.s x2.Out.l x2.Out.s x2.Name x2.Cells.l x2.Cells.s x2.Amount (by rw [hf3];exact Pc.ok_step hG1.ok (by omega) (by omega) hx2) (hG1.steps _ (getD_mem (by omega) hx2)).1 (hG1.steps _ (getD_mem (by omega) hx2)).2.1 (hG1.steps _ (getD_mem (by omega) hx2)).2.2,.u 1] fun _ _ G9=>?_;intro S_ s_
    refine V.gf [.u 1,.kb false] fun _ _ G10=>?_;intro S_ s_
    refine V.condF (by kernel_rfl) ?_;refine V.gf [.l 7,.cB 1 52 false [] [8] [(kx false (.f 9) x2 x2.In.l (fun _=>x2.In.s) (fun _ H (h:Dat.good H (x2:DStep))=>h.1)).a,(kx false (.f 9) x2 x2.Out.l (fun _=>x2.Out.s) (fun _ H (h:Dat.good H (x2:DStep))=>h.2.1)).a,(kx false (.f 9) x2 x2.Cells.l (fun _=>x2.Cells.s) (fun _ H (h:Dat.good H (x2:DStep))=>h.2.2)).a] fun G=>pthg_ct x2.Kind x2.In.l x2.In.s x2.Out.l x2.Out.s x2.Name x2.Cells.l x2.Cells.s x2.Amount (hG1.steps _ (getD_mem (by omega) hx2)).1 (hG1.steps _ (getD_mem (by omega) hx2)).2.1 (by have h:=(hG1.steps _ (getD_mem (by omega) hx2)).2.2;omega),.ln (ko true 120 8 (Pc.things x2.Kind x2.In.l x2.Out.l x2.Name) (fun G=>(G 1).ss 0)),.u 1] fun _ _ G11=>?_;intro S_ s_
    have htl:=Pc.th_len x2.Kind x2.In.l x2.Out.l x2.Name;have hs1:=hG1.steps _ (getD_mem (by omega) hx2);refine V.lp (γ:=Int × List (Dthing × Int)) (fun ⟨k1,m6_1⟩=>⟨[(2,pp ((G1 0).b) 0),(7,pp ((G3 5).b) 0),(8,pp ((G4 2).b) 0),(9,.map (some ((G5 0).b))),(10,iv k0),(40,x1.Steps.s.v),(41,iv (x1.Steps.l.length:Int)),(42,iv k0),(63,((G11 1).ss 0).v),(64,iv ((Pc.things x2.Kind x2.In.l x2.Out.l x2.Name).length:Int)),(65,iv k1)],[gf false x1,fs false i q,fs false d r,fs false m t,fs false o x,fs false e z,fs false j A,fs false k B,fs false c p,gf false x2],[.blk ((G1 0).b) (ca (DSheet.mk C ⟨i,q⟩ ⟨d,r⟩ ⟨m,t⟩ ⟨o,x⟩ ⟨e,z⟩ ⟨j,A⟩ ⟨k,B⟩ ⟨c,p⟩)) 36,.blk ((G3 5).b) (ca x1) 57,mp true false (Pc.celM e) ((G4 1).bs 0),mp true false (Pc.inpM d) ((G4 1).bs 1),mp true false (Pc.namM d) ((G4 1).bs 2),.blk ((G4 2).b) #[.map (some ((G4 1).bs 0)),.map (some ((G4 1).bs 1)),.map (some ((G4 1).bs 2))] 111,mp true false m6_1 ((G5 0).b),.blk ((G8 3).b) (ca x2) 39,os true 120 (Pc.things x2.Kind x2.In.l x2.Out.l x2.Name) ((G11 1).ss 0),.no]⟩) (fun ⟨k1,m6_1⟩=>(0≤k1)∧(k1≤((Pc.things x2.Kind x2.In.l x2.Out.l x2.Name).length:Int))∧(m6_1=Pc.puts (Pc.hadN x1.Steps.l k0.toNat) (((Pc.things x2.Kind x2.In.l x2.Out.l x2.Name).take k1.toNat).map fun y=>(y,k0)))) (fun ⟨k1,m6_1⟩=>(((Pc.things x2.Kind x2.In.l x2.Out.l x2.Name).length:Int)-k1).toNat) (0,m6) [0,1,2,3,4,5,6,7,8,9] ?_ ?_
    · refine ⟨?_,?_,?_⟩
      · show 0≤(0:Int)
        first | omega | rfl | (simp;done) | (subst_vars;simp;done)
      · show (0:Int)≤((Pc.things x2.Kind x2.In.l x2.Out.l x2.Name).length:Int)
        first | omega | rfl | (simp;done) | (subst_vars;simp;done)
      show m6=Pc.puts (Pc.hadN x1.Steps.l k0.toNat) (((Pc.things x2.Kind x2.In.l x2.Out.l x2.Name).take (0:Int).toNat).map fun y=>(y,k0));exact hf3.trans rfl
    rintro ⟨k1,m6_1⟩ hF2 kw13 Z2 hZ2;have hF2:(0≤k1)∧(k1≤((Pc.things x2.Kind x2.In.l x2.Out.l x2.Name).length:Int))∧(m6_1=Pc.puts (Pc.hadN x1.Steps.l k0.toNat) (((Pc.things x2.Kind x2.In.l x2.Out.l x2.Name).take k1.toNat).map fun y=>(y,k0))):=hF2;obtain ⟨hf4,hf5,hf6⟩:=hF2;clear kw13;refine V.gf [.u 1] fun _ _ G12=>?_;intro S_ s_;refine V.cn (b:=decide (k1 < ((Pc.things x2.Kind x2.In.l x2.Out.l x2.Name).length:Int))) iDT iDF (fun q5=>?_) (fun q6=>?_)
    · refine nm ((Pc.things x2.Kind x2.In.l x2.Out.l x2.Name).getD k1.toNat default:Dthing) fun x3 hx3=>?_;refine V.gf [.iX (kO 120 8 (Pc.things x2.Kind x2.In.l x2.Out.l x2.Name) ((G11 1).ss 0)) k1,.lE (kO 120 8 (Pc.things x2.Kind x2.In.l x2.Out.l x2.Name) ((G11 1).ss 0)) k1 false x3 hx3 true,.n 9,.s 9] fun _ _ G13=>?_;intro S_ s_
      refine nm (mupd x3 k0 m6_1:List (Dthing × Int)) fun m1 hm1=>?_;refine V.gf [.u 1,.l 9,.u 1,.mu 3 6 114 120 3 true false m6_1 (fun _=>(G5 0).b) x3 k0 m1 hm1 true (fun _=>rfl) [] (fun _ _ _=>trivial)] fun _ _ G14=>?_;intro S_ s_
      refine V.gf [.aa (k1+1),.u 1] fun _ _ G15=>?_;intro S_ s_
      refine V.rn hZ2 (k1+1,m1) [0,1,2,3,4,5,6,7,8,9] ?_ ?_
      · refine ⟨?_,?_,?_⟩
        · show 0≤(k1+1);omega
        · show (k1+1)≤((Pc.things x2.Kind x2.In.l x2.Out.l x2.Name).length:Int);omega
        show m1=Pc.puts (Pc.hadN x1.Steps.l k0.toNat) (((Pc.things x2.Kind x2.In.l x2.Out.l x2.Name).take (k1+1).toNat).map fun y=>(y,k0));have hus:=Pc.puts_step (f:=fun y:Dthing=>(y,k0)) hf6 (by omega) (by omega) hx3
        subst_vars;exact hus
      show (((Pc.things x2.Kind x2.In.l x2.Out.l x2.Name).length:Int)-(k1+1)).toNat < (((Pc.things x2.Kind x2.In.l x2.Out.l x2.Name).length:Int)-k1).toNat;omega
    refine V.gf [.aa (k0+1),.u 1] fun _ _ G16=>?_;intro S_ s_
    refine V.rn hZ1 (k0+1,m6_1) [0,1,2,3,4,5,6,7,8] ?_ ?_
    · refine ⟨?_,?_,?_⟩
      · show 0≤(k0+1);omega
      · show (k0+1)≤(x1.Steps.l.length:Int);omega
      show m6_1=Pc.hadN x1.Steps.l (k0+1).toNat;rw [Pc.had_next (by omega) hx2];exact Pc.puts_all (f:=fun y:Dthing=>(y,k0)) hf6 (by omega)
    show ((x1.Steps.l.length:Int)-(k0+1)).toNat < ((x1.Steps.l.length:Int)-k0).toNat;omega
  refine V.gf [.l 0,.l 1,.u 1,.cB 3 53 false [6] [] [kA 1 i q,kA 2 d r,kA 3 m t,kA 4 o x,kA 5 e z,kA 6 j A,kA 7 k B,kA 8 c p,(kx false (.f 0) x1 x1.Steps.l (fun _=>x1.Steps.s) (fun _ _ h=>h)).a] fun G=>pgap_ct C i q d r m t o x e z j A k B c p x1.Kind x1.Steps.l x1.Steps.s m6 ((G5 0).b) (by rw [show m6=Pc.hadN x1.Steps.l x1.Steps.l.length from by rw [hf3,show k0.toNat=x1.Steps.l.length by omega]];exact Pc.ok_out hG1.ok) (by rw [show m6=Pc.hadN x1.Steps.l x1.Steps.l.length from by rw [hf3,show k0.toNat=x1.Steps.l.length by omega]];exact Pc.ok_inp hG1.ok hG1.kinds) hG1.na hG1.nd hG1.np,.u 2,.kb false,.u 1,.kb false] fun _ _ G17=>?_;intro S_ s_
  refine V.g [.kb false,.kb false,.dead,.dead,.kb false] fun _ _ G18=>?_;intro S_ s_
  refine V.condF (by kernel_rfl) ?_;refine V.g [.kb false] fun _ _ G19=>?_;intro S_ s_
  refine V.condF (by kernel_rfl) ?_;refine V.gf [.u 3] fun _ _ G20=>?_;intro S_ s_
  refine V.nilF (α:=Int) ?_;exact V.rS [0,0,0] [] [] [] [9] []
set_option maxRecDepth 10000 in
theorem pchk_ct (i:ByteArray) (b:List DImport) (j:SV) (c:List DInput) (k:SV) (g:List DTable) (m:SV) (h:List DFunc) (o:SV) (d:List DCell) (p:SV) (e:List DPort) (q:SV) (f:List DStore) (r:SV) (a:List DRecipe) (t:SV) (recipe:Int) (hS:Sx.Sml i b c g h d e f a) (hL:(b.length:Int)+c.length+g.length+h.length+d.length+e.length+f.length+a.length≤100000000) (hR:Sx.Rt i b c g h d e f a) (hr:0≤recipe∧recipe < (a.length:Int)) (hG:Pc.Good b c d e f (a.getD recipe.toNat default)) :
    Cp Tryz.prog 8 #[ag (DSheet.mk i ⟨b,j⟩ ⟨c,k⟩ ⟨g,m⟩ ⟨h,o⟩ ⟨d,p⟩ ⟨e,q⟩ ⟨f,r⟩ ⟨a,t⟩),iv recipe] [fs true b j,fs true c k,fs true g m,fs true h o,fs true d p,fs true e q,fs true f r,fs true a t] (.tuple #[iv 0,iv 0]):=by
  refine V.fo mo Tryz.func8 18 1 fun w H ε k0=>?_;clear k0
  refine V.gf [.n 0,.u 2] fun _ _ G1=>?_;intro S s
  refine V.gf [.l 0,.u 1,.cA 2 19 [kA 0 b j,kA 1 c k,kA 2 g m,kA 3 h o,kA 4 d p,kA 5 e q,kA 6 f r,kA 7 a t] fun G=>plook_ct i b j c k g m h o d p e q f r a t recipe hS hL hR hr hG,.u 7] fun _ _ G2=>?_;intro S s
  refine V.gf [.u 4] fun _ _ G3=>?_;intro S s
  exact V.rS [0,0] [] [] [] [] []

open Go Go.Proofs
set_option maxRecDepth 10000 in
theorem wflow_ct (F:ByteArray) (j:List DImport) (z:SV) (i:List DInput) (A:SV) (p:List DTable) (B:SV) (q:List DFunc) (C:SV) (e:List DCell) (x:SV) (k:List DPort) (D:SV) (o:List DStore) (E:SV) (d:List DRecipe) (t:SV) (recipe:Int) (cells:List DSpan) (cellss:SV) (i0:Int) (hS:Sx.Sml F j i p q e k o d) (hL:(j.length:Int)+i.length+p.length+q.length+e.length+k.length+o.length+d.length≤100000000) (hR:Sx.Rt F j i p q e k o d) (hr:0≤recipe∧recipe < (d.length:Int)) (hG:Pc.Good j i e k o (d.getD recipe.toNat default)) (hc:cells.length=e.length) (hP:Rc.Spl i e (d.getD recipe.toNat default).Steps.l cells.length i0) (h8:1≤cells.length∧cells.length≤8) (hW:Fr.Wb (cells.map (·.Low))) (hE:∀ c ∈ cells,Rc.sam c.Low c.High) (hH:∀ c ∈ cells,Fr.ln 17179869184 c.Low∧Fr.ln 17179869184 c.High) (hB:∀ r ∈ (Fr.shQ (cells.map (·.Low))),Fr.Hb r 147) :
    Ct Tryz.prog 9 #[ag (DSheet.mk F ⟨j,z⟩ ⟨i,A⟩ ⟨p,B⟩ ⟨q,C⟩ ⟨e,x⟩ ⟨k,D⟩ ⟨o,E⟩ ⟨d,t⟩),iv recipe,cellss.v] [fs true j z,fs true i A,fs true p B,fs true q C,fs true e x,fs true k D,fs true o E,fs true d t,fs true cells cellss] [] (fun g=>.tuple #[.agg #[((g.ss 0)).v,((g.ss 1)).v,((g.ss 2)).v],iv (Rc.flE cells),iv (Rc.flA cells)]) (fun g=>[]) (fun g=>[osE false 137 (fun _:List DSource=>True) (g.ss 0),osE false 141 (fun _:List DOut=>True) (g.ss 1),osE false 22 (fun l=>Rc.flE cells=0→Rc.rws l (Fr.shQ (cells.map (·.Low)))) (g.ss 2)]) (fun g=>[]):=by
  refine V.fo mo Tryz.func9 97 12 fun w H ε k0=>?_;clear k0
  refine V.gf [.n 0,.n 1,.u 2] fun _ _ G1=>?_;intro S_ s_
  refine V.gf [.u 1] fun _ _ G2=>?_;intro S_ s_
  refine nm ((!(decide (Sx.Rt F j i p q e k o d))) || (decide (recipe < 0)):Bool) fun p1 hp1=>?_;refine nm (p1 || (decide ((d.length:Int)≤recipe)):Bool) fun p2 hp2=>?_;refine nm (p2 || (!(decide ((cells.length:Int)=(e.length:Int)))):Bool) fun p3 hp3=>?_;refine nm (p3 || (cells.any (fun y:DSpan=>!decide (Rc.spR y))):Bool) fun p4 hp4=>?_;refine V.gf [.l 0,.cP 1 22 [kA 0 j z,kA 1 i A,kA 2 p B,kA 3 q C,kA 4 e x,kA 5 k D,kA 6 o E,kA 7 d t] fun G=>srgt_ct F j z i A p B q C e x k D o E d t hS hL,.u 4,.orn g0 false (!(decide (Sx.Rt F j i p q e k o d))) (decide (recipe < 0)) p1 hp1,.u 3,.l 0,.ln (kF 7 d t),.u 1,.orn g0 false p1 (decide ((d.length:Int)≤recipe)) p2 hp2,.u 2,.ln (kF 8 cells cellss),.u 1,.l 0,.ln (kF 4 e x),.u 1,.orn g0 false p2 (!(decide ((cells.length:Int)=(e.length:Int)))) p3 hp3,.u 3,.cp (gF (b:=p3) (iN hp3 (iOF (iN hp2 (iOF (iN hp1 (iOF (iNF iDT) iDF)) iDF)) (iNF iDT)))) 25 23 [kA 8 cells cellss] (fun hg G=>fwrk_ct cells cellss hH),.orn g0 false p3 (cells.any (fun y:DSpan=>!decide (Rc.spR y))) p4 hp4] fun _ _ G3=>?_;intro S_ s_
  refine V.cn (b:=p4) (iN hp4 (iOT (iN hp3 (iOT (iN hp2 (iOT (iN hp1 (iOT (iNT iDF) iDT)) iDT)) (iNT iDF))) Iff.rfl)) (iN hp4 (iOF (iN hp3 (iOF (iN hp2 (iOF (iN hp1 (iOF (iNF iDT) iDF)) iDF)) (iNF iDT))) Iff.rfl)) (fun q1=>?_) (fun q2=>?_)
  · have hA1:cells.any Rc.wrongS=true:=by have hqq:=q1;rcases hqq with (((h | h) | h) | h) | h;exact absurd hR h;omega;omega;omega;exact h
    refine V.gf [.u 1,.s 1,.u 2] fun _ _ G4=>?_;intro S_ s_
    refine V.on (α:=DSource) 2 137 (by kernel_rfl) ?_;refine V.on (α:=DOut) 3 141 (by kernel_rfl) ?_;refine V.on (α:=Fat DFrac) 4 22 (by kernel_rfl) ?_;have hR0:(fun _:List DSource=>True) ([]:List DSource):=by trivial
    refine V.clO (α:=DSource) 2 true 137 (fun _:List DSource=>True) ({}) ([]:List DSource) (by kernel_rfl) hR0 ?_;have hR1:(fun _:List DOut=>True) ([]:List DOut):=by trivial
    refine V.clO (α:=DOut) 3 true 141 (fun _:List DOut=>True) ({}) ([]:List DOut) (by kernel_rfl) hR1 ?_;have hR2:(fun l=>Rc.flE cells=0→Rc.rws l (Fr.shQ (cells.map (·.Low)))) ([]:List (Fat DFrac)):=by exact fun h=>absurd h (by rw [Rc.flE_1 hA1];decide)
    refine V.clO (α:=Fat DFrac) 4 true 22 (fun l=>Rc.flE cells=0→Rc.rws l (Fr.shQ (cells.map (·.Low)))) ({}) ([]:List (Fat DFrac)) (by kernel_rfl) hR2 ?_;have e3:(1:Int)=Rc.flE cells:=(Rc.flE_1 hA1).symm;have e4:(0:Int)=Rc.flA cells:=(Rc.flA_1 hA1).symm;exact V.rT [1,0,0] [] [] [] [] [2,3,4] (cong2 (fun (xz3 xz4:Int)=>(.tuple #[.agg #[SV.v ({}),SV.v ({}),SV.v ({})],iv xz3,iv xz4]:Value)) e3 e4)
  have hA0:¬ cells.any Rc.wrongS=true:=by have hqq:=q2;first | (intro h;exact hqq (.inr h)) | (intro h;rw [show cells.any (fun y=>!decide (Rc.spR y))=true from h] at hqq;simp at hqq) | (simp only [not_or] at hqq;exact hqq.2)
  have hRt:=Rc.any_rt hA0;refine V.gf [.l 0,.u 1,.cP 2 8 [kA 0 j z,kA 1 i A,kA 2 p B,kA 3 q C,kA 4 e x,kA 5 k D,kA 6 o E,kA 7 d t] fun G=>pchk_ct F j z i A p B q C e x k D o E d t recipe hS hL hR hr hG,.u 5] fun _ _ G5=>?_;intro S_ s_
  refine V.gf [.u 1,.kb false] fun _ _ G6=>?_;intro S_ s_
  refine V.condF (by kernel_rfl) ?_;refine V.gf [.l 0,.u 1,.mm ByteArray (Fat DFrac) 2 5 false,.u 1,.n 6,.u 1] fun _ _ G7=>?_;intro S_ s_
  refine nm (d.getD recipe.toNat default:DRecipe) fun x1 hx1=>?_;refine V.gf [.u 1,.l 0,.u 1,.iX (kF 7 d t) recipe,.u 1,.le g0 (kF 7 d t) recipe (some 1) true x1 hx1 (fun _=>⟨by omega,by omega⟩) false (fun _=>[x1.Steps.s.v]),.ln (kx false (.g 5 0) x1 x1.Steps.l (fun _=>x1.Steps.s) (fun _ _ h=>h)),.u 1] fun _ _ G8=>?_;intro S_ s_
  have hP1:=hP;rw [←hx1] at hP1;have hPl:=hP1.len;refine V.on (α:=DSource) 8 137 (by kernel_rfl) ?_;refine V.on (α:=DOut) 9 141 (by kernel_rfl) ?_;refine V.on (α:=Fat DFrac) 10 22 (by kernel_rfl) ?_;refine V.lp (γ:=Int × List DSource × SV × List DOut × SV × List (Fat DFrac) × SV × List (ByteArray × Fat DFrac)) (fun ⟨k0,w_11,w_11s,w_12,w_12s,w_13,w_13s,pm⟩=>⟨[(6,pp ((G1 1).b) 0),(12,pp ((G7 4).b) 0),(66,x1.Steps.s.v),(67,iv (x1.Steps.l.length:Int)),(68,iv k0)],[gf false x1,fs false j z,fs false i A,fs false p B,fs false q C,fs false e x,fs false k D,fs false o E,fs false d t,fs false cells cellss],[.blk ((G1 0).b) (ca (DSheet.mk F ⟨j,z⟩ ⟨i,A⟩ ⟨p,B⟩ ⟨q,C⟩ ⟨e,x⟩ ⟨k,D⟩ ⟨o,E⟩ ⟨d,t⟩)) 36,.blk ((G1 1).b) (ca (DFlow.mk ⟨[],{}⟩ ⟨[],{}⟩ ⟨[],{}⟩)) 65,.no,.no,.no,mp false false pm ((G7 2).b),.blk ((G7 4).b) #[tv F,z.v,A.v,B.v,C.v,x.v,D.v,E.v,t.v,cellss.v,.map (some ((G7 2).b)),w_11s.v,w_12s.v,w_13s.v] 87,.no,os true 137 w_11 w_11s,os true 141 w_12 w_12s,os false 22 w_13 w_13s,.no]⟩) (fun ⟨k0,w_11,w_11s,w_12,w_12s,w_13,w_13s,pm⟩=>(0≤k0)∧(k0≤(x1.Steps.l.length:Int))∧(Rc.PM (Fr.shQ (cells.map (·.Low))) k0 pm)∧(w_11=Rc.srcs k0 i0)∧(w_12=Rc.outs k0)∧(Rc.rws w_13 ((Fr.shQ (cells.map (·.Low))).take (k0-2).toNat))∧(2≤k0→Fr.shE (cells.map (·.Low))=0)) (fun ⟨k0,w_11,w_11s,w_12,w_12s,w_13,w_13s,pm⟩=>((x1.Steps.l.length:Int)-k0).toNat) (0,([]:List DSource),{},([]:List DOut),{},([]:List (Fat DFrac)),{},([]:List (ByteArray × Fat DFrac))) [9,0,1,2,3,4,5,6,7,8] ?_ ?_
  · refine ⟨?_,?_,?_,?_,?_,?_,?_⟩
    · show 0≤(0:Int)
      first | omega | rfl | (simp;done) | (subst_vars;simp;done)
    · show (0:Int)≤(x1.Steps.l.length:Int)
      first | omega | rfl | (simp;done) | (subst_vars;simp;done)
    · show Rc.PM (Fr.shQ (cells.map (·.Low))) (0:Int) ([]:List (ByteArray × Fat DFrac));exact Rc.PM_0
    · show ([]:List DSource)=Rc.srcs (0:Int) i0;rfl
    · show ([]:List DOut)=Rc.outs (0:Int);rfl
    · show Rc.rws ([]:List (Fat DFrac)) ((Fr.shQ (cells.map (·.Low))).take ((0:Int)-2).toNat);exact Rc.rws_nil
    show 2≤(0:Int)→Fr.shE (cells.map (·.Low))=0;intro h;omega
  rintro ⟨k0,w_11,w_11s,w_12,w_12s,w_13,w_13s,pm⟩ hF1 kw9 Z1 hZ1;have hF1:(0≤k0)∧(k0≤(x1.Steps.l.length:Int))∧(Rc.PM (Fr.shQ (cells.map (·.Low))) k0 pm)∧(w_11=Rc.srcs k0 i0)∧(w_12=Rc.outs k0)∧(Rc.rws w_13 ((Fr.shQ (cells.map (·.Low))).take (k0-2).toNat))∧(2≤k0→Fr.shE (cells.map (·.Low))=0):=hF1;obtain ⟨hf1,hf2,hf3,hf4,hf5,hf6,hf7⟩:=hF1;refine V.gf [.u 1] fun _ _ G9=>?_;intro S_ s_;refine V.cn (b:=decide (k0 < (x1.Steps.l.length:Int))) iDT iDF (fun q3=>?_) (fun q4=>?_)
  · refine nm (x1.Steps.l.getD k0.toNat default:DStep) fun x2 hx2=>?_;refine V.gf [.u 1,.iX (kx false (.f 0) x1 x1.Steps.l (fun _=>x1.Steps.s) (fun _ _ h=>h)) k0,.lE (kx false (.f 0) x1 x1.Steps.l (fun _=>x1.Steps.s) (fun _ _ h=>h)) k0 true x2 hx2 true,.n 7,.u 1,.s 7] fun _ _ G10=>?_;intro S_ s_
    refine V.gf [.u 1,.l 7,.u 1] fun _ _ G11=>?_;intro S_ s_
    refine V.cn (b:=decide (x2.Kind=3)) iDT iDF (fun q5=>?_) (fun q6=>?_)
    · have hk3:x2.Kind=3:=q5;have hkk:k0=1:=by rcases Int.lt_or_le k0 2 with h | h;rcases (by omega:k0=0∨k0=1) with h | h;exact absurd ((hP1.s0 x2 (by rw [hx2,h];rfl)).1.symm.trans hk3) (by decide);exact h;exact absurd ((hP1.s2 (k0-2).toNat (by omega) x2 (by rw [hx2];congr 1;omega)).1.symm.trans hk3) (by decide)
      have hs1:=hP1.s1 x2 (by rw [hx2,hkk];rfl);refine V.gf [.u 1,.l 7,.ct g0 2 24 true [6,5,8,9,10] [11] [kA 1 j z,kA 2 i A,kA 3 p B,kA 4 q C,kA 5 e x,kA 6 k D,kA 7 o E,kA 8 d t,kA 9 cells cellss,(kx false (.f 10) x2 x2.In.l (fun _=>x2.In.s) (fun _ H (h:Dat.good H (x2:DStep))=>h.1)).a,(kx false (.f 10) x2 x2.Out.l (fun _=>x2.Out.s) (fun _ H (h:Dat.good H (x2:DStep))=>h.2.1)).a,(kx false (.f 10) x2 x2.Cells.l (fun _=>x2.Cells.s) (fun _ H (h:Dat.good H (x2:DStep))=>h.2.2)).a] (fun _ G=>wwt_ct ((G7 4).b) F j z i A p B q C e x k D o E d t cells cellss pm ((G7 2).b) w_11 w_11s w_12 w_12s w_13 w_13s x2.Kind x2.In.l x2.In.s x2.Out.l x2.Out.s x2.Name x2.Cells.l x2.Cells.s x2.Amount hs1.2.2.2.1 hs1.2.2.2.2 hW hRt hE (by omega) (fun c hc=>(hH c hc).2)),.u 5] fun _ _ G12=>?_;intro S_ s_
      refine V.gf [.u 2] fun _ _ G13=>?_;intro S_ s_
      refine V.cn (b:=!(decide (Fr.shE (cells.map (·.Low))=0))) (iNT iDF) (iNF iDT) (fun q7=>?_) (fun q8=>?_)
      · have hsN:Fr.shE (cells.map (·.Low))≠0:=q7;refine V.gf [.u 3,.s 1,.u 2] fun _ _ G14=>?_;intro S_ s_
        refine V.on (α:=DSource) 2 137 (by kernel_rfl) ?_;refine V.on (α:=DOut) 3 141 (by kernel_rfl) ?_;refine V.on (α:=Fat DFrac) 4 22 (by kernel_rfl) ?_;have hR0:(fun _:List DSource=>True) ([]:List DSource):=by trivial
        refine V.clO (α:=DSource) 2 true 137 (fun _:List DSource=>True) ({}) ([]:List DSource) (by kernel_rfl) hR0 ?_;have hR1:(fun _:List DOut=>True) ([]:List DOut):=by trivial
        refine V.clO (α:=DOut) 3 true 141 (fun _:List DOut=>True) ({}) ([]:List DOut) (by kernel_rfl) hR1 ?_;have hR2:(fun l=>Rc.flE cells=0→Rc.rws l (Fr.shQ (cells.map (·.Low)))) ([]:List (Fat DFrac)):=by exact fun h=>absurd h (by rw [Rc.flE_2 hA0];exact hsN)
        refine V.clO (α:=Fat DFrac) 4 true 22 (fun l=>Rc.flE cells=0→Rc.rws l (Fr.shQ (cells.map (·.Low)))) ({}) ([]:List (Fat DFrac)) (by kernel_rfl) hR2 ?_;have e3:(Fr.shE (cells.map (·.Low)))=Rc.flE cells:=(Rc.flE_2 hA0).symm;have e4:k0=Rc.flA cells:=by rw [hkk];exact (Rc.flA_2 hA0 hsN).symm
        exact V.rT [1,0,0] [] [] [] [] [2,3,4] (cong2 (fun (xz3 xz4:Int)=>(.tuple #[.agg #[SV.v ({}),SV.v ({}),SV.v ({})],iv xz3,iv xz4]:Value)) e3 e4)
      have hsE:Fr.shE (cells.map (·.Low))=0:=by have hqq:=q8;first | exact hqq | exact Decidable.not_not.1 hqq
      have hE1:1≤k0→Fr.shE (cells.map (·.Low))=0:=by first | exact fun _=>hsE | exact fun h=>hf7 (by omega)
      have hVl:1≤k0→(Fr.shQ (cells.map (·.Low))).length=cells.length:=fun h=>by rw [Fr.shQ_len (hE1 h),List.length_map]
      have hV8:=Rc.shQ_le (cells.map (·.Low));rw [List.length_map] at hV8;have hkk2:0≤k0∧k0 < ((Fr.shQ (cells.map (·.Low))).length:Int)+2:=by rcases Int.lt_or_le k0 2 with h | h;omega;have:=hVl (by omega);omega
      refine V.gf [.u 1,.l 7,.ct g0 2 25 true [6,5,8,9,10] [] [kA 1 j z,kA 2 i A,kA 3 p B,kA 4 q C,kA 5 e x,kA 6 k D,kA 7 o E,kA 8 d t,kA 9 cells cellss,(kx false (.f 10) x2 x2.In.l (fun _=>x2.In.s) (fun _ H (h:Dat.good H (x2:DStep))=>h.1)).a,(kx false (.f 10) x2 x2.Out.l (fun _=>x2.Out.s) (fun _ H (h:Dat.good H (x2:DStep))=>h.2.1)).a,(kx false (.f 10) x2 x2.Cells.l (fun _=>x2.Cells.s) (fun _ H (h:Dat.good H (x2:DStep))=>h.2.2)).a] (fun _ G=>wstp_ct ((G7 4).b) F j z i A p B q C e x k D o E d t cells cellss pm ((G7 2).b) w_11 w_11s w_12 w_12s w_13 w_13s x2.Kind x2.In.l x2.In.s x2.Out.l x2.Out.s x2.Name x2.Cells.l x2.Cells.s x2.Amount k0 i0 hkk2 (by omega) hB (fun h=>hP1.s0 x2 (by rw [hx2,h];rfl)) (fun h=>by have h2:=hP1.s1 x2 (by rw [hx2,h];rfl);rw [hVl (by omega)];exact ⟨h2.1,h2.2.1,h2.2.2.1⟩) (fun h=>hP1.s2 (k0-2).toNat (by omega) x2 (by rw [hx2];congr 1;omega)) (fun h=>(hP1.s1 x2 (by rw [hx2,h];rfl)).2.2.2) hW hRt hE (by omega) (fun c hc=>(hH c hc).2) hf4 hf3 hf5 hf6)] fun _ _ G15=>?_;intro S_ s_
      refine V.opM 5 false false (fun m=>Rc.PM (Fr.shQ (cells.map (·.Low))) (k0+1) m) ((G7 2).b) (by kernel_rfl) fun m1 hm1=>?_;refine V.opO (α:=DSource) 8 true 137 (fun l=>l=Rc.srcs (k0+1) i0) ((G15 2).ss 0) (by kernel_rfl) fun l1 hl1=>?_;refine V.opO (α:=DOut) 9 true 141 (fun l=>l=Rc.outs (k0+1)) ((G15 2).ss 1) (by kernel_rfl) fun l2 hl2=>?_;refine V.opO (α:=Fat DFrac) 10 false 22 (fun l=>Rc.rws l ((Fr.shQ (cells.map (·.Low))).take (k0+1-2).toNat)) ((G15 2).ss 2) (by kernel_rfl) fun l3 hl3=>?_;refine V.gf [.aa (k0+1),.u 1] fun _ _ G16=>?_;intro S_ s_
      refine V.rn hZ1 (k0+1,l1,(G15 2).ss 0,l2,(G15 2).ss 1,l3,(G15 2).ss 2,m1) [0,1,2,3,4,5,6,7,8,9] ?_ ?_
      · refine ⟨?_,?_,?_,?_,?_,?_,?_⟩
        · show 0≤(k0+1);omega
        · show (k0+1)≤(x1.Steps.l.length:Int);omega
        · show Rc.PM (Fr.shQ (cells.map (·.Low))) (k0+1) m1;exact hm1
        · show l1=Rc.srcs (k0+1) i0;exact hl1
        · show l2=Rc.outs (k0+1);exact hl2
        · show Rc.rws l3 ((Fr.shQ (cells.map (·.Low))).take ((k0+1)-2).toNat);exact hl3
        show 2≤(k0+1)→Fr.shE (cells.map (·.Low))=0;exact fun h=>hE1 (by omega)
      show ((x1.Steps.l.length:Int)-(k0+1)).toNat < ((x1.Steps.l.length:Int)-k0).toNat;omega
    have hk1:k0≠1:=fun h=>q6 (hP1.s1 x2 (by rw [hx2,h];rfl)).1
    have hE1:1≤k0→Fr.shE (cells.map (·.Low))=0:=by first | exact fun _=>hsE | exact fun h=>hf7 (by omega)
    have hVl:1≤k0→(Fr.shQ (cells.map (·.Low))).length=cells.length:=fun h=>by rw [Fr.shQ_len (hE1 h),List.length_map]
    have hV8:=Rc.shQ_le (cells.map (·.Low));rw [List.length_map] at hV8;have hkk2:0≤k0∧k0 < ((Fr.shQ (cells.map (·.Low))).length:Int)+2:=by rcases Int.lt_or_le k0 2 with h | h;omega;have:=hVl (by omega);omega
    refine V.gf [.u 1,.l 7,.ct g0 2 25 true [6,5,8,9,10] [] [kA 1 j z,kA 2 i A,kA 3 p B,kA 4 q C,kA 5 e x,kA 6 k D,kA 7 o E,kA 8 d t,kA 9 cells cellss,(kx false (.f 10) x2 x2.In.l (fun _=>x2.In.s) (fun _ H (h:Dat.good H (x2:DStep))=>h.1)).a,(kx false (.f 10) x2 x2.Out.l (fun _=>x2.Out.s) (fun _ H (h:Dat.good H (x2:DStep))=>h.2.1)).a,(kx false (.f 10) x2 x2.Cells.l (fun _=>x2.Cells.s) (fun _ H (h:Dat.good H (x2:DStep))=>h.2.2)).a] (fun _ G=>wstp_ct ((G7 4).b) F j z i A p B q C e x k D o E d t cells cellss pm ((G7 2).b) w_11 w_11s w_12 w_12s w_13 w_13s x2.Kind x2.In.l x2.In.s x2.Out.l x2.Out.s x2.Name x2.Cells.l x2.Cells.s x2.Amount k0 i0 hkk2 (by omega) hB (fun h=>hP1.s0 x2 (by rw [hx2,h];rfl)) (fun h=>by have h2:=hP1.s1 x2 (by rw [hx2,h];rfl);rw [hVl (by omega)];exact ⟨h2.1,h2.2.1,h2.2.2.1⟩) (fun h=>hP1.s2 (k0-2).toNat (by omega) x2 (by rw [hx2];congr 1;omega)) (fun h=>(hP1.s1 x2 (by rw [hx2,h];rfl)).2.2.2) hW hRt hE (by omega) (fun c hc=>(hH c hc).2) hf4 hf3 hf5 hf6)] fun _ _ G17=>?_;intro S_ s_
    refine V.opM 5 false false (fun m=>Rc.PM (Fr.shQ (cells.map (·.Low))) (k0+1) m) ((G7 2).b) (by kernel_rfl) fun m2 hm2=>?_;refine V.opO (α:=DSource) 8 true 137 (fun l=>l=Rc.srcs (k0+1) i0) ((G17 2).ss 0) (by kernel_rfl) fun l4 hl4=>?_;refine V.opO (α:=DOut) 9 true 141 (fun l=>l=Rc.outs (k0+1)) ((G17 2).ss 1) (by kernel_rfl) fun l5 hl5=>?_;refine V.opO (α:=Fat DFrac) 10 false 22 (fun l=>Rc.rws l ((Fr.shQ (cells.map (·.Low))).take (k0+1-2).toNat)) ((G17 2).ss 2) (by kernel_rfl) fun l6 hl6=>?_;refine V.gf [.aa (k0+1),.u 1] fun _ _ G18=>?_;intro S_ s_
    refine V.rn hZ1 (k0+1,l4,(G17 2).ss 0,l5,(G17 2).ss 1,l6,(G17 2).ss 2,m2) [0,1,2,3,4,5,6,7,8,9] ?_ ?_
    · refine ⟨?_,?_,?_,?_,?_,?_,?_⟩
      · show 0≤(k0+1);omega
      · show (k0+1)≤(x1.Steps.l.length:Int);omega
      · show Rc.PM (Fr.shQ (cells.map (·.Low))) (k0+1) m2;exact hm2
      · show l4=Rc.srcs (k0+1) i0;exact hl4
      · show l5=Rc.outs (k0+1);exact hl5
      · show Rc.rws l6 ((Fr.shQ (cells.map (·.Low))).take ((k0+1)-2).toNat);exact hl6
      show 2≤(k0+1)→Fr.shE (cells.map (·.Low))=0;exact fun h=>hE1 (by omega)
    show ((x1.Steps.l.length:Int)-(k0+1)).toNat < ((x1.Steps.l.length:Int)-k0).toNat;omega
  have hsE2:Fr.shE (cells.map (·.Low))=0:=hf7 (by omega);have hVl:=Fr.shQ_len hsE2;rw [List.length_map] at hVl;refine V.gf [.u 1,.ct g0 1 26 true [6,5,8,9,10] [] [kA 1 j z,kA 2 i A,kA 3 p B,kA 4 q C,kA 5 e x,kA 6 k D,kA 7 o E,kA 8 d t,kA 9 cells cellss] (fun _ G=>wfil_ct ((G7 4).b) F j z i A p B q C e x k D o E d t cells cellss pm ((G7 2).b) w_11 w_11s w_12 w_12s w_13 w_13s (Fr.shQ (cells.map (·.Low))) (by rw [hf4];unfold Rc.srcs;rw [if_neg (by omega)];rfl) (by have h:=hf6;rwa [List.take_of_length_le (by omega)] at h) (fun r hr=>(hB r hr).mono (by omega)))] fun _ _ G19=>?_;intro S_ s_
  refine V.opO (α:=Fat DFrac) 10 false 22 (fun l=>Rc.rws l (Fr.shQ (cells.map (·.Low)))) ((G19 1).ss 0) (by kernel_rfl) fun l7 hl7=>?_;refine V.gf [.u 3,.l 6,.s 1,.u 2] fun _ _ G20=>?_;intro S_ s_
  have hR0:(fun _:List DSource=>True) w_11:=by trivial
  refine V.clO (α:=DSource) 8 false 137 (fun _:List DSource=>True) w_11s w_11 (by kernel_rfl) hR0 ?_;have hR1:(fun _:List DOut=>True) w_12:=by trivial
  refine V.clO (α:=DOut) 9 false 141 (fun _:List DOut=>True) w_12s w_12 (by kernel_rfl) hR1 ?_;have hR2:(fun l=>Rc.flE cells=0→Rc.rws l (Fr.shQ (cells.map (·.Low)))) l7:=fun _=>hl7
  refine V.clO (α:=Fat DFrac) 10 false 22 (fun l=>Rc.flE cells=0→Rc.rws l (Fr.shQ (cells.map (·.Low)))) ((G19 1).ss 0) l7 (by kernel_rfl) hR2 ?_;have e3:(0:Int)=Rc.flE cells:=by rw [Rc.flE_2 hA0];exact hsE2.symm
  have e4:(0:Int)=Rc.flA cells:=(Rc.flA_3 hA0 hsE2).symm;exact V.rT [1,0,0] [w_11s,w_12s,(G19 1).ss 0] [] [] [] [8,9,10] (cong2 (fun (xz3 xz4:Int)=>(.tuple #[.agg #[w_11s.v,w_12s.v,((G19 1).ss 0).v],iv xz3,iv xz4]:Value)) e3 e4)

open Go
structure DRecB where
  Kind:ByteArray:=ByteArray.empty
  Steps:SV:={}
instance : Dat DRecB where
  default := {}
  size := 2
  cells x := [tv x.Kind, x.Steps.v]
  good _ _ := True
  len _ := rfl
  one _ _ _ u hu := by simp at hu; rcases hu with rfl | rfl <;> rfl
  mono _ _ _ _ _ := trivial
  zero _ := trivial
namespace Rd
open Fr Rc
abbrev Sh:=Int × List ByteArray × List ByteArray × ByteArray × List ByteArray × Int
def sh (x:DStep):Sh:=(x.Kind,x.In.l,x.Out.l,x.Name,x.Cells.l,x.Amount)
def un (y:Sh):DStep:=⟨y.1,⟨y.2.1,{}⟩,⟨y.2.2.1,{}⟩,y.2.2.2.1,⟨y.2.2.2.2.1,{}⟩,y.2.2.2.2.2⟩
theorem sh_uns (l:List Sh):(l.map un).map sh=l:=by
  rw [List.map_map]
  exact List.map_id _
def cN (n:Nat):List ByteArray:=(List.range n).map (dg 99)
def in_:ByteArray:=⟨#[105,110]⟩
def ene:ByteArray:=⟨#[101,110,101,114,103,121]⟩
def jou:ByteArray:=⟨#[74]⟩
def nmA:ByteArray:=⟨#[97]⟩
def inp:List DInput:=[⟨in_,jou,ene⟩]
def cel (j:Nat):DCell:=⟨dg 99 j,ByteArray.empty,⟨0,(j:Int),ByteArray.empty,ByteArray.empty,{}⟩⟩
def cels (n:Nat):List DCell:=(List.range n).map cel
def los (j:Nat):Sh:=(7,[dg 112 j],[],dg 108 j,[],0)
def can (n:Nat):List Sh:=(0,[],[all_],in_,[],0) :: (3,[all_],pN n,ByteArray.empty,cN n,0) :: (List.range n).map los
def cst (n:Nat):List DStep:=(can n).map un
theorem can_len (n:Nat):(can n).length=n+2:=by simp [can]
theorem cN_len (n:Nat):(cN n).length=n:=by simp [cN]
section
variable {l m : List DStep}
theorem sh_at {c:List Sh} {j:Nat} {y:Sh} (h:l.map sh=c) (hy:c[j]?=some y):sh (l.getD j default)=y:=by
  have:=congrArg (fun z:List Sh=>z[j]?) h
  simp only [List.getElem?_map,hy] at this
  obtain ⟨x,hx,e⟩:=Option.map_eq_some_iff.1 this
  rw [List.getD_eq_getElem?_getD,hx];exact e
theorem sh_len (h:l.map sh=m.map sh):l.length=m.length:=by
  have:=congrArg List.length h
  simpa using this
theorem sh_get (h:l.map sh=m.map sh) (j:Nat):sh (l.getD j default)=sh (m.getD j default):=by
  have:=congrArg (fun z:List Sh=>z[j]?) h
  simp only [List.getElem?_map] at this
  rw [List.getD_eq_getElem?_getD,List.getD_eq_getElem?_getD]
  cases h1:l[j]? with
  | none =>
    cases h2:m[j]? with
    | none=>rfl
    | some y=>rw [h1,h2] at this;cases this
  | some x =>
    cases h2:m[j]? with
    | none=>rw [h1,h2] at this;cases this
    | some y=>rw [h1,h2] at this;simpa using this
theorem sh_eqs {x y:DStep} (h:sh x=sh y):x.Kind=y.Kind∧x.In.l=y.In.l∧x.Out.l=y.Out.l∧x.Name=y.Name∧x.Cells.l=y.Cells.l∧x.Amount=y.Amount:=by
  unfold sh at h
  simpa using h
theorem had_sh (h:l.map sh=m.map sh):∀ j,Pc.hadN l j=Pc.hadN m j
  | 0=>rfl
  | j+1=>by
    obtain ⟨h1,h2,h3,h4,_,_⟩:=sh_eqs (sh_get h j)
    show Pc.hadS (Pc.hadN l j) _ _ _ _ _=Pc.hadS (Pc.hadN m j) _ _ _ _ _
    rw [had_sh h j,h1,h2,h3,h4]
theorem ok_sh (h:l.map sh=m.map sh) (c:List DCell) (i:List DInput) (k:ByteArray):Pc.okR c i k l=Pc.okR c i k m:=by
  unfold Pc.okR
  rw [sh_len h]
  congr 1
  · congr 1
    · congr 1
      funext j
      obtain ⟨h1,h2,h3,h4,h5,_⟩:=sh_eqs (sh_get h j)
      show Pc.okS _ _ _ _ _ _ _ _ _ _=Pc.okS _ _ _ _ _ _ _ _ _ _
      rw [had_sh h j,h1,h2,h3,h4,h5]
    · have e:∀ z:List DStep,(z.all fun x=>x.Out.l.all fun p=>(mlook (Pc.th 0 p) (Pc.hadN m m.length)).isSome)=(z.map sh).all fun y=>y.2.2.1.all fun p=>(mlook (Pc.th 0 p) (Pc.hadN m m.length)).isSome:=fun z=>by rw [List.all_map];rfl
      have e2:(l.all fun x=>x.Out.l.all fun p=>(mlook (Pc.th 0 p) (Pc.hadN l m.length)).isSome)=l.all fun x=>x.Out.l.all fun p=>(mlook (Pc.th 0 p) (Pc.hadN m m.length)).isSome:=by rw [had_sh h]
      rw [e2,e l,e m,h]
  · rw [had_sh h]
theorem rec_sh (h:l.map sh=m.map sh) (k:ByteArray) (s s':SV):Sx.recI ⟨k,⟨l,s⟩⟩=Sx.recI ⟨k,⟨m,s'⟩⟩:=by
  have e:∀ z:List DStep,z.any Sx.stpB=(z.map sh).any fun y=>!decide (Sx.stp y.1 y.2.1 y.2.2.1 y.2.2.2.1 y.2.2.2.2.1 y.2.2.2.2.2):=fun z=>by rw [List.any_map];rfl
  show (k,true,decide ((l.length:Int)≤100) && !l.any Sx.stpB)=(k,true,decide ((m.length:Int)≤100) && !m.any Sx.stpB)
  rw [sh_len h,e l,e m,h]
theorem Rt_sh (h:l.map sh=m.map sh) {nm:ByteArray} {a b t f c p d} {k:ByteArray} {s s':SV} (hR:Sx.Rt nm a b t f c p d [⟨k,⟨m,s'⟩⟩]):Sx.Rt nm a b t f c p d [⟨k,⟨l,s⟩⟩]:=by
  obtain ⟨h1,h2⟩:=hR
  refine ⟨h1,?_⟩
  unfold Sx.reS at h2 ⊢
  rw [List.map_singleton] at h2 ⊢
  rw [rec_sh h k s s'];exact h2
theorem sh_mem {c:List Sh} (h:l.map sh=c) {p:Sh→Prop} (hc:∀ y ∈ c,p y):∀ x ∈ l,p (sh x):=fun x hx=>hc _ (by rw [←h];exact List.mem_map_of_mem hx)
end
theorem rt_n:∀ n,n < 9→1≤n→Sx.Rt nmA [] inp [] [] (cels n) [] [] [⟨ene,⟨cst n,{}⟩⟩]:=by decide +kernel
theorem ok_n:∀ n,n < 9→1≤n→Pc.okR (cels n) inp ene (cst n)=true:=by decide +kernel
theorem fx_n:∀ n,n < 9→∀ i,i < n→fidx (fun y:DCell=>decide (y.Name=dg 99 i)) (cels n)=(i:Int):=by decide +kernel
theorem sz_n:∀ n,n < 9→∀ y ∈ can n,(((y.2.1.length:Int)≤1000∧(y.2.2.1.length:Int)≤1000∧(y.1=0∨y.1=3∨y.1=7))∧y.2.2.2.1.size≤100∧(∀ s ∈ y.2.1,s.size≤100)∧(∀ s ∈ y.2.2.1,s.size≤100)∧∀ s ∈ y.2.2.2.2.1,s.size≤100):=by decide +kernel
theorem fi_n:fidx (fun y:DInput=>decide (y.Name=in_)) inp=0:=by decide +kernel
section
variable {l : List DStep} {n : Nat} (h : l.map sh = can n) (h8 : n < 9) (h1 : 1 ≤ n)
include h h8
theorem len_n:l.length=n+2:=by rw [←List.length_map (f:=sh),h,can_len]
theorem good_n (h1:1≤n) (s:SV):Pc.Good [] inp (cels n) [] [] ⟨ene,⟨l,s⟩⟩ where
  na:=rfl
  nd:=rfl
  np:=rfl
  ok:=(ok_sh (h.trans (sh_uns _).symm) _ _ _).trans (ok_n n h8 h1)
  kinds:=fun y hy=>by rw [List.mem_singleton.1 hy]
  steps:=fun y hy=>(sh_mem h (sz_n n h8) y hy).1
  len:=by have:=len_n h h8;show (l.length:Int)≤1000;omega
theorem Rt_n (h1:1≤n) (s:SV):Sx.Rt nmA [] inp [] [] (cels n) [] [] [⟨ene,⟨l,s⟩⟩]:=Rt_sh (h.trans (sh_uns _).symm) (rt_n n h8 h1)
theorem Sml_n (s:SV):Sx.Sml nmA [] inp [] [] (cels n) [] [] [⟨ene,⟨l,s⟩⟩] where
  nm:=by decide
  imp:=fun x hx=>by cases hx
  inp:=fun x hx=>by rw [List.mem_singleton.1 hx];exact ⟨by decide,by decide,by decide⟩
  tab:=fun x hx=>by cases hx
  fun_:=fun x hx=>by cases hx
  cel:=fun x hx=>by
    obtain ⟨j,_,rfl⟩:=List.mem_map.1 hx
    exact ⟨by show 2≤_;decide,by show 0≤_;decide,⟨by decide,by decide⟩,trivial⟩
  por:=fun x hx=>by cases hx
  sto:=fun x hx=>by cases hx
  rec_:=fun x hx=>by
    rw [List.mem_singleton.1 hx]
    refine ⟨by show ene.size≤_;decide,fun y hy=>?_⟩
    obtain ⟨_,k1,k2,k3,k4⟩:=sh_mem h (sz_n n h8) y hy
    exact ⟨by show y.Name.size≤_;have k1':y.Name.size≤100:=k1;omega,fun s hs=>by have:=k2 s hs;show s.size≤_;omega,fun s hs=>by have:=k3 s hs;show s.size≤_;omega,fun s hs=>by have:=k4 s hs;show s.size≤_;omega⟩
theorem spl_n:Spl inp (cels n) l n 0 where
  len:=len_n h h8
  s0:=fun x hx=>by
    have e:=sh_at h (j:=0) (y:=(0,[],[all_],in_,[],0)) rfl
    rw [←hx] at e
    obtain ⟨e1,e2,e3,e4,e5,e6⟩:x.Kind=0∧x.In.l=[]∧x.Out.l=[all_]∧x.Name=in_∧x.Cells.l=[]∧x.Amount=0:=by unfold sh at e;simpa using e
    exact ⟨e1,e3,by rw [e4];exact fi_n⟩
  s1:=fun x hx=>by
    have e:=sh_at h (j:=1) (y:=(3,[all_],pN n,ByteArray.empty,cN n,0)) rfl
    rw [←hx] at e
    obtain ⟨e1,e2,e3,e4,e5,e6⟩:x.Kind=3∧x.In.l=[all_]∧x.Out.l=pN n∧x.Name=ByteArray.empty∧x.Cells.l=cN n∧x.Amount=0:=by unfold sh at e;simpa using e
    refine ⟨e1,e2,e3,by rw [e5,cN_len],fun i hi=>?_⟩
    rw [e5,cN_len] at hi
    have:(cN n).getD i default=dg 99 i:=by
      unfold cN
      rw [List.getD_eq_getElem?_getD,List.getElem?_map,List.getElem?_range hi];rfl
    rw [e5,this];exact fx_n n h8 i hi
  s2:=fun j hj x hx=>by
    have hy:(can n)[j+2]?=some (los j):=by
      show ((List.range n).map los)[j]?=_
      rw [List.getElem?_map,List.getElem?_range hj];rfl
    have e:=sh_at h hy
    rw [←hx] at e
    obtain ⟨e1,e2,e3,e4,e5,e6⟩:x.Kind=7∧x.In.l=[dg 112 j]∧x.Out.l=[]∧x.Name=dg 108 j∧x.Cells.l=[]∧x.Amount=0:=by unfold sh los at e;simpa using e
    exact ⟨e1,e2,e4⟩
end
theorem steps_can {l0 l1 l2:List DStep} {n:Nat} (h0:l0.map sh=[(0,[],[all_],in_,[],0)]) (h1:l1.map sh=[(3,[all_],pN n,ByteArray.empty,cN n,0)]) (h2:l2.map sh=(List.range n).map los):(l0 ++l1 ++l2).map sh=can n:=by
  rw [List.map_append,List.map_append,h0,h1,h2];rfl
theorem range_snoc {α:Type} {f:Nat→α} {k:Int} (h:0≤k):(List.range k.toNat).map f ++[f k.toNat]=(List.range (k+1).toNat).map f:=by
  rw [show (k+1).toNat=k.toNat+1 by omega,List.range_succ,List.map_append];rfl
theorem take_snoc {α:Type} [Inhabited α] {l:List α} {k:Int} {x:α} (h0:0≤k) (hk:k < l.length) (hx:x=l.getD k.toNat default):l.take (k+1).toNat=l.take k.toNat ++[x]:=by
  have hk':k.toNat < l.length:=by omega
  have e:l[k.toNat]=x:=by rw [hx,List.getD_eq_getElem?_getD,List.getElem?_eq_getElem hk'];rfl
  rw [show (k+1).toNat=k.toNat+1 by omega,List.take_add_one,List.getElem?_eq_getElem hk',e];rfl
theorem pts_mem:∀ {l:List DFrac} {m:List DSpan},pts l m→∀ c ∈ m,∃ x ∈ l,pnt x c
  | [],[],_,d,hd=>by cases hd
  | [],c :: m,h,d,hd=>h.elim
  | x :: l,[],h,d,hd=>h.elim
  | x :: l,c :: m,h,d,hd=>by
    rcases List.mem_cons.1 hd with rfl | hd
    · exact ⟨x,List.mem_cons_self,h.1⟩
    · obtain ⟨y,hy,k⟩:=pts_mem h.2 d hd
      exact ⟨y,List.mem_cons_of_mem _ hy,k⟩
theorem pts_mem':∀ {l:List DFrac} {m:List DSpan},pts l m→∀ x ∈ l,∃ c ∈ m,pnt x c
  | [],[],_,d,hd=>by cases hd
  | [],c :: m,h,d,hd=>h.elim
  | x :: l,[],h,d,hd=>h.elim
  | x :: l,c :: m,h,d,hd=>by
    rcases List.mem_cons.1 hd with rfl | hd
    · exact ⟨c,List.mem_cons_self,h.1⟩
    · obtain ⟨y,hy,k⟩:=pts_mem' h.2 d hd
      exact ⟨y,List.mem_cons_of_mem _ hy,k⟩
theorem cpy_ln {x y:DFrac} {k:Nat} (h:cpy x y) (hx:ln k x):ln k y:=by
  obtain ⟨_,h2,_,h4⟩:=h
  unfold ln at hx ⊢
  rw [h2,h4]
  unfold pl
  split
  · exact hx
  · exact ⟨Nat.zero_le _,Nat.zero_le _⟩
theorem pnt_sam {x:DFrac} {c:DSpan} (h:pnt x c):sam c.Low c.High:=by
  obtain ⟨⟨a1,a2,a3,a4⟩,b1,b2,b3,b4⟩:=h
  exact ⟨a1.trans b1.symm,a2.trans b2.symm,a3.trans b3.symm,a4.trans b4.symm⟩
theorem pnt_spR {x:DFrac} {c:DSpan} (h:pnt x c):spR c↔rt x:=by
  refine ⟨fun k=>h.1.rt.1 k.1,fun k=>⟨h.1.rt.2 k,h.2.rt.2 k,?_⟩⟩
  rw [h.1.qv k,h.2.qv k,cmpQ_zero.2 rfl];exact Int.le_refl _
theorem pts_q:∀ {l:List DFrac} {m:List DSpan},pts l m→(∀ x ∈ l,rt x)→(m.map (·.Low)).map qv=l.map qv
  | [],[],_,_=>rfl
  | [],c :: m,h,_=>h.elim
  | x :: l,[],h,_=>h.elim
  | x :: l,c :: m,h,k=>by
    rw [List.map_cons,List.map_cons,List.map_cons,h.1.1.qv (k x List.mem_cons_self),pts_q h.2 fun y hy=>k y (List.mem_cons_of_mem _ hy)]
section
variable {l : List DFrac} {m : List DSpan} (h : pts l m)
include h
theorem few_low (hF:few30 l):few30 (m.map (·.Low)):=by
  refine ⟨by rw [List.length_map,h.len];exact hF.1,fun y hy=>?_⟩
  obtain ⟨c,hc,rfl⟩:=List.mem_map.1 hy
  obtain ⟨x,hx,k⟩:=pts_mem h c hc
  exact cpy_ln k.1 (hF.2 x hx)
theorem ln_both (hF:few30 l) {k:Nat} (hk:6≤k):∀ c ∈ m,ln k c.Low∧ln k c.High:=fun c hc=>by
  obtain ⟨x,hx,q⟩:=pts_mem h c hc
  have h1:=cpy_ln q.1 (hF.2 x hx)
  have h2:=cpy_ln q.2 (hF.2 x hx)
  unfold ln at h1 h2 ⊢
  omega
theorem sam_all:∀ c ∈ m,sam c.Low c.High:=fun c hc=>by
  obtain ⟨x,hx,q⟩:=pts_mem h c hc
  exact pnt_sam q
theorem fl_rt (hr:∀ x ∈ l,rt x):flE m=shE l∧shQ (m.map (·.Low))=shQ l:=by
  have h1:¬ m.any wrongS=true:=fun k=>by
    obtain ⟨c,hc,e⟩:=List.any_eq_true.1 k
    obtain ⟨x,hx,q⟩:=pts_mem h c hc
    unfold wrongS at e
    rw [decide_eq_true ((pnt_spR q).2 (hr x hx))] at e;cases e
  have h2:Frs (m.map (·.Low)) (l.map qv):=⟨fun y hy=>by
    obtain ⟨c,hc,rfl⟩:=List.mem_map.1 hy
    obtain ⟨x,hx,q⟩:=pts_mem h c hc
    exact q.1.rt.2 (hr x hx),pts_q h hr⟩
  have h3:Frs l (l.map qv):=⟨hr,rfl⟩
  exact ⟨by rw [flE_2 h1,shE_q h2,shE_q h3],by rw [shQ_q h2,shQ_q h3]⟩
theorem fl_all:(flE m=0↔shE l=0)∧(shE l=0→shQ (m.map (·.Low))=shQ l):=by
  by_cases hr:∀ x ∈ l,rt x
  · obtain ⟨h1,h2⟩:=fl_rt h hr
    exact ⟨by rw [h1],fun _=>h2⟩
  · have e1:shE l=1:=shE_1 (.inr (by
      cases hq:l.any wrongB with
      | true=>rfl
      | false=>exact absurd (anyW.1 hq) hr))
    have e2:flE m=1:=flE_1 (by
      obtain ⟨x,hx⟩:=Classical.not_forall.1 hr
      obtain ⟨hx1,hx2⟩:=Classical.not_imp.1 hx
      obtain ⟨c,hc,q⟩:=pts_mem' h x hx1
      exact List.any_eq_true.2 ⟨c,hc,by unfold wrongS;rw [decide_eq_false fun k=>hx2 ((pnt_spR q).1 k)];rfl⟩)
    rw [e1,e2]
    exact ⟨by decide,fun h=>absurd h (by decide)⟩
theorem hb_all (hF:few30 l):∀ r ∈ shQ (m.map (·.Low)),Hb r 147:=fun r hr=>by
  by_cases e:shE (m.map (·.Low))=0
  · exact shQ_hb (few_low h hF) e r hr
  · rw [shQ_n e] at hr;cases hr
end
theorem row_same {f:Fat DFrac} {r:Rat} {y:DFrac} (h:row f r) (hy:rt y) (e:qv y=r):let x:=f.l.getD 0 default;x.P.Sign=y.P.Sign∧x.P.Digits.l=y.P.Digits.l∧x.Q.Sign=y.Q.Sign∧x.Q.Digits.l=y.Q.Digits.l:=by
  obtain ⟨h1,h2⟩:=row_0 h
  exact Fz.inj (r:=r) ⟨h1,h2⟩ ⟨hy,e⟩
theorem dig_is {c:UInt8} {i:Int} (h0:0≤i) (h:i < 10):(⟨#[c]⟩:ByteArray) ++(⟨#[48,49,50,51,52,53,54,55,56,57]⟩:ByteArray).extract i.toNat (i+1).toNat=dg c i.toNat:=by
  have hk:i.toNat < 10:=by omega
  rw [show (i+1).toNat=i.toNat+1 by omega]
  generalize i.toNat=k at hk
  have:(⟨#[48,49,50,51,52,53,54,55,56,57]⟩:ByteArray).extract k (k+1)=⟨#[UInt8.ofNat (48+k)]⟩:=by
    revert k;decide +kernel
  rw [this]
  apply ByteArray.ext
  rw [ByteArray.data_append];rfl
end Rd
end Kb
