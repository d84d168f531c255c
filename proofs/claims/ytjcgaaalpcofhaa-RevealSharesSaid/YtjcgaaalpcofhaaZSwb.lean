/- Texts for the claim, put together: the calculus of regions, its rules, and contracts of the functions that the law reaches. -/
import Derived.Test.YtjcgaaalpcofhaaZSwa
import Derived.LoopN
import Derived.Laws.Cover3
import Derived.MapKept
import Derived.Lib.AppendZeros
import Derived.Laws.Strings
import Derived.Laws.Slices
import Derived.Test.YtjcgaaalpcofhaaProg
set_option linter.unusedVariables false
set_option linter.unusedSectionVars false
set_option linter.unusedSimpArgs false
namespace Kb
open Go
def blks (es:List Ent):List Nat:=es.filterMap (·.map (·.1))
def Kv.fp (G:Gh) (q:Kv):FP:=fs true (q.l G) (q.s G)
structure CPost (w w':World) (H:Heaplet) (olds:List Ent) (V:Rec→Value) (F':Rec→List FP) (L':Rec→List LE) (pu:Rec→List Prop) (e:Ending) (g:Rec):Prop where
  ret:e=.returned (V g)
  base:Base (blks olds) w w'
  agr:Agrees w' g.H
  new:New w g.H
  facts:∀ f ∈ F' g,f.at g.H (hun g.H H)
  ent:∀ (k b:Nat) (o:Obj),(ents (L' g) g.es)[k]?=some (some (b,o))→w'.heap[b]?=some o∧(w.heap.size≤b∨b ∈ blks olds)∧g.H b=none
  dis:∀ (k l b:Nat) (o o':Obj),(ents (L' g) g.es)[k]?=some (some (b,o))→(ents (L' g) g.es)[l]?=some (some (b,o'))→k=l
  own:∀ (k:Nat) (x:LE),(L' g)[k]?=some x→x.at (g.es k) g.H (hun g.H H)
  pu:conjL (pu g)
def Ct (P:Program) (f:FuncId) (args:Array Value) (F:List FP) (L:List LE) (V:Rec→Value) (F':Rec→List FP) (L':Rec→List LE) (pu:Rec→List Prop):Prop :=
  ∀ (w:World) (H:Heaplet) (ε:Nat→Ent),Agrees w H→(∀ q ∈ F,q.p H)→StW w (blks (ents L ε)) [H] (ents L ε) w→(∀ (r:Nat) (x:LE),L[r]?=some x→x.at (ε r) H H) →
    Calls P f args w fun e w'=>∃ g,CPost w w' H (ents L ε) V F' L' pu e g
abbrev Cp (P:Program) (f:FuncId) (args:Array Value) (F:List FP) (v:Value):Prop:=Ct P f args F [] (fun _=>v) (fun _=>[]) (fun _=>[]) (fun _=>[])
theorem Ct.conv {P:Program} {f:FuncId} {args:Array Value} {F:List FP} {L:List LE} {V V':Rec→Value} {F' F'':Rec→List FP} {L' L'':Rec→List LE} {pu pu':Rec→List Prop} (h:Ct P f args F L V F' L' pu) (e1:∀ g,V g=V' g) (e2:∀ g,F' g=F'' g) (e3:∀ g,L' g=L'' g) (e4:∀ g,pu g=pu' g):Ct P f args F L V' F'' L'' pu':=by
  rw [←funext e1,← funext e2,← funext e3,← funext e4];exact h
def LE.drop:LE→LE
  | .own _ p m q hq=>.own false p m q hq
  | x=>x
def newsOf (n:Nat) (L':Gh→Rec→List LE):List Nat→Nat→List (Nat × (Gh→LE) × (Gh→Ent))
  | [],_=>[]
  | r :: l,k=>(r,(fun G=>((L' G (G n))[k]?).getD .no),fun G=>(G n).es k) :: newsOf n L' l (k+1)
theorem newsOf_mem {n:Nat} {L':Gh→Rec→List LE}:∀ {rs:List Nat} {k0:Nat} {q:Nat × (Gh→LE) × (Gh→Ent)},q ∈ newsOf n L' rs k0→∃ k,rs[k]?=some q.1∧q.2.1=(fun G=>((L' G (G n))[k0+k]?).getD .no)∧q.2.2=fun G=>(G n).es (k0+k)
  | r :: l,k0,q,h=>by
    rcases List.mem_cons.1 h with rfl | h
    · exact ⟨0,rfl,rfl,rfl⟩
    · obtain ⟨k,h1,h2,h3⟩:=newsOf_mem h
      exact ⟨k+1,h1,by rw [h2];funext G;rw [show k0+1+k=k0+(k+1) by omega],by rw [h3];funext G;rw [show k0+1+k=k0+(k+1) by omega]⟩
theorem newsOf_fst {n:Nat} {L':Gh→Rec→List LE}:∀ {rs:List Nat} {k0:Nat},(newsOf n L' rs k0).map (·.1)=rs
  | [],_=>rfl
  | r :: l,k0=>by simp [newsOf,newsOf_fst]
theorem ents_ent {L:List LE} {ε:Nat→Ent} {k:Nat}:(((ents L ε)[k]?).getD none)=((L[k]?).getD .no).ent (ε k):=by
  rw [ents_get]
  cases L[k]? <;> rfl
def wholeBut (w:World) (bs:List Nat):Heaplet:=fun b=>if b ∈ bs then none else w.heap[b]?
theorem JV_none {G:Gh} {B:Heaplet} {b:Nat} (hB:B b=none):∀ n,(∀ j,j < n→(G j).H b=none)→JV G B n b=none
  | 0,_=>hB
  | n+1,h=>by simp only [JV,hun,h n (by omega),JV_none hB n fun j hj=>h j (by omega)]
theorem sub_but {w:World} {H:Heaplet} {bs:List Nat} (h:Sub H (whole w)) (k:∀ b ∈ bs,H b=none):Sub H (wholeBut w bs):=fun b o e=>by
  unfold wholeBut
  split
  · rename_i hb;rw [k b hb] at e;cases e
  · exact h b o e
def srcNot (rs:List Nat):Src→Bool
  | .o r=>!rs.contains r
  | _=>true
def LE.tag:LE→Bool
  | .own t _ _ _ _=>t
  | _=>true
def nodup:List Nat→Bool
  | []=>true
  | a :: l=>!l.contains a && nodup l
theorem nodup_inj:∀ {l:List Nat},nodup l=true→∀ {i j x:Nat},l[i]?=some x→l[j]?=some x→i=j
  | a :: l,h,0,0,x,_,_=>rfl
  | a :: l,h,0,j+1,x,h1,h2=>by
    simp at h1;subst h1
    simp only [nodup,Bool.and_eq_true,Bool.not_eq_true',List.getElem?_cons_succ] at h h2
    have:=List.mem_of_getElem? h2
    simp [this] at h
  | a :: l,h,i+1,0,x,h1,h2=>by
    simp at h2;subst h2
    simp only [nodup,Bool.and_eq_true,Bool.not_eq_true',List.getElem?_cons_succ] at h h1
    have:=List.mem_of_getElem? h1
    simp [this] at h
  | a :: l,h,i+1,j+1,x,h1,h2=>by
    simp only [nodup,Bool.and_eq_true] at h
    have:=nodup_inj h.2 (i:=i) (j:=j) (by simpa using h1) (by simpa using h2)
    omega
def qrds:List Kv→List Nat
  | []=>[]
  | q :: l=>q.κ.rdr ++qrds l
theorem qrds_mem {q:Kv} {r:Nat}:∀ {qs:List Kv},q ∈ qs→q.κ.src=.o r→r ∈ qrds qs
  | q' :: l,h,hs=>by
    unfold qrds
    rcases List.mem_cons.1 h with rfl | h
    · simp [Kq.rdr,hs]
    · exact List.mem_append_right _ (qrds_mem h hs)
def sideOk (ex:Bool) (rs ns:List Nat) (qs:List Kv) (F':List FP) (L':List LE):Bool :=
  nodup (rs ++ns) && (L'.length == (rs ++ns).length) && qs.all (fun q=>srcNot rs q.κ.src) && (bif ex then qs.all (fun q=>q.κ.f) else F'.all (·.t) && L'.all LE.tag)
namespace Hint
variable {P : Program}
def call {g:Prop} (Γ:GdI g) (n f:Nat) (ex:Bool) (rs ns:List Nat) (qs:List Kv) (args:Gh→Array Value) (L:Gh→List LE) (V:Gh→Rec→Value) (F':Gh→Rec→List FP) (L':Gh→Rec→List LE) (pu:Gh→Rec→List Prop)
    (ct:g→∀ G,Ct P f (args G) (qs.map (Kv.fp G)) (L G) (V G) (F' G) (L' G) (pu G)):Hint P where
  d:={ val:=fun G=>V G (G n),facts:=fun G=>F' G (G n),news:=newsOf n L' (rs ++ns) 0,rds:=qrds qs,pu:=fun G=>pu G (G n) }
  τ:=Option (Result Next) × Nat × Value × List FP × List LE × List Prop × List (Option LE) × List (Option (Bool × (Ent→Heaplet→Prop)) × Bool) × Bool × Option Bool
  lhs c i G g w:=(c.R.ex P G i w,i,V (c.R.vis i (RC.put G i g)) g,F' (c.R.vis i (RC.put G i g)) g,L' (c.R.vis i (RC.put G i g)) g,pu (c.R.vis i (RC.put G i g)) g,rs.map (fun r=>(c.leAt i r G).map LE.drop),qs.map (Kv.chk c i G),sideOk ex rs ns qs (F' G g) (L' G g),Γ.B.map fun _=>c.R.gd G i)
  rhs _ _ G g w:=(some (.ok (.enter f (args G)) w),n,V G g,F' G g,L' G g,pu G g,(L G).map some,qs.map (Kv.want G),true,Γ.B)
  sound c i ok hil hi h:=fun o ho G w hs=>by
    have h0:=h G {} w
    simp only [Prod.mk.injEq,RC.ex,ho,Option.map_some,Option.some.injEq] at h0
    obtain ⟨e1,rfl,_,_,_,_,e7,e8,_,e10⟩:=h0
    have hct:=ct (Cx.gdOk Γ hs e10) G
    have hup:=Cx.upsOf hi
    have hfst:(c.R.ups i).map (·.1)=rs ++ns:=by rw [hup,List.map_map];exact newsOf_fst
    have hwr:∀ r ∈ rs,c.R.wrE r i=true:=fun r hr=>by
      have:r ∈ (c.R.ups i).map (·.1):=by rw [hfst];exact List.mem_append_left _ hr
      obtain ⟨p,hp,rfl⟩:=List.mem_map.1 this
      exact List.any_eq_true.2 ⟨p,hp,by simp⟩
    let olds:=rs.map (c.R.entAt G i)
    let ε:Nat→Ent:=fun k=>c.R.entAt G i (rs.getD k 0)
    have hlen:(L G).length=rs.length:=by have:=congrArg List.length e7;simpa using this.symm
    have hLk:∀ k r:Nat,rs[k]?=some r→∃ x',c.leAt i r G=some x'∧(L G)[k]?=some x'.drop:=fun k r hk=>by
      have:=congrArg (fun l:List (Option LE)=>l[k]?) e7
      simp only [List.getElem?_map,hk,Option.map_some] at this
      cases hl:(L G)[k]? with
      | none=>rw [hl] at this;cases this
      | some x =>
        rw [hl] at this
        simp only [Option.map_some,Option.some.injEq,Option.map_eq_some_iff] at this
        obtain ⟨x',h1,h2⟩:=this
        exact ⟨x',h1,by rw [h2]⟩
    have hdrop:∀ (x:LE) e,x.drop.ent e=x.ent e:=fun x e=>by cases x <;> rfl
    have holds:ents (L G) ε=olds:=by
      refine List.ext_getElem? fun k=>?_
      rw [ents_get]
      show _=(rs.map (c.R.entAt G i))[k]?
      rw [List.getElem?_map]
      cases hk:rs[k]? with
      | none =>
        have:(L G)[k]?=none:=by rw [List.getElem?_eq_none_iff] at hk ⊢;omega
        rw [this];rfl
      | some r =>
        obtain ⟨x',h1,h2⟩:=hLk k r hk
        obtain ⟨e,a1,_,_⟩:=Cx.own_at ok hil hs h1 (by rw [hwr r (List.mem_of_getElem? hk)];simp)
        have hε:ε k=c.R.entAt G i r:=by show c.R.entAt G i (rs.getD k 0)=_;rw [List.getD_eq_getElem?_getD,hk];rfl
        rw [h2]
        simp only [Option.map_some,Option.some.injEq]
        rw [hdrop,hε,a1]
        cases x' <;> rfl
    have hside:∀ g,sideOk ex rs ns qs (F' G g) (L' G g)=true:=fun g=>by
      have:=h G g w
      simp only [Prod.mk.injEq] at this
      exact this.2.2.2.2.2.2.2.2.1
    have hs0:=hside {}
    unfold sideOk at hs0
    simp only [Bool.and_eq_true] at hs0
    obtain ⟨⟨⟨hnd,_⟩,hsrc⟩,hex⟩:=hs0
    have hblk:∀ b ∈ blks olds,∃ r ∈ rs,∃ o,c.R.entAt G i r=some (b,o):=fun b hb=>by
      obtain ⟨x,hx,hxb⟩:=List.mem_filterMap.1 hb
      obtain ⟨r,hr,rfl⟩:=List.mem_map.1 hx
      cases he:c.R.entAt G i r with
      | none=>rw [he] at hxb;cases hxb
      | some p=>rw [he] at hxb;simp at hxb;subst hxb;exact ⟨r,hr,p.2,he⟩
    have hent:=fun r hr=>hs.ent r (by rw [hwr r hr];simp)
    have hJnone:∀ t,∀ b ∈ blks olds,c.J i G t b=none:=fun t b hb=>by
      obtain ⟨r,hr,o',he⟩:=hblk b hb
      obtain ⟨_,_,h3,h4⟩:=hent r hr b o' he
      refine JV_none ?_ _ fun j _=>?_
      · have hK:hun c.N c.H b=none:=h3 _ (by show _ ∈ [_];simp)
        cases t
        · exact hK
        · cases hN:c.N b with
          | none=>exact hN
          | some o''=>unfold hun at hK;rw [hN] at hK;cases hK
      · unfold Cx.pre
        cases hb':c.R.bef i j with
        | false=>rfl
        | true=>exact h4 j hb'
    let Hc:Heaplet:=bif ex then c.J i G false else wholeBut w (blks olds)
    have hJc:∀ t,Sub (c.J i G t) Hc:=fun t=>by
      cases hx:ex with
      | true=>show Sub _ (bif ex then _ else _);rw [hx];exact Cx.J_le_false hs t
      | false=>show Sub _ (bif ex then _ else _);rw [hx];exact sub_but (Cx.J_le hs t) (hJnone t)
    have hCw:Agrees w Hc:=by
      cases hx:ex with
      | true=>show Agrees w (bif ex then _ else _);rw [hx];exact Cx.J_le hs false
      | false =>
        show Agrees w (bif ex then _ else _);rw [hx]
        intro b o e
        simp only [cond_false,wholeBut] at e
        split at e
        · cases e
        · exact e
    have hCn:∀ b ∈ blks olds,Hc b=none:=fun b hb=>by
      cases hx:ex with
      | true=>show (bif ex then _ else _:Heaplet) b=none;rw [hx];exact hJnone false b hb
      | false=>show (bif ex then _ else _:Heaplet) b=none;rw [hx];simp only [cond_false,wholeBut];rw [if_pos hb]
    have hfacts:∀ q ∈ qs.map (Kv.fp G),q.p Hc:=fun p hp=>by
      obtain ⟨q,hq,rfl⟩:=List.mem_map.1 hp
      have hm:q.κ.src.what c i G=(some (q.κ.t,q.κ.p G),true):=map_eq e8 q hq
      obtain ⟨e,a1,a2,a3,a4⟩:=Src.get ok hil hs hm
      cases hx:ex with
      | true =>
        rw [hx] at hex
        simp only [cond_true] at hex
        exact (q.κ.rj (List.all_eq_true.1 hex q hq) G e _ a1).mono (hJc _)
      | false =>
        refine q.κ.rd G e _ _ a1 (hJc _) ?_
        show Sub _ (bif ex then _ else _)
        rw [hx]
        refine sub_but (entH_agrees a2) fun b hb=>?_
        by_cases hsr:∃ r,q.κ.src=.o r
        · obtain ⟨r,hsr⟩:=hsr
          have hE:=a3 r hsr
          have hr:r ∉ rs:=by
            have:=List.all_eq_true.1 hsrc q hq
            rw [hsr] at this
            simpa [srcNot] using this
          obtain ⟨r',hr',o',he⟩:=hblk b hb
          cases hne:entH e b with
          | none=>rfl
          | some o'' =>
            exfalso
            have hb2:c.R.entAt G i r=some (b,o''):=by
              rw [hE]
              cases e with
              | none=>cases hne
              | some p =>
                unfold entH at hne
                simp only at hne
                split at hne
                · rename_i hbe;subst hbe;cases hne;rfl
                · cases hne
            have hrd:((c.R.c i).rds.contains r || c.R.wrE r i)=true:=by
              rw [Cx.c_of hi]
              have:(qrds qs).contains r=true:=by simpa using qrds_mem hq hsr
              show ((qrds qs).contains r || _)=true
              rw [this];rfl
            have:=hs.dis r r' b o'' o' hrd (by rw [hwr r' hr'];simp) hb2 he
            subst this;exact hr hr'
        · rw [a4 fun r hr=>hsr ⟨r,hr⟩];rfl
    have hst:StW w (blks olds) [Hc] olds w:=by
      refine ⟨Base.refl _ _,fun K hK=>?_,fun k b o hk=>?_,fun k l b o o' hk hl=>?_⟩
      · have:K=Hc:=by simpa using hK
        subst this;exact hCw
      · have hm:some (b,o) ∈ olds:=List.mem_of_getElem? hk
        obtain ⟨r,hr,he⟩:=List.mem_map.1 hm
        have hbb:b ∈ blks olds:=List.mem_filterMap.2 ⟨_,hm,rfl⟩
        refine ⟨(hent r hr b o he).1,.inr hbb,fun K hK=>?_⟩
        have:K=Hc:=by simpa using hK
        subst this;exact hCn b hbb
      · have h1:(rs.map (c.R.entAt G i))[k]?=some (some (b,o)):=hk
        have h2:(rs.map (c.R.entAt G i))[l]?=some (some (b,o')):=hl
        simp only [List.getElem?_map,Option.map_eq_some_iff] at h1 h2
        obtain ⟨r,hr,he⟩:=h1
        obtain ⟨r',hr',he'⟩:=h2
        have hm:=List.mem_of_getElem? hr
        have hm':=List.mem_of_getElem? hr'
        have:=hs.dis r r' b o o' (by rw [hwr r hm];simp) (by rw [hwr r' hm'];simp) he he'
        subst this
        refine nodup_inj (l:=rs ++ns) hnd (x:=r) ?_ ?_
        · rw [List.getElem?_append_left (List.getElem?_eq_some_iff.1 hr).1];exact hr
        · rw [List.getElem?_append_left (List.getElem?_eq_some_iff.1 hr').1];exact hr'
    have hown:∀ (k:Nat) (x:LE),(L G)[k]?=some x→x.at (ε k) Hc Hc:=fun k x hx=>by
      have hk:k < rs.length:=by have:=(List.getElem?_eq_some_iff.1 hx).1;omega
      have hk':rs[k]?=some rs[k]:=List.getElem?_eq_getElem hk
      obtain ⟨x',h1,h2⟩:=hLk k _ hk'
      rw [hx] at h2
      cases h2
      obtain ⟨e,a1,a2,_⟩:=Cx.own_at ok hil hs h1 (by rw [hwr _ (List.getElem_mem hk)];simp)
      have hε:ε k=c.R.entAt G i rs[k]:=by show c.R.entAt G i (rs.getD k 0)=_;rw [List.getD_eq_getElem?_getD,hk'];rfl
      cases x' with
      | own t p m q hq =>
        rw [hε,a1]
        show p e Hc
        cases t
        · exact m _ _ _ (hJc false) a2
        · exact m _ _ _ (hJc true) a2
      | _=>trivial
    have hcall:=hct w Hc ε hCw hfacts (by rw [holds];exact hst) hown
    rw [holds] at hcall
    unfold Does
    rw [e1]
    refine hcall.mono ?_
    rintro e w' ⟨g,C⟩
    refine ⟨_,C.ret,g,?_⟩
    have hg:=h G g w
    simp only [Prod.mk.injEq] at hg
    obtain ⟨_,_,f1,f2,f3,f4,_,_,f5,_⟩:=hg
    unfold sideOk at f5
    simp only [Bool.and_eq_true,beq_iff_eq] at f5
    obtain ⟨⟨⟨_,hll⟩,_⟩,hex'⟩:=f5
    have hv:=Cx.vis_self (c:=c) (i:=i) (G:=G) g
    obtain ⟨a1,a2,a3,a4⟩:=ahead ok hil hs C.new
    have to2:ex=true→Sub (hun g.H Hc) (JV (c.R.vis i (RC.put G i g)) (hun c.N c.H) c.ops.size):=fun hx=>hun_sub a4 (by
      show Sub (bif ex then _ else _) _
      rw [hx];exact a2)
    have hentk:∀ k:Nat,(((L' (c.R.vis i (RC.put G i g)) g)[k]?).getD .no).ent (g.es k)=((ents (L' G g) g.es)[k]?).getD none:=fun k=>by rw [f3,ents_ent]
    have hp2:∀ p ∈ c.R.ups i,∃ k:Nat,(rs ++ns)[k]?=some p.1∧p.2 (RC.put G i g)=((ents (L' G g) g.es)[k]?).getD none:=fun p hp=>by
      rw [hup] at hp
      obtain ⟨q,hq,rfl⟩:=List.mem_map.1 hp
      obtain ⟨k,h1,h2,h3⟩:=newsOf_mem hq
      refine ⟨k,h1,?_⟩
      show (q.2.1 _).ent (q.2.2 _)=_
      rw [h2,h3,← hentk k]
      simp only [hv,Nat.zero_add]
    refine ⟨?_,fact_of ok hil hi hs C.new (fun f hf=>?_) (fun q hq=>?_) ?_,?_,C.agr,C.new,fun p hp b o hb=>?_,fun p hp q hq b o o' hb hb'=>?_⟩
    · rw [Cx.valOf hi]
      show _=V _ (c.R.vis i (RC.put G i g) i)
      rw [hv,f1]
    · have hf':f ∈ F' (c.R.vis i (RC.put G i g)) (c.R.vis i (RC.put G i g) i):=hf
      rw [hv,f2] at hf'
      have hc:=C.facts f hf'
      unfold FP.at at hc ⊢
      cases ht:f.t with
      | true=>rw [ht] at hc;exact f.m _ _ a3 hc
      | false =>
        rw [ht] at hc
        cases hx:ex with
        | true=>exact f.m _ _ (to2 hx) hc
        | false =>
          rw [hx] at hex'
          simp only [cond_false,Bool.and_eq_true] at hex'
          have:=List.all_eq_true.1 hex'.1 f hf'
          rw [ht] at this;cases this
    · obtain ⟨k,h1,h2,h3⟩:=newsOf_mem hq
      rw [h2,h3]
      simp only [hv,Nat.zero_add]
      rw [f3]
      cases hk:(L' G g)[k]? with
      | none=>trivial
      | some x =>
        have hc:=C.own k x hk
        simp only [Option.getD_some]
        cases x with
        | own t p m q hq =>
          cases t with
          | true=>exact m _ _ _ a3 hc
          | false =>
            cases hx:ex with
            | true=>exact m _ _ _ (to2 hx) hc
            | false =>
              rw [hx] at hex'
              simp only [cond_false,Bool.and_eq_true] at hex'
              have:=List.all_eq_true.1 hex'.2 _ (List.mem_of_getElem? hk)
              simp [LE.tag] at this
        | _=>trivial
    · show conjL (pu _ (c.R.vis i (RC.put G i g) i))
      rw [hv,f4];exact C.pu
    · refine ⟨C.base.os,C.base.tape,C.base.output,C.base.size,fun b hb hnb=>C.base.keep b hb fun hm=>hnb ?_⟩
      obtain ⟨r,hr,o',he⟩:=hblk b hm
      have:r ∈ (c.R.ups i).map (·.1):=by rw [hfst];exact List.mem_append_left _ hr
      obtain ⟨p,hp,hpr⟩:=List.mem_map.1 this
      exact List.mem_filterMap.2 ⟨p,hp,by rw [hpr,he];rfl⟩
    · obtain ⟨k,h1,h2⟩:=hp2 p hp
      rw [h2] at hb
      cases hk:(ents (L' G g) g.es)[k]? with
      | none=>rw [hk] at hb;cases hb
      | some x =>
        rw [hk] at hb
        simp only [Option.getD_some] at hb
        subst hb
        obtain ⟨b1,b2,b3⟩:=C.ent k b o hk
        refine ⟨b1,?_,b3⟩
        rcases b2 with b2 | b2
        · exact .inl b2
        · obtain ⟨r,hr,o',he⟩:=hblk b b2
          have:r ∈ (c.R.ups i).map (·.1):=by rw [hfst];exact List.mem_append_left _ hr
          obtain ⟨q,hq,hqr⟩:=List.mem_map.1 this
          exact .inr ⟨q,hq,o',by rw [hqr];exact he⟩
    · obtain ⟨k,h1,h2⟩:=hp2 p hp
      obtain ⟨l,h3,h4⟩:=hp2 q hq
      rw [h2] at hb
      rw [h4] at hb'
      have get:∀ (k b:Nat) (o:Obj),((ents (L' G g) g.es)[k]?).getD none=some (b,o)→(ents (L' G g) g.es)[k]?=some (some (b,o)):=fun k b o hh=>by
        cases hk:(ents (L' G g) g.es)[k]? with
        | none=>rw [hk] at hh;cases hh
        | some x=>rw [hk] at hh;simp only [Option.getD_some] at hh;rw [hh]
      have:=C.dis k l b o o' (get k b o hb) (get l b o' hb')
      subst this
      rw [h1] at h3
      exact Option.some.inj h3
end Hint

open Go
inductive Fr where
  | seq (c:Code)
  | block (id:Nat)
  | rnd (Z:Act→World→Prop)
  | rndN (c:Code) (n:Nat)
section
variable (P : Program) (Q : Exit → Act → World → Prop)
def run:List Fr→Exit→Act→World→Prop
  | []=>Q
  | .seq c :: K=>Exit.then (fun a w=>c.wp P (run K) a w) (run K)
  | .block id :: K=>Exit.inBlock id (run K)
  | .rnd Z :: K=>Exit.then Z (run K)
  | .rndN c n :: K=>Exit.then (Code.rounds P c (run K) n) (run K)
inductive Stop where
  | reg (id:Nat) (ops:Array Oper) (draw:Bool) (K:List Fr)
  | cond (c:Operand) (x y:Code) (K:List Fr)
  | loop (b:Code) (K:List Fr)
  | rnd (Z:Act→World→Prop) (K:List Fr)
  | rndN (c:Code) (n:Nat) (K:List Fr)
  | fin (e:Exit)
  | no
def Stop.wp:Stop→Act→World→Prop
  | .reg id ops d K=>(Code.region id ops d).wp P (run P Q K)
  | .cond c x y K=>(Code.cond c x y).wp P (run P Q K)
  | .loop b K=>(Code.loop b).wp P (run P Q K)
  | .rnd Z _=>Z
  | .rndN c n K=>Code.rounds P c (run P Q K) n
  | .fin e=>Q e
  | .no=>fun _ _=>False
end
def norm:Nat→Code ⊕ Exit→List Fr→Stop
  | 0,_,_=>.no
  | n+1,.inl c,K=>match c with
    | .seq x y=>norm n (.inl x) (.seq y :: K)
    | .block id x=>norm n (.inl x) (.block id :: K)
    | .skip=>norm n (.inr .normal) K
    | .ret=>norm n (.inr .ret) K
    | .exit i=>norm n (.inr (.exit i)) K
    | .region id ops d=>.reg id ops d K
    | .cond c x y=>.cond c x y K
    | .loop b=>.loop b K
    | _=>.no
  | n+1,.inr e,K=>match K with
    | []=>.fin e
    | .seq c :: K=>match e with
      | .normal=>norm n (.inl c) K
      | .ret=>norm n (.inr .ret) K
      | .exit i=>norm n (.inr (.exit i)) K
      | _=>.no
    | .block id :: K=>match e with
      | .normal=>norm n (.inr .normal) K
      | .ret=>norm n (.inr .ret) K
      | .exit i=>bif Nat.beq i id then norm n (.inr .normal) K else norm n (.inr (.exit i)) K
      | _=>.no
    | .rnd Z :: K=>match e with
      | .normal=>.rnd Z K
      | .ret=>norm n (.inr .ret) K
      | .exit i=>norm n (.inr (.exit i)) K
      | _=>.no
    | .rndN c m :: K=>match e with
      | .normal=>.rndN c m K
      | .ret=>norm n (.inr .ret) K
      | .exit i=>norm n (.inr (.exit i)) K
      | _=>.no
section
variable {P : Program} {Q : Exit → Act → World → Prop}
def wpx (P:Program) (Q:Exit→Act→World→Prop) (x:Code ⊕ Exit) (K:List Fr):Act→World→Prop:=match x with
  | .inl c=>c.wp P (run P Q K)
  | .inr e=>run P Q K e
theorem norm_sound:∀ n (x:Code ⊕ Exit) K a w,(norm n x K).wp P Q a w→wpx P Q x K a w
  | 0,_,_,_,_,h=>h.elim
  | n+1,.inl c,K,a,w,h=>by
    cases c <;> simp only [norm] at h <;> first | exact h.elim | exact h | skip
    case skip=>exact wp_skip (norm_sound n _ _ _ _ h)
    case seq x y=>exact wp_seq (norm_sound n _ _ _ _ h)
    case block id x=>exact wp_block (norm_sound n _ _ _ _ h)
    case exit i=>exact wp_exit (norm_sound n _ _ _ _ h)
    case ret=>exact wp_ret (norm_sound n _ _ _ _ h)
  | n+1,.inr e,K,a,w,h=>by
    cases K with
    | nil=>exact h
    | cons f K =>
      cases f with
      | seq c=>cases e <;> simp only [norm] at h <;> first | exact h.elim | (have:=norm_sound n _ _ _ _ h;exact this)
      | rndN c m=>cases e <;> simp only [norm] at h <;> first | exact h.elim | exact h | (have:=norm_sound n _ _ _ _ h;exact this)
      | rnd Z=>cases e <;> simp only [norm] at h <;> first | exact h.elim | exact h | (have:=norm_sound n _ _ _ _ h;exact this)
      | block id =>
        cases e <;> simp only [norm] at h <;> first | exact h.elim | skip
        case normal=>have:=norm_sound n _ _ _ _ h;exact this
        case ret=>have:=norm_sound n _ _ _ _ h;exact this
        case exit i =>
          show if i=id then _ else _
          by_cases hi:i=id
          · rw [if_pos hi]
            have:Nat.beq i id=true:=by subst hi;exact Nat.beq_refl i
            rw [this] at h
            have:=norm_sound n _ _ _ _ h;exact this
          · rw [if_neg hi]
            have:Nat.beq i id=false:=by
              cases hb:Nat.beq i id with
              | false=>rfl
              | true=>exact absurd (Nat.eq_of_beq_eq_true hb) hi
            rw [this] at h
            have:=norm_sound n _ _ _ _ h;exact this
end
structure Env (P:Program) where
  nt:Nat
  w0:World
  X:List Nat
  H:Heaplet
  Q:Exit→Act→World→Prop
  mo:P.follows .mixedOrders=true
def V {P:Program} (E:Env P) (S:Stop) (t:St):Prop:=∀ N ε a w,t.In E.nt E.w0 E.X E.H N ε a w→S.wp P E.Q a w
namespace Stop
def rid:Stop→Nat
  | .reg id _ _ _=>id
  | _=>0
def ops:Stop→Array Oper
  | .reg _ ops _ _=>ops
  | _=>#[]
def dr:Stop→Bool
  | .reg _ _ d _=>d
  | _=>false
def K:Stop→List Fr
  | .reg _ _ _ K=>K
  | .cond _ _ _ K=>K
  | .loop _ K=>K
  | .rnd _ K=>K
  | .rndN _ _ K=>K
  | _=>[]
def x:Stop→Code
  | .cond _ x _ _=>x
  | .loop b _=>b
  | .rndN c _ _=>c
  | _=>.skip
def y:Stop→Code
  | .cond _ _ y _=>y
  | _=>.skip
def cn:Stop→Operand
  | .cond c _ _ _=>c
  | _=>.const undef
def next (S:Stop):Stop:=norm 200 (.inr .normal) S.K
def inX (S:Stop):Stop:=norm 200 (.inl S.x) S.K
def inY (S:Stop):Stop:=norm 200 (.inl S.y) S.K
end Stop
section
variable {P : Program}
def Prods:List (Hint P)→Type
  | []=>Unit
  | h :: l=>(Gh→Rec→World→h.τ) × Prods l
def lhsAll (c:Cx P):(l:List (Hint P))→Nat→Prods l
  | [],_=>()
  | h :: l,i=>(h.lhs c i,lhsAll c l (i+1))
def rhsAll (c:Cx P):(l:List (Hint P))→Nat→Prods l
  | [],_=>()
  | h :: l,i=>(h.rhs c i,rhsAll c l (i+1))
theorem all_get {c:Cx P}:∀ {l:List (Hint P)} {k:Nat},lhsAll c l k=rhsAll c l k→∀ (j:Nat) (h:Hint P),l[j]?=some h→∀ G g w,h.lhs c (k+j) G g w=h.rhs c (k+j) G g w
  | h' :: l,k,e,0,h,hj,G,g,w=>by
    have e1:=congrArg (fun p:(Gh→Rec→World→h'.τ) × Prods l=>p.1) e
    simp at hj;subst hj
    exact congrFun (congrFun (congrFun e1 G) g) w
  | h' :: l,k,e,j+1,h,hj,G,g,w=>by
    have e2:lhsAll c l (k+1)=rhsAll c l (k+1):=congrArg (fun p:(Gh→Rec→World→h'.τ) × Prods l=>p.2) e
    have:=all_get e2 j h (by simpa using hj) G g w
    rwa [show k+1+j=k+(j+1) by omega] at this
def cxOf (E:Env P) (S:Stop) (t:St) (hs:List (Hint P)) (N:Heaplet) (ε:Nat→Ent):Cx P:=⟨E.nt,E.w0,E.X,E.H,N,ε,t,S.ops,hs.map (·.d)⟩
variable (c : Cx P) (G : Gh)
def Cx.sure (j:Nat) {α:Type _} (f:HintD→List α):List α:=bif (c.R.grd j).isNone then ((c.hs[j]?).map f).getD [] else []
def Cx.leFin (r:Nat):LE:=match lastW (c.R.wrE r) c.ops.size with
  | some k=>((c.hs[k]?).bind fun h=>(h.news.find? fun q=>q.1 == r).map fun q=>q.2.1 (c.R.vis k G)).getD .no
  | none=>(c.t.L[r]?).getD .no
def post:St where
  sl:=(c.ops.toList.filterMap (·.dst)).map (fun s=>(s,c.R.fin G s)) ++c.t.sl
  F:=c.t.F ++(List.range c.ops.size).flatMap fun j=>c.sure j fun h=>h.facts (c.R.vis j G)
  L:=(List.range c.t.L.length).map (c.leFin G)
def Cx.know:List Prop:=((List.range c.ops.size).flatMap fun j=>c.sure j fun h=>h.pu (c.R.vis j G)) ++((List.range c.ops.size).flatMap fun j=>c.sure j fun h=>(h.facts (c.R.vis j G)).map (·.q)) ++(List.range c.t.L.length).flatMap fun r=>(c.leFin G r).lim
end
section
variable {P : Program} {c : Cx P} {G : Gh} {a : Act} {w : World}
theorem Cx.sure_mem {α:Type _} {j:Nat} {f:HintD→List α} {x:α} (ok:c.Ok) (hj:j < c.ops.size) (h:x ∈ c.sure j f):(∀ G,c.R.gd G j=true)∧∃ d,c.hs[j]?=some d∧x ∈ f d:=by
  unfold sure at h
  cases hg:(c.R.grd j).isNone with
  | false=>rw [hg] at h;cases h
  | true =>
    rw [hg] at h
    refine ⟨fun G=>?_,?_⟩
    · rw [RC.gd_eq ok.hc]
      cases hgr:c.R.grd j with
      | none=>rfl
      | some p=>rw [hgr] at hg;cases hg
    · cases hd:c.hs[j]? with
      | none=>rw [hd] at h;simp at h
      | some d=>rw [hd] at h;exact ⟨d,rfl,by simpa using h⟩
theorem post_in (ok:c.Ok) (d:c.R.Done c.nt c.w0 c.X G a w) :
    (post c G).In c.nt c.w0 c.X c.H (JV G c.N c.ops.size) (fun r=>c.R.entF G r) a w∧conjL (c.know G):=by
  have hAll:∀ j,j < c.ops.size→Agrees w (G j).H:=fun j hj=>by
    have:=(d.st (List.range c.ops.size) fun i hi=>List.mem_range.1 hi).agr (G j).H (List.mem_append_left _ (List.mem_map.2 ⟨j,List.mem_range.2 hj,rfl⟩))
    exact this
  have hst:=d.st (List.range c.ops.size) fun i hi=>List.mem_range.1 hi
  have hK:Agrees w (hun c.N c.H):=hst.agr _ (List.mem_append_right _ (by show _ ∈ [_];simp))
  have hB:∀ t,Sub (c.B0 t) (whole w):=fun t=>(Cx.B0_le t).trans hK
  have hJ:∀ t,Sub (JV G (c.B0 t) c.ops.size) (whole w):=fun t=>JV_le (hB t) _ hAll
  have hb:∀ t,Sub (c.B0 t) (JV G (c.B0 t) c.ops.size):=fun t=>JV_base (hB t) _ hAll
  have hvis:∀ j,j < c.ops.size→∀ t,Sub (JV (c.R.vis j G) (c.B0 t) c.ops.size) (JV G (c.B0 t) c.ops.size):=fun j hj t =>
    JV_mono (hB t) _ hAll (fun k hk=>by
      unfold RC.vis
      cases hbj:(c.R.bef j k || k == j) with
      | false=>exact .inl rfl
      | true=>exact .inr rfl) (Sub.refl _)
  have eK:hun (JV G c.N c.ops.size) c.H=JV G (hun c.N c.H) c.ops.size:=(JV_hun _).symm
  have opf:∀ j h,j < c.ops.size→c.hs[j]?=some h→c.R.gd G j=true→(∀ f ∈ h.facts (c.R.vis j G),f.at (JV G c.N c.ops.size) (JV G (hun c.N c.H) c.ops.size))∧(∀ q ∈ h.news,(q.2.1 (c.R.vis j G)).at (q.2.2 (c.R.vis j G)) (JV G c.N c.ops.size) (JV G (hun c.N c.H) c.ops.size))∧conjL (h.pu (c.R.vis j G)):=fun j h hj hh hg=>by
    have hf:=d.fact j hj hg
    rw [Cx.factOf hh] at hf
    have hf:=conjL_mem hf
    refine ⟨fun f hm=>FP.mono (hf _ (by simp only [List.mem_append,List.mem_map];exact .inl (.inl ⟨f,hm,rfl⟩))) (hvis j hj true) (hvis j hj false),fun q hq=>LE.mono (LE.ats_at.1 (conjL_of fun p hp=>hf _ ?_)) (hvis j hj true) (hvis j hj false),conjL_of fun p hp=>hf _ (by simp only [List.mem_append];exact .inr hp)⟩
    simp only [List.mem_append,List.mem_flatMap]
    exact .inl (.inr ⟨q,hq,hp⟩)
  have gdw:∀ r k,lastW (c.R.wrE r) c.ops.size=some k→k < c.ops.size∧c.R.gd G k=true∧c.R.wrE r k=true:=fun r k hl=>by
    obtain ⟨hk,hw,_⟩:=lastW_some hl
    refine ⟨hk,?_,hw⟩
    obtain ⟨o',ho'⟩:=Cx.opAt ok hk
    have C':=RC.chk ok.hc ho'
    cases hg:c.R.grd k with
    | none=>rw [RC.gd_eq ok.hc,hg]
    | some jw =>
      obtain ⟨j,want⟩:=jw
      obtain ⟨o'',ho'',hgo⟩:=RC.grd_some hg
      rw [ho'] at ho'';cases ho''
      rcases (C'.grd j want hgo).2.2.1 with hu | hu
      · obtain ⟨p,_,hp,_⟩:=RC.wrE_find hw
        rw [hu] at hp;cases hp
      · exact RC.gd_sure ok.hc G k hu
  have hle:∀ r,r < c.t.L.length→(c.leFin G r).ent (c.R.entF G r)=c.R.entF G r∧(c.leFin G r).at (c.R.entF G r) (JV G c.N c.ops.size) (JV G (hun c.N c.H) c.ops.size):=fun r hr=>by
    unfold Cx.leFin RC.entF
    show LE.ent (match lastW (c.R.wrE r) c.R.ops.size with | some k=>c.R.entOf G k r | none=>(c.R.L[r]?).getD none) _=_∧_
    have e0:c.R.ops.size=c.ops.size:=rfl
    rw [e0]
    cases hl:lastW (c.R.wrE r) c.ops.size with
    | none =>
      simp only []
      have hx:c.t.L[r]?=some c.t.L[r]:=List.getElem?_eq_getElem hr
      have he:(c.R.L[r]?).getD none=(c.t.L[r]).ent (c.ε r):=by
        show ((ents c.t.L c.ε)[r]?).getD none=_
        rw [ents_get,hx];rfl
      rw [he,hx]
      simp only [Option.getD_some]
      have h1:=LE.mono (ok.own r _ hx) (hb true) (hb false)
      cases hle:c.t.L[r] with
      | own t p m q hq=>rw [hle] at h1;exact ⟨rfl,h1⟩
      | _=>exact ⟨rfl,trivial⟩
    | some k =>
      simp only []
      obtain ⟨hk,hg,hw⟩:=gdw r k hl
      have hlen:k < c.hs.length:=by rw [ok.len];exact hk
      have hh:c.hs[k]?=some c.hs[k]:=List.getElem?_eq_getElem hlen
      have hfind:∃ q,(c.hs[k]).news.find? (fun q=>q.1 == r)=some q:=by
        obtain ⟨p,_,hp,hpr⟩:=RC.wrE_find hw
        rw [Cx.upsOf hh] at hp
        obtain ⟨q,hq,rfl⟩:=List.mem_map.1 hp
        have:((c.hs[k]).news.find? (fun q=>q.1 == r)).isSome=true:=List.find?_isSome.2 ⟨q,hq,by simpa using hpr⟩
        exact Option.isSome_iff_exists.1 this
      obtain ⟨q,hq⟩:=hfind
      have he:c.R.entOf G k r=(q.2.1 (c.R.vis k G)).ent (q.2.2 (c.R.vis k G)):=by
        unfold RC.entOf
        rw [Cx.upsOf hh,List.find?_map]
        have:((c.hs[k]).news.find? ((fun p:Nat × (Gh→Ent)=>p.1 == r) ∘ fun q=>(q.1,fun G=>(q.2.1 (c.R.vis k G)).ent (q.2.2 (c.R.vis k G)))))=some q:=hq
        rw [this];rfl
      have hf:=(opf k _ hk hh hg).2.1 q (List.mem_of_find?_eq_some hq)
      rw [he,hh]
      simp only [Option.bind_some,hq,Option.map_some,Option.getD_some]
      cases hle:q.2.1 (c.R.vis k G) with
      | own t p m q' hq'=>rw [hle] at hf;exact ⟨rfl,hf⟩
      | _=>exact ⟨rfl,trivial⟩
  have hLk:∀ r x,(post c G).L[r]?=some x→r < c.t.L.length∧x=c.leFin G r:=fun r x hx=>by
    have hx:((List.range c.t.L.length).map (c.leFin G))[r]?=some x:=hx
    rw [List.getElem?_map] at hx
    rcases Nat.lt_or_ge r c.t.L.length with h | h
    · rw [List.getElem?_range h] at hx;exact ⟨h,(by simpa using hx.symm)⟩
    · rw [List.getElem?_eq_none (by simpa using h)] at hx;cases hx
  have hents:∀ r b o,(ents (post c G).L fun r=>c.R.entF G r)[r]?=some (some (b,o))→((List.range c.R.L.length).map (c.R.entF G))[r]?=some (some (b,o)):=fun r b o h=>by
    rw [ents_get,Option.map_eq_some_iff] at h
    obtain ⟨x,hx,he⟩:=h
    obtain ⟨hr,rfl⟩:=hLk r x hx
    rw [(hle r hr).1] at he
    have hl:c.R.L.length=c.t.L.length:=ents_len _ _
    rw [List.getElem?_map,List.getElem?_range (by rw [hl];exact hr)]
    simp [he]
  refine ⟨⟨?_,⟨hst.base,fun K hk=>?_,fun r b o he=>?_,fun r r' b o o' he he'=>hst.dis r r' b o o' (hents _ _ _ he) (hents _ _ _ he')⟩,JV_new ok.new _ fun j hj=>d.newG j hj,fun f hf=>?_,fun r x hx=>?_⟩,conjL_of fun p hp=>?_⟩
  · have hdst:∀ s ∈ c.ops.toList.filterMap (·.dst),(lastW (c.R.wrS s) c.R.ops.size).isSome=true:=fun s hs=>by
      obtain ⟨o,ho,hd⟩:=List.mem_filterMap.1 hs
      obtain ⟨k,hk⟩:=List.getElem?_of_mem ho
      have hk':c.ops[k]?=some o:=by simpa using hk
      have hlt:k < c.ops.size:=(Array.getElem?_eq_some_iff.1 hk').1
      cases hl:lastW (c.R.wrS s) c.R.ops.size with
      | some _=>rfl
      | none =>
        have:=lastW_none hl k hlt
        unfold RC.wrS RC.dst at this
        have h3:c.R.ops[k]?=some o:=hk'
        rw [h3] at this
        simp [hd] at this
    have s1:=d.slots (c.ops.toList.filterMap (·.dst)) fun s hs=>.inl (hdst s hs)
    refine ⟨s1.defers,s1.size,fun s v hv=>?_⟩
    have hv:((c.ops.toList.filterMap (·.dst)).map (fun s=>(s,c.R.fin G s)) ++c.t.sl).lookup s=some v:=hv
    rw [List.lookup_append] at hv
    cases hl:((c.ops.toList.filterMap (·.dst)).map (fun s=>(s,c.R.fin G s))).lookup s with
    | some u=>rw [hl] at hv;simp at hv;subst hv;exact s1.slot s u hl
    | none =>
      rw [hl] at hv
      simp at hv
      have s2:=d.slots [s] fun s' hs'=>.inr (by
        have:s'=s:=by simpa using hs'
        subst this
        show (c.t.sl.lookup s').isSome=true
        rw [hv];rfl)
      refine s2.slot s v ?_
      simp only [List.map_cons,List.map_nil,List.lookup_cons,beq_self_eq_true]
      congr 1
      unfold RC.fin
      have hn:lastW (c.R.wrS s) c.R.ops.size=none:=by
        cases hw:lastW (c.R.wrS s) c.R.ops.size with
        | none=>rfl
        | some k =>
          exfalso
          obtain ⟨hk,hws,_⟩:=lastW_some hw
          unfold RC.wrS RC.dst at hws
          have hk':c.R.ops[k]?=some (c.R.ops[k]):=Array.getElem?_eq_getElem hk
          rw [hk'] at hws
          have hd:(c.R.ops[k]).dst=some s:=by simpa using hws
          have hm:s ∈ c.ops.toList.filterMap (·.dst):=List.mem_filterMap.2 ⟨c.R.ops[k],by
            have:c.R.ops[k] ∈ c.ops:=Array.getElem_mem hk
            simpa using this,hd⟩
          have:∀ (l:List Nat),s ∈ l→(l.map (fun s=>(s,c.R.fin G s))).lookup s≠none:=by
            intro l
            induction l with
            | nil=>intro h;cases h
            | cons x l ih =>
              intro h
              simp only [List.map_cons,List.lookup_cons]
              by_cases e:s=x
              · subst e;simp
              · have e':(s == x)=false:=by simpa using e
                rw [e']
                rcases List.mem_cons.1 h with h | h
                · exact absurd h e
                · exact ih h
          exact this _ hm hl
      rw [hn]
      show (c.t.sl.lookup s).getD undef=v
      rw [hv];rfl
  · have:K=hun (JV G c.N c.ops.size) c.H:=by simpa using hk
    subst this
    rw [eK];exact hJ false
  · obtain ⟨h1,h2,h3⟩:=hst.ent r b o (hents _ _ _ he)
    refine ⟨h1,h2,fun K hk=>?_⟩
    have:K=hun (JV G c.N c.ops.size) c.H:=by simpa using hk
    subst this
    rw [eK]
    exact JV_none (h3 _ (List.mem_append_right _ (by show _ ∈ [_];simp))) _ fun j hj=>h3 _ (List.mem_append_left _ (List.mem_map.2 ⟨j,List.mem_range.2 hj,rfl⟩))
  · rw [eK]
    rcases List.mem_append.1 hf with hf | hf
    · exact FP.mono (ok.facts f hf) (hb true) (hb false)
    · obtain ⟨j,hj,hf⟩:=List.mem_flatMap.1 hf
      obtain ⟨hg,h,hh,hf⟩:=Cx.sure_mem ok (List.mem_range.1 hj) hf
      exact (opf j h (List.mem_range.1 hj) hh (hg G)).1 f hf
  · rw [eK]
    obtain ⟨hr,rfl⟩:=hLk r x hx
    exact (hle r hr).2
  · unfold Cx.know at hp
    simp only [List.mem_append,List.mem_flatMap] at hp
    rcases hp with (⟨j,hj,hp⟩ | ⟨j,hj,hp⟩) | ⟨r,hr,hp⟩
    · obtain ⟨hg,h,hh,hp⟩:=Cx.sure_mem ok (List.mem_range.1 hj) hp
      exact conjL_mem (opf j h (List.mem_range.1 hj) hh (hg G)).2.2 p hp
    · obtain ⟨hg,h,hh,hp⟩:=Cx.sure_mem ok (List.mem_range.1 hj) hp
      obtain ⟨f,hf,rfl⟩:=List.mem_map.1 hp
      exact FP.lim_of ((opf j h (List.mem_range.1 hj) hh (hg G)).1 f hf)
    · exact LE.lim_of (hle r (List.mem_range.1 hr)).2 p hp
end

open Go
section
variable {P : Program} {E : Env P} {S : Stop} {t : St}
theorem V.reg (hs:List (Hint P)) (hk:∀ N ε,(S,(cxOf E S t hs N ε).R.check E.nt,hs.length,lhsAll (cxOf E S t hs N ε) hs 0)=(.reg S.rid S.ops S.dr S.K,true,S.ops.size,rhsAll (cxOf E S t hs N ε) hs 0))
    (k:∀ N ε G,Knw ((cxOf E S t hs N ε).know G)→let S':=S.next;let t':=post (cxOf E S t hs N ε) G;V E S' t'):V E S t:=fun N ε a w hin=>by
  have h0:=hk N ε
  have e1:=congrArg (fun p:Stop × Bool × Nat × Prods hs=>p.1) h0
  have e2:=congrArg (fun p:Stop × Bool × Nat × Prods hs=>p.2.1) h0
  have e3:=congrArg (fun p:Stop × Bool × Nat × Prods hs=>p.2.2.1) h0
  have e4:=congrArg (fun p:Stop × Bool × Nat × Prods hs=>p.2.2.2) h0
  simp only at e1 e2 e3 e4
  have ok:(cxOf E S t hs N ε).Ok:=⟨e2,by show (hs.map (·.d)).length=_;rw [List.length_map];exact e3,hin.new,hin.facts,hin.own⟩
  have hone:∀ i,One (cxOf E S t hs N ε).R P E.w0 E.X i:=fun i=>by
    rcases Nat.lt_or_ge i S.ops.size with hi | hi
    · have hl:hs[i]?=some (hs[i]'(by rw [e3];exact hi)):=List.getElem?_eq_getElem _
      refine (hs[i]'(by rw [e3];exact hi)).sound (cxOf E S t hs N ε) i ok hi (by show (hs.map (·.d))[i]?=_;rw [List.getElem?_map,hl];rfl) fun G g w=>?_
      have:=all_get e4 i _ hl G g w
      rwa [Nat.zero_add] at this
    · intro o ho
      have:(cxOf E S t hs N ε).R.ops[i]?=none:=Array.getElem?_eq_none hi
      rw [this] at ho;cases ho
  rw [e1]
  show (Code.region S.rid S.ops S.dr).wp P (run P E.Q S.K) a w
  refine RC.region (R:=(cxOf E S t hs N ε).R) E.mo e2 hone hin.slots hin.st fun G a' w' d=>?_
  obtain ⟨h1,h2⟩:=post_in ok d
  exact norm_sound 200 (.inr .normal) S.K a' w' (k N ε G ⟨h2⟩ _ _ a' w' h1)
def cval (t:St):Operand→Option Value
  | .tmp s=>t.sl.lookup s
  | .const v=>some v
  | _=>none
theorem V.cond {b:Bool} {φ ψ:Prop} (hb:b=true↔φ) (hb':b=false↔ψ) (hk:(S,cval t S.cn)=(.cond S.cn S.x S.y S.K,some (.bool b))) (k1:φ→V E S.inX t) (k2:ψ→V E S.inY t):V E S t:=fun N ε a w hin=>by
  simp only [Prod.mk.injEq] at hk
  obtain ⟨e1,e2⟩:=hk
  rw [e1]
  have hv:a.eval S.cn=.bool b:=by
    cases hc:S.cn with
    | tmp s =>
      rw [hc] at e2
      have:=hin.slots.slot s _ e2
      simp [Act.eval,Array.getD_eq_getD_getElem?,this]
    | const v =>
      rw [hc] at e2
      simp only [cval,Option.some.injEq] at e2
      subst e2;rfl
    | _=>rw [hc] at e2;cases e2
  exact wp_cond_split hv (fun h=>norm_sound 200 (.inl S.x) S.K a w (k1 (hb.1 h) N ε a w hin)) (fun h=>norm_sound 200 (.inl S.y) S.K a w (k2 (hb'.1 h) N ε a w hin))
theorem V.condT (hk:(S,cval t S.cn)=(.cond S.cn S.x S.y S.K,some (.bool true))) (k1:V E S.inX t):V E S t :=
  V.cond (φ:=True) (ψ:=False) (by simp) (by simp) hk (fun _=>k1) fun h=>h.elim
theorem V.condF (hk:(S,cval t S.cn)=(.cond S.cn S.x S.y S.K,some (.bool false))) (k1:V E S.inY t):V E S t :=
  V.cond (φ:=False) (ψ:=True) (by simp) (by simp) hk (fun h=>h.elim) fun _=>k1
def FP.drop (f:FP):FP:={ f with t:=false }
theorem FP.drop_at {f:FP} {N K:Heaplet} (h:f.at N K) (hNK:Sub N K):f.drop.at N K:=by
  unfold FP.at at h
  cases e:f.t <;> rw [e] at h
  · exact h
  · exact f.m _ _ hNK h
theorem LE.drop_at {x:LE} {e:Ent} {N K:Heaplet} (h:x.at e N K) (hNK:Sub N K):x.drop.at e N K:=by
  cases x with
  | own t p m q hq =>
    cases t
    · exact h
    · exact m _ _ _ hNK h
  | _=>trivial
def matchF (x y:FP):FP:=bif y.t then x else x.drop
def matchL (x y:LE):LE:=match y with
  | .no=>.no
  | .own false _ _ _ _=>x.drop
  | _=>x
def leSt (fi:List Nat) (t t':St):List (Option Value) × List (Option FP) × List LE × Nat × Nat :=
  (t'.sl.map (fun p=>t.sl.lookup p.1),(fi.zip t'.F).map (fun p=>(t.F[p.1]?).map fun x=>matchF x p.2),(t.L.zip t'.L).map (fun p=>matchL p.1 p.2),fi.length,t.L.length)
def leSt' (t':St):List (Option Value) × List (Option FP) × List LE × Nat × Nat :=
  (t'.sl.map (fun p=>some p.2),t'.F.map some,t'.L,t'.F.length,t'.L.length)
theorem St.In.le {t t':St} {nt:Nat} {w0:World} {X:List Nat} {H N:Heaplet} {ε:Nat→Ent} {a:Act} {w:World} (h:t.In nt w0 X H N ε a w) {fi:List Nat} (hk:leSt fi t t'=leSt' t'):t'.In nt w0 X H N ε a w:=by
  simp only [leSt,leSt',Prod.mk.injEq] at hk
  obtain ⟨h1,h2,h3,h4,h5⟩:=hk
  have hNK:Sub N (hun N H):=hun_left
  have hL:∀ (r:Nat) (y:LE),t'.L[r]?=some y→∃ x,t.L[r]?=some x∧y=matchL x y:=fun r y hy=>by
    have:=congrArg (fun l:List LE=>l[r]?) h3
    simp only [List.getElem?_map,hy] at this
    cases hz:(t.L.zip t'.L)[r]? with
    | none=>rw [hz] at this;cases this
    | some p =>
      rw [hz] at this
      rw [List.getElem?_zip_eq_some] at hz
      rw [hy] at hz
      obtain ⟨z1,z2⟩:=hz
      simp only [Option.some.injEq] at z2
      simp only [Option.map_some,Option.some.injEq] at this
      rw [←z2] at this
      exact ⟨p.1,z1,this.symm⟩
  have hent:∀ (x y:LE) (e:Ent) (p:Nat × Obj),y=matchL x y→y.ent e=some p→x.ent e=some p:=fun x y e p hy hp=>by
    rw [hy] at hp
    cases y with
    | no=>cases hp
    | blk b arr T=>exact hp
    | own t' q m r hr =>
      cases t'
      · simp only [matchL] at hp
        cases x <;> exact hp
      · exact hp
  have hents:∀ (r b:Nat) (o:Obj),(ents t'.L ε)[r]?=some (some (b,o))→(ents t.L ε)[r]?=some (some (b,o)):=fun r b o he=>by
    rw [ents_get,Option.map_eq_some_iff] at he ⊢
    obtain ⟨y,hy,he⟩:=he
    obtain ⟨x,hx,hxy⟩:=hL r y hy
    exact ⟨x,hx,hent x y _ _ hxy he⟩
  refine ⟨h.slots.sub h1,⟨h.st.base,h.st.agr,fun r b o he=>h.st.ent r b o (hents _ _ _ he),fun r r' b o o' he he'=>h.st.dis r r' b o o' (hents _ _ _ he) (hents _ _ _ he')⟩,h.new,fun f hf=>?_,fun r y hy=>?_⟩
  · obtain ⟨k,hk⟩:=List.getElem?_of_mem hf
    have:=congrArg (fun l:List (Option FP)=>l[k]?) h2
    simp only [List.getElem?_map,hk,Option.map_some] at this
    cases hz:(fi.zip t'.F)[k]? with
    | none=>rw [hz] at this;cases this
    | some p =>
      rw [hz] at this
      rw [List.getElem?_zip_eq_some] at hz
      rw [hk] at hz
      obtain ⟨_,z2⟩:=hz
      simp only [Option.some.injEq] at z2
      simp only [Option.map_some,Option.some.injEq,Option.map_eq_some_iff] at this
      obtain ⟨x,hx,hxf⟩:=this
      rw [←z2] at hxf
      have hat:=h.facts x (List.mem_of_getElem? hx)
      rw [←hxf]
      unfold matchF
      cases f.t
      · exact FP.drop_at hat hNK
      · exact hat
  · obtain ⟨x,hx,hxy⟩:=hL r y hy
    have hat:=h.own r x hx
    rw [hxy]
    cases y with
    | no=>trivial
    | blk b arr T=>exact hat
    | own t' q m r' hr =>
      cases t'
      · exact LE.drop_at hat hNK
      · exact hat
theorem V.le {t':St} (fi:List Nat) (hk:leSt fi t t'=leSt' t') (k:V E S t'):V E S t:=fun N ε a w hin=>k N ε a w (hin.le hk)
def St.know (t:St):List Prop:=t.F.map (·.q) ++t.L.flatMap LE.lim
theorem St.In.know {nt:Nat} {w0:World} {X:List Nat} {H N:Heaplet} {ε:Nat→Ent} {a:Act} {w:World} (h:t.In nt w0 X H N ε a w):conjL t.know:=conjL_of fun p hp=>by
  rcases List.mem_append.1 hp with hp | hp
  · obtain ⟨f,hf,rfl⟩:=List.mem_map.1 hp
    exact FP.lim_of (h.facts f hf)
  · obtain ⟨x,hx,hp⟩:=List.mem_flatMap.1 hp
    obtain ⟨r,hr⟩:=List.getElem?_of_mem hx
    exact LE.lim_of (h.own r x hr) p hp
def Takes {P:Program} {γ:Type} (E:Env P) (I:γ→St) (F:γ→Prop) (M:γ→Prop) (Z:Act→World→Prop):Prop:=∀ g,F g→M g→∀ N ε a w,(I g).In E.nt E.w0 E.X E.H N ε a w→Z a w
theorem loop_ghost {P:Program} {Q:Exit→Act→World→Prop} {c:Code} {a:Act} {w:World} {γ:Type} (I:γ→Act→World→Prop) (μ:γ→Nat) (g:γ) (h0:I g a w)
    (round:∀ g a w,I g a w→c.wp P (Exit.then (fun a' w'=>∃ g',I g' a' w'∧μ g' < μ g) Q) a w):(Code.loop c).wp P Q a w:=by
  classical
  let S:Act→World→Nat→Prop:=fun a w n=>∃ g,I g a w∧μ g=n
  have least:∀ a w,(∃ n,S a w n)→∃ n,S a w n∧∀ m,S a w m→n≤m:=fun a w ⟨n,hn⟩=>by
    induction n using Nat.strongRecOn with
    | _ n ih =>
      by_cases h:∃ m,m < n∧S a w m
      · obtain ⟨m,hm,hS⟩:=h
        exact ih m hm hS
      · exact ⟨n,hn,fun m hm=>Nat.le_of_not_lt fun hlt=>h ⟨m,hlt,hm⟩⟩
  let M:Act→World→Nat:=fun a w=>if h:∃ n,S a w n then Classical.choose (least a w h) else 0
  refine wp_loop (fun a w=>∃ g,I g a w) M ⟨g,h0⟩ fun a w ⟨g,hg⟩=>?_
  have hex:∃ n,S a w n:=⟨μ g,g,hg,rfl⟩
  have hM:M a w=Classical.choose (least a w hex):=dif_pos hex
  obtain ⟨⟨g1,hg1,hm1⟩,_⟩:=Classical.choose_spec (least a w hex)
  refine Go.wp_mono (round g1 a w hg1) fun e a' w' hq=>?_
  cases e with
  | normal =>
    obtain ⟨g2,hg2,hlt⟩:=hq
    refine ⟨⟨g2,hg2⟩,?_⟩
    have hex2:∃ n,S a' w' n:=⟨μ g2,g2,hg2,rfl⟩
    have hM2:M a' w'=Classical.choose (least a' w' hex2):=dif_pos hex2
    have:=(Classical.choose_spec (least a' w' hex2)).2 (μ g2) ⟨g2,hg2,rfl⟩
    rw [hM2,hM,← hm1]
    omega
  | _=>exact hq
theorem V.loop {γ:Type} (I:γ→St) (F:γ→Prop) (μ:γ→Nat) (g:γ) (hk:S=.loop S.x S.K) (fi:List Nat) (h0:leSt fi t (I g)=leSt' (I g)) (hF:F g)
    (round:∀ g,F g→Knw (I g).know→∀ Z,Takes E I F (fun g'=>μ g' < μ g) Z→V E (norm 200 (.inl S.x) (.rnd Z :: S.K)) (I g)):V E S t:=fun N ε a w hin=>by
  rw [hk]
  show (Code.loop S.x).wp P (run P E.Q S.K) a w
  have hin:=hin.le h0
  refine loop_ghost (fun g a w=>F g∧∃ N ε,(I g).In E.nt E.w0 E.X E.H N ε a w) μ g ⟨hF,N,ε,hin⟩ fun g a w ⟨hF,N,ε,hin⟩=>?_
  exact norm_sound 200 (.inl S.x) (.rnd (fun a' w'=>∃ g',(F g'∧∃ N ε,(I g').In E.nt E.w0 E.X E.H N ε a' w')∧μ g' < μ g) :: S.K) a w (round g hF ⟨hin.know⟩ _ (fun g' hF' hm N ε a w h=>⟨g',⟨hF',N,ε,h⟩,hm⟩) N ε a w hin)
def Stop.rz:Stop→Option (Act→World→Prop)
  | .rnd Z _=>some Z
  | _=>none
theorem V.rnd {γ:Type} {I:γ→St} {F:γ→Prop} {M:γ→Prop} {Z:Act→World→Prop} (hZ:Takes E I F M Z) (g:γ) (fi:List Nat) (hk:(S.rz,leSt fi t (I g))=(some Z,leSt' (I g))) (hF:F g) (hM:M g):V E S t:=fun N ε a w hin=>by
  simp only [Prod.mk.injEq] at hk
  obtain ⟨e1,e2⟩:=hk
  cases S with
  | rnd Z' K =>
    simp only [Stop.rz,Option.some.injEq] at e1
    subst e1
    exact hZ g hF hM N ε a w (hin.le e2)
  | _=>cases e1
def fnEnv {P:Program} (mo:P.follows .mixedOrders=true) (fn:Func) (nt:Nat) (w:World) (H:Heaplet) (olds:List Ent) (V:Rec→Value) (F':Rec→List FP) (L':Rec→List LE) (pu:Rec→List Prop):Env P :=
  { nt,w0:=w,X:=blks olds,H,Q:=bodyPost P fn fun e w'=>∃ g,CPost w w' H olds V F' L' pu e g,mo }
theorem ents_more {ε:Nat→Ent} {L:List LE} {n r b:Nat} {o:Obj} (h:(ents (L ++List.replicate n .no) ε)[r]?=some (some (b,o))):(ents L ε)[r]?=some (some (b,o)):=by
  rw [ents_get,Option.map_eq_some_iff] at h ⊢
  obtain ⟨x,hx,he⟩:=h
  rw [List.getElem?_append] at hx
  split at hx
  · exact ⟨x,hx,he⟩
  · rw [List.getElem?_replicate] at hx
    split at hx
    · cases hx;cases he
    · cases hx
theorem W_calls {P:Program} {f:FuncId} {fn:Func} {c:Code} {args:Array Value} {w:World} {R:Ending→World→Prop} (hf:P.funcs[f]?=some fn) (hb:fn.body=some c) (nt:Nat) (hnt:(args ++Array.replicate (fn.ntmps - args.size) undef).size=nt)
    (h:∀ a,SlotsOK nt (args.toList.zipIdx.map fun p=>(p.2,p.1)) a→c.wp P (bodyPost P fn R) a w):Calls P f args w R:=by
  refine calls_of_wp hf hb (h _ ⟨rfl,hnt,fun s v hv=>?_⟩)
  have key:∀ (l:List Value) (k:Nat),((l.zipIdx k).map fun p=>(p.2,p.1)).lookup s=some v→k≤s∧l[s - k]?=some v:=by
    intro l
    induction l with
    | nil=>intro k h;cases h
    | cons x l ih =>
      intro k h
      simp only [List.zipIdx_cons,List.map_cons,List.lookup_cons] at h
      by_cases e:s=k
      · subst e;simp at h;simp [h]
      · have e':(s == k)=false:=by simpa using e
        rw [e'] at h
        obtain ⟨h1,h2⟩:=ih (k+1) h
        refine ⟨by omega,?_⟩
        rw [show s - k=(s - (k+1))+1 from by omega]
        simpa using h2
  have:=(key args.toList 0 hv).2
  simp only [Nat.sub_zero,Array.getElem?_toList] at this
  have hlt:=(Array.getElem?_eq_some_iff.1 this).1
  rw [Array.getElem?_append_left hlt];exact this
theorem V.fn {f:FuncId} {args:Array Value} {F:List FP} {L:List LE} {V':Rec→Value} {F':Rec→List FP} {L':Rec→List LE} {pu:Rec→List Prop} (mo:P.follows .mixedOrders=true) {fn:Func} (hf:P.funcs[f]?=some fn) (nt n:Nat)
    (hk:(fn.body.isSome,(args ++Array.replicate (fn.ntmps-args.size) undef).size)=(true,nt))
    (h:∀ w H ε,Knw (F.map (·.q) ++L.flatMap LE.lim)→V (fnEnv mo fn nt w H (ents L ε) V' F' L' pu) (norm 200 (.inl (body fn)) []) ⟨args.toList.zipIdx.map fun p=>(p.2,p.1),F.map FP.drop,L.map LE.drop ++List.replicate n .no⟩):Ct P f args F L V' F' L' pu:=fun w H ε hA hF hst hown=>by
  simp only [Prod.mk.injEq] at hk;obtain ⟨hb,hnt⟩:=hk;have hb':fn.body=some (body fn):=by
    unfold body;cases hc:fn.body with
    | none=>rw [hc] at hb;cases hb
    | some c=>rfl
  have hlim:conjL (F.map (·.q) ++L.flatMap LE.lim):=conjL_of fun p hp=>by
    rcases List.mem_append.1 hp with hp | hp
    · obtain ⟨q,hq,rfl⟩:=List.mem_map.1 hp;exact q.hq _ (hF q hq)
    · obtain ⟨x,hx,hp⟩:=List.mem_flatMap.1 hp;obtain ⟨r,hr⟩:=List.getElem?_of_mem hx;exact LE.lim_of (hown r x hr) p hp
  have hV:=h w H ε ⟨hlim⟩;have eH:hun (fun _=>none) H=H:=rfl;have hdr:∀ (x:LE) e,x.drop.ent e=x.ent e:=fun x e=>by cases x <;> rfl
  have hent:∀ (r b:Nat) (o:Obj),(ents (L.map LE.drop ++List.replicate n .no) ε)[r]?=some (some (b,o))→(ents L ε)[r]?=some (some (b,o)):=fun r b o he=>by
    have:=ents_more he
    rw [ents_get,List.getElem?_map,Option.map_eq_some_iff] at this;obtain ⟨x,hx,he⟩:=this;obtain ⟨y,hy,rfl⟩:=Option.map_eq_some_iff.1 hx;rw [ents_get,hy];rw [hdr] at he;simp [he]
  refine W_calls hf hb' nt hnt fun a hs=>?_;refine norm_sound 200 (.inl (body fn)) [] a w (hV (fun _=>none) ε a w ⟨hs,⟨hst.base,hst.agr,fun r b o he=>hst.ent r b o (hent _ _ _ he),fun r r' b o o' he he'=>hst.dis r r' b o o' (hent _ _ _ he) (hent _ _ _ he')⟩,new_none,fun q hq=>?_,fun r x hx=>?_⟩)
  · obtain ⟨q',hq',rfl⟩:=List.mem_map.1 hq;exact hF q' hq'
  · rw [List.getElem?_append] at hx;split at hx
    · rw [List.getElem?_map] at hx;obtain ⟨y,hy,rfl⟩:=Option.map_eq_some_iff.1 hx
      have:=hown r y hy
      cases y with
      | own t p m q hq=>cases t <;> exact this
      | _=>trivial
    · rw [List.getElem?_replicate] at hx;split at hx
      · cases hx;trivial
      · cases hx
def resV (P:Program) (t:St):ResultVar × Nat→Value
  | (.tmp s,_)=>(t.sl.lookup s).getD undef
  | (.cell s T,r)=>wrapT P T ((List.range ((sizeT P T).getD 0)).map fun j=>(entA (((t.L[r]?).getD .no).ent none)).getD ((addrOf ((t.sl.lookup s).getD undef)).off+j) undef)
def resC (P:Program) (t:St):ResultVar × Nat→Option Value × Bool × Bool × Ent
  | (.tmp s,_)=>(t.sl.lookup s,true,true,none)
  | (.cell s T,r)=>(t.sl.lookup s,(P.underlying T).isSome && (sizeT P T).isSome && (aggB P T || (sizeT P T).getD 0 == 1),decide ((addrOf ((t.sl.lookup s).getD undef)).off+(sizeT P T).getD 0≤(entA (((t.L[r]?).getD .no).ent none)).size),((t.L[r]?).getD .no).ent none)
def resC' (P:Program) (t:St):ResultVar × Nat→Option Value × Bool × Bool × Ent
  | (.tmp s,r)=>(some (resV P t (.tmp s,r)),true,true,none)
  | (.cell s _,r)=>(some (.pointer (some ⟨entB (((t.L[r]?).getD .no).ent none),(addrOf ((t.sl.lookup s).getD undef)).off,none⟩)),true,true,some (entB (((t.L[r]?).getD .no).ent none),.cells (entA (((t.L[r]?).getD .no).ent none)) (entT (((t.L[r]?).getD .no).ent none))))
def tupV:List Value→Value
  | [v]=>v
  | vs=>.tuple vs.toArray
def Stop.isEnd:Stop→Bool
  | .fin .ret=>true
  | .fin .normal=>true
  | _=>false
theorem res_run {w:World} {nt:Nat} {w0:World} {X:List Nat} {H N:Heaplet} {ε:Nat→Ent} {a:Act} (hin:t.In nt w0 X H N ε a w) {p:ResultVar × Nat} (h:resC P t p=resC' P t p):(resOf a.tmps p.1).run P w=.ok (resV P t p) w:=by
  obtain ⟨rv,r⟩:=p
  cases rv with
  | tmp s =>
    simp only [resC,resC',Prod.mk.injEq] at h
    exact res_tmp h.1 hin.slots
  | cell s T =>
    simp only [resC,resC',Prod.mk.injEq,Bool.and_eq_true] at h
    obtain ⟨h1,⟨⟨h2,h3⟩,h4⟩,h5,h6⟩:=h
    obtain ⟨n,hn⟩:=Option.isSome_iff_exists.1 h3
    rw [hn] at h4 h5
    simp only [Option.getD_some] at h4 h5
    have he:(ents t.L ε)[r]?=some (some (entB (((t.L[r]?).getD .no).ent none),.cells (entA (((t.L[r]?).getD .no).ent none)) (entT (((t.L[r]?).getD .no).ent none)))):=by
      rw [ents_get]
      cases hr:t.L[r]? with
      | none=>rw [hr] at h6;cases h6
      | some x =>
        cases x with
        | blk b arr T'=>rfl
        | _=>rw [hr] at h6;cases h6
    have hb:=(hin.st.ent r _ _ he).1
    have hp:=slot_getD h1 hin.slots
    have h5:=of_decide_eq_true h5
    have hl:=loadVar_run (P:=P) (w:=w) (t:=T) (a:=⟨entB (((t.L[r]?).getD .no).ent none),(addrOf ((t.sl.lookup s).getD undef)).off,none⟩) (vs:=(List.range n).map fun j=>(entA (((t.L[r]?).getD .no).ent none)).getD ((addrOf ((t.sl.lookup s).getD undef)).off+j) undef) h2 (by simpa using hn) (fun hb=>by rw [hb] at h4;simpa using h4) fun j v hj=>by
      simp only [List.getElem?_map,Option.map_eq_some_iff] at hj
      obtain ⟨k,hk,rfl⟩:=hj
      obtain ⟨hlt,rfl⟩:=List.getElem?_eq_some_iff.1 hk
      simp only [List.length_range] at hlt
      simp only [List.getElem_range]
      rw [add_eq rfl]
      have:(addrOf ((t.sl.lookup s).getD undef)).off+j < (entA (((t.L[r]?).getD .no).ent none)).size:=by omega
      simp [World.cell?,hb,this]
    show (do loadVar T (←asAddr (a.tmps.getD s undef)):Sem Value).run P w=_
    rw [hp]
    simp only [resV,hn,Option.getD_some]
    simp [asAddr,hl]
theorem V.ret {mo:P.follows .mixedOrders=true} {fn:Func} {nt:Nat} {w0:World} {H:Heaplet} {olds:List Ent} {V':Rec→Value} {F':Rec→List FP} {L':Rec→List LE} {pu:Rec→List Prop} (rr:List Nat) (ss:List SV) (sls:List (Nat→SV)) (bs:List Nat) (fi li:List Nat) (v:Value)
    (hk:∀ N es,(S.isEnd,fn.results.size == rr.length,(fn.results.toList.zip rr).map (resC P t),tupV ((fn.results.toList.zip rr).map (resV P t)),fi.length,(fi.zip (F' { H:=N,ss:=fun k=>ss.getD k {},sl:=fun k=>sls.getD k (fun _=>{}),bs:=fun k=>bs.getD k 0,es:=es })).map (fun p=>(t.F[p.1]?).map fun x=>matchF x p.2),nodup li,li.length,(li.zip (L' { H:=N,ss:=fun k=>ss.getD k {},sl:=fun k=>sls.getD k (fun _=>{}),bs:=fun k=>bs.getD k 0,es:=es })).map (fun p=>(t.L[p.1]?).map fun x=>matchL x p.2)) =
      (true,true,(fn.results.toList.zip rr).map (resC' P t),v,(F' { H:=N,ss:=fun k=>ss.getD k {},sl:=fun k=>sls.getD k (fun _=>{}),bs:=fun k=>bs.getD k 0,es:=es }).length,(F' { H:=N,ss:=fun k=>ss.getD k {},sl:=fun k=>sls.getD k (fun _=>{}),bs:=fun k=>bs.getD k 0,es:=es }).map some,true,(L' { H:=N,ss:=fun k=>ss.getD k {},sl:=fun k=>sls.getD k (fun _=>{}),bs:=fun k=>bs.getD k 0,es:=es }).length,(L' { H:=N,ss:=fun k=>ss.getD k {},sl:=fun k=>sls.getD k (fun _=>{}),bs:=fun k=>bs.getD k 0,es:=es }).map some))
    (hv:∀ N es,v=V' { H:=N,ss:=fun k=>ss.getD k {},sl:=fun k=>sls.getD k (fun _=>{}),bs:=fun k=>bs.getD k 0,es:=es }) (hp:∀ N es,conjL (pu { H:=N,ss:=fun k=>ss.getD k {},sl:=fun k=>sls.getD k (fun _=>{}),bs:=fun k=>bs.getD k 0,es:=es })):V (fnEnv mo fn nt w0 H olds V' F' L' pu) S t:=fun N ε a w hin=>by
  have h0:=hk N fun k=>ε (li.getD k 0)
  have hv:=hv N fun k=>ε (li.getD k 0)
  have hp:=hp N fun k=>ε (li.getD k 0)
  generalize hg:({ H:=N,ss:=fun k=>ss.getD k {},sl:=fun k=>sls.getD k (fun _=>{}),bs:=fun k=>bs.getD k 0,es:=fun k=>ε (li.getD k 0) }:Rec)=g at h0 hv hp
  have gH:g.H=N:=by rw [←hg]
  have gE:g.es=fun k=>ε (li.getD k 0):=by rw [←hg]
  simp only [Prod.mk.injEq,beq_iff_eq] at h0
  obtain ⟨e1,e2,e3,e4,e5,e6,e7,e8,e9⟩:=h0
  have hNK:Sub N (hun N H):=hun_left
  have hK:Agrees w (hun N H):=hin.st.agr _ (by simp [fnEnv])
  have hLk:∀ (k:Nat) (y:LE),(L' g)[k]?=some y→∃ x,t.L[li.getD k 0]?=some x∧y=matchL x y∧li[k]?=some (li.getD k 0):=fun k y hy=>by
    have:=congrArg (fun l:List (Option LE)=>l[k]?) e9
    simp only [List.getElem?_map,hy,Option.map_some] at this
    cases hz:(li.zip (L' g))[k]? with
    | none=>rw [hz] at this;cases this
    | some p =>
      rw [hz] at this
      rw [List.getElem?_zip_eq_some] at hz
      obtain ⟨z1,z2⟩:=hz
      rw [hy] at z2
      simp only [Option.some.injEq] at z2
      simp only [Option.map_some,Option.some.injEq,Option.map_eq_some_iff] at this
      obtain ⟨x,hx,hxy⟩:=this
      rw [←z2] at hxy
      have:li.getD k 0=p.1:=by rw [List.getD_eq_getElem?_getD,z1];rfl
      rw [this]
      exact ⟨x,hx,hxy.symm,z1⟩
  have hent:∀ (x y:LE) (e:Ent) (p:Nat × Obj),y=matchL x y→y.ent e=some p→x.ent e=some p:=fun x y e p hy hp=>by
    rw [hy] at hp
    cases y with
    | no=>cases hp
    | blk b arr T=>exact hp
    | own t' q m r hr =>
      cases t'
      · simp only [matchL] at hp
        cases x <;> exact hp
      · exact hp
  have hents:∀ (k b:Nat) (o:Obj),(ents (L' g) g.es)[k]?=some (some (b,o))→(ents t.L ε)[li.getD k 0]?=some (some (b,o))∧li[k]?=some (li.getD k 0):=fun k b o he=>by
    rw [ents_get,Option.map_eq_some_iff] at he
    obtain ⟨y,hy,he⟩:=he
    obtain ⟨x,hx,hxy,hl⟩:=hLk k y hy
    rw [gE] at he
    refine ⟨?_,hl⟩
    rw [ents_get,hx,Option.map_some,hent x y _ _ hxy he]
  have hall:All2 (fun r v=>(resOf a.tmps r).run P w=.ok v w) fn.results.toList ((fn.results.toList.zip rr).map (resV P t)):=by
    have:∀ (rs:List ResultVar) (rr:List Nat),rs.length=rr.length→((rs.zip rr).map (resC P t)=(rs.zip rr).map (resC' P t))→All2 (fun r v=>(resOf a.tmps r).run P w=.ok v w) rs ((rs.zip rr).map (resV P t)):=by
      intro rs
      induction rs with
      | nil=>intro rr _ _;cases rr <;> trivial
      | cons r rs ih =>
        intro rr hl he
        cases rr with
        | nil=>cases hl
        | cons k rr =>
          simp only [List.zip_cons_cons,List.map_cons,List.cons.injEq] at he ⊢
          exact ⟨res_run hin he.1,ih rr (by simpa using hl) he.2⟩
    exact this _ _ (by simpa using e2) e3
  have hres:(results fn a.tmps).run P w=.ok v w:=by
    rw [←e4]
    obtain ⟨rs,hrs⟩:∃ rs:List ResultVar,fn.results=rs.toArray:=⟨fn.results.toList,by simp⟩
    rw [hrs] at hall ⊢
    simp only [List.toList_toArray] at hall ⊢
    match rs,(rs.zip rr).map (resV P t),hall,hrs with
    | [r],[u],h,hrs=>exact results_one hrs h.1
    | [],[],h,hrs=>exact results_many hrs (by simp) h
    | r :: r' :: rs,u :: u' :: us,h,hrs=>exact results_many hrs (by simp) h
  have fin:bodyPost P fn (fun e w'=>∃ g,CPost w0 w' H olds V' F' L' pu e g) .ret a w:=by
    refine ⟨hin.slots.defers,v,hres,g,⟨by rw [hv],hin.st.base,?_,?_,fun f hf=>?_,fun k b o he=>?_,fun k l b o o' h1 h2=>?_,fun k y hy=>?_,hp⟩⟩
    · rw [gH];exact hNK.trans hK
    · rw [gH];exact hin.new
    · rw [gH]
      obtain ⟨k,hk⟩:=List.getElem?_of_mem hf
      have:=congrArg (fun l:List (Option FP)=>l[k]?) e6
      simp only [List.getElem?_map,hk,Option.map_some] at this
      cases hz:(fi.zip (F' g))[k]? with
      | none=>rw [hz] at this;cases this
      | some p =>
        rw [hz] at this
        rw [List.getElem?_zip_eq_some] at hz
        rw [hk] at hz
        obtain ⟨_,z2⟩:=hz
        simp only [Option.some.injEq] at z2
        simp only [Option.map_some,Option.some.injEq,Option.map_eq_some_iff] at this
        obtain ⟨x,hx,hxf⟩:=this
        rw [←z2] at hxf
        have hat:=hin.facts x (List.mem_of_getElem? hx)
        rw [←hxf]
        unfold matchF
        cases f.t
        · exact FP.drop_at hat hNK
        · exact hat
    · obtain ⟨h1,_⟩:=hents k b o he
      obtain ⟨b1,b2,b3⟩:=hin.st.ent _ b o h1
      refine ⟨b1,b2,?_⟩
      rw [gH]
      have:=b3 (hun N H) (by simp [fnEnv])
      unfold hun at this
      cases hN:N b with
      | none=>rfl
      | some o'=>rw [hN] at this;cases this
    · obtain ⟨a1,c1⟩:=hents k b o h1
      obtain ⟨a2,c2⟩:=hents l b o' h2
      have:=hin.st.dis _ _ b o o' a1 a2
      rw [this] at c1
      exact nodup_inj e7 c1 c2
    · obtain ⟨x,hx,hxy,_⟩:=hLk k y hy
      have hat:=hin.own _ x hx
      rw [gH,gE,hxy]
      cases y with
      | no=>trivial
      | blk b arr T=>exact hat
      | own t' q m r' hr =>
        cases t'
        · exact LE.drop_at hat hNK
        · exact hat
  cases S with
  | fin e =>
    cases e with
    | ret=>exact fin
    | normal=>exact fin
    | _=>cases e1
  | _=>cases e1
end

open Go
abbrev iv (n:Int):Value:=.int .i64 n
abbrev bv (b:Bool):Value:=.bool b
abbrev tv (s:ByteArray):Value:=.string s
def ca {α:Type} [Dat α] (x:α):Array Value:=(Dat.cells x).toArray
def ag {α:Type} [Dat α] (x:α):Value:=.agg (ca x)
abbrev pp (b off:Nat):Value:=.pointer (some ⟨b,off,none⟩)
theorem nm {α:Type _} {p:Prop} (e:α) (k:∀ x,x=e→p):p:=k e rfl
theorem nl {α : Type} {P : Prop} (x : List α) (h : ∀ y : List α, y = x → y.length = x.length → P) : P := h x rfl rfl
theorem kn {l:List Prop} {b:Prop} (h:Knw l) (e:conjL l=b):b:=e ▸ h.h
theorem kq {l : List Prop} {b : Prop} (h : Knw l) (e : conjL l = b := by kernel_rfl) : b := kn h e
theorem iFT:false=true↔False:=by simp
theorem iFF:false=false↔True:=by simp
section
variable {P : Program} {E : Env P} {S : Stop} {t : St}
theorem set_get {L:List LE} {r k:Nat} {x y:LE} (hy:(L.set r x)[k]?=some y):(k=r∧y=x)∨(k≠r∧L[k]?=some y):=by
  by_cases e:r=k
  · subst e
    have:=(List.getElem?_eq_some_iff.1 hy).1
    rw [List.length_set] at this
    rw [List.getElem?_set_self this] at hy
    exact .inl ⟨rfl,(Option.some.inj hy).symm⟩
  · rw [List.getElem?_set_ne e] at hy;exact .inr ⟨fun h=>e h.symm,hy⟩
theorem V.on {α:Type} [Dat α] (r:Nat) (T:TypeId) (hr:t.L[r]?=some .no) (k:V E S ⟨t.sl,t.F,t.L.set r (os true T ([]:List α) {})⟩):V E S t:=fun N ε a w hin=>by
  let ε':Nat→Ent:=fun j=>if j=r then none else ε j
  have hne:∀ j,j≠r→ε' j=ε j:=fun j hj=>if_neg hj
  have her:ε' r=none:=if_pos rfl
  have hents:∀ (j b:Nat) (o:Obj),(ents (t.L.set r (os true T ([]:List α) {})) ε')[j]?=some (some (b,o))→(ents t.L ε)[j]?=some (some (b,o)):=fun j b o h=>by
    rw [ents_get,Option.map_eq_some_iff] at h
    obtain ⟨y,hy,he⟩:=h
    rcases set_get hy with ⟨rfl,rfl⟩ | ⟨hj,hy⟩
    · rw [her] at he;cases he
    · rw [ents_get,hy,← he,hne j hj];rfl
  refine k N ε' a w ⟨hin.slots,⟨hin.st.base,hin.st.agr,fun j b o h=>hin.st.ent j b o (hents j b o h),fun j j' b o o' h h'=>hin.st.dis j j' b o o' (hents _ _ _ h) (hents _ _ _ h')⟩,hin.new,hin.facts,fun j y hy=>?_⟩
  rcases set_get hy with ⟨rfl,rfl⟩ | ⟨hj,hy⟩
  · rw [her]
    show OSl T N ([]:List α) (.slice none 0 0) none
    exact OSl.nil
  · rw [hne j hj];exact hin.own j y hy
theorem V.frz {α:Type} [Dat α] (r:Nat) (b:Bool) (T:TypeId) (l:List α) (s:SV) (hr:(t.L[r]?,E.X)=(some (os b T l s),[])) (k:V E S ⟨t.sl,t.F ++[fs b l s],t.L.set r .no⟩):V E S t:=fun N ε a w hin=>by
  simp only [Prod.mk.injEq] at hr
  obtain ⟨hr,hX⟩:=hr
  have hown:=hin.own r _ hr
  have he:(ents t.L ε)[r]?=some (ε r):=by rw [ents_get,hr];rfl
  have hK:Agrees w (hun N E.H):=hin.st.agr _ (by simp)
  have hE:Agrees w (entH (ε r)):=entH_agrees fun b o hb=>(hin.st.ent r b o (by rw [he,hb])).1
  have s1:Sub N (hun (entH (ε r)) N):=hun_right' (U:=whole w) hE (hun_left.trans hK)
  have eK:hun (hun (entH (ε r)) N) E.H=hun (entH (ε r)) (hun N E.H):=hun_assoc _ _ _
  have s2:Sub (hun N E.H) (hun (hun (entH (ε r)) N) E.H):=by rw [eK];exact hun_right' (U:=whole w) hE hK
  have hents:∀ (j b:Nat) (o:Obj),(ents (t.L.set r .no) ε)[j]?=some (some (b,o))→j≠r∧(ents t.L ε)[j]?=some (some (b,o)):=fun j b o h=>by
    rw [ents_get,Option.map_eq_some_iff] at h
    obtain ⟨y,hy,he⟩:=h
    rcases set_get hy with ⟨rfl,rfl⟩ | ⟨hj,hy⟩
    · cases he
    · exact ⟨hj,by rw [ents_get,hy,← he];rfl⟩
  refine k (hun (entH (ε r)) N) ε a w ⟨hin.slots,⟨hin.st.base,fun K hk=>?_,fun j b o h=>?_,fun j j' b o o' h h'=>hin.st.dis j j' b o o' (hents _ _ _ h).2 (hents _ _ _ h').2⟩,fun b hb=>?_,fun f hf=>?_,fun j y hy=>?_⟩
  · have:K=hun (hun (entH (ε r)) N) E.H:=by simpa using hk
    subst this
    rw [eK];exact hun_agrees hE hK
  · obtain ⟨hj,h⟩:=hents j b o h
    obtain ⟨h1,h2,h3⟩:=hin.st.ent j b o h
    refine ⟨h1,h2,fun K hk=>?_⟩
    have:K=hun (hun (entH (ε r)) N) E.H:=by simpa using hk
    subst this
    rw [eK]
    have hn:entH (ε r) b=none:=by
      cases hh:entH (ε r) b with
      | none=>rfl
      | some o' =>
        exfalso
        unfold entH at hh
        cases hp:ε r with
        | none=>rw [hp] at hh;cases hh
        | some p =>
          rw [hp] at hh
          simp only at hh
          split at hh
          · rename_i hb;subst hb
            exact hj (hin.st.dis j r p.1 o p.2 h (by rw [he,hp]))
          · cases hh
    simp only [hun,hn]
    exact h3 (hun N E.H) (by simp)
  · cases hh:entH (ε r) b with
    | none =>
      simp only [hun,hh] at hb
      exact hin.new b hb
    | some o' =>
      unfold entH at hh
      cases hp:ε r with
      | none=>rw [hp] at hh;cases hh
      | some p =>
        rw [hp] at hh
        simp only at hh
        split at hh
        · rename_i hb';subst hb'
          rcases (hin.st.ent r p.1 p.2 (by rw [he,hp])).2.1 with h1 | h1
          · exact h1
          · rw [hX] at h1;cases h1
        · cases hh
  · rcases List.mem_append.1 hf with hf | hf
    · exact FP.mono (hin.facts f hf) s1 s2
    · have:f=fs b l s:=by simpa using hf
      subst this
      have key:∀ J J':Heaplet,Sub J J'→Sub (entH (ε r)) J'→OSl T J l s.v (ε r)→RSl J' l s.v:=fun J J' h1 h2 h=>h.frozen h1 h2
      unfold os ow LE.at at hown
      show bif b then RSl _ l _ else RSl _ l _
      cases b
      · exact key _ _ s2 (by rw [eK];exact hun_left) hown
      · exact key _ _ s1 hun_left hown
  · rcases set_get hy with ⟨rfl,rfl⟩ | ⟨hj,hy⟩
    · trivial
    · exact LE.mono (hin.own j y hy) s1 s2
end
theorem V.go {P:Program} {E:Env P} {S:Stop} {t:St} (hs:List (Hint P)) (hk:∀ N ε,(S,(cxOf E S t hs N ε).R.check E.nt,hs.length,lhsAll (cxOf E S t hs N ε) hs 0)=(.reg S.rid S.ops S.dr S.K,true,S.ops.size,rhsAll (cxOf E S t hs N ε) hs 0))
    (k:∀ N ε G,let S':=S.next;let t':=post (cxOf E S t hs N ε) G;V E S' t'):V E S t:=V.reg hs hk fun N ε G _=>k N ε G
theorem V.alt {P:Program} {E:Env P} {S:Stop} {t:St} {α:Type} (F:α→St) {a b:α} (h:a=b) (fi:List Nat) (hk:leSt fi t (F a)=leSt' (F a)) (k:V E S (F b)):V E S t:=by
  subst h;exact V.le fi hk k
theorem V.nilF {P:Program} {E:Env P} {S:Stop} {t:St} {α:Type} [Dat α] (k:V E S ⟨t.sl,t.F ++[fs true ([]:List α) {}],t.L⟩):V E S t:=fun N ε a w hin=>k N ε a w ⟨hin.slots,hin.st,hin.new,fun f hf=>by
  rcases List.mem_append.1 hf with hf | hf
  · exact hin.facts f hf
  · have:f=fs true ([]:List α) {}:=by simpa using hf
    subst this
    show RSl N ([]:List α) (.slice none 0 0)
    exact RSl.nil,hin.own⟩
theorem V.again {P:Program} {E:Env P} {S:Stop} {t:St} (n:Nat) (hk:S=.rndN S.x (n+1) S.K) (k:V E (norm 200 (.inl S.x) (.rndN S.x n :: S.K)) t):V E S t:=fun N ε a w hin=>by
  rw [hk]
  exact norm_sound 200 (.inl S.x) (.rndN S.x n :: S.K) a w (k N ε a w hin)
namespace Hint
variable {P : Program}
def mn (x y:Int):Hint P:=e g0 (.int .i64 (if y < x then y else x)) (.int .i64 (min x y)) fun _=>by rw [min_if]
def mx (x y:Int):Hint P:=e g0 (.int .i64 (if y > x then y else x)) (.int .i64 (max x y)) fun _=>by rw [max_if]
def a (t:Int) (lo: -9223372036854775808≤t) (hi:t≤9223372036854775807):Hint P:=ar t t rfl lo hi
def ng (x n:Int) (hn:n= -x) (lo: -9223372036854775808≤n) (hi:n≤9223372036854775807):Hint P:=ar (0 - x) n (by omega) lo hi
def andn {g:Prop} (Γ:GdI g) (u:Bool) (b1 b2 b:Bool) (hb:b=(b1 && b2)):Hint P where
  d:={ val:=fun _=>.bool b }
  τ:=Option (Value × Value × Value) × Value × Option Bool
  lhs c i G _ _:=(c.R.pkr G i,c.R.val i (RC.put G i {}),Γ.B.map fun _=>c.R.gd G i)
  rhs _ _ _ _ _:=(some (.bool b1,(bif u then .bool b2 else bif (Γ.B.getD true && (b1 == true)) then .bool b2 else undef),.bool false),.bool b,Γ.B)
  sound c i ok hi h:=by
    subst hb
    exact (and Γ u b1 b2).sound c i ok hi h
def orn {g:Prop} (Γ:GdI g) (u:Bool) (b1 b2 b:Bool) (hb:b=(b1 || b2)):Hint P where
  d:={ val:=fun _=>.bool b }
  τ:=Option (Value × Value × Value) × Value × Option Bool
  lhs c i G _ _:=(c.R.pkr G i,c.R.val i (RC.put G i {}),Γ.B.map fun _=>c.R.gd G i)
  rhs _ _ _ _ _:=(some (.bool b1,.bool true,(bif u then .bool b2 else bif (Γ.B.getD true && (b1 == false)) then .bool b2 else undef)),.bool b,Γ.B)
  sound c i ok hi h:=by
    subst hb
    exact (or Γ u b1 b2).sound c i ok hi h
def aeq (neq:Bool) (t:TypeId) (xs ys:Array Value) (b:Bool) (he:∀ w,(Op.equal t (.agg xs) (.agg ys)).run P w=.ok b w):Hint P where
  d:={ val:=fun _=>.bool (bif neq then !b else b) }
  τ:=Option (Bool × TypeId × Value × Value) × Bool × Value
  lhs c i G _ _:=(c.R.bir G i,P.eqGuardType P.depth t,c.R.val i (RC.put G i {}))
  rhs _ _ _ _ _:=(some (neq,t,.agg xs,.agg ys),false,.bool (bif neq then !b else b))
  sound c i _ _ hi h:=fun o ho G w hs=>by
    have h0:=h G {} w
    simp only [Prod.mk.injEq] at h0
    obtain ⟨e1,e2,e3⟩:=h0
    refine Cx.still hi rfl (fun _=>⟨rfl,rfl⟩) ho ?_ e3
    unfold RC.bir at e1
    rw [ho] at e1
    obtain ⟨dst,op,type,pos,after,guard⟩:=o
    have he':∀ w,(Op.equalIn 10000 t (.agg xs) (.agg ys)).run P w=.ok b w:=he
    simp only [Option.map_some] at e1
    split at e1
    · rename_i t' x y ty heq
      simp only [Option.some.injEq] at heq
      subst heq
      simp only [Option.some.injEq,Prod.mk.injEq] at e1
      obtain ⟨rfl,rfl,hx,hy⟩:=e1
      simp [execOp,hx,hy,run_eqGuard_agg w .eql t' x y xs ys e2,run_eql_struct,he']
    · rename_i t' x y ty heq
      simp only [Option.some.injEq] at heq
      subst heq
      simp only [Option.some.injEq,Prod.mk.injEq] at e1
      obtain ⟨rfl,rfl,hx,hy⟩:=e1
      simp [execOp,hx,hy,run_eqGuard_agg w .neq t' x y xs ys e2,run_neq_struct,he']
    · cases e1
def isn (neq:Bool) (s:Gh→SV):Hint P where
  d:={ val:=fun G=>.bool (bif neq then !(s G).a.isNone else (s G).a.isNone) }
  τ:=Option (Bool × TypeId × Value × Value) × Bool × Value
  lhs c i G _ _:=(c.R.bir G i,((c.R.bir G i).bind fun p=>sliceOf P p.2.1).isSome,c.R.val i (RC.put G i {}))
  rhs c i G _ _:=(some (neq,((c.R.bir G i).elim 0 fun p=>p.2.1),(s G).v,.slice none 0 0),true,.bool (bif neq then !(s G).a.isNone else (s G).a.isNone))
  sound c i _ _ hi h:=fun o ho G w hs=>by
    have h0:=h G {} w
    simp only [Prod.mk.injEq] at h0
    obtain ⟨e1,e2,e3⟩:=h0
    refine Cx.still hi rfl (fun _=>⟨rfl,rfl⟩) ho ?_ e3
    rw [e1] at e2
    simp only [Option.bind_some] at e2
    obtain ⟨d,hd⟩:=Option.isSome_iff_exists.1 e2
    have hu:=slice_of hd
    generalize hT:((c.R.bir G i).elim 0 fun p=>p.2.1)=T at *
    unfold RC.bir at e1
    rw [ho] at e1
    obtain ⟨dst,op,type,pos,after,guard⟩:=o
    simp only [Option.map_some] at e1
    split at e1
    · rename_i t' x y ty heq
      simp only [Option.some.injEq] at heq
      subst heq
      simp only [Option.some.injEq,Prod.mk.injEq] at e1
      obtain ⟨rfl,rfl,hx,hy⟩:=e1
      simp [execOp,hx,hy,eqGuard,binOp,run_equal_slice_nil w t' d _ _ _ hu]
    · rename_i t' x y ty heq
      simp only [Option.some.injEq] at heq
      subst heq
      simp only [Option.some.injEq,Prod.mk.injEq] at e1
      obtain ⟨rfl,rfl,hx,hy⟩:=e1
      simp [execOp,hx,hy,eqGuard,binOp,run_equal_slice_nil w t' d _ _ _ hu]
    · cases e1
def cp {g:Prop} (Γ:GdI g) (n f:Nat) (qs:List Kv) {args:Gh→Array Value} {v:Gh→Value} (ct:g→∀ G,Cp P f (args G) (qs.map (Kv.fp G)) (v G)):Hint P :=
  call Γ n f false [] [] qs args (fun _=>[]) (fun G _=>v G) (fun _ _=>[]) (fun _ _=>[]) (fun _ _=>[]) ct
def ct {g:Prop} (Γ:GdI g) (n f:Nat) (ex:Bool) (rs ns:List Nat) (qs:List Kv) {args:Gh→Array Value} {L:Gh→List LE} {V:Gh→Rec→Value} {F':Gh→Rec→List FP} {L':Gh→Rec→List LE} {pu:Gh→Rec→List Prop}
    (h:g→∀ G,Ct P f (args G) (qs.map (Kv.fp G)) (L G) (V G) (F' G) (L' G) (pu G)):Hint P:=call Γ n f ex rs ns qs args L V F' L' pu h
end Hint

open Go
class MKey (κ:Type) [DecidableEq κ] where
  enc:κ→Value
  desc:TypeDesc
  same:∀ a b,Instr.sameNow desc (enc a) (enc b)=some (decide (a=b))
  key:∀ a,MapKept.IsKey desc (enc a)
instance : MKey Int where
  enc := .int .i64
  desc := .int .i64
  same a b := by
    show (if IntKind.i64 = IntKind.i64 then some (a == b) else none) = _
    rw [if_pos rfl]; rfl
  key _ := rfl
instance : MKey ByteArray where
  enc := .string
  desc := .string
  same a b := by
    show some (a == b) = _
    rw [beq_bytes]
  key _ := trivial
section
variable {κ α : Type} [DecidableEq κ] [MKey κ]
def mlook (k:κ):List (κ × α)→Option α
  | []=>none
  | p :: m=>if k=p.1 then some p.2 else mlook k m
def mupd (k:κ) (x:α):List (κ × α)→List (κ × α)
  | []=>[(k,x)]
  | p :: m=>if k=p.1 then (k,x) :: m else p :: mupd k x m
end

open Go
def RC.bnr (R:RC) (G:Gh) (i:Nat):Option (BinOp × Value × Value):=match (R.ops[i]?).map (fun o:Oper=>o.op) with
  | some (.binOp op _ x y _)=>some (op,R.evalAt G i x,R.evalAt G i y)
  | _=>none
def noEq:BinOp→Bool
  | .eql=>false
  | .neq=>false
  | _=>true
theorem noEq_guard {P:Program} {op:BinOp} (h:noEq op=true) (T:TypeId) (x y:Operand) (a b:Value) (w:World):(eqGuard op T x y a b).run P w=.ok () w:=by
  cases op <;> first | exact absurd h (by decide) | rfl
theorem rem_run {P:Program} {T:TypeId} {w:World} {x y n:Int} (h0:0≤x) (hy:y≠0) (hn:n=x % y):(binOp .rem T (.int .i64 x) (.int .i64 y)).run P w=.ok (.int .i64 n) w:=by
  simp [binOp,Op.intDiv,hy,Int.tmod_eq_emod_of_nonneg h0,hn]
theorem quo_run {P:Program} {T:TypeId} {w:World} {x y n:Int} (h0:0≤x) (hy:0 < y) (hn:n=x / y) (hi:n≤9223372036854775807):(binOp .quo T (.int .i64 x) (.int .i64 y)).run P w=.ok (.int .i64 n) w:=by
  have hy':y≠0:=by omega
  have h3:0≤x / y:=Int.ediv_nonneg h0 (by omega)
  have hw:IntKind.i64.wrap (x.tdiv y)=n:=by rw [Int.tdiv_eq_ediv_of_nonneg h0,← hn,IntKind.wrap_i64];omega
  simp [binOp,Op.intDiv,hy',hw]
namespace Hint
variable {P : Program}
def bin {g:Prop} (Γ:GdI g) (op:BinOp) (x y v:Value) (h:g→∀ (T:TypeId) (w:World),(binOp op T x y).run P w=.ok v w):Hint P where
  d:={ val:=fun _=>v }
  τ:=Option (BinOp × Value × Value) × Value × Option Bool × Bool
  lhs c i G _ _:=(c.R.bnr G i,c.R.val i (RC.put G i {}),Γ.B.map fun _=>c.R.gd G i,noEq op)
  rhs _ _ _ _ _:=(some (op,x,y),v,Γ.B,true)
  sound c i _ _ hi h0:=fun o ho G w hs=>by
    have h1:=h0 G {} w
    simp only [Prod.mk.injEq] at h1
    obtain ⟨e1,e2,e3,e4⟩:=h1
    refine Cx.still hi rfl (fun _=>⟨rfl,rfl⟩) ho (x:=v) ?_ e2
    have hr:=h (Cx.gdOk Γ hs e3)
    unfold RC.bnr at e1
    rw [ho] at e1
    obtain ⟨dst,op',type,pos,after,guard⟩:=o
    cases op' <;> simp only [Option.map_some] at e1 <;> first | (simp at e1;done) | skip
    case binOp o2 t' x' y' b' =>
      simp only [Option.some.injEq,Prod.mk.injEq] at e1
      obtain ⟨rfl,h1,h2⟩:=e1
      simp [execOp,h1,h2,noEq_guard e4,hr]
def rmv {g:Prop} (Γ:GdI g) (x y n:Int) (hn:n=x % y) (h:g→0≤x∧0 < y):Hint P:=bin Γ .rem (.int .i64 x) (.int .i64 y) (.int .i64 n) fun hg _ _=>rem_run (h hg).1 (by have:=(h hg).2;omega) hn
def qov {g:Prop} (Γ:GdI g) (x y n:Int) (hn:n=x / y) (h:g→0≤x∧0 < y) (hi:g→n≤9223372036854775807):Hint P:=bin Γ .quo (.int .i64 x) (.int .i64 y) (.int .i64 n) fun hg _ _=>quo_run (h hg).1 (h hg).2 hn (hi hg)
def fro {α:Type} [Dat α] (n r:Nat) (E:TypeId) (t:Bool) (l:List α) (s:Gh→SV) (b:Int) (l2:List α) (hl:l2=l.take b.toNat) (h0:0≤b) (h1:b≤l.length):Hint P where
  d:={ val:=fun G=>((s G).sub (Dat.size α) 0 b.toNat).v,news:=[(r,fun G=>os t E l2 ((s G).sub (Dat.size α) 0 b.toNat),fun G=>(G n).e)] }
  τ:=Option (TypeId × Value × Option Value × Option Value × Bool) × Option Nat × SV × Option LE × Nat
  lhs c i G g _:=(c.R.slr G i,(sliceOf P (c.R.slt i)).bind (sizeT P),s (c.R.vis i (RC.put G i g)),c.leAt i r G,i)
  rhs c i G _ _:=(some (c.R.slt i,(s G).v,none,some (.int .i64 b),true),some (Dat.size α),s G,some (os t E l (s G)),n)
  sound c i ok hil hi h:=fun o ho G w hs=>by
    have h2:=fun g=>h G g w
    simp only [Prod.mk.injEq] at h2
    obtain ⟨e1,e2,_,e4,rfl⟩:=h2 {}
    simp only [Option.bind_eq_some_iff] at e2
    obtain ⟨E',e2,e6⟩:=e2
    have hw:c.R.wrE r i=true:=by unfold RC.wrE;rw [Cx.upsOf hi];simp
    obtain ⟨en,a1,a2,a3⟩:=Cx.own_at ok hil hs e4 (by rw [hw];simp)
    have own:OSl E (c.J i G t) l (s G).v en:=by
      unfold os ow LE.at at a2
      cases t <;> exact a2
    have hrun:=slice_does (w:=w) (lo:=none) (hi:=some b) (l:=0) (h:=b) ho e1 e2 e6 rfl rfl own.isSl (by omega) h0 h1
    unfold Does
    rw [hrun]
    have hv:=Cx.vis_self (c:=c) (i:=i) (G:=G) { e:=en }
    have hsv:=(h2 { e:=en }).2.2.1
    refine ⟨{ e:=en },left_turn ok hil hi hs rfl rfl a1 ⟨a3,fun b o hb=>.inr ⟨o,hb⟩,Base.refl _ _⟩ ?_ ?_ rfl rfl ?_⟩
    · show (c.R.vis i (RC.put G i { e:=en }) i).e=_
      rw [hv];rfl
    · have key:OSl E (c.J i G t) l2 ((s G).sub (Dat.size α) 0 b.toNat).v en:=by
        rw [hl];exact own.take (by omega)
      show bif t then OSl E _ l2 _ _ else OSl E _ l2 _ _
      rw [hv,hsv]
      cases t <;> exact key
    · rw [Cx.valOf hi]
      show SV.v _=_
      rw [hsv];rfl
end Hint

open Go
structure Rw where
  s:SV:={}
instance : Dat Rw where
  default := {}
  size := 1
  cells x := [x.s.v]
  good _ _ := True
  len _ := rfl
  one _ _ _ u hu := by simp at hu; subst hu; rfl
  mono _ _ _ _ _ := trivial
  zero _ := trivial
def rw' {α:Type} (l:List (Fat α)):List Rw:=l.map fun x=>⟨x.s⟩
@[simp] theorem rw_length {α:Type} (l:List (Fat α)):(rw' l).length=l.length:=by simp [rw']
namespace Hint
variable {P : Program}
def seG {α:Type} [Dat α] {g:Prop} (Γ:GdI g) (n r:Nat) (E:TypeId) (t:Bool) (l:List α) (s:Gh→SV) (k:Int) (off:Option Nat) (x:α) (x':Gh→α) (hx:x=l.getD k.toNat default) (t2:Bool) (h:g→0≤k∧k < l.length)
    (ht:t2=true→t=true) (qs:List Kv) (hq:∀ G H,(∀ x ∈ l,Dat.good H x)→allR qs G H→Dat.good H (x' G)):Hint P where
  d:={ val:=fun _=>undef,news:=[(r,fun G=>os t2 E (l.set k.toNat (x' G)) (s G),fun G=>(G n).e)] }
  τ:=Option (TypeId × Value × Value) × Option Nat × Bool × Option LE × Nat × Bool × List Value × Bool × List (Option (Bool × (Ent→Heaplet→Prop)) × Bool) × SV × Option Bool × α
  lhs c i G g _:=(c.R.str G i,sizeT P (c.R.stt i),decide (off.getD 0+(c.R.stv G i).cells.toList.length≤Dat.size α),c.leAt i r G,i,(c.R.stv G i).cells.toList.all cell1,Dat.cells (x' G),tOk t2 qs,qs.map (Kv.chk c i G),s (c.R.vis i (RC.put G i g)),Γ.B.map fun _=>c.R.gd G i,x' (c.R.vis i (RC.put G i g)))
  rhs c i G _ _:=(some (c.R.stt i,.pointer (some (offA (elemAddr (s G).v (k.toNat * Dat.size α)) off)),c.R.stv G i),some (c.R.stv G i).cells.toList.length,true,some (os t E l (s G)),n,true,writeL (Dat.cells x) (off.getD 0) (c.R.stv G i).cells.toList,true,qs.map (Kv.want G),s G,Γ.B,x' G)
  sound c i ok hil hi h0:=fun o ho G w hs=>by
    have h1:=fun g=>h0 G g w
    simp only [Prod.mk.injEq] at h1
    obtain ⟨e1,e2,e3,e4,rfl,e6,e7,e8,e9,_,e11,_⟩:=h1 {}
    obtain ⟨b0,b1⟩:=h (Cx.gdOk Γ hs e11)
    have hw:c.R.wrE r i=true:=by unfold RC.wrE;rw [Cx.upsOf hi];simp
    obtain ⟨en,a1,a2,a3⟩:=Cx.own_at ok hil hs e4 (by rw [hw];simp)
    have own:OwnS E (Dat.size α) (rows l) (s G).v en∧∀ x ∈ l,Dat.good (c.J i G t) x:=by
      unfold os ow LE.at at a2
      cases t
      · exact ⟨a2.sl,a2.good⟩
      · exact ⟨a2.sl,a2.good⟩
    obtain ⟨en',w',hr,ho',hg⟩:=storeOwn_does (w:=w) (k:=k.toNat) (row:=Dat.cells x) ho e1 (offA_eq _ _) e2 rfl own.1 a3 (get_map' (by omega) hx) (of_decide_eq_true e3) e6
    unfold Does
    rw [hr]
    have hv:=Cx.vis_self (c:=c) (i:=i) (G:=G) { e:=en' }
    have hsv:=(h1 { e:=en' }).2.2.2.2.2.2.2.2.2.1
    have hxv:=(h1 { e:=en' }).2.2.2.2.2.2.2.2.2.2.2
    refine ⟨{ e:=en' },left_turn ok hil hi hs rfl rfl a1 hg ?_ ?_ rfl rfl (by rw [Cx.valOf hi])⟩
    · show (c.R.vis i (RC.put G i { e:=en' }) i).e=_
      rw [hv]
    · show bif t2 then OSl E _ (l.set k.toNat (x' (c.R.vis i (RC.put G i { e:=en' })))) _ _ else OSl E _ (l.set k.toNat (x' (c.R.vis i (RC.put G i { e:=en' })))) _ _
      rw [hv,hsv,hxv]
      have ho2:OwnS E (Dat.size α) (rows (l.set k.toNat (x' G))) (s G).v en':=by
        have:rows (l.set k.toNat (x' G))=(rows l).set k.toNat (writeL (Dat.cells x) (off.getD 0) (c.R.stv G i).cells.toList):=by rw [←e7];simp [rows,List.map_set]
        rw [this];exact ho'
      have hgl:∀ x ∈ l,Dat.good (c.J i G t2) x:=fun y hy=>by
        cases t2 with
        | true=>rw [←ht rfl];exact own.2 y hy
        | false=>exact Dat.mono _ _ _ (Cx.J_le_false hs _) (own.2 y hy)
      have fin:∀ x ∈ l.set k.toNat (x' G),Dat.good (c.J i G t2) x:=fun y hy=>by
        rcases List.mem_or_eq_of_mem_set hy with hy | hy
        · exact hgl y hy
        · rw [hy];exact hq G _ hgl (allR_of ok hil hs e9 e8)
      cases t2
      · exact ⟨ho2,fin⟩
      · exact ⟨ho2,fin⟩
end Hint

open Go
theorem wrapU64 (n:Int):IntKind.u64.wrap n=n % 18446744073709551616:=by simp [IntKind.wrap,IntKind.bits,IntKind.signed]
theorem ofInt64 (x:Int):(BitVec.ofInt 64 x).toNat=(x % 18446744073709551616).toNat:=by simp [BitVec.toNat_ofInt]
theorem and64 (x:Int) {b:Nat} {m:Int} (hb:b≤62) (hm:m=2 ^ b - 1):((BitVec.ofInt 64 x &&& BitVec.ofInt 64 m).toNat:Int)=x % (2 ^ b:Nat):=by
  have hm2:(BitVec.ofInt 64 m).toNat=2 ^ b - 1:=by
    rw [ofInt64]
    have h1:(2:Int) ^ b=((2 ^ b:Nat):Int):=by simp
    have h2:2 ^ b≤2 ^ 62:=Nat.pow_le_pow_right (by omega) hb
    have h3:0 < 2 ^ b:=Nat.pow_pos (by omega)
    rw [hm,h1]
    omega
  rw [BitVec.toNat_and,hm2,ofInt64,Nat.and_two_pow_sub_one_eq_mod]
  have h4:(2 ^ b:Nat) ∣ 18446744073709551616:=⟨2 ^ (64 - b),by rw [←Nat.pow_add,show b+(64 - b)=64 by omega]⟩
  have h5:((2 ^ b:Nat):Int) ∣ (18446744073709551616:Int):=Int.natCast_dvd_natCast.2 h4
  rw [Int.natCast_emod,Int.toNat_of_nonneg (Int.emod_nonneg _ (by omega)),Int.emod_emod_of_dvd _ h5]
theorem or64 {r a:Int} {b:Nat} (hr:0≤r) (ha:0≤a∧a < (2 ^ b:Nat)) (hs:r * (2 ^ b:Nat) < 18446744073709551616) (hb:b≤63):((BitVec.ofInt 64 (r * (2 ^ b:Nat)) ||| BitVec.ofInt 64 a).toNat:Int)=r * (2 ^ b:Nat)+a:=by
  rw [BitVec.toNat_or,ofInt64,ofInt64]
  have h2:2 ^ b≤2 ^ 63:=Nat.pow_le_pow_right (by omega) hb
  have h0:0≤r * (2 ^ b:Nat):=Int.mul_nonneg hr (by omega)
  have e1:(r * (2 ^ b:Nat) % 18446744073709551616).toNat=2 ^ b * r.toNat:=by
    rw [Int.emod_eq_of_lt h0 hs,Int.toNat_mul hr (by omega),Nat.mul_comm,Int.toNat_natCast]
  have e2:(a % 18446744073709551616).toNat=a.toNat:=by
    rw [Int.emod_eq_of_lt ha.1 (by omega)]
  rw [e1,e2,← Nat.two_pow_add_eq_or_of_lt (by omega)]
  have e3:((r.toNat:Nat):Int)=r:=by omega
  rw [Int.natCast_add,Int.natCast_mul,e3,Int.mul_comm r];omega
section
variable {P : Program} {T : TypeId} {w : World}
theorem and_run {x n m:Int} {b:Nat} (hb:b≤62) (hm:m=2 ^ b - 1) (hn:n=x % (2 ^ b:Nat)):(binOp .and T (.int .i64 x) (.int .i64 m)).run P w=.ok (.int .i64 n) w:=by
  have h:=and64 x hb hm
  have h3:0 < 2 ^ b:=Nat.pow_pos (by omega)
  have h2:2 ^ b≤2 ^ 62:=Nat.pow_le_pow_right (by omega) hb
  have hn0:0≤n∧n < 2 ^ 62:=by rw [hn];exact ⟨Int.emod_nonneg _ (by omega),by have:=Int.emod_lt_of_pos x (show (0:Int) < ((2 ^ b:Nat):Int) by omega);omega⟩
  have e:(binOp .and T (.int .i64 x) (.int .i64 m)).run P w=.ok (.int .i64 (IntKind.i64.wrap ((BitVec.ofInt 64 x &&& BitVec.ofInt 64 m).toNat:Int))) w:=rfl
  rw [e,h,← hn,IntKind.wrap_i64]
  congr 2;omega
theorem andu_run {x n m:Int} {b:Nat} (hb:b≤62) (hm:m=2 ^ b - 1) (hn:n=x % (2 ^ b:Nat)):(binOp .and T (.int .u64 x) (.int .u64 m)).run P w=.ok (.int .u64 n) w:=by
  have h:=and64 x hb hm
  have h3:0 < 2 ^ b:=Nat.pow_pos (by omega)
  have h2:2 ^ b≤2 ^ 62:=Nat.pow_le_pow_right (by omega) hb
  have hn0:0≤n∧n < 2 ^ 62:=by rw [hn];exact ⟨Int.emod_nonneg _ (by omega),by have:=Int.emod_lt_of_pos x (show (0:Int) < ((2 ^ b:Nat):Int) by omega);omega⟩
  have e:(binOp .and T (.int .u64 x) (.int .u64 m)).run P w=.ok (.int .u64 (IntKind.u64.wrap ((BitVec.ofInt 64 x &&& BitVec.ofInt 64 m).toNat:Int))) w:=rfl
  rw [e,h,← hn,wrapU64]
  congr 2;omega
theorem or_run {r a n:Int} {b:Nat} (hb:b≤62) (hr:0≤r) (ha:0≤a∧a < (2 ^ b:Nat)) (hn:n=r * (2 ^ b:Nat)+a) (hs:n≤9223372036854775807):(binOp .or T (.int .i64 (r * (2 ^ b:Nat))) (.int .i64 a)).run P w=.ok (.int .i64 n) w:=by
  have h0:0≤r * (2 ^ b:Nat):=Int.mul_nonneg hr (by omega)
  have h:=or64 hr ha (by omega) (by omega)
  have e:(binOp .or T (.int .i64 (r * (2 ^ b:Nat))) (.int .i64 a)).run P w=.ok (.int .i64 (IntKind.i64.wrap ((BitVec.ofInt 64 (r * (2 ^ b:Nat)) ||| BitVec.ofInt 64 a).toNat:Int))) w:=rfl
  rw [e,h,← hn,IntKind.wrap_i64]
  congr 2;omega
theorem oru_run {r a n:Int} {b:Nat} (hb:b≤63) (hr:0≤r) (ha:0≤a∧a < (2 ^ b:Nat)) (hn:n=r * (2 ^ b:Nat)+a) (hs:n < 18446744073709551616):(binOp .or T (.int .u64 a) (.int .u64 (r * (2 ^ b:Nat)))).run P w=.ok (.int .u64 n) w:=by
  have h0:0≤r * (2 ^ b:Nat):=Int.mul_nonneg hr (by omega)
  have h:=or64 hr ha (by omega) hb
  have e:(binOp .or T (.int .u64 a) (.int .u64 (r * (2 ^ b:Nat)))).run P w=.ok (.int .u64 (IntKind.u64.wrap ((BitVec.ofInt 64 a ||| BitVec.ofInt 64 (r * (2 ^ b:Nat))).toNat:Int))) w:=rfl
  rw [e,BitVec.or_comm,h,← hn,wrapU64]
  congr 2;omega
theorem shr_run {k yk:IntKind} {x n:Int} (s:Nat) (hs:s≤k.bits) (hn:n=x / (2 ^ s:Nat)):(binOp .shr T (.int k x) (.int yk s)).run P w=.ok (.int k n) w:=by
  have e:(binOp .shr T (.int k x) (.int yk s)).run P w=.ok (.int k (x.fdiv (2 ^ s))) w:=by
    simp [binOp,Op.shift,Nat.min_eq_left hs,show ¬ (s:Int) < 0 by omega]
  have h1:(2:Int) ^ s=((2 ^ s:Nat):Int):=by simp
  rw [e,h1,Int.fdiv_eq_ediv_of_nonneg _ (Int.natCast_nonneg _),← hn]
theorem shl_run {k yk:IntKind} {x n y:Int} (s:Nat) (hy:y=s) (hs:s≤k.bits) (hn:n=k.wrap (x * (2 ^ s:Nat))):(binOp .shl T (.int k x) (.int yk y)).run P w=.ok (.int k n) w:=by
  subst hy
  have h1:(2:Int) ^ s=((2 ^ s:Nat):Int):=by simp
  have e:(binOp .shl T (.int k x) (.int yk s)).run P w=.ok (.int k (k.wrap (x * 2 ^ s))) w:=by
    simp [binOp,Op.shift,Nat.min_eq_left hs,show ¬ (s:Int) < 0 by omega]
  rw [e,h1,← hn]
end
def bl (s:ByteArray):List UInt8:=s.data.toList
@[simp] theorem bl_len (s:ByteArray):(bl s).length=s.size:=by unfold bl;rw [Array.length_toList];rfl
@[simp] theorem bl_append (a b:ByteArray):bl (a ++b)=bl a ++bl b:=by simp [bl,ByteArray.data_append]
@[simp] theorem bl_empty:bl ByteArray.empty=[]:=rfl
namespace Hint
variable {P : Program}
def ek {g:Prop} (Γ:GdI g) (k:IntKind) (t n:Int) (h:g→k.wrap t=n):Hint P:=e Γ (.int k (k.wrap t)) (.int k n) fun hg=>by rw [h hg]
def andm {g:Prop} (Γ:GdI g) (x m n:Int) (b:Nat) (hb:b≤62) (hm:m=2 ^ b - 1) (hn:n=x % (2 ^ b:Nat)):Hint P:=bin Γ .and (.int .i64 x) (.int .i64 m) (.int .i64 n) fun _ _ _=>and_run hb hm hn
def andu {g:Prop} (Γ:GdI g) (x m n:Int) (b:Nat) (hb:b≤62) (hm:m=2 ^ b - 1) (hn:n=x % (2 ^ b:Nat)):Hint P:=bin Γ .and (.int .u64 x) (.int .u64 m) (.int .u64 n) fun _ _ _=>andu_run hb hm hn
def orm {g:Prop} (Γ:GdI g) (z r a n:Int) (b:Nat) (hz:z=r * (2 ^ b:Nat)) (h:g→b≤62∧0≤r∧(0≤a∧a < (2 ^ b:Nat))∧n=r * (2 ^ b:Nat)+a∧n≤9223372036854775807):Hint P:=bin Γ .or (.int .i64 z) (.int .i64 a) (.int .i64 n) fun hg _ _=>by
  obtain ⟨h1,h2,h3,h4,h5⟩:=h hg
  rw [hz];exact or_run h1 h2 h3 h4 h5
def oru {g:Prop} (Γ:GdI g) (a z r n:Int) (b:Nat) (hz:z=r * (2 ^ b:Nat)) (h:g→b≤63∧0≤r∧(0≤a∧a < (2 ^ b:Nat))∧n=r * (2 ^ b:Nat)+a∧n < 18446744073709551616):Hint P:=bin Γ .or (.int .u64 a) (.int .u64 z) (.int .u64 n) fun hg _ _=>by
  obtain ⟨h1,h2,h3,h4,h5⟩:=h hg
  rw [hz];exact oru_run h1 h2 h3 h4 h5
def shrm {g:Prop} (Γ:GdI g) (k yk:IntKind) (x n:Int) (s:Nat) (hs:s≤k.bits) (hn:n=x / (2 ^ s:Nat)):Hint P:=bin Γ .shr (.int k x) (.int yk s) (.int k n) fun _ _ _=>shr_run s hs hn
def shlm {g:Prop} (Γ:GdI g) (k yk:IntKind) (x y n:Int) (s:Nat) (h:g→y=s∧s≤k.bits∧n=k.wrap (x * (2 ^ s:Nat))):Hint P:=bin Γ .shl (.int k x) (.int yk y) (.int k n) fun hg _ _=>by
  obtain ⟨h1,h2,h3⟩:=h hg
  exact shl_run s h1 h2 h3
end Hint

open Go
section
variable {α : Type} [Dat α]
theorem mid_take (a p b:List α):((a ++p ++b).take (a.length+p.length)).drop a.length=p:=by
  rw [List.take_append_of_le_length (by simp),List.take_of_length_le (by simp)]
  first | rfl | simp
theorem mid_sub {H:Heaplet} {a p b:List α} {s:SV} (h:RSl H (a ++p ++b) s.v):RSl H p (s.sub (Dat.size α) a.length (a.length+p.length)).v:=by
  have:=h.sub (lo:=a.length) (hi:=a.length+p.length) (by omega) (by simp)
  rw [mid_take] at this
  exact this
def kop (t:Bool) (E:TypeId) (r:Nat) (a p b:List α) (m:Nat) (hm:p.length=m) (s:Gh→SV):Kw α p (fun G=>(s G).sub (Dat.size α) a.length (a.length+m)):=⟨.o r,t,false,fun G e H=>OSl E H (a ++p ++b) (s G).v e,fun G e H U h k he=>by
  subst hm
  exact mid_sub ⟨h.sl.toH.mono he,fun x hx=>Dat.mono _ _ x k (h.good x hx)⟩,fun _ _ _ h x hx=>h.good x (by simp [hx]),fun h=>by cases h⟩
theorem cut3 {l:List α} {lo hi:Nat} (h1:lo≤hi) (h2:hi≤l.length):l=l.take lo ++(l.take hi).drop lo ++l.drop hi:=by
  have e:l.take lo=(l.take hi).take lo:=by rw [List.take_take,Nat.min_eq_left h1]
  rw [e,List.take_append_drop,List.take_append_drop]
theorem cutlo {l:List α} {lo:Nat} (h:lo≤l.length):lo=(l.take lo).length:=by rw [List.length_take];omega
theorem cuthi {l:List α} {lo hi:Nat} (h1:lo≤hi) (h2:hi≤l.length):hi=(l.take lo).length+((l.take hi).drop lo).length:=by rw [List.length_drop,List.length_take,List.length_take];omega
theorem mid_set (a p b:List α) (k:Nat) (x:α) (hk:k < p.length):(a ++p ++b).set (a.length+k) x=a ++p.set k x ++b:=by
  rw [List.append_assoc,List.set_append_right _ _ (by omega),List.append_assoc]
  congr 1
  rw [show a.length+k - a.length=k by omega,List.set_append_left _ _ hk]
theorem mid_get (a p b:List α) (k:Nat) (hk:k < p.length):(a ++p ++b).getD (a.length+k) default=p.getD k default:=by
  simp only [List.getD_eq_getElem?_getD]
  rw [List.append_assoc,List.getElem?_append_right (by omega),show a.length+k - a.length=k by omega,List.getElem?_append_left hk]
theorem mid_addr {E:TypeId} {a p b:List α} {s:SV} {e:Ent} (h:OwnS E (Dat.size α) (rows (a ++p ++b)) s.v e) {k:Nat} (hk:k < p.length) :
    elemAddr (s.sub (Dat.size α) a.length (a.length+p.length)).v (k * Dat.size α)=(elemAddr s.v ((a.length+k) * Dat.size α)).add 0:=by
  rcases h.val with ⟨_,h2,_⟩ | ⟨g,cap,cur,e1,_,h2,_⟩
  · exfalso
    have:=congrArg List.length h2
    simp at this
    have h3:=this.2.1
    rw [h3] at hk;simp at hk
  · have ha:s.a=some ⟨g,0,none⟩:=by unfold SV.v at e1;injection e1
    have hc:s.c=cap:=by unfold SV.v at e1;injection e1
    have hne:¬ s.c=a.length:=by simp at h2;omega
    unfold SV.sub SV.v
    rw [if_neg hne,ha]
    show ((⟨g,0,none⟩:Addr).add _).add _=((⟨g,0,none⟩:Addr).add _).add _
    have ad:∀ (o n:Nat),(⟨g,o,none⟩:Addr).add n=⟨g,o+n,none⟩:=fun o n=>add_eq rfl n
    rw [ad,ad,ad,ad]
    simp only [Addr.mk.injEq,and_true,true_and]
    rw [Nat.add_mul];omega
end
theorem V.tro {P:Program} {E:Env P} {S:Stop} {t:St} {α:Type} [Dat α] (T:TypeId) (l:List α) (s:SV) (r:Nat) (hr:t.L[r]?=some (os false T l s)) (hg:∀ (H:Heaplet) (x:α),Dat.good H x) (k:V E S ⟨t.sl,t.F,t.L.set r (os true T l s)⟩):V E S t:=fun N ε ac w hin=>by
  have hlt:r < t.L.length:=(List.getElem?_eq_some_iff.1 hr).1
  have hents:ents (t.L.set r (os true T l s)) ε=ents t.L ε:=by
    refine List.ext_getElem? fun j=>?_
    rw [ents_get,ents_get,List.getElem?_set]
    by_cases e:r=j
    · subst e;rw [if_pos rfl,if_pos hlt,hr];rfl
    · rw [if_neg e]
  refine k N ε ac w ⟨hin.slots,by rw [hents];exact hin.st,hin.new,hin.facts,fun j y hy=>?_⟩
  rw [List.getElem?_set] at hy
  by_cases e:r=j
  · subst e
    rw [if_pos rfl,if_pos hlt] at hy
    cases hy
    have h:=hin.own r _ hr
    have h2:OSl T (hun N E.H) l s.v (ε r):=h
    show OSl T N l s.v (ε r)
    exact h2.any fun x _=>hg _ x
  · rw [if_neg e] at hy
    exact hin.own j y hy
namespace Hint
variable {P : Program}
def slv {α:Type} [Dat α] {l:List α} {s:Gh→SV} {g:Prop} (Γ:GdI g) (κ:Kw α l s) (lo hi:Option Int) (a b:Int) (ha:a=lo.getD 0) (hb:b=hi.getD l.length) (h:g→0≤a∧a≤b∧b≤l.length):Hint P where
  d:={ val:=fun G=>((s G).sub (Dat.size α) a.toNat b.toNat).v,rds:=κ.rdr }
  τ:=Option (TypeId × Value × Option Value × Option Value × Bool) × Option Nat × Value × Option Bool × (Option (Bool × (Ent→Heaplet→Prop)) × Bool)
  lhs c i G g _:=(c.R.slr G i,(sliceOf P (c.R.slt i)).bind (sizeT P),c.R.val i (RC.put G i {}),Γ.B.map fun _=>c.R.gd G i,κ.lhs c i G)
  rhs c i G _ _:=(some (c.R.slt i,κ.v G,lo.map (.int .i64 ·),hi.map (.int .i64 ·),true),some (Dat.size α),((s G).sub (Dat.size α) a.toNat b.toNat).v,Γ.B,κ.rhs G)
  sound c i ok hil hi h0:=fun o ho G w hs=>by
    have h1:=h0 G {} w
    simp only [Prod.mk.injEq] at h1
    obtain ⟨e1,e2,e3,e4,e5⟩:=h1
    obtain ⟨b0,b1,b2⟩:=h (Cx.gdOk Γ hs e4)
    simp only [Option.bind_eq_some_iff] at e2
    obtain ⟨E,e2,e6⟩:=e2
    have hr:=κ.read ok hil hs e5
    have hrun:=slice_does (w:=w) ho e1 e2 e6 ha hb hr.isSl b0 b1 b2
    exact still_does hi rfl (fun g=>conj_nil hi rfl (fun _=>⟨rfl,rfl⟩) _) hrun e3
def sep {α:Type} [Dat α] {g:Prop} (Γ:GdI g) (n r:Nat) (E:TypeId) (t:Bool) (a p b:List α) (m:Nat) (hm:p.length=m) (s:Gh→SV) (k:Int) (x':α) (p2:List α) (hp:p2=p.set k.toNat x') (h:g→0≤k∧k < p.length) (hq:∀ H,Dat.good H x'):Hint P where
  d:={ val:=fun _=>undef,news:=[(r,fun G=>os t E (a ++p2 ++b) (s G),fun G=>(G n).e)] }
  τ:=Option (TypeId × Value × Value) × Option Nat × Option LE × Nat × Bool × List Value × SV × Option Bool
  lhs c i G g _:=(c.R.str G i,sizeT P (c.R.stt i),c.leAt i r G,i,(c.R.stv G i).cells.toList.all cell1,(c.R.stv G i).cells.toList,s (c.R.vis i (RC.put G i g)),Γ.B.map fun _=>c.R.gd G i)
  rhs c i G _ _:=(some (c.R.stt i,.pointer (some (elemAddr ((s G).sub (Dat.size α) a.length (a.length+m)).v (k.toNat * Dat.size α))),c.R.stv G i),some (c.R.stv G i).cells.toList.length,some (os t E (a ++p ++b) (s G)),n,true,Dat.cells x',s G,Γ.B)
  sound c i ok hil hi h0:=fun o ho G w hs=>by
    subst hm
    have h1:=fun g=>h0 G g w
    simp only [Prod.mk.injEq] at h1
    obtain ⟨e1,e2,e4,rfl,e6,e7,_,e11⟩:=h1 {}
    obtain ⟨b0,b1⟩:=h (Cx.gdOk Γ hs e11)
    have hw:c.R.wrE r i=true:=by unfold RC.wrE;rw [Cx.upsOf hi];simp
    obtain ⟨en,a1,a2,a3⟩:=Cx.own_at ok hil hs e4 (by rw [hw];simp)
    have own:OwnS E (Dat.size α) (rows (a ++p ++b)) (s G).v en∧∀ x ∈ a ++p ++b,Dat.good (c.J i G t) x:=by
      unfold os ow LE.at at a2
      cases t
      · exact ⟨a2.sl,a2.good⟩
      · exact ⟨a2.sl,a2.good⟩
    have hk:k.toNat < p.length:=by omega
    have hlen:(c.R.stv G i).cells.toList.length=Dat.size α:=by rw [e7];exact Dat.len _
    obtain ⟨en',w',hr,ho',hg⟩:=storeOwn_does (w:=w) (k:=a.length+k.toNat) (off:=0) (row:=Dat.cells (p.getD k.toNat default)) ho e1 (mid_addr own.1 hk) e2 rfl own.1 a3 (get_map' (by simp;omega) (mid_get a p b _ hk).symm) (by omega) e6
    unfold Does
    rw [hr]
    have hv:=Cx.vis_self (c:=c) (i:=i) (G:=G) { e:=en' }
    obtain ⟨_,_,_,_,_,_,hsv,_⟩:=h1 { e:=en' }
    refine ⟨{ e:=en' },left_turn ok hil hi hs rfl rfl a1 hg ?_ ?_ rfl rfl (by rw [Cx.valOf hi])⟩
    · show (c.R.vis i (RC.put G i { e:=en' }) i).e=_
      rw [hv]
    · show bif t then OSl E _ (a ++p2 ++b) _ _ else OSl E _ (a ++p2 ++b) _ _
      rw [hv,hsv]
      have e8:a ++p2 ++b=(a ++p ++b).set (a.length+k.toNat) x':=by rw [hp,mid_set _ _ _ _ _ hk]
      have ho2:OwnS E (Dat.size α) (rows (a ++p2 ++b)) (s G).v en':=by
        have:rows (a ++p2 ++b)=(rows (a ++p ++b)).set (a.length+k.toNat) (writeL (Dat.cells (p.getD k.toNat default)) 0 (c.R.stv G i).cells.toList):=by
          rw [e8,e7]
          have hwl:writeL (Dat.cells (p.getD k.toNat default)) 0 (Dat.cells x')=Dat.cells x':=by
            unfold writeL
            rw [List.take_zero,List.nil_append,List.drop_of_length_le,List.append_nil]
            have l1:=Dat.len (p.getD k.toNat default)
            have l2:=Dat.len x'
            omega
          rw [hwl];simp [rows,List.map_set]
        rw [this];exact ho'
      have fin:∀ x ∈ a ++p2 ++b,Dat.good (c.J i G t) x:=fun y hy=>by
        rw [e8] at hy
        rcases List.mem_or_eq_of_mem_set hy with hy | hy
        · exact own.2 y hy
        · rw [hy];exact hq _
      cases t
      · exact ⟨ho2,fin⟩
      · exact ⟨ho2,fin⟩
end Hint

open Go
theorem Cp.of {P:Program} {f:FuncId} {args:Array Value} {F:List FP} {v:Value} (h:∀ (w:World) (H:Heaplet),Agrees w H→(∀ q ∈ F,q.p H)→Calls P f args w fun e w'=>e=.returned v∧Base [] w w'):Cp P f args F v:=fun w H ε hA hF _ _ =>
  (h w H hA hF).mono fun e w' ⟨he,hb⟩=>⟨{},{ ret:=he,base:=hb,agr:=agrees_none,new:=new_none,facts:=(fun f hf=>by cases hf),ent:=(fun k b o h=>by simp [ents] at h),dis:=(fun k l b o o' h _=>by simp [ents] at h),own:=(fun k x h=>by simp at h),pu:=trivial }⟩

open Go
section
variable {P : Program} {E : Env P} {S : Stop} {t : St}
theorem V.frzB {α:Type} [Dat α] (r b0:Nat) (arr:Array Value) (T:TypeId) (x:α) (b:Bool) (j0:Nat) (f0:FP) (hr:(t.L[r]?,E.X,arr.toList,t.F[j0]?,f0.t)=(some (.blk b0 arr T),[],Dat.cells x,some f0,b)) (hg:∀ H,f0.p H→Dat.good H x)
    (k:V E S ⟨t.sl,t.F ++[fs b [x] ⟨atB b0,1,1⟩],t.L.set r .no⟩):V E S t:=fun N ε a w hin=>by
  simp only [Prod.mk.injEq] at hr
  obtain ⟨hr,hX,harr,hf0,htf⟩:=hr
  have hfx:=hin.facts f0 (List.mem_of_getElem? hf0)
  have hown:∀ J:Heaplet,Dat.good J x→OSl T J [x] (SV.v ⟨atB b0,1,1⟩) (some (b0,.cells arr T)):=fun J hgx=>OSl.lit (E:=T) (g:=b0) (fun y hy=>by rw [List.mem_singleton.1 hy];exact hgx) (by rw [harr];simp [rows];decide)
  have he:(ents t.L ε)[r]?=some (some (b0,.cells arr T)):=by rw [ents_get,hr];rfl
  generalize (some (b0,Obj.cells arr T):Ent)=ρ at hown he
  have hK:Agrees w (hun N E.H):=hin.st.agr _ (by simp)
  have hE:Agrees w (entH ρ):=entH_agrees fun b o hb=>(hin.st.ent r b o (by rw [he,hb])).1
  have s1:Sub N (hun (entH ρ) N):=hun_right' (U:=whole w) hE (hun_left.trans hK)
  have eK:hun (hun (entH ρ) N) E.H=hun (entH ρ) (hun N E.H):=hun_assoc _ _ _
  have s2:Sub (hun N E.H) (hun (hun (entH ρ) N) E.H):=by rw [eK];exact hun_right' (U:=whole w) hE hK
  have hents:∀ (j b:Nat) (o:Obj),(ents (t.L.set r .no) ε)[j]?=some (some (b,o))→j≠r∧(ents t.L ε)[j]?=some (some (b,o)):=fun j b o h=>by
    rw [ents_get,Option.map_eq_some_iff] at h
    obtain ⟨y,hy,he⟩:=h
    rcases set_get hy with ⟨rfl,rfl⟩ | ⟨hj,hy⟩
    · cases he
    · exact ⟨hj,by rw [ents_get,hy,← he];rfl⟩
  refine k (hun (entH ρ) N) ε a w ⟨hin.slots,⟨hin.st.base,fun K hk=>?_,fun j b o h=>?_,fun j j' b o o' h h'=>hin.st.dis j j' b o o' (hents _ _ _ h).2 (hents _ _ _ h').2⟩,fun b hb=>?_,fun f hf=>?_,fun j y hy=>?_⟩
  · have:K=hun (hun (entH ρ) N) E.H:=by simpa using hk
    subst this
    rw [eK];exact hun_agrees hE hK
  · obtain ⟨hj,h⟩:=hents j b o h
    obtain ⟨h1,h2,h3⟩:=hin.st.ent j b o h
    refine ⟨h1,h2,fun K hk=>?_⟩
    have:K=hun (hun (entH ρ) N) E.H:=by simpa using hk
    subst this
    rw [eK]
    have hn:entH ρ b=none:=by
      cases hh:entH ρ b with
      | none=>rfl
      | some o' =>
        exfalso
        unfold entH at hh
        cases hp:ρ with
        | none=>rw [hp] at hh;cases hh
        | some p =>
          rw [hp] at hh
          simp only at hh
          split at hh
          · rename_i hb;subst hb
            exact hj (hin.st.dis j r p.1 o p.2 h (by rw [he,hp]))
          · cases hh
    simp only [hun,hn]
    exact h3 (hun N E.H) (by simp)
  · cases hh:entH ρ b with
    | none =>
      simp only [hun,hh] at hb
      exact hin.new b hb
    | some o' =>
      unfold entH at hh
      cases hp:ρ with
      | none=>rw [hp] at hh;cases hh
      | some p =>
        rw [hp] at hh
        simp only at hh
        split at hh
        · rename_i hb';subst hb'
          rcases (hin.st.ent r p.1 p.2 (by rw [he,hp])).2.1 with h1 | h1
          · exact h1
          · rw [hX] at h1;cases h1
        · cases hh
  · rcases List.mem_append.1 hf with hf | hf
    · exact FP.mono (hin.facts f hf) s1 s2
    · have:f=fs b [x] ⟨atB b0,1,1⟩:=by simpa using hf
      subst this
      have key:∀ J J':Heaplet,Sub J J'→Sub (entH ρ) J'→Dat.good J x→RSl J' [x] (SV.v ⟨atB b0,1,1⟩):=fun J J' h1 h2 h=>(hown J h).frozen h1 h2
      unfold FP.at at hfx
      rw [htf] at hfx
      show bif b then RSl _ [x] _ else RSl _ [x] _
      cases b
      · exact key _ _ s2 (by rw [eK];exact hun_left) (hg _ hfx)
      · exact key _ _ s1 hun_left (hg _ hfx)
  · rcases set_get hy with ⟨rfl,rfl⟩ | ⟨hj,hy⟩
    · trivial
    · exact LE.mono (hin.own j y hy) s1 s2
end
def FP.up (f:FP):FP:=⟨true,f.p,f.m,f.q,f.hq⟩
def sideT (qs:List Kv):Bool:=qs.all fun q=>q.κ.f && q.κ.t
namespace Hint
variable {P : Program}
def ctT {g:Prop} (Γ:GdI g) (n f:Nat) (qs:List Kv) {args:Gh→Array Value} {V:Gh→Rec→Value} {F':Gh→Rec→List FP} {pu:Gh→Rec→List Prop}
    (ct:g→∀ G,Ct P f (args G) (qs.map (Kv.fp G)) [] (V G) (F' G) (fun _=>[]) (pu G)):Hint P where
  d:={ val:=fun G=>V G (G n),facts:=fun G=>(F' G (G n)).map FP.up,rds:=qrds qs,pu:=fun G=>pu G (G n) }
  τ:=Option (Result Next) × Nat × Value × List FP × List Prop × List (Option (Bool × (Ent→Heaplet→Prop)) × Bool) × Bool × Option Bool
  lhs c i G g w:=(c.R.ex P G i w,i,V (c.R.vis i (RC.put G i g)) g,F' (c.R.vis i (RC.put G i g)) g,pu (c.R.vis i (RC.put G i g)) g,qs.map (Kv.chk c i G),sideT qs,Γ.B.map fun _=>c.R.gd G i)
  rhs _ _ G g w:=(some (.ok (.enter f (args G)) w),n,V G g,F' G g,pu G g,qs.map (Kv.want G),true,Γ.B)
  sound c i ok hil hi h:=fun o ho G w hs=>by
    have h0:=h G {} w
    simp only [Prod.mk.injEq,RC.ex,ho,Option.map_some,Option.some.injEq] at h0
    obtain ⟨e1,rfl,_,_,_,e8,e9,e10⟩:=h0
    have hct:=ct (Cx.gdOk Γ hs e10) G
    have hup:c.R.ups i=[]:=by rw [Cx.upsOf hi];rfl
    have hfacts:∀ q ∈ qs.map (Kv.fp G),q.p (c.J i G true):=fun p hp=>by
      obtain ⟨q,hq,rfl⟩:=List.mem_map.1 hp
      have hm:q.κ.src.what c i G=(some (q.κ.t,q.κ.p G),true):=map_eq e8 q hq
      obtain ⟨e,a1,_,_,_⟩:=Src.get ok hil hs hm
      have h2:=List.all_eq_true.1 e9 q hq
      rw [Bool.and_eq_true] at h2
      rw [h2.2] at a1
      exact q.κ.rj h2.1 G e _ a1
    have hst:StW w (blks (ents [] fun _=>none)) [c.J i G true] (ents [] fun _=>none) w:=by
      refine ⟨Base.refl _ _,fun K hK=>?_,fun k b o hk=>by simp [ents] at hk,fun k l b o o' hk _=>by simp [ents] at hk⟩
      have:K=c.J i G true:=by simpa using hK
      subst this;exact Cx.J_le hs true
    have hcall:=hct w (c.J i G true) (fun _=>none) (Cx.J_le hs true) hfacts hst (fun k x hx=>by simp at hx)
    unfold Does
    rw [e1]
    refine hcall.mono ?_
    rintro e w' ⟨g,C⟩
    refine ⟨_,C.ret,g,?_⟩
    have hg:=h G g w
    simp only [Prod.mk.injEq] at hg
    obtain ⟨_,_,f1,f2,f4,_⟩:=hg
    have hv:=Cx.vis_self (c:=c) (i:=i) (G:=G) g
    obtain ⟨a1,a2,a3,a4⟩:=ahead ok hil hs C.new
    refine ⟨?_,fact_of ok hil hi hs C.new (fun f hf=>?_) (fun q hq=>by cases hq) ?_,?_,C.agr,C.new,fun p hp=>?_,fun p hp=>?_⟩
    · rw [Cx.valOf hi]
      show _=V _ (c.R.vis i (RC.put G i g) i)
      rw [hv,f1]
    · have hf':f ∈ (F' (c.R.vis i (RC.put G i g)) (c.R.vis i (RC.put G i g) i)).map FP.up:=hf
      rw [hv,f2] at hf'
      obtain ⟨f0,hf0,rfl⟩:=List.mem_map.1 hf'
      have hc:=C.facts f0 hf0
      show f0.p _
      unfold FP.at at hc
      cases ht:f0.t with
      | true=>rw [ht] at hc;exact f0.m _ _ a3 hc
      | false=>rw [ht] at hc;exact f0.m _ _ (hun_sub a3 a1) hc
    · show conjL (pu _ (c.R.vis i (RC.put G i g) i))
      rw [hv,f4];exact C.pu
    · refine ⟨C.base.os,C.base.tape,C.base.output,C.base.size,fun b hb hnb=>C.base.keep b hb fun hm=>?_⟩
      simp [ents,blks] at hm
    · rw [hup] at hp;cases hp
    · rw [hup] at hp;cases hp
def dead:Hint P where
  d:={ val:=fun _=>undef }
  τ:=Bool
  lhs c i G _ _:=c.R.gd G i
  rhs _ _ _ _ _:=false
  sound c i _ _ hi h:=fun o ho G w hs=>by
    have h0:=h G {} w
    rw [hs.gd] at h0;cases h0
def eb (x:Value) (b:Bool) (hxy:x=.bool b):Hint P where
  d:={ val:=fun _=>.bool b,sure:=some b,sok:=fun b' h _=>by cases h;rfl }
  τ:=Option (Result Next) × Value
  lhs c i G _ w:=(c.R.ex P G i w,c.R.val i (RC.put G i {}))
  rhs _ _ _ _ w:=(some (.ok (.value x) w),.bool b)
  sound c i _ _ hi h:=fun o ho G w hs=>by
    have h0:=h G {} w
    simp only [Prod.mk.injEq,RC.ex,ho,Option.map_some,Option.some.injEq] at h0
    exact Cx.still hi rfl (fun _=>⟨rfl,rfl⟩) ho h0.1 (by rw [h0.2,hxy])
end Hint
theorem V.g {P:Program} {E:Env P} {S:Stop} {t:St} (hs:List (Hint P)) (k:∀ N ε G,let S':=S.next;let t':=post (cxOf E S t hs N ε) G;V E S' t')
    (hk:∀ N ε,(S,(cxOf E S t hs N ε).R.check E.nt,hs.length,lhsAll (cxOf E S t hs N ε) hs 0)=(.reg S.rid S.ops S.dr S.K,true,S.ops.size,rhsAll (cxOf E S t hs N ε) hs 0):=by intro _ _;kernel_rfl):V E S t:=V.go hs hk k
theorem V.r {P:Program} {E:Env P} {S:Stop} {t:St} (hs:List (Hint P)) (k:∀ N ε G,Knw ((cxOf E S t hs N ε).know G)→let S':=S.next;let t':=post (cxOf E S t hs N ε) G;V E S' t')
    (hk:∀ N ε,(S,(cxOf E S t hs N ε).R.check E.nt,hs.length,lhsAll (cxOf E S t hs N ε) hs 0)=(.reg S.rid S.ops S.dr S.K,true,S.ops.size,rhsAll (cxOf E S t hs N ε) hs 0):=by intro _ _;kernel_rfl):V E S t:=V.reg hs hk k
def rcs (ss : List SV) (sls : List (Nat → SV)) (bs : List Nat) (N : Heaplet) (es : Nat → Ent) : Rec := { H := N, ss := fun k => ss.getD k {}, sl := fun k => sls.getD k (fun _ => {}), bs := fun k => bs.getD k 0, es := es }
theorem V.rt {P : Program} {S : Stop} {t : St} {mo : P.follows .mixedOrders = true} {fn : Func} {nt : Nat} {w0 : World} {H : Heaplet} {olds : List Ent} {V' : Rec → Value} {F' : Rec → List FP} {L' : Rec → List LE} {pu : Rec → List Prop} (rr : List Nat) (ss : List SV) (sls : List (Nat → SV)) (bs : List Nat) (fi li : List Nat) (v : Value) {x y : Value} (hc : x = y) (h1 : v = x := by kernel_rfl) (h2 : ∀ N es, y = V' (rcs ss sls bs N es) := by intro _ _; kernel_rfl) (hk : ∀ N es, (S.isEnd, fn.results.size == rr.length, (fn.results.toList.zip rr).map (resC P t), tupV ((fn.results.toList.zip rr).map (resV P t)), fi.length, (fi.zip (F' (rcs ss sls bs N es))).map (fun p => (t.F[p.1]?).map fun x => matchF x p.2), nodup li, li.length, (li.zip (L' (rcs ss sls bs N es))).map (fun p => (t.L[p.1]?).map fun x => matchL x p.2)) = (true, true, (fn.results.toList.zip rr).map (resC' P t), v, (F' (rcs ss sls bs N es)).length, (F' (rcs ss sls bs N es)).map some, true, (L' (rcs ss sls bs N es)).length, (L' (rcs ss sls bs N es)).map some) := by intro _ _; kernel_rfl) (hp : ∀ N es, conjL (pu (rcs ss sls bs N es)) := by intro _ _; trivial) : V (fnEnv mo fn nt w0 H olds V' F' L' pu) S t := V.ret rr ss sls bs fi li v hk (fun N es => (h1.trans hc).trans (h2 N es)) hp
theorem V.rs {P : Program} {S : Stop} {t : St} {mo : P.follows .mixedOrders = true} {fn : Func} {nt : Nat} {w0 : World} {H : Heaplet} {olds : List Ent} {V' : Rec → Value} {F' : Rec → List FP} {L' : Rec → List LE} {pu : Rec → List Prop} (rr : List Nat) (ss : List SV) (sls : List (Nat → SV)) (bs : List Nat) (fi li : List Nat) (v : Value) (h2 : ∀ N es, v = V' (rcs ss sls bs N es) := by intro _ _; kernel_rfl) (hk : ∀ N es, (S.isEnd, fn.results.size == rr.length, (fn.results.toList.zip rr).map (resC P t), tupV ((fn.results.toList.zip rr).map (resV P t)), fi.length, (fi.zip (F' (rcs ss sls bs N es))).map (fun p => (t.F[p.1]?).map fun x => matchF x p.2), nodup li, li.length, (li.zip (L' (rcs ss sls bs N es))).map (fun p => (t.L[p.1]?).map fun x => matchL x p.2)) = (true, true, (fn.results.toList.zip rr).map (resC' P t), v, (F' (rcs ss sls bs N es)).length, (F' (rcs ss sls bs N es)).map some, true, (L' (rcs ss sls bs N es)).length, (L' (rcs ss sls bs N es)).map some) := by intro _ _; kernel_rfl) (hp : ∀ N es, conjL (pu (rcs ss sls bs N es)) := by intro _ _; trivial) : V (fnEnv mo fn nt w0 H olds V' F' L' pu) S t := V.ret rr ss sls bs fi li v hk h2 hp
theorem V.cn {P : Program} {E : Env P} {S : Stop} {t : St} {b : Bool} {φ ψ : Prop} (hb : b = true ↔ φ) (hb' : b = false ↔ ψ) (k1 : φ → V E S.inX t) (k2 : ψ → V E S.inY t) (hk : (S, cval t S.cn) = (.cond S.cn S.x S.y S.K, some (.bool b)) := by kernel_rfl) : V E S t := V.cond hb hb' hk k1 k2

open Go Go.Proofs
theorem mo:Try.prog.follows .mixedOrders=true:=by kernel_rfl

open Go Go.Proofs
set_option maxRecDepth 10000 in
theorem within_ct (n high:Int) :
    Cp Try.prog 92 #[iv n,iv high] [] (bv (decide (0≤n∧n≤high))):=by
  refine V.fn mo Try.func92 12 0 (by kernel_rfl) fun w H ε k0=>?_;clear k0
  refine V.g [.kb false] fun _ _ G1=>?_;intro S s
  refine V.g [.k (iv n),.k (bv (decide (0≤n))),.k (bv (decide (0≤n))),.k (iv n),.k (iv high),.k (bv (decide (n≤high))),.and g0 false (decide (0≤n)) (decide (n≤high)),.k (bv ((decide (0≤n)) && (decide (n≤high))))] fun _ _ G2=>?_;intro S s
  have e0:((decide (0≤n)) && (decide (n≤high)))=decide (0≤n∧n≤high):=by
    refine Bool.eq_iff_iff.2 (Iff.trans (iAT iDT iDT) (Iff.trans ?_ decide_eq_true_iff.symm));exact Iff.rfl
  exact V.rt [0] [] [] [] [] [] (bv ((decide (0≤n)) && (decide (n≤high)))) (cong1 (fun (x0:Bool)=>(bv x0:Value)) e0)
set_option maxRecDepth 10000 in
theorem leaf_ct (a:ByteArray) (c d e f:Int) :
    Cp Try.prog 90 #[ag (DThing.mk a c d e f)] [] (bv (decide (Tm.isLeaf ⟨a,c,d,e,f⟩))):=by
  refine V.fn mo Try.func90 29 1 (by kernel_rfl) fun w H ε k0=>?_;clear k0
  refine V.g [.nb 0 0 (fun b=>pp b 0) 88 (fun _=>ca (DThing.mk a c d e f)),.kb false] fun _ _ G1=>?_;intro S s
  refine nm ((decide (e=(-1))) && (decide (f=(-1))):Bool) fun p1 hp1=>?_;refine V.g [.k (pp ((G1 0).b) 3),.ld 0 3 false (fun _=>[iv e]),.k (bv (decide (e=(-1)))),.k (bv (decide (e=(-1)))),.k (pp ((G1 0).b) 4),.ld 0 4 false (fun _=>[iv f]),.k (bv (decide (f=(-1)))),.andn g0 false (decide (e=(-1))) (decide (f=(-1))) p1 hp1,.k (bv p1)] fun _ _ G2=>?_;intro S s
  refine nm ((p1 && (decide ((a.size:Int)≤8000))) && (decide (0≤c∧c≤(1099511627776:Int))):Bool) fun p2 hp2=>?_;refine nm (p2 && (decide (0≤d∧d≤(1099511627776:Int))):Bool) fun p3 hp3=>?_;refine V.g [.k (bv p1),.k (bv p1),.k (pp ((G1 0).b) 0),.ld 0 0 false (fun _=>[tv a]),.k (iv (a.size:Int)),.k (bv (decide ((a.size:Int)≤8000))),.and g0 false p1 (decide ((a.size:Int)≤8000)),.k (bv (p1 && (decide ((a.size:Int)≤8000)))),.k (pp ((G1 0).b) 1),.ld 0 1 false (fun _=>[iv c]),.cp (gT (b:=p1 && (decide ((a.size:Int)≤8000))) (iAT (iN hp1 (iAT iDT iDT)) iDT)) 10 92 [] (fun hg G=>within_ct c (1099511627776:Int)),.andn g0 false (p1 && (decide ((a.size:Int)≤8000))) (decide (0≤c∧c≤(1099511627776:Int))) p2 hp2,.k (bv p2),.k (pp ((G1 0).b) 2),.ld 0 2 false (fun _=>[iv d]),.cp (gT (b:=p2) (iN hp2 (iAT (iAT (iN hp1 (iAT iDT iDT)) iDT) iDT))) 15 92 [] (fun hg G=>within_ct d (1099511627776:Int)),.andn g0 false p2 (decide (0≤d∧d≤(1099511627776:Int))) p3 hp3,.k (bv p3)] fun _ _ G3=>?_;intro S s
  have e0:p3=decide (Tm.isLeaf ⟨a,c,d,e,f⟩):=by
    refine Bool.eq_iff_iff.2 (Iff.trans (iN hp3 (iAT (iN hp2 (iAT (iAT (iN hp1 (iAT iDT iDT)) iDT) iDT)) iDT)) (Iff.trans ?_ decide_eq_true_iff.symm));simp only [Tm.isLeaf];omega
  exact V.rt [0] [] [] [] [] [] (bv p3) (cong1 (fun (x0:Bool)=>(bv x0:Value)) e0)
set_option maxRecDepth 10000 in
theorem pair_ct (l:List DThing) (ls:SV) (left right:Int) (hbd:∀ x ∈ l,Tm.Bd x) :
    Cp Try.prog 91 #[ls.v,iv left,iv right] [fs true l ls] (.tuple #[ag (Tm.pairT l left right),iv (Tm.pairE l left right)]):=by
  refine V.fn mo Try.func91 57 4 (by kernel_rfl) fun w H ε k0=>?_;obtain ⟨⟨kl1, -⟩, -⟩:Lq l ls.v∧True:=kq k0
  clear k0;refine V.g [.nb 0 0 (fun b=>pp b 0) 88 (fun _=>ca (DThing.mk ByteArray.empty 0 0 0 0)),.k (iv 0)] fun _ _ G1=>?_;intro S s
  refine nm ((l.length:Int)-1:Int) fun n1 hn1=>?_;refine nm ((!(decide (0≤left∧left≤n1))) || (!(decide (0≤right∧right≤n1))):Bool) fun p1 hp1=>?_;refine V.g [.k (iv left),.k (ls.v),.ln (kf false (.f 0) l (fun _=>ls)),.ar ((l.length:Int)-1) n1 hn1 (by omega) (by omega),.cp g0 4 92 [] (fun _ G=>within_ct left n1),.k (bv (!(decide (0≤left∧left≤n1)))),.k (bv (!(decide (0≤left∧left≤n1)))),.k (iv right),.k (ls.v),.ln (kf false (.f 0) l (fun _=>ls)),.arg (gF (b:=!(decide (0≤left∧left≤n1))) (iNF iDT)) ((l.length:Int)-1) n1 hn1 (fun hg=>by omega),.cp (gF (b:=!(decide (0≤left∧left≤n1))) (iNF iDT)) 11 92 [] (fun hg G=>within_ct right n1),.k (bv (!(decide (0≤right∧right≤n1)))),.orn g0 false (!(decide (0≤left∧left≤n1))) (!(decide (0≤right∧right≤n1))) p1 hp1] fun _ _ G2=>?_;intro S s
  refine V.cn (b:=p1) (iN hp1 (iOT (iNT iDF) (iNT iDF))) (iN hp1 (iOF (iNF iDT) (iNF iDT))) (fun q1=>?_) (fun q2=>?_)
  · refine V.g [.k (ag (DThing.mk ByteArray.empty 0 0 0 0)),.st 0 (fun _=>.blk ((G1 0).b) (ca (DThing.mk ByteArray.empty 0 0 0 0)) 88),.k (iv 4)] fun _ _ G3=>?_;intro S s
    have hp:=Tm.pairE_no (l:=l) (a:=left) (b:=right) (by unfold Tm.has;omega);have hT:=Tm.pairT_no (l:=l) (a:=left) (b:=right) (by omega);have e0:ByteArray.empty=(Tm.pairT l left right).Text:=by first | rw [hT] | exact hp.symm
    have e1:(0:Int)=(Tm.pairT l left right).Value:=by first | rw [hT] | exact hp.symm
    have e2:(0:Int)=(Tm.pairT l left right).Blind:=by first | rw [hT] | exact hp.symm
    have e3:(0:Int)=(Tm.pairT l left right).Left:=by first | rw [hT] | exact hp.symm
    have e4:(0:Int)=(Tm.pairT l left right).Right:=by first | rw [hT] | exact hp.symm
    have e5:(4:Int)=Tm.pairE l left right:=by first | rw [hT] | exact hp.symm
    exact V.rt [0,0] [] [] [] [] [] (.tuple #[ag (DThing.mk ByteArray.empty 0 0 0 0),iv 4]) (cong6 (fun (x0:ByteArray) (x1 x2 x3 x4 x5:Int)=>(.tuple #[.agg #[tv x0,iv x1,iv x2,iv x3,iv x4],iv x5]:Value)) e0 e1 e2 e3 e4 e5)
  refine nm (l.getD left.toNat default:DThing) fun x1 hx1=>?_;refine nm (l.getD right.toNat default:DThing) fun x2 hx2=>?_;refine V.g [.k (ls.v),.k (iv left),.ix g0 (kf false (.f 0) l (fun _=>ls)) left (fun _=>⟨by omega,by omega⟩),.le g0 (kf false (.f 0) l (fun _=>ls)) left none false x1 hx1 (fun _=>⟨by omega,by omega⟩) true (fun _=>Dat.cells x1),.k (ls.v),.k (iv right),.ix g0 (kf false (.f 0) l (fun _=>ls)) right (fun _=>⟨by omega,by omega⟩),.le g0 (kf false (.f 0) l (fun _=>ls)) right none false x2 hx2 (fun _=>⟨by omega,by omega⟩) true (fun _=>Dat.cells x2),.nb 8 1 (fun b=>pp b 0) 88 (fun _=>ca (DThing.mk ByteArray.empty 0 0 0 0)),.nb 9 2 (fun b=>pp b 0) 88 (fun _=>ca (DThing.mk ByteArray.empty 0 0 0 0)),.st 1 (fun G=>.blk ((G 8).b) (ca x1) 88),.st 2 (fun G=>.blk ((G 9).b) (ca x2) 88)] fun _ _ G4=>?_;intro S s
  have hba:=hbd x1 (getD_mem (l:=l) (k:=left.toNat) (by omega) hx1);have hbb:=hbd x2 (getD_mem (l:=l) (k:=right.toNat) (by omega) hx2);unfold Tm.Bd at hba hbb;refine nm (x1.Value+x2.Value:Int) fun n2 hn2=>?_;refine nm (x1.Blind+x2.Blind:Int) fun n3 hn3=>?_;refine V.g [.k (pp ((G4 8).b) 1),.ld 1 1 false (fun _=>[iv x1.Value]),.k (pp ((G4 9).b) 1),.ld 2 1 false (fun _=>[iv x2.Value]),.ar (x1.Value+x2.Value) n2 hn2 (by omega) (by omega),.k (pp ((G4 8).b) 2),.ld 1 2 false (fun _=>[iv x1.Blind]),.k (pp ((G4 9).b) 2),.ld 2 2 false (fun _=>[iv x2.Blind]),.ar (x1.Blind+x2.Blind) n3 hn3 (by omega) (by omega),.k (iv left),.k (iv right),.k (ag (DThing.mk ByteArray.empty n2 n3 left right)),.nb 13 3 (fun b=>pp b 0) 88 (fun _=>ca (DThing.mk ByteArray.empty 0 0 0 0)),.st 3 (fun G=>.blk ((G 13).b) (ca (DThing.mk ByteArray.empty n2 n3 left right)) 88)] fun _ _ G5=>?_;intro S s
  refine nm ((decide (1125899906842624 < n2)) || (decide (1125899906842624 < n3)):Bool) fun p2 hp2=>?_;refine V.g [.k (pp ((G5 13).b) 1),.ld 3 1 false (fun _=>[iv n2]),.k (bv (decide (1125899906842624 < n2))),.k (bv (decide (1125899906842624 < n2))),.k (pp ((G5 13).b) 2),.ld 3 2 false (fun _=>[iv n3]),.k (bv (decide (1125899906842624 < n3))),.orn g0 false (decide (1125899906842624 < n2)) (decide (1125899906842624 < n3)) p2 hp2] fun _ _ G6=>?_;intro S s
  refine V.cn (b:=p2) (iN hp2 (iOT iDT iDT)) (iN hp2 (iOF iDF iDF)) (fun q3=>?_) (fun q4=>?_)
  · refine V.g [.k (ag (DThing.mk ByteArray.empty 0 0 0 0)),.st 0 (fun _=>.blk ((G1 0).b) (ca (DThing.mk ByteArray.empty 0 0 0 0)) 88),.k (iv 3)] fun _ _ G7=>?_;intro S s
    have hh:Tm.has l left∧Tm.has l right:=by unfold Tm.has;omega
    have hp:=Tm.pairE_big hx1 hx2 hh (by omega);have hT:=Tm.pairT_no (l:=l) (a:=left) (b:=right) (by omega);have e0:ByteArray.empty=(Tm.pairT l left right).Text:=by first | rw [hT] | exact hp.symm
    have e1:(0:Int)=(Tm.pairT l left right).Value:=by first | rw [hT] | exact hp.symm
    have e2:(0:Int)=(Tm.pairT l left right).Blind:=by first | rw [hT] | exact hp.symm
    have e3:(0:Int)=(Tm.pairT l left right).Left:=by first | rw [hT] | exact hp.symm
    have e4:(0:Int)=(Tm.pairT l left right).Right:=by first | rw [hT] | exact hp.symm
    have e5:(3:Int)=Tm.pairE l left right:=by first | rw [hT] | exact hp.symm
    exact V.rt [0,0] [] [] [] [] [] (.tuple #[ag (DThing.mk ByteArray.empty 0 0 0 0),iv 3]) (cong6 (fun (x0:ByteArray) (x1 x2 x3 x4 x5:Int)=>(.tuple #[.agg #[tv x0,iv x1,iv x2,iv x3,iv x4],iv x5]:Value)) e0 e1 e2 e3 e4 e5)
  refine V.g [.ld 3 0 true (fun _=>Dat.cells (DThing.mk ByteArray.empty n2 n3 left right)),.st 0 (fun _=>.blk ((G1 0).b) (ca (DThing.mk ByteArray.empty n2 n3 left right)) 88),.k (iv 0)] fun _ _ G8=>?_;intro S s
  have hh:Tm.has l left∧Tm.has l right:=by unfold Tm.has;omega
  have hp:=Tm.pairE_ok hx1 hx2 hh (by omega);have hT:=Tm.pairT_ok hx1 hx2 hp (v:=n2) (w:=n3) (by omega) (by omega);have e0:ByteArray.empty=(Tm.pairT l left right).Text:=by first | rw [hT] | exact hp.symm
  have e1:n2=(Tm.pairT l left right).Value:=by first | rw [hT] | exact hp.symm
  have e2:n3=(Tm.pairT l left right).Blind:=by first | rw [hT] | exact hp.symm
  have e3:left=(Tm.pairT l left right).Left:=by first | rw [hT] | exact hp.symm
  have e4:right=(Tm.pairT l left right).Right:=by first | rw [hT] | exact hp.symm
  have e5:(0:Int)=Tm.pairE l left right:=by first | rw [hT] | exact hp.symm
  exact V.rt [0,0] [] [] [] [] [] (.tuple #[ag (DThing.mk ByteArray.empty n2 n3 left right),iv 0]) (cong6 (fun (x0:ByteArray) (x1 x2 x3 x4 x5:Int)=>(.tuple #[.agg #[tv x0,iv x1,iv x2,iv x3,iv x4],iv x5]:Value)) e0 e1 e2 e3 e4 e5)
set_option maxRecDepth 10000 in
theorem sound_ct (v:List DThing) (vs:SV) :
    Cp Try.prog 59 #[ag (DVault.mk ⟨v,vs⟩)] [fs true v vs] (bv (decide (Tm.Sound v))):=by
  refine V.fn mo Try.func59 41 3 (by kernel_rfl) fun w H ε k0=>?_;obtain ⟨⟨kl1, -⟩, -⟩:Lq v vs.v∧True:=kq k0
  clear k0;refine V.g [.nb 0 0 (fun b=>pp b 0) 51 (fun _=>ca (DVault.mk ⟨v,vs⟩)),.kb false] fun _ _ G1=>?_;intro S s
  refine V.g [.k (pp ((G1 0).b) 0),.ld 0 0 false (fun _=>[vs.v]),.ln (kf false (.f 0) v (fun _=>vs)),.k (bv (decide (2000 < (v.length:Int))))] fun _ _ G2=>?_;intro S s
  refine V.cn (b:=decide (2000 < (v.length:Int))) iDT iDF (fun q1=>?_) (fun q2=>?_)
  · refine V.g [.kb false] fun _ _ G3=>?_;intro S s
    have e0:false=decide (Tm.Sound v):=Tm.sound_len (by omega);exact V.rt [0] [] [] [] [] [] (bv false) (cong1 (fun (x0:Bool)=>(bv x0:Value)) e0)
  refine V.g [.k (pp ((G1 0).b) 0),.ld 0 0 false (fun _=>[vs.v]),.ln (kf false (.f 0) v (fun _=>vs)),.k (iv 0)] fun _ _ G4=>?_;intro S s
  refine V.loop (γ:=Int) (fun k0=>⟨[(1,pp ((G1 0).b) 0),(12,vs.v),(13,iv (v.length:Int)),(14,iv k0)],[fs false v vs],[.blk ((G1 0).b) (ca (DVault.mk ⟨v,vs⟩)) 51,.no,.no]⟩) (fun k0=>(0≤k0)∧(k0≤(v.length:Int))∧(Tm.okTo v k0.toNat)) (fun k0=>((v.length:Int)-k0).toNat) 0 (by kernel_rfl) [0] (by kernel_rfl) ?_ ?_
  · refine ⟨?_,?_,?_⟩
    · show 0≤(0:Int)
      first | omega | rfl | (simp;done) | (subst_vars;simp;done)
    · show (0:Int)≤(v.length:Int)
      first | omega | rfl | (simp;done) | (subst_vars;simp;done)
    show Tm.okTo v (0:Int).toNat;intro i hi;simp at hi
  rintro k0 hF1 kw5 Z1 hZ1;have hF1:(0≤k0)∧(k0≤(v.length:Int))∧(Tm.okTo v k0.toNat):=hF1;obtain ⟨hf1,hf2,hf3⟩:=hF1;clear kw5;refine V.g [.k (bv (decide (k0 < (v.length:Int))))] fun _ _ G5=>?_;intro S s;refine V.cn (b:=decide (k0 < (v.length:Int))) iDT iDF (fun q3=>?_) (fun q4=>?_)
  · refine nm (v.getD k0.toNat default:DThing) fun x1 hx1=>?_;refine V.g [.k (iv k0),.ix g0 (kf false (.f 0) v (fun _=>vs)) k0 (fun _=>⟨by omega,by omega⟩),.le g0 (kf false (.f 0) v (fun _=>vs)) k0 none false x1 hx1 (fun _=>⟨by omega,by omega⟩) true (fun _=>Dat.cells x1),.nb 3 1 (fun b=>pp b 0) 88 (fun _=>ca (DThing.mk ByteArray.empty 0 0 0 0)),.k (iv k0),.st 1 (fun G=>.blk ((G 3).b) (ca x1) 88)] fun _ _ G6=>?_;intro S s
    refine V.g [.ld 1 0 true (fun _=>Dat.cells x1),.cp g0 1 90 [] (fun _ G=>leaf_ct x1.Text x1.Value x1.Blind x1.Left x1.Right)] fun _ _ G7=>?_;intro S s
    refine V.cn (b:=decide (Tm.isLeaf ⟨x1.Text,x1.Value,x1.Blind,x1.Left,x1.Right⟩)) iDT iDF (fun q5=>?_) (fun q6=>?_)
    · refine V.g [.a (k0+1) (by omega) (by omega),.k (iv (k0+1))] fun _ _ G8=>?_;intro S s
      refine V.rnd hZ1 (k0+1) [0] (by kernel_rfl) ?_ ?_
      · refine ⟨?_,?_,?_⟩
        · show 0≤(k0+1)
          first | omega | rfl | (simp;done) | (subst_vars;simp;done)
        · show (k0+1)≤(v.length:Int)
          first | omega | rfl | (simp;done) | (subst_vars;simp;done)
        show Tm.okTo v (k0+1).toNat;refine Tm.sound_step (by assumption) (by assumption) (by assumption) rfl (Tm.okT_iff.2 ?_);exact .inl (by assumption)
      show ((v.length:Int)-(k0+1)).toNat < ((v.length:Int)-k0).toNat;omega
    refine nm (v.take k0.toNat:List DThing) fun l1 hl1=>?_;have hl1n:=congrArg List.length hl1;try simp only [List.length_append,List.length_cons,List.length_nil,List.length_replicate,List.length_set,List.length_take,List.length_drop,List.length_map,List.length_reverse,List.length_range] at hl1n
    refine V.r [.k (pp ((G1 0).b) 0),.ld 0 0 false (fun _=>[vs.v]),.k (iv k0),.sl g0 (kf false (.f 0) v (fun _=>vs)) rfl none (some k0) 0 k0 rfl rfl l1 (by rw [hl1];simp) (fun _=>⟨by omega,by omega,by omega⟩),.k (pp ((G6 3).b) 3),.ld 1 3 false (fun _=>[iv x1.Left]),.k (pp ((G6 3).b) 4),.ld 1 4 false (fun _=>[iv x1.Right]),.cp g0 8 91 [(kf false (.g 3 0) l1 (fun _=>(vs.sub 5 (0:Int).toNat k0.toNat))).a] (fun _ G=>pair_ct l1 (vs.sub 5 (0:Int).toNat k0.toNat) x1.Left x1.Right (by rw [hl1];exact Tm.bd_take (by assumption) (by omega))),.k (.tuple #[ag (Tm.pairT l1 x1.Left x1.Right),iv (Tm.pairE l1 x1.Left x1.Right)]),.k (ag (Tm.pairT l1 x1.Left x1.Right)),.k (iv (Tm.pairE l1 x1.Left x1.Right)),.nb 12 2 (fun b=>pp b 0) 88 (fun _=>ca (DThing.mk ByteArray.empty 0 0 0 0)),.st 2 (fun G=>.blk ((G 12).b) (ca (Tm.pairT l1 x1.Left x1.Right)) 88),.k (iv (Tm.pairE l1 x1.Left x1.Right))] fun _ _ G9 kw10=>?_;intro S s
    obtain ⟨⟨kl2, -⟩, -⟩:Lq l1 ((vs.sub 5 (0:Int).toNat k0.toNat).v)∧True:=kq kw10;clear kw10;refine nm ((!(decide (Tm.pairE l1 x1.Left x1.Right=0))) || (!(decide (x1.Text=(Tm.pairT l1 x1.Left x1.Right).Text∧x1.Value=(Tm.pairT l1 x1.Left x1.Right).Value∧x1.Blind=(Tm.pairT l1 x1.Left x1.Right).Blind∧x1.Left=(Tm.pairT l1 x1.Left x1.Right).Left∧x1.Right=(Tm.pairT l1 x1.Left x1.Right).Right))):Bool) fun p1 hp1=>?_;refine V.g [.k (iv (Tm.pairE l1 x1.Left x1.Right)),.k (bv (!(decide (Tm.pairE l1 x1.Left x1.Right=0)))),.k (bv (!(decide (Tm.pairE l1 x1.Left x1.Right=0)))),.ld 1 0 true (fun _=>Dat.cells x1),.ld 2 0 true (fun _=>Dat.cells (Tm.pairT l1 x1.Left x1.Right)),.aeq true 88 (ca x1) (ca (Tm.pairT l1 x1.Left x1.Right)) _ fun w=>thing_equal w x1.Text x1.Value x1.Blind x1.Left x1.Right ((Tm.pairT l1 x1.Left x1.Right).Text) ((Tm.pairT l1 x1.Left x1.Right).Value) ((Tm.pairT l1 x1.Left x1.Right).Blind) ((Tm.pairT l1 x1.Left x1.Right).Left) ((Tm.pairT l1 x1.Left x1.Right).Right),.orn g0 false (!(decide (Tm.pairE l1 x1.Left x1.Right=0))) (!(decide (x1.Text=(Tm.pairT l1 x1.Left x1.Right).Text∧x1.Value=(Tm.pairT l1 x1.Left x1.Right).Value∧x1.Blind=(Tm.pairT l1 x1.Left x1.Right).Blind∧x1.Left=(Tm.pairT l1 x1.Left x1.Right).Left∧x1.Right=(Tm.pairT l1 x1.Left x1.Right).Right))) p1 hp1] fun _ _ G10=>?_;intro S s;refine V.cn (b:=p1) (iN hp1 (iOT (iNT iDF) (iNT iDF))) (iN hp1 (iOF (iNF iDT) (iNF iDT))) (fun q7=>?_) (fun q8=>?_)
    · refine V.g [.kb false] fun _ _ G11=>?_;intro S s
      have e0:false=decide (Tm.Sound v):=by
        rw [hl1] at q7;exact Tm.sound_no (k:=k0) (by assumption) (by omega) (by assumption) (by assumption) (by assumption)
      exact V.rt [0] [] [] [] [] [] (bv false) (cong1 (fun (x0:Bool)=>(bv x0:Value)) e0)
    refine V.g [.a (k0+1) (by omega) (by omega),.k (iv (k0+1))] fun _ _ G12=>?_;intro S s
    refine V.rnd hZ1 (k0+1) [0] (by kernel_rfl) ?_ ?_
    · refine ⟨?_,?_,?_⟩
      · show 0≤(k0+1)
        first | omega | rfl | (simp;done) | (subst_vars;simp;done)
      · show (k0+1)≤(v.length:Int)
        first | omega | rfl | (simp;done) | (subst_vars;simp;done)
      show Tm.okTo v (k0+1).toNat;refine Tm.sound_step (by assumption) (by assumption) (by assumption) rfl (Tm.okT_iff.2 ?_);rw [hl1] at q8;exact .inr (by assumption)
    show ((v.length:Int)-(k0+1)).toNat < ((v.length:Int)-k0).toNat;omega
  refine V.g [.kb true] fun _ _ G13=>?_;intro S s
  have e0:true=decide (Tm.Sound v):=Tm.sound_yes (by assumption) (by assumption) rfl (by assumption) (by assumption) (by assumption);exact V.rt [0] [] [] [] [] [] (bv true) (cong1 (fun (x0:Bool)=>(bv x0:Value)) e0)

namespace Tm
theorem sound_one {x:DThing}:Sound [x]↔isLeaf x:=by
  unfold Sound okTo okT
  constructor
  · rintro ⟨_,h⟩
    rcases h 0 (by simp) with h | ⟨h,_⟩
    · simpa using h
    · exfalso;simp [pairE,has] at h
  · intro h
    refine ⟨by simp,fun i hi=>?_⟩
    have:i=0:=by simp at hi;exact hi
    subst this
    exact .inl (by simpa using h)
def leafT (t:ByteArray) (v b:Int):DThing:=⟨t,v,b, -1, -1⟩
def leafAt (texts:List ByteArray) (values blinds:List Int) (i:Nat):DThing:=leafT (texts.getD i default) (values.getD i default) (blinds.getD i default)
def leavesN (texts:List ByteArray) (values blinds:List Int) (n:Nat):List DThing:=(List.range n).map (leafAt texts values blinds)
def idsN (a n:Nat):List Int:=(List.range n).map fun i=>((a+i:Nat):Int)
def pairUp:List DThing→List Int→List DThing × List Int
  | th,a :: b :: rest=>((pairUp (th ++[pairX th a b]) rest).1,(th.length:Int) :: (pairUp (th ++[pairX th a b]) rest).2)
  | th,l=>(th,l)
def up:Nat→List DThing→List Int→List DThing × List Int
  | 0,th,l=>(th,l)
  | n+1,th,l=>if 1 < l.length then up n (pairUp th l).1 (pairUp th l).2 else (th,l)
def argsOK (v:List DThing) (texts:List ByteArray) (values blinds:List Int):Prop :=
  Sound v∧texts.length≠0∧values.length=texts.length∧blinds.length=texts.length∧∀ i,i < texts.length→isLeaf (leafAt texts values blinds i)
instance (v : List DThing) (texts : List ByteArray) (values blinds : List Int) : Decidable (argsOK v texts values blinds) := by unfold argsOK; infer_instance
def buildE (v:List DThing) (texts:List ByteArray) (values blinds:List Int):Int :=
  if ¬ argsOK v texts values blinds then 1 else if 64 < texts.length∨2000 < (v.length:Int)+2 * texts.length - 1 then 6 else 0
def built (v:List DThing) (texts:List ByteArray) (values blinds:List Int):List DThing × List Int :=
  up texts.length (v ++leavesN texts values blinds texts.length) (idsN v.length texts.length)
def buildT (v:List DThing) (texts:List ByteArray) (values blinds:List Int):List DThing:=if buildE v texts values blinds=0 then (built v texts values blinds).1 else []
def buildR (v:List DThing) (texts:List ByteArray) (values blinds:List Int):Int:=if buildE v texts values blinds=0 then (built v texts values blinds).2.getD 0 default else -1
def buildL (v:List DThing) (texts:List ByteArray) (values blinds:List Int):List Int:=if buildE v texts values blinds=0 then idsN v.length texts.length else []
theorem build_arg {v:List DThing} {texts:List ByteArray} {values blinds:List Int} (h:¬ argsOK v texts values blinds):buildE v texts values blinds=1∧buildT v texts values blinds=[]∧buildR v texts values blinds= -1∧buildL v texts values blinds=[]:=by
  have e:buildE v texts values blinds=1:=by unfold buildE;rw [if_pos h]
  refine ⟨e,?_,?_,?_⟩
  · unfold buildT;rw [e];rfl
  · unfold buildR;rw [e];rfl
  · unfold buildL;rw [e];rfl
theorem build_full {v:List DThing} {texts:List ByteArray} {values blinds:List Int} (h:argsOK v texts values blinds) (h2:64 < texts.length∨2000 < (v.length:Int)+2 * texts.length - 1):buildE v texts values blinds=6∧buildT v texts values blinds=[]∧buildR v texts values blinds= -1∧buildL v texts values blinds=[]:=by
  have e:buildE v texts values blinds=6:=by unfold buildE;rw [if_neg (by simpa using h),if_pos h2]
  refine ⟨e,?_,?_,?_⟩
  · unfold buildT;rw [e];rfl
  · unfold buildR;rw [e];rfl
  · unfold buildL;rw [e];rfl
theorem build_ok {v:List DThing} {texts:List ByteArray} {values blinds:List Int} (h:argsOK v texts values blinds) (h2:¬ (64 < texts.length∨2000 < (v.length:Int)+2 * texts.length - 1)) :
    buildE v texts values blinds=0∧buildT v texts values blinds=(built v texts values blinds).1∧buildR v texts values blinds=(built v texts values blinds).2.getD 0 default∧buildL v texts values blinds=idsN v.length texts.length:=by
  have e:buildE v texts values blinds=0:=by unfold buildE;rw [if_neg (by simpa using h),if_neg h2]
  refine ⟨e,?_,?_,?_⟩
  · unfold buildT;rw [e];rfl
  · unfold buildR;rw [e];rfl
  · unfold buildL;rw [e];rfl
@[simp] theorem leavesN_length (texts:List ByteArray) (values blinds:List Int) (n:Nat):(leavesN texts values blinds n).length=n:=by simp [leavesN]
@[simp] theorem idsN_length (a n:Nat):(idsN a n).length=n:=by simp [idsN]
theorem leavesN_succ (texts:List ByteArray) (values blinds:List Int) (n:Nat):leavesN texts values blinds (n+1)=leavesN texts values blinds n ++[leafAt texts values blinds n]:=by
  unfold leavesN;rw [List.range_succ,List.map_append];rfl
theorem idsN_succ (a n:Nat):idsN a (n+1)=idsN a n ++[((a+n:Nat):Int)]:=by unfold idsN;rw [List.range_succ,List.map_append];rfl
def sumV (th:List DThing) (l:List Int):Int:=(l.map fun a=>(el th a).Value).sum
def sumB (th:List DThing) (l:List Int):Int:=(l.map fun a=>(el th a).Blind).sum
structure Lev (th:List DThing) (l:List Int) (S B:Int):Prop where
  has:∀ a ∈ l,has th a∧0≤(el th a).Value∧0≤(el th a).Blind
  v:sumV th l=S
  b:sumB th l=B
theorem el_append {th:List DThing} {x:DThing} {a:Int} (h:Tm.has th a):el (th ++[x]) a=el th a:=by
  unfold Tm.has at h
  unfold el
  rw [List.getD_eq_getElem?_getD,List.getElem?_append_left (by omega),← List.getD_eq_getElem?_getD]
theorem el_append_more {th m:List DThing} {a:Int} (h:Tm.has th a):el (th ++m) a=el th a:=by
  unfold Tm.has at h
  unfold el
  rw [List.getD_eq_getElem?_getD,List.getElem?_append_left (by omega),← List.getD_eq_getElem?_getD]
theorem el_last {th:List DThing} {x:DThing}:el (th ++[x]) (th.length:Int)=x:=by unfold el;simp
theorem has_append {th m:List DThing} {a:Int} (h:Tm.has th a):Tm.has (th ++m) a:=by unfold Tm.has at *;simp;omega
theorem sum_le {f:Int→Int}:∀ {l:List Int},(∀ a ∈ l,0≤f a)→∀ a ∈ l,f a≤(l.map f).sum
  | [],_,a,h=>by cases h
  | x :: l,h0,a,h=>by
    have h1:=h0 x (by simp)
    have hs:0≤(l.map f).sum:=by
      clear h
      induction l with
      | nil=>simp
      | cons y l ih =>
        have:=ih fun a ha=>h0 a (by simp at ha ⊢;rcases ha with ha | ha <;> simp [ha])
        have:=h0 y (by simp)
        simp;omega
    rcases List.mem_cons.1 h with rfl | h
    · simp;omega
    · have:=sum_le (fun a ha=>h0 a (by simp [ha])) a h
      simp;omega
theorem Lev.le {th:List DThing} {l:List Int} {S B:Int} (h:Lev th l S B) {a:Int} (ha:a ∈ l):Tm.has th a∧0≤(el th a).Value∧(el th a).Value≤S∧0≤(el th a).Blind∧(el th a).Blind≤B:=by
  have h1:=h.has a ha
  have h2:=sum_le (f:=fun a=>(el th a).Value) (fun a ha=>(h.has a ha).2.1) a ha
  have h3:=sum_le (f:=fun a=>(el th a).Blind) (fun a ha=>(h.has a ha).2.2) a ha
  have:=h.v;have:=h.b
  unfold sumV at *;unfold sumB at *
  exact ⟨h1.1,h1.2.1,by omega,h1.2.2,by omega⟩
theorem map_el {th:List DThing} {x:DThing} {f:DThing→Int} {l:List Int} (h:∀ a ∈ l,Tm.has th a):(l.map fun a=>f (el (th ++[x]) a))=l.map fun a=>f (el th a) :=
  List.map_congr_left fun a ha=>by rw [el_append (h a ha)]
theorem Lev.pair {th:List DThing} {pre post:List Int} {a b S B:Int} (h:Lev th (pre ++a :: b :: post) S B):Lev (th ++[pairX th a b]) (pre ++(th.length:Int) :: post) S B:=by
  have hh:∀ c ∈ pre ++a :: b :: post,Tm.has th c:=fun c hc=>(h.has c hc).1
  have hpre:∀ c ∈ pre,Tm.has th c:=fun c hc=>hh c (by simp [hc])
  have hpost:∀ c ∈ post,Tm.has th c:=fun c hc=>hh c (by simp [hc])
  have ha:=h.has a (by simp)
  have hb:=h.has b (by simp)
  refine ⟨fun c hc=>?_,?_,?_⟩
  · simp only [List.mem_append,List.mem_cons] at hc
    rcases hc with hc | rfl | hc
    · rw [el_append (hpre c hc)];exact ⟨has_append (hpre c hc),(h.has c (by simp [hc])).2⟩
    · rw [el_last];unfold Tm.has pairX;simp;omega
    · rw [el_append (hpost c hc)];exact ⟨has_append (hpost c hc),(h.has c (by simp [hc])).2⟩
  · have:=h.v
    unfold sumV at *
    rw [List.map_append,List.map_cons,map_el (f:=DThing.Value) hpre,map_el (f:=DThing.Value) hpost,el_last]
    simp only [List.map_append,List.map_cons,List.sum_append,List.sum_cons,pairX] at *
    omega
  · have:=h.b
    unfold sumB at *
    rw [List.map_append,List.map_cons,map_el (f:=DThing.Blind) hpre,map_el (f:=DThing.Blind) hpost,el_last]
    simp only [List.map_append,List.map_cons,List.sum_append,List.sum_cons,pairX] at *
    omega
theorem sum_bound {f:Nat→Int} {c:Int}:∀ n:Nat,(∀ i,i < n→0≤f i∧f i≤c)→0≤((List.range n).map f).sum∧((List.range n).map f).sum≤n * c
  | 0,_=>by simp
  | n+1,h=>by
    have ih:=sum_bound n fun i hi=>h i (by omega)
    have:=h n (by omega)
    rw [List.range_succ,List.map_append,List.sum_append]
    simp only [List.map_cons,List.map_nil,List.sum_cons,List.sum_nil]
    have e:((n+1:Nat):Int) * c=n * c+c:=by rw [Int.natCast_add,Int.add_mul];simp
    omega
def totV (values:List Int) (n:Nat):Int:=((List.range n).map fun i=>values.getD i default).sum
theorem el_leaf {v:List DThing} {texts:List ByteArray} {values blinds:List Int} {n i:Nat} (h:i < n):el (v ++leavesN texts values blinds n) ((v.length+i:Nat):Int)=leafAt texts values blinds i:=by
  unfold el leavesN
  rw [Int.toNat_natCast,List.getD_eq_getElem?_getD,List.getElem?_append_right (by omega),Nat.add_sub_cancel_left]
  simp [h]
theorem lev_start {v:List DThing} {texts:List ByteArray} {values blinds:List Int} (h:argsOK v texts values blinds):Lev (v ++leavesN texts values blinds texts.length) (idsN v.length texts.length) (totV values texts.length) (totV blinds texts.length):=by
  refine ⟨fun a ha=>?_,?_,?_⟩
  · obtain ⟨i,hi,rfl⟩:=List.mem_map.1 ha
    have hi:=List.mem_range.1 hi
    have hl:=h.2.2.2.2 i hi
    rw [el_leaf hi]
    unfold isLeaf at hl
    refine ⟨?_,by omega,by omega⟩
    unfold Tm.has;simp;omega
  · unfold sumV totV idsN
    rw [List.map_map]
    congr 1
    refine List.map_congr_left fun i hi=>?_
    simp only [Function.comp]
    rw [el_leaf (List.mem_range.1 hi)];rfl
  · unfold sumB totV idsN
    rw [List.map_map]
    congr 1
    refine List.map_congr_left fun i hi=>?_
    simp only [Function.comp]
    rw [el_leaf (List.mem_range.1 hi)];rfl
theorem tot_bound {v:List DThing} {texts:List ByteArray} {values blinds:List Int} (h:argsOK v texts values blinds):(0≤totV values texts.length∧totV values texts.length≤texts.length * 1099511627776)∧0≤totV blinds texts.length∧totV blinds texts.length≤texts.length * 1099511627776 :=
  ⟨sum_bound _ fun i hi=>⟨(h.2.2.2.2 i hi).2.2.2.1,(h.2.2.2.2 i hi).2.2.2.2.1⟩,sum_bound _ fun i hi=>⟨(h.2.2.2.2 i hi).2.2.2.2.2.1,(h.2.2.2.2 i hi).2.2.2.2.2.2⟩⟩
theorem pairUp_length:∀ (th:List DThing) (l:List Int),(pairUp th l).2.length=(l.length+1) / 2
  | th,[]=>rfl
  | th,[a]=>by simp [pairUp]
  | th,a :: b :: rest=>by
    rw [pairUp]
    simp only [List.length_cons]
    rw [pairUp_length _ rest];omega
theorem ids_step {l m:List Int} {k k' n:Int} {a:Nat} (h:l=idsN a k.toNat) (h0:0≤k) (hk':k'=k+1) (hm:m=l ++[n]) (hn:n=(a:Int)+k):m=idsN a k'.toNat:=by
  subst h hk' hm
  rw [show (k+1).toNat=k.toNat+1 by omega,idsN_succ,hn]
  congr 2;omega
theorem leaves_step {v b m:List DThing} {texts:List ByteArray} {values blinds:List Int} {k k' x y:Int} {s:ByteArray} (h:b=v ++leavesN texts values blinds k.toNat) (h0:0≤k) (hk':k'=k+1)
    (hs:s=texts.getD k.toNat default) (hx:x=values.getD k.toNat default) (hy:y=blinds.getD k.toNat default) (hm:m=b ++[DThing.mk s x y (-1) (-1)]):m=v ++leavesN texts values blinds k'.toNat:=by
  subst h hk' hm hs hx hy
  rw [show (k+1).toNat=k.toNat+1 by omega,leavesN_succ,List.append_assoc]
  rfl
theorem leaf_no {v:List DThing} {texts:List ByteArray} {values blinds:List Int} {k x y:Int} {s:ByteArray} (h0:0≤k) (hk:k < texts.length) (hs:s=texts.getD k.toNat default) (hx:x=values.getD k.toNat default) (hy:y=blinds.getD k.toNat default)
    (h:¬ Sound [DThing.mk s x y (-1) (-1)]):¬ argsOK v texts values blinds:=by
  rintro ⟨_,_,_,_,h5⟩
  rw [sound_one] at h
  have:=h5 k.toNat (by omega)
  subst hs hx hy
  exact h this
theorem leaf_step {texts:List ByteArray} {values blinds:List Int} {k k' x y:Int} {s:ByteArray} (hp:∀ i,i < k.toNat→isLeaf (leafAt texts values blinds i)) (h0:0≤k) (hk':k'=k+1) (hs:s=texts.getD k.toNat default) (hx:x=values.getD k.toNat default) (hy:y=blinds.getD k.toNat default)
    (h:Sound [DThing.mk s x y (-1) (-1)]):∀ i,i < k'.toNat→isLeaf (leafAt texts values blinds i):=by
  intro i hi
  by_cases e:i=k.toNat
  · subst e hs hx hy
    rw [sound_one] at h
    exact h
  · exact hp i (by omega)
theorem up_fuel:∀ (n m:Nat) (th:List DThing) (l:List Int),l.length≤n→l.length≤m→up n th l=up m th l
  | 0,0,_,_,_,_=>rfl
  | 0,m+1,th,l,h,_=>by rw [up,up,if_neg (by omega)]
  | n+1,0,th,l,_,h=>by rw [up,up,if_neg (by omega)]
  | n+1,m+1,th,l,h1,h2=>by
    rw [up,up]
    split
    · have:=pairUp_length th l
      exact up_fuel n m _ _ (by omega) (by omega)
    · rfl
theorem up_step {th b:List DThing} {l m:List Int} (h:1 < l.length) (hp:pairUp th l=(b,m)):up l.length th l=up m.length b m:=by
  have hl:=pairUp_length th l
  rw [hp] at hl
  simp only at hl
  obtain ⟨n,hn⟩:∃ n,l.length=n+1:=⟨l.length - 1,by omega⟩
  rw [hn,up,if_pos h,hp]
  exact up_fuel _ _ _ _ (by simp only;omega) (Nat.le_refl _)
theorem drop2 {l:List Int} {i j x y:Int} (h0:0≤i) (hj:j=i+1) (h:j < l.length) (hx:x=l.getD i.toNat default) (hy:y=l.getD j.toNat default):l.drop i.toNat=x :: y :: l.drop (i+2).toNat:=by
  subst hj hx hy
  have h1:i.toNat < l.length:=by omega
  have h2:i.toNat+1 < l.length:=by omega
  rw [List.drop_eq_getElem_cons h1,List.drop_eq_getElem_cons h2,show (i+1).toNat=i.toNat+1 by omega,show (i+2).toNat=i.toNat+1+1 by omega]
  simp [h1,h2]
theorem Lev.two {th:List DThing} {pre l rest:List Int} {x y S B:Int} (h:Lev th (pre ++l) S B) (hd:l=x :: y :: rest) (hS:S≤1125899906842624) (hB:B≤1125899906842624) :
    (0≤x∧x < th.length)∧(0≤y∧y < th.length)∧Bd (el th x)∧Bd (el th y):=by
  subst hd
  have hx:=h.le (a:=x) (by simp)
  have hy:=h.le (a:=y) (by simp)
  unfold Tm.has at hx hy
  refine ⟨hx.1,hy.1,?_,?_⟩ <;> unfold Bd <;> omega
theorem pair_step {th b m:List DThing} {l next next':List Int} {i i' j x y n S B:Int} (hL:Lev b (next ++l.drop i.toNat) S B) (hP:pairUp th l=((pairUp b (l.drop i.toNat)).1,next ++(pairUp b (l.drop i.toNat)).2))
    (h0:0≤i) (hj:j=i+1) (h:j < l.length) (hx:x=l.getD i.toNat default) (hy:y=l.getD j.toNat default) (hi':i'=i+2) (hm:m=b ++[pairX b x y]) (hn:n=b.length) (hn':next'=next ++[n]) :
    Lev m (next' ++l.drop i'.toNat) S B∧pairUp th l=((pairUp m (l.drop i'.toNat)).1,next' ++(pairUp m (l.drop i'.toNat)).2):=by
  have hd:=drop2 h0 hj h hx hy
  rw [hd] at hL hP
  subst hi' hm hn hn'
  constructor
  · rw [List.append_assoc];exact hL.pair
  · rw [hP,pairUp];simp
theorem pair_end {th b:List DThing} {l next:List Int} {i:Int} (hP:pairUp th l=((pairUp b (l.drop i.toNat)).1,next ++(pairUp b (l.drop i.toNat)).2)) (hi:i=l.length):pairUp th l=(b,next):=by
  rw [hP,hi];simp [pairUp]
theorem pair_odd {th b:List DThing} {l next next':List Int} {i k x:Int} (hP:pairUp th l=((pairUp b (l.drop i.toNat)).1,next ++(pairUp b (l.drop i.toNat)).2)) (h0:0≤i) (hi:i=(l.length:Int) - 1) (hk:k=i) (hx:x=l.getD k.toNat default) (hn:next'=next ++[x]):pairUp th l=(b,next'):=by
  have h1:i.toNat < l.length:=by omega
  have hd:l.drop i.toNat=[x]:=by
    rw [List.drop_eq_getElem_cons h1,hx,hk,List.drop_of_length_le (by omega)]
    simp [h1]
  rw [hP,hd,hn];simp [pairUp]
theorem lev_end {b:List DThing} {l next:List Int} {i S B:Int} (hL:Lev b (next ++l.drop i.toNat) S B) (hi:i=l.length):Lev b next S B:=by
  have:l.drop i.toNat=[]:=List.drop_of_length_le (by omega)
  rw [this,List.append_nil] at hL;exact hL
theorem lev_odd {b:List DThing} {l next next':List Int} {i k x S B:Int} (hL:Lev b (next ++l.drop i.toNat) S B) (h0:0≤i) (hi:i=(l.length:Int) - 1) (hk:k=i) (hx:x=l.getD k.toNat default) (hn:next'=next ++[x]):Lev b next' S B:=by
  have h1:i.toNat < l.length:=by omega
  have hd:l.drop i.toNat=[x]:=by
    rw [List.drop_eq_getElem_cons h1,hx,hk,List.drop_of_length_le (by omega)]
    simp [h1]
  rw [hd] at hL;rw [hn];exact hL
theorem up_one {b:List DThing} {l:List Int} (h:l.length≤1):up l.length b l=(b,l):=by
  match l,h with
  | [],_=>rfl
  | [a],_=>rw [List.length_singleton,up,if_neg (by simp)]
end Tm

open Go Go.Proofs
set_option maxRecDepth 10000 in
theorem isLeaf_ct (c:ByteArray) (d e a f:Int) :
    Cp Try.prog 66 #[ag (DThing.mk c d e a f)] [] (bv (decide (a= -1))):=by
  refine V.fn mo Try.func66 6 1 (by kernel_rfl) fun w H ε k0=>?_;clear k0
  refine V.g [.nb 0 0 (fun b=>pp b 0) 88 (fun _=>ca (DThing.mk c d e a f)),.kb false] fun _ _ G1=>?_;intro S s
  refine V.g [.k (pp ((G1 0).b) 3),.ld 0 3 false (fun _=>[iv a]),.k (bv (decide (a=(-1)))),.k (bv (decide (a=(-1))))] fun _ _ G2=>?_;intro S s
  have e0:(decide (a=(-1)))=decide (a= -1):=by
    refine Bool.eq_iff_iff.2 (Iff.trans iDT (Iff.trans ?_ decide_eq_true_iff.symm));exact Iff.rfl
  exact V.rt [0] [] [] [] [] [] (bv (decide (a=(-1)))) (cong1 (fun (x0:Bool)=>(bv x0:Value)) e0)
set_option maxRecDepth 10000 in
theorem has_ct (v:List DThing) (vs:SV) (i:Int) :
    Cp Try.prog 68 #[ag (DVault.mk ⟨v,vs⟩),iv i] [fs true v vs] (bv (decide (0≤i∧i < (v.length:Int)))):=by
  refine V.fn mo Try.func68 14 1 (by kernel_rfl) fun w H ε k0=>?_;obtain ⟨⟨kl1, -⟩, -⟩:Lq v vs.v∧True:=kq k0
  clear k0;refine V.g [.nb 0 0 (fun b=>pp b 0) 51 (fun _=>ca (DVault.mk ⟨v,vs⟩)),.kb false] fun _ _ G1=>?_;intro S s
  refine nm ((decide (0≤i)) && (decide (i < (v.length:Int))):Bool) fun p1 hp1=>?_;refine V.g [.k (iv i),.k (bv (decide (0≤i))),.k (bv (decide (0≤i))),.k (iv i),.k (pp ((G1 0).b) 0),.ld 0 0 false (fun _=>[vs.v]),.ln (kf false (.f 0) v (fun _=>vs)),.k (bv (decide (i < (v.length:Int)))),.andn g0 false (decide (0≤i)) (decide (i < (v.length:Int))) p1 hp1,.k (bv p1)] fun _ _ G2=>?_;intro S s
  have e0:p1=decide (0≤i∧i < (v.length:Int)):=by
    refine Bool.eq_iff_iff.2 (Iff.trans (iN hp1 (iAT iDT iDT)) (Iff.trans ?_ decide_eq_true_iff.symm));exact Iff.rfl
  exact V.rt [0] [] [] [] [] [] (bv p1) (cong1 (fun (x0:Bool)=>(bv x0:Value)) e0)
set_option maxRecDepth 10000 in
theorem tleaf_ct (text:ByteArray) (value blind:Int) :
    Cp Try.prog 60 #[tv text,iv value,iv blind] [] (ag (DThing.mk text value blind (-1) (-1))):=by
  refine V.fn mo Try.func60 11 1 (by kernel_rfl) fun w H ε k0=>?_;clear k0
  refine V.g [.nb 0 0 (fun b=>pp b 0) 88 (fun _=>ca (DThing.mk ByteArray.empty 0 0 0 0))] fun _ _ G1=>?_;intro S s
  refine V.g [.k (tv text),.k (iv value),.k (iv blind),.k (ag (DThing.mk text value blind (-1) (-1))),.st 0 (fun _=>.blk ((G1 0).b) (ca (DThing.mk text value blind (-1) (-1))) 88)] fun _ _ G2=>?_;intro S s
  exact V.rs [0] [] [] [] [] [] (ag (DThing.mk text value blind (-1) (-1)))
set_option maxRecDepth 10000 in
theorem walks_ct (v:List DThing) (vs:SV) (path:List Int) (paths:SV) :
    Cp Try.prog 65 #[ag (DVault.mk ⟨v,vs⟩),paths.v] [fs true v vs,fs true path paths] (bv (decide (Tm.Walks v path))):=by
  refine V.fn mo Try.func65 49 2 (by kernel_rfl) fun w H ε k0=>?_;obtain ⟨⟨kl1, -⟩,⟨kl2, -⟩, -⟩:Lq v vs.v∧Lq path paths.v∧True:=kq k0
  clear k0;refine V.g [.nb 0 0 (fun b=>pp b 0) 51 (fun _=>ca (DVault.mk ⟨v,vs⟩)),.kb false] fun _ _ G1=>?_;intro S s
  refine nm ((!(decide (Tm.Sound v))) || (decide ((path.length:Int)=0)):Bool) fun p1 hp1=>?_;refine V.g [.ld 0 0 true (fun _=>Dat.cells (DVault.mk ⟨v,vs⟩)),.cp g0 1 59 [(kf false (.f 0) v (fun _=>vs)).a] (fun _ G=>sound_ct v vs),.k (bv (!(decide (Tm.Sound v)))),.k (bv (!(decide (Tm.Sound v)))),.k (paths.v),.ln (kf false (.f 1) path (fun _=>paths)),.k (bv (decide ((path.length:Int)=0))),.orn g0 false (!(decide (Tm.Sound v))) (decide ((path.length:Int)=0)) p1 hp1] fun _ _ G2=>?_;intro S s
  refine V.cn (b:=p1) (iN hp1 (iOT (iNT iDF) iDT)) (iN hp1 (iOF (iNF iDT) iDF)) (fun q1=>?_) (fun q2=>?_)
  · refine V.g [.kb false] fun _ _ G3=>?_;intro S s
    have e0:false=decide (Tm.Walks v path):=by
      symm;rw [decide_eq_false_iff_not];rintro ⟨h1,h2,_⟩;rcases q1 with h | h
      · exact h h1
      omega
    exact V.rt [0] [] [] [] [] [] (bv false) (cong1 (fun (x0:Bool)=>(bv x0:Value)) e0)
  refine V.g [.k (paths.v),.ln (kf false (.f 1) path (fun _=>paths)),.k (iv 0)] fun _ _ G4=>?_;intro S s
  refine V.loop (γ:=Int) (fun k0=>⟨[(1,paths.v),(2,pp ((G1 0).b) 0),(16,paths.v),(17,iv (path.length:Int)),(18,iv k0)],[fs false path paths,fs false v vs],[.blk ((G1 0).b) (ca (DVault.mk ⟨v,vs⟩)) 51,.no]⟩) (fun k0=>(0≤k0)∧(k0≤(path.length:Int))∧(Tm.walksTo v path k0.toNat)) (fun k0=>((path.length:Int)-k0).toNat) 0 (by kernel_rfl) [1,0] (by kernel_rfl) ?_ ?_
  · refine ⟨?_,?_,?_⟩
    · show 0≤(0:Int)
      first | omega | rfl | (simp;done) | (subst_vars;simp;done)
    · show (0:Int)≤(path.length:Int)
      first | omega | rfl | (simp;done) | (subst_vars;simp;done)
    show Tm.walksTo v path (0:Int).toNat;intro i hi;simp at hi
  rintro k0 hF1 kw5 Z1 hZ1;have hF1:(0≤k0)∧(k0≤(path.length:Int))∧(Tm.walksTo v path k0.toNat):=hF1;obtain ⟨hf1,hf2,hf3⟩:=hF1;clear kw5;refine V.g [.k (bv (decide (k0 < (path.length:Int))))] fun _ _ G5=>?_;intro S s;refine V.cn (b:=decide (k0 < (path.length:Int))) iDT iDF (fun q3=>?_) (fun q4=>?_)
  · refine nm (path.getD k0.toNat default:Int) fun v1 hv1=>?_;refine V.g [.k (iv k0),.ix g0 (kf false (.f 0) path (fun _=>paths)) k0 (fun _=>⟨by omega,by omega⟩),.le g0 (kf false (.f 0) path (fun _=>paths)) k0 none false v1 hv1 (fun _=>⟨by omega,by omega⟩) false (fun _=>[iv v1]),.k (iv k0),.k (iv v1)] fun _ _ G6=>?_;intro S s
    refine V.g [.ld 0 0 true (fun _=>Dat.cells (DVault.mk ⟨v,vs⟩)),.k (iv v1),.cp g0 2 68 [(kf false (.f 1) v (fun _=>vs)).a] (fun _ G=>has_ct v vs v1),.k (bv (!(decide (0≤v1∧v1 < (v.length:Int)))))] fun _ _ G7=>?_;intro S s
    refine V.cn (b:=!(decide (0≤v1∧v1 < (v.length:Int)))) (iNT iDF) (iNF iDT) (fun q5=>?_) (fun q6=>?_)
    · refine V.g [.kb false] fun _ _ G8=>?_;intro S s
      have e0:false=decide (Tm.Walks v path):=Tm.walks_no_has (k:=k0) (by omega) (by omega) (by assumption) q5;exact V.rt [0] [] [] [] [] [] (bv false) (cong1 (fun (x0:Bool)=>(bv x0:Value)) e0)
    refine V.g [.k (iv k0),.k (bv (decide (0 < k0)))] fun _ _ G9=>?_;intro S s
    refine V.cn (b:=decide (0 < k0)) iDT iDF (fun q7=>?_) (fun q8=>?_)
    · refine nm (path.getD (k0-1).toNat default:Int) fun v2 hv2=>?_;refine nm (v.getD v2.toNat default:DThing) fun x1 hx1=>?_;have hpv:=Tm.walks_prev (k:=k0) (by assumption) (by omega) rfl (by assumption)
      refine V.g [.k (pp ((G1 0).b) 0),.ld 0 0 false (fun _=>[vs.v]),.k (paths.v),.k (iv k0),.a (k0-1) (by omega) (by omega),.ix g0 (kf false (.f 0) path (fun _=>paths)) (k0-1) (fun _=>⟨by omega,by omega⟩),.le g0 (kf false (.f 0) path (fun _=>paths)) (k0-1) none false v2 hv2 (fun _=>⟨by omega,by omega⟩) false (fun _=>[iv v2]),.ix g0 (kf false (.f 1) v (fun _=>vs)) v2 (fun _=>⟨by omega,by omega⟩),.le g0 (kf false (.f 1) v (fun _=>vs)) v2 none false x1 hx1 (fun _=>⟨by omega,by omega⟩) true (fun _=>Dat.cells x1),.nb 9 1 (fun b=>pp b 0) 88 (fun _=>ca (DThing.mk ByteArray.empty 0 0 0 0)),.st 1 (fun G=>.blk ((G 9).b) (ca x1) 88)] fun _ _ G10=>?_;intro S s
      refine nm ((!(decide (x1.Left=v1))) && (!(decide (x1.Right=v1))):Bool) fun p2 hp2=>?_;refine V.g [.k (pp ((G10 9).b) 3),.ld 1 3 false (fun _=>[iv x1.Left]),.k (iv v1),.k (bv (!(decide (x1.Left=v1)))),.k (bv (!(decide (x1.Left=v1)))),.k (pp ((G10 9).b) 4),.ld 1 4 false (fun _=>[iv x1.Right]),.k (iv v1),.k (bv (!(decide (x1.Right=v1)))),.andn g0 false (!(decide (x1.Left=v1))) (!(decide (x1.Right=v1))) p2 hp2] fun _ _ G11=>?_;intro S s
      refine V.cn (b:=p2) (iN hp2 (iAT (iNT iDF) (iNT iDF))) (iN hp2 (iAF (iNF iDT) (iNF iDT))) (fun q9=>?_) (fun q10=>?_)
      · refine V.g [.kb false] fun _ _ G12=>?_;intro S s
        have e0:false=decide (Tm.Walks v path):=Tm.walks_no_step (k:=k0) (by omega) (by omega) (by assumption) rfl (by assumption) (by assumption) q9;exact V.rt [0] [] [] [] [] [] (bv false) (cong1 (fun (x0:Bool)=>(bv x0:Value)) e0)
      refine V.g [.a (k0+1) (by omega) (by omega),.k (iv (k0+1))] fun _ _ G13=>?_;intro S s
      refine V.rnd hZ1 (k0+1) [0,1] (by kernel_rfl) ?_ ?_
      · refine ⟨?_,?_,?_⟩
        · show 0≤(k0+1)
          first | omega | rfl | (simp;done) | (subst_vars;simp;done)
        · show (k0+1)≤(path.length:Int)
          first | omega | rfl | (simp;done) | (subst_vars;simp;done)
        show Tm.walksTo v path (k0+1).toNat;refine Tm.walks_step (by assumption) (by assumption) rfl (by assumption) (by assumption) ?_;intro h;exact ⟨_,_,_,rfl,by assumption,by assumption,by omega⟩
      show ((path.length:Int)-(k0+1)).toNat < ((path.length:Int)-k0).toNat;omega
    refine V.g [.a (k0+1) (by omega) (by omega),.k (iv (k0+1))] fun _ _ G14=>?_;intro S s
    refine V.rnd hZ1 (k0+1) [0,1] (by kernel_rfl) ?_ ?_
    · refine ⟨?_,?_,?_⟩
      · show 0≤(k0+1)
        first | omega | rfl | (simp;done) | (subst_vars;simp;done)
      · show (k0+1)≤(path.length:Int)
        first | omega | rfl | (simp;done) | (subst_vars;simp;done)
      show Tm.walksTo v path (k0+1).toNat;refine Tm.walks_step (by assumption) (by assumption) rfl (by assumption) (by assumption) ?_;intro h;omega
    show ((path.length:Int)-(k0+1)).toNat < ((path.length:Int)-k0).toNat;omega
  refine V.g [.kb true] fun _ _ G15=>?_;intro S s
  have e0:true=decide (Tm.Walks v path):=by
    symm;rw [decide_eq_true_iff]
    refine ⟨by rcases q2 with ⟨h,_⟩;first | exact h | exact Decidable.not_not.1 h,by omega,?_⟩
    rwa [show path.length=k0.toNat by omega]
  exact V.rt [0] [] [] [] [] [] (bv true) (cong1 (fun (x0:Bool)=>(bv x0:Value)) e0)
set_option maxRecDepth 10000 in
theorem reach_ct (v:List DThing) (vs:SV) (leaf:Int) (hS:Tm.Sound v) (hh:0≤leaf∧leaf < (v.length:Int)) :
    Ct Try.prog 69 #[ag (DVault.mk ⟨v,vs⟩),iv leaf] [fs true v vs] [] (fun g=>((g.ss 0)).v) (fun g=>[fs true (Tm.reachF v leaf) (g.ss 0)]) (fun g=>[]) (fun g=>[]):=by
  refine V.fn mo Try.func69 49 3 (by kernel_rfl) fun w H ε k0=>?_;obtain ⟨⟨kl1, -⟩, -⟩:Lq v vs.v∧True:=kq k0
  clear k0;have hS1:=hS.1;refine V.g [.nb 0 0 (fun b=>pp b 0) 51 (fun _=>ca (DVault.mk ⟨v,vs⟩)),.k (.slice none 0 0)] fun _ _ G1=>?_;intro S_ s_
  refine nm (List.replicate (v.length:Int).toNat false:List Bool) fun l1 hl1=>?_;have hl1n:=congrArg List.length hl1;try simp only [List.length_append,List.length_cons,List.length_nil,List.length_replicate,List.length_set,List.length_take,List.length_drop,List.length_map,List.length_reverse,List.length_range] at hl1n
  refine V.g [.k (pp ((G1 0).b) 0),.ld 0 0 false (fun _=>[vs.v]),.ln (kf false (.f 0) v (fun _=>vs)),.mks 3 1 4 1 (v.length:Int) l1 hl1 (by omega) (by omega) (by omega),.v fun G=>((G 3).s).v] fun _ _ G2=>?_;intro S_ s_
  refine nm (l1.getD leaf.toNat default:Bool) fun x1 hx1=>?_;refine nm (l1.set leaf.toNat true:List Bool) fun l2 hl2=>?_;have hl2n:=congrArg List.length hl2;try simp only [List.length_append,List.length_cons,List.length_nil,List.length_replicate,List.length_set,List.length_take,List.length_drop,List.length_map,List.length_reverse,List.length_range] at hl2n
  refine V.g [.k (((G2 3).s).v),.k (iv leaf),.ix g0 (ko true 4 1 l1 (fun _=>(G2 3).s)) leaf (fun _=>⟨by omega,by omega⟩),.se g0 3 1 4 true l1 (fun _=>(G2 3).s) leaf none x1 true hx1 true l2 hl2 (fun _=>⟨by omega,by omega⟩) (fun _=>rfl) [] (fun _ _ _ _=>trivial)] fun _ _ G3=>?_;intro S_ s_
  refine V.g [.k (iv leaf),.a (leaf+1) (by omega) (by omega),.k (iv (leaf+1))] fun _ _ G4=>?_;intro S_ s_
  refine V.loop (γ:=List Bool × SV × Int) (fun ⟨out,outs,i⟩=>⟨[(2,pp ((G1 0).b) 0),(5,outs.v),(6,iv i)],[fs false v vs],[.blk ((G1 0).b) (ca (DVault.mk ⟨v,vs⟩)) 51,os true 4 out outs,.no]⟩) (fun ⟨out,outs,i⟩=>(leaf < i)∧(i≤(v.length:Int))∧(out=Tm.reachW v leaf i.toNat)) (fun ⟨out,outs,i⟩=>((v.length:Int)-i).toNat) (l2,(G2 3).s,leaf+1) (by kernel_rfl) [0] (by kernel_rfl) ?_ ?_
  · refine ⟨?_,?_,?_⟩
    · show leaf < (leaf+1)
      first | omega | rfl | (simp;done) | (subst_vars;simp;done)
    · show (leaf+1)≤(v.length:Int)
      first | omega | rfl | (simp;done) | (subst_vars;simp;done)
    show l2=Tm.reachW v leaf (leaf+1).toNat;rw [←Tm.reachW_start hh.1 hh.2]
    subst_vars
    simp
  rintro ⟨out,outs,i⟩ hF1 kw5 Z1 hZ1;have hF1:(leaf < i)∧(i≤(v.length:Int))∧(out=Tm.reachW v leaf i.toNat):=hF1;obtain ⟨hf1,hf2,hf3⟩:=hF1;obtain ⟨-,⟨kl2, -⟩, -⟩:Lq v vs.v∧Lq out outs.v∧True:=kq kw5;clear kw5;have hol:out.length=v.length:=by rw [hf3];exact Tm.reachW_length (by omega)
  refine V.g [.k (iv i),.k (outs.v),.ln (ko true 4 1 out (fun _=>outs)),.k (bv (decide (i < (out.length:Int))))] fun _ _ G5=>?_;intro S_ s_
  refine V.cn (b:=decide (i < (out.length:Int))) iDT iDF (fun q1=>?_) (fun q2=>?_)
  · refine nm (v.getD i.toNat default:DThing) fun x2 hx2=>?_;refine V.g [.k (pp ((G1 0).b) 0),.ld 0 0 false (fun _=>[vs.v]),.k (iv i),.ix g0 (kf false (.f 0) v (fun _=>vs)) i (fun _=>⟨by omega,by omega⟩),.le g0 (kf false (.f 0) v (fun _=>vs)) i none false x2 hx2 (fun _=>⟨by omega,by omega⟩) true (fun _=>Dat.cells x2),.nb 5 2 (fun b=>pp b 0) 88 (fun _=>ca (DThing.mk ByteArray.empty 0 0 0 0)),.st 2 (fun G=>.blk ((G 5).b) (ca x2) 88)] fun _ _ G6=>?_;intro S_ s_
    refine nm (out.getD x2.Left.toNat default:Bool) fun x3 hx3=>?_;refine nm (out.getD x2.Right.toNat default:Bool) fun x4 hx4=>?_;refine nm (out.getD i.toNat default:Bool) fun x5 hx5=>?_;refine nm (out.set i.toNat ((!(decide (x2.Left= -1))) && (x3 || x4)):List Bool) fun l3 hl3=>?_;have hl3n:=congrArg List.length hl3;try simp only [List.length_append,List.length_cons,List.length_nil,List.length_replicate,List.length_set,List.length_take,List.length_drop,List.length_map,List.length_reverse,List.length_range] at hl3n
    refine V.g [.k (outs.v),.k (iv i),.ld 2 0 true (fun _=>Dat.cells x2),.cp g0 3 66 [] (fun _ G=>isLeaf_ct x2.Text x2.Value x2.Blind x2.Left x2.Right),.k (bv (!(decide (x2.Left= -1)))),.k (bv (!(decide (x2.Left= -1)))),.k (outs.v),.k (pp ((G6 5).b) 3),.ld 2 3 false (fun _=>[iv x2.Left]),.ix (gT (b:=!(decide (x2.Left= -1))) (iNT iDF)) (ko true 4 1 out (fun _=>outs)) x2.Left (fun hg=>(by have hsp:=Tm.sound_pair hS (k:=i) (by omega) (by omega) (by assumption) hg;constructor <;> omega)),.le (gT (b:=!(decide (x2.Left= -1))) (iNT iDF)) (ko true 4 1 out (fun _=>outs)) x2.Left none false x3 hx3 (fun hg=>(by have hsp:=Tm.sound_pair hS (k:=i) (by omega) (by omega) (by assumption) hg;constructor <;> omega)) false (fun _=>[bv x3]),.k (bv x3),.k (outs.v),.k (pp ((G6 5).b) 4),.ld 2 4 false (fun _=>[iv x2.Right]),.ix ((gT (b:=!(decide (x2.Left= -1))) (iNT iDF)).F (b:=x3) Iff.rfl) (ko true 4 1 out (fun _=>outs)) x2.Right (fun hg=>(by have hsp:=Tm.sound_pair hS (k:=i) (by omega) (by omega) (by assumption) hg.1;constructor <;> omega)),.le ((gT (b:=!(decide (x2.Left= -1))) (iNT iDF)).F (b:=x3) Iff.rfl) (ko true 4 1 out (fun _=>outs)) x2.Right none false x4 hx4 (fun hg=>(by have hsp:=Tm.sound_pair hS (k:=i) (by omega) (by omega) (by assumption) hg.1;constructor <;> omega)) false (fun _=>[bv x4]),.or (gT (b:=!(decide (x2.Left= -1))) (iNT iDF)) false x3 x4,.and g0 false (!(decide (x2.Left= -1))) (x3 || x4),.ix g0 (ko true 4 1 out (fun _=>outs)) i (fun _=>⟨by omega,by omega⟩),.se g0 20 1 4 true out (fun _=>outs) i none x5 ((!(decide (x2.Left= -1))) && (x3 || x4)) hx5 true l3 hl3 (fun _=>⟨by omega,by omega⟩) (fun _=>rfl) [] (fun _ _ _ _=>trivial)] fun _ _ G7=>?_;intro S_ s_
    refine V.g [.k (iv i),.a (i+1) (by omega) (by omega),.k (iv (i+1))] fun _ _ G8=>?_;intro S_ s_
    refine V.rnd hZ1 (l3,outs,i+1) [0] (by kernel_rfl) ?_ ?_
    · refine ⟨?_,?_,?_⟩
      · show leaf < (i+1)
        first | omega | rfl | (simp;done) | (subst_vars;simp;done)
      · show (i+1)≤(v.length:Int)
        first | omega | rfl | (simp;done) | (subst_vars;simp;done)
      show l3=Tm.reachW v leaf (i+1).toNat;rw [hl3];exact Tm.reach_round hS hh.1 (by omega) (by omega) (by assumption) hf3 (by first | rfl | (subst_vars;rfl)) rfl
    show ((v.length:Int)-(i+1)).toNat < ((v.length:Int)-i).toNat;omega
  refine V.g [.k (outs.v),.k (outs.v)] fun _ _ G9=>?_;intro S_ s_
  refine V.frz 1 true 4 out outs (by kernel_rfl) ?_;have e0:out=Tm.reachF v leaf:=by
    rw [hf3];exact Tm.reachW_end (by omega)
  subst e0;exact V.rs [0] [outs] [fun _=>{}] [] [1] [] (outs.v)
set_option maxRecDepth 10000 in
theorem path_ct (v:List DThing) (vs:SV) (root leaf:Int) :
    Ct Try.prog 25 #[ag (DVault.mk ⟨v,vs⟩),iv root,iv leaf] [fs true v vs] [] (fun g=>((g.ss 0)).v) (fun g=>[fs true (Tm.pathF v root leaf) (g.ss 0)]) (fun g=>[]) (fun g=>[]):=by
  refine V.fn mo Try.func25 69 3 (by kernel_rfl) fun w H ε k0=>?_;obtain ⟨⟨kl1, -⟩, -⟩:Lq v vs.v∧True:=kq k0
  clear k0;refine V.g [.nb 0 0 (fun b=>pp b 0) 51 (fun _=>ca (DVault.mk ⟨v,vs⟩)),.k (.slice none 0 0)] fun _ _ G1=>?_;intro S_ s_
  refine nm ((!(decide (Tm.Sound v))) || (!(decide (0≤root∧root < (v.length:Int)))):Bool) fun p1 hp1=>?_;refine nm (p1 || (!(decide (0≤leaf∧leaf < (v.length:Int)))):Bool) fun p2 hp2=>?_;refine V.g [.ld 0 0 true (fun _=>Dat.cells (DVault.mk ⟨v,vs⟩)),.cp g0 1 59 [(kf false (.f 0) v (fun _=>vs)).a] (fun _ G=>sound_ct v vs),.k (bv (!(decide (Tm.Sound v)))),.k (bv (!(decide (Tm.Sound v)))),.ld 0 0 true (fun _=>Dat.cells (DVault.mk ⟨v,vs⟩)),.k (iv root),.cp (gF (b:=!(decide (Tm.Sound v))) (iNF iDT)) 6 68 [(kf false (.f 0) v (fun _=>vs)).a] (fun hg G=>has_ct v vs root),.k (bv (!(decide (0≤root∧root < (v.length:Int))))),.orn g0 false (!(decide (Tm.Sound v))) (!(decide (0≤root∧root < (v.length:Int)))) p1 hp1,.k (bv p1),.ld 0 0 true (fun _=>Dat.cells (DVault.mk ⟨v,vs⟩)),.k (iv leaf),.cp (gF (b:=p1) (iN hp1 (iOF (iNF iDT) (iNF iDT)))) 12 68 [(kf false (.f 0) v (fun _=>vs)).a] (fun hg G=>has_ct v vs leaf),.k (bv (!(decide (0≤leaf∧leaf < (v.length:Int))))),.orn g0 false p1 (!(decide (0≤leaf∧leaf < (v.length:Int)))) p2 hp2] fun _ _ G2=>?_;intro S_ s_
  refine V.cn (b:=p2) (iN hp2 (iOT (iN hp1 (iOT (iNT iDF) (iNT iDF))) (iNT iDF))) (iN hp2 (iOF (iN hp1 (iOF (iNF iDT) (iNF iDT))) (iNF iDT))) (fun q1=>?_) (fun q2=>?_)
  · refine V.g [.k (.slice none 0 0)] fun _ _ G3=>?_;intro S_ s_
    refine V.nilF (α:=Int) ?_;have e0:([]:List Int)=Tm.pathF v root leaf:=by
      symm;refine Tm.pathF_no ?_;rintro ⟨h1,h2,h3,_⟩;unfold Tm.has at h2 h3;rcases q1 with (h | h) | h
      · exact h h1
      · omega
      omega
    rw [←e0];exact V.rs [0] [{}] [fun _=>{}] [] [1] [] (SV.v ({}))
  have hS:Tm.Sound v:=by rcases q2 with ⟨⟨h,_⟩,_⟩;first | exact h | exact Decidable.not_not.1 h
  have hS1:=hS.1;have hnear:(Tm.reachF v leaf).length=v.length:=Tm.reachF_length _ _;refine V.r [.ld 0 0 true (fun _=>Dat.cells (DVault.mk ⟨v,vs⟩)),.k (iv leaf),.ct g0 2 69 false [] [] [(kf false (.f 0) v (fun _=>vs)).a] (fun _ G=>reach_ct v vs leaf hS (by omega)),.v fun G=>((G 2).ss 0).v] fun _ _ G4 kw4=>?_;intro S_ s_
  obtain ⟨⟨kl2, -⟩, -⟩:Lq (Tm.reachF v leaf) (((G4 2).ss 0).v)∧True:=kq kw4;clear kw4;refine nm ((Tm.reachF v leaf).getD root.toNat default:Bool) fun x1 hx1=>?_;refine V.g [.k (((G4 2).ss 0).v),.k (iv root),.ix g0 (kf true (.f 1) (Tm.reachF v leaf) (fun _=>(G4 2).ss 0)) root (fun _=>⟨by omega,by omega⟩),.le g0 (kf true (.f 1) (Tm.reachF v leaf) (fun _=>(G4 2).ss 0)) root none false x1 hx1 (fun _=>⟨by omega,by omega⟩) false (fun _=>[bv x1]),.k (bv (!x1))] fun _ _ G5=>?_;intro S_ s_;have hnv:x1=Tm.near v leaf root:=by rw [hx1];exact Tm.reachF_at rfl _
  refine V.cn (b:=!x1) (iNT Iff.rfl) (iNF Iff.rfl) (fun q3=>?_) (fun q4=>?_)
  · refine V.g [.k (.slice none 0 0)] fun _ _ G6=>?_;intro S_ s_
    refine V.nilF (α:=Int) ?_;have e0:([]:List Int)=Tm.pathF v root leaf:=by symm;refine Tm.pathF_no ?_;rintro ⟨_,_,_,h4⟩;rw [hnv,h4] at q3;cases q3
    rw [←e0];exact V.rs [0] [{}] [fun _=>{}] [] [2] [] (SV.v ({}))
  have hroot:Tm.near v leaf root=true:=by rw [←hnv];exact q4
  refine V.g [.k (iv root),.nl 1 1 true 3 [root] [] (fun _ _ _ _ _=>trivial) (fun _=>#[iv root]),.v fun G=>SV.v ⟨atB (G 1).b,1,1⟩] fun _ _ G7=>?_;intro S_ s_
  refine V.g [.k (iv root),.k (iv root)] fun _ _ G8=>?_;intro S_ s_
  refine V.loop (γ:=List Int × SV × Int) (fun ⟨path,paths,cur⟩=>⟨[(2,iv leaf),(3,pp ((G1 0).b) 0),(7,((G4 2).ss 0).v),(8,paths.v),(9,iv cur)],[fs true (Tm.reachF v leaf) ((G4 2).ss 0),fs false v vs],[.blk ((G1 0).b) (ca (DVault.mk ⟨v,vs⟩)) 51,os true 3 path paths,.no]⟩) (fun ⟨path,paths,cur⟩=>(0≤cur)∧(cur < (v.length:Int))∧(Tm.near v leaf cur=true)∧(leaf≤cur)∧((path.length:Int)+cur≤root+1)∧(∃ pre,path=pre ++[cur]∧Tm.rest v leaf root=pre ++Tm.rest v leaf cur)) (fun ⟨path,paths,cur⟩=>cur.toNat) ([root],⟨atB (G7 1).b,1,1⟩,root) (by kernel_rfl) [1,0] (by kernel_rfl) ?_ ?_
  · refine ⟨?_,?_,?_,?_,?_,?_⟩
    · show 0≤root
      first | omega | rfl | (simp;done) | (subst_vars;simp;done)
    · show root < (v.length:Int)
      first | omega | rfl | (simp;done) | (subst_vars;simp;done)
    · show Tm.near v leaf root=true;exact hroot
    · show leaf≤root;exact Tm.near_ge (by omega) (by omega) hroot
    · show ([root].length:Int)+root≤root+1;simp <;> omega
    show ∃ pre,[root]=pre ++[root]∧Tm.rest v leaf root=pre ++Tm.rest v leaf root;exact ⟨[],rfl,rfl⟩
  rintro ⟨path,paths,cur⟩ hF1 kw9 Z1 hZ1;have hF1:(0≤cur)∧(cur < (v.length:Int))∧(Tm.near v leaf cur=true)∧(leaf≤cur)∧((path.length:Int)+cur≤root+1)∧(∃ pre,path=pre ++[cur]∧Tm.rest v leaf root=pre ++Tm.rest v leaf cur):=hF1;obtain ⟨hf1,hf2,hf3,hf4,hf5,hf6⟩:=hF1;obtain ⟨-, -,⟨kl3, -⟩, -⟩:Lq (Tm.reachF v leaf) (((G4 2).ss 0).v)∧Lq v vs.v∧Lq path paths.v∧True:=kq kw9;clear kw9;refine V.g [.k (iv cur),.k (iv leaf),.k (bv (!(decide (cur=leaf))))] fun _ _ G9=>?_;intro S_ s_;refine V.cn (b:=!(decide (cur=leaf))) (iNT iDF) (iNF iDT) (fun q5=>?_) (fun q6=>?_)
  · refine nm (v.getD cur.toNat default:DThing) fun x2 hx2=>?_;refine V.g [.k (pp ((G1 0).b) 0),.ld 0 0 false (fun _=>[vs.v]),.k (iv cur),.ix g0 (kf false (.f 1) v (fun _=>vs)) cur (fun _=>⟨by omega,by omega⟩),.le g0 (kf false (.f 1) v (fun _=>vs)) cur none false x2 hx2 (fun _=>⟨by omega,by omega⟩) true (fun _=>Dat.cells x2),.nb 5 2 (fun b=>pp b 0) 88 (fun _=>ca (DThing.mk ByteArray.empty 0 0 0 0)),.st 2 (fun G=>.blk ((G 5).b) (ca x2) 88)] fun _ _ G10=>?_;intro S_ s_
    refine V.g [.k (pp ((G10 5).b) 3),.ld 2 3 false (fun _=>[iv x2.Left]),.k (pp ((G10 5).b) 4),.ld 2 4 false (fun _=>[iv x2.Right]),.mn x2.Left x2.Right,.k (pp ((G10 5).b) 3),.ld 2 3 false (fun _=>[iv x2.Left]),.k (pp ((G10 5).b) 4),.ld 2 4 false (fun _=>[iv x2.Right]),.mx x2.Left x2.Right,.k (iv (min x2.Left x2.Right)),.k (iv (max x2.Left x2.Right))] fun _ _ G11=>?_;intro S_ s_
    have hdn:=Tm.down hS (i:=cur) (leaf:=leaf) (by omega) (by assumption) (by assumption) (by assumption) q5 (by assumption) (rfl:_=min x2.Left x2.Right) (rfl:_=max x2.Left x2.Right);refine V.g [.k (iv (min x2.Left x2.Right)),.k (iv (min x2.Left x2.Right))] fun _ _ G12=>?_;intro S_ s_
    refine nm ((Tm.reachF v leaf).getD (min x2.Left x2.Right).toNat default:Bool) fun x3 hx3=>?_;refine V.g [.k (((G4 2).ss 0).v),.k (iv (min x2.Left x2.Right)),.ix g0 (kf true (.f 0) (Tm.reachF v leaf) (fun _=>(G4 2).ss 0)) (min x2.Left x2.Right) (fun _=>⟨by omega,by omega⟩),.le g0 (kf true (.f 0) (Tm.reachF v leaf) (fun _=>(G4 2).ss 0)) (min x2.Left x2.Right) none false x3 hx3 (fun _=>⟨by omega,by omega⟩) false (fun _=>[bv x3]),.k (bv (!x3))] fun _ _ G13=>?_;intro S_ s_
    refine V.cn (b:=!x3) (iNT Iff.rfl) (iNF Iff.rfl) (fun q7=>?_) (fun q8=>?_)
    · have hz:=Tm.reachF_at (rfl:Tm.reachF v leaf=Tm.reachF v leaf) (min x2.Left x2.Right);rw [hx3,hz] at q7;have hnx:=hdn.2.2.2.2.1;rw [q7] at hnx;simp only [Bool.false_eq_true,if_false] at hnx;refine V.g [.k (iv (max x2.Left x2.Right)),.k (iv (max x2.Left x2.Right))] fun _ _ G14=>?_;intro S_ s_
      refine nm (path ++[max x2.Left x2.Right]:List Int) fun l1 hl1=>?_;have hl1n:=congrArg List.length hl1;try simp only [List.length_append,List.length_cons,List.length_nil,List.length_replicate,List.length_set,List.length_take,List.length_drop,List.length_map,List.length_reverse,List.length_range] at hl1n
      refine V.r [.k (paths.v),.k (iv (max x2.Left x2.Right)),.nr 2 true 3 [max x2.Left x2.Right] [] (fun _ _ _ _ _=>trivial) (fun _=>#[iv (max x2.Left x2.Right)]),.ap 3 1 3 8 false true path (fun _=>paths) (kf true (.g 2 0) [max x2.Left x2.Right] (fun G=>⟨atB (G 2).b,1,1⟩)) true l1 hl1 (by (try simp only [List.length_append,List.length_cons,List.length_nil,List.length_replicate,List.length_set,List.length_take,List.length_drop,List.length_map,List.length_reverse,List.length_range]);omega) (fun h=>by cases h) (.inr fun _ _=>trivial),.v fun G=>((G 3).s).v] fun _ _ G15 kw16=>?_;intro S_ s_
      obtain ⟨⟨kl4, -⟩, -⟩:Lq [max x2.Left x2.Right] (SV.v ⟨atB (G15 2).b,1,1⟩)∧Lq l1 (((G15 3).s).v)∧True:=kq kw16;clear kw16;refine V.rnd hZ1 (l1,(G15 3).s,max x2.Left x2.Right) [0,1] (by kernel_rfl) ?_ ?_
      · refine ⟨?_,?_,?_,?_,?_,?_⟩
        · show 0≤(max x2.Left x2.Right);omega
        · show (max x2.Left x2.Right) < (v.length:Int);omega
        · show Tm.near v leaf (max x2.Left x2.Right)=true;rw [←hnx];exact hdn.2.2.2.2.2.1
        · show leaf≤(max x2.Left x2.Right);rw [←hnx];exact hdn.2.2.2.2.2.2.1
        · show (l1.length:Int)+(max x2.Left x2.Right)≤root+1;omega
        show ∃ pre,l1=pre ++[(max x2.Left x2.Right)]∧Tm.rest v leaf root=pre ++Tm.rest v leaf (max x2.Left x2.Right);obtain ⟨pre,hp1,hp2⟩:=hf6;exact ⟨pre ++[cur],by rw [hl1,hp1],by rw [hp2,hdn.2.2.2.2.2.2.2,hnx];simp⟩
      show (max x2.Left x2.Right).toNat < cur.toNat;omega
    have hz:=Tm.reachF_at (rfl:Tm.reachF v leaf=Tm.reachF v leaf) (min x2.Left x2.Right);rw [hx3,hz] at q8;have hnx:=hdn.2.2.2.2.1;rw [q8] at hnx;simp only [if_true] at hnx;refine nm (path ++[min x2.Left x2.Right]:List Int) fun l2 hl2=>?_;have hl2n:=congrArg List.length hl2;try simp only [List.length_append,List.length_cons,List.length_nil,List.length_replicate,List.length_set,List.length_take,List.length_drop,List.length_map,List.length_reverse,List.length_range] at hl2n
    refine V.r [.k (paths.v),.k (iv (min x2.Left x2.Right)),.nr 2 true 3 [min x2.Left x2.Right] [] (fun _ _ _ _ _=>trivial) (fun _=>#[iv (min x2.Left x2.Right)]),.ap 3 1 3 8 false true path (fun _=>paths) (kf true (.g 2 0) [min x2.Left x2.Right] (fun G=>⟨atB (G 2).b,1,1⟩)) true l2 hl2 (by (try simp only [List.length_append,List.length_cons,List.length_nil,List.length_replicate,List.length_set,List.length_take,List.length_drop,List.length_map,List.length_reverse,List.length_range]);omega) (fun h=>by cases h) (.inr fun _ _=>trivial),.v fun G=>((G 3).s).v] fun _ _ G16 kw17=>?_;intro S_ s_
    obtain ⟨⟨kl5, -⟩, -⟩:Lq [min x2.Left x2.Right] (SV.v ⟨atB (G16 2).b,1,1⟩)∧Lq l2 (((G16 3).s).v)∧True:=kq kw17;clear kw17;refine V.rnd hZ1 (l2,(G16 3).s,min x2.Left x2.Right) [0,1] (by kernel_rfl) ?_ ?_
    · refine ⟨?_,?_,?_,?_,?_,?_⟩
      · show 0≤(min x2.Left x2.Right);omega
      · show (min x2.Left x2.Right) < (v.length:Int);omega
      · show Tm.near v leaf (min x2.Left x2.Right)=true;rw [←hnx];exact hdn.2.2.2.2.2.1
      · show leaf≤(min x2.Left x2.Right);rw [←hnx];exact hdn.2.2.2.2.2.2.1
      · show (l2.length:Int)+(min x2.Left x2.Right)≤root+1;omega
      show ∃ pre,l2=pre ++[(min x2.Left x2.Right)]∧Tm.rest v leaf root=pre ++Tm.rest v leaf (min x2.Left x2.Right);obtain ⟨pre,hp1,hp2⟩:=hf6;exact ⟨pre ++[cur],by rw [hl2,hp1],by rw [hp2,hdn.2.2.2.2.2.2.2,hnx];simp⟩
    show (min x2.Left x2.Right).toNat < cur.toNat;omega
  refine V.g [.k (paths.v),.k (paths.v)] fun _ _ G17=>?_;intro S_ s_
  refine V.frz 1 true 3 path paths (by kernel_rfl) ?_;have e0:path=Tm.pathF v root leaf:=by
    obtain ⟨pre,hp1,hp2⟩:=hf6;rw [Tm.pathF_yes hS (by unfold Tm.has;omega) (by unfold Tm.has;omega) hroot,hp2,hp1,show cur=leaf by omega,Tm.rest_self]
  subst e0;exact V.rs [0] [paths] [fun _=>{}] [] [2] [] (paths.v)
set_option maxRecDepth 10000 in
theorem view_ct (v:List DThing) (vs:SV) (path:List Int) (paths:SV) (hp:path.length≤5000000000000) :
    Ct Try.prog 58 #[ag (DVault.mk ⟨v,vs⟩),paths.v] [fs true v vs,fs true path paths] [] (fun g=>((g.ss 0)).v) (fun g=>[fs true (Tm.viewF v path) (g.ss 0)]) (fun g=>[]) (fun g=>[]):=by
  refine V.fn mo Try.func58 49 2 (by kernel_rfl) fun w H ε k0=>?_;obtain ⟨⟨kl1, -⟩,⟨kl2, -⟩, -⟩:Lq v vs.v∧Lq path paths.v∧True:=kq k0
  clear k0;refine V.g [.nb 0 0 (fun b=>pp b 0) 51 (fun _=>ca (DVault.mk ⟨v,vs⟩)),.k (.slice none 0 0)] fun _ _ G1=>?_;intro S_ s_
  refine V.g [.ld 0 0 true (fun _=>Dat.cells (DVault.mk ⟨v,vs⟩)),.k (paths.v),.cp g0 2 65 [(kf false (.f 0) v (fun _=>vs)).a,(kf false (.f 1) path (fun _=>paths)).a] (fun _ G=>walks_ct v vs path paths),.k (bv (!(decide (Tm.Walks v path))))] fun _ _ G2=>?_;intro S_ s_
  refine V.cn (b:=!(decide (Tm.Walks v path))) (iNT iDF) (iNF iDT) (fun q1=>?_) (fun q2=>?_)
  · refine V.g [.k (.slice none 0 0)] fun _ _ G3=>?_;intro S_ s_
    refine V.nilF (α:=DThing) ?_;have e0:([]:List DThing)=Tm.viewF v path:=(Tm.viewF_no q1).symm;rw [←e0];exact V.rs [0] [{}] [fun _=>{}] [] [2] [] (SV.v ({}))
  have hW:=q2;refine nm (List.replicate (path.length:Int).toNat (default:DThing):List DThing) fun l1 hl1=>?_;have hl1n:=congrArg List.length hl1;try simp only [List.length_append,List.length_cons,List.length_nil,List.length_replicate,List.length_set,List.length_take,List.length_drop,List.length_map,List.length_reverse,List.length_range] at hl1n
  refine V.g [.k (paths.v),.ln (kf false (.f 1) path (fun _=>paths)),.mks 2 1 88 48 (path.length:Int) l1 hl1 (by omega) (by omega) (by omega),.v fun G=>((G 2).s).v] fun _ _ G4=>?_;intro S_ s_
  refine V.g [.k (paths.v),.ln (kf false (.f 1) path (fun _=>paths)),.k (iv 0)] fun _ _ G5=>?_;intro S_ s_
  refine V.loop (γ:=List DThing × SV × Int) (fun ⟨out,outs,k0⟩=>⟨[(1,paths.v),(2,pp ((G1 0).b) 0),(5,outs.v),(15,paths.v),(16,iv (path.length:Int)),(17,iv k0)],[fs false path paths,fs false v vs],[.blk ((G1 0).b) (ca (DVault.mk ⟨v,vs⟩)) 51,os true 88 out outs]⟩) (fun ⟨out,outs,k0⟩=>(0≤k0)∧(k0≤(path.length:Int))∧(out=Tm.viewW v path k0.toNat)) (fun ⟨out,outs,k0⟩=>((path.length:Int)-k0).toNat) (l1,(G4 2).s,0) (by kernel_rfl) [1,0] (by kernel_rfl) ?_ ?_
  · refine ⟨?_,?_,?_⟩
    · show 0≤(0:Int)
      first | omega | rfl | (simp;done) | (subst_vars;simp;done)
    · show (0:Int)≤(path.length:Int)
      first | omega | rfl | (simp;done) | (subst_vars;simp;done)
    show l1=Tm.viewW v path (0:Int).toNat
    subst_vars
    exact (Tm.viewW_zero v path).symm
  rintro ⟨out,outs,k0⟩ hF1 kw6 Z1 hZ1;have hF1:(0≤k0)∧(k0≤(path.length:Int))∧(out=Tm.viewW v path k0.toNat):=hF1;obtain ⟨hf1,hf2,hf3⟩:=hF1;obtain ⟨-, -,⟨kl3, -⟩, -⟩:Lq path paths.v∧Lq v vs.v∧Lq out outs.v∧True:=kq kw6;clear kw6;have hol:out.length=path.length:=by rw [hf3];exact Tm.viewW_length (by omega)
  refine V.g [.k (bv (decide (k0 < (path.length:Int))))] fun _ _ G6=>?_;intro S_ s_
  refine V.cn (b:=decide (k0 < (path.length:Int))) iDT iDF (fun q3=>?_) (fun q4=>?_)
  · refine nm (path.getD k0.toNat default:Int) fun v1 hv1=>?_;refine V.g [.k (iv k0),.ix g0 (kf false (.f 0) path (fun _=>paths)) k0 (fun _=>⟨by omega,by omega⟩),.le g0 (kf false (.f 0) path (fun _=>paths)) k0 none false v1 hv1 (fun _=>⟨by omega,by omega⟩) false (fun _=>[iv v1]),.k (iv k0),.k (iv v1)] fun _ _ G7=>?_;intro S_ s_
    refine nm (v.getD v1.toNat default:DThing) fun x1 hx1=>?_;refine nm (out.getD k0.toNat default:DThing) fun x2 hx2=>?_;refine nm (out.set k0.toNat x1:List DThing) fun l2 hl2=>?_;have hl2n:=congrArg List.length hl2;try simp only [List.length_append,List.length_cons,List.length_nil,List.length_replicate,List.length_set,List.length_take,List.length_drop,List.length_map,List.length_reverse,List.length_range] at hl2n
    have hwh:=Tm.walks_has hW (k:=k0) (by omega) (by omega) (by assumption);refine V.g [.k (outs.v),.k (iv k0),.k (pp ((G1 0).b) 0),.ld 0 0 false (fun _=>[vs.v]),.k (iv v1),.ix g0 (kf false (.f 1) v (fun _=>vs)) v1 (fun _=>⟨by omega,by omega⟩),.le g0 (kf false (.f 1) v (fun _=>vs)) v1 none false x1 hx1 (fun _=>⟨by omega,by omega⟩) true (fun _=>Dat.cells x1),.ix g0 (ko true 88 1 out (fun _=>outs)) k0 (fun _=>⟨by omega,by omega⟩),.se g0 8 1 88 true out (fun _=>outs) k0 none x2 x1 hx2 true l2 hl2 (fun _=>⟨by omega,by omega⟩) (fun _=>rfl) [] (fun _ _ _ _=>trivial)] fun _ _ G8=>?_;intro S_ s_
    refine nm ((path.length:Int)-1:Int) fun n1 hn1=>?_;refine V.g [.k (iv k0),.k (bv (decide (0 < k0))),.k (bv (decide (0 < k0))),.k (iv k0),.k (paths.v),.ln (kf false (.f 0) path (fun _=>paths)),.arg (gT (b:=decide (0 < k0)) iDT) ((path.length:Int)-1) n1 hn1 (fun hg=>by omega),.k (bv (decide (k0 < n1))),.and g0 false (decide (0 < k0)) (decide (k0 < n1))] fun _ _ G9=>?_;intro S_ s_
    refine V.cn (b:=(decide (0 < k0)) && (decide (k0 < n1))) (iAT iDT iDT) (iAF iDF iDF) (fun q5=>?_) (fun q6=>?_)
    · refine nm (l2.getD k0.toNat default:DThing) fun x3 hx3=>?_;refine nm (l2.set k0.toNat (DThing.mk x3.Text (-1) x3.Blind x3.Left x3.Right):List DThing) fun l3 hl3=>?_;have hl3n:=congrArg List.length hl3;try simp only [List.length_append,List.length_cons,List.length_nil,List.length_replicate,List.length_set,List.length_take,List.length_drop,List.length_map,List.length_reverse,List.length_range] at hl3n
      refine nm (l3.getD k0.toNat default:DThing) fun x4 hx4=>?_;refine nm (l3.set k0.toNat (DThing.mk x4.Text x4.Value (-1) x4.Left x4.Right):List DThing) fun l4 hl4=>?_;have hl4n:=congrArg List.length hl4;try simp only [List.length_append,List.length_cons,List.length_nil,List.length_replicate,List.length_set,List.length_take,List.length_drop,List.length_map,List.length_reverse,List.length_range] at hl4n
      refine V.g [.k (outs.v),.k (iv k0),.k (outs.v),.k (iv k0),.ix g0 (ko true 88 1 l2 (fun _=>outs)) k0 (fun _=>⟨by omega,by omega⟩),.k (.pointer (some ((elemAddr outs.v (k0.toNat * 5)).add 1))),.se g0 6 1 88 true l2 (fun _=>outs) k0 (some 1) x3 (DThing.mk x3.Text (-1) x3.Blind x3.Left x3.Right) hx3 true l3 hl3 (fun _=>⟨by omega,by omega⟩) (fun _=>rfl) [] (fun _ _ _ _=>trivial),.ix g0 (ko true 88 1 l3 (fun _=>outs)) k0 (fun _=>⟨by omega,by omega⟩),.k (.pointer (some ((elemAddr outs.v (k0.toNat * 5)).add 2))),.se g0 9 1 88 true l3 (fun _=>outs) k0 (some 2) x4 (DThing.mk x4.Text x4.Value (-1) x4.Left x4.Right) hx4 true l4 hl4 (fun _=>⟨by omega,by omega⟩) (fun _=>rfl) [] (fun _ _ _ _=>trivial)] fun _ _ G10=>?_;intro S_ s_
      refine V.g [.a (k0+1) (by omega) (by omega),.k (iv (k0+1))] fun _ _ G11=>?_;intro S_ s_
      refine V.rnd hZ1 (l4,outs,k0+1) [0,1] (by kernel_rfl) ?_ ?_
      · refine ⟨?_,?_,?_⟩
        · show 0≤(k0+1)
          first | omega | rfl | (simp;done) | (subst_vars;simp;done)
        · show (k0+1)≤(path.length:Int)
          first | omega | rfl | (simp;done) | (subst_vars;simp;done)
        show l4=Tm.viewW v path (k0+1).toNat;exact Tm.view_mid (k:=k0) (by omega) (by omega) (by assumption) (by assumption) hf3 (by assumption) (by assumption) (by assumption) (by assumption) (by assumption) rfl (by omega)
      show ((path.length:Int)-(k0+1)).toNat < ((path.length:Int)-k0).toNat;omega
    refine V.g [.a (k0+1) (by omega) (by omega),.k (iv (k0+1))] fun _ _ G12=>?_;intro S_ s_
    refine V.rnd hZ1 (l2,outs,k0+1) [0,1] (by kernel_rfl) ?_ ?_
    · refine ⟨?_,?_,?_⟩
      · show 0≤(k0+1)
        first | omega | rfl | (simp;done) | (subst_vars;simp;done)
      · show (k0+1)≤(path.length:Int)
        first | omega | rfl | (simp;done) | (subst_vars;simp;done)
      show l2=Tm.viewW v path (k0+1).toNat;exact Tm.view_end (k:=k0) (by omega) (by omega) (by assumption) (by assumption) hf3 (by assumption) rfl (by omega)
    show ((path.length:Int)-(k0+1)).toNat < ((path.length:Int)-k0).toNat;omega
  refine V.g [.k (outs.v),.k (outs.v)] fun _ _ G13=>?_;intro S_ s_
  refine V.frz 1 true 88 out outs (by kernel_rfl) ?_;have e0:out=Tm.viewF v path:=Tm.viewF_yes hW hf3 (by omega);subst e0;exact V.rs [0] [outs] [fun _=>{}] [] [2] [] (outs.v)
set_option maxRecDepth 10000 in
theorem clone_ct (s:List DThing) (ss:SV) (hb:s.length≤1000000000) :
    Ct Try.prog 61 #[ss.v] [fs true s ss] [] (fun g=>((g.ss 0)).v) (fun g=>[]) (fun g=>[os true 88 s (g.ss 0)]) (fun g=>[]):=by
  refine V.fn mo Try.func61 8 2 (by kernel_rfl) fun w H ε k0=>?_;obtain ⟨⟨kl1,kn1⟩, -⟩:Lq s ss.v∧True:=kq k0
  clear k0;refine V.g [.k (.slice none 0 0)] fun _ _ G1=>?_;intro S_ s_
  refine V.g [.k (ss.v),.isn false (fun _=>ss)] fun _ _ G2=>?_;intro S_ s_
  refine V.cn (b:=ss.a.isNone) Iff.rfl Iff.rfl (fun q1=>?_) (fun q2=>?_)
  · refine V.g [.k (.slice none 0 0)] fun _ _ G3=>?_;intro S_ s_
    refine V.on (α:=DThing) 0 88 (by kernel_rfl) ?_;have e0:([]:List DThing)=s:=(kn1 _ rfl q1).symm;rw [←e0];exact V.rs [0] [{}] [fun _=>{}] [] [] [0] (SV.v ({}))
  refine nm (([]:List DThing) ++s:List DThing) fun l1 hl1=>?_;have hl1n:=congrArg List.length hl1;try simp only [List.length_append,List.length_cons,List.length_nil,List.length_replicate,List.length_set,List.length_take,List.length_drop,List.length_map,List.length_reverse,List.length_range] at hl1n
  refine V.g [.nl 0 1 true 88 ([]:List DThing) [] (fun _ _ _ _ _=>trivial) (fun _=>#[]),.k (ss.v),.ap 2 1 88 48 false true ([]:List DThing) (fun G=>⟨atB (G 0).b,0,0⟩) (kf false (.f 0) s (fun _=>ss)) true l1 hl1 (by (try simp only [List.length_append,List.length_cons,List.length_nil,List.length_replicate,List.length_set,List.length_take,List.length_drop,List.length_map,List.length_reverse,List.length_range]);omega) (fun h=>by cases h) (.inr fun _ _=>trivial),.v fun G=>((G 2).s).v] fun _ _ G4=>?_;intro S_ s_
  have e0:l1=s:=by rw [hl1];simp
  replace e0:=e0.symm
  subst e0;exact V.rs [0] [(G4 2).s] [fun _=>{}] [] [] [1] (((G4 2).s).v)
set_option maxRecDepth 10000 in
theorem clonei2_ct (s:List Int) (ss:SV) (hb:s.length≤1000000000) :
    Ct Try.prog 63 #[ss.v] [fs true s ss] [] (fun g=>((g.ss 0)).v) (fun g=>[]) (fun g=>[os true 3 s (g.ss 0)]) (fun g=>[]):=by
  refine V.fn mo Try.func63 8 2 (by kernel_rfl) fun w H ε k0=>?_;obtain ⟨⟨kl1,kn1⟩, -⟩:Lq s ss.v∧True:=kq k0
  clear k0;refine V.g [.k (.slice none 0 0)] fun _ _ G1=>?_;intro S_ s_
  refine V.g [.k (ss.v),.isn false (fun _=>ss)] fun _ _ G2=>?_;intro S_ s_
  refine V.cn (b:=ss.a.isNone) Iff.rfl Iff.rfl (fun q1=>?_) (fun q2=>?_)
  · refine V.g [.k (.slice none 0 0)] fun _ _ G3=>?_;intro S_ s_
    refine V.on (α:=Int) 0 3 (by kernel_rfl) ?_;have e0:([]:List Int)=s:=(kn1 _ rfl q1).symm;rw [←e0];exact V.rs [0] [{}] [fun _=>{}] [] [] [0] (SV.v ({}))
  refine nm (([]:List Int) ++s:List Int) fun l1 hl1=>?_;have hl1n:=congrArg List.length hl1;try simp only [List.length_append,List.length_cons,List.length_nil,List.length_replicate,List.length_set,List.length_take,List.length_drop,List.length_map,List.length_reverse,List.length_range] at hl1n
  refine V.g [.nl 0 1 true 3 ([]:List Int) [] (fun _ _ _ _ _=>trivial) (fun _=>#[]),.k (ss.v),.ap 2 1 3 8 false true ([]:List Int) (fun G=>⟨atB (G 0).b,0,0⟩) (kf false (.f 0) s (fun _=>ss)) true l1 hl1 (by (try simp only [List.length_append,List.length_cons,List.length_nil,List.length_replicate,List.length_set,List.length_take,List.length_drop,List.length_map,List.length_reverse,List.length_range]);omega) (fun h=>by cases h) (.inr fun _ _=>trivial),.v fun G=>((G 2).s).v] fun _ _ G4=>?_;intro S_ s_
  have e0:l1=s:=by rw [hl1];simp
  replace e0:=e0.symm
  subst e0;exact V.rs [0] [(G4 2).s] [fun _=>{}] [] [] [1] (((G4 2).s).v)
set_option maxRecDepth 10000 in
theorem tadd_ct (bb:Nat) (bl:List DThing) (bls:SV) (a:ByteArray) (c d e f:Int) (hb:bl.length≤100000) :
    Ct Try.prog 62 #[pp bb 0,ag (DThing.mk a c d e f)] [] [.blk bb (ca (Dbuilder.mk (DVault.mk ⟨bl,bls⟩))) 94,os false 88 bl bls] (fun g=>iv (bl.length:Int)) (fun g=>[]) (fun g=>[.blk bb (ca (Dbuilder.mk (DVault.mk ⟨bl ++[DThing.mk a c d e f],(g.ss 0)⟩))) 94,os true 88 (bl ++[DThing.mk a c d e f]) (g.ss 0)]) (fun g=>[]):=by
  refine V.fn mo Try.func62 24 1 (by kernel_rfl) fun w H ε k0=>?_;obtain ⟨⟨kl1, -⟩, -⟩:Lq bl bls.v∧True:=kq k0
  clear k0;refine V.g [.nb 0 2 (fun b=>pp b 0) 88 (fun _=>ca (DThing.mk a c d e f)),.k (iv 0)] fun _ _ G1=>?_;intro S_ s_
  refine nm (bl ++([DThing.mk a c d e f]:List DThing):List DThing) fun l1 hl1=>?_;have hl1n:=congrArg List.length hl1;try simp only [List.length_append,List.length_cons,List.length_nil,List.length_replicate,List.length_set,List.length_take,List.length_drop,List.length_map,List.length_reverse,List.length_range] at hl1n
  refine V.r [.k (pp bb 0),.k (pp bb 0),.k (pp bb 0),.k (pp bb 0),.k (pp bb 0),.ld 0 0 false (fun _=>[bls.v]),.ld 2 0 true (fun _=>Dat.cells (DThing.mk a c d e f)),.nr 7 true 88 ([DThing.mk a c d e f]:List DThing) [] (fun _ _ _ _ _=>trivial) (fun _=>#[tv a,iv c,iv d,iv e,iv f]),.ap 8 1 88 48 false false bl (fun _=>bls) (kf true (.g 7 0) ([DThing.mk a c d e f]:List DThing) (fun G=>⟨atB (G 7).b,1,1⟩)) true l1 hl1 (by (try simp only [List.length_append,List.length_cons,List.length_nil,List.length_replicate,List.length_set,List.length_take,List.length_drop,List.length_map,List.length_reverse,List.length_range]);omega) (fun h=>by cases h) (.inr fun _ _=>trivial),.k (pp bb 0),.k (pp bb 0),.k (pp bb 0),.st 0 (fun G=>.blk bb (ca (Dbuilder.mk (DVault.mk ⟨l1,(G 8).s⟩))) 94)] fun _ _ G2 kw2=>?_;intro S_ s_
  obtain ⟨⟨kl2, -⟩, -⟩:Lq ([DThing.mk a c d e f]:List DThing) (SV.v ⟨atB (G2 7).b,1,1⟩)∧Lq l1 (((G2 8).s).v)∧True:=kq kw2;clear kw2;refine nm ((l1.length:Int)-1:Int) fun n1 hn1=>?_;refine V.g [.k (pp bb 0),.k (pp bb 0),.k (pp bb 0),.k (pp bb 0),.ld 0 0 false (fun _=>[((G2 8).s).v]),.ln (ko true 88 1 l1 (fun _=>(G2 8).s)),.ar ((l1.length:Int)-1) n1 hn1 (by omega) (by omega),.k (iv n1)] fun _ _ G3=>?_;intro S_ s_;have e0:n1=(bl.length:Int):=by omega
  have eL1:l1=bl ++[DThing.mk a c d e f]:=by assumption
  subst eL1;exact V.rt [0] [(G2 8).s] [] [] [] [0,1] (iv n1) (cong1 (fun (x0:Int)=>(iv x0:Value)) e0)
set_option maxRecDepth 10000 in
theorem bpair_ct (bb:Nat) (bl:List DThing) (bls:SV) (left right:Int) (hb:bl.length≤90000) (h1:0≤left∧left < (bl.length:Int)) (h2:0≤right∧right < (bl.length:Int)) (hB1:Tm.Bd (Tm.el bl left)) (hB2:Tm.Bd (Tm.el bl right)) :
    Ct Try.prog 64 #[pp bb 0,iv left,iv right] [] [.blk bb (ca (Dbuilder.mk (DVault.mk ⟨bl,bls⟩))) 94,os false 88 bl bls] (fun g=>iv (bl.length:Int)) (fun g=>[]) (fun g=>[.blk bb (ca (Dbuilder.mk (DVault.mk ⟨bl ++[Tm.pairX bl left right],(g.ss 0)⟩))) 94,os true 88 (bl ++[Tm.pairX bl left right]) (g.ss 0)]) (fun g=>[]):=by
  refine V.fn mo Try.func64 40 2 (by kernel_rfl) fun w H ε k0=>?_;obtain ⟨⟨kl1, -⟩, -⟩:Lq bl bls.v∧True:=kq k0
  clear k0;refine V.g [.k (iv 0)] fun _ _ G1=>?_;intro S s
  refine nm (bl.getD left.toNat default:DThing) fun x1 hx1=>?_;refine nm (bl.getD right.toNat default:DThing) fun x2 hx2=>?_;refine V.g [.k (pp bb 0),.k (pp bb 0),.k (pp bb 0),.k (pp bb 0),.ld 0 0 false (fun _=>[bls.v]),.k (iv left),.ix g0 (ko false 88 1 bl (fun _=>bls)) left (fun _=>⟨by omega,by omega⟩),.le g0 (ko false 88 1 bl (fun _=>bls)) left none false x1 hx1 (fun _=>⟨by omega,by omega⟩) true (fun _=>Dat.cells x1),.k (pp bb 0),.k (pp bb 0),.k (pp bb 0),.k (pp bb 0),.ld 0 0 false (fun _=>[bls.v]),.k (iv right),.ix g0 (ko false 88 1 bl (fun _=>bls)) right (fun _=>⟨by omega,by omega⟩),.le g0 (ko false 88 1 bl (fun _=>bls)) right none false x2 hx2 (fun _=>⟨by omega,by omega⟩) true (fun _=>Dat.cells x2),.nb 16 2 (fun b=>pp b 0) 88 (fun _=>ca (DThing.mk ByteArray.empty 0 0 0 0)),.nb 17 3 (fun b=>pp b 0) 88 (fun _=>ca (DThing.mk ByteArray.empty 0 0 0 0)),.st 2 (fun G=>.blk ((G 16).b) (ca x1) 88),.st 3 (fun G=>.blk ((G 17).b) (ca x2) 88)] fun _ _ G2=>?_;intro S s
  have hb1:=hB1;have hb2:=hB2;unfold Tm.Bd Tm.el at hb1 hb2;rw [←hx1] at hb1;rw [←hx2] at hb2;refine nm (x1.Value+x2.Value:Int) fun n1 hn1=>?_;refine nm (x1.Blind+x2.Blind:Int) fun n2 hn2=>?_;refine V.g [.k (pp bb 0),.k (pp ((G2 16).b) 1),.ld 2 1 false (fun _=>[iv x1.Value]),.k (pp ((G2 17).b) 1),.ld 3 1 false (fun _=>[iv x2.Value]),.ar (x1.Value+x2.Value) n1 hn1 (by omega) (by omega),.k (pp ((G2 16).b) 2),.ld 2 2 false (fun _=>[iv x1.Blind]),.k (pp ((G2 17).b) 2),.ld 3 2 false (fun _=>[iv x2.Blind]),.ar (x1.Blind+x2.Blind) n2 hn2 (by omega) (by omega),.k (iv left),.k (iv right),.k (ag (DThing.mk ByteArray.empty n1 n2 left right)),.ct g0 14 62 false [0,1] [] [] (fun _ G=>tadd_ct bb bl bls ByteArray.empty n1 n2 left right (by omega)),.k (iv (bl.length:Int))] fun _ _ G3=>?_;intro S s
  have eL1:bl ++[DThing.mk ByteArray.empty n1 n2 left right]=bl ++[Tm.pairX bl left right]:=by subst_vars;rfl
  rw [←eL1];exact V.rs [0] [(G3 14).ss 0] [] [] [] [0,1] (iv (bl.length:Int))

open Go Go.Proofs
set_option maxRecDepth 10000 in
theorem build_ct (v:List DThing) (vs:SV) (texts:List ByteArray) (textss:SV) (values:List Int) (valuess:SV) (blinds:List Int) (blindss:SV) :
    Ct Try.prog 23 #[ag (DVault.mk ⟨v,vs⟩),textss.v,valuess.v,blindss.v] [fs true v vs,fs true texts textss,fs true values valuess,fs true blinds blindss] [] (fun g=>.tuple #[ag (DVault.mk ⟨Tm.buildT v texts values blinds,(g.ss 0)⟩),iv (Tm.buildR v texts values blinds),((g.ss 1)).v,iv (Tm.buildE v texts values blinds)]) (fun g=>[fs true (Tm.buildT v texts values blinds) (g.ss 0),fs true (Tm.buildL v texts values blinds) (g.ss 1)]) (fun g=>[]) (fun g=>[]):=by
  refine V.fn mo Try.func23 151 7 (by kernel_rfl) fun w H ε k0=>?_;obtain ⟨⟨kl1, -⟩,⟨kl2, -⟩,⟨kl3, -⟩,⟨kl4, -⟩, -⟩:Lq v vs.v∧Lq texts textss.v∧Lq values valuess.v∧Lq blinds blindss.v∧True:=kq k0
  clear k0;refine V.g [.nb 0 0 (fun b=>pp b 0) 51 (fun _=>ca (DVault.mk ⟨v,vs⟩)),.nb 1 1 (fun b=>pp b 0) 51 (fun _=>ca (DVault.mk ⟨[],{}⟩)),.k (iv 0),.k (.slice none 0 0),.k (iv 0)] fun _ _ G1=>?_;intro S_ s_
  refine V.g [.k (textss.v),.ln (kf false (.f 1) texts (fun _=>textss)),.k (iv (texts.length:Int))] fun _ _ G2=>?_;intro S_ s_
  refine nm ((!(decide (Tm.Sound v))) || (decide ((texts.length:Int)=0)):Bool) fun p1 hp1=>?_;refine nm (p1 || (!(decide ((values.length:Int)=(texts.length:Int)))):Bool) fun p2 hp2=>?_;refine nm (p2 || (!(decide ((blinds.length:Int)=(texts.length:Int)))):Bool) fun p3 hp3=>?_;refine V.g [.ld 0 0 true (fun _=>Dat.cells (DVault.mk ⟨v,vs⟩)),.cp g0 1 59 [(kf false (.f 0) v (fun _=>vs)).a] (fun _ G=>sound_ct v vs),.k (bv (!(decide (Tm.Sound v)))),.k (bv (!(decide (Tm.Sound v)))),.k (iv (texts.length:Int)),.k (bv (decide ((texts.length:Int)=0))),.orn g0 false (!(decide (Tm.Sound v))) (decide ((texts.length:Int)=0)) p1 hp1,.k (bv p1),.k (valuess.v),.ln (kf false (.f 2) values (fun _=>valuess)),.k (iv (texts.length:Int)),.k (bv (!(decide ((values.length:Int)=(texts.length:Int))))),.orn g0 false p1 (!(decide ((values.length:Int)=(texts.length:Int)))) p2 hp2,.k (bv p2),.k (blindss.v),.ln (kf false (.f 3) blinds (fun _=>blindss)),.k (iv (texts.length:Int)),.k (bv (!(decide ((blinds.length:Int)=(texts.length:Int))))),.orn g0 false p2 (!(decide ((blinds.length:Int)=(texts.length:Int)))) p3 hp3] fun _ _ G3=>?_;intro S_ s_
  refine V.cn (b:=p3) (iN hp3 (iOT (iN hp2 (iOT (iN hp1 (iOT (iNT iDF) iDT)) (iNT iDF))) (iNT iDF))) (iN hp3 (iOF (iN hp2 (iOF (iN hp1 (iOF (iNF iDT) iDF)) (iNF iDT))) (iNF iDT))) (fun q1=>?_) (fun q2=>?_)
  · have hB:=Tm.build_arg (v:=v) (texts:=texts) (values:=values) (blinds:=blinds) (by rintro ⟨a1,a2,a3,a4,_⟩;rcases q1 with ((h | h) | h) | h <;> first | exact h a1 | omega);refine V.g [.k (ag (DVault.mk ⟨[],{}⟩)),.st 1 (fun _=>.blk ((G1 1).b) (ca (DVault.mk ⟨[],{}⟩)) 51),.k (iv (-1)),.k (.slice none 0 0),.k (iv 1)] fun _ _ G4=>?_;intro S_ s_
    refine V.nilF (α:=DThing) ?_;refine V.nilF (α:=Int) ?_;have e0:([]:List DThing)=Tm.buildT v texts values blinds:=by rw [hB.2.1]
    rw [←e0];have e2:([]:List Int)=Tm.buildL v texts values blinds:=by rw [hB.2.2.2]
    rw [←e2];have e1:(-1:Int)=Tm.buildR v texts values blinds:=by rw [hB.2.2.1]
    have e3:(1:Int)=Tm.buildE v texts values blinds:=by rw [hB.1]
    exact V.rt [1,0,0,0] [{},{}] [fun _=>{},fun _=>{}] [] [4,5] [] (.tuple #[ag (DVault.mk ⟨([]:List DThing),{}⟩),iv (-1),SV.v ({}),iv 1]) (cong2 (fun (x1 x3:Int)=>(.tuple #[.agg #[SV.v ({})],iv x1,SV.v ({}),iv x3]:Value)) e1 e3)
  have hS:Tm.Sound v:=by rcases q2 with ⟨⟨⟨h,_⟩,_⟩,_⟩;first | exact h | exact Decidable.not_not.1 h
  have hS1:=hS.1;have hn:texts.length≠0∧values.length=texts.length∧blinds.length=texts.length:=by omega
  refine V.g [.k (textss.v),.ln (kf false (.f 1) texts (fun _=>textss)),.k (iv 0)] fun _ _ G5=>?_;intro S_ s_
  refine V.loop (γ:=Int) (fun k0=>⟨[(1,textss.v),(2,valuess.v),(3,blindss.v),(4,pp ((G1 0).b) 0),(8,pp ((G1 1).b) 0),(10,.slice none 0 0),(12,iv (texts.length:Int)),(42,iv (texts.length:Int)),(43,iv k0)],[fs false texts textss,fs false values valuess,fs false blinds blindss,fs false v vs],[.blk ((G1 0).b) (ca (DVault.mk ⟨v,vs⟩)) 51,.blk ((G1 1).b) (ca (DVault.mk ⟨[],{}⟩)) 51,.no,.no,.no,.no,.no]⟩) (fun k0=>(0≤k0)∧(k0≤(texts.length:Int))∧(∀ i,i < k0.toNat→Tm.isLeaf (Tm.leafAt texts values blinds i))) (fun k0=>((texts.length:Int)-k0).toNat) 0 (by kernel_rfl) [1,2,3,0] (by kernel_rfl) ?_ ?_
  · refine ⟨?_,?_,?_⟩
    · show 0≤(0:Int)
      first | omega | rfl | (simp;done) | (subst_vars;simp;done)
    · show (0:Int)≤(texts.length:Int)
      first | omega | rfl | (simp;done) | (subst_vars;simp;done)
    show ∀ i,i < (0:Int).toNat→Tm.isLeaf (Tm.leafAt texts values blinds i);intro i hi;simp at hi
  rintro k0 hF1 kw6 Z1 hZ1;have hF1:(0≤k0)∧(k0≤(texts.length:Int))∧(∀ i,i < k0.toNat→Tm.isLeaf (Tm.leafAt texts values blinds i)):=hF1;obtain ⟨hf1,hf2,hf3⟩:=hF1;clear kw6;refine V.g [.k (bv (decide (k0 < (texts.length:Int))))] fun _ _ G6=>?_;intro S_ s_;refine V.cn (b:=decide (k0 < (texts.length:Int))) iDT iDF (fun q3=>?_) (fun q4=>?_)
  · refine V.g [.k (iv k0),.k (iv k0)] fun _ _ G7=>?_;intro S_ s_
    refine nm (texts.getD k0.toNat default:ByteArray) fun x1 hx1=>?_;refine nm (values.getD k0.toNat default:Int) fun v1 hv1=>?_;refine nm (blinds.getD k0.toNat default:Int) fun v2 hv2=>?_;refine V.r [.k (textss.v),.k (iv k0),.ix g0 (kf false (.f 0) texts (fun _=>textss)) k0 (fun _=>⟨by omega,by omega⟩),.le g0 (kf false (.f 0) texts (fun _=>textss)) k0 none false x1 hx1 (fun _=>⟨by omega,by omega⟩) false (fun _=>[tv x1]),.k (valuess.v),.k (iv k0),.ix g0 (kf false (.f 1) values (fun _=>valuess)) k0 (fun _=>⟨by omega,by omega⟩),.le g0 (kf false (.f 1) values (fun _=>valuess)) k0 none false v1 hv1 (fun _=>⟨by omega,by omega⟩) false (fun _=>[iv v1]),.k (blindss.v),.k (iv k0),.ix g0 (kf false (.f 2) blinds (fun _=>blindss)) k0 (fun _=>⟨by omega,by omega⟩),.le g0 (kf false (.f 2) blinds (fun _=>blindss)) k0 none false v2 hv2 (fun _=>⟨by omega,by omega⟩) false (fun _=>[iv v2]),.cp g0 12 60 [] (fun _ G=>tleaf_ct x1 v1 v2),.nr 13 true 88 ([DThing.mk x1 v1 v2 (-1) (-1)]:List DThing) [] (fun _ _ _ _ _=>trivial) (fun _=>#[tv x1,iv v1,iv v2,iv (-1),iv (-1)]),.v fun G=>ag (DVault.mk ⟨([DThing.mk x1 v1 v2 (-1) (-1)]:List DThing),⟨atB (G 13).b,1,1⟩⟩),.cp g0 15 59 [(kf true (.g 13 0) ([DThing.mk x1 v1 v2 (-1) (-1)]:List DThing) (fun G=>⟨atB (G 13).b,1,1⟩)).a] (fun _ G=>sound_ct ([DThing.mk x1 v1 v2 (-1) (-1)]:List DThing) ⟨atB (G 13).b,1,1⟩),.k (bv (!(decide (Tm.Sound ([DThing.mk x1 v1 v2 (-1) (-1)]:List DThing)))))] fun _ _ G8 kw9=>?_;intro S_ s_
    obtain ⟨⟨kl5, -⟩, -⟩:Lq ([DThing.mk x1 v1 v2 (-1) (-1)]:List DThing) (SV.v ⟨atB (G8 13).b,1,1⟩)∧True:=kq kw9;clear kw9;refine V.cn (b:=!(decide (Tm.Sound ([DThing.mk x1 v1 v2 (-1) (-1)]:List DThing)))) (iNT iDF) (iNF iDT) (fun q5=>?_) (fun q6=>?_)
    · have hB:=Tm.build_arg (Tm.leaf_no (v:=v) (texts:=texts) (values:=values) (blinds:=blinds) (k:=k0) (by omega) (by omega) (by assumption) (by assumption) (by assumption) q5);refine V.g [.k (ag (DVault.mk ⟨[],{}⟩)),.st 1 (fun _=>.blk ((G1 1).b) (ca (DVault.mk ⟨[],{}⟩)) 51),.k (iv (-1)),.k (.slice none 0 0),.k (iv 1)] fun _ _ G9=>?_;intro S_ s_
      refine V.nilF (α:=DThing) ?_;refine V.nilF (α:=Int) ?_;have e0:([]:List DThing)=Tm.buildT v texts values blinds:=by rw [hB.2.1]
      rw [←e0];have e2:([]:List Int)=Tm.buildL v texts values blinds:=by rw [hB.2.2.2]
      rw [←e2];have e1:(-1:Int)=Tm.buildR v texts values blinds:=by rw [hB.2.2.1]
      have e3:(1:Int)=Tm.buildE v texts values blinds:=by rw [hB.1]
      exact V.rt [1,0,0,0] [{},{}] [fun _=>{},fun _=>{}] [] [5,6] [] (.tuple #[ag (DVault.mk ⟨([]:List DThing),{}⟩),iv (-1),SV.v ({}),iv 1]) (cong2 (fun (x1 x3:Int)=>(.tuple #[.agg #[SV.v ({})],iv x1,SV.v ({}),iv x3]:Value)) e1 e3)
    refine V.g [.a (k0+1) (by omega) (by omega),.k (iv (k0+1))] fun _ _ G10=>?_;intro S_ s_
    refine V.rnd hZ1 (k0+1) [0,1,2,3] (by kernel_rfl) ?_ ?_
    · refine ⟨?_,?_,?_⟩
      · show 0≤(k0+1)
        first | omega | rfl | (simp;done) | (subst_vars;simp;done)
      · show (k0+1)≤(texts.length:Int)
        first | omega | rfl | (simp;done) | (subst_vars;simp;done)
      show ∀ i,i < (k0+1).toNat→Tm.isLeaf (Tm.leafAt texts values blinds i);exact Tm.leaf_step hf3 (by omega) rfl (by assumption) (by assumption) (by assumption) q6
    show ((texts.length:Int)-(k0+1)).toNat < ((texts.length:Int)-k0).toNat;omega
  have hOK:Tm.argsOK v texts values blinds:=⟨hS,hn.1,hn.2.1,hn.2.2,fun i hi=>hf3 i (by omega)⟩;have hTB:=Tm.tot_bound hOK;refine nm (2 * (texts.length:Int):Int) fun n1 hn1=>?_;refine nm ((v.length:Int)+n1:Int) fun n2 hn2=>?_;refine nm ((decide (64 < (texts.length:Int))) || (decide (2000 < n2-1)):Bool) fun p4 hp4=>?_;refine V.g [.k (iv (texts.length:Int)),.k (bv (decide (64 < (texts.length:Int)))),.k (bv (decide (64 < (texts.length:Int)))),.k (pp ((G1 0).b) 0),.ld 0 0 false (fun _=>[vs.v]),.ln (kf false (.f 3) v (fun _=>vs)),.k (iv (texts.length:Int)),.arg (gF (b:=decide (64 < (texts.length:Int))) iDF) (2 * (texts.length:Int)) n1 hn1 (fun hg=>by omega),.arg (gF (b:=decide (64 < (texts.length:Int))) iDF) ((v.length:Int)+n1) n2 hn2 (fun hg=>by omega),.arg (gF (b:=decide (64 < (texts.length:Int))) iDF) (n2-1) (n2-1) rfl (fun hg=>by omega),.k (bv (decide (2000 < n2-1))),.orn g0 false (decide (64 < (texts.length:Int))) (decide (2000 < n2-1)) p4 hp4] fun _ _ G11=>?_;intro S_ s_
  refine V.cn (b:=p4) (iN hp4 (iOT iDT iDT)) (iN hp4 (iOF iDF iDF)) (fun q7=>?_) (fun q8=>?_)
  · have hB:=Tm.build_full hOK (by omega);refine V.g [.k (ag (DVault.mk ⟨[],{}⟩)),.st 1 (fun _=>.blk ((G1 1).b) (ca (DVault.mk ⟨[],{}⟩)) 51),.k (iv (-1)),.k (.slice none 0 0),.k (iv 6)] fun _ _ G12=>?_;intro S_ s_
    refine V.nilF (α:=DThing) ?_;refine V.nilF (α:=Int) ?_;have e0:([]:List DThing)=Tm.buildT v texts values blinds:=by rw [hB.2.1]
    rw [←e0];have e2:([]:List Int)=Tm.buildL v texts values blinds:=by rw [hB.2.2.2]
    rw [←e2];have e1:(-1:Int)=Tm.buildR v texts values blinds:=by rw [hB.2.2.1]
    have e3:(6:Int)=Tm.buildE v texts values blinds:=by rw [hB.1]
    exact V.rt [1,0,0,0] [{},{}] [fun _=>{},fun _=>{}] [] [4,5] [] (.tuple #[ag (DVault.mk ⟨([]:List DThing),{}⟩),iv (-1),SV.v ({}),iv 6]) (cong2 (fun (x1 x3:Int)=>(.tuple #[.agg #[SV.v ({})],iv x1,SV.v ({}),iv x3]:Value)) e1 e3)
  have hB:=Tm.build_ok hOK (by omega);refine V.g [.k (pp ((G1 0).b) 0),.ld 0 0 false (fun _=>[vs.v]),.ct g0 2 61 false [] [2] [(kf false (.f 3) v (fun _=>vs)).a] (fun _ G=>clone_ct v vs (by omega)),.v fun G=>ag (DVault.mk ⟨v,(G 2).ss 0⟩),.v fun G=>ag (Dbuilder.mk (DVault.mk ⟨v,(G 2).ss 0⟩)),.nb 5 3 (fun b=>pp b 0) 94 (fun _=>ca (Dbuilder.mk (DVault.mk ⟨[],{}⟩))),.st 3 (fun G=>.blk ((G 5).b) (ca (Dbuilder.mk (DVault.mk ⟨v,(G 2).ss 0⟩))) 94)] fun _ _ G13=>?_;intro S_ s_
  refine V.g [.k (textss.v),.ln (kf false (.f 0) texts (fun _=>textss)),.k (iv 0)] fun _ _ G14=>?_;intro S_ s_
  refine V.on (α:=Int) 4 3 (by kernel_rfl) ?_;refine V.loop (γ:=List Int × SV × Int × List DThing × SV) (fun ⟨leaves,leavess,k1,b,bs⟩=>⟨[(1,textss.v),(2,valuess.v),(3,blindss.v),(8,pp ((G1 1).b) 0),(10,leavess.v),(14,pp ((G13 5).b) 0),(84,iv (texts.length:Int)),(85,iv k1)],[fs false texts textss,fs false values valuess,fs false blinds blindss,fs false v vs],[.blk ((G1 0).b) (ca (DVault.mk ⟨v,vs⟩)) 51,.blk ((G1 1).b) (ca (DVault.mk ⟨[],{}⟩)) 51,os true 88 b bs,.blk ((G13 5).b) (ca (Dbuilder.mk (DVault.mk ⟨b,bs⟩))) 94,os true 3 leaves leavess,.no,.no]⟩) (fun ⟨leaves,leavess,k1,b,bs⟩=>(0≤k1)∧(k1≤(texts.length:Int))∧(leaves=Tm.idsN v.length k1.toNat)∧(b=v ++Tm.leavesN texts values blinds k1.toNat)) (fun ⟨leaves,leavess,k1,b,bs⟩=>((texts.length:Int)-k1).toNat) (([]:List Int),{},0,v,(G13 2).ss 0) (by kernel_rfl) [0,1,2,3] (by kernel_rfl) ?_ ?_
  · refine ⟨?_,?_,?_,?_⟩
    · show 0≤(0:Int)
      first | omega | rfl | (simp;done) | (subst_vars;simp;done)
    · show (0:Int)≤(texts.length:Int)
      first | omega | rfl | (simp;done) | (subst_vars;simp;done)
    · show ([]:List Int)=Tm.idsN v.length (0:Int).toNat;rfl
    show v=v ++Tm.leavesN texts values blinds (0:Int).toNat;simp [Tm.leavesN]
  rintro ⟨leaves,leavess,k1,b,bs⟩ hF2 kw16 Z2 hZ2;have hF2:(0≤k1)∧(k1≤(texts.length:Int))∧(leaves=Tm.idsN v.length k1.toNat)∧(b=v ++Tm.leavesN texts values blinds k1.toNat):=hF2;obtain ⟨hf4,hf5,hf6,hf7⟩:=hF2;obtain ⟨-, -, -, -,⟨kl6, -⟩,⟨kl7, -⟩, -⟩:Lq texts textss.v∧Lq values valuess.v∧Lq blinds blindss.v∧Lq v vs.v∧Lq b bs.v∧Lq leaves leavess.v∧True:=kq kw16;clear kw16;have hlv:leaves.length=k1.toNat:=by rw [hf6];simp
  have hbl:b.length=v.length+k1.toNat:=by rw [hf7];simp
  refine V.g [.k (bv (decide (k1 < (texts.length:Int))))] fun _ _ G15=>?_;intro S_ s_
  refine V.cn (b:=decide (k1 < (texts.length:Int))) iDT iDF (fun q9=>?_) (fun q10=>?_)
  · refine V.g [.k (iv k1),.k (iv k1)] fun _ _ G16=>?_;intro S_ s_
    refine nm (texts.getD k1.toNat default:ByteArray) fun x2 hx2=>?_;refine nm (values.getD k1.toNat default:Int) fun v3 hv3=>?_;refine nm (blinds.getD k1.toNat default:Int) fun v4 hv4=>?_;refine nm (leaves ++[(b.length:Int)]:List Int) fun l1 hl1=>?_;have hl1n:=congrArg List.length hl1;try simp only [List.length_append,List.length_cons,List.length_nil,List.length_replicate,List.length_set,List.length_take,List.length_drop,List.length_map,List.length_reverse,List.length_range] at hl1n
    refine V.r [.k (leavess.v),.k (textss.v),.k (iv k1),.ix g0 (kf false (.f 0) texts (fun _=>textss)) k1 (fun _=>⟨by omega,by omega⟩),.le g0 (kf false (.f 0) texts (fun _=>textss)) k1 none false x2 hx2 (fun _=>⟨by omega,by omega⟩) false (fun _=>[tv x2]),.k (valuess.v),.k (iv k1),.ix g0 (kf false (.f 1) values (fun _=>valuess)) k1 (fun _=>⟨by omega,by omega⟩),.le g0 (kf false (.f 1) values (fun _=>valuess)) k1 none false v3 hv3 (fun _=>⟨by omega,by omega⟩) false (fun _=>[iv v3]),.k (blindss.v),.k (iv k1),.ix g0 (kf false (.f 2) blinds (fun _=>blindss)) k1 (fun _=>⟨by omega,by omega⟩),.le g0 (kf false (.f 2) blinds (fun _=>blindss)) k1 none false v4 hv4 (fun _=>⟨by omega,by omega⟩) false (fun _=>[iv v4]),.cp g0 13 60 [] (fun _ G=>tleaf_ct x2 v3 v4),.ct g0 14 62 false [3,2] [] [] (fun _ G=>tadd_ct ((G13 5).b) b bs x2 v3 v4 (-1:Int) (-1:Int) (by omega)),.nr 15 true 3 [(b.length:Int)] [] (fun _ _ _ _ _=>trivial) (fun _=>#[iv (b.length:Int)]),.ap 16 4 3 8 false true leaves (fun _=>leavess) (kf true (.g 15 0) [(b.length:Int)] (fun G=>⟨atB (G 15).b,1,1⟩)) true l1 hl1 (by (try simp only [List.length_append,List.length_cons,List.length_nil,List.length_replicate,List.length_set,List.length_take,List.length_drop,List.length_map,List.length_reverse,List.length_range]);omega) (fun h=>by cases h) (.inr fun _ _=>trivial),.v fun G=>((G 16).s).v] fun _ _ G17 kw19=>?_;intro S_ s_
    obtain ⟨⟨kl8, -⟩, -⟩:Lq [(b.length:Int)] (SV.v ⟨atB (G17 15).b,1,1⟩)∧Lq (b ++[DThing.mk x2 v3 v4 (-1:Int) (-1:Int)]) (((G17 14).ss 0).v)∧Lq l1 (((G17 16).s).v)∧True:=kq kw19;clear kw19;refine V.g [.a (k1+1) (by omega) (by omega),.k (iv (k1+1))] fun _ _ G18=>?_;intro S_ s_;refine V.rnd hZ2 (l1,(G17 16).s,k1+1,b ++[DThing.mk x2 v3 v4 (-1:Int) (-1:Int)],(G17 14).ss 0) [0,1,2,3] (by kernel_rfl) ?_ ?_
    · refine ⟨?_,?_,?_,?_⟩
      · show 0≤(k1+1)
        first | omega | rfl | (simp;done) | (subst_vars;simp;done)
      · show (k1+1)≤(texts.length:Int)
        first | omega | rfl | (simp;done) | (subst_vars;simp;done)
      · show l1=Tm.idsN v.length (k1+1).toNat;exact Tm.ids_step hf6 (by omega) rfl hl1 (by omega)
      show (b ++[DThing.mk x2 v3 v4 (-1:Int) (-1:Int)])=v ++Tm.leavesN texts values blinds (k1+1).toNat;exact Tm.leaves_step hf7 (by omega) rfl (by assumption) (by assumption) (by assumption) rfl
    show ((texts.length:Int)-(k1+1)).toNat < ((texts.length:Int)-k1).toNat;omega
  have hk1:k1.toNat=texts.length:=by omega
  rw [hk1] at hf6 hf7;have hbl2:b.length=v.length+texts.length:=by rw [hf7];simp
  have hll2:leaves.length=texts.length:=by rw [hf6];simp
  refine V.g [.k (leavess.v),.ct g0 1 63 false [] [5] [(ko true 3 4 leaves (fun _=>leavess)).a] (fun _ G=>clonei2_ct leaves leavess (by omega)),.v fun G=>((G 1).ss 0).v] fun _ _ G19=>?_;intro S_ s_
  refine V.frz 5 true 3 leaves ((G19 1).ss 0) (by kernel_rfl) ?_;refine V.loop (γ:=List Int × SV × List DThing × SV) (fun ⟨level,levels,b_1,b_1s⟩=>⟨[(8,pp ((G1 1).b) 0),(10,leavess.v),(14,pp ((G13 5).b) 0),(16,levels.v)],[fs true level levels,fs false v vs],[.blk ((G1 0).b) (ca (DVault.mk ⟨v,vs⟩)) 51,.blk ((G1 1).b) (ca (DVault.mk ⟨[],{}⟩)) 51,os true 88 b_1 b_1s,.blk ((G13 5).b) (ca (Dbuilder.mk (DVault.mk ⟨b_1,b_1s⟩))) 94,os true 3 leaves leavess,.no,.no]⟩) (fun ⟨level,levels,b_1,b_1s⟩=>(Tm.Lev b_1 level (Tm.totV values texts.length) (Tm.totV blinds texts.length))∧(Tm.up texts.length (v ++Tm.leavesN texts values blinds texts.length) (Tm.idsN v.length texts.length)=Tm.up level.length b_1 level)∧(b_1.length+level.length=v.length+2 * texts.length)∧(1≤level.length)) (fun ⟨level,levels,b_1,b_1s⟩=>level.length) (leaves,(G19 1).ss 0,b,bs) (by kernel_rfl) [4,3] (by kernel_rfl) ?_ ?_
  · refine ⟨?_,?_,?_,?_⟩
    · show Tm.Lev b leaves (Tm.totV values texts.length) (Tm.totV blinds texts.length);rw [hf6,hf7];exact Tm.lev_start hOK
    · show Tm.up texts.length (v ++Tm.leavesN texts values blinds texts.length) (Tm.idsN v.length texts.length)=Tm.up leaves.length b leaves;rw [hll2,hf6,hf7]
    · show b.length+leaves.length=v.length+2 * texts.length
      first | omega | rfl | (simp;done) | (subst_vars;simp;done)
    show 1≤leaves.length
    first | omega | rfl | (simp;done) | (subst_vars;simp;done)
  rintro ⟨level,levels,b_1,b_1s⟩ hF3 kw22 Z3 hZ3;have hF3:(Tm.Lev b_1 level (Tm.totV values texts.length) (Tm.totV blinds texts.length))∧(Tm.up texts.length (v ++Tm.leavesN texts values blinds texts.length) (Tm.idsN v.length texts.length)=Tm.up level.length b_1 level)∧(b_1.length+level.length=v.length+2 * texts.length)∧(1≤level.length):=hF3;obtain ⟨hf8,hf9,hf10,hf11⟩:=hF3;obtain ⟨⟨kl9, -⟩, -,⟨kl10, -⟩, -, -⟩:Lq level levels.v∧Lq v vs.v∧Lq b_1 b_1s.v∧Lq leaves leavess.v∧True:=kq kw22;clear kw22;refine V.g [.k (levels.v),.ln (kf true (.f 0) level (fun _=>levels)),.k (bv (decide (1 < (level.length:Int))))] fun _ _ G20=>?_;intro S_ s_;refine V.cn (b:=decide (1 < (level.length:Int))) iDT iDF (fun q11=>?_) (fun q12=>?_)
  · refine V.g [.k (.slice none 0 0)] fun _ _ G21=>?_;intro S_ s_
    refine V.g [.k (iv 0)] fun _ _ G22=>?_;intro S_ s_
    refine V.on (α:=Int) 6 3 (by kernel_rfl) ?_;refine V.loop (γ:=List Int × SV × Int × List DThing × SV) (fun ⟨next,nexts,i,b_2,b_2s⟩=>⟨[(8,pp ((G1 1).b) 0),(10,leavess.v),(14,pp ((G13 5).b) 0),(16,levels.v),(17,nexts.v),(18,iv i)],[fs true level levels,fs false v vs],[.blk ((G1 0).b) (ca (DVault.mk ⟨v,vs⟩)) 51,.blk ((G1 1).b) (ca (DVault.mk ⟨[],{}⟩)) 51,os true 88 b_2 b_2s,.blk ((G13 5).b) (ca (Dbuilder.mk (DVault.mk ⟨b_2,b_2s⟩))) 94,os true 3 leaves leavess,.no,os true 3 next nexts]⟩) (fun ⟨next,nexts,i,b_2,b_2s⟩=>(Tm.Lev b_2 (next ++level.drop i.toNat) (Tm.totV values texts.length) (Tm.totV blinds texts.length))∧(Tm.pairUp b_1 level=((Tm.pairUp b_2 (level.drop i.toNat)).1,next ++(Tm.pairUp b_2 (level.drop i.toNat)).2))∧(0≤i)∧(i≤level.length)∧(i=2 * next.length)∧((b_2.length:Int)=b_1.length+next.length)) (fun ⟨next,nexts,i,b_2,b_2s⟩=>((level.length:Int)-i).toNat) (([]:List Int),{},0,b_1,b_1s) (by kernel_rfl) [0,1] (by kernel_rfl) ?_ ?_
    · refine ⟨?_,?_,?_,?_,?_,?_⟩
      · show Tm.Lev b_1 (([]:List Int) ++level.drop (0:Int).toNat) (Tm.totV values texts.length) (Tm.totV blinds texts.length)
        simpa using hf8
      · show Tm.pairUp b_1 level=((Tm.pairUp b_1 (level.drop (0:Int).toNat)).1,([]:List Int) ++(Tm.pairUp b_1 (level.drop (0:Int).toNat)).2)
        simp
      · show 0≤(0:Int)
        first | omega | rfl | (simp;done) | (subst_vars;simp;done)
      · show (0:Int)≤level.length
        first | omega | rfl | (simp;done) | (subst_vars;simp;done)
      · show (0:Int)=2 * ([]:List Int).length
        simp
      show (b_1.length:Int)=b_1.length+([]:List Int).length
      simp
    rintro ⟨next,nexts,i,b_2,b_2s⟩ hF4 kw26 Z4 hZ4;have hF4:(Tm.Lev b_2 (next ++level.drop i.toNat) (Tm.totV values texts.length) (Tm.totV blinds texts.length))∧(Tm.pairUp b_1 level=((Tm.pairUp b_2 (level.drop i.toNat)).1,next ++(Tm.pairUp b_2 (level.drop i.toNat)).2))∧(0≤i)∧(i≤level.length)∧(i=2 * next.length)∧((b_2.length:Int)=b_1.length+next.length):=hF4;obtain ⟨hf12,hf13,hf14,hf15,hf16,hf17⟩:=hF4;obtain ⟨-, -,⟨kl11, -⟩, -,⟨kl12, -⟩, -⟩:Lq level levels.v∧Lq v vs.v∧Lq b_2 b_2s.v∧Lq leaves leavess.v∧Lq next nexts.v∧True:=kq kw26;clear kw26;refine V.g [.k (iv i),.a (i+1) (by omega) (by omega),.k (levels.v),.ln (kf true (.f 0) level (fun _=>levels)),.k (bv (decide (i+1 < (level.length:Int))))] fun _ _ G23=>?_;intro S_ s_;refine V.cn (b:=decide (i+1 < (level.length:Int))) iDT iDF (fun q13=>?_) (fun q14=>?_)
    · refine nm (level.getD i.toNat default:Int) fun v5 hv5=>?_;refine nm (level.getD (i+1).toNat default:Int) fun v6 hv6=>?_;refine nm (next ++[(b_2.length:Int)]:List Int) fun l2 hl2=>?_;have hl2n:=congrArg List.length hl2;try simp only [List.length_append,List.length_cons,List.length_nil,List.length_replicate,List.length_set,List.length_take,List.length_drop,List.length_map,List.length_reverse,List.length_range] at hl2n
      have hd2:=Tm.drop2 (i:=i) (by omega) rfl (by omega) hv5 hv6;have h2:=Tm.Lev.two hf12 hd2 (by omega) (by omega);refine V.r [.k (nexts.v),.k (levels.v),.k (iv i),.ix g0 (kf true (.f 0) level (fun _=>levels)) i (fun _=>⟨by omega,by omega⟩),.le g0 (kf true (.f 0) level (fun _=>levels)) i none false v5 hv5 (fun _=>⟨by omega,by omega⟩) false (fun _=>[iv v5]),.k (levels.v),.k (iv i),.a (i+1) (by omega) (by omega),.ix g0 (kf true (.f 0) level (fun _=>levels)) (i+1) (fun _=>⟨by omega,by omega⟩),.le g0 (kf true (.f 0) level (fun _=>levels)) (i+1) none false v6 hv6 (fun _=>⟨by omega,by omega⟩) false (fun _=>[iv v6]),.ct g0 10 64 false [3,2] [] [] (fun _ G=>bpair_ct ((G13 5).b) b_2 b_2s v5 v6 (by omega) h2.1 h2.2.1 h2.2.2.1 h2.2.2.2),.nr 11 true 3 [(b_2.length:Int)] [] (fun _ _ _ _ _=>trivial) (fun _=>#[iv (b_2.length:Int)]),.ap 12 6 3 8 false true next (fun _=>nexts) (kf true (.g 11 0) [(b_2.length:Int)] (fun G=>⟨atB (G 11).b,1,1⟩)) true l2 hl2 (by (try simp only [List.length_append,List.length_cons,List.length_nil,List.length_replicate,List.length_set,List.length_take,List.length_drop,List.length_map,List.length_reverse,List.length_range]);omega) (fun h=>by cases h) (.inr fun _ _=>trivial),.v fun G=>((G 12).s).v] fun _ _ G24 kw28=>?_;intro S_ s_
      obtain ⟨⟨kl13, -⟩, -⟩:Lq [(b_2.length:Int)] (SV.v ⟨atB (G24 11).b,1,1⟩)∧Lq (b_2 ++[Tm.pairX b_2 v5 v6]) (((G24 10).ss 0).v)∧Lq leaves leavess.v∧Lq l2 (((G24 12).s).v)∧True:=kq kw28;clear kw28;refine V.g [.k (iv i),.a (i+2) (by omega) (by omega),.k (iv (i+2))] fun _ _ G25=>?_;intro S_ s_;have hps:=Tm.pair_step (i:=i) (i':=i+2) (j:=i+1) hf12 hf13 (by omega) rfl (by omega) hv5 hv6 rfl rfl rfl hl2;refine V.rnd hZ4 (l2,(G24 12).s,i+2,b_2 ++[Tm.pairX b_2 v5 v6],(G24 10).ss 0) [0,1] (by kernel_rfl) ?_ ?_
      · refine ⟨?_,?_,?_,?_,?_,?_⟩
        · show Tm.Lev (b_2 ++[Tm.pairX b_2 v5 v6]) (l2 ++level.drop (i+2).toNat) (Tm.totV values texts.length) (Tm.totV blinds texts.length);exact hps.1
        · show Tm.pairUp b_1 level=((Tm.pairUp (b_2 ++[Tm.pairX b_2 v5 v6]) (level.drop (i+2).toNat)).1,l2 ++(Tm.pairUp (b_2 ++[Tm.pairX b_2 v5 v6]) (level.drop (i+2).toNat)).2);exact hps.2
        · show 0≤(i+2);omega
        · show (i+2)≤level.length;omega
        · show (i+2)=2 * l2.length;omega
        show ((b_2 ++[Tm.pairX b_2 v5 v6]).length:Int)=b_1.length+l2.length;rw [hl2];simp;omega
      show ((level.length:Int)-(i+2)).toNat < ((level.length:Int)-i).toNat;omega
    refine nm ((level.length:Int) % 2:Int) fun n3 hn3=>?_;refine V.g [.k (levels.v),.ln (kf true (.f 0) level (fun _=>levels)),.rem g0 (level.length:Int) 2 n3 hn3 (fun _=>by omega),.k (bv (decide (n3=1)))] fun _ _ G26=>?_;intro S_ s_
    refine V.cn (b:=decide (n3=1)) iDT iDF (fun q15=>?_) (fun q16=>?_)
    · refine nm ((level.length:Int)-1:Int) fun n4 hn4=>?_;refine nm (level.getD n4.toNat default:Int) fun v7 hv7=>?_;refine nm (next ++[v7]:List Int) fun l3 hl3=>?_;have hl3n:=congrArg List.length hl3;try simp only [List.length_append,List.length_cons,List.length_nil,List.length_replicate,List.length_set,List.length_take,List.length_drop,List.length_map,List.length_reverse,List.length_range] at hl3n
      refine V.r [.k (nexts.v),.k (levels.v),.k (levels.v),.ln (kf true (.f 0) level (fun _=>levels)),.ar ((level.length:Int)-1) n4 hn4 (by omega) (by omega),.ix g0 (kf true (.f 0) level (fun _=>levels)) n4 (fun _=>⟨by omega,by omega⟩),.le g0 (kf true (.f 0) level (fun _=>levels)) n4 none false v7 hv7 (fun _=>⟨by omega,by omega⟩) false (fun _=>[iv v7]),.nr 7 true 3 [v7] [] (fun _ _ _ _ _=>trivial) (fun _=>#[iv v7]),.ap 8 6 3 8 false true next (fun _=>nexts) (kf true (.g 7 0) [v7] (fun G=>⟨atB (G 7).b,1,1⟩)) true l3 hl3 (by (try simp only [List.length_append,List.length_cons,List.length_nil,List.length_replicate,List.length_set,List.length_take,List.length_drop,List.length_map,List.length_reverse,List.length_range]);omega) (fun h=>by cases h) (.inr fun _ _=>trivial),.v fun G=>((G 8).s).v] fun _ _ G27 kw31=>?_;intro S_ s_
      obtain ⟨⟨kl14, -⟩, -⟩:Lq [v7] (SV.v ⟨atB (G27 7).b,1,1⟩)∧Lq b_2 b_2s.v∧Lq leaves leavess.v∧Lq l3 (((G27 8).s).v)∧True:=kq kw31;clear kw31;have hpe:=Tm.pair_odd hf13 (by omega) (by omega) (by omega) hv7 hl3;have hle:=Tm.lev_odd hf12 (by omega) (by omega) (by omega) hv7 hl3;refine V.g [.k (((G27 8).s).v),.k (((G27 8).s).v)] fun _ _ G28=>?_;intro S_ s_;refine V.frz 6 true 3 l3 ((G27 8).s) (by kernel_rfl) ?_;refine V.rnd hZ3 (l3,(G27 8).s,b_2,b_2s) [3,1] (by kernel_rfl) ?_ ?_
      · refine ⟨?_,?_,?_,?_⟩
        · show Tm.Lev b_2 l3 (Tm.totV values texts.length) (Tm.totV blinds texts.length);exact hle
        · show Tm.up texts.length (v ++Tm.leavesN texts values blinds texts.length) (Tm.idsN v.length texts.length)=Tm.up l3.length b_2 l3;rw [hf9];exact Tm.up_step (by omega) hpe
        · show b_2.length+l3.length=v.length+2 * texts.length;omega
        show 1≤l3.length;omega
      show l3.length < level.length;omega
    have hpe:=Tm.pair_end hf13 (by omega);have hle:=Tm.lev_end hf12 (by omega);refine V.g [.k (nexts.v),.k (nexts.v)] fun _ _ G29=>?_;intro S_ s_
    refine V.frz 6 true 3 next nexts (by kernel_rfl) ?_;refine V.rnd hZ3 (next,nexts,b_2,b_2s) [2,1] (by kernel_rfl) ?_ ?_
    · refine ⟨?_,?_,?_,?_⟩
      · show Tm.Lev b_2 next (Tm.totV values texts.length) (Tm.totV blinds texts.length);exact hle
      · show Tm.up texts.length (v ++Tm.leavesN texts values blinds texts.length) (Tm.idsN v.length texts.length)=Tm.up next.length b_2 next;rw [hf9];exact Tm.up_step (by omega) hpe
      · show b_2.length+next.length=v.length+2 * texts.length;omega
      show 1≤next.length;omega
    show next.length < level.length;omega
  refine nm (level.getD (0:Int).toNat default:Int) fun v8 hv8=>?_;refine V.g [.k (pp ((G13 5).b) 0),.ld 3 0 true (fun _=>Dat.cells (DVault.mk ⟨b_1,b_1s⟩)),.k (levels.v),.ix g0 (kf true (.f 0) level (fun _=>levels)) 0 (fun _=>⟨by omega,by omega⟩),.le g0 (kf true (.f 0) level (fun _=>levels)) (0:Int) none false v8 hv8 (fun _=>⟨by omega,by omega⟩) false (fun _=>[iv v8]),.k (leavess.v),.st 1 (fun _=>.blk ((G1 1).b) (ca (DVault.mk ⟨b_1,b_1s⟩)) 51),.k (iv v8),.k (leavess.v),.k (iv 0)] fun _ _ G30=>?_;intro S_ s_
  refine V.frz 2 true 88 b_1 b_1s (by kernel_rfl) ?_;refine V.frz 4 true 3 leaves leavess (by kernel_rfl) ?_;have e0:b_1=Tm.buildT v texts values blinds:=by
    rw [hB.2.1];unfold Tm.built;rw [hf9,Tm.up_one (by omega)]
  subst e0;have e2:leaves=Tm.buildL v texts values blinds:=by
    rw [hB.2.2.2];rw [hf6]
  subst e2;have e1:v8=Tm.buildR v texts values blinds:=by
    rw [hB.2.2.1];unfold Tm.built;rw [hf9,Tm.up_one (by omega)];assumption
  have e3:(0:Int)=Tm.buildE v texts values blinds:=by rw [hB.1]
  exact V.rt [1,0,0,0] [b_1s,leavess] [fun _=>{},fun _=>{}] [] [2,3] [] (.tuple #[ag (DVault.mk ⟨(Tm.buildT v texts values blinds),b_1s⟩),iv v8,leavess.v,iv 0]) (cong2 (fun (x1 x3:Int)=>(.tuple #[.agg #[b_1s.v],iv x1,leavess.v,iv x3]:Value)) e1 e3)

open Go
namespace Rv
open Tm
def ls {α:Type} (l:List (Fat α)):List (List α):=l.map (·.l)
def hid (x:DThing):Prop:=x.Value= -1∧x.Blind= -1
instance (x : DThing) : Decidable (hid x) := by unfold hid; infer_instance
instance (x : DThing) : Decidable (Bd x) := by unfold Bd; infer_instance
def te (s:List DThing) (i:Nat):DThing:=s.getD i default
def mid (p:List Int) (s:List DThing) (i:Nat):Prop:=(te s i).Text=ByteArray.empty∧((te s i).Left=pe p (i+1)∨(te s i).Right=pe p (i+1))∧(0 < i→hid (te s i))
instance (p : List Int) (s : List DThing) (i : Nat) : Decidable (mid p s i) := by unfold mid; infer_instance
def lst (s:List DThing):DThing:=te s (s.length - 1)
def endT (x:DThing):Prop:=Bd x∧x.Left= -1∧x.Right= -1∧x.Text.size≤8000
instance (x : DThing) : Decidable (endT x) := by unfold endT; infer_instance
def walk (p:List Int) (s:List DThing):Prop:=p.length≠0∧s.length=p.length∧(∀ i,i < p.length - 1→mid p s i)∧Bd (te s 0)∧endT (te s (p.length - 1))
instance (p : List Int) (s : List DThing) : Decidable (walk p s) := by unfold walk; infer_instance
def pl (P:List (List Int)) (i:Nat):List Int:=P.getD i []
def sl (S:List (List DThing)) (i:Nat):List DThing:=S.getD i []
def row (P:List (List Int)) (S:List (List DThing)) (i:Nat):Prop:=walk (pl P i) (sl S i)∧pe (pl P i) 0=pe (pl P 0) 0∧(te (sl S i) 0).Value=(te (sl S 0) 0).Value∧(te (sl S i) 0).Blind=(te (sl S 0) 0).Blind
instance (P : List (List Int)) (S : List (List DThing)) (i : Nat) : Decidable (row P S i) := by unfold row; infer_instance
def Form (P:List (List Int)) (S:List (List DThing)):Prop:=P.length≠0∧P.length≤64∧S.length=P.length∧(∀ i,i < P.length→row P S i)∧(P.map lastI).Nodup
instance (P : List (List Int)) (S : List (List DThing)) : Decidable (Form P S) := by unfold Form; infer_instance
@[simp] theorem ls_length {α:Type} (l:List (Fat α)):(ls l).length=l.length:=by simp [ls]
def CheckP (v:List DThing) (P:List (List Int)) (S:List (List DThing)):Prop:=Form P S∧∀ i,i < P.length→viewF v (pl P i)=sl S i
instance (v : List DThing) (P : List (List Int)) (S : List (List DThing)) : Decidable (CheckP v P S) := by unfold CheckP; infer_instance
def opn (S:List (List DThing)) (k:Nat):Int:=((S.take k).map fun s=>(lst s).Value).sum
def restT (S:List (List DThing)):Int:=(te (sl S 0) 0).Value - opn S S.length
def restB (P:List (List Int)) (S:List (List DThing)):Prop:=Form P S∧0≤restT S
instance (P : List (List Int)) (S : List (List DThing)) : Decidable (restB P S) := by unfold restB; infer_instance
abbrev TM:=List (Int × DThing)
def hx (x:DThing):DThing:={ Left:=x.Left,Right:=x.Right }
def okM (m:TM) (k:Int) (y:DThing):Prop:=(mlook k m).isSome=true→(mlook k m).getD default=y
instance (m : TM) (k : Int) (y : DThing) : Decidable (okM m k y) := by unfold okM; infer_instance
def putH (h:TM) (k:Int) (x:DThing):TM:=if okM h k (hx x) then mupd k (hx x) h else h
def putB (h o:TM) (k:Int) (x:DThing):Prop:=okM h k (hx x)∧(x.Value= -1∨okM o k x)
instance (h o : TM) (k : Int) (x : DThing) : Decidable (putB h o k x) := by unfold putB; infer_instance
def putO (h o:TM) (k:Int) (x:DThing):TM:=if putB h o k x∧x.Value≠ -1 then mupd k x o else o
def put1 (s:TM × TM) (e:Int × DThing):Option (TM × TM):=if putB s.1 s.2 e.1 e.2 then some (putH s.1 e.1 e.2,putO s.1 s.2 e.1 e.2) else none
def runs (l:List (Int × DThing)):Option (TM × TM):=l.foldl (fun s e=>s.bind fun s=>put1 s e) (some ([],[]))
def flat (P:List (List Int)) (S:List (List DThing)):List (Int × DThing):=(P.zip S).flatMap fun q=>q.1.zip q.2
def AgreeP (P:List (List Int)) (S:List (List DThing)) (P':List (List Int)) (S':List (List DThing)):Prop:=Form P S∧Form P' S'∧(runs (flat (P ++P') (S ++S'))).isSome=true
instance (P : List (List Int)) (S : List (List DThing)) (P' : List (List Int)) (S' : List (List DThing)) : Decidable (AgreeP P S P' S') := by unfold AgreeP; infer_instance
end Rv

open Go (Value)
namespace Tm
theorem sound_append {v:List DThing} {x:DThing} (h:Sound v) (hl:v.length < 2000) (hx:okT v x):Sound (v ++[x]):=by
  refine ⟨by simp;omega,fun i hi=>?_⟩
  simp at hi
  by_cases e:i=v.length
  · subst e
    simpa using hx
  · have h1:=h.2 i (by omega)
    have e1:(v ++[x]).take i=v.take i:=List.take_append_of_le_length (by omega)
    have e2:(v ++[x]).getD i default=v.getD i default:=by
      rw [List.getD_eq_getElem?_getD,List.getElem?_append_left (by omega),← List.getD_eq_getElem?_getD]
    rw [e1,e2];exact h1
theorem okT_leaf {v:List DThing} {x:DThing} (h:isLeaf x):okT v x:=.inl h
theorem okT_pair {v:List DThing} {a b:Int} (h:has v a∧has v b) (h2:¬ (1125899906842624 < (pairX v a b).Value∨1125899906842624 < (pairX v a b).Blind)):okT v (pairX v a b):=by
  right
  refine ⟨?_,rfl⟩
  show pairE v a b=0
  unfold pairE;rw [if_neg (by simpa using h),if_neg h2]
def fewP (v:List DThing) (most:Int):Prop:=(∀ i,i < v.length→(i:Int) < most→(v.getD i default).Text.size≤100)∧(v.length:Int)≤most
instance (v : List DThing) (most : Int) : Decidable (fewP v most) := by unfold fewP; infer_instance
def longT (n:Int):Prop:=100 < n∧(n≤8000∨8100 < n)
instance (n : Int) : Decidable (longT n) := by unfold longT; infer_instance
def fewS (texts:List ByteArray) (most:Int):Prop:=(∀ i,i < texts.length→(i:Int)≤most→¬ longT (texts.getD i default).size)∧(texts.length:Int)≤most
instance (texts : List ByteArray) (most : Int) : Decidable (fewS texts most) := by unfold fewS; infer_instance
theorem same_no_len {α:Type} [DecidableEq α] {a b:List α} {m n:Int} (hm:m=a.length) (hn:n=b.length) (h:¬ m=n):false=decide (a=b):=by
  symm;rw [decide_eq_false_iff_not];intro e;subst e;omega
theorem same_no {α:Type} [Inhabited α] [DecidableEq α] {a b:List α} {k:Int} {x y:α} (hx:x=a.getD k.toNat default) (hy:y=b.getD k.toNat default) (h:¬ x=y):false=decide (a=b):=by
  symm;rw [decide_eq_false_iff_not];intro e;subst e;exact h (hx.trans hy.symm)
theorem same_step {α:Type} [Inhabited α] {a b:List α} {k k':Int} {x y:α} (hp:∀ i,i < k.toNat→a.getD i default=b.getD i default) (h0:0≤k) (hk':k'=k+1) (hx:x=a.getD k.toNat default) (hy:y=b.getD k.toNat default) (h:x=y):∀ i,i < k'.toNat→a.getD i default=b.getD i default:=by
  intro i hi
  by_cases e:i=k.toNat
  · subst e;rw [←hx,← hy];exact h
  · exact hp i (by omega)
theorem same_yes {α:Type} [Inhabited α] [DecidableEq α] {a b:List α} {k:Int} (hp:∀ i,i < k.toNat→a.getD i default=b.getD i default) (hl:a.length=b.length) (hk:(a.length:Int)≤k):true=decide (a=b):=by
  symm;rw [decide_eq_true_iff]
  refine List.ext_getElem hl fun i h1 h2=>?_
  have:=hp i (by omega)
  simpa [h1,h2] using this
theorem rest_len (l:List DThing) (leaf:Int):∀ (n:Nat) (i:Int),1≤(pathN l leaf n i).length∧(pathN l leaf n i).length≤n+1
  | 0,i=>by simp [pathN]
  | n+1,i=>by
    have ih:=rest_len l leaf n (nxt l leaf i)
    rw [pathN]
    split
    · simp
    · simp;omega
theorem Lev.two_le {th:List DThing} {pre l rest:List Int} {x y S B:Int} (h:Lev th (pre ++l) S B) (hd:l=x :: y :: rest):(el th x).Value+(el th y).Value≤S∧(el th x).Blind+(el th y).Blind≤B:=by
  subst hd
  have hv:=h.v
  have hb:=h.b
  have nn:∀ (f:Int→Int) (m:List Int),(∀ a ∈ m,0≤f a)→0≤(m.map f).sum:=by
    intro f m
    induction m with
    | nil=>simp
    | cons a m ih =>
      intro h
      have:=ih fun a ha=>h a (by simp [ha])
      have:=h a (by simp)
      simp;omega
  have p1:=nn (fun a=>(el th a).Value) pre fun a ha=>(h.has a (by simp [ha])).2.1
  have p2:=nn (fun a=>(el th a).Value) rest fun a ha=>(h.has a (by simp [ha])).2.1
  have q1:=nn (fun a=>(el th a).Blind) pre fun a ha=>(h.has a (by simp [ha])).2.2
  have q2:=nn (fun a=>(el th a).Blind) rest fun a ha=>(h.has a (by simp [ha])).2.2
  unfold sumV at hv
  unfold sumB at hb
  simp only [List.map_append,List.map_cons,List.sum_append,List.sum_cons] at hv hb
  omega
def exT:List DThing:=[⟨⟨#[97]⟩,30,7, -1, -1⟩,⟨⟨#[98]⟩,20,8, -1, -1⟩,⟨⟨#[99]⟩,10,9, -1, -1⟩,⟨ByteArray.empty,50,15,0,1⟩,⟨ByteArray.empty,60,24,3,2⟩]
end Tm

namespace Tm
inductive Down (l:List DThing):Int→Int→Prop
  | refl {a:Int}:has l a→Down l a a
  | step {r c a:Int}:has l r→has l c→((el l r).Left=c∨(el l r).Right=c)→Down l c a→Down l r a
theorem Down.has2 {l:List DThing} {r a:Int} (h:Down l r a):has l a:=by induction h <;> assumption
theorem half {l:List DThing} (hS:Sound l) {r c:Int} (hr:has l r) (hc:has l c) (h:(el l r).Left=c∨(el l r).Right=c) :
    ¬ (el l r).Left= -1∧c < r∧(el l r).Value=(el l (el l r).Left).Value+(el l (el l r).Right).Value∧(el l r).Blind=(el l (el l r).Left).Blind+(el l (el l r).Right).Blind∧has l (el l r).Left∧has l (el l r).Right∧(el l r).Left < r∧(el l r).Right < r:=by
  unfold has at *
  rcases sound_cases hS (k:=r.toNat) (by omega) with h1 | h1
  · unfold isLeaf at h1;unfold el at h;omega
  · unfold el at *
    obtain ⟨a1,a2,a3,a4,_,a5,a6⟩:=h1
    refine ⟨by omega,by omega,a5,a6,?_,?_,by omega,by omega⟩ <;> omega
end Tm

namespace Tm
theorem pe_cons {i:Int} {q:List Int} {k:Nat}:pe (i :: q) (k+1)=pe q k:=by simp [pe]
theorem walks_cons {l:List DThing} {i:Int} {q:List Int} (h:has l i) (h0:q.length≠0) (hw:walksTo l q q.length) (hn:(el l i).Left=pe q 0∨(el l i).Right=pe q 0):walksTo l (i :: q) (i :: q).length:=by
  intro k hk
  cases k with
  | zero=>exact ⟨h,fun h=>absurd h (by omega)⟩
  | succ k =>
    have h1:=hw k (by simpa using hk)
    refine ⟨by rw [pe_cons];exact h1.1,fun _=>?_⟩
    rw [pe_cons,Nat.add_sub_cancel]
    cases k with
    | zero=>exact hn
    | succ k =>
      rw [pe_cons]
      exact h1.2 (by omega)
theorem last_cons {i:Int} {q:List Int} (h0:q.length≠0):lastI (i :: q)=lastI q:=by
  unfold lastI
  rw [show (i :: q).length - 1=(q.length - 1)+1 by simp;omega,pe_cons]
theorem nxt_half {l:List DThing} {leaf i:Int}:(el l i).Left=nxt l leaf i∨(el l i).Right=nxt l leaf i:=by
  unfold nxt
  split <;> omega
theorem rest_walks {l:List DThing} (hS:Sound l) {leaf:Int} (hl:has l leaf):∀ (n:Nat) (i:Int),i.toNat=n→has l i→near l leaf i=true →
    walksTo l (rest l leaf i) (rest l leaf i).length∧pe (rest l leaf i) 0=i∧lastI (rest l leaf i)=leaf∧(rest l leaf i).length≠0:=by
  intro n
  induction n using Nat.strongRecOn with
  | _ n ih =>
    intro i hin hi hn
    by_cases e:i=leaf
    · subst e
      rw [rest_self]
      refine ⟨fun k hk=>?_,rfl,rfl,by simp⟩
      have:k=0:=by simpa using hk
      subst this
      exact ⟨hi,fun h=>absurd h (by omega)⟩
    · unfold has at hi hl
      obtain ⟨a,b,c,d,_⟩:=nxt_near hS hl.1 hi.1 hi.2 hn e
      obtain ⟨h1,h2,h3,h4⟩:=ih (nxt l leaf i).toNat (by omega) _ rfl ⟨b,by omega⟩ a
      rw [rest_step hS hl.1 hi.1 hi.2 hn e]
      refine ⟨walks_cons hi h4 h1 (by rw [h2];exact nxt_half),rfl,by rw [last_cons h4];exact h3,by simp⟩
theorem pathF_cond {l:List DThing} {root leaf:Int} (h:(pathF l root leaf).length≠0):Sound l∧has l root∧has l leaf∧near l leaf root=true:=by
  refine Decidable.by_contra fun hc=>?_
  rw [pathF_no hc] at h;exact h rfl
theorem path_is {l:List DThing} {root leaf:Int} {p:List Int} (hp:p=pathF l root leaf) (h:p.length≠0):Walks l p∧pe p 0=root∧lastI p=leaf∧(root=leaf→p.length=1):=by
  subst hp
  obtain ⟨hS,h1,h2,h3⟩:=pathF_cond h
  obtain ⟨a,b,c,d⟩:=rest_walks hS h2 _ root rfl h1 h3
  rw [pathF_yes hS h1 h2 h3]
  refine ⟨⟨hS,d,a⟩,b,c,fun e=>?_⟩
  subst e;rw [rest_self];rfl
end Tm

open Go
namespace Rv
open Tm
def argS (v:List DThing) (r:Int) (o:List Int):Prop:=Sound v∧(0≤r∧r < v.length)∧o.length≠0∧o.length≤64
instance (v : List DThing) (r : Int) (o : List Int) : Decidable (argS v r o) := by unfold argS; infer_instance
end Rv

open Go
namespace Rv
open Tm
def rowF (s:List DThing):Prop:=s.length≤10∧∀ k,k < s.length→¬ longT (te s k).Text.size
instance (s : List DThing) : Decidable (rowF s) := by unfold rowF; infer_instance
def fewD (P:List (List Int)) (S:List (List DThing)):Prop:=(∀ i,i < P.length→i < 71→(pl P i).length≤10)∧(∀ i,i < S.length→i < 71→rowF (sl S i))∧(P.length≤8∨64 < P.length)∧P.length≤70∧S.length≤70
instance (P : List (List Int)) (S : List (List DThing)) : Decidable (fewD P S) := by unfold fewD; infer_instance
end Rv
end Kb
