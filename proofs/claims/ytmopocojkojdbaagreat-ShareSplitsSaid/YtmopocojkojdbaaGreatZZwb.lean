/- Texts for the claim, put together: the calculus of regions, its rules, and contracts of the functions that the law reaches. -/
import Derived.Test.YtmopocojkojdbaaGreatZZwa
import Derived.Laws.Cover3
import Derived.MapKept
import Derived.Lib.AppendZeros
import Derived.Laws.Strings
import Derived.Laws.Slices
import Derived.Test.YtmopocojkojdbaaGreatProg
set_option linter.unusedVariables false
set_option linter.unusedSectionVars false
set_option linter.unusedSimpArgs false
namespace Kb
open Go
section
variable {P : Program} {E : Env P} {S : Stop} {t : St}
theorem V.reg (hs:List (Hint P)) (hk:∀ N ε,(S,(cxOf E S t hs N ε).R.check E.nt,hs.length,lhsAll (cxOf E S t hs N ε) hs 0)=(.reg S.rid S.ops S.dr S.K,true,S.ops.size,rhsAll (cxOf E S t hs N ε) hs 0))
    (k:∀ N ε G,Knw ((cxOf E S t hs N ε).know G)→let S':=S.next;let t':=post (cxOf E S t hs N ε) G;V E S' t'):V E S t:=fun N ε a w hin=>by
  have h0:=hk N ε
  have e1:=congrArg (fun p:Stop × Bool × Nat × Prods hs=>p.1) h0
  have e2:=congrArg (fun p:Stop × Bool × Nat × Prods hs=>p.2.1) h0
  have e3:=congrArg (fun p:Stop × Bool × Nat × Prods hs=>p.2.2.1) h0
  have e4:=congrArg (fun p:Stop × Bool × Nat × Prods hs=>p.2.2.2) h0
  simp only at e1 e2 e3 e4
  have ok:(cxOf E S t hs N ε).Ok:=⟨e2,by show (hs.map (·.d)).length=_;rw [List.length_map];exact e3,hin.new,hin.facts,hin.own⟩
  have hone:∀ i,One (cxOf E S t hs N ε).R P E.w0 E.X i:=fun i=>by
    rcases Nat.lt_or_ge i S.ops.size with hi | hi
    · have hl:hs[i]?=some (hs[i]'(by rw [e3];exact hi)):=List.getElem?_eq_getElem _
      refine (hs[i]'(by rw [e3];exact hi)).sound (cxOf E S t hs N ε) i ok hi (by show (hs.map (·.d))[i]?=_;rw [List.getElem?_map,hl];rfl) fun G g w=>?_
      have:=all_get e4 i _ hl G g w
      rwa [Nat.zero_add] at this
    · intro o ho
      have:(cxOf E S t hs N ε).R.ops[i]?=none:=Array.getElem?_eq_none hi
      rw [this] at ho;cases ho
  rw [e1]
  show (Code.region S.rid S.ops S.dr).wp P (run P E.Q S.K) a w
  refine RC.region (R:=(cxOf E S t hs N ε).R) E.mo e2 hone hin.slots hin.st fun G a' w' d=>?_
  obtain ⟨h1,h2⟩:=post_in ok d
  exact norm_sound 200 (.inr .normal) S.K a' w' (k N ε G ⟨h2⟩ _ _ a' w' h1)
def cval (t:St):Operand→Option Value
  | .tmp s=>t.sl.lookup s
  | .const v=>some v
  | _=>none
theorem V.cond {b:Bool} {φ ψ:Prop} (hb:b=true↔φ) (hb':b=false↔ψ) (hk:(S,cval t S.cn)=(.cond S.cn S.x S.y S.K,some (.bool b))) (k1:φ→V E S.inX t) (k2:ψ→V E S.inY t):V E S t:=fun N ε a w hin=>by
  simp only [Prod.mk.injEq] at hk
  obtain ⟨e1,e2⟩:=hk
  rw [e1]
  have hv:a.eval S.cn=.bool b:=by
    cases hc:S.cn with
    | tmp s =>
      rw [hc] at e2
      have:=hin.slots.slot s _ e2
      simp [Act.eval,Array.getD_eq_getD_getElem?,this]
    | const v =>
      rw [hc] at e2
      simp only [cval,Option.some.injEq] at e2
      subst e2;rfl
    | _=>rw [hc] at e2;cases e2
  exact wp_cond_split hv (fun h=>norm_sound 200 (.inl S.x) S.K a w (k1 (hb.1 h) N ε a w hin)) (fun h=>norm_sound 200 (.inl S.y) S.K a w (k2 (hb'.1 h) N ε a w hin))
theorem V.condT (hk:(S,cval t S.cn)=(.cond S.cn S.x S.y S.K,some (.bool true))) (k1:V E S.inX t):V E S t :=
  V.cond (φ:=True) (ψ:=False) (by simp) (by simp) hk (fun _=>k1) fun h=>h.elim
theorem V.condF (hk:(S,cval t S.cn)=(.cond S.cn S.x S.y S.K,some (.bool false))) (k1:V E S.inY t):V E S t :=
  V.cond (φ:=False) (ψ:=True) (by simp) (by simp) hk (fun h=>h.elim) fun _=>k1
def FP.drop (f:FP):FP:={ f with t:=false }
theorem FP.drop_at {f:FP} {N K:Heaplet} (h:f.at N K) (hNK:Sub N K):f.drop.at N K:=by
  unfold FP.at at h
  cases e:f.t <;> rw [e] at h
  · exact h
  · exact f.m _ _ hNK h
theorem LE.drop_at {x:LE} {e:Ent} {N K:Heaplet} (h:x.at e N K) (hNK:Sub N K):x.drop.at e N K:=by
  cases x with
  | own t p m q hq =>
    cases t
    · exact h
    · exact m _ _ _ hNK h
  | _=>trivial
def matchF (x y:FP):FP:=bif y.t then x else x.drop
def matchL (x y:LE):LE:=match y with
  | .no=>.no
  | .own false _ _ _ _=>x.drop
  | _=>x
def leSt (fi:List Nat) (t t':St):List (Option Value) × List (Option FP) × List LE × Nat × Nat :=
  (t'.sl.map (fun p=>t.sl.lookup p.1),(fi.zip t'.F).map (fun p=>(t.F[p.1]?).map fun x=>matchF x p.2),(t.L.zip t'.L).map (fun p=>matchL p.1 p.2),fi.length,t.L.length)
def leSt' (t':St):List (Option Value) × List (Option FP) × List LE × Nat × Nat :=
  (t'.sl.map (fun p=>some p.2),t'.F.map some,t'.L,t'.F.length,t'.L.length)
theorem St.In.le {t t':St} {nt:Nat} {w0:World} {X:List Nat} {H N:Heaplet} {ε:Nat→Ent} {a:Act} {w:World} (h:t.In nt w0 X H N ε a w) {fi:List Nat} (hk:leSt fi t t'=leSt' t'):t'.In nt w0 X H N ε a w:=by
  simp only [leSt,leSt',Prod.mk.injEq] at hk
  obtain ⟨h1,h2,h3,h4,h5⟩:=hk
  have hNK:Sub N (hun N H):=hun_left
  have hL:∀ (r:Nat) (y:LE),t'.L[r]?=some y→∃ x,t.L[r]?=some x∧y=matchL x y:=fun r y hy=>by
    have:=congrArg (fun l:List LE=>l[r]?) h3
    simp only [List.getElem?_map,hy] at this
    cases hz:(t.L.zip t'.L)[r]? with
    | none=>rw [hz] at this;cases this
    | some p =>
      rw [hz] at this
      rw [List.getElem?_zip_eq_some] at hz
      rw [hy] at hz
      obtain ⟨z1,z2⟩:=hz
      simp only [Option.some.injEq] at z2
      simp only [Option.map_some,Option.some.injEq] at this
      rw [←z2] at this
      exact ⟨p.1,z1,this.symm⟩
  have hent:∀ (x y:LE) (e:Ent) (p:Nat × Obj),y=matchL x y→y.ent e=some p→x.ent e=some p:=fun x y e p hy hp=>by
    rw [hy] at hp
    cases y with
    | no=>cases hp
    | blk b arr T=>exact hp
    | own t' q m r hr =>
      cases t'
      · simp only [matchL] at hp
        cases x <;> exact hp
      · exact hp
  have hents:∀ (r b:Nat) (o:Obj),(ents t'.L ε)[r]?=some (some (b,o))→(ents t.L ε)[r]?=some (some (b,o)):=fun r b o he=>by
    rw [ents_get,Option.map_eq_some_iff] at he ⊢
    obtain ⟨y,hy,he⟩:=he
    obtain ⟨x,hx,hxy⟩:=hL r y hy
    exact ⟨x,hx,hent x y _ _ hxy he⟩
  refine ⟨h.slots.sub h1,⟨h.st.base,h.st.agr,fun r b o he=>h.st.ent r b o (hents _ _ _ he),fun r r' b o o' he he'=>h.st.dis r r' b o o' (hents _ _ _ he) (hents _ _ _ he')⟩,h.new,fun f hf=>?_,fun r y hy=>?_⟩
  · obtain ⟨k,hk⟩:=List.getElem?_of_mem hf
    have:=congrArg (fun l:List (Option FP)=>l[k]?) h2
    simp only [List.getElem?_map,hk,Option.map_some] at this
    cases hz:(fi.zip t'.F)[k]? with
    | none=>rw [hz] at this;cases this
    | some p =>
      rw [hz] at this
      rw [List.getElem?_zip_eq_some] at hz
      rw [hk] at hz
      obtain ⟨_,z2⟩:=hz
      simp only [Option.some.injEq] at z2
      simp only [Option.map_some,Option.some.injEq,Option.map_eq_some_iff] at this
      obtain ⟨x,hx,hxf⟩:=this
      rw [←z2] at hxf
      have hat:=h.facts x (List.mem_of_getElem? hx)
      rw [←hxf]
      unfold matchF
      cases f.t
      · exact FP.drop_at hat hNK
      · exact hat
  · obtain ⟨x,hx,hxy⟩:=hL r y hy
    have hat:=h.own r x hx
    rw [hxy]
    cases y with
    | no=>trivial
    | blk b arr T=>exact hat
    | own t' q m r' hr =>
      cases t'
      · exact LE.drop_at hat hNK
      · exact hat
theorem V.le {t':St} (fi:List Nat) (hk:leSt fi t t'=leSt' t') (k:V E S t'):V E S t:=fun N ε a w hin=>k N ε a w (hin.le hk)
def St.know (t:St):List Prop:=t.F.map (·.q) ++t.L.flatMap LE.lim
theorem St.In.know {nt:Nat} {w0:World} {X:List Nat} {H N:Heaplet} {ε:Nat→Ent} {a:Act} {w:World} (h:t.In nt w0 X H N ε a w):conjL t.know:=conjL_of fun p hp=>by
  rcases List.mem_append.1 hp with hp | hp
  · obtain ⟨f,hf,rfl⟩:=List.mem_map.1 hp
    exact FP.lim_of (h.facts f hf)
  · obtain ⟨x,hx,hp⟩:=List.mem_flatMap.1 hp
    obtain ⟨r,hr⟩:=List.getElem?_of_mem hx
    exact LE.lim_of (h.own r x hr) p hp
def Takes {P:Program} {γ:Type} (E:Env P) (I:γ→St) (F:γ→Prop) (M:γ→Prop) (Z:Act→World→Prop):Prop:=∀ g,F g→M g→∀ N ε a w,(I g).In E.nt E.w0 E.X E.H N ε a w→Z a w
theorem loop_ghost {P:Program} {Q:Exit→Act→World→Prop} {c:Code} {a:Act} {w:World} {γ:Type} (I:γ→Act→World→Prop) (μ:γ→Nat) (g:γ) (h0:I g a w)
    (round:∀ g a w,I g a w→c.wp P (Exit.then (fun a' w'=>∃ g',I g' a' w'∧μ g' < μ g) Q) a w):(Code.loop c).wp P Q a w:=by
  classical
  let S:Act→World→Nat→Prop:=fun a w n=>∃ g,I g a w∧μ g=n
  have least:∀ a w,(∃ n,S a w n)→∃ n,S a w n∧∀ m,S a w m→n≤m:=fun a w ⟨n,hn⟩=>by
    induction n using Nat.strongRecOn with
    | _ n ih =>
      by_cases h:∃ m,m < n∧S a w m
      · obtain ⟨m,hm,hS⟩:=h
        exact ih m hm hS
      · exact ⟨n,hn,fun m hm=>Nat.le_of_not_lt fun hlt=>h ⟨m,hlt,hm⟩⟩
  let M:Act→World→Nat:=fun a w=>if h:∃ n,S a w n then Classical.choose (least a w h) else 0
  refine wp_loop (fun a w=>∃ g,I g a w) M ⟨g,h0⟩ fun a w ⟨g,hg⟩=>?_
  have hex:∃ n,S a w n:=⟨μ g,g,hg,rfl⟩
  have hM:M a w=Classical.choose (least a w hex):=dif_pos hex
  obtain ⟨⟨g1,hg1,hm1⟩,_⟩:=Classical.choose_spec (least a w hex)
  refine Go.wp_mono (round g1 a w hg1) fun e a' w' hq=>?_
  cases e with
  | normal =>
    obtain ⟨g2,hg2,hlt⟩:=hq
    refine ⟨⟨g2,hg2⟩,?_⟩
    have hex2:∃ n,S a' w' n:=⟨μ g2,g2,hg2,rfl⟩
    have hM2:M a' w'=Classical.choose (least a' w' hex2):=dif_pos hex2
    have:=(Classical.choose_spec (least a' w' hex2)).2 (μ g2) ⟨g2,hg2,rfl⟩
    rw [hM2,hM,← hm1]
    omega
  | _=>exact hq
theorem V.loop {γ:Type} (I:γ→St) (F:γ→Prop) (μ:γ→Nat) (g:γ) (hk:S=.loop S.x S.K) (fi:List Nat) (h0:leSt fi t (I g)=leSt' (I g)) (hF:F g)
    (round:∀ g,F g→Knw (I g).know→∀ Z,Takes E I F (fun g'=>μ g' < μ g) Z→V E (norm 200 (.inl S.x) (.rnd Z :: S.K)) (I g)):V E S t:=fun N ε a w hin=>by
  rw [hk]
  show (Code.loop S.x).wp P (run P E.Q S.K) a w
  have hin:=hin.le h0
  refine loop_ghost (fun g a w=>F g∧∃ N ε,(I g).In E.nt E.w0 E.X E.H N ε a w) μ g ⟨hF,N,ε,hin⟩ fun g a w ⟨hF,N,ε,hin⟩=>?_
  exact norm_sound 200 (.inl S.x) (.rnd (fun a' w'=>∃ g',(F g'∧∃ N ε,(I g').In E.nt E.w0 E.X E.H N ε a' w')∧μ g' < μ g) :: S.K) a w (round g hF ⟨hin.know⟩ _ (fun g' hF' hm N ε a w h=>⟨g',⟨hF',N,ε,h⟩,hm⟩) N ε a w hin)
def Stop.rz:Stop→Option (Act→World→Prop)
  | .rnd Z _=>some Z
  | _=>none
theorem V.rnd {γ:Type} {I:γ→St} {F:γ→Prop} {M:γ→Prop} {Z:Act→World→Prop} (hZ:Takes E I F M Z) (g:γ) (fi:List Nat) (hk:(S.rz,leSt fi t (I g))=(some Z,leSt' (I g))) (hF:F g) (hM:M g):V E S t:=fun N ε a w hin=>by
  simp only [Prod.mk.injEq] at hk
  obtain ⟨e1,e2⟩:=hk
  cases S with
  | rnd Z' K =>
    simp only [Stop.rz,Option.some.injEq] at e1
    subst e1
    exact hZ g hF hM N ε a w (hin.le e2)
  | _=>cases e1
def fnEnv {P:Program} (mo:P.follows .mixedOrders=true) (fn:Func) (nt:Nat) (w:World) (H:Heaplet) (olds:List Ent) (V:Rec→Value) (F':Rec→List FP) (L':Rec→List LE) (pu:Rec→List Prop):Env P :=
  { nt,w0:=w,X:=blks olds,H,Q:=bodyPost P fn fun e w'=>∃ g,CPost w w' H olds V F' L' pu e g,mo }
theorem ents_more {ε:Nat→Ent} {L:List LE} {n r b:Nat} {o:Obj} (h:(ents (L ++List.replicate n .no) ε)[r]?=some (some (b,o))):(ents L ε)[r]?=some (some (b,o)):=by
  rw [ents_get,Option.map_eq_some_iff] at h ⊢
  obtain ⟨x,hx,he⟩:=h
  rw [List.getElem?_append] at hx
  split at hx
  · exact ⟨x,hx,he⟩
  · rw [List.getElem?_replicate] at hx
    split at hx
    · cases hx;cases he
    · cases hx
theorem W_calls {P:Program} {f:FuncId} {fn:Func} {c:Code} {args:Array Value} {w:World} {R:Ending→World→Prop} (hf:P.funcs[f]?=some fn) (hb:fn.body=some c) (nt:Nat) (hnt:(args ++Array.replicate (fn.ntmps - args.size) undef).size=nt)
    (h:∀ a,SlotsOK nt (args.toList.zipIdx.map fun p=>(p.2,p.1)) a→c.wp P (bodyPost P fn R) a w):Calls P f args w R:=by
  refine calls_of_wp hf hb (h _ ⟨rfl,hnt,fun s v hv=>?_⟩)
  have key:∀ (l:List Value) (k:Nat),((l.zipIdx k).map fun p=>(p.2,p.1)).lookup s=some v→k≤s∧l[s - k]?=some v:=by
    intro l
    induction l with
    | nil=>intro k h;cases h
    | cons x l ih =>
      intro k h
      simp only [List.zipIdx_cons,List.map_cons,List.lookup_cons] at h
      by_cases e:s=k
      · subst e;simp at h;simp [h]
      · have e':(s == k)=false:=by simpa using e
        rw [e'] at h
        obtain ⟨h1,h2⟩:=ih (k+1) h
        refine ⟨by omega,?_⟩
        rw [show s - k=(s - (k+1))+1 from by omega]
        simpa using h2
  have:=(key args.toList 0 hv).2
  simp only [Nat.sub_zero,Array.getElem?_toList] at this
  have hlt:=(Array.getElem?_eq_some_iff.1 this).1
  rw [Array.getElem?_append_left hlt];exact this
theorem V.fn {f:FuncId} {args:Array Value} {F:List FP} {L:List LE} {V':Rec→Value} {F':Rec→List FP} {L':Rec→List LE} {pu:Rec→List Prop} (mo:P.follows .mixedOrders=true) {fn:Func} (hf:P.funcs[f]?=some fn) (nt n:Nat)
    (hk:(fn.body.isSome,(args ++Array.replicate (fn.ntmps-args.size) undef).size)=(true,nt))
    (h:∀ w H ε,Knw (F.map (·.q) ++L.flatMap LE.lim)→V (fnEnv mo fn nt w H (ents L ε) V' F' L' pu) (norm 200 (.inl (body fn)) []) ⟨args.toList.zipIdx.map fun p=>(p.2,p.1),F.map FP.drop,L.map LE.drop ++List.replicate n .no⟩):Ct P f args F L V' F' L' pu:=fun w H ε hA hF hst hown=>by
  simp only [Prod.mk.injEq] at hk;obtain ⟨hb,hnt⟩:=hk;have hb':fn.body=some (body fn):=by
    unfold body;cases hc:fn.body with
    | none=>rw [hc] at hb;cases hb
    | some c=>rfl
  have hlim:conjL (F.map (·.q) ++L.flatMap LE.lim):=conjL_of fun p hp=>by
    rcases List.mem_append.1 hp with hp | hp
    · obtain ⟨q,hq,rfl⟩:=List.mem_map.1 hp;exact q.hq _ (hF q hq)
    · obtain ⟨x,hx,hp⟩:=List.mem_flatMap.1 hp;obtain ⟨r,hr⟩:=List.getElem?_of_mem hx;exact LE.lim_of (hown r x hr) p hp
  have hV:=h w H ε ⟨hlim⟩;have eH:hun (fun _=>none) H=H:=rfl;have hdr:∀ (x:LE) e,x.drop.ent e=x.ent e:=fun x e=>by cases x <;> rfl
  have hent:∀ (r b:Nat) (o:Obj),(ents (L.map LE.drop ++List.replicate n .no) ε)[r]?=some (some (b,o))→(ents L ε)[r]?=some (some (b,o)):=fun r b o he=>by
    have:=ents_more he
    rw [ents_get,List.getElem?_map,Option.map_eq_some_iff] at this;obtain ⟨x,hx,he⟩:=this;obtain ⟨y,hy,rfl⟩:=Option.map_eq_some_iff.1 hx;rw [ents_get,hy];rw [hdr] at he;simp [he]
  refine W_calls hf hb' nt hnt fun a hs=>?_;refine norm_sound 200 (.inl (body fn)) [] a w (hV (fun _=>none) ε a w ⟨hs,⟨hst.base,hst.agr,fun r b o he=>hst.ent r b o (hent _ _ _ he),fun r r' b o o' he he'=>hst.dis r r' b o o' (hent _ _ _ he) (hent _ _ _ he')⟩,new_none,fun q hq=>?_,fun r x hx=>?_⟩)
  · obtain ⟨q',hq',rfl⟩:=List.mem_map.1 hq;exact hF q' hq'
  · rw [List.getElem?_append] at hx;split at hx
    · rw [List.getElem?_map] at hx;obtain ⟨y,hy,rfl⟩:=Option.map_eq_some_iff.1 hx
      have:=hown r y hy
      cases y with
      | own t p m q hq=>cases t <;> exact this
      | _=>trivial
    · rw [List.getElem?_replicate] at hx;split at hx
      · cases hx;trivial
      · cases hx
def resV (P:Program) (t:St):ResultVar × Nat→Value
  | (.tmp s,_)=>(t.sl.lookup s).getD undef
  | (.cell s T,r)=>wrapT P T ((List.range ((sizeT P T).getD 0)).map fun j=>(entA (((t.L[r]?).getD .no).ent none)).getD ((addrOf ((t.sl.lookup s).getD undef)).off+j) undef)
def resC (P:Program) (t:St):ResultVar × Nat→Option Value × Bool × Bool × Ent
  | (.tmp s,_)=>(t.sl.lookup s,true,true,none)
  | (.cell s T,r)=>(t.sl.lookup s,(P.underlying T).isSome && (sizeT P T).isSome && (aggB P T || (sizeT P T).getD 0 == 1),decide ((addrOf ((t.sl.lookup s).getD undef)).off+(sizeT P T).getD 0≤(entA (((t.L[r]?).getD .no).ent none)).size),((t.L[r]?).getD .no).ent none)
def resC' (P:Program) (t:St):ResultVar × Nat→Option Value × Bool × Bool × Ent
  | (.tmp s,r)=>(some (resV P t (.tmp s,r)),true,true,none)
  | (.cell s _,r)=>(some (.pointer (some ⟨entB (((t.L[r]?).getD .no).ent none),(addrOf ((t.sl.lookup s).getD undef)).off,none⟩)),true,true,some (entB (((t.L[r]?).getD .no).ent none),.cells (entA (((t.L[r]?).getD .no).ent none)) (entT (((t.L[r]?).getD .no).ent none))))
def tupV:List Value→Value
  | [v]=>v
  | vs=>.tuple vs.toArray
def Stop.isEnd:Stop→Bool
  | .fin .ret=>true
  | .fin .normal=>true
  | _=>false
theorem res_run {w:World} {nt:Nat} {w0:World} {X:List Nat} {H N:Heaplet} {ε:Nat→Ent} {a:Act} (hin:t.In nt w0 X H N ε a w) {p:ResultVar × Nat} (h:resC P t p=resC' P t p):(resOf a.tmps p.1).run P w=.ok (resV P t p) w:=by
  obtain ⟨rv,r⟩:=p
  cases rv with
  | tmp s =>
    simp only [resC,resC',Prod.mk.injEq] at h
    exact res_tmp h.1 hin.slots
  | cell s T =>
    simp only [resC,resC',Prod.mk.injEq,Bool.and_eq_true] at h
    obtain ⟨h1,⟨⟨h2,h3⟩,h4⟩,h5,h6⟩:=h
    obtain ⟨n,hn⟩:=Option.isSome_iff_exists.1 h3
    rw [hn] at h4 h5
    simp only [Option.getD_some] at h4 h5
    have he:(ents t.L ε)[r]?=some (some (entB (((t.L[r]?).getD .no).ent none),.cells (entA (((t.L[r]?).getD .no).ent none)) (entT (((t.L[r]?).getD .no).ent none)))):=by
      rw [ents_get]
      cases hr:t.L[r]? with
      | none=>rw [hr] at h6;cases h6
      | some x =>
        cases x with
        | blk b arr T'=>rfl
        | _=>rw [hr] at h6;cases h6
    have hb:=(hin.st.ent r _ _ he).1
    have hp:=slot_getD h1 hin.slots
    have h5:=of_decide_eq_true h5
    have hl:=loadVar_run (P:=P) (w:=w) (t:=T) (a:=⟨entB (((t.L[r]?).getD .no).ent none),(addrOf ((t.sl.lookup s).getD undef)).off,none⟩) (vs:=(List.range n).map fun j=>(entA (((t.L[r]?).getD .no).ent none)).getD ((addrOf ((t.sl.lookup s).getD undef)).off+j) undef) h2 (by simpa using hn) (fun hb=>by rw [hb] at h4;simpa using h4) fun j v hj=>by
      simp only [List.getElem?_map,Option.map_eq_some_iff] at hj
      obtain ⟨k,hk,rfl⟩:=hj
      obtain ⟨hlt,rfl⟩:=List.getElem?_eq_some_iff.1 hk
      simp only [List.length_range] at hlt
      simp only [List.getElem_range]
      rw [add_eq rfl]
      have:(addrOf ((t.sl.lookup s).getD undef)).off+j < (entA (((t.L[r]?).getD .no).ent none)).size:=by omega
      simp [World.cell?,hb,this]
    show (do loadVar T (←asAddr (a.tmps.getD s undef)):Sem Value).run P w=_
    rw [hp]
    simp only [resV,hn,Option.getD_some]
    simp [asAddr,hl]
theorem V.retG (gts:List GT) {mo:P.follows .mixedOrders=true} {fn:Func} {nt:Nat} {w0:World} {H:Heaplet} {olds:List Ent} {V':Rec→Value} {F':Rec→List FP} {L':Rec→List LE} {pu:Rec→List Prop} (rr:List Nat) (ss:List SV) (sls:List (Nat→SV)) (bs:List Nat) (fi li:List Nat) (v:Value)
    (hk:∀ N es,(S.isEnd,fn.results.size == rr.length,(fn.results.toList.zip rr).map (resC P t),tupV ((fn.results.toList.zip rr).map (resV P t)),fi.length,(fi.zip (F' { H:=N,ss:=fun k=>ss.getD k {},sl:=fun k=>sls.getD k (fun _=>{}),bs:=fun k=>bs.getD k 0,es:=es,gt:=fun k=>gts.getD k default })).map (fun p=>(t.F[p.1]?).map fun x=>matchF x p.2),nodup li,li.length,(li.zip (L' { H:=N,ss:=fun k=>ss.getD k {},sl:=fun k=>sls.getD k (fun _=>{}),bs:=fun k=>bs.getD k 0,es:=es,gt:=fun k=>gts.getD k default })).map (fun p=>(t.L[p.1]?).map fun x=>matchL x p.2)) =
      (true,true,(fn.results.toList.zip rr).map (resC' P t),v,(F' { H:=N,ss:=fun k=>ss.getD k {},sl:=fun k=>sls.getD k (fun _=>{}),bs:=fun k=>bs.getD k 0,es:=es,gt:=fun k=>gts.getD k default }).length,(F' { H:=N,ss:=fun k=>ss.getD k {},sl:=fun k=>sls.getD k (fun _=>{}),bs:=fun k=>bs.getD k 0,es:=es,gt:=fun k=>gts.getD k default }).map some,true,(L' { H:=N,ss:=fun k=>ss.getD k {},sl:=fun k=>sls.getD k (fun _=>{}),bs:=fun k=>bs.getD k 0,es:=es,gt:=fun k=>gts.getD k default }).length,(L' { H:=N,ss:=fun k=>ss.getD k {},sl:=fun k=>sls.getD k (fun _=>{}),bs:=fun k=>bs.getD k 0,es:=es,gt:=fun k=>gts.getD k default }).map some))
    (hv:∀ N es,v=V' { H:=N,ss:=fun k=>ss.getD k {},sl:=fun k=>sls.getD k (fun _=>{}),bs:=fun k=>bs.getD k 0,es:=es,gt:=fun k=>gts.getD k default }) (hp:∀ N es,conjL (pu { H:=N,ss:=fun k=>ss.getD k {},sl:=fun k=>sls.getD k (fun _=>{}),bs:=fun k=>bs.getD k 0,es:=es,gt:=fun k=>gts.getD k default })):V (fnEnv mo fn nt w0 H olds V' F' L' pu) S t:=fun N ε a w hin=>by
  have h0:=hk N fun k=>ε (li.getD k 0)
  have hv:=hv N fun k=>ε (li.getD k 0)
  have hp:=hp N fun k=>ε (li.getD k 0)
  generalize hg:({ H:=N,ss:=fun k=>ss.getD k {},sl:=fun k=>sls.getD k (fun _=>{}),bs:=fun k=>bs.getD k 0,es:=fun k=>ε (li.getD k 0),gt:=fun k=>gts.getD k default }:Rec)=g at h0 hv hp
  have gH:g.H=N:=by rw [←hg]
  have gE:g.es=fun k=>ε (li.getD k 0):=by rw [←hg]
  simp only [Prod.mk.injEq,beq_iff_eq] at h0
  obtain ⟨e1,e2,e3,e4,e5,e6,e7,e8,e9⟩:=h0
  have hNK:Sub N (hun N H):=hun_left
  have hK:Agrees w (hun N H):=hin.st.agr _ (by simp [fnEnv])
  have hLk:∀ (k:Nat) (y:LE),(L' g)[k]?=some y→∃ x,t.L[li.getD k 0]?=some x∧y=matchL x y∧li[k]?=some (li.getD k 0):=fun k y hy=>by
    have:=congrArg (fun l:List (Option LE)=>l[k]?) e9
    simp only [List.getElem?_map,hy,Option.map_some] at this
    cases hz:(li.zip (L' g))[k]? with
    | none=>rw [hz] at this;cases this
    | some p =>
      rw [hz] at this
      rw [List.getElem?_zip_eq_some] at hz
      obtain ⟨z1,z2⟩:=hz
      rw [hy] at z2
      simp only [Option.some.injEq] at z2
      simp only [Option.map_some,Option.some.injEq,Option.map_eq_some_iff] at this
      obtain ⟨x,hx,hxy⟩:=this
      rw [←z2] at hxy
      have:li.getD k 0=p.1:=by rw [List.getD_eq_getElem?_getD,z1];rfl
      rw [this]
      exact ⟨x,hx,hxy.symm,z1⟩
  have hent:∀ (x y:LE) (e:Ent) (p:Nat × Obj),y=matchL x y→y.ent e=some p→x.ent e=some p:=fun x y e p hy hp=>by
    rw [hy] at hp
    cases y with
    | no=>cases hp
    | blk b arr T=>exact hp
    | own t' q m r hr =>
      cases t'
      · simp only [matchL] at hp
        cases x <;> exact hp
      · exact hp
  have hents:∀ (k b:Nat) (o:Obj),(ents (L' g) g.es)[k]?=some (some (b,o))→(ents t.L ε)[li.getD k 0]?=some (some (b,o))∧li[k]?=some (li.getD k 0):=fun k b o he=>by
    rw [ents_get,Option.map_eq_some_iff] at he
    obtain ⟨y,hy,he⟩:=he
    obtain ⟨x,hx,hxy,hl⟩:=hLk k y hy
    rw [gE] at he
    refine ⟨?_,hl⟩
    rw [ents_get,hx,Option.map_some,hent x y _ _ hxy he]
  have hall:All2 (fun r v=>(resOf a.tmps r).run P w=.ok v w) fn.results.toList ((fn.results.toList.zip rr).map (resV P t)):=by
    have:∀ (rs:List ResultVar) (rr:List Nat),rs.length=rr.length→((rs.zip rr).map (resC P t)=(rs.zip rr).map (resC' P t))→All2 (fun r v=>(resOf a.tmps r).run P w=.ok v w) rs ((rs.zip rr).map (resV P t)):=by
      intro rs
      induction rs with
      | nil=>intro rr _ _;cases rr <;> trivial
      | cons r rs ih =>
        intro rr hl he
        cases rr with
        | nil=>cases hl
        | cons k rr =>
          simp only [List.zip_cons_cons,List.map_cons,List.cons.injEq] at he ⊢
          exact ⟨res_run hin he.1,ih rr (by simpa using hl) he.2⟩
    exact this _ _ (by simpa using e2) e3
  have hres:(results fn a.tmps).run P w=.ok v w:=by
    rw [←e4]
    obtain ⟨rs,hrs⟩:∃ rs:List ResultVar,fn.results=rs.toArray:=⟨fn.results.toList,by simp⟩
    rw [hrs] at hall ⊢
    simp only [List.toList_toArray] at hall ⊢
    match rs,(rs.zip rr).map (resV P t),hall,hrs with
    | [r],[u],h,hrs=>exact results_one hrs h.1
    | [],[],h,hrs=>exact results_many hrs (by simp) h
    | r :: r' :: rs,u :: u' :: us,h,hrs=>exact results_many hrs (by simp) h
  have fin:bodyPost P fn (fun e w'=>∃ g,CPost w0 w' H olds V' F' L' pu e g) .ret a w:=by
    refine ⟨hin.slots.defers,v,hres,g,⟨by rw [hv],hin.st.base,?_,?_,fun f hf=>?_,fun k b o he=>?_,fun k l b o o' h1 h2=>?_,fun k y hy=>?_,hp⟩⟩
    · rw [gH];exact hNK.trans hK
    · rw [gH];exact hin.new
    · rw [gH]
      obtain ⟨k,hk⟩:=List.getElem?_of_mem hf
      have:=congrArg (fun l:List (Option FP)=>l[k]?) e6
      simp only [List.getElem?_map,hk,Option.map_some] at this
      cases hz:(fi.zip (F' g))[k]? with
      | none=>rw [hz] at this;cases this
      | some p =>
        rw [hz] at this
        rw [List.getElem?_zip_eq_some] at hz
        rw [hk] at hz
        obtain ⟨_,z2⟩:=hz
        simp only [Option.some.injEq] at z2
        simp only [Option.map_some,Option.some.injEq,Option.map_eq_some_iff] at this
        obtain ⟨x,hx,hxf⟩:=this
        rw [←z2] at hxf
        have hat:=hin.facts x (List.mem_of_getElem? hx)
        rw [←hxf]
        unfold matchF
        cases f.t
        · exact FP.drop_at hat hNK
        · exact hat
    · obtain ⟨h1,_⟩:=hents k b o he
      obtain ⟨b1,b2,b3⟩:=hin.st.ent _ b o h1
      refine ⟨b1,b2,?_⟩
      rw [gH]
      have:=b3 (hun N H) (by simp [fnEnv])
      unfold hun at this
      cases hN:N b with
      | none=>rfl
      | some o'=>rw [hN] at this;cases this
    · obtain ⟨a1,c1⟩:=hents k b o h1
      obtain ⟨a2,c2⟩:=hents l b o' h2
      have:=hin.st.dis _ _ b o o' a1 a2
      rw [this] at c1
      exact nodup_inj e7 c1 c2
    · obtain ⟨x,hx,hxy,_⟩:=hLk k y hy
      have hat:=hin.own _ x hx
      rw [gH,gE,hxy]
      cases y with
      | no=>trivial
      | blk b arr T=>exact hat
      | own t' q m r' hr =>
        cases t'
        · exact LE.drop_at hat hNK
        · exact hat
  cases S with
  | fin e =>
    cases e with
    | ret=>exact fin
    | normal=>exact fin
    | _=>cases e1
  | _=>cases e1
theorem V.ret {mo:P.follows .mixedOrders=true} {fn:Func} {nt:Nat} {w0:World} {H:Heaplet} {olds:List Ent} {V':Rec→Value} {F':Rec→List FP} {L':Rec→List LE} {pu:Rec→List Prop} (rr:List Nat) (ss:List SV) (sls:List (Nat→SV)) (bs:List Nat) (fi li:List Nat) (v:Value)
    (hk:∀ N es,(S.isEnd,fn.results.size == rr.length,(fn.results.toList.zip rr).map (resC P t),tupV ((fn.results.toList.zip rr).map (resV P t)),fi.length,(fi.zip (F' { H:=N,ss:=fun k=>ss.getD k {},sl:=fun k=>sls.getD k (fun _=>{}),bs:=fun k=>bs.getD k 0,es:=es })).map (fun p=>(t.F[p.1]?).map fun x=>matchF x p.2),nodup li,li.length,(li.zip (L' { H:=N,ss:=fun k=>ss.getD k {},sl:=fun k=>sls.getD k (fun _=>{}),bs:=fun k=>bs.getD k 0,es:=es })).map (fun p=>(t.L[p.1]?).map fun x=>matchL x p.2)) =
      (true,true,(fn.results.toList.zip rr).map (resC' P t),v,(F' { H:=N,ss:=fun k=>ss.getD k {},sl:=fun k=>sls.getD k (fun _=>{}),bs:=fun k=>bs.getD k 0,es:=es }).length,(F' { H:=N,ss:=fun k=>ss.getD k {},sl:=fun k=>sls.getD k (fun _=>{}),bs:=fun k=>bs.getD k 0,es:=es }).map some,true,(L' { H:=N,ss:=fun k=>ss.getD k {},sl:=fun k=>sls.getD k (fun _=>{}),bs:=fun k=>bs.getD k 0,es:=es }).length,(L' { H:=N,ss:=fun k=>ss.getD k {},sl:=fun k=>sls.getD k (fun _=>{}),bs:=fun k=>bs.getD k 0,es:=es }).map some))
    (hv:∀ N es,v=V' { H:=N,ss:=fun k=>ss.getD k {},sl:=fun k=>sls.getD k (fun _=>{}),bs:=fun k=>bs.getD k 0,es:=es }) (hp:∀ N es,conjL (pu { H:=N,ss:=fun k=>ss.getD k {},sl:=fun k=>sls.getD k (fun _=>{}),bs:=fun k=>bs.getD k 0,es:=es })):V (fnEnv mo fn nt w0 H olds V' F' L' pu) S t:=V.retG [] rr ss sls bs fi li v hk hv hp
end

open Go
abbrev iv (n:Int):Value:=.int .i64 n
abbrev bv (b:Bool):Value:=.bool b
abbrev tv (s:ByteArray):Value:=.string s
def ca {α:Type} [Dat α] (x:α):Array Value:=(Dat.cells x).toArray
def ag {α:Type} [Dat α] (x:α):Value:=.agg (ca x)
abbrev pp (b off:Nat):Value:=.pointer (some ⟨b,off,none⟩)
theorem nm {α:Type _} {p:Prop} (e:α) (k:∀ x,x=e→p):p:=k e rfl
theorem kn {l:List Prop} {b:Prop} (h:Knw l) (e:conjL l=b):b:=e ▸ h.h
theorem iFT:false=true↔False:=by simp
theorem iFF:false=false↔True:=by simp
section
variable {P : Program} {E : Env P} {S : Stop} {t : St}
theorem set_get {L:List LE} {r k:Nat} {x y:LE} (hy:(L.set r x)[k]?=some y):(k=r∧y=x)∨(k≠r∧L[k]?=some y):=by
  by_cases e:r=k
  · subst e
    have:=(List.getElem?_eq_some_iff.1 hy).1
    rw [List.length_set] at this
    rw [List.getElem?_set_self this] at hy
    exact .inl ⟨rfl,(Option.some.inj hy).symm⟩
  · rw [List.getElem?_set_ne e] at hy;exact .inr ⟨fun h=>e h.symm,hy⟩
theorem V.on {α:Type} [Dat α] (r:Nat) (T:TypeId) (hr:t.L[r]?=some .no) (k:V E S ⟨t.sl,t.F,t.L.set r (os true T ([]:List α) {})⟩):V E S t:=fun N ε a w hin=>by
  let ε':Nat→Ent:=fun j=>if j=r then none else ε j
  have hne:∀ j,j≠r→ε' j=ε j:=fun j hj=>if_neg hj
  have her:ε' r=none:=if_pos rfl
  have hents:∀ (j b:Nat) (o:Obj),(ents (t.L.set r (os true T ([]:List α) {})) ε')[j]?=some (some (b,o))→(ents t.L ε)[j]?=some (some (b,o)):=fun j b o h=>by
    rw [ents_get,Option.map_eq_some_iff] at h
    obtain ⟨y,hy,he⟩:=h
    rcases set_get hy with ⟨rfl,rfl⟩ | ⟨hj,hy⟩
    · rw [her] at he;cases he
    · rw [ents_get,hy,← he,hne j hj];rfl
  refine k N ε' a w ⟨hin.slots,⟨hin.st.base,hin.st.agr,fun j b o h=>hin.st.ent j b o (hents j b o h),fun j j' b o o' h h'=>hin.st.dis j j' b o o' (hents _ _ _ h) (hents _ _ _ h')⟩,hin.new,hin.facts,fun j y hy=>?_⟩
  rcases set_get hy with ⟨rfl,rfl⟩ | ⟨hj,hy⟩
  · rw [her]
    show OSl T N ([]:List α) (.slice none 0 0) none
    exact OSl.nil
  · rw [hne j hj];exact hin.own j y hy
theorem V.frz {α:Type} [Dat α] (r:Nat) (b:Bool) (T:TypeId) (l:List α) (s:SV) (hr:(t.L[r]?,E.X)=(some (os b T l s),[])) (k:V E S ⟨t.sl,t.F ++[fs b l s],t.L.set r .no⟩):V E S t:=fun N ε a w hin=>by
  simp only [Prod.mk.injEq] at hr
  obtain ⟨hr,hX⟩:=hr
  have hown:=hin.own r _ hr
  have he:(ents t.L ε)[r]?=some (ε r):=by rw [ents_get,hr];rfl
  have hK:Agrees w (hun N E.H):=hin.st.agr _ (by simp)
  have hE:Agrees w (entH (ε r)):=entH_agrees fun b o hb=>(hin.st.ent r b o (by rw [he,hb])).1
  have s1:Sub N (hun (entH (ε r)) N):=hun_right' (U:=whole w) hE (hun_left.trans hK)
  have eK:hun (hun (entH (ε r)) N) E.H=hun (entH (ε r)) (hun N E.H):=hun_assoc _ _ _
  have s2:Sub (hun N E.H) (hun (hun (entH (ε r)) N) E.H):=by rw [eK];exact hun_right' (U:=whole w) hE hK
  have hents:∀ (j b:Nat) (o:Obj),(ents (t.L.set r .no) ε)[j]?=some (some (b,o))→j≠r∧(ents t.L ε)[j]?=some (some (b,o)):=fun j b o h=>by
    rw [ents_get,Option.map_eq_some_iff] at h
    obtain ⟨y,hy,he⟩:=h
    rcases set_get hy with ⟨rfl,rfl⟩ | ⟨hj,hy⟩
    · cases he
    · exact ⟨hj,by rw [ents_get,hy,← he];rfl⟩
  refine k (hun (entH (ε r)) N) ε a w ⟨hin.slots,⟨hin.st.base,fun K hk=>?_,fun j b o h=>?_,fun j j' b o o' h h'=>hin.st.dis j j' b o o' (hents _ _ _ h).2 (hents _ _ _ h').2⟩,fun b hb=>?_,fun f hf=>?_,fun j y hy=>?_⟩
  · have:K=hun (hun (entH (ε r)) N) E.H:=by simpa using hk
    subst this
    rw [eK];exact hun_agrees hE hK
  · obtain ⟨hj,h⟩:=hents j b o h
    obtain ⟨h1,h2,h3⟩:=hin.st.ent j b o h
    refine ⟨h1,h2,fun K hk=>?_⟩
    have:K=hun (hun (entH (ε r)) N) E.H:=by simpa using hk
    subst this
    rw [eK]
    have hn:entH (ε r) b=none:=by
      cases hh:entH (ε r) b with
      | none=>rfl
      | some o' =>
        exfalso
        unfold entH at hh
        cases hp:ε r with
        | none=>rw [hp] at hh;cases hh
        | some p =>
          rw [hp] at hh
          simp only at hh
          split at hh
          · rename_i hb;subst hb
            exact hj (hin.st.dis j r p.1 o p.2 h (by rw [he,hp]))
          · cases hh
    simp only [hun,hn]
    exact h3 (hun N E.H) (by simp)
  · cases hh:entH (ε r) b with
    | none =>
      simp only [hun,hh] at hb
      exact hin.new b hb
    | some o' =>
      unfold entH at hh
      cases hp:ε r with
      | none=>rw [hp] at hh;cases hh
      | some p =>
        rw [hp] at hh
        simp only at hh
        split at hh
        · rename_i hb';subst hb'
          rcases (hin.st.ent r p.1 p.2 (by rw [he,hp])).2.1 with h1 | h1
          · exact h1
          · rw [hX] at h1;cases h1
        · cases hh
  · rcases List.mem_append.1 hf with hf | hf
    · exact FP.mono (hin.facts f hf) s1 s2
    · have:f=fs b l s:=by simpa using hf
      subst this
      have key:∀ J J':Heaplet,Sub J J'→Sub (entH (ε r)) J'→OSl T J l s.v (ε r)→RSl J' l s.v:=fun J J' h1 h2 h=>h.frozen h1 h2
      unfold os ow LE.at at hown
      show bif b then RSl _ l _ else RSl _ l _
      cases b
      · exact key _ _ s2 (by rw [eK];exact hun_left) hown
      · exact key _ _ s1 hun_left hown
  · rcases set_get hy with ⟨rfl,rfl⟩ | ⟨hj,hy⟩
    · trivial
    · exact LE.mono (hin.own j y hy) s1 s2
end
def gf {α:Type} [Dat α] (b:Bool) (x:α):FP:=⟨b,fun H=>Dat.good H x,fun _ _ k h=>Dat.mono _ _ _ k h,Dat.q x,fun H h=>Dat.hq H x h⟩
theorem V.go {P:Program} {E:Env P} {S:Stop} {t:St} (hs:List (Hint P)) (hk:∀ N ε,(S,(cxOf E S t hs N ε).R.check E.nt,hs.length,lhsAll (cxOf E S t hs N ε) hs 0)=(.reg S.rid S.ops S.dr S.K,true,S.ops.size,rhsAll (cxOf E S t hs N ε) hs 0))
    (k:∀ N ε G,let S':=S.next;let t':=post (cxOf E S t hs N ε) G;V E S' t'):V E S t:=V.reg hs hk fun N ε G _=>k N ε G
theorem V.alt {P:Program} {E:Env P} {S:Stop} {t:St} {α:Type} (F:α→St) {a b:α} (h:a=b) (fi:List Nat) (hk:leSt fi t (F a)=leSt' (F a)) (k:V E S (F b)):V E S t:=by
  subst h;exact V.le fi hk k
theorem V.nilF {P:Program} {E:Env P} {S:Stop} {t:St} {α:Type} [Dat α] (k:V E S ⟨t.sl,t.F ++[fs true ([]:List α) {}],t.L⟩):V E S t:=fun N ε a w hin=>k N ε a w ⟨hin.slots,hin.st,hin.new,fun f hf=>by
  rcases List.mem_append.1 hf with hf | hf
  · exact hin.facts f hf
  · have:f=fs true ([]:List α) {}:=by simpa using hf
    subst this
    show RSl N ([]:List α) (.slice none 0 0)
    exact RSl.nil,hin.own⟩
theorem V.unroll {P:Program} {E:Env P} {S:Stop} {t:St} (n:Nat) (hk:S=.loop S.x S.K) (k:V E (norm 200 (.inl S.x) (.rndN S.x n :: S.K)) t):V E S t:=fun N ε a w hin=>by
  rw [hk]
  exact wp_loop_rounds (n+1) (norm_sound 200 (.inl S.x) (.rndN S.x n :: S.K) a w (k N ε a w hin))
namespace Hint
variable {P : Program}
def mx (x y:Int):Hint P:=e g0 (.int .i64 (if y > x then y else x)) (.int .i64 (max x y)) fun _=>by rw [max_if]
def a (t:Int) (lo: -9223372036854775808≤t) (hi:t≤9223372036854775807):Hint P:=ar t t rfl lo hi
def ng (x n:Int) (hn:n= -x) (lo: -9223372036854775808≤n) (hi:n≤9223372036854775807):Hint P:=ar (0 - x) n (by omega) lo hi
def andn {g:Prop} (Γ:GdI g) (u:Bool) (b1 b2 b:Bool) (hb:b=(b1 && b2)):Hint P where
  d:={ val:=fun _=>.bool b }
  τ:=Option (Value × Value × Value) × Value × Option Bool
  lhs c i G _ _:=(c.R.pkr G i,c.R.val i (RC.put G i {}),Γ.B.map fun _=>c.R.gd G i)
  rhs _ _ _ _ _:=(some (.bool b1,(bif u then .bool b2 else bif (Γ.B.getD true && (b1 == true)) then .bool b2 else undef),.bool false),.bool b,Γ.B)
  sound c i ok hi h:=by
    subst hb
    exact (and Γ u b1 b2).sound c i ok hi h
def orn {g:Prop} (Γ:GdI g) (u:Bool) (b1 b2 b:Bool) (hb:b=(b1 || b2)):Hint P where
  d:={ val:=fun _=>.bool b }
  τ:=Option (Value × Value × Value) × Value × Option Bool
  lhs c i G _ _:=(c.R.pkr G i,c.R.val i (RC.put G i {}),Γ.B.map fun _=>c.R.gd G i)
  rhs _ _ _ _ _:=(some (.bool b1,.bool true,(bif u then .bool b2 else bif (Γ.B.getD true && (b1 == false)) then .bool b2 else undef)),.bool b,Γ.B)
  sound c i ok hi h:=by
    subst hb
    exact (or Γ u b1 b2).sound c i ok hi h
def seq (a b:ByteArray):Hint P:=e g0 (.bool (a.toList == b.toList)) (.bool (decide (a=b))) fun _=>by rw [toList_bytes]
def sne (a b:ByteArray):Hint P:=e g0 (.bool (!(a.toList == b.toList))) (.bool (!(decide (a=b)))) fun _=>by rw [toList_bytes]
def aeq (neq:Bool) (t:TypeId) (xs ys:Array Value) (b:Bool) (he:∀ w,(Op.equal t (.agg xs) (.agg ys)).run P w=.ok b w):Hint P where
  d:={ val:=fun _=>.bool (bif neq then !b else b) }
  τ:=Option (Bool × TypeId × Value × Value) × Bool × Value
  lhs c i G _ _:=(c.R.bir G i,P.eqGuardType P.depth t,c.R.val i (RC.put G i {}))
  rhs _ _ _ _ _:=(some (neq,t,.agg xs,.agg ys),false,.bool (bif neq then !b else b))
  sound c i _ _ hi h:=fun o ho G w hs=>by
    have h0:=h G {} w
    simp only [Prod.mk.injEq] at h0
    obtain ⟨e1,e2,e3⟩:=h0
    refine Cx.still hi rfl (fun _=>⟨rfl,rfl⟩) ho ?_ e3
    unfold RC.bir at e1
    rw [ho] at e1
    obtain ⟨dst,op,type,pos,after,guard⟩:=o
    have he':∀ w,(Op.equalIn 10000 t (.agg xs) (.agg ys)).run P w=.ok b w:=he
    simp only [Option.map_some] at e1
    split at e1
    · rename_i t' x y ty heq
      simp only [Option.some.injEq] at heq
      subst heq
      simp only [Option.some.injEq,Prod.mk.injEq] at e1
      obtain ⟨rfl,rfl,hx,hy⟩:=e1
      simp [execOp,hx,hy,run_eqGuard_agg w .eql t' x y xs ys e2,run_eql_struct,he']
    · rename_i t' x y ty heq
      simp only [Option.some.injEq] at heq
      subst heq
      simp only [Option.some.injEq,Prod.mk.injEq] at e1
      obtain ⟨rfl,rfl,hx,hy⟩:=e1
      simp [execOp,hx,hy,run_eqGuard_agg w .neq t' x y xs ys e2,run_neq_struct,he']
    · cases e1
def isn (neq:Bool) (s:Gh→SV):Hint P where
  d:={ val:=fun G=>.bool (bif neq then !(s G).a.isNone else (s G).a.isNone) }
  τ:=Option (Bool × TypeId × Value × Value) × Bool × Value
  lhs c i G _ _:=(c.R.bir G i,((c.R.bir G i).bind fun p=>sliceOf P p.2.1).isSome,c.R.val i (RC.put G i {}))
  rhs c i G _ _:=(some (neq,((c.R.bir G i).elim 0 fun p=>p.2.1),(s G).v,.slice none 0 0),true,.bool (bif neq then !(s G).a.isNone else (s G).a.isNone))
  sound c i _ _ hi h:=fun o ho G w hs=>by
    have h0:=h G {} w
    simp only [Prod.mk.injEq] at h0
    obtain ⟨e1,e2,e3⟩:=h0
    refine Cx.still hi rfl (fun _=>⟨rfl,rfl⟩) ho ?_ e3
    rw [e1] at e2
    simp only [Option.bind_some] at e2
    obtain ⟨d,hd⟩:=Option.isSome_iff_exists.1 e2
    have hu:=slice_of hd
    generalize hT:((c.R.bir G i).elim 0 fun p=>p.2.1)=T at *
    unfold RC.bir at e1
    rw [ho] at e1
    obtain ⟨dst,op,type,pos,after,guard⟩:=o
    simp only [Option.map_some] at e1
    split at e1
    · rename_i t' x y ty heq
      simp only [Option.some.injEq] at heq
      subst heq
      simp only [Option.some.injEq,Prod.mk.injEq] at e1
      obtain ⟨rfl,rfl,hx,hy⟩:=e1
      simp [execOp,hx,hy,eqGuard,binOp,run_equal_slice_nil w t' d _ _ _ hu]
    · rename_i t' x y ty heq
      simp only [Option.some.injEq] at heq
      subst heq
      simp only [Option.some.injEq,Prod.mk.injEq] at e1
      obtain ⟨rfl,rfl,hx,hy⟩:=e1
      simp [execOp,hx,hy,eqGuard,binOp,run_equal_slice_nil w t' d _ _ _ hu]
    · cases e1
def cp {g:Prop} (Γ:GdI g) (n f:Nat) (qs:List Kv) {args:Gh→Array Value} {v:Gh→Value} (ct:g→∀ G,Cp P f (args G) (qs.map (Kv.fp G)) (v G)):Hint P :=
  call Γ n f false [] [] qs args (fun _=>[]) (fun G _=>v G) (fun _ _=>[]) (fun _ _=>[]) (fun _ _=>[]) ct
def ct {g:Prop} (Γ:GdI g) (n f:Nat) (ex:Bool) (rs ns:List Nat) (qs:List Kv) {args:Gh→Array Value} {L:Gh→List LE} {V:Gh→Rec→Value} {F':Gh→Rec→List FP} {L':Gh→Rec→List LE} {pu:Gh→Rec→List Prop}
    (h:g→∀ G,Ct P f (args G) (qs.map (Kv.fp G)) (L G) (V G) (F' G) (L' G) (pu G)):Hint P:=call Γ n f ex rs ns qs args L V F' L' pu h
end Hint

open Go
def tellK (P:Program) (kt:TypeId):Option TypeDesc × List (Bool × Nat × Option TypeDesc) × Bool:=match P.underlying kt with
  | some (.struct fs)=>(none,fs.toList.map fun f=>(f.name == "_", f.offset,P.underlying f.type),P.stoodInHeld kt)
  | d=>(d,[],false)
section
variable {κ α : Type} [DecidableEq κ]
def mfind (k:κ):List (κ × α)→Option (Nat × α)
  | []=>none
  | p :: m=>if k=p.1 then some (0,p.2) else (mfind k m).map fun q=>(q.1+1,q.2)
end
class MKey (κ:Type) [DecidableEq κ] where
  enc:κ→Value
  want:Option TypeDesc × List (Bool × Nat × Option TypeDesc) × Bool
  find:∀ {P:Program} {w:World} {kt:TypeId},tellK P kt=want→∀ {α:Type} (f:α→Value) (k:κ) (m:List (κ × α)) (es:List MapEntry),es.map (fun e=>(e.key,e.val))=m.map (fun p=>(enc p.1,f p.2))→(Instr.findKey kt (enc k) es).run P w=.ok ((mfind k m).map fun q=>(q.1,f q.2)) w
  check:∀ {P:Program} {w:World} {kt:TypeId},tellK P kt=want→∀ (k:κ) (e:Bool) (n:Nat),(Instr.checkKey e (n+2) kt (enc k)).run P w=.ok () w
  stays:∀ k,Instr.sameBits 10000 (enc k) (enc k)=true
section
variable {κ : Type} [DecidableEq κ]
theorem plain_under {P:Program} {kt:TypeId} {d:TypeDesc} (hd:(match d with | .struct _=>false | _=>true)=true) (h:tellK P kt=(some d,[],false)):P.underlying kt=some d:=by
  unfold tellK at h
  split at h
  · cases h
  · simpa using h
theorem find_plain {d:TypeDesc} {enc:κ→Value} (same:∀ a b,Instr.sameNow d (enc a) (enc b)=some (decide (a=b))) {α:Type} (f:α→Value) (k:κ):∀ (m:List (κ × α)) (es:List MapEntry) (i:Nat),es.map (fun e=>(e.key,e.val))=m.map (fun p=>(enc p.1,f p.2))→Instr.findNow d (enc k) es i=some ((mfind k m).map fun q=>(i+q.1,f q.2))
  | [],[],i,_=>rfl
  | [],_ :: _,i,h=>by simp at h
  | _ :: _,[],i,h=>by simp at h
  | p :: m,e :: es,i,h=>by
    simp only [List.map_cons,List.cons.injEq,Prod.mk.injEq] at h
    obtain ⟨⟨h1,h2⟩,h3⟩:=h
    unfold Instr.findNow
    rw [h1,same]
    unfold mfind
    by_cases e0:k=p.1
    · rw [if_pos e0,decide_eq_true e0]
      simp [h2]
    · rw [if_neg e0,decide_eq_false e0]
      simp only []
      rw [find_plain same f k m es (i+1) h3]
      cases mfind k m <;> simp
      omega
end
instance : MKey Int where
  enc := .int .i64
  want := (some (.int .i64), [], false)
  find h α f k m es he := by
    have hs : ∀ a b : Int, Instr.sameNow (.int .i64) (.int .i64 a) (.int .i64 b) = some (decide (a = b)) := fun a b => by
      show (if IntKind.i64 = IntKind.i64 then some (a == b) else none) = _
      rw [if_pos rfl]; rfl
    refine MapKept.run_findKey (plain_under rfl h) ?_
    rw [find_plain (enc := fun n : Int => Value.int .i64 n) hs f k m es 0 he]; cases mfind k m <;> simp
  check h k e n := MapKept.run_checkKey (plain_under rfl h) (show MapKept.IsKey (.int .i64) (.int .i64 k) from rfl) e (n + 1)
  stays k := MapKept.sameBits_self (d := .int .i64) (k := .int .i64 k) rfl 10000
instance : MKey ByteArray where
  enc := .string
  want := (some .string, [], false)
  find h α f k m es he := by
    have hs : ∀ a b : ByteArray, Instr.sameNow .string (.string a) (.string b) = some (decide (a = b)) := fun a b => by
      show some (a == b) = _
      rw [beq_bytes]
    refine MapKept.run_findKey (plain_under rfl h) ?_
    rw [find_plain (enc := fun s : ByteArray => Value.string s) hs f k m es 0 he]; cases mfind k m <;> simp
  check h k e n := MapKept.run_checkKey (plain_under rfl h) (show MapKept.IsKey .string (.string k) from trivial) e (n + 1)
  stays k := MapKept.sameBits_self (d := .string) (k := .string k) trivial 10000
section
variable {κ α : Type} [DecidableEq κ] [MKey κ]
def mlook (k:κ):List (κ × α)→Option α
  | []=>none
  | p :: m=>if k=p.1 then some p.2 else mlook k m
def mupd (k:κ) (x:α):List (κ × α)→List (κ × α)
  | []=>[(k,x)]
  | p :: m=>if k=p.1 then (k,x) :: m else p :: mupd k x m
theorem mlook_eq (k:κ):∀ m:List (κ × α),mlook k m=(mfind k m).map (·.2)
  | []=>rfl
  | p :: m=>by
    unfold mlook mfind
    split
    · rfl
    · rw [mlook_eq k m];cases mfind k m <;> rfl
theorem mupd_some {k:κ} {x:α}:∀ {m:List (κ × α)} {q:Nat × α},mfind k m=some q→mupd k x m=m.set q.1 (k,x)∧∃ y,m[q.1]?=some (k,y)
  | p :: m,q,h=>by
    unfold mfind at h
    unfold mupd
    split at h
    · rename_i e
      cases h
      rw [if_pos e]
      exact ⟨rfl,p.2,by simp [e]⟩
    · rename_i e
      rw [if_neg e]
      simp only [Option.map_eq_some_iff] at h
      obtain ⟨q',h1,rfl⟩:=h
      obtain ⟨h2,y,h3⟩:=mupd_some (x:=x) h1
      exact ⟨by rw [h2];rfl,y,by simpa using h3⟩
theorem mupd_none {k:κ} {x:α}:∀ {m:List (κ × α)},mfind k m=none→mupd k x m=m ++[(k,x)]
  | [],_=>rfl
  | p :: m,h=>by
    unfold mfind at h
    unfold mupd
    split at h
    · cases h
    · rename_i e
      rw [if_neg e]
      simp only [Option.map_eq_none_iff] at h
      rw [mupd_none h];rfl
theorem mupd_mem {k:κ} {x:α}:∀ {m:List (κ × α)} {p:κ × α},p ∈ mupd k x m→p=(k,x)∨p ∈ m
  | [],p,h=>by unfold mupd at h;exact .inl (by simpa using h)
  | q :: m,p,h=>by
    unfold mupd at h
    split at h
    · rcases List.mem_cons.1 h with h | h
      · exact .inl h
      · exact .inr (List.mem_cons_of_mem _ h)
    · rcases List.mem_cons.1 h with h | h
      · exact .inr (by rw [h];exact List.mem_cons_self)
      · rcases mupd_mem h with h | h
        · exact .inl h
        · exact .inr (List.mem_cons_of_mem _ h)
theorem mlook_upd {k:κ} {x:α} (k':κ):∀ m:List (κ × α),mlook k' (mupd k x m)=if k'=k then some x else mlook k' m
  | []=>by unfold mupd mlook;rfl
  | p :: m=>by
    unfold mupd
    by_cases e:k=p.1
    · rw [if_pos e]
      unfold mlook
      by_cases e2:k'=k
      · rw [if_pos e2,if_pos e2]
      · rw [if_neg e2,if_neg e2]
        rw [if_neg (by rw [←e];exact e2)]
    · rw [if_neg e]
      unfold mlook
      by_cases e2:k'=p.1
      · rw [if_pos e2,if_pos e2,if_neg (by rw [e2];exact fun h=>e h.symm)]
      · rw [if_neg e2,if_neg e2,mlook_upd k' m]
theorem mlook_mem {k:κ}:∀ {m:List (κ × α)} {y:α},mlook k m=some y→(k,y) ∈ m
  | p :: m,y,h=>by
    unfold mlook at h
    split at h
    · rename_i e;cases h;rw [e];exact List.mem_cons_self
    · exact List.mem_cons_of_mem _ (mlook_mem h)
theorem mupd_len {k:κ} {x:α} (m:List (κ × α)):(mupd k x m).length=m.length+(if (mlook k m).isSome then 0 else 1):=by
  rw [mlook_eq]
  cases h:mfind k m with
  | none=>rw [mupd_none h];simp
  | some q=>rw [(mupd_some h).1];simp
def MOb (f:α→Value) (m:List (κ × α)) (o:Obj):Prop:=∃ (es:Array MapEntry) (c:Nat),o=.map es c∧es.toList.map (fun e=>(e.key,e.val))=m.map (fun p=>(MKey.enc p.1,f p.2))
end
def mapOf (P:Program) (t:TypeId):Option (TypeId × TypeId):=match P.underlying t with
  | some (.map k e)=>some (k,e)
  | _=>none
theorem map_of {P:Program} {t k e:TypeId} (h:mapOf P t=some (k,e)):P.underlying t=some (.map k e):=by
  unfold mapOf at h
  split at h <;> simp_all
section
variable {κ α : Type} [DecidableEq κ] [MKey κ] {P : Program} {w : World} {t kt et : TypeId} {f : α → Value} {m : List (κ × α)} {b : Nat} {o : Obj} {k : κ} {x : α}
theorem find_run {es:List MapEntry} (hk:tellK P kt=MKey.want κ) (h:es.map (fun e=>(e.key,e.val))=m.map (fun p=>(MKey.enc p.1,f p.2))):(Instr.findKey kt (MKey.enc k) es).run P w=.ok ((mfind k m).map fun q=>(q.1,f q.2)) w :=
  MKey.find hk f k m es h
theorem stays_run:(Instr.keyThatStays (MKey.enc k) (MKey.enc k)).run P w=.ok (MKey.enc k) w:=by
  simp [Instr.keyThatStays,MKey.stays k]
theorem mu_run (hu:P.underlying t=some (.map kt et)) (hk:tellK P kt=MKey.want κ) (hm:MOb f m o) (hb:w.heap[b]?=some o) :
    ∃ o',(Instr.mapUpdate t (.map (some b)) (MKey.enc k) (f x)).run P w=.ok () (setBlk w b o')∧MOb f (mupd k x m) o':=by
  obtain ⟨es,c,rfl,hes⟩:=hm
  have hfk:=find_run (P:=P) (w:=w) (k:=k) hk hes
  cases hfd:mfind k m with
  | none =>
    rw [hfd] at hfk
    refine ⟨.map (es.push { key:=MKey.enc k,val:=f x,born:=c }) (c+1),?_,_,_,rfl,?_⟩
    · simp [Instr.mapUpdate,run_underlying hu,MapKept.run_getObj_map hb,MKey.check hk k,hfk,MapKept.run_setObj_map _ hb,Result.andThen,setBlk]
    · rw [mupd_none hfd]
      simp [hes]
  | some q =>
    rw [hfd] at hfk
    obtain ⟨hup,y,hy⟩:=mupd_some (x:=x) hfd
    have hlen:es.toList.length=m.length:=by have:=congrArg List.length hes;simpa using this
    have hql:q.1 < es.toList.length:=by rw [hlen];exact (List.getElem?_eq_some_iff.1 hy).1
    have hkey:(es[q.1]?).map (·.key)=some (MKey.enc k):=by
      have:=congrArg (fun l=>(l[q.1]?).map (·.1)) hes
      simp only [List.getElem?_map,hy,Option.map_map] at this
      simpa using this
    refine ⟨.map (es.modify q.1 fun e=>{ e with key:=MKey.enc k,val:=f x }) c,?_,_,_,rfl,?_⟩
    · simp [Instr.mapUpdate,run_underlying hu,MapKept.run_getObj_map hb,MKey.check hk k,hfk,hkey,stays_run,MapKept.run_setObj_map _ hb,Result.andThen,setBlk]
    · rw [hup,Array.toList_modify,List.map_set,← hes]
      refine List.ext_getElem? fun j=>?_
      simp only [List.getElem?_map,List.getElem?_set,List.getElem?_modify,List.length_map]
      by_cases e:q.1=j
      · subst e
        simp [hql]
        simp at hql
        rw [Array.getElem?_eq_getElem hql,if_pos hql];rfl
      · simp [e]
theorem lk_run {z:Value} {ok:Bool} (hu:P.underlying t=some (.map kt et)) (hk:tellK P kt=MKey.want κ) (hm:MOb f m o) (hb:w.heap[b]?=some o) (hz:(zeroValue et).run P w=.ok z w) :
    (Instr.lookup t (.map (some b)) (MKey.enc k) ok).run P w=.ok (if ok then .tuple #[((mlook k m).map f).getD z,.bool (mlook k m).isSome] else ((mlook k m).map f).getD z) w:=by
  obtain ⟨es,c,rfl,hes⟩:=hm
  have hfk:=find_run (P:=P) (w:=w) (k:=k) hk hes
  rw [mlook_eq]
  cases hfd:mfind k m with
  | none =>
    rw [hfd] at hfk
    simp [Instr.lookup,run_underlying hu,MapKept.run_getObj_map hb,MKey.check hk k,hfk,hz,Result.andThen]
  | some q =>
    rw [hfd] at hfk
    simp [Instr.lookup,run_underlying hu,MapKept.run_getObj_map hb,MKey.check hk k,hfk,Result.andThen]
theorem ml_run {ty:TypeId} (hu:P.underlying t=some (.map kt et)) (hm:MOb f m o) (hb:w.heap[b]?=some o):(Builtin.len_ #[t] ty #[.map (some b)]).run P w=.ok (.int .i64 (m.length:Int)) w:=by
  obtain ⟨es,c,rfl,hes⟩:=hm
  have hlen:es.size=m.length:=by have:=congrArg List.length hes;simpa using this
  simp [Builtin.len_,run_underlying hu,MapKept.run_getObj_map hb,goInt,Result.andThen,hlen]
end
section
variable {κ α : Type} [DecidableEq κ] [MKey κ] [Dat α]
def MP (a:Bool) (m:List (κ × α)) (b:Nat) (e:Ent) (H:Heaplet):Prop:=(∃ o,e=some (b,o)∧MOb (fun x:α=>aggV a (Dat.cells x)) m o)∧∀ p ∈ m,Dat.good H p.2
def mp (t a:Bool) (m:List (κ × α)) (b:Nat):LE:=.own t (MP a m b) (fun _ _ _ k h=>⟨h.1,fun p hp=>Dat.mono _ _ _ k (h.2 p hp)⟩) True (fun _ _ _=>trivial)
theorem mp_at {t a:Bool} {m:List (κ × α)} {b:Nat} {e:Ent} {N K:Heaplet} (h:(mp t a m b).at e N K):MP a m b e (bif t then N else K):=by
  cases t
  · exact h
  · exact h
end
def RC.mpu (R:RC) (G:Gh) (i:Nat):Option (TypeId × Value × Value × Value):=match (R.ops[i]?).map (fun o:Oper=>o.op) with
  | some (.mapUpdate t m k x)=>some (t,R.evalAt G i m,R.evalAt G i k,R.evalAt G i x)
  | some (.insert t m k x)=>some (t,R.evalAt G i m,R.evalAt G i k,R.evalAt G i x)
  | _=>none
def RC.mlk (R:RC) (G:Gh) (i:Nat):Option (TypeId × Value × Value × Bool):=match (R.ops[i]?).map (fun o:Oper=>o.op) with
  | some (.lookup t m k ok)=>some (t,R.evalAt G i m,R.evalAt G i k,ok)
  | _=>none
def RC.mln (R:RC) (G:Gh) (i:Nat):Option (TypeId × Value):=match (R.ops[i]?).map (fun o:Oper=>o.op) with
  | some (.call { callee:=.builtin .len,args,argTypes })=>match args.toList,argTypes.toList with
    | [x],[t]=>some (t,R.evalAt G i x)
    | _,_=>none
  | _=>none
def lkV (a ok:Bool) (x:List Value) (is:Bool):Value:=bif ok then .tuple #[aggV a x,.bool is] else aggV a x
namespace Hint
variable {P : Program} {κ α : Type} [DecidableEq κ] [MKey κ] [Dat α]
def mm (κ α:Type) [DecidableEq κ] [MKey κ] [Dat α] (n r:Nat) (a:Bool):Hint P where
  d:={ val:=fun G=>.map (some (G n).b),news:=[(r,fun G=>mp true a ([]:List (κ × α)) (G n).b,fun G=>some ((G n).b,.map #[] 0))] }
  τ:=Option (Result Next) × Nat
  lhs c i G _ w:=(c.R.ex P G i w,i)
  rhs _ _ _ _ w:=(some (.ok (.value (.map (some w.heap.size))) { w with heap:=w.heap.push (.map #[] 0) }),n)
  sound c i ok hil hi h:=fun o ho G w hs=>by
    have h0:=h G { b:=w.heap.size } w
    simp only [Prod.mk.injEq,RC.ex,ho,Option.map_some,Option.some.injEq] at h0
    obtain ⟨e1,rfl⟩:=h0
    unfold Does
    rw [e1]
    have hv:=Cx.vis_self (c:=c) (i:=i) (G:=G) { b:=w.heap.size }
    refine ⟨{ b:=w.heap.size },left_turn ok hil hi hs (e1:=some (w.heap.size,.map #[] 0)) rfl rfl rfl grows_push ?_ ?_ rfl rfl ?_⟩
    · show some _=_
      rw [hv]
    · show MP _ _ _ _ _
      rw [hv]
      exact ⟨⟨_,rfl,#[],0,rfl,rfl⟩,fun p hp=>by cases hp⟩
    · rw [Cx.valOf hi]
      show Value.map _=_
      rw [hv]
def mu (n r:Nat) (tt kt et:TypeId) (t a:Bool) (m:List (κ × α)) (b:Gh→Nat) (k:κ) (x:α) (m2:List (κ × α)) (hm:m2=mupd k x m) (t2:Bool) (ht:t2=true→t=true) (qs:List Kv) (hq:∀ G H,allR qs G H→Dat.good H x):Hint P where
  d:={ val:=fun _=>undef,news:=[(r,fun G=>mp t2 a m2 (b G),fun G=>(G n).e)] }
  τ:=Option (TypeId × Value × Value × Value) × Option (TypeId × TypeId) × (Option TypeDesc × List (Bool × Nat × Option TypeDesc) × Bool) × Option LE × Nat × Bool × List (Option (Bool × (Ent→Heaplet→Prop)) × Bool) × Nat
  lhs c i G g _:=(c.R.mpu G i,mapOf P tt,tellK P kt,c.leAt i r G,i,tOk t2 qs,qs.map (Kv.chk c i G),b (c.R.vis i (RC.put G i g)))
  rhs _ _ G _ _:=(some (tt,.map (some (b G)),MKey.enc k,aggV a (Dat.cells x)),some (kt,et),MKey.want κ,some (mp t a m (b G)),n,true,qs.map (Kv.want G),b G)
  sound c i ok hil hi h0:=fun o ho G w hs=>by
    have h1:=fun g=>h0 G g w
    simp only [Prod.mk.injEq] at h1
    obtain ⟨e1,e2,e3,e4,rfl,e6,e7,_⟩:=h1 {}
    have hw:c.R.wrE r i=true:=by unfold RC.wrE;rw [Cx.upsOf hi];simp
    obtain ⟨en,a1,a2,a3⟩:=Cx.own_at ok hil hs e4 (by rw [hw];simp)
    obtain ⟨⟨ob,rfl,hob⟩,hgood⟩:=mp_at a2
    have hb:=a3 (b G) ob rfl
    have hlt:=RC.heap_lt hb
    obtain ⟨o',hr,hob'⟩:=mu_run (P:=P) (w:=w) (k:=k) (x:=x) (map_of e2) e3 hob hb
    have hg:Grows (some (b G,ob)) (some (b G,o')) w (setBlk w (b G) o') :=
      ⟨fun b' o2 hbo=>by cases hbo;simp [setBlk,hlt],fun b' o2 hbo=>by cases hbo;exact .inr ⟨_,rfl⟩,⟨rfl,rfl,rfl,by simp [setBlk],fun j hj hn=>by
        have:b G≠j:=fun e=>hn (by subst e;simp)
        simp [setBlk,Array.getElem?_setIfInBounds_ne this]⟩⟩
    have hrun:(execOp (c.R.evalAt G i) o).run P w=.ok .skip (setBlk w (b G) o'):=by
      unfold RC.mpu at e1
      rw [ho] at e1
      obtain ⟨dst,op,type,pos,after,guard⟩:=o
      cases op <;> simp only [Option.map_some] at e1 <;> first | cases e1 | skip
      all_goals
        simp only [Option.some.injEq,Prod.mk.injEq] at e1
        obtain ⟨rfl,h1,h2,h3⟩:=e1
        simp [execOp,h1,h2,h3,hr]
    unfold Does
    rw [hrun]
    have hv:=Cx.vis_self (c:=c) (i:=i) (G:=G) { e:=some (b G,o') }
    have hbv:=(h1 { e:=some (b G,o') }).2.2.2.2.2.2.2
    refine ⟨{ e:=some (b G,o') },left_turn ok hil hi hs rfl rfl a1 hg ?_ ?_ rfl rfl (by rw [Cx.valOf hi])⟩
    · show (c.R.vis i (RC.put G i { e:=some (b G,o') }) i).e=_
      rw [hv]
    · have key:∀ H,(∀ p ∈ m,Dat.good H p.2)→Dat.good H x→MP a m2 (b G) (some (b G,o')) H:=fun H h1 h2=>⟨⟨_,rfl,hm ▸ hob'⟩,fun p hp=>by
        rw [hm] at hp
        rcases mupd_mem hp with hp | hp
        · rw [hp];exact h2
        · exact h1 p hp⟩
      have hgx:=hq G _ (allR_of ok hil hs e7 e6)
      show bif t2 then MP _ _ _ _ _ else MP _ _ _ _ _
      rw [hv,hbv]
      cases t2 with
      | true=>rw [ht rfl] at hgood;exact key _ hgood hgx
      | false=>exact key _ (fun p hp=>by
          cases t with
          | true=>exact Dat.mono _ _ _ (Cx.J_true_le hs false) (hgood p hp)
          | false=>exact hgood p hp) hgx
def lk (r:Nat) (tt kt et:TypeId) (t a ok:Bool) (m:List (κ × α)) (b:Gh→Nat) (k:κ) (x:α) (hx:x=(mlook k m).getD default) (is:Bool) (his:is=(mlook k m).isSome) (nest:Bool):Hint P where
  d:={ val:=fun _=>lkV a ok (Dat.cells x) is,rds:=[r],facts:=fun _=>bif nest then [gf t x] else [] }
  τ:=Option (TypeId × Value × Value × Bool) × Option (TypeId × TypeId) × (Option TypeDesc × List (Bool × Nat × Option TypeDesc) × Bool) × Option LE × Result Value
  lhs c i G _ w:=(c.R.mlk G i,mapOf P tt,tellK P kt,c.leAt i r G,(zeroValue et).run P w)
  rhs _ _ G _ w:=(some (tt,.map (some (b G)),MKey.enc k,ok),some (kt,et),MKey.want κ,some (mp t a m (b G)),.ok (aggV a (Dat.cells (default:α))) w)
  sound c i ok' hil hi h0:=fun o ho G w hs=>by
    have h1:=h0 G {} w
    simp only [Prod.mk.injEq] at h1
    obtain ⟨e1,e2,e3,e4,e5⟩:=h1
    obtain ⟨en,a1,a2,a3⟩:=Cx.own_at ok' hil hs e4 (by rw [Cx.c_of hi];simp [HintD.cert])
    obtain ⟨⟨ob,rfl,hob⟩,hgood⟩:=mp_at a2
    have hb:=a3 (b G) ob rfl
    have hr:=lk_run (P:=P) (w:=w) (k:=k) (ok:=ok) (map_of e2) e3 hob hb e5
    have hval:(if ok then .tuple #[((mlook k m).map fun x:α=>aggV a (Dat.cells x)).getD (aggV a (Dat.cells (default:α))),.bool (mlook k m).isSome] else ((mlook k m).map fun x:α=>aggV a (Dat.cells x)).getD (aggV a (Dat.cells (default:α))))=lkV a ok (Dat.cells x) is:=by
      unfold lkV
      rw [hx,his]
      cases mlook k m <;> cases ok <;> rfl
    rw [hval] at hr
    have hrun:(execOp (c.R.evalAt G i) o).run P w=.ok (.value (lkV a ok (Dat.cells x) is)) w:=by
      unfold RC.mlk at e1
      rw [ho] at e1
      obtain ⟨dst,op,type,pos,after,guard⟩:=o
      cases op <;> simp only [Option.map_some] at e1 <;> first | cases e1 | skip
      case lookup t' m' k' ok2 =>
        simp only [Option.some.injEq,Prod.mk.injEq] at e1
        obtain ⟨rfl,h1,h2,rfl⟩:=e1
        simp [execOp,h1,h2,hr]
    unfold Does
    rw [hrun]
    obtain ⟨a4,a5,_⟩:=ahead ok' hil hs (g:={}) no_H
    have hgx:∀ H,(∀ p ∈ m,Dat.good H p.2)→Dat.good H x:=fun H hH=>by
      rw [hx]
      cases hl:mlook k m with
      | none=>exact Dat.zero H
      | some y=>exact hH _ (mlook_mem hl)
    refine ⟨{},left_grow ok' hil hi hs rfl (Base.refl _ _) (fun b o h=>by cases h) no_H (fun f hf'=>?_) trivial ?_⟩
    · cases nest with
      | false=>cases hf'
      | true =>
        have hf':f=gf t x:=by simpa using hf'
        subst hf'
        show bif t then _ else _
        cases t
        · exact Dat.mono _ _ _ a5 (hgx _ hgood)
        · exact Dat.mono _ _ _ a4 (hgx _ hgood)
    · rw [Cx.valOf hi]
def ml (r:Nat) (tt kt et:TypeId) (t a:Bool) (m:List (κ × α)) (b:Gh→Nat):Hint P where
  d:={ val:=fun _=>.int .i64 (m.length:Int),rds:=[r] }
  τ:=Option (TypeId × Value) × Option (TypeId × TypeId) × Option LE
  lhs c i G _ _:=(c.R.mln G i,mapOf P tt,c.leAt i r G)
  rhs _ _ G _ _:=(some (tt,.map (some (b G))),some (kt,et),some (mp t a m (b G)))
  sound c i ok' hil hi h0:=fun o ho G w hs=>by
    have h1:=h0 G {} w
    simp only [Prod.mk.injEq] at h1
    obtain ⟨e1,e2,e4⟩:=h1
    obtain ⟨en,a1,a2,a3⟩:=Cx.own_at ok' hil hs e4 (by rw [Cx.c_of hi];simp [HintD.cert])
    obtain ⟨⟨ob,rfl,hob⟩,hgood⟩:=mp_at a2
    have hb:=a3 (b G) ob rfl
    refine Cx.still hi rfl (fun _=>⟨rfl,rfl⟩) ho (x:=.int .i64 (m.length:Int)) ?_ (by rw [Cx.valOf hi])
    unfold RC.mln at e1
    rw [ho] at e1
    obtain ⟨dst,op,type,pos,after,guard⟩:=o
    simp only [Option.map_some] at e1
    split at e1
    · rename_i args argTypes heq
      simp only [Option.some.injEq] at heq
      subst heq
      split at e1
      · rename_i x t' hx ht
        simp only [Option.some.injEq,Prod.mk.injEq] at e1
        obtain ⟨rfl,hv⟩:=e1
        obtain ⟨l,rfl⟩:∃ l:List Operand,args=l.toArray:=⟨args.toList,by simp⟩
        obtain ⟨l2,rfl⟩:∃ l:List TypeId,argTypes=l.toArray:=⟨argTypes.toList,by simp⟩
        simp only at hx ht
        subst hx ht
        simp [execOp,resolve,invoke,builtin,hv,ml_run (P:=P) (w:=w) (ty:=type) (map_of e2) hob hb]
      · cases e1
    · cases e1
end Hint
theorem V.trm {P:Program} {E:Env P} {S:Stop} {t:St} {κ α:Type} [DecidableEq κ] [MKey κ] [Dat α] (a:Bool) (m:List (κ × α)) (b r:Nat) (hr:t.L[r]?=some (mp false a m b)) (hg:∀ (H:Heaplet) (x:α),Dat.good H x) (k:V E S ⟨t.sl,t.F,t.L.set r (mp true a m b)⟩):V E S t:=fun N ε ac w hin=>by
  have hlt:r < t.L.length:=(List.getElem?_eq_some_iff.1 hr).1
  have hents:ents (t.L.set r (mp true a m b)) ε=ents t.L ε:=by
    refine List.ext_getElem? fun j=>?_
    rw [ents_get,ents_get,List.getElem?_set]
    by_cases e:r=j
    · subst e;rw [if_pos rfl,if_pos hlt,hr];rfl
    · rw [if_neg e]
  refine k N ε ac w ⟨hin.slots,by rw [hents];exact hin.st,hin.new,hin.facts,fun j y hy=>?_⟩
  rw [List.getElem?_set] at hy
  by_cases e:r=j
  · subst e
    rw [if_pos rfl,if_pos hlt] at hy
    cases hy
    have:=hin.own r _ hr
    exact ⟨(this:MP a m b _ _).1,fun p _=>hg _ _⟩
  · rw [if_neg e] at hy
    exact hin.own j y hy

open Go
def RC.bnr (R:RC) (G:Gh) (i:Nat):Option (BinOp × Value × Value):=match (R.ops[i]?).map (fun o:Oper=>o.op) with
  | some (.binOp op _ x y _)=>some (op,R.evalAt G i x,R.evalAt G i y)
  | _=>none
def noEq:BinOp→Bool
  | .eql=>false
  | .neq=>false
  | _=>true
theorem noEq_guard {P:Program} {op:BinOp} (h:noEq op=true) (T:TypeId) (x y:Operand) (a b:Value) (w:World):(eqGuard op T x y a b).run P w=.ok () w:=by
  cases op <;> first | exact absurd h (by decide) | rfl
theorem rem_run {P:Program} {T:TypeId} {w:World} {x y n:Int} (h0:0≤x) (hy:y≠0) (hn:n=x % y):(binOp .rem T (.int .i64 x) (.int .i64 y)).run P w=.ok (.int .i64 n) w:=by
  simp [binOp,Op.intDiv,hy,Int.tmod_eq_emod_of_nonneg h0,hn]
theorem quo_run {P:Program} {T:TypeId} {w:World} {x y n:Int} (h0:0≤x) (hy:0 < y) (hn:n=x / y) (hi:n≤9223372036854775807):(binOp .quo T (.int .i64 x) (.int .i64 y)).run P w=.ok (.int .i64 n) w:=by
  have hy':y≠0:=by omega
  have h3:0≤x / y:=Int.ediv_nonneg h0 (by omega)
  have hw:IntKind.i64.wrap (x.tdiv y)=n:=by rw [Int.tdiv_eq_ediv_of_nonneg h0,← hn,IntKind.wrap_i64];omega
  simp [binOp,Op.intDiv,hy',hw]
namespace Hint
variable {P : Program}
def bin {g:Prop} (Γ:GdI g) (op:BinOp) (x y v:Value) (h:g→∀ (T:TypeId) (w:World),(binOp op T x y).run P w=.ok v w):Hint P where
  d:={ val:=fun _=>v }
  τ:=Option (BinOp × Value × Value) × Value × Option Bool × Bool
  lhs c i G _ _:=(c.R.bnr G i,c.R.val i (RC.put G i {}),Γ.B.map fun _=>c.R.gd G i,noEq op)
  rhs _ _ _ _ _:=(some (op,x,y),v,Γ.B,true)
  sound c i _ _ hi h0:=fun o ho G w hs=>by
    have h1:=h0 G {} w
    simp only [Prod.mk.injEq] at h1
    obtain ⟨e1,e2,e3,e4⟩:=h1
    refine Cx.still hi rfl (fun _=>⟨rfl,rfl⟩) ho (x:=v) ?_ e2
    have hr:=h (Cx.gdOk Γ hs e3)
    unfold RC.bnr at e1
    rw [ho] at e1
    obtain ⟨dst,op',type,pos,after,guard⟩:=o
    cases op' <;> simp only [Option.map_some] at e1 <;> first | (simp at e1;done) | skip
    case binOp o2 t' x' y' b' =>
      simp only [Option.some.injEq,Prod.mk.injEq] at e1
      obtain ⟨rfl,h1,h2⟩:=e1
      simp [execOp,h1,h2,noEq_guard e4,hr]
def rmv {g:Prop} (Γ:GdI g) (x y n:Int) (hn:n=x % y) (h:g→0≤x∧0 < y):Hint P:=bin Γ .rem (.int .i64 x) (.int .i64 y) (.int .i64 n) fun hg _ _=>rem_run (h hg).1 (by have:=(h hg).2;omega) hn
def qov {g:Prop} (Γ:GdI g) (x y n:Int) (hn:n=x / y) (h:g→0≤x∧0 < y) (hi:g→n≤9223372036854775807):Hint P:=bin Γ .quo (.int .i64 x) (.int .i64 y) (.int .i64 n) fun hg _ _=>quo_run (h hg).1 (h hg).2 hn (hi hg)
def fro {α:Type} [Dat α] (n r:Nat) (E:TypeId) (t:Bool) (l:List α) (s:Gh→SV) (b:Int) (l2:List α) (hl:l2=l.take b.toNat) (h0:0≤b) (h1:b≤l.length):Hint P where
  d:={ val:=fun G=>((s G).sub (Dat.size α) 0 b.toNat).v,news:=[(r,fun G=>os t E l2 ((s G).sub (Dat.size α) 0 b.toNat),fun G=>(G n).e)] }
  τ:=Option (TypeId × Value × Option Value × Option Value × Bool) × Option Nat × SV × Option LE × Nat
  lhs c i G g _:=(c.R.slr G i,(sliceOf P (c.R.slt i)).bind (sizeT P),s (c.R.vis i (RC.put G i g)),c.leAt i r G,i)
  rhs c i G _ _:=(some (c.R.slt i,(s G).v,none,some (.int .i64 b),true),some (Dat.size α),s G,some (os t E l (s G)),n)
  sound c i ok hil hi h:=fun o ho G w hs=>by
    have h2:=fun g=>h G g w
    simp only [Prod.mk.injEq] at h2
    obtain ⟨e1,e2,_,e4,rfl⟩:=h2 {}
    simp only [Option.bind_eq_some_iff] at e2
    obtain ⟨E',e2,e6⟩:=e2
    have hw:c.R.wrE r i=true:=by unfold RC.wrE;rw [Cx.upsOf hi];simp
    obtain ⟨en,a1,a2,a3⟩:=Cx.own_at ok hil hs e4 (by rw [hw];simp)
    have own:OSl E (c.J i G t) l (s G).v en:=by
      unfold os ow LE.at at a2
      cases t <;> exact a2
    have hrun:=slice_does (w:=w) (lo:=none) (hi:=some b) (l:=0) (h:=b) ho e1 e2 e6 rfl rfl own.isSl (by omega) h0 h1
    unfold Does
    rw [hrun]
    have hv:=Cx.vis_self (c:=c) (i:=i) (G:=G) { e:=en }
    have hsv:=(h2 { e:=en }).2.2.1
    refine ⟨{ e:=en },left_turn ok hil hi hs rfl rfl a1 ⟨a3,fun b o hb=>.inr ⟨o,hb⟩,Base.refl _ _⟩ ?_ ?_ rfl rfl ?_⟩
    · show (c.R.vis i (RC.put G i { e:=en }) i).e=_
      rw [hv];rfl
    · have key:OSl E (c.J i G t) l2 ((s G).sub (Dat.size α) 0 b.toNat).v en:=by
        rw [hl];exact own.take (by omega)
      show bif t then OSl E _ l2 _ _ else OSl E _ l2 _ _
      rw [hv,hsv]
      cases t <;> exact key
    · rw [Cx.valOf hi]
      show SV.v _=_
      rw [hsv];rfl
def nrG {α:Type} [Dat α] (n:Nat) (t:Bool) (E:TypeId) (l:Gh→List α) (k:Nat) (hk:∀ G,(l G).length=k) (qs:List Kv) (hq:∀ G H,allR qs G H→∀ x ∈ l G,Dat.good H x) (arr:Gh→Array Value):Hint P where
  d:={ val:=fun G=>.slice (atB (G n).b) k k,facts:=fun G=>[fs t (l G) ⟨atB (G n).b,k,k⟩] }
  τ:=Option (Result Next) × Nat × List Value × Bool × Bool × List (Option (Bool × (Ent→Heaplet→Prop)) × Bool) × List α
  lhs c i G g w:=(c.R.ex P G i w,i,(arr G).toList,decide (k≤maxLen),tOk t qs,qs.map (Kv.chk c i G),l (c.R.vis i (RC.put G i g)))
  rhs _ _ G _ w:=(some (.ok (.value (.slice (atB w.heap.size) k k)) { w with heap:=w.heap.push (.cells (arr G) E) }),n,(rows (l G)).flatten,true,true,qs.map (Kv.want G),l G)
  sound c i ok hil hi h:=fun o ho G w hs=>by
    have h0:=fun g=>h G g w
    simp only [Prod.mk.injEq,RC.ex,ho,Option.map_some,Option.some.injEq] at h0
    obtain ⟨e1,rfl,e4,e5,e6,e7,_⟩:=h0 {}
    unfold Does
    rw [e1]
    have hv:=Cx.vis_self (c:=c) (i:=i) (G:=G) { b:=w.heap.size,H:=entH (some (w.heap.size,.cells (arr G) E)) }
    have e8:=(h0 { b:=w.heap.size,H:=entH (some (w.heap.size,.cells (arr G) E)) }).2.2.2.2.2.2
    have hfr:∀ b,entH (some (w.heap.size,.cells (arr G) E)) b≠none→w.heap.size≤b:=entH_new (w0:=w) fun b o he=>by cases he;exact Nat.le_refl _
    obtain ⟨a1,a2,a3,a4⟩:=ahead ok hil hs (g:={ b:=w.heap.size,H:=entH (some (w.heap.size,.cells (arr G) E)) }) hfr
    refine ⟨{ b:=w.heap.size,H:=entH (some (w.heap.size,.cells (arr G) E)) },left_grow ok hil hi hs rfl (base_push _ _) (entH_agrees (e:=some (w.heap.size,.cells (arr G) E)) fun b o he=>by cases he;exact push_get) hfr (fun f hf=>?_) trivial ?_⟩
    · have hf:f=fs t (l (c.R.vis i (RC.put G i { b:=w.heap.size,H:=entH (some (w.heap.size,.cells (arr G) E)) }))) ⟨atB (c.R.vis i (RC.put G i { b:=w.heap.size,H:=entH (some (w.heap.size,.cells (arr G) E)) }) i).b,k,k⟩:=by simpa using hf
      rw [hv,e8] at hf
      subst hf
      have key:∀ H K,Sub H K→Sub (entH (some (w.heap.size,.cells (arr G) E))) K→(∀ x ∈ l G,Dat.good H x)→RSl K (l G) (.slice (atB w.heap.size) k k):=fun H K k1 k2 hg=>(OSl.lit (E:=E) (g:=w.heap.size) hg (by rw [e4,hk,e5])).frozen k1 k2
      have hR:=hq G _ (allR_of ok hil hs e7 e6)
      show bif t then _ else _
      cases t
      · exact key _ _ a2 a4 hR
      · exact key _ _ a1 a3 hR
    · rw [Cx.valOf hi]
      show Value.slice _ _ _=_
      rw [hv]
def apG {α:Type} [Dat α] (n r:Nat) (E:TypeId) (bytes:Nat) (z t:Bool) (l:List α) (s:Gh→SV) (src:Src) (ts:Bool) (m:Gh→List α) (k:Nat) (hk:∀ G,(m G).length=k) (s2:Gh→SV) (t2:Bool) (hb:(l.length+k) * bytes≤140737488355328)
    (hz:z=true→l=[]∧∀ G,s G={}) (ht:t2=true→t=true∧ts=true):Hint P where
  d:={ val:=fun G=>(G n).s.v,news:=[(r,fun G=>os t2 E (l ++m G) (G n).s,fun G=>(G n).e)] }
  τ:=Option (TypeId × TypeId × Value × Value) × Option TypeId × Option (Nat × Nat × Option Nat) × Option LE × Nat × Bool × Bool × (Option (Bool × (Ent→Heaplet→Prop)) × Bool) × List α
  lhs c i G g _:=(c.R.apr G i,sliceOf P (c.R.apt G i),infoOf P E,c.leAt i r G,i,decide (0 < Dat.size α),decide (0 < bytes),src.what c i G,m (c.R.vis i (RC.put G i g)))
  rhs c i G _ _:=(some (c.R.apt G i,c.R.apt G i,(s G).v,(s2 G).v),some E,some (Dat.size α,bytes,some (Dat.size α)),some (nilOr t E l (s G) z),n,true,true,(some (ts,fun _ H=>RSl H (m G) (s2 G).v),true),m G)
  sound c i ok hil hi h:=fun o ho G w hs=>by
    have h0:=fun g=>h G g w
    simp only [Prod.mk.injEq] at h0
    obtain ⟨e1,e2,e3,e4,rfl,e6,e7,e8,_⟩:=h0 {}
    have hw:c.R.wrE r i=true:=by unfold RC.wrE;rw [Cx.upsOf hi];simp
    obtain ⟨en,a1,a2,a3⟩:=Cx.own_at ok hil hs e4 (by rw [hw];simp)
    obtain ⟨own,hgood⟩:=nilOr_own (fun hz'=>⟨(hz hz').1,(hz hz').2 G⟩) a2
    obtain ⟨e',q1,q2,_⟩:=Src.get ok hil hs e8
    have hx:RSl (c.J i G ts) (m G) (s2 G).v:=q1
    obtain ⟨v',en',w',hr,ho',hg⟩:=append_does ho e1 e2 e3 (of_decide_eq_true e6) (of_decide_eq_true e7) own a3 hx.sl (Cx.J_le hs ts) (by simpa [hk] using hb)
    obtain ⟨s',rfl⟩:=own_sv ho'
    unfold Does
    rw [hr]
    have hv:=Cx.vis_self (c:=c) (i:=i) (G:=G) { s:=s',e:=en' }
    have e9:=(h0 { s:=s',e:=en' }).2.2.2.2.2.2.2.2
    refine ⟨{ s:=s',e:=en' },left_turn ok hil hi hs rfl rfl a1 hg ?_ ?_ rfl rfl ?_⟩
    · show (c.R.vis i (RC.put G i { s:=s',e:=en' }) i).e=_
      rw [hv]
    · show bif t2 then OSl E _ _ _ _ else OSl E _ _ _ _
      rw [hv,e9]
      have ho2:OwnS E (Dat.size α) (rows (l ++m G)) s'.v en':=by rw [rows_append];exact ho'
      have fin:∀ x ∈ l ++m G,Dat.good (c.J i G t2) x:=fun x hx'=>by
        rcases List.mem_append.1 hx' with hx' | hx'
        · cases t2 with
          | true=>have:=hgood x hx';rw [(ht rfl).1] at this;exact this
          | false =>
            have:=hgood x hx'
            cases t
            · exact this
            · exact Dat.mono _ _ _ (Cx.J_true_le hs false) this
        · cases t2 with
          | true=>have:=hx.good x hx';rw [(ht rfl).2] at this;exact this
          | false=>exact Dat.mono _ _ _ (Cx.J_le_false hs _) (hx.good x hx')
      cases t2
      · exact ⟨ho2,fin⟩
      · exact ⟨ho2,fin⟩
    · rw [Cx.valOf hi]
      show SV.v _=_
      rw [hv]
end Hint

namespace Bg
def nv:List Int→Nat
  | []=>0
  | d :: l=>d.toNat+1048576 * nv l
def digF:Nat→Nat→List Int
  | 0,_=>[]
  | f+1,n=>if n=0 then [] else ((n % 1048576:Nat):Int) :: digF f (n / 1048576)
def dig (n:Nat):List Int:=digF n n
def Dg (l:List Int):Prop:=∀ d ∈ l,0≤d∧d < 1048576
instance (l : List Int) : Decidable (Dg l) := by unfold Dg; infer_instance
theorem digF_fuel:∀ (f g n:Nat),n≤f→n≤g→digF f n=digF g n
  | 0,0,_,_,_=>rfl
  | 0,g+1,n,h,_=>by
    have:n=0:=by omega
    subst this;simp [digF]
  | f+1,0,n,_,h=>by
    have:n=0:=by omega
    subst this;simp [digF]
  | f+1,g+1,n,h1,h2=>by
    unfold digF
    by_cases e:n=0
    · rw [if_pos e,if_pos e]
    · rw [if_neg e,if_neg e,digF_fuel f g (n / 1048576) (by omega) (by omega)]
theorem dig_zero:dig 0=[]:=rfl
theorem dig_pos {n:Nat} (h:n≠0):dig n=((n % 1048576:Nat):Int) :: dig (n / 1048576):=by
  unfold dig
  obtain ⟨m,rfl⟩:∃ m,n=m+1:=⟨n - 1,by omega⟩
  rw [digF,if_neg h,digF_fuel m _ ((m+1) / 1048576) (by omega) (Nat.le_refl _)]
theorem dig_Dg:∀ n:Nat,Dg (dig n):=fun n=>by
  induction n using Nat.strongRecOn with
  | _ n ih =>
    by_cases h:n=0
    · subst h;intro d hd;cases hd
    · rw [dig_pos h]
      intro d hd
      rcases List.mem_cons.1 hd with rfl | hd
      · omega
      · exact ih _ (by omega) d hd
theorem nv_dig:∀ n:Nat,nv (dig n)=n:=fun n=>by
  induction n using Nat.strongRecOn with
  | _ n ih =>
    by_cases h:n=0
    · subst h;rfl
    · rw [dig_pos h,nv,ih _ (by omega)]
      simp only [Int.toNat_natCast]
      omega
def Nz (l:List Int):Prop:=l.getLast?≠some 0
instance (l : List Int) : Decidable (Nz l) := by unfold Nz; infer_instance
theorem Dg.tail {d:Int} {l:List Int} (h:Dg (d :: l)):Dg l:=fun x hx=>h x (List.mem_cons_of_mem _ hx)
theorem Dg.head {d:Int} {l:List Int} (h:Dg (d :: l)):0≤d∧d < 1048576:=h d List.mem_cons_self
theorem dig_ne {n:Nat}:dig n=[]↔n=0:=⟨fun h=>by have:=congrArg nv h;rwa [nv_dig] at this,fun h=>by subst h;rfl⟩
theorem dig_Nz:∀ n:Nat,Nz (dig n):=fun n=>by
  induction n using Nat.strongRecOn with
  | _ n ih =>
    by_cases h:n=0
    · subst h;unfold Nz dig;simp [digF]
    · rw [dig_pos h]
      by_cases e:n / 1048576=0
      · rw [e];unfold Nz dig;simp [digF];omega
      · unfold Nz
        have h1:=ih (n / 1048576) (by omega)
        unfold Nz at h1
        rw [List.getLast?_cons]
        cases hl:(dig (n / 1048576)).getLast? with
        | none=>exact absurd (List.getLast?_eq_none_iff.1 hl) (fun h=>e (dig_ne.1 h))
        | some x=>rw [hl] at h1;simpa using h1
theorem eq_dig:∀ {l:List Int},Dg l→Nz l→l=dig (nv l)
  | [],_,_=>rfl
  | d :: l,h,hz=>by
    have hd:=h.head
    by_cases e:l=[]
    · subst e
      have h0:d≠0:=by intro e;subst e;exact hz rfl
      have e1:nv [d]=d.toNat:=by simp [nv]
      rw [e1,dig_pos (by omega),show d.toNat / 1048576=0 by omega,dig_zero]
      congr 1;omega
    · have hz':Nz l:=by
        unfold Nz at hz ⊢
        rw [List.getLast?_cons] at hz
        cases hl:l.getLast? with
        | none=>exact absurd (List.getLast?_eq_none_iff.1 hl) e
        | some x=>rw [hl] at hz;simpa using hz
      have ih:=eq_dig h.tail hz'
      have hn:nv l≠0:=fun h0=>by rw [h0] at ih;exact e ih
      have e1:nv (d :: l)=d.toNat+1048576 * nv l:=rfl
      rw [e1,dig_pos (by omega),show (d.toNat+1048576 * nv l) / 1048576=nv l by omega,← ih]
      congr 1;omega
theorem nv_append (a b:List Int):nv (a ++b)=nv a+1048576 ^ a.length * nv b:=by
  induction a with
  | nil=>simp [nv]
  | cons d a ih =>
    rw [List.cons_append,nv,nv,ih,List.length_cons,Nat.pow_succ,Nat.mul_add,Nat.mul_comm (1048576 ^ a.length) 1048576,Nat.mul_assoc]
    omega
theorem nv_zeros (n:Nat):nv (List.replicate n 0)=0:=by
  induction n with
  | zero=>rfl
  | succ n ih=>rw [List.replicate_succ,nv,ih];rfl
theorem nv_lt:∀ {l:List Int},Dg l→nv l < 1048576 ^ l.length
  | [],_=>by simp [nv]
  | d :: l,h=>by
    have ih:=nv_lt h.tail
    have hd:=h.head
    rw [nv,List.length_cons,Nat.pow_succ]
    omega
theorem nv_ge {l:List Int} (h:l≠[]) (hd:Dg l) (hz:Nz l):1048576 ^ (l.length - 1)≤nv l:=by
  have e:=List.dropLast_concat_getLast h
  have hx:l.getLast h≠0:=by
    intro h0;apply hz;rw [List.getLast?_eq_some_getLast h,h0]
  have hr:=hd _ (List.getLast_mem h)
  have h2:=nv_append l.dropLast [l.getLast h]
  rw [e,List.length_dropLast] at h2
  have h3:nv [l.getLast h]=(l.getLast h).toNat:=by simp [nv]
  rw [h2,h3]
  have:1≤(l.getLast h).toNat:=by omega
  have:=Nat.mul_le_mul_left (1048576 ^ (l.length - 1)) this
  omega
theorem nv_set:∀ {l:List Int} {i:Nat} (d:Int),i < l.length→nv (l.set i d)+1048576 ^ i * (l.getD i 0).toNat=nv l+1048576 ^ i * d.toNat
  | x :: l,0,d,_=>by simp [nv];omega
  | x :: l,i+1,d,h=>by
    have ih:=nv_set (l:=l) (i:=i) d (by simpa using h)
    rw [List.set_cons_succ,nv,nv,Nat.pow_succ,List.getD_cons_succ]
    generalize 1048576 ^ i=P at *
    rw [Nat.mul_comm P 1048576,Nat.mul_assoc,Nat.mul_assoc]
    omega
theorem nv_take:∀ {l:List Int} {i:Nat},i < l.length→nv (l.take (i+1))=nv (l.take i)+1048576 ^ i * (l.getD i 0).toNat
  | x :: l,0,_=>by simp [nv]
  | x :: l,i+1,h=>by
    have ih:=nv_take (l:=l) (i:=i) (by simpa using h)
    rw [List.take_succ_cons,List.take_succ_cons,nv,nv,ih,Nat.pow_succ,List.getD_cons_succ]
    generalize 1048576 ^ i=P at *
    rw [Nat.mul_comm P 1048576,Nat.mul_assoc]
    omega
theorem nv_drop:∀ {l:List Int} {i:Nat},i < l.length→nv (l.drop i)=(l.getD i 0).toNat+1048576 * nv (l.drop (i+1))
  | x :: l,0,_=>by simp [nv]
  | x :: l,i+1,h=>by
    rw [List.drop_succ_cons,List.drop_succ_cons,List.getD_cons_succ]
    exact nv_drop (l:=l) (i:=i) (by simpa using h)
theorem nv_split (l:List Int) (i:Nat):nv l=nv (l.take i)+1048576 ^ (min i l.length) * nv (l.drop i):=by
  have:=nv_append (l.take i) (l.drop i)
  rw [List.take_append_drop,List.length_take] at this
  exact this
theorem Dg.get {l:List Int} (h:Dg l) {i:Nat} (hi:i < l.length):0≤l.getD i 0∧l.getD i 0 < 1048576:=by
  have:l.getD i 0 ∈ l:=by simp [List.getD_eq_getElem?_getD,hi]
  exact h _ this
theorem Dg.append {a b:List Int} (h:Dg a) (k:Dg b):Dg (a ++b):=fun d hd=>by
  rcases List.mem_append.1 hd with hd | hd
  · exact h d hd
  · exact k d hd
theorem Dg.set {l:List Int} (h:Dg l) {i:Nat} {d:Int} (hd:0≤d∧d < 1048576):Dg (l.set i d):=fun x hx=>by
  rcases List.mem_or_eq_of_mem_set hx with hx | rfl
  · exact h x hx
  · exact hd
theorem Dg.take {l:List Int} (h:Dg l) (n:Nat):Dg (l.take n):=fun d hd=>h d (List.mem_of_mem_take hd)
theorem Dg.drop {l:List Int} (h:Dg l) (n:Nat):Dg (l.drop n):=fun d hd=>h d (List.mem_of_mem_drop hd)
theorem Dg.zeros (n:Nat):Dg (List.replicate n 0):=fun d hd=>by
  have:=List.eq_of_mem_replicate hd
  subst this;omega
theorem Dg.nil:Dg []:=fun d hd=>by cases hd
theorem Dg.one {d:Int} (h:0≤d∧d < 1048576):Dg [d]:=fun x hx=>by
  have:x=d:=by simpa using hx
  subst this;exact h
theorem trim_eq {l:List Int} {n:Nat} (h:Dg l) (hn:n≤l.length) (hz:∀ i,n≤i→i < l.length→l.getD i 0=0) (h0:n=0∨l.getD (n - 1) 0≠0):l.take n=dig (nv l):=by
  have e:l.drop n=List.replicate (l.length - n) 0:=by
    refine List.ext_getElem (by simp) fun i h1 h2=>?_
    simp only [List.length_drop] at h1
    have:=hz (n+i) (by omega) (by omega)
    simp only [List.getElem_drop,List.getElem_replicate]
    simpa [List.getD_eq_getElem?_getD,show n+i < l.length by omega] using this
  have e2:nv l=nv (l.take n):=by
    rw [nv_split l n,e,nv_zeros];omega
  rw [e2]
  refine eq_dig (h.take n) ?_
  unfold Nz
  rcases h0 with rfl | h0
  · simp
  · by_cases hn0:n=0
    · subst hn0;simp
    · rw [List.getLast?_eq_getElem?]
      simp only [List.length_take,Nat.min_eq_left hn]
      rw [List.getElem?_take,if_pos (by omega)]
      have hl:n - 1 < l.length:=by omega
      rw [List.getElem?_eq_getElem hl]
      intro hc
      apply h0
      simpa [List.getD_eq_getElem?_getD,hl] using hc
end Bg

namespace Bg
theorem nv_take' (l:List Int) (i:Nat):nv (l.take (i+1))=nv (l.take i)+1048576 ^ i * (l.getD i 0).toNat:=by
  by_cases h:i < l.length
  · exact nv_take h
  · rw [List.take_of_length_le (by omega),List.take_of_length_le (by omega)]
    simp [List.getD_eq_getElem?_getD,List.getElem?_eq_none (show l.length≤i by omega)]
theorem Dg.get' {l:List Int} (h:Dg l) (i:Nat):0≤l.getD i 0∧l.getD i 0 < 1048576:=by
  by_cases hi:i < l.length
  · exact h.get hi
  · simp [List.getD_eq_getElem?_getD,List.getElem?_eq_none (show l.length≤i by omega)]
theorem pow_succ' (i:Nat):1048576 ^ (i+1)=1048576 * 1048576 ^ i:=by rw [Nat.pow_succ,Nat.mul_comm]
theorem split_mul (P q r n:Nat) (h:r+1048576 * q=n):P * r+1048576 * P * q=P * n:=by
  rw [←h,Nat.mul_add,Nat.mul_comm 1048576 P,Nat.mul_assoc]
structure AddI (a b out:List Int) (i:Nat) (c:Int):Prop where
  len:out.length=a.length+1
  dg:Dg out
  hi:∀ j,i≤j→out.getD j 0=0
  c0:0≤c∧c≤1
  sum:nv out+1048576 ^ i * c.toNat=nv (a.take i)+nv (b.take i)
theorem getD_set {l:List Int} {i j:Nat} {x:Int} (h:i < l.length):(l.set i x).getD j 0=if j=i then x else l.getD j 0:=by
  simp only [List.getD_eq_getElem?_getD,List.getElem?_set]
  by_cases e:i=j
  · subst e;simp [h]
  · rw [if_neg e,if_neg (fun h=>e h.symm)]
theorem add_start (a b:List Int):AddI a b (List.replicate (a.length+1) 0) 0 0 :=
  ⟨by simp,Dg.zeros _,fun j _=>by simp [List.getD_eq_getElem?_getD,List.getElem?_replicate];split <;> rfl,by omega,by rw [nv_zeros];simp [nv]⟩
theorem add_step {a b out:List Int} {i:Nat} {c x:Int} (h:AddI a b out i c) (ha:Dg a) (hb:Dg b) (hi:i < a.length) (hx:x=c+a.getD i 0+b.getD i 0):AddI a b (out.set i (x % 1048576)) (i+1) (x / 1048576):=by
  have b1:=ha.get' i
  have b2:=hb.get' i
  have b3:=h.c0
  have hl:=h.len
  have hil:i < out.length:=by omega
  refine ⟨by rw [List.length_set];exact hl,h.dg.set (by omega),fun j hj=>?_,by omega,?_⟩
  · rw [getD_set hil,if_neg (by omega)];exact h.hi j (by omega)
  · have e1:=nv_set (x % 1048576) hil
    have e2:=nv_take' a i
    have e3:=nv_take' b i
    have e4:=h.sum
    rw [h.hi i (Nat.le_refl _)] at e1
    rw [e2,e3,pow_succ']
    have e5:=split_mul (1048576 ^ i) (x / 1048576).toNat (x % 1048576).toNat (c.toNat+(a.getD i 0).toNat+(b.getD i 0).toNat) (by omega)
    rw [Nat.mul_add,Nat.mul_add] at e5
    simp only [Int.toNat_zero,Nat.mul_zero] at e1
    omega
theorem add_end {a b out:List Int} {c:Int} (h:AddI a b out a.length c) (hb:b.length≤a.length):Dg (out.set a.length c)∧nv (out.set a.length c)=nv a+nv b:=by
  have hl:=h.len
  have b3:=h.c0
  refine ⟨h.dg.set (by omega),?_⟩
  have e1:=nv_set c (show a.length < out.length by omega)
  have e4:=h.sum
  rw [h.hi _ (Nat.le_refl _)] at e1
  rw [List.take_length,List.take_of_length_le hb] at e4
  simp only [Int.toNat_zero,Nat.mul_zero] at e1
  omega
structure SubI (a b out:List Int) (i:Nat) (c:Int):Prop where
  len:out.length=a.length
  dg:Dg out
  c0:0≤c∧c≤1
  sum:nv out+nv (b.take i)=nv a+1048576 ^ i * c.toNat
theorem sub_start (a b:List Int) (h:Dg a):SubI a b a 0 0:=⟨rfl,h,by omega,by simp [nv]⟩
theorem sub_step {a b out:List Int} {i:Nat} {c x:Int} (h:SubI a b out i c) (hb:Dg b) (hi:i < a.length) (hx:x=out.getD i 0 - c - b.getD i 0):SubI a b (out.set i (x % 1048576)) (i+1) (x / 1048576 % 2):=by
  have b1:=h.dg.get' i
  have b2:=hb.get' i
  have b3:=h.c0
  have hl:=h.len
  have hil:i < out.length:=by omega
  refine ⟨by rw [List.length_set];exact hl,h.dg.set (by omega),by omega,?_⟩
  have e1:=nv_set (x % 1048576) hil
  have e3:=nv_take' b i
  have e4:=h.sum
  rw [e3,pow_succ']
  have e5:(x % 1048576).toNat+(b.getD i 0).toNat+c.toNat=(out.getD i 0).toNat+1048576 * (x / 1048576 % 2).toNat:=by omega
  have e6:=congrArg (fun n=>1048576 ^ i * n) e5
  simp only [Nat.mul_add] at e6
  rw [←Nat.mul_assoc,Nat.mul_comm (1048576 ^ i) 1048576] at e6
  omega
theorem len_le {a b:List Int} (ha:Dg a) (hb:Dg b) (hz:Nz b) (h:nv b≤nv a):b.length≤a.length:=by
  by_cases e:b=[]
  · subst e;simp
  · have h1:=nv_ge e hb hz
    have h2:=nv_lt ha
    refine Decidable.by_contra fun hc=>?_
    have:1048576 ^ a.length≤1048576 ^ (b.length - 1):=Nat.pow_le_pow_right (by omega) (by omega)
    omega
theorem sub_end {a b out:List Int} {c:Int} (h:SubI a b out a.length c) (hb:b.length≤a.length) (hle:nv b≤nv a):nv out=nv a - nv b:=by
  have e4:=h.sum
  rw [List.take_of_length_le hb] at e4
  have h2:=nv_lt h.dg
  rw [h.len] at h2
  have b3:=h.c0
  have hc:c.toNat=0∨c.toNat=1:=by omega
  rcases hc with hc | hc <;> rw [hc] at e4 <;> omega
structure MulO (a b out:List Int) (i:Nat):Prop where
  len:out.length=a.length+b.length
  dg:Dg out
  hi:∀ j,i+b.length≤j→out.getD j 0=0
  sum:nv out=nv (a.take i) * nv b
structure MulI (a b out:List Int) (i k:Nat) (c:Int):Prop where
  len:out.length=a.length+b.length
  dg:Dg out
  hi:∀ j,i+b.length≤j→out.getD j 0=0
  c0:0≤c∧c < 1048576
  sum:nv out+1048576 ^ (i+k) * c.toNat=nv (a.take i) * nv b+1048576 ^ i * ((a.getD i 0).toNat * nv (b.take k))
theorem mul_start (a b:List Int):MulO a b (List.replicate (a.length+b.length) 0) 0 :=
  ⟨by simp,Dg.zeros _,fun j _=>by simp [List.getD_eq_getElem?_getD,List.getElem?_replicate];split <;> rfl,by rw [nv_zeros];simp [nv]⟩
theorem MulO.inner {a b out:List Int} {i:Nat} (h:MulO a b out i):MulI a b out i 0 0:=⟨h.len,h.dg,h.hi,by omega,by rw [h.sum];simp [nv]⟩
theorem mul_step {a b out:List Int} {i k:Nat} {c x:Int} (h:MulI a b out i k c) (ha:Dg a) (hb:Dg b) (hi:i < a.length) (hk:k < b.length) (hx:x=out.getD (i+k) 0+a.getD i 0 * b.getD k 0+c) :
    (0≤x∧x < 1099511627776)∧MulI a b (out.set (i+k) (x % 1048576)) i (k+1) (x / 1048576):=by
  have b1:=h.dg.get' (i+k)
  have b2:=ha.get' i
  have b3:=hb.get' k
  have b4:=h.c0
  have hl:=h.len
  have hil:i+k < out.length:=by omega
  have p0:0≤a.getD i 0 * b.getD k 0:=Int.mul_nonneg b2.1 b3.1
  have p1:a.getD i 0 * b.getD k 0≤1048575 * 1048575:=Int.mul_le_mul (by omega) (by omega) b3.1 (by omega)
  have ex:x.toNat=(out.getD (i+k) 0).toNat+(a.getD i 0).toNat * (b.getD k 0).toNat+c.toNat:=by
    have:(a.getD i 0 * b.getD k 0).toNat=(a.getD i 0).toNat * (b.getD k 0).toNat:=Int.toNat_mul b2.1 b3.1
    rw [←this];omega
  refine ⟨by omega,by rw [List.length_set];exact hl,h.dg.set (by omega),fun j hj=>?_,by omega,?_⟩
  · rw [getD_set hil,if_neg (by omega)];exact h.hi j (by omega)
  · have e1:=nv_set (x % 1048576) hil
    have e3:=nv_take' b k
    have e4:=h.sum
    rw [e3,show i+(k+1)=(i+k)+1 by omega,pow_succ']
    have e5:=split_mul (1048576 ^ (i+k)) (x / 1048576).toNat (x % 1048576).toNat x.toNat (by omega)
    rw [ex,Nat.mul_add,Nat.mul_add] at e5
    have e6:1048576 ^ i * ((a.getD i 0).toNat * (nv (b.take k)+1048576 ^ k * (b.getD k 0).toNat))=1048576 ^ i * ((a.getD i 0).toNat * nv (b.take k))+1048576 ^ (i+k) * ((a.getD i 0).toNat * (b.getD k 0).toNat):=by
      rw [Nat.mul_add,Nat.mul_add,Nat.pow_add,Nat.mul_assoc,Nat.mul_left_comm (a.getD i 0).toNat]
    rw [e6]
    omega
theorem mul_end {a b out:List Int} {i:Nat} {c x:Int} (h:MulI a b out i b.length c) (hi:i < a.length) (hx:x=out.getD (i+b.length) 0+c):MulO a b (out.set (i+b.length) x) (i+1):=by
  have hl:=h.len
  have b4:=h.c0
  have hil:i+b.length < out.length:=by omega
  rw [h.hi _ (Nat.le_refl _)] at hx
  have hxc:x=c:=by omega
  subst hxc
  refine ⟨by rw [List.length_set];exact hl,h.dg.set b4,fun j hj=>?_,?_⟩
  · rw [getD_set hil,if_neg (by omega)];exact h.hi j (by omega)
  · have e1:=nv_set x hil
    have e4:=h.sum
    rw [h.hi _ (Nat.le_refl _)] at e1
    rw [List.take_length] at e4
    rw [nv_take',Nat.add_mul,Nat.mul_assoc]
    simp only [Int.toNat_zero,Nat.mul_zero] at e1
    omega
structure ShoI (a out:List Int) (d:Int) (i:Nat) (r:Int):Prop where
  len:out.length=a.length
  dg:Dg out
  r0:0≤r∧r < d
  sum:nv (a.drop i)=d.toNat * nv (out.drop i)+r.toNat
theorem sho_start (a:List Int) {d:Int} (hd:0 < d):ShoI a (List.replicate a.length 0) d a.length 0:=⟨by simp,Dg.zeros _,by omega,by simp [nv]⟩
theorem sho_step {a out:List Int} {d r x:Int} {i:Nat} (h:ShoI a out d (i+1) r) (ha:Dg a) (hd:0 < d∧d < 1048576) (hi:i < a.length) (hx:x=r * 1048576+a.getD i 0) :
    (0≤x∧x < 1099511627776)∧(0≤x / d∧x / d < 1048576)∧ShoI a (out.set i (x / d)) d i (x % d):=by
  have b1:=ha.get' i
  have b2:=h.r0
  have hl:=h.len
  have q0:0≤x / d:=Int.ediv_nonneg (by omega) (by omega)
  have q1:x / d < 1048576:=Int.ediv_lt_of_lt_mul (by omega) (by
    have:(r+1) * 1048576≤d * 1048576:=Int.mul_le_mul_of_nonneg_right (by omega) (by omega)
    rw [Int.mul_comm 1048576 d];omega)
  refine ⟨by omega,⟨q0,q1⟩,by rw [List.length_set];exact hl,h.dg.set ⟨q0,q1⟩,⟨Int.emod_nonneg _ (by omega),Int.emod_lt_of_pos _ (by omega)⟩,?_⟩
  have hil:i < out.length:=by omega
  rw [nv_drop hi,nv_drop (l:=out.set i (x / d)) (by rw [List.length_set];exact hil),getD_set hil,if_pos rfl,h.sum]
  have e:(out.set i (x / d)).drop (i+1)=out.drop (i+1):=by rw [List.drop_set,if_pos (by omega)]
  rw [e]
  have e2:=Int.mul_ediv_add_emod x d
  have e4:0≤x % d:=Int.emod_nonneg _ (by omega)
  have e3:(a.getD i 0).toNat+1048576 * r.toNat=d.toNat * (x / d).toNat+(x % d).toNat:=by
    have:d.toNat * (x / d).toNat=(d * (x / d)).toNat:=(Int.toNat_mul (by omega) q0).symm
    have h5:0≤d * (x / d):=Int.mul_nonneg (by omega) q0
    rw [this];omega
  rw [Nat.mul_add,Nat.mul_add,Nat.mul_left_comm d.toNat]
  omega
theorem sho_end {a out:List Int} {d r:Int} (h:ShoI a out d 0 r):nv out=nv a / d.toNat∧r=((nv a % d.toNat:Nat):Int):=by
  have e:=h.sum
  rw [List.drop_zero,List.drop_zero] at e
  have hr:=h.r0
  have hd:0 < d.toNat:=by omega
  rw [e,Nat.mul_add_div hd,Nat.mul_add_mod,Nat.div_eq_of_lt (by omega),Nat.mod_eq_of_lt (by omega)]
  omega
end Bg

namespace Bg
def digL:Nat→Nat→List Int
  | 0,_=>[]
  | L+1,n=>((n % 1048576:Nat):Int) :: digL L (n / 1048576)
@[simp] theorem digL_len:∀ L n,(digL L n).length=L
  | 0,_=>rfl
  | L+1,n=>by simp [digL,digL_len L]
theorem digL_Dg:∀ L n,Dg (digL L n)
  | 0,_=>Dg.nil
  | L+1,n=>fun d hd=>by
    rw [digL] at hd
    rcases List.mem_cons.1 hd with rfl | hd
    · omega
    · exact digL_Dg L _ d hd
theorem nv_digL:∀ L n,n < 1048576 ^ L→nv (digL L n)=n
  | 0,n,h=>by simp at h;subst h;rfl
  | L+1,n,h=>by
    rw [digL,nv,nv_digL L (n / 1048576) (by rw [pow_succ'] at h;exact Nat.div_lt_of_lt_mul h)]
    simp only [Int.toNat_natCast];omega
theorem eq_digL:∀ {L:Nat} {l:List Int},l.length=L→Dg l→l=digL L (nv l)
  | 0,[],_,_=>rfl
  | L+1,d :: l,h,hd=>by
    have hd':=hd.head
    have ih:=eq_digL (L:=L) (l:=l) (by simpa using h) hd.tail
    have e1:nv (d :: l)=d.toNat+1048576 * nv l:=rfl
    rw [e1,digL,show (d.toNat+1048576 * nv l) / 1048576=nv l by omega,← ih]
    congr 1;omega
structure SetI (p v cur:List Int) (g:Int) (i:Nat) (c:Int):Prop where
  len:cur.length=p.length
  dg:Dg cur
  c0:0≤c∧c≤1048575
  sum:nv cur+g.toNat * nv (v.take i)=nv p+1048576 ^ i * c.toNat
theorem set_start (p v:List Int) (g:Int) (h:Dg p):SetI p v p g 0 0:=⟨rfl,h,by omega,by simp [nv]⟩
theorem set_step {p v cur:List Int} {g c x:Int} {i:Nat} (h:SetI p v cur g i c) (hv:Dg v) (hg:0≤g∧g < 1048576) (hi:i < p.length) (hx:x=cur.getD i 0 - c - g * v.getD i 0) :
    (-1099511627776≤x∧x < 1048576)∧SetI p v (cur.set i (x % 1048576)) g (i+1) (-(x / 1048576)):=by
  have b1:=h.dg.get' i
  have b2:=hv.get' i
  have b3:=h.c0
  have hl:=h.len
  have hil:i < cur.length:=by omega
  have p0:0≤g * v.getD i 0:=Int.mul_nonneg hg.1 b2.1
  have p1:g * v.getD i 0≤1048575 * 1048575:=Int.mul_le_mul (by omega) (by omega) b2.1 (by omega)
  have ex:(g * v.getD i 0).toNat=g.toNat * (v.getD i 0).toNat:=Int.toNat_mul hg.1 b2.1
  refine ⟨by omega,by rw [List.length_set];exact hl,h.dg.set (by omega),by omega,?_⟩
  have e1:=nv_set (x % 1048576) hil
  have e3:=nv_take' v i
  have e4:=h.sum
  rw [e3,pow_succ',Nat.mul_add]
  have e5:(x % 1048576).toNat+(g * v.getD i 0).toNat+c.toNat=(cur.getD i 0).toNat+1048576 * (-(x / 1048576)).toNat:=by omega
  rw [ex] at e5
  have e6:=congrArg (fun n=>1048576 ^ i * n) e5
  simp only [Nat.mul_add] at e6
  rw [←Nat.mul_assoc (1048576 ^ i) 1048576,Nat.mul_comm (1048576 ^ i) 1048576] at e6
  rw [Nat.mul_left_comm g.toNat]
  omega
def setG (p v:List Int) (g:Int):Int:=if g.toNat * nv v≤nv p then g else g - 1
def setP (p v:List Int) (g:Int):List Int:=digL p.length (nv p - (setG p v g).toNat * nv v)
theorem set_mid {p v cur:List Int} {g c:Int} (h:SetI p v cur g p.length c) (hl:v.length≤p.length) (hg:0≤g) :
    (c=0↔g.toNat * nv v≤nv p)∧(c=0→cur=setP p v g):=by
  have e4:=h.sum
  rw [List.take_of_length_le hl] at e4
  have b3:=h.c0
  have h2:=nv_lt h.dg
  rw [h.len] at h2
  have key:c=0↔g.toNat * nv v≤nv p:=by
    constructor
    · intro e;subst e
      have:(0:Int).toNat=0:=rfl
      rw [this] at e4;omega
    · intro hle
      refine Decidable.by_contra fun hc=>?_
      have:1≤c.toNat:=by omega
      have:=Nat.mul_le_mul_left (1048576 ^ p.length) this
      omega
  refine ⟨key,fun hc=>?_⟩
  have hle:=key.1 hc
  unfold setP setG
  rw [if_pos hle,eq_digL h.len h.dg]
  congr 1
  subst hc
  have:(0:Int).toNat=0:=rfl
  rw [this] at e4;omega
structure BakI (p v cur:List Int) (i:Nat) (c:Int):Prop where
  len:cur.length=p.length
  dg:Dg cur
  c0:0≤c∧c≤1
  sum:nv cur+1048576 ^ i * c.toNat=nv p+nv (v.take i)
theorem bak_start (p v:List Int) (h:Dg p):BakI p v p 0 0:=⟨rfl,h,by omega,by simp [nv]⟩
theorem bak_step {p v cur:List Int} {c x:Int} {i:Nat} (h:BakI p v cur i c) (hv:Dg v) (hi:i < p.length) (hx:x=c+cur.getD i 0+v.getD i 0):BakI p v (cur.set i (x % 1048576)) (i+1) (x / 1048576):=by
  have b1:=h.dg.get' i
  have b2:=hv.get' i
  have b3:=h.c0
  have hl:=h.len
  have hil:i < cur.length:=by omega
  refine ⟨by rw [List.length_set];exact hl,h.dg.set (by omega),by omega,?_⟩
  have e1:=nv_set (x % 1048576) hil
  have e3:=nv_take' v i
  have e4:=h.sum
  rw [e3,pow_succ']
  have e5:=split_mul (1048576 ^ i) (x / 1048576).toNat (x % 1048576).toNat (c.toNat+(cur.getD i 0).toNat+(v.getD i 0).toNat) (by omega)
  rw [Nat.mul_add,Nat.mul_add] at e5
  omega
theorem set_end {p v mid cur:List Int} {g c k:Int} (h:SetI p v mid g p.length c) (hb:BakI mid v cur p.length k) (hd:Dg p) (hl:v.length≤p.length) (hg:0≤g) (hc:¬ c=0) (h1:(g.toNat - 1) * nv v≤nv p):g - 1=setG p v g∧cur=setP p v g:=by
  have hm:=(set_mid h hl hg).1
  have hn:¬ g.toNat * nv v≤nv p:=fun hh=>hc (hm.2 hh)
  have hg1:1≤g.toNat:=by
    refine Decidable.by_contra fun hh=>hn ?_
    rw [show g.toNat=0 by omega];omega
  have e4:=h.sum
  have e5:=hb.sum
  rw [List.take_of_length_le hl] at e4 e5
  have b1:=nv_lt hb.dg
  rw [hb.len,h.len] at b1
  have b2:=nv_lt hd
  have eG:setG p v g=g - 1:=by unfold setG;rw [if_neg hn]
  refine ⟨eG.symm,?_⟩
  unfold setP
  rw [eG,eq_digL (hb.len.trans h.len) hb.dg]
  congr 1
  have e6:g.toNat * nv v=(g.toNat - 1) * nv v+nv v:=by
    obtain ⟨m,hm⟩:∃ m,g.toNat=m+1:=⟨g.toNat - 1,by omega⟩
    rw [hm,Nat.add_mul];simp
  have e7:(g - 1).toNat=g.toNat - 1:=by omega
  rw [e7]
  have hk:=hb.c0
  have hkc:1048576 ^ p.length * k.toNat=1048576 ^ p.length * c.toNat:=by
    have hkc2:nv cur+1048576 ^ p.length * k.toNat+(g.toNat - 1) * nv v=nv p+1048576 ^ p.length * c.toNat:=by omega
    have hP:0 < 1048576 ^ p.length:=Nat.pow_pos (by omega)
    generalize 1048576 ^ p.length=P at *
    have:k.toNat=c.toNat:=by
      rcases Nat.lt_trichotomy k.toNat c.toNat with hlt | heq | hgt
      · exfalso
        have:=Nat.mul_le_mul_left P (show k.toNat+1≤c.toNat from hlt)
        rw [Nat.mul_add] at this
        omega
      · exact heq
      · exfalso
        have:=Nat.mul_le_mul_left P (show c.toNat+1≤k.toNat from hgt)
        rw [Nat.mul_add] at this
        omega
    rw [this]
  omega
theorem guess_less {q g:Nat} {top v1 v2 u2 rest V U Rv Ru P:Nat} (hU:U=(top * 1048576+u2) * P+Ru) (hV:V=(v1 * 1048576+v2) * P+Rv) (hRu:Ru < P) (hr:rest+g * v1=top) (hq:q * V≤U) (hqg:q≤g) (hgt:rest * 1048576+u2 < g * v2):q+1≤g:=by
  refine Decidable.by_contra fun hc=>?_
  have e:q=g:=by omega
  subst e
  have h1:q * (v1 * 1048576+v2)=(q * v1) * 1048576+q * v2:=by rw [Nat.mul_add,Nat.mul_assoc]
  have h2:top * 1048576+u2+1≤q * (v1 * 1048576+v2):=by rw [h1,← hr];omega
  have h3:(top * 1048576+u2+1) * P≤q * (v1 * 1048576+v2) * P:=Nat.mul_le_mul_right P h2
  have h4:q * V=q * (v1 * 1048576+v2) * P+q * Rv:=by rw [hV,Nat.mul_add,Nat.mul_assoc]
  rw [Nat.add_mul] at h3
  omega
theorem guess_fits {g top v1 v2 u2 rest V U Rv Ru P:Nat} (hU:U=(top * 1048576+u2) * P+Ru) (hV:V=(v1 * 1048576+v2) * P+Rv) (hRv:Rv < P) (hr:rest+g * v1=top) (hv1:1≤v1) (hv2:v2 < 1048576) (hg:g < 1048576) (hf:1048576≤rest∨g * v2≤rest * 1048576+u2):(g - 1) * V≤U:=by
  have hle:g * v2≤rest * 1048576+u2:=by
    rcases hf with hf | hf
    · have:g * v2≤1048575 * 1048575:=Nat.mul_le_mul (by omega) (by omega)
      omega
    · exact hf
  by_cases h0:g=0
  · subst h0;simp
  · have h1:g * (v1 * 1048576+v2)=(g * v1) * 1048576+g * v2:=by rw [Nat.mul_add,Nat.mul_assoc]
    have h2:g * (v1 * 1048576+v2)≤top * 1048576+u2:=by rw [h1,← hr];omega
    have h3:=Nat.mul_le_mul_right P h2
    have h4:g * V=g * (v1 * 1048576+v2) * P+g * Rv:=by rw [hV,Nat.mul_add,Nat.mul_assoc]
    have h5:g * Rv≤1048576 * P:=Nat.mul_le_mul (by omega) (by omega)
    have h6:1048576 * P≤v1 * 1048576 * P:=by
      have:=Nat.mul_le_mul_right (1048576 * P) hv1
      rw [Nat.one_mul] at this
      rw [Nat.mul_assoc];exact this
    have h7:V=v1 * 1048576 * P+v2 * P+Rv:=by rw [hV,Nat.add_mul]
    have h8:g * V=(g - 1) * V+V:=by
      obtain ⟨m,hm⟩:∃ m,g=m+1:=⟨g - 1,by omega⟩
      subst hm;rw [Nat.add_mul];simp
    omega
end Bg

namespace Bg
structure DivI (u0 v u q:List Int) (i:Nat):Prop where
  len:u.length=q.length+v.length
  dg:Dg u
  qd:Dg q
  lt:nv (u.drop i) < nv v
  sum:nv u0=nv u+1048576 ^ i * (nv (q.drop i) * nv v)
theorem ar3 (B P x y z w:Nat):w+P * z+B * P * y+B * (B * P) * x=((x * B+y) * B+z) * P+w:=by grind
theorem ar2 (B P x y w:Nat):w+P * y+B * P * x=(x * B+y) * P+w:=by grind
theorem nv_head (l:List Int) (n:Nat) (h:n+2≤l.length):nv (l.take (n+2))=((l.getD (n+1) 0).toNat * 1048576+(l.getD n 0).toNat) * 1048576 ^ n+nv (l.take n):=by
  rw [nv_take' l (n+1),nv_take' l n,pow_succ']
  exact ar2 _ _ _ _ _
theorem nv_head3 (l:List Int) (n:Nat) (h:n+3≤l.length):nv (l.take (n+3))=(((l.getD (n+2) 0).toNat * 1048576+(l.getD (n+1) 0).toNat) * 1048576+(l.getD n 0).toNat) * 1048576 ^ n+nv (l.take n):=by
  rw [nv_take' l (n+2),nv_take' l (n+1),nv_take' l n,pow_succ' (n+1),pow_succ']
  exact ar3 _ _ _ _ _ _
theorem take_lt {l:List Int} (h:Dg l) (n:Nat):nv (l.take n) < 1048576 ^ n:=by
  have:=nv_lt (h.take n)
  rw [List.length_take] at this
  have h2:1048576 ^ (min n l.length)≤1048576 ^ n:=Nat.pow_le_pow_right (by omega) (by omega)
  omega
theorem getD_drop (l:List Int) (k i:Nat):(l.drop k).getD i 0=l.getD (k+i) 0:=by
  simp [List.getD_eq_getElem?_getD,List.getElem?_drop]
section
variable {u0 v u q : List Int} {k : Nat}
def win (u:List Int) (k n:Nat):List Int:=(u.drop k).take (n+1)
theorem win_len (h:DivI u0 v u q (k+1)) (hk:k < q.length):(win u k v.length).length=v.length+1:=by
  unfold win;rw [List.length_take,List.length_drop,h.len];omega
theorem win_ar {B P U W X V:Nat} (h6:U=W+B * P * X) (h4:U < B * V) (h5:V < P):X=0:=by
  refine Decidable.by_contra fun hc=>?_
  have h1:=Nat.mul_le_mul_left B (Nat.le_of_lt h5)
  have h2:=Nat.mul_le_mul_left (B * P) (Nat.pos_of_ne_zero hc)
  rw [Nat.mul_one] at h2
  omega
theorem win_nv (h:DivI u0 v u q (k+1)) (hv:Dg v) (hk:k < q.length):nv (u.drop k)=nv (win u k v.length)∧nv (win u k v.length) < 1048576 * nv v∧nv (u.drop (k+v.length+1))=0:=by
  have h1:=nv_drop (l:=u) (i:=k) (by rw [h.len];omega)
  have h2:=h.lt
  have h3:=h.dg.get' k
  have h4:nv (u.drop k) < 1048576 * nv v:=by omega
  have h5:=nv_lt hv
  have h6:=nv_split (u.drop k) (v.length+1)
  rw [List.length_drop,h.len,Nat.min_eq_left (by omega),List.drop_drop] at h6
  rw [pow_succ'] at h6
  have h7:nv (u.drop (k+(v.length+1)))=0:=win_ar h6 h4 h5
  rw [h7,Nat.mul_zero,Nat.add_zero] at h6
  exact ⟨by unfold win;exact h6,by unfold win;rw [←h6];exact h4,by rw [Nat.add_assoc];exact h7⟩
def qk (v u:List Int) (k:Nat):Nat:=nv (win u k v.length) / nv v
theorem qk_is (h:DivI u0 v u q (k+1)) (hv:Dg v) (hk:k < q.length):qk v u k < 1048576∧qk v u k * nv v≤nv (win u k v.length)∧nv (win u k v.length) - qk v u k * nv v < nv v:=by
  obtain ⟨h1,h2,h3⟩:=win_nv h hv hk
  have hp:0 < nv v:=by have:=h.lt;omega
  refine ⟨Nat.div_lt_of_lt_mul (by rw [Nat.mul_comm];exact h2),Nat.div_mul_le_self _ _,?_⟩
  have:=Nat.mod_lt (nv (win u k v.length)) hp
  rw [Nat.mod_eq_sub_mul_div,Nat.mul_comm] at this
  exact this
theorem win_head (h:DivI u0 v u q (k+1)) (hk:k < q.length) {n:Nat} (hn:v.length=n+2) :
    nv (win u k v.length)=(((u.getD (k+n+2) 0).toNat * 1048576+(u.getD (k+n+1) 0).toNat) * 1048576+(u.getD (k+n) 0).toNat) * 1048576 ^ n+nv ((u.drop k).take n):=by
  unfold win
  rw [hn,nv_head3 _ _ (by rw [List.length_drop,h.len];omega),getD_drop,getD_drop,getD_drop]
  rfl
theorem v_head {n:Nat} (hn:v.length=n+2):nv v=((v.getD (n+1) 0).toNat * 1048576+(v.getD n 0).toNat) * 1048576 ^ n+nv (v.take n):=by
  have:=nv_head v n (by omega)
  rwa [←hn,List.take_length] at this
theorem toNat_div {a b:Int} (ha:0≤a) (hb:0≤b):(a / b).toNat=a.toNat / b.toNat:=by
  obtain ⟨m,rfl⟩:=Int.eq_ofNat_of_zero_le ha
  obtain ⟨n,rfl⟩:=Int.eq_ofNat_of_zero_le hb
  rw [←Int.natCast_ediv,Int.toNat_natCast,Int.toNat_natCast,Int.toNat_natCast]
theorem guess_ge {q top v1 v2 u2 V U Rv Ru P B:Nat} (hU:U=(top * B+u2) * P+Ru) (hV:V=(v1 * B+v2) * P+Rv) (hu2:u2 < B) (hRu:Ru < P) (hq:q * V≤U):q * v1≤top:=by
  refine Decidable.by_contra fun hc=>?_
  have hc':top+1≤q * v1:=by omega
  have m1:=Nat.mul_le_mul_right (B * P) hc'
  have m2:q * v1 * (B * P)≤q * V:=by
    rw [Nat.mul_assoc]
    refine Nat.mul_le_mul_left _ ?_
    rw [hV,Nat.add_mul,Nat.mul_assoc];omega
  have m3:(top * B+u2+1) * P≤((top+1) * B) * P:=Nat.mul_le_mul_right _ (by rw [Nat.add_mul,Nat.one_mul];omega)
  rw [←Nat.mul_assoc] at m1
  rw [Nat.add_mul (top * B+u2) 1,Nat.one_mul] at m3
  omega
structure Gss (v u:List Int) (k:Nat) (g r:Int):Prop where
  g0:0≤g
  g1:g≤1099511627776
  r0:0≤r
  eq:r+g * v.getD (v.length - 1) 0=u.getD (k+v.length) 0 * 1048576+u.getD (k+v.length - 1) 0
  ge:qk v u k≤g.toNat
theorem gss_nat {g r:Int} (h:Gss v u k g r) (hu:Dg u) (hv:Dg v):r.toNat+g.toNat * (v.getD (v.length - 1) 0).toNat=(u.getD (k+v.length) 0).toNat * 1048576+(u.getD (k+v.length - 1) 0).toNat:=by
  have a:=hv.get' (v.length - 1)
  have b:=hu.get' (k+v.length)
  have c:=hu.get' (k+v.length - 1)
  have e:=h.eq
  have:=h.g0;have:=h.r0
  have e2:(g * v.getD (v.length - 1) 0).toNat=g.toNat * (v.getD (v.length - 1) 0).toNat:=Int.toNat_mul h.g0 a.1
  have e3:0≤g * v.getD (v.length - 1) 0:=Int.mul_nonneg h.g0 a.1
  rw [←e2];omega
theorem gss_start (h:DivI u0 v u q (k+1)) (hv:Dg v) (hk:k < q.length) (h2:2≤v.length) (hz:0 < v.getD (v.length - 1) 0) {t g r:Int} (ht:t=u.getD (k+v.length) 0 * 1048576+u.getD (k+v.length - 1) 0) (hg:g=t / v.getD (v.length - 1) 0) (hr:r=t % v.getD (v.length - 1) 0):Gss v u k g r:=by
  obtain ⟨n,hn⟩:∃ n,v.length=n+2:=⟨v.length - 2,by omega⟩
  have b:=h.dg.get' (k+v.length)
  have c:=h.dg.get' (k+v.length - 1)
  have a:=hv.get' (v.length - 1)
  have t0:0≤t∧t < 1099511627776:=by omega
  have hg0:0≤g:=by rw [hg];exact Int.ediv_nonneg t0.1 (by omega)
  have hg1:g≤t:=by rw [hg];exact Int.ediv_le_self _ t0.1
  refine ⟨hg0,by omega,by rw [hr];exact Int.emod_nonneg _ (by omega),?_,?_⟩
  · rw [hg,hr,← ht,Int.mul_comm];have:=Int.mul_ediv_add_emod t (v.getD (v.length - 1) 0);omega
  · obtain ⟨q1,q2,q3⟩:=qk_is h hv hk
    have e1:=win_head h hk hn
    have e2:=v_head hn
    have e3:=take_lt (h.dg.drop k) n
    rw [hn,show n+2 - 1=n+1 by omega] at hg a hz
    rw [hn,show k+(n+2)=k+n+2 by omega,show k+n+2 - 1=k+n+1 by omega] at ht c
    rw [hn,show k+(n+2)=k+n+2 by omega] at b
    rw [hn] at e1 q2
    have c2:=h.dg.get' (k+n)
    have et:t.toNat=(u.getD (k+n+2) 0).toNat * 1048576+(u.getD (k+n+1) 0).toNat:=by omega
    have e4:qk v u k * (v.getD (n+1) 0).toNat≤t.toNat:=by
      rw [et]
      exact guess_ge (u2:=(u.getD (k+n) 0).toNat) e1 e2 (by omega) e3 q2
    have e5:qk v u k≤t.toNat / (v.getD (n+1) 0).toNat:=(Nat.le_div_iff_mul_le (by omega)).2 e4
    have e6:g.toNat=t.toNat / (v.getD (n+1) 0).toNat:=by rw [hg];exact toNat_div t0.1 (by omega)
    omega
theorem gss_less {g r:Int} (hG:Gss v u k g r) (h:DivI u0 v u q (k+1)) (hv:Dg v) (hk:k < q.length) (h2:2≤v.length) (hz:0 < v.getD (v.length - 1) 0)
    (hc:1048576≤g∨r < 1048576∧r * 1048576+u.getD (k+v.length - 2) 0 < g * v.getD (v.length - 2) 0):Gss v u k (g - 1) (r+v.getD (v.length - 1) 0)∧0 < g:=by
  obtain ⟨q1,q2,q3⟩:=qk_is h hv hk
  have key:qk v u k+1≤g.toNat:=by
    rcases hc with hc | ⟨_,hc⟩
    · omega
    · obtain ⟨n,hn⟩:∃ n,v.length=n+2:=⟨v.length - 2,by omega⟩
      have e1:=win_head h hk hn
      have e2:=v_head hn
      have e3:=take_lt (h.dg.drop k) n
      have e4:=gss_nat hG h.dg hv
      rw [hn,show n+2 - 1=n+1 by omega,show k+(n+2)=k+n+2 by omega,show k+n+2 - 1=k+n+1 by omega] at e4
      rw [hn,show k+(n+2) - 2=k+n by omega,show n+2 - 2=n by omega] at hc
      have a:=hv.get' n
      have c:=h.dg.get' (k+n)
      have:=hG.g0;have:=hG.r0
      refine guess_less (top:=(u.getD (k+n+2) 0).toNat * 1048576+(u.getD (k+n+1) 0).toNat) (u2:=(u.getD (k+n) 0).toNat) (rest:=r.toNat) (v1:=(v.getD (n+1) 0).toNat) (v2:=(v.getD n 0).toNat) e1 e2 e3 e4 q2 hG.ge ?_
      have e5:(g * v.getD n 0).toNat=g.toNat * (v.getD n 0).toNat:=Int.toNat_mul hG.g0 a.1
      rw [←e5];omega
  have e:=hG.eq
  have a:=hv.get' (v.length - 1)
  refine ⟨⟨by omega,by have:=hG.g1;omega,by have:=hG.r0;omega,?_,by omega⟩,by omega⟩
  rw [←e,Int.sub_mul];omega
theorem gss_end {g r:Int} (hG:Gss v u k g r) (h:DivI u0 v u q (k+1)) (hv:Dg v) (hk:k < q.length) (h2:2≤v.length) (hz:0 < v.getD (v.length - 1) 0)
    (hc:¬ 1048576≤g∧(¬r < 1048576∨¬ r * 1048576+u.getD (k+v.length - 2) 0 < g * v.getD (v.length - 2) 0)):(0≤g∧g < 1048576)∧(g.toNat - 1) * nv v≤nv (win u k v.length)∧setG (win u k v.length) v g=(qk v u k:Int):=by
  obtain ⟨q1,q2,q3⟩:=qk_is h hv hk
  have h0:=hG.g0
  have hfit:(g.toNat - 1) * nv v≤nv (win u k v.length):=by
    obtain ⟨n,hn⟩:∃ n,v.length=n+2:=⟨v.length - 2,by omega⟩
    have e1:=win_head h hk hn
    have e2:=v_head hn
    have e4:=gss_nat hG h.dg hv
    rw [hn,show n+2 - 1=n+1 by omega,show k+(n+2)=k+n+2 by omega,show k+n+2 - 1=k+n+1 by omega] at e4
    rw [hn,show k+(n+2) - 2=k+n by omega,show n+2 - 2=n by omega] at hc
    rw [hn,show n+2 - 1=n+1 by omega] at hz
    have a:=hv.get' n
    have c:=h.dg.get' (k+n)
    have:=hG.r0
    have e5:(g * v.getD n 0).toNat=g.toNat * (v.getD n 0).toNat:=Int.toNat_mul hG.g0 a.1
    have e6:0≤g * v.getD n 0:=Int.mul_nonneg hG.g0 a.1
    refine guess_fits (top:=(u.getD (k+n+2) 0).toNat * 1048576+(u.getD (k+n+1) 0).toNat) (u2:=(u.getD (k+n) 0).toNat) (rest:=r.toNat) (v1:=(v.getD (n+1) 0).toNat) (v2:=(v.getD n 0).toNat) e1 e2 (take_lt hv n) e4 (by omega) (by omega) (by omega) ?_
    rcases hc.2 with hc | hc
    · exact .inl (by omega)
    · exact .inr (by rw [←e5];omega)
  refine ⟨⟨h0,by omega⟩,hfit,?_⟩
  have hge:=hG.ge
  have hp:0 < nv v:=by have:=h.lt;omega
  unfold setG
  by_cases hle:g.toNat * nv v≤nv (win u k v.length)
  · rw [if_pos hle]
    have:g.toNat≤qk v u k:=(Nat.le_div_iff_mul_le hp).2 hle
    omega
  · rw [if_neg hle]
    have a1:g.toNat - 1≤qk v u k:=(Nat.le_div_iff_mul_le hp).2 hfit
    have a2:qk v u k≠g.toNat:=fun e=>hle (by rw [←e];exact q2)
    omega
def nxtU (v u:List Int) (k:Nat) (g:Int):List Int:=u.take k ++setP (win u k v.length) v g ++u.drop (k+v.length+1)
theorem div_step {g x:Int} (h:DivI u0 v u q (k+1)) (hv:Dg v) (hk:k < q.length) (hs:setG (win u k v.length) v g=(qk v u k:Int)) (hx:x=setG (win u k v.length) v g):DivI u0 v (nxtU v u k g) (q.set k x) k:=by
  obtain ⟨q1,q2,q3⟩:=qk_is h hv hk
  obtain ⟨w1,w2,w3⟩:=win_nv h hv hk
  have wl:=win_len h hk
  rw [hs] at hx
  subst hx
  have eP:setP (win u k v.length) v g=digL (v.length+1) (nv (win u k v.length) - qk v u k * nv v):=by unfold setP;rw [hs,wl];rfl
  have eL:(u.take k).length=k:=by rw [List.length_take,h.len];omega
  have hvl:=nv_lt hv
  have e1:nv (digL (v.length+1) (nv (win u k v.length) - qk v u k * nv v))=nv (win u k v.length) - qk v u k * nv v:=nv_digL _ _ (by rw [pow_succ'];omega)
  have eD:nv ((nxtU v u k g).drop k)=nv (win u k v.length) - qk v u k * nv v:=by
    unfold nxtU
    rw [List.append_assoc,List.drop_append_of_le_length (by omega),List.drop_of_length_le (by omega),List.nil_append,nv_append,w3,eP,e1];simp
  have eN:nv (nxtU v u k g)=nv (u.take k)+1048576 ^ k * (nv (win u k v.length) - qk v u k * nv v):=by
    unfold nxtU
    rw [List.append_assoc,nv_append,eL,nv_append,w3,eP,e1];simp
  refine ⟨?_,?_,h.qd.set (by omega),by rw [eD];exact q3,?_⟩
  · unfold nxtU
    rw [List.length_set,List.length_append,List.length_append,eL,eP,digL_len,List.length_drop,h.len];omega
  · unfold nxtU;rw [eP]
    exact ((h.dg.take k).append (digL_Dg _ _)).append (h.dg.drop _)
  · have e3:=nv_split u k
    rw [h.len,Nat.min_eq_left (by omega),w1] at e3
    have e4:=nv_drop (l:=q.set k (qk v u k:Int)) (i:=k) (by rw [List.length_set];exact hk)
    have e7:(q.set k (qk v u k:Int)).drop (k+1)=q.drop (k+1):=by rw [List.drop_set,if_pos (by omega)]
    rw [getD_set hk,if_pos rfl,e7] at e4
    have e5:=h.sum
    rw [e4,eN,e5,e3,pow_succ']
    have e6:1048576 ^ k * nv (win u k v.length)=1048576 ^ k * (nv (win u k v.length) - qk v u k * nv v)+1048576 ^ k * (qk v u k * nv v):=by
      rw [←Nat.mul_add];congr 1;omega
    rw [e6]
    simp only [Int.toNat_natCast]
    rw [Nat.add_mul,Nat.mul_add,Nat.mul_assoc 1048576 (nv (q.drop (k+1))),Nat.mul_left_comm (1048576 ^ k) 1048576,Nat.mul_assoc 1048576 (1048576 ^ k)]
    omega
end
theorem div_end {u0 v u q:List Int} (h:DivI u0 v u q 0):nv q=nv u0 / nv v∧nv u=nv u0 % nv v:=by
  have h1:=h.sum
  have h2:=h.lt
  simp only [List.drop_zero,Nat.pow_zero,Nat.one_mul] at h1 h2
  have hp:0 < nv v:=by omega
  rw [h1,Nat.add_comm,Nat.mul_comm,Nat.mul_add_div hp,Nat.mul_add_mod,Nat.div_eq_of_lt h2,Nat.mod_eq_of_lt h2]
  exact ⟨by omega,rfl⟩
theorem div_start {a v q:List Int} (ha:Dg a) (hv:Dg v) (hz:Nz v) (hne:v≠[]) (hl:v.length≤a.length) (hq:q=List.replicate (a.length+1 - v.length) 0):DivI (a ++[0]) v (a ++[0]) q q.length:=by
  have hql:q.length=a.length+1 - v.length:=by rw [hq];simp
  have hv1:1≤v.length:=by cases v <;> simp_all
  refine ⟨by rw [hql];simp;omega,ha.append (Dg.one (by omega)),by rw [hq];exact Dg.zeros _,?_,?_⟩
  · have hge:=nv_ge hne hv hz
    rw [hql,List.drop_append_of_le_length (by omega),nv_append]
    have:=nv_lt (ha.drop (a.length+1 - v.length))
    rw [List.length_drop,show a.length - (a.length+1 - v.length)=v.length - 1 by omega] at this
    have h0:nv [0]=0:=rfl
    rw [h0];omega
  · rw [List.drop_length];simp [nv]
end Bg

namespace Bg
def sgn (z:Int):Int:=if z < 0 then -1 else if z=0 then 0 else 1
theorem sgn_mul_abs (z:Int):sgn z * (z.natAbs:Int)=z:=by
  unfold sgn;split
  · omega
  · split <;> omega
def RtB (s:Int) (l:List Int):Prop:=Dg l∧((l=[]∧s=0)∨(l≠[]∧(s=1∨s= -1)∧Nz l))
instance (s : Int) (l : List Int) : Decidable (RtB s l) := by unfold RtB; infer_instance
def zv (s:Int) (l:List Int):Int:=s * nv l
theorem Nz_iff {l:List Int} (h:l≠[]):Nz l↔l.getD (l.length - 1) 0≠0:=by
  unfold Nz
  rw [List.getLast?_eq_getElem?]
  have hl:l.length - 1 < l.length:=by cases l <;> simp_all
  rw [List.getElem?_eq_getElem hl,List.getD_eq_getElem?_getD,List.getElem?_eq_getElem hl]
  simp
theorem RtB.dg {s:Int} {l:List Int} (h:RtB s l):Dg l:=h.1
theorem RtB.nz {s:Int} {l:List Int} (h:RtB s l):Nz l:=by
  rcases h.2 with ⟨rfl,_⟩ | ⟨_,_,h⟩
  · unfold Nz;simp
  · exact h
theorem RtB.eq {s:Int} {l:List Int} (h:RtB s l):l=dig (nv l):=eq_dig h.dg h.nz
theorem RtB.cases {s:Int} {l:List Int} (h:RtB s l):(nv l=0∧s=0)∨(0 < nv l∧s=1)∨(0 < nv l∧s= -1):=by
  rcases h.2 with ⟨rfl,h2⟩ | ⟨h1,h2,h3⟩
  · exact .inl ⟨rfl,h2⟩
  · have:nv l≠0:=fun e=>h1 (by have:=h.eq;rw [e] at this;exact this)
    rcases h2 with h2 | h2
    · exact .inr (.inl ⟨by omega,h2⟩)
    · exact .inr (.inr ⟨by omega,h2⟩)
theorem RtB.abs {s:Int} {l:List Int} (h:RtB s l):(zv s l).natAbs=nv l:=by
  unfold zv
  rcases h.cases with ⟨a,rfl⟩ | ⟨a,rfl⟩ | ⟨a,rfl⟩ <;> omega
theorem RtB.sg {s:Int} {l:List Int} (h:RtB s l):sgn (zv s l)=s:=by
  unfold zv sgn
  rcases h.cases with ⟨a,rfl⟩ | ⟨a,rfl⟩ | ⟨a,rfl⟩
  · rw [if_neg (by omega),if_pos (by omega)]
  · rw [if_neg (by omega),if_neg (by omega)]
  · rw [if_pos (by omega)]
theorem RtB.eqd {s:Int} {l:List Int} (h:RtB s l):l=dig (zv s l).natAbs:=by rw [h.abs];exact h.eq
theorem RtB.of (z:Int):RtB (sgn z) (dig z.natAbs):=by
  refine ⟨dig_Dg _,?_⟩
  by_cases e:z.natAbs=0
  · left;rw [e];refine ⟨rfl,?_⟩;unfold sgn;rw [if_neg (by omega),if_pos (by omega)]
  · right
    refine ⟨fun h=>e (dig_ne.1 h),?_,dig_Nz _⟩
    unfold sgn
    split
    · exact .inr rfl
    · rw [if_neg (by omega)];exact .inl rfl
theorem zv_of (z:Int):zv (sgn z) (dig z.natAbs)=z:=by unfold zv;rw [nv_dig];exact sgn_mul_abs z
theorem RtB.of1 {n:Nat} (h:n≠0):RtB 1 (dig n):=by
  have:=RtB.of (n:Int)
  unfold sgn at this
  rwa [if_neg (by omega),if_neg (by omega),Int.natAbs_natCast] at this
def oS (p:Prop) [Decidable p] (z:Int):Int:=if p then sgn z else 0
def oD (p:Prop) [Decidable p] (z:Int):List Int:=if p then dig z.natAbs else []
theorem oS_y {p:Prop} [Decidable p] (h:p) (z:Int):oS p z=sgn z:=if_pos h
theorem oD_y {p:Prop} [Decidable p] (h:p) (z:Int):oD p z=dig z.natAbs:=if_pos h
theorem oS_n {p:Prop} [Decidable p] (h:¬ p) (z:Int):oS p z=0:=if_neg h
theorem oD_n {p:Prop} [Decidable p] (h:¬ p) (z:Int):oD p z=[]:=if_neg h
def cmpI (x y:Int):Int:=if x < y then -1 else if x=y then 0 else 1
theorem cmp_len {a b:List Int} (ha:Dg a) (hb:Dg b) (hz:Nz b) (h:a.length < b.length):nv a < nv b:=by
  refine Decidable.by_contra fun hc=>?_
  have:=len_le ha hb hz (by omega)
  omega
theorem cmp_at {a b:List Int} {i:Nat} (ha:Dg a) (hb:Dg b) (hl:a.length=b.length) (hi:i < a.length) (hd:a.drop (i+1)=b.drop (i+1)) (h:a.getD i 0 < b.getD i 0):nv a < nv b:=by
  have e1:=nv_split a i
  have e2:=nv_split b i
  rw [Nat.min_eq_left (by omega),nv_drop hi] at e1
  rw [Nat.min_eq_left (by omega),nv_drop (l:=b) (by omega),← hd] at e2
  have t1:=nv_lt (ha.take i)
  rw [List.length_take,Nat.min_eq_left (by omega)] at t1
  have a1:=ha.get' i
  have b1:=hb.get' i
  have hlt:(a.getD i 0).toNat+1≤(b.getD i 0).toNat:=by omega
  have h2:=Nat.mul_le_mul_left (1048576 ^ i) hlt
  rw [Nat.mul_add] at h2 e1 e2
  omega
theorem drop_eq {a b:List Int} {i:Nat} (hl:a.length=b.length) (hi:i < a.length) (hd:a.drop (i+1)=b.drop (i+1)) (h:a.getD i 0=b.getD i 0):a.drop i=b.drop i:=by
  rw [List.drop_eq_getElem_cons hi,List.drop_eq_getElem_cons (show i < b.length by omega),hd]
  congr 1
  simpa [List.getD_eq_getElem?_getD,hi,show i < b.length by omega] using h
theorem cmp_ne {a b:List Int} {i:Nat} (ha:Dg a) (hb:Dg b) (hl:a.length=b.length) (hi:i < a.length) (hd:a.drop (i+1)=b.drop (i+1)) (h:a.getD i 0≠b.getD i 0):cmpI (a.getD i 0) (b.getD i 0)=cmpI (nv a) (nv b):=by
  rcases Int.lt_or_gt_of_ne h with h | h
  · have:=cmp_at ha hb hl hi hd h
    unfold cmpI;rw [if_pos h,if_pos (by omega)]
  · have:=cmp_at hb ha hl.symm (by omega) hd.symm h
    unfold cmpI;rw [if_neg (by omega),if_neg (by omega),if_neg (by omega),if_neg (by omega)]
theorem cmp_lens {a b:List Int} (ha:Dg a) (hb:Dg b) (za:Nz a) (zb:Nz b) (h:¬ (a.length:Int)=b.length):cmpI a.length b.length=cmpI (nv a) (nv b):=by
  rcases Int.lt_or_gt_of_ne h with h | h
  · have:=cmp_len ha hb zb (by omega)
    unfold cmpI;rw [if_pos h,if_pos (by omega)]
  · have:=cmp_len hb ha za (by omega)
    unfold cmpI;rw [if_neg (by omega),if_neg (by omega),if_neg (by omega),if_neg (by omega)]
section
variable {s t : Int} {l m : List Int}
theorem cmp_z (h:RtB s l) (k:RtB t m):(if s=t then s * cmpI (nv l) (nv m) else cmpI s t)=cmpI (zv s l) (zv t m):=by
  unfold zv cmpI
  rcases h.cases with ⟨a,rfl⟩ | ⟨a,rfl⟩ | ⟨a,rfl⟩ <;> rcases k.cases with ⟨b,rfl⟩ | ⟨b,rfl⟩ | ⟨b,rfl⟩ <;> simp <;> (try split) <;> (try split) <;> omega
theorem add_same (h:RtB s l) (k:RtB t m) (hs:0≤s * t):(zv s l+zv t m).natAbs=nv l+nv m∧(if nv l+nv m=0 then 0 else if s=0 then t else s)=sgn (zv s l+zv t m):=by
  unfold zv sgn
  rcases h.cases with ⟨a,rfl⟩ | ⟨a,rfl⟩ | ⟨a,rfl⟩ <;> rcases k.cases with ⟨b,rfl⟩ | ⟨b,rfl⟩ | ⟨b,rfl⟩ <;> simp at hs ⊢ <;> (try omega) <;> constructor <;> (repeat' split) <;> omega
theorem add_less (h:RtB s l) (k:RtB t m) (hs:¬ 0≤s * t) (hlt:nv l < nv m):(zv s l+zv t m).natAbs=nv m - nv l∧(if nv m - nv l=0 then 0 else t)=sgn (zv s l+zv t m):=by
  unfold zv sgn
  rcases h.cases with ⟨a,rfl⟩ | ⟨a,rfl⟩ | ⟨a,rfl⟩ <;> rcases k.cases with ⟨b,rfl⟩ | ⟨b,rfl⟩ | ⟨b,rfl⟩ <;> simp at hs ⊢ <;> constructor <;> (repeat' split) <;> omega
theorem add_more (h:RtB s l) (k:RtB t m) (hs:¬ 0≤s * t) (hge:nv m≤nv l):(zv s l+zv t m).natAbs=nv l - nv m∧(if nv l - nv m=0 then 0 else s)=sgn (zv s l+zv t m):=by
  unfold zv sgn
  rcases h.cases with ⟨a,rfl⟩ | ⟨a,rfl⟩ | ⟨a,rfl⟩ <;> rcases k.cases with ⟨b,rfl⟩ | ⟨b,rfl⟩ | ⟨b,rfl⟩ <;> simp at hs ⊢ <;> constructor <;> (repeat' split) <;> omega
theorem neg_z (h:RtB s l):zv (-s) l= - zv s l:=by unfold zv;rw [Int.neg_mul]
theorem RtB.neg (h:RtB s l):RtB (-s) l:=by
  refine ⟨h.1,?_⟩
  rcases h.2 with ⟨h1,h2⟩ | ⟨h1,h2,h3⟩
  · exact .inl ⟨h1,by omega⟩
  · exact .inr ⟨h1,by omega,h3⟩
theorem mul_z (h:RtB s l) (k:RtB t m):(zv s l * zv t m).natAbs=nv l * nv m∧(if nv l * nv m=0 then 0 else s * t)=sgn (zv s l * zv t m):=by
  have e:(zv s l * zv t m).natAbs=nv l * nv m:=by rw [Int.natAbs_mul,h.abs,k.abs]
  refine ⟨e,?_⟩
  have e2:zv s l * zv t m=(s * t) * ((nv l * nv m:Nat):Int):=by
    unfold zv;rw [Int.natCast_mul,Int.mul_assoc,Int.mul_assoc,Int.mul_left_comm (nv l:Int)]
  rw [e2]
  rcases h.cases with ⟨a,rfl⟩ | ⟨a,rfl⟩ | ⟨a,rfl⟩ <;> rcases k.cases with ⟨b,rfl⟩ | ⟨b,rfl⟩ | ⟨b,rfl⟩ <;> (try (rw [a];simp [sgn];done)) <;> (try (rw [b];simp [sgn];done))
  all_goals
    have hp:0 < nv l * nv m:=Nat.mul_pos a b
    generalize nv l * nv m=p at *
    rw [if_neg (by omega)]
    unfold sgn
    simp
    omega
def flo (a b:Int):Int:=if 0 < b then a / b else (-a) / (-b)
def fmo (a b:Int):Int:=a - b * flo a b
theorem div_same (h:RtB s l) (k:RtB t m) (ht:nv m≠0) (hs:0≤s * t∨nv l % nv m=0):(flo (zv s l) (zv t m)).natAbs=nv l / nv m∧(fmo (zv s l) (zv t m)).natAbs=nv l % nv m ∧
    (if nv l / nv m=0 then 0 else s * t)=sgn (flo (zv s l) (zv t m))∧(if nv l % nv m=0 then 0 else s)=sgn (fmo (zv s l) (zv t m)):=by
  have hd:=Nat.div_add_mod (nv l) (nv m)
  have hr:=Nat.mod_lt (nv l) (Nat.pos_of_ne_zero ht)
  have hf:flo (zv s l) (zv t m)=s * t * ((nv l / nv m:Nat):Int):=by
    unfold flo zv
    have key:(nv l:Int) / nv m=((nv l / nv m:Nat):Int):=(Int.natCast_ediv _ _).symm
    have key2:nv l % nv m=0→(-(nv l:Int)) / nv m= -((nv l / nv m:Nat):Int):=fun h0=>by
      have:(nv l:Int)=nv m * ((nv l / nv m:Nat):Int):=by rw [←Int.natCast_mul];congr 1;omega
      rw [this,← Int.mul_neg,Int.mul_ediv_cancel_left _ (by omega)]
    rcases h.cases with ⟨a,rfl⟩ | ⟨a,rfl⟩ | ⟨a,rfl⟩ <;> rcases k.cases with ⟨b,rfl⟩ | ⟨b,rfl⟩ | ⟨b,rfl⟩ <;> (try omega)
    · simp
    · simp
    · rw [if_pos (by omega)];simp only [Int.one_mul];exact key
    · rw [if_neg (by omega)]
      have h0:nv l % nv m=0:=by rcases hs with hs | hs <;> omega
      have:=key2 h0
      simp only [Int.neg_mul,Int.one_mul,Int.neg_neg] at this ⊢;exact this
    · rw [if_pos (by omega)]
      have h0:nv l % nv m=0:=by rcases hs with hs | hs <;> omega
      have:=key2 h0
      simp only [Int.neg_mul,Int.one_mul,Int.mul_one] at this ⊢;exact this
    · rw [if_neg (by omega)];simp only [Int.neg_mul,Int.one_mul,Int.neg_neg,Int.mul_neg,Int.mul_one];exact key
  have hm:fmo (zv s l) (zv t m)=s * ((nv l % nv m:Nat):Int):=by
    unfold fmo
    rw [hf]
    have e:zv t m * (s * t * ((nv l / nv m:Nat):Int))=s * (t * t) * ((nv m * (nv l / nv m):Nat):Int):=by
      unfold zv;rw [Int.natCast_mul]
      generalize (nv m:Int)=x;generalize ((nv l / nv m:Nat):Int)=y
      grind
    have tt:t * t=1:=by rcases k.cases with ⟨b,rfl⟩ | ⟨b,rfl⟩ | ⟨b,rfl⟩ <;> first | omega | rfl
    rw [e,tt,Int.mul_one]
    unfold zv
    rw [←Int.mul_sub];congr 1;omega
  rw [hf,hm]
  refine ⟨?_,?_,?_,?_⟩
  · have e0:nv l=0→nv l / nv m=0:=fun a=>by rw [a];simp
    generalize nv l / nv m=q at *
    rcases h.cases with ⟨a,rfl⟩ | ⟨a,rfl⟩ | ⟨a,rfl⟩ <;> rcases k.cases with ⟨b,rfl⟩ | ⟨b,rfl⟩ | ⟨b,rfl⟩ <;> omega
  · have e0:nv l=0→nv l % nv m=0:=fun a=>by rw [a];simp
    generalize nv l % nv m=q at *
    rcases h.cases with ⟨a,rfl⟩ | ⟨a,rfl⟩ | ⟨a,rfl⟩ <;> omega
  · generalize hq:nv l / nv m=q at *
    unfold sgn
    rcases h.cases with ⟨a,rfl⟩ | ⟨a,rfl⟩ | ⟨a,rfl⟩ <;> rcases k.cases with ⟨b,rfl⟩ | ⟨b,rfl⟩ | ⟨b,rfl⟩ <;> (try omega) <;> simp <;> (repeat' split) <;> omega
  · generalize hq:nv l % nv m=q at *
    unfold sgn
    rcases h.cases with ⟨a,rfl⟩ | ⟨a,rfl⟩ | ⟨a,rfl⟩ <;> simp <;> (repeat' split) <;> omega
theorem div_diff (h:RtB s l) (k:RtB t m) (ht:nv m≠0) (hs:s * t < 0) (h0:nv l % nv m≠0):(flo (zv s l) (zv t m)).natAbs=nv l / nv m+1∧(fmo (zv s l) (zv t m)).natAbs=nv m - nv l % nv m ∧
    -1=sgn (flo (zv s l) (zv t m))∧t=sgn (fmo (zv s l) (zv t m)):=by
  have hd:=Nat.div_add_mod (nv l) (nv m)
  have hr:=Nat.mod_lt (nv l) (Nat.pos_of_ne_zero ht)
  have hf:flo (zv s l) (zv t m)= -((nv l / nv m+1:Nat):Int):=by
    have key:(-(nv l:Int)) / nv m= -((nv l / nv m+1:Nat):Int):=by
      refine ((Int.ediv_emod_unique (r:=((nv m - nv l % nv m:Nat):Int)) (by omega)).2 ⟨?_,by omega,by omega⟩).1
      rw [Int.mul_neg,← Int.natCast_mul,Nat.mul_add];omega
    unfold flo zv
    rcases h.cases with ⟨a,rfl⟩ | ⟨a,rfl⟩ | ⟨a,rfl⟩ <;> rcases k.cases with ⟨b,rfl⟩ | ⟨b,rfl⟩ | ⟨b,rfl⟩ <;> (try omega)
    · rw [if_neg (by omega)];simp only [Int.neg_mul,Int.one_mul,Int.neg_neg];exact key
    · rw [if_pos (by omega)];simp only [Int.neg_mul,Int.one_mul,Int.mul_one];exact key
  have hm:fmo (zv s l) (zv t m)=t * ((nv m - nv l % nv m:Nat):Int):=by
    unfold fmo
    rw [hf]
    have e:nv m * (nv l / nv m+1)=nv m * (nv l / nv m)+nv m:=by rw [Nat.mul_add,Nat.mul_one]
    unfold zv
    rw [Int.mul_neg,Int.mul_assoc,← Int.natCast_mul,e]
    rcases h.cases with ⟨a,rfl⟩ | ⟨a,rfl⟩ | ⟨a,rfl⟩ <;> rcases k.cases with ⟨b,rfl⟩ | ⟨b,rfl⟩ | ⟨b,rfl⟩ <;> omega
  rw [hf,hm]
  refine ⟨by rw [Int.natAbs_neg,Int.natAbs_natCast],?_,?_,?_⟩
  · rcases k.cases with ⟨b,rfl⟩ | ⟨b,rfl⟩ | ⟨b,rfl⟩ <;> omega
  · unfold sgn
    have:((nv l / nv m+1:Nat):Int) > 0:=by
      generalize nv l / nv m=q
      omega
    rw [if_pos (by omega)]
  · unfold sgn
    rcases k.cases with ⟨b,rfl⟩ | ⟨b,rfl⟩ | ⟨b,rfl⟩
    · omega
    · rw [if_neg (by omega),if_neg (by omega)]
    · rw [if_pos (by omega)]
end
end Bg

namespace Bg
def orL:List Int→Int
  | []=>0
  | x :: l=>if x=0 then orL l else x
theorem orL_no:∀ {l:List Int},(∀ i,i < l.length→l.getD i default=0)→orL l=0
  | [],_=>rfl
  | x :: l,h=>by
    unfold orL
    have h0:=h 0 (by simp)
    rw [if_pos (by simpa using h0)]
    exact orL_no fun i hi=>by simpa using h (i+1) (by simpa using hi)
theorem orL_at:∀ {l:List Int} {k:Nat} {v:Int},k < l.length→(∀ i,i < k→l.getD i default=0)→v=l.getD k default→¬ v=0→v=orL l
  | [],k,v,h,_,_,_=>by cases h
  | x :: l,0,v,_,_,hv,h0=>by
    unfold orL
    have:v=x:=by simpa using hv
    subst this
    rw [if_neg h0]
  | x :: l,k+1,v,hk,h,hv,h0=>by
    unfold orL
    have h1:=h 0 (by omega)
    rw [if_pos (by simpa using h1)]
    exact orL_at (by simpa using hk) (fun i hi=>by simpa using h (i+1) (by omega)) (by simpa using hv) h0
theorem eq_of_getD {l m:List Int} (hl:l.length=m.length) (h:∀ i,i < l.length→l.getD i default=m.getD i default):l=m:=by
  refine List.ext_getElem hl fun i h1 h2=>?_
  have:=h i h1
  simpa [List.getD_eq_getElem?_getD,h1,h2] using this
theorem Dg_of {l:List Int} (h:∀ i,i < l.length→0≤l.getD i default∧l.getD i default < 1048576):Dg l:=fun d hd=>by
  obtain ⟨i,hi,rfl⟩:=List.mem_iff_getElem.1 hd
  have:=h i hi
  simpa [List.getD_eq_getElem?_getD,hi] using this
theorem rt_bad {s:Int} {l:List Int} {k:Nat} {v:Int} (hk:k < l.length) (hv:v=l.getD k default) (h:v < 0∨1048575 < v):¬ RtB s l:=fun hr=>by
  have:=hr.dg.get hk
  have e:l.getD k 0=v:=hv.symm
  omega
theorem rt_nil {s:Int} {l:List Int} (h:l.length=0):s=0↔RtB s l:=by
  have:=List.eq_nil_of_length_eq_zero h
  subst this
  exact ⟨fun h=>⟨Dg.nil,.inl ⟨rfl,h⟩⟩,fun h=>by rcases h.2 with h | h;exact h.2;exact absurd rfl h.1⟩
theorem rt_ok {s v:Int} {l:List Int} {n:Int} (h:¬ (l.length:Int)=0) (hd:∀ i,i < l.length→0≤l.getD i default∧l.getD i default < 1048576) (hv:v=l.getD n.toNat default) (hn:n=(l.length:Int) - 1):((s=1∨s= -1)∧¬ v=0)↔RtB s l:=by
  have hne:l≠[]:=fun e=>by subst e;exact h rfl
  have hz:=Nz_iff hne
  have e:l.getD (l.length - 1) 0=v:=by rw [hv,hn,show ((l.length:Int) - 1).toNat=l.length - 1 by omega];rfl
  rw [e] at hz
  exact ⟨fun ⟨h1,h2⟩=>⟨Dg_of hd,.inr ⟨hne,h1,hz.2 h2⟩⟩,fun hr=>by rcases hr.2 with h | h;exact absurd h.1 hne;exact ⟨h.2.1,hz.1 h.2.2⟩⟩
theorem trim_stop {l:List Int} {n v:Int} (hv:0 < n→v=l.getD (n - 1).toNat default) (h:¬ 0 < n∨¬ v=0):n.toNat=0∨l.getD (n.toNat - 1) 0≠0:=by
  by_cases hn:0 < n
  · refine .inr fun e=>?_
    rcases h with h | h
    · exact h hn
    · apply h;rw [hv hn,show (n - 1).toNat=n.toNat - 1 by omega];exact e
  · exact .inl (by omega)
def sg0 (n:Nat) (s:Int):Int:=if n=0 then 0 else s
theorem len_dig0 {n:Nat}:((dig n).length:Int)=0↔n=0:=by
  rw [←dig_ne (n:=n),← List.length_eq_zero_iff];omega
theorem getD_out {l:List Int} {i:Nat} (h:¬ (i:Int) < l.length):l.getD i 0=0:=by
  rw [List.getD_eq_getElem?_getD,List.getElem?_eq_none (by omega)];rfl
structure OfI (N:Nat) (l:List Int) (u:Int):Prop where
  dg:Dg l
  u0:0≤u
  sum:nv l+1048576 ^ l.length * u.toNat=N
theorem of_start {u:Int} {N:Nat} (h:u.toNat=N) (h0:0≤u):OfI N [] u:=⟨Dg.nil,h0,by simp [nv,h]⟩
theorem of_len {N:Nat} {l:List Int} {u:Int} (h:OfI N l u) (hu:0 < u) (hN:N≤9223372036854775808):l.length≤3:=by
  have h1:=h.sum
  refine Decidable.by_contra fun hc=>?_
  have h2:1048576 ^ 4≤1048576 ^ l.length:=Nat.pow_le_pow_right (by omega) (by omega)
  have h3:1048576 ^ l.length * 1≤1048576 ^ l.length * u.toNat:=Nat.mul_le_mul_left _ (by omega)
  have h4:(1048576:Nat) ^ 4=1208925819614629174706176:=by decide
  omega
theorem of_step {N:Nat} {l:List Int} {u:Int} (h:OfI N l u):OfI N (l ++[u % 1048576]) (u / 1048576):=by
  have h0:=h.u0
  refine ⟨h.dg.append (Dg.one (by omega)),by omega,?_⟩
  have h1:=h.sum
  have e:u.toNat=(u % 1048576).toNat+1048576 * (u / 1048576).toNat:=by omega
  rw [nv_append,List.length_append]
  have e2:=congrArg (fun n=>1048576 ^ l.length * n) e
  simp only [Nat.mul_add] at e2
  have e3:nv [u % 1048576]=(u % 1048576).toNat:=by simp [nv]
  have e4:1048576 ^ (l.length+1) * (u / 1048576).toNat=1048576 ^ l.length * (1048576 * (u / 1048576).toNat):=by rw [Nat.pow_succ,Nat.mul_assoc]
  rw [e3,show l.length+[u % 1048576].length=l.length+1 from rfl,e4]
  omega
theorem of_end {N:Nat} {l:List Int} {u:Int} (h:OfI N l u) (hu:¬ 0 < u):nv l=N:=by
  have h0:=h.u0
  have h1:=h.sum
  have:u.toNat=0:=by omega
  rw [this] at h1
  omega
theorem of_sgn {n:Int} {N:Nat} (h:n.natAbs=N) (k:Int) (hk:(n < 0∧k= -1)∨(¬n < 0∧k=1)):(if N=0 then 0 else k)=sgn n:=by
  unfold sgn
  by_cases h0:N=0
  · rw [if_pos h0,if_neg (by omega),if_pos (by omega)]
  · rw [if_neg h0]
    rcases hk with ⟨h1,rfl⟩ | ⟨h1,rfl⟩
    · rw [if_pos h1]
    · rw [if_neg h1,if_neg (by omega)]
def inI (s:Int) (l:List Int):Prop:=RtB s l∧ -9223372036854775808≤zv s l∧zv s l≤9223372036854775807
instance (s : Int) (l : List Int) : Decidable (inI s l) := by unfold inI; infer_instance
def intV (s:Int) (l:List Int):Int:=if inI s l then zv s l else 0
theorem intV_y {s:Int} {l:List Int} (h:inI s l):intV s l=zv s l:=if_pos h
theorem intV_n {s:Int} {l:List Int} (h:¬ inI s l):intV s l=0:=if_neg h
theorem nv_big {s:Int} {l:List Int} (h:RtB s l) (hn:9223372036854775808 < nv l):¬ inI s l:=fun hi=>by
  have h1:=hi.2
  have h2:=h.abs
  omega
theorem int_len {s:Int} {l:List Int} (h:RtB s l) (hl:4 < (l.length:Int)):¬ inI s l:=by
  refine nv_big h ?_
  have hne:l≠[]:=fun e=>by subst e;simp at hl
  have h1:=nv_ge hne h.dg h.nz
  have h2:1048576 ^ 4≤1048576 ^ (l.length - 1):=Nat.pow_le_pow_right (by omega) (by omega)
  have h4:(1048576:Nat) ^ 4=1208925819614629174706176:=by decide
  omega
theorem int_top {s:Int} {l:List Int} {v:Int} (h:RtB s l) (hl:3 < l.length) (hv:v=l.getD 3 default) (h8:8 < v):¬ inI s l:=by
  refine nv_big h ?_
  have e1:=nv_split l 3
  rw [Nat.min_eq_left (by omega),nv_drop hl] at e1
  have e:l.getD 3 0=v:=hv.symm
  rw [e] at e1
  have h4:(1048576:Nat) ^ 3=1152921504606846976:=by decide
  rw [h4] at e1
  omega
theorem int_step {l:List Int} {k:Nat} {v:Int} (hk:k < l.length) (hv:v=l.getD k default) (hd:Dg l):nv (l.take (k+1))=nv (l.take k)+1048576 ^ k * v.toNat∧0≤v∧v < 1048576:=by
  have e:l.getD k 0=v:=hv.symm
  have h:=hd.get hk
  rw [e] at h
  have:=nv_take hk
  rw [e] at this
  exact ⟨this,h⟩
theorem zv_s {s:Int} {l:List Int} (h:RtB s l):(s < 0→zv s l= -(nv l:Int))∧(0≤s→zv s l=nv l):=by
  unfold zv
  rcases h.cases with ⟨a,rfl⟩ | ⟨a,rfl⟩ | ⟨a,rfl⟩ <;> omega
theorem cmpI_le {x y:Int}: -1≤cmpI x y∧cmpI x y≤1:=by unfold cmpI;split;omega;split <;> omega
theorem sg_le {s:Int} {l:List Int} (h:RtB s l): -1≤s∧s≤1:=by rcases h.cases with ⟨_,rfl⟩ | ⟨_,rfl⟩ | ⟨_,rfl⟩ <;> omega
theorem mul1 {s c:Int} (hs: -1≤s∧s≤1) (hc: -1≤c∧c≤1): -9223372036854775808≤s * c∧s * c≤9223372036854775807:=by
  have:s= -1∨s=0∨s=1:=by omega
  rcases this with rfl | rfl | rfl <;> omega
theorem neg_s {s:Int} {l:List Int} (h:RtB s l):(if nv l=0 then 0 else -s)=sgn (-zv s l):=by
  rw [←neg_z h]
  have:=h.neg.sg
  rw [this]
  rcases h.cases with ⟨a,rfl⟩ | ⟨a,rfl⟩ | ⟨a,rfl⟩
  · rw [if_pos a];rfl
  · rw [if_neg (by omega)]
  · rw [if_neg (by omega)]
theorem neg_d {s:Int} {l:List Int} (h:RtB s l):dig (nv l)=dig (-zv s l).natAbs:=by rw [Int.natAbs_neg,h.abs]
theorem dmul {x y:Int} (hx:0≤x∧x < 1048576) (hy:0≤y∧y < 1048576):0≤x * y∧x * y≤1099509530625 :=
  ⟨Int.mul_nonneg hx.1 hy.1,by have:=Int.mul_le_mul (a:=x) (b:=y) (c:=1048575) (d:=1048575) (by omega) (by omega) hy.1 (by omega);omega⟩
theorem nv_one (x:Int):nv [x]=x.toNat:=by simp [nv]
theorem sh_step {b s x:Int} (h:x=b * s) (hx:x < 524288):b * (s * 2) < 1048576:=by
  have:b * (s * 2)=b * s * 2:=by rw [Int.mul_assoc]
  omega
theorem sh_lt {b s:Int} (hb:1≤b) (hs:1≤s) (h:b * s < 1048576):s < 1048576:=by
  have:=Int.mul_le_mul_of_nonneg_right hb (show 0≤s by omega)
  omega
theorem top_pos {l:List Int} (h:l≠[]) (hd:Dg l) (hz:Nz l):1≤l.getD (l.length - 1) 0:=by
  have h1:=(Nz_iff h).1 hz
  have h2:=hd.get' (l.length - 1)
  omega
theorem win_is {u:List Int} {lo hi n:Nat} (h:hi=lo+n+1):(u.take hi).drop lo=win u lo n:=by
  unfold win
  rw [List.drop_take,h,show lo+n+1 - lo=n+1 by omega]
theorem dig_len_mono {l:List Int} {n:Nat} (hd:Dg l) (hz:Nz l) (h:nv l≤n):l.length≤(dig n).length :=
  len_le (dig_Dg n) hd hz (by rw [nv_dig];exact h)
theorem dig_lt {n k:Nat} (h:n < 1048576 ^ k):(dig n).length≤k:=by
  refine Decidable.by_contra fun hc=>?_
  have hne:dig n≠[]:=fun e=>by rw [e] at hc;simp at hc
  have h1:=nv_ge hne (dig_Dg n) (dig_Nz n)
  rw [nv_dig] at h1
  have h2:1048576 ^ k≤1048576 ^ ((dig n).length - 1):=Nat.pow_le_pow_right (by omega) (by omega)
  omega
theorem mul_len {m n i j:Nat} (h:m < 1048576 ^ i) (k:n < 1048576 ^ j):(dig (m * n)).length≤i+j:=by
  refine dig_lt ?_
  rw [Nat.pow_add]
  have h0:0 < 1048576 ^ j:=Nat.pow_pos (by omega)
  exact Nat.lt_of_le_of_lt (Nat.mul_le_mul_left m (Nat.le_of_lt k)) (Nat.mul_lt_mul_of_pos_right h h0)
theorem mul_dig_len (a b:List Int) (ha:Dg a) (hb:Dg b):(dig (nv a * nv b)).length≤a.length+b.length:=mul_len (nv_lt ha) (nv_lt hb)
theorem div_fin {a b s:Nat} (hs:0 < s):a * s / (b * s)=a / b∧a * s % (b * s) / s=a % b:=by
  refine ⟨Nat.mul_div_mul_right _ _ hs,?_⟩
  rw [Nat.mul_mod_mul_right,Nat.mul_div_cancel _ hs]
theorem div_less {a b:Nat} (h:a < b):dig (a / b)=[]∧a % b=a:=by rw [Nat.div_eq_of_lt h,Nat.mod_eq_of_lt h];exact ⟨rfl,rfl⟩
theorem dvals {v u0 u q:List Int} (h:DivI u0 v u q 0) {s A B:Nat} (hs:0 < s) (h1:nv u0=A * s) (h2:nv v=B * s):nv q=A / B∧nv u / s=A % B:=by
  obtain ⟨e1,e2⟩:=div_end h
  rw [e1,e2,h1,h2]
  exact div_fin hs
theorem nv_app0 (l:List Int):nv (l ++[0])=nv l:=by rw [nv_append];simp [nv]
theorem cmp_lt {x y:Int}:cmpI x y < 0↔x < y:=by unfold cmpI;split;omega;split <;> omega
theorem gmul {x y:Int} (hx:0≤x∧x≤1099511627776) (hy:0≤y∧y < 1048576):0≤x * y∧x * y≤1152921504606846976 :=
  ⟨Int.mul_nonneg hx.1 hy.1,by have:=Int.mul_le_mul (a:=x) (b:=y) (c:=1099511627776) (d:=1048576) (by omega) (by omega) hy.1 (by omega);omega⟩
theorem nv_len1 {l:List Int} (h:l.length=1):nv l=(l.getD 0 0).toNat:=by
  match l,h with
  | [x],_=>simp [nv]
theorem nv_r {a d:Nat} (hd:0 < d) (h:d < 1048576):Dg [((a % d:Nat):Int)]∧nv [((a % d:Nat):Int)]=a % d:=by
  have:=Nat.mod_lt a hd
  exact ⟨Dg.one (by omega),by rw [nv_one,Int.toNat_natCast]⟩
theorem dig_self {l:List Int} (hd:Dg l) (hz:Nz l) {n:Nat} (h:n=nv l):l=dig n:=by rw [h];exact eq_dig hd hz
theorem dig_le {l:List Int} (h:Dg l):(dig (nv l)).length≤l.length:=dig_lt (nv_lt h)
theorem or2 (s t:Int):orL [s,t]=if s=0 then t else s:=by
  unfold orL
  split
  · unfold orL
    split
    · rename_i h;exact h.symm
    · rfl
  · rfl
section
variable {s t : Int} {l m : List Int}
theorem addS (h:RtB s l) (k:RtB t m) (hs:0≤s * t):(if nv (dig (nv l+nv m))=0 then 0 else orL [s,t])=sgn (zv s l+zv t m):=by
  rw [nv_dig,or2];exact (add_same h k hs).2
theorem addD (h:RtB s l) (k:RtB t m) (hs:0≤s * t):dig (nv (dig (nv l+nv m)))=dig (zv s l+zv t m).natAbs:=by
  rw [nv_dig,(add_same h k hs).1]
theorem lessS (h:RtB s l) (k:RtB t m) (hs:¬ 0≤s * t) (hlt:nv l < nv m):(if nv (dig (nv m - nv l))=0 then 0 else t)=sgn (zv s l+zv t m):=by
  rw [nv_dig];exact (add_less h k hs hlt).2
theorem lessD (h:RtB s l) (k:RtB t m) (hs:¬ 0≤s * t) (hlt:nv l < nv m):dig (nv (dig (nv m - nv l)))=dig (zv s l+zv t m).natAbs:=by
  rw [nv_dig,(add_less h k hs hlt).1]
theorem moreS (h:RtB s l) (k:RtB t m) (hs:¬ 0≤s * t) (hge:nv m≤nv l):(if nv (dig (nv l - nv m))=0 then 0 else s)=sgn (zv s l+zv t m):=by
  rw [nv_dig];exact (add_more h k hs hge).2
theorem moreD (h:RtB s l) (k:RtB t m) (hs:¬ 0≤s * t) (hge:nv m≤nv l):dig (nv (dig (nv l - nv m)))=dig (zv s l+zv t m).natAbs:=by
  rw [nv_dig,(add_more h k hs hge).1]
theorem mulS (h:RtB s l) (k:RtB t m):(if nv (dig (nv l * nv m))=0 then 0 else s * t)=sgn (zv s l * zv t m):=by
  rw [nv_dig];exact (mul_z h k).2
theorem mulD (h:RtB s l) (k:RtB t m):dig (nv (dig (nv l * nv m)))=dig (zv s l * zv t m).natAbs:=by
  rw [nv_dig,(mul_z h k).1]
theorem gcdS (n:Nat):(if nv (dig n)=0 then 0 else 1)=sgn (n:Int):=by
  rw [nv_dig];unfold sgn
  by_cases h:n=0
  · rw [if_pos h,if_neg (by omega),if_pos (by omega)]
  · rw [if_neg h,if_neg (by omega),if_neg (by omega)]
theorem gcdD (n:Nat):dig (nv (dig n))=dig (n:Int).natAbs:=by rw [nv_dig,Int.natAbs_natCast]
theorem nv_pos (h:RtB s l) (hs:¬ s=0):nv l≠0∧l≠[]:=by
  rcases h.cases with ⟨_,e⟩ | ⟨a,_⟩ | ⟨a,_⟩
  · exact absurd e hs
  · exact ⟨by omega,fun e=>by subst e;simp [nv] at a⟩
  · exact ⟨by omega,fun e=>by subst e;simp [nv] at a⟩
theorem sml (h:RtB s l) (k:RtB t m): -9223372036854775808≤s * t∧s * t≤9223372036854775807:=mul1 (sg_le h) (by have:=sg_le k;omega)
theorem qS (h:RtB s l) (k:RtB t m) (ht:nv m≠0) (hs:0≤s * t∨nv l % nv m=0):(if nv (dig (nv l / nv m))=0 then 0 else s * t)=sgn (flo (zv s l) (zv t m)):=by rw [nv_dig];exact (div_same h k ht hs).2.2.1
theorem qD (h:RtB s l) (k:RtB t m) (ht:nv m≠0) (hs:0≤s * t∨nv l % nv m=0):dig (nv (dig (nv l / nv m)))=dig (flo (zv s l) (zv t m)).natAbs:=by rw [nv_dig,(div_same h k ht hs).1]
theorem rS (h:RtB s l) (k:RtB t m) (ht:nv m≠0) (hs:0≤s * t∨nv l % nv m=0):(if nv (dig (nv l % nv m))=0 then 0 else s)=sgn (fmo (zv s l) (zv t m)):=by rw [nv_dig];exact (div_same h k ht hs).2.2.2
theorem rD (h:RtB s l) (k:RtB t m) (ht:nv m≠0) (hs:0≤s * t∨nv l % nv m=0):dig (nv (dig (nv l % nv m)))=dig (fmo (zv s l) (zv t m)).natAbs:=by rw [nv_dig,(div_same h k ht hs).2.1]
theorem gcd_step {x y g:Nat} (h:Nat.gcd x y=g):Nat.gcd y (x % y)=g:=by rw [←h,Nat.gcd_comm x y,Nat.gcd_comm y (x % y)];exact (Nat.gcd_rec y x).symm
end
theorem dig_len_mono' {m n:Nat} (h:m≤n):(dig m).length≤(dig n).length:=len_le (dig_Dg n) (dig_Dg m) (dig_Nz m) (by rw [nv_dig,nv_dig];exact h)
theorem nv_ne {l:List Int} (hd:Dg l) (hz:Nz l) (h:l≠[]):nv l≠0:=fun e=>h (by rw [eq_dig hd hz,e];rfl)
end Bg

open Go
namespace Hint
variable {P : Program}
def seG {α:Type} [Dat α] {g:Prop} (Γ:GdI g) (n r:Nat) (E:TypeId) (t:Bool) (l:List α) (s:Gh→SV) (k:Int) (off:Option Nat) (x:α) (x':Gh→α) (hx:x=l.getD k.toNat default) (t2:Bool) (h:g→0≤k∧k < l.length)
    (ht:t2=true→t=true) (qs:List Kv) (hq:∀ G H,(∀ x ∈ l,Dat.good H x)→allR qs G H→Dat.good H (x' G)):Hint P where
  d:={ val:=fun _=>undef,news:=[(r,fun G=>os t2 E (l.set k.toNat (x' G)) (s G),fun G=>(G n).e)] }
  τ:=Option (TypeId × Value × Value) × Option Nat × Bool × Option LE × Nat × Bool × List Value × Bool × List (Option (Bool × (Ent→Heaplet→Prop)) × Bool) × SV × Option Bool × α
  lhs c i G g _:=(c.R.str G i,sizeT P (c.R.stt i),decide (off.getD 0+(c.R.stv G i).cells.toList.length≤Dat.size α),c.leAt i r G,i,(c.R.stv G i).cells.toList.all cell1,Dat.cells (x' G),tOk t2 qs,qs.map (Kv.chk c i G),s (c.R.vis i (RC.put G i g)),Γ.B.map fun _=>c.R.gd G i,x' (c.R.vis i (RC.put G i g)))
  rhs c i G _ _:=(some (c.R.stt i,.pointer (some (offA (elemAddr (s G).v (k.toNat * Dat.size α)) off)),c.R.stv G i),some (c.R.stv G i).cells.toList.length,true,some (os t E l (s G)),n,true,writeL (Dat.cells x) (off.getD 0) (c.R.stv G i).cells.toList,true,qs.map (Kv.want G),s G,Γ.B,x' G)
  sound c i ok hil hi h0:=fun o ho G w hs=>by
    have h1:=fun g=>h0 G g w
    simp only [Prod.mk.injEq] at h1
    obtain ⟨e1,e2,e3,e4,rfl,e6,e7,e8,e9,_,e11,_⟩:=h1 {}
    obtain ⟨b0,b1⟩:=h (Cx.gdOk Γ hs e11)
    have hw:c.R.wrE r i=true:=by unfold RC.wrE;rw [Cx.upsOf hi];simp
    obtain ⟨en,a1,a2,a3⟩:=Cx.own_at ok hil hs e4 (by rw [hw];simp)
    have own:OwnS E (Dat.size α) (rows l) (s G).v en∧∀ x ∈ l,Dat.good (c.J i G t) x:=by
      unfold os ow LE.at at a2
      cases t
      · exact ⟨a2.sl,a2.good⟩
      · exact ⟨a2.sl,a2.good⟩
    obtain ⟨en',w',hr,ho',hg⟩:=storeOwn_does (w:=w) (k:=k.toNat) (row:=Dat.cells x) ho e1 (offA_eq _ _) e2 rfl own.1 a3 (get_map' (by omega) hx) (of_decide_eq_true e3) e6
    unfold Does
    rw [hr]
    have hv:=Cx.vis_self (c:=c) (i:=i) (G:=G) { e:=en' }
    have hsv:=(h1 { e:=en' }).2.2.2.2.2.2.2.2.2.1
    have hxv:=(h1 { e:=en' }).2.2.2.2.2.2.2.2.2.2.2
    refine ⟨{ e:=en' },left_turn ok hil hi hs rfl rfl a1 hg ?_ ?_ rfl rfl (by rw [Cx.valOf hi])⟩
    · show (c.R.vis i (RC.put G i { e:=en' }) i).e=_
      rw [hv]
    · show bif t2 then OSl E _ (l.set k.toNat (x' (c.R.vis i (RC.put G i { e:=en' })))) _ _ else OSl E _ (l.set k.toNat (x' (c.R.vis i (RC.put G i { e:=en' })))) _ _
      rw [hv,hsv,hxv]
      have ho2:OwnS E (Dat.size α) (rows (l.set k.toNat (x' G))) (s G).v en':=by
        have:rows (l.set k.toNat (x' G))=(rows l).set k.toNat (writeL (Dat.cells x) (off.getD 0) (c.R.stv G i).cells.toList):=by rw [←e7];simp [rows,List.map_set]
        rw [this];exact ho'
      have hgl:∀ x ∈ l,Dat.good (c.J i G t2) x:=fun y hy=>by
        cases t2 with
        | true=>rw [←ht rfl];exact own.2 y hy
        | false=>exact Dat.mono _ _ _ (Cx.J_le_false hs _) (own.2 y hy)
      have fin:∀ x ∈ l.set k.toNat (x' G),Dat.good (c.J i G t2) x:=fun y hy=>by
        rcases List.mem_or_eq_of_mem_set hy with hy | hy
        · exact hgl y hy
        · rw [hy];exact hq G _ hgl (allR_of ok hil hs e9 e8)
      cases t2
      · exact ⟨ho2,fin⟩
      · exact ⟨ho2,fin⟩
end Hint

open Go
theorem wrapU64 (n:Int):IntKind.u64.wrap n=n % 18446744073709551616:=by simp [IntKind.wrap,IntKind.bits,IntKind.signed]
theorem wrapU8 (n:Int):IntKind.u8.wrap n=n % 256:=by simp [IntKind.wrap,IntKind.bits,IntKind.signed]
theorem ofInt64 (x:Int):(BitVec.ofInt 64 x).toNat=(x % 18446744073709551616).toNat:=by simp [BitVec.toNat_ofInt]
theorem and64 (x:Int) {b:Nat} {m:Int} (hb:b≤62) (hm:m=2 ^ b - 1):((BitVec.ofInt 64 x &&& BitVec.ofInt 64 m).toNat:Int)=x % (2 ^ b:Nat):=by
  have hm2:(BitVec.ofInt 64 m).toNat=2 ^ b - 1:=by
    rw [ofInt64]
    have h1:(2:Int) ^ b=((2 ^ b:Nat):Int):=by simp
    have h2:2 ^ b≤2 ^ 62:=Nat.pow_le_pow_right (by omega) hb
    have h3:0 < 2 ^ b:=Nat.pow_pos (by omega)
    rw [hm,h1]
    omega
  rw [BitVec.toNat_and,hm2,ofInt64,Nat.and_two_pow_sub_one_eq_mod]
  have h4:(2 ^ b:Nat) ∣ 18446744073709551616:=⟨2 ^ (64 - b),by rw [←Nat.pow_add,show b+(64 - b)=64 by omega]⟩
  have h5:((2 ^ b:Nat):Int) ∣ (18446744073709551616:Int):=Int.natCast_dvd_natCast.2 h4
  rw [Int.natCast_emod,Int.toNat_of_nonneg (Int.emod_nonneg _ (by omega)),Int.emod_emod_of_dvd _ h5]
theorem or64 {r a:Int} {b:Nat} (hr:0≤r) (ha:0≤a∧a < (2 ^ b:Nat)) (hs:r * (2 ^ b:Nat) < 18446744073709551616) (hb:b≤63):((BitVec.ofInt 64 (r * (2 ^ b:Nat)) ||| BitVec.ofInt 64 a).toNat:Int)=r * (2 ^ b:Nat)+a:=by
  rw [BitVec.toNat_or,ofInt64,ofInt64]
  have h2:2 ^ b≤2 ^ 63:=Nat.pow_le_pow_right (by omega) hb
  have h0:0≤r * (2 ^ b:Nat):=Int.mul_nonneg hr (by omega)
  have e1:(r * (2 ^ b:Nat) % 18446744073709551616).toNat=2 ^ b * r.toNat:=by
    rw [Int.emod_eq_of_lt h0 hs,Int.toNat_mul hr (by omega),Nat.mul_comm,Int.toNat_natCast]
  have e2:(a % 18446744073709551616).toNat=a.toNat:=by
    rw [Int.emod_eq_of_lt ha.1 (by omega)]
  rw [e1,e2,← Nat.two_pow_add_eq_or_of_lt (by omega)]
  have e3:((r.toNat:Nat):Int)=r:=by omega
  rw [Int.natCast_add,Int.natCast_mul,e3,Int.mul_comm r];omega
section
variable {P : Program} {T : TypeId} {w : World}
theorem and_run {x n m:Int} {b:Nat} (hb:b≤62) (hm:m=2 ^ b - 1) (hn:n=x % (2 ^ b:Nat)):(binOp .and T (.int .i64 x) (.int .i64 m)).run P w=.ok (.int .i64 n) w:=by
  have h:=and64 x hb hm
  have h3:0 < 2 ^ b:=Nat.pow_pos (by omega)
  have h2:2 ^ b≤2 ^ 62:=Nat.pow_le_pow_right (by omega) hb
  have hn0:0≤n∧n < 2 ^ 62:=by rw [hn];exact ⟨Int.emod_nonneg _ (by omega),by have:=Int.emod_lt_of_pos x (show (0:Int) < ((2 ^ b:Nat):Int) by omega);omega⟩
  have e:(binOp .and T (.int .i64 x) (.int .i64 m)).run P w=.ok (.int .i64 (IntKind.i64.wrap ((BitVec.ofInt 64 x &&& BitVec.ofInt 64 m).toNat:Int))) w:=rfl
  rw [e,h,← hn,IntKind.wrap_i64]
  congr 2;omega
theorem andu_run {x n m:Int} {b:Nat} (hb:b≤62) (hm:m=2 ^ b - 1) (hn:n=x % (2 ^ b:Nat)):(binOp .and T (.int .u64 x) (.int .u64 m)).run P w=.ok (.int .u64 n) w:=by
  have h:=and64 x hb hm
  have h3:0 < 2 ^ b:=Nat.pow_pos (by omega)
  have h2:2 ^ b≤2 ^ 62:=Nat.pow_le_pow_right (by omega) hb
  have hn0:0≤n∧n < 2 ^ 62:=by rw [hn];exact ⟨Int.emod_nonneg _ (by omega),by have:=Int.emod_lt_of_pos x (show (0:Int) < ((2 ^ b:Nat):Int) by omega);omega⟩
  have e:(binOp .and T (.int .u64 x) (.int .u64 m)).run P w=.ok (.int .u64 (IntKind.u64.wrap ((BitVec.ofInt 64 x &&& BitVec.ofInt 64 m).toNat:Int))) w:=rfl
  rw [e,h,← hn,wrapU64]
  congr 2;omega
theorem or_run {r a n:Int} {b:Nat} (hb:b≤62) (hr:0≤r) (ha:0≤a∧a < (2 ^ b:Nat)) (hn:n=r * (2 ^ b:Nat)+a) (hs:n≤9223372036854775807):(binOp .or T (.int .i64 (r * (2 ^ b:Nat))) (.int .i64 a)).run P w=.ok (.int .i64 n) w:=by
  have h0:0≤r * (2 ^ b:Nat):=Int.mul_nonneg hr (by omega)
  have h:=or64 hr ha (by omega) (by omega)
  have e:(binOp .or T (.int .i64 (r * (2 ^ b:Nat))) (.int .i64 a)).run P w=.ok (.int .i64 (IntKind.i64.wrap ((BitVec.ofInt 64 (r * (2 ^ b:Nat)) ||| BitVec.ofInt 64 a).toNat:Int))) w:=rfl
  rw [e,h,← hn,IntKind.wrap_i64]
  congr 2;omega
theorem oru_run {r a n:Int} {b:Nat} (hb:b≤63) (hr:0≤r) (ha:0≤a∧a < (2 ^ b:Nat)) (hn:n=r * (2 ^ b:Nat)+a) (hs:n < 18446744073709551616):(binOp .or T (.int .u64 a) (.int .u64 (r * (2 ^ b:Nat)))).run P w=.ok (.int .u64 n) w:=by
  have h0:0≤r * (2 ^ b:Nat):=Int.mul_nonneg hr (by omega)
  have h:=or64 hr ha (by omega) hb
  have e:(binOp .or T (.int .u64 a) (.int .u64 (r * (2 ^ b:Nat)))).run P w=.ok (.int .u64 (IntKind.u64.wrap ((BitVec.ofInt 64 a ||| BitVec.ofInt 64 (r * (2 ^ b:Nat))).toNat:Int))) w:=rfl
  rw [e,BitVec.or_comm,h,← hn,wrapU64]
  congr 2;omega
theorem shr_run {k yk:IntKind} {x n:Int} (s:Nat) (hs:s≤k.bits) (hn:n=x / (2 ^ s:Nat)):(binOp .shr T (.int k x) (.int yk s)).run P w=.ok (.int k n) w:=by
  have e:(binOp .shr T (.int k x) (.int yk s)).run P w=.ok (.int k (x.fdiv (2 ^ s))) w:=by
    simp [binOp,Op.shift,Nat.min_eq_left hs,show ¬ (s:Int) < 0 by omega]
  have h1:(2:Int) ^ s=((2 ^ s:Nat):Int):=by simp
  rw [e,h1,Int.fdiv_eq_ediv_of_nonneg _ (Int.natCast_nonneg _),← hn]
theorem shl_run {k yk:IntKind} {x n y:Int} (s:Nat) (hy:y=s) (hs:s≤k.bits) (hn:n=k.wrap (x * (2 ^ s:Nat))):(binOp .shl T (.int k x) (.int yk y)).run P w=.ok (.int k n) w:=by
  subst hy
  have h1:(2:Int) ^ s=((2 ^ s:Nat):Int):=by simp
  have e:(binOp .shl T (.int k x) (.int yk s)).run P w=.ok (.int k (k.wrap (x * 2 ^ s))) w:=by
    simp [binOp,Op.shift,Nat.min_eq_left hs,show ¬ (s:Int) < 0 by omega]
  rw [e,h1,← hn]
theorem sadd_run {a b:ByteArray} (h:(a.size:Int)+b.size≤9223372036854775807):(binOp .add T (.string a) (.string b)).run P w=.ok (.string (a ++b)) w:=by
  have h2:¬ (IntKind.i64.max < ((a.size+b.size:Nat):Int)):=by
    have:IntKind.i64.max=9223372036854775807:=by decide
    rw [this];omega
  simp [binOp,Op.stringOp,h2]
  omega
end
def bl (s:ByteArray):List UInt8:=s.data.toList
@[simp] theorem bl_len (s:ByteArray):(bl s).length=s.size:=by unfold bl;rw [Array.length_toList];rfl
theorem bl_inj {a b:ByteArray} (h:bl a=bl b):a=b:=by
  cases a;cases b
  simp only [bl] at h
  congr 1
  exact Array.toList_inj.1 h
@[simp] theorem bl_empty:bl ByteArray.empty=[]:=rfl
theorem bl_get {s:ByteArray} {i:Nat} (h:i < s.size):s[i]=(bl s).getD i default:=by
  have h2:i < (bl s).length:=by simpa using h
  rw [List.getD_eq_getElem?_getD,List.getElem?_eq_getElem h2]
  simp [bl,ByteArray.getElem_eq_getElem_data]
def isStr (P:Program) (t:TypeId):Bool:=match P.underlying t with
  | some .string=>true
  | _=>false
theorem str_of {P:Program} {t:TypeId} (h:isStr P t=true):P.underlying t=some .string:=by
  unfold isStr at h
  split at h
  · assumption
  · cases h
def RC.idr (R:RC) (G:Gh) (i:Nat):Option (TypeId × Value × Value):=match (R.ops[i]?).map (fun o:Oper=>o.op) with
  | some (.index t x y)=>some (t,R.evalAt G i x,R.evalAt G i y)
  | _=>none
def RC.idt (R:RC) (i:Nat):TypeId:=match (R.ops[i]?).map (fun o:Oper=>o.op) with
  | some (.index t _ _)=>t
  | _=>0
namespace Hint
variable {P : Program}
def ek {g:Prop} (Γ:GdI g) (k:IntKind) (t n:Int) (h:g→k.wrap t=n):Hint P:=e Γ (.int k (k.wrap t)) (.int k n) fun hg=>by rw [h hg]
def andm {g:Prop} (Γ:GdI g) (x m n:Int) (b:Nat) (hb:b≤62) (hm:m=2 ^ b - 1) (hn:n=x % (2 ^ b:Nat)):Hint P:=bin Γ .and (.int .i64 x) (.int .i64 m) (.int .i64 n) fun _ _ _=>and_run hb hm hn
def andu {g:Prop} (Γ:GdI g) (x m n:Int) (b:Nat) (hb:b≤62) (hm:m=2 ^ b - 1) (hn:n=x % (2 ^ b:Nat)):Hint P:=bin Γ .and (.int .u64 x) (.int .u64 m) (.int .u64 n) fun _ _ _=>andu_run hb hm hn
def orm {g:Prop} (Γ:GdI g) (z r a n:Int) (b:Nat) (hz:z=r * (2 ^ b:Nat)) (h:g→b≤62∧0≤r∧(0≤a∧a < (2 ^ b:Nat))∧n=r * (2 ^ b:Nat)+a∧n≤9223372036854775807):Hint P:=bin Γ .or (.int .i64 z) (.int .i64 a) (.int .i64 n) fun hg _ _=>by
  obtain ⟨h1,h2,h3,h4,h5⟩:=h hg
  rw [hz];exact or_run h1 h2 h3 h4 h5
def oru {g:Prop} (Γ:GdI g) (a z r n:Int) (b:Nat) (hz:z=r * (2 ^ b:Nat)) (h:g→b≤63∧0≤r∧(0≤a∧a < (2 ^ b:Nat))∧n=r * (2 ^ b:Nat)+a∧n < 18446744073709551616):Hint P:=bin Γ .or (.int .u64 a) (.int .u64 z) (.int .u64 n) fun hg _ _=>by
  obtain ⟨h1,h2,h3,h4,h5⟩:=h hg
  rw [hz];exact oru_run h1 h2 h3 h4 h5
def shrm {g:Prop} (Γ:GdI g) (k yk:IntKind) (x n:Int) (s:Nat) (hs:s≤k.bits) (hn:n=x / (2 ^ s:Nat)):Hint P:=bin Γ .shr (.int k x) (.int yk s) (.int k n) fun _ _ _=>shr_run s hs hn
def shlm {g:Prop} (Γ:GdI g) (k yk:IntKind) (x y n:Int) (s:Nat) (h:g→y=s∧s≤k.bits∧n=k.wrap (x * (2 ^ s:Nat))):Hint P:=bin Γ .shl (.int k x) (.int yk y) (.int k n) fun hg _ _=>by
  obtain ⟨h1,h2,h3⟩:=h hg
  exact shl_run s h1 h2 h3
def sad {g:Prop} (Γ:GdI g) (a b c:ByteArray) (hc:c=a ++b) (h:g→(a.size:Int)+b.size≤9223372036854775807):Hint P:=bin Γ .add (.string a) (.string b) (.string c) fun hg _ _=>by
  rw [hc];exact sadd_run (h hg)
def sid {g:Prop} (Γ:GdI g) (s:ByteArray) (i:Int) (x:UInt8) (hx:x=(bl s).getD i.toNat default) (h:g→0≤i∧i < s.size):Hint P where
  d:={ val:=fun _=>.int .u8 x.toNat }
  τ:=Option (TypeId × Value × Value) × Value × Option Bool × Bool
  lhs c i' G _ _:=(c.R.idr G i',c.R.val i' (RC.put G i' {}),Γ.B.map fun _=>c.R.gd G i',isStr P (c.R.idt i'))
  rhs c i' _ _ _:=(some (c.R.idt i',.string s,.int .i64 i),.int .u8 x.toNat,Γ.B,true)
  sound c i' _ _ hi h0:=fun o ho G w hs=>by
    have h1:=h0 G {} w
    simp only [Prod.mk.injEq] at h1
    obtain ⟨e1,e2,e3,e4⟩:=h1
    refine Cx.still hi rfl (fun _=>⟨rfl,rfl⟩) ho (x:=.int .u8 x.toNat) ?_ e2
    obtain ⟨b0,b1⟩:=h (Cx.gdOk Γ hs e3)
    have hu:=str_of e4
    generalize hT:c.R.idt i'=T at *
    unfold RC.idr at e1
    rw [ho] at e1
    obtain ⟨dst,op',type,pos,after,guard⟩:=o
    cases op' <;> simp only [Option.map_some] at e1 <;> first | (simp at e1;done) | skip
    case index t' x' y' =>
      simp only [Option.some.injEq,Prod.mk.injEq] at e1
      obtain ⟨rfl,h1,h2⟩:=e1
      have hr:=run_index_string (P:=P) w t' s .i64 i hu
      rw [dif_pos ⟨b0,b1⟩,bl_get (show i.toNat < s.size by omega),← hx] at hr
      simp [execOp,h1,h2,hr]
def ssl {g:Prop} (Γ:GdI g) (s:ByteArray) (lo hi:Option Int) (a b:Int) (ha:a=lo.getD 0) (hb:b=hi.getD s.size) (t:ByteArray) (ht:t=s.extract a.toNat b.toNat) (h:g→0≤a∧a≤b∧b≤s.size):Hint P where
  d:={ val:=fun _=>.string t }
  τ:=Option (TypeId × Value × Option Value × Option Value × Bool) × Value × Option Bool × Bool
  lhs c i' G _ _:=(c.R.slr G i',c.R.val i' (RC.put G i' {}),Γ.B.map fun _=>c.R.gd G i',isStr P (c.R.slt i'))
  rhs c i' _ _ _:=(some (c.R.slt i',.string s,lo.map (.int .i64 ·),hi.map (.int .i64 ·),true),.string t,Γ.B,true)
  sound c i' _ _ hi' h0:=fun o ho G w hs=>by
    have h1:=h0 G {} w
    simp only [Prod.mk.injEq] at h1
    obtain ⟨e1,e2,e3,e4⟩:=h1
    refine Cx.still hi' rfl (fun _=>⟨rfl,rfl⟩) ho (x:=.string t) ?_ e2
    obtain ⟨b0,b1,b2⟩:=h (Cx.gdOk Γ hs e3)
    have hu:=str_of e4
    generalize hT:c.R.slt i'=T at *
    unfold RC.slr at e1
    rw [ho] at e1
    obtain ⟨dst,op',type,pos,after,guard⟩:=o
    cases op' <;> simp only [Option.map_some] at e1 <;> first | (simp at e1;done) | skip
    case slice t' x lo' hi2 mx =>
      simp only [Option.some.injEq,Prod.mk.injEq] at e1
      obtain ⟨rfl,hx,hl,hh,hm⟩:=e1
      have hmx:mx=none:=by simpa using hm
      subst hmx
      have hbd:(Instr.sliceBounds false s.size s.size (lo'.map (c.R.evalAt G i')) (hi2.map (c.R.evalAt G i')) none).run P w=.ok (a.toNat,b.toNat,s.size) w:=by
        rw [hl,hh]
        have hlh:a≤(b.toNat:Int):=by omega
        have hb0:0≤b:=by omega
        have hlh2:a≤max b 0:=by omega
        cases lo with
        | none =>
          simp only [Option.getD_none] at ha
          subst ha
          cases hi with
          | none =>
            simp only [Option.getD_none] at hb
            subst hb
            simp [Instr.sliceBounds]
          | some h' =>
            simp only [Option.getD_some] at hb
            subst hb
            simp [Instr.sliceBounds,Instr.sliceBound,asIntOf,b2,hb0]
        | some l' =>
          simp only [Option.getD_some] at ha
          subst ha
          cases hi with
          | none =>
            simp only [Option.getD_none] at hb
            subst hb
            simp [Instr.sliceBounds,Instr.sliceBound,asIntOf,b0,b1]
          | some h' =>
            simp only [Option.getD_some] at hb
            subst hb
            simp [Instr.sliceBounds,Instr.sliceBound,asIntOf,b2,hb0,b0,b1,hlh,hlh2]
      simp [execOp,Instr.sliceAt,underlying,hu,hx,Instr.slice,hbd,ht]
end Hint

open Go
section
variable {α : Type} [Dat α]
theorem mid_take (a p b:List α):((a ++p ++b).take (a.length+p.length)).drop a.length=p:=by
  rw [List.take_append_of_le_length (by simp),List.take_of_length_le (by simp)]
  first | rfl | simp
theorem mid_sub {H:Heaplet} {a p b:List α} {s:SV} (h:RSl H (a ++p ++b) s.v):RSl H p (s.sub (Dat.size α) a.length (a.length+p.length)).v:=by
  have:=h.sub (lo:=a.length) (hi:=a.length+p.length) (by omega) (by simp)
  rw [mid_take] at this
  exact this
def kop (t:Bool) (E:TypeId) (r:Nat) (a p b:List α) (m:Nat) (hm:p.length=m) (s:Gh→SV):Kw α p (fun G=>(s G).sub (Dat.size α) a.length (a.length+m)):=⟨.o r,t,false,fun G e H=>OSl E H (a ++p ++b) (s G).v e,fun G e H U h k he=>by
  subst hm
  exact mid_sub ⟨h.sl.toH.mono he,fun x hx=>Dat.mono _ _ x k (h.good x hx)⟩,fun _ _ _ h x hx=>h.good x (by simp [hx]),fun h=>by cases h⟩
theorem cut3 {l:List α} {lo hi:Nat} (h1:lo≤hi) (h2:hi≤l.length):l=l.take lo ++(l.take hi).drop lo ++l.drop hi:=by
  have e:l.take lo=(l.take hi).take lo:=by rw [List.take_take,Nat.min_eq_left h1]
  rw [e,List.take_append_drop,List.take_append_drop]
theorem cutlo {l:List α} {lo:Nat} (h:lo≤l.length):lo=(l.take lo).length:=by rw [List.length_take];omega
theorem cuthi {l:List α} {lo hi:Nat} (h1:lo≤hi) (h2:hi≤l.length):hi=(l.take lo).length+((l.take hi).drop lo).length:=by rw [List.length_drop,List.length_take,List.length_take];omega
theorem mid_set (a p b:List α) (k:Nat) (x:α) (hk:k < p.length):(a ++p ++b).set (a.length+k) x=a ++p.set k x ++b:=by
  rw [List.append_assoc,List.set_append_right _ _ (by omega),List.append_assoc]
  congr 1
  rw [show a.length+k - a.length=k by omega,List.set_append_left _ _ hk]
theorem mid_get (a p b:List α) (k:Nat) (hk:k < p.length):(a ++p ++b).getD (a.length+k) default=p.getD k default:=by
  simp only [List.getD_eq_getElem?_getD]
  rw [List.append_assoc,List.getElem?_append_right (by omega),show a.length+k - a.length=k by omega,List.getElem?_append_left hk]
theorem mid_addr {E:TypeId} {a p b:List α} {s:SV} {e:Ent} (h:OwnS E (Dat.size α) (rows (a ++p ++b)) s.v e) {k:Nat} (hk:k < p.length) :
    elemAddr (s.sub (Dat.size α) a.length (a.length+p.length)).v (k * Dat.size α)=(elemAddr s.v ((a.length+k) * Dat.size α)).add 0:=by
  rcases h.val with ⟨_,h2,_⟩ | ⟨g,cap,cur,e1,_,h2,_⟩
  · exfalso
    have:=congrArg List.length h2
    simp at this
    have h3:=this.2.1
    rw [h3] at hk;simp at hk
  · have ha:s.a=some ⟨g,0,none⟩:=by unfold SV.v at e1;injection e1
    have hc:s.c=cap:=by unfold SV.v at e1;injection e1
    have hne:¬ s.c=a.length:=by simp at h2;omega
    unfold SV.sub SV.v
    rw [if_neg hne,ha]
    show ((⟨g,0,none⟩:Addr).add _).add _=((⟨g,0,none⟩:Addr).add _).add _
    have ad:∀ (o n:Nat),(⟨g,o,none⟩:Addr).add n=⟨g,o+n,none⟩:=fun o n=>add_eq rfl n
    rw [ad,ad,ad,ad]
    simp only [Addr.mk.injEq,and_true,true_and]
    rw [Nat.add_mul];omega
end
theorem V.tro {P:Program} {E:Env P} {S:Stop} {t:St} {α:Type} [Dat α] (T:TypeId) (l:List α) (s:SV) (r:Nat) (hr:t.L[r]?=some (os false T l s)) (hg:∀ (H:Heaplet) (x:α),Dat.good H x) (k:V E S ⟨t.sl,t.F,t.L.set r (os true T l s)⟩):V E S t:=fun N ε ac w hin=>by
  have hlt:r < t.L.length:=(List.getElem?_eq_some_iff.1 hr).1
  have hents:ents (t.L.set r (os true T l s)) ε=ents t.L ε:=by
    refine List.ext_getElem? fun j=>?_
    rw [ents_get,ents_get,List.getElem?_set]
    by_cases e:r=j
    · subst e;rw [if_pos rfl,if_pos hlt,hr];rfl
    · rw [if_neg e]
  refine k N ε ac w ⟨hin.slots,by rw [hents];exact hin.st,hin.new,hin.facts,fun j y hy=>?_⟩
  rw [List.getElem?_set] at hy
  by_cases e:r=j
  · subst e
    rw [if_pos rfl,if_pos hlt] at hy
    cases hy
    have h:=hin.own r _ hr
    have h2:OSl T (hun N E.H) l s.v (ε r):=h
    show OSl T N l s.v (ε r)
    exact h2.any fun x _=>hg _ x
  · rw [if_neg e] at hy
    exact hin.own j y hy
namespace Hint
variable {P : Program}
def slv {α:Type} [Dat α] {l:List α} {s:Gh→SV} {g:Prop} (Γ:GdI g) (κ:Kw α l s) (lo hi:Option Int) (a b:Int) (ha:a=lo.getD 0) (hb:b=hi.getD l.length) (h:g→0≤a∧a≤b∧b≤l.length):Hint P where
  d:={ val:=fun G=>((s G).sub (Dat.size α) a.toNat b.toNat).v,rds:=κ.rdr }
  τ:=Option (TypeId × Value × Option Value × Option Value × Bool) × Option Nat × Value × Option Bool × (Option (Bool × (Ent→Heaplet→Prop)) × Bool)
  lhs c i G g _:=(c.R.slr G i,(sliceOf P (c.R.slt i)).bind (sizeT P),c.R.val i (RC.put G i {}),Γ.B.map fun _=>c.R.gd G i,κ.lhs c i G)
  rhs c i G _ _:=(some (c.R.slt i,κ.v G,lo.map (.int .i64 ·),hi.map (.int .i64 ·),true),some (Dat.size α),((s G).sub (Dat.size α) a.toNat b.toNat).v,Γ.B,κ.rhs G)
  sound c i ok hil hi h0:=fun o ho G w hs=>by
    have h1:=h0 G {} w
    simp only [Prod.mk.injEq] at h1
    obtain ⟨e1,e2,e3,e4,e5⟩:=h1
    obtain ⟨b0,b1,b2⟩:=h (Cx.gdOk Γ hs e4)
    simp only [Option.bind_eq_some_iff] at e2
    obtain ⟨E,e2,e6⟩:=e2
    have hr:=κ.read ok hil hs e5
    have hrun:=slice_does (w:=w) ho e1 e2 e6 ha hb hr.isSl b0 b1 b2
    exact still_does hi rfl (fun g=>conj_nil hi rfl (fun _=>⟨rfl,rfl⟩) _) hrun e3
def sep {α:Type} [Dat α] {g:Prop} (Γ:GdI g) (n r:Nat) (E:TypeId) (t:Bool) (a p b:List α) (m:Nat) (hm:p.length=m) (s:Gh→SV) (k:Int) (x':α) (p2:List α) (hp:p2=p.set k.toNat x') (h:g→0≤k∧k < p.length) (hq:∀ H,Dat.good H x'):Hint P where
  d:={ val:=fun _=>undef,news:=[(r,fun G=>os t E (a ++p2 ++b) (s G),fun G=>(G n).e)] }
  τ:=Option (TypeId × Value × Value) × Option Nat × Option LE × Nat × Bool × List Value × SV × Option Bool
  lhs c i G g _:=(c.R.str G i,sizeT P (c.R.stt i),c.leAt i r G,i,(c.R.stv G i).cells.toList.all cell1,(c.R.stv G i).cells.toList,s (c.R.vis i (RC.put G i g)),Γ.B.map fun _=>c.R.gd G i)
  rhs c i G _ _:=(some (c.R.stt i,.pointer (some (elemAddr ((s G).sub (Dat.size α) a.length (a.length+m)).v (k.toNat * Dat.size α))),c.R.stv G i),some (c.R.stv G i).cells.toList.length,some (os t E (a ++p ++b) (s G)),n,true,Dat.cells x',s G,Γ.B)
  sound c i ok hil hi h0:=fun o ho G w hs=>by
    subst hm
    have h1:=fun g=>h0 G g w
    simp only [Prod.mk.injEq] at h1
    obtain ⟨e1,e2,e4,rfl,e6,e7,_,e11⟩:=h1 {}
    obtain ⟨b0,b1⟩:=h (Cx.gdOk Γ hs e11)
    have hw:c.R.wrE r i=true:=by unfold RC.wrE;rw [Cx.upsOf hi];simp
    obtain ⟨en,a1,a2,a3⟩:=Cx.own_at ok hil hs e4 (by rw [hw];simp)
    have own:OwnS E (Dat.size α) (rows (a ++p ++b)) (s G).v en∧∀ x ∈ a ++p ++b,Dat.good (c.J i G t) x:=by
      unfold os ow LE.at at a2
      cases t
      · exact ⟨a2.sl,a2.good⟩
      · exact ⟨a2.sl,a2.good⟩
    have hk:k.toNat < p.length:=by omega
    have hlen:(c.R.stv G i).cells.toList.length=Dat.size α:=by rw [e7];exact Dat.len _
    obtain ⟨en',w',hr,ho',hg⟩:=storeOwn_does (w:=w) (k:=a.length+k.toNat) (off:=0) (row:=Dat.cells (p.getD k.toNat default)) ho e1 (mid_addr own.1 hk) e2 rfl own.1 a3 (get_map' (by simp;omega) (mid_get a p b _ hk).symm) (by omega) e6
    unfold Does
    rw [hr]
    have hv:=Cx.vis_self (c:=c) (i:=i) (G:=G) { e:=en' }
    obtain ⟨_,_,_,_,_,_,hsv,_⟩:=h1 { e:=en' }
    refine ⟨{ e:=en' },left_turn ok hil hi hs rfl rfl a1 hg ?_ ?_ rfl rfl (by rw [Cx.valOf hi])⟩
    · show (c.R.vis i (RC.put G i { e:=en' }) i).e=_
      rw [hv]
    · show bif t then OSl E _ (a ++p2 ++b) _ _ else OSl E _ (a ++p2 ++b) _ _
      rw [hv,hsv]
      have e8:a ++p2 ++b=(a ++p ++b).set (a.length+k.toNat) x':=by rw [hp,mid_set _ _ _ _ _ hk]
      have ho2:OwnS E (Dat.size α) (rows (a ++p2 ++b)) (s G).v en':=by
        have:rows (a ++p2 ++b)=(rows (a ++p ++b)).set (a.length+k.toNat) (writeL (Dat.cells (p.getD k.toNat default)) 0 (c.R.stv G i).cells.toList):=by
          rw [e8,e7]
          have hwl:writeL (Dat.cells (p.getD k.toNat default)) 0 (Dat.cells x')=Dat.cells x':=by
            unfold writeL
            rw [List.take_zero,List.nil_append,List.drop_of_length_le,List.append_nil]
            have l1:=Dat.len (p.getD k.toNat default)
            have l2:=Dat.len x'
            omega
          rw [hwl];simp [rows,List.map_set]
        rw [this];exact ho'
      have fin:∀ x ∈ a ++p2 ++b,Dat.good (c.J i G t) x:=fun y hy=>by
        rw [e8] at hy
        rcases List.mem_or_eq_of_mem_set hy with hy | hy
        · exact own.2 y hy
        · rw [hy];exact hq _
      cases t
      · exact ⟨ho2,fin⟩
      · exact ⟨ho2,fin⟩
end Hint

open Go
section
variable {P : Program} {E : Env P} {S : Stop} {t : St}
theorem V.frzB {α:Type} [Dat α] (r b0:Nat) (arr:Array Value) (T:TypeId) (x:α) (b:Bool) (j0:Nat) (f0:FP) (hr:(t.L[r]?,E.X,arr.toList,t.F[j0]?,f0.t)=(some (.blk b0 arr T),[],Dat.cells x,some f0,b)) (hg:∀ H,f0.p H→Dat.good H x)
    (k:V E S ⟨t.sl,t.F ++[fs b [x] ⟨atB b0,1,1⟩],t.L.set r .no⟩):V E S t:=fun N ε a w hin=>by
  simp only [Prod.mk.injEq] at hr
  obtain ⟨hr,hX,harr,hf0,htf⟩:=hr
  have hfx:=hin.facts f0 (List.mem_of_getElem? hf0)
  have hown:∀ J:Heaplet,Dat.good J x→OSl T J [x] (SV.v ⟨atB b0,1,1⟩) (some (b0,.cells arr T)):=fun J hgx=>OSl.lit (E:=T) (g:=b0) (fun y hy=>by rw [List.mem_singleton.1 hy];exact hgx) (by rw [harr];simp [rows];decide)
  have he:(ents t.L ε)[r]?=some (some (b0,.cells arr T)):=by rw [ents_get,hr];rfl
  generalize (some (b0,Obj.cells arr T):Ent)=ρ at hown he
  have hK:Agrees w (hun N E.H):=hin.st.agr _ (by simp)
  have hE:Agrees w (entH ρ):=entH_agrees fun b o hb=>(hin.st.ent r b o (by rw [he,hb])).1
  have s1:Sub N (hun (entH ρ) N):=hun_right' (U:=whole w) hE (hun_left.trans hK)
  have eK:hun (hun (entH ρ) N) E.H=hun (entH ρ) (hun N E.H):=hun_assoc _ _ _
  have s2:Sub (hun N E.H) (hun (hun (entH ρ) N) E.H):=by rw [eK];exact hun_right' (U:=whole w) hE hK
  have hents:∀ (j b:Nat) (o:Obj),(ents (t.L.set r .no) ε)[j]?=some (some (b,o))→j≠r∧(ents t.L ε)[j]?=some (some (b,o)):=fun j b o h=>by
    rw [ents_get,Option.map_eq_some_iff] at h
    obtain ⟨y,hy,he⟩:=h
    rcases set_get hy with ⟨rfl,rfl⟩ | ⟨hj,hy⟩
    · cases he
    · exact ⟨hj,by rw [ents_get,hy,← he];rfl⟩
  refine k (hun (entH ρ) N) ε a w ⟨hin.slots,⟨hin.st.base,fun K hk=>?_,fun j b o h=>?_,fun j j' b o o' h h'=>hin.st.dis j j' b o o' (hents _ _ _ h).2 (hents _ _ _ h').2⟩,fun b hb=>?_,fun f hf=>?_,fun j y hy=>?_⟩
  · have:K=hun (hun (entH ρ) N) E.H:=by simpa using hk
    subst this
    rw [eK];exact hun_agrees hE hK
  · obtain ⟨hj,h⟩:=hents j b o h
    obtain ⟨h1,h2,h3⟩:=hin.st.ent j b o h
    refine ⟨h1,h2,fun K hk=>?_⟩
    have:K=hun (hun (entH ρ) N) E.H:=by simpa using hk
    subst this
    rw [eK]
    have hn:entH ρ b=none:=by
      cases hh:entH ρ b with
      | none=>rfl
      | some o' =>
        exfalso
        unfold entH at hh
        cases hp:ρ with
        | none=>rw [hp] at hh;cases hh
        | some p =>
          rw [hp] at hh
          simp only at hh
          split at hh
          · rename_i hb;subst hb
            exact hj (hin.st.dis j r p.1 o p.2 h (by rw [he,hp]))
          · cases hh
    simp only [hun,hn]
    exact h3 (hun N E.H) (by simp)
  · cases hh:entH ρ b with
    | none =>
      simp only [hun,hh] at hb
      exact hin.new b hb
    | some o' =>
      unfold entH at hh
      cases hp:ρ with
      | none=>rw [hp] at hh;cases hh
      | some p =>
        rw [hp] at hh
        simp only at hh
        split at hh
        · rename_i hb';subst hb'
          rcases (hin.st.ent r p.1 p.2 (by rw [he,hp])).2.1 with h1 | h1
          · exact h1
          · rw [hX] at h1;cases h1
        · cases hh
  · rcases List.mem_append.1 hf with hf | hf
    · exact FP.mono (hin.facts f hf) s1 s2
    · have:f=fs b [x] ⟨atB b0,1,1⟩:=by simpa using hf
      subst this
      have key:∀ J J':Heaplet,Sub J J'→Sub (entH ρ) J'→Dat.good J x→RSl J' [x] (SV.v ⟨atB b0,1,1⟩):=fun J J' h1 h2 h=>(hown J h).frozen h1 h2
      unfold FP.at at hfx
      rw [htf] at hfx
      show bif b then RSl _ [x] _ else RSl _ [x] _
      cases b
      · exact key _ _ s2 (by rw [eK];exact hun_left) (hg _ hfx)
      · exact key _ _ s1 hun_left (hg _ hfx)
  · rcases set_get hy with ⟨rfl,rfl⟩ | ⟨hj,hy⟩
    · trivial
    · exact LE.mono (hin.own j y hy) s1 s2
end
def FP.up (f:FP):FP:=⟨true,f.p,f.m,f.q,f.hq⟩
def sideT (qs:List Kv):Bool:=qs.all fun q=>q.κ.f && q.κ.t
namespace Hint
variable {P : Program}
def ctT {g:Prop} (Γ:GdI g) (n f:Nat) (qs:List Kv) {args:Gh→Array Value} {V:Gh→Rec→Value} {F':Gh→Rec→List FP} {pu:Gh→Rec→List Prop}
    (ct:g→∀ G,Ct P f (args G) (qs.map (Kv.fp G)) [] (V G) (F' G) (fun _=>[]) (pu G)):Hint P where
  d:={ val:=fun G=>V G (G n),facts:=fun G=>(F' G (G n)).map FP.up,rds:=qrds qs,pu:=fun G=>pu G (G n) }
  τ:=Option (Result Next) × Nat × Value × List FP × List Prop × List (Option (Bool × (Ent→Heaplet→Prop)) × Bool) × Bool × Option Bool
  lhs c i G g w:=(c.R.ex P G i w,i,V (c.R.vis i (RC.put G i g)) g,F' (c.R.vis i (RC.put G i g)) g,pu (c.R.vis i (RC.put G i g)) g,qs.map (Kv.chk c i G),sideT qs,Γ.B.map fun _=>c.R.gd G i)
  rhs _ _ G g w:=(some (.ok (.enter f (args G)) w),n,V G g,F' G g,pu G g,qs.map (Kv.want G),true,Γ.B)
  sound c i ok hil hi h:=fun o ho G w hs=>by
    have h0:=h G {} w
    simp only [Prod.mk.injEq,RC.ex,ho,Option.map_some,Option.some.injEq] at h0
    obtain ⟨e1,rfl,_,_,_,e8,e9,e10⟩:=h0
    have hct:=ct (Cx.gdOk Γ hs e10) G
    have hup:c.R.ups i=[]:=by rw [Cx.upsOf hi];rfl
    have hfacts:∀ q ∈ qs.map (Kv.fp G),q.p (c.J i G true):=fun p hp=>by
      obtain ⟨q,hq,rfl⟩:=List.mem_map.1 hp
      have hm:q.κ.src.what c i G=(some (q.κ.t,q.κ.p G),true):=map_eq e8 q hq
      obtain ⟨e,a1,_,_,_⟩:=Src.get ok hil hs hm
      have h2:=List.all_eq_true.1 e9 q hq
      rw [Bool.and_eq_true] at h2
      rw [h2.2] at a1
      exact q.κ.rj h2.1 G e _ a1
    have hst:StW w (blks (ents [] fun _=>none)) [c.J i G true] (ents [] fun _=>none) w:=by
      refine ⟨Base.refl _ _,fun K hK=>?_,fun k b o hk=>by simp [ents] at hk,fun k l b o o' hk _=>by simp [ents] at hk⟩
      have:K=c.J i G true:=by simpa using hK
      subst this;exact Cx.J_le hs true
    have hcall:=hct w (c.J i G true) (fun _=>none) (Cx.J_le hs true) hfacts hst (fun k x hx=>by simp at hx)
    unfold Does
    rw [e1]
    refine hcall.mono ?_
    rintro e w' ⟨g,C⟩
    refine ⟨_,C.ret,g,?_⟩
    have hg:=h G g w
    simp only [Prod.mk.injEq] at hg
    obtain ⟨_,_,f1,f2,f4,_⟩:=hg
    have hv:=Cx.vis_self (c:=c) (i:=i) (G:=G) g
    obtain ⟨a1,a2,a3,a4⟩:=ahead ok hil hs C.new
    refine ⟨?_,fact_of ok hil hi hs C.new (fun f hf=>?_) (fun q hq=>by cases hq) ?_,?_,C.agr,C.new,fun p hp=>?_,fun p hp=>?_⟩
    · rw [Cx.valOf hi]
      show _=V _ (c.R.vis i (RC.put G i g) i)
      rw [hv,f1]
    · have hf':f ∈ (F' (c.R.vis i (RC.put G i g)) (c.R.vis i (RC.put G i g) i)).map FP.up:=hf
      rw [hv,f2] at hf'
      obtain ⟨f0,hf0,rfl⟩:=List.mem_map.1 hf'
      have hc:=C.facts f0 hf0
      show f0.p _
      unfold FP.at at hc
      cases ht:f0.t with
      | true=>rw [ht] at hc;exact f0.m _ _ a3 hc
      | false=>rw [ht] at hc;exact f0.m _ _ (hun_sub a3 a1) hc
    · show conjL (pu _ (c.R.vis i (RC.put G i g) i))
      rw [hv,f4];exact C.pu
    · refine ⟨C.base.os,C.base.tape,C.base.output,C.base.size,fun b hb hnb=>C.base.keep b hb fun hm=>?_⟩
      simp [ents,blks] at hm
    · rw [hup] at hp;cases hp
    · rw [hup] at hp;cases hp
def dead:Hint P where
  d:={ val:=fun _=>undef }
  τ:=Bool
  lhs c i G _ _:=c.R.gd G i
  rhs _ _ _ _ _:=false
  sound c i _ _ hi h:=fun o ho G w hs=>by
    have h0:=h G {} w
    rw [hs.gd] at h0;cases h0
def eb (x:Value) (b:Bool) (hxy:x=.bool b):Hint P where
  d:={ val:=fun _=>.bool b,sure:=some b,sok:=fun b' h _=>by cases h;rfl }
  τ:=Option (Result Next) × Value
  lhs c i G _ w:=(c.R.ex P G i w,c.R.val i (RC.put G i {}))
  rhs _ _ _ _ w:=(some (.ok (.value x) w),.bool b)
  sound c i _ _ hi h:=fun o ho G w hs=>by
    have h0:=h G {} w
    simp only [Prod.mk.injEq,RC.ex,ho,Option.map_some,Option.some.injEq] at h0
    exact Cx.still hi rfl (fun _=>⟨rfl,rfl⟩) ho h0.1 (by rw [h0.2,hxy])
end Hint
theorem V.g {P:Program} {E:Env P} {S:Stop} {t:St} (hs:List (Hint P)) (k:∀ N ε G,let S':=S.next;let t':=post (cxOf E S t hs N ε) G;V E S' t')
    (hk:∀ N ε,(S,(cxOf E S t hs N ε).R.check E.nt,hs.length,lhsAll (cxOf E S t hs N ε) hs 0)=(.reg S.rid S.ops S.dr S.K,true,S.ops.size,rhsAll (cxOf E S t hs N ε) hs 0):=by intro _ _;kernel_rfl):V E S t:=V.go hs hk k
theorem V.r {P:Program} {E:Env P} {S:Stop} {t:St} (hs:List (Hint P)) (k:∀ N ε G,Knw ((cxOf E S t hs N ε).know G)→let S':=S.next;let t':=post (cxOf E S t hs N ε) G;V E S' t')
    (hk:∀ N ε,(S,(cxOf E S t hs N ε).R.check E.nt,hs.length,lhsAll (cxOf E S t hs N ε) hs 0)=(.reg S.rid S.ops S.dr S.K,true,S.ops.size,rhsAll (cxOf E S t hs N ε) hs 0):=by intro _ _;kernel_rfl):V E S t:=V.reg hs hk k

open Go
theorem V.unrollL {P:Program} {E:Env P} {S:Stop} {t:St} (n:Nat) (hk:S=.loop S.x S.K) (k:let L:=S;V E (norm 200 (.inl L.x) (.rndN L.x n :: L.K)) t):V E S t:=V.unroll n hk k
theorem V.againL {P:Program} {E:Env P} (L:Stop) {S:Stop} {t:St} (n:Nat) (hk:S=.rndN L.x (n+1) L.K) (k:V E (norm 200 (.inl L.x) (.rndN L.x n :: L.K)) t):V E S t:=fun N ε a w hin=>by
  rw [hk]
  exact norm_sound 200 (.inl L.x) (.rndN L.x n :: L.K) a w (k N ε a w hin)
namespace Hint
variable {P : Program}
def nlG {α:Type} [Dat α] (n r:Nat) (t:Bool) (E:TypeId) (l:Gh→List α) (k:Nat) (hk:∀ G,(l G).length=k) (qs:List Kv) (hq:∀ G H,allR qs G H→∀ x ∈ l G,Dat.good H x) (arr:Gh→Array Value):Hint P where
  d:={ val:=fun G=>.slice (atB (G n).b) k k,news:=[(r,fun G=>os t E (l G) ⟨atB (G n).b,k,k⟩,fun G=>some ((G n).b,.cells (arr G) E))] }
  τ:=Option (Result Next) × Nat × Array Value × List Value × Bool × Bool × List (Option (Bool × (Ent→Heaplet→Prop)) × Bool) × List α
  lhs c i G g w:=(c.R.ex P G i w,i,arr (c.R.vis i (RC.put G i g)),(arr G).toList,decide (k≤maxLen),tOk t qs,qs.map (Kv.chk c i G),l (c.R.vis i (RC.put G i g)))
  rhs _ _ G _ w:=(some (.ok (.value (.slice (atB w.heap.size) k k)) { w with heap:=w.heap.push (.cells (arr G) E) }),n,arr G,(rows (l G)).flatten,true,true,qs.map (Kv.want G),l G)
  sound c i ok hil hi h:=fun o ho G w hs=>by
    have h0:=h G { b:=w.heap.size } w
    simp only [Prod.mk.injEq,RC.ex,ho,Option.map_some,Option.some.injEq] at h0
    obtain ⟨e1,rfl,e3,e4,e5,e6,e7,e8⟩:=h0
    unfold Does
    rw [e1]
    have hv:=Cx.vis_self (c:=c) (i:=i) (G:=G) { b:=w.heap.size }
    refine ⟨{ b:=w.heap.size },left_turn ok hil hi hs (e1:=some (w.heap.size,.cells (arr G) E)) rfl rfl rfl grows_push ?_ ?_ rfl rfl ?_⟩
    · show some _=_
      rw [hv,e3]
    · show bif t then OSl E _ (l _) _ _ else OSl E _ (l _) _ _
      rw [hv,e3,e8]
      have key:∀ H,(∀ x ∈ l G,Dat.good H x)→OSl E H (l G) (.slice (atB w.heap.size) k k) (some (w.heap.size,.cells (arr G) E)):=fun H hg=>OSl.lit hg (by rw [e4,hk,e5])
      have hR:=hq G _ (allR_of ok hil hs e7 e6)
      cases t
      · exact key _ hR
      · exact key _ hR
    · rw [Cx.valOf hi]
      show Value.slice _ _ _=_
      rw [hv]
end Hint

open Go
theorem V.exF {P:Program} {E:Env P} {S:Stop} {t:St} {α β:Type} [Dat α] [Dat β] (j:Nat) (b:Bool) (x:β) (l:List α) (s:SV) (hj:t.F[j]?=some (gf b x)) (pr:∀ H,Dat.good H x→RSl H l s.v) (k:V E S ⟨t.sl,t.F ++[fs b l s],t.L⟩):V E S t:=fun N ε a w hin=>k N ε a w ⟨hin.slots,hin.st,hin.new,fun f hf=>by
  rcases List.mem_append.1 hf with hf | hf
  · exact hin.facts f hf
  · have:f=fs b l s:=by simpa using hf
    subst this
    have h:=hin.facts _ (List.mem_of_getElem? hj)
    unfold FP.at at h ⊢
    cases b
    · exact pr _ h
    · exact pr _ h,hin.own⟩

open Go
def exV:Option (Result Next)→Value
  | some (.ok (.value v) _)=>v
  | _=>undef
def exB:Option (Result Next)→Array Value × TypeId
  | some (.ok _ w)=>match w.heap.toList with
    | [.cells a T _]=>(a,T)
    | _=>(#[],0)
  | _=>(#[],0)
def mark {P:Program} (m:List Nat):Hint P where
  d:={ val:=fun _=>undef }
  τ:=Nat
  lhs _ _ _ _ _:=0
  rhs _ _ _ _ _:=1
  sound c _ _ _ _ h:=by cases h (fun _=>{}) {} c.w0
  m:=m
section
variable {P : Program} (E : Env P) (S : Stop) (t : St) (acc : List (Hint P))
def auR:RC:={ ops:=S.ops,cs:=acc.map fun h=>{ val:=h.d.val,ups:=h.d.news.map fun q=>(q.1,fun G=>(q.2.1 G).ent (q.2.2 G)) },B:=befsL S.ops.toList [],sl:=t.sl,A:=[],L:=ents t.L fun _=>none }
def auV:Hint P:=Hint.v fun G=>exV ((auR S t acc).ex P G acc.length E.w0)
def auO:Nat:=match (auR S t acc).ldr (fun _=>{}) acc.length with
  | some (_,a)=>(addrOf a).off
  | none=>0
def auL (r:Nat):Hint P:=Hint.ld r (auO S t acc) (aggB P ((auR S t acc).ldt acc.length)) fun G=>(List.range ((sizeT P ((auR S t acc).ldt acc.length)).getD 0)).map fun j=>(entA ((auR S t acc).entAt G acc.length r)).getD (auO S t acc+j) undef
def auS (r:Nat):Hint P:=Hint.st r fun G=>.blk (entB ((auR S t acc).entAt G acc.length r)) (writeA (entA ((auR S t acc).entAt G acc.length r)) ((auR S t acc).sta G acc.length) ((auR S t acc).stv G acc.length).cells.toList) (entT ((auR S t acc).entAt G acc.length r))
def auN (r:Nat):Hint P:=Hint.nb acc.length r (fun b=>pp b 0) (exB ((auR S t acc).ex P (fun _=>{}) acc.length { E.w0 with heap:=#[] })).2 fun G=>(exB ((auR S t acc).ex P G acc.length { E.w0 with heap:=#[] })).1
end
def Hint.u {P:Program} (n:Nat):Hint P:=mark [0,n]
def Hint.l {P:Program} (r:Nat):Hint P:=mark [1,r]
def Hint.s {P:Program} (r:Nat):Hint P:=mark [2,r]
def Hint.n {P:Program} (r:Nat):Hint P:=mark [3,r]
def fillN {P:Program} (E:Env P) (S:Stop) (t:St):Nat→List (Hint P)→List (Hint P)
  | 0,acc=>acc
  | n+1,acc=>fillN E S t n (acc ++[auV E S t acc])
def fill {P:Program} (E:Env P) (S:Stop) (t:St):List (Hint P)→List (Hint P)→List (Hint P)
  | [],acc=>acc
  | h :: l,acc=>match h.m with
    | [0,n]=>fill E S t l (fillN E S t n acc)
    | [1,r]=>fill E S t l (acc ++[auL S t acc r])
    | [2,r]=>fill E S t l (acc ++[auS S t acc r])
    | [3,r]=>fill E S t l (acc ++[auN E S t acc r])
    | _=>fill E S t l (acc ++[h])
theorem V.gf {P:Program} {E:Env P} {S:Stop} {t:St} (hs:List (Hint P)) (k:∀ N ε G,let S':=S.next;let t':=post (cxOf E S t (fill E S t hs []) N ε) G;V E S' t')
    (hk:∀ N ε,(S,(cxOf E S t (fill E S t hs []) N ε).R.check E.nt,(fill E S t hs []).length,lhsAll (cxOf E S t (fill E S t hs []) N ε) (fill E S t hs []) 0)=(.reg S.rid S.ops S.dr S.K,true,S.ops.size,rhsAll (cxOf E S t (fill E S t hs []) N ε) (fill E S t hs []) 0):=by intro _ _;kernel_rfl):V E S t:=V.go (fill E S t hs []) hk k
theorem V.rf {P:Program} {E:Env P} {S:Stop} {t:St} (hs:List (Hint P)) (k:∀ N ε G,Knw ((cxOf E S t (fill E S t hs []) N ε).know G)→let S':=S.next;let t':=post (cxOf E S t (fill E S t hs []) N ε) G;V E S' t')
    (hk:∀ N ε,(S,(cxOf E S t (fill E S t hs []) N ε).R.check E.nt,(fill E S t hs []).length,lhsAll (cxOf E S t (fill E S t hs []) N ε) (fill E S t hs []) 0)=(.reg S.rid S.ops S.dr S.K,true,S.ops.size,rhsAll (cxOf E S t (fill E S t hs []) N ε) (fill E S t hs []) 0):=by intro _ _;kernel_rfl):V E S t:=V.reg (fill E S t hs []) hk k
section
variable {α : Type} [Dat α] {l : List α}
def kF (i:Nat) (l:List α) (s:SV):Kw α l fun _=>s:=kf false (.f i) l fun _=>s
def kG (i:Nat) (l:List α) (s:SV):Kw α l fun _=>s:=kf true (.f i) l fun _=>s
def kA (i:Nat) (l:List α) (s:SV):Kv:=(kf false (.f i) l fun _=>s).a
def kB (i:Nat) (l:List α) (s:SV):Kv:=(kf true (.f i) l fun _=>s).a
def kO (E r:Nat) (l:List α) (s:SV):Kw α l fun _=>s:=ko true E r l fun _=>s
end
namespace Hint
variable {P : Program}
def cA (i f:Nat) (qs:List Kv) {args:Gh→Array Value} {V:Gh→Rec→Value} {F':Gh→Rec→List FP} {L':Gh→Rec→List LE} {pu:Gh→Rec→List Prop} (h:∀ G,Ct P f (args G) (qs.map (Kv.fp G)) [] (V G) (F' G) (L' G) (pu G)):Hint P:=ct g0 i f false [] [] qs fun _=>h
def cB (i f:Nat) (ex:Bool) (rs ns:List Nat) (qs:List Kv) {args:Gh→Array Value} {L:Gh→List LE} {V:Gh→Rec→Value} {F':Gh→Rec→List FP} {L':Gh→Rec→List LE} {pu:Gh→Rec→List Prop} (h:∀ G,Ct P f (args G) (qs.map (Kv.fp G)) (L G) (V G) (F' G) (L' G) (pu G)):Hint P:=ct g0 i f ex rs ns qs fun _=>h
def cP (i f:Nat) (qs:List Kv) {args:Gh→Array Value} {v:Gh→Value} (h:∀ G,Cp P f (args G) (qs.map (Kv.fp G)) (v G)):Hint P:=cp g0 i f qs fun _=>h
variable {α : Type} [Dat α] {l : List α} {s : Gh → SV}
def iX (κ:Kw α l s) (k:Int) (h:0≤k∧k < l.length:=by exact ⟨by omega,by omega⟩):Hint P:=ix g0 κ k fun _=>h
def lE (κ:Kw α l s) (k:Int) (nest:Bool) (x:α) (hx:x=l.getD k.toNat default) (a:Bool) (h:0≤k∧k < l.length:=by exact ⟨by omega,by omega⟩):Hint P:=le g0 κ k none nest x hx (fun _=>h) a fun _=>Dat.cells x
def aa (t:Int) (lo: -9223372036854775808≤t:=by omega) (hi:t≤9223372036854775807:=by omega):Hint P:=a t lo hi
def aR (t n:Int) (hn:n=t) (lo: -9223372036854775808≤n:=by omega) (hi:n≤9223372036854775807:=by omega):Hint P:=ar t n hn lo hi
end Hint
def rcs (ss:List SV) (sls:List (Nat→SV)) (bs:List Nat) (N:Heaplet) (es:Nat→Ent):Rec:={ H:=N,ss:=fun k=>ss.getD k {},sl:=fun k=>sls.getD k (fun _=>{}),bs:=fun k=>bs.getD k 0,es:=es }
theorem V.rT {P:Program} {S:Stop} {t:St} {mo:P.follows .mixedOrders=true} {fn:Func} {nt:Nat} {w0:World} {H:Heaplet} {olds:List Ent} {V':Rec→Value} {F':Rec→List FP} {L':Rec→List LE} {pu:Rec→List Prop} (rr:List Nat) (ss:List SV) (sls:List (Nat→SV)) (bs:List Nat) (fi li:List Nat) {x y:Value} (hc:x=y) (h1:tupV ((fn.results.toList.zip rr).map (resV P t))=x:=by kernel_rfl) (h2:∀ N es,y=V' (rcs ss sls bs N es):=by intro _ _;kernel_rfl) (hk:∀ N es,(S.isEnd,fn.results.size == rr.length,(fn.results.toList.zip rr).map (resC P t),tupV ((fn.results.toList.zip rr).map (resV P t)),fi.length,(fi.zip (F' (rcs ss sls bs N es))).map (fun p=>(t.F[p.1]?).map fun x=>matchF x p.2),nodup li,li.length,(li.zip (L' (rcs ss sls bs N es))).map (fun p=>(t.L[p.1]?).map fun x=>matchL x p.2))=(true,true,(fn.results.toList.zip rr).map (resC' P t),tupV ((fn.results.toList.zip rr).map (resV P t)),(F' (rcs ss sls bs N es)).length,(F' (rcs ss sls bs N es)).map some,true,(L' (rcs ss sls bs N es)).length,(L' (rcs ss sls bs N es)).map some):=by intro _ _;kernel_rfl) (hp:∀ N es,conjL (pu (rcs ss sls bs N es)):=by intro _ _;trivial):V (fnEnv mo fn nt w0 H olds V' F' L' pu) S t:=V.ret rr ss sls bs fi li _ hk (fun N es=>(h1.trans hc).trans (h2 N es)) hp
theorem V.rS {P:Program} {S:Stop} {t:St} {mo:P.follows .mixedOrders=true} {fn:Func} {nt:Nat} {w0:World} {H:Heaplet} {olds:List Ent} {V':Rec→Value} {F':Rec→List FP} {L':Rec→List LE} {pu:Rec→List Prop} (rr:List Nat) (ss:List SV) (sls:List (Nat→SV)) (bs:List Nat) (fi li:List Nat) (h2:∀ N es,tupV ((fn.results.toList.zip rr).map (resV P t))=V' (rcs ss sls bs N es):=by intro _ _;kernel_rfl) (hk:∀ N es,(S.isEnd,fn.results.size == rr.length,(fn.results.toList.zip rr).map (resC P t),tupV ((fn.results.toList.zip rr).map (resV P t)),fi.length,(fi.zip (F' (rcs ss sls bs N es))).map (fun p=>(t.F[p.1]?).map fun x=>matchF x p.2),nodup li,li.length,(li.zip (L' (rcs ss sls bs N es))).map (fun p=>(t.L[p.1]?).map fun x=>matchL x p.2))=(true,true,(fn.results.toList.zip rr).map (resC' P t),tupV ((fn.results.toList.zip rr).map (resV P t)),(F' (rcs ss sls bs N es)).length,(F' (rcs ss sls bs N es)).map some,true,(L' (rcs ss sls bs N es)).length,(L' (rcs ss sls bs N es)).map some):=by intro _ _;kernel_rfl) (hp:∀ N es,conjL (pu (rcs ss sls bs N es)):=by intro _ _;trivial):V (fnEnv mo fn nt w0 H olds V' F' L' pu) S t:=V.ret rr ss sls bs fi li _ hk h2 hp
theorem V.lp {P:Program} {E:Env P} {S:Stop} {t:St} {γ:Type} (I:γ→St) (F:γ→Prop) (μ:γ→Nat) (g:γ) (fi:List Nat) (hF:F g)
    (round:∀ g,F g→Knw (I g).know→∀ Z,Takes E I F (fun g'=>μ g' < μ g) Z→V E (norm 200 (.inl S.x) (.rnd Z :: S.K)) (I g)) (hk:S=.loop S.x S.K:=by kernel_rfl) (h0:leSt fi t (I g)=leSt' (I g):=by kernel_rfl):V E S t:=V.loop I F μ g hk fi h0 hF round
theorem V.rn {P:Program} {E:Env P} {S:Stop} {t:St} {γ:Type} {I:γ→St} {F:γ→Prop} {M:γ→Prop} {Z:Act→World→Prop} (hZ:Takes E I F M Z) (g:γ) (fi:List Nat) (hF:F g) (hM:M g) (hk:(S.rz,leSt fi t (I g))=(some Z,leSt' (I g)):=by kernel_rfl):V E S t:=V.rnd hZ g fi hk hF hM
theorem V.fo {P:Program} {f:FuncId} {args:Array Value} {F:List FP} {L:List LE} {V':Rec→Value} {F':Rec→List FP} {L':Rec→List LE} {pu:Rec→List Prop} (mo:P.follows .mixedOrders=true) {fn:Func} (hf:P.funcs[f]?=some fn) (nt n:Nat)
    (h:∀ w H ε,Knw (F.map (·.q) ++L.flatMap LE.lim)→V (fnEnv mo fn nt w H (ents L ε) V' F' L' pu) (norm 200 (.inl (body fn)) []) ⟨args.toList.zipIdx.map fun p=>(p.2,p.1),F.map FP.drop,L.map LE.drop ++List.replicate n .no⟩)
    (hk:(fn.body.isSome,(args ++Array.replicate (fn.ntmps-args.size) undef).size)=(true,nt):=by kernel_rfl):Ct P f args F L V' F' L' pu:=V.fn mo hf nt n hk h
theorem nl {α:Type} {P:Prop} (x:List α) (h:∀ y:List α,y=x→y.length=x.length→P):P:=h x rfl rfl
theorem kq {l:List Prop} {b:Prop} (h:Knw l) (e:conjL l=b:=by kernel_rfl):b:=kn h e
theorem V.cn {P:Program} {E:Env P} {S:Stop} {t:St} {b:Bool} {φ ψ:Prop} (hb:b=true↔φ) (hb':b=false↔ψ) (k1:φ→V E S.inX t) (k2:ψ→V E S.inY t) (hk:(S,cval t S.cn)=(.cond S.cn S.x S.y S.K,some (.bool b)):=by kernel_rfl):V E S t:=V.cond hb hb' hk k1 k2

open Go Go.Proofs
theorem mo:Tryz.prog.follows .mixedOrders=true:=by kernel_rfl

open Go
structure DExpr where
  Op:Int
  N:Int
  Unit:ByteArray
  Name:ByteArray
  Args:Fat DExpr
def ecells (x:DExpr):List Value:=[.int .i64 x.Op,.int .i64 x.N,.string x.Unit,.string x.Name,x.Args.v]
inductive EGood (H:Heaplet):DExpr→Prop
  | mk (x:DExpr) (h:HSlice H 5 (x.Args.l.map ecells) x.Args.v) (k:∀ y ∈ x.Args.l,EGood H y):EGood H x
theorem EGood.sl {H:Heaplet} {x:DExpr}:EGood H x→HSlice H 5 (x.Args.l.map ecells) x.Args.v:=fun ⟨_,h,_⟩=>h
theorem EGood.sub {H:Heaplet} {x:DExpr}:EGood H x→∀ y ∈ x.Args.l,EGood H y:=fun ⟨_,_,k⟩=>k
theorem HSlice.lq1 {H:Heaplet} {x:DExpr} (h:HSlice H 5 (x.Args.l.map ecells) x.Args.v):Lq x.Args.l x.Args.v:=⟨by
  have:=h.lim;simpa using this,fun s e hn=>by
  obtain ⟨a,c,e',h1,_⟩:=h.isSl
  rw [e] at e'
  have ha:s.a=a:=by injection e'
  have hs:s.a=none:=by simpa using hn
  have h2:=h1 (ha ▸ hs)
  exact List.eq_nil_of_length_eq_zero (by simpa using h2)⟩
instance : Dat DExpr where
  default := ⟨0, 0, ByteArray.empty, ByteArray.empty, {}⟩
  size := 5
  cells := ecells
  good := EGood
  len _ := rfl
  one H x h u hu := by
    simp only [ecells, List.mem_cons, List.not_mem_nil, or_false] at hu
    rcases hu with rfl | rfl | rfl | rfl | rfl
    · rfl
    · rfl
    · rfl
    · rfl
    · obtain ⟨a, c, e, _⟩ := h.sl.val
      rw [e]; rfl
  mono H K x k h := by
    induction h with
    | mk x h _ ih => exact ⟨x, h.mono k, ih⟩
  zero H := ⟨_, HSlice.nil, fun y hy => by cases hy⟩
  q x := Lq x.Args.l x.Args.v
  hq _ x h := h.sl.lq1
theorem exG {H:Heaplet} {x:DExpr}:Dat.good H x↔RSl H x.Args.l x.Args.v:=⟨fun h=>⟨h.sl,h.sub⟩,fun h=>⟨x,h.sl,h.good⟩⟩
theorem exI {H:Heaplet} {o n:Int} {u m:ByteArray} {l:List DExpr} {s:SV} (h:RSl H l s.v):Dat.good H (DExpr.mk o n u m ⟨l,s⟩):=exG.2 h
inductive Ex where
  | mk (op n:Int) (u m:ByteArray) (l:List Ex)
instance : Inhabited Ex := ⟨.mk 0 0 ByteArray.empty ByteArray.empty []⟩
def Ex.l:Ex→List Ex | .mk _ _ _ _ l=>l
mutual
def er:DExpr→Ex
  | ⟨o,n,u,m,a⟩=>.mk o n u m (erF a)
def erF:Fat DExpr→List Ex
  | ⟨l,_⟩=>erL l
def erL:List DExpr→List Ex
  | []=>[]
  | x :: l=>er x :: erL l
end
theorem erL_map:∀ l:List DExpr,erL l=l.map er
  | []=>rfl
  | x :: l=>by rw [erL,List.map_cons,erL_map l]
@[simp] theorem er_l (x:DExpr):(er x).l=x.Args.l.map er:=by
  obtain ⟨o,n,u,m,⟨l,s⟩⟩:=x
  show erL l=_;exact erL_map l
theorem er_mk (o n:Int) (u m:ByteArray) (l:List DExpr) (s:SV):er ⟨o,n,u,m,⟨l,s⟩⟩=.mk o n u m (l.map er):=by
  show Ex.mk o n u m (erL l)=_;rw [erL_map]

open Go
structure DBig where
  Sign:Int:=0
  Digits:Fat Int:={}
instance : Dat DBig where
  default := {}
  size := 2
  cells x := Dat.cells x.Sign ++ Dat.cells x.Digits
  good H x := Dat.good H x.Digits
  len _ := rfl
  one H x h u hu := by
    simp only [List.mem_append] at hu
    rcases hu with hu | hu
    · exact Dat.one H x.Sign trivial u hu
    · exact Dat.one H x.Digits h u hu
  q x := Dat.q x.Digits
  hq H x h := Dat.hq H _ h
  mono _ _ _ k h := Dat.mono _ _ _ k h
  zero H := Dat.zero H
structure DFrac where
  P:DBig:=default
  Q:DBig:=default
instance : Dat DFrac where
  default := {}
  size := 4
  cells x := Dat.cells x.P ++ Dat.cells x.Q
  good H x := Dat.good H x.P ∧ Dat.good H x.Q
  len x := by simp [Dat.len]; rfl
  one H x h u hu := by
    obtain ⟨h0, h1⟩ := h
    simp only [List.mem_append] at hu
    rcases hu with hu | hu
    · exact Dat.one H x.P h0 u hu
    · exact Dat.one H x.Q h1 u hu
  q x := Dat.q x.P ∧ Dat.q x.Q
  hq H x h := ⟨Dat.hq H _ h.1, Dat.hq H _ h.2⟩
  mono _ _ _ k h := ⟨Dat.mono _ _ _ k h.1, Dat.mono _ _ _ k h.2⟩
  zero H := ⟨Dat.zero H, Dat.zero H⟩
structure DRow where
  Key:Int:=0
  Value:Int:=0
instance : Dat DRow where
  default := {}
  size := 2
  cells x := Dat.cells x.Key ++ Dat.cells x.Value
  good H x := True
  len _ := rfl
  one H x h u hu := by
    simp only [List.mem_append] at hu
    rcases hu with hu | hu
    · exact Dat.one H x.Key trivial u hu
    · exact Dat.one H x.Value trivial u hu
  mono _ _ _ _ h := h
  zero _ := trivial
structure Ditem where
  word:ByteArray:=ByteArray.empty
  exp:Int:=0
instance : Dat Ditem where
  default := {}
  size := 2
  cells x := Dat.cells x.word ++ Dat.cells x.exp
  good H x := True
  len _ := rfl
  one H x h u hu := by
    simp only [List.mem_append] at hu
    rcases hu with hu | hu
    · exact Dat.one H x.word trivial u hu
    · exact Dat.one H x.exp trivial u hu
  mono _ _ _ _ h := h
  zero _ := trivial
structure DTable where
  Name:ByteArray:=ByteArray.empty
  Unit:ByteArray:=ByteArray.empty
  Rows:Fat DRow:={}
instance : Dat DTable where
  default := {}
  size := 3
  cells x := Dat.cells x.Name ++ Dat.cells x.Unit ++ Dat.cells x.Rows
  good H x := Dat.good H x.Rows
  len _ := rfl
  one H x h u hu := by
    simp only [List.mem_append] at hu
    rcases hu with (hu | hu) | hu
    · exact Dat.one H x.Name trivial u hu
    · exact Dat.one H x.Unit trivial u hu
    · exact Dat.one H x.Rows h u hu
  q x := Dat.q x.Rows
  hq H x h := Dat.hq H _ h
  mono _ _ _ k h := Dat.mono _ _ _ k h
  zero H := Dat.zero H
structure DParam where
  Name:ByteArray:=ByteArray.empty
  Unit:ByteArray:=ByteArray.empty
instance : Dat DParam where
  default := {}
  size := 2
  cells x := Dat.cells x.Name ++ Dat.cells x.Unit
  good H x := True
  len _ := rfl
  one H x h u hu := by
    simp only [List.mem_append] at hu
    rcases hu with hu | hu
    · exact Dat.one H x.Name trivial u hu
    · exact Dat.one H x.Unit trivial u hu
  mono _ _ _ _ h := h
  zero _ := trivial
structure DFunc where
  Name:ByteArray:=ByteArray.empty
  Params:Fat DParam:={}
  Body:DExpr:=default
instance : Dat DFunc where
  default := {}
  size := 7
  cells x := Dat.cells x.Name ++ Dat.cells x.Params ++ Dat.cells x.Body
  good H x := Dat.good H x.Params ∧ Dat.good H x.Body
  len x := by simp [Dat.len]; rfl
  one H x h u hu := by
    obtain ⟨h1, h2⟩ := h
    simp only [List.mem_append] at hu
    rcases hu with (hu | hu) | hu
    · exact Dat.one H x.Name trivial u hu
    · exact Dat.one H x.Params h1 u hu
    · exact Dat.one H x.Body h2 u hu
  q x := Dat.q x.Params ∧ Dat.q x.Body
  hq H x h := ⟨Dat.hq H _ h.1, Dat.hq H _ h.2⟩
  mono _ _ _ k h := ⟨Dat.mono _ _ _ k h.1, Dat.mono _ _ _ k h.2⟩
  zero H := ⟨Dat.zero H, Dat.zero H⟩
structure DCell where
  Name:ByteArray:=ByteArray.empty
  Unit:ByteArray:=ByteArray.empty
  Def:DExpr:=default
instance : Dat DCell where
  default := {}
  size := 7
  cells x := Dat.cells x.Name ++ Dat.cells x.Unit ++ Dat.cells x.Def
  good H x := Dat.good H x.Def
  len x := by simp [Dat.len]; rfl
  one H x h u hu := by
    simp only [List.mem_append] at hu
    rcases hu with (hu | hu) | hu
    · exact Dat.one H x.Name trivial u hu
    · exact Dat.one H x.Unit trivial u hu
    · exact Dat.one H x.Def h u hu
  q x := Dat.q x.Def
  hq H x h := Dat.hq H _ h
  mono _ _ _ k h := Dat.mono _ _ _ k h
  zero H := Dat.zero H
structure DImport where
  Name:ByteArray:=ByteArray.empty
  Unit:ByteArray:=ByteArray.empty
  Amount:Int:=0
  House:Int:=0
  Port:ByteArray:=ByteArray.empty
  Version:Int:=0
instance : Dat DImport where
  default := {}
  size := 6
  cells x := Dat.cells x.Name ++ Dat.cells x.Unit ++ Dat.cells x.Amount ++ Dat.cells x.House ++ Dat.cells x.Port ++ Dat.cells x.Version
  good H x := True
  len _ := rfl
  one H x h u hu := by
    simp only [List.mem_append] at hu
    rcases hu with ((((hu | hu) | hu) | hu) | hu) | hu
    · exact Dat.one H x.Name trivial u hu
    · exact Dat.one H x.Unit trivial u hu
    · exact Dat.one H x.Amount trivial u hu
    · exact Dat.one H x.House trivial u hu
    · exact Dat.one H x.Port trivial u hu
    · exact Dat.one H x.Version trivial u hu
  mono _ _ _ _ h := h
  zero _ := trivial
structure DInput where
  Name:ByteArray:=ByteArray.empty
  Unit:ByteArray:=ByteArray.empty
  Kind:ByteArray:=ByteArray.empty
instance : Dat DInput where
  default := {}
  size := 3
  cells x := Dat.cells x.Name ++ Dat.cells x.Unit ++ Dat.cells x.Kind
  good H x := True
  len _ := rfl
  one H x h u hu := by
    simp only [List.mem_append] at hu
    rcases hu with (hu | hu) | hu
    · exact Dat.one H x.Name trivial u hu
    · exact Dat.one H x.Unit trivial u hu
    · exact Dat.one H x.Kind trivial u hu
  mono _ _ _ _ h := h
  zero _ := trivial
structure DPort where
  Name:ByteArray:=ByteArray.empty
  Unit:ByteArray:=ByteArray.empty
  Amount:Int:=0
instance : Dat DPort where
  default := {}
  size := 3
  cells x := Dat.cells x.Name ++ Dat.cells x.Unit ++ Dat.cells x.Amount
  good H x := True
  len _ := rfl
  one H x h u hu := by
    simp only [List.mem_append] at hu
    rcases hu with (hu | hu) | hu
    · exact Dat.one H x.Name trivial u hu
    · exact Dat.one H x.Unit trivial u hu
    · exact Dat.one H x.Amount trivial u hu
  mono _ _ _ _ h := h
  zero _ := trivial
structure DStore where
  Name:ByteArray:=ByteArray.empty
  Unit:ByteArray:=ByteArray.empty
  Rule:Int:=0
instance : Dat DStore where
  default := {}
  size := 3
  cells x := Dat.cells x.Name ++ Dat.cells x.Unit ++ Dat.cells x.Rule
  good H x := True
  len _ := rfl
  one H x h u hu := by
    simp only [List.mem_append] at hu
    rcases hu with (hu | hu) | hu
    · exact Dat.one H x.Name trivial u hu
    · exact Dat.one H x.Unit trivial u hu
    · exact Dat.one H x.Rule trivial u hu
  mono _ _ _ _ h := h
  zero _ := trivial
structure DStep where
  Kind:Int:=0
  In:Fat ByteArray:={}
  Out:Fat ByteArray:={}
  Name:ByteArray:=ByteArray.empty
  Cells:Fat ByteArray:={}
  Amount:Int:=0
instance : Dat DStep where
  default := {}
  size := 6
  cells x := Dat.cells x.Kind ++ Dat.cells x.In ++ Dat.cells x.Out ++ Dat.cells x.Name ++ Dat.cells x.Cells ++ Dat.cells x.Amount
  good H x := Dat.good H x.In ∧ Dat.good H x.Out ∧ Dat.good H x.Cells
  len _ := rfl
  one H x h u hu := by
    obtain ⟨h1, h2, h4⟩ := h
    simp only [List.mem_append] at hu
    rcases hu with ((((hu | hu) | hu) | hu) | hu) | hu
    · exact Dat.one H x.Kind trivial u hu
    · exact Dat.one H x.In h1 u hu
    · exact Dat.one H x.Out h2 u hu
    · exact Dat.one H x.Name trivial u hu
    · exact Dat.one H x.Cells h4 u hu
    · exact Dat.one H x.Amount trivial u hu
  q x := Dat.q x.In ∧ Dat.q x.Out ∧ Dat.q x.Cells
  hq H x h := ⟨Dat.hq H _ h.1, Dat.hq H _ h.2.1, Dat.hq H _ h.2.2⟩
  mono _ _ _ k h := ⟨Dat.mono _ _ _ k h.1, Dat.mono _ _ _ k h.2.1, Dat.mono _ _ _ k h.2.2⟩
  zero H := ⟨Dat.zero H, Dat.zero H, Dat.zero H⟩
structure DRecipe where
  Kind:ByteArray:=ByteArray.empty
  Steps:Fat DStep:={}
instance : Dat DRecipe where
  default := {}
  size := 2
  cells x := Dat.cells x.Kind ++ Dat.cells x.Steps
  good H x := Dat.good H x.Steps
  len _ := rfl
  one H x h u hu := by
    simp only [List.mem_append] at hu
    rcases hu with hu | hu
    · exact Dat.one H x.Kind trivial u hu
    · exact Dat.one H x.Steps h u hu
  q x := Dat.q x.Steps
  hq H x h := Dat.hq H _ h
  mono _ _ _ k h := Dat.mono _ _ _ k h
  zero H := Dat.zero H
structure DSheet where
  Name:ByteArray:=ByteArray.empty
  Imports:Fat DImport:={}
  Inputs:Fat DInput:={}
  Tables:Fat DTable:={}
  Funcs:Fat DFunc:={}
  Cells:Fat DCell:={}
  Ports:Fat DPort:={}
  Stores:Fat DStore:={}
  Recipes:Fat DRecipe:={}
instance : Dat DSheet where
  default := {}
  size := 9
  cells x := Dat.cells x.Name ++ Dat.cells x.Imports ++ Dat.cells x.Inputs ++ Dat.cells x.Tables ++ Dat.cells x.Funcs ++ Dat.cells x.Cells ++ Dat.cells x.Ports ++ Dat.cells x.Stores ++ Dat.cells x.Recipes
  good H x := Dat.good H x.Imports ∧ Dat.good H x.Inputs ∧ Dat.good H x.Tables ∧ Dat.good H x.Funcs ∧ Dat.good H x.Cells ∧ Dat.good H x.Ports ∧ Dat.good H x.Stores ∧ Dat.good H x.Recipes
  len _ := rfl
  one H x h u hu := by
    obtain ⟨h1, h2, h3, h4, h5, h6, h7, h8⟩ := h
    simp only [List.mem_append] at hu
    rcases hu with (((((((hu | hu) | hu) | hu) | hu) | hu) | hu) | hu) | hu
    · exact Dat.one H x.Name trivial u hu
    · exact Dat.one H x.Imports h1 u hu
    · exact Dat.one H x.Inputs h2 u hu
    · exact Dat.one H x.Tables h3 u hu
    · exact Dat.one H x.Funcs h4 u hu
    · exact Dat.one H x.Cells h5 u hu
    · exact Dat.one H x.Ports h6 u hu
    · exact Dat.one H x.Stores h7 u hu
    · exact Dat.one H x.Recipes h8 u hu
  q x := Dat.q x.Imports ∧ Dat.q x.Inputs ∧ Dat.q x.Tables ∧ Dat.q x.Funcs ∧ Dat.q x.Cells ∧ Dat.q x.Ports ∧ Dat.q x.Stores ∧ Dat.q x.Recipes
  hq H x h := ⟨Dat.hq H _ h.1, Dat.hq H _ h.2.1, Dat.hq H _ h.2.2.1, Dat.hq H _ h.2.2.2.1, Dat.hq H _ h.2.2.2.2.1, Dat.hq H _ h.2.2.2.2.2.1, Dat.hq H _ h.2.2.2.2.2.2.1, Dat.hq H _ h.2.2.2.2.2.2.2⟩
  mono _ _ _ k h := ⟨Dat.mono _ _ _ k h.1, Dat.mono _ _ _ k h.2.1, Dat.mono _ _ _ k h.2.2.1, Dat.mono _ _ _ k h.2.2.2.1, Dat.mono _ _ _ k h.2.2.2.2.1, Dat.mono _ _ _ k h.2.2.2.2.2.1, Dat.mono _ _ _ k h.2.2.2.2.2.2.1, Dat.mono _ _ _ k h.2.2.2.2.2.2.2⟩
  zero H := ⟨Dat.zero H, Dat.zero H, Dat.zero H, Dat.zero H, Dat.zero H, Dat.zero H, Dat.zero H, Dat.zero H⟩
structure DSpan where
  Low:DFrac:=default
  High:DFrac:=default
instance : Dat DSpan where
  default := {}
  size := 8
  cells x := Dat.cells x.Low ++ Dat.cells x.High
  good H x := Dat.good H x.Low ∧ Dat.good H x.High
  len x := by simp [Dat.len]; rfl
  one H x h u hu := by
    obtain ⟨h0, h1⟩ := h
    simp only [List.mem_append] at hu
    rcases hu with hu | hu
    · exact Dat.one H x.Low h0 u hu
    · exact Dat.one H x.High h1 u hu
  q x := Dat.q x.Low ∧ Dat.q x.High
  hq H x h := ⟨Dat.hq H _ h.1, Dat.hq H _ h.2⟩
  mono _ _ _ k h := ⟨Dat.mono _ _ _ k h.1, Dat.mono _ _ _ k h.2⟩
  zero H := ⟨Dat.zero H, Dat.zero H⟩
structure DSource where
  Kind:Int:=0
  Index:Int:=0
  Amount:Int:=0
instance : Dat DSource where
  default := {}
  size := 3
  cells x := Dat.cells x.Kind ++ Dat.cells x.Index ++ Dat.cells x.Amount
  good H x := True
  len _ := rfl
  one H x h u hu := by
    simp only [List.mem_append] at hu
    rcases hu with (hu | hu) | hu
    · exact Dat.one H x.Kind trivial u hu
    · exact Dat.one H x.Index trivial u hu
    · exact Dat.one H x.Amount trivial u hu
  mono _ _ _ _ h := h
  zero _ := trivial
structure DOut where
  Kind:Int:=0
  Index:Int:=0
  Amount:Int:=0
  Name:ByteArray:=ByteArray.empty
instance : Dat DOut where
  default := {}
  size := 4
  cells x := Dat.cells x.Kind ++ Dat.cells x.Index ++ Dat.cells x.Amount ++ Dat.cells x.Name
  good H x := True
  len _ := rfl
  one H x h u hu := by
    simp only [List.mem_append] at hu
    rcases hu with ((hu | hu) | hu) | hu
    · exact Dat.one H x.Kind trivial u hu
    · exact Dat.one H x.Index trivial u hu
    · exact Dat.one H x.Amount trivial u hu
    · exact Dat.one H x.Name trivial u hu
  mono _ _ _ _ h := h
  zero _ := trivial
structure DFlow where
  Sources:Fat DSource:={}
  Outs:Fat DOut:={}
  Shares:Fat (Fat DFrac):={}
instance : Dat DFlow where
  default := {}
  size := 3
  cells x := Dat.cells x.Sources ++ Dat.cells x.Outs ++ Dat.cells x.Shares
  good H x := Dat.good H x.Sources ∧ Dat.good H x.Outs ∧ Dat.good H x.Shares
  len _ := rfl
  one H x h u hu := by
    obtain ⟨h0, h1, h2⟩ := h
    simp only [List.mem_append] at hu
    rcases hu with (hu | hu) | hu
    · exact Dat.one H x.Sources h0 u hu
    · exact Dat.one H x.Outs h1 u hu
    · exact Dat.one H x.Shares h2 u hu
  q x := Dat.q x.Sources ∧ Dat.q x.Outs ∧ Dat.q x.Shares
  hq H x h := ⟨Dat.hq H _ h.1, Dat.hq H _ h.2.1, Dat.hq H _ h.2.2⟩
  mono _ _ _ k h := ⟨Dat.mono _ _ _ k h.1, Dat.mono _ _ _ k h.2.1, Dat.mono _ _ _ k h.2.2⟩
  zero H := ⟨Dat.zero H, Dat.zero H, Dat.zero H⟩
structure Dthing where
  cls:Int:=0
  name:ByteArray:=ByteArray.empty
instance : Dat Dthing where
  default := {}
  size := 2
  cells x := Dat.cells x.cls ++ Dat.cells x.name
  good H x := True
  len _ := rfl
  one H x h u hu := by
    simp only [List.mem_append] at hu
    rcases hu with hu | hu
    · exact Dat.one H x.cls trivial u hu
    · exact Dat.one H x.name trivial u hu
  mono _ _ _ _ h := h
  zero _ := trivial

open Go Go.Proofs
set_option maxRecDepth 10000 in
theorem nan_ct (x:Int) :
    Cp Tryz.prog 140 #[iv x] [] (bv false):=by
  refine V.fo mo Tryz.func140 6 0 fun w H ε k0=>?_;clear k0
  refine V.g [.kb false] fun _ _ G1=>?_;intro S s
  refine V.gf [.u 4] fun _ _ G2=>?_;intro S s
  have e0:(!(decide (x=x)))=false:=by simp
  exact V.rT [0] [] [] [] [] [] (cong1 (fun (xz0:Bool)=>(bv xz0:Value)) e0)
set_option maxRecDepth 10000 in
theorem cmp_ct (x y:Int) :
    Cp Tryz.prog 122 #[iv x,iv y] [] (iv (Bg.cmpI x y)):=by
  refine V.fo mo Tryz.func122 20 0 fun w H ε k0=>?_;clear k0
  refine V.gf [.u 1] fun _ _ G1=>?_;intro S s
  refine V.gf [.u 1,.cP 1 140 [] fun G=>nan_ct x,.kb false] fun _ _ G2=>?_;intro S s
  refine V.gf [.u 1,.cP 1 140 [] fun G=>nan_ct y,.kb false] fun _ _ G3=>?_;intro S s
  refine V.g [.kb false] fun _ _ G4=>?_;intro S s
  refine V.condF (by kernel_rfl) ?_;refine V.g [.kb false] fun _ _ G5=>?_;intro S s
  refine V.condF (by kernel_rfl) ?_;refine V.gf [.u 3] fun _ _ G6=>?_;intro S s
  refine V.cn (b:=decide (x < y)) iDT iDF (fun q1=>?_) (fun q2=>?_)
  · refine V.gf [.u 1] fun _ _ G7=>?_;intro S s
    have e0:(-1:Int)=Bg.cmpI x y:=by unfold Bg.cmpI;first | rw [if_pos (by omega)] | (rw [if_neg (by omega)];first | rw [if_pos (by omega)] | rw [if_neg (by omega)])
    exact V.rT [0] [] [] [] [] [] (cong1 (fun (xz0:Int)=>(iv xz0:Value)) e0)
  refine V.gf [.u 3] fun _ _ G8=>?_;intro S s
  refine V.cn (b:=decide (y < x)) iDT iDF (fun q3=>?_) (fun q4=>?_)
  · refine V.gf [.u 1] fun _ _ G9=>?_;intro S s
    have e0:(1:Int)=Bg.cmpI x y:=by unfold Bg.cmpI;first | rw [if_pos (by omega)] | (rw [if_neg (by omega)];first | rw [if_pos (by omega)] | rw [if_neg (by omega)])
    exact V.rT [0] [] [] [] [] [] (cong1 (fun (xz0:Int)=>(iv xz0:Value)) e0)
  refine V.gf [.u 1] fun _ _ G10=>?_;intro S s
  have e0:(0:Int)=Bg.cmpI x y:=by unfold Bg.cmpI;first | rw [if_pos (by omega)] | (rw [if_neg (by omega)];first | rw [if_pos (by omega)] | rw [if_neg (by omega)])
  exact V.rT [0] [] [] [] [] [] (cong1 (fun (xz0:Int)=>(iv xz0:Value)) e0)
set_option maxRecDepth 10000 in
theorem or_ct (vals:List Int) (valss:SV) :
    Cp Tryz.prog 138 #[valss.v] [fs true vals valss] (iv (Bg.orL vals)):=by
  refine V.fo mo Tryz.func138 18 0 fun w H ε k0=>?_;obtain ⟨⟨kl1, -⟩, -⟩:Lq vals valss.v∧True:=kq k0
  clear k0;refine V.gf [.u 1] fun _ _ G1=>?_;intro S s
  refine V.gf [.u 1] fun _ _ G2=>?_;intro S s
  refine V.gf [.u 1,.ln (kF 0 vals valss),.u 1] fun _ _ G3=>?_;intro S s
  refine V.lp (γ:=Int) (fun k0=>⟨[(3,iv 0),(6,valss.v),(7,iv (vals.length:Int)),(8,iv k0)],[fs false vals valss],[]⟩) (fun k0=>(0≤k0)∧(k0≤(vals.length:Int))∧(∀ i,i < k0.toNat→vals.getD i default=0)) (fun k0=>((vals.length:Int)-k0).toNat) 0 [0] ?_ ?_
  · refine ⟨?_,?_,?_⟩
    · show 0≤(0:Int)
      first | omega | rfl | (simp;done) | (subst_vars;simp;done)
    · show (0:Int)≤(vals.length:Int)
      first | omega | rfl | (simp;done) | (subst_vars;simp;done)
    show ∀ i,i < (0:Int).toNat→vals.getD i default=0;intro i hi;simp at hi
  rintro k0 hF1 kw4 Z1 hZ1;have hF1:(0≤k0)∧(k0≤(vals.length:Int))∧(∀ i,i < k0.toNat→vals.getD i default=0):=hF1;obtain ⟨hf1,hf2,hf3⟩:=hF1;clear kw4;refine V.gf [.u 1] fun _ _ G4=>?_;intro S s;refine V.cn (b:=decide (k0 < (vals.length:Int))) iDT iDF (fun q1=>?_) (fun q2=>?_)
  · refine nm (vals.getD k0.toNat default:Int) fun v1 hv1=>?_;refine V.gf [.iX (kF 0 vals valss) k0,.lE (kF 0 vals valss) k0 false v1 hv1 false,.u 1] fun _ _ G5=>?_;intro S s
    refine V.gf [.u 3] fun _ _ G6=>?_;intro S s
    refine V.cn (b:=!(decide (v1=0))) (iNT iDF) (iNF iDT) (fun q3=>?_) (fun q4=>?_)
    · refine V.gf [.u 2] fun _ _ G7=>?_;intro S s
      have e0:v1=Bg.orL vals:=Bg.orL_at (k:=k0.toNat) (by omega) hf3 hv1 q3;exact V.rT [0] [] [] [] [] [] (cong1 (fun (xz0:Int)=>(iv xz0:Value)) e0)
    refine V.gf [.aa (k0+1),.u 1] fun _ _ G8=>?_;intro S s
    refine V.rn hZ1 (k0+1) [0] ?_ ?_
    · refine ⟨?_,?_,?_⟩
      · show 0≤(k0+1)
        first | omega | rfl | (simp;done) | (subst_vars;simp;done)
      · show (k0+1)≤(vals.length:Int)
        first | omega | rfl | (simp;done) | (subst_vars;simp;done)
      show ∀ i,i < (k0+1).toNat→vals.getD i default=0;intro i hi;by_cases e:i < k0.toNat
      · exact hf3 i e
      rw [show i=k0.toNat by omega,← hv1];exact q4
    show ((vals.length:Int)-(k0+1)).toNat < ((vals.length:Int)-k0).toNat;omega
  refine V.gf [.u 2] fun _ _ G9=>?_;intro S s
  have e0:(0:Int)=Bg.orL vals:=(Bg.orL_no fun i hi=>hf3 i (by omega)).symm;exact V.rT [0] [] [] [] [] [] (cong1 (fun (xz0:Int)=>(iv xz0:Value)) e0)
theorem or_ctv (vals:List Int) (valss:SV) (rv0:Int) (erv0:rv0=Bg.orL vals) :
    Cp Tryz.prog 138 #[valss.v] [fs true vals valss] (iv rv0):=by
  subst erv0;exact or_ct vals valss 
set_option maxRecDepth 10000 in
theorem clonei_ct (s:List Int) (ss:SV) (hcl:s.length≤1099511627776) :
    Ct Tryz.prog 48 #[ss.v] [fs true s ss] [] (fun g=>((g.ss 0)).v) (fun g=>[]) (fun g=>[os true 3 s (g.ss 0)]) (fun g=>[]):=by
  refine V.fo mo Tryz.func48 8 2 fun w H ε k0=>?_;obtain ⟨⟨kl1,kn1⟩, -⟩:Lq s ss.v∧True:=kq k0
  clear k0;refine V.gf [.u 1] fun _ _ G1=>?_;intro S_ s_
  refine V.gf [.u 1,.isn false (fun _=>ss)] fun _ _ G2=>?_;intro S_ s_
  refine V.cn (b:=ss.a.isNone) Iff.rfl Iff.rfl (fun q1=>?_) (fun q2=>?_)
  · refine V.gf [.u 1] fun _ _ G3=>?_;intro S_ s_
    refine V.on (α:=Int) 0 3 (by kernel_rfl) ?_;have e0:([]:List Int)=s:=(kn1 _ rfl q1).symm;rw [←e0];exact V.rS [0] [] [] [] [] [0]
  refine nm (([]:List Int) ++s:List Int) fun l1 hl1=>?_;refine V.gf [.nl 0 1 true 3 ([]:List Int) [] (fun _ _ _ _ _=>trivial) (fun _=>#[]),.u 1,.ap 2 1 3 8 false true ([]:List Int) (fun G=>⟨atB (G 0).b,0,0⟩) (kF 0 s ss) true l1 hl1 (by (try simp only [List.length_append,List.length_cons,List.length_nil,List.length_replicate,List.length_set,List.length_take,List.length_drop,List.length_map,List.length_reverse,List.length_range]);omega) (fun h=>by cases h) (.inr fun _ _=>trivial),.u 1] fun _ _ G4=>?_;intro S_ s_
  have e0:l1=s:=by rw [hl1];simp
  replace e0:=e0.symm
  subst e0;exact V.rS [0] [(G4 2).s] [] [] [] [1]
set_option maxRecDepth 10000 in
theorem clonef_ct (s:List Int) (ss:SV) (hcl:s.length≤1099511627776) :
    Ct Tryz.prog 48 #[ss.v] [fs true s ss] [] (fun g=>((g.ss 0)).v) (fun g=>[fs true s (g.ss 0)]) (fun g=>[]) (fun g=>[]):=by
  refine V.fo mo Tryz.func48 8 1 fun w H ε k0=>?_;obtain ⟨⟨kl1,kn1⟩, -⟩:Lq s ss.v∧True:=kq k0
  clear k0;refine V.gf [.u 1] fun _ _ G1=>?_;intro S_ s_
  refine V.gf [.u 1,.isn false (fun _=>ss)] fun _ _ G2=>?_;intro S_ s_
  refine V.cn (b:=ss.a.isNone) Iff.rfl Iff.rfl (fun q1=>?_) (fun q2=>?_)
  · refine V.gf [.u 1] fun _ _ G3=>?_;intro S_ s_
    refine V.nilF (α:=Int) ?_;have e0:([]:List Int)=s:=(kn1 _ rfl q1).symm;rw [←e0];exact V.rS [0] [] [] [] [1] []
  refine nm (([]:List Int) ++s:List Int) fun l1 hl1=>?_;refine V.gf [.nl 0 0 true 3 ([]:List Int) [] (fun _ _ _ _ _=>trivial) (fun _=>#[]),.u 1,.ap 2 0 3 8 false true ([]:List Int) (fun G=>⟨atB (G 0).b,0,0⟩) (kF 0 s ss) true l1 hl1 (by (try simp only [List.length_append,List.length_cons,List.length_nil,List.length_replicate,List.length_set,List.length_take,List.length_drop,List.length_map,List.length_reverse,List.length_range]);omega) (fun h=>by cases h) (.inr fun _ _=>trivial),.u 1] fun _ _ G4=>?_;intro S_ s_
  refine V.frz 0 true 3 l1 ((G4 2).s) (by kernel_rfl) ?_;have e0:l1=s:=by rw [hl1];simp
  replace e0:=e0.symm
  subst e0;exact V.rS [0] [(G4 2).s] [] [] [1] []
set_option maxRecDepth 10000 in
theorem equali_ct (s1:List Int) (s1s:SV) (s2:List Int) (s2s:SV) :
    Cp Tryz.prog 76 #[s1s.v,s2s.v] [fs true s1 s1s,fs true s2 s2s] (bv (decide (s1=s2))):=by
  refine V.fo mo Tryz.func76 26 0 fun w H ε k0=>?_;obtain ⟨⟨kl1, -⟩,⟨kl2, -⟩, -⟩:Lq s1 s1s.v∧Lq s2 s2s.v∧True:=kq k0
  clear k0;refine V.g [.kb false] fun _ _ G1=>?_;intro S s
  refine V.gf [.u 1,.ln (kF 0 s1 s1s),.u 1,.ln (kF 1 s2 s2s),.u 1] fun _ _ G2=>?_;intro S s
  refine V.cn (b:=!(decide ((s1.length:Int)=(s2.length:Int)))) (iNT iDF) (iNF iDT) (fun q1=>?_) (fun q2=>?_)
  · refine V.g [.kb false] fun _ _ G3=>?_;intro S s
    have e0:false=(decide (s1=s2)):=by symm;rw [decide_eq_false_iff_not];intro h;apply q1;rw [h]
    exact V.rT [0] [] [] [] [] [] (cong1 (fun (xz0:Bool)=>(bv xz0:Value)) e0)
  refine V.gf [.u 1,.ln (kF 0 s1 s1s),.u 1] fun _ _ G4=>?_;intro S s
  refine V.lp (γ:=Int) (fun k0=>⟨[(0,s1s.v),(1,s2s.v),(12,iv (s1.length:Int)),(13,iv k0)],[fs false s1 s1s,fs false s2 s2s],[]⟩) (fun k0=>(0≤k0)∧(k0≤(s1.length:Int))∧(∀ i,i < k0.toNat→s1.getD i default=s2.getD i default)) (fun k0=>((s1.length:Int)-k0).toNat) 0 [0,1] ?_ ?_
  · refine ⟨?_,?_,?_⟩
    · show 0≤(0:Int)
      first | omega | rfl | (simp;done) | (subst_vars;simp;done)
    · show (0:Int)≤(s1.length:Int)
      first | omega | rfl | (simp;done) | (subst_vars;simp;done)
    show ∀ i,i < (0:Int).toNat→s1.getD i default=s2.getD i default;intro i hi;simp at hi
  rintro k0 hF1 kw5 Z1 hZ1;have hF1:(0≤k0)∧(k0≤(s1.length:Int))∧(∀ i,i < k0.toNat→s1.getD i default=s2.getD i default):=hF1;obtain ⟨hf1,hf2,hf3⟩:=hF1;clear kw5;refine V.gf [.u 1] fun _ _ G5=>?_;intro S s;refine V.cn (b:=decide (k0 < (s1.length:Int))) iDT iDF (fun q3=>?_) (fun q4=>?_)
  · refine V.gf [.u 2] fun _ _ G6=>?_;intro S s
    refine nm (s1.getD k0.toNat default:Int) fun v1 hv1=>?_;refine nm (s2.getD k0.toNat default:Int) fun v2 hv2=>?_;refine V.gf [.u 2,.iX (kF 0 s1 s1s) k0,.lE (kF 0 s1 s1s) k0 false v1 hv1 false,.u 2,.iX (kF 1 s2 s2s) k0,.lE (kF 1 s2 s2s) k0 false v2 hv2 false,.u 1] fun _ _ G7=>?_;intro S s
    refine V.cn (b:=!(decide (v1=v2))) (iNT iDF) (iNF iDT) (fun q5=>?_) (fun q6=>?_)
    · refine V.g [.kb false] fun _ _ G8=>?_;intro S s
      have e0:false=(decide (s1=s2)):=by
        symm;rw [decide_eq_false_iff_not];intro h;apply q5
        rw [hv1,hv2,h]
      exact V.rT [0] [] [] [] [] [] (cong1 (fun (xz0:Bool)=>(bv xz0:Value)) e0)
    refine V.gf [.aa (k0+1),.u 1] fun _ _ G9=>?_;intro S s
    refine V.rn hZ1 (k0+1) [0,1] ?_ ?_
    · refine ⟨?_,?_,?_⟩
      · show 0≤(k0+1)
        first | omega | rfl | (simp;done) | (subst_vars;simp;done)
      · show (k0+1)≤(s1.length:Int)
        first | omega | rfl | (simp;done) | (subst_vars;simp;done)
      show ∀ i,i < (k0+1).toNat→s1.getD i default=s2.getD i default;intro i hi;by_cases e:i < k0.toNat
      · exact hf3 i e
      rw [show i=k0.toNat by omega,← hv1,← hv2];exact q6
    show ((s1.length:Int)-(k0+1)).toNat < ((s1.length:Int)-k0).toNat;omega
  refine V.g [.kb true] fun _ _ G10=>?_;intro S s
  have e0:true=(decide (s1=s2)):=by symm;rw [decide_eq_true_iff];exact Bg.eq_of_getD (by omega) fun i hi=>hf3 i (by omega)
  exact V.rT [0] [] [] [] [] [] (cong1 (fun (xz0:Bool)=>(bv xz0:Value)) e0)
set_option maxRecDepth 10000 in
theorem bright_ct (c:Int) (a:List Int) (d:SV) :
    Cp Tryz.prog 45 #[ag (DBig.mk c ⟨a,d⟩)] [fs true a d] (bv (decide (Bg.RtB c a))):=by
  refine V.fo mo Tryz.func45 45 1 fun w H ε k0=>?_;obtain ⟨⟨kl1, -⟩, -⟩:Lq a d.v∧True:=kq k0
  clear k0;refine V.gf [.n 0,.kb false] fun _ _ G1=>?_;intro S s
  refine V.gf [.u 1,.l 0,.ln (kF 0 a d),.u 1] fun _ _ G2=>?_;intro S s
  refine V.gf [.u 1,.l 0,.ln (kF 0 a d),.u 1] fun _ _ G3=>?_;intro S s
  refine V.lp (γ:=Int) (fun k0=>⟨[(1,pp ((G1 0).b) 0),(3,iv (a.length:Int)),(10,d.v),(11,iv (a.length:Int)),(12,iv k0)],[fs false a d],[.blk ((G1 0).b) (ca (DBig.mk c ⟨a,d⟩)) 50]⟩) (fun k0=>(0≤k0)∧(k0≤(a.length:Int))∧(∀ i,i < k0.toNat→0≤a.getD i default∧a.getD i default < 1048576)) (fun k0=>((a.length:Int)-k0).toNat) 0 [0] ?_ ?_
  · refine ⟨?_,?_,?_⟩
    · show 0≤(0:Int)
      first | omega | rfl | (simp;done) | (subst_vars;simp;done)
    · show (0:Int)≤(a.length:Int)
      first | omega | rfl | (simp;done) | (subst_vars;simp;done)
    show ∀ i,i < (0:Int).toNat→0≤a.getD i default∧a.getD i default < 1048576;intro i hi;simp at hi
  rintro k0 hF1 kw4 Z1 hZ1;have hF1:(0≤k0)∧(k0≤(a.length:Int))∧(∀ i,i < k0.toNat→0≤a.getD i default∧a.getD i default < 1048576):=hF1;obtain ⟨hf1,hf2,hf3⟩:=hF1;clear kw4;refine V.gf [.u 1] fun _ _ G4=>?_;intro S s;refine V.cn (b:=decide (k0 < (a.length:Int))) iDT iDF (fun q1=>?_) (fun q2=>?_)
  · refine nm (a.getD k0.toNat default:Int) fun v1 hv1=>?_;refine V.gf [.iX (kF 0 a d) k0,.lE (kF 0 a d) k0 false v1 hv1 false,.u 1] fun _ _ G5=>?_;intro S s
    refine V.gf [.u 5,.or g0 false (decide (v1 < 0)) (decide (1048575 < v1))] fun _ _ G6=>?_;intro S s
    refine V.cn (b:=(decide (v1 < 0)) || (decide (1048575 < v1))) (iOT iDT iDT) (iOF iDF iDF) (fun q3=>?_) (fun q4=>?_)
    · refine V.g [.kb false] fun _ _ G7=>?_;intro S s
      have e0:false=decide (Bg.RtB c a):=(decide_eq_false (Bg.rt_bad (k:=k0.toNat) (by omega) hv1 q3)).symm;exact V.rT [0] [] [] [] [] [] (cong1 (fun (xz0:Bool)=>(bv xz0:Value)) e0)
    refine V.gf [.aa (k0+1),.u 1] fun _ _ G8=>?_;intro S s
    refine V.rn hZ1 (k0+1) [0] ?_ ?_
    · refine ⟨?_,?_,?_⟩
      · show 0≤(k0+1)
        first | omega | rfl | (simp;done) | (subst_vars;simp;done)
      · show (k0+1)≤(a.length:Int)
        first | omega | rfl | (simp;done) | (subst_vars;simp;done)
      show ∀ i,i < (k0+1).toNat→0≤a.getD i default∧a.getD i default < 1048576;intro i hi;by_cases e:i < k0.toNat
      · exact hf3 i e
      rw [show i=k0.toNat by omega,← hv1];omega
    show ((a.length:Int)-(k0+1)).toNat < ((a.length:Int)-k0).toNat;omega
  refine V.gf [.u 2] fun _ _ G9=>?_;intro S s
  refine V.cn (b:=decide ((a.length:Int)=0)) iDT iDF (fun q5=>?_) (fun q6=>?_)
  · refine V.gf [.u 1,.l 0,.u 2] fun _ _ G10=>?_;intro S s
    have e0:(decide (c=0))=decide (Bg.RtB c a):=by
      refine Bool.eq_iff_iff.2 (Iff.trans iDT (Iff.trans ?_ decide_eq_true_iff.symm));exact Bg.rt_nil (by omega)
    exact V.rT [0] [] [] [] [] [] (cong1 (fun (xz0:Bool)=>(bv xz0:Value)) e0)
  refine nm ((decide (c=1)) || (decide (c=(-1))):Bool) fun p1 hp1=>?_;refine nm ((a.length:Int)-1:Int) fun n1 hn1=>?_;refine nm (a.getD n1.toNat default:Int) fun v2 hv2=>?_;refine V.gf [.u 1,.l 0,.u 3,.l 0,.u 1,.orn g0 false (decide (c=1)) (decide (c=(-1))) p1 hp1,.u 2,.l 0,.u 1,.arg (gT (b:=p1) (iN hp1 (iOT iDT iDT))) ((a.length:Int)-1) n1 hn1 (fun hg=>by omega),.ix (gT (b:=p1) (iN hp1 (iOT iDT iDT))) (kF 0 a d) n1 (fun hg=>⟨by omega,by omega⟩),.le (gT (b:=p1) (iN hp1 (iOT iDT iDT))) (kF 0 a d) n1 none false v2 hv2 (fun hg=>⟨by omega,by omega⟩) false (fun _=>[iv v2]),.u 1,.and g0 false p1 (!(decide (v2=0))),.u 1] fun _ _ G11=>?_;intro S s
  have e0:(p1 && (!(decide (v2=0))))=decide (Bg.RtB c a):=by
    refine Bool.eq_iff_iff.2 (Iff.trans (iAT (iN hp1 (iOT iDT iDT)) (iNT iDF)) (Iff.trans ?_ decide_eq_true_iff.symm));exact Bg.rt_ok (by omega) (fun i hi=>hf3 i (by omega)) hv2 (by first | rfl | exact hn1)
  exact V.rT [0] [] [] [] [] [] (cong1 (fun (xz0:Bool)=>(bv xz0:Value)) e0)
set_option maxRecDepth 10000 in
theorem trim_ct (l:List Int) (ls:SV) (hd:Bg.Dg l) :
    Ct Tryz.prog 125 #[ls.v] [fs true l ls] [] (fun g=>((g.ss 0)).v) (fun g=>[fs false (Bg.dig (Bg.nv l)) (g.ss 0)]) (fun g=>[]) (fun g=>[]):=by
  refine V.fo mo Tryz.func125 21 0 fun w H ε k0=>?_;obtain ⟨⟨kl1, -⟩, -⟩:Lq l ls.v∧True:=kq k0
  clear k0;refine V.gf [.u 1] fun _ _ G1=>?_;intro S s
  refine V.gf [.u 1,.ln (kF 0 l ls),.u 1] fun _ _ G2=>?_;intro S s
  refine V.lp (γ:=Int) (fun n=>⟨[(0,ls.v),(3,iv n)],[fs false l ls],[]⟩) (fun n=>(0≤n)∧(n≤(l.length:Int))∧(∀ i,n.toNat≤i→i < l.length→l.getD i 0=0)) (fun n=>n.toNat) (l.length:Int) [0] ?_ ?_
  · refine ⟨?_,?_,?_⟩
    · show 0≤(l.length:Int);omega
    · show (l.length:Int)≤(l.length:Int);omega
    show ∀ i,(l.length:Int).toNat≤i→i < l.length→l.getD i 0=0;intro i h1 h2;omega
  rintro n hF1 kw3 Z1 hZ1;have hF1:(0≤n)∧(n≤(l.length:Int))∧(∀ i,n.toNat≤i→i < l.length→l.getD i 0=0):=hF1;obtain ⟨hf1,hf2,hf3⟩:=hF1;clear kw3;refine nm (l.getD (n-1).toNat default:Int) fun v1 hv1=>?_;refine V.gf [.u 5,.arg (gT (b:=decide (0 < n)) iDT) (n-1) (n-1) rfl (fun hg=>by omega),.ix (gT (b:=decide (0 < n)) iDT) (kF 0 l ls) (n-1) (fun hg=>⟨by omega,by omega⟩),.le (gT (b:=decide (0 < n)) iDT) (kF 0 l ls) (n-1) none false v1 hv1 (fun hg=>⟨by omega,by omega⟩) false (fun _=>[iv v1]),.u 1,.and g0 false (decide (0 < n)) (decide (v1=0))] fun _ _ G3=>?_;intro S s;refine V.cn (b:=(decide (0 < n)) && (decide (v1=0))) (iAT iDT iDT) (iAF iDF iDF) (fun q1=>?_) (fun q2=>?_)
  · refine V.gf [.u 1,.aa (n-1),.u 1] fun _ _ G4=>?_;intro S s
    refine V.rn hZ1 (n-1) [0] ?_ ?_
    · refine ⟨?_,?_,?_⟩
      · show 0≤(n-1);omega
      · show (n-1)≤(l.length:Int);omega
      show ∀ i,(n-1).toNat≤i→i < l.length→l.getD i 0=0;intro i h1 h2;by_cases e:n.toNat≤i
      · exact hf3 i e h2
      rw [show i=(n-1).toNat by omega];exact hv1.symm.trans q1.2
    show (n-1).toNat < n.toNat;omega
  refine nm (l.take n.toNat:List Int) fun l1 hl1=>?_;refine V.gf [.u 2,.sl g0 (kF 0 l ls) rfl none (some n) 0 n rfl rfl l1 (by rw [hl1];simp) (fun _=>⟨by omega,by omega,by omega⟩),.u 1] fun _ _ G5=>?_;intro S s
  have e0:l1=Bg.dig (Bg.nv l):=by rw [hl1];exact Bg.trim_eq hd (by omega) hf3 (Bg.trim_stop (fun _=>hv1) q2)
  subst e0;exact V.rS [0] [(ls.sub 1 (0:Int).toNat n.toNat)] [] [] [1] []
set_option maxRecDepth 10000 in
theorem trimo_ct (l:List Int) (ls:SV) (hd:Bg.Dg l) :
    Ct Tryz.prog 125 #[ls.v] [] [os false 3 l ls] (fun g=>((g.ss 0)).v) (fun g=>[]) (fun g=>[os true 3 (Bg.dig (Bg.nv l)) (g.ss 0)]) (fun g=>[]):=by
  refine V.fo mo Tryz.func125 21 0 fun w H ε k0=>?_;obtain ⟨⟨kl1, -⟩, -⟩:Lq l ls.v∧True:=kq k0
  clear k0;refine V.tro 3 l ls 0 (by kernel_rfl) (fun _ _=>trivial) ?_;refine V.gf [.u 1] fun _ _ G1=>?_;intro S s
  refine V.gf [.u 1,.ln (kO 3 0 l ls),.u 1] fun _ _ G2=>?_;intro S s
  refine V.lp (γ:=Int) (fun n=>⟨[(0,ls.v),(3,iv n)],[],[os true 3 l ls]⟩) (fun n=>(0≤n)∧(n≤(l.length:Int))∧(∀ i,n.toNat≤i→i < l.length→l.getD i 0=0)) (fun n=>n.toNat) (l.length:Int) [] ?_ ?_
  · refine ⟨?_,?_,?_⟩
    · show 0≤(l.length:Int);omega
    · show (l.length:Int)≤(l.length:Int);omega
    show ∀ i,(l.length:Int).toNat≤i→i < l.length→l.getD i 0=0;intro i h1 h2;omega
  rintro n hF1 kw3 Z1 hZ1;have hF1:(0≤n)∧(n≤(l.length:Int))∧(∀ i,n.toNat≤i→i < l.length→l.getD i 0=0):=hF1;obtain ⟨hf1,hf2,hf3⟩:=hF1;clear kw3;refine nm (l.getD (n-1).toNat default:Int) fun v1 hv1=>?_;refine V.gf [.u 5,.arg (gT (b:=decide (0 < n)) iDT) (n-1) (n-1) rfl (fun hg=>by omega),.ix (gT (b:=decide (0 < n)) iDT) (kO 3 0 l ls) (n-1) (fun hg=>⟨by omega,by omega⟩),.le (gT (b:=decide (0 < n)) iDT) (kO 3 0 l ls) (n-1) none false v1 hv1 (fun hg=>⟨by omega,by omega⟩) false (fun _=>[iv v1]),.u 1,.and g0 false (decide (0 < n)) (decide (v1=0))] fun _ _ G3=>?_;intro S s;refine V.cn (b:=(decide (0 < n)) && (decide (v1=0))) (iAT iDT iDT) (iAF iDF iDF) (fun q1=>?_) (fun q2=>?_)
  · refine V.gf [.u 1,.aa (n-1),.u 1] fun _ _ G4=>?_;intro S s
    refine V.rn hZ1 (n-1) [] ?_ ?_
    · refine ⟨?_,?_,?_⟩
      · show 0≤(n-1);omega
      · show (n-1)≤(l.length:Int);omega
      show ∀ i,(n-1).toNat≤i→i < l.length→l.getD i 0=0;intro i h1 h2;by_cases e:n.toNat≤i
      · exact hf3 i e h2
      rw [show i=(n-1).toNat by omega];exact hv1.symm.trans q1.2
    show (n-1).toNat < n.toNat;omega
  refine nm (l.take n.toNat:List Int) fun l1 hl1=>?_;refine V.gf [.u 2,.fro 2 0 3 true l (fun _=>ls) n l1 hl1 (by omega) (by omega),.u 1] fun _ _ G5=>?_;intro S s
  have eL0:l1=Bg.dig (Bg.nv l):=by rw [hl1];exact Bg.trim_eq hd (by omega) hf3 (Bg.trim_stop (fun _=>hv1) q2)
  subst eL0;exact V.rS [0] [(ls.sub 1 0 n.toNat)] [] [] [] [0]
set_option maxRecDepth 10000 in
theorem signed_ct (sign:Int) (l:List Int) (ls:SV) (hd:Bg.Dg l) :
    Ct Tryz.prog 85 #[iv sign,ls.v] [fs true l ls] [] (fun g=>ag (DBig.mk (Bg.sg0 (Bg.nv l) sign) ⟨Bg.dig (Bg.nv l),(g.ss 0)⟩)) (fun g=>[fs false (Bg.dig (Bg.nv l)) (g.ss 0)]) (fun g=>[]) (fun g=>[]):=by
  refine V.fo mo Tryz.func85 14 1 fun w H ε k0=>?_;clear k0
  refine V.gf [.n 0] fun _ _ G1=>?_;intro S_ s_
  refine V.gf [.u 1,.cB 1 125 true [] [] [kA 0 l ls] fun G=>trim_ct l ls (by assumption),.u 1] fun _ _ G2=>?_;intro S_ s_
  refine V.gf [.u 1,.ln (kF 1 (Bg.dig (Bg.nv l)) ((G2 1).ss 0)),.u 1] fun _ _ G3=>?_;intro S_ s_
  refine V.cn (b:=decide (((Bg.dig (Bg.nv l)).length:Int)=0)) iDT iDF (fun q1=>?_) (fun q2=>?_)
  · have hz0:=Bg.len_dig0.1 q1;refine V.gf [.u 1,.s 0] fun _ _ G4=>?_;intro S_ s_
    refine V.nilF (α:=Int) ?_;have e1:([]:List Int)=Bg.dig (Bg.nv l):=by rw [hz0];rfl
    rw [←e1];have e0:(0:Int)=Bg.sg0 (Bg.nv l) sign:=(if_pos hz0).symm;exact V.rT [0] [] [] [] [2] [] (cong1 (fun (xz0:Int)=>(.agg #[iv xz0,SV.v ({})]:Value)) e0)
  have hz0:=fun h=>q2 (Bg.len_dig0.2 h)
  refine V.gf [.u 3,.s 0] fun _ _ G5=>?_;intro S_ s_
  have e0:sign=Bg.sg0 (Bg.nv l) sign:=(if_neg hz0).symm;exact V.rT [0] [(G2 1).ss 0] [] [] [1] [] (cong1 (fun (xz0:Int)=>(.agg #[iv xz0,((G2 1).ss 0).v]:Value)) e0)
theorem signed_ctv (sign:Int) (l:List Int) (ls:SV) (hd:Bg.Dg l) (rv0:Int) (erv0:rv0=Bg.sg0 (Bg.nv l) sign) (rv1:List Int) (erv1:rv1=Bg.dig (Bg.nv l)) :
    Ct Tryz.prog 85 #[iv sign,ls.v] [fs true l ls] [] (fun g=>ag (DBig.mk rv0 ⟨rv1,(g.ss 0)⟩)) (fun g=>[fs false rv1 (g.ss 0)]) (fun g=>[]) (fun g=>[]):=by
  subst erv0 erv1;exact signed_ct sign l ls hd

open Go Go.Proofs
set_option maxRecDepth 10000 in
theorem of_ct (n:Int) (hn: -9223372036854775808≤n∧n≤9223372036854775807) :
    Ct Tryz.prog 77 #[iv n] [] [] (fun g=>ag (DBig.mk (Bg.sgn n) ⟨Bg.dig n.natAbs,(g.ss 0)⟩)) (fun g=>[fs true (Bg.dig n.natAbs) (g.ss 0)]) (fun g=>[]) (fun g=>[]):=by
  refine V.fo mo Tryz.func77 25 2 fun w H ε k0=>?_;clear k0
  refine V.gf [.n 0] fun _ _ G1=>?_;intro S_ s_
  refine nm (n % 18446744073709551616:Int) fun n1 hn1=>?_;refine V.gf [.u 1,.ek g0 .u64 n n1 (fun _=>by rw [wrapU64,hn1]),.u 2] fun _ _ G2=>?_;intro S_ s_
  refine V.gf [.u 2] fun _ _ G3=>?_;intro S_ s_
  refine V.cn (b:=decide (n < 0)) iDT iDF (fun q1=>?_) (fun q2=>?_)
  · refine nm ((0-n1) % 18446744073709551616:Int) fun n2 hn2=>?_;refine V.gf [.u 1,.ek g0 .u64 (0-n1) n2 (fun _=>by rw [wrapU64,hn2]),.u 2] fun _ _ G4=>?_;intro S_ s_
    refine V.gf [.u 1] fun _ _ G5=>?_;intro S_ s_
    refine V.on (α:=Int) 1 3 (by kernel_rfl) ?_;refine V.lp (γ:=Int × List Int × SV) (fun ⟨u,l,ls⟩=>⟨[(2,pp ((G1 0).b) 0),(3,iv (-1)),(4,.int .u64 u),(5,ls.v)],[],[.blk ((G1 0).b) (ca (DBig.mk 0 ⟨[],{}⟩)) 50,os true 3 l ls]⟩) (fun ⟨u,l,ls⟩=>(Bg.OfI n.natAbs l u)) (fun ⟨u,l,ls⟩=>u.toNat) (n2,([]:List Int),{}) [] ?_ ?_
    · · show Bg.OfI n.natAbs ([]:List Int) n2;exact Bg.of_start (by omega) (by omega)
    rintro ⟨u,l,ls⟩ hF1 kw6 Z1 hZ1;have hf1:Bg.OfI n.natAbs l u:=hF1;have hu0:=hf1.u0;have hul:u < 18446744073709551616:=by have:=hf1.sum;have:=Nat.le_mul_of_pos_left u.toNat (Nat.pow_pos (n:=l.length) (show 0 < 1048576 by omega));omega
    refine V.gf [.u 2] fun _ _ G6=>?_;intro S_ s_
    refine V.cn (b:=decide (0 < u)) iDT iDF (fun q3=>?_) (fun q4=>?_)
    · have hll:=Bg.of_len hf1 q3 (by omega);refine nm (u % 1048576:Int) fun n3 hn3=>?_;refine nm (l ++[n3]:List Int) fun l1 hl1=>?_;refine V.gf [.u 2,.andu g0 u 1048575 n3 20 (by decide) rfl (by rw [hn3];rfl),.ek g0 .i64 n3 n3 (fun _=>by rw [IntKind.wrap_i64];omega),.nr 4 true 3 [n3] [] (fun _ _ _ _ _=>trivial) (fun _=>#[iv n3]),.ap 5 1 3 8 false true l (fun _=>ls) (kf true (.g 4 0) [n3] (fun G=>⟨atB (G 4).b,1,1⟩)) true l1 hl1 (by (try simp only [List.length_append,List.length_cons,List.length_nil,List.length_replicate,List.length_set,List.length_take,List.length_drop,List.length_map,List.length_reverse,List.length_range]);omega) (fun h=>by cases h) (.inr fun _ _=>trivial),.u 1] fun _ _ G7=>?_;intro S_ s_
      refine nm (u / 1048576:Int) fun n4 hn4=>?_;refine V.gf [.u 1,.shrm g0 .u64 .u64 u n4 20 (by decide) (by rw [hn4];rfl),.u 1] fun _ _ G8=>?_;intro S_ s_
      refine V.rn hZ1 (n4,l1,(G7 5).s) [] ?_ ?_
      · · show Bg.OfI n.natAbs l1 n4;rw [hl1,hn3,hn4];exact Bg.of_step hf1
      show n4.toNat < u.toNat;omega
    refine V.frz 1 true 3 l ls (by kernel_rfl) ?_;refine V.gf [.u 2,.ctT g0 2 85 [kB 0 l ls] (fun _ G=>signed_ct (-1:Int) l ls hf1.dg),.s 0] fun _ _ G9=>?_;intro S_ s_
    have e1:Bg.dig (Bg.nv l)=Bg.dig n.natAbs:=by rw [Bg.of_end hf1 q4]
    rw [←e1];have e0:(Bg.sg0 (Bg.nv l) (-1:Int))=Bg.sgn n:=by rw [Bg.of_end hf1 q4];exact Bg.of_sgn rfl _ (by omega)
    exact V.rT [0] [(G9 2).ss 0] [] [] [1] [] (cong1 (fun (xz0:Int)=>(.agg #[iv xz0,((G9 2).ss 0).v]:Value)) e0)
  refine V.gf [.u 1] fun _ _ G10=>?_;intro S_ s_
  refine V.on (α:=Int) 1 3 (by kernel_rfl) ?_;refine V.lp (γ:=Int × List Int × SV) (fun ⟨u_1,l_1,l_1s⟩=>⟨[(2,pp ((G1 0).b) 0),(3,iv 1),(4,.int .u64 u_1),(5,l_1s.v)],[],[.blk ((G1 0).b) (ca (DBig.mk 0 ⟨[],{}⟩)) 50,os true 3 l_1 l_1s]⟩) (fun ⟨u_1,l_1,l_1s⟩=>(Bg.OfI n.natAbs l_1 u_1)) (fun ⟨u_1,l_1,l_1s⟩=>u_1.toNat) (n1,([]:List Int),{}) [] ?_ ?_
  · · show Bg.OfI n.natAbs ([]:List Int) n1;exact Bg.of_start (by omega) (by omega)
  rintro ⟨u_1,l_1,l_1s⟩ hF2 kw12 Z2 hZ2;have hf2:Bg.OfI n.natAbs l_1 u_1:=hF2;have hu0:=hf2.u0;have hul:u_1 < 18446744073709551616:=by have:=hf2.sum;have:=Nat.le_mul_of_pos_left u_1.toNat (Nat.pow_pos (n:=l_1.length) (show 0 < 1048576 by omega));omega
  refine V.gf [.u 2] fun _ _ G11=>?_;intro S_ s_
  refine V.cn (b:=decide (0 < u_1)) iDT iDF (fun q5=>?_) (fun q6=>?_)
  · have hll:=Bg.of_len hf2 q5 (by omega);refine nm (u_1 % 1048576:Int) fun n5 hn5=>?_;refine nm (l_1 ++[n5]:List Int) fun l2 hl2=>?_;refine V.gf [.u 2,.andu g0 u_1 1048575 n5 20 (by decide) rfl (by rw [hn5];rfl),.ek g0 .i64 n5 n5 (fun _=>by rw [IntKind.wrap_i64];omega),.nr 4 true 3 [n5] [] (fun _ _ _ _ _=>trivial) (fun _=>#[iv n5]),.ap 5 1 3 8 false true l_1 (fun _=>l_1s) (kf true (.g 4 0) [n5] (fun G=>⟨atB (G 4).b,1,1⟩)) true l2 hl2 (by (try simp only [List.length_append,List.length_cons,List.length_nil,List.length_replicate,List.length_set,List.length_take,List.length_drop,List.length_map,List.length_reverse,List.length_range]);omega) (fun h=>by cases h) (.inr fun _ _=>trivial),.u 1] fun _ _ G12=>?_;intro S_ s_
    refine nm (u_1 / 1048576:Int) fun n6 hn6=>?_;refine V.gf [.u 1,.shrm g0 .u64 .u64 u_1 n6 20 (by decide) (by rw [hn6];rfl),.u 1] fun _ _ G13=>?_;intro S_ s_
    refine V.rn hZ2 (n6,l2,(G12 5).s) [] ?_ ?_
    · · show Bg.OfI n.natAbs l2 n6;rw [hl2,hn5,hn6];exact Bg.of_step hf2
    show n6.toNat < u_1.toNat;omega
  refine V.frz 1 true 3 l_1 l_1s (by kernel_rfl) ?_;refine V.gf [.u 2,.ctT g0 2 85 [kB 0 l_1 l_1s] (fun _ G=>signed_ct (1:Int) l_1 l_1s hf2.dg),.s 0] fun _ _ G14=>?_;intro S_ s_
  have e1:Bg.dig (Bg.nv l_1)=Bg.dig n.natAbs:=by rw [Bg.of_end hf2 q6]
  rw [←e1];have e0:(Bg.sg0 (Bg.nv l_1) (1:Int))=Bg.sgn n:=by rw [Bg.of_end hf2 q6];exact Bg.of_sgn rfl _ (by omega)
  exact V.rT [0] [(G14 2).ss 0] [] [] [1] [] (cong1 (fun (xz0:Int)=>(.agg #[iv xz0,((G14 2).ss 0).v]:Value)) e0)
theorem of_ctv (n:Int) (hn: -9223372036854775808≤n∧n≤9223372036854775807) (rv0:Int) (erv0:rv0=Bg.sgn n) (rv1:List Int) (erv1:rv1=Bg.dig n.natAbs) :
    Ct Tryz.prog 77 #[iv n] [] [] (fun g=>ag (DBig.mk rv0 ⟨rv1,(g.ss 0)⟩)) (fun g=>[fs true rv1 (g.ss 0)]) (fun g=>[]) (fun g=>[]):=by
  subst erv0 erv1;exact of_ct n hn
end Kb
