/- Texts for the claim, put together: the calculus of regions, its rules, and contracts of the functions that the law reaches. -/
import Derived.Test.YtelhognicgmkdaaZTwa
import Derived.Laws.Cover3
import Derived.ChangeArms
import Derived.WideKeyArgs
import Derived.Carry
import Derived.OpenShut
import Derived.Test.YtelhognicgmkdaaChecked
import Derived.ChangeSame
import Derived.Test.YtelhognicgmkdaaProg
import Derived.MapKept
import Derived.Lib.AppendZeros
import Derived.Laws.Strings
import Derived.Laws.Slices
set_option linter.unusedVariables false
set_option linter.unusedSectionVars false
set_option linter.unusedSimpArgs false
namespace Kb
open Go
section
variable {P : Program} {E : Env P} {S : Stop} {t : St}
theorem V.reg (hs:List (Hint P)) (hk:∀ N ε,(S,(cxOf E S t hs N ε).R.check E.nt,hs.length,lhsAll (cxOf E S t hs N ε) hs 0)=(.reg S.rid S.ops S.dr S.K,true,S.ops.size,rhsAll (cxOf E S t hs N ε) hs 0))
    (k:∀ N ε G,Knw ((cxOf E S t hs N ε).know G)→let S':=S.next;let t':=post (cxOf E S t hs N ε) G;V E S' t'):V E S t:=fun N ε a w hin=>by
  have h0:=hk N ε
  have e1:=congrArg (fun p:Stop × Bool × Nat × Prods hs=>p.1) h0
  have e2:=congrArg (fun p:Stop × Bool × Nat × Prods hs=>p.2.1) h0
  have e3:=congrArg (fun p:Stop × Bool × Nat × Prods hs=>p.2.2.1) h0
  have e4:=congrArg (fun p:Stop × Bool × Nat × Prods hs=>p.2.2.2) h0
  simp only at e1 e2 e3 e4
  have ok:(cxOf E S t hs N ε).Ok:=⟨e2,by show (hs.map (·.d)).length=_;rw [List.length_map];exact e3,hin.new,hin.facts,hin.own⟩
  have hone:∀ i,One (cxOf E S t hs N ε).R P E.w0 E.X i:=fun i=>by
    rcases Nat.lt_or_ge i S.ops.size with hi | hi
    · have hl:hs[i]?=some (hs[i]'(by rw [e3];exact hi)):=List.getElem?_eq_getElem _
      refine (hs[i]'(by rw [e3];exact hi)).sound (cxOf E S t hs N ε) i ok hi (by show (hs.map (·.d))[i]?=_;rw [List.getElem?_map,hl];rfl) fun G g w=>?_
      have:=all_get e4 i _ hl G g w
      rwa [Nat.zero_add] at this
    · intro o ho
      have:(cxOf E S t hs N ε).R.ops[i]?=none:=Array.getElem?_eq_none hi
      rw [this] at ho;cases ho
  rw [e1]
  show (Code.region S.rid S.ops S.dr).wp P (run P E.Q S.K) a w
  refine RC.region (R:=(cxOf E S t hs N ε).R) E.mo e2 hone hin.slots hin.st fun G a' w' d=>?_
  obtain ⟨h1,h2⟩:=post_in ok d
  exact norm_sound 200 (.inr .normal) S.K a' w' (k N ε G ⟨h2⟩ _ _ a' w' h1)
def cval (t:St):Operand→Option Value
  | .tmp s=>t.sl.lookup s
  | .const v=>some v
  | _=>none
theorem V.cond {b:Bool} {φ ψ:Prop} (hb:b=true↔φ) (hb':b=false↔ψ) (hk:(S,cval t S.cn)=(.cond S.cn S.x S.y S.K,some (.bool b))) (k1:φ→V E S.inX t) (k2:ψ→V E S.inY t):V E S t:=fun N ε a w hin=>by
  simp only [Prod.mk.injEq] at hk
  obtain ⟨e1,e2⟩:=hk
  rw [e1]
  have hv:a.eval S.cn=.bool b:=by
    cases hc:S.cn with
    | tmp s =>
      rw [hc] at e2
      have:=hin.slots.slot s _ e2
      simp [Act.eval,Array.getD_eq_getD_getElem?,this]
    | const v =>
      rw [hc] at e2
      simp only [cval,Option.some.injEq] at e2
      subst e2;rfl
    | _=>rw [hc] at e2;cases e2
  exact wp_cond_split hv (fun h=>norm_sound 200 (.inl S.x) S.K a w (k1 (hb.1 h) N ε a w hin)) (fun h=>norm_sound 200 (.inl S.y) S.K a w (k2 (hb'.1 h) N ε a w hin))
def FP.drop (f:FP):FP:={ f with t:=false }
theorem FP.drop_at {f:FP} {N K:Heaplet} (h:f.at N K) (hNK:Sub N K):f.drop.at N K:=by
  unfold FP.at at h
  cases e:f.t <;> rw [e] at h
  · exact h
  · exact f.m _ _ hNK h
theorem LE.drop_at {x:LE} {e:Ent} {N K:Heaplet} (h:x.at e N K) (hNK:Sub N K):x.drop.at e N K:=by
  cases x with
  | own t p m q hq =>
    cases t
    · exact h
    · exact m _ _ _ hNK h
  | _=>trivial
def matchF (x y:FP):FP:=bif y.t then x else x.drop
def matchL (x y:LE):LE:=match y with
  | .no=>.no
  | .own false _ _ _ _=>x.drop
  | _=>x
def leSt (fi:List Nat) (t t':St):List (Option Value) × List (Option FP) × List LE × Nat × Nat :=
  (t'.sl.map (fun p=>t.sl.lookup p.1),(fi.zip t'.F).map (fun p=>(t.F[p.1]?).map fun x=>matchF x p.2),(t.L.zip t'.L).map (fun p=>matchL p.1 p.2),fi.length,t.L.length)
def leSt' (t':St):List (Option Value) × List (Option FP) × List LE × Nat × Nat :=
  (t'.sl.map (fun p=>some p.2),t'.F.map some,t'.L,t'.F.length,t'.L.length)
theorem St.In.le {t t':St} {nt:Nat} {w0:World} {X:List Nat} {H N:Heaplet} {ε:Nat→Ent} {a:Act} {w:World} (h:t.In nt w0 X H N ε a w) {fi:List Nat} (hk:leSt fi t t'=leSt' t'):t'.In nt w0 X H N ε a w:=by
  simp only [leSt,leSt',Prod.mk.injEq] at hk
  obtain ⟨h1,h2,h3,h4,h5⟩:=hk
  have hNK:Sub N (hun N H):=hun_left
  have hL:∀ (r:Nat) (y:LE),t'.L[r]?=some y→∃ x,t.L[r]?=some x∧y=matchL x y:=fun r y hy=>by
    have:=congrArg (fun l:List LE=>l[r]?) h3
    simp only [List.getElem?_map,hy] at this
    cases hz:(t.L.zip t'.L)[r]? with
    | none=>rw [hz] at this;cases this
    | some p =>
      rw [hz] at this
      rw [List.getElem?_zip_eq_some] at hz
      rw [hy] at hz
      obtain ⟨z1,z2⟩:=hz
      simp only [Option.some.injEq] at z2
      simp only [Option.map_some,Option.some.injEq] at this
      rw [←z2] at this
      exact ⟨p.1,z1,this.symm⟩
  have hent:∀ (x y:LE) (e:Ent) (p:Nat × Obj),y=matchL x y→y.ent e=some p→x.ent e=some p:=fun x y e p hy hp=>by
    rw [hy] at hp
    cases y with
    | no=>cases hp
    | blk b arr T=>exact hp
    | own t' q m r hr =>
      cases t'
      · simp only [matchL] at hp
        cases x <;> exact hp
      · exact hp
  have hents:∀ (r b:Nat) (o:Obj),(ents t'.L ε)[r]?=some (some (b,o))→(ents t.L ε)[r]?=some (some (b,o)):=fun r b o he=>by
    rw [ents_get,Option.map_eq_some_iff] at he ⊢
    obtain ⟨y,hy,he⟩:=he
    obtain ⟨x,hx,hxy⟩:=hL r y hy
    exact ⟨x,hx,hent x y _ _ hxy he⟩
  refine ⟨h.slots.sub h1,⟨h.st.base,h.st.agr,fun r b o he=>h.st.ent r b o (hents _ _ _ he),fun r r' b o o' he he'=>h.st.dis r r' b o o' (hents _ _ _ he) (hents _ _ _ he')⟩,h.new,fun f hf=>?_,fun r y hy=>?_⟩
  · obtain ⟨k,hk⟩:=List.getElem?_of_mem hf
    have:=congrArg (fun l:List (Option FP)=>l[k]?) h2
    simp only [List.getElem?_map,hk,Option.map_some] at this
    cases hz:(fi.zip t'.F)[k]? with
    | none=>rw [hz] at this;cases this
    | some p =>
      rw [hz] at this
      rw [List.getElem?_zip_eq_some] at hz
      rw [hk] at hz
      obtain ⟨_,z2⟩:=hz
      simp only [Option.some.injEq] at z2
      simp only [Option.map_some,Option.some.injEq,Option.map_eq_some_iff] at this
      obtain ⟨x,hx,hxf⟩:=this
      rw [←z2] at hxf
      have hat:=h.facts x (List.mem_of_getElem? hx)
      rw [←hxf]
      unfold matchF
      cases f.t
      · exact FP.drop_at hat hNK
      · exact hat
  · obtain ⟨x,hx,hxy⟩:=hL r y hy
    have hat:=h.own r x hx
    rw [hxy]
    cases y with
    | no=>trivial
    | blk b arr T=>exact hat
    | own t' q m r' hr =>
      cases t'
      · exact LE.drop_at hat hNK
      · exact hat
theorem V.le {t':St} (fi:List Nat) (hk:leSt fi t t'=leSt' t') (k:V E S t'):V E S t:=fun N ε a w hin=>k N ε a w (hin.le hk)
def St.know (t:St):List Prop:=t.F.map (·.q) ++t.L.flatMap LE.lim
theorem St.In.know {nt:Nat} {w0:World} {X:List Nat} {H N:Heaplet} {ε:Nat→Ent} {a:Act} {w:World} (h:t.In nt w0 X H N ε a w):conjL t.know:=conjL_of fun p hp=>by
  rcases List.mem_append.1 hp with hp | hp
  · obtain ⟨f,hf,rfl⟩:=List.mem_map.1 hp
    exact FP.lim_of (h.facts f hf)
  · obtain ⟨x,hx,hp⟩:=List.mem_flatMap.1 hp
    obtain ⟨r,hr⟩:=List.getElem?_of_mem hx
    exact LE.lim_of (h.own r x hr) p hp
def Takes {P:Program} {γ:Type} (E:Env P) (I:γ→St) (F:γ→Prop) (M:γ→Prop) (Z:Act→World→Prop):Prop:=∀ g,F g→M g→∀ N ε a w,(I g).In E.nt E.w0 E.X E.H N ε a w→Z a w
theorem loop_ghost {P:Program} {Q:Exit→Act→World→Prop} {c:Code} {a:Act} {w:World} {γ:Type} (I:γ→Act→World→Prop) (μ:γ→Nat) (g:γ) (h0:I g a w)
    (round:∀ g a w,I g a w→c.wp P (Exit.then (fun a' w'=>∃ g',I g' a' w'∧μ g' < μ g) Q) a w):(Code.loop c).wp P Q a w:=by
  classical
  let S:Act→World→Nat→Prop:=fun a w n=>∃ g,I g a w∧μ g=n
  have least:∀ a w,(∃ n,S a w n)→∃ n,S a w n∧∀ m,S a w m→n≤m:=fun a w ⟨n,hn⟩=>by
    induction n using Nat.strongRecOn with
    | _ n ih =>
      by_cases h:∃ m,m < n∧S a w m
      · obtain ⟨m,hm,hS⟩:=h
        exact ih m hm hS
      · exact ⟨n,hn,fun m hm=>Nat.le_of_not_lt fun hlt=>h ⟨m,hlt,hm⟩⟩
  let M:Act→World→Nat:=fun a w=>if h:∃ n,S a w n then Classical.choose (least a w h) else 0
  refine wp_loop (fun a w=>∃ g,I g a w) M ⟨g,h0⟩ fun a w ⟨g,hg⟩=>?_
  have hex:∃ n,S a w n:=⟨μ g,g,hg,rfl⟩
  have hM:M a w=Classical.choose (least a w hex):=dif_pos hex
  obtain ⟨⟨g1,hg1,hm1⟩,_⟩:=Classical.choose_spec (least a w hex)
  refine Go.wp_mono (round g1 a w hg1) fun e a' w' hq=>?_
  cases e with
  | normal =>
    obtain ⟨g2,hg2,hlt⟩:=hq
    refine ⟨⟨g2,hg2⟩,?_⟩
    have hex2:∃ n,S a' w' n:=⟨μ g2,g2,hg2,rfl⟩
    have hM2:M a' w'=Classical.choose (least a' w' hex2):=dif_pos hex2
    have:=(Classical.choose_spec (least a' w' hex2)).2 (μ g2) ⟨g2,hg2,rfl⟩
    rw [hM2,hM,← hm1]
    omega
  | _=>exact hq
theorem V.loop {γ:Type} (I:γ→St) (F:γ→Prop) (μ:γ→Nat) (g:γ) (hk:S=.loop S.x S.K) (fi:List Nat) (h0:leSt fi t (I g)=leSt' (I g)) (hF:F g)
    (round:∀ g,F g→Knw (I g).know→∀ Z,Takes E I F (fun g'=>μ g' < μ g) Z→V E (norm 200 (.inl S.x) (.rnd Z :: S.K)) (I g)):V E S t:=fun N ε a w hin=>by
  rw [hk]
  show (Code.loop S.x).wp P (run P E.Q S.K) a w
  have hin:=hin.le h0
  refine loop_ghost (fun g a w=>F g∧∃ N ε,(I g).In E.nt E.w0 E.X E.H N ε a w) μ g ⟨hF,N,ε,hin⟩ fun g a w ⟨hF,N,ε,hin⟩=>?_
  exact norm_sound 200 (.inl S.x) (.rnd (fun a' w'=>∃ g',(F g'∧∃ N ε,(I g').In E.nt E.w0 E.X E.H N ε a' w')∧μ g' < μ g) :: S.K) a w (round g hF ⟨hin.know⟩ _ (fun g' hF' hm N ε a w h=>⟨g',⟨hF',N,ε,h⟩,hm⟩) N ε a w hin)
def Stop.rz:Stop→Option (Act→World→Prop)
  | .rnd Z _=>some Z
  | _=>none
theorem V.rnd {γ:Type} {I:γ→St} {F:γ→Prop} {M:γ→Prop} {Z:Act→World→Prop} (hZ:Takes E I F M Z) (g:γ) (fi:List Nat) (hk:(S.rz,leSt fi t (I g))=(some Z,leSt' (I g))) (hF:F g) (hM:M g):V E S t:=fun N ε a w hin=>by
  simp only [Prod.mk.injEq] at hk
  obtain ⟨e1,e2⟩:=hk
  cases S with
  | rnd Z' K =>
    simp only [Stop.rz,Option.some.injEq] at e1
    subst e1
    exact hZ g hF hM N ε a w (hin.le e2)
  | _=>cases e1
def fnEnv {P:Program} (mo:P.follows .mixedOrders=true) (fn:Func) (nt:Nat) (w:World) (H:Heaplet) (olds:List Ent) (V:Rec→Value) (F':Rec→List FP) (L':Rec→List LE) (pu:Rec→List Prop):Env P :=
  { nt,w0:=w,X:=blks olds,H,Q:=bodyPost P fn fun e w'=>∃ g,CPost w w' H olds V F' L' pu e g,mo }
theorem ents_more {ε:Nat→Ent} {L:List LE} {n r b:Nat} {o:Obj} (h:(ents (L ++List.replicate n .no) ε)[r]?=some (some (b,o))):(ents L ε)[r]?=some (some (b,o)):=by
  rw [ents_get,Option.map_eq_some_iff] at h ⊢
  obtain ⟨x,hx,he⟩:=h
  rw [List.getElem?_append] at hx
  split at hx
  · exact ⟨x,hx,he⟩
  · rw [List.getElem?_replicate] at hx
    split at hx
    · cases hx;cases he
    · cases hx
theorem W_calls {P:Program} {f:FuncId} {fn:Func} {c:Code} {args:Array Value} {w:World} {R:Ending→World→Prop} (hf:P.funcs[f]?=some fn) (hb:fn.body=some c) (nt:Nat) (hnt:(args ++Array.replicate (fn.ntmps - args.size) undef).size=nt)
    (h:∀ a,SlotsOK nt (args.toList.zipIdx.map fun p=>(p.2,p.1)) a→c.wp P (bodyPost P fn R) a w):Calls P f args w R:=by
  refine calls_of_wp hf hb (h _ ⟨rfl,hnt,fun s v hv=>?_⟩)
  have key:∀ (l:List Value) (k:Nat),((l.zipIdx k).map fun p=>(p.2,p.1)).lookup s=some v→k≤s∧l[s - k]?=some v:=by
    intro l
    induction l with
    | nil=>intro k h;cases h
    | cons x l ih =>
      intro k h
      simp only [List.zipIdx_cons,List.map_cons,List.lookup_cons] at h
      by_cases e:s=k
      · subst e;simp at h;simp [h]
      · have e':(s == k)=false:=by simpa using e
        rw [e'] at h
        obtain ⟨h1,h2⟩:=ih (k+1) h
        refine ⟨by omega,?_⟩
        rw [show s - k=(s - (k+1))+1 from by omega]
        simpa using h2
  have:=(key args.toList 0 hv).2
  simp only [Nat.sub_zero,Array.getElem?_toList] at this
  have hlt:=(Array.getElem?_eq_some_iff.1 this).1
  rw [Array.getElem?_append_left hlt];exact this
theorem V.fn {f:FuncId} {args:Array Value} {F:List FP} {L:List LE} {V':Rec→Value} {F':Rec→List FP} {L':Rec→List LE} {pu:Rec→List Prop} (mo:P.follows .mixedOrders=true) {fn:Func} (hf:P.funcs[f]?=some fn) (nt n:Nat)
    (hk:(fn.body.isSome,(args ++Array.replicate (fn.ntmps-args.size) undef).size)=(true,nt))
    (h:∀ w H ε,Knw (F.map (·.q) ++L.flatMap LE.lim)→V (fnEnv mo fn nt w H (ents L ε) V' F' L' pu) (norm 200 (.inl (body fn)) []) ⟨args.toList.zipIdx.map fun p=>(p.2,p.1),F.map FP.drop,L.map LE.drop ++List.replicate n .no⟩):Ct P f args F L V' F' L' pu:=fun w H ε hA hF hst hown=>by
  simp only [Prod.mk.injEq] at hk;obtain ⟨hb,hnt⟩:=hk;have hb':fn.body=some (body fn):=by
    unfold body;cases hc:fn.body with
    | none=>rw [hc] at hb;cases hb
    | some c=>rfl
  have hlim:conjL (F.map (·.q) ++L.flatMap LE.lim):=conjL_of fun p hp=>by
    rcases List.mem_append.1 hp with hp | hp
    · obtain ⟨q,hq,rfl⟩:=List.mem_map.1 hp;exact q.hq _ (hF q hq)
    · obtain ⟨x,hx,hp⟩:=List.mem_flatMap.1 hp;obtain ⟨r,hr⟩:=List.getElem?_of_mem hx;exact LE.lim_of (hown r x hr) p hp
  have hV:=h w H ε ⟨hlim⟩;have eH:hun (fun _=>none) H=H:=rfl;have hdr:∀ (x:LE) e,x.drop.ent e=x.ent e:=fun x e=>by cases x <;> rfl
  have hent:∀ (r b:Nat) (o:Obj),(ents (L.map LE.drop ++List.replicate n .no) ε)[r]?=some (some (b,o))→(ents L ε)[r]?=some (some (b,o)):=fun r b o he=>by
    have:=ents_more he
    rw [ents_get,List.getElem?_map,Option.map_eq_some_iff] at this;obtain ⟨x,hx,he⟩:=this;obtain ⟨y,hy,rfl⟩:=Option.map_eq_some_iff.1 hx;rw [ents_get,hy];rw [hdr] at he;simp [he]
  refine W_calls hf hb' nt hnt fun a hs=>?_;refine norm_sound 200 (.inl (body fn)) [] a w (hV (fun _=>none) ε a w ⟨hs,⟨hst.base,hst.agr,fun r b o he=>hst.ent r b o (hent _ _ _ he),fun r r' b o o' he he'=>hst.dis r r' b o o' (hent _ _ _ he) (hent _ _ _ he')⟩,new_none,fun q hq=>?_,fun r x hx=>?_⟩)
  · obtain ⟨q',hq',rfl⟩:=List.mem_map.1 hq;exact hF q' hq'
  · rw [List.getElem?_append] at hx;split at hx
    · rw [List.getElem?_map] at hx;obtain ⟨y,hy,rfl⟩:=Option.map_eq_some_iff.1 hx
      have:=hown r y hy
      cases y with
      | own t p m q hq=>cases t <;> exact this
      | _=>trivial
    · rw [List.getElem?_replicate] at hx;split at hx
      · cases hx;trivial
      · cases hx
def resV (P:Program) (t:St):ResultVar × Nat→Value
  | (.tmp s,_)=>(t.sl.lookup s).getD undef
  | (.cell s T,r)=>wrapT P T ((List.range ((sizeT P T).getD 0)).map fun j=>(entA (((t.L[r]?).getD .no).ent none)).getD ((addrOf ((t.sl.lookup s).getD undef)).off+j) undef)
def resC (P:Program) (t:St):ResultVar × Nat→Option Value × Bool × Bool × Ent
  | (.tmp s,_)=>(t.sl.lookup s,true,true,none)
  | (.cell s T,r)=>(t.sl.lookup s,(P.underlying T).isSome && (sizeT P T).isSome && (aggB P T || (sizeT P T).getD 0 == 1),decide ((addrOf ((t.sl.lookup s).getD undef)).off+(sizeT P T).getD 0≤(entA (((t.L[r]?).getD .no).ent none)).size),((t.L[r]?).getD .no).ent none)
def resC' (P:Program) (t:St):ResultVar × Nat→Option Value × Bool × Bool × Ent
  | (.tmp s,r)=>(some (resV P t (.tmp s,r)),true,true,none)
  | (.cell s _,r)=>(some (.pointer (some ⟨entB (((t.L[r]?).getD .no).ent none),(addrOf ((t.sl.lookup s).getD undef)).off,none⟩)),true,true,some (entB (((t.L[r]?).getD .no).ent none),.cells (entA (((t.L[r]?).getD .no).ent none)) (entT (((t.L[r]?).getD .no).ent none))))
def tupV:List Value→Value
  | [v]=>v
  | vs=>.tuple vs.toArray
def Stop.isEnd:Stop→Bool
  | .fin .ret=>true
  | .fin .normal=>true
  | _=>false
theorem res_run {w:World} {nt:Nat} {w0:World} {X:List Nat} {H N:Heaplet} {ε:Nat→Ent} {a:Act} (hin:t.In nt w0 X H N ε a w) {p:ResultVar × Nat} (h:resC P t p=resC' P t p):(resOf a.tmps p.1).run P w=.ok (resV P t p) w:=by
  obtain ⟨rv,r⟩:=p
  cases rv with
  | tmp s =>
    simp only [resC,resC',Prod.mk.injEq] at h
    exact res_tmp h.1 hin.slots
  | cell s T =>
    simp only [resC,resC',Prod.mk.injEq,Bool.and_eq_true] at h
    obtain ⟨h1,⟨⟨h2,h3⟩,h4⟩,h5,h6⟩:=h
    obtain ⟨n,hn⟩:=Option.isSome_iff_exists.1 h3
    rw [hn] at h4 h5
    simp only [Option.getD_some] at h4 h5
    have he:(ents t.L ε)[r]?=some (some (entB (((t.L[r]?).getD .no).ent none),.cells (entA (((t.L[r]?).getD .no).ent none)) (entT (((t.L[r]?).getD .no).ent none)))):=by
      rw [ents_get]
      cases hr:t.L[r]? with
      | none=>rw [hr] at h6;cases h6
      | some x =>
        cases x with
        | blk b arr T'=>rfl
        | _=>rw [hr] at h6;cases h6
    have hb:=(hin.st.ent r _ _ he).1
    have hp:=slot_getD h1 hin.slots
    have h5:=of_decide_eq_true h5
    have hl:=loadVar_run (P:=P) (w:=w) (t:=T) (a:=⟨entB (((t.L[r]?).getD .no).ent none),(addrOf ((t.sl.lookup s).getD undef)).off,none⟩) (vs:=(List.range n).map fun j=>(entA (((t.L[r]?).getD .no).ent none)).getD ((addrOf ((t.sl.lookup s).getD undef)).off+j) undef) h2 (by simpa using hn) (fun hb=>by rw [hb] at h4;simpa using h4) fun j v hj=>by
      simp only [List.getElem?_map,Option.map_eq_some_iff] at hj
      obtain ⟨k,hk,rfl⟩:=hj
      obtain ⟨hlt,rfl⟩:=List.getElem?_eq_some_iff.1 hk
      simp only [List.length_range] at hlt
      simp only [List.getElem_range]
      rw [add_eq rfl]
      have:(addrOf ((t.sl.lookup s).getD undef)).off+j < (entA (((t.L[r]?).getD .no).ent none)).size:=by omega
      simp [World.cell?,hb,this]
    show (do loadVar T (←asAddr (a.tmps.getD s undef)):Sem Value).run P w=_
    rw [hp]
    simp only [resV,hn,Option.getD_some]
    simp [asAddr,hl]
theorem V.ret {mo:P.follows .mixedOrders=true} {fn:Func} {nt:Nat} {w0:World} {H:Heaplet} {olds:List Ent} {V':Rec→Value} {F':Rec→List FP} {L':Rec→List LE} {pu:Rec→List Prop} (rr:List Nat) (ss:List SV) (sls:List (Nat→SV)) (bs:List Nat) (fi li:List Nat) (v:Value)
    (hk:∀ N es,(S.isEnd,fn.results.size == rr.length,(fn.results.toList.zip rr).map (resC P t),tupV ((fn.results.toList.zip rr).map (resV P t)),fi.length,(fi.zip (F' { H:=N,ss:=fun k=>ss.getD k {},sl:=fun k=>sls.getD k (fun _=>{}),bs:=fun k=>bs.getD k 0,es:=es })).map (fun p=>(t.F[p.1]?).map fun x=>matchF x p.2),nodup li,li.length,(li.zip (L' { H:=N,ss:=fun k=>ss.getD k {},sl:=fun k=>sls.getD k (fun _=>{}),bs:=fun k=>bs.getD k 0,es:=es })).map (fun p=>(t.L[p.1]?).map fun x=>matchL x p.2)) =
      (true,true,(fn.results.toList.zip rr).map (resC' P t),v,(F' { H:=N,ss:=fun k=>ss.getD k {},sl:=fun k=>sls.getD k (fun _=>{}),bs:=fun k=>bs.getD k 0,es:=es }).length,(F' { H:=N,ss:=fun k=>ss.getD k {},sl:=fun k=>sls.getD k (fun _=>{}),bs:=fun k=>bs.getD k 0,es:=es }).map some,true,(L' { H:=N,ss:=fun k=>ss.getD k {},sl:=fun k=>sls.getD k (fun _=>{}),bs:=fun k=>bs.getD k 0,es:=es }).length,(L' { H:=N,ss:=fun k=>ss.getD k {},sl:=fun k=>sls.getD k (fun _=>{}),bs:=fun k=>bs.getD k 0,es:=es }).map some))
    (hv:∀ N es,v=V' { H:=N,ss:=fun k=>ss.getD k {},sl:=fun k=>sls.getD k (fun _=>{}),bs:=fun k=>bs.getD k 0,es:=es }) (hp:∀ N es,conjL (pu { H:=N,ss:=fun k=>ss.getD k {},sl:=fun k=>sls.getD k (fun _=>{}),bs:=fun k=>bs.getD k 0,es:=es })):V (fnEnv mo fn nt w0 H olds V' F' L' pu) S t:=fun N ε a w hin=>by
  have h0:=hk N fun k=>ε (li.getD k 0)
  have hv:=hv N fun k=>ε (li.getD k 0)
  have hp:=hp N fun k=>ε (li.getD k 0)
  generalize hg:({ H:=N,ss:=fun k=>ss.getD k {},sl:=fun k=>sls.getD k (fun _=>{}),bs:=fun k=>bs.getD k 0,es:=fun k=>ε (li.getD k 0) }:Rec)=g at h0 hv hp
  have gH:g.H=N:=by rw [←hg]
  have gE:g.es=fun k=>ε (li.getD k 0):=by rw [←hg]
  simp only [Prod.mk.injEq,beq_iff_eq] at h0
  obtain ⟨e1,e2,e3,e4,e5,e6,e7,e8,e9⟩:=h0
  have hNK:Sub N (hun N H):=hun_left
  have hK:Agrees w (hun N H):=hin.st.agr _ (by simp [fnEnv])
  have hLk:∀ (k:Nat) (y:LE),(L' g)[k]?=some y→∃ x,t.L[li.getD k 0]?=some x∧y=matchL x y∧li[k]?=some (li.getD k 0):=fun k y hy=>by
    have:=congrArg (fun l:List (Option LE)=>l[k]?) e9
    simp only [List.getElem?_map,hy,Option.map_some] at this
    cases hz:(li.zip (L' g))[k]? with
    | none=>rw [hz] at this;cases this
    | some p =>
      rw [hz] at this
      rw [List.getElem?_zip_eq_some] at hz
      obtain ⟨z1,z2⟩:=hz
      rw [hy] at z2
      simp only [Option.some.injEq] at z2
      simp only [Option.map_some,Option.some.injEq,Option.map_eq_some_iff] at this
      obtain ⟨x,hx,hxy⟩:=this
      rw [←z2] at hxy
      have:li.getD k 0=p.1:=by rw [List.getD_eq_getElem?_getD,z1];rfl
      rw [this]
      exact ⟨x,hx,hxy.symm,z1⟩
  have hent:∀ (x y:LE) (e:Ent) (p:Nat × Obj),y=matchL x y→y.ent e=some p→x.ent e=some p:=fun x y e p hy hp=>by
    rw [hy] at hp
    cases y with
    | no=>cases hp
    | blk b arr T=>exact hp
    | own t' q m r hr =>
      cases t'
      · simp only [matchL] at hp
        cases x <;> exact hp
      · exact hp
  have hents:∀ (k b:Nat) (o:Obj),(ents (L' g) g.es)[k]?=some (some (b,o))→(ents t.L ε)[li.getD k 0]?=some (some (b,o))∧li[k]?=some (li.getD k 0):=fun k b o he=>by
    rw [ents_get,Option.map_eq_some_iff] at he
    obtain ⟨y,hy,he⟩:=he
    obtain ⟨x,hx,hxy,hl⟩:=hLk k y hy
    rw [gE] at he
    refine ⟨?_,hl⟩
    rw [ents_get,hx,Option.map_some,hent x y _ _ hxy he]
  have hall:All2 (fun r v=>(resOf a.tmps r).run P w=.ok v w) fn.results.toList ((fn.results.toList.zip rr).map (resV P t)):=by
    have:∀ (rs:List ResultVar) (rr:List Nat),rs.length=rr.length→((rs.zip rr).map (resC P t)=(rs.zip rr).map (resC' P t))→All2 (fun r v=>(resOf a.tmps r).run P w=.ok v w) rs ((rs.zip rr).map (resV P t)):=by
      intro rs
      induction rs with
      | nil=>intro rr _ _;cases rr <;> trivial
      | cons r rs ih =>
        intro rr hl he
        cases rr with
        | nil=>cases hl
        | cons k rr =>
          simp only [List.zip_cons_cons,List.map_cons,List.cons.injEq] at he ⊢
          exact ⟨res_run hin he.1,ih rr (by simpa using hl) he.2⟩
    exact this _ _ (by simpa using e2) e3
  have hres:(results fn a.tmps).run P w=.ok v w:=by
    rw [←e4]
    obtain ⟨rs,hrs⟩:∃ rs:List ResultVar,fn.results=rs.toArray:=⟨fn.results.toList,by simp⟩
    rw [hrs] at hall ⊢
    simp only [List.toList_toArray] at hall ⊢
    match rs,(rs.zip rr).map (resV P t),hall,hrs with
    | [r],[u],h,hrs=>exact results_one hrs h.1
    | [],[],h,hrs=>exact results_many hrs (by simp) h
    | r :: r' :: rs,u :: u' :: us,h,hrs=>exact results_many hrs (by simp) h
  have fin:bodyPost P fn (fun e w'=>∃ g,CPost w0 w' H olds V' F' L' pu e g) .ret a w:=by
    refine ⟨hin.slots.defers,v,hres,g,⟨by rw [hv],hin.st.base,?_,?_,fun f hf=>?_,fun k b o he=>?_,fun k l b o o' h1 h2=>?_,fun k y hy=>?_,hp⟩⟩
    · rw [gH];exact hNK.trans hK
    · rw [gH];exact hin.new
    · rw [gH]
      obtain ⟨k,hk⟩:=List.getElem?_of_mem hf
      have:=congrArg (fun l:List (Option FP)=>l[k]?) e6
      simp only [List.getElem?_map,hk,Option.map_some] at this
      cases hz:(fi.zip (F' g))[k]? with
      | none=>rw [hz] at this;cases this
      | some p =>
        rw [hz] at this
        rw [List.getElem?_zip_eq_some] at hz
        rw [hk] at hz
        obtain ⟨_,z2⟩:=hz
        simp only [Option.some.injEq] at z2
        simp only [Option.map_some,Option.some.injEq,Option.map_eq_some_iff] at this
        obtain ⟨x,hx,hxf⟩:=this
        rw [←z2] at hxf
        have hat:=hin.facts x (List.mem_of_getElem? hx)
        rw [←hxf]
        unfold matchF
        cases f.t
        · exact FP.drop_at hat hNK
        · exact hat
    · obtain ⟨h1,_⟩:=hents k b o he
      obtain ⟨b1,b2,b3⟩:=hin.st.ent _ b o h1
      refine ⟨b1,b2,?_⟩
      rw [gH]
      have:=b3 (hun N H) (by simp [fnEnv])
      unfold hun at this
      cases hN:N b with
      | none=>rfl
      | some o'=>rw [hN] at this;cases this
    · obtain ⟨a1,c1⟩:=hents k b o h1
      obtain ⟨a2,c2⟩:=hents l b o' h2
      have:=hin.st.dis _ _ b o o' a1 a2
      rw [this] at c1
      exact nodup_inj e7 c1 c2
    · obtain ⟨x,hx,hxy,_⟩:=hLk k y hy
      have hat:=hin.own _ x hx
      rw [gH,gE,hxy]
      cases y with
      | no=>trivial
      | blk b arr T=>exact hat
      | own t' q m r' hr =>
        cases t'
        · exact LE.drop_at hat hNK
        · exact hat
  cases S with
  | fin e =>
    cases e with
    | ret=>exact fin
    | normal=>exact fin
    | _=>cases e1
  | _=>cases e1
end

open Go
abbrev iv (n:Int):Value:=.int .i64 n
abbrev bv (b:Bool):Value:=.bool b
abbrev tv (s:ByteArray):Value:=.string s
def ca {α:Type} [Dat α] (x:α):Array Value:=(Dat.cells x).toArray
def ag {α:Type} [Dat α] (x:α):Value:=.agg (ca x)
abbrev pp (b off:Nat):Value:=.pointer (some ⟨b,off,none⟩)
theorem nm {α:Type _} {p:Prop} (e:α) (k:∀ x,x=e→p):p:=k e rfl
theorem nl {α : Type} {P : Prop} (x : List α) (h : ∀ y : List α, y = x → y.length = x.length → P) : P := h x rfl rfl
theorem kn {l:List Prop} {b:Prop} (h:Knw l) (e:conjL l=b):b:=e ▸ h.h
theorem kq {l : List Prop} {b : Prop} (h : Knw l) (e : conjL l = b := by kernel_rfl) : b := kn h e
theorem iQT {a b:Bool} {P Q:Prop} (h:a=true↔P) (k:b=true↔Q):(a == b)=true↔(P↔Q):=by rw [beq_iff_eq,Bool.eq_iff_iff,h,k]
theorem iQF {a b:Bool} {P Q:Prop} (h:a=true↔P) (k:b=true↔Q):(a == b)=false↔¬ (P↔Q):=by rw [←Bool.not_eq_true,iQT h k]
theorem iFT:false=true↔False:=by simp
theorem iFF:false=false↔True:=by simp
section
variable {P : Program} {E : Env P} {S : Stop} {t : St}
theorem set_get {L:List LE} {r k:Nat} {x y:LE} (hy:(L.set r x)[k]?=some y):(k=r∧y=x)∨(k≠r∧L[k]?=some y):=by
  by_cases e:r=k
  · subst e
    have:=(List.getElem?_eq_some_iff.1 hy).1
    rw [List.length_set] at this
    rw [List.getElem?_set_self this] at hy
    exact .inl ⟨rfl,(Option.some.inj hy).symm⟩
  · rw [List.getElem?_set_ne e] at hy;exact .inr ⟨fun h=>e h.symm,hy⟩
theorem V.on {α:Type} [Dat α] (r:Nat) (T:TypeId) (hr:t.L[r]?=some .no) (k:V E S ⟨t.sl,t.F,t.L.set r (os true T ([]:List α) {})⟩):V E S t:=fun N ε a w hin=>by
  let ε':Nat→Ent:=fun j=>if j=r then none else ε j
  have hne:∀ j,j≠r→ε' j=ε j:=fun j hj=>if_neg hj
  have her:ε' r=none:=if_pos rfl
  have hents:∀ (j b:Nat) (o:Obj),(ents (t.L.set r (os true T ([]:List α) {})) ε')[j]?=some (some (b,o))→(ents t.L ε)[j]?=some (some (b,o)):=fun j b o h=>by
    rw [ents_get,Option.map_eq_some_iff] at h
    obtain ⟨y,hy,he⟩:=h
    rcases set_get hy with ⟨rfl,rfl⟩ | ⟨hj,hy⟩
    · rw [her] at he;cases he
    · rw [ents_get,hy,← he,hne j hj];rfl
  refine k N ε' a w ⟨hin.slots,⟨hin.st.base,hin.st.agr,fun j b o h=>hin.st.ent j b o (hents j b o h),fun j j' b o o' h h'=>hin.st.dis j j' b o o' (hents _ _ _ h) (hents _ _ _ h')⟩,hin.new,hin.facts,fun j y hy=>?_⟩
  rcases set_get hy with ⟨rfl,rfl⟩ | ⟨hj,hy⟩
  · rw [her]
    show OSl T N ([]:List α) (.slice none 0 0) none
    exact OSl.nil
  · rw [hne j hj];exact hin.own j y hy
theorem V.frz {α:Type} [Dat α] (r:Nat) (b:Bool) (T:TypeId) (l:List α) (s:SV) (hr:(t.L[r]?,E.X)=(some (os b T l s),[])) (k:V E S ⟨t.sl,t.F ++[fs b l s],t.L.set r .no⟩):V E S t:=fun N ε a w hin=>by
  simp only [Prod.mk.injEq] at hr
  obtain ⟨hr,hX⟩:=hr
  have hown:=hin.own r _ hr
  have he:(ents t.L ε)[r]?=some (ε r):=by rw [ents_get,hr];rfl
  have hK:Agrees w (hun N E.H):=hin.st.agr _ (by simp)
  have hE:Agrees w (entH (ε r)):=entH_agrees fun b o hb=>(hin.st.ent r b o (by rw [he,hb])).1
  have s1:Sub N (hun (entH (ε r)) N):=hun_right' (U:=whole w) hE (hun_left.trans hK)
  have eK:hun (hun (entH (ε r)) N) E.H=hun (entH (ε r)) (hun N E.H):=hun_assoc _ _ _
  have s2:Sub (hun N E.H) (hun (hun (entH (ε r)) N) E.H):=by rw [eK];exact hun_right' (U:=whole w) hE hK
  have hents:∀ (j b:Nat) (o:Obj),(ents (t.L.set r .no) ε)[j]?=some (some (b,o))→j≠r∧(ents t.L ε)[j]?=some (some (b,o)):=fun j b o h=>by
    rw [ents_get,Option.map_eq_some_iff] at h
    obtain ⟨y,hy,he⟩:=h
    rcases set_get hy with ⟨rfl,rfl⟩ | ⟨hj,hy⟩
    · cases he
    · exact ⟨hj,by rw [ents_get,hy,← he];rfl⟩
  refine k (hun (entH (ε r)) N) ε a w ⟨hin.slots,⟨hin.st.base,fun K hk=>?_,fun j b o h=>?_,fun j j' b o o' h h'=>hin.st.dis j j' b o o' (hents _ _ _ h).2 (hents _ _ _ h').2⟩,fun b hb=>?_,fun f hf=>?_,fun j y hy=>?_⟩
  · have:K=hun (hun (entH (ε r)) N) E.H:=by simpa using hk
    subst this
    rw [eK];exact hun_agrees hE hK
  · obtain ⟨hj,h⟩:=hents j b o h
    obtain ⟨h1,h2,h3⟩:=hin.st.ent j b o h
    refine ⟨h1,h2,fun K hk=>?_⟩
    have:K=hun (hun (entH (ε r)) N) E.H:=by simpa using hk
    subst this
    rw [eK]
    have hn:entH (ε r) b=none:=by
      cases hh:entH (ε r) b with
      | none=>rfl
      | some o' =>
        exfalso
        unfold entH at hh
        cases hp:ε r with
        | none=>rw [hp] at hh;cases hh
        | some p =>
          rw [hp] at hh
          simp only at hh
          split at hh
          · rename_i hb;subst hb
            exact hj (hin.st.dis j r p.1 o p.2 h (by rw [he,hp]))
          · cases hh
    simp only [hun,hn]
    exact h3 (hun N E.H) (by simp)
  · cases hh:entH (ε r) b with
    | none =>
      simp only [hun,hh] at hb
      exact hin.new b hb
    | some o' =>
      unfold entH at hh
      cases hp:ε r with
      | none=>rw [hp] at hh;cases hh
      | some p =>
        rw [hp] at hh
        simp only at hh
        split at hh
        · rename_i hb';subst hb'
          rcases (hin.st.ent r p.1 p.2 (by rw [he,hp])).2.1 with h1 | h1
          · exact h1
          · rw [hX] at h1;cases h1
        · cases hh
  · rcases List.mem_append.1 hf with hf | hf
    · exact FP.mono (hin.facts f hf) s1 s2
    · have:f=fs b l s:=by simpa using hf
      subst this
      have key:∀ J J':Heaplet,Sub J J'→Sub (entH (ε r)) J'→OSl T J l s.v (ε r)→RSl J' l s.v:=fun J J' h1 h2 h=>h.frozen h1 h2
      unfold os ow LE.at at hown
      show bif b then RSl _ l _ else RSl _ l _
      cases b
      · exact key _ _ s2 (by rw [eK];exact hun_left) hown
      · exact key _ _ s1 hun_left hown
  · rcases set_get hy with ⟨rfl,rfl⟩ | ⟨hj,hy⟩
    · trivial
    · exact LE.mono (hin.own j y hy) s1 s2
end
def gf {α:Type} [Dat α] (b:Bool) (x:α):FP:=⟨b,fun H=>Dat.good H x,fun _ _ k h=>Dat.mono _ _ _ k h,Dat.q x,fun H h=>Dat.hq H x h⟩
theorem V.go {P:Program} {E:Env P} {S:Stop} {t:St} (hs:List (Hint P)) (hk:∀ N ε,(S,(cxOf E S t hs N ε).R.check E.nt,hs.length,lhsAll (cxOf E S t hs N ε) hs 0)=(.reg S.rid S.ops S.dr S.K,true,S.ops.size,rhsAll (cxOf E S t hs N ε) hs 0))
    (k:∀ N ε G,let S':=S.next;let t':=post (cxOf E S t hs N ε) G;V E S' t'):V E S t:=V.reg hs hk fun N ε G _=>k N ε G
theorem V.alt {P:Program} {E:Env P} {S:Stop} {t:St} {α:Type} (F:α→St) {a b:α} (h:a=b) (fi:List Nat) (hk:leSt fi t (F a)=leSt' (F a)) (k:V E S (F b)):V E S t:=by
  subst h;exact V.le fi hk k
theorem V.nilF {P:Program} {E:Env P} {S:Stop} {t:St} {α:Type} [Dat α] (k:V E S ⟨t.sl,t.F ++[fs true ([]:List α) {}],t.L⟩):V E S t:=fun N ε a w hin=>k N ε a w ⟨hin.slots,hin.st,hin.new,fun f hf=>by
  rcases List.mem_append.1 hf with hf | hf
  · exact hin.facts f hf
  · have:f=fs true ([]:List α) {}:=by simpa using hf
    subst this
    show RSl N ([]:List α) (.slice none 0 0)
    exact RSl.nil,hin.own⟩
theorem V.again {P:Program} {E:Env P} {S:Stop} {t:St} (n:Nat) (hk:S=.rndN S.x (n+1) S.K) (k:V E (norm 200 (.inl S.x) (.rndN S.x n :: S.K)) t):V E S t:=fun N ε a w hin=>by
  rw [hk]
  exact norm_sound 200 (.inl S.x) (.rndN S.x n :: S.K) a w (k N ε a w hin)
namespace Hint
variable {P : Program}
def mn (x y:Int):Hint P:=e g0 (.int .i64 (if y < x then y else x)) (.int .i64 (min x y)) fun _=>by rw [min_if]
def mx (x y:Int):Hint P:=e g0 (.int .i64 (if y > x then y else x)) (.int .i64 (max x y)) fun _=>by rw [max_if]
def a (t:Int) (lo: -9223372036854775808≤t) (hi:t≤9223372036854775807):Hint P:=ar t t rfl lo hi
def andn {g:Prop} (Γ:GdI g) (u:Bool) (b1 b2 b:Bool) (hb:b=(b1 && b2)):Hint P where
  d:={ val:=fun _=>.bool b }
  τ:=Option (Value × Value × Value) × Value × Option Bool
  lhs c i G _ _:=(c.R.pkr G i,c.R.val i (RC.put G i {}),Γ.B.map fun _=>c.R.gd G i)
  rhs _ _ _ _ _:=(some (.bool b1,(bif u then .bool b2 else bif (Γ.B.getD true && (b1 == true)) then .bool b2 else undef),.bool false),.bool b,Γ.B)
  sound c i ok hi h:=by
    subst hb
    exact (and Γ u b1 b2).sound c i ok hi h
def orn {g:Prop} (Γ:GdI g) (u:Bool) (b1 b2 b:Bool) (hb:b=(b1 || b2)):Hint P where
  d:={ val:=fun _=>.bool b }
  τ:=Option (Value × Value × Value) × Value × Option Bool
  lhs c i G _ _:=(c.R.pkr G i,c.R.val i (RC.put G i {}),Γ.B.map fun _=>c.R.gd G i)
  rhs _ _ _ _ _:=(some (.bool b1,.bool true,(bif u then .bool b2 else bif (Γ.B.getD true && (b1 == false)) then .bool b2 else undef)),.bool b,Γ.B)
  sound c i ok hi h:=by
    subst hb
    exact (or Γ u b1 b2).sound c i ok hi h
def sne (a b:ByteArray):Hint P:=e g0 (.bool (!(a.toList == b.toList))) (.bool (!(decide (a=b)))) fun _=>by rw [toList_bytes]
def aeq (neq:Bool) (t:TypeId) (xs ys:Array Value) (b:Bool) (he:∀ w,(Op.equal t (.agg xs) (.agg ys)).run P w=.ok b w):Hint P where
  d:={ val:=fun _=>.bool (bif neq then !b else b) }
  τ:=Option (Bool × TypeId × Value × Value) × Bool × Value
  lhs c i G _ _:=(c.R.bir G i,P.eqGuardType P.depth t,c.R.val i (RC.put G i {}))
  rhs _ _ _ _ _:=(some (neq,t,.agg xs,.agg ys),false,.bool (bif neq then !b else b))
  sound c i _ _ hi h:=fun o ho G w hs=>by
    have h0:=h G {} w
    simp only [Prod.mk.injEq] at h0
    obtain ⟨e1,e2,e3⟩:=h0
    refine Cx.still hi rfl (fun _=>⟨rfl,rfl⟩) ho ?_ e3
    unfold RC.bir at e1
    rw [ho] at e1
    obtain ⟨dst,op,type,pos,after,guard⟩:=o
    have he':∀ w,(Op.equalIn 10000 t (.agg xs) (.agg ys)).run P w=.ok b w:=he
    simp only [Option.map_some] at e1
    split at e1
    · rename_i t' x y ty heq
      simp only [Option.some.injEq] at heq
      subst heq
      simp only [Option.some.injEq,Prod.mk.injEq] at e1
      obtain ⟨rfl,rfl,hx,hy⟩:=e1
      simp [execOp,hx,hy,run_eqGuard_agg w .eql t' x y xs ys e2,run_eql_struct,he']
    · rename_i t' x y ty heq
      simp only [Option.some.injEq] at heq
      subst heq
      simp only [Option.some.injEq,Prod.mk.injEq] at e1
      obtain ⟨rfl,rfl,hx,hy⟩:=e1
      simp [execOp,hx,hy,run_eqGuard_agg w .neq t' x y xs ys e2,run_neq_struct,he']
    · cases e1
def isn (neq:Bool) (s:Gh→SV):Hint P where
  d:={ val:=fun G=>.bool (bif neq then !(s G).a.isNone else (s G).a.isNone) }
  τ:=Option (Bool × TypeId × Value × Value) × Bool × Value
  lhs c i G _ _:=(c.R.bir G i,((c.R.bir G i).bind fun p=>sliceOf P p.2.1).isSome,c.R.val i (RC.put G i {}))
  rhs c i G _ _:=(some (neq,((c.R.bir G i).elim 0 fun p=>p.2.1),(s G).v,.slice none 0 0),true,.bool (bif neq then !(s G).a.isNone else (s G).a.isNone))
  sound c i _ _ hi h:=fun o ho G w hs=>by
    have h0:=h G {} w
    simp only [Prod.mk.injEq] at h0
    obtain ⟨e1,e2,e3⟩:=h0
    refine Cx.still hi rfl (fun _=>⟨rfl,rfl⟩) ho ?_ e3
    rw [e1] at e2
    simp only [Option.bind_some] at e2
    obtain ⟨d,hd⟩:=Option.isSome_iff_exists.1 e2
    have hu:=slice_of hd
    generalize hT:((c.R.bir G i).elim 0 fun p=>p.2.1)=T at *
    unfold RC.bir at e1
    rw [ho] at e1
    obtain ⟨dst,op,type,pos,after,guard⟩:=o
    simp only [Option.map_some] at e1
    split at e1
    · rename_i t' x y ty heq
      simp only [Option.some.injEq] at heq
      subst heq
      simp only [Option.some.injEq,Prod.mk.injEq] at e1
      obtain ⟨rfl,rfl,hx,hy⟩:=e1
      simp [execOp,hx,hy,eqGuard,binOp,run_equal_slice_nil w t' d _ _ _ hu]
    · rename_i t' x y ty heq
      simp only [Option.some.injEq] at heq
      subst heq
      simp only [Option.some.injEq,Prod.mk.injEq] at e1
      obtain ⟨rfl,rfl,hx,hy⟩:=e1
      simp [execOp,hx,hy,eqGuard,binOp,run_equal_slice_nil w t' d _ _ _ hu]
    · cases e1
def cp {g:Prop} (Γ:GdI g) (n f:Nat) (qs:List Kv) {args:Gh→Array Value} {v:Gh→Value} (ct:g→∀ G,Cp P f (args G) (qs.map (Kv.fp G)) (v G)):Hint P :=
  call Γ n f false [] [] qs args (fun _=>[]) (fun G _=>v G) (fun _ _=>[]) (fun _ _=>[]) (fun _ _=>[]) ct
def ct {g:Prop} (Γ:GdI g) (n f:Nat) (ex:Bool) (rs ns:List Nat) (qs:List Kv) {args:Gh→Array Value} {L:Gh→List LE} {V:Gh→Rec→Value} {F':Gh→Rec→List FP} {L':Gh→Rec→List LE} {pu:Gh→Rec→List Prop}
    (h:g→∀ G,Ct P f (args G) (qs.map (Kv.fp G)) (L G) (V G) (F' G) (L' G) (pu G)):Hint P:=call Γ n f ex rs ns qs args L V F' L' pu h
end Hint

open Go Go.RowKit Go.WideShapes Go.ChangeShapes
theorem whole_agrees (w:World):Agrees w (whole w):=fun _ _ h=>h
theorem hcells_of {w:World} {a:Addr} {vs:List Value} (h0:vs≠[]) (h:∀ (j:Nat) (v:Value),vs[j]?=some v→w.cell? (a.add j)=some v):HCells (whole w) a vs:=by
  obtain ⟨v0,vs',rfl⟩:=List.exists_cons_of_ne_nil h0
  have h1:=h 0 v0 rfl
  have e0:a.add 0=a:=by simp [Addr.add]
  rw [e0] at h1
  have hs:=World.cell?_spot h1
  unfold World.cell? at h1
  split at h1
  · rename_i c T fr hb
    refine ⟨hs,c,T,fr,hb,fun j v hj=>?_⟩
    have h2:=h j v hj
    rw [add_eq hs] at h2
    simpa [World.cell?,hb] using h2
  · cases h1
structure Opens (P:Program) (w:World) (e:TypeId) (α:Type) [Dat α]:Prop where
  cells:P.cellsOf e=Dat.size α
  full:0 < Dat.size α
  data:∀ {H:Type} {enc:TypeId × Value→H} {base:Nat} {sp:Nat→Bool} {held:Bool} {n:Nat} {cs:List Value} {x:DataW H × List MemPlace},DataW.trod enc P w base sp held n e cs=some x→∃ y:α,cs=Dat.cells y∧Dat.good (whole w) y
section
variable {H : Type} {enc : TypeId × Value → H} {P : Program} {w : World} {base : Nat} {sp : Nat → Bool} {held : Bool}
theorem cells_get {a:Addr} {n:Nat} {cs:List Value} (h:w.cells? base a n=some cs):∀ (j:Nat) (v:Value),cs[j]?=some v→w.cell? (a.add j)=some v:=by
  intro j v hj
  unfold World.cells? at h
  split at h
  · have hl:=mapM_some_length h
    have hlt:=(List.getElem?_eq_some_iff.1 hj).1
    rw [hl,List.length_range] at hlt
    have:=mapM_some_get h j j (by simp [hlt])
    rw [this,hj]
  · cases h
theorem opens_slice {α:Type} [Dat α] {t e:TypeId} (ht:P.underlying t=some (.slice e)) (o:Opens P w e α) {fuel:Nat} {cs:List Value} {x:DataW H × List MemPlace} (h:DataW.trod enc P w base sp held fuel t cs=some x) :
    ∃ (l:List α) (s:SV),cs=[s.v]∧RSl (whole w) l s.v:=by
  rcases DataW.trod_slice ht h with ⟨rfl,_⟩ | ⟨a,len,cap,elems,rest,n,_,rfl,_,_,hl,hm,hlen,hel,_⟩
  · exact ⟨[],{},rfl,RSl.nil⟩
  · have each:∀ i,i < len→∃ y:α,w.cells? base (a.add (i * Dat.size α)) (Dat.size α)=some (Dat.cells y)∧Dat.good (whole w) y:=fun i hi=>by
      have h1:=hel i hi
      rw [o.cells,List.getElem?_eq_getElem (by omega),Option.bind_eq_some_iff] at h1
      obtain ⟨cs',h2,h3⟩:=h1
      obtain ⟨y,rfl,hg⟩:=o.data h3
      exact ⟨y,h2,hg⟩
    have ⟨f,hf⟩:∃ f:Nat→α,∀ i,i < len→w.cells? base (a.add (i * Dat.size α)) (Dat.size α)=some (Dat.cells (f i))∧Dat.good (whole w) (f i) :=
      ⟨fun i=>if hi:i < len then Classical.choose (each i hi) else default,fun i hi=>by simp only [dif_pos hi];exact Classical.choose_spec (each i hi)⟩
    refine ⟨(List.range len).map f,⟨some a,len,cap⟩,rfl,⟨⟨?_,?_,some a,cap,?_,?_,hm,?_,?_⟩,?_⟩⟩
    · intro r hr;simp [rows] at hr;obtain ⟨i,_,rfl⟩:=hr;exact Dat.len _
    · intro r hr;simp [rows] at hr;obtain ⟨i,hi,rfl⟩:=hr;exact Dat.one _ _ (hf i hi).2
    · simp [SV.v]
    · simpa using hl
    · intro h;cases h
    · intro b hb hne
      cases hb
      have hrl:∀ r ∈ rows ((List.range len).map f),r.length=Dat.size α:=by intro r hr;simp [rows] at hr;obtain ⟨i,_,rfl⟩:=hr;exact Dat.len _
      have h0:0 < len:=by
        rcases Nat.eq_zero_or_pos len with h | h
        · subst h;simp [rows] at hne
        · exact h
      have hfl:=flatten_len hrl
      simp only [rows_length,List.length_map,List.length_range] at hfl
      have hsz:=o.full
      have hspot:a.spot=none:=by
        have h1:=cells_get (hf 0 h0).1
        have h2:(Dat.cells (f 0)).length=Dat.size α:=Dat.len _
        have h3:=h1 0 _ (List.getElem?_eq_getElem (by omega))
        have:=World.cell?_spot h3
        simpa [Addr.add] using this
      refine hcells_of (fun e=>?_) fun j v hj=>?_
      · rw [e] at hfl
        have:=Nat.mul_pos h0 hsz
        simp at hfl;omega
      · have hj2:=(List.getElem?_eq_some_iff.1 hj).1
        rw [hfl] at hj2
        have hk:j / Dat.size α < len:=Nat.div_lt_of_lt_mul (by rwa [Nat.mul_comm])
        have hr:j % Dat.size α < Dat.size α:=Nat.mod_lt _ hsz
        have h2:(Dat.cells (f (j / Dat.size α))).length=Dat.size α:=Dat.len _
        have e1:(rows ((List.range len).map f))[j / Dat.size α]?=some (Dat.cells (f (j / Dat.size α))):=by simp [rows,hk]
        have e2:=List.getElem?_eq_getElem (l:=Dat.cells (f (j / Dat.size α))) (i:=j % Dat.size α) (by omega)
        have e3:=flatten_get hrl _ _ _ _ e1 e2
        have ej:j / Dat.size α * Dat.size α+j % Dat.size α=j:=by rw [Nat.mul_comm];exact Nat.div_add_mod j _
        rw [ej,hj] at e3
        have h4:=cells_get (hf _ hk).1 _ _ e2
        rw [←Option.some.inj e3] at h4
        rw [←h4,add_eq hspot,add_eq (a:=a.add _) (by rw [add_eq hspot]),add_eq hspot]
        simp only [Nat.add_assoc,ej]
    · intro y hy;simp at hy;obtain ⟨i,hi,rfl⟩:=hy;exact (hf i hi).2
theorem Opens.field {α:Type} [Dat α] {t:TypeId} {fs:Array Field} (ht:P.underlying t=some (.struct fs)) {fuel:Nat} {cs:List Value} {x:DataW H × List MemPlace} (h:DataW.trod enc P w base sp held fuel t cs=some x)
    (i:Nat) {f:Field} (hi:fs[i]?=some f) (o:Opens P w f.type α):∃ y:α,(cs.drop f.offset).take (Dat.size α)=Dat.cells y∧Dat.good (whole w) y:=by
  obtain ⟨xs,n,_,_,_,hx,hf⟩:=DataW.trod_struct ht h
  have h1:=hf i f hi
  have hlt:=(Array.getElem?_eq_some_iff.1 hi).1
  rw [List.getElem?_eq_getElem (by omega),o.cells] at h1
  exact o.data h1
theorem field_slice {α:Type} [Dat α] {t e:TypeId} {fs:Array Field} (ht:P.underlying t=some (.struct fs)) {fuel:Nat} {cs:List Value} {x:DataW H × List MemPlace} (h:DataW.trod enc P w base sp held fuel t cs=some x)
    (i:Nat) {f:Field} (hi:fs[i]?=some f) (hs:P.underlying f.type=some (.slice e)) (hc:P.cellsOf f.type=1) (o:Opens P w e α):∃ (l:List α) (s:SV),(cs.drop f.offset).take 1=[s.v]∧RSl (whole w) l s.v:=by
  obtain ⟨xs,n,_,_,_,hx,hf⟩:=DataW.trod_struct ht h
  have h1:=hf i f hi
  have hlt:=(Array.getElem?_eq_some_iff.1 hi).1
  rw [List.getElem?_eq_getElem (by omega),hc] at h1
  exact opens_slice hs o h1
theorem struct_len {t:TypeId} {fs:Array Field} (ht:P.underlying t=some (.struct fs)) {fuel:Nat} {cs:List Value} {x:DataW H × List MemPlace} (h:DataW.trod enc P w base sp held fuel t cs=some x):cs.length=P.cellsOf t:=by
  obtain ⟨xs,n,_,_,hl,_⟩:=DataW.trod_struct ht h
  exact hl
theorem arg_slice {α:Type} [Dat α] {r:Reach} {b0:Nat} {t e:TypeId} (ht:P.underlying t=some (.slice e)) (o:Opens P w e α) {v:Value} {d:DataW H} {ps:List MemPlace} (hv:Value.okWide P w r b0 t v) (h:DataW.Trod enc P w base sp held t v d ps) :
    ∃ (l:List α) (s:SV),v=s.v∧RSl (whole w) l s.v:=by
  obtain ⟨n,hn⟩:=h
  obtain ⟨a,len,cap,rfl⟩:=okWide_slice ht hv
  obtain ⟨l,u,h1,h2⟩:=opens_slice ht o hn
  exact ⟨l,u,by injection h1,h2⟩
theorem arg_int {r:Reach} {b0:Nat} {t:TypeId} {k:IntKind} (ht:P.underlying t=some (.int k)) {v:Value} {d:DataW H} {ps:List MemPlace} (hv:Value.okWide P w r b0 t v) (h:DataW.Trod enc P w base sp held t v d ps):∃ n,v=.int k n∧(Lit.int k n).wf=true:=by
  obtain ⟨n,hn⟩:=h
  obtain ⟨m,rfl⟩:=okWide_int ht hv
  obtain ⟨n,h1,_,h2⟩:=DataW.trod_int ht hn
  cases h1
  exact ⟨_,rfl,h2⟩
theorem arg_box {α:Type} [Dat α] {r:Reach} {b0:Nat} {t e:TypeId} {fs:Array Field} {f:Field} (ht:P.underlying t=some (.struct fs)) (h1c:P.cellsOf t=1) (hi:fs[0]?=some f) (h0:f.offset=0) (hs:P.underlying f.type=some (.slice e)) (hc:P.cellsOf f.type=1) (o:Opens P w e α)
    {v:Value} {d:DataW H} {ps:List MemPlace} (hv:Value.okWide P w r b0 t v) (h:DataW.Trod enc P w base sp held t v d ps) :
    ∃ (l:List α) (u:SV),v=.agg #[u.v]∧RSl (whole w) l u.v:=by
  obtain ⟨n,hn⟩:=h
  obtain ⟨cs,rfl,hl⟩:=okWide_struct ht hv
  obtain ⟨l,u,h1,h2⟩:=field_slice ht hn 0 hi hs hc o
  rw [h1c] at hl
  refine ⟨l,u,?_,h2⟩
  rw [h0] at h1
  cases cs with
  | mk cs =>
    simp at hl
    obtain ⟨c,rfl⟩:=List.length_eq_one_iff.1 hl
    simp [Value.cells] at h1
    rw [h1]
theorem keep_all (hl:laidOutB P=true) {W W':World} (hb:Below W.heap.size W W'):∀ {ts:List TypeId} {vs:List Value} {ds:List (DataW H)} {ps:List MemPlace},(ts.all fun t=>P.readableRec t && decide (t < P.types.size))=true →
    DataW.TrodAll enc P W 0 (fun _=>true) true ts vs ds ps→(∀ x ∈ ps,x.block < W.heap.size)→∀ sp':Nat→Bool,(∀ x ∈ ps,sp' x.block=true)→DataW.TrodAll enc P W' 0 sp' true ts vs ds ps
  | [],[],[],_,_,h,_,_,_=>h
  | t :: ts,_ :: _,_ :: _,_,ht,⟨p,q,h1,h2,e⟩,hlt,sp',hs=>by
    simp only [List.all_cons,Bool.and_eq_true,decide_eq_true_eq] at ht
    refine ⟨p,q,WideElems.Trod_stays hl ht.1.1 ht.1.2 h1 (fun x hx=>hb.same (hlt x (by rw [e];exact List.mem_append_left _ hx))) (fun x hx=>hs x (by rw [e];exact List.mem_append_left _ hx)),keep_all hl hb (by simpa using ht.2) h2 (fun x hx=>hlt x (by rw [e];exact List.mem_append_right _ hx)) sp' (fun x hx=>hs x (by rw [e];exact List.mem_append_right _ hx)),e⟩
theorem opens_fat {α:Type} [Dat α] {k e:TypeId} (ht:P.underlying k=some (.slice e)) (hc:P.cellsOf k=1) (o:Opens P w e α):Opens P w k (Fat α) :=
  ⟨hc,by show 0 < 1;decide,fun h=>by
    obtain ⟨l,s,rfl,hr⟩:=opens_slice ht o h
    exact ⟨⟨l,s⟩,rfl,hr⟩⟩
theorem Cp.law {P:Program} {f:FuncId} {args:Array Value} {F:List FP} {v:Value} (h:Cp P f args F v) (W:World) (hF:conjL (F.map fun q=>q.p (whole W))):Calls P f args W fun e w'=>e=.returned v∧Base [] W w':=by
  refine (h W (whole W) (fun _=>none) (whole_agrees W) (fun q hq=>conjL_mem hF _ (List.mem_map_of_mem hq)) ⟨Base.refl _ _,fun K hK=>?_,fun k b o hk=>?_,fun k l b o o' hk _=>?_⟩ fun r x hx=>?_).mono ?_
  · have:K=whole W:=by simpa using hK
    subst this;exact whole_agrees W
  · simp [ents] at hk
  · simp [ents] at hk
  · simp at hx
  · rintro e w' ⟨g,C⟩
    exact ⟨C.ret,C.base⟩
theorem opens_int {k:TypeId} (ht:P.underlying k=some (.int .i64)) (hc:P.cellsOf k=1):Opens P w k Int :=
  ⟨hc,by decide,fun h=>by obtain ⟨n,rfl,_,_⟩:=DataW.trod_int ht h;exact ⟨n,rfl,trivial⟩⟩
theorem opens_string {k:TypeId} (ht:P.underlying k=some .string) (hc:P.cellsOf k=1):Opens P w k ByteArray :=
  ⟨hc,by decide,fun h=>by obtain ⟨s,rfl,_,_⟩:=DataW.trod_string ht h;exact ⟨s,rfl,trivial⟩⟩
end

open Go
structure DThing where
  Text:ByteArray:=ByteArray.empty
  Value:Int:=0
  Blind:Int:=0
  Left:Int:=0
  Right:Int:=0
instance : Dat DThing where
  default := {}
  size := 5
  cells x := Dat.cells x.Text ++ Dat.cells x.Value ++ Dat.cells x.Blind ++ Dat.cells x.Left ++ Dat.cells x.Right
  good H x := True
  len _ := rfl
  one H x h u hu := by
    simp only [List.mem_append] at hu
    rcases hu with (((hu | hu) | hu) | hu) | hu
    · exact Dat.one H x.Text trivial u hu
    · exact Dat.one H x.Value trivial u hu
    · exact Dat.one H x.Blind trivial u hu
    · exact Dat.one H x.Left trivial u hu
    · exact Dat.one H x.Right trivial u hu
  mono _ _ _ _ h := h
  zero _ := trivial
structure DVault where
  Things:Fat DThing:={}
instance : Dat DVault where
  default := {}
  size := 1
  cells x := Dat.cells x.Things
  good H x := Dat.good H x.Things
  len _ := rfl
  one H x h u hu := by
    exact Dat.one H x.Things h u hu
  q x := Dat.q x.Things
  hq H x h := Dat.hq H _ h
  mono _ _ _ k h := Dat.mono _ _ _ k h
  zero H := Dat.zero H
structure Dbuilder where
  Vault:DVault:=default
instance : Dat Dbuilder where
  default := {}
  size := 1
  cells x := Dat.cells x.Vault
  good H x := Dat.good H x.Vault
  len x := by simp [Dat.len]; rfl
  one H x h u hu := by
    exact Dat.one H x.Vault h u hu
  q x := Dat.q x.Vault
  hq H x h := Dat.hq H _ h
  mono _ _ _ k h := Dat.mono _ _ _ k h
  zero H := Dat.zero H

open Go Go.Proofs
theorem opens_41 (w:World):Opens Try.prog w 41 DThing:=⟨by kernel_rfl,by decide,fun {_ _ _ _ _ _ cs _} h=>by
  have hl:cs.length=5:=(struct_len Try.underlying41 h).trans (by kernel_rfl)
  obtain ⟨y0,e0,g0⟩:=Opens.field Try.underlying41 h 0 rfl (Kb.opens_string Try.underlying9 (by kernel_rfl))
  obtain ⟨y1,e1,g1⟩:=Opens.field Try.underlying41 h 1 rfl (Kb.opens_int Try.underlying3 (by kernel_rfl))
  obtain ⟨y2,e2,g2⟩:=Opens.field Try.underlying41 h 2 rfl (Kb.opens_int Try.underlying3 (by kernel_rfl))
  obtain ⟨y3,e3,g3⟩:=Opens.field Try.underlying41 h 3 rfl (Kb.opens_int Try.underlying3 (by kernel_rfl))
  obtain ⟨y4,e4,g4⟩:=Opens.field Try.underlying41 h 4 rfl (Kb.opens_int Try.underlying3 (by kernel_rfl))
  obtain ⟨c0,c1,c2,c3,c4,rfl⟩:∃ c0 c1 c2 c3 c4,cs=[c0,c1,c2,c3,c4]:=by
    rcases cs with _ | ⟨c0,_ | ⟨c1,_ | ⟨c2,_ | ⟨c3,_ | ⟨c4,_ | ⟨_,_⟩⟩⟩⟩⟩⟩
    all_goals first | exact ⟨_,_,_,_,_,rfl⟩ | (simp at hl;done) | (simp at hl;omega)
  simp [Dat.cells,Dat.size] at e0 e1 e2 e3 e4
  refine ⟨⟨y0,y1,y2,y3,y4⟩,?_,trivial⟩
  simp [Dat.cells,e0,e1,e2,e3,e4]⟩

open Go Go.RowKit Go.WideShapes Go.ChangeShapes
section
variable {H : Type} {enc : TypeId × Value → H} {P : Program}
theorem law_post {f:Func} {s:ChangeSpec} {apart fresh handsOn again:Bool} {W W':World} {args:Array Value} {v:Value} {ds gs:List (DataW H)} {before pa pv:List MemPlace}
    (hW:DataW.Whole enc P f.params.toList s.vars apart W args.toList ds gs before)
    (hres:∀ (b:Nat) (sp:Nat→Bool) (hd:Bool),DataW.TrodAll enc P W' b sp hd f.resultTypes.toList (v.resultList f.resultTypes.size) (s.fn H (ds ++gs)).results [])
    (hargs:∀ sp:Nat→Bool,(∀ p ∈ before,sp p.block=true)→DataW.TrodAll enc P W' 0 sp true f.params.toList args.toList (s.fn H (ds ++gs)).args pa)
    (hvars:∀ sp:Nat→Bool,(∀ p ∈ before,sp p.block=true)→DataW.TrodVars enc P W' sp s.vars (s.fn H (ds ++gs)).vars pv)
    (hps:before=pa ++pv) (hb:Base [] W W')
    (hok:∀ (j:Nat) (t:TypeId) (r:Value),f.resultTypes[j]?=some t→(v.resultList f.resultTypes.size)[j]?=some r→Value.okWide P W' .any 0 t r) :
    s.post enc P f apart fresh handsOn again W args v W':=by
  have low:∀ p ∈ before,p.block < W.heap.size:=fun p hp=>hW.lt p hp
  have mark:∀ p ∈ before,(fun b=>decide (b < W.heap.size)) p.block=true:=fun p hp=>decide_eq_true (low p hp)
  have back:=hb.below
  refine ⟨ds,gs,before,[],pa,pv,hW,hres _ _ _,hargs _ mark,hvars _ mark,World.keptBut_mono (fun p hp=>⟨hp,by rw [hps,List.mem_append] at hp;exact Or.inr hp⟩) (back.frame (· ∈ before)),fun _=>?_⟩
  obtain ⟨_,_,_,_,_,hz,hn⟩:=hW
  refine ⟨hok,_,_,([] ++pa) ++pv,⟨[] ++pa,pv,trodAll_append (hargs _ fun _ _=>rfl) (hres _ _ _),hvars _ fun _ _=>rfl,rfl,fun b off hp=>?_,fun ha=>?_⟩,fun p hp _=>?_⟩
  · have hin:MemPlace.cell b off ∈ before:=by rw [hps];simpa using hp
    rw [back.frozen (low _ hin)]
    exact hz b off hin
  · have:=hn ha
    rw [hps] at this;simpa using this
  · rw [hps];simpa using hp
end

namespace Tm
def isLeaf (x:DThing):Prop:=x.Left= -1∧x.Right= -1∧(x.Text.size:Int)≤8000∧0≤x.Value∧x.Value≤1099511627776∧0≤x.Blind∧x.Blind≤1099511627776
instance (x : DThing) : Decidable (isLeaf x) := by unfold isLeaf; infer_instance
def el (l:List DThing) (k:Int):DThing:=l.getD k.toNat default
def has (l:List DThing) (k:Int):Prop:=0≤k∧k < l.length
instance (l : List DThing) (k : Int) : Decidable (has l k) := by unfold has; infer_instance
def pairX (l:List DThing) (a b:Int):DThing:={ Value:=(el l a).Value+(el l b).Value,Blind:=(el l a).Blind+(el l b).Blind,Left:=a,Right:=b }
def pairE (l:List DThing) (a b:Int):Int:=if ¬ (has l a∧has l b) then 4 else if 1125899906842624 < (pairX l a b).Value∨1125899906842624 < (pairX l a b).Blind then 3 else 0
def pairT (l:List DThing) (a b:Int):DThing:=if pairE l a b=0 then pairX l a b else {}
def okT (l:List DThing) (x:DThing):Prop:=isLeaf x∨(pairE l x.Left x.Right=0∧x=pairX l x.Left x.Right)
theorem thing_ext (x y:DThing):x=y↔x.Text=y.Text∧x.Value=y.Value∧x.Blind=y.Blind∧x.Left=y.Left∧x.Right=y.Right:=by
  cases x;cases y;simp
instance : DecidableEq DThing := fun x y => decidable_of_iff _ (thing_ext x y).symm
instance (l : List DThing) (x : DThing) : Decidable (okT l x) := by unfold okT; infer_instance
theorem pairE_no {l:List DThing} {a b:Int} (h:¬ (has l a∧has l b)):pairE l a b=4:=by unfold pairE;rw [if_pos h]
theorem pairE_big {l:List DThing} {a b:Int} {x y:DThing} (hx:x=l.getD a.toNat default) (hy:y=l.getD b.toNat default) (h:has l a∧has l b) (hb:1125899906842624 < x.Value+y.Value∨1125899906842624 < x.Blind+y.Blind):pairE l a b=3:=by
  subst hx hy
  unfold pairE;rw [if_neg (by simpa using h)];exact if_pos hb
theorem pairE_ok {l:List DThing} {a b:Int} {x y:DThing} (hx:x=l.getD a.toNat default) (hy:y=l.getD b.toNat default) (h:has l a∧has l b) (hb:¬ (1125899906842624 < x.Value+y.Value∨1125899906842624 < x.Blind+y.Blind)):pairE l a b=0:=by
  subst hx hy
  unfold pairE;rw [if_neg (by simpa using h)];exact if_neg hb
theorem pairT_no {l:List DThing} {a b:Int} (h:pairE l a b≠0):pairT l a b={}:=by unfold pairT;rw [if_neg h]
theorem pairT_ok {l:List DThing} {a b v w:Int} {x y:DThing} (hx:x=l.getD a.toNat default) (hy:y=l.getD b.toNat default) (h:pairE l a b=0) (hv:v=x.Value+y.Value) (hw:w=x.Blind+y.Blind):pairT l a b=⟨ByteArray.empty,v,w,a,b⟩:=by
  subst hx hy hv hw
  unfold pairT;rw [if_pos h];rfl
def Bd (x:DThing):Prop:=0≤x.Value∧x.Value≤1125899906842624∧0≤x.Blind∧x.Blind≤1125899906842624
def okTo (l:List DThing) (n:Nat):Prop:=∀ i,i < n→okT (l.take i) (l.getD i default)
instance (l : List DThing) (n : Nat) : Decidable (okTo l n) := by unfold okTo; infer_instance
def Sound (l:List DThing):Prop:=l.length≤2000∧okTo l l.length
instance (l : List DThing) : Decidable (Sound l) := by unfold Sound; infer_instance
theorem el_take {l:List DThing} {i:Nat} {k:Int} (h0:0≤k) (h:k < i):el (l.take i) k=el l k:=by
  unfold el
  simp only [List.getD_eq_getElem?_getD,List.getElem?_take]
  rw [if_pos (by omega)]
theorem has_take {l:List DThing} {i:Nat} (hi:i≤l.length) {k:Int}:has (l.take i) k↔0≤k∧k < i:=by
  unfold has;simp;omega
theorem bd_of {l:List DThing} {n:Nat} (h:okTo l n) (hn:n≤l.length):∀ i,i < n→Bd (l.getD i default):=by
  intro i
  induction i using Nat.strongRecOn with
  | _ i ih =>
    intro hi
    rcases h i hi with h1 | ⟨h1,h2⟩
    · unfold isLeaf at h1;unfold Bd;omega
    · have hhas:has (l.take i) (l.getD i default).Left∧has (l.take i) (l.getD i default).Right:=by
        unfold pairE at h1
        split at h1
        · omega
        · rename_i hh;exact Decidable.not_not.1 hh
      have hle:¬ (1125899906842624 < (pairX (l.take i) (l.getD i default).Left (l.getD i default).Right).Value∨1125899906842624 < (pairX (l.take i) (l.getD i default).Left (l.getD i default).Right).Blind):=by
        unfold pairE at h1
        rw [if_neg (by simpa using hhas)] at h1
        split at h1
        · omega
        · assumption
      rw [←h2] at hle
      rw [has_take (by omega),has_take (by omega)] at hhas
      obtain ⟨⟨a1,a2⟩,b1,b2⟩:=hhas
      have ea:=el_take (l:=l) a1 a2
      have eb:=el_take (l:=l) b1 b2
      have ba:=ih (l.getD i default).Left.toNat (by omega) (by omega)
      have bb:=ih (l.getD i default).Right.toNat (by omega) (by omega)
      have hv:(l.getD i default).Value=(el l (l.getD i default).Left).Value+(el l (l.getD i default).Right).Value:=by
        rw [←ea,← eb];exact congrArg DThing.Value h2
      have hb:(l.getD i default).Blind=(el l (l.getD i default).Left).Blind+(el l (l.getD i default).Right).Blind:=by
        rw [←ea,← eb];exact congrArg DThing.Blind h2
      unfold Bd at *
      unfold el at hv hb
      omega
theorem bd_take {l:List DThing} {n:Nat} (h:okTo l n) (hn:n≤l.length):∀ x ∈ l.take n,Bd x:=by
  intro x hx
  obtain ⟨i,hi,rfl⟩:=List.mem_iff_getElem.1 hx
  have hi':i < n:=by simp at hi;omega
  have:=bd_of h hn i hi'
  have hl:i < l.length:=by omega
  simpa [hl] using this
theorem okTo_succ {l:List DThing} {n:Nat} (h:okTo l n) (h2:okT (l.take n) (l.getD n default)):okTo l (n+1):=fun i hi=>by
  by_cases e:i=n
  · subst e;exact h2
  · exact h i (by omega)
theorem okT_iff {l:List DThing} {x:DThing}:okT l x↔isLeaf x∨(pairE l x.Left x.Right=0∧x.Text=(pairT l x.Left x.Right).Text∧x.Value=(pairT l x.Left x.Right).Value∧x.Blind=(pairT l x.Left x.Right).Blind∧x.Left=(pairT l x.Left x.Right).Left∧x.Right=(pairT l x.Left x.Right).Right):=by
  unfold okT
  refine or_congr Iff.rfl ⟨fun ⟨h1,h2⟩=>⟨h1,?_⟩,fun ⟨h1,h2⟩=>⟨h1,?_⟩⟩
  · unfold pairT;rw [if_pos h1];exact (thing_ext _ _).1 h2
  · unfold pairT at h2;rw [if_pos h1] at h2;exact (thing_ext _ _).2 h2
theorem sound_len {l:List DThing} (h:(2000:Int) < l.length):false=decide (Sound l):=by
  symm;rw [decide_eq_false_iff_not];intro hs;have:=hs.1;omega
theorem sound_step {l:List DThing} {k k':Int} {x:DThing} (h:okTo l k.toNat) (h0:0≤k) (hx:x=l.getD k.toNat default) (hk:k'=k+1) (ho:okT (l.take k.toNat) x):okTo l k'.toNat:=by
  subst hk hx
  rw [show (k+1).toNat=k.toNat+1 by omega]
  exact okTo_succ h ho
theorem sound_no {l:List DThing} {k:Int} {x:DThing} (h0:0≤k) (hk:k < l.length) (hx:x=l.getD k.toNat default) (h1:¬ isLeaf x)
    (h2:¬ (pairE (l.take k.toNat) x.Left x.Right=0)∨¬ (x.Text=(pairT (l.take k.toNat) x.Left x.Right).Text∧x.Value=(pairT (l.take k.toNat) x.Left x.Right).Value∧x.Blind=(pairT (l.take k.toNat) x.Left x.Right).Blind∧x.Left=(pairT (l.take k.toNat) x.Left x.Right).Left∧x.Right=(pairT (l.take k.toNat) x.Left x.Right).Right)):false=decide (Sound l):=by
  symm;rw [decide_eq_false_iff_not];intro hs
  have:=hs.2 k.toNat (by omega)
  rw [←hx,okT_iff] at this
  rcases this with h | ⟨h,h'⟩
  · exact h1 h
  · rcases h2 with h2 | h2
    · exact h2 h
    · exact h2 h'
theorem sound_yes {l:List DThing} {k n:Int} (h:okTo l k.toNat) (h0:0≤k) (hn:n=l.length) (hk:k≤n) (hk2:¬ k < n) (hl:¬ 2000 < n):true=decide (Sound l):=by
  symm;rw [decide_eq_true_iff]
  refine ⟨by omega,?_⟩
  rwa [show l.length=k.toNat by omega]
end Tm

namespace Tm
def opensP (l:List DThing) (i:Int) (text:ByteArray) (value blind:Int):Prop:=Sound l∧has l i∧(el l i).Text=text∧(el l i).Value=value∧(el l i).Blind=blind
instance (l : List DThing) (i : Int) (text : ByteArray) (value blind : Int) : Decidable (opensP l i text value blind) := by unfold opensP; infer_instance
def pe (p:List Int) (i:Nat):Int:=p.getD i 0
def stepOK (l:List DThing) (p:List Int) (i:Nat):Prop:=has l (pe p i)∧(0 < i→(el l (pe p (i - 1))).Left=pe p i∨(el l (pe p (i - 1))).Right=pe p i)
instance (l : List DThing) (p : List Int) (i : Nat) : Decidable (stepOK l p i) := by unfold stepOK; infer_instance
def walksTo (l:List DThing) (p:List Int) (n:Nat):Prop:=∀ i,i < n→stepOK l p i
instance (l : List DThing) (p : List Int) (n : Nat) : Decidable (walksTo l p n) := by unfold walksTo; infer_instance
def Walks (l:List DThing) (p:List Int):Prop:=Sound l∧p.length≠0∧walksTo l p p.length
instance (l : List DThing) (p : List Int) : Decidable (Walks l p) := by unfold Walks; infer_instance
def lastI (p:List Int):Int:=pe p (p.length - 1)
def checkP (l:List DThing) (p:List Int) (total blind:Int) (text:ByteArray) (value own:Int):Prop :=
  Walks l p∧(el l (pe p 0)).Value=total∧(el l (pe p 0)).Blind=blind∧(el l (lastI p)).Left= -1∧opensP l (lastI p) text value own
instance (l : List DThing) (p : List Int) (total blind : Int) (text : ByteArray) (value own : Int) : Decidable (checkP l p total blind text value own) := by unfold checkP; infer_instance
def viewEl (l:List DThing) (p:List Int) (i:Nat):DThing :=
  if 0 < i∧i+1 < p.length then { el l (pe p i) with Value:= -1,Blind:= -1 } else el l (pe p i)
def viewN (l:List DThing) (p:List Int) (n:Nat):List DThing:=(List.range n).map (viewEl l p)
def viewF (l:List DThing) (p:List Int):List DThing:=if Walks l p then viewN l p p.length else []
theorem walks_no_has {l:List DThing} {p:List Int} {k a:Int} (h0:0≤k) (hk:k < p.length) (ha:a=p.getD k.toNat default) (h:¬ (0≤a∧a < l.length)):false=decide (Walks l p):=by
  symm;rw [decide_eq_false_iff_not];rintro ⟨_,_,hw⟩
  have:=(hw k.toNat (by omega)).1
  unfold has at this
  rw [show pe p k.toNat=a from ha.symm] at this
  exact h this
theorem walks_no_step {l:List DThing} {p:List Int} {k a b c:Int} {x:DThing} (h0:0 < k) (hk:k < p.length) (ha:a=p.getD k.toNat default) (hc:c=k - 1) (hb:b=p.getD c.toNat default) (hx:x=l.getD b.toNat default) (h:¬ x.Left=a∧¬ x.Right=a):false=decide (Walks l p):=by
  subst hc
  symm;rw [decide_eq_false_iff_not];rintro ⟨_,_,hw⟩
  have:=(hw k.toNat (by omega)).2 (by omega)
  rw [show k.toNat - 1=(k - 1).toNat by omega] at this
  rw [show pe p k.toNat=a from ha.symm,show pe p (k - 1).toNat=b from hb.symm,show el l b=x from hx.symm] at this
  rcases this with e | e
  · exact h.1 e
  · exact h.2 e
theorem walks_step {l:List DThing} {p:List Int} {k k' a:Int} (hw:walksTo l p k.toNat) (h0:0≤k) (hk':k'=k+1) (ha:a=p.getD k.toNat default) (hh:0≤a∧a < l.length)
    (h:0 < k→∃ c b x,c=k - 1∧b=p.getD c.toNat default∧x=l.getD b.toNat default∧(x.Left=a∨x.Right=a)):walksTo l p k'.toNat:=by
  subst hk'
  intro i hi
  by_cases e:i=k.toNat
  · subst e
    refine ⟨?_,fun hp=>?_⟩
    · rw [show pe p k.toNat=a from ha.symm];exact hh
    · obtain ⟨c,b,x,rfl,hb,hx,h⟩:=h (by omega)
      rw [show k.toNat - 1=(k - 1).toNat by omega]
      rw [show pe p k.toNat=a from ha.symm,show pe p (k - 1).toNat=b from hb.symm,show el l b=x from hx.symm]
      exact h
  · exact hw i (by omega)
theorem walks_prev {l:List DThing} {p:List Int} {k a b:Int} (hw:walksTo l p k.toNat) (h0:0 < k) (ha:a=k - 1) (hb:b=p.getD a.toNat default):0≤b∧b < l.length:=by
  subst ha
  have:=(hw (k - 1).toNat (by omega)).1
  rw [show pe p (k - 1).toNat=b from hb.symm] at this
  exact this
theorem walks_has {l:List DThing} {p:List Int} (hw:Walks l p) {k:Int} (h0:0≤k) (hk:k < p.length) {a:Int} (ha:a=p.getD k.toNat default):0≤a∧a < l.length:=by
  have:=(hw.2.2 k.toNat (by omega)).1
  rw [show pe p k.toNat=a from ha.symm] at this
  exact this
theorem sound_cases {l:List DThing} (h:Sound l) {k:Nat} (hk:k < l.length):isLeaf (l.getD k default) ∨
    (0≤(l.getD k default).Left∧(l.getD k default).Left < k∧0≤(l.getD k default).Right∧(l.getD k default).Right < k∧(l.getD k default).Text=ByteArray.empty ∧
      (l.getD k default).Value=(el l (l.getD k default).Left).Value+(el l (l.getD k default).Right).Value∧(l.getD k default).Blind=(el l (l.getD k default).Left).Blind+(el l (l.getD k default).Right).Blind):=by
  rcases h.2 k hk with h1 | ⟨h1,h2⟩
  · exact .inl h1
  · right
    have hh:has (l.take k) (l.getD k default).Left∧has (l.take k) (l.getD k default).Right:=by
      unfold pairE at h1
      split at h1
      · omega
      · rename_i hh;exact Decidable.not_not.1 hh
    rw [has_take (by omega),has_take (by omega)] at hh
    obtain ⟨⟨a1,a2⟩,b1,b2⟩:=hh
    refine ⟨a1,a2,b1,b2,?_,?_,?_⟩
    · exact congrArg DThing.Text h2
    · rw [←el_take (l:=l) a1 a2,← el_take (l:=l) b1 b2];exact congrArg DThing.Value h2
    · rw [←el_take (l:=l) a1 a2,← el_take (l:=l) b1 b2];exact congrArg DThing.Blind h2
theorem sound_pair {l:List DThing} (h:Sound l) {k:Int} (h0:0≤k) (hk:k < l.length) {x:DThing} (hx:x=l.getD k.toNat default) (hl:¬ x.Left= -1):0≤x.Left∧x.Left < k∧0≤x.Right∧x.Right < k:=by
  subst hx
  rcases sound_cases h (k:=k.toNat) (by omega) with h1 | h1
  · exact absurd h1.1 hl
  · omega
theorem leafy_iff {l:List DThing} (h:Sound l) {k:Int} (h0:0≤k) (hk:k < l.length) {x:DThing} (hx:x=l.getD k.toNat default):(x.Left= -1∧x.Right= -1)↔x.Left= -1:=by
  subst hx
  rcases sound_cases h (k:=k.toNat) (by omega) with h1 | h1
  · unfold isLeaf at h1;omega
  · omega
def nearB (l:List DThing) (leaf:Int) (before:List Bool):Bool :=
  if (before.length:Int) < leaf then false else if (before.length:Int)=leaf then true
  else !decide ((l.getD before.length default).Left= -1) && (before.getD (l.getD before.length default).Left.toNat false || before.getD (l.getD before.length default).Right.toNat false)
def reachN (l:List DThing) (leaf:Int):Nat→List Bool
  | 0=>[]
  | n+1=>reachN l leaf n ++[nearB l leaf (reachN l leaf n)]
@[simp] theorem reachN_length (l:List DThing) (leaf:Int):∀ n,(reachN l leaf n).length=n
  | 0=>rfl
  | n+1=>by simp [reachN,reachN_length l leaf n]
theorem reachN_get {l:List DThing} {leaf:Int} {i:Nat}:∀ {n m:Nat},i < n→n≤m→(reachN l leaf m).getD i false=(reachN l leaf n).getD i false
  | n,0,h,h2=>by omega
  | n,m+1,h,h2=>by
    by_cases e:n=m+1
    · rw [e]
    · rw [reachN,List.getD_eq_getElem?_getD,List.getElem?_append_left (by simp;omega),← List.getD_eq_getElem?_getD]
      exact reachN_get h (by omega)
def near (l:List DThing) (leaf i:Int):Bool:=(reachN l leaf l.length).getD i.toNat false
theorem near_eq {l:List DThing} {leaf i:Int} (h0:0≤i) (hi:i < l.length):near l leaf i=nearB l leaf (reachN l leaf i.toNat):=by
  unfold near
  rw [reachN_get (n:=i.toNat+1) (by omega) (by omega),reachN]
  simp
theorem near_lt {l:List DThing} {leaf i:Int} (h0:0≤i) (hi:i < l.length) (h:i < leaf):near l leaf i=false:=by
  rw [near_eq h0 hi];unfold nearB;rw [if_pos (by simp;omega)]
theorem near_self {l:List DThing} {leaf:Int} (h0:0≤leaf) (hi:leaf < l.length):near l leaf leaf=true:=by
  rw [near_eq h0 hi];unfold nearB;rw [if_neg (by simp;omega),if_pos (by simp;omega)]
theorem near_up {l:List DThing} (hS:Sound l) {leaf i:Int} (hl:0≤leaf) (h:leaf < i) (hi:i < l.length):near l leaf i=(!decide ((el l i).Left= -1) && (near l leaf (el l i).Left || near l leaf (el l i).Right)):=by
  rw [near_eq (by omega) hi];unfold nearB
  rw [if_neg (by simp;omega),if_neg (by simp;omega)]
  simp only [reachN_length]
  have e:l.getD i.toNat default=el l i:=rfl
  rw [e]
  by_cases hq:(el l i).Left= -1
  · simp [hq]
  · have hp:=sound_pair hS (by omega) hi (x:=el l i) rfl hq
    have a:=reachN_get (l:=l) (leaf:=leaf) (i:=(el l i).Left.toNat) (n:=i.toNat) (m:=l.length) (by omega) (by omega)
    have b:=reachN_get (l:=l) (leaf:=leaf) (i:=(el l i).Right.toNat) (n:=i.toNat) (m:=l.length) (by omega) (by omega)
    unfold near
    rw [a,b]
def reachF (l:List DThing) (leaf:Int):List Bool:=reachN l leaf l.length
def reachW (l:List DThing) (leaf:Int) (k:Nat):List Bool:=reachN l leaf k ++List.replicate (l.length - k) false
theorem reachN_low {l:List DThing} {leaf:Int}:∀ n:Nat,(n:Int)≤leaf→reachN l leaf n=List.replicate n false
  | 0,_=>rfl
  | n+1,h=>by
    rw [reachN,reachN_low n (by omega)]
    have:nearB l leaf (List.replicate n false)=false:=by unfold nearB;rw [if_pos (by simp;omega)]
    rw [this,← List.replicate_succ']
theorem reachW_start {l:List DThing} {leaf:Int} (h0:0≤leaf) (h:leaf < l.length):(List.replicate l.length false).set leaf.toNat true=reachW l leaf (leaf+1).toNat:=by
  have e:(leaf+1).toNat=leaf.toNat+1:=by omega
  unfold reachW
  rw [e,reachN,reachN_low leaf.toNat (by omega)]
  have:nearB l leaf (List.replicate leaf.toNat false)=true:=by unfold nearB;rw [if_neg (by simp;omega),if_pos (by simp;omega)]
  rw [this]
  have hs:List.replicate l.length false=List.replicate leaf.toNat false ++(false :: List.replicate (l.length - (leaf.toNat+1)) false):=by
    rw [←List.replicate_succ,List.replicate_append_replicate];congr 1;omega
  rw [hs,List.set_append_right _ _ (by simp)]
  simp
theorem reachW_get {l:List DThing} {leaf:Int} {k:Nat} {i:Int} (h0:0≤i) (hi:i < k) (hk:k≤l.length):(reachW l leaf k).getD i.toNat false=near l leaf i:=by
  unfold reachW near
  rw [List.getD_eq_getElem?_getD,List.getElem?_append_left (by simp;omega),← List.getD_eq_getElem?_getD]
  exact (reachN_get (by omega) hk).symm
theorem reachW_step {l:List DThing} {leaf k:Int} {b:Bool} (h0:0≤k) (hk:k < l.length) (hb:b=near l leaf k):(reachW l leaf k.toNat).set k.toNat b=reachW l leaf (k+1).toNat:=by
  unfold reachW
  rw [show (k+1).toNat=k.toNat+1 by omega,reachN]
  rw [List.set_append_right _ _ (by simp)]
  simp only [reachN_length,Nat.sub_self]
  rw [show l.length - k.toNat=(l.length - (k.toNat+1))+1 by omega,List.replicate_succ,List.set_cons_zero,hb,near_eq h0 hk]
  simp
theorem reachW_end {l:List DThing} {leaf k:Int} (hk:k=l.length):reachW l leaf k.toNat=reachF l leaf:=by
  unfold reachW reachF
  subst hk;simp
theorem reachW_length {l:List DThing} {leaf:Int} {k:Nat} (h:k≤l.length):(reachW l leaf k).length=l.length:=by
  simp [reachW];omega
theorem reach_round {l:List DThing} {leaf k k':Int} {x:DThing} {out:List Bool} {p:Bool} (hS:Sound l) (h0:0≤leaf) (hk:leaf < k) (hk2:k < l.length) (hx:x=l.getD k.toNat default) (ho:out=reachW l leaf k.toNat)
    (hp:p=((!decide (x.Left= -1)) && (out.getD x.Left.toNat default || out.getD x.Right.toNat default))) (hk':k'=k+1):out.set k.toNat p=reachW l leaf k'.toNat:=by
  subst ho hk'
  refine reachW_step (by omega) hk2 ?_
  rw [near_up hS h0 hk hk2,hp]
  have e:el l k=x:=hx.symm
  rw [e]
  by_cases hq:x.Left= -1
  · simp [hq]
  · have hs:=sound_pair hS (by omega) hk2 hx hq
    have a:(reachW l leaf k.toNat).getD x.Left.toNat default=near l leaf x.Left:=reachW_get (by omega) (by omega) (by omega)
    have b:(reachW l leaf k.toNat).getD x.Right.toNat default=near l leaf x.Right:=reachW_get (by omega) (by omega) (by omega)
    rw [a,b]
def nxt (l:List DThing) (leaf i:Int):Int:=if near l leaf (min (el l i).Left (el l i).Right)=true then min (el l i).Left (el l i).Right else max (el l i).Left (el l i).Right
def pathN (l:List DThing) (leaf:Int):Nat→Int→List Int
  | 0,i=>[i]
  | n+1,i=>if i=leaf then [i] else i :: pathN l leaf n (nxt l leaf i)
def pathF (l:List DThing) (root leaf:Int):List Int:=if Sound l∧has l root∧has l leaf∧near l leaf root=true then pathN l leaf root.toNat root else []
theorem near_ge {l:List DThing} {leaf i:Int} (h0:0≤i) (hi:i < l.length) (h:near l leaf i=true):leaf≤i:=by
  rcases Int.lt_or_le i leaf with h' | h'
  · rw [near_lt h0 hi h'] at h;cases h
  · exact h'
theorem nxt_near {l:List DThing} (hS:Sound l) {leaf i:Int} (hl:0≤leaf) (hi0:0≤i) (hi:i < l.length) (hn:near l leaf i=true) (hne:i≠leaf) :
    near l leaf (nxt l leaf i)=true∧0≤nxt l leaf i∧nxt l leaf i < i∧leaf≤nxt l leaf i∧(el l i).Left≠ -1:=by
  have hge:=near_ge hi0 hi hn
  rw [near_up hS hl (by omega) hi,Bool.and_eq_true,Bool.or_eq_true] at hn
  obtain ⟨h1,h2⟩:=hn
  have hq:¬ (el l i).Left= -1:=by simpa using h1
  have hp:=sound_pair hS hi0 hi (x:=el l i) rfl hq
  have key:near l leaf (nxt l leaf i)=true:=by
    unfold nxt
    split
    · assumption
    · rename_i hm
      rcases Int.le_total (el l i).Left (el l i).Right with h | h
      · rw [Int.min_eq_left h] at hm;rw [Int.max_eq_right h]
        rcases h2 with h2 | h2
        · exact absurd h2 hm
        · exact h2
      · rw [Int.min_eq_right h] at hm;rw [Int.max_eq_left h]
        rcases h2 with h2 | h2
        · exact h2
        · exact absurd h2 hm
  have hb:0≤nxt l leaf i∧nxt l leaf i < i:=by unfold nxt;split <;> omega
  exact ⟨key,hb.1,hb.2,near_ge hb.1 (by omega) key,hq⟩
theorem pathN_fuel {l:List DThing} (hS:Sound l) {leaf:Int} (hl:0≤leaf):∀ (n m:Nat) (i:Int),0≤i→i < l.length→near l leaf i=true→i.toNat≤n→i.toNat≤m→pathN l leaf n i=pathN l leaf m i
  | 0,0,_,_,_,_,_,_=>rfl
  | 0,m+1,i,h0,hi,hn,h1,h2=>by
    have:=near_ge h0 hi hn
    have:i=leaf:=by omega
    rw [pathN,pathN,if_pos this]
  | n+1,0,i,h0,hi,hn,h1,h2=>by
    have:=near_ge h0 hi hn
    have:i=leaf:=by omega
    rw [pathN,pathN,if_pos this]
  | n+1,m+1,i,h0,hi,hn,h1,h2=>by
    rw [pathN,pathN]
    split
    · rfl
    · rename_i hne
      obtain ⟨a,b,c,d,_⟩:=nxt_near hS hl h0 hi hn hne
      rw [pathN_fuel hS hl n m _ b (by omega) a (by omega) (by omega)]
def rest (l:List DThing) (leaf i:Int):List Int:=pathN l leaf i.toNat i
theorem rest_self {l:List DThing} {leaf:Int}:rest l leaf leaf=[leaf]:=by
  unfold rest
  cases h:leaf.toNat with
  | zero=>rfl
  | succ n=>rw [pathN,if_pos rfl]
theorem rest_step {l:List DThing} (hS:Sound l) {leaf i:Int} (hl:0≤leaf) (hi0:0≤i) (hi:i < l.length) (hn:near l leaf i=true) (hne:i≠leaf):rest l leaf i=i :: rest l leaf (nxt l leaf i):=by
  obtain ⟨a,b,c,d,_⟩:=nxt_near hS hl hi0 hi hn hne
  unfold rest
  have:i.toNat=(i.toNat - 1)+1:=by omega
  rw [this,pathN,if_neg hne,pathN_fuel hS hl _ (nxt l leaf i).toNat _ b (by omega) a (by omega) (by omega)]
theorem pathF_yes {l:List DThing} {root leaf:Int} (hS:Sound l) (h1:has l root) (h2:has l leaf) (h3:near l leaf root=true):pathF l root leaf=rest l leaf root:=by
  unfold pathF rest;rw [if_pos ⟨hS,h1,h2,h3⟩]
theorem reachF_length (l:List DThing) (leaf:Int):(reachF l leaf).length=l.length:=by unfold reachF;simp
theorem reachF_at {l:List DThing} {leaf:Int} {m:List Bool} (hm:m=reachF l leaf) (i:Int):m.getD i.toNat default=near l leaf i:=by subst hm;rfl
theorem down {l:List DThing} (hS:Sound l) {leaf i a b:Int} {x:DThing} (hl:0≤leaf) (hi0:0≤i) (hi:i < l.length) (hn:near l leaf i=true) (hne:¬ i=leaf) (hx:x=l.getD i.toNat default) (ha:a=min x.Left x.Right) (hb:b=max x.Left x.Right) :
    0≤a∧a < i∧0≤b∧b < i∧nxt l leaf i=(if near l leaf a=true then a else b)∧near l leaf (nxt l leaf i)=true∧leaf≤nxt l leaf i∧rest l leaf i=i :: rest l leaf (nxt l leaf i):=by
  obtain ⟨a1,a2,a3,a4,a5⟩:=nxt_near hS hl hi0 hi hn hne
  have hs:=sound_pair hS hi0 hi hx (by rw [hx];exact a5)
  have e:el l i=x:=hx.symm
  refine ⟨by omega,by omega,by omega,by omega,?_,a1,a4,rest_step hS hl hi0 hi hn hne⟩
  unfold nxt;rw [e,← ha,← hb]
theorem pathF_no {l:List DThing} {root leaf:Int} (h:¬ (Sound l∧has l root∧has l leaf∧near l leaf root=true)):pathF l root leaf=[]:=by unfold pathF;rw [if_neg h]
def viewW (l:List DThing) (p:List Int) (k:Nat):List DThing:=viewN l p k ++List.replicate (p.length - k) default
@[simp] theorem viewN_length (l:List DThing) (p:List Int) (n:Nat):(viewN l p n).length=n:=by simp [viewN]
theorem viewW_length {l:List DThing} {p:List Int} {k:Nat} (h:k≤p.length):(viewW l p k).length=p.length:=by simp [viewW];omega
theorem viewW_zero (l:List DThing) (p:List Int):viewW l p 0=List.replicate p.length default:=by simp [viewW,viewN]
theorem viewW_step {l:List DThing} {p:List Int} {k:Int} {y:DThing} (h0:0≤k) (hk:k < p.length) (hy:y=viewEl l p k.toNat):(viewW l p k.toNat).set k.toNat y=viewW l p (k+1).toNat:=by
  unfold viewW
  rw [show (k+1).toNat=k.toNat+1 by omega,List.set_append_right _ _ (by simp)]
  simp only [viewN_length,Nat.sub_self]
  rw [show p.length - k.toNat=(p.length - (k.toNat+1))+1 by omega,List.replicate_succ,List.set_cons_zero,hy]
  unfold viewN
  rw [List.range_succ,List.map_append]
  simp
theorem set_get {α:Type} [Inhabited α] {l m:List α} {k:Int} {x y:α} (hm:m=l.set k.toNat x) (h0:0≤k) (hk:k < l.length) (hy:y=m.getD k.toNat default):y=x:=by
  subst hm hy
  have:k.toNat < l.length:=by omega
  simp [this]
theorem view_end {l:List DThing} {p:List Int} {k k' a:Int} {x:DThing} {out m:List DThing} (h0:0≤k) (hk:k < p.length) (ha:a=p.getD k.toNat default) (hx:x=l.getD a.toNat default) (ho:out=viewW l p k.toNat) (hm:m=out.set k.toNat x) (hk':k'=k+1)
    (he:¬ (0 < k∧k < p.length - 1)):m=viewW l p k'.toNat:=by
  subst hm ho hk'
  refine viewW_step h0 hk ?_
  unfold viewEl
  rw [if_neg (by omega)]
  have:pe p k.toNat=a:=ha.symm
  rw [this];exact hx
theorem view_mid {l:List DThing} {p:List Int} {k k' a:Int} {x x2 x3:DThing} {out m m2 m3:List DThing} (h0:0≤k) (hk:k < p.length) (ha:a=p.getD k.toNat default) (hx:x=l.getD a.toNat default) (ho:out=viewW l p k.toNat) (hm:m=out.set k.toNat x)
    (hx2:x2=m.getD k.toNat default) (hm2:m2=m.set k.toNat (DThing.mk x2.Text (-1) x2.Blind x2.Left x2.Right)) (hx3:x3=m2.getD k.toNat default) (hm3:m3=m2.set k.toNat (DThing.mk x3.Text x3.Value (-1) x3.Left x3.Right)) (hk':k'=k+1)
    (he:0 < k∧k < p.length - 1):m3=viewW l p k'.toNat:=by
  have hl:out.length=p.length:=by rw [ho];exact viewW_length (by omega)
  have e2:=set_get hm h0 (by omega) hx2
  have e3:=set_get hm2 h0 (by rw [hm,List.length_set];omega) hx3
  rw [hm3,e3,hm2,e2,hm]
  simp only [List.set_set]
  subst ho hk'
  refine viewW_step h0 hk ?_
  unfold viewEl
  rw [if_pos (by omega)]
  have:pe p k.toNat=a:=ha.symm
  rw [this,show el l a=x from hx.symm]
theorem viewF_yes {l:List DThing} {p:List Int} {k:Int} {out:List DThing} (hw:Walks l p) (ho:out=viewW l p k.toNat) (hk:k=p.length):out=viewF l p:=by
  subst ho hk
  unfold viewF viewW;rw [if_pos hw];simp
theorem viewF_no {l:List DThing} {p:List Int} (hw:¬ Walks l p):viewF l p=[]:=by unfold viewF;rw [if_neg hw]
end Tm

open Go Go.Proofs
theorem thing_equal (w : World) (a : ByteArray) (b c d e : Int) (a' : ByteArray) (b' c' d' e' : Int) :
  (Op.equal 41 (.agg #[.string a, .int .i64 b, .int .i64 c, .int .i64 d, .int .i64 e]) (.agg #[.string a', .int .i64 b', .int .i64 c', .int .i64 d', .int .i64 e'])).run Try.prog w =
   .ok (decide (a = a' ∧ b = b' ∧ c = c' ∧ d = d' ∧ e = e')) w := by
  have h41 : Try.prog.fieldsOf 41 = #[{ name := "Text", type := 9, offset := 0, embedded := false, tag := "", pkgPath := "", byteOffset := 0 },
          { name := "Value", type := 3, offset := 1, embedded := false, tag := "", pkgPath := "", byteOffset := 16 },
          { name := "Blind", type := 3, offset := 2, embedded := false, tag := "", pkgPath := "", byteOffset := 24 },
          { name := "Left", type := 3, offset := 3, embedded := false, tag := "", pkgPath := "", byteOffset := 32 },
          { name := "Right", type := 3, offset := 4, embedded := false, tag := "", pkgPath := "", byteOffset := 40 }] := by kernel_rfl
  have hu : Try.prog.underlying 41 = some (.struct (Try.prog.fieldsOf 41)) := by kernel_rfl
  have u9 : Try.prog.underlying 9 = some .string := by kernel_rfl
  have u3 : Try.prog.underlying 3 = some (.int .i64) := by kernel_rfl
  have p9 : ∀ (xs : Array Value) (o : Nat) (v : Value), xs[o]? = some v → (part 9 xs o).run Try.prog w = .ok v w := fun xs o v hv => by
    have h : (isAgg 9).run Try.prog w = .ok false w := by rw [run_isAgg (by kernel_rfl), show aggB Try.prog 9 = false from by kernel_rfl]
    simp [part, h, hv]
  have p3 : ∀ (xs : Array Value) (o : Nat) (v : Value), xs[o]? = some v → (part 3 xs o).run Try.prog w = .ok v w := fun xs o v hv => by
    have h : (isAgg 3).run Try.prog w = .ok false w := by rw [run_isAgg (by kernel_rfl), show aggB Try.prog 3 = false from by kernel_rfl]
    simp [part, h, hv]
  show (Op.equalIn (9999 + 1) 41 _ _).run Try.prog w = _
  rw [run_equalIn_struct w 9999 41 _ _ hu (by kernel_rfl), h41]
  have ei := fun a b => run_equalIn_int (P := Try.prog) w 9998 3 .i64 .i64 a b u3
  have es := fun a b => run_equalIn_string (P := Try.prog) w 9998 9 a b u9
  have q0 : ∀ c0 c1 c2 c3 c4 : Value, (part 9 #[c0, c1, c2, c3, c4] 0).run Try.prog w = .ok c0 w := fun _ _ _ _ _ => p9 _ 0 _ rfl
  have q1 : ∀ c0 c1 c2 c3 c4 : Value, (part 3 #[c0, c1, c2, c3, c4] 1).run Try.prog w = .ok c1 w := fun _ _ _ _ _ => p3 _ 1 _ rfl
  have q2 : ∀ c0 c1 c2 c3 c4 : Value, (part 3 #[c0, c1, c2, c3, c4] 2).run Try.prog w = .ok c2 w := fun _ _ _ _ _ => p3 _ 2 _ rfl
  have q3 : ∀ c0 c1 c2 c3 c4 : Value, (part 3 #[c0, c1, c2, c3, c4] 3).run Try.prog w = .ok c3 w := fun _ _ _ _ _ => p3 _ 3 _ rfl
  have q4 : ∀ c0 c1 c2 c3 c4 : Value, (part 3 #[c0, c1, c2, c3, c4] 4).run Try.prog w = .ok c4 w := fun _ _ _ _ _ => p3 _ 4 _ rfl
  simp only [Op.eqFields]
  rw [Sem.run_ite, if_pos (by decide)]
  simp [q0, q1, q2, q3, q4, ei, es, toList_bytes]
  by_cases h1 : a = a' <;> by_cases h2 : b = b' <;> by_cases h3 : c = c' <;> by_cases h4 : d = d' <;> by_cases h5 : e = e' <;> simp [h1, h2, h3, h4, h5]

open Go
class MKey (κ:Type) [DecidableEq κ] where
  enc:κ→Value
  desc:TypeDesc
  same:∀ a b,Instr.sameNow desc (enc a) (enc b)=some (decide (a=b))
  key:∀ a,MapKept.IsKey desc (enc a)
instance : MKey Int where
  enc := .int .i64
  desc := .int .i64
  same a b := by
    show (if IntKind.i64 = IntKind.i64 then some (a == b) else none) = _
    rw [if_pos rfl]; rfl
  key _ := rfl
instance : MKey ByteArray where
  enc := .string
  desc := .string
  same a b := by
    show some (a == b) = _
    rw [beq_bytes]
  key _ := trivial
section
variable {κ α : Type} [DecidableEq κ] [MKey κ]
def mlook (k:κ):List (κ × α)→Option α
  | []=>none
  | p :: m=>if k=p.1 then some p.2 else mlook k m
def mupd (k:κ) (x:α):List (κ × α)→List (κ × α)
  | []=>[(k,x)]
  | p :: m=>if k=p.1 then (k,x) :: m else p :: mupd k x m
def mfind (k:κ):List (κ × α)→Option (Nat × α)
  | []=>none
  | p :: m=>if k=p.1 then some (0,p.2) else (mfind k m).map fun q=>(q.1+1,q.2)
theorem mlook_eq (k:κ):∀ m:List (κ × α),mlook k m=(mfind k m).map (·.2)
  | []=>rfl
  | p :: m=>by
    unfold mlook mfind
    split
    · rfl
    · rw [mlook_eq k m];cases mfind k m <;> rfl
theorem mupd_some {k:κ} {x:α}:∀ {m:List (κ × α)} {q:Nat × α},mfind k m=some q→mupd k x m=m.set q.1 (k,x)∧∃ y,m[q.1]?=some (k,y)
  | p :: m,q,h=>by
    unfold mfind at h
    unfold mupd
    split at h
    · rename_i e
      cases h
      rw [if_pos e]
      exact ⟨rfl,p.2,by simp [e]⟩
    · rename_i e
      rw [if_neg e]
      simp only [Option.map_eq_some_iff] at h
      obtain ⟨q',h1,rfl⟩:=h
      obtain ⟨h2,y,h3⟩:=mupd_some (x:=x) h1
      exact ⟨by rw [h2];rfl,y,by simpa using h3⟩
theorem mupd_none {k:κ} {x:α}:∀ {m:List (κ × α)},mfind k m=none→mupd k x m=m ++[(k,x)]
  | [],_=>rfl
  | p :: m,h=>by
    unfold mfind at h
    unfold mupd
    split at h
    · cases h
    · rename_i e
      rw [if_neg e]
      simp only [Option.map_eq_none_iff] at h
      rw [mupd_none h];rfl
theorem mupd_mem {k:κ} {x:α}:∀ {m:List (κ × α)} {p:κ × α},p ∈ mupd k x m→p=(k,x)∨p ∈ m
  | [],p,h=>by unfold mupd at h;exact .inl (by simpa using h)
  | q :: m,p,h=>by
    unfold mupd at h
    split at h
    · rcases List.mem_cons.1 h with h | h
      · exact .inl h
      · exact .inr (List.mem_cons_of_mem _ h)
    · rcases List.mem_cons.1 h with h | h
      · exact .inr (by rw [h];exact List.mem_cons_self)
      · rcases mupd_mem h with h | h
        · exact .inl h
        · exact .inr (List.mem_cons_of_mem _ h)
theorem mlook_upd {k:κ} {x:α} (k':κ):∀ m:List (κ × α),mlook k' (mupd k x m)=if k'=k then some x else mlook k' m
  | []=>by unfold mupd mlook;rfl
  | p :: m=>by
    unfold mupd
    by_cases e:k=p.1
    · rw [if_pos e]
      unfold mlook
      by_cases e2:k'=k
      · rw [if_pos e2,if_pos e2]
      · rw [if_neg e2,if_neg e2]
        rw [if_neg (by rw [←e];exact e2)]
    · rw [if_neg e]
      unfold mlook
      by_cases e2:k'=p.1
      · rw [if_pos e2,if_pos e2,if_neg (by rw [e2];exact fun h=>e h.symm)]
      · rw [if_neg e2,if_neg e2,mlook_upd k' m]
theorem mlook_mem {k:κ}:∀ {m:List (κ × α)} {y:α},mlook k m=some y→(k,y) ∈ m
  | p :: m,y,h=>by
    unfold mlook at h
    split at h
    · rename_i e;cases h;rw [e];exact List.mem_cons_self
    · exact List.mem_cons_of_mem _ (mlook_mem h)
theorem mupd_len {k:κ} {x:α} (m:List (κ × α)):(mupd k x m).length=m.length+(if (mlook k m).isSome then 0 else 1):=by
  rw [mlook_eq]
  cases h:mfind k m with
  | none=>rw [mupd_none h];simp
  | some q=>rw [(mupd_some h).1];simp
theorem findNow_eq (f:α→Value) (k:κ):∀ (m:List (κ × α)) (es:List MapEntry) (i:Nat),es.map (fun e=>(e.key,e.val))=m.map (fun p=>(MKey.enc p.1,f p.2))→Instr.findNow (MKey.desc κ) (MKey.enc k) es i=some ((mfind k m).map fun q=>(i+q.1,f q.2))
  | [],[],i,_=>rfl
  | [],_ :: _,i,h=>by simp at h
  | _ :: _,[],i,h=>by simp at h
  | p :: m,e :: es,i,h=>by
    simp only [List.map_cons,List.cons.injEq,Prod.mk.injEq] at h
    obtain ⟨⟨h1,h2⟩,h3⟩:=h
    unfold Instr.findNow
    rw [h1,MKey.same]
    unfold mfind
    by_cases e0:k=p.1
    · rw [if_pos e0,decide_eq_true e0]
      simp [h2]
    · rw [if_neg e0,decide_eq_false e0]
      simp only []
      rw [findNow_eq f k m es (i+1) h3]
      cases mfind k m <;> simp
      omega
def MOb (f:α→Value) (m:List (κ × α)) (o:Obj):Prop:=∃ (es:Array MapEntry) (c:Nat),o=.map es c∧es.toList.map (fun e=>(e.key,e.val))=m.map (fun p=>(MKey.enc p.1,f p.2))
end
def mapOf (P:Program) (t:TypeId):Option (TypeId × TypeId):=match P.underlying t with
  | some (.map k e)=>some (k,e)
  | _=>none
theorem map_of {P:Program} {t k e:TypeId} (h:mapOf P t=some (k,e)):P.underlying t=some (.map k e):=by
  unfold mapOf at h
  split at h <;> simp_all
section
variable {κ α : Type} [DecidableEq κ] [MKey κ] {P : Program} {w : World} {t kt et : TypeId} {f : α → Value} {m : List (κ × α)} {b : Nat} {o : Obj} {k : κ} {x : α}
theorem find_run {es:List MapEntry} (hk:P.underlying kt=some (MKey.desc κ)) (h:es.map (fun e=>(e.key,e.val))=m.map (fun p=>(MKey.enc p.1,f p.2))):(Instr.findKey kt (MKey.enc k) es).run P w=.ok ((mfind k m).map fun q=>(q.1,f q.2)) w :=
  MapKept.run_findKey hk (by rw [findNow_eq f k m es 0 h];cases mfind k m <;> simp)
theorem mu_run (hu:P.underlying t=some (.map kt et)) (hk:P.underlying kt=some (MKey.desc κ)) (hm:MOb f m o) (hb:w.heap[b]?=some o) :
    ∃ o',(Instr.mapUpdate t (.map (some b)) (MKey.enc k) (f x)).run P w=.ok () (setBlk w b o')∧MOb f (mupd k x m) o':=by
  obtain ⟨es,c,rfl,hes⟩:=hm
  have hfk:=find_run (P:=P) (w:=w) (k:=k) hk hes
  cases hfd:mfind k m with
  | none =>
    rw [hfd] at hfk
    refine ⟨.map (es.push { key:=MKey.enc k,val:=f x,born:=c }) (c+1),?_,_,_,rfl,?_⟩
    · simp [Instr.mapUpdate,run_underlying hu,MapKept.run_getObj_map hb,MapKept.run_checkKey hk (MKey.key k),hfk,MapKept.run_setObj_map _ hb,Result.andThen,setBlk]
    · rw [mupd_none hfd]
      simp [hes]
  | some q =>
    rw [hfd] at hfk
    obtain ⟨hup,y,hy⟩:=mupd_some (x:=x) hfd
    have hlen:es.toList.length=m.length:=by have:=congrArg List.length hes;simpa using this
    have hql:q.1 < es.toList.length:=by rw [hlen];exact (List.getElem?_eq_some_iff.1 hy).1
    have hkey:(es[q.1]?).map (·.key)=some (MKey.enc k):=by
      have:=congrArg (fun l=>(l[q.1]?).map (·.1)) hes
      simp only [List.getElem?_map,hy,Option.map_map] at this
      simpa using this
    refine ⟨.map (es.modify q.1 fun e=>{ e with key:=MKey.enc k,val:=f x }) c,?_,_,_,rfl,?_⟩
    · simp [Instr.mapUpdate,run_underlying hu,MapKept.run_getObj_map hb,MapKept.run_checkKey hk (MKey.key k),hfk,hkey,MapKept.run_keyThatStays (MKey.key k),MapKept.run_setObj_map _ hb,Result.andThen,setBlk]
    · rw [hup,Array.toList_modify,List.map_set,← hes]
      refine List.ext_getElem? fun j=>?_
      simp only [List.getElem?_map,List.getElem?_set,List.getElem?_modify,List.length_map]
      by_cases e:q.1=j
      · subst e
        simp [hql]
        simp at hql
        rw [Array.getElem?_eq_getElem hql,if_pos hql];rfl
      · simp [e]
theorem lk_run {z:Value} {ok:Bool} (hu:P.underlying t=some (.map kt et)) (hk:P.underlying kt=some (MKey.desc κ)) (hm:MOb f m o) (hb:w.heap[b]?=some o) (hz:(zeroValue et).run P w=.ok z w) :
    (Instr.lookup t (.map (some b)) (MKey.enc k) ok).run P w=.ok (if ok then .tuple #[((mlook k m).map f).getD z,.bool (mlook k m).isSome] else ((mlook k m).map f).getD z) w:=by
  obtain ⟨es,c,rfl,hes⟩:=hm
  have hfk:=find_run (P:=P) (w:=w) (k:=k) hk hes
  rw [mlook_eq]
  cases hfd:mfind k m with
  | none =>
    rw [hfd] at hfk
    simp [Instr.lookup,run_underlying hu,MapKept.run_getObj_map hb,MapKept.run_checkKey hk (MKey.key k),hfk,hz,Result.andThen]
  | some q =>
    rw [hfd] at hfk
    simp [Instr.lookup,run_underlying hu,MapKept.run_getObj_map hb,MapKept.run_checkKey hk (MKey.key k),hfk,Result.andThen]
theorem ml_run {ty:TypeId} (hu:P.underlying t=some (.map kt et)) (hm:MOb f m o) (hb:w.heap[b]?=some o):(Builtin.len_ #[t] ty #[.map (some b)]).run P w=.ok (.int .i64 (m.length:Int)) w:=by
  obtain ⟨es,c,rfl,hes⟩:=hm
  have hlen:es.size=m.length:=by have:=congrArg List.length hes;simpa using this
  simp [Builtin.len_,run_underlying hu,MapKept.run_getObj_map hb,goInt,Result.andThen,hlen]
end
section
variable {κ α : Type} [DecidableEq κ] [MKey κ] [Dat α]
def MP (a:Bool) (m:List (κ × α)) (b:Nat) (e:Ent) (H:Heaplet):Prop:=(∃ o,e=some (b,o)∧MOb (fun x:α=>aggV a (Dat.cells x)) m o)∧∀ p ∈ m,Dat.good H p.2
def mp (t a:Bool) (m:List (κ × α)) (b:Nat):LE:=.own t (MP a m b) (fun _ _ _ k h=>⟨h.1,fun p hp=>Dat.mono _ _ _ k (h.2 p hp)⟩) True (fun _ _ _=>trivial)
theorem mp_at {t a:Bool} {m:List (κ × α)} {b:Nat} {e:Ent} {N K:Heaplet} (h:(mp t a m b).at e N K):MP a m b e (bif t then N else K):=by
  cases t
  · exact h
  · exact h
end
def RC.mpu (R:RC) (G:Gh) (i:Nat):Option (TypeId × Value × Value × Value):=match (R.ops[i]?).map (fun o:Oper=>o.op) with
  | some (.mapUpdate t m k x)=>some (t,R.evalAt G i m,R.evalAt G i k,R.evalAt G i x)
  | some (.insert t m k x)=>some (t,R.evalAt G i m,R.evalAt G i k,R.evalAt G i x)
  | _=>none
def RC.mlk (R:RC) (G:Gh) (i:Nat):Option (TypeId × Value × Value × Bool):=match (R.ops[i]?).map (fun o:Oper=>o.op) with
  | some (.lookup t m k ok)=>some (t,R.evalAt G i m,R.evalAt G i k,ok)
  | _=>none
def RC.mln (R:RC) (G:Gh) (i:Nat):Option (TypeId × Value):=match (R.ops[i]?).map (fun o:Oper=>o.op) with
  | some (.call { callee:=.builtin .len,args,argTypes })=>match args.toList,argTypes.toList with
    | [x],[t]=>some (t,R.evalAt G i x)
    | _,_=>none
  | _=>none
def lkV (a ok:Bool) (x:List Value) (is:Bool):Value:=bif ok then .tuple #[aggV a x,.bool is] else aggV a x
namespace Hint
variable {P : Program} {κ α : Type} [DecidableEq κ] [MKey κ] [Dat α]
def mm (κ α:Type) [DecidableEq κ] [MKey κ] [Dat α] (n r:Nat) (a:Bool):Hint P where
  d:={ val:=fun G=>.map (some (G n).b),news:=[(r,fun G=>mp true a ([]:List (κ × α)) (G n).b,fun G=>some ((G n).b,.map #[] 0))] }
  τ:=Option (Result Next) × Nat
  lhs c i G _ w:=(c.R.ex P G i w,i)
  rhs _ _ _ _ w:=(some (.ok (.value (.map (some w.heap.size))) { w with heap:=w.heap.push (.map #[] 0) }),n)
  sound c i ok hil hi h:=fun o ho G w hs=>by
    have h0:=h G { b:=w.heap.size } w
    simp only [Prod.mk.injEq,RC.ex,ho,Option.map_some,Option.some.injEq] at h0
    obtain ⟨e1,rfl⟩:=h0
    unfold Does
    rw [e1]
    have hv:=Cx.vis_self (c:=c) (i:=i) (G:=G) { b:=w.heap.size }
    refine ⟨{ b:=w.heap.size },left_turn ok hil hi hs (e1:=some (w.heap.size,.map #[] 0)) rfl rfl rfl grows_push ?_ ?_ rfl rfl ?_⟩
    · show some _=_
      rw [hv]
    · show MP _ _ _ _ _
      rw [hv]
      exact ⟨⟨_,rfl,#[],0,rfl,rfl⟩,fun p hp=>by cases hp⟩
    · rw [Cx.valOf hi]
      show Value.map _=_
      rw [hv]
def mu (n r:Nat) (tt kt et:TypeId) (t a:Bool) (m:List (κ × α)) (b:Gh→Nat) (k:κ) (x:α) (m2:List (κ × α)) (hm:m2=mupd k x m) (t2:Bool) (ht:t2=true→t=true) (qs:List Kv) (hq:∀ G H,allR qs G H→Dat.good H x):Hint P where
  d:={ val:=fun _=>undef,news:=[(r,fun G=>mp t2 a m2 (b G),fun G=>(G n).e)] }
  τ:=Option (TypeId × Value × Value × Value) × Option (TypeId × TypeId) × Option TypeDesc × Option LE × Nat × Bool × List (Option (Bool × (Ent→Heaplet→Prop)) × Bool) × Nat
  lhs c i G g _:=(c.R.mpu G i,mapOf P tt,P.underlying kt,c.leAt i r G,i,tOk t2 qs,qs.map (Kv.chk c i G),b (c.R.vis i (RC.put G i g)))
  rhs _ _ G _ _:=(some (tt,.map (some (b G)),MKey.enc k,aggV a (Dat.cells x)),some (kt,et),some (MKey.desc κ),some (mp t a m (b G)),n,true,qs.map (Kv.want G),b G)
  sound c i ok hil hi h0:=fun o ho G w hs=>by
    have h1:=fun g=>h0 G g w
    simp only [Prod.mk.injEq] at h1
    obtain ⟨e1,e2,e3,e4,rfl,e6,e7,_⟩:=h1 {}
    have hw:c.R.wrE r i=true:=by unfold RC.wrE;rw [Cx.upsOf hi];simp
    obtain ⟨en,a1,a2,a3⟩:=Cx.own_at ok hil hs e4 (by rw [hw];simp)
    obtain ⟨⟨ob,rfl,hob⟩,hgood⟩:=mp_at a2
    have hb:=a3 (b G) ob rfl
    have hlt:=RC.heap_lt hb
    obtain ⟨o',hr,hob'⟩:=mu_run (P:=P) (w:=w) (k:=k) (x:=x) (map_of e2) e3 hob hb
    have hg:Grows (some (b G,ob)) (some (b G,o')) w (setBlk w (b G) o') :=
      ⟨fun b' o2 hbo=>by cases hbo;simp [setBlk,hlt],fun b' o2 hbo=>by cases hbo;exact .inr ⟨_,rfl⟩,⟨rfl,rfl,rfl,by simp [setBlk],fun j hj hn=>by
        have:b G≠j:=fun e=>hn (by subst e;simp)
        simp [setBlk,Array.getElem?_setIfInBounds_ne this]⟩⟩
    have hrun:(execOp (c.R.evalAt G i) o).run P w=.ok .skip (setBlk w (b G) o'):=by
      unfold RC.mpu at e1
      rw [ho] at e1
      obtain ⟨dst,op,type,pos,after,guard⟩:=o
      cases op <;> simp only [Option.map_some] at e1 <;> first | cases e1 | skip
      all_goals
        simp only [Option.some.injEq,Prod.mk.injEq] at e1
        obtain ⟨rfl,h1,h2,h3⟩:=e1
        simp [execOp,h1,h2,h3,hr]
    unfold Does
    rw [hrun]
    have hv:=Cx.vis_self (c:=c) (i:=i) (G:=G) { e:=some (b G,o') }
    have hbv:=(h1 { e:=some (b G,o') }).2.2.2.2.2.2.2
    refine ⟨{ e:=some (b G,o') },left_turn ok hil hi hs rfl rfl a1 hg ?_ ?_ rfl rfl (by rw [Cx.valOf hi])⟩
    · show (c.R.vis i (RC.put G i { e:=some (b G,o') }) i).e=_
      rw [hv]
    · have key:∀ H,(∀ p ∈ m,Dat.good H p.2)→Dat.good H x→MP a m2 (b G) (some (b G,o')) H:=fun H h1 h2=>⟨⟨_,rfl,hm ▸ hob'⟩,fun p hp=>by
        rw [hm] at hp
        rcases mupd_mem hp with hp | hp
        · rw [hp];exact h2
        · exact h1 p hp⟩
      have hgx:=hq G _ (allR_of ok hil hs e7 e6)
      show bif t2 then MP _ _ _ _ _ else MP _ _ _ _ _
      rw [hv,hbv]
      cases t2 with
      | true=>rw [ht rfl] at hgood;exact key _ hgood hgx
      | false=>exact key _ (fun p hp=>by
          cases t with
          | true=>exact Dat.mono _ _ _ (Cx.J_true_le hs false) (hgood p hp)
          | false=>exact hgood p hp) hgx
def lk (r:Nat) (tt kt et:TypeId) (t a ok:Bool) (m:List (κ × α)) (b:Gh→Nat) (k:κ) (x:α) (hx:x=(mlook k m).getD default) (is:Bool) (his:is=(mlook k m).isSome) (nest:Bool):Hint P where
  d:={ val:=fun _=>lkV a ok (Dat.cells x) is,rds:=[r],facts:=fun _=>bif nest then [gf t x] else [] }
  τ:=Option (TypeId × Value × Value × Bool) × Option (TypeId × TypeId) × Option TypeDesc × Option LE × Result Value
  lhs c i G _ w:=(c.R.mlk G i,mapOf P tt,P.underlying kt,c.leAt i r G,(zeroValue et).run P w)
  rhs _ _ G _ w:=(some (tt,.map (some (b G)),MKey.enc k,ok),some (kt,et),some (MKey.desc κ),some (mp t a m (b G)),.ok (aggV a (Dat.cells (default:α))) w)
  sound c i ok' hil hi h0:=fun o ho G w hs=>by
    have h1:=h0 G {} w
    simp only [Prod.mk.injEq] at h1
    obtain ⟨e1,e2,e3,e4,e5⟩:=h1
    obtain ⟨en,a1,a2,a3⟩:=Cx.own_at ok' hil hs e4 (by rw [Cx.c_of hi];simp [HintD.cert])
    obtain ⟨⟨ob,rfl,hob⟩,hgood⟩:=mp_at a2
    have hb:=a3 (b G) ob rfl
    have hr:=lk_run (P:=P) (w:=w) (k:=k) (ok:=ok) (map_of e2) e3 hob hb e5
    have hval:(if ok then .tuple #[((mlook k m).map fun x:α=>aggV a (Dat.cells x)).getD (aggV a (Dat.cells (default:α))),.bool (mlook k m).isSome] else ((mlook k m).map fun x:α=>aggV a (Dat.cells x)).getD (aggV a (Dat.cells (default:α))))=lkV a ok (Dat.cells x) is:=by
      unfold lkV
      rw [hx,his]
      cases mlook k m <;> cases ok <;> rfl
    rw [hval] at hr
    have hrun:(execOp (c.R.evalAt G i) o).run P w=.ok (.value (lkV a ok (Dat.cells x) is)) w:=by
      unfold RC.mlk at e1
      rw [ho] at e1
      obtain ⟨dst,op,type,pos,after,guard⟩:=o
      cases op <;> simp only [Option.map_some] at e1 <;> first | cases e1 | skip
      case lookup t' m' k' ok2 =>
        simp only [Option.some.injEq,Prod.mk.injEq] at e1
        obtain ⟨rfl,h1,h2,rfl⟩:=e1
        simp [execOp,h1,h2,hr]
    unfold Does
    rw [hrun]
    obtain ⟨a4,a5,_⟩:=ahead ok' hil hs (g:={}) no_H
    have hgx:∀ H,(∀ p ∈ m,Dat.good H p.2)→Dat.good H x:=fun H hH=>by
      rw [hx]
      cases hl:mlook k m with
      | none=>exact Dat.zero H
      | some y=>exact hH _ (mlook_mem hl)
    refine ⟨{},left_grow ok' hil hi hs rfl (Base.refl _ _) (fun b o h=>by cases h) no_H (fun f hf'=>?_) trivial ?_⟩
    · cases nest with
      | false=>cases hf'
      | true =>
        have hf':f=gf t x:=by simpa using hf'
        subst hf'
        show bif t then _ else _
        cases t
        · exact Dat.mono _ _ _ a5 (hgx _ hgood)
        · exact Dat.mono _ _ _ a4 (hgx _ hgood)
    · rw [Cx.valOf hi]
def ml (r:Nat) (tt kt et:TypeId) (t a:Bool) (m:List (κ × α)) (b:Gh→Nat):Hint P where
  d:={ val:=fun _=>.int .i64 (m.length:Int),rds:=[r] }
  τ:=Option (TypeId × Value) × Option (TypeId × TypeId) × Option LE
  lhs c i G _ _:=(c.R.mln G i,mapOf P tt,c.leAt i r G)
  rhs _ _ G _ _:=(some (tt,.map (some (b G))),some (kt,et),some (mp t a m (b G)))
  sound c i ok' hil hi h0:=fun o ho G w hs=>by
    have h1:=h0 G {} w
    simp only [Prod.mk.injEq] at h1
    obtain ⟨e1,e2,e4⟩:=h1
    obtain ⟨en,a1,a2,a3⟩:=Cx.own_at ok' hil hs e4 (by rw [Cx.c_of hi];simp [HintD.cert])
    obtain ⟨⟨ob,rfl,hob⟩,hgood⟩:=mp_at a2
    have hb:=a3 (b G) ob rfl
    refine Cx.still hi rfl (fun _=>⟨rfl,rfl⟩) ho (x:=.int .i64 (m.length:Int)) ?_ (by rw [Cx.valOf hi])
    unfold RC.mln at e1
    rw [ho] at e1
    obtain ⟨dst,op,type,pos,after,guard⟩:=o
    simp only [Option.map_some] at e1
    split at e1
    · rename_i args argTypes heq
      simp only [Option.some.injEq] at heq
      subst heq
      split at e1
      · rename_i x t' hx ht
        simp only [Option.some.injEq,Prod.mk.injEq] at e1
        obtain ⟨rfl,hv⟩:=e1
        obtain ⟨l,rfl⟩:∃ l:List Operand,args=l.toArray:=⟨args.toList,by simp⟩
        obtain ⟨l2,rfl⟩:∃ l:List TypeId,argTypes=l.toArray:=⟨argTypes.toList,by simp⟩
        simp only at hx ht
        subst hx ht
        simp [execOp,resolve,invoke,builtin,hv,ml_run (P:=P) (w:=w) (ty:=type) (map_of e2) hob hb]
      · cases e1
    · cases e1
end Hint
theorem V.trm {P:Program} {E:Env P} {S:Stop} {t:St} {κ α:Type} [DecidableEq κ] [MKey κ] [Dat α] (a:Bool) (m:List (κ × α)) (b r:Nat) (hr:t.L[r]?=some (mp false a m b)) (hg:∀ (H:Heaplet) (x:α),Dat.good H x) (k:V E S ⟨t.sl,t.F,t.L.set r (mp true a m b)⟩):V E S t:=fun N ε ac w hin=>by
  have hlt:r < t.L.length:=(List.getElem?_eq_some_iff.1 hr).1
  have hents:ents (t.L.set r (mp true a m b)) ε=ents t.L ε:=by
    refine List.ext_getElem? fun j=>?_
    rw [ents_get,ents_get,List.getElem?_set]
    by_cases e:r=j
    · subst e;rw [if_pos rfl,if_pos hlt,hr];rfl
    · rw [if_neg e]
  refine k N ε ac w ⟨hin.slots,by rw [hents];exact hin.st,hin.new,hin.facts,fun j y hy=>?_⟩
  rw [List.getElem?_set] at hy
  by_cases e:r=j
  · subst e
    rw [if_pos rfl,if_pos hlt] at hy
    cases hy
    have:=hin.own r _ hr
    exact ⟨(this:MP a m b _ _).1,fun p _=>hg _ _⟩
  · rw [if_neg e] at hy
    exact hin.own j y hy

open Go
theorem zero_flatten {row:List Value}:∀ n:Nat,(Builtin.zeroCells row.toArray n).toList=(List.replicate n row).flatten:=by
  intro n
  have hlen:(List.replicate n row).flatten.length=n * row.length:=by
    rw [flatten_len (size:=row.length) (fun r hr=>by rw [List.eq_of_mem_replicate hr]),List.length_replicate]
  refine List.ext_getElem? fun j=>?_
  by_cases hj:j < n * row.length
  · have hp:0 < row.length:=by
      rcases Nat.eq_zero_or_pos row.length with h | h
      · rw [h] at hj;simp at hj
      · exact h
    have hm:j % row.length < row.length:=Nat.mod_lt _ hp
    have hd:j / row.length < n:=by rw [Nat.div_lt_iff_lt_mul hp];exact hj
    have h1:=flatten_get (size:=row.length) (rows:=List.replicate n row) (fun r hr=>by rw [List.eq_of_mem_replicate hr]) (j / row.length) (j % row.length) row row[j % row.length] (by simp [hd]) (by simp [hm])
    rw [Nat.div_add_mod'] at h1
    rw [h1]
    simp [Builtin.zeroCells,hj,hm]
  · have h0:n * row.length≤j:=Nat.le_of_not_lt hj
    rw [List.getElem?_eq_none (by simp [Builtin.zeroCells];exact h0),List.getElem?_eq_none (by rw [hlen];exact h0)]
theorem apz_run {P:Program} {w:World} {t tn ty E:TypeId} {i:TypeInfo} {z:Value} {kn:IntKind} {row:List Value} (ht:P.underlying t=some (.slice E)) (htn:P.underlying tn=some (.int kn)) (hi:P.info? E=some i) (hz:i.zero=some z) (hzc:z.cells.toList=row) (hs:i.size=row.length) (h1:∀ u ∈ row,cell1 u=true) (hp:0 < row.length)
    {n:Nat} (h0:0 < n) (h63:n≤maxLen) (h48:n * i.bytes≤281474976710656) :
    ∃ v' e' w',(Builtin.append_ #[t,tn] ty #[.slice none 0 0,.int .i64 n]).run P w=.ok v' w'∧OwnS E row.length (List.replicate n row) v' e'∧Grows none e' w w':=by
  have hr:=Lib.run_append_nil_zeros w t tn ty E i z .i64 kn ht htn hi hz n h0 (by omega) (by simp only [maxLen] at h63;omega) h48
  have hrow:row.toArray=z.cells:=by rw [←hzc]
  rw [←hrow] at hr
  have hge:=grownCap_ge w n 0 E
  refine ⟨_,some (w.heap.size,.cells (Builtin.zeroCells row.toArray n ++Builtin.zeroCells row.toArray (grownCap w n 0 E - n)) E),_,hr,⟨fun r hr=>by rw [List.eq_of_mem_replicate hr],fun r hr=>by rw [List.eq_of_mem_replicate hr];exact h1,.inr ⟨_,_,_,by simp,rfl,by simpa using hge,grownCap_le_maxLen w n 0 E h63,?_,?_⟩⟩,?_,?_,?_⟩
  · rw [Array.size_append,size_zeroCells,size_zeroCells,← Nat.add_mul];congr 1;omega
  · rw [Array.toList_append,zero_flatten,List.length_replicate]
    rw [List.take_append_of_le_length (by rw [flatten_len (size:=row.length) (fun r hr=>by rw [List.eq_of_mem_replicate hr]),List.length_replicate];exact Nat.le_refl _)]
    rw [List.take_of_length_le]
    rw [flatten_len (size:=row.length) (fun r hr=>by rw [List.eq_of_mem_replicate hr]),List.length_replicate];exact Nat.le_refl _
  · intro b o hb;cases hb;exact push_get
  · intro b o hb;cases hb;exact .inl (Nat.le_refl _)
  · refine ⟨rfl,rfl,rfl,?_,fun k hk _=>?_⟩
    · show _≤(w.heap.push _).size
      rw [Array.size_push];exact Nat.le_succ _
    · show (w.heap.push _)[k]?=_
      rw [Array.getElem?_push,if_neg (Nat.ne_of_lt hk)]
def intOf (P:Program) (t:TypeId):Bool:=match P.underlying t with
  | some (.int _)=>true
  | _=>false
theorem int_of {P:Program} {t:TypeId} (h:intOf P t=true):∃ k,P.underlying t=some (.int k):=by
  unfold intOf at h
  split at h
  · exact ⟨_,by assumption⟩
  · cases h
namespace Hint
variable {P : Program}
def apz {α:Type} [Dat α] (n r:Nat) (t tn:TypeId) (E:TypeId) (bytes:Nat) (k:Int) (l2:List α) (hl:l2=List.replicate k.toNat default) (h0:0 < k) (h63:k≤9223372036854775807) (hb:k * bytes≤281474976710656):Hint P where
  d:={ val:=fun G=>(G n).s.v,news:=[(r,fun G=>os true E l2 (G n).s,fun G=>(G n).e)] }
  τ:=Option (TypeId × TypeId × Value × Value) × Option TypeId × Bool × Option (Nat × Nat × Option (List Value)) × Nat × Bool × Bool × Ent
  lhs c i G _ _:=(c.R.apr G i,sliceOf P t,intOf P tn,zeroOf P E,i,decide (0 < Dat.size α),(Dat.cells (default:α)).all cell1,c.R.entAt G i r)
  rhs c i _ _ _:=(some (t,tn,.slice none 0 0,.int .i64 k),some E,true,some (Dat.size α,bytes,some (Dat.cells (default:α))),n,true,true,none)
  sound c i ok hil hi h:=fun o ho G w hs=>by
    have h1:=h G {} w
    simp only [Prod.mk.injEq] at h1
    obtain ⟨e1,e2,e3,e4,rfl,e5,e6,e7⟩:=h1
    obtain ⟨kn,e3⟩:=int_of e3
    unfold zeroOf at e4
    cases hin:P.info? E with
    | none=>simp [hin] at e4
    | some inf =>
      simp only [hin,Option.map_some,Option.some.injEq,Prod.mk.injEq] at e4
      obtain ⟨i1,i2,i3⟩:=e4
      cases hz:inf.zero with
      | none=>simp [hz] at i3
      | some z =>
        simp only [hz,Option.map_some,Option.some.injEq] at i3
        have hkn:(k.toNat:Int)=k:=by omega
        clear h
        obtain ⟨v',e',w',hr,ho',hg⟩:=apz_run (w:=w) (ty:=o.type) (n:=k.toNat) (slice_of e2) e3 hin hz i3 (by rw [i1,Dat.len]) (fun u hu=>List.all_eq_true.1 e6 u hu) (by rw [Dat.len];exact of_decide_eq_true e5) (by omega) (by simp only [maxLen];omega) (by
          rw [i2]
          have h3:((k.toNat * bytes:Nat):Int)≤((281474976710656:Nat):Int):=by rw [Int.natCast_mul,hkn];exact hb
          exact Int.ofNat_le.1 h3)
        rw [hkn] at hr
        have hrun:(execOp (c.R.evalAt G i) o).run P w=.ok (.value v') w':=by
          unfold RC.apr at e1
          rw [ho] at e1
          obtain ⟨dst,op,type,pos,after,guard⟩:=o
          simp only [Option.map_some] at e1
          split at e1
          · rename_i args argTypes heq
            simp only [Option.some.injEq] at heq
            subst heq
            split at e1
            · rename_i x y t' u' hx ht
              simp only [Option.some.injEq,Prod.mk.injEq] at e1
              obtain ⟨rfl,rfl,hv,hxv⟩:=e1
              obtain ⟨l,rfl⟩:∃ l:List Operand,args=l.toArray:=⟨args.toList,by simp⟩
              obtain ⟨l2,rfl⟩:∃ l:List TypeId,argTypes=l.toArray:=⟨argTypes.toList,by simp⟩
              simp only at hx ht
              subst hx ht
              simp only at hr
              simp [execOp,resolve,invoke,builtin,hv,hxv,hr]
            · cases e1
          · cases e1
        obtain ⟨s',rfl⟩:=own_sv ho'
        unfold Does
        rw [hrun]
        have hv:=Cx.vis_self (c:=c) (i:=i) (G:=G) { s:=s',e:=e' }
        refine ⟨{ s:=s',e:=e' },left_turn ok hil hi hs rfl rfl e7 hg ?_ ?_ rfl rfl ?_⟩
        · show (c.R.vis i (RC.put G i { s:=s',e:=e' }) i).e=_
          rw [hv]
        · show OSl E _ l2 _ _
          rw [hv]
          refine ⟨?_,fun x hx=>?_⟩
          · have:rows l2=List.replicate k.toNat (Dat.cells (default:α)):=by rw [hl];simp [rows]
            rw [this,← Dat.len (default:α)];exact ho'
          · rw [hl] at hx
            rw [(List.eq_of_mem_replicate hx:x=default)]
            exact Dat.zero _
        · rw [Cx.valOf hi]
          show SV.v _=_
          rw [hv]
def fro {α:Type} [Dat α] (n r:Nat) (E:TypeId) (t:Bool) (l:List α) (s:Gh→SV) (b:Int) (l2:List α) (hl:l2=l.take b.toNat) (h0:0≤b) (h1:b≤l.length):Hint P where
  d:={ val:=fun G=>((s G).sub (Dat.size α) 0 b.toNat).v,news:=[(r,fun G=>os t E l2 ((s G).sub (Dat.size α) 0 b.toNat),fun G=>(G n).e)] }
  τ:=Option (TypeId × Value × Option Value × Option Value × Bool) × Option Nat × SV × Option LE × Nat
  lhs c i G g _:=(c.R.slr G i,(sliceOf P (c.R.slt i)).bind (sizeT P),s (c.R.vis i (RC.put G i g)),c.leAt i r G,i)
  rhs c i G _ _:=(some (c.R.slt i,(s G).v,none,some (.int .i64 b),true),some (Dat.size α),s G,some (os t E l (s G)),n)
  sound c i ok hil hi h:=fun o ho G w hs=>by
    have h2:=fun g=>h G g w
    simp only [Prod.mk.injEq] at h2
    obtain ⟨e1,e2,_,e4,rfl⟩:=h2 {}
    simp only [Option.bind_eq_some_iff] at e2
    obtain ⟨E',e2,e6⟩:=e2
    have hw:c.R.wrE r i=true:=by unfold RC.wrE;rw [Cx.upsOf hi];simp
    obtain ⟨en,a1,a2,a3⟩:=Cx.own_at ok hil hs e4 (by rw [hw];simp)
    have own:OSl E (c.J i G t) l (s G).v en:=by
      unfold os ow LE.at at a2
      cases t <;> exact a2
    have hrun:=slice_does (w:=w) (lo:=none) (hi:=some b) (l:=0) (h:=b) ho e1 e2 e6 rfl rfl own.isSl (by omega) h0 h1
    unfold Does
    rw [hrun]
    have hv:=Cx.vis_self (c:=c) (i:=i) (G:=G) { e:=en }
    have hsv:=(h2 { e:=en }).2.2.1
    refine ⟨{ e:=en },left_turn ok hil hi hs rfl rfl a1 ⟨a3,fun b o hb=>.inr ⟨o,hb⟩,Base.refl _ _⟩ ?_ ?_ rfl rfl ?_⟩
    · show (c.R.vis i (RC.put G i { e:=en }) i).e=_
      rw [hv];rfl
    · have key:OSl E (c.J i G t) l2 ((s G).sub (Dat.size α) 0 b.toNat).v en:=by
        rw [hl];exact own.take (by omega)
      show bif t then OSl E _ l2 _ _ else OSl E _ l2 _ _
      rw [hv,hsv]
      cases t <;> exact key
    · rw [Cx.valOf hi]
      show SV.v _=_
      rw [hsv];rfl
def nrG {α:Type} [Dat α] (n:Nat) (t:Bool) (E:TypeId) (l:Gh→List α) (k:Nat) (hk:∀ G,(l G).length=k) (qs:List Kv) (hq:∀ G H,allR qs G H→∀ x ∈ l G,Dat.good H x) (arr:Gh→Array Value):Hint P where
  d:={ val:=fun G=>.slice (atB (G n).b) k k,facts:=fun G=>[fs t (l G) ⟨atB (G n).b,k,k⟩] }
  τ:=Option (Result Next) × Nat × List Value × Bool × Bool × List (Option (Bool × (Ent→Heaplet→Prop)) × Bool) × List α
  lhs c i G g w:=(c.R.ex P G i w,i,(arr G).toList,decide (k≤maxLen),tOk t qs,qs.map (Kv.chk c i G),l (c.R.vis i (RC.put G i g)))
  rhs _ _ G _ w:=(some (.ok (.value (.slice (atB w.heap.size) k k)) { w with heap:=w.heap.push (.cells (arr G) E) }),n,(rows (l G)).flatten,true,true,qs.map (Kv.want G),l G)
  sound c i ok hil hi h:=fun o ho G w hs=>by
    have h0:=fun g=>h G g w
    simp only [Prod.mk.injEq,RC.ex,ho,Option.map_some,Option.some.injEq] at h0
    obtain ⟨e1,rfl,e4,e5,e6,e7,_⟩:=h0 {}
    unfold Does
    rw [e1]
    have hv:=Cx.vis_self (c:=c) (i:=i) (G:=G) { b:=w.heap.size,H:=entH (some (w.heap.size,.cells (arr G) E)) }
    have e8:=(h0 { b:=w.heap.size,H:=entH (some (w.heap.size,.cells (arr G) E)) }).2.2.2.2.2.2
    have hfr:∀ b,entH (some (w.heap.size,.cells (arr G) E)) b≠none→w.heap.size≤b:=entH_new (w0:=w) fun b o he=>by cases he;exact Nat.le_refl _
    obtain ⟨a1,a2,a3,a4⟩:=ahead ok hil hs (g:={ b:=w.heap.size,H:=entH (some (w.heap.size,.cells (arr G) E)) }) hfr
    refine ⟨{ b:=w.heap.size,H:=entH (some (w.heap.size,.cells (arr G) E)) },left_grow ok hil hi hs rfl (base_push _ _) (entH_agrees (e:=some (w.heap.size,.cells (arr G) E)) fun b o he=>by cases he;exact push_get) hfr (fun f hf=>?_) trivial ?_⟩
    · have hf:f=fs t (l (c.R.vis i (RC.put G i { b:=w.heap.size,H:=entH (some (w.heap.size,.cells (arr G) E)) }))) ⟨atB (c.R.vis i (RC.put G i { b:=w.heap.size,H:=entH (some (w.heap.size,.cells (arr G) E)) }) i).b,k,k⟩:=by simpa using hf
      rw [hv,e8] at hf
      subst hf
      have key:∀ H K,Sub H K→Sub (entH (some (w.heap.size,.cells (arr G) E))) K→(∀ x ∈ l G,Dat.good H x)→RSl K (l G) (.slice (atB w.heap.size) k k):=fun H K k1 k2 hg=>(OSl.lit (E:=E) (g:=w.heap.size) hg (by rw [e4,hk,e5])).frozen k1 k2
      have hR:=hq G _ (allR_of ok hil hs e7 e6)
      show bif t then _ else _
      cases t
      · exact key _ _ a2 a4 hR
      · exact key _ _ a1 a3 hR
    · rw [Cx.valOf hi]
      show Value.slice _ _ _=_
      rw [hv]
def apG {α:Type} [Dat α] (n r:Nat) (E:TypeId) (bytes:Nat) (z t:Bool) (l:List α) (s:Gh→SV) (src:Src) (ts:Bool) (m:Gh→List α) (k:Nat) (hk:∀ G,(m G).length=k) (s2:Gh→SV) (t2:Bool) (hb:(l.length+k) * bytes≤140737488355328)
    (hz:z=true→l=[]∧∀ G,s G={}) (ht:t2=true→t=true∧ts=true):Hint P where
  d:={ val:=fun G=>(G n).s.v,news:=[(r,fun G=>os t2 E (l ++m G) (G n).s,fun G=>(G n).e)] }
  τ:=Option (TypeId × TypeId × Value × Value) × Option TypeId × Option (Nat × Nat × Option Nat) × Option LE × Nat × Bool × Bool × (Option (Bool × (Ent→Heaplet→Prop)) × Bool) × List α
  lhs c i G g _:=(c.R.apr G i,sliceOf P (c.R.apt G i),infoOf P E,c.leAt i r G,i,decide (0 < Dat.size α),decide (0 < bytes),src.what c i G,m (c.R.vis i (RC.put G i g)))
  rhs c i G _ _:=(some (c.R.apt G i,c.R.apt G i,(s G).v,(s2 G).v),some E,some (Dat.size α,bytes,some (Dat.size α)),some (nilOr t E l (s G) z),n,true,true,(some (ts,fun _ H=>RSl H (m G) (s2 G).v),true),m G)
  sound c i ok hil hi h:=fun o ho G w hs=>by
    have h0:=fun g=>h G g w
    simp only [Prod.mk.injEq] at h0
    obtain ⟨e1,e2,e3,e4,rfl,e6,e7,e8,_⟩:=h0 {}
    have hw:c.R.wrE r i=true:=by unfold RC.wrE;rw [Cx.upsOf hi];simp
    obtain ⟨en,a1,a2,a3⟩:=Cx.own_at ok hil hs e4 (by rw [hw];simp)
    obtain ⟨own,hgood⟩:=nilOr_own (fun hz'=>⟨(hz hz').1,(hz hz').2 G⟩) a2
    obtain ⟨e',q1,q2,_⟩:=Src.get ok hil hs e8
    have hx:RSl (c.J i G ts) (m G) (s2 G).v:=q1
    obtain ⟨v',en',w',hr,ho',hg⟩:=append_does ho e1 e2 e3 (of_decide_eq_true e6) (of_decide_eq_true e7) own a3 hx.sl (Cx.J_le hs ts) (by simpa [hk] using hb)
    obtain ⟨s',rfl⟩:=own_sv ho'
    unfold Does
    rw [hr]
    have hv:=Cx.vis_self (c:=c) (i:=i) (G:=G) { s:=s',e:=en' }
    have e9:=(h0 { s:=s',e:=en' }).2.2.2.2.2.2.2.2
    refine ⟨{ s:=s',e:=en' },left_turn ok hil hi hs rfl rfl a1 hg ?_ ?_ rfl rfl ?_⟩
    · show (c.R.vis i (RC.put G i { s:=s',e:=en' }) i).e=_
      rw [hv]
    · show bif t2 then OSl E _ _ _ _ else OSl E _ _ _ _
      rw [hv,e9]
      have ho2:OwnS E (Dat.size α) (rows (l ++m G)) s'.v en':=by rw [rows_append];exact ho'
      have fin:∀ x ∈ l ++m G,Dat.good (c.J i G t2) x:=fun x hx'=>by
        rcases List.mem_append.1 hx' with hx' | hx'
        · cases t2 with
          | true=>have:=hgood x hx';rw [(ht rfl).1] at this;exact this
          | false =>
            have:=hgood x hx'
            cases t
            · exact this
            · exact Dat.mono _ _ _ (Cx.J_true_le hs false) this
        · cases t2 with
          | true=>have:=hx.good x hx';rw [(ht rfl).2] at this;exact this
          | false=>exact Dat.mono _ _ _ (Cx.J_le_false hs _) (hx.good x hx')
      cases t2
      · exact ⟨ho2,fin⟩
      · exact ⟨ho2,fin⟩
    · rw [Cx.valOf hi]
      show SV.v _=_
      rw [hv]
end Hint

open Go
structure Rw where
  s:SV:={}
instance : Dat Rw where
  default := {}
  size := 1
  cells x := [x.s.v]
  good _ _ := True
  len _ := rfl
  one _ _ _ u hu := by simp at hu; subst hu; rfl
  mono _ _ _ _ _ := trivial
  zero _ := trivial
def rw' {α:Type} (l:List (Fat α)):List Rw:=l.map fun x=>⟨x.s⟩
@[simp] theorem rw_length {α:Type} (l:List (Fat α)):(rw' l).length=l.length:=by simp [rw']
namespace Hint
variable {P : Program}
def seG {α:Type} [Dat α] {g:Prop} (Γ:GdI g) (n r:Nat) (E:TypeId) (t:Bool) (l:List α) (s:Gh→SV) (k:Int) (off:Option Nat) (x:α) (x':Gh→α) (hx:x=l.getD k.toNat default) (t2:Bool) (h:g→0≤k∧k < l.length)
    (ht:t2=true→t=true) (qs:List Kv) (hq:∀ G H,(∀ x ∈ l,Dat.good H x)→allR qs G H→Dat.good H (x' G)):Hint P where
  d:={ val:=fun _=>undef,news:=[(r,fun G=>os t2 E (l.set k.toNat (x' G)) (s G),fun G=>(G n).e)] }
  τ:=Option (TypeId × Value × Value) × Option Nat × Bool × Option LE × Nat × Bool × List Value × Bool × List (Option (Bool × (Ent→Heaplet→Prop)) × Bool) × SV × Option Bool × α
  lhs c i G g _:=(c.R.str G i,sizeT P (c.R.stt i),decide (off.getD 0+(c.R.stv G i).cells.toList.length≤Dat.size α),c.leAt i r G,i,(c.R.stv G i).cells.toList.all cell1,Dat.cells (x' G),tOk t2 qs,qs.map (Kv.chk c i G),s (c.R.vis i (RC.put G i g)),Γ.B.map fun _=>c.R.gd G i,x' (c.R.vis i (RC.put G i g)))
  rhs c i G _ _:=(some (c.R.stt i,.pointer (some (offA (elemAddr (s G).v (k.toNat * Dat.size α)) off)),c.R.stv G i),some (c.R.stv G i).cells.toList.length,true,some (os t E l (s G)),n,true,writeL (Dat.cells x) (off.getD 0) (c.R.stv G i).cells.toList,true,qs.map (Kv.want G),s G,Γ.B,x' G)
  sound c i ok hil hi h0:=fun o ho G w hs=>by
    have h1:=fun g=>h0 G g w
    simp only [Prod.mk.injEq] at h1
    obtain ⟨e1,e2,e3,e4,rfl,e6,e7,e8,e9,_,e11,_⟩:=h1 {}
    obtain ⟨b0,b1⟩:=h (Cx.gdOk Γ hs e11)
    have hw:c.R.wrE r i=true:=by unfold RC.wrE;rw [Cx.upsOf hi];simp
    obtain ⟨en,a1,a2,a3⟩:=Cx.own_at ok hil hs e4 (by rw [hw];simp)
    have own:OwnS E (Dat.size α) (rows l) (s G).v en∧∀ x ∈ l,Dat.good (c.J i G t) x:=by
      unfold os ow LE.at at a2
      cases t
      · exact ⟨a2.sl,a2.good⟩
      · exact ⟨a2.sl,a2.good⟩
    obtain ⟨en',w',hr,ho',hg⟩:=storeOwn_does (w:=w) (k:=k.toNat) (row:=Dat.cells x) ho e1 (offA_eq _ _) e2 rfl own.1 a3 (get_map' (by omega) hx) (of_decide_eq_true e3) e6
    unfold Does
    rw [hr]
    have hv:=Cx.vis_self (c:=c) (i:=i) (G:=G) { e:=en' }
    have hsv:=(h1 { e:=en' }).2.2.2.2.2.2.2.2.2.1
    have hxv:=(h1 { e:=en' }).2.2.2.2.2.2.2.2.2.2.2
    refine ⟨{ e:=en' },left_turn ok hil hi hs rfl rfl a1 hg ?_ ?_ rfl rfl (by rw [Cx.valOf hi])⟩
    · show (c.R.vis i (RC.put G i { e:=en' }) i).e=_
      rw [hv]
    · show bif t2 then OSl E _ (l.set k.toNat (x' (c.R.vis i (RC.put G i { e:=en' })))) _ _ else OSl E _ (l.set k.toNat (x' (c.R.vis i (RC.put G i { e:=en' })))) _ _
      rw [hv,hsv,hxv]
      have ho2:OwnS E (Dat.size α) (rows (l.set k.toNat (x' G))) (s G).v en':=by
        have:rows (l.set k.toNat (x' G))=(rows l).set k.toNat (writeL (Dat.cells x) (off.getD 0) (c.R.stv G i).cells.toList):=by rw [←e7];simp [rows,List.map_set]
        rw [this];exact ho'
      have hgl:∀ x ∈ l,Dat.good (c.J i G t2) x:=fun y hy=>by
        cases t2 with
        | true=>rw [←ht rfl];exact own.2 y hy
        | false=>exact Dat.mono _ _ _ (Cx.J_le_false hs _) (own.2 y hy)
      have fin:∀ x ∈ l.set k.toNat (x' G),Dat.good (c.J i G t2) x:=fun y hy=>by
        rcases List.mem_or_eq_of_mem_set hy with hy | hy
        · exact hgl y hy
        · rw [hy];exact hq G _ hgl (allR_of ok hil hs e9 e8)
      cases t2
      · exact ⟨ho2,fin⟩
      · exact ⟨ho2,fin⟩
end Hint

open Go
def bl (s:ByteArray):List UInt8:=s.data.toList
@[simp] theorem bl_len (s:ByteArray):(bl s).length=s.size:=by unfold bl;rw [Array.length_toList];rfl
@[simp] theorem bl_append (a b:ByteArray):bl (a ++b)=bl a ++bl b:=by simp [bl,ByteArray.data_append]
@[simp] theorem bl_empty:bl ByteArray.empty=[]:=rfl
namespace Hint
variable {P : Program}
def ek {g:Prop} (Γ:GdI g) (k:IntKind) (t n:Int) (h:g→k.wrap t=n):Hint P:=e Γ (.int k (k.wrap t)) (.int k n) fun hg=>by rw [h hg]
end Hint

open Go
def FP.up (f:FP):FP:=⟨true,f.p,f.m,f.q,f.hq⟩
namespace Hint
variable {P : Program}
def eb (x:Value) (b:Bool) (hxy:x=.bool b):Hint P where
  d:={ val:=fun _=>.bool b,sure:=some b,sok:=fun b' h _=>by cases h;rfl }
  τ:=Option (Result Next) × Value
  lhs c i G _ w:=(c.R.ex P G i w,c.R.val i (RC.put G i {}))
  rhs _ _ _ _ w:=(some (.ok (.value x) w),.bool b)
  sound c i _ _ hi h:=fun o ho G w hs=>by
    have h0:=h G {} w
    simp only [Prod.mk.injEq,RC.ex,ho,Option.map_some,Option.some.injEq] at h0
    exact Cx.still hi rfl (fun _=>⟨rfl,rfl⟩) ho h0.1 (by rw [h0.2,hxy])
end Hint
theorem V.g {P:Program} {E:Env P} {S:Stop} {t:St} (hs:List (Hint P)) (k:∀ N ε G,let S':=S.next;let t':=post (cxOf E S t hs N ε) G;V E S' t')
    (hk:∀ N ε,(S,(cxOf E S t hs N ε).R.check E.nt,hs.length,lhsAll (cxOf E S t hs N ε) hs 0)=(.reg S.rid S.ops S.dr S.K,true,S.ops.size,rhsAll (cxOf E S t hs N ε) hs 0):=by intro _ _;kernel_rfl):V E S t:=V.go hs hk k
theorem V.r {P:Program} {E:Env P} {S:Stop} {t:St} (hs:List (Hint P)) (k:∀ N ε G,Knw ((cxOf E S t hs N ε).know G)→let S':=S.next;let t':=post (cxOf E S t hs N ε) G;V E S' t')
    (hk:∀ N ε,(S,(cxOf E S t hs N ε).R.check E.nt,hs.length,lhsAll (cxOf E S t hs N ε) hs 0)=(.reg S.rid S.ops S.dr S.K,true,S.ops.size,rhsAll (cxOf E S t hs N ε) hs 0):=by intro _ _;kernel_rfl):V E S t:=V.reg hs hk k
def rcs (ss : List SV) (sls : List (Nat → SV)) (bs : List Nat) (N : Heaplet) (es : Nat → Ent) : Rec := { H := N, ss := fun k => ss.getD k {}, sl := fun k => sls.getD k (fun _ => {}), bs := fun k => bs.getD k 0, es := es }
theorem V.rt {P : Program} {S : Stop} {t : St} {mo : P.follows .mixedOrders = true} {fn : Func} {nt : Nat} {w0 : World} {H : Heaplet} {olds : List Ent} {V' : Rec → Value} {F' : Rec → List FP} {L' : Rec → List LE} {pu : Rec → List Prop} (rr : List Nat) (ss : List SV) (sls : List (Nat → SV)) (bs : List Nat) (fi li : List Nat) (v : Value) {x y : Value} (hc : x = y) (h1 : v = x := by kernel_rfl) (h2 : ∀ N es, y = V' (rcs ss sls bs N es) := by intro _ _; kernel_rfl) (hk : ∀ N es, (S.isEnd, fn.results.size == rr.length, (fn.results.toList.zip rr).map (resC P t), tupV ((fn.results.toList.zip rr).map (resV P t)), fi.length, (fi.zip (F' (rcs ss sls bs N es))).map (fun p => (t.F[p.1]?).map fun x => matchF x p.2), nodup li, li.length, (li.zip (L' (rcs ss sls bs N es))).map (fun p => (t.L[p.1]?).map fun x => matchL x p.2)) = (true, true, (fn.results.toList.zip rr).map (resC' P t), v, (F' (rcs ss sls bs N es)).length, (F' (rcs ss sls bs N es)).map some, true, (L' (rcs ss sls bs N es)).length, (L' (rcs ss sls bs N es)).map some) := by intro _ _; kernel_rfl) (hp : ∀ N es, conjL (pu (rcs ss sls bs N es)) := by intro _ _; trivial) : V (fnEnv mo fn nt w0 H olds V' F' L' pu) S t := V.ret rr ss sls bs fi li v hk (fun N es => (h1.trans hc).trans (h2 N es)) hp
theorem V.rs {P : Program} {S : Stop} {t : St} {mo : P.follows .mixedOrders = true} {fn : Func} {nt : Nat} {w0 : World} {H : Heaplet} {olds : List Ent} {V' : Rec → Value} {F' : Rec → List FP} {L' : Rec → List LE} {pu : Rec → List Prop} (rr : List Nat) (ss : List SV) (sls : List (Nat → SV)) (bs : List Nat) (fi li : List Nat) (v : Value) (h2 : ∀ N es, v = V' (rcs ss sls bs N es) := by intro _ _; kernel_rfl) (hk : ∀ N es, (S.isEnd, fn.results.size == rr.length, (fn.results.toList.zip rr).map (resC P t), tupV ((fn.results.toList.zip rr).map (resV P t)), fi.length, (fi.zip (F' (rcs ss sls bs N es))).map (fun p => (t.F[p.1]?).map fun x => matchF x p.2), nodup li, li.length, (li.zip (L' (rcs ss sls bs N es))).map (fun p => (t.L[p.1]?).map fun x => matchL x p.2)) = (true, true, (fn.results.toList.zip rr).map (resC' P t), v, (F' (rcs ss sls bs N es)).length, (F' (rcs ss sls bs N es)).map some, true, (L' (rcs ss sls bs N es)).length, (L' (rcs ss sls bs N es)).map some) := by intro _ _; kernel_rfl) (hp : ∀ N es, conjL (pu (rcs ss sls bs N es)) := by intro _ _; trivial) : V (fnEnv mo fn nt w0 H olds V' F' L' pu) S t := V.ret rr ss sls bs fi li v hk h2 hp
theorem V.cn {P : Program} {E : Env P} {S : Stop} {t : St} {b : Bool} {φ ψ : Prop} (hb : b = true ↔ φ) (hb' : b = false ↔ ψ) (k1 : φ → V E S.inX t) (k2 : ψ → V E S.inY t) (hk : (S, cval t S.cn) = (.cond S.cn S.x S.y S.K, some (.bool b)) := by kernel_rfl) : V E S t := V.cond hb hb' hk k1 k2

open Go
theorem append_fresh_run {P:Program} {w:World} {t ty E:TypeId} {i:TypeInfo} {z:Value} {size bytes:Nat} (ht:P.underlying t=some (.slice E)) (hi:P.info? E=some i) (hz:i.zero=some z)
    (hsize:i.size=size) (hby:i.bytes=bytes) (hzs:z.cells.size=size) (hsz:0 < size)
    {rows news:List (List Value)} {v x:Value} {H:Heaplet} (h:HSlice H size rows v) (hx:HSlice H size news x) (hA:Agrees w H) (hn:0 < rows.length) (hm:0 < news.length) (hfull:∀ a n c,v=.slice a n c→c≤rows.length)
    (hbytes:(rows.length+news.length) * bytes≤140737488355328) (h63:rows.length+news.length≤maxLen) :
    ∃ v' o w',(Builtin.append_ #[t,t] ty #[v,x]).run P w=.ok v' w'∧OwnS E size (rows ++news) v' (some (w.heap.size,o))∧w'.heap[w.heap.size]?=some o∧Base [] w w':=by
  subst hsize
  subst hby
  obtain ⟨xa,c,rfl,x1,x2,x3,x4⟩:=hx.val
  obtain ⟨va,d,rfl,v1,v2,v3,v4⟩:=h.val
  cases xa with
  | none=>have:=(x3 rfl).1;rw [this] at hm;simp at hm
  | some a =>
    cases va with
    | none=>have:=(v3 rfl).1;rw [this] at hn;simp at hn
    | some b =>
      have hd:d≤rows.length:=hfull _ _ _ rfl
      have hl:=flatten_len hx.len
      have ho:=flatten_len h.len
      have hr:=run_append_grow (P:=P) w t ty E i z ht hi hz b rows.length d rows.flatten ho (h.cells hA b _ d rfl) a news.length c news.flatten hl (hx.cells hA a _ c rfl) (by omega) (by simp only [maxLen] at h63;omega) (growslice_fits (by omega) hbytes)
      have hge:=grownCap_ge w (rows.length+news.length) d E
      have hcm:grownCap w (rows.length+news.length) d E≤maxLen:=grownCap_le_maxLen w (rows.length+news.length) d E h63
      refine ⟨_,_,_,hr,⟨fun r hr=>?_,fun r hr=>?_,.inr ⟨w.heap.size,_,_,by rw [List.length_append],rfl,by rw [List.length_append];exact hge,hcm,?_,?_⟩⟩,heap_alloc_new w.drew _,⟨rfl,rfl,rfl,by simp,fun k hk _=>heap_alloc_old w.drew _ k hk⟩⟩
      · rcases List.mem_append.1 hr with h' | h'
        · exact h.len r h'
        · exact hx.len r h'
      · rcases List.mem_append.1 hr with h' | h'
        · exact h.one r h'
        · exact hx.one r h'
      · simp only [Array.size_append,List.size_toArray,size_zeroCells,hzs,ho,hl,← Nat.add_mul]
        congr 1
        omega
      · simp only [Array.toList_append,List.append_assoc]
        rw [←List.append_assoc,List.flatten_append,List.length_append,Nat.add_mul,← ho,← hl,← List.length_append]
        exact List.take_left
theorem append_fresh_does {P:Program} {R:RC} {G:Gh} {i:Nat} {w:World} {o:Oper} (ho:R.ops[i]?=some o) {t E:TypeId} {size bytes:Nat} {rs news:List (List Value)} {v x:Value} {H:Heaplet}
    (e1:R.apr G i=some (t,t,v,x)) (e2:sliceOf P t=some E) (e3:infoOf P E=some (size,bytes,some size)) (hsz:0 < size) (hby:0 < bytes) (hv:HSlice H size rs v) (hx:HSlice H size news x) (hA:Agrees w H) (hn:0 < rs.length) (hm:0 < news.length) (hfull:∀ a n c,v=.slice a n c→c≤rs.length) (hbytes:(rs.length+news.length) * bytes≤140737488355328) :
    ∃ v' ob w',(execOp (R.evalAt G i) o).run P w=.ok (.value v') w'∧OwnS E size (rs ++news) v' (some (w.heap.size,ob))∧w'.heap[w.heap.size]?=some ob∧Base [] w w':=by
  have h63:rs.length+news.length≤maxLen:=by
    have:rs.length+news.length≤(rs.length+news.length) * bytes:=Nat.le_mul_of_pos_right _ hby
    simp only [maxLen];omega
  have hu:=slice_of e2
  unfold infoOf at e3
  cases hi:P.info? E with
  | none=>simp [hi] at e3
  | some inf =>
    simp only [hi,Option.map_some,Option.some.injEq,Prod.mk.injEq] at e3
    obtain ⟨i1,i2,i3⟩:=e3
    cases hz:inf.zero with
    | none=>simp [hz] at i3
    | some z =>
      simp only [hz,Option.map_some,Option.some.injEq] at i3
      obtain ⟨v',ob,w',hr,ho',hg,hb⟩:=append_fresh_run (w:=w) (ty:=o.type) hu hi hz i1 i2 i3 hsz hv hx hA hn hm hfull hbytes h63
      refine ⟨v',ob,w',?_,ho',hg,hb⟩
      unfold RC.apr at e1
      rw [ho] at e1
      obtain ⟨dst,op,type,pos,after,guard⟩:=o
      simp only [Option.map_some] at e1
      split at e1
      · rename_i args argTypes heq
        simp only [Option.some.injEq] at heq
        subst heq
        split at e1
        · rename_i x y t' u' hx ht
          simp only [Option.some.injEq,Prod.mk.injEq] at e1
          obtain ⟨rfl,rfl,hv,hxv⟩:=e1
          obtain ⟨l,rfl⟩:∃ l:List Operand,args=l.toArray:=⟨args.toList,by simp⟩
          obtain ⟨l2,rfl⟩:∃ l:List TypeId,argTypes=l.toArray:=⟨argTypes.toList,by simp⟩
          simp only at hx ht
          subst hx ht
          simp only at hr
          simp [execOp,resolve,invoke,builtin,hv,hxv,hr]
        · cases e1
      · cases e1
namespace Hint
variable {P : Program}
def apx {α:Type} [Dat α] {l m:List α} {s1 s2:Gh→SV} (n:Nat) (E:TypeId) (bytes:Nat) (κ:Kw α l s1) (μ:Kw α m s2) (t2:Bool) (l2:List α) (hl:l2=l ++m) (hb:(l.length+m.length) * bytes≤140737488355328) (hn:0 < l.length) (hm:0 < m.length)
    (ht:t2=true→(κ.t=true∧μ.t=true)∨∀ (H:Heaplet) (x:α),Dat.good H x):Hint P where
  d:={ val:=fun G=>(G n).s.v,facts:=fun G=>[fs t2 l2 (G n).s],rds:=κ.rdr ++μ.rdr }
  τ:=Option (TypeId × TypeId × Value × Value) × Option TypeId × Option (Nat × Nat × Option Nat) × Nat × Bool × Bool × Nat × (Option (Bool × (Ent→Heaplet→Prop)) × Bool) × (Option (Bool × (Ent→Heaplet→Prop)) × Bool)
  lhs c i G _ _:=(c.R.apr G i,sliceOf P (c.R.apt G i),infoOf P E,i,decide (0 < Dat.size α),decide (0 < bytes),(s1 G).c,κ.lhs c i G,μ.lhs c i G)
  rhs c i G _ _:=(some (c.R.apt G i,c.R.apt G i,(s1 G).v,(s2 G).v),some E,some (Dat.size α,bytes,some (Dat.size α)),n,true,true,l.length,κ.rhs G,μ.rhs G)
  sound c i ok hil hi h:=fun o ho G w hs=>by
    have h0:=h G {} w
    simp only [Prod.mk.injEq] at h0
    obtain ⟨e1,e2,e3,rfl,e6,e7,e5,e8,e9⟩:=h0
    obtain ⟨ea,q1,q2,_⟩:=Src.get ok hil hs e8
    obtain ⟨eb,r1,r2,_⟩:=Src.get ok hil hs e9
    have hv:=κ.rd G ea _ _ q1 (Cx.J_le hs κ.t) (entH_agrees q2)
    have hx:=μ.rd G eb _ _ r1 (Cx.J_le hs μ.t) (entH_agrees r2)
    obtain ⟨v',ob,w',hr,ho',hob,hbs⟩:=append_fresh_does ho e1 e2 e3 (of_decide_eq_true e6) (of_decide_eq_true e7) hv.sl hx.sl (fun _ _ h=>h) (by simpa using hn) (by simpa using hm) (fun a n c e=>by
      have:(s1 G).v=.slice a n c:=e
      unfold SV.v at this
      cases this
      rw [e5];simp) (by simpa using hb)
    obtain ⟨s',rfl⟩:=own_sv ho'
    unfold Does
    rw [hr]
    have hfr:∀ b,entH (some (w.heap.size,ob)) b≠none→w.heap.size≤b:=entH_new (w0:=w) fun b o he=>by cases he;exact Nat.le_refl _
    have hvs:=Cx.vis_self (c:=c) (i:=i) (G:=G) { s:=s',H:=entH (some (w.heap.size,ob)) }
    obtain ⟨a1,a2,a3,a4⟩:=ahead ok hil hs (g:={ s:=s',H:=entH (some (w.heap.size,ob)) }) hfr
    refine ⟨{ s:=s',H:=entH (some (w.heap.size,ob)) },left_grow ok hil hi hs rfl hbs (entH_agrees (e:=some (w.heap.size,ob)) fun b o he=>by cases he;exact hob) hfr (fun f hf=>?_) trivial ?_⟩
    · have hf:f=fs t2 l2 (c.R.vis i (RC.put G i { s:=s',H:=entH (some (w.heap.size,ob)) }) i).s:=by simpa using hf
      rw [hvs] at hf
      subst hf
      have ho2:OwnS E (Dat.size α) (rows l2) s'.v (some (w.heap.size,ob)):=by rw [hl,rows_append];exact ho'
      have hg1:∀ x ∈ l,Dat.good (c.J i G κ.t) x:=κ.gd G ea _ q1
      have hg2:∀ x ∈ m,Dat.good (c.J i G μ.t) x:=μ.gd G eb _ r1
      have fin:∀ x ∈ l2,Dat.good (c.J i G t2) x:=fun x hx=>by
        rw [hl] at hx
        cases t2 with
        | true =>
          rcases ht rfl with ⟨h1,h2⟩ | h1
          · rcases List.mem_append.1 hx with hx | hx
            · have:=hg1 x hx;rw [h1] at this;exact this
            · have:=hg2 x hx;rw [h2] at this;exact this
          · exact h1 _ x
        | false =>
          rcases List.mem_append.1 hx with hx | hx
          · exact Dat.mono _ _ _ (Cx.J_le_false hs _) (hg1 x hx)
          · exact Dat.mono _ _ _ (Cx.J_le_false hs _) (hg2 x hx)
      have key:∀ H K,Sub H K→Sub (entH (some (w.heap.size,ob))) K→(∀ x ∈ l2,Dat.good H x)→RSl K l2 s'.v:=fun H K k1 k2 hg=>OSl.frozen (E:=E) ⟨ho2,hg⟩ k1 k2
      show bif t2 then _ else _
      cases t2
      · exact key _ _ a2 a4 fin
      · exact key _ _ a1 a3 fin
    · rw [Cx.valOf hi]
      show SV.v _=_
      rw [hvs]
end Hint
theorem V.exF {P:Program} {E:Env P} {S:Stop} {t:St} {α β:Type} [Dat α] [Dat β] (j:Nat) (b:Bool) (x:β) (l:List α) (s:SV) (hj:t.F[j]?=some (gf b x)) (pr:∀ H,Dat.good H x→RSl H l s.v) (k:V E S ⟨t.sl,t.F ++[fs b l s],t.L⟩):V E S t:=fun N ε a w hin=>k N ε a w ⟨hin.slots,hin.st,hin.new,fun f hf=>by
  rcases List.mem_append.1 hf with hf | hf
  · exact hin.facts f hf
  · have:f=fs b l s:=by simpa using hf
    subst this
    have h:=hin.facts _ (List.mem_of_getElem? hj)
    unfold FP.at at h ⊢
    cases b
    · exact pr _ h
    · exact pr _ h,hin.own⟩

open Go Go.Proofs
theorem mo:Try.prog.follows .mixedOrders=true:=by kernel_rfl

open Go Go.Proofs
set_option maxRecDepth 10000 in
theorem within_ct (n high:Int) :
    Cp Try.prog 54 #[iv n,iv high] [] (bv (decide (0≤n∧n≤high))):=by
  refine V.fn mo Try.func54 12 0 (by kernel_rfl) fun w H ε k0=>?_;clear k0
  refine V.g [.kb false] fun _ _ G1=>?_;intro S s
  refine V.g [.k (iv n),.k (bv (decide (0≤n))),.k (bv (decide (0≤n))),.k (iv n),.k (iv high),.k (bv (decide (n≤high))),.and g0 false (decide (0≤n)) (decide (n≤high)),.k (bv ((decide (0≤n)) && (decide (n≤high))))] fun _ _ G2=>?_;intro S s
  have e0:((decide (0≤n)) && (decide (n≤high)))=decide (0≤n∧n≤high):=by
    refine Bool.eq_iff_iff.2 (Iff.trans (iAT iDT iDT) (Iff.trans ?_ decide_eq_true_iff.symm));exact Iff.rfl
  exact V.rt [0] [] [] [] [] [] (bv ((decide (0≤n)) && (decide (n≤high)))) (cong1 (fun (x0:Bool)=>(bv x0:Value)) e0)
set_option maxRecDepth 10000 in
theorem leaf_ct (a:ByteArray) (c d e f:Int) :
    Cp Try.prog 35 #[ag (DThing.mk a c d e f)] [] (bv (decide (Tm.isLeaf ⟨a,c,d,e,f⟩))):=by
  refine V.fn mo Try.func35 29 1 (by kernel_rfl) fun w H ε k0=>?_;clear k0
  refine V.g [.nb 0 0 (fun b=>pp b 0) 41 (fun _=>ca (DThing.mk a c d e f)),.kb false] fun _ _ G1=>?_;intro S s
  refine nm ((decide (e=(-1))) && (decide (f=(-1))):Bool) fun p1 hp1=>?_;refine V.g [.k (pp ((G1 0).b) 3),.ld 0 3 false (fun _=>[iv e]),.k (bv (decide (e=(-1)))),.k (bv (decide (e=(-1)))),.k (pp ((G1 0).b) 4),.ld 0 4 false (fun _=>[iv f]),.k (bv (decide (f=(-1)))),.andn g0 false (decide (e=(-1))) (decide (f=(-1))) p1 hp1,.k (bv p1)] fun _ _ G2=>?_;intro S s
  refine nm ((p1 && (decide ((a.size:Int)≤8000))) && (decide (0≤c∧c≤(1099511627776:Int))):Bool) fun p2 hp2=>?_;refine nm (p2 && (decide (0≤d∧d≤(1099511627776:Int))):Bool) fun p3 hp3=>?_;refine V.g [.k (bv p1),.k (bv p1),.k (pp ((G1 0).b) 0),.ld 0 0 false (fun _=>[tv a]),.k (iv (a.size:Int)),.k (bv (decide ((a.size:Int)≤8000))),.and g0 false p1 (decide ((a.size:Int)≤8000)),.k (bv (p1 && (decide ((a.size:Int)≤8000)))),.k (pp ((G1 0).b) 1),.ld 0 1 false (fun _=>[iv c]),.cp (gT (b:=p1 && (decide ((a.size:Int)≤8000))) (iAT (iN hp1 (iAT iDT iDT)) iDT)) 10 54 [] (fun hg G=>within_ct c (1099511627776:Int)),.andn g0 false (p1 && (decide ((a.size:Int)≤8000))) (decide (0≤c∧c≤(1099511627776:Int))) p2 hp2,.k (bv p2),.k (pp ((G1 0).b) 2),.ld 0 2 false (fun _=>[iv d]),.cp (gT (b:=p2) (iN hp2 (iAT (iAT (iN hp1 (iAT iDT iDT)) iDT) iDT))) 15 54 [] (fun hg G=>within_ct d (1099511627776:Int)),.andn g0 false p2 (decide (0≤d∧d≤(1099511627776:Int))) p3 hp3,.k (bv p3)] fun _ _ G3=>?_;intro S s
  have e0:p3=decide (Tm.isLeaf ⟨a,c,d,e,f⟩):=by
    refine Bool.eq_iff_iff.2 (Iff.trans (iN hp3 (iAT (iN hp2 (iAT (iAT (iN hp1 (iAT iDT iDT)) iDT) iDT)) iDT)) (Iff.trans ?_ decide_eq_true_iff.symm));simp only [Tm.isLeaf];omega
  exact V.rt [0] [] [] [] [] [] (bv p3) (cong1 (fun (x0:Bool)=>(bv x0:Value)) e0)
set_option maxRecDepth 10000 in
theorem pair_ct (l:List DThing) (ls:SV) (left right:Int) (hbd:∀ x ∈ l,Tm.Bd x) :
    Cp Try.prog 36 #[ls.v,iv left,iv right] [fs true l ls] (.tuple #[ag (Tm.pairT l left right),iv (Tm.pairE l left right)]):=by
  refine V.fn mo Try.func36 57 4 (by kernel_rfl) fun w H ε k0=>?_;obtain ⟨⟨kl1, -⟩, -⟩:Lq l ls.v∧True:=kq k0
  clear k0;refine V.g [.nb 0 0 (fun b=>pp b 0) 41 (fun _=>ca (DThing.mk ByteArray.empty 0 0 0 0)),.k (iv 0)] fun _ _ G1=>?_;intro S s
  refine nm ((l.length:Int)-1:Int) fun n1 hn1=>?_;refine nm ((!(decide (0≤left∧left≤n1))) || (!(decide (0≤right∧right≤n1))):Bool) fun p1 hp1=>?_;refine V.g [.k (iv left),.k (ls.v),.ln (kf false (.f 0) l (fun _=>ls)),.ar ((l.length:Int)-1) n1 hn1 (by omega) (by omega),.cp g0 4 54 [] (fun _ G=>within_ct left n1),.k (bv (!(decide (0≤left∧left≤n1)))),.k (bv (!(decide (0≤left∧left≤n1)))),.k (iv right),.k (ls.v),.ln (kf false (.f 0) l (fun _=>ls)),.arg (gF (b:=!(decide (0≤left∧left≤n1))) (iNF iDT)) ((l.length:Int)-1) n1 hn1 (fun hg=>by omega),.cp (gF (b:=!(decide (0≤left∧left≤n1))) (iNF iDT)) 11 54 [] (fun hg G=>within_ct right n1),.k (bv (!(decide (0≤right∧right≤n1)))),.orn g0 false (!(decide (0≤left∧left≤n1))) (!(decide (0≤right∧right≤n1))) p1 hp1] fun _ _ G2=>?_;intro S s
  refine V.cn (b:=p1) (iN hp1 (iOT (iNT iDF) (iNT iDF))) (iN hp1 (iOF (iNF iDT) (iNF iDT))) (fun q1=>?_) (fun q2=>?_)
  · refine V.g [.k (ag (DThing.mk ByteArray.empty 0 0 0 0)),.st 0 (fun _=>.blk ((G1 0).b) (ca (DThing.mk ByteArray.empty 0 0 0 0)) 41),.k (iv 4)] fun _ _ G3=>?_;intro S s
    have hp:=Tm.pairE_no (l:=l) (a:=left) (b:=right) (by unfold Tm.has;omega);have hT:=Tm.pairT_no (l:=l) (a:=left) (b:=right) (by omega);have e0:ByteArray.empty=(Tm.pairT l left right).Text:=by first | rw [hT] | exact hp.symm
    have e1:(0:Int)=(Tm.pairT l left right).Value:=by first | rw [hT] | exact hp.symm
    have e2:(0:Int)=(Tm.pairT l left right).Blind:=by first | rw [hT] | exact hp.symm
    have e3:(0:Int)=(Tm.pairT l left right).Left:=by first | rw [hT] | exact hp.symm
    have e4:(0:Int)=(Tm.pairT l left right).Right:=by first | rw [hT] | exact hp.symm
    have e5:(4:Int)=Tm.pairE l left right:=by first | rw [hT] | exact hp.symm
    exact V.rt [0,0] [] [] [] [] [] (.tuple #[ag (DThing.mk ByteArray.empty 0 0 0 0),iv 4]) (cong6 (fun (x0:ByteArray) (x1 x2 x3 x4 x5:Int)=>(.tuple #[.agg #[tv x0,iv x1,iv x2,iv x3,iv x4],iv x5]:Value)) e0 e1 e2 e3 e4 e5)
  refine nm (l.getD left.toNat default:DThing) fun x1 hx1=>?_;refine nm (l.getD right.toNat default:DThing) fun x2 hx2=>?_;refine V.g [.k (ls.v),.k (iv left),.ix g0 (kf false (.f 0) l (fun _=>ls)) left (fun _=>⟨by omega,by omega⟩),.le g0 (kf false (.f 0) l (fun _=>ls)) left none false x1 hx1 (fun _=>⟨by omega,by omega⟩) true (fun _=>Dat.cells x1),.k (ls.v),.k (iv right),.ix g0 (kf false (.f 0) l (fun _=>ls)) right (fun _=>⟨by omega,by omega⟩),.le g0 (kf false (.f 0) l (fun _=>ls)) right none false x2 hx2 (fun _=>⟨by omega,by omega⟩) true (fun _=>Dat.cells x2),.nb 8 1 (fun b=>pp b 0) 41 (fun _=>ca (DThing.mk ByteArray.empty 0 0 0 0)),.nb 9 2 (fun b=>pp b 0) 41 (fun _=>ca (DThing.mk ByteArray.empty 0 0 0 0)),.st 1 (fun G=>.blk ((G 8).b) (ca x1) 41),.st 2 (fun G=>.blk ((G 9).b) (ca x2) 41)] fun _ _ G4=>?_;intro S s
  have hba:=hbd x1 (getD_mem (l:=l) (k:=left.toNat) (by omega) hx1);have hbb:=hbd x2 (getD_mem (l:=l) (k:=right.toNat) (by omega) hx2);unfold Tm.Bd at hba hbb;refine nm (x1.Value+x2.Value:Int) fun n2 hn2=>?_;refine nm (x1.Blind+x2.Blind:Int) fun n3 hn3=>?_;refine V.g [.k (pp ((G4 8).b) 1),.ld 1 1 false (fun _=>[iv x1.Value]),.k (pp ((G4 9).b) 1),.ld 2 1 false (fun _=>[iv x2.Value]),.ar (x1.Value+x2.Value) n2 hn2 (by omega) (by omega),.k (pp ((G4 8).b) 2),.ld 1 2 false (fun _=>[iv x1.Blind]),.k (pp ((G4 9).b) 2),.ld 2 2 false (fun _=>[iv x2.Blind]),.ar (x1.Blind+x2.Blind) n3 hn3 (by omega) (by omega),.k (iv left),.k (iv right),.k (ag (DThing.mk ByteArray.empty n2 n3 left right)),.nb 13 3 (fun b=>pp b 0) 41 (fun _=>ca (DThing.mk ByteArray.empty 0 0 0 0)),.st 3 (fun G=>.blk ((G 13).b) (ca (DThing.mk ByteArray.empty n2 n3 left right)) 41)] fun _ _ G5=>?_;intro S s
  refine nm ((decide (1125899906842624 < n2)) || (decide (1125899906842624 < n3)):Bool) fun p2 hp2=>?_;refine V.g [.k (pp ((G5 13).b) 1),.ld 3 1 false (fun _=>[iv n2]),.k (bv (decide (1125899906842624 < n2))),.k (bv (decide (1125899906842624 < n2))),.k (pp ((G5 13).b) 2),.ld 3 2 false (fun _=>[iv n3]),.k (bv (decide (1125899906842624 < n3))),.orn g0 false (decide (1125899906842624 < n2)) (decide (1125899906842624 < n3)) p2 hp2] fun _ _ G6=>?_;intro S s
  refine V.cn (b:=p2) (iN hp2 (iOT iDT iDT)) (iN hp2 (iOF iDF iDF)) (fun q3=>?_) (fun q4=>?_)
  · refine V.g [.k (ag (DThing.mk ByteArray.empty 0 0 0 0)),.st 0 (fun _=>.blk ((G1 0).b) (ca (DThing.mk ByteArray.empty 0 0 0 0)) 41),.k (iv 3)] fun _ _ G7=>?_;intro S s
    have hh:Tm.has l left∧Tm.has l right:=by unfold Tm.has;omega
    have hp:=Tm.pairE_big hx1 hx2 hh (by omega);have hT:=Tm.pairT_no (l:=l) (a:=left) (b:=right) (by omega);have e0:ByteArray.empty=(Tm.pairT l left right).Text:=by first | rw [hT] | exact hp.symm
    have e1:(0:Int)=(Tm.pairT l left right).Value:=by first | rw [hT] | exact hp.symm
    have e2:(0:Int)=(Tm.pairT l left right).Blind:=by first | rw [hT] | exact hp.symm
    have e3:(0:Int)=(Tm.pairT l left right).Left:=by first | rw [hT] | exact hp.symm
    have e4:(0:Int)=(Tm.pairT l left right).Right:=by first | rw [hT] | exact hp.symm
    have e5:(3:Int)=Tm.pairE l left right:=by first | rw [hT] | exact hp.symm
    exact V.rt [0,0] [] [] [] [] [] (.tuple #[ag (DThing.mk ByteArray.empty 0 0 0 0),iv 3]) (cong6 (fun (x0:ByteArray) (x1 x2 x3 x4 x5:Int)=>(.tuple #[.agg #[tv x0,iv x1,iv x2,iv x3,iv x4],iv x5]:Value)) e0 e1 e2 e3 e4 e5)
  refine V.g [.ld 3 0 true (fun _=>Dat.cells (DThing.mk ByteArray.empty n2 n3 left right)),.st 0 (fun _=>.blk ((G1 0).b) (ca (DThing.mk ByteArray.empty n2 n3 left right)) 41),.k (iv 0)] fun _ _ G8=>?_;intro S s
  have hh:Tm.has l left∧Tm.has l right:=by unfold Tm.has;omega
  have hp:=Tm.pairE_ok hx1 hx2 hh (by omega);have hT:=Tm.pairT_ok hx1 hx2 hp (v:=n2) (w:=n3) (by omega) (by omega);have e0:ByteArray.empty=(Tm.pairT l left right).Text:=by first | rw [hT] | exact hp.symm
  have e1:n2=(Tm.pairT l left right).Value:=by first | rw [hT] | exact hp.symm
  have e2:n3=(Tm.pairT l left right).Blind:=by first | rw [hT] | exact hp.symm
  have e3:left=(Tm.pairT l left right).Left:=by first | rw [hT] | exact hp.symm
  have e4:right=(Tm.pairT l left right).Right:=by first | rw [hT] | exact hp.symm
  have e5:(0:Int)=Tm.pairE l left right:=by first | rw [hT] | exact hp.symm
  exact V.rt [0,0] [] [] [] [] [] (.tuple #[ag (DThing.mk ByteArray.empty n2 n3 left right),iv 0]) (cong6 (fun (x0:ByteArray) (x1 x2 x3 x4 x5:Int)=>(.tuple #[.agg #[tv x0,iv x1,iv x2,iv x3,iv x4],iv x5]:Value)) e0 e1 e2 e3 e4 e5)
set_option maxRecDepth 10000 in
theorem sound_ct (v:List DThing) (vs:SV) :
    Cp Try.prog 18 #[ag (DVault.mk ⟨v,vs⟩)] [fs true v vs] (bv (decide (Tm.Sound v))):=by
  refine V.fn mo Try.func18 41 3 (by kernel_rfl) fun w H ε k0=>?_;obtain ⟨⟨kl1, -⟩, -⟩:Lq v vs.v∧True:=kq k0
  clear k0;refine V.g [.nb 0 0 (fun b=>pp b 0) 24 (fun _=>ca (DVault.mk ⟨v,vs⟩)),.kb false] fun _ _ G1=>?_;intro S s
  refine V.g [.k (pp ((G1 0).b) 0),.ld 0 0 false (fun _=>[vs.v]),.ln (kf false (.f 0) v (fun _=>vs)),.k (bv (decide (2000 < (v.length:Int))))] fun _ _ G2=>?_;intro S s
  refine V.cn (b:=decide (2000 < (v.length:Int))) iDT iDF (fun q1=>?_) (fun q2=>?_)
  · refine V.g [.kb false] fun _ _ G3=>?_;intro S s
    have e0:false=decide (Tm.Sound v):=Tm.sound_len (by omega);exact V.rt [0] [] [] [] [] [] (bv false) (cong1 (fun (x0:Bool)=>(bv x0:Value)) e0)
  refine V.g [.k (pp ((G1 0).b) 0),.ld 0 0 false (fun _=>[vs.v]),.ln (kf false (.f 0) v (fun _=>vs)),.k (iv 0)] fun _ _ G4=>?_;intro S s
  refine V.loop (γ:=Int) (fun k0=>⟨[(1,pp ((G1 0).b) 0),(12,vs.v),(13,iv (v.length:Int)),(14,iv k0)],[fs false v vs],[.blk ((G1 0).b) (ca (DVault.mk ⟨v,vs⟩)) 24,.no,.no]⟩) (fun k0=>(0≤k0)∧(k0≤(v.length:Int))∧(Tm.okTo v k0.toNat)) (fun k0=>((v.length:Int)-k0).toNat) 0 (by kernel_rfl) [0] (by kernel_rfl) ?_ ?_
  · refine ⟨?_,?_,?_⟩
    · show 0≤(0:Int)
      first | omega | rfl | (simp;done) | (subst_vars;simp;done)
    · show (0:Int)≤(v.length:Int)
      first | omega | rfl | (simp;done) | (subst_vars;simp;done)
    show Tm.okTo v (0:Int).toNat;intro i hi;simp at hi
  rintro k0 hF1 kw5 Z1 hZ1;have hF1:(0≤k0)∧(k0≤(v.length:Int))∧(Tm.okTo v k0.toNat):=hF1;obtain ⟨hf1,hf2,hf3⟩:=hF1;clear kw5;refine V.g [.k (bv (decide (k0 < (v.length:Int))))] fun _ _ G5=>?_;intro S s;refine V.cn (b:=decide (k0 < (v.length:Int))) iDT iDF (fun q3=>?_) (fun q4=>?_)
  · refine nm (v.getD k0.toNat default:DThing) fun x1 hx1=>?_;refine V.g [.k (iv k0),.ix g0 (kf false (.f 0) v (fun _=>vs)) k0 (fun _=>⟨by omega,by omega⟩),.le g0 (kf false (.f 0) v (fun _=>vs)) k0 none false x1 hx1 (fun _=>⟨by omega,by omega⟩) true (fun _=>Dat.cells x1),.nb 3 1 (fun b=>pp b 0) 41 (fun _=>ca (DThing.mk ByteArray.empty 0 0 0 0)),.k (iv k0),.st 1 (fun G=>.blk ((G 3).b) (ca x1) 41)] fun _ _ G6=>?_;intro S s
    refine V.g [.ld 1 0 true (fun _=>Dat.cells x1),.cp g0 1 35 [] (fun _ G=>leaf_ct x1.Text x1.Value x1.Blind x1.Left x1.Right)] fun _ _ G7=>?_;intro S s
    refine V.cn (b:=decide (Tm.isLeaf ⟨x1.Text,x1.Value,x1.Blind,x1.Left,x1.Right⟩)) iDT iDF (fun q5=>?_) (fun q6=>?_)
    · refine V.g [.a (k0+1) (by omega) (by omega),.k (iv (k0+1))] fun _ _ G8=>?_;intro S s
      refine V.rnd hZ1 (k0+1) [0] (by kernel_rfl) ?_ ?_
      · refine ⟨?_,?_,?_⟩
        · show 0≤(k0+1)
          first | omega | rfl | (simp;done) | (subst_vars;simp;done)
        · show (k0+1)≤(v.length:Int)
          first | omega | rfl | (simp;done) | (subst_vars;simp;done)
        show Tm.okTo v (k0+1).toNat;refine Tm.sound_step (by assumption) (by assumption) (by assumption) rfl (Tm.okT_iff.2 ?_);exact .inl (by assumption)
      show ((v.length:Int)-(k0+1)).toNat < ((v.length:Int)-k0).toNat;omega
    refine nm (v.take k0.toNat:List DThing) fun l1 hl1=>?_;have hl1n:=congrArg List.length hl1;try simp only [List.length_append,List.length_cons,List.length_nil,List.length_replicate,List.length_set,List.length_take,List.length_drop,List.length_map,List.length_reverse,List.length_range] at hl1n
    refine V.r [.k (pp ((G1 0).b) 0),.ld 0 0 false (fun _=>[vs.v]),.k (iv k0),.sl g0 (kf false (.f 0) v (fun _=>vs)) rfl none (some k0) 0 k0 rfl rfl l1 (by rw [hl1];simp) (fun _=>⟨by omega,by omega,by omega⟩),.k (pp ((G6 3).b) 3),.ld 1 3 false (fun _=>[iv x1.Left]),.k (pp ((G6 3).b) 4),.ld 1 4 false (fun _=>[iv x1.Right]),.cp g0 8 36 [(kf false (.g 3 0) l1 (fun _=>(vs.sub 5 (0:Int).toNat k0.toNat))).a] (fun _ G=>pair_ct l1 (vs.sub 5 (0:Int).toNat k0.toNat) x1.Left x1.Right (by rw [hl1];exact Tm.bd_take (by assumption) (by omega))),.k (.tuple #[ag (Tm.pairT l1 x1.Left x1.Right),iv (Tm.pairE l1 x1.Left x1.Right)]),.k (ag (Tm.pairT l1 x1.Left x1.Right)),.k (iv (Tm.pairE l1 x1.Left x1.Right)),.nb 12 2 (fun b=>pp b 0) 41 (fun _=>ca (DThing.mk ByteArray.empty 0 0 0 0)),.st 2 (fun G=>.blk ((G 12).b) (ca (Tm.pairT l1 x1.Left x1.Right)) 41),.k (iv (Tm.pairE l1 x1.Left x1.Right))] fun _ _ G9 kw10=>?_;intro S s
    obtain ⟨⟨kl2, -⟩, -⟩:Lq l1 ((vs.sub 5 (0:Int).toNat k0.toNat).v)∧True:=kq kw10;clear kw10;refine nm ((!(decide (Tm.pairE l1 x1.Left x1.Right=0))) || (!(decide (x1.Text=(Tm.pairT l1 x1.Left x1.Right).Text∧x1.Value=(Tm.pairT l1 x1.Left x1.Right).Value∧x1.Blind=(Tm.pairT l1 x1.Left x1.Right).Blind∧x1.Left=(Tm.pairT l1 x1.Left x1.Right).Left∧x1.Right=(Tm.pairT l1 x1.Left x1.Right).Right))):Bool) fun p1 hp1=>?_;refine V.g [.k (iv (Tm.pairE l1 x1.Left x1.Right)),.k (bv (!(decide (Tm.pairE l1 x1.Left x1.Right=0)))),.k (bv (!(decide (Tm.pairE l1 x1.Left x1.Right=0)))),.ld 1 0 true (fun _=>Dat.cells x1),.ld 2 0 true (fun _=>Dat.cells (Tm.pairT l1 x1.Left x1.Right)),.aeq true 41 (ca x1) (ca (Tm.pairT l1 x1.Left x1.Right)) _ fun w=>thing_equal w x1.Text x1.Value x1.Blind x1.Left x1.Right ((Tm.pairT l1 x1.Left x1.Right).Text) ((Tm.pairT l1 x1.Left x1.Right).Value) ((Tm.pairT l1 x1.Left x1.Right).Blind) ((Tm.pairT l1 x1.Left x1.Right).Left) ((Tm.pairT l1 x1.Left x1.Right).Right),.orn g0 false (!(decide (Tm.pairE l1 x1.Left x1.Right=0))) (!(decide (x1.Text=(Tm.pairT l1 x1.Left x1.Right).Text∧x1.Value=(Tm.pairT l1 x1.Left x1.Right).Value∧x1.Blind=(Tm.pairT l1 x1.Left x1.Right).Blind∧x1.Left=(Tm.pairT l1 x1.Left x1.Right).Left∧x1.Right=(Tm.pairT l1 x1.Left x1.Right).Right))) p1 hp1] fun _ _ G10=>?_;intro S s;refine V.cn (b:=p1) (iN hp1 (iOT (iNT iDF) (iNT iDF))) (iN hp1 (iOF (iNF iDT) (iNF iDT))) (fun q7=>?_) (fun q8=>?_)
    · refine V.g [.kb false] fun _ _ G11=>?_;intro S s
      have e0:false=decide (Tm.Sound v):=by
        rw [hl1] at q7;exact Tm.sound_no (k:=k0) (by assumption) (by omega) (by assumption) (by assumption) (by assumption)
      exact V.rt [0] [] [] [] [] [] (bv false) (cong1 (fun (x0:Bool)=>(bv x0:Value)) e0)
    refine V.g [.a (k0+1) (by omega) (by omega),.k (iv (k0+1))] fun _ _ G12=>?_;intro S s
    refine V.rnd hZ1 (k0+1) [0] (by kernel_rfl) ?_ ?_
    · refine ⟨?_,?_,?_⟩
      · show 0≤(k0+1)
        first | omega | rfl | (simp;done) | (subst_vars;simp;done)
      · show (k0+1)≤(v.length:Int)
        first | omega | rfl | (simp;done) | (subst_vars;simp;done)
      show Tm.okTo v (k0+1).toNat;refine Tm.sound_step (by assumption) (by assumption) (by assumption) rfl (Tm.okT_iff.2 ?_);rw [hl1] at q8;exact .inr (by assumption)
    show ((v.length:Int)-(k0+1)).toNat < ((v.length:Int)-k0).toNat;omega
  refine V.g [.kb true] fun _ _ G13=>?_;intro S s
  have e0:true=decide (Tm.Sound v):=Tm.sound_yes (by assumption) (by assumption) rfl (by assumption) (by assumption) (by assumption);exact V.rt [0] [] [] [] [] [] (bv true) (cong1 (fun (x0:Bool)=>(bv x0:Value)) e0)

open Go
namespace Rv
open Tm
def idx (v:Int):List Int→Int
  | []=> -1
  | x :: l=>if x=v then 0 else if idx v l < 0 then -1 else idx v l+1
theorem idx_no {v:Int}:∀ {l:List Int},(∀ i,i < l.length→l.getD i default≠v)→idx v l= -1
  | [],_=>rfl
  | x :: l,h=>by
    unfold idx
    have ih:=idx_no (v:=v) (l:=l) fun i hi=>by have:=h (i+1) (by simp;omega);simpa using this
    have h0:¬ x=v:=by have:=h 0 (by simp);simpa using this
    rw [if_neg h0,ih];rfl
theorem idx_at {v:Int}:∀ {l:List Int} {k:Nat},k < l.length→(∀ i,i < k→l.getD i default≠v)→l.getD k default=v→idx v l=k
  | x :: l,0,_,_,e=>by unfold idx;rw [if_pos (by simpa using e)];rfl
  | x :: l,k+1,hk,h,e=>by
    unfold idx
    have ih:=idx_at (l:=l) (k:=k) (by simpa using hk) (fun i hi=>by have:=h (i+1) (by omega);simpa using this) (by simpa using e)
    rw [if_neg (by have:=h 0 (by omega);simpa using this),ih,if_neg (by omega)];omega
theorem idx_mem {v:Int}:∀ {l:List Int},0≤idx v l↔v ∈ l
  | []=>by unfold idx;simp
  | x :: l=>by
    have ih:=idx_mem (v:=v) (l:=l)
    unfold idx
    by_cases e:x=v
    · rw [if_pos e];simp [e]
    · rw [if_neg e,List.mem_cons]
      by_cases h:idx v l < 0
      · rw [if_pos h]
        constructor
        · intro h;omega
        · rintro (h2 | h2)
          · exact absurd h2.symm e
          · have:=ih.2 h2;omega
      · rw [if_neg h]
        constructor
        · intro _;exact .inr (ih.1 (by omega))
        · intro _;omega
theorem eq_of_getD {α:Type} [Inhabited α] {l m:List α} (hl:l.length=m.length) (h:∀ i,i < l.length→l.getD i default=m.getD i default):l=m:=by
  refine List.ext_getElem hl fun i h1 h2=>?_
  have:=h i h1
  simpa [List.getD_eq_getElem?_getD,h1,h2] using this
def ls {α:Type} (l:List (Fat α)):List (List α):=l.map (·.l)
def hid (x:DThing):Prop:=x.Value= -1∧x.Blind= -1
instance (x : DThing) : Decidable (hid x) := by unfold hid; infer_instance
instance (x : DThing) : Decidable (Bd x) := by unfold Bd; infer_instance
def te (s:List DThing) (i:Nat):DThing:=s.getD i default
def mid (p:List Int) (s:List DThing) (i:Nat):Prop:=(te s i).Text=ByteArray.empty∧((te s i).Left=pe p (i+1)∨(te s i).Right=pe p (i+1))∧(0 < i→hid (te s i))
instance (p : List Int) (s : List DThing) (i : Nat) : Decidable (mid p s i) := by unfold mid; infer_instance
def lst (s:List DThing):DThing:=te s (s.length - 1)
def endT (x:DThing):Prop:=Bd x∧x.Left= -1∧x.Right= -1∧x.Text.size≤8000
instance (x : DThing) : Decidable (endT x) := by unfold endT; infer_instance
def walk (p:List Int) (s:List DThing):Prop:=p.length≠0∧s.length=p.length∧(∀ i,i < p.length - 1→mid p s i)∧Bd (te s 0)∧endT (te s (p.length - 1))
instance (p : List Int) (s : List DThing) : Decidable (walk p s) := by unfold walk; infer_instance
def pl (P:List (List Int)) (i:Nat):List Int:=P.getD i []
def sl (S:List (List DThing)) (i:Nat):List DThing:=S.getD i []
def row (P:List (List Int)) (S:List (List DThing)) (i:Nat):Prop:=walk (pl P i) (sl S i)∧pe (pl P i) 0=pe (pl P 0) 0∧(te (sl S i) 0).Value=(te (sl S 0) 0).Value∧(te (sl S i) 0).Blind=(te (sl S 0) 0).Blind
instance (P : List (List Int)) (S : List (List DThing)) (i : Nat) : Decidable (row P S i) := by unfold row; infer_instance
def Form (P:List (List Int)) (S:List (List DThing)):Prop:=P.length≠0∧P.length≤64∧S.length=P.length∧(∀ i,i < P.length→row P S i)∧(P.map lastI).Nodup
instance (P : List (List Int)) (S : List (List DThing)) : Decidable (Form P S) := by unfold Form; infer_instance
theorem mid_iff {p:List Int} {s l:List DThing} {n k v:Int} {x:DThing} (h0:0≤k) (hk:k < l.length) (hl:l=s.take n.toNat) (hx:x=l.getD k.toNat default) (hv:v=p.getD (k+1).toNat default) :
    mid p s k.toNat↔(x.Text=ByteArray.empty∧(x.Left=v∨x.Right=v))∧(¬0 < k∨x.Value= -1∧x.Blind= -1):=by
  have e1:te s k.toNat=x:=by
    rw [hx,hl]
    unfold te
    have hk':k.toNat < n.toNat:=by rw [hl] at hk;simp at hk;omega
    simp [List.getD_eq_getElem?_getD,List.getElem?_take,hk']
  have e2:pe p (k.toNat+1)=v:=by rw [hv];unfold pe;rw [show (k+1).toNat=k.toNat+1 by omega];rfl
  unfold mid hid
  rw [e1,e2]
  constructor
  · rintro ⟨a,b,c⟩
    refine ⟨⟨a,b⟩,?_⟩
    by_cases h:0 < k
    · exact .inr (c (by omega))
    · exact .inl h
  · rintro ⟨⟨a,b⟩,c⟩
    refine ⟨a,b,fun h=>?_⟩
    rcases c with c | c
    · omega
    · exact c
theorem mid_step {p:List Int} {s l:List DThing} {n k v:Int} {x:DThing} (h:∀ i,i < k.toNat→mid p s i) (h0:0≤k) (hk:k < l.length) (hl:l=s.take n.toNat) (hx:x=l.getD k.toNat default) (hv:v=p.getD (k+1).toNat default)
    (hq:(x.Text=ByteArray.empty∧(x.Left=v∨x.Right=v))∧(¬0 < k∨x.Value= -1∧x.Blind= -1)):∀ i,i < (k+1).toNat→mid p s i:=fun i hi=>by
  by_cases e:i < k.toNat
  · exact h i e
  · rw [show i=k.toNat by omega];exact (mid_iff h0 hk hl hx hv).2 hq
theorem walk_no {p:List Int} {s l:List DThing} {n k v:Int} {x:DThing} (h0:0≤k) (hk:k < l.length) (hl:l=s.take n.toNat) (hn:n=p.length - 1) (hx:x=l.getD k.toNat default) (hv:v=p.getD (k+1).toNat default)
    (hq:(¬x.Text=ByteArray.empty∨¬ x.Left=v∧¬ x.Right=v)∨0 < k∧¬ (x.Value= -1∧x.Blind= -1)):¬ walk p s:=by
  rintro ⟨_,_,h,_⟩
  obtain ⟨⟨a,b⟩,c⟩:=(mid_iff h0 hk hl hx hv).1 (h _ (by rw [hl] at hk;simp at hk;omega))
  rcases hq with (h | h) | h
  · exact h a
  · rcases b with b | b
    · exact h.1 b
    · exact h.2 b
  · rcases c with c | c
    · exact c h.1
    · exact h.2 c
theorem walk_fin {p:List Int} {s:List DThing} {n:Int} {x y:DThing} (h1:p.length≠0) (h2:s.length=p.length) (h3:∀ i,i < p.length - 1→mid p s i) (hn:n=p.length - 1) (hx:x=s.getD n.toNat default) (hy:y=s.getD (0:Int).toNat default) :
    walk p s↔(((Bd y∧Bd x)∧x.Left= -1)∧x.Right= -1)∧(x.Text.size:Int)≤8000:=by
  have e1:te s (p.length - 1)=x:=by rw [hx,show n.toNat=p.length - 1 by omega];rfl
  have e2:te s 0=y:=by rw [hy];rfl
  unfold walk endT
  rw [e1,e2]
  constructor
  · rintro ⟨_,_,_,a,b,c,d,e⟩;exact ⟨⟨⟨⟨a,b⟩,c⟩,d⟩,by omega⟩
  · rintro ⟨⟨⟨⟨a,b⟩,c⟩,d⟩,e⟩;exact ⟨h1,h2,h3,a,b,c,d,by omega⟩
theorem snoc_ind {α:Type} {motive:List α→Prop} (h0:motive []) (h1:∀ l a,motive l→motive (l ++[a])) (l:List α):motive l:=by
  have:∀ m:List α,motive m.reverse:=fun m=>by
    induction m with
    | nil=>exact h0
    | cons a m ih=>rw [List.reverse_cons];exact h1 _ _ ih
  have h:=this l.reverse
  rwa [List.reverse_reverse] at h
def endm:List (List Int)→List (Int × Bool):=List.foldl (fun m p=>mupd (lastI p) true m) []
theorem endm_snoc (P:List (List Int)) (p:List Int):endm (P ++[p])=mupd (lastI p) true (endm P):=by
  unfold endm;rw [List.foldl_append];rfl
theorem endm_look (k:Int):∀ (P:List (List Int)),(mlook k (endm P)).isSome=decide (k ∈ P.map lastI):=by
  refine snoc_ind rfl fun P p ih=>?_
  · rw [endm_snoc,mlook_upd]
    by_cases e:k=lastI p
    · rw [if_pos e];simp [e]
    · rw [if_neg e,ih];simp [e]
theorem endm_len (P:List (List Int)):(endm P).length≤P.length∧((endm P).length=P.length↔(P.map lastI).Nodup):=by
  refine snoc_ind (motive:=fun P=>(endm P).length≤P.length∧((endm P).length=P.length↔(P.map lastI).Nodup)) ⟨Nat.le_refl _,by simp [endm]⟩ (fun P p ih=>?_) P
  · obtain ⟨h1,h2⟩:=ih
    rw [endm_snoc,mupd_len,endm_look]
    simp only [List.length_append,List.length_singleton,List.map_append,List.map_cons,List.map_nil,List.nodup_append]
    by_cases e:lastI p ∈ P.map lastI
    · simp only [e,decide_true,if_true]
      refine ⟨by omega,?_,?_⟩
      · intro h;omega
      · rintro ⟨_,_,h⟩;exact absurd rfl (h _ e _ (by simp))
    · simp only [e,decide_false,Bool.false_eq_true,if_false]
      refine ⟨by omega,?_,?_⟩
      · intro h
        refine ⟨h2.1 (by omega),by simp,?_⟩
        intro a ha b hb hab
        have:b=lastI p:=by simpa using hb
        subst this;subst hab;exact e ha
      · rintro ⟨h,_,_⟩;have:=h2.2 h;omega
theorem pl_ls {l:List (Fat Int)} {k:Int} {x:Fat Int} (h:x=l.getD k.toNat default):pl (ls l) k.toNat=x.l:=by
  rw [h];exact getD_l l k.toNat
theorem sl_ls {l:List (Fat DThing)} {k:Int} {x:Fat DThing} (h:x=l.getD k.toNat default):sl (ls l) k.toNat=x.l:=by
  rw [h];exact getD_l l k.toNat
theorem pl_ls' {l:List (Fat Int)} (i:Nat):pl (ls l) i=(l.getD i default).l:=getD_l l i
theorem sl_ls' {l:List (Fat DThing)} (i:Nat):sl (ls l) i=(l.getD i default).l:=getD_l l i
@[simp] theorem ls_length {α:Type} (l:List (Fat α)):(ls l).length=l.length:=by simp [ls]
theorem row_iff {p:List (Fat Int)} {q:List (Fat DThing)} {k:Int} {x1 x3:Fat Int} {x2 x4:Fat DThing} {v1 v2:Int} {x5 x6:DThing} (h1:x1=p.getD k.toNat default) (h2:x2=q.getD k.toNat default) (h3:v1=x1.l.getD (0:Int).toNat default) (h4:x3=p.getD (0:Int).toNat default)
    (h5:v2=x3.l.getD (0:Int).toNat default) (h6:x4=q.getD (0:Int).toNat default) (h7:x5=x4.l.getD (0:Int).toNat default) (h8:x6=x2.l.getD (0:Int).toNat default) :
    row (ls p) (ls q) k.toNat↔(walk x1.l x2.l∧v1=v2)∧x5.Value=x6.Value∧x5.Blind=x6.Blind:=by
  unfold row
  have e0:=pl_ls h4
  have e1:=sl_ls h6
  rw [show (0:Int).toNat=0 from rfl] at e0 e1 h3 h5 h7 h8
  rw [pl_ls h1,sl_ls h2,e0,e1]
  unfold pe te
  rw [h3,h5,h7,h8]
  constructor
  · rintro ⟨a,b,c,d⟩;exact ⟨⟨a,b⟩,c.symm,d.symm⟩
  · rintro ⟨⟨a,b⟩,c,d⟩;exact ⟨a,b,c.symm,d.symm⟩
theorem head_ne {p:List (Fat Int)} {q:List (Fat DThing)} {k:Int} {x1 x3:Fat Int} {x2:Fat DThing} (hk:0≤k) (hr:∀ i,i < k.toNat→row (ls p) (ls q) i) (h1:x1=p.getD k.toNat default) (h2:x2=q.getD k.toNat default) (hw:walk x1.l x2.l) (h4:x3=p.getD (0:Int).toNat default):x3.l.length≠0:=by
  by_cases e:k=0
  · subst e;rw [h4,← h1];exact hw.1
  · have:=(hr 0 (by omega)).1.1
    rw [pl_ls'] at this
    rw [h4];exact this
theorem head_ne2 {p:List (Fat Int)} {q:List (Fat DThing)} {k:Int} {x1:Fat Int} {x2 x4:Fat DThing} (hk:0≤k) (hr:∀ i,i < k.toNat→row (ls p) (ls q) i) (h1:x1=p.getD k.toNat default) (h2:x2=q.getD k.toNat default) (hw:walk x1.l x2.l) (h4:x4=q.getD (0:Int).toNat default):x4.l.length≠0:=by
  by_cases e:k=0
  · subst e;rw [h4,← h2,hw.2.1];exact hw.1
  · have h:=(hr 0 (by omega)).1
    have h1:=h.1
    have h2:=h.2.1
    rw [pl_ls'] at h1 h2;rw [sl_ls'] at h2
    rw [h4];show (q.getD 0 default).l.length≠0
    omega
theorem form_no {P:List (List Int)} {S:List (List DThing)} {k:Nat} (hk:k < P.length) (h:¬ row P S k):¬ Form P S:=fun f=>h (f.2.2.2.1 k hk)
theorem row_step {P:List (List Int)} {S:List (List DThing)} {k:Int} (h0:0≤k) (h:∀ i,i < k.toNat→row P S i) (hr:row P S k.toNat):∀ i,i < (k+1).toNat→row P S i:=fun i hi=>by
  by_cases e:i < k.toNat
  · exact h i e
  · rw [show i=k.toNat by omega];exact hr
theorem endm_step {p:List (Fat Int)} {k n v:Int} {x:Fat Int} {m m2:List (Int × Bool)} (h0:0≤k) (hk:k < p.length) (h:m=endm ((ls p).take k.toNat)) (hx:x=p.getD k.toNat default) (hn:n=x.l.length - 1) (hl:x.l.length≠0) (hv:v=x.l.getD n.toNat default) (hm:m2=mupd v true m):m2=endm ((ls p).take (k+1).toNat):=by
  have e:(ls p).take (k+1).toNat=(ls p).take k.toNat ++[x.l]:=by
    rw [show (k+1).toNat=k.toNat+1 by omega]
    have hk':k.toNat < (ls p).length:=by simp;omega
    rw [List.take_add_one,List.getElem?_eq_getElem hk']
    congr 1
    show [(ls p)[k.toNat]]=[x.l]
    congr 1
    rw [←pl_ls hx];unfold pl;rw [List.getD_eq_getElem?_getD,List.getElem?_eq_getElem hk'];rfl
  rw [e,endm_snoc,hm,h]
  congr 1
  rw [hv];unfold lastI pe
  rw [show n.toNat=x.l.length - 1 by omega];rfl
theorem form_fin {p:List (Fat Int)} {q:List (Fat DThing)} {k:Int} {m:List (Int × Bool)} (h1:p.length≠0) (h2:p.length≤64) (h3:q.length=p.length) (hr:∀ i,i < k.toNat→row (ls p) (ls q) i) (hk:k.toNat=p.length) (hm:m=endm ((ls p).take k.toNat)):(m.length:Int)=p.length↔Form (ls p) (ls q):=by
  have e:(ls p).take k.toNat=ls p:=List.take_of_length_le (by simp;omega)
  rw [e] at hm
  have hh:=(endm_len (ls p)).2
  rw [ls_length] at hh
  unfold Form
  rw [hm,ls_length,ls_length]
  constructor
  · intro h;exact ⟨h1,h2,h3,fun i hi=>hr i (by omega),hh.1 (by omega)⟩
  · rintro ⟨_,_,_,_,h⟩;have:=hh.2 h;omega
def CheckP (v:List DThing) (P:List (List Int)) (S:List (List DThing)):Prop:=Form P S∧∀ i,i < P.length→viewF v (pl P i)=sl S i
instance (v : List DThing) (P : List (List Int)) (S : List (List DThing)) : Decidable (CheckP v P S) := by unfold CheckP; infer_instance
def opn (S:List (List DThing)) (k:Nat):Int:=((S.take k).map fun s=>(lst s).Value).sum
def restT (S:List (List DThing)):Int:=(te (sl S 0) 0).Value - opn S S.length
def restB (P:List (List Int)) (S:List (List DThing)):Prop:=Form P S∧0≤restT S
instance (P : List (List Int)) (S : List (List DThing)) : Decidable (restB P S) := by unfold restB; infer_instance
def restV (P:List (List Int)) (S:List (List DThing)):Int:=if restB P S then restT S else 0
theorem form_lst {P:List (List Int)} {S:List (List DThing)} (f:Form P S) {i:Nat} (hi:i < S.length):(sl S i).length≠0∧Bd (lst (sl S i))∧Bd (te (sl S i) 0):=by
  have h:=(f.2.2.2.1 i (by have:=f.2.2.1;omega)).1
  refine ⟨by rw [h.2.1];exact h.1,?_,h.2.2.2.1⟩
  have:=h.2.2.2.2.1
  unfold lst;rw [h.2.1];exact this
theorem opn_step {q:List (Fat DThing)} {k n:Int} {x:Fat DThing} {y:DThing} (h0:0≤k) (hk:k < q.length) (hx:x=q.getD k.toNat default) (hn:n=x.l.length - 1) (hy:y=x.l.getD n.toNat default):opn (ls q) (k+1).toNat=opn (ls q) k.toNat+y.Value:=by
  unfold opn
  rw [show (k+1).toNat=k.toNat+1 by omega]
  have hk':k.toNat < (ls q).length:=by simp;omega
  rw [List.take_add_one,List.getElem?_eq_getElem hk',List.map_append,List.sum_append]
  have e:(ls q)[k.toNat]=x.l:=by rw [←sl_ls hx];unfold sl;rw [List.getD_eq_getElem?_getD,List.getElem?_eq_getElem hk'];rfl
  have e2:lst x.l=y:=by rw [hy];unfold lst te;rw [show n.toNat=x.l.length - 1 by omega]
  rw [e]
  simp [e2]
theorem last_bd {P:List (List Int)} {q:List (Fat DThing)} (f:Form P (ls q)) {k n:Int} {x:Fat DThing} {y:DThing} (h0:0≤k) (hk:k < q.length) (hx:x=q.getD k.toNat default) (hn:n=x.l.length - 1) (hy:y=x.l.getD n.toNat default):Bd y:=by
  have h:=(form_lst f (i:=k.toNat) (by simp;omega)).2.1
  rw [sl_ls hx] at h
  have e2:lst x.l=y:=by rw [hy];unfold lst te;rw [show n.toNat=x.l.length - 1 by omega]
  rwa [e2] at h
theorem len_ne {P:List (List Int)} {q:List (Fat DThing)} (f:Form P (ls q)) {k:Int} {x:Fat DThing} (h0:0≤k) (hk:k < q.length) (hx:x=q.getD k.toNat default):x.l.length≠0:=by
  have h:=(form_lst f (i:=k.toNat) (by simp;omega)).1
  rwa [sl_ls hx] at h
theorem form_q {P:List (List Int)} {q:List (Fat DThing)} (f:Form P (ls q)):0 < q.length∧q.length≤64:=by
  have a:=f.1;have b:=f.2.1;have c:=f.2.2.1
  rw [ls_length] at c;omega
theorem rest_eq {q:List (Fat DThing)} {k r:Int} {x:Fat DThing} {y:DThing} (hx:x=q.getD (0:Int).toNat default) (hy:y=x.l.getD (0:Int).toNat default) (hr:r=y.Value - opn (ls q) k.toNat) (hk:k.toNat=q.length):r=restT (ls q):=by
  have e:=sl_ls hx
  rw [show (0:Int).toNat=0 from rfl] at e hy
  unfold restT
  rw [e,hr,hk,ls_length,hy];rfl
theorem restV_no {P:List (List Int)} {S:List (List DThing)} (h:¬ restB P S):restV P S=0:=by unfold restV;rw [if_neg h]
theorem restV_yes {P:List (List Int)} {S:List (List DThing)} (h:restB P S):restV P S=restT S:=by unfold restV;rw [if_pos h]
theorem check_step {v:List DThing} {p:List (Fat Int)} {q:List (Fat DThing)} {k:Int} {x:Fat Int} {y:Fat DThing} (h0:0≤k) (h:∀ i,i < k.toNat→viewF v (pl (ls p) i)=sl (ls q) i) (hx:x=p.getD k.toNat default) (hy:y=q.getD k.toNat default) (e:viewF v x.l=y.l):∀ i,i < (k+1).toNat→viewF v (pl (ls p) i)=sl (ls q) i:=fun i hi=>by
  by_cases e2:i < k.toNat
  · exact h i e2
  · rw [show i=k.toNat by omega,pl_ls hx,sl_ls hy];exact e
abbrev TM:=List (Int × DThing)
def hx (x:DThing):DThing:={ Left:=x.Left,Right:=x.Right }
def okM (m:TM) (k:Int) (y:DThing):Prop:=(mlook k m).isSome=true→(mlook k m).getD default=y
instance (m : TM) (k : Int) (y : DThing) : Decidable (okM m k y) := by unfold okM; infer_instance
def putH (h:TM) (k:Int) (x:DThing):TM:=if okM h k (hx x) then mupd k (hx x) h else h
def putB (h o:TM) (k:Int) (x:DThing):Prop:=okM h k (hx x)∧(x.Value= -1∨okM o k x)
instance (h o : TM) (k : Int) (x : DThing) : Decidable (putB h o k x) := by unfold putB; infer_instance
def putO (h o:TM) (k:Int) (x:DThing):TM:=if putB h o k x∧x.Value≠ -1 then mupd k x o else o
theorem put_1 {h o:TM} {k:Int} {x y:DThing} {b:Bool} (hy:y=(mlook k h).getD default) (hb:b=(mlook k h).isSome) (hq:b=true∧¬ (y.Text=ByteArray.empty∧y.Value=0∧y.Blind=0∧y.Left=x.Left∧y.Right=x.Right)):¬ putB h o k x∧putH h k x=h∧putO h o k x=o:=by
  have hn:¬ okM h k (hx x):=fun hok=>hq.2 (by
    have:=hok (by rw [←hb];exact hq.1)
    rw [←hy] at this;subst this;exact ⟨rfl,rfl,rfl,rfl,rfl⟩)
  have hB:¬ putB h o k x:=fun hh=>hn hh.1
  exact ⟨hB,by unfold putH;rw [if_neg hn],by unfold putO;rw [if_neg fun hh=>hB hh.1]⟩
theorem okM_of {m:TM} {k:Int} {x y:DThing} {b:Bool} (hy:y=(mlook k m).getD default) (hb:b=(mlook k m).isSome) (hq:b=false∨(y.Text=x.Text∧y.Value=x.Value∧y.Blind=x.Blind∧y.Left=x.Left∧y.Right=x.Right)):okM m k x:=fun hs=>by
  rcases hq with hq | hq
  · rw [←hb,hq] at hs;cases hs
  · rw [←hy];exact (thing_ext _ _).2 hq
theorem put_2 {h o:TM} {k:Int} {x y:DThing} {b:Bool} (hy:y=(mlook k h).getD default) (hb:b=(mlook k h).isSome) (hq:b=false∨(y.Text=ByteArray.empty∧y.Value=0∧y.Blind=0∧y.Left=x.Left∧y.Right=x.Right)):okM h k (hx x)∧putH h k x=mupd k (hx x) h:=by
  have hok:okM h k (hx x):=okM_of hy hb hq
  exact ⟨hok,by unfold putH;rw [if_pos hok]⟩
theorem put_3 {h o:TM} {k:Int} {x:DThing} (hok:okM h k (hx x)) (hv:x.Value= -1):putB h o k x∧putO h o k x=o :=
  ⟨⟨hok,.inl hv⟩,by unfold putO;rw [if_neg fun hh=>hh.2 hv]⟩
theorem put_4 {h o:TM} {k:Int} {x y:DThing} {b:Bool} (hok:okM h k (hx x)) (hv:¬ x.Value= -1) (hy:y=(mlook k o).getD default) (hb:b=(mlook k o).isSome) (hq:b=true∧¬ (y.Text=x.Text∧y.Value=x.Value∧y.Blind=x.Blind∧y.Left=x.Left∧y.Right=x.Right)):¬ putB h o k x∧putO h o k x=o:=by
  have hB:¬ putB h o k x:=fun hh=>by
    rcases hh.2 with h2 | h2
    · exact hv h2
    · refine hq.2 ?_
      have:=h2 (by rw [←hb];exact hq.1)
      rw [←hy] at this;subst this;exact ⟨rfl,rfl,rfl,rfl,rfl⟩
  exact ⟨hB,by unfold putO;rw [if_neg fun hh=>hB hh.1]⟩
theorem put_5 {h o:TM} {k:Int} {x y:DThing} {b:Bool} (hok:okM h k (hx x)) (hv:¬ x.Value= -1) (hy:y=(mlook k o).getD default) (hb:b=(mlook k o).isSome) (hq:b=false∨(y.Text=x.Text∧y.Value=x.Value∧y.Blind=x.Blind∧y.Left=x.Left∧y.Right=x.Right)):putB h o k x∧putO h o k x=mupd k x o:=by
  have hB:putB h o k x:=⟨hok,.inr (okM_of hy hb hq)⟩
  exact ⟨hB,by unfold putO;rw [if_pos ⟨hB,hv⟩]⟩
def cat {α:Type} (l:List (Fat (Fat α))):List (Fat α):=(l.map (·.l)).flatten
theorem cat2 {α:Type} (a b:List (Fat α)) (s t:SV):cat [⟨a,s⟩,⟨b,t⟩]=a ++b:=by simp [cat]
theorem cat_step {α:Type} [Dat α] {l:List (Fat (Fat α))} {k:Int} {m m2:List (Fat α)} {x:Fat (Fat α)} (h0:0≤k) (hk:k < l.length) (h:m=cat (l.take k.toNat)) (hx:x=l.getD k.toNat default) (h2:m2=m ++x.l):m2=cat (l.take (k+1).toNat):=by
  rw [show (k+1).toNat=k.toNat+1 by omega]
  have hk':k.toNat < l.length:=by omega
  have e:l[k.toNat]=x:=by rw [hx,List.getD_eq_getElem?_getD,List.getElem?_eq_getElem hk'];rfl
  rw [h2,h,List.take_add_one,List.getElem?_eq_getElem hk',e]
  simp [cat]
def put1 (s:TM × TM) (e:Int × DThing):Option (TM × TM):=if putB s.1 s.2 e.1 e.2 then some (putH s.1 e.1 e.2,putO s.1 s.2 e.1 e.2) else none
def runs (l:List (Int × DThing)):Option (TM × TM):=l.foldl (fun s e=>s.bind fun s=>put1 s e) (some ([],[]))
theorem runs_snoc (l:List (Int × DThing)) (e:Int × DThing):runs (l ++[e])=(runs l).bind fun s=>put1 s e:=by
  unfold runs;rw [List.foldl_append];rfl
theorem runs_none {l:List (Int × DThing)} (h:runs l=none) (m:List (Int × DThing)):runs (l ++m)=none:=by
  refine snoc_ind (motive:=fun m=>runs (l ++m)=none) (by simpa using h) (fun m a ih=>?_) m
  rw [←List.append_assoc,runs_snoc,ih];rfl
def flat (P:List (List Int)) (S:List (List DThing)):List (Int × DThing):=(P.zip S).flatMap fun q=>q.1.zip q.2
def AgreeP (P:List (List Int)) (S:List (List DThing)) (P':List (List Int)) (S':List (List DThing)):Prop:=Form P S∧Form P' S'∧(runs (flat (P ++P') (S ++S'))).isSome=true
instance (P : List (List Int)) (S : List (List DThing)) (P' : List (List Int)) (S' : List (List DThing)) : Decidable (AgreeP P S P' S') := by unfold AgreeP; infer_instance
theorem zip_take {α β:Type} [Inhabited α] [Inhabited β] {l:List α} {m:List β} (h:m.length=l.length) {k:Nat} (hk:k < l.length):(l.zip m).take (k+1)=(l.zip m).take k ++[(l.getD k default,m.getD k default)]:=by
  have hz:k < (l.zip m).length:=by rw [List.length_zip];omega
  rw [List.take_add_one,List.getElem?_eq_getElem hz]
  congr 1
  have hm:k < m.length:=by omega
  simp [List.getD_eq_getElem?_getD,hk,hm]
theorem take_zip' {α β:Type} (l:List α) (m:List β) (n:Nat):(l.zip m).take n=(l.take n).zip (m.take n):=by
  rw [List.zip_eq_zipWith,List.zip_eq_zipWith,List.take_zipWith]
theorem drop_zip' {α β:Type} (l:List α) (m:List β) (n:Nat):(l.zip m).drop n=(l.drop n).zip (m.drop n):=by
  rw [List.zip_eq_zipWith,List.zip_eq_zipWith,List.drop_zipWith]
theorem flat_take {P:List (List Int)} {S:List (List DThing)} (h:S.length=P.length) {k:Nat} (hk:k < P.length):flat (P.take (k+1)) (S.take (k+1))=flat (P.take k) (S.take k) ++(pl P k).zip (sl S k):=by
  unfold flat
  rw [←take_zip',← take_zip',zip_take h hk,List.flatMap_append]
  simp;rfl
theorem flat_more {P:List (List Int)} {S:List (List DThing)} (h:S.length=P.length) {k:Nat} (hk:k < P.length) (j:Nat):∃ m,flat P S=flat (P.take k) (S.take k) ++((pl P k).zip (sl S k)).take j ++m:=by
  have e1:flat P S=flat (P.take (k+1)) (S.take (k+1)) ++flat (P.drop (k+1)) (S.drop (k+1)):=by
    unfold flat
    rw [←List.flatMap_append,← take_zip',← drop_zip',List.take_append_drop]
  refine ⟨((pl P k).zip (sl S k)).drop j ++flat (P.drop (k+1)) (S.drop (k+1)),?_⟩
  rw [e1,flat_take h hk]
  simp only [List.append_assoc]
  congr 1
  rw [←List.append_assoc,List.take_append_drop]
theorem ls_append {α:Type} (a b:List (Fat α)):ls (a ++b)=ls a ++ls b:=by simp [ls]
section
variable {p p' : List (Fat Int)} {q q' : List (Fat DThing)}
theorem agree_len {s s' t t':SV} (h1:Form (ls p) (ls q)) (h2:Form (ls p') (ls q')):(cat [⟨q,s⟩,⟨q',s'⟩]).length=(cat [⟨p,t⟩,⟨p',t'⟩]).length∧(cat [⟨p,t⟩,⟨p',t'⟩]).length≤128∧∀ i,i < (cat [⟨p,t⟩,⟨p',t'⟩]).length→((cat [⟨q,s⟩,⟨q',s'⟩]).getD i default).l.length=((cat [⟨p,t⟩,⟨p',t'⟩]).getD i default).l.length:=by
  rw [cat2,cat2]
  have a1:=h1.2.2.1;have a2:=h2.2.2.1;have b1:=h1.2.1;have b2:=h2.2.1
  rw [ls_length,ls_length] at a1 a2;rw [ls_length] at b1 b2
  refine ⟨by simp;omega,by simp;omega,fun i hi=>?_⟩
  have row:∀ {p:List (Fat Int)} {q:List (Fat DThing)},Form (ls p) (ls q)→∀ j,j < p.length→(q.getD j default).l.length=(p.getD j default).l.length:=fun {p q} h j hj=>by
    have:=(h.2.2.2.1 j (by rw [ls_length];exact hj)).1.2.1
    rw [pl_ls',sl_ls'] at this;exact this
  simp only [List.length_append] at hi
  simp only [List.getD_eq_getElem?_getD] at row ⊢
  by_cases e:i < p.length
  · rw [List.getElem?_append_left e,List.getElem?_append_left (by omega)];exact row h1 i e
  · rw [List.getElem?_append_right (by omega),List.getElem?_append_right (by omega),a1];exact row h2 _ (by omega)
end
section
variable {p : List (Fat Int)} {q : List (Fat DThing)} {k j v : Int} {x : Fat Int} {y : Fat DThing} {z : DThing} {h o : TM}
theorem agree_start (e:runs (flat ((ls p).take k.toNat) ((ls q).take k.toNat))=some (h,o)) (m:List (Int × DThing)):runs (flat ((ls p).take k.toNat) ((ls q).take k.toNat) ++m.take (0:Int).toNat)=some (h,o):=by
  simpa using e
theorem agree_next (e:runs (flat ((ls p).take k.toNat) ((ls q).take k.toNat) ++(x.l.zip (sl (ls q) k.toNat)).take j.toNat)=some (h,o)) (h0:0≤k) (hk:k < p.length) (hl:q.length=p.length) (hx:x=p.getD k.toNat default) (hj:j.toNat=x.l.length):runs (flat ((ls p).take (k+1).toNat) ((ls q).take (k+1).toNat))=some (h,o):=by
  rw [show (k+1).toNat=k.toNat+1 by omega,flat_take (by simpa using hl) (by simp;omega),pl_ls hx]
  rwa [List.take_of_length_le (l:=x.l.zip (sl (ls q) k.toNat)) (by rw [List.length_zip];omega)] at e
theorem agree_zip (hl:(sl (ls q) k.toNat).length=x.l.length) (h1:0≤j) (hj:j < x.l.length) (hv:v=x.l.getD j.toNat default) (hy:y=q.getD k.toNat default) (hz:z=y.l.getD j.toNat default):(x.l.zip (sl (ls q) k.toNat)).take (j+1).toNat=(x.l.zip (sl (ls q) k.toNat)).take j.toNat ++[(v,z)]:=by
  rw [show (j+1).toNat=j.toNat+1 by omega,zip_take hl (by omega),hv,hz,sl_ls hy]
theorem agree_put (e:runs (flat ((ls p).take k.toNat) ((ls q).take k.toNat) ++(x.l.zip (sl (ls q) k.toNat)).take j.toNat)=some (h,o)) (hl:(sl (ls q) k.toNat).length=x.l.length) (h1:0≤j) (hj:j < x.l.length) (hv:v=x.l.getD j.toNat default) (hy:y=q.getD k.toNat default) (hz:z=y.l.getD j.toNat default)
    (hp:putB h o v z):runs (flat ((ls p).take k.toNat) ((ls q).take k.toNat) ++(x.l.zip (sl (ls q) k.toNat)).take (j+1).toNat)=some (putH h v z,putO h o v z):=by
  rw [agree_zip hl h1 hj hv hy hz,← List.append_assoc,runs_snoc,e]
  show put1 _ _=_
  unfold put1;rw [if_pos hp]
theorem agree_no (e:runs (flat ((ls p).take k.toNat) ((ls q).take k.toNat) ++(x.l.zip (sl (ls q) k.toNat)).take j.toNat)=some (h,o)) (hl:(sl (ls q) k.toNat).length=x.l.length) (h1:0≤j) (hj:j < x.l.length) (hv:v=x.l.getD j.toNat default) (hy:y=q.getD k.toNat default) (hz:z=y.l.getD j.toNat default)
    (h0:0≤k) (hk:k < p.length) (hx:x=p.getD k.toNat default) (hql:q.length=p.length) (hp:¬ putB h o v z):runs (flat (ls p) (ls q))=none:=by
  obtain ⟨m,hm⟩:=flat_more (P:=ls p) (S:=ls q) (by simpa using hql) (k:=k.toNat) (by simp;omega) (j+1).toNat
  rw [pl_ls hx] at hm
  rw [hm]
  refine runs_none ?_ m
  rw [agree_zip hl h1 hj hv hy hz,← List.append_assoc,runs_snoc,e]
  show put1 _ _=_
  unfold put1;rw [if_neg hp]
end
theorem agree_iff {p p':List (Fat Int)} {q q':List (Fat DThing)} {s s' t t':SV} (h1:Form (ls p) (ls q)) (h2:Form (ls p') (ls q')):AgreeP (ls p) (ls q) (ls p') (ls q')↔(runs (flat (ls (cat [⟨p,t⟩,⟨p',t'⟩])) (ls (cat [⟨q,s⟩,⟨q',s'⟩])))).isSome=true:=by
  rw [cat2,cat2,ls_append,ls_append]
  exact ⟨fun h=>h.2.2,fun h=>⟨h1,h2,h⟩⟩
end Rv

open Go Go.Proofs
set_option maxRecDepth 10000 in
theorem index_ct (s:List Int) (ss:SV) (v:Int) :
    Cp Try.prog 39 #[ss.v,iv v] [fs true s ss] (iv (Rv.idx v s)):=by
  refine V.fn mo Try.func39 19 0 (by kernel_rfl) fun w H ε k0=>?_;obtain ⟨⟨kl1, -⟩, -⟩:Lq s ss.v∧True:=kq k0
  clear k0;refine V.g [.k (iv 0)] fun _ _ G1=>?_;intro S_ s_
  refine V.g [.k (ss.v),.ln (kf false (.f 0) s (fun _=>ss)),.k (iv 0)] fun _ _ G2=>?_;intro S_ s_
  refine V.loop (γ:=Int) (fun k0=>⟨[(0,ss.v),(1,iv v),(7,iv (s.length:Int)),(8,iv k0)],[fs false s ss],[]⟩) (fun k0=>(0≤k0)∧(k0≤(s.length:Int))∧(∀ i,i < k0.toNat→s.getD i default≠v)) (fun k0=>((s.length:Int)-k0).toNat) 0 (by kernel_rfl) [0] (by kernel_rfl) ?_ ?_
  · refine ⟨?_,?_,?_⟩
    · show 0≤(0:Int)
      first | omega | rfl | (simp;done) | (subst_vars;simp;done)
    · show (0:Int)≤(s.length:Int)
      first | omega | rfl | (simp;done) | (subst_vars;simp;done)
    show ∀ i,i < (0:Int).toNat→s.getD i default≠v;intro i hi;simp at hi
  rintro k0 hF1 kw3 Z1 hZ1;have hF1:(0≤k0)∧(k0≤(s.length:Int))∧(∀ i,i < k0.toNat→s.getD i default≠v):=hF1;obtain ⟨hf1,hf2,hf3⟩:=hF1;clear kw3;refine V.g [.k (bv (decide (k0 < (s.length:Int))))] fun _ _ G3=>?_;intro S_ s_;refine V.cn (b:=decide (k0 < (s.length:Int))) iDT iDF (fun q1=>?_) (fun q2=>?_)
  · refine V.g [.k (iv k0),.k (iv k0)] fun _ _ G4=>?_;intro S_ s_
    refine nm (s.getD k0.toNat default:Int) fun v1 hv1=>?_;refine V.g [.k (iv v),.k (ss.v),.k (iv k0),.ix g0 (kf false (.f 0) s (fun _=>ss)) k0 (fun _=>⟨by omega,by omega⟩),.le g0 (kf false (.f 0) s (fun _=>ss)) k0 none false v1 hv1 (fun _=>⟨by omega,by omega⟩) false (fun _=>[iv v1]),.k (bv (decide (v=v1)))] fun _ _ G5=>?_;intro S_ s_
    refine V.cn (b:=decide (v=v1)) iDT iDF (fun q3=>?_) (fun q4=>?_)
    · refine V.g [.k (iv k0),.k (iv k0)] fun _ _ G6=>?_;intro S_ s_
      have e0:k0=Rv.idx v s:=by rw [Rv.idx_at (k:=k0.toNat) (by omega) hf3 (by rw [←hv1];exact q3.symm)];omega
      exact V.rt [0] [] [] [] [] [] (iv k0) (cong1 (fun (x0:Int)=>(iv x0:Value)) e0)
    refine V.g [.a (k0+1) (by omega) (by omega),.k (iv (k0+1))] fun _ _ G7=>?_;intro S_ s_
    refine V.rnd hZ1 (k0+1) [0] (by kernel_rfl) ?_ ?_
    · refine ⟨?_,?_,?_⟩
      · show 0≤(k0+1)
        first | omega | rfl | (simp;done) | (subst_vars;simp;done)
      · show (k0+1)≤(s.length:Int)
        first | omega | rfl | (simp;done) | (subst_vars;simp;done)
      show ∀ i,i < (k0+1).toNat→s.getD i default≠v;intro i hi;by_cases e:i < k0.toNat
      · exact hf3 i e
      rw [show i=k0.toNat by omega,← hv1];exact fun e=>q4 e.symm
    show ((s.length:Int)-(k0+1)).toNat < ((s.length:Int)-k0).toNat;omega
  refine V.g [.k (iv (-1))] fun _ _ G8=>?_;intro S_ s_
  have e0:(-1:Int)=Rv.idx v s:=(Rv.idx_no fun i hi=>hf3 i (by omega)).symm;exact V.rt [0] [] [] [] [] [] (iv (-1)) (cong1 (fun (x0:Int)=>(iv x0:Value)) e0)
set_option maxRecDepth 10000 in
theorem contains_ct (s:List Int) (ss:SV) (v:Int) :
    Cp Try.prog 20 #[ss.v,iv v] [fs true s ss] (bv (decide (v ∈ s))):=by
  refine V.fn mo Try.func20 9 0 (by kernel_rfl) fun w H ε k0=>?_;obtain ⟨⟨kl1, -⟩, -⟩:Lq s ss.v∧True:=kq k0
  clear k0;refine V.g [.kb false] fun _ _ G1=>?_;intro S_ s_
  refine V.g [.k (ss.v),.k (iv v),.cp g0 2 39 [(kf false (.f 0) s (fun _=>ss)).a] (fun _ G=>index_ct s ss v),.k (bv (decide (0≤Rv.idx v s))),.k (bv (decide (0≤Rv.idx v s)))] fun _ _ G2=>?_;intro S_ s_
  have e0:(decide (0≤Rv.idx v s))=decide (v ∈ s):=by
    refine Bool.eq_iff_iff.2 (Iff.trans iDT (Iff.trans ?_ decide_eq_true_iff.symm));exact Rv.idx_mem
  exact V.rt [0] [] [] [] [] [] (bv (decide (0≤Rv.idx v s))) (cong1 (fun (x0:Bool)=>(bv x0:Value)) e0)
set_option maxRecDepth 10000 in
theorem equal_ct (s1:List DThing) (s1s:SV) (s2:List DThing) (s2s:SV) :
    Cp Try.prog 29 #[s1s.v,s2s.v] [fs true s1 s1s,fs true s2 s2s] (bv (decide (s1=s2))):=by
  refine V.fn mo Try.func29 26 0 (by kernel_rfl) fun w H ε k0=>?_;obtain ⟨⟨kl1, -⟩,⟨kl2, -⟩, -⟩:Lq s1 s1s.v∧Lq s2 s2s.v∧True:=kq k0
  clear k0;refine V.g [.kb false] fun _ _ G1=>?_;intro S s
  refine V.g [.k (s1s.v),.ln (kf false (.f 0) s1 (fun _=>s1s)),.k (s2s.v),.ln (kf false (.f 1) s2 (fun _=>s2s)),.k (bv (!(decide ((s1.length:Int)=(s2.length:Int)))))] fun _ _ G2=>?_;intro S s
  refine V.cn (b:=!(decide ((s1.length:Int)=(s2.length:Int)))) (iNT iDF) (iNF iDT) (fun q1=>?_) (fun q2=>?_)
  · refine V.g [.kb false] fun _ _ G3=>?_;intro S s
    have e0:false=decide (s1=s2):=by symm;rw [decide_eq_false_iff_not];intro h;apply q1;rw [h]
    exact V.rt [0] [] [] [] [] [] (bv false) (cong1 (fun (x0:Bool)=>(bv x0:Value)) e0)
  refine V.g [.k (s1s.v),.ln (kf false (.f 0) s1 (fun _=>s1s)),.k (iv 0)] fun _ _ G4=>?_;intro S s
  refine V.loop (γ:=Int) (fun k0=>⟨[(0,s1s.v),(1,s2s.v),(12,iv (s1.length:Int)),(13,iv k0)],[fs false s1 s1s,fs false s2 s2s],[]⟩) (fun k0=>(0≤k0)∧(k0≤(s1.length:Int))∧(∀ i,i < k0.toNat→s1.getD i default=s2.getD i default)) (fun k0=>((s1.length:Int)-k0).toNat) 0 (by kernel_rfl) [0,1] (by kernel_rfl) ?_ ?_
  · refine ⟨?_,?_,?_⟩
    · show 0≤(0:Int)
      first | omega | rfl | (simp;done) | (subst_vars;simp;done)
    · show (0:Int)≤(s1.length:Int)
      first | omega | rfl | (simp;done) | (subst_vars;simp;done)
    show ∀ i,i < (0:Int).toNat→s1.getD i default=s2.getD i default;intro i hi;simp at hi
  rintro k0 hF1 kw5 Z1 hZ1;have hF1:(0≤k0)∧(k0≤(s1.length:Int))∧(∀ i,i < k0.toNat→s1.getD i default=s2.getD i default):=hF1;obtain ⟨hf1,hf2,hf3⟩:=hF1;clear kw5;refine V.g [.k (bv (decide (k0 < (s1.length:Int))))] fun _ _ G5=>?_;intro S s;refine V.cn (b:=decide (k0 < (s1.length:Int))) iDT iDF (fun q3=>?_) (fun q4=>?_)
  · refine V.g [.k (iv k0),.k (iv k0)] fun _ _ G6=>?_;intro S s
    refine nm (s1.getD k0.toNat default:DThing) fun x1 hx1=>?_;refine nm (s2.getD k0.toNat default:DThing) fun x2 hx2=>?_;refine V.g [.k (s1s.v),.k (iv k0),.ix g0 (kf false (.f 0) s1 (fun _=>s1s)) k0 (fun _=>⟨by omega,by omega⟩),.le g0 (kf false (.f 0) s1 (fun _=>s1s)) k0 none false x1 hx1 (fun _=>⟨by omega,by omega⟩) true (fun _=>Dat.cells x1),.k (s2s.v),.k (iv k0),.ix g0 (kf false (.f 1) s2 (fun _=>s2s)) k0 (fun _=>⟨by omega,by omega⟩),.le g0 (kf false (.f 1) s2 (fun _=>s2s)) k0 none false x2 hx2 (fun _=>⟨by omega,by omega⟩) true (fun _=>Dat.cells x2),.aeq true 41 (ca x1) (ca x2) _ fun w=>thing_equal w x1.Text x1.Value x1.Blind x1.Left x1.Right x2.Text x2.Value x2.Blind x2.Left x2.Right] fun _ _ G7=>?_;intro S s
    refine V.cn (b:=!(decide (x1.Text=x2.Text∧x1.Value=x2.Value∧x1.Blind=x2.Blind∧x1.Left=x2.Left∧x1.Right=x2.Right))) (iNT iDF) (iNF iDT) (fun q5=>?_) (fun q6=>?_)
    · refine V.g [.kb false] fun _ _ G8=>?_;intro S s
      have e0:false=decide (s1=s2):=by
        symm;rw [decide_eq_false_iff_not];intro h;apply q5
        rw [←Tm.thing_ext,hx1,hx2,h]
      exact V.rt [0] [] [] [] [] [] (bv false) (cong1 (fun (x0:Bool)=>(bv x0:Value)) e0)
    refine V.g [.a (k0+1) (by omega) (by omega),.k (iv (k0+1))] fun _ _ G9=>?_;intro S s
    refine V.rnd hZ1 (k0+1) [0,1] (by kernel_rfl) ?_ ?_
    · refine ⟨?_,?_,?_⟩
      · show 0≤(k0+1)
        first | omega | rfl | (simp;done) | (subst_vars;simp;done)
      · show (k0+1)≤(s1.length:Int)
        first | omega | rfl | (simp;done) | (subst_vars;simp;done)
      show ∀ i,i < (k0+1).toNat→s1.getD i default=s2.getD i default;intro i hi;by_cases e:i < k0.toNat
      · exact hf3 i e
      rw [show i=k0.toNat by omega,← hx1,← hx2];exact (Tm.thing_ext _ _).2 q6
    show ((s1.length:Int)-(k0+1)).toNat < ((s1.length:Int)-k0).toNat;omega
  refine V.g [.kb true] fun _ _ G10=>?_;intro S s
  have e0:true=decide (s1=s2):=by symm;rw [decide_eq_true_iff];exact Rv.eq_of_getD (by omega) fun i hi=>hf3 i (by omega)
  exact V.rt [0] [] [] [] [] [] (bv true) (cong1 (fun (x0:Bool)=>(bv x0:Value)) e0)
set_option maxRecDepth 10000 in
theorem hidden_ct (d:ByteArray) (a c e f:Int) :
    Cp Try.prog 56 #[ag (DThing.mk d a c e f)] [] (bv (decide (a= -1∧c= -1))):=by
  refine V.fn mo Try.func56 11 1 (by kernel_rfl) fun w H ε k0=>?_;clear k0
  refine V.g [.nb 0 0 (fun b=>pp b 0) 41 (fun _=>ca (DThing.mk d a c e f)),.kb false] fun _ _ G1=>?_;intro S s
  refine nm ((decide (a=(-1))) && (decide (c=(-1))):Bool) fun p1 hp1=>?_;refine V.g [.k (pp ((G1 0).b) 1),.ld 0 1 false (fun _=>[iv a]),.k (bv (decide (a=(-1)))),.k (bv (decide (a=(-1)))),.k (pp ((G1 0).b) 2),.ld 0 2 false (fun _=>[iv c]),.k (bv (decide (c=(-1)))),.andn g0 false (decide (a=(-1))) (decide (c=(-1))) p1 hp1,.k (bv p1)] fun _ _ G2=>?_;intro S s
  have e0:p1=decide (a= -1∧c= -1):=by
    refine Bool.eq_iff_iff.2 (Iff.trans (iN hp1 (iAT iDT iDT)) (Iff.trans ?_ decide_eq_true_iff.symm));exact Iff.rfl
  exact V.rt [0] [] [] [] [] [] (bv p1) (cong1 (fun (x0:Bool)=>(bv x0:Value)) e0)
set_option maxRecDepth 10000 in
theorem opened_ct (d:ByteArray) (c a e f:Int) :
    Cp Try.prog 57 #[ag (DThing.mk d c a e f)] [] (bv (decide (Tm.Bd ⟨d,c,a,e,f⟩))):=by
  refine V.fn mo Try.func57 21 1 (by kernel_rfl) fun w H ε k0=>?_;clear k0
  refine V.g [.nb 0 0 (fun b=>pp b 0) 41 (fun _=>ca (DThing.mk d c a e f)),.kb false] fun _ _ G1=>?_;intro S s
  refine nm ((decide (0≤c)) && (decide (c≤1125899906842624)):Bool) fun p1 hp1=>?_;refine nm ((p1 && (decide (0≤a))) && (decide (a≤1125899906842624)):Bool) fun p2 hp2=>?_;refine V.g [.k (pp ((G1 0).b) 1),.ld 0 1 false (fun _=>[iv c]),.k (bv (decide (0≤c))),.k (bv (decide (0≤c))),.k (pp ((G1 0).b) 1),.ld 0 1 false (fun _=>[iv c]),.k (bv (decide (c≤1125899906842624))),.andn g0 false (decide (0≤c)) (decide (c≤1125899906842624)) p1 hp1,.k (bv p1),.k (pp ((G1 0).b) 2),.ld 0 2 false (fun _=>[iv a]),.k (bv (decide (0≤a))),.and g0 false p1 (decide (0≤a)),.k (bv (p1 && (decide (0≤a)))),.k (pp ((G1 0).b) 2),.ld 0 2 false (fun _=>[iv a]),.k (bv (decide (a≤1125899906842624))),.andn g0 false (p1 && (decide (0≤a))) (decide (a≤1125899906842624)) p2 hp2,.k (bv p2)] fun _ _ G2=>?_;intro S s
  have e0:p2=decide (Tm.Bd ⟨d,c,a,e,f⟩):=by
    refine Bool.eq_iff_iff.2 (Iff.trans (iN hp2 (iAT (iAT (iN hp1 (iAT iDT iDT)) iDT) iDT)) (Iff.trans ?_ decide_eq_true_iff.symm));simp only [Tm.Bd];omega
  exact V.rt [0] [] [] [] [] [] (bv p2) (cong1 (fun (x0:Bool)=>(bv x0:Value)) e0)
set_option maxRecDepth 10000 in
theorem walk_ct (path:List Int) (paths:SV) (seen:List DThing) (seens:SV) :
    Cp Try.prog 45 #[paths.v,seens.v] [fs true path paths,fs true seen seens] (bv (decide (Rv.walk path seen))):=by
  refine V.fn mo Try.func45 89 2 (by kernel_rfl) fun w H ε k0=>?_;obtain ⟨⟨kl1, -⟩,⟨kl2, -⟩, -⟩:Lq path paths.v∧Lq seen seens.v∧True:=kq k0
  clear k0;refine V.g [.kb false] fun _ _ G1=>?_;intro S s
  refine V.g [.k (paths.v),.ln (kf false (.f 0) path (fun _=>paths)),.k (iv (path.length:Int))] fun _ _ G2=>?_;intro S s
  refine nm ((decide ((path.length:Int)=0)) || (!(decide ((seen.length:Int)=(path.length:Int)))):Bool) fun p1 hp1=>?_;refine V.g [.k (iv (path.length:Int)),.k (bv (decide ((path.length:Int)=0))),.k (bv (decide ((path.length:Int)=0))),.k (seens.v),.ln (kf false (.f 1) seen (fun _=>seens)),.k (iv (path.length:Int)),.k (bv (!(decide ((seen.length:Int)=(path.length:Int))))),.orn g0 false (decide ((path.length:Int)=0)) (!(decide ((seen.length:Int)=(path.length:Int)))) p1 hp1] fun _ _ G3=>?_;intro S s
  refine V.cn (b:=p1) (iN hp1 (iOT iDT (iNT iDF))) (iN hp1 (iOF iDF (iNF iDT))) (fun q1=>?_) (fun q2=>?_)
  · refine V.g [.kb false] fun _ _ G4=>?_;intro S s
    have e0:false=decide (Rv.walk path seen):=by
      symm;rw [decide_eq_false_iff_not]
      rintro ⟨h1,h2,_⟩;omega
    exact V.rt [0] [] [] [] [] [] (bv false) (cong1 (fun (x0:Bool)=>(bv x0:Value)) e0)
  refine nm ((path.length:Int)-1:Int) fun n1 hn1=>?_;refine nm (seen.take n1.toNat:List DThing) fun l1 hl1=>?_;have hl1n:=congrArg List.length hl1;try simp only [List.length_append,List.length_cons,List.length_nil,List.length_replicate,List.length_set,List.length_take,List.length_drop,List.length_map,List.length_reverse,List.length_range] at hl1n
  refine V.r [.k (seens.v),.k (iv (path.length:Int)),.ar ((path.length:Int)-1) n1 hn1 (by omega) (by omega),.sl g0 (kf false (.f 1) seen (fun _=>seens)) rfl none (some n1) 0 n1 rfl rfl l1 (by rw [hl1];simp) (fun _=>⟨by omega,by omega,by omega⟩),.ln (kf false (.g 3 0) l1 (fun _=>(seens.sub 5 (0:Int).toNat n1.toNat))),.k (iv 0)] fun _ _ G5 kw5=>?_;intro S s
  obtain ⟨⟨kl3, -⟩, -⟩:Lq l1 ((seens.sub 5 (0:Int).toNat n1.toNat).v)∧True:=kq kw5;clear kw5;refine V.loop (γ:=Int) (fun k0=>⟨[(0,paths.v),(1,seens.v),(5,iv (path.length:Int)),(23,(seens.sub 5 (0:Int).toNat n1.toNat).v),(24,iv (l1.length:Int)),(25,iv k0)],[fs false path paths,fs false seen seens,fs false l1 (seens.sub 5 (0:Int).toNat n1.toNat)],[.no,.no]⟩) (fun k0=>(0≤k0)∧(k0≤(l1.length:Int))∧(∀ i,i < k0.toNat→Rv.mid path seen i)) (fun k0=>((l1.length:Int)-k0).toNat) 0 (by kernel_rfl) [0,1,2] (by kernel_rfl) ?_ ?_
  · refine ⟨?_,?_,?_⟩
    · show 0≤(0:Int)
      first | omega | rfl | (simp;done) | (subst_vars;simp;done)
    · show (0:Int)≤(l1.length:Int)
      first | omega | rfl | (simp;done) | (subst_vars;simp;done)
    show ∀ i,i < (0:Int).toNat→Rv.mid path seen i;intro i hi;simp at hi
  rintro k0 hF1 kw6 Z1 hZ1;have hF1:(0≤k0)∧(k0≤(l1.length:Int))∧(∀ i,i < k0.toNat→Rv.mid path seen i):=hF1;obtain ⟨hf1,hf2,hf3⟩:=hF1;clear kw6;refine V.g [.k (bv (decide (k0 < (l1.length:Int))))] fun _ _ G6=>?_;intro S s;refine V.cn (b:=decide (k0 < (l1.length:Int))) iDT iDF (fun q3=>?_) (fun q4=>?_)
  · refine nm (l1.getD k0.toNat default:DThing) fun x1 hx1=>?_;refine V.g [.k (iv k0),.ix g0 (kf false (.f 2) l1 (fun _=>(seens.sub 5 (0:Int).toNat n1.toNat))) k0 (fun _=>⟨by omega,by omega⟩),.le g0 (kf false (.f 2) l1 (fun _=>(seens.sub 5 (0:Int).toNat n1.toNat))) k0 none false x1 hx1 (fun _=>⟨by omega,by omega⟩) true (fun _=>Dat.cells x1),.nb 3 0 (fun b=>pp b 0) 41 (fun _=>ca (DThing.mk ByteArray.empty 0 0 0 0)),.k (iv k0),.st 0 (fun G=>.blk ((G 3).b) (ca x1) 41)] fun _ _ G7=>?_;intro S s
    refine nm (path.getD (k0+1).toNat default:Int) fun v1 hv1=>?_;refine V.g [.k (paths.v),.k (iv k0),.a (k0+1) (by omega) (by omega),.ix g0 (kf false (.f 0) path (fun _=>paths)) (k0+1) (fun _=>⟨by omega,by omega⟩),.le g0 (kf false (.f 0) path (fun _=>paths)) (k0+1) none false v1 hv1 (fun _=>⟨by omega,by omega⟩) false (fun _=>[iv v1]),.k (iv v1)] fun _ _ G8=>?_;intro S s
    refine nm ((!(decide (x1.Left=v1))) && (!(decide (x1.Right=v1))):Bool) fun p2 hp2=>?_;refine nm ((decide (0 < k0)) && (!(decide (x1.Value= -1∧x1.Blind= -1))):Bool) fun p3 hp3=>?_;refine nm (((!(decide (x1.Text=ByteArray.empty))) || p2) || p3:Bool) fun p4 hp4=>?_;refine V.g [.k (pp ((G7 3).b) 0),.ld 0 0 false (fun _=>[tv x1.Text]),.sne x1.Text ByteArray.empty,.k (bv (!(decide (x1.Text=ByteArray.empty)))),.k (pp ((G7 3).b) 3),.ld 0 3 false (fun _=>[iv x1.Left]),.k (iv v1),.k (bv (!(decide (x1.Left=v1)))),.k (bv (!(decide (x1.Left=v1)))),.k (pp ((G7 3).b) 4),.ld 0 4 false (fun _=>[iv x1.Right]),.k (iv v1),.k (bv (!(decide (x1.Right=v1)))),.andn (gF (b:=!(decide (x1.Text=ByteArray.empty))) (iNF iDT)) false (!(decide (x1.Left=v1))) (!(decide (x1.Right=v1))) p2 hp2,.or g0 false (!(decide (x1.Text=ByteArray.empty))) p2,.k (bv ((!(decide (x1.Text=ByteArray.empty))) || p2)),.k (iv k0),.k (bv (decide (0 < k0))),.k (bv (decide (0 < k0))),.ld 0 0 true (fun _=>Dat.cells x1),.cp ((gF (b:=(!(decide (x1.Text=ByteArray.empty))) || p2) (iOF (iNF iDT) (iN hp2 (iAF (iNF iDT) (iNF iDT))))).T (b:=decide (0 < k0)) iDT) 20 56 [] (fun hg G=>hidden_ct x1.Text x1.Value x1.Blind x1.Left x1.Right),.k (bv (!(decide (x1.Value= -1∧x1.Blind= -1)))),.andn (gF (b:=(!(decide (x1.Text=ByteArray.empty))) || p2) (iOF (iNF iDT) (iN hp2 (iAF (iNF iDT) (iNF iDT))))) false (decide (0 < k0)) (!(decide (x1.Value= -1∧x1.Blind= -1))) p3 hp3,.orn g0 false ((!(decide (x1.Text=ByteArray.empty))) || p2) p3 p4 hp4] fun _ _ G9=>?_;intro S s
    refine V.cn (b:=p4) (iN hp4 (iOT (iOT (iNT iDF) (iN hp2 (iAT (iNT iDF) (iNT iDF)))) (iN hp3 (iAT iDT (iNT iDF))))) (iN hp4 (iOF (iOF (iNF iDT) (iN hp2 (iAF (iNF iDT) (iNF iDT)))) (iN hp3 (iAF iDF (iNF iDT))))) (fun q5=>?_) (fun q6=>?_)
    · refine V.g [.kb false] fun _ _ G10=>?_;intro S s
      have e0:false=decide (Rv.walk path seen):=by
        symm;rw [decide_eq_false_iff_not]
        exact Rv.walk_no (by omega) (by omega) hl1 hn1 hx1 hv1 q5
      exact V.rt [0] [] [] [] [] [] (bv false) (cong1 (fun (x0:Bool)=>(bv x0:Value)) e0)
    refine V.g [.a (k0+1) (by omega) (by omega),.k (iv (k0+1))] fun _ _ G11=>?_;intro S s
    refine V.rnd hZ1 (k0+1) [0,1,2] (by kernel_rfl) ?_ ?_
    · refine ⟨?_,?_,?_⟩
      · show 0≤(k0+1)
        first | omega | rfl | (simp;done) | (subst_vars;simp;done)
      · show (k0+1)≤(l1.length:Int)
        first | omega | rfl | (simp;done) | (subst_vars;simp;done)
      show ∀ i,i < (k0+1).toNat→Rv.mid path seen i;exact Rv.mid_step hf3 (by omega) (by omega) hl1 hx1 hv1 q6
    show ((l1.length:Int)-(k0+1)).toNat < ((l1.length:Int)-k0).toNat;omega
  refine nm ((path.length:Int)-1:Int) fun n2 hn2=>?_;refine nm (seen.getD n2.toNat default:DThing) fun x2 hx2=>?_;refine V.g [.k (seens.v),.k (iv (path.length:Int)),.ar ((path.length:Int)-1) n2 hn2 (by omega) (by omega),.ix g0 (kf false (.f 1) seen (fun _=>seens)) n2 (fun _=>⟨by omega,by omega⟩),.le g0 (kf false (.f 1) seen (fun _=>seens)) n2 none false x2 hx2 (fun _=>⟨by omega,by omega⟩) true (fun _=>Dat.cells x2),.nb 5 1 (fun b=>pp b 0) 41 (fun _=>ca (DThing.mk ByteArray.empty 0 0 0 0)),.st 1 (fun G=>.blk ((G 5).b) (ca x2) 41)] fun _ _ G12=>?_;intro S s
  refine nm (seen.getD (0:Int).toNat default:DThing) fun x3 hx3=>?_;refine nm ((decide (Tm.Bd ⟨x3.Text,x3.Value,x3.Blind,x3.Left,x3.Right⟩)) && (decide (Tm.Bd ⟨x2.Text,x2.Value,x2.Blind,x2.Left,x2.Right⟩)):Bool) fun p5 hp5=>?_;refine nm ((p5 && (decide (x2.Left=(-1)))) && (decide (x2.Right=(-1))):Bool) fun p6 hp6=>?_;refine V.g [.k (seens.v),.ix g0 (kf false (.f 1) seen (fun _=>seens)) 0 (fun _=>⟨by omega,by omega⟩),.le g0 (kf false (.f 1) seen (fun _=>seens)) (0:Int) none false x3 hx3 (fun _=>⟨by omega,by omega⟩) true (fun _=>Dat.cells x3),.cp g0 3 57 [] (fun _ G=>opened_ct x3.Text x3.Value x3.Blind x3.Left x3.Right),.k (bv (decide (Tm.Bd ⟨x3.Text,x3.Value,x3.Blind,x3.Left,x3.Right⟩))),.ld 1 0 true (fun _=>Dat.cells x2),.cp (gT (b:=decide (Tm.Bd ⟨x3.Text,x3.Value,x3.Blind,x3.Left,x3.Right⟩)) iDT) 6 57 [] (fun hg G=>opened_ct x2.Text x2.Value x2.Blind x2.Left x2.Right),.andn g0 false (decide (Tm.Bd ⟨x3.Text,x3.Value,x3.Blind,x3.Left,x3.Right⟩)) (decide (Tm.Bd ⟨x2.Text,x2.Value,x2.Blind,x2.Left,x2.Right⟩)) p5 hp5,.k (bv p5),.k (pp ((G12 5).b) 3),.ld 1 3 false (fun _=>[iv x2.Left]),.k (bv (decide (x2.Left=(-1)))),.and g0 false p5 (decide (x2.Left=(-1))),.k (bv (p5 && (decide (x2.Left=(-1))))),.k (pp ((G12 5).b) 4),.ld 1 4 false (fun _=>[iv x2.Right]),.k (bv (decide (x2.Right=(-1)))),.andn g0 false (p5 && (decide (x2.Left=(-1)))) (decide (x2.Right=(-1))) p6 hp6,.k (bv p6),.k (pp ((G12 5).b) 0),.ld 1 0 false (fun _=>[tv x2.Text]),.k (iv (x2.Text.size:Int)),.k (bv (decide ((x2.Text.size:Int)≤8000))),.and g0 false p6 (decide ((x2.Text.size:Int)≤8000)),.k (bv (p6 && (decide ((x2.Text.size:Int)≤8000))))] fun _ _ G13=>?_;intro S s
  have e0:(p6 && (decide ((x2.Text.size:Int)≤8000)))=decide (Rv.walk path seen):=by
    refine Bool.eq_iff_iff.2 (Iff.trans (iAT (iN hp6 (iAT (iAT (iN hp5 (iAT iDT iDT)) iDT) iDT)) iDT) (Iff.trans ?_ decide_eq_true_iff.symm));exact (Rv.walk_fin (by omega) (by omega) (fun i hi=>hf3 i (by omega)) hn2 hx2 hx3).symm
  exact V.rt [0] [] [] [] [] [] (bv (p6 && (decide ((x2.Text.size:Int)≤8000)))) (cong1 (fun (x0:Bool)=>(bv x0:Value)) e0)

namespace Tm
theorem sound_one {x:DThing}:Sound [x]↔isLeaf x:=by
  unfold Sound okTo okT
  constructor
  · rintro ⟨_,h⟩
    rcases h 0 (by simp) with h | ⟨h,_⟩
    · simpa using h
    · exfalso;simp [pairE,has] at h
  · intro h
    refine ⟨by simp,fun i hi=>?_⟩
    have:i=0:=by simp at hi;exact hi
    subst this
    exact .inl (by simpa using h)
def leafT (t:ByteArray) (v b:Int):DThing:=⟨t,v,b, -1, -1⟩
def leafAt (texts:List ByteArray) (values blinds:List Int) (i:Nat):DThing:=leafT (texts.getD i default) (values.getD i default) (blinds.getD i default)
def leavesN (texts:List ByteArray) (values blinds:List Int) (n:Nat):List DThing:=(List.range n).map (leafAt texts values blinds)
def idsN (a n:Nat):List Int:=(List.range n).map fun i=>((a+i:Nat):Int)
def pairUp:List DThing→List Int→List DThing × List Int
  | th,a :: b :: rest=>((pairUp (th ++[pairX th a b]) rest).1,(th.length:Int) :: (pairUp (th ++[pairX th a b]) rest).2)
  | th,l=>(th,l)
def up:Nat→List DThing→List Int→List DThing × List Int
  | 0,th,l=>(th,l)
  | n+1,th,l=>if 1 < l.length then up n (pairUp th l).1 (pairUp th l).2 else (th,l)
def argsOK (v:List DThing) (texts:List ByteArray) (values blinds:List Int):Prop :=
  Sound v∧texts.length≠0∧values.length=texts.length∧blinds.length=texts.length∧∀ i,i < texts.length→isLeaf (leafAt texts values blinds i)
instance (v : List DThing) (texts : List ByteArray) (values blinds : List Int) : Decidable (argsOK v texts values blinds) := by unfold argsOK; infer_instance
def buildE (v:List DThing) (texts:List ByteArray) (values blinds:List Int):Int :=
  if ¬ argsOK v texts values blinds then 1 else if 64 < texts.length∨2000 < (v.length:Int)+2 * texts.length - 1 then 6 else 0
def built (v:List DThing) (texts:List ByteArray) (values blinds:List Int):List DThing × List Int :=
  up texts.length (v ++leavesN texts values blinds texts.length) (idsN v.length texts.length)
def buildT (v:List DThing) (texts:List ByteArray) (values blinds:List Int):List DThing:=if buildE v texts values blinds=0 then (built v texts values blinds).1 else []
def buildR (v:List DThing) (texts:List ByteArray) (values blinds:List Int):Int:=if buildE v texts values blinds=0 then (built v texts values blinds).2.getD 0 default else -1
def buildL (v:List DThing) (texts:List ByteArray) (values blinds:List Int):List Int:=if buildE v texts values blinds=0 then idsN v.length texts.length else []
theorem build_arg {v:List DThing} {texts:List ByteArray} {values blinds:List Int} (h:¬ argsOK v texts values blinds):buildE v texts values blinds=1∧buildT v texts values blinds=[]∧buildR v texts values blinds= -1∧buildL v texts values blinds=[]:=by
  have e:buildE v texts values blinds=1:=by unfold buildE;rw [if_pos h]
  refine ⟨e,?_,?_,?_⟩
  · unfold buildT;rw [e];rfl
  · unfold buildR;rw [e];rfl
  · unfold buildL;rw [e];rfl
theorem build_full {v:List DThing} {texts:List ByteArray} {values blinds:List Int} (h:argsOK v texts values blinds) (h2:64 < texts.length∨2000 < (v.length:Int)+2 * texts.length - 1):buildE v texts values blinds=6∧buildT v texts values blinds=[]∧buildR v texts values blinds= -1∧buildL v texts values blinds=[]:=by
  have e:buildE v texts values blinds=6:=by unfold buildE;rw [if_neg (by simpa using h),if_pos h2]
  refine ⟨e,?_,?_,?_⟩
  · unfold buildT;rw [e];rfl
  · unfold buildR;rw [e];rfl
  · unfold buildL;rw [e];rfl
theorem build_ok {v:List DThing} {texts:List ByteArray} {values blinds:List Int} (h:argsOK v texts values blinds) (h2:¬ (64 < texts.length∨2000 < (v.length:Int)+2 * texts.length - 1)) :
    buildE v texts values blinds=0∧buildT v texts values blinds=(built v texts values blinds).1∧buildR v texts values blinds=(built v texts values blinds).2.getD 0 default∧buildL v texts values blinds=idsN v.length texts.length:=by
  have e:buildE v texts values blinds=0:=by unfold buildE;rw [if_neg (by simpa using h),if_neg h2]
  refine ⟨e,?_,?_,?_⟩
  · unfold buildT;rw [e];rfl
  · unfold buildR;rw [e];rfl
  · unfold buildL;rw [e];rfl
@[simp] theorem leavesN_length (texts:List ByteArray) (values blinds:List Int) (n:Nat):(leavesN texts values blinds n).length=n:=by simp [leavesN]
@[simp] theorem idsN_length (a n:Nat):(idsN a n).length=n:=by simp [idsN]
theorem leavesN_succ (texts:List ByteArray) (values blinds:List Int) (n:Nat):leavesN texts values blinds (n+1)=leavesN texts values blinds n ++[leafAt texts values blinds n]:=by
  unfold leavesN;rw [List.range_succ,List.map_append];rfl
theorem idsN_succ (a n:Nat):idsN a (n+1)=idsN a n ++[((a+n:Nat):Int)]:=by unfold idsN;rw [List.range_succ,List.map_append];rfl
def sumV (th:List DThing) (l:List Int):Int:=(l.map fun a=>(el th a).Value).sum
def sumB (th:List DThing) (l:List Int):Int:=(l.map fun a=>(el th a).Blind).sum
structure Lev (th:List DThing) (l:List Int) (S B:Int):Prop where
  has:∀ a ∈ l,has th a∧0≤(el th a).Value∧0≤(el th a).Blind
  v:sumV th l=S
  b:sumB th l=B
theorem el_append {th:List DThing} {x:DThing} {a:Int} (h:Tm.has th a):el (th ++[x]) a=el th a:=by
  unfold Tm.has at h
  unfold el
  rw [List.getD_eq_getElem?_getD,List.getElem?_append_left (by omega),← List.getD_eq_getElem?_getD]
theorem el_last {th:List DThing} {x:DThing}:el (th ++[x]) (th.length:Int)=x:=by unfold el;simp
theorem has_append {th m:List DThing} {a:Int} (h:Tm.has th a):Tm.has (th ++m) a:=by unfold Tm.has at *;simp;omega
theorem sum_le {f:Int→Int}:∀ {l:List Int},(∀ a ∈ l,0≤f a)→∀ a ∈ l,f a≤(l.map f).sum
  | [],_,a,h=>by cases h
  | x :: l,h0,a,h=>by
    have h1:=h0 x (by simp)
    have hs:0≤(l.map f).sum:=by
      clear h
      induction l with
      | nil=>simp
      | cons y l ih =>
        have:=ih fun a ha=>h0 a (by simp at ha ⊢;rcases ha with ha | ha <;> simp [ha])
        have:=h0 y (by simp)
        simp;omega
    rcases List.mem_cons.1 h with rfl | h
    · simp;omega
    · have:=sum_le (fun a ha=>h0 a (by simp [ha])) a h
      simp;omega
theorem Lev.le {th:List DThing} {l:List Int} {S B:Int} (h:Lev th l S B) {a:Int} (ha:a ∈ l):Tm.has th a∧0≤(el th a).Value∧(el th a).Value≤S∧0≤(el th a).Blind∧(el th a).Blind≤B:=by
  have h1:=h.has a ha
  have h2:=sum_le (f:=fun a=>(el th a).Value) (fun a ha=>(h.has a ha).2.1) a ha
  have h3:=sum_le (f:=fun a=>(el th a).Blind) (fun a ha=>(h.has a ha).2.2) a ha
  have:=h.v;have:=h.b
  unfold sumV at *;unfold sumB at *
  exact ⟨h1.1,h1.2.1,by omega,h1.2.2,by omega⟩
theorem map_el {th:List DThing} {x:DThing} {f:DThing→Int} {l:List Int} (h:∀ a ∈ l,Tm.has th a):(l.map fun a=>f (el (th ++[x]) a))=l.map fun a=>f (el th a) :=
  List.map_congr_left fun a ha=>by rw [el_append (h a ha)]
theorem Lev.pair {th:List DThing} {pre post:List Int} {a b S B:Int} (h:Lev th (pre ++a :: b :: post) S B):Lev (th ++[pairX th a b]) (pre ++(th.length:Int) :: post) S B:=by
  have hh:∀ c ∈ pre ++a :: b :: post,Tm.has th c:=fun c hc=>(h.has c hc).1
  have hpre:∀ c ∈ pre,Tm.has th c:=fun c hc=>hh c (by simp [hc])
  have hpost:∀ c ∈ post,Tm.has th c:=fun c hc=>hh c (by simp [hc])
  have ha:=h.has a (by simp)
  have hb:=h.has b (by simp)
  refine ⟨fun c hc=>?_,?_,?_⟩
  · simp only [List.mem_append,List.mem_cons] at hc
    rcases hc with hc | rfl | hc
    · rw [el_append (hpre c hc)];exact ⟨has_append (hpre c hc),(h.has c (by simp [hc])).2⟩
    · rw [el_last];unfold Tm.has pairX;simp;omega
    · rw [el_append (hpost c hc)];exact ⟨has_append (hpost c hc),(h.has c (by simp [hc])).2⟩
  · have:=h.v
    unfold sumV at *
    rw [List.map_append,List.map_cons,map_el (f:=DThing.Value) hpre,map_el (f:=DThing.Value) hpost,el_last]
    simp only [List.map_append,List.map_cons,List.sum_append,List.sum_cons,pairX] at *
    omega
  · have:=h.b
    unfold sumB at *
    rw [List.map_append,List.map_cons,map_el (f:=DThing.Blind) hpre,map_el (f:=DThing.Blind) hpost,el_last]
    simp only [List.map_append,List.map_cons,List.sum_append,List.sum_cons,pairX] at *
    omega
theorem sum_bound {f:Nat→Int} {c:Int}:∀ n:Nat,(∀ i,i < n→0≤f i∧f i≤c)→0≤((List.range n).map f).sum∧((List.range n).map f).sum≤n * c
  | 0,_=>by simp
  | n+1,h=>by
    have ih:=sum_bound n fun i hi=>h i (by omega)
    have:=h n (by omega)
    rw [List.range_succ,List.map_append,List.sum_append]
    simp only [List.map_cons,List.map_nil,List.sum_cons,List.sum_nil]
    have e:((n+1:Nat):Int) * c=n * c+c:=by rw [Int.natCast_add,Int.add_mul];simp
    omega
def totV (values:List Int) (n:Nat):Int:=((List.range n).map fun i=>values.getD i default).sum
theorem el_leaf {v:List DThing} {texts:List ByteArray} {values blinds:List Int} {n i:Nat} (h:i < n):el (v ++leavesN texts values blinds n) ((v.length+i:Nat):Int)=leafAt texts values blinds i:=by
  unfold el leavesN
  rw [Int.toNat_natCast,List.getD_eq_getElem?_getD,List.getElem?_append_right (by omega),Nat.add_sub_cancel_left]
  simp [h]
theorem lev_start {v:List DThing} {texts:List ByteArray} {values blinds:List Int} (h:argsOK v texts values blinds):Lev (v ++leavesN texts values blinds texts.length) (idsN v.length texts.length) (totV values texts.length) (totV blinds texts.length):=by
  refine ⟨fun a ha=>?_,?_,?_⟩
  · obtain ⟨i,hi,rfl⟩:=List.mem_map.1 ha
    have hi:=List.mem_range.1 hi
    have hl:=h.2.2.2.2 i hi
    rw [el_leaf hi]
    unfold isLeaf at hl
    refine ⟨?_,by omega,by omega⟩
    unfold Tm.has;simp;omega
  · unfold sumV totV idsN
    rw [List.map_map]
    congr 1
    refine List.map_congr_left fun i hi=>?_
    simp only [Function.comp]
    rw [el_leaf (List.mem_range.1 hi)];rfl
  · unfold sumB totV idsN
    rw [List.map_map]
    congr 1
    refine List.map_congr_left fun i hi=>?_
    simp only [Function.comp]
    rw [el_leaf (List.mem_range.1 hi)];rfl
theorem tot_bound {v:List DThing} {texts:List ByteArray} {values blinds:List Int} (h:argsOK v texts values blinds):(0≤totV values texts.length∧totV values texts.length≤texts.length * 1099511627776)∧0≤totV blinds texts.length∧totV blinds texts.length≤texts.length * 1099511627776 :=
  ⟨sum_bound _ fun i hi=>⟨(h.2.2.2.2 i hi).2.2.2.1,(h.2.2.2.2 i hi).2.2.2.2.1⟩,sum_bound _ fun i hi=>⟨(h.2.2.2.2 i hi).2.2.2.2.2.1,(h.2.2.2.2 i hi).2.2.2.2.2.2⟩⟩
theorem pairUp_length:∀ (th:List DThing) (l:List Int),(pairUp th l).2.length=(l.length+1) / 2
  | th,[]=>rfl
  | th,[a]=>by simp [pairUp]
  | th,a :: b :: rest=>by
    rw [pairUp]
    simp only [List.length_cons]
    rw [pairUp_length _ rest];omega
theorem ids_step {l m:List Int} {k k' n:Int} {a:Nat} (h:l=idsN a k.toNat) (h0:0≤k) (hk':k'=k+1) (hm:m=l ++[n]) (hn:n=(a:Int)+k):m=idsN a k'.toNat:=by
  subst h hk' hm
  rw [show (k+1).toNat=k.toNat+1 by omega,idsN_succ,hn]
  congr 2;omega
theorem leaves_step {v b m:List DThing} {texts:List ByteArray} {values blinds:List Int} {k k' x y:Int} {s:ByteArray} (h:b=v ++leavesN texts values blinds k.toNat) (h0:0≤k) (hk':k'=k+1)
    (hs:s=texts.getD k.toNat default) (hx:x=values.getD k.toNat default) (hy:y=blinds.getD k.toNat default) (hm:m=b ++[DThing.mk s x y (-1) (-1)]):m=v ++leavesN texts values blinds k'.toNat:=by
  subst h hk' hm hs hx hy
  rw [show (k+1).toNat=k.toNat+1 by omega,leavesN_succ,List.append_assoc]
  rfl
theorem leaf_no {v:List DThing} {texts:List ByteArray} {values blinds:List Int} {k x y:Int} {s:ByteArray} (h0:0≤k) (hk:k < texts.length) (hs:s=texts.getD k.toNat default) (hx:x=values.getD k.toNat default) (hy:y=blinds.getD k.toNat default)
    (h:¬ Sound [DThing.mk s x y (-1) (-1)]):¬ argsOK v texts values blinds:=by
  rintro ⟨_,_,_,_,h5⟩
  rw [sound_one] at h
  have:=h5 k.toNat (by omega)
  subst hs hx hy
  exact h this
theorem leaf_step {texts:List ByteArray} {values blinds:List Int} {k k' x y:Int} {s:ByteArray} (hp:∀ i,i < k.toNat→isLeaf (leafAt texts values blinds i)) (h0:0≤k) (hk':k'=k+1) (hs:s=texts.getD k.toNat default) (hx:x=values.getD k.toNat default) (hy:y=blinds.getD k.toNat default)
    (h:Sound [DThing.mk s x y (-1) (-1)]):∀ i,i < k'.toNat→isLeaf (leafAt texts values blinds i):=by
  intro i hi
  by_cases e:i=k.toNat
  · subst e hs hx hy
    rw [sound_one] at h
    exact h
  · exact hp i (by omega)
theorem up_fuel:∀ (n m:Nat) (th:List DThing) (l:List Int),l.length≤n→l.length≤m→up n th l=up m th l
  | 0,0,_,_,_,_=>rfl
  | 0,m+1,th,l,h,_=>by rw [up,up,if_neg (by omega)]
  | n+1,0,th,l,_,h=>by rw [up,up,if_neg (by omega)]
  | n+1,m+1,th,l,h1,h2=>by
    rw [up,up]
    split
    · have:=pairUp_length th l
      exact up_fuel n m _ _ (by omega) (by omega)
    · rfl
theorem up_step {th b:List DThing} {l m:List Int} (h:1 < l.length) (hp:pairUp th l=(b,m)):up l.length th l=up m.length b m:=by
  have hl:=pairUp_length th l
  rw [hp] at hl
  simp only at hl
  obtain ⟨n,hn⟩:∃ n,l.length=n+1:=⟨l.length - 1,by omega⟩
  rw [hn,up,if_pos h,hp]
  exact up_fuel _ _ _ _ (by simp only;omega) (Nat.le_refl _)
theorem drop2 {l:List Int} {i j x y:Int} (h0:0≤i) (hj:j=i+1) (h:j < l.length) (hx:x=l.getD i.toNat default) (hy:y=l.getD j.toNat default):l.drop i.toNat=x :: y :: l.drop (i+2).toNat:=by
  subst hj hx hy
  have h1:i.toNat < l.length:=by omega
  have h2:i.toNat+1 < l.length:=by omega
  rw [List.drop_eq_getElem_cons h1,List.drop_eq_getElem_cons h2,show (i+1).toNat=i.toNat+1 by omega,show (i+2).toNat=i.toNat+1+1 by omega]
  simp [h1,h2]
theorem Lev.two {th:List DThing} {pre l rest:List Int} {x y S B:Int} (h:Lev th (pre ++l) S B) (hd:l=x :: y :: rest) (hS:S≤1125899906842624) (hB:B≤1125899906842624) :
    (0≤x∧x < th.length)∧(0≤y∧y < th.length)∧Bd (el th x)∧Bd (el th y):=by
  subst hd
  have hx:=h.le (a:=x) (by simp)
  have hy:=h.le (a:=y) (by simp)
  unfold Tm.has at hx hy
  refine ⟨hx.1,hy.1,?_,?_⟩ <;> unfold Bd <;> omega
theorem pair_step {th b m:List DThing} {l next next':List Int} {i i' j x y n S B:Int} (hL:Lev b (next ++l.drop i.toNat) S B) (hP:pairUp th l=((pairUp b (l.drop i.toNat)).1,next ++(pairUp b (l.drop i.toNat)).2))
    (h0:0≤i) (hj:j=i+1) (h:j < l.length) (hx:x=l.getD i.toNat default) (hy:y=l.getD j.toNat default) (hi':i'=i+2) (hm:m=b ++[pairX b x y]) (hn:n=b.length) (hn':next'=next ++[n]) :
    Lev m (next' ++l.drop i'.toNat) S B∧pairUp th l=((pairUp m (l.drop i'.toNat)).1,next' ++(pairUp m (l.drop i'.toNat)).2):=by
  have hd:=drop2 h0 hj h hx hy
  rw [hd] at hL hP
  subst hi' hm hn hn'
  constructor
  · rw [List.append_assoc];exact hL.pair
  · rw [hP,pairUp];simp
theorem pair_end {th b:List DThing} {l next:List Int} {i:Int} (hP:pairUp th l=((pairUp b (l.drop i.toNat)).1,next ++(pairUp b (l.drop i.toNat)).2)) (hi:i=l.length):pairUp th l=(b,next):=by
  rw [hP,hi];simp [pairUp]
theorem pair_odd {th b:List DThing} {l next next':List Int} {i k x:Int} (hP:pairUp th l=((pairUp b (l.drop i.toNat)).1,next ++(pairUp b (l.drop i.toNat)).2)) (h0:0≤i) (hi:i=(l.length:Int) - 1) (hk:k=i) (hx:x=l.getD k.toNat default) (hn:next'=next ++[x]):pairUp th l=(b,next'):=by
  have h1:i.toNat < l.length:=by omega
  have hd:l.drop i.toNat=[x]:=by
    rw [List.drop_eq_getElem_cons h1,hx,hk,List.drop_of_length_le (by omega)]
    simp [h1]
  rw [hP,hd,hn];simp [pairUp]
theorem lev_end {b:List DThing} {l next:List Int} {i S B:Int} (hL:Lev b (next ++l.drop i.toNat) S B) (hi:i=l.length):Lev b next S B:=by
  have:l.drop i.toNat=[]:=List.drop_of_length_le (by omega)
  rw [this,List.append_nil] at hL;exact hL
theorem lev_odd {b:List DThing} {l next next':List Int} {i k x S B:Int} (hL:Lev b (next ++l.drop i.toNat) S B) (h0:0≤i) (hi:i=(l.length:Int) - 1) (hk:k=i) (hx:x=l.getD k.toNat default) (hn:next'=next ++[x]):Lev b next' S B:=by
  have h1:i.toNat < l.length:=by omega
  have hd:l.drop i.toNat=[x]:=by
    rw [List.drop_eq_getElem_cons h1,hx,hk,List.drop_of_length_le (by omega)]
    simp [h1]
  rw [hd] at hL;rw [hn];exact hL
theorem up_one {b:List DThing} {l:List Int} (h:l.length≤1):up l.length b l=(b,l):=by
  match l,h with
  | [],_=>rfl
  | [a],_=>rw [List.length_singleton,up,if_neg (by simp)]
end Tm
end Kb
