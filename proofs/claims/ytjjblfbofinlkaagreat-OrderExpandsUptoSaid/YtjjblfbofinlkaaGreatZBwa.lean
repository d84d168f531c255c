/- Texts for the claim, put together: the calculus of regions, its rules, and contracts of the functions that the law reaches. -/
import Derived.Orders
import Derived.Below
import Derived.ChangeSame
import Derived.Laws.Cells
import Derived.Laws.World
import Derived.KernelRfl
import Derived.Laws.Small
import Derived.Laws.AppendOwn
import Derived.Laws.OwnMore
import Derived.Laws.MakeOwn
import Derived.Laws.StructEq
import Derived.Laws.Strings
import Derived.LoopN
import Derived.Laws.Cover3
set_option linter.all false
set_option maxRecDepth 10000
namespace Kb
open Go
abbrev Heaplet:=Nat→Option Obj
def Agrees (w:World) (H:Heaplet):Prop:=∀ b o,H b=some o→w.heap[b]?=some o
abbrev Ent:=Option (Nat × Obj)
structure SV where
 a:Option Addr:=none
 n:Nat:=0
 c:Nat:=0
instance : Inhabited SV := ⟨{}⟩
abbrev SV.v (s:SV):Value:=.slice s.a s.n s.c
inductive GT where
 | node (s:SV) (l:List GT)
instance : Inhabited GT := ⟨.node {} []⟩
structure Rec where
 v:Value:=undef
 v2:Value:=undef
 v3:Value:=undef
 H:Heaplet:=fun _=>none
 b:Nat:=0
 e:Ent:=none
 s:SV:={}
 ss:Nat→SV:=fun _=>{}
 sl:Nat→Nat→SV:=fun _ _=>{}
 bs:Nat→Nat:=fun _=>0
 es:Nat→Ent:=fun _=>none
 gt:Nat→GT:=fun _=>default
instance : Inhabited Rec := ⟨{}⟩
def Does (P:Program) (ρ:Operand→Value) (o:Oper) (w:World) (b:Value→World→Prop):Prop :=
 match (execOp ρ o).run P w with
 | .ok (.value v) w'=>b v w'
 | .ok .skip w'=>b undef w'
 | .ok (.enter f args) w'=>Calls P f args w' fun e d=>∃ v,e=.returned v∧b v d
 | _=>False
theorem Does.wp {P:Program} {o:Oper} {a:Act} {w:World} {b:Value→World→Prop} {K:Act→World→Prop} {Q:Exit→Act→World→Prop}
  (h:Does P a.eval o w b) (k:∀ v w',b v w'→K (a.put o.dst v) w'):o.wp P a w K Q:=by
 unfold Does at h;unfold Oper.wp;generalize (execOp a.eval o).run P w=r at *;cases r with
 | ok n w' =>
  cases n <;> simp only [] at h <;> simp only [Oper.upon]
  case value v=>exact k _ _ h
  case skip=>exact k _ _ h
  case enter f args =>
   refine Calls.mono h ?_;rintro e w'' ⟨v,rfl,hp⟩;exact k _ _ hp
 | halt x w'=>exact h.elim
theorem Does.congr {P:Program} {ρ ρ':Operand→Value} {o:Oper} {w:World} {b:Value→World→Prop} (h:execOp ρ o=execOp ρ' o)
  (d:Does P ρ o w b):Does P ρ' o w b:=by unfold Does at *;rw [←h];exact d
structure Base (X:List Nat) (w w':World):Prop where
 os:w'.os=w.os
 tape:w'.tape=w.tape
 output:w'.output=w.output
 size:w.heap.size≤w'.heap.size
 keep:∀ k,k < w.heap.size→k ∉ X→w'.heap[k]?=w.heap[k]?
theorem Base.refl (X:List Nat) (w:World):Base X w w:=⟨rfl,rfl,rfl,Nat.le_refl _,fun _ _ _=>rfl⟩
theorem Base.below {w w':World} (h:Base [] w w'):RowKit.Below w.heap.size w w' :=
 ⟨h.os,h.tape,h.output,h.size,fun k hk=>h.keep k hk (by simp)⟩
theorem Base.step {X Y:List Nat} {w0 w w':World} (h:Base X w0 w) (k:Base Y w w') (hY:∀ b ∈ Y,w0.heap.size≤b∨b ∈ X):Base X w0 w':=by
 refine ⟨k.os.trans h.os,k.tape.trans h.tape,k.output.trans h.output,Nat.le_trans h.size k.size,fun b hb hx=>?_⟩;rw [k.keep b (Nat.lt_of_lt_of_le hb h.size) ?_]
 ·exact h.keep b hb hx
 ·intro hy;rcases hY b hy with h1 | h1
  ·omega
  ·exact hx h1
theorem Agrees.step {Y:List Nat} {w w':World} {H:Heaplet} (h:Agrees w H) (k:Base Y w w') (hY:∀ b ∈ Y,H b=none):Agrees w' H:=by
 intro b o hb;have d:b < w.heap.size:=by
  have:=h b o hb
  rcases Nat.lt_or_ge b w.heap.size with h' | h'
  ·exact h'
  ·simp [Array.getElem?_eq_none h'] at this
 rw [k.keep b d ?_]
 ·exact h b o hb
 ·intro hy;rw [hY b hy] at hb;cases hb
structure StW (w0:World) (X:List Nat) (A:List Heaplet) (L:List Ent) (w:World):Prop where
 base:Base X w0 w
 agr:∀ H ∈ A,Agrees w H
 ent:∀ (r b:Nat) (o:Obj),L[r]?=some (some (b,o))→w.heap[b]?=some o∧(w0.heap.size≤b∨b ∈ X)∧∀ H ∈ A,H b=none
 dis:∀ (r r' b:Nat) (o o':Obj),L[r]?=some (some (b,o))→L[r']?=some (some (b,o'))→r=r'
structure SlotsOK (nt:Nat) (sl:List (Nat × Value)) (a:Act):Prop where
 defers:a.defers=[]
 size:a.tmps.size=nt
 slot:∀ s v,sl.lookup s=some v→a.tmps[s]?=some v
structure OpC where
 val:(Nat→Rec)→Value
 fact:(Nat→Rec)→Prop:=fun _=>True
 ups:List (Nat × ((Nat→Rec)→Ent)):=[]
 rds:List Nat:=[]
 sure:Option Bool:=none
 sok:∀ b,sure=some b→∀ G,val G=.bool b:=by intro _ h;cases h
structure RC where
 ops:Array Oper
 cs:List OpC
 B:List Nat
 sl:List (Nat × Value)
 A:List Heaplet
 L:List Ent
def lastW (p:Nat→Bool):Nat→Option Nat
 | 0=>none
 | k+1=>if p k then some k else lastW p k
theorem lastW_congr {p q:Nat→Bool}:∀ n,(∀ k,k < n→p k=q k)→lastW p n=lastW q n
 | 0,_=>rfl
 | n+1,h=>by
  simp only [lastW];rw [h n (by omega),lastW_congr n (fun k hk=>h k (by omega))]
theorem lastW_cut {p : Nat → Bool} (i : Nat) : ∀ n, i ≤ n → (∀ k, i ≤ k → k < n → p k = false) → lastW p n = lastW p i
  | 0, h, _ => by have : i = 0 := by omega
                  subst this; rfl
  | n + 1, h, hk => by
    by_cases e : i = n + 1
    · subst e; rfl
    · simp only [lastW]
      rw [hk n (by omega) (by omega)]
      simp only [Bool.false_eq_true, if_false]
      exact lastW_cut i n (by omega) (fun k a b => hk k a (by omega))
theorem lastW_some {p:Nat→Bool} {k:Nat}:∀ {n},lastW p n=some k→k < n∧p k=true∧∀ j,k < j→j < n→p j=false
 | 0,h=>by cases h
 | n+1,h=>by
  simp only [lastW] at h;split at h
  ·rename_i hp
   cases h
   exact ⟨by omega,hp,fun j a b=>by omega⟩
  ·rename_i hp
   obtain ⟨a,b,c⟩:=lastW_some h;refine ⟨by omega,b,fun j x y=>?_⟩;by_cases e:j=n
   ·subst e;simpa using hp
   ·exact c j x (by omega)
theorem lastW_none {p:Nat→Bool}:∀ {n},lastW p n=none→∀ j,j < n→p j=false
 | 0,_,j,h=>by omega
 | n+1,h,j,hj=>by
  simp only [lastW] at h;split at h
  ·cases h
  ·rename_i hp
   by_cases e:j=n
   ·subst e;simpa using hp
   ·exact lastW_none h j (by omega)
namespace RC
variable (R : RC)
def c (i:Nat):OpC:=R.cs.getD i { val:=fun _=>undef }
def dst (i:Nat):Option Nat:=(R.ops[i]?).bind (·.dst)
def grd (i:Nat):Option (Nat × Bool):=(R.ops[i]?).bind (·.guard)
def bef (i j:Nat):Bool:=match R.B.getD i 0 with
 | 0=>false
 | m+1=>(m+1).testBit j
theorem bef_is (i j:Nat):R.bef i j=(R.B.getD i 0).testBit j:=by
 unfold bef;cases R.B.getD i 0 with
 | zero=>simp
 | succ m=>rfl
def vis (i:Nat) (G:Nat→Rec):Nat→Rec:=fun j=>bif R.bef i j || j == i then G j else {}
def val (i:Nat) (G:Nat→Rec):Value:=(R.c i).val (R.vis i G)
def fact (i:Nat) (G:Nat→Rec):Prop:=(R.c i).fact (R.vis i G)
def isB (v:Value) (want:Bool):Bool:=match v with | .bool b=>b == want | _=>false
def gdF (G:Nat→Rec):Nat→Nat→Bool
 | 0,_=>false
 | f+1,i=>match R.grd i with
  | none=>true
  | some (j,want)=>gdF G f j && isB (R.val j G) want
def gd (G:Nat→Rec) (i:Nat):Bool:=R.gdF G (i+1) i
def slotv (G:Nat→Rec) (k:Nat):Value:=bif R.gd G k then R.val k G else undef
def ups (i:Nat):List (Nat × ((Nat→Rec)→Ent)):=(R.c i).ups.map fun p=>(p.1,fun G=>p.2 (R.vis i G))
def wrS (s k:Nat):Bool:=R.dst k == some s
def wrE (r k:Nat):Bool:=(R.ups k).any (fun p=>p.1 == r)
def chainF:Nat→Nat→List (Nat × Bool)
 | 0,_=>[]
 | f+1,i=>match R.grd i with
  | none=>[]
  | some (j,want)=>(j,want) :: chainF f j
def sureG (i:Nat):Bool:=(R.chainF (i+1) i).all fun g=>(R.c g.1).sure == some g.2
def under (i k:Nat):Bool:=match R.grd k with
 | none=>true
 | some g=>(R.chainF (i+1) i).contains g
def rdSlot (G:Nat→Rec) (i t:Nat):Value:=match lastW (R.wrS t) i with
 | some k=>bif R.under i k then R.val k G else R.slotv G k
 | none=>(R.sl.lookup t).getD undef
def evalAt (G:Nat→Rec) (i:Nat):Operand→Value
 | .tmp t=>R.rdSlot G i t
 | .const v=>v
 | .global g=>.pointer (some ⟨g,0,none⟩)
 | .func f=>.func (.func f) #[] #[]
def entOf (G:Nat→Rec) (k r:Nat):Ent:=match (R.ups k).find? (fun p=>p.1 == r) with
 | some p=>p.2 G
 | none=>none
def entAt (G:Nat→Rec) (i r:Nat):Ent:=match lastW (R.wrE r) i with
 | some k=>R.entOf G k r
 | none=>(R.L[r]?).getD none
def reads (o:Oper):List Nat :=
 o.op.operands.toList.filterMap fun | .tmp t=>some t | _=>none
def looks (i:Nat):List Nat:=match R.ops[i]? with
 | some o=>reads o
 | none=>[]
def clash (i k:Nat):Bool :=
 (match R.dst i with | some d=>(R.looks k).contains d || R.dst k == some d | none=>false) ||
 (match R.dst k with | some d=>(R.looks i).contains d || (match R.grd i with | some (j,_)=>R.dst j == some d | none=>false) | none=>false) ||
 ((R.ups i).any fun p=>(R.ups k).any (fun q=>q.1 == p.1) || (R.c k).rds.contains p.1) ||
 ((R.ups k).any fun p=>(R.c i).rds.contains p.1)
def foldB (o:Oper):Nat:=o.after.foldl (fun s e=>if Region.binds .any e then s ||| 2 ^ e.on ||| R.B.getD e.on 0 else s) 0
def checkOp (nt i:Nat):Bool:=match R.ops[i]? with
 | none=>true
 | some o =>
  (R.B.getD i 0 == R.foldB o) && (o.after.all fun e=>!Region.binds .any e || decide (e.on < i)) &&
  (match o.dst with | some d=>d < nt | none=>true) &&
  (match o.op with | .select ..=>false | _=>true) &&
  (match o.guard with
   | none=>true
   | some (j,_)=>j < i && R.bef i j && ((R.ups i).isEmpty || R.sureG i) && (match R.dst j with | some d=>lastW (R.wrS d) i == some j | none=>false)) &&
  ((reads o).all fun t=>(lastW (R.wrS t) i).isSome || (R.sl.lookup t).isSome) &&
  ((List.range i).all fun k=>!R.clash k i || R.bef i k) &&
  ((R.ups i).all fun p=>(p.1 < R.L.length) && (((R.ups i).filter fun q=>q.1 == p.1).length == 1))
def check (nt:Nat):Bool:=(List.range R.ops.size).all (R.checkOp nt)
def touched (G:Nat→Rec) (i:Nat):List Nat:=(R.ups i).filterMap fun p=>(R.entAt G i p.1).map (·.1)
def put (G:Nat→Rec) (i:Nat) (g:Rec):Nat→Rec:=fun j=>if j=i then g else G j
structure Left (w w':World) (G:Nat→Rec) (i:Nat) (g:Rec) (v:Value):Prop where
 v:v=R.val i (put G i g)
 fact:R.fact i (put G i g)
 base:Base (R.touched G i) w w'
 agr:Agrees w' g.H
 fresh:∀ b,g.H b≠none→w.heap.size≤b
 ent:∀ p ∈ R.ups i,∀ b o,p.2 (put G i g)=some (b,o)→w'.heap[b]?=some o∧(w.heap.size≤b∨∃ q ∈ R.ups i,∃ o',R.entAt G i q.1=some (b,o'))∧g.H b=none
 dis:∀ p ∈ R.ups i,∀ q ∈ R.ups i,∀ b o o',p.2 (put G i g)=some (b,o)→q.2 (put G i g)=some (b,o')→p.1=q.1
structure Sees (w0:World) (X:List Nat) (G:Nat→Rec) (i:Nat) (w:World):Prop where
 fact:∀ j,R.bef i j=true→R.gd G j=true→R.fact j G
 agrG:∀ j,R.bef i j=true→Agrees w (G j).H
 agr:∀ H ∈ R.A,Agrees w H
 ent:∀ r,((R.c i).rds.contains r || R.wrE r i)=true→∀ b o,R.entAt G i r=some (b,o)→w.heap[b]?=some o∧(w0.heap.size≤b∨b ∈ X)∧(∀ H ∈ R.A,H b=none)∧∀ j,R.bef i j=true→(G j).H b=none
 base:Base X w0 w
 gd:R.gd G i=true
 dis:∀ r r' b o o',((R.c i).rds.contains r || R.wrE r i)=true→((R.c i).rds.contains r' || R.wrE r' i)=true→R.entAt G i r=some (b,o)→R.entAt G i r'=some (b,o')→r=r'
def Ok (P:Program) (w0:World) (X:List Nat) (i:Nat):Prop:=∀ o,R.ops[i]?=some o→∀ G w,R.Sees w0 X G i w →
 Does P (R.evalAt G i) o w fun v w'=>∃ g,R.Left w w' G i g v
def dn (D:Array Bool) (j:Nat):Bool:=D.getD j false
def entD (D:Array Bool) (G:Nat→Rec) (r:Nat):Ent:=match lastW (fun j=>dn D j && R.wrE r j) R.ops.size with
 | some k=>R.entOf G k r
 | none=>(R.L[r]?).getD none
structure Inv (nt:Nat) (w0:World) (X:List Nat) (D:Array Bool) (G:Nat→Rec) (a:Act) (w:World):Prop where
 defers:a.defers=[]
 size:a.tmps.size=nt
 slotW:∀ s k,lastW (fun j=>dn D j && R.wrS s j) R.ops.size=some k→a.tmps[s]?=some (R.slotv G k)
 slot0:∀ s v,lastW (fun j=>dn D j && R.wrS s j) R.ops.size=none→R.sl.lookup s=some v→a.tmps[s]?=some v
 base:Base X w0 w
 agr:∀ H ∈ R.A,Agrees w H
 agrG:∀ j,dn D j=true→Agrees w (G j).H
 ent:∀ r b o,R.entD D G r=some (b,o)→w.heap[b]?=some o∧(w0.heap.size≤b∨b ∈ X)∧(∀ H ∈ R.A,H b=none)∧∀ j,dn D j=true→(G j).H b=none
 dis:∀ r r' b o o',R.entD D G r=some (b,o)→R.entD D G r'=some (b,o')→r=r'
 fact:∀ j,dn D j=true→R.gd G j=true→R.fact j G
 closed:∀ i j,dn D i=true→R.bef i j=true→dn D j=true
 dsz:D.size=R.ops.size
 newG:∀ j,dn D j=true→∀ b,(G j).H b≠none→w0.heap.size≤b
variable {R}
theorem foldB_spec {o:Oper} {j:Nat} (h:(R.foldB o).testBit j=true):∃ e ∈ o.after,Region.binds .any e=true∧(j=e.on∨(R.B.getD e.on 0).testBit j=true):=by
 unfold foldB at h;rw [←Array.foldl_toList] at h;have b:∀ (l:List Edge) (s:Nat),(l.foldl (fun s e=>if Region.binds .any e then s ||| 2 ^ e.on ||| R.B.getD e.on 0 else s) s).testBit j=true →
   s.testBit j=true∨∃ e ∈ l,Region.binds .any e=true∧(j=e.on∨(R.B.getD e.on 0).testBit j=true):=by
  intro l;induction l with
  | nil=>intro s h;exact .inl h
  | cons e l ih =>
   intro s h;simp only [List.foldl_cons] at h;rcases ih _ h with h1 | ⟨e',he',h1⟩
   ·split at h1
    ·rename_i hb
     simp only [Nat.testBit_or,Bool.or_eq_true] at h1;rcases h1 with (h1 | h1) | h1
     ·exact .inl h1
     ·refine .inr ⟨e,by simp,hb,.inl ?_⟩;rw [Nat.testBit_two_pow] at h1
      simpa using (of_decide_eq_true h1).symm
     ·exact .inr ⟨e,by simp,hb,.inr h1⟩
    ·exact .inl h1
   ·exact .inr ⟨e',by simp [he'],h1⟩
 rcases b _ _ h with h1 | ⟨e,he,h1⟩
 ·simp at h1
 ·exact ⟨e,by simpa using he,h1⟩
theorem gdF_fuel {nt:Nat} (hc:R.check nt=true) (G:Nat→Rec):∀ i f f',i < f→i < f'→R.gdF G f i=R.gdF G f' i:=by
 intro i;induction i using Nat.strongRecOn with
 | _ i ih =>
  intro f f' h h';cases f with
  | zero=>omega
  | succ f=>cases f' with
   | zero=>omega
   | succ f' =>
    simp only [gdF];cases hg:R.grd i with
    | none=>rfl
    | some jw =>
     obtain ⟨j,want⟩:=jw;have hj:j < i:=by
      unfold grd at hg;cases ho:R.ops[i]? with
      | none=>simp [ho] at hg
      | some o =>
       simp [ho] at hg;have b:i < R.ops.size:=(Array.getElem?_eq_some_iff.1 ho).1
       have:=List.all_eq_true.1 hc i (List.mem_range.2 b)
       simp [checkOp,ho,hg] at this;omega
     simp only [];rw [ih j hj f f' (by omega) (by omega)]
structure Chk (R:RC) (nt i:Nat) (o:Oper):Prop where
 lt:i < R.ops.size
 b:R.B.getD i 0=R.foldB o
 aft:∀ e ∈ o.after,Region.binds .any e=true→e.on < i
 dst:∀ d,o.dst=some d→d < nt
 sel:∀ cs b,o.op≠.select cs b
 grd:∀ j want,o.guard=some (j,want)→j < i∧R.bef i j=true∧(R.ups i=[]∨R.sureG i=true)∧∃ d,R.dst j=some d∧lastW (R.wrS d) i=some j
 rd:∀ t ∈ reads o,(lastW (R.wrS t) i).isSome=true∨(R.sl.lookup t).isSome=true
 cl:∀ k,k < i→R.clash k i=true→R.bef i k=true
 up:∀ p ∈ R.ups i,p.1 < R.L.length
 up1:∀ p ∈ R.ups i,((R.ups i).filter fun q=>q.1 == p.1).length=1
theorem chk {nt i:Nat} {o:Oper} (hc:R.check nt=true) (ho:R.ops[i]?=some o):R.Chk nt i o:=by
 have f:i < R.ops.size:=(Array.getElem?_eq_some_iff.1 ho).1;have h:=List.all_eq_true.1 hc i (List.mem_range.2 f);simp only [checkOp,ho,Bool.and_eq_true] at h;obtain ⟨⟨⟨⟨⟨⟨⟨h1,h2⟩,h3⟩,h4⟩,h5⟩,h6⟩,h7⟩,h8⟩:=h;refine ⟨f,by simpa using h1,?_,?_,?_,?_,?_,?_,?_,?_⟩
 ·intro e he hb
  have:=Array.all_eq_true_iff_forall_mem.1 h2 e he
  simpa [hb] using this
 ·intro d hd;simpa [hd] using h3
 ·intro cs b he;simp [he] at h4
 ·intro j want hg;simp only [hg,Bool.and_eq_true] at h5;obtain ⟨⟨⟨a1,a2⟩,a3⟩,a4⟩:=h5;refine ⟨by simpa using a1,a2,by simpa using a3,?_⟩;cases hd:R.dst j with
  | none=>simp [hd] at a4
  | some d=>exact ⟨d,rfl,by simpa [hd] using a4⟩
 ·intro t ht
  have:=List.all_eq_true.1 h6 t ht
  simpa using this
 ·intro k hk w
  have:=List.all_eq_true.1 h7 k (List.mem_range.2 hk)
  simpa [w] using this
 ·intro p hp
  have:=List.all_eq_true.1 h8 p hp
  simp only [Bool.and_eq_true] at this
  simpa using this.1
 ·intro p hp
  have:=List.all_eq_true.1 h8 p hp
  simp only [Bool.and_eq_true] at this
  simpa using this.2
theorem grd_some {i j:Nat} {want:Bool} (h:R.grd i=some (j,want)):∃ o,R.ops[i]?=some o∧o.guard=some (j,want):=by
 unfold grd at h;cases ho:R.ops[i]? with
 | none=>simp [ho] at h
 | some o=>exact ⟨o,rfl,by simpa [ho] using h⟩
theorem dst_some {i d:Nat} (h:R.dst i=some d):∃ o,R.ops[i]?=some o∧o.dst=some d:=by
 unfold dst at h;cases ho:R.ops[i]? with
 | none=>simp [ho] at h
 | some o=>exact ⟨o,rfl,by simpa [ho] using h⟩
theorem gd_eq {nt:Nat} (hc:R.check nt=true) (G:Nat→Rec) (i:Nat):R.gd G i=match R.grd i with
  | none=>true
  | some (j,want)=>R.gd G j && isB (R.val j G) want:=by
 unfold gd;rw [gdF];cases hg:R.grd i with
 | none=>rfl
 | some jw =>
  obtain ⟨j,want⟩:=jw;obtain ⟨o,ho,b⟩:=grd_some hg
  have:=((chk hc ho).grd j want b).1
  simp only [];rw [gdF_fuel hc G j i (j+1) (by omega) (by omega)]
theorem chainF_fuel {nt:Nat} (hc:R.check nt=true):∀ i f f',i < f→i < f'→R.chainF f i=R.chainF f' i:=by
 intro i;induction i using Nat.strongRecOn with
 | _ i ih =>
  intro f f' h h';cases f with
  | zero=>omega
  | succ f=>cases f' with
   | zero=>omega
   | succ f' =>
    simp only [chainF];cases hg:R.grd i with
    | none=>rfl
    | some jw =>
     obtain ⟨j,want⟩:=jw;obtain ⟨o,ho,b⟩:=grd_some hg;have hj:=((chk hc ho).grd j want b).1;simp only [];rw [ih j hj f f' (by omega) (by omega)]
theorem gd_sure {nt:Nat} (hc:R.check nt=true) (G:Nat→Rec):∀ i,R.sureG i=true→R.gd G i=true:=by
 intro i;induction i using Nat.strongRecOn with
 | _ i ih =>
  intro h;rw [gd_eq hc];unfold sureG at h;rw [chainF] at h;cases hg:R.grd i with
  | none=>rfl
  | some jw =>
   obtain ⟨j,want⟩:=jw;obtain ⟨o,ho,b⟩:=grd_some hg;have hj:=((chk hc ho).grd j want b).1;rw [hg] at h;simp only [List.all_cons,Bool.and_eq_true,beq_iff_eq] at h;rw [chainF_fuel hc j i (j+1) (by omega) (by omega)] at h;simp only [];have hv:R.val j G=.bool want:=(R.c j).sok want h.1 _;rw [ih j hj h.2,hv];simp [isB]
theorem chain_true {nt:Nat} (hc:R.check nt=true) (G:Nat→Rec):∀ i,R.gd G i=true→∀ g ∈ R.chainF (i+1) i,R.gd G g.1=true∧isB (R.val g.1 G) g.2=true:=by
 intro i;induction i using Nat.strongRecOn with
 | _ i ih =>
  intro h g hg;simp only [chainF] at hg;rw [gd_eq hc] at h;cases hgi:R.grd i with
  | none=>simp [hgi] at hg
  | some jw =>
   obtain ⟨j,want⟩:=jw;simp only [hgi,List.mem_cons] at hg;simp only [hgi,Bool.and_eq_true] at h;obtain ⟨o,ho,b⟩:=grd_some hgi;have hj:=((chk hc ho).grd j want b).1;rcases hg with rfl | hg
   ·exact h
   ·rw [chainF_fuel hc j i (j+1) (by omega) (by omega)] at hg;exact ih j hj h.1 g hg
theorem under_true {nt:Nat} (hc:R.check nt=true) (G:Nat→Rec) {i k:Nat} (hi:R.gd G i=true) (hu:R.under i k=true):R.gd G k=true:=by
 rw [gd_eq hc];unfold under at hu;cases hg:R.grd k with
 | none=>rfl
 | some g =>
  simp only [hg] at hu
  have:=chain_true hc G i hi g (by simpa using hu)
  simp [this.1,this.2]
theorem put_ne {G:Nat→Rec} {i j:Nat} {g:Rec} (h:j≠i):put G i g j=G j:=by simp [put,h]
theorem put_eq {G:Nat→Rec} {i:Nat} {g:Rec}:put G i g i=g:=by simp [put]
section keep
variable {nt : Nat} (hc : R.check nt = true) {G : Nat → Rec} {i : Nat} {g : Rec} {D : Array Bool}
  (hcl : ∀ i j, dn D i = true → R.bef i j = true → dn D j = true) (hi : dn D i = false)
include hcl hi
theorem vis_put {j:Nat} (hj:dn D j=true):R.vis j (put G i g)=R.vis j G:=by
 funext k
 unfold vis;cases hk:(R.bef j k || k == j) with
 | false=>rfl
 | true =>
  have b:dn D k=true:=by
   simp only [Bool.or_eq_true,beq_iff_eq] at hk;rcases hk with hk | hk
   ·exact hcl j k hj hk
   ·exact hk ▸ hj
  simp only [cond_true];rw [put_ne];intro e;subst e;rw [hi] at b;cases b
theorem val_put {j:Nat} (hj:dn D j=true):R.val j (put G i g)=R.val j G:=by unfold val;rw [vis_put hcl hi hj]
theorem fact_put {j:Nat} (hj:dn D j=true):R.fact j (put G i g)=R.fact j G:=by unfold fact;rw [vis_put hcl hi hj]
include hc in
theorem gd_put:∀ j,(dn D j=true∨j=i)→(∀ k,R.bef i k=true→dn D k=true)→R.gd (put G i g) j=R.gd G j:=by
 intro j;induction j using Nat.strongRecOn with
 | _ j ih =>
  intro hj hb;rw [gd_eq hc,gd_eq hc];cases hg:R.grd j with
  | none=>rfl
  | some jw =>
   obtain ⟨k,want⟩:=jw;obtain ⟨o,ho,f⟩:=grd_some hg;obtain ⟨hk,b,_⟩:=(chk hc ho).grd k want f;have d:dn D k=true:=by
    rcases hj with hj | hj
    ·exact hcl j k hj b
    ·subst hj;exact hb k b
   simp only [];rw [ih k hk (.inl d) hb,val_put hcl hi d]
include hc in
theorem slotv_put {j:Nat} (hj:dn D j=true) (hb:∀ k,R.bef i k=true→dn D k=true):R.slotv (put G i g) j=R.slotv G j:=by
 unfold slotv;rw [gd_put hc hcl hi j (.inl hj) hb,val_put hcl hi hj]
theorem entOf_put {j r:Nat} (hj:dn D j=true):R.entOf (put G i g) j r=R.entOf G j r:=by
 unfold entOf;cases hf:(R.ups j).find? (fun p=>p.1 == r) with
 | none=>rfl
 | some p =>
  obtain ⟨q,_,rfl⟩:=List.mem_map.1 (List.mem_of_find?_eq_some hf);show q.2 (R.vis j (put G i g))=q.2 (R.vis j G);rw [vis_put hcl hi hj]
end keep
theorem dn_set {D:Array Bool} {i j:Nat} (h:i < D.size):dn (D.setIfInBounds i true) j=(dn D j || j == i):=by
 unfold dn;by_cases e:i=j
 ·subst e;simp [h]
 ·rw [getD_set_ne false e]
  have:(j == i)=false:=by simpa using Ne.symm e
  rw [this];simp
theorem lastW_self {p:Nat→Bool} {D:Array Bool} {i n:Nat} (hi:i < n) (hD:i < D.size) (hp:p i=true) (hn:∀ k,i < k→dn D k=true→p k=false) :
  lastW (fun j=>dn (D.setIfInBounds i true) j && p j) n=some i:=by
 rw [lastW_cut (i+1) n (by omega)]
 ·simp [lastW,dn_set hD,hp]
 ·intro k h1 h2;simp only [dn_set hD];by_cases e:k=i
  ·omega
  ·cases hk:dn D k with
   | false=>(have e':(k == i)=false:=by simpa using e);simp [e']
   | true=>simp [hn k (by omega) hk]
theorem lastW_other {p:Nat→Bool} {D:Array Bool} {i n:Nat} (hD:i < D.size) (hp:p i=false) :
  lastW (fun j=>dn (D.setIfInBounds i true) j && p j) n=lastW (fun j=>dn D j && p j) n:=by
 refine lastW_congr n fun k _=>?_;rw [dn_set hD]
 by_cases e:k=i
 ·subst e;simp [hp]
 ·have e':(k == i)=false:=by simpa using e
  simp [e']
theorem lastW_read {p:Nat→Bool} {D:Array Bool} {i n:Nat} (hi:i≤n) (h1:∀ k,k < i→p k=true→dn D k=true) (h2:∀ k,i≤k→dn D k=true→p k=false) :
  lastW (fun j=>dn D j && p j) n=lastW p i:=by
 rw [lastW_cut i n hi]
 ·refine lastW_congr i fun k hk=>?_;cases hp:p k with
  | false=>simp
  | true=>simp [h1 k hk hp]
 ·intro k a b;cases hk:dn D k with
  | false=>simp
  | true=>simp [h2 k a hk]
section step
variable {nt : Nat} {w0 : World} {X : List Nat}
  {D : Array Bool} {G : Nat → Rec} {a : Act} {w : World} (I : R.Inv nt w0 X D G a w) {i : Nat} (hr : i ∈ Region.ready .any R.ops D) {o : Oper} (ho : R.ops[i]? = some o)
include hr ho I
theorem not_done:dn D i=false:=by
 have h0:=(mem_ready.1 hr).1;have b:i < D.size:=I.dsz ▸ (Array.getElem?_eq_some_iff.1 ho).1;unfold dn;simp [b] at h0 ⊢;exact h0
theorem pre_done (hc:R.check nt=true) (j:Nat) (h:R.bef i j=true):dn D j=true:=by
 obtain ⟨_,o',d,f⟩:=mem_ready.1 hr;rw [ho] at d;cases d;rw [bef_is] at h;rw [(chk hc ho).b] at h;obtain ⟨e,he,hb,h1⟩:=foldB_spec h;have hd:dn D e.on=true:=f e he hb;rcases h1 with rfl | h1
 ·exact hd
 ·exact I.closed e.on j hd (by rw [bef_is];exact h1)
theorem later_apart (hc:R.check nt=true) (k:Nat) (hk:i < k) (hd:dn D k=true):R.clash i k=false:=by
 cases hcl:R.clash i k with
 | false=>rfl
 | true =>
  exfalso;have b:k < R.ops.size:=by
   rcases Nat.lt_or_ge k D.size with h | h
   ·exact I.dsz ▸ h
   ·unfold dn at hd;simp [Array.getElem?_eq_none h] at hd
  have h1:=(chk hc (Array.getElem?_eq_getElem b)).cl i hk hcl;have h2:=I.closed k i hd h1;rw [not_done I hr ho] at h2;cases h2
theorem early_done (hc:R.check nt=true) (k:Nat) (hk:k < i) (b:R.clash k i=true):dn D k=true :=
 pre_done I hr ho hc k ((chk hc ho).cl k hk b)
theorem read_slot (hc:R.check nt=true) (s:Nat) (hs:(R.looks i).contains s=true∨∃ j want,o.guard=some (j,want)∧R.dst j=some s) :
  lastW (fun j=>dn D j && R.wrS s j) R.ops.size=lastW (R.wrS s) i:=by
 have C:=chk hc ho;have hg:∀ j want,o.guard=some (j,want)→R.grd i=some (j,want):=fun j want h=>by simp [grd,ho,h]
 refine lastW_read (Nat.le_of_lt C.lt) (fun k hk hw=>?_) (fun k hk hd=>?_)
 ·have f:R.dst k=some s:=by simpa [wrS] using hw
  rcases hs with hs | ⟨j,want,h1,h2⟩
  ·refine early_done I hr ho hc k hk ?_;unfold clash;rw [f];simp [List.contains_iff_mem.1 hs]
  ·have h3:=C.grd j want h1;obtain ⟨hj,hb,_,d,hd,hl⟩:=h3;rw [h2] at hd;cases hd;by_cases e:k=j
   ·subst e;exact pre_done I hr ho hc k hb
   ·have t:k < j:=by
     rcases Nat.lt_or_ge k j with h | h
     ·exact h
     ·have:=(lastW_some hl).2.2 k (by omega) hk
      rw [this] at hw;cases hw
    have w:=pre_done I hr ho hc j hb;obtain ⟨oj,A,B⟩:=dst_some h2;refine I.closed j k w ((chk hc A).cl k t ?_);unfold clash;rw [f,h2];simp
 ·cases hw:R.wrS s k with
  | false=>rfl
  | true =>
   exfalso;have f:R.dst k=some s:=by simpa [wrS] using hw
   by_cases e:k=i
   ·subst e;rw [not_done I hr ho] at hd;cases hd
   ·have b:=later_apart I hr ho hc k (by omega) hd;rcases hs with hs | ⟨j,want,h1,h2⟩
    ·unfold clash at b;rw [f] at b;simp [List.contains_iff_mem.1 hs] at b
    ·unfold clash at b;rw [f,hg j want h1] at b;simp [h2] at b
theorem read_ent (hc:R.check nt=true) (r:Nat) (hs:((R.c i).rds.contains r || R.wrE r i)=true):R.entD D G r=R.entAt G i r:=by
 have C:=chk hc ho
 have:lastW (fun j=>dn D j && R.wrE r j) R.ops.size=lastW (R.wrE r) i:=by
  refine lastW_read (Nat.le_of_lt C.lt) (fun k hk hw=>?_) (fun k hk hd=>?_)
  ·refine early_done I hr ho hc k hk ?_;obtain ⟨p,hp,b⟩:=List.any_eq_true.1 hw;have b:p.1=r:=by simpa using b
   unfold clash;rw [Bool.or_eq_true,Bool.or_eq_true];refine .inl (.inr (List.any_eq_true.2 ⟨p,hp,?_⟩));rw [Bool.or_eq_true] at hs ⊢;rcases hs with hs | hs
   ·exact .inr (b ▸ hs)
   ·refine .inl ?_;obtain ⟨q,hq,d⟩:=List.any_eq_true.1 hs;exact List.any_eq_true.2 ⟨q,hq,by rw [b];exact d⟩
  ·cases hw:R.wrE r k with
   | false=>rfl
   | true =>
    exfalso;by_cases e:k=i
    ·subst e;rw [not_done I hr ho] at hd;cases hd
    ·have f:=later_apart I hr ho hc k (by omega) hd;obtain ⟨p,hp,b⟩:=List.any_eq_true.1 hw;have b:p.1=r:=by simpa using b
     have:R.clash i k=true:=by
      unfold clash;rw [Bool.or_eq_true,Bool.or_eq_true];rw [Bool.or_eq_true] at hs;rcases hs with hs | hs
      ·exact .inr (List.any_eq_true.2 ⟨p,hp,b ▸ hs⟩)
      ·obtain ⟨q,hq,d⟩:=List.any_eq_true.1 hs;have d:q.1=r:=by simpa using d
       refine .inl (.inr (List.any_eq_true.2 ⟨q,hq,?_⟩));rw [Bool.or_eq_true];exact .inl (List.any_eq_true.2 ⟨p,hp,by simp [b,d]⟩)
     rw [this] at f;cases f
 unfold entD entAt;rw [this]
end step
theorem wrE_find {r k:Nat} (h:R.wrE r k=true):∃ p,(R.ups k).find? (fun p=>p.1 == r)=some p∧p ∈ R.ups k∧p.1=r:=by
 cases hf:(R.ups k).find? (fun p=>p.1 == r) with
 | none =>
  have:=List.find?_eq_none.1 hf
  obtain ⟨p,hp,b⟩:=List.any_eq_true.1 h;exact absurd b (this p hp)
 | some p=>exact ⟨p,rfl,List.mem_of_find?_eq_some hf,by simpa using List.find?_some hf⟩
theorem mem_touched {G:Nat→Rec} {i b:Nat} (h:b ∈ R.touched G i):∃ r o,R.wrE r i=true∧R.entAt G i r=some (b,o):=by
 obtain ⟨p,hp,he⟩:=List.mem_filterMap.1 h;cases hh:R.entAt G i p.1 with
 | none=>simp [hh] at he
 | some x =>
  obtain ⟨b',o⟩:=x;simp [hh] at he;subst he;exact ⟨p.1,o,List.any_eq_true.2 ⟨p,hp,by simp⟩,hh⟩
theorem heap_lt {w:World} {b:Nat} {o:Obj} (h:w.heap[b]?=some o):b < w.heap.size:=by
 rcases Nat.lt_or_ge b w.heap.size with h' | h'
 ·exact h'
 ·simp [Array.getElem?_eq_none h'] at h
theorem inv_step {nt:Nat} {w0:World} {X:List Nat} {D:Array Bool} {G:Nat→Rec} {a:Act} {w w':World} (I:R.Inv nt w0 X D G a w) {i:Nat}
  (hr:i ∈ Region.ready .any R.ops D) {o:Oper} (ho:R.ops[i]?=some o) (hc:R.check nt=true) {g:Rec} {v:Value}
  (hv:v=R.slotv (put G i g) i) (hf:R.gd (put G i g) i=true→R.fact i (put G i g)) (base:Base (R.touched G i) w w') (am:Agrees w' g.H)
  (Q:∀ b,g.H b≠none→w.heap.size≤b)
  (ent:∀ p ∈ R.ups i,∀ b o,p.2 (put G i g)=some (b,o)→w'.heap[b]?=some o∧(w.heap.size≤b∨∃ q ∈ R.ups i,∃ o',R.entAt G i q.1=some (b,o'))∧g.H b=none)
  (an:∀ p ∈ R.ups i,∀ q ∈ R.ups i,∀ b o o',p.2 (put G i g)=some (b,o)→q.2 (put G i g)=some (b,o')→p.1=q.1) :
  R.Inv nt w0 X (D.setIfInBounds i true) (put G i g) (a.put o.dst v) w':=by
 have C:=chk hc ho;have t:i < D.size:=I.dsz ▸ C.lt;have ac:=not_done I hr ho;have Y:=pre_done I hr ho hc;have B:R.dst i=o.dst:=by simp [RC.dst,ho]
 have hE:∀ r,R.wrE r i=true→R.entD D G r=R.entAt G i r:=fun r h=>read_ent I hr ho hc r (by rw [h];simp)
 have hT:∀ b,b ∈ R.touched G i→∃ r o,R.wrE r i=true∧R.entD D G r=some (b,o):=fun b hb=>by
  obtain ⟨r,o',h1,h2⟩:=mem_touched hb;exact ⟨r,o',h1,by rw [hE r h1];exact h2⟩
 have hA:∀ H:Heaplet,Agrees w H→∀ b,w.heap.size≤b→H b=none:=fun H hH b hb=>by
  cases h:H b with
  | none=>rfl
  | some o'=>have:=heap_lt (hH b o' h);omega
 have ak:∀ r,R.wrE r i=true→lastW (fun j=>dn (D.setIfInBounds i true) j && R.wrE r j) R.ops.size=some i:=fun r h=>by
  refine lastW_self C.lt t h fun k hk hd=>?_;cases hw:R.wrE r k with
  | false=>rfl
  | true =>
   exfalso;have M:=later_apart I hr ho hc k hk hd;obtain ⟨p,_,hp,P⟩:=wrE_find h;obtain ⟨q,_,hq,ad⟩:=wrE_find hw
   have:R.clash i k=true:=by
    unfold clash;rw [Bool.or_eq_true,Bool.or_eq_true];refine .inl (.inr (List.any_eq_true.2 ⟨p,hp,?_⟩));rw [Bool.or_eq_true];exact .inl (List.any_eq_true.2 ⟨q,hq,by simp [P,ad]⟩)
   rw [this] at M;cases M
 have Z:∀ r,R.entD (D.setIfInBounds i true) (put G i g) r=if R.wrE r i then R.entOf (put G i g) i r else R.entD D G r:=fun r=>by
  unfold entD;by_cases h:R.wrE r i=true
  ·rw [ak r h,if_pos h]
  ·rw [if_neg h,lastW_other t (by simpa using h)];cases hl:lastW (fun j=>dn D j && R.wrE r j) R.ops.size with
   | none=>rfl
   | some k =>
    have af:dn D k=true:=by
     have:=(lastW_some hl).2.1
     simp only [Bool.and_eq_true] at this;exact this.1
    exact entOf_put I.closed ac af
 have E:∀ r b o',R.wrE r i=true→R.entOf (put G i g) i r=some (b,o')→∃ p ∈ R.ups i,p.1=r∧p.2 (put G i g)=some (b,o'):=fun r b o' h he=>by
  obtain ⟨p,hp,hm,P⟩:=wrE_find h;unfold entOf at he;rw [hp] at he;exact ⟨p,hm,P,he⟩
 refine ⟨?_,?_,?_,?_,?_,?_,?_,?_,?_,?_,?_,?_,?_⟩
 rotate_right
 ·intro j hj b hb;by_cases e:j=i
  ·subst e;rw [put_eq] at hb;exact Nat.le_trans I.base.size (Q b hb)
  ·rw [put_ne e] at hb;have f:dn D j=true:=by rw [dn_set t] at hj;simpa [show (j == i)=false by simpa using e] using hj
   exact I.newG j f b hb
 ·cases o.dst <;> exact I.defers
 ·cases o.dst with
  | none=>exact I.size
  | some d=>simp [Act.put,I.size]
 ·intro s k hk;by_cases hw:R.wrS s i=true
  ·have ah:o.dst=some s:=by rw [←B];simpa [wrS] using hw
   have h1:lastW (fun j=>dn (D.setIfInBounds i true) j && R.wrS s j) R.ops.size=some i:=by
    refine lastW_self C.lt t hw fun m hm hd=>?_;cases hwm:R.wrS s m with
    | false=>rfl
    | true =>
     exfalso;have M:=later_apart I hr ho hc m hm hd
     have:R.dst m=some s:=by simpa [wrS] using hwm
     unfold clash at M;rw [B,ah,this] at M;simp at M
   rw [h1] at hk;cases hk;have ab:s < a.tmps.size:=by rw [I.size];exact C.dst s ah
   rw [ah];simp [Act.put,ab,hv]
  ·rw [lastW_other t (by simpa using hw)] at hk;have af:dn D k=true:=by
    have:=(lastW_some hk).2.1
    simp only [Bool.and_eq_true] at this;exact this.1
   rw [slotv_put hc I.closed ac af Y,← I.slotW s k hk];cases hd:o.dst with
   | none=>rfl
   | some d =>
    have ai:d≠s:=fun e=>hw (by simp [wrS,B,hd,e])
    simp [Act.put,Array.getElem?_setIfInBounds_ne ai]
 ·intro s u hk hu;by_cases hw:R.wrS s i=true
  ·have:=lastW_none hk i C.lt
   simp [dn_set t,hw] at this
  ·rw [lastW_other t (by simpa using hw)] at hk;rw [←I.slot0 s u hk hu];cases hd:o.dst with
   | none=>rfl
   | some d =>
    have ai:d≠s:=fun e=>hw (by simp [wrS,B,hd,e])
    simp [Act.put,Array.getElem?_setIfInBounds_ne ai]
 ·refine I.base.step base fun b hb=>?_;obtain ⟨r,o',_,h2⟩:=hT b hb
  exact (I.ent r b o' h2).2.1
 ·intro H hH;refine (I.agr H hH).step base fun b hb=>?_;obtain ⟨r,o',_,h2⟩:=hT b hb
  exact (I.ent r b o' h2).2.2.1 H hH
 ·intro j hj;by_cases e:j=i
  ·subst e;rw [put_eq];exact am
  ·rw [put_ne e];have f:dn D j=true:=by rw [dn_set t] at hj;simpa [show (j == i)=false by simpa using e] using hj
   refine (I.agrG j f).step base fun b hb=>?_;obtain ⟨r,o',_,h2⟩:=hT b hb
   exact (I.ent r b o' h2).2.2.2 j f
 ·intro r b o' he;rw [Z] at he;split at he
  ·rename_i hw
   obtain ⟨p,hp,P,ae⟩:=E r b o' hw he;have hQ:∀ q ∈ R.ups i,R.wrE q.1 i=true:=fun q hq=>List.any_eq_true.2 ⟨q,hq,by simp⟩;obtain ⟨h1,h2,h3⟩:=ent p hp b o' ae;refine ⟨h1,?_,?_,?_⟩
   ·rcases h2 with h2 | ⟨q,hq,o2,h2⟩
    ·exact .inl (Nat.le_trans I.base.size h2)
    ·rw [←hE q.1 (hQ q hq)] at h2;exact (I.ent q.1 b o2 h2).2.1
   ·intro H hH;rcases h2 with h2 | ⟨q,hq,o2,h2⟩
    ·exact hA H (I.agr H hH) b h2
    ·rw [←hE q.1 (hQ q hq)] at h2;exact (I.ent q.1 b o2 h2).2.2.1 H hH
   ·intro j hj;by_cases e:j=i
    ·subst e;rw [put_eq];exact h3
    ·rw [put_ne e];have f:dn D j=true:=by rw [dn_set t] at hj;simpa [show (j == i)=false by simpa using e] using hj
     rcases h2 with h2 | ⟨q,hq,o2,h2⟩
     ·exact hA _ (I.agrG j f) b h2
     ·rw [←hE q.1 (hQ q hq)] at h2;exact (I.ent q.1 b o2 h2).2.2.2 j f
  ·rename_i hw
   obtain ⟨h1,h2,h3,h4⟩:=I.ent r b o' he;have ab:=heap_lt h1;refine ⟨?_,h2,h3,?_⟩
   ·rw [base.keep b ab ?_]
    ·exact h1
    ·intro hb;obtain ⟨r',o2,a1,a2⟩:=hT b hb
     have:=I.dis r r' b o' o2 he a2
     subst this;exact hw a1
   ·intro j hj;by_cases e:j=i
    ·subst e;rw [put_eq];cases hg:g.H b with
     | none=>rfl
     | some o2=>have:=Q b (by rw [hg];simp);omega
    ·rw [put_ne e];have f:dn D j=true:=by rw [dn_set t] at hj;simpa [show (j == i)=false by simpa using e] using hj
     exact h4 j f
 ·intro r r' b o1 o2 he A;rw [Z] at he A;split at he
  ·rename_i hw
   obtain ⟨p,hp,P,ae⟩:=E r b o1 hw he;split at A
   ·rename_i hw'
    obtain ⟨q,hq,ad,aj⟩:=E r' b o2 hw' A;rw [←P,← ad];exact an p hp q hq b o1 o2 ae aj
   ·obtain ⟨_,h2,_⟩:=ent p hp b o1 ae;have ab:=heap_lt (I.ent r' b o2 A).1;rcases h2 with h2 | ⟨q,hq,o3,h2⟩
    ·omega
    ·have hQ:R.wrE q.1 i=true:=List.any_eq_true.2 ⟨q,hq,by simp⟩;rw [←hE q.1 hQ] at h2
     have:=I.dis q.1 r' b o3 o2 h2 A
     subst this;contradiction
  ·split at A
   ·rename_i hw'
    obtain ⟨q,hq,ad,aj⟩:=E r' b o2 hw' A;obtain ⟨_,h2,_⟩:=ent q hq b o2 aj;have ab:=heap_lt (I.ent r b o1 he).1;rcases h2 with h2 | ⟨q,hq,o3,h2⟩
    ·omega
    ·have hQ:R.wrE q.1 i=true:=List.any_eq_true.2 ⟨q,hq,by simp⟩;rw [←hE q.1 hQ] at h2
     have:=I.dis r q.1 b o1 o3 he h2
     subst this;contradiction
   ·exact I.dis r r' b o1 o2 he A
 ·intro j hj hg;by_cases e:j=i
  ·subst e;exact hf hg
  ·have f:dn D j=true:=by rw [dn_set t] at hj;simpa [show (j == i)=false by simpa using e] using hj
   rw [gd_put hc I.closed ac j (.inl f) Y] at hg;rw [fact_put I.closed ac f];exact I.fact j f hg
 ·intro i' j al hb;rw [dn_set t] at al ⊢;by_cases e:i'=i
  ·subst e;simp [Y j hb]
  ·have hdi:dn D i'=true:=by simpa [show (i' == i)=false by simpa using e] using al
   simp [I.closed i' j hdi hb]
 ·simp [I.dsz]
theorem filter_lt {p q:Nat→Bool} {x:Nat}:∀ (l:List Nat),x ∈ l→(∀ y,q y=true→p y=true)→p x=true→q x=false→(l.filter q).length < (l.filter p).length
 | [],h,_,_,_=>by cases h
 | y :: l,h,h1,h2,h3=>by
  have mono:∀ l:List Nat,(l.filter q).length≤(l.filter p).length:=fun l=>by
   induction l with
   | nil=>simp
   | cons z l ih =>
    by_cases hz:q z=true
    ·simp [hz,h1 z hz,ih]
    ·have b:q z=false:=by simpa using hz
     cases hp:p z <;> simp [b,hp] <;> omega
  by_cases e:x=y
  ·subst e
   have:=mono l
   simp [h2,h3];omega
  ·have hx:x ∈ l:=by simpa [e] using h
   have ih:=filter_lt l hx h1 h2 h3;by_cases hz:q y=true
   ·simp [hz,h1 y hz,ih]
   ·have b:q y=false:=by simpa using hz
    cases hp:p y <;> simp [b,hp] <;> omega
def cnt (R:RC) (D:Array Bool):Nat:=((List.range R.ops.size).filter fun i=>!dn D i).length
theorem cnt_set {D:Array Bool} {i:Nat} (hD:i < D.size) (hi:i < R.ops.size) (hn:dn D i=false):cnt R (D.setIfInBounds i true) < cnt R D:=by
 refine filter_lt (x:=i) _ (List.mem_range.2 hi) (fun y hy=>?_) (by simp [hn]) (by simp [dn_set hD]);rw [dn_set hD] at hy;cases h:dn D y with
 | false=>rfl
 | true=>simp [h] at hy
theorem all_done {nt:Nat} (hc:R.check nt=true) {D:Array Bool} (hD:D.size=R.ops.size) (h:Region.ready .any R.ops D=[]):∀ i,i < R.ops.size→dn D i=true:=by
 intro i;induction i using Nat.strongRecOn with
 | _ i ih =>
  intro hi;cases hd:dn D i with
  | true=>rfl
  | false =>
   exfalso;have ho:R.ops[i]?=some R.ops[i]:=Array.getElem?_eq_getElem hi
   have:i ∈ Region.ready .any R.ops D:=by
    refine mem_ready.2 ⟨?_,_,ho,fun e he hb=>?_⟩
    ·unfold dn at hd
     have:i < D.size:=hD ▸ hi
     simp [this] at hd ⊢;exact hd
    ·have h1:=(chk hc ho).aft e he hb;exact ih e.on h1 (by omega)
   rw [h] at this;cases this
theorem any_of_inv {P:Program} {nt:Nat} {w0:World} {X:List Nat} {Q:Exit→Act→World→Prop} (hc:R.check nt=true) (ab:∀ i,R.Ok P w0 X i)
  (K:∀ D G a w,R.Inv nt w0 X D G a w→(∀ i,i < R.ops.size→dn D i=true)→Q .normal a w) :
  ∀ f D G a w,cnt R D≤f→R.Inv nt w0 X D G a w→wpAny P .any R.ops Q f D a w:=by
 intro f;induction f with
 | zero =>
  intro D G a w h0 I;have hd:∀ i,i < R.ops.size→dn D i=true:=fun i hi=>by
   cases h:dn D i with
   | true=>rfl
   | false =>
    have:i ∈ (List.range R.ops.size).filter fun i=>!dn D i:=List.mem_filter.2 ⟨List.mem_range.2 hi,by simp [h]⟩
    unfold cnt at h0;rw [List.length_eq_zero_iff.1 (Nat.le_zero.1 h0)] at this;cases this
  refine ⟨?_,K D G a w I hd⟩;cases hr:Region.ready .any R.ops D with
  | nil=>rfl
  | cons i l =>
   exfalso;have hi:i ∈ Region.ready .any R.ops D:=by rw [hr];simp
   obtain ⟨_,o,ho,_⟩:=mem_ready.1 hi
   have:=not_done I hi ho
   rw [hd i (Array.getElem?_eq_some_iff.1 ho).1] at this;cases this
 | succ f ih =>
  intro D G a w h0 I;refine ⟨fun hr=>K D G a w I (all_done hc I.dsz hr),fun i hi=>?_⟩;obtain ⟨_,o,ho,_⟩:=mem_ready.1 hi;have C:=chk hc ho;have M:=not_done I hi ho;have B:=pre_done I hi ho hc;have ac:i < D.size:=I.dsz ▸ C.lt;have E:cnt R (D.setIfInBounds i true)≤f:=by have:=cnt_set (R:=R) ac C.lt M;omega
  have H:∀ g,R.gd (put G i g) i=R.gd G i:=fun g=>gd_put hc I.closed M i (.inr rfl) B
  have hw:Region.wanted o (yielded R.ops a.tmps)=R.gd G i:=by
   rw [gd_eq hc];unfold Region.wanted;have Y:R.grd i=o.guard:=by simp [grd,ho]
   rw [Y];cases hg:o.guard with
   | none=>rfl
   | some jw =>
    obtain ⟨j,want⟩:=jw;obtain ⟨hj,hb,_,d,hd,hl⟩:=C.grd j want hg;have A:=read_slot I hi ho hc d (.inr ⟨j,want,hg,hd⟩);rw [hl] at A;have hs:=I.slotW d j A;have hy:yielded R.ops a.tmps j=match R.slotv G j with | .bool b=>some b | _=>none:=by
     unfold yielded
     have:(R.ops[j]?).bind (·.dst)=some d:=hd
     rw [this];simp only [Option.bind_some,hs];cases R.slotv G j <;> rfl
    simp only [];rw [hy];unfold slotv;cases hgj:R.gd G j with
    | false=>rfl
    | true =>
     simp only [cond_true,Bool.true_and];cases R.val j G <;> simp [isB]
  unfold wpOp;simp only [ho,hw];cases hgd:R.gd G i with
  | false =>
   simp only [Bool.false_eq_true,if_false];refine ih _ (put G i {}) _ _ E (inv_step I hi ho hc ?_ ?_ ?_ ?_ ?_ ?_ ?_)
   ·unfold slotv;rw [H,hgd];rfl
   ·intro h;rw [H,hgd] at h;cases h
   ·exact Base.refl _ _
   ·intro b o' h;cases h
   ·intro b h;exact absurd rfl h
   all_goals
    intro p hp;exfalso;have hg:R.grd i≠none:=fun h=>by rw [gd_eq hc,h] at hgd;cases hgd
    cases hgr:R.grd i with
    | none=>exact hg hgr
    | some jw =>
     obtain ⟨j,want⟩:=jw;obtain ⟨o',Z,ad⟩:=grd_some hgr;rw [ho] at Z;cases Z;rcases (C.grd j want ad).2.2.1 with hu | hu
     ·rw [hu] at hp;cases hp
     ·rw [gd_sure hc G i hu] at hgd;cases hgd
  | true =>
   simp only [if_true];refine .inl ?_;have S:R.Sees w0 X G i w:=by
    refine ⟨fun j hj hg=>I.fact j (B j hj) hg,fun j hj=>I.agrG j (B j hj),I.agr,fun r hr b o' he=>?_,I.base,hgd,fun r r' b o' ae h h' he af=>I.dis r r' b o' ae (by rw [read_ent I hi ho hc r h];exact he) (by rw [read_ent I hi ho hc r' h'];exact af)⟩
    have:=read_ent I hi ho hc r hr
    rw [←this] at he;obtain ⟨h1,h2,h3,h4⟩:=I.ent r b o' he;exact ⟨h1,h2,h3,fun j hj=>h4 j (B j hj)⟩
   have hd:=ab i o ho G w S;have ah:execOp (R.evalAt G i) o=execOp a.eval o:=by
    refine execOp_congr o C.sel fun x hx=>?_;cases x with
    | tmp t =>
     have ht:t ∈ reads o:=List.mem_filterMap.2 ⟨.tmp t,by simpa using hx,rfl⟩;have ai:(R.looks i).contains t=true:=by simp [looks,ho,ht]
     have A:=read_slot I hi ho hc t (.inl ai);show R.rdSlot G i t=a.tmps.getD t undef;unfold rdSlot;cases hl:lastW (R.wrS t) i with
     | some k =>
      rw [hl] at A;have hs:=I.slotW t k A
      have:a.tmps.getD t undef=R.slotv G k:=by simp [Array.getD_eq_getD_getElem?,hs]
      rw [this];simp only [];cases hu:R.under i k with
      | false=>rfl
      | true =>
       simp only [cond_true];unfold slotv;rw [under_true hc G hgd hu];rfl
     | none =>
      rw [hl] at A;rcases C.rd t ht with h | h
      ·rw [hl] at h;cases h
      ·obtain ⟨u,hu⟩:=Option.isSome_iff_exists.1 h;have hs:=I.slot0 t u A hu;simp [hu,Array.getD_eq_getD_getElem?,hs]
    | _=>rfl
   refine (hd.congr ah).wp fun v w' ⟨g,L⟩=>ih _ (put G i g) _ _ E (inv_step I hi ho hc ?_ (fun _=>L.fact) L.base L.agr L.fresh L.ent L.dis)
   unfold slotv;rw [H,hgd];exact L.v
theorem foldB_mem {o:Oper} {j:Nat} {e:Edge} (he:e ∈ o.after) (hb:Region.binds .any e=true) (h:j=e.on∨(R.B.getD e.on 0).testBit j=true):(R.foldB o).testBit j=true:=by
 unfold foldB;rw [←Array.foldl_toList];have mono:∀ (l:List Edge) (s:Nat),s.testBit j=true→(l.foldl (fun s e=>if Region.binds .any e then s ||| 2 ^ e.on ||| R.B.getD e.on 0 else s) s).testBit j=true:=by
  intro l;induction l with
  | nil=>intro s h;exact h
  | cons e l ih =>
   intro s h;simp only [List.foldl_cons];refine ih _ ?_;split
   ·simp [Nat.testBit_or,h]
   ·exact h
 have b:∀ (l:List Edge) (s:Nat),e ∈ l→(l.foldl (fun s e=>if Region.binds .any e then s ||| 2 ^ e.on ||| R.B.getD e.on 0 else s) s).testBit j=true:=by
  intro l;induction l with
  | nil=>intro s h;cases h
  | cons e' l ih =>
   intro s hm;simp only [List.foldl_cons];rcases List.mem_cons.1 hm with rfl | hm
   ·refine mono l _ ?_;rw [if_pos hb];simp only [Nat.testBit_or,Bool.or_eq_true];rcases h with rfl | h
    ·exact .inl (.inr (by rw [Nat.testBit_two_pow];simp))
    ·exact .inr h
   ·exact ih _ hm
 exact b _ _ (by simpa using he)
theorem bef_lt {nt:Nat} (hc:R.check nt=true):∀ m,m < R.ops.size→∀ j,R.bef m j=true→j < m:=by
 intro m;induction m using Nat.strongRecOn with
 | _ m ih =>
  intro hm j h1;have C:=chk hc (Array.getElem?_eq_getElem hm);rw [bef_is] at h1;rw [C.b] at h1;obtain ⟨e,he,hb,h3⟩:=foldB_spec h1;have d:=C.aft e he hb;rcases h3 with rfl | h3
  ·exact d
  ·have:=ih e.on d (by omega) j (by rw [bef_is];exact h3);omega
theorem bef_trans {nt:Nat} (hc:R.check nt=true):∀ m,m < R.ops.size→∀ i j,R.bef m i=true→R.bef i j=true→R.bef m j=true:=by
 intro m;induction m using Nat.strongRecOn with
 | _ m ih =>
  intro hm i j h1 h2;have C:=chk hc (Array.getElem?_eq_getElem hm);rw [bef_is] at h1 h2 ⊢;rw [C.b] at h1 ⊢;obtain ⟨e,he,hb,h3⟩:=foldB_spec h1;have d:=C.aft e he hb;rcases h3 with rfl | h3
  ·exact foldB_mem he hb (.inr h2)
  ·exact foldB_mem he hb (.inr ((by have:=ih e.on d (by omega) i j (by rw [bef_is];exact h3) (by rw [bef_is];exact h2);rwa [bef_is] at this)))
theorem seq_of_any {P:Program} {ops:Array Oper} {Q:Exit→Act→World→Prop} (b:∀ (i:Nat) (o:Oper),ops[i]?=some o→∀ e ∈ o.after,Region.binds .any e=true→e.on < i) :
  ∀ m i (D:Array Bool) a w,i+m=ops.size→D.size=ops.size→(∀ j,dn D j=decide (j < i))→wpAny P .any ops Q m D a w→wpOps P ops Q (List.range' i m) a w:=by
 intro m;induction m with
 | zero=>intro i D a w _ _ _ h;exact h.2
 | succ m ih =>
  intro i D a w f hD hd h;rw [List.range'_succ,wpOps_cons];have hi:i < ops.size:=by omega
  have ho:ops[i]?=some ops[i]:=Array.getElem?_eq_getElem hi;have hr:i ∈ Region.ready .any ops D:=by
   refine mem_ready.2 ⟨?_,_,ho,fun e he hb=>?_⟩
   ·have:=hd i
    unfold dn at this;have d:i < D.size:=hD ▸ hi;simp [d] at this ⊢;exact this
   ·have:=b i _ ho e he hb
    have h2:=hd e.on;unfold dn at h2;rw [h2];simp [this]
  refine wpOp_mono (fun a' w' h'=>ih (i+1) _ a' w' (by omega) (by simp [hD]) (fun j=>?_) h') (h.2 i hr);rw [dn_set (hD ▸ hi),hd j];by_cases e:j=i
  ·subst e;simp
  ·have:(j == i)=false:=by simpa using e
   rw [this];by_cases h1:j < i
   ·have:j < i+1:=by omega
    simp [h1,this]
   ·have:¬ j < i+1:=by omega
    simp [h1,this]
def fin (R:RC) (G:Nat→Rec) (s:Nat):Value:=match lastW (R.wrS s) R.ops.size with
 | some k=>R.slotv G k
 | none=>(R.sl.lookup s).getD undef
def entF (R:RC) (G:Nat→Rec) (r:Nat):Ent:=match lastW (R.wrE r) R.ops.size with
 | some k=>R.entOf G k r
 | none=>(R.L[r]?).getD none
structure Done (R:RC) (nt:Nat) (w0:World) (X:List Nat) (G:Nat→Rec) (a:Act) (w:World):Prop where
 fact:∀ i,i < R.ops.size→R.gd G i=true→R.fact i G
 slots:∀ d:List Nat,(∀ s ∈ d,(lastW (R.wrS s) R.ops.size).isSome=true∨(R.sl.lookup s).isSome=true)→SlotsOK nt (d.map fun s=>(s,R.fin G s)) a
 st:∀ hs:List Nat,(∀ i ∈ hs,i < R.ops.size)→StW w0 X (hs.map (fun i=>(G i).H) ++R.A) ((List.range R.L.length).map (R.entF G)) w
 newG:∀ i,i < R.ops.size→∀ b,(G i).H b≠none→w0.heap.size≤b
theorem region {P:Program} {nt:Nat} {w0:World} {X:List Nat} {Q:Exit→Act→World→Prop} {a:Act} {w:World} {id:Nat} {d:Bool} (hm:P.follows .mixedOrders=true)
  (hc:R.check nt=true) (E:∀ i,R.Ok P w0 X i) (hs:SlotsOK nt R.sl a) (hw:StW w0 X R.A R.L w)
  (K:∀ G a w,R.Done nt w0 X G a w→Q .normal a w):(Code.region id R.ops d).wp P Q a w:=by
 have K':∀ D G a w,R.Inv nt w0 X D G a w→(∀ i,i < R.ops.size→dn D i=true)→Q .normal a w:=by
  intro D G a w I hd;have eS:∀ s,lastW (fun j=>dn D j && R.wrS s j) R.ops.size=lastW (R.wrS s) R.ops.size:=fun s=>lastW_congr _ fun k hk=>by simp [hd k hk]
  have eE:∀ r,R.entD D G r=R.entF G r:=fun r=>by
   unfold entD entF;rw [show lastW (fun j=>dn D j && R.wrE r j) R.ops.size=lastW (R.wrE r) R.ops.size from lastW_congr _ fun k hk=>by simp [hd k hk]]
  refine K G a w ⟨fun i hi hg=>I.fact i (hd i hi) hg,fun f ho=>⟨I.defers,I.size,fun s v hv=>?_⟩,fun hs hl=>⟨I.base,?_,?_,?_⟩,fun i hi=>I.newG i (hd i hi)⟩
  ·have M:s ∈ f∧v=R.fin G s:=by
    clear ho;induction f with
    | nil=>cases hv
    | cons t l ih =>
     simp only [List.map_cons,List.lookup_cons] at hv;by_cases e:s=t
     ·subst e;simp at hv;exact ⟨by simp,hv.symm⟩
     ·have:(s == t)=false:=by simpa using e
      rw [this] at hv
      have:=ih hv
      exact ⟨by simp [this.1],this.2⟩
   obtain ⟨h1,rfl⟩:=M;unfold fin;cases hl:lastW (R.wrS s) R.ops.size with
   | some k=>exact I.slotW s k (by rw [eS,hl])
   | none =>
    rcases ho s h1 with h | h
    ·rw [hl] at h;cases h
    ·obtain ⟨u,hu⟩:=Option.isSome_iff_exists.1 h;simp only [hu,Option.getD_some];exact I.slot0 s u (by rw [eS,hl]) hu
  ·intro H hH;rcases List.mem_append.1 hH with h | h
   ·obtain ⟨i,hi,rfl⟩:=List.mem_map.1 h;exact I.agrG i (hd i (hl i hi))
   ·exact I.agr H h
  ·intro r b o he;have C:R.entD D G r=some (b,o):=by
    rw [eE];rcases Nat.lt_or_ge r R.L.length with h | h
    ·simpa [h] using he
    ·simp [Nat.not_lt.2 h] at he
   obtain ⟨h1,h2,h3,h4⟩:=I.ent r b o C;refine ⟨h1,h2,fun H hH=>?_⟩;rcases List.mem_append.1 hH with h | h
   ·obtain ⟨i,hi,rfl⟩:=List.mem_map.1 h;exact h4 i (hd i (hl i hi))
   ·exact h3 H h
  ·intro r r' b o o' he C;have h1:∀ r o,((List.range R.L.length).map (R.entF G))[r]?=some (some (b,o))→R.entD D G r=some (b,o):=fun r o h=>by
    rw [eE];rcases Nat.lt_or_ge r R.L.length with hh | hh
    ·simpa [hh] using h
    ·simp [Nat.not_lt.2 hh] at h
   exact I.dis r r' b o o' (h1 r o he) (h1 r' o' C)
 have start:∀ w,StW w0 X R.A R.L w→R.Inv nt w0 X (Array.replicate R.ops.size false) (fun _=>{}) a w:=fun w hw=>by
  have hdn:∀ j,dn (Array.replicate R.ops.size false) j=false:=fun j=>by unfold dn;simp only [Array.getD_eq_getD_getElem?,Array.getElem?_replicate];split <;> simp
  have hl:∀ p:Nat→Bool,lastW (fun j=>dn (Array.replicate R.ops.size false) j && p j) R.ops.size=none:=fun p=>by
   rw [lastW_cut 0 _ (Nat.zero_le _) (fun k _ _=>by simp [hdn])];rfl
  have eL:∀ r b o,R.entD (Array.replicate R.ops.size false) (fun _=>{}) r=some (b,o)→R.L[r]?=some (some (b,o)):=fun r b o h=>by
   unfold entD at h;rw [hl] at h;cases hr:R.L[r]? with
   | none=>simp [hr] at h
   | some e=>simp [hr] at h;rw [h]
  refine ⟨hs.defers,hs.size,fun s k h=>?_,fun s v _ hv=>hs.slot s v hv,hw.base,hw.agr,fun j hj=>?_,fun r b o h=>?_,fun r r' b o o' h h'=>hw.dis r r' b o o' (eL r b o h) (eL r' b o' h'),fun j hj=>?_,fun i j hi=>?_,by simp,fun j hj=>by rw [hdn] at hj;cases hj⟩
  ·rw [hl] at h;cases h
  ·rw [hdn] at hj;cases hj
  ·obtain ⟨h1,h2,h3⟩:=hw.ent r b o (eL r b o h);exact ⟨h1,h2,h3,fun j _=>rfl⟩
  ·rw [hdn] at hj;cases hj
  ·rw [hdn] at hi;cases hi
 have B:cnt R (Array.replicate R.ops.size false)≤R.ops.size:=by
  unfold cnt;exact Nat.le_trans (List.length_filter_le _ _) (by simp)
 cases d with
 | true =>
  refine wp_region_any hm (any_of_inv hc E K' _ _ _ _ _ B (start _ ?_));exact ⟨⟨hw.base.os,hw.base.tape,hw.base.output,hw.base.size,hw.base.keep⟩,hw.agr,hw.ent,hw.dis⟩
 | false =>
  refine wp_region ?_;rw [List.range_eq_range'];refine seq_of_any (fun i o ho=>(chk hc ho).aft) _ 0 _ a w (by simp) (by simp) (fun j=>?_) (any_of_inv hc E K' _ _ _ _ _ B (start w hw));unfold dn;simp only [Array.getD_eq_getD_getElem?,Array.getElem?_replicate];split <;> simp
end RC

open Go Go.RowKit Go.WideShapes Go.ChangeShapes
section
variable {H : Type} {enc : TypeId × Value → H} {P : Program}
theorem law_post {f:Func} {s:ChangeSpec} {h E i G:Bool} {W W':World} {o:Array Value} {v:Value} {ds gs:List (DataW H)} {d pa pv:List MemPlace}
  (hW:DataW.Whole enc P f.params.toList s.vars h W o.toList ds gs d)
  (C:∀ (b:Nat) (sp:Nat→Bool) (hd:Bool),DataW.TrodAll enc P W' b sp hd f.resultTypes.toList (v.resultList f.resultTypes.size) (s.fn H (ds ++gs)).results [])
  (w:∀ sp:Nat→Bool,(∀ p ∈ d,sp p.block=true)→DataW.TrodAll enc P W' 0 sp true f.params.toList o.toList (s.fn H (ds ++gs)).args pa)
  (A:∀ sp:Nat→Bool,(∀ p ∈ d,sp p.block=true)→DataW.TrodVars enc P W' sp s.vars (s.fn H (ds ++gs)).vars pv)
  (B:d=pa ++pv) (hb:Base [] W W')
  (Q:∀ (j:Nat) (t:TypeId) (r:Value),f.resultTypes[j]?=some t→(v.resultList f.resultTypes.size)[j]?=some r→Value.okWide P W' .any 0 t r) :
  s.post enc P f h E i G W o v W':=by
 have I:∀ p ∈ d,p.block < W.heap.size:=fun p hp=>hW.lt p hp
 have mark:∀ p ∈ d,(fun b=>decide (b < W.heap.size)) p.block=true:=fun p hp=>decide_eq_true (I p hp)
 have D:=hb.below;refine ⟨ds,gs,d,[],pa,pv,hW,C _ _ _,w _ mark,A _ mark,World.keptBut_mono (fun p hp=>⟨hp,by rw [B,List.mem_append] at hp;exact Or.inr hp⟩) (D.frame (· ∈ d)),fun _=>?_⟩;obtain ⟨_,_,_,_,_,hz,hn⟩:=hW;refine ⟨Q,_,_,([] ++pa) ++pv,⟨[] ++pa,pv,trodAll_append (w _ fun _ _=>rfl) (C _ _ _),A _ fun _ _=>rfl,rfl,fun b off hp=>?_,fun ha=>?_⟩,fun p hp _=>?_⟩
 ·have M:MemPlace.cell b off ∈ d:=by rw [B];simpa using hp
  rw [D.frozen (I _ M)];exact hz b off M
 ·have:=hn ha
  rw [B] at this;simpa using this
 ·rw [B];simpa using hp
end

open Go
def body (f:Func):Code:=f.body.getD .skip
abbrev Slots:=List (Nat × Value)
section
variable {P : Program} {nt : Nat} {w0 : World} {X : List Nat} {Q : Exit → Act → World → Prop} {c : Code} {sl sl' : Slots} {A A' : List Heaplet} {L L' : List Ent}
theorem SlotsOK.sub {a:Act} (hs:SlotsOK nt sl a) (h:(sl'.map fun p=>sl.lookup p.1)=sl'.map fun p=>some p.2):SlotsOK nt sl' a:=by
 refine ⟨hs.defers,hs.size,fun s v hv=>hs.slot s v ?_⟩;induction sl' with
 | nil=>cases hv
 | cons p l ih =>
  obtain ⟨t,u⟩:=p;simp only [List.map_cons,List.cons.injEq] at h;simp only [List.lookup_cons] at hv;by_cases e:s=t
  ·subst e;simp at hv;subst hv;exact h.1
  ·have e':(s == t)=false:=by simpa using e
   rw [e'] at hv;exact ih h.2 hv
def RC.ex (R:RC) (P:Program) (G:Nat→Rec) (i:Nat) (w:World):Option (Result Next):=(R.ops[i]?).map fun o=>(execOp (R.evalAt G i) o).run P w
def One (R:RC) (P:Program) (w0:World) (X:List Nat) (i:Nat):Prop:=R.Ok P w0 X i
theorem RC.Left.pure {R:RC} {i:Nat} {G:Nat→Rec} {w:World} (hu:R.ups i=[]) (hf:R.fact i (RC.put G i {})):R.Left w w G i {} (R.val i (RC.put G i {})) :=
 ⟨rfl,hf,Base.refl _ _,(fun b o h=>by cases h),fun b h=>absurd rfl h,(fun p hp=>by rw [hu] at hp;cases hp),(fun p hp=>by rw [hu] at hp;cases hp)⟩
theorem slot_getD {a:Act} {t:Nat} {v:Value} (h:sl.lookup t=some v) (hs:SlotsOK nt sl a):a.tmps.getD t undef=v:=by
 simp [Array.getD_eq_getD_getElem?,hs.slot t v h]
def All2 {α β:Type} (p:α→β→Prop):List α→List β→Prop
 | [],[]=>True
 | a :: l,b :: m=>p a b∧All2 p l m
 | _,_=>False
def resOf (b:Array Value):ResultVar→Sem Value
 | .tmp t=>pure (b.getD t undef)
 | .cell a t=>do loadVar t (←asAddr (b.getD a undef))
theorem mapM_res {b:Array Value} {w:World}:∀ {rs:List ResultVar} {vs:List Value},All2 (fun r v=>(resOf b r).run P w=.ok v w) rs vs→(rs.mapM (resOf b)).run P w=.ok vs w
 | [],[],_=>rfl
 | r :: rs,v :: vs,⟨h,t⟩=>by
  rw [List.mapM_cons];simp [h,mapM_res t]
 | [],_ :: _,h=>h.elim
 | _ :: _,[],h=>h.elim
theorem results_many {fn:Func} {b:Array Value} {w:World} {rs:List ResultVar} {vs:List Value} (hf:fn.results=rs.toArray) (hl:vs.length≠1)
  (h:All2 (fun r v=>(resOf b r).run P w=.ok v w) rs vs):(results fn b).run P w=.ok (.tuple vs.toArray) w:=by
 have:=mapM_res h
 unfold results;rw [hf];simp only [List.mapM_toArray];change Sem.run P (do let vs ← List.toArray <$> List.mapM (resOf b) rs;pure (if h:vs.size=1 then vs[0] else Value.tuple vs)) w=_;rw [Sem.run_bind,Sem.run_map,this];simp [hl]
theorem results_one {fn:Func} {b:Array Value} {w:World} {r:ResultVar} {v:Value} (hf:fn.results=#[r]) (h:(resOf b r).run P w=.ok v w):(results fn b).run P w=.ok v w:=by
 unfold results;rw [hf];cases r <;> simp_all [resOf]
theorem res_tmp {a:Act} {w:World} {t:Nat} {v:Value} (h:sl.lookup t=some v) (hs:SlotsOK nt sl a):(resOf a.tmps (.tmp t)).run P w=.ok v w:=by
 show Result.ok (a.tmps.getD t undef) w=_;rw [slot_getD h hs]
section one
variable {R : RC} {i : Nat}
theorem RC.touched_nil {G:Nat→Rec} (hu:R.ups i=[]):R.touched G i=[]:=by unfold RC.touched;rw [hu];rfl
theorem RC.Left.grow {G:Nat→Rec} {w w':World} {g:Rec} (hu:R.ups i=[]) (hf:R.fact i (RC.put G i g)) (hb:Base [] w w') (ha:Agrees w' g.H) (d:∀ b,g.H b≠none→w.heap.size≤b) :
  R.Left w w' G i g (R.val i (RC.put G i g)) :=
 ⟨rfl,hf,by rw [RC.touched_nil hu];exact hb,ha,d,(fun p hp=>by rw [hu] at hp;cases hp),(fun p hp=>by rw [hu] at hp;cases hp)⟩
end one
end
theorem iN {n e b:Bool} {P:Prop} (hn:n=e) (h:e=b↔P):n=b↔P:=hn ▸ h
theorem iDT {P:Prop} [Decidable P]:decide P=true↔P:=decide_eq_true_iff
theorem iDF {P:Prop} [Decidable P]:decide P=false↔¬ P:=decide_eq_false_iff_not
theorem iAT {a b:Bool} {P Q:Prop} (h:a=true↔P) (k:b=true↔Q):(a && b)=true↔P∧Q:=by rw [Bool.and_eq_true,h,k]
theorem iAF {a b:Bool} {P Q:Prop} (h:a=false↔P) (k:b=false↔Q):(a && b)=false↔P∨Q:=by rw [Bool.and_eq_false_iff,h,k]
theorem iOT {a b:Bool} {P Q:Prop} (h:a=true↔P) (k:b=true↔Q):(a || b)=true↔P∨Q:=by rw [Bool.or_eq_true,h,k]
theorem iOF {a b:Bool} {P Q:Prop} (h:a=false↔P) (k:b=false↔Q):(a || b)=false↔P∧Q:=by rw [Bool.or_eq_false_iff,h,k]
theorem iNT {a:Bool} {P:Prop} (h:a=false↔P):(!a)=true↔P:=by rw [Bool.not_eq_true',h]
theorem iNF {a:Bool} {P:Prop} (h:a=true↔P):(!a)=false↔P:=by rw [Bool.not_eq_false',h]
theorem max_if (x y:Int):(if y > x then y else x)=max x y:=by omega

open Go
def IsSl (v:Value) (n:Nat):Prop:=∃ a c,v=.slice a n c∧(a=none→n=0)∧n≤c
def elemAddr (v:Value) (k:Nat):Addr:=match v with
 | .slice (some a) _ _=>a.add k
 | _=>default
theorem add_eq {a:Addr} (h:a.spot=none) (n:Nat):a.add n=⟨a.block,a.off+n,none⟩:=by
 unfold Addr.add;split
 ·rename_i e;subst e;cases a;simp_all
 ·rfl
theorem add_zero' (a:Addr):a.add 0=a:=by simp [Addr.add]
def HCells (H:Heaplet) (a:Addr) (vs:List Value):Prop:=a.spot=none∧∃ c T fr,H a.block=some (.cells c T fr)∧∀ (j:Nat) (v:Value),vs[j]?=some v→c[a.off+j]?=some v
theorem HCells.cell {H:Heaplet} {a:Addr} {vs:List Value} {w:World} (h:HCells H a vs) (ag:Agrees w H) (j:Nat) (v:Value) (hj:vs[j]?=some v):w.cell? (a.add j)=some v:=by
 obtain ⟨hs,c,T,fr,hb,hc⟩:=h
 have:=ag _ _ hb
 rw [add_eq hs];simp [World.cell?,this,hc j v hj]
theorem HCells.drop {H:Heaplet} {a:Addr} {vs ws:List Value} {k:Nat} (h:HCells H a vs) (hw:∀ (j:Nat) (v:Value),ws[j]?=some v→vs[k+j]?=some v):HCells H (a.add k) ws:=by
 obtain ⟨hs,c,T,fr,hb,hc⟩:=h;rw [add_eq hs];refine ⟨rfl,c,T,fr,hb,fun j v hj=>?_⟩
 have:=hc (k+j) v (hw j v hj)
 rwa [←Nat.add_assoc] at this
theorem HCells.part {H:Heaplet} {a:Addr} {vs ws:List Value} (h:HCells H a vs) {off:Nat} (e:(vs.drop off).take ws.length=ws):HCells H (a.add off) ws :=
 h.drop fun j v hj=>by
  rw [←e,List.getElem?_take] at hj;split at hj
  ·rw [List.getElem?_drop] at hj;exact hj
  ·cases hj
def cell1:Value→Bool
 | .agg _=>false
 | .tuple _=>false
 | _=>true
theorem cell1_one {u:Value} (h:cell1 u=true):u.oneCell'=true:=by cases u <;> first | rfl | cases h
structure HSlice (H:Heaplet) (size:Nat) (rows:List (List Value)) (v:Value):Prop where
 len:∀ r ∈ rows,r.length=size
 one:∀ r ∈ rows,∀ u ∈ r,cell1 u=true
 val:∃ a c,v=.slice a rows.length c∧rows.length≤c∧c≤maxLen∧(a=none→rows=[]∧c=0)∧∀ b,a=some b→rows≠[]→HCells H b rows.flatten
theorem HSlice.isSl {H:Heaplet} {size:Nat} {rows:List (List Value)} {v:Value} (h:HSlice H size rows v):IsSl v rows.length:=by
 obtain ⟨a,c,rfl,h1,_,h3,_⟩:=h.val;exact ⟨a,c,rfl,fun e=>by rw [(h3 e).1];rfl,h1⟩
theorem HSlice.lim {H:Heaplet} {size:Nat} {rows:List (List Value)} {v:Value} (h:HSlice H size rows v):rows.length≤9223372036854775807:=by
 obtain ⟨a,c,rfl,h1,h2,_⟩:=h.val;simp only [maxLen] at h2;omega
theorem flatten_get {size:Nat}:∀ {rows:List (List Value)} (_:∀ r ∈ rows,r.length=size) (k j:Nat) (r:List Value) (v:Value),rows[k]?=some r→r[j]?=some v→rows.flatten[k * size+j]?=some v
 | [],_,k,j,r,v,h,_=>by simp at h
 | r0 :: rows,hl,0,j,r,v,h,hj=>by
  simp at h;subst h;have b:j < r0.length:=(List.getElem?_eq_some_iff.1 hj).1;rw [Nat.zero_mul,Nat.zero_add,List.flatten_cons,List.getElem?_append_left b];exact hj
 | r0 :: rows,hl,k+1,j,r,v,h,hj=>by
  have h0:r0.length=size:=hl r0 (by simp);have ih:=flatten_get (rows:=rows) (fun r hr=>hl r (by simp [hr])) k j r v (by simpa using h) hj;rw [List.flatten_cons,List.getElem?_append_right (by rw [h0,Nat.succ_mul];omega)];rw [h0,show (k+1) * size+j - size=k * size+j from by rw [Nat.succ_mul];omega];exact ih
theorem flatten_len {size:Nat}:∀ {rows:List (List Value)},(∀ r ∈ rows,r.length=size)→rows.flatten.length=rows.length * size
 | [],_=>by simp
 | r :: rows,h=>by
  rw [List.flatten_cons,List.length_append,flatten_len (fun r hr=>h r (by simp [hr])),h r (by simp),List.length_cons,Nat.succ_mul];omega
theorem HSlice.elem {H:Heaplet} {size:Nat} {rows:List (List Value)} {v:Value} (h:HSlice H size rows v) {k:Nat} {r:List Value} (hk:rows[k]?=some r):HCells H (elemAddr v (k * size)) r:=by
 obtain ⟨a,c,rfl,h1,_,h3,h4⟩:=h.val;have b:rows≠[]:=by intro e;subst e;simp at hk
 cases a with
 | none=>exact absurd (h3 rfl).1 b
 | some a=>exact (h4 a rfl b).drop fun j u hj=>flatten_get h.len k j r u hk hj
theorem HSlice.cells {H:Heaplet} {size:Nat} {rows:List (List Value)} {v:Value} {w:World} (h:HSlice H size rows v) (ag:Agrees w H):∀ a n c,v=.slice (some a) n c→∀ (j:Nat) (u:Value),rows.flatten[j]?=some u→w.cell? (a.add j)=some u:=by
 rintro a n c e j u hj;obtain ⟨b,c',e',_,_,_,h4⟩:=h.val;rw [e'] at e;cases e;have d:rows≠[]:=by intro e;subst e;simp at hj
 exact (h4 a rfl d).cell ag j u hj
theorem HSlice.nil {H:Heaplet} {size:Nat}:HSlice H size [] (.slice none 0 0):=⟨by simp,by simp,none,0,rfl,Nat.le_refl _,by simp [maxLen],fun _=>⟨rfl,rfl⟩,fun b h=>by cases h⟩
theorem HCells.mono {H K:Heaplet} {a:Addr} {vs:List Value} (h:HCells H a vs) (k:∀ b o,H b=some o→K b=some o):HCells K a vs:=by
 obtain ⟨hs,c,T,fr,hb,hc⟩:=h;exact ⟨hs,c,T,fr,k _ _ hb,hc⟩
theorem HSlice.mono {H K:Heaplet} {size:Nat} {rows:List (List Value)} {v:Value} (h:HSlice H size rows v) (k:∀ b o,H b=some o→K b=some o):HSlice K size rows v:=by
 obtain ⟨a,c,e,h1,h2,h3,h4⟩:=h.val;exact ⟨h.len,h.one,a,c,e,h1,h2,h3,fun b hb hn=>(h4 b hb hn).mono k⟩
def New (w0:World) (H:Heaplet):Prop:=∀ b,H b≠none→w0.heap.size≤b
def Sub (H K:Heaplet):Prop:=∀ b o,H b=some o→K b=some o
theorem Sub.refl (H:Heaplet):Sub H H:=fun _ _ h=>h
theorem Sub.trans {H K J:Heaplet} (h:Sub H K) (k:Sub K J):Sub H J:=fun b o e=>k b o (h b o e)
def hun (H K:Heaplet):Heaplet:=fun b=>match H b with
 | some o=>some o
 | none=>K b
theorem hun_agrees {w:World} {H K:Heaplet} (h:Agrees w H) (k:Agrees w K):Agrees w (hun H K):=fun b o e=>by
 unfold hun at e;split at e
 ·rename_i o' h1;cases e;exact h b _ h1
 ·exact k b o e
theorem hun_left {H K:Heaplet}:Sub H (hun H K):=fun b o e=>by simp [hun,e]
theorem hun_sub {H K J:Heaplet} (h:Sub H J) (k:Sub K J):Sub (hun H K) J:=fun b o e=>by
 unfold hun at e;split at e
 ·rename_i o' h1;cases e;exact h b _ h1
 ·exact k b o e
theorem new_none {w0:World}:New w0 (fun _=>none):=fun b h=>absurd rfl h
structure OwnS (E:TypeId) (size:Nat) (rows:List (List Value)) (v:Value) (e:Ent):Prop where
 len:∀ r ∈ rows,r.length=size
 one:∀ r ∈ rows,∀ u ∈ r,cell1 u=true
 val:(v=.slice none 0 0∧rows=[]∧e=none) ∨
  ∃ g b d,v=.slice (some ⟨g,0,none⟩) rows.length b∧e=some (g,.cells d E)∧rows.length≤b∧b≤maxLen∧d.size=b * size∧d.toList.take (rows.length * size)=rows.flatten
def EntIn (w:World) (e:Ent):Prop:=∀ b o,e=some (b,o)→w.heap[b]?=some o
theorem OwnS.owns {E:TypeId} {size:Nat} {rows:List (List Value)} {v:Value} {e:Ent} {w:World} (h:OwnS E size rows v e) (he:EntIn w e):w.ownsRow 0 E size v rows.length rows.flatten:=by
 refine ⟨flatten_len h.len,?_⟩;rcases h.val with ⟨rfl,rfl,rfl⟩ | ⟨g,b,d,rfl,rfl,h1,h2,h3,h4⟩
 ·exact .inl ⟨rfl,rfl⟩
 ·exact .inr ⟨g,b,d,rfl,Nat.zero_le _,he _ _ rfl,h1,h2,h3,h4⟩
theorem OwnS.isSl {E:TypeId} {size:Nat} {rows:List (List Value)} {v:Value} {e:Ent} (h:OwnS E size rows v e):IsSl v rows.length:=by
 rcases h.val with ⟨rfl,rfl,rfl⟩ | ⟨g,b,d,rfl,_,h1,_⟩
 ·exact ⟨none,0,rfl,fun _=>rfl,Nat.le_refl _⟩
 ·exact ⟨_,_,rfl,(fun h=>by cases h),h1⟩
theorem OwnS.nil (E:TypeId) (size:Nat):OwnS E size [] (.slice none 0 0) none:=⟨by simp,by simp,.inl ⟨rfl,rfl,rfl⟩⟩
def entH (e:Ent):Heaplet:=fun b=>match e with
 | some (g,o)=>if b=g then some o else none
 | none=>none
theorem entH_agrees {w:World} {e:Ent} (he:EntIn w e):Agrees w (entH e):=fun b o h=>by
 unfold entH at h;cases e with
 | none=>cases h
 | some p =>
  obtain ⟨g,o'⟩:=p;simp only at h;split at h
  ·rename_i hb;subst hb;cases h;exact he _ _ rfl
  ·cases h
theorem entH_new {w0:World} {e:Ent} (h:∀ b o,e=some (b,o)→w0.heap.size≤b):New w0 (entH e):=fun b hb=>by
 unfold entH at hb;cases e with
 | none=>simp at hb
 | some p =>
  obtain ⟨g,o⟩:=p;simp only at hb;split at hb
  ·rename_i e;subst e;exact h _ _ rfl
  ·simp at hb
theorem OwnS.toH {E:TypeId} {size:Nat} {rows:List (List Value)} {v:Value} {e:Ent} (h:OwnS E size rows v e):HSlice (entH e) size rows v:=by
 rcases h.val with ⟨rfl,rfl,rfl⟩ | ⟨g,d,f,rfl,rfl,h1,h2,h3,h4⟩
 ·exact HSlice.nil
 ·refine ⟨h.len,h.one,some ⟨g,0,none⟩,d,rfl,h1,h2,(fun e=>by cases e),fun b hb _=>?_⟩;cases hb;refine ⟨rfl,f,E,(0,0),by simp [entH],fun j v hj=>?_⟩;rw [←h4] at hj;rw [List.getElem?_take] at hj;split at hj
  ·simpa using hj
  ·cases hj
theorem OwnS.lim {E:TypeId} {size:Nat} {rows:List (List Value)} {v:Value} {e:Ent} (h:OwnS E size rows v e):rows.length≤9223372036854775807:=h.toH.lim
theorem own_lit {E size n g:Nat} {rows:List (List Value)} {b:Array Value} (hn:rows.length=n) (hl:∀ r ∈ rows,r.length=size) (h1:∀ r ∈ rows,∀ u ∈ r,cell1 u=true) (ha:b.toList=rows.flatten) (hm:n≤maxLen) :
  OwnS E size rows (.slice (some ⟨g,0,none⟩) n n) (some (g,.cells b E)):=by
 subst hn;have hf:=flatten_len hl;have hs:b.size=rows.length * size:=by rw [←hf,← ha,Array.length_toList]
 refine ⟨hl,h1,.inr ⟨g,rows.length,b,rfl,rfl,Nat.le_refl _,hm,hs,?_⟩⟩;rw [ha,List.take_of_length_le (by rw [hf];exact Nat.le_refl _)]
theorem take_flatten {size:Nat}:∀ {rows:List (List Value)} (_:∀ r ∈ rows,r.length=size) (n:Nat),(rows.take n).flatten=rows.flatten.take (n * size)
 | [],_,n=>by simp
 | r :: rows,h,0=>by simp
 | r :: rows,h,n+1=>by
  have hr:=h r (by simp);have e1:r.take (n * size+size)=r:=List.take_of_length_le (by rw [hr];exact Nat.le_add_left _ _);rw [List.take_succ_cons,List.flatten_cons,take_flatten (fun r hr=>h r (by simp [hr])) n,List.flatten_cons,Nat.succ_mul,List.take_append,e1,hr,Nat.add_sub_cancel]
theorem drop_flatten {size:Nat}:∀ {rows:List (List Value)} (_:∀ r ∈ rows,r.length=size) (n:Nat),(rows.drop n).flatten=rows.flatten.drop (n * size)
 | [],_,n=>by simp
 | r :: rows,h,0=>by simp
 | r :: rows,h,n+1=>by
  have hr:=h r (by simp);have e1:r.drop (n * size+size)=[]:=List.drop_of_length_le (by rw [hr];exact Nat.le_add_left _ _);rw [List.drop_succ_cons,drop_flatten (fun r hr=>h r (by simp [hr])) n,List.flatten_cons,Nat.succ_mul,List.drop_append,e1,hr,Nat.add_sub_cancel,List.nil_append]
def subV (v:Value) (size lo hi:Nat):Value:=match v with
 | .slice a _ cap=>.slice (if cap=lo then a else a.map (·.add (lo * size))) (hi - lo) (cap - lo)
 | v=>v
theorem HSlice.sub {H:Heaplet} {size:Nat} {rows:List (List Value)} {v:Value} (h:HSlice H size rows v) {lo hi:Nat} (h1:lo≤hi) (h2:hi≤rows.length):HSlice H size ((rows.take hi).drop lo) (subV v size lo hi):=by
 have d:∀ r ∈ (rows.take hi).drop lo,r.length=size:=fun r hr=>h.len r (List.mem_of_mem_take (List.mem_of_mem_drop hr))
 have f:∀ r ∈ (rows.take hi).drop lo,∀ u ∈ r,cell1 u=true:=fun r hr=>h.one r (List.mem_of_mem_take (List.mem_of_mem_drop hr))
 have hl:((rows.take hi).drop lo).length=hi - lo:=by simp;omega
 obtain ⟨a,c,rfl,k1,k2,k3,k4⟩:=h.val;have hf:((rows.take hi).drop lo).flatten=(rows.flatten.take (hi * size)).drop (lo * size):=by
  rw [drop_flatten (fun r hr=>h.len r (List.mem_of_mem_take hr)),take_flatten h.len]
 refine ⟨d,f,(if c=lo then a else a.map (·.add (lo * size))),c - lo,by simp [subV,hl],by rw [hl];omega,by omega,fun e=>?_,fun b hb hn=>?_⟩
 ·have:a=none:=by
   split at e
   ·exact e
   ·simpa using e
  obtain ⟨e1,e2⟩:=k3 this;exact ⟨by rw [e1];simp,by omega⟩
 ·by_cases e:c=lo
  ·have:((rows.take hi).drop lo)=[]:=List.eq_nil_of_length_eq_zero (by rw [hl];omega)
   exact absurd this hn
  ·rw [if_neg e] at hb;cases a with
   | none=>cases hb
   | some a =>
    cases hb
    have i:rows≠[]:=by intro e;subst e;simp at hn
    refine (k4 a rfl i).drop fun j u hj=>?_;rw [hf,List.getElem?_drop,List.getElem?_take] at hj
    split at hj
    ·exact hj
    ·cases hj
theorem OwnS.take {E:TypeId} {size:Nat} {rows:List (List Value)} {v:Value} {e:Ent} (h:OwnS E size rows v e) {n:Nat} (hn:n≤rows.length):OwnS E size (rows.take n) (subV v size 0 n) e:=by
 have b:∀ r ∈ rows.take n,r.length=size:=fun r hr=>h.len r (List.mem_of_mem_take hr)
 have d:∀ r ∈ rows.take n,∀ u ∈ r,cell1 u=true:=fun r hr=>h.one r (List.mem_of_mem_take hr)
 rcases h.val with ⟨rfl,rfl,rfl⟩ | ⟨g,f,i,rfl,rfl,h1,h2,h3,h4⟩
 ·simp at hn;subst hn;exact ⟨by simp,by simp,.inl ⟨by simp [subV],by simp,rfl⟩⟩
 ·refine ⟨b,d,.inr ⟨g,f,i,?_,rfl,by simp;omega,h2,h3,?_⟩⟩
  ·have hl:(rows.take n).length=n:=by simp;omega
   simp only [subV,Nat.sub_zero,hl,Nat.zero_mul,Option.map_some,add_zero'];split <;> rfl
  ·have hl:(rows.take n).length=n:=by simp;omega
   rw [hl,take_flatten h.len,← h4,List.take_take,Nat.min_eq_left (Nat.mul_le_mul_right _ hn)]
structure Grows (e e':Ent) (w w':World):Prop where
 in':EntIn w' e'
 from':∀ b o,e'=some (b,o)→w.heap.size≤b∨∃ o',e=some (b,o')
 base:Base (e.map (·.1)).toList w w'
theorem flat_one {rows:List (List Value)} (h:∀ r ∈ rows,∀ u ∈ r,cell1 u=true):∀ u ∈ rows.flatten,u.oneCell'=true:=fun u hu=>by
 obtain ⟨r,hr,hu⟩:=List.mem_flatten.1 hu;exact cell1_one (h r hr u hu)
theorem append_run {P:Program} {w:World} {t ty E:TypeId} {i:TypeInfo} {z:Value} {size A:Nat} (ht:P.underlying t=some (.slice E)) (hi:P.info? E=some i) (hz:i.zero=some z)
  (d:i.size=size) (Y:i.bytes=A) (ae:z.cells.size=size) (C:0 < size)
  {rows news:List (List Value)} {v x:Value} {e:Ent} {H:Heaplet} (h:OwnS E size rows v e) (he:EntIn w e) (hx:HSlice H size news x) (hA:Agrees w H)
  (f:(rows.length+news.length) * A≤140737488355328) (Z:rows.length+news.length≤maxLen) :
  ∃ v' e' w',(Builtin.append_ #[t,t] ty #[v,x]).run P w=.ok v' w'∧OwnS E size (rows ++news) v' e'∧Grows e e' w w':=by
 obtain ⟨xa,c,rfl,x1,x2,x3,x4⟩:=hx.val;cases xa with
 | none =>
  obtain ⟨rfl,rfl⟩:=x3 rfl;refine ⟨v,e,w,?_,by simpa using h,he,fun b o hb=>.inr ⟨o,hb⟩,Base.refl _ _⟩;have hu:∀ w,(underlying t).run P w=.ok (.slice E) w:=fun w=>by simp [underlying,ht]
  have C:∀ w,(Go.sizeOf E).run P w=.ok size w:=fun w=>by simp [Go.sizeOf,typeInfo,hi,d]
  rcases h.val with ⟨rfl,rfl,rfl⟩ | ⟨g,D,I,rfl,rfl,h1,h2,h3,h4⟩
  ·simp [Builtin.append_,hu,C,Builtin.lenOf,Builtin.firstCells]
  ·simp [Builtin.append_,hu,C,Builtin.lenOf,Builtin.firstCells,h1,storeCells]
 | some a =>
  have h1:=flat_one hx.one;have hl:=hx.len;have B:=hx.cells hA a _ c rfl;have ab:∀ r ∈ rows ++news,r.length=size:=fun r hr=>by
   rcases List.mem_append.1 hr with h' | h'
   ·exact h.len r h'
   ·exact hl r h'
  have ac:∀ r ∈ rows ++news,∀ u ∈ r,cell1 u=true:=fun r hr=>by
   rcases List.mem_append.1 hr with h' | h'
   ·exact h.one r h'
   ·exact hx.one r h'
  have ai:(rows ++news).flatten=rows.flatten ++news.flatten:=by simp
  have G:=flatten_len hl;have M:∀ {base:Nat} {v':Value} {w':World},w'.ownsRow base E size v' (rows.length+news.length) (rows.flatten ++news.flatten)→∃ e',OwnS E size (rows ++news) v' e'∧EntIn w' e'∧∀ b o,e'=some (b,o)→base≤b∧v'.ownBlock=some b:=by
   intro base v' w' ho;rcases ho.2 with ⟨rfl,hn⟩ | ⟨g,D,I,rfl,hb,hg,a1,a2,a3,a4⟩
   ·have:rows ++news=[]:=List.eq_nil_of_length_eq_zero (by simpa using hn)
    exact ⟨none,⟨ab,ac,.inl ⟨rfl,this,rfl⟩⟩,(fun b o h=>by cases h),fun b o h=>by cases h⟩
   ·refine ⟨some (g,.cells I E),⟨ab,ac,.inr ⟨g,D,I,by rw [List.length_append],rfl,by rw [List.length_append];exact a1,a2,a3,by rw [List.length_append,ai];exact a4⟩⟩,fun b o h=>by cases h;exact hg,fun b o h=>by cases h;exact ⟨hb,rfl⟩⟩
  have af:∀ {row:Option Nat} {w':World},w.grownBy w' row→(∀ k,row=some k→k ∈ (e.map (·.1)).toList)→Base (e.map (·.1)).toList w w':=fun {row w'} hg hk =>
   ⟨hg.os,hg.tape,hg.output,hg.size,fun k h1 h2=>hg.block k h1 fun hr=>h2 (hk k hr.symm)⟩
  rcases h.val with ⟨rfl,rfl,rfl⟩ | ⟨g,D,I,rfl,rfl,g1,g2,g3,g4⟩
  ·obtain ⟨v',w',hr,ho,hg,_⟩:=run_append_own w w.heap.size t ty E i z size A ht hi hz d Y ae C (.slice none 0 0) 0 [] (World.ownsRow_nil w _ E size) a news.length c news.flatten G B h1 (by simpa using Z) (by simpa using f) (Nat.le_refl _);obtain ⟨e',a1,a2,a3⟩:=M (base:=w.heap.size) (v':=v') (w':=w') (by simpa using ho);exact ⟨v',e',w',hr,a1,a2,fun b o hb=>.inl (a3 b o hb).1,af hg fun k hk=>by simp [Value.ownBlock] at hk⟩
  ·have Q:=h.owns he;by_cases hroom:rows.length+news.length≤D
   ·obtain ⟨v',w',hr,ho,hg,_⟩:=run_append_own w 0 t ty E i z size A ht hi hz d Y ae C _ _ _ Q a news.length c news.flatten G B h1 Z f (Nat.zero_le _);obtain ⟨e',a1,a2,a3⟩:=M ho;have ad:=run_append_room (P:=P) w t ty E i ht hi g rows.length D I (he _ _ rfl) a news.length c news.flatten (by rw [d];exact G) B h1 hroom (by rw [d,G,g3,← Nat.add_mul];exact Nat.mul_le_mul_right _ hroom);rw [ad] at hr;cases hr;refine ⟨_,e',_,ad,a1,a2,fun b o hb=>.inr ?_,af hg fun k hk=>by simpa [Value.ownBlock] using hk.symm⟩
    have:=(a3 b o hb).2
    simp [Value.ownBlock] at this;subst this;exact ⟨_,rfl⟩
   ·have ah:∀ j u,rows.flatten[j]?=some u→w.cell? ((⟨g,0,none⟩:Addr).add j)=some u:=Q.cells (g:=g) rfl;have X:=run_append_grow (P:=P) w t ty E i z ht hi hz ⟨g,0,none⟩ rows.length D rows.flatten (by rw [d];exact flatten_len h.len) ah a news.length c news.flatten (by rw [d];exact G) B (by omega)
     (by have:=Z;simp only [maxLen] at this;omega) (growslice_fits (by omega) (by rw [Y];exact f))
    obtain ⟨v',w',hr,ho,hg,_⟩:=run_append_own w 0 t ty E i z size A ht hi hz d Y ae C _ _ _ Q a news.length c news.flatten G B h1 Z f (Nat.zero_le _);obtain ⟨e',a1,a2,a3⟩:=M ho;rw [X] at hr;cases hr;refine ⟨_,e',_,X,a1,a2,fun b o hb=>.inl ?_,af hg fun k hk=>by simpa [Value.ownBlock] using hk.symm⟩
    have:=(a3 b o hb).2
    simp [Value.ownBlock] at this;omega
theorem made_flatten {row:List Value}:∀ n:Nat,(madeCells row.toArray (n * row.length)).toList=(List.replicate n row).flatten:=by
 intro n;have b:(List.replicate n row).flatten.length=n * row.length:=by
  rw [flatten_len (size:=row.length) (fun r hr=>by rw [List.eq_of_mem_replicate hr]),List.length_replicate]
 refine List.ext_getElem? fun j=>?_;by_cases hj:j < n * row.length
 ·have hp:0 < row.length:=by
   rcases Nat.eq_zero_or_pos row.length with h | h
   ·rw [h] at hj;simp at hj
   ·exact h
  have hm:j % row.length < row.length:=Nat.mod_lt _ hp;have hd:j / row.length < n:=by rw [Nat.div_lt_iff_lt_mul hp];exact hj
  have h1:=flatten_get (size:=row.length) (rows:=List.replicate n row) (fun r hr=>by rw [List.eq_of_mem_replicate hr]) (j / row.length) (j % row.length) row row[j % row.length] (by simp [hd]) (by simp [hm]);rw [Nat.div_add_mod'] at h1;rw [h1];simp [madeCells,hj,hm]
 ·have h0:n * row.length≤j:=Nat.le_of_not_lt hj;rw [List.getElem?_eq_none (by simp [madeCells];exact h0),List.getElem?_eq_none (by rw [b];exact h0)]
theorem made_own {E g n:Nat} {row:List Value} (h1:∀ u ∈ row,cell1 u=true) (b:n≤maxLen):OwnS E row.length (List.replicate n row) (.slice (some ⟨g,0,none⟩) n n) (some (g,.cells (madeCells row.toArray (n * row.length)) E)):=by
 refine ⟨fun r hr=>by rw [List.eq_of_mem_replicate hr],(fun r hr=>by rw [List.eq_of_mem_replicate hr];exact h1),.inr ⟨g,n,_,by simp,rfl,by simp,b,by rw [size_madeCells],?_⟩⟩;rw [List.length_replicate,made_flatten,List.take_of_length_le];rw [flatten_len (size:=row.length) (fun r hr=>by rw [List.eq_of_mem_replicate hr]),List.length_replicate];exact Nat.le_refl _
def writeA (b:Array Value) (off:Nat):List Value→Array Value
 | []=>b
 | v :: vs=>writeA (b.setIfInBounds off v) (off+1) vs
theorem writeA_size:∀ (vs:List Value) (b:Array Value) (off:Nat),(writeA b off vs).size=b.size
 | [],_,_=>rfl
 | v :: vs,b,off=>by rw [writeA,writeA_size vs];simp
def setBlk (w:World) (b:Nat) (o:Obj):World:={ w with heap:=w.heap.setIfInBounds b o }
theorem store_run {P:Program} {w:World} {b off:Nat} {d:Array Value} {T:TypeId} {v:Value} (hb:w.heap[b]?=some (.cells d T)) (ho:off < d.size) (hv:cell1 v=true) :
  (store ⟨b,off,none⟩ v).run P w=.ok () (setBlk w b (.cells (d.setIfInBounds off v) T)):=by
 have hc:w.cell? ⟨b,off,none⟩=some d[off]:=by simp [World.cell?,hb,ho]
 have hf:w.frozen? ⟨b,off,none⟩=false:=by simp [World.frozen?,hb]
 have f:=RC.heap_lt hb;have hs:w.setCell ⟨b,off,none⟩ v=setBlk w b (.cells (d.setIfInBounds off v) T):=by
  unfold World.setCell setBlk
  congr 1
  apply Array.ext_getElem?;intro k;simp only [Array.getElem?_modify,Array.getElem?_setIfInBounds];have hg:w.heap[b]=.cells d T:=(Array.getElem?_eq_some_iff.1 hb).2;by_cases e:b=k
  ·subst e;simp [f,hg]
  ·simp [e]
 rw [←hs];cases v <;> simp [cell1] at hv <;> simp [store,Sem.run,hc,hf]
theorem storeCells_run {P:Program} {b:Nat} {T:TypeId}:∀ (vs:List Value) (i off:Nat) (d:Array Value) (w:World),w.heap[b]?=some (.cells d T)→off+i+vs.length≤d.size→(∀ v ∈ vs,cell1 v=true) →
  (storeCells ⟨b,off,none⟩ vs i).run P w=.ok () (setBlk w b (.cells (writeA d (off+i) vs) T))
 | [],i,off,d,w,hb,_,_=>by
  have f:=RC.heap_lt hb
  have:setBlk w b (.cells d T)=w:=by
   unfold setBlk
   have:w.heap.setIfInBounds b (.cells d T)=w.heap:=by
    apply Array.ext_getElem?;intro k;rw [Array.getElem?_setIfInBounds];have hg:w.heap[b]=.cells d T:=(Array.getElem?_eq_some_iff.1 hb).2;by_cases e:b=k
    ·subst e;simp [f,hg]
    ·simp [e]
   rw [this]
  show (Pure.pure ():Sem Unit).run P w=_;rw [writeA,this];rfl
 | v :: vs,i,off,d,w,hb,hl,h1=>by
  have f:=RC.heap_lt hb;simp only [List.length_cons] at hl;show ((do store (Addr.add ⟨b,off,none⟩ i) v;storeCells ⟨b,off,none⟩ vs (i+1)):Sem Unit).run P w=_;rw [Sem.run_bind,add_eq rfl,store_run hb (by show off+i < d.size;omega) (h1 v (by simp))];simp only [Result.andThen_ok];have h:(setBlk w b (.cells (d.setIfInBounds (off+i) v) T)).heap[b]?=some (.cells (d.setIfInBounds (off+i) v) T):=by
   simp [setBlk,f]
  rw [storeCells_run vs (i+1) off _ _ h (by simp;omega) (fun u hu=>h1 u (by simp [hu]))]
  have:∀ o1 o2,setBlk (setBlk w b o1) b o2=setBlk w b o2:=fun o1 o2=>by
   unfold setBlk
   simp
  rw [this,writeA,← Nat.add_assoc]
def writeL (row:List Value) (off:Nat) (vs:List Value):List Value:=row.take off ++vs ++row.drop (off+vs.length)
theorem writeL_length {row vs:List Value} {off:Nat} (h:off+vs.length≤row.length):(writeL row off vs).length=row.length:=by
 simp [writeL];omega
theorem writeA_toList:∀ (vs:List Value) (b:Array Value) (off:Nat),off+vs.length≤b.size→(writeA b off vs).toList=writeL b.toList off vs
 | [],b,off,h=>by simp [writeA,writeL]
 | v :: vs,b,off,h=>by
  simp only [List.length_cons] at h;rw [writeA,writeA_toList vs _ (off+1) (by simp;omega)];simp only [writeL,Array.toList_setIfInBounds,List.length_cons];have h1:(b.toList.set off v).take (off+1)=b.toList.take off ++[v]:=by
   have hl:off < b.toList.length:=by simp;omega
   rw [List.set_eq_take_append_cons_drop,if_pos hl,List.take_append];have hm:(b.toList.take off).length=off:=by simp;omega
   rw [hm,List.take_of_length_le (by rw [hm];omega),show off+1 - off=1 by omega]
   simp
  have h2:(b.toList.set off v).drop (off+1+vs.length)=b.toList.drop (off+(vs.length+1)):=by
   rw [List.drop_set];rw [if_pos (by omega)]
   congr 1;omega
  rw [h1,h2]
  simp
theorem writeL_mid {A B row vs:List Value} {off:Nat} (h:off+vs.length≤row.length):writeL (A ++row ++B) (A.length+off) vs=A ++writeL row off vs ++B:=by
 simp only [writeL,List.append_assoc];rw [List.take_append,List.drop_append];rw [List.take_of_length_le (by omega),List.drop_of_length_le (by omega),Nat.add_sub_cancel_left,List.take_append,show off - row.length=0 by omega,List.take_zero,List.append_nil];rw [show A.length+off+vs.length - A.length=off+vs.length by omega,List.drop_append,show off+vs.length - row.length=0 by omega,List.drop_zero]
 simp
theorem flatten_set {size:Nat} {rows:List (List Value)} (h:∀ r ∈ rows,r.length=size) {k:Nat} {row row':List Value} (hk:rows[k]?=some row) :
  ∃ A B,A.length=k * size∧rows.flatten=A ++row ++B∧(rows.set k row').flatten=A ++row' ++B:=by
 have b:k < rows.length:=(List.getElem?_eq_some_iff.1 hk).1;refine ⟨(rows.take k).flatten,(rows.drop (k+1)).flatten,?_,?_,?_⟩
 ·rw [flatten_len (size:=size) (fun r hr=>h r (List.mem_of_mem_take hr)),List.length_take,Nat.min_eq_left (by omega)]
 ·conv=>lhs;rw [←List.take_append_drop k rows]
  rw [List.drop_eq_getElem_cons b,(List.getElem?_eq_some_iff.1 hk).2]
  simp
 ·rw [List.set_eq_take_append_cons_drop,if_pos b]
  simp
theorem writeL_mem {row vs:List Value} {off:Nat} {u:Value} (h:u ∈ writeL row off vs):u ∈ row∨u ∈ vs:=by
 simp only [writeL,List.mem_append] at h;rcases h with (h | h) | h
 ·exact .inl (List.mem_of_mem_take h)
 ·exact .inr h
 ·exact .inl (List.mem_of_mem_drop h)
theorem own_store {P:Program} {w:World} {E:TypeId} {size:Nat} {rows:List (List Value)} {v:Value} {e:Ent} (h:OwnS E size rows v e) (he:EntIn w e) {k off:Nat} {row vs:List Value} (hk:rows[k]?=some row)
  (Q:off+vs.length≤size) (h1:∀ u ∈ vs,cell1 u=true) :
  ∃ e' w',(storeCells ((elemAddr v (k * size)).add off) vs 0).run P w=.ok () w'∧OwnS E size (rows.set k (writeL row off vs)) v e'∧Grows e e' w w':=by
 have G:row.length=size:=h.len _ (List.mem_of_getElem? hk);have H:k < rows.length:=(List.getElem?_eq_some_iff.1 hk).1;obtain ⟨A,B,hA,hf,I⟩:=flatten_set h.len (row':=writeL row off vs) hk;rcases h.val with ⟨rfl,rfl,rfl⟩ | ⟨g,t,cur,rfl,rfl,g1,g2,g3,g4⟩
 ·simp at hk
 ·have hb:=he _ _ rfl;have f:=flatten_len h.len;have C:(A ++row ++B).length=rows.length * size:=by rw [←hf];exact f
  have X:k * size+size≤rows.length * size:=by rw [←Nat.succ_mul];exact Nat.mul_le_mul_right _ H
  have Y:rows.length * size≤cur.size:=by rw [g3];exact Nat.mul_le_mul_right _ g1
  have M:=storeCells_run (P:=P) vs 0 (k * size+off) cur w hb (by omega) h1;have ha:(elemAddr (.slice (some ⟨g,0,none⟩) rows.length t) (k * size)).add off=⟨g,k * size+off,none⟩:=by
   show ((⟨g,0,none⟩:Addr).add (k * size)).add off=_;rw [add_eq (a:=⟨g,0,none⟩) rfl (k * size),add_eq rfl];simp
  rw [ha];have D:=RC.heap_lt hb;refine ⟨_,_,M,⟨fun r hr=>?_,fun r hr=>?_,.inr ⟨g,t,writeA cur (k * size+off) vs,by rw [List.length_set],rfl,by rw [List.length_set];exact g1,g2,by rw [writeA_size];exact g3,?_⟩⟩,
   fun b o i=>by cases i;simp [setBlk,D],fun b o i=>by cases i;exact .inr ⟨_,rfl⟩,⟨rfl,rfl,rfl,by simp [setBlk],fun j hj hn=>?_⟩⟩
  ·rcases List.mem_or_eq_of_mem_set hr with h' | h'
   ·exact h.len r h'
   ·subst h';rw [writeL_length (by omega)];exact G
  ·rcases List.mem_or_eq_of_mem_set hr with h' | h'
   ·exact h.one r h'
   ·subst h';intro u hu;rcases writeL_mem hu with hu | hu
    ·exact h.one row (List.mem_of_getElem? hk) u hu
    ·exact h1 u hu
  ·rw [List.length_set,writeA_toList _ _ _ (by omega),I];have d:cur.toList=A ++row ++(B ++cur.toList.drop (rows.length * size)):=by
    conv=>lhs;rw [←List.take_append_drop (rows.length * size) cur.toList,g4,hf]
    simp
   rw [d,← hA,writeL_mid (by omega),← List.append_assoc];refine List.take_left' ?_;simp only [List.length_append] at C ⊢;rw [writeL_length (by omega)];exact C
  ·have:g≠j:=fun e=>hn (by subst e;simp)
   simp [setBlk,Array.getElem?_setIfInBounds_ne this]
theorem get_map {α:Type} [Inhabited α] {f:α→List Value} {l:List α} {k:Nat} (h:k < l.length):(l.map f)[k]?=some (f (l.getD k default)):=by
 simp [h]
theorem get_map' {α:Type} [Inhabited α] {f:α→List Value} {l:List α} {k:Nat} {x:α} (h:k < l.length) (e:x=l.getD k default):(l.map f)[k]?=some (f x):=by
 subst e;exact get_map h
theorem getD_mem {α:Type} [Inhabited α] {l:List α} {k:Nat} {x:α} (h:k < l.length) (e:x=l.getD k default):x ∈ l:=by
 subst e;simp [h]

open Go
abbrev Gh:=Nat→Rec
def aggB (P:Program) (t:TypeId):Bool:=match P.underlying t with
 | some (.struct _)=>true
 | some (.array _ _)=>true
 | _=>false
def wrapT (P:Program) (t:TypeId) (vs:List Value):Value:=bif aggB P t then .agg vs.toArray else vs.headD undef
def sizeT (P:Program) (t:TypeId):Option Nat:=(P.info? t).map (·.size)
theorem run_isAgg {P:Program} {w:World} {t:TypeId} (h:(P.underlying t).isSome=true):(isAgg t).run P w=.ok (aggB P t) w:=by
 unfold isAgg aggB underlying;cases hu:P.underlying t with
 | none=>rw [hu] at h;cases h
 | some d=>cases d <;> simp [hu]
theorem run_sizeOf {P:Program} {w:World} {t:TypeId} {n:Nat} (h:sizeT P t=some n):(Go.sizeOf t).run P w=Result.ok n w:=by
 unfold sizeT at h;unfold Go.sizeOf typeInfo;cases hi:P.info? t with
 | none=>simp [hi] at h
 | some i=>simp [hi] at h ⊢;exact h
theorem loadVar_run {P:Program} {w:World} {t:TypeId} {a:Addr} {vs:List Value} (hu:(P.underlying t).isSome=true) (hz:sizeT P t=some vs.length) (h1:aggB P t=false→vs.length=1)
  (hc:∀ (j:Nat) (v:Value),vs[j]?=some v→w.cell? (a.add j)=some v):(loadVar t a).run P w=.ok (wrapT P t vs) w:=by
 unfold loadVar wrapT;rw [Sem.run_bind,run_isAgg hu];simp only [Result.andThen_ok];cases hb:aggB P t with
 | true =>
  simp only [if_true,Sem.run_bind,run_sizeOf hz,Result.andThen_ok,run_loadCells_list w a vs hc,cond_true,Sem.run_pure]
 | false =>
  simp only [Bool.false_eq_true,if_false,cond_false]
  match vs,h1 hb with
  | [v],_ =>
   have h0:=hc 0 v rfl;have e:a.add 0=a:=by simp [Addr.add]
   rw [e] at h0;simp [run_load,h0]
section
variable {P : Program} {R : RC} {w0 : World} {X : List Nat} {i : Nat}
def RC.ldr (R:RC) (G:Gh) (i:Nat):Option (TypeId × Value):=match (R.ops[i]?).map (fun o:Oper=>o.op) with
 | some (.load t x)=>some (t,R.evalAt G i x)
 | _=>none
def RC.ixr (R:RC) (G:Gh) (i:Nat):Option (TypeId × Value × Value):=match (R.ops[i]?).map (fun o:Oper=>o.op) with
 | some (.indexAddr t x n)=>some (t,R.evalAt G i x,R.evalAt G i n)
 | _=>none
def sliceOf (P:Program) (t:TypeId):Option TypeId:=match P.underlying t with
 | some (.slice e)=>some e
 | _=>none
theorem slice_of {P:Program} {t e:TypeId} (h:sliceOf P t=some e):P.underlying t=some (.slice e):=by
 unfold sliceOf at h;split at h <;> simp_all
def RC.slr (R:RC) (G:Gh) (i:Nat):Option (TypeId × Value × Option Value × Option Value × Bool):=match (R.ops[i]?).map (fun o:Oper=>o.op) with
 | some (.slice t x lo hi mx)=>some (t,R.evalAt G i x,lo.map (R.evalAt G i),hi.map (R.evalAt G i),mx.isNone)
 | _=>none
theorem push_get {w:World} {o:Obj}:({ w with heap:=w.heap.push o }:World).heap[w.heap.size]?=some o:=by simp
theorem base_push {w:World} (o:Obj) (Y:List Nat):Base Y w { w with heap:=w.heap.push o } :=
 ⟨rfl,rfl,rfl,by simp,fun k hk _=>by
  show (w.heap.push o)[k]?=_;rw [Array.getElem?_push,if_neg (by omega)]⟩
def RC.str (R:RC) (G:Gh) (i:Nat):Option (TypeId × Value × Value):=match (R.ops[i]?).map (fun o:Oper=>o.op) with
 | some (.store t a x)=>some (t,R.evalAt G i a,R.evalAt G i x)
 | _=>none
def RC.apr (R:RC) (G:Gh) (i:Nat):Option (TypeId × TypeId × Value × Value):=match (R.ops[i]?).map (fun o:Oper=>o.op) with
 | some (.call { callee:=.builtin .append,args,argTypes })=>match args.toList,argTypes.toList with
  | [x,y],[t,u]=>some (t,u,R.evalAt G i x,R.evalAt G i y)
  | _,_=>none
 | _=>none
def infoOf (P:Program) (E:TypeId):Option (Nat × Nat × Option Nat):=(P.info? E).map fun i=>(i.size,i.bytes,i.zero.map fun z=>z.cells.size)
def RC.mkr (R:RC) (G:Gh) (i:Nat):Option (TypeId × Value × Value):=match (R.ops[i]?).map (fun o:Oper=>o.op) with
 | some (.makeSlice t l c)=>some (t,R.evalAt G i l,R.evalAt G i c)
 | _=>none
def zeroOf (P:Program) (E:TypeId):Option (Nat × Nat × Option (List Value)):=(P.info? E).map fun i=>(i.size,i.bytes,i.zero.map fun z=>z.cells.toList)
end
theorem beq_bytes (a b:ByteArray):(a == b)=decide (a=b):=by
 obtain ⟨⟨x⟩⟩:=a;obtain ⟨⟨y⟩⟩:=b;show ((⟨x⟩:Array UInt8) == ⟨y⟩)=_;rw [Bool.eq_iff_iff];simp
theorem toList_bytes (a b:ByteArray):(a.toList == b.toList)=decide (a=b):=by rw [←beq_toListBytes,beq_bytes]
section
variable {P : Program} {R : RC} {w0 : World} {X : List Nat} {i : Nat}
def RC.bir (R:RC) (G:Gh) (i:Nat):Option (Bool × TypeId × Value × Value):=match (R.ops[i]?).map (fun o:Oper=>o.op) with
 | some (.binOp .eql t x y _)=>some (false,t,R.evalAt G i x,R.evalAt G i y)
 | some (.binOp .neq t x y _)=>some (true,t,R.evalAt G i x,R.evalAt G i y)
 | _=>none
end

open Go
def Lq {α:Type} (l:List α) (v:Value):Prop:=l.length≤9223372036854775807∧∀ s:SV,v=s.v→s.a.isNone=true→l=[]
class Dat (α:Type) extends Inhabited α where
 size:Nat
 cells:α→List Value
 good:Heaplet→α→Prop
 len:∀ x,(cells x).length=size
 one:∀ H x,good H x→∀ u ∈ cells x,cell1 u=true
 mono:∀ H K x,Sub H K→good H x→good K x
 zero:∀ H,good H default
 q:α→Prop:=fun _=>True
 hq:∀ H x,good H x→q x:=by intros;trivial
instance : Dat Int where
  default := 0
  size := 1
  cells n := [.int .i64 n]
  good _ _ := True
  len _ := rfl
  one _ _ _ u hu := by simp at hu; subst hu; rfl
  mono _ _ _ _ _ := trivial
  zero _ := trivial
instance : Dat Bool where
  default := false
  size := 1
  cells n := [.bool n]
  good _ _ := True
  len _ := rfl
  one _ _ _ u hu := by simp at hu; subst hu; rfl
  mono _ _ _ _ _ := trivial
  zero _ := trivial
instance : Dat ByteArray where
  default := ByteArray.empty
  size := 1
  cells n := [.string n]
  good _ _ := True
  len _ := rfl
  one _ _ _ u hu := by simp at hu; subst hu; rfl
  mono _ _ _ _ _ := trivial
  zero _ := trivial
instance : Dat UInt8 where
  default := 0
  size := 1
  cells n := [.int .u8 n.toNat]
  good _ _ := True
  len _ := rfl
  one _ _ _ u hu := by simp at hu; subst hu; rfl
  mono _ _ _ _ _ := trivial
  zero _ := trivial
section
variable {α : Type} [Dat α]
def rows (l:List α):List (List Value):=l.map Dat.cells
@[simp] theorem rows_length (l:List α):(rows l).length=l.length:=by simp [rows]
theorem rows_append (l m:List α):rows (l ++m)=rows l ++rows m:=by simp [rows]
structure RSl (H:Heaplet) (l:List α) (v:Value):Prop where
 sl:HSlice H (Dat.size α) (rows l) v
 good:∀ x ∈ l,Dat.good H x
structure OSl (E:TypeId) (H:Heaplet) (l:List α) (v:Value) (e:Ent):Prop where
 sl:OwnS E (Dat.size α) (rows l) v e
 good:∀ x ∈ l,Dat.good H x
structure Fat (α:Type) where
 l:List α:=[]
 s:SV:={}
abbrev Fat.v (x:Fat α):Value:=x.s.v
def fats {α:Type}:List (List α)→(Nat→SV)→List (Fat α)
 | [],_=>[]
 | x :: l,σ=>⟨x,σ 0⟩ :: fats l fun i=>σ (i+1)
@[simp] theorem fats_l {α:Type}:∀ (l:List (List α)) (σ:Nat→SV),(fats l σ).map (·.l)=l
 | [],_=>rfl
 | x :: l,σ=>by simp [fats,fats_l l]
theorem fats_ex {α:Type}:∀ {l:List (Fat α)} {m:List (List α)},l.map (·.l)=m→∃ σ,l=fats m σ
 | [],m,h=>⟨fun _=>{},by subst h;rfl⟩
 | x :: l,m,h=>by
  subst h;obtain ⟨σ,e⟩:=fats_ex (l:=l) rfl;exact ⟨fun i=>match i with | 0=>x.s | i+1=>σ i,by
   show _=fats (x.l :: l.map (·.l)) _;rw [fats];show x :: l=⟨x.l,x.s⟩ :: fats (l.map (·.l)) σ;rw [←e]⟩
theorem getD_l {α:Type} (l:List (Fat α)) (k:Nat):(l.map (·.l)).getD k []=(l.getD k {}).l:=by
 simp only [List.getD_eq_getElem?_getD,List.getElem?_map];cases l[k]? <;> rfl
theorem RSl.cell1 {H:Heaplet} {l:List α} {v:Value} (h:RSl H l v):cell1 v=true:=by
 obtain ⟨a,c,rfl,_⟩:=h.sl.val;rfl
theorem RSl.mono {H K:Heaplet} {l:List α} {v:Value} (h:RSl H l v) (k:Sub H K):RSl K l v:=⟨h.sl.mono k,fun x hx=>Dat.mono _ _ x k (h.good x hx)⟩
theorem OSl.mono {E:TypeId} {e:Ent} {H K:Heaplet} {l:List α} {v:Value} (h:OSl E H l v e) (k:Sub H K):OSl E K l v e:=⟨h.sl,fun x hx=>Dat.mono _ _ x k (h.good x hx)⟩
theorem OSl.any {E:TypeId} {e:Ent} {H K:Heaplet} {l:List α} {v:Value} (h:OSl E H l v e) (k:∀ x ∈ l,Dat.good K x):OSl E K l v e:=⟨h.sl,k⟩
theorem RSl.nil {H:Heaplet}:RSl H ([]:List α) (.slice none 0 0):=⟨HSlice.nil,by simp⟩
theorem OSl.nil {E:TypeId} {H:Heaplet}:OSl E H ([]:List α) (.slice none 0 0) none:=⟨OwnS.nil _ _,by simp⟩
theorem RSl.isSl {H:Heaplet} {l:List α} {v:Value} (h:RSl H l v):IsSl v l.length:=by
 have:=h.sl.isSl
 rwa [rows_length] at this
theorem RSl.lim {H:Heaplet} {l:List α} {v:Value} (h:RSl H l v):l.length≤9223372036854775807:=by
 have:=h.sl.lim
 rwa [rows_length] at this
theorem RSl.lq {α:Type} [Dat α] {H:Heaplet} {l:List α} {v:Value} (h:RSl H l v):Lq l v:=⟨h.lim,fun s e hn=>by
 obtain ⟨a,c,e',h1,_⟩:=h.isSl;rw [e] at e';have ha:s.a=a:=by injection e'
 have:s.a=none:=by simpa using hn
 exact List.eq_nil_of_length_eq_zero (h1 (ha ▸ this))⟩
instance : Dat (Fat α) where
  default := {}
  size := 1
  cells x := [x.v]
  good H x := RSl H x.l x.v
  len _ := rfl
  one _ x h u hu := by simp at hu; subst hu; exact h.cell1
  mono _ _ _ k h := h.mono k
  zero _ := RSl.nil
  q x := Lq x.l x.v
  hq _ _ h := h.lq
theorem OSl.isSl {E:TypeId} {e:Ent} {H:Heaplet} {l:List α} {v:Value} (h:OSl E H l v e):IsSl v l.length:=by
 have:=h.sl.isSl
 rwa [rows_length] at this
theorem OSl.lim {E:TypeId} {e:Ent} {H:Heaplet} {l:List α} {v:Value} (h:OSl E H l v e):l.length≤9223372036854775807:=by
 have:=h.sl.lim
 rwa [rows_length] at this
theorem OSl.frozen {E:TypeId} {e:Ent} {H K:Heaplet} {l:List α} {v:Value} (h:OSl E H l v e) (k:Sub H K) (k2:Sub (entH e) K):RSl K l v :=
 ⟨h.sl.toH.mono k2,fun x hx=>Dat.mono _ _ x k (h.good x hx)⟩
theorem RSl.elem {H:Heaplet} {l:List α} {v:Value} (h:RSl H l v) {k:Nat} {x:α} (hk:k < l.length) (hx:x=l.getD k default):HCells H (elemAddr v (k * Dat.size α)) (Dat.cells x) :=
 h.sl.elem (get_map' hk hx)
theorem RSl.at {H:Heaplet} {l:List α} {v:Value} (h:RSl H l v) {k:Int} {x:α} (hk:k < l.length) (h0:0≤k) (hx:x=l.getD k.toNat default):HCells H (elemAddr v (k.toNat * Dat.size α)) (Dat.cells x) :=
 h.elem (by omega) hx
theorem RSl.sub {H:Heaplet} {l:List α} {v:Value} (h:RSl H l v) {lo hi:Nat} (h1:lo≤hi) (h2:hi≤l.length):RSl H ((l.take hi).drop lo) (subV v (Dat.size α) lo hi):=by
 refine ⟨?_,fun x hx=>h.good x (List.mem_of_mem_take (List.mem_of_mem_drop hx))⟩
 have:=h.sl.sub h1 (by rw [rows_length];exact h2)
 have e:rows ((l.take hi).drop lo)=((rows l).take hi).drop lo:=by simp [rows,List.map_take,List.map_drop]
 rw [e];exact this
theorem OSl.take {E:TypeId} {e:Ent} {H:Heaplet} {l:List α} {v:Value} (h:OSl E H l v e) {n:Nat} (hn:n≤l.length):OSl E H (l.take n) (subV v (Dat.size α) 0 n) e:=by
 refine ⟨?_,fun x hx=>h.good x (List.mem_of_mem_take hx)⟩
 have:=h.sl.take (n:=n) (by rw [rows_length];exact hn)
 have e:rows (l.take n)=(rows l).take n:=by simp [rows,List.map_take]
 rw [e];exact this
theorem OSl.lit {E n g:Nat} {H:Heaplet} {l:List α} {b:Array Value} (hg:∀ x ∈ l,Dat.good H x) (hk:(l.length,b.toList,decide (n≤maxLen))=(n,(rows l).flatten,true)) :
  OSl E H l (.slice (some ⟨g,0,none⟩) n n) (some (g,.cells b E)):=by
 simp only [Prod.mk.injEq] at hk;obtain ⟨h1,h2,h3⟩:=hk;refine ⟨own_lit (by rw [rows_length];exact h1) (fun r hr=>?_) (fun r hr=>?_) h2 (of_decide_eq_true h3),hg⟩
 ·obtain ⟨x,_,rfl⟩:=List.mem_map.1 hr;exact Dat.len x
 ·obtain ⟨x,hx,rfl⟩:=List.mem_map.1 hr;exact Dat.one H x (hg x hx)
end
theorem cong1 {α0 β:Type} (f:α0→β) {a0 b:α0} (h0:a0=b):f a0=f b:=by subst h0;rfl
theorem cong2 {α0 α1 β:Type} (f:α0→α1→β) {a0 b:α0} (h0:a0=b) {a1 d:α1} (h1:a1=d):f a0 a1=f b d:=by subst h0 h1;rfl
theorem cong3 {α0 α1 α2 β:Type} (f:α0→α1→α2→β) {a0 b:α0} (h0:a0=b) {a1 d:α1} (h1:a1=d) {a2 h:α2} (h2:a2=h):f a0 a1 a2=f b d h:=by subst h0 h1 h2;rfl
theorem cong4 {α0 α1 α2 α3 β:Type} (f:α0→α1→α2→α3→β) {a0 b:α0} (h0:a0=b) {a1 d:α1} (h1:a1=d) {a2 h:α2} (h2:a2=h) {a3 i:α3} (h3:a3=i):f a0 a1 a2 a3=f b d h i:=by subst h0 h1 h2 h3;rfl
theorem cong9 {α0 α1 α2 α3 α4 α5 α6 α7 α8 β:Type} (f:α0→α1→α2→α3→α4→α5→α6→α7→α8→β) {a0 b:α0} (h0:a0=b) {a1 d:α1} (h1:a1=d) {a2 h:α2} (h2:a2=h) {a3 i:α3} (h3:a3=i) {a4 j:α4} (h4:a4=j) {a5 o:α5} (h5:a5=o) {a6 t:α6} (h6:a6=t) {a7 w:α7} (h7:a7=w) {a8 A:α8} (h8:a8=A):f a0 a1 a2 a3 a4 a5 a6 a7 a8=f b d h i j o t w A:=by subst h0 h1 h2 h3 h4 h5 h6 h7 h8;rfl

open Go
def whole (w:World):Heaplet:=fun b=>w.heap[b]?
theorem sub_none {J:Heaplet}:Sub (fun _=>none) J:=fun _ _ h=>by cases h
theorem hun_right' {A B U:Heaplet} (hA:Sub A U) (hB:Sub B U):Sub B (hun A B):=fun b o e=>by
 unfold hun;split
 ·rename_i o' h1
  have a:=hA b _ h1;rw [hB b _ e] at a;exact a.symm
 ·exact e
theorem hun_assoc (A B C:Heaplet):hun (hun A B) C=hun A (hun B C):=funext fun b=>by
 unfold hun;cases A b <;> rfl
def JV (G:Gh) (B:Heaplet):Nat→Heaplet
 | 0=>B
 | n+1=>hun (G n).H (JV G B n)
theorem JV_le {G:Gh} {B J:Heaplet} (hB:Sub B J):∀ n,(∀ j,j < n→Sub (G j).H J)→Sub (JV G B n) J
 | 0,_=>hB
 | n+1,h=>hun_sub (h n (by omega)) (JV_le hB n fun j hj=>h j (by omega))
theorem JV_base {U:Heaplet} {G:Gh} {B:Heaplet} (hB:Sub B U):∀ n,(∀ j,j < n→Sub (G j).H U)→Sub B (JV G B n)
 | 0,_=>Sub.refl _
 | n+1,h=>(JV_base hB n fun j hj=>h j (by omega)).trans (hun_right' (h n (by omega)) (JV_le hB n fun j hj=>h j (by omega)))
theorem JV_mem {U:Heaplet} {G:Gh} {B:Heaplet} (hB:Sub B U):∀ n,(∀ j,j < n→Sub (G j).H U)→∀ j,j < n→Sub (G j).H (JV G B n)
 | n+1,h,j,hj=>by
  by_cases e:j=n
  ·subst e;exact hun_left
  ·exact (JV_mem hB n (fun j hj=>h j (by omega)) j (by omega)).trans (hun_right' (h n (by omega)) (JV_le hB n fun j hj=>h j (by omega)))
theorem JV_mono {U:Heaplet} {G G':Gh} {B B':Heaplet} (hB:Sub B' U) (n:Nat) (h:∀ j,j < n→Sub (G' j).H U) (k:∀ j,j < n→(G j).H=(fun _=>none)∨(G j).H=(G' j).H) (b:Sub B B'):Sub (JV G B n) (JV G' B' n) :=
 JV_le (b.trans (JV_base hB n h)) n fun j hj=>by
  rcases k j hj with e | e <;> rw [e]
  ·exact sub_none
  ·exact JV_mem hB n h j hj
theorem JV_new {w0:World} {G:Gh} {B:Heaplet} (hB:New w0 B):∀ n,(∀ j,j < n→New w0 (G j).H)→New w0 (JV G B n)
 | 0,_=>hB
 | n+1,h=>fun b hb=>by
  have ih:=JV_new hB n fun j hj=>h j (by omega)
  simp only [JV,hun] at hb;split at hb
  ·rename_i o e;exact h n (by omega) b (by rw [e];simp)
  ·exact ih b hb
theorem JV_hun {G:Gh} {N H:Heaplet}:∀ n,JV G (hun N H) n=hun (JV G N n) H
 | 0=>rfl
 | n+1=>by simp only [JV];rw [JV_hun n,hun_assoc]
def conjL:List Prop→Prop
 | []=>True
 | p :: l=>p∧conjL l
theorem conjL_mem {l:List Prop}:conjL l→∀ p ∈ l,p:=by
 induction l with
 | nil=>intro _ p hp;cases hp
 | cons q l ih =>
  intro h p hp;rcases List.mem_cons.1 hp with rfl | hp
  ·exact h.1
  ·exact ih h.2 p hp
theorem conjL_of {l:List Prop}:(∀ p ∈ l,p)→conjL l:=by
 induction l with
 | nil=>intro _;trivial
 | cons q l ih=>intro h;exact ⟨h q (by simp),ih fun p hp=>h p (by simp [hp])⟩
structure Knw (l:List Prop):Prop where
 h:conjL l
structure FP where
 t:Bool
 p:Heaplet→Prop
 m:∀ H K,Sub H K→p H→p K
 q:Prop
 hq:∀ H,p H→q
def FP.at (f:FP) (N K:Heaplet):Prop:=bif f.t then f.p N else f.p K
theorem OSl.lq {α:Type} [Dat α] {E:TypeId} {e:Ent} {H:Heaplet} {l:List α} {v:Value} (h:OSl E H l v e):Lq l v:=⟨h.lim,fun s es hn=>by
 obtain ⟨a,c,e',h1,_⟩:=h.isSl;rw [es] at e';have ha:s.a=a:=by injection e'
 have:s.a=none:=by simpa using hn
 exact List.eq_nil_of_length_eq_zero (h1 (ha ▸ this))⟩
def fr {α:Type} [Dat α] (t:Bool) (l:List α) (v:Value):FP:=⟨t,fun H=>RSl H l v,fun _ _ k h=>h.mono k,Lq l v,fun _ h=>h.lq⟩
theorem FP.mono {f:FP} {N K N' K':Heaplet} (h:f.at N K) (h1:Sub N N') (h2:Sub K K'):f.at N' K':=by
 unfold FP.at at *;cases e:f.t <;> rw [e] at h
 ·exact f.m _ _ h2 h
 ·exact f.m _ _ h1 h
inductive LE where
 | no
 | blk (b:Nat) (d:Array Value) (T:TypeId)
 | own (t:Bool) (p:Ent→Heaplet→Prop) (m:∀ e H K,Sub H K→p e H→p e K) (q:Prop) (hq:∀ e H,p e H→q)
def LE.ent (x:Ent):LE→Ent
 | .no=>none
 | .blk b arr T=>some (b,.cells arr T)
 | .own _ _ _ _ _=>x
def LE.at (e:Ent) (N K:Heaplet):LE→Prop
 | .own t p _ _ _=>bif t then p e N else p e K
 | _=>True
def LE.ats (e:Ent) (N K:Heaplet):LE→List Prop
 | .own t p _ _ _=>[bif t then p e N else p e K]
 | _=>[]
def ow {α:Type} [Dat α] (t:Bool) (E:TypeId) (l:List α) (v:Value):LE:=.own t (fun e H=>OSl E H l v e) (fun _ _ _ k h=>h.mono k) (Lq l v) (fun _ _ h=>h.lq)
theorem LE.mono {x:LE} {e:Ent} {N K N' K':Heaplet} (h:x.at e N K) (h1:Sub N N') (h2:Sub K K'):x.at e N' K':=by
 cases x with
 | own t p m q hq =>
  cases t
  ·exact m _ _ _ h2 h
  ·exact m _ _ _ h1 h
 | _=>trivial
theorem LE.ats_at {x:LE} {e:Ent} {N K:Heaplet}:conjL (x.ats e N K)↔x.at e N K:=by
 cases x with
 | own t p m q hq=>exact ⟨fun h=>h.1,fun h=>⟨h,trivial⟩⟩
 | _=>exact Iff.rfl
def ents:List LE→(Nat→Ent)→List Ent
 | [],_=>[]
 | x :: l,ε=>x.ent (ε 0) :: ents l (fun k=>ε (k+1))
theorem ents_get:∀ (L:List LE) (ε:Nat→Ent) (r:Nat),(ents L ε)[r]?=(L[r]?).map fun x=>x.ent (ε r)
 | [],_,r=>by simp [ents]
 | x :: l,ε,0=>by simp [ents]
 | x :: l,ε,r+1=>by simp [ents,ents_get l]
theorem ents_len:∀ (L:List LE) (ε:Nat→Ent),(ents L ε).length=L.length
 | [],_=>rfl
 | x :: l,ε=>by simp [ents,ents_len l]
def LE.lim:LE→List Prop
 | .own _ _ _ q _=>[q]
 | _=>[]
theorem LE.lim_of {x:LE} {e:Ent} {N K:Heaplet} (h:x.at e N K):∀ p ∈ x.lim,p:=by
 cases x with
 | own t p m q hq =>
  intro p' hp
  have:p'=q:=by simpa [LE.lim] using hp
  subst this;cases t
  ·exact hq _ _ h
  ·exact hq _ _ h
 | _=>intro p hp;cases hp
theorem FP.lim_of {f:FP} {N K:Heaplet} (h:f.at N K):f.q:=by
 unfold FP.at at h;cases e:f.t <;> rw [e] at h
 ·exact f.hq _ h
 ·exact f.hq _ h
structure St where
 sl:Slots
 F:List FP
 L:List LE
structure St.In (t:St) (nt:Nat) (w0:World) (X:List Nat) (H N:Heaplet) (ε:Nat→Ent) (a:Act) (w:World):Prop where
 slots:SlotsOK nt t.sl a
 st:StW w0 X [hun N H] (ents t.L ε) w
 new:New w0 N
 facts:∀ f ∈ t.F,f.at N (hun N H)
 own:∀ (r:Nat) (x:LE),t.L[r]?=some x→x.at (ε r) N (hun N H)
structure HintD where
 val:Gh→Value
 facts:Gh→List FP:=fun _=>[]
 news:List (Nat × (Gh→LE) × (Gh→Ent)):=[]
 rds:List Nat:=[]
 pu:Gh→List Prop:=fun _=>[]
 sure:Option Bool:=none
 sok:∀ b,sure=some b→∀ G,val G=.bool b:=by intro _ h;cases h
def HintD.cert (h:HintD) (N K:Heaplet) (n:Nat):OpC :=
  { val:=h.val,sure:=h.sure,sok:=h.sok,ups:=h.news.map fun q=>(q.1,fun G=>(q.2.1 G).ent (q.2.2 G)),rds:=h.rds
    fact:=fun G=>conjL ((h.facts G).map (fun f=>f.at (JV G N n) (JV G K n)) ++h.news.flatMap (fun q=>(q.2.1 G).ats (q.2.2 G) (JV G N n) (JV G K n)) ++h.pu G) }
def foldBL (B:List Nat) (o:Oper):Nat:=o.after.foldl (fun s e=>if Region.binds .any e then s ||| 2 ^ e.on ||| B.getD e.on 0 else s) 0
def befsL:List Oper→List Nat→List Nat
 | [],B=>B
 | o :: l,B=>befsL l (B ++[foldBL B o])
structure Cx (P:Program) where
 nt:Nat
 w0:World
 X:List Nat
 H:Heaplet
 N:Heaplet
 ε:Nat→Ent
 t:St
 ops:Array Oper
 hs:List HintD
namespace Cx
variable {P : Program} (c : Cx P)
def R:RC:={ ops:=c.ops,cs:=c.hs.map (·.cert c.N (hun c.N c.H) c.ops.size),B:=befsL c.ops.toList [],sl:=c.t.sl,A:=[hun c.N c.H],L:=ents c.t.L c.ε }
structure Ok:Prop where
 hc:c.R.check c.nt=true
 len:c.hs.length=c.ops.size
 new:New c.w0 c.N
 facts:∀ f ∈ c.t.F,f.at c.N (hun c.N c.H)
 own:∀ (r:Nat) (x:LE),c.t.L[r]?=some x→x.at (c.ε r) c.N (hun c.N c.H)
def pre (i:Nat) (G:Gh):Gh:=fun j=>bif c.R.bef i j then G j else {}
def B0 (t:Bool):Heaplet:=bif t then c.N else hun c.N c.H
def J (i:Nat) (G:Gh) (t:Bool):Heaplet:=JV (c.pre i G) (c.B0 t) c.ops.size
variable {c}
theorem c_of {i:Nat} {h:HintD} (hi:c.hs[i]?=some h):c.R.c i=h.cert c.N (hun c.N c.H) c.ops.size:=by
 unfold RC.c;show (c.hs.map _).getD i _=_;rw [List.getD_eq_getElem?_getD,List.getElem?_map,hi];rfl
theorem B0_le (t:Bool):Sub (c.B0 t) (hun c.N c.H):=by
 cases t
 ·exact Sub.refl _
 ·exact hun_left
theorem B0_true_le (t:Bool):Sub (c.B0 true) (c.B0 t):=by
 cases t
 ·exact hun_left
 ·exact Sub.refl _
section
variable {i : Nat} {G : Gh} {w : World} (hs : c.R.Sees c.w0 c.X G i w)
include hs
theorem K_agrees:Agrees w (hun c.N c.H):=hs.agr _ (by show _ ∈ [_];simp)
theorem B0_sub (t:Bool):Sub (c.B0 t) (whole w):=(B0_le t).trans (K_agrees hs)
theorem pre_sub (j:Nat):Sub (c.pre i G j).H (whole w):=by
 unfold pre;cases hb:c.R.bef i j with
 | false=>exact sub_none
 | true=>exact hs.agrG j hb
theorem J_le (t:Bool):Sub (c.J i G t) (whole w):=JV_le (B0_sub hs t) _ fun j _=>pre_sub hs j
theorem J_base (t:Bool):Sub (c.B0 t) (c.J i G t):=JV_base (B0_sub hs t) _ fun j _=>pre_sub hs j
theorem J_true_le (t:Bool):Sub (c.J i G true) (c.J i G t):=JV_mono (B0_sub hs t) _ (fun j _=>pre_sub hs j) (fun _ _=>.inr rfl) (B0_true_le t)
theorem J_le_false (t:Bool):Sub (c.J i G t) (c.J i G false):=by
 cases t
 ·exact Sub.refl _
 ·exact J_true_le hs false
theorem vis_le (ok:c.Ok) (hi:i < c.ops.size) {j:Nat} (hj:c.R.bef i j=true) (t:Bool):Sub (JV (c.R.vis j G) (c.B0 t) c.ops.size) (c.J i G t) :=
 JV_mono (B0_sub hs t) _ (fun k _=>pre_sub hs k) (fun k hk=>by
  unfold RC.vis pre;cases hb:(c.R.bef j k || k == j) with
  | false=>exact .inl rfl
  | true =>
   have:c.R.bef i k=true:=by
    rw [Bool.or_eq_true] at hb;rcases hb with hb | hb
    ·exact RC.bef_trans ok.hc i hi j k hj hb
    ·rw [show k=j by simpa using hb];exact hj
   rw [this];exact .inr rfl) (Sub.refl _)
theorem opfact (ok:c.Ok) (hi:i < c.ops.size) {j:Nat} {h:HintD} (hj:c.hs[j]?=some h) (hb:c.R.bef i j=true) (hg:c.R.gd G j=true) :
  (∀ f ∈ h.facts (c.R.vis j G),f.at (c.J i G true) (c.J i G false))∧(∀ q ∈ h.news,(q.2.1 (c.R.vis j G)).at (q.2.2 (c.R.vis j G)) (c.J i G true) (c.J i G false))∧conjL (h.pu (c.R.vis j G)):=by
 have hf:=hs.fact j hb hg;unfold RC.fact at hf;rw [c_of hj] at hf;have hf:=conjL_mem hf;have e1:=vis_le hs ok hi hb true;have e2:=vis_le hs ok hi hb false;refine ⟨fun f hm=>?_,fun q hq=>?_,conjL_of fun p hp=>?_⟩
 ·exact FP.mono (hf _ (by simp only [List.mem_append,List.mem_map];exact .inl (.inl ⟨f,hm,rfl⟩))) e1 e2
 ·refine LE.mono (LE.ats_at.1 (conjL_of fun p hp=>?_)) e1 e2;exact hf _ (by simp only [List.mem_append,List.mem_flatMap];exact .inl (.inr ⟨q,hq,hp⟩))
 ·exact hf _ (by simp only [List.mem_append];exact .inr hp)
theorem post_le (ok : c.Ok) (t : Bool) {g : Rec} (hf : ∀ b, g.H b ≠ none → w.heap.size ≤ b) (hi : i < c.ops.size) :
    Sub (c.J i G t) (JV (c.R.vis i (RC.put G i g)) (c.B0 t) c.ops.size) ∧ Sub g.H (JV (c.R.vis i (RC.put G i g)) (c.B0 t) c.ops.size) := by
  have hU : ∀ A : Heaplet, Sub A (whole w) → Sub A (hun g.H (whole w)) := fun A hA b o e => by
    unfold hun
    have hb : b < w.heap.size := RC.heap_lt (hA b o e)
    cases hg : g.H b with
    | none => exact hA b o e
    | some o' => have := hf b (by rw [hg]; simp); omega
  have hv : ∀ j, j < c.ops.size → Sub (c.R.vis i (RC.put G i g) j).H (hun g.H (whole w)) := fun j _ => by
    unfold RC.vis RC.put
    by_cases e : j = i
    · subst e; simp; exact hun_left
    · cases hb : c.R.bef i j with
      | false => have e2 : (j == i) = false := by simpa using e
                 rw [e2]; exact sub_none
      | true => simp [e]; exact hU _ (hs.agrG j hb)
  have hB := hU _ (B0_sub hs t)
  refine ⟨JV_mono hB _ hv (fun j _ => ?_) (Sub.refl _), ?_⟩
  · unfold pre RC.vis RC.put
    by_cases e : j = i
    · subst e
      have : c.R.bef j j = false := by
        cases hb : c.R.bef j j with
        | false => rfl
        | true => have := RC.bef_lt ok.hc j hi j hb; omega
      rw [this]; exact .inl rfl
    · cases hb : c.R.bef i j with
      | false => exact .inl rfl
      | true => simp [e]
  · have := JV_mem hB _ hv i hi
    have e : c.R.vis i (RC.put G i g) i = g := by simp [RC.vis, RC.put]
    rw [e] at this; exact this
end
end Cx

open Go
structure GdI (g:Prop) where
 B:Option Bool
 ok:(∀ b,B=some b→b=true)→g
def g0:GdI True:=⟨none,fun _=>trivial⟩
def gT {b:Bool} {φ:Prop} (h:b=true↔φ):GdI φ:=⟨some (true && (b == true)),fun k=>h.1 (by simpa using k _ rfl)⟩
def gF {b:Bool} {φ:Prop} (h:b=false↔φ):GdI φ:=⟨some (true && (b == false)),fun k=>h.1 (by simpa using k _ rfl)⟩
def GdI.T {g:Prop} (o:GdI g) {b:Bool} {φ:Prop} (h:b=true↔φ):GdI (g∧φ):=⟨some (o.B.getD true && (b == true)),fun k=>by
 have:=k _ rfl
 rw [Bool.and_eq_true] at this;exact ⟨o.ok fun b' hb=>by rw [hb] at this;exact this.1,h.1 (by simpa using this.2)⟩⟩
def GdI.F {g:Prop} (o:GdI g) {b:Bool} {φ:Prop} (h:b=false↔φ):GdI (g∧φ):=⟨some (o.B.getD true && (b == false)),fun k=>by
 have:=k _ rfl
 rw [Bool.and_eq_true] at this;exact ⟨o.ok fun b' hb=>by rw [hb] at this;exact this.1,h.1 (by simpa using this.2)⟩⟩
structure Hint (P:Program) where
 d:HintD
 τ:Type
 lhs:Cx P→Nat→Gh→Rec→World→τ
 rhs:Cx P→Nat→Gh→Rec→World→τ
 sound:∀ (c:Cx P) (i:Nat),c.Ok→i < c.ops.size→c.hs[i]?=some d→(∀ G g w,lhs c i G g w=rhs c i G g w)→One c.R P c.w0 c.X i
 m:List Nat:=[]
section
variable {P : Program} {c : Cx P} {i : Nat} {h : HintD} {G : Gh} {w : World}
theorem Cx.upsOf (hi:c.hs[i]?=some h):c.R.ups i=h.news.map fun q=>(q.1,fun G=>(q.2.1 (c.R.vis i G)).ent (q.2.2 (c.R.vis i G))):=by
 unfold RC.ups;rw [Cx.c_of hi];simp [HintD.cert]
theorem Cx.valOf (hi:c.hs[i]?=some h):c.R.val i G=h.val (c.R.vis i G):=by
 unfold RC.val;rw [Cx.c_of hi];rfl
theorem Cx.factOf (hi:c.hs[i]?=some h) (G:Gh):c.R.fact i G=conjL ((h.facts (c.R.vis i G)).map (fun f=>f.at (JV (c.R.vis i G) c.N c.ops.size) (JV (c.R.vis i G) (hun c.N c.H) c.ops.size)) ++h.news.flatMap (fun q=>(q.2.1 (c.R.vis i G)).ats (q.2.2 (c.R.vis i G)) (JV (c.R.vis i G) c.N c.ops.size) (JV (c.R.vis i G) (hun c.N c.H) c.ops.size)) ++h.pu (c.R.vis i G)):=by
 unfold RC.fact;rw [Cx.c_of hi];rfl
theorem Cx.vis_self (g:Rec):c.R.vis i (RC.put G i g) i=g:=by simp [RC.vis,RC.put]
theorem Cx.gdOk {g:Prop} (Γ:GdI g) (hs:c.R.Sees c.w0 c.X G i w) (h:(Γ.B.map fun _=>c.R.gd G i)=Γ.B):g:=Γ.ok fun b hb=>by
 rw [hb] at h;simp only [Option.map_some,Option.some.injEq] at h;rw [←h];exact hs.gd
theorem Cx.gdGet {B:Option Bool} (hs:c.R.Sees c.w0 c.X G i w) (h:(B.map fun _=>c.R.gd G i)=B):B.getD true=true:=by
 cases B with
 | none=>rfl
 | some b =>
  simp only [Option.map_some,Option.some.injEq] at h;rw [←h];exact hs.gd
theorem Cx.still (hi:c.hs[i]?=some h) (hn:h.news=[]) (hp:∀ G,h.facts G=[]∧h.pu G=[]) {o:Oper} {x:Value} (ho:c.R.ops[i]?=some o) (he:(execOp (c.R.evalAt G i) o).run P w=.ok (.value x) w) (hv:c.R.val i (RC.put G i {})=x) :
  Does P (c.R.evalAt G i) o w fun v w'=>∃ g,c.R.Left w w' G i g v:=by
 unfold Does;rw [he,← hv];refine ⟨{},RC.Left.pure ?_ ?_⟩
 ·rw [Cx.upsOf hi,hn];rfl
 ·rw [Cx.factOf hi,hn,(hp _).1,(hp _).2];trivial
theorem Cx.plain (hi:c.hs[i]?=some h) (hn:h.news=[]) (hp:∀ G,h.facts G=[]∧h.pu G=[]) (G:Gh):((c.R.ups i).map (·.1),c.R.fact i G)=([],True):=by
 rw [Cx.upsOf hi,Cx.factOf hi,hn,(hp _).1,(hp _).2];rfl
end
namespace Hint
variable {P : Program}
def v (x:Gh→Value):Hint P where
 d:={ val:=x }
 τ:=Option (Result Next) × Value
 lhs c i G _ w:=(c.R.ex P G i w,c.R.val i (RC.put G i {}))
 rhs _ _ G _ w:=(some (.ok (.value (x G)) w),x G)
 sound c i _ _ hi h:=fun o ho G w hs=>by
  have h0:=h G {} w;simp only [Prod.mk.injEq,RC.ex,ho,Option.map_some,Option.some.injEq] at h0;exact Cx.still hi rfl (fun _=>⟨rfl,rfl⟩) ho h0.1 h0.2
def k (x:Value):Hint P:=v fun _=>x
def kb (x:Bool):Hint P where
 d:={ val:=fun _=>.bool x,sure:=some x,sok:=fun b h _=>by cases h;rfl }
 τ:=Option (Result Next) × Value
 lhs c i G _ w:=(c.R.ex P G i w,c.R.val i (RC.put G i {}))
 rhs _ _ _ _ w:=(some (.ok (.value (.bool x)) w),.bool x)
 sound c i _ _ hi h:=fun o ho G w hs=>by
  have h0:=h G {} w;simp only [Prod.mk.injEq,RC.ex,ho,Option.map_some,Option.some.injEq] at h0;exact Cx.still hi rfl (fun _=>⟨rfl,rfl⟩) ho h0.1 h0.2
def e {g:Prop} (Γ:GdI g) (x y:Value) (b:g→x=y):Hint P where
 d:={ val:=fun _=>y }
 τ:=Option (Result Next) × Value × Option Bool
 lhs c i G _ w:=(c.R.ex P G i w,c.R.val i (RC.put G i {}),Γ.B.map fun _=>c.R.gd G i)
 rhs _ _ _ _ w:=(some (.ok (.value x) w),y,Γ.B)
 sound c i _ _ hi h:=fun o ho G w hs=>by
  have h0:=h G {} w;simp only [Prod.mk.injEq,RC.ex,ho,Option.map_some,Option.some.injEq] at h0;exact Cx.still hi rfl (fun _=>⟨rfl,rfl⟩) ho h0.1 (by rw [h0.2.1,b (Cx.gdOk Γ hs h0.2.2)])
def arg {g:Prop} (Γ:GdI g) (t n:Int) (hn:n=t) (h:g→ -9223372036854775808≤n∧n≤9223372036854775807):Hint P:=e Γ (.int .i64 (IntKind.i64.wrap t)) (.int .i64 n) fun hg=>by
 obtain ⟨lo,hi⟩:=h hg;subst hn;congr 1;rw [IntKind.wrap_i64];omega
def ar (t n:Int) (hn:n=t) (lo: -9223372036854775808≤n) (hi:n≤9223372036854775807):Hint P:=arg g0 t n hn fun _=>⟨lo,hi⟩
def bo (t b:Bool) (hb:t=b):Hint P:=e g0 (.bool t) (.bool b) fun _=>by rw [hb]
def quo {g:Prop} (Γ:GdI g) (x y n:Int) (hn:n=x / y) (h:g→0≤x∧0 < y) (hi:g→n≤9223372036854775807):Hint P:=e Γ (.int .i64 (IntKind.i64.wrap (x.tdiv y))) (.int .i64 n) fun hg=>by
 obtain ⟨h0,h1⟩:=h hg;have h2:=hi hg;have h3:0≤x / y:=Int.ediv_nonneg h0 (by omega);rw [Int.tdiv_eq_ediv_of_nonneg h0,← hn]
 congr 1;rw [IntKind.wrap_i64];omega
def rem {g:Prop} (Γ:GdI g) (x y n:Int) (hn:n=x % y) (h:g→0≤x):Hint P:=e Γ (.int .i64 (x.tmod y)) (.int .i64 n) fun hg=>by
 rw [Int.tmod_eq_emod_of_nonneg (h hg),← hn]
end Hint
def RC.pkr (R:RC) (G:Gh) (i:Nat):Option (Value × Value × Value):=match (R.ops[i]?).map (fun o:Oper=>o.op) with
 | some (.pick c a b)=>some (R.evalAt G i c,R.evalAt G i a,R.evalAt G i b)
 | _=>none
theorem pick_run {P:Program} {R:RC} {G:Gh} {i:Nat} {w:World} {o:Oper} {b:Bool} {x y:Value} (ho:R.ops[i]?=some o) (h:R.pkr G i=some (.bool b,x,y)):(execOp (R.evalAt G i) o).run P w=.ok (.value (if b then x else y)) w:=by
 unfold RC.pkr at h;rw [ho] at h;obtain ⟨dst,op,j,pos,d,f⟩:=o;cases op <;> simp only [Option.map_some] at h <;> first | cases h | skip
 case pick c x' y' =>
  simp only [Option.some.injEq,Prod.mk.injEq] at h;obtain ⟨h1,h2,h3⟩:=h;simp [execOp,h1,h2,h3,asBool]
namespace Hint
variable {P : Program}
def and {g:Prop} (Γ:GdI g) (u:Bool) (b1 b2:Bool):Hint P where
 d:={ val:=fun _=>.bool (b1 && b2) }
 τ:=Option (Value × Value × Value) × Value × Option Bool
 lhs c i G _ _:=(c.R.pkr G i,c.R.val i (RC.put G i {}),Γ.B.map fun _=>c.R.gd G i)
 rhs _ _ _ _ _:=(some (.bool b1,(bif u then .bool b2 else bif (Γ.B.getD true && (b1 == true)) then .bool b2 else undef),.bool false),.bool (b1 && b2),Γ.B)
 sound c i _ _ hi h:=fun o ho G w hs=>by
  have h0:=h G {} w;simp only [Prod.mk.injEq] at h0;obtain ⟨h1,h2,h3⟩:=h0;have hb:=Cx.gdGet hs h3;refine Cx.still hi rfl (fun _=>⟨rfl,rfl⟩) ho (pick_run ho h1) ?_;rw [h2,hb];cases b1 <;> cases u <;> rfl
def or {g:Prop} (Γ:GdI g) (u:Bool) (b1 b2:Bool):Hint P where
 d:={ val:=fun _=>.bool (b1 || b2) }
 τ:=Option (Value × Value × Value) × Value × Option Bool
 lhs c i G _ _:=(c.R.pkr G i,c.R.val i (RC.put G i {}),Γ.B.map fun _=>c.R.gd G i)
 rhs _ _ _ _ _:=(some (.bool b1,.bool true,(bif u then .bool b2 else bif (Γ.B.getD true && (b1 == false)) then .bool b2 else undef)),.bool (b1 || b2),Γ.B)
 sound c i _ _ hi h:=fun o ho G w hs=>by
  have h0:=h G {} w;simp only [Prod.mk.injEq] at h0;obtain ⟨h1,h2,h3⟩:=h0;have hb:=Cx.gdGet hs h3;refine Cx.still hi rfl (fun _=>⟨rfl,rfl⟩) ho (pick_run ho h1) ?_;rw [h2,hb];cases b1 <;> cases u <;> rfl
end Hint
inductive Src where
 | n
 | f (k:Nat)
 | g (j k:Nat)
 | o (r:Nat)
def LE.own?:LE→Option (Bool × (Ent→Heaplet→Prop))
 | .own t p _ _ _=>some (t,p)
 | _=>none
section
variable {P : Program} (c : Cx P)
def Cx.leAt (i r:Nat) (G:Gh):Option LE:=match lastW (c.R.wrE r) i with
 | some k=>(c.hs[k]?).bind fun h=>(h.news.find? fun q=>q.1 == r).map fun q=>q.2.1 (c.R.vis k G)
 | none=>c.t.L[r]?
def Src.what (i:Nat) (G:Gh):Src→Option (Bool × (Ent→Heaplet→Prop)) × Bool
 | .n=>(some (true,fun _ _=>True),true)
 | .f k=>((c.t.F[k]?).map fun f=>(f.t,fun _=>f.p),true)
 | .g j k=>((c.hs[j]?).bind fun h=>((h.facts (c.R.vis j G))[k]?).map fun f=>(f.t,fun _=>f.p),c.R.bef i j && c.R.under i j)
 | .o r=>((c.leAt i r G).bind LE.own?,(c.R.c i).rds.contains r || c.R.wrE r i)
variable {c} {i : Nat} {G : Gh} {w : World}
theorem Cx.opAt (ok:c.Ok) (hi:i < c.ops.size):∃ o,c.R.ops[i]?=some o:=⟨c.ops[i],Array.getElem?_eq_getElem hi⟩
theorem Cx.writer (ok:c.Ok) (hi:i < c.ops.size) {r k:Nat} (hl:lastW (c.R.wrE r) i=some k) (hr:((c.R.c i).rds.contains r || c.R.wrE r i)=true):c.R.bef i k=true∧∀ G,c.R.gd G k=true:=by
 obtain ⟨o,ho⟩:=Cx.opAt ok hi;have C:=RC.chk ok.hc ho;obtain ⟨hk,hw,_⟩:=lastW_some hl;have h:k < c.ops.size:=by omega
 refine ⟨C.cl k hk ?_,fun G=>?_⟩
 ·obtain ⟨p,_,hp,d⟩:=RC.wrE_find hw;unfold RC.clash;rw [Bool.or_eq_true] at hr;rw [Bool.or_eq_true,Bool.or_eq_true];refine .inl (.inr (List.any_eq_true.2 ⟨p,hp,?_⟩));rw [Bool.or_eq_true];rcases hr with hr | hr
  ·exact .inr (by rw [d];exact hr)
  ·obtain ⟨q,_,hq,t⟩:=RC.wrE_find hr;exact .inl (List.any_eq_true.2 ⟨q,hq,by simp [d,t]⟩)
 ·obtain ⟨o',f⟩:=Cx.opAt ok h;have C':=RC.chk ok.hc f;cases hg:c.R.grd k with
  | none=>rw [RC.gd_eq ok.hc,hg]
  | some jw =>
   obtain ⟨j,want⟩:=jw;obtain ⟨A,b,w⟩:=RC.grd_some hg;rw [f] at b;cases b;rcases (C'.grd j want w).2.2.1 with hu | hu
   ·obtain ⟨p,_,hp,_⟩:=RC.wrE_find hw;rw [hu] at hp;cases hp
   ·exact RC.gd_sure ok.hc G k hu
theorem Cx.own_at (ok:c.Ok) (hi:i < c.ops.size) (hs:c.R.Sees c.w0 c.X G i w) {r:Nat} {x:LE} (hx:c.leAt i r G=some x) (hr:((c.R.c i).rds.contains r || c.R.wrE r i)=true) :
  ∃ e,c.R.entAt G i r=x.ent e∧x.at e (c.J i G true) (c.J i G false)∧EntIn w (x.ent e):=by
 have hE:EntIn w (c.R.entAt G i r):=fun b o hb=>(hs.ent r hr b o hb).1
 unfold leAt at hx;cases hl:lastW (c.R.wrE r) i with
 | none =>
  rw [hl] at hx;have he:c.R.entAt G i r=x.ent (c.ε r):=by
   unfold RC.entAt;rw [hl];show ((ents c.t.L c.ε)[r]?).getD none=_;rw [ents_get];have d:c.t.L[r]?=some x:=hx;rw [d];rfl
  exact ⟨c.ε r,he,LE.mono (ok.own r x hx) (Cx.J_base hs true) (Cx.J_base hs false),he ▸ hE⟩
 | some k =>
  rw [hl] at hx;simp only [Option.bind_eq_some_iff,Option.map_eq_some_iff] at hx;obtain ⟨h,hk,q,hq,rfl⟩:=hx;obtain ⟨hb,hg⟩:=Cx.writer ok hi hl hr;have hf:=(Cx.opfact hs ok hi hk hb (hg G)).2.1 q (List.mem_of_find?_eq_some hq);have he:c.R.entAt G i r=(q.2.1 (c.R.vis k G)).ent (q.2.2 (c.R.vis k G)):=by
   unfold RC.entAt;rw [hl];simp only [];unfold RC.entOf;rw [Cx.upsOf hk,List.find?_map]
   have:(h.news.find? ((fun p:Nat × (Gh→Ent)=>p.1 == r) ∘ fun q=>(q.1,fun G=>(q.2.1 (c.R.vis k G)).ent (q.2.2 (c.R.vis k G)))))=some q:=hq
   rw [this];rfl
  exact ⟨_,he,hf,he ▸ hE⟩
theorem Src.get (ok:c.Ok) (hi:i < c.ops.size) (hs:c.R.Sees c.w0 c.X G i w) {s:Src} {t:Bool} {p:Ent→Heaplet→Prop} (h:s.what c i G=(some (t,p),true)):∃ e,p e (c.J i G t)∧EntIn w e∧(∀ r,s=.o r→c.R.entAt G i r=e)∧((∀ r,s≠.o r)→e=none):=by
 unfold Src.what at h;cases s with
 | n =>
  simp only [Prod.mk.injEq,Option.some.injEq,and_true] at h;obtain ⟨rfl,rfl⟩:=h;exact ⟨none,trivial,(fun b o h=>by cases h),(fun r h=>by cases h),fun _=>rfl⟩
 | f k =>
  simp only [Prod.mk.injEq,Option.map_eq_some_iff,and_true] at h;obtain ⟨f,hf,rfl,rfl⟩:=h;refine ⟨none,?_,(fun b o h=>by cases h),(fun r h=>by cases h),fun _=>rfl⟩;have h1:=FP.mono (ok.facts f (List.mem_of_getElem? hf)) (Cx.J_base hs true) (Cx.J_base hs false);unfold FP.at at h1;cases e:f.t <;> rw [e] at h1 <;> exact h1
 | g j k =>
  simp only [Prod.mk.injEq,Option.bind_eq_some_iff,Option.map_eq_some_iff,Bool.and_eq_true] at h;obtain ⟨⟨hd,hj,f,hf,rfl,rfl⟩,hb,hu⟩:=h;refine ⟨none,?_,(fun b o h=>by cases h),(fun r h=>by cases h),fun _=>rfl⟩;have h1:=(Cx.opfact hs ok hi hj hb (RC.under_true ok.hc G hs.gd hu)).1 f (List.mem_of_getElem? hf);unfold FP.at at h1;cases e:f.t <;> rw [e] at h1 <;> exact h1
 | o r =>
  simp only [Prod.mk.injEq,Option.bind_eq_some_iff] at h;obtain ⟨⟨x,hx,hp⟩,hr⟩:=h;cases x with
  | own t' p' m q' hq' =>
   simp only [LE.own?,Option.some.injEq,Prod.mk.injEq] at hp;obtain ⟨rfl,rfl⟩:=hp;obtain ⟨e,he,ha,hE⟩:=Cx.own_at ok hi hs hx hr;refine ⟨e,?_,hE,(fun r' h=>by cases h;exact he),fun h=>absurd rfl (h r)⟩;unfold LE.at at ha;cases t' <;> exact ha
  | _=>simp [LE.own?] at hp
end
structure Kw (α:Type) [Dat α] (l:List α) (s:Gh→SV) where
 src:Src
 t:Bool
 f:Bool
 p:Gh→Ent→Heaplet→Prop
 rd:∀ G e H U,p G e H→Sub H U→Sub (entH e) U→RSl U l (s G).v
 gd:∀ G e H,p G e H→∀ x ∈ l,Dat.good H x
 rj:f=true→∀ G e H,p G e H→RSl H l (s G).v
section
variable {α : Type} [Dat α] {l : List α} {s : Gh → SV}
def kf (t:Bool) (b:Src) (l:List α) (s:Gh→SV):Kw α l s:=⟨b,t,true,fun G _ H=>RSl H l (s G).v,fun _ _ _ _ h k _=>h.mono k,fun _ _ _ h=>h.good,fun _ _ _ _ h=>h⟩
def ko (t:Bool) (E:TypeId) (r:Nat) (l:List α) (s:Gh→SV):Kw α l s:=⟨.o r,t,false,fun G e H=>OSl E H l (s G).v e,fun _ _ _ _ h k he =>
 ⟨h.sl.toH.mono he,fun x hx=>Dat.mono _ _ x k (h.good x hx)⟩,fun _ _ _ h=>h.good,fun h=>by cases h⟩
def kx {β:Type} [Dat β] (t:Bool) (b:Src) (x:β) (l:List α) (s:Gh→SV) (pr:∀ G H,Dat.good H x→RSl H l (s G).v):Kw α l s:=⟨b,t,true,fun _ _ H=>Dat.good H x,fun G _ H _ h k _=>(pr G H h).mono k,fun G _ H h=>(pr G H h).good,fun _ G _ H h=>pr G H h⟩
def knil:Kw α [] (fun _=>{}):=⟨.n,true,true,fun _ _ _=>True,fun _ _ _ _ _ _ _=>RSl.nil,(fun _ _ _ _ x hx=>by cases hx),fun _ _ _ _ _=>RSl.nil⟩
variable {P : Program}
def Kw.v (_:Kw α l s) (G:Gh):Value:=(s G).v
def Kw.lhs (κ:Kw α l s) (c:Cx P) (i:Nat) (G:Gh):Option (Bool × (Ent→Heaplet→Prop)) × Bool:=κ.src.what c i G
def Kw.rhs (κ:Kw α l s) (G:Gh):Option (Bool × (Ent→Heaplet→Prop)) × Bool:=(some (κ.t,κ.p G),true)
theorem Kw.read {c:Cx P} {i:Nat} {G:Gh} {w:World} (κ:Kw α l s) (ok:c.Ok) (hi:i < c.ops.size) (hs:c.R.Sees c.w0 c.X G i w) (h:κ.lhs c i G=κ.rhs G):RSl (whole w) l (κ.v G):=by
 obtain ⟨e,h1,h2,_⟩:=Src.get ok hi hs h;exact κ.rd G e _ _ h1 (Cx.J_le hs κ.t) (entH_agrees h2)
def Kw.rdr (κ:Kw α l s):List Nat:=match κ.src with
 | .o r=>[r]
 | _=>[]
end
structure Kq (α:Type) [Dat α] (l:Gh→List α) (s:Gh→SV) where
 src:Src
 t:Bool
 f:Bool
 p:Gh→Ent→Heaplet→Prop
 rd:∀ G e H U,p G e H→Sub H U→Sub (entH e) U→RSl U (l G) (s G).v
 rj:f=true→∀ G e H,p G e H→RSl H (l G) (s G).v
section
variable {α : Type} [Dat α] {l : Gh → List α} {s : Gh → SV} {P : Program}
def Kq.lhs (κ:Kq α l s) (c:Cx P) (i:Nat) (G:Gh):Option (Bool × (Ent→Heaplet→Prop)) × Bool:=κ.src.what c i G
def Kq.rhs (κ:Kq α l s) (G:Gh):Option (Bool × (Ent→Heaplet→Prop)) × Bool:=(some (κ.t,κ.p G),true)
def Kq.rdr (κ:Kq α l s):List Nat:=match κ.src with
 | .o r=>[r]
 | _=>[]
end
structure Kv where
 α:Type
 d:Dat α
 l:Gh→List α
 s:Gh→SV
 κ:Kq α l s
def Kw.a {α:Type} [d:Dat α] {l:List α} {s:Gh→SV} (κ:Kw α l s):Kv:=⟨α,d,fun _=>l,s,⟨κ.src,κ.t,κ.f,κ.p,κ.rd,κ.rj⟩⟩
def kg {α:Type} [d:Dat α] (t:Bool) (b:Src) (l:Gh→List α) (s:Gh→SV):Kv:=⟨α,d,l,s,⟨b,t,true,fun G _ H=>RSl H (l G) (s G).v,fun _ _ _ _ h k _=>h.mono k,fun _ _ _ _ h=>h⟩⟩
instance (q : Kv) : Dat q.α := q.d
def Kv.at (q:Kv) (G:Gh) (H:Heaplet):Prop:=RSl H (q.l G) ((q.s G).v)

open Go
def entB:Ent→Nat
 | some (b,_)=>b
 | _=>0
def entA:Ent→Array Value
 | some (_,.cells a _ _)=>a
 | _=>#[]
def entT:Ent→TypeId
 | some (_,.cells _ T _)=>T
 | _=>0
def RC.ldt (R:RC) (i:Nat):TypeId:=match (R.ops[i]?).map (fun o:Oper=>o.op) with
 | some (.load t _)=>t
 | _=>0
theorem load_does {P:Program} {c:Cx P} {i:Nat} {h:HintD} {G:Gh} {w:World} (hi:c.hs[i]?=some h) (hn:h.news=[]) (hp:c.R.fact i (RC.put G i {})) {o:Oper} (ho:c.R.ops[i]?=some o) {t:TypeId} {p:Addr} {vs:List Value} {x:Value}
  (e1:c.R.ldr G i=some (t,.pointer (some p))) (e2:(P.underlying t).isSome=true) (e3:sizeT P t=some vs.length) (e4:(aggB P t || vs.length == 1)=true) (e5:x=wrapT P t vs) (e6:c.R.val i (RC.put G i {})=x)
  (hc:∀ (j:Nat) (v:Value),vs[j]?=some v→w.cell? (p.add j)=some v):Does P (c.R.evalAt G i) o w fun v w'=>∃ g,c.R.Left w w' G i g v:=by
 unfold RC.ldr at e1;rw [ho] at e1;obtain ⟨dst,op,type,pos,after,guard⟩:=o;cases op <;> simp only [Option.map_some] at e1 <;> first | cases e1 | skip
 case load t' x' =>
  simp only [Option.some.injEq,Prod.mk.injEq] at e1;obtain ⟨rfl,hx⟩:=e1;have hl:=loadVar_run (w:=w) (a:=p) e2 e3 (fun hb=>by rw [hb] at e4;simpa using e4) hc;unfold Does;have hr:(execOp (c.R.evalAt G i) { dst,op:=.load t' x',type,pos,after,guard }).run P w=.ok (.value (wrapT P t' vs)) w:=by
   simp [execOp,Instr.loadAt,hx,Instr.sureAddr,hl]
  rw [hr];show ∃ g,c.R.Left w w G i g (wrapT P t' vs);rw [←e5,← e6];exact ⟨{},RC.Left.pure (by rw [Cx.upsOf hi,hn];rfl) hp⟩
theorem conj_nil {P:Program} {c:Cx P} {i:Nat} {h:HintD} (hi:c.hs[i]?=some h) (hn:h.news=[]) (hp:∀ G,h.facts G=[]∧h.pu G=[]) (G:Gh):c.R.fact i G:=by
 have:=Cx.plain hi hn hp G
 simp only [Prod.mk.injEq] at this;rw [this.2];trivial
theorem fact_of {P:Program} {c:Cx P} {i:Nat} {h:HintD} {G:Gh} {w:World} (ok:c.Ok) (d:i < c.ops.size) (hi:c.hs[i]?=some h) (hs:c.R.Sees c.w0 c.X G i w) {g:Rec} (hg:∀ b,g.H b≠none→w.heap.size≤b)
  (hf:∀ f ∈ h.facts (c.R.vis i (RC.put G i g)),f.at (JV (c.R.vis i (RC.put G i g)) c.N c.ops.size) (JV (c.R.vis i (RC.put G i g)) (hun c.N c.H) c.ops.size))
  (hn:∀ q ∈ h.news,(q.2.1 (c.R.vis i (RC.put G i g))).at (q.2.2 (c.R.vis i (RC.put G i g))) (JV (c.R.vis i (RC.put G i g)) c.N c.ops.size) (JV (c.R.vis i (RC.put G i g)) (hun c.N c.H) c.ops.size))
  (hp:conjL (h.pu (c.R.vis i (RC.put G i g)))):c.R.fact i (RC.put G i g):=by
 rw [Cx.factOf hi];refine conjL_of fun p hm=>?_;simp only [List.mem_append,List.mem_map,List.mem_flatMap] at hm
 rcases hm with (⟨f,hm,rfl⟩ | ⟨q,hq,hm⟩) | hm
 ·exact hf f hm
 ·exact conjL_mem (LE.ats_at.2 (hn q hq)) p hm
 ·exact conjL_mem hp p hm
theorem ahead {P:Program} {c:Cx P} {i:Nat} {G:Gh} {w:World} (ok:c.Ok) (d:i < c.ops.size) (hs:c.R.Sees c.w0 c.X G i w) {g:Rec} (hg:∀ b,g.H b≠none→w.heap.size≤b) :
  Sub (c.J i G true) (JV (c.R.vis i (RC.put G i g)) c.N c.ops.size)∧Sub (c.J i G false) (JV (c.R.vis i (RC.put G i g)) (hun c.N c.H) c.ops.size)∧Sub g.H (JV (c.R.vis i (RC.put G i g)) c.N c.ops.size)∧Sub g.H (JV (c.R.vis i (RC.put G i g)) (hun c.N c.H) c.ops.size) :=
 ⟨(Cx.post_le hs ok true hg d).1,(Cx.post_le hs ok false hg d).1,(Cx.post_le hs ok true hg d).2,(Cx.post_le hs ok false hg d).2⟩
theorem no_H {w:World}:∀ b,({}:Rec).H b≠none→w.heap.size≤b:=fun b h=>absurd rfl h
def aggV (a:Bool) (vs:List Value):Value:=bif a then .agg vs.toArray else vs.headD undef
namespace Hint
variable {P : Program}
def ld (r off:Nat) (a:Bool) (vs:Gh→List Value):Hint P where
 d:={ val:=fun G=>aggV a (vs G),rds:=[r] }
 τ:=Option (TypeId × Value) × Bool × Option Nat × Bool × Value × Value × Ent × List (Option Value)
 lhs c i G _ _:=(c.R.ldr G i,(P.underlying (c.R.ldt i)).isSome,sizeT P (c.R.ldt i),aggB P (c.R.ldt i) || (vs G).length == 1,aggV a (vs G),c.R.val i (RC.put G i {}),c.R.entAt G i r,(List.range (vs G).length).map fun j=>(entA (c.R.entAt G i r))[off+j]?)
 rhs c i G _ _:=(some (c.R.ldt i,.pointer (some ⟨entB (c.R.entAt G i r),off,none⟩)),true,some (vs G).length,true,wrapT P (c.R.ldt i) (vs G),aggV a (vs G),some (entB (c.R.entAt G i r),.cells (entA (c.R.entAt G i r)) (entT (c.R.entAt G i r))),(vs G).map some)
 sound c i _ _ hi h:=fun o ho G w hs=>by
  have h0:=h G {} w;simp only [Prod.mk.injEq] at h0;obtain ⟨e1,e2,e3,e4,e5,e6,e7,e8⟩:=h0;refine load_does hi rfl (conj_nil hi rfl (fun _=>⟨rfl,rfl⟩) _) ho e1 e2 e3 e4 e5 e6 fun j v hj=>?_;have hr:(c.R.c i).rds.contains r=true:=by rw [Cx.c_of hi];simp [HintD.cert]
  obtain ⟨hb,_⟩:=hs.ent r (by rw [hr];rfl) _ _ e7;have b:j < (vs G).length:=(List.getElem?_eq_some_iff.1 hj).1;have e9:=congrArg (fun l=>l[j]?) e8;simp only [List.getElem?_map,List.getElem?_range b,Option.map_some,hj,Option.some.injEq] at e9;rw [add_eq rfl];simp [World.cell?,hb,e9]
end Hint
def offA (a:Addr):Option Nat→Addr
 | none=>a
 | some n=>a.add n
theorem offA_eq (a:Addr) (o:Option Nat):offA a o=a.add (o.getD 0):=by
 cases o with
 | none=>exact (add_zero' a).symm
 | some n=>rfl
theorem still_does {P:Program} {c:Cx P} {i:Nat} {h:HintD} {G:Gh} {w:World} (hi:c.hs[i]?=some h) (hn:h.news=[]) (hp:∀ g,c.R.fact i (RC.put G i g)) {o:Oper} {x:Value} (hr:(execOp (c.R.evalAt G i) o).run P w=.ok (.value x) w) (hv:c.R.val i (RC.put G i {})=x) :
  Does P (c.R.evalAt G i) o w fun v w'=>∃ g,c.R.Left w w' G i g v:=by
 unfold Does;rw [hr,← hv];exact ⟨{},RC.Left.pure (by rw [Cx.upsOf hi,hn];rfl) (hp {})⟩
theorem index_run {P:Program} {R:RC} {G:Gh} {i:Nat} {w:World} {o:Oper} (ho:R.ops[i]?=some o) {t E:TypeId} {size:Nat} {v:Value} {k:IntKind} {n:Int} (e1:R.ixr G i=some (t,v,.int k n)) (e2:sliceOf P t=some E) (e3:sizeT P E=some size)
  {len:Nat} (hv:IsSl v len) (h1:0≤n) (h2:n < len):(execOp (R.evalAt G i) o).run P w=.ok (.value (.pointer (some (elemAddr v (n.toNat * size))))) w:=by
 unfold RC.ixr at e1;rw [ho] at e1;obtain ⟨dst,op,f,pos,b,d⟩:=o;cases op <;> simp only [Option.map_some] at e1 <;> first | cases e1 | skip
 case indexAddr t' x ix =>
  simp only [Option.some.injEq,Prod.mk.injEq] at e1;obtain ⟨rfl,hx,hn⟩:=e1;have hu:=slice_of e2;obtain ⟨a,c,rfl,ha,hc⟩:=hv;cases a with
  | none=>have:=ha rfl;omega
  | some a=>simp [execOp,Instr.indexAt,hx,hn,asIntOf,underlying,hu,run_sizeOf e3,h1,h2,elemAddr]
def RC.ixt (R:RC) (i:Nat):TypeId:=match (R.ops[i]?).map (fun o:Oper=>o.op) with
 | some (.indexAddr t _ _)=>t
 | _=>0
namespace Hint
variable {P : Program}
def ix {α:Type} [Dat α] {l:List α} {s:Gh→SV} {g:Prop} (Γ:GdI g) (κ:Kw α l s) (k:Int) (h:g→0≤k∧k < l.length):Hint P where
 d:={ val:=fun G=>.pointer (some (elemAddr (κ.v G) (k.toNat * Dat.size α))),rds:=κ.rdr }
 τ:=Option (TypeId × Value × Value) × Option Nat × Value × Option Bool × (Option (Bool × (Ent→Heaplet→Prop)) × Bool)
 lhs c i G _ _:=(c.R.ixr G i,(sliceOf P (c.R.ixt i)).bind (sizeT P),c.R.val i (RC.put G i {}),Γ.B.map fun _=>c.R.gd G i,κ.lhs c i G)
 rhs c i G _ _:=(some (c.R.ixt i,κ.v G,.int .i64 k),some (Dat.size α),.pointer (some (elemAddr (κ.v G) (k.toNat * Dat.size α))),Γ.B,κ.rhs G)
 sound c i ok hil hi h0:=fun o ho G w hs=>by
  have h1:=h0 G {} w;simp only [Prod.mk.injEq] at h1;obtain ⟨e1,e2,e3,e4,e5⟩:=h1;have hr:=κ.read ok hil hs e5;obtain ⟨b0,b1⟩:=h (Cx.gdOk Γ hs e4);simp only [Option.bind_eq_some_iff] at e2;obtain ⟨E,e2,e6⟩:=e2;exact still_does hi rfl (fun g=>conj_nil hi rfl (fun _=>⟨rfl,rfl⟩) _) (index_run ho e1 e2 e6 hr.isSl b0 (by omega)) e3
def le {α:Type} [Dat α] {l:List α} {s:Gh→SV} {g:Prop} (Γ:GdI g) (κ:Kw α l s) (k:Int) (off:Option Nat) (b:Bool) (x:α) (hx:x=l.getD k.toNat default) (h:g→0≤k∧k < l.length) (a:Bool) (vs:Gh→List Value):Hint P where
 d:={ val:=fun G=>aggV a (vs G),rds:=κ.rdr,facts:=fun _=>bif b then [⟨κ.t,fun H=>Dat.good H x,fun _ _ k h=>Dat.mono _ _ _ k h,Dat.q x,fun H h=>Dat.hq H x h⟩] else [] }
 τ:=Option (TypeId × Value) × Bool × Option Nat × Bool × Value × Value × List Value × Option Bool × (Option (Bool × (Ent→Heaplet→Prop)) × Bool)
 lhs c i G _ _:=(c.R.ldr G i,(P.underlying (c.R.ldt i)).isSome,sizeT P (c.R.ldt i),aggB P (c.R.ldt i) || (vs G).length == 1,aggV a (vs G),c.R.val i (RC.put G i {}),((Dat.cells x).drop (off.getD 0)).take (vs G).length,Γ.B.map fun _=>c.R.gd G i,κ.lhs c i G)
 rhs c i G _ _:=(some (c.R.ldt i,.pointer (some (offA (elemAddr (κ.v G) (k.toNat * Dat.size α)) off))),true,some (vs G).length,true,wrapT P (c.R.ldt i) (vs G),aggV a (vs G),vs G,Γ.B,κ.rhs G)
 sound c i ok hil hi h0:=fun o ho G w hs=>by
  have h1:=h0 G {} w;simp only [Prod.mk.injEq] at h1;obtain ⟨e1,e2,e3,e4,e5,e6,e7,e8,e9⟩:=h1;obtain ⟨en,q1,q2,_,_⟩:=Src.get ok hil hs e9;have hr:=κ.rd G en _ _ q1 (Cx.J_le hs κ.t) (entH_agrees q2);obtain ⟨b0,b1⟩:=h (Cx.gdOk Γ hs e8);refine load_does hi rfl ?_ ho e1 e2 e3 e4 e5 e6 ?_
  ·obtain ⟨a1,a2,_⟩:=ahead ok hil hs (g:={}) no_H;refine fact_of ok hil hi hs no_H (fun f hf=>?_) (fun q hq=>by cases hq) trivial;cases b
   ·cases hf
   ·have hf:f=⟨κ.t,fun H=>Dat.good H x,fun _ _ k h=>Dat.mono _ _ _ k h,Dat.q x,fun H h=>Dat.hq H x h⟩:=by simpa using hf
    subst hf;have hg:=κ.gd G en _ q1 x (getD_mem (by omega) hx);unfold FP.at;show bif κ.t then _ else _
    cases et:κ.t <;> rw [et] at hg
    ·exact Dat.mono _ _ _ a2 hg
    ·exact Dat.mono _ _ _ a1 hg
  ·rw [offA_eq]
   have:=((hr.at b1 b0 hx).part e7).cell (w:=w) (fun _ _ h=>h)
   exact this
end Hint

open Go
section
variable {P : Program} {c : Cx P} {i : Nat} {h : HintD} {G : Gh} {w w' : World}
theorem left_turn (ok:c.Ok) (t:i < c.ops.size) (hi:c.hs[i]?=some h) (hs:c.R.Sees c.w0 c.X G i w) {g:Rec} {r:Nat} {le:Gh→LE} {en:Gh→Ent} (hn:h.news=[(r,le,en)]) (hH:g.H=fun _=>none) {e0 e1:Ent} (hE:c.R.entAt G i r=e0) (hg:Grows e0 e1 w w')
  (he:(le (c.R.vis i (RC.put G i g))).ent (en (c.R.vis i (RC.put G i g)))=e1) (A:(le (c.R.vis i (RC.put G i g))).at (en (c.R.vis i (RC.put G i g))) (c.J i G true) (c.J i G false)) (hf:h.facts (c.R.vis i (RC.put G i g))=[]) (hp:h.pu (c.R.vis i (RC.put G i g))=[]) {v:Value} (hv:c.R.val i (RC.put G i g)=v):c.R.Left w w' G i g v:=by
 have hup:=Cx.upsOf hi;rw [hn] at hup;have j:∀ b,g.H b≠none→w.heap.size≤b:=fun b hb=>by rw [hH] at hb;exact absurd rfl hb
 obtain ⟨a1,a2,_⟩:=ahead ok t hs j;refine ⟨hv.symm,fact_of ok t hi hs j (fun f hm=>?_) (fun q hq=>?_) ?_,?_,(fun b o hb=>by rw [hH] at hb;cases hb),j,fun p d b o hb=>?_,fun p d q hq b o o' _ _=>?_⟩
 ·rw [hf] at hm;cases hm
 ·rw [hn] at hq
  have:q=(r,le,en):=by simpa using hq
  subst this;exact LE.mono A a1 a2
 ·rw [hp];trivial
 ·refine ⟨hg.base.os,hg.base.tape,hg.base.output,hg.base.size,fun k hk B=>hg.base.keep k hk fun hm=>B ?_⟩;unfold RC.touched;rw [hup]
  simpa [hE] using hm
 ·rw [hup] at d
  have:p=(r,fun G=>(le (c.R.vis i G)).ent (en (c.R.vis i G))):=by simpa using d
  subst this;simp only at hb;rw [he] at hb;exact ⟨hg.in' b o hb,by
   rcases hg.from' b o hb with h1 | ⟨o',h1⟩
   ·exact .inl h1
   ·exact .inr ⟨_,by rw [hup];exact List.mem_singleton.2 rfl,o',by rw [←h1];exact hE⟩,by rw [hH]⟩
 ·rw [hup] at d hq;have h1:p=(r,fun G=>(le (c.R.vis i G)).ent (en (c.R.vis i G))):=by simpa using d
  have h2:q=(r,fun G=>(le (c.R.vis i G)).ent (en (c.R.vis i G))):=by simpa using hq
  rw [h1,h2]
theorem grows_push {e0:Ent} {o:Obj}:Grows e0 (some (w.heap.size,o)) w { w with heap:=w.heap.push o } :=
 ⟨fun b o' hb=>by cases hb;exact push_get,fun b o' hb=>by cases hb;exact .inl (Nat.le_refl _),base_push _ _⟩
theorem left_grow (ok:c.Ok) (j:i < c.ops.size) (hi:c.hs[i]?=some h) (hs:c.R.Sees c.w0 c.X G i w) {g:Rec} (hn:h.news=[]) (hb:Base [] w w') (ha:Agrees w' g.H) (d:∀ b,g.H b≠none→w.heap.size≤b)
  (hf:∀ f ∈ h.facts (c.R.vis i (RC.put G i g)),f.at (JV (c.R.vis i (RC.put G i g)) c.N c.ops.size) (JV (c.R.vis i (RC.put G i g)) (hun c.N c.H) c.ops.size)) (hp:conjL (h.pu (c.R.vis i (RC.put G i g)))) {v:Value} (hv:c.R.val i (RC.put G i g)=v):c.R.Left w w' G i g v:=by
 have hup:=Cx.upsOf hi;rw [hn] at hup;rw [←hv];exact RC.Left.grow hup (fact_of ok j hi hs d hf (fun q hq=>by rw [hn] at hq;cases hq) hp) hb ha d
end
def allR (qs:List Kv) (G:Gh) (H:Heaplet):Prop:=conjL (qs.map fun q=>q.at G H)
def Kv.chk {P:Program} (c:Cx P) (i:Nat) (G:Gh) (q:Kv):Option (Bool × (Ent→Heaplet→Prop)) × Bool:=q.κ.lhs c i G
def Kv.want (G:Gh) (q:Kv):Option (Bool × (Ent→Heaplet→Prop)) × Bool:=q.κ.rhs G
theorem map_eq {α β:Type _} {f g:α→β}:∀ {l:List α},l.map f=l.map g→∀ x ∈ l,f x=g x
 | [],_,x,h=>by cases h
 | y :: l,h,x,hx=>by
  simp only [List.map_cons,List.cons.injEq] at h;rcases List.mem_cons.1 hx with rfl | hx
  ·exact h.1
  ·exact map_eq h.2 x hx
def tOk (t:Bool) (qs:List Kv):Bool:=qs.all fun q=>q.κ.f && (!t || q.κ.t)
theorem allR_of {P:Program} {c:Cx P} {i:Nat} {G:Gh} {w:World} (ok:c.Ok) (d:i < c.ops.size) (hs:c.R.Sees c.w0 c.X G i w) {qs:List Kv} (h:qs.map (Kv.chk c i G)=qs.map (Kv.want G)) {t:Bool} (ht:tOk t qs=true):allR qs G (c.J i G t):=by
 refine conjL_of fun p hp=>?_;obtain ⟨q,hq,rfl⟩:=List.mem_map.1 hp
 have b:=List.all_eq_true.1 ht q hq;rw [Bool.and_eq_true] at b;obtain ⟨e,h1,_⟩:=Src.get ok d hs (map_eq h q hq);refine (q.κ.rj b.1 G e _ h1).mono ?_;cases t with
 | false=>exact Cx.J_le_false hs _
 | true=>have:=b.2;simp at this;rw [this];exact Sub.refl _
def os {α:Type} [Dat α] (t:Bool) (E:TypeId) (l:List α) (s:SV):LE:=ow t E l s.v
def fs {α:Type} [Dat α] (t:Bool) (l:List α) (s:SV):FP:=fr t l s.v
def atB (b:Nat):Option Addr:=some ⟨b,0,none⟩
def RC.stt (R:RC) (i:Nat):TypeId:=match (R.ops[i]?).map (fun o:Oper=>o.op) with
 | some (.store t _ _)=>t
 | _=>0
def addrOf:Value→Addr
 | .pointer (some a)=>a
 | _=>default
def RC.sta (R:RC) (G:Gh) (i:Nat):Nat:=match R.str G i with
 | some (_,a,_)=>(addrOf a).off
 | none=>0
def RC.stv (R:RC) (G:Gh) (i:Nat):Value:=match R.str G i with
 | some (_,_,u)=>u
 | none=>undef
namespace Hint
variable {P : Program}
def nb (n r:Nat) (mk:Nat→Value) (T:TypeId) (f:Gh→Array Value):Hint P where
 d:={ val:=fun G=>mk (G n).b,news:=[(r,fun G=>.blk (G n).b (f G) T,fun _=>none)] }
 τ:=Option (Result Next) × Nat × Array Value
 lhs c i G g w:=(c.R.ex P G i w,i,f (c.R.vis i (RC.put G i g)))
 rhs _ _ G _ w:=(some (.ok (.value (mk w.heap.size)) { w with heap:=w.heap.push (.cells (f G) T) }),n,f G)
 sound c i ok hil hi h:=fun o ho G w hs=>by
  have h0:=h G { b:=w.heap.size } w;simp only [Prod.mk.injEq,RC.ex,ho,Option.map_some,Option.some.injEq] at h0;obtain ⟨e1,rfl,e3⟩:=h0;unfold Does;rw [e1];have hv:=Cx.vis_self (c:=c) (i:=i) (G:=G) { b:=w.heap.size };refine ⟨{ b:=w.heap.size },left_turn ok hil hi hs (e1:=some (w.heap.size,.cells (f G) T)) rfl rfl rfl grows_push ?_ ?_ rfl rfl ?_⟩
  ·show some _=_;rw [hv,e3]
  ·trivial
  ·rw [Cx.valOf hi];show mk _=_;rw [hv]
def nl {α:Type} [Dat α] (n r:Nat) (t:Bool) (E:TypeId) (l:List α) (qs:List Kv) (hq:∀ G H,allR qs G H→∀ x ∈ l,Dat.good H x) (f:Gh→Array Value):Hint P where
 d:={ val:=fun G=>.slice (atB (G n).b) l.length l.length,news:=[(r,fun G=>os t E l ⟨atB (G n).b,l.length,l.length⟩,fun G=>some ((G n).b,.cells (f G) E))] }
 τ:=Option (Result Next) × Nat × Array Value × List Value × Bool × Bool × List (Option (Bool × (Ent→Heaplet→Prop)) × Bool)
 lhs c i G g w:=(c.R.ex P G i w,i,f (c.R.vis i (RC.put G i g)),(f G).toList,decide (l.length≤maxLen),tOk t qs,qs.map (Kv.chk c i G))
 rhs _ _ G _ w:=(some (.ok (.value (.slice (atB w.heap.size) l.length l.length)) { w with heap:=w.heap.push (.cells (f G) E) }),n,f G,(rows l).flatten,true,true,qs.map (Kv.want G))
 sound c i ok hil hi h:=fun o ho G w hs=>by
  have h0:=h G { b:=w.heap.size } w;simp only [Prod.mk.injEq,RC.ex,ho,Option.map_some,Option.some.injEq] at h0;obtain ⟨e1,rfl,e3,e4,e5,e6,e7⟩:=h0;unfold Does;rw [e1];have hv:=Cx.vis_self (c:=c) (i:=i) (G:=G) { b:=w.heap.size };refine ⟨{ b:=w.heap.size },left_turn ok hil hi hs (e1:=some (w.heap.size,.cells (f G) E)) rfl rfl rfl grows_push ?_ ?_ rfl rfl ?_⟩
  ·show some _=_;rw [hv,e3]
  ·show bif t then OSl E _ l _ _ else OSl E _ l _ _
   rw [hv,e3];have j:∀ H,(∀ x ∈ l,Dat.good H x)→OSl E H l (.slice (atB w.heap.size) l.length l.length) (some (w.heap.size,.cells (f G) E)):=fun H hg=>OSl.lit hg (by rw [e4,e5])
   have hR:=hq G _ (allR_of ok hil hs e7 e6);cases t
   ·exact j _ hR
   ·exact j _ hR
  ·rw [Cx.valOf hi];show Value.slice _ _ _=_;rw [hv]
def nr {α:Type} [Dat α] (n:Nat) (t:Bool) (E:TypeId) (l:List α) (qs:List Kv) (hq:∀ G H,allR qs G H→∀ x ∈ l,Dat.good H x) (j:Gh→Array Value):Hint P where
 d:={ val:=fun G=>.slice (atB (G n).b) l.length l.length,facts:=fun G=>[fs t l ⟨atB (G n).b,l.length,l.length⟩] }
 τ:=Option (Result Next) × Nat × List Value × Bool × Bool × List (Option (Bool × (Ent→Heaplet→Prop)) × Bool)
 lhs c i G _ w:=(c.R.ex P G i w,i,(j G).toList,decide (l.length≤maxLen),tOk t qs,qs.map (Kv.chk c i G))
 rhs _ _ G _ w:=(some (.ok (.value (.slice (atB w.heap.size) l.length l.length)) { w with heap:=w.heap.push (.cells (j G) E) }),n,(rows l).flatten,true,true,qs.map (Kv.want G))
 sound c i ok hil hi h:=fun o ho G w hs=>by
  have h0:=h G {} w;simp only [Prod.mk.injEq,RC.ex,ho,Option.map_some,Option.some.injEq] at h0;obtain ⟨e1,rfl,e4,e5,e6,e7⟩:=h0;unfold Does;rw [e1];have hv:=Cx.vis_self (c:=c) (i:=i) (G:=G) { b:=w.heap.size,H:=entH (some (w.heap.size,.cells (j G) E)) };have A:∀ b,entH (some (w.heap.size,.cells (j G) E)) b≠none→w.heap.size≤b:=entH_new (w0:=w) fun b o he=>by cases he;exact Nat.le_refl _
  obtain ⟨a1,a2,a3,a4⟩:=ahead ok hil hs (g:={ b:=w.heap.size,H:=entH (some (w.heap.size,.cells (j G) E)) }) A;refine ⟨{ b:=w.heap.size,H:=entH (some (w.heap.size,.cells (j G) E)) },left_grow ok hil hi hs rfl (base_push _ _) (entH_agrees (e:=some (w.heap.size,.cells (j G) E)) fun b o he=>by cases he;exact push_get) A (fun f hf=>?_) trivial ?_⟩
  ·have hf:f=fs t l ⟨atB (c.R.vis i (RC.put G i { b:=w.heap.size,H:=entH (some (w.heap.size,.cells (j G) E)) }) i).b,l.length,l.length⟩:=by simpa using hf
   rw [hv] at hf;subst hf;have B:∀ H K,Sub H K→Sub (entH (some (w.heap.size,.cells (j G) E))) K→(∀ x ∈ l,Dat.good H x)→RSl K l (.slice (atB w.heap.size) l.length l.length):=fun H K k1 k2 hg=>(OSl.lit (E:=E) (g:=w.heap.size) hg (by rw [e4,e5])).frozen k1 k2
   have hR:=hq G _ (allR_of ok hil hs e7 e6);show bif t then _ else _
   cases t
   ·exact B _ _ a2 a4 hR
   ·exact B _ _ a1 a3 hR
  ·rw [Cx.valOf hi];show Value.slice _ _ _=_;rw [hv]
def st (r:Nat) (le:Gh→LE):Hint P where
 d:={ val:=fun _=>undef,news:=[(r,le,fun _=>none)] }
 τ:=Option (TypeId × Value × Value) × Option Nat × Bool × Ent × Ent × Bool × Bool
 lhs c i G g _:=(c.R.str G i,sizeT P (c.R.stt i),decide (c.R.sta G i+(c.R.stv G i).cells.toList.length≤(entA (c.R.entAt G i r)).size),c.R.entAt G i r,(le (c.R.vis i (RC.put G i g))).ent none,(c.R.stv G i).cells.toList.all cell1,(le (c.R.vis i (RC.put G i g))).own?.isNone)
 rhs c i G _ _:=(some (c.R.stt i,.pointer (some ⟨entB (c.R.entAt G i r),c.R.sta G i,none⟩),c.R.stv G i),some (c.R.stv G i).cells.toList.length,true,some (entB (c.R.entAt G i r),.cells (entA (c.R.entAt G i r)) (entT (c.R.entAt G i r))),some (entB (c.R.entAt G i r),.cells (writeA (entA (c.R.entAt G i r)) (c.R.sta G i) (c.R.stv G i).cells.toList) (entT (c.R.entAt G i r))),true,true)
 sound c i ok hil hi h:=fun o ho G w hs=>by
  have h0:=h G {} w;simp only [Prod.mk.injEq] at h0;obtain ⟨e1,e2,e3,e5,e6,e4,e7⟩:=h0;have hw:c.R.wrE r i=true:=by unfold RC.wrE;rw [Cx.upsOf hi];simp
  obtain ⟨hb,_⟩:=hs.ent r (by rw [hw];simp) _ _ e5;have C:=RC.heap_lt hb;generalize hA:entA (c.R.entAt G i r)=arr at *;generalize hB:entB (c.R.entAt G i r)=b at *;generalize hT:entT (c.R.entAt G i r)=T at *;generalize hO:c.R.sta G i=off at *;generalize hV:c.R.stv G i=u at *;unfold RC.str at e1;rw [ho] at e1;have hg:Grows (some (b,.cells arr T)) (some (b,.cells (writeA arr off u.cells.toList) T)) w (setBlk w b (.cells (writeA arr off u.cells.toList) T)) :=
   ⟨fun b' o' f=>by cases f;simp [setBlk,C],fun b' o' f=>by cases f;exact .inr ⟨_,rfl⟩,⟨rfl,rfl,rfl,by simp [setBlk],fun j hj hn=>by
    have:b≠j:=fun e=>hn (by subst e;simp)
    simp [setBlk,Array.getElem?_setIfInBounds_ne this]⟩⟩
  have A:(le (c.R.vis i (RC.put G i {}))).at none (c.J i G true) (c.J i G false):=by
   cases hle:le (c.R.vis i (RC.put G i {})) with
   | own t p m q hq=>rw [hle] at e7;simp [LE.own?] at e7
   | _=>trivial
  have hL:c.R.Left w (setBlk w b (.cells (writeA arr off u.cells.toList) T)) G i {} undef:=left_turn ok hil hi hs (g:={}) rfl rfl e5 hg e6 A rfl rfl (by rw [Cx.valOf hi]);obtain ⟨dst,op,type,pos,after,guard⟩:=o;cases op <;> simp only [Option.map_some] at e1 <;> first | cases e1 | skip
  case store t' a x =>
   simp only [Option.some.injEq,Prod.mk.injEq] at e1;obtain ⟨ht,ha,hx⟩:=e1;rw [←ht] at e2;have B:=storeCells_run (P:=P) u.cells.toList 0 off arr w hb (by have:=of_decide_eq_true e3;omega) (fun v hv=>List.all_eq_true.1 e4 v hv);have hr:(execOp (c.R.evalAt G i) { dst,op:=.store t' a x,type,pos,after,guard }).run P w=.ok .skip (setBlk w b (.cells (writeA arr off u.cells.toList) T)):=by
    simp only [Array.length_toList,Nat.add_zero] at e2 B;simp [execOp,Instr.storeAt,ha,hx,Instr.sureAddr,storeVar,run_sizeOf e2,B]
   unfold Does;rw [hr];exact ⟨{},hL⟩
end Hint

open Go
def RC.apt (R:RC) (G:Gh) (i:Nat):TypeId:=match R.apr G i with
 | some (t,_)=>t
 | none=>0
def nilOr {α:Type} [Dat α] (t:Bool) (E:TypeId) (l:List α) (s:SV):Bool→LE
 | true=>.no
 | false=>os t E l s
theorem nilOr_own {α:Type} [Dat α] {t:Bool} {E:TypeId} {l:List α} {s:SV} {z:Bool} (hz:z=true→l=[]∧s={}) {e:Ent} {N K:Heaplet} (h:(nilOr t E l s z).at e N K):OwnS E (Dat.size α) (rows l) s.v ((nilOr t E l s z).ent e)∧(∀ x ∈ l,Dat.good (bif t then N else K) x):=by
 cases z with
 | true =>
  obtain ⟨rfl,rfl⟩:=hz rfl;exact ⟨OwnS.nil _ _,fun x hx=>by cases hx⟩
 | false =>
  unfold nilOr os ow LE.at at h;cases t
  ·exact ⟨h.sl,h.good⟩
  ·exact ⟨h.sl,h.good⟩
theorem own_sv {E:TypeId} {size:Nat} {rs:List (List Value)} {v:Value} {e:Ent} (h:OwnS E size rs v e):∃ s:SV,v=s.v:=by
 rcases h.val with ⟨rfl,rfl,_⟩ | ⟨g,b,d,rfl,_⟩
 ·exact ⟨{},rfl⟩
 ·exact ⟨⟨_,_,b⟩,rfl⟩
theorem append_does {P:Program} {R:RC} {G:Gh} {i:Nat} {w:World} {o:Oper} (ho:R.ops[i]?=some o) {t E:TypeId} {size d:Nat} {rs b:List (List Value)} {v x:Value} {e:Ent} {H:Heaplet}
  (e1:R.apr G i=some (t,t,v,x)) (e2:sliceOf P t=some E) (e3:infoOf P E=some (size,d,some size)) (h:0 < size) (j:0 < d) (A:OwnS E size rs v e) (he:EntIn w e) (hx:HSlice H size b x) (hA:Agrees w H) (f:(rs.length+b.length) * d≤140737488355328) :
  ∃ v' e' w',(execOp (R.evalAt G i) o).run P w=.ok (.value v') w'∧OwnS E size (rs ++b) v' e'∧Grows e e' w w':=by
 have B:rs.length+b.length≤maxLen:=by
  have:rs.length+b.length≤(rs.length+b.length) * d:=Nat.le_mul_of_pos_right _ j
  simp only [maxLen];omega
 have hu:=slice_of e2;unfold infoOf at e3;cases hi:P.info? E with
 | none=>simp [hi] at e3
 | some inf =>
  simp only [hi,Option.map_some,Option.some.injEq,Prod.mk.injEq] at e3;obtain ⟨i1,i2,i3⟩:=e3;cases hz:inf.zero with
  | none=>simp [hz] at i3
  | some z =>
   simp only [hz,Option.map_some,Option.some.injEq] at i3;obtain ⟨v',e',w',hr,C,hg⟩:=append_run (w:=w) (ty:=o.type) hu hi hz i1 i2 i3 h A he hx hA f B;refine ⟨v',e',w',?_,C,hg⟩;unfold RC.apr at e1;rw [ho] at e1;obtain ⟨dst,op,Q,pos,D,I⟩:=o;simp only [Option.map_some] at e1;split at e1
   ·rename_i args argTypes heq
    simp only [Option.some.injEq] at heq;subst heq;split at e1
    ·rename_i x y t' u' hx ht
     simp only [Option.some.injEq,Prod.mk.injEq] at e1;obtain ⟨rfl,rfl,hv,M⟩:=e1;obtain ⟨l,rfl⟩:∃ l:List Operand,args=l.toArray:=⟨args.toList,by simp⟩;obtain ⟨l2,rfl⟩:∃ l:List TypeId,argTypes=l.toArray:=⟨argTypes.toList,by simp⟩;simp only at hx ht;subst hx ht;simp only at hr;simp [execOp,resolve,invoke,builtin,hv,M,hr]
    ·cases e1
   ·cases e1
theorem make_does {P:Program} {R:RC} {G:Gh} {i:Nat} {w:World} {o:Oper} (ho:R.ops[i]?=some o) {t E:TypeId} {size b:Nat} {n:Int} {row:List Value} (e1:R.mkr G i=some (t,.int .i64 n,.int .i64 n)) (e2:sliceOf P t=some E) (e3:zeroOf P E=some (size,b,some row)) (e7:row.length=size) (e8:row.all cell1=true)
  (H:0≤n) (j:n≤9223372036854775807) (d:b * n≤281474976710656) :
  ∃ o',(execOp (R.evalAt G i) o).run P w=.ok (.value (.slice (atB w.heap.size) n.toNat n.toNat)) { w with heap:=w.heap.push o' }∧OwnS E size (List.replicate n.toNat row) (.slice (atB w.heap.size) n.toNat n.toNat) (some (w.heap.size,o')):=by
 have hu:=slice_of e2;subst e7;unfold zeroOf at e3;cases hi:P.info? E with
 | none=>simp [hi] at e3
 | some inf =>
  simp only [hi,Option.map_some,Option.some.injEq,Prod.mk.injEq] at e3;obtain ⟨i1,i2,i3⟩:=e3;cases hz:inf.zero with
  | none=>simp [hz] at i3
  | some z =>
   simp only [hz,Option.map_some,Option.some.injEq] at i3;obtain ⟨m,rfl⟩:∃ m:Nat,n=m:=⟨n.toNat,by omega⟩;have A:m≤maxLen:=by simp only [maxLen];omega
   have h:=run_make (P:=P) w t E inf z hu hi hz .i64 .i64 m m (by omega) (Int.le_refl _) (by rw [i2];exact d) j;unfold RC.mkr at e1;rw [ho] at e1;obtain ⟨dst,op,D,pos,B,C⟩:=o;cases op <;> simp only [Option.map_some] at e1 <;> first | cases e1 | skip
   case makeSlice t' l c =>
    simp only [Option.some.injEq,Prod.mk.injEq] at e1;obtain ⟨rfl,hl,hc⟩:=e1;have f:z.cells=row.toArray:=by rw [←i3]
    rw [i1,f] at h;simp only [Int.toNat_natCast] at h ⊢;refine ⟨.cells (madeCells row.toArray (m * row.length)) E,?_,made_own (fun u hu=>List.all_eq_true.1 e8 u hu) A⟩;show _=Result.ok (Next.value (.slice (some ⟨w.heap.size,0,none⟩) m m)) (w.alloc (.cells (madeCells row.toArray (m * row.length)) E));simp [execOp,hl,hc,h]
theorem storeOwn_does {P:Program} {R:RC} {G:Gh} {i:Nat} {w:World} {o:Oper} (ho:R.ops[i]?=some o) {t E:TypeId} {size off k:Nat} {rs:List (List Value)} {row vs:List Value} {v u:Value} {e:Ent} {a:Addr} (e1:R.str G i=some (t,.pointer (some a),u)) (ha:a=(elemAddr v (k * size)).add off) (e2:sizeT P t=some vs.length) (e0:u.cells.toList=vs)
  (f:OwnS E size rs v e) (he:EntIn w e) (hk:rs[k]?=some row) (b:off+vs.length≤size) (h1:vs.all cell1=true) :
  ∃ e' w',(execOp (R.evalAt G i) o).run P w=.ok .skip w'∧OwnS E size (rs.set k (writeL row off vs)) v e'∧Grows e e' w w':=by
 subst ha;obtain ⟨e',w',h,j,hg⟩:=own_store (P:=P) (w:=w) f he hk b (fun u hu=>List.all_eq_true.1 h1 u hu);refine ⟨e',w',?_,j,hg⟩;unfold RC.str at e1;rw [ho] at e1;obtain ⟨dst,op,D,pos,A,B⟩:=o;cases op <;> simp only [Option.map_some] at e1 <;> first | cases e1 | skip
 case store t' a x =>
  simp only [Option.some.injEq,Prod.mk.injEq] at e1;obtain ⟨rfl,ha,hx⟩:=e1;have d:(R.evalAt G i x).cells.toList=vs:=by rw [hx];exact e0
  have C:(R.evalAt G i x).cells.size=vs.length:=by rw [←Array.length_toList,d]
  simp [execOp,Instr.storeAt,ha,Instr.sureAddr,storeVar,run_sizeOf e2,C,d,h]
def SV.sub (s:SV) (size lo hi:Nat):SV:=⟨if s.c=lo then s.a else s.a.map (·.add (lo * size)),hi - lo,s.c - lo⟩
theorem slice_does {P:Program} {R:RC} {G:Gh} {i:Nat} {w:World} {o:Oper} (ho:R.ops[i]?=some o) {t E:TypeId} {size n:Nat} {v:Value} {lo hi:Option Int} {l h:Int} (e1:R.slr G i=some (t,v,lo.map (.int .i64 ·),hi.map (.int .i64 ·),true)) (e2:sliceOf P t=some E) (e3:sizeT P E=some size)
  (b:l=lo.getD 0) (d:h=hi.getD n) (hv:IsSl v n) (b1:0≤l) (b2:l≤h) (b3:h≤n):(execOp (R.evalAt G i) o).run P w=.ok (.value (subV v size l.toNat h.toNat)) w:=by
 obtain ⟨a,c,rfl,_,hc⟩:=hv;have hu:=slice_of e2;unfold RC.slr at e1;rw [ho] at e1;obtain ⟨dst,op,I,pos,f,j⟩:=o;cases op <;> simp only [Option.map_some] at e1 <;> first | cases e1 | skip
 case slice t' x lo' hi' mx =>
  simp only [Option.some.injEq,Prod.mk.injEq] at e1;obtain ⟨rfl,hx,hl,hh,hm⟩:=e1;have A:mx=none:=by simpa using hm
  subst A;have B:(h:Int)≤(c:Int):=by omega
  have C:0≤h:=by omega
  have D:(Instr.sliceBounds true n c (lo'.map (R.evalAt G i)) (hi'.map (R.evalAt G i)) none).run P w=.ok (l.toNat,h.toNat,c) w:=by
   rw [hl,hh];have H:l≤(h.toNat:Int):=by omega
   cases lo <;> cases hi <;> simp only [Option.getD_none,Option.getD_some] at b d <;> subst b d <;>
    simp [Instr.sliceBounds,Instr.sliceBound,asIntOf,C,B,b1,H] <;> omega
  simp [execOp,Instr.sliceAt,underlying,hu,hx,Instr.slice,D,run_sizeOf e3,subV]
def RC.slt (R:RC) (i:Nat):TypeId:=match (R.ops[i]?).map (fun o:Oper=>o.op) with
 | some (.slice t _ _ _ _)=>t
 | _=>0
def RC.mkt (R:RC) (i:Nat):TypeId:=match (R.ops[i]?).map (fun o:Oper=>o.op) with
 | some (.makeSlice t _ _)=>t
 | _=>0
namespace Hint
variable {P : Program}
def ap {α:Type} [Dat α] {m:List α} {s2:Gh→SV} (n r:Nat) (E:TypeId) (b:Nat) (z t:Bool) (l:List α) (s:Gh→SV) (κ:Kw α m s2) (t2:Bool) (l2:List α) (hl:l2=l ++m) (hb:(l.length+m.length) * b≤140737488355328)
  (hz:z=true→l=[]∧∀ G,s G={}) (ht:(t2=true→t=true∧κ.t=true)∨∀ (H:Heaplet) (x:α),Dat.good H x):Hint P where
 d:={ val:=fun G=>(G n).s.v,news:=[(r,fun G=>os t2 E l2 (G n).s,fun G=>(G n).e)],rds:=κ.rdr }
 τ:=Option (TypeId × TypeId × Value × Value) × Option TypeId × Option (Nat × Nat × Option Nat) × Option LE × Nat × Bool × Bool × (Option (Bool × (Ent→Heaplet→Prop)) × Bool)
 lhs c i G _ _:=(c.R.apr G i,sliceOf P (c.R.apt G i),infoOf P E,c.leAt i r G,i,decide (0 < Dat.size α),decide (0 < b),κ.lhs c i G)
 rhs c i G _ _:=(some (c.R.apt G i,c.R.apt G i,(s G).v,κ.v G),some E,some (Dat.size α,b,some (Dat.size α)),some (nilOr t E l (s G) z),n,true,true,κ.rhs G)
 sound c i ok hil hi h:=fun o ho G w hs=>by
  have h0:=h G {} w;simp only [Prod.mk.injEq] at h0;obtain ⟨e1,e2,e3,e4,rfl,e6,e7,e8⟩:=h0;have hw:c.R.wrE r i=true:=by unfold RC.wrE;rw [Cx.upsOf hi];simp
  obtain ⟨en,a1,a2,a3⟩:=Cx.own_at ok hil hs e4 (by rw [hw];simp);obtain ⟨I,f⟩:=nilOr_own (fun A=>⟨(hz A).1,(hz A).2 G⟩) a2;obtain ⟨e',q1,q2,_⟩:=Src.get ok hil hs e8;have hx:=κ.rd G e' _ _ q1 (Cx.J_le hs κ.t) (entH_agrees q2);obtain ⟨v',j,w',hr,B,hg⟩:=append_does ho e1 e2 e3 (of_decide_eq_true e6) (of_decide_eq_true e7) I a3 hx.sl (fun _ _ h=>h) (by simpa using hb);obtain ⟨s',rfl⟩:=own_sv B;unfold Does;rw [hr];have hv:=Cx.vis_self (c:=c) (i:=i) (G:=G) { s:=s',e:=j };refine ⟨{ s:=s',e:=j },left_turn ok hil hi hs rfl rfl a1 hg ?_ ?_ rfl rfl ?_⟩
  ·show (c.R.vis i (RC.put G i { s:=s',e:=j }) i).e=_;rw [hv]
  ·show bif t2 then OSl E _ l2 _ _ else OSl E _ l2 _ _
   rw [hv];have C:OwnS E (Dat.size α) (rows l2) s'.v j:=by rw [hl,rows_append] at *;exact B
   have D:∀ x ∈ m,Dat.good (c.J i G κ.t) x:=κ.gd G e' _ q1;have fin:∀ x ∈ l2,Dat.good (c.J i G t2) x:=fun x hx=>by
    rcases ht with ht | ht
    ·rw [hl] at hx;rcases List.mem_append.1 hx with hx | hx
     ·cases t2 with
      | true=>have:=f x hx;rw [(ht rfl).1] at this;exact this
      | false =>
       have:=f x hx
       cases t
       ·exact this
       ·exact Dat.mono _ _ _ (Cx.J_true_le hs false) this
     ·cases t2 with
      | true=>have:=D x hx;rw [(ht rfl).2] at this;exact this
      | false=>exact Dat.mono _ _ _ (Cx.J_le_false hs _) (D x hx)
    ·exact ht _ x
   cases t2
   ·exact ⟨C,fin⟩
   ·exact ⟨C,fin⟩
  ·rw [Cx.valOf hi];show SV.v _=_;rw [hv]
def mks {α:Type} [Dat α] (n r:Nat) (E:TypeId) (b:Nat) (k:Int) (l2:List α) (hl:l2=List.replicate k.toNat default) (h0:0≤k) (f:k≤9223372036854775807) (hb:b * k≤281474976710656):Hint P where
 d:={ val:=fun G=>(G n).s.v,news:=[(r,fun G=>os true E l2 (G n).s,fun G=>(G n).e)] }
 τ:=Option (TypeId × Value × Value) × Option TypeId × Option (Nat × Nat × Option (List Value)) × Nat × List Value × Bool
 lhs c i G _ _:=(c.R.mkr G i,sliceOf P (c.R.mkt i),zeroOf P E,i,Dat.cells (default:α),(Dat.cells (default:α)).all cell1)
 rhs c i _ _ _:=(some (c.R.mkt i,.int .i64 k,.int .i64 k),some E,some (Dat.size α,b,some (Dat.cells (default:α))),n,Dat.cells (default:α),true)
 sound c i ok hil hi h:=fun o ho G w hs=>by
  have h1:=h G {} w;simp only [Prod.mk.injEq] at h1;obtain ⟨e1,e2,e3,rfl,_,e8⟩:=h1;obtain ⟨o',hr,j⟩:=make_does (w:=w) ho e1 e2 e3 (Dat.len _) e8 h0 f hb;unfold Does;rw [hr];have hv:=Cx.vis_self (c:=c) (i:=i) (G:=G) { s:=⟨atB w.heap.size,k.toNat,k.toNat⟩,e:=some (w.heap.size,o') };refine ⟨{ s:=⟨atB w.heap.size,k.toNat,k.toNat⟩,e:=some (w.heap.size,o') },left_turn ok hil hi hs rfl rfl rfl grows_push ?_ ?_ rfl rfl ?_⟩
  ·show (c.R.vis i (RC.put G i { s:=⟨atB w.heap.size,k.toNat,k.toNat⟩,e:=some (w.heap.size,o') }) i).e=_;rw [hv]
  ·show OSl E _ l2 _ _;rw [hv];refine ⟨?_,fun x hx=>?_⟩
   ·have:rows l2=List.replicate k.toNat (Dat.cells (default:α)):=by rw [hl];simp [rows]
    rw [this];exact j
   ·rw [hl] at hx;rw [(List.eq_of_mem_replicate hx:x=default)];exact Dat.zero _
  ·rw [Cx.valOf hi];show SV.v _=_;rw [hv]
def se {α:Type} [Dat α] {g:Prop} (Γ:GdI g) (n r:Nat) (E:TypeId) (t:Bool) (l:List α) (s:Gh→SV) (k:Int) (off:Option Nat) (x x':α) (hx:x=l.getD k.toNat default) (t2:Bool) (l2:List α) (hl:l2=l.set k.toNat x') (h:g→0≤k∧k < l.length)
  (ht:t2=true→t=true) (qs:List Kv) (hq:∀ G H,(∀ x ∈ l,Dat.good H x)→allR qs G H→Dat.good H x'):Hint P where
 d:={ val:=fun _=>undef,news:=[(r,fun G=>os t2 E l2 (s G),fun G=>(G n).e)] }
 τ:=Option (TypeId × Value × Value) × Option Nat × Bool × Option LE × Nat × Bool × List Value × Bool × List (Option (Bool × (Ent→Heaplet→Prop)) × Bool) × SV × Option Bool
 lhs c i G g _:=(c.R.str G i,sizeT P (c.R.stt i),decide (off.getD 0+(c.R.stv G i).cells.toList.length≤Dat.size α),c.leAt i r G,i,(c.R.stv G i).cells.toList.all cell1,Dat.cells x',tOk t2 qs,qs.map (Kv.chk c i G),s (c.R.vis i (RC.put G i g)),Γ.B.map fun _=>c.R.gd G i)
 rhs c i G _ _:=(some (c.R.stt i,.pointer (some (offA (elemAddr (s G).v (k.toNat * Dat.size α)) off)),c.R.stv G i),some (c.R.stv G i).cells.toList.length,true,some (os t E l (s G)),n,true,writeL (Dat.cells x) (off.getD 0) (c.R.stv G i).cells.toList,true,qs.map (Kv.want G),s G,Γ.B)
 sound c i ok hil hi h0:=fun o ho G w hs=>by
  have h1:=fun g=>h0 G g w
  simp only [Prod.mk.injEq] at h1;obtain ⟨e1,e2,e3,e4,rfl,e6,e7,e8,e9,_,C⟩:=h1 {};obtain ⟨b0,b1⟩:=h (Cx.gdOk Γ hs C);have hw:c.R.wrE r i=true:=by unfold RC.wrE;rw [Cx.upsOf hi];simp
  obtain ⟨en,a1,a2,a3⟩:=Cx.own_at ok hil hs e4 (by rw [hw];simp);have f:OwnS E (Dat.size α) (rows l) (s G).v en∧∀ x ∈ l,Dat.good (c.J i G t) x:=by
   unfold os ow LE.at at a2;cases t
   ·exact ⟨a2.sl,a2.good⟩
   ·exact ⟨a2.sl,a2.good⟩
  obtain ⟨b,w',hr,D,hg⟩:=storeOwn_does (w:=w) (k:=k.toNat) (row:=Dat.cells x) ho e1 (offA_eq _ _) e2 rfl f.1 a3 (get_map' (by omega) hx) (of_decide_eq_true e3) e6;unfold Does;rw [hr];have hv:=Cx.vis_self (c:=c) (i:=i) (G:=G) { e:=b };have I:=(h1 { e:=b }).2.2.2.2.2.2.2.2.2.1;refine ⟨{ e:=b },left_turn ok hil hi hs rfl rfl a1 hg ?_ ?_ rfl rfl (by rw [Cx.valOf hi])⟩
  ·show (c.R.vis i (RC.put G i { e:=b }) i).e=_;rw [hv]
  ·show bif t2 then OSl E _ l2 _ _ else OSl E _ l2 _ _
   rw [hv,I];have j:OwnS E (Dat.size α) (rows l2) (s G).v b:=by
    have:rows l2=(rows l).set k.toNat (writeL (Dat.cells x) (off.getD 0) (c.R.stv G i).cells.toList):=by rw [hl,← e7];simp [rows,List.map_set]
    rw [this];exact D
   have A:∀ x ∈ l,Dat.good (c.J i G t2) x:=fun y hy=>by
    cases t2 with
    | true=>rw [←ht rfl];exact f.2 y hy
    | false=>exact Dat.mono _ _ _ (Cx.J_le_false hs _) (f.2 y hy)
   have fin:∀ x ∈ l2,Dat.good (c.J i G t2) x:=fun y hy=>by
    rw [hl] at hy;rcases List.mem_or_eq_of_mem_set hy with hy | hy
    ·exact A y hy
    ·rw [hy];exact hq G _ A (allR_of ok hil hs e9 e8)
   cases t2
   ·exact ⟨j,fin⟩
   ·exact ⟨j,fin⟩
def sl {α:Type} [Dat α] {l:List α} {s:Gh→SV} {g:Prop} (Γ:GdI g) (κ:Kw α l s) (hf:κ.f=true) (lo hi:Option Int) (a b:Int) (ha:a=lo.getD 0) (hb:b=hi.getD l.length) (l2:List α) (hl:l2=(l.take b.toNat).drop a.toNat) (h:g→0≤a∧a≤b∧b≤l.length):Hint P where
 d:={ val:=fun G=>((s G).sub (Dat.size α) a.toNat b.toNat).v,facts:=fun G=>[fs κ.t l2 ((s G).sub (Dat.size α) a.toNat b.toNat)],rds:=κ.rdr }
 τ:=Option (TypeId × Value × Option Value × Option Value × Bool) × Option Nat × SV × Option Bool × (Option (Bool × (Ent→Heaplet→Prop)) × Bool)
 lhs c i G g _:=(c.R.slr G i,(sliceOf P (c.R.slt i)).bind (sizeT P),s (c.R.vis i (RC.put G i g)),Γ.B.map fun _=>c.R.gd G i,κ.lhs c i G)
 rhs c i G _ _:=(some (c.R.slt i,κ.v G,lo.map (.int .i64 ·),hi.map (.int .i64 ·),true),some (Dat.size α),s G,Γ.B,κ.rhs G)
 sound c i ok hil hi h0:=fun o ho G w hs=>by
  have h1:=h0 G {} w;simp only [Prod.mk.injEq] at h1;obtain ⟨e1,e2,e3,e4,e5⟩:=h1;obtain ⟨b0,b1,b2⟩:=h (Cx.gdOk Γ hs e4);simp only [Option.bind_eq_some_iff] at e2;obtain ⟨E,e2,e6⟩:=e2;obtain ⟨en,q1,q2,_⟩:=Src.get ok hil hs e5;have hr:=κ.rj hf G en _ q1;have C:=slice_does (w:=w) ho e1 e2 e6 ha hb hr.isSl b0 b1 b2;unfold Does;rw [C];obtain ⟨a1,a2,_⟩:=ahead ok hil hs (g:={}) no_H;refine ⟨{},left_grow ok hil hi hs rfl (Base.refl _ _) (fun b o h=>by cases h) no_H (fun f A=>?_) trivial ?_⟩
  ·have A:f=fs κ.t l2 ((s (c.R.vis i (RC.put G i {}))).sub (Dat.size α) a.toNat b.toNat):=by simpa using A
   rw [e3] at A;subst A;have j:=hr.sub (lo:=a.toNat) (hi:=b.toNat) (by omega) (by omega);rw [←hl] at j;have D:∀ H,RSl H l2 (subV (κ.v G) (Dat.size α) a.toNat b.toNat)→RSl H l2 ((s G).sub (Dat.size α) a.toNat b.toNat).v:=fun H hh=>hh
   show bif κ.t then _ else _
   generalize κ.t=t at *;cases t
   ·exact (D _ j).mono a2
   ·exact (D _ j).mono a1
  ·rw [Cx.valOf hi];show SV.v _=_;rw [e3];rfl
def ln {α:Type} [Dat α] {l:List α} {s:Gh→SV} (κ:Kw α l s):Hint P where
 d:={ val:=fun _=>.int .i64 (l.length:Int),rds:=κ.rdr }
 τ:=(World→Option (Result Next)) × Value × (Option (Bool × (Ent→Heaplet→Prop)) × Bool)
 lhs c i G _ _:=(fun w=>c.R.ex P G i w,c.R.val i (RC.put G i {}),κ.lhs c i G)
 rhs _ _ G _ _:=(fun w=>some (.ok (.value (.int .i64 ((s G).n:Int))) w),.int .i64 (l.length:Int),κ.rhs G)
 sound c i ok hil hi h0:=fun o ho G w hs=>by
  have h1:=h0 G {} w;simp only [Prod.mk.injEq] at h1;obtain ⟨e1,e2,e3⟩:=h1;have e1:=congrFun e1 w;simp only [RC.ex,ho,Option.map_some,Option.some.injEq] at e1;have hr:=κ.read ok hil hs e3;obtain ⟨a,c',e,_⟩:=hr.isSl;have hn:(s G).n=l.length:=by
   unfold Kw.v SV.v at e
   injection e
  rw [hn] at e1;exact still_does hi rfl (fun g=>conj_nil hi rfl (fun _=>⟨rfl,rfl⟩) _) e1 e2
end Hint

open Go
def blks (es:List Ent):List Nat:=es.filterMap (·.map (·.1))
def Kv.fp (G:Gh) (q:Kv):FP:=fs true (q.l G) (q.s G)
structure CPost (w w':World) (H:Heaplet) (d:List Ent) (V:Rec→Value) (F':Rec→List FP) (L':Rec→List LE) (pu:Rec→List Prop) (e:Ending) (g:Rec):Prop where
 ret:e=.returned (V g)
 base:Base (blks d) w w'
 agr:Agrees w' g.H
 new:New w g.H
 facts:∀ f ∈ F' g,f.at g.H (hun g.H H)
 ent:∀ (k b:Nat) (o:Obj),(ents (L' g) g.es)[k]?=some (some (b,o))→w'.heap[b]?=some o∧(w.heap.size≤b∨b ∈ blks d)∧g.H b=none
 dis:∀ (k l b:Nat) (o o':Obj),(ents (L' g) g.es)[k]?=some (some (b,o))→(ents (L' g) g.es)[l]?=some (some (b,o'))→k=l
 own:∀ (k:Nat) (x:LE),(L' g)[k]?=some x→x.at (g.es k) g.H (hun g.H H)
 pu:conjL (pu g)
def Ct (P:Program) (f:FuncId) (b:Array Value) (F:List FP) (L:List LE) (V:Rec→Value) (F':Rec→List FP) (L':Rec→List LE) (pu:Rec→List Prop):Prop :=
 ∀ (w:World) (H:Heaplet) (ε:Nat→Ent),Agrees w H→(∀ q ∈ F,q.p H)→StW w (blks (ents L ε)) [H] (ents L ε) w→(∀ (r:Nat) (x:LE),L[r]?=some x→x.at (ε r) H H) →
  Calls P f b w fun e w'=>∃ g,CPost w w' H (ents L ε) V F' L' pu e g
abbrev Cp (P:Program) (f:FuncId) (b:Array Value) (F:List FP) (v:Value):Prop:=Ct P f b F [] (fun _=>v) (fun _=>[]) (fun _=>[]) (fun _=>[])
def LE.drop:LE→LE
 | .own _ p m q hq=>.own false p m q hq
 | x=>x
def newsOf (n:Nat) (L':Gh→Rec→List LE):List Nat→Nat→List (Nat × (Gh→LE) × (Gh→Ent))
 | [],_=>[]
 | r :: l,k=>(r,(fun G=>((L' G (G n))[k]?).getD .no),fun G=>(G n).es k) :: newsOf n L' l (k+1)
theorem newsOf_mem {n:Nat} {L':Gh→Rec→List LE}:∀ {rs:List Nat} {k0:Nat} {q:Nat × (Gh→LE) × (Gh→Ent)},q ∈ newsOf n L' rs k0→∃ k,rs[k]?=some q.1∧q.2.1=(fun G=>((L' G (G n))[k0+k]?).getD .no)∧q.2.2=fun G=>(G n).es (k0+k)
 | r :: l,k0,q,h=>by
  rcases List.mem_cons.1 h with rfl | h
  ·exact ⟨0,rfl,rfl,rfl⟩
  ·obtain ⟨k,h1,h2,h3⟩:=newsOf_mem h;exact ⟨k+1,h1,by rw [h2];funext G;rw [show k0+1+k=k0+(k+1) by omega],by rw [h3];funext G;rw [show k0+1+k=k0+(k+1) by omega]⟩
theorem newsOf_fst {n:Nat} {L':Gh→Rec→List LE}:∀ {rs:List Nat} {k0:Nat},(newsOf n L' rs k0).map (·.1)=rs
 | [],_=>rfl
 | r :: l,k0=>by simp [newsOf,newsOf_fst]
theorem ents_ent {L:List LE} {ε:Nat→Ent} {k:Nat}:(((ents L ε)[k]?).getD none)=((L[k]?).getD .no).ent (ε k):=by
 rw [ents_get];cases L[k]? <;> rfl
def wholeBut (w:World) (bs:List Nat):Heaplet:=fun b=>if b ∈ bs then none else w.heap[b]?
theorem JV_none {G:Gh} {B:Heaplet} {b:Nat} (hB:B b=none):∀ n,(∀ j,j < n→(G j).H b=none)→JV G B n b=none
 | 0,_=>hB
 | n+1,h=>by simp only [JV,hun,h n (by omega),JV_none hB n fun j hj=>h j (by omega)]
theorem sub_but {w:World} {H:Heaplet} {bs:List Nat} (h:Sub H (whole w)) (k:∀ b ∈ bs,H b=none):Sub H (wholeBut w bs):=fun b o e=>by
 unfold wholeBut;split
 ·rename_i hb;rw [k b hb] at e;cases e
 ·exact h b o e
def srcNot (rs:List Nat):Src→Bool
 | .o r=>!rs.contains r
 | _=>true
def LE.tag:LE→Bool
 | .own t _ _ _ _=>t
 | _=>true
def nodup:List Nat→Bool
 | []=>true
 | a :: l=>!l.contains a && nodup l
theorem nodup_inj:∀ {l:List Nat},nodup l=true→∀ {i j x:Nat},l[i]?=some x→l[j]?=some x→i=j
 | a :: l,h,0,0,x,_,_=>rfl
 | a :: l,h,0,j+1,x,h1,h2=>by
  simp at h1;subst h1;simp only [nodup,Bool.and_eq_true,Bool.not_eq_true',List.getElem?_cons_succ] at h h2
  have:=List.mem_of_getElem? h2
  simp [this] at h
 | a :: l,h,i+1,0,x,h1,h2=>by
  simp at h2;subst h2;simp only [nodup,Bool.and_eq_true,Bool.not_eq_true',List.getElem?_cons_succ] at h h1
  have:=List.mem_of_getElem? h1
  simp [this] at h
 | a :: l,h,i+1,j+1,x,h1,h2=>by
  simp only [nodup,Bool.and_eq_true] at h
  have:=nodup_inj h.2 (i:=i) (j:=j) (by simpa using h1) (by simpa using h2)
  omega
def qrds:List Kv→List Nat
 | []=>[]
 | q :: l=>q.κ.rdr ++qrds l
theorem qrds_mem {q:Kv} {r:Nat}:∀ {qs:List Kv},q ∈ qs→q.κ.src=.o r→r ∈ qrds qs
 | q' :: l,h,hs=>by
  unfold qrds;rcases List.mem_cons.1 h with rfl | h
  ·simp [Kq.rdr,hs]
  ·exact List.mem_append_right _ (qrds_mem h hs)
def sideOk (ex:Bool) (rs ns:List Nat) (qs:List Kv) (F':List FP) (L':List LE):Bool :=
 nodup (rs ++ns) && (L'.length == (rs ++ns).length) && qs.all (fun q=>srcNot rs q.κ.src) && (bif ex then qs.all (fun q=>q.κ.f) else F'.all (·.t) && L'.all LE.tag)
namespace Hint
variable {P : Program}
def call {g:Prop} (Γ:GdI g) (n f:Nat) (ex:Bool) (rs ns:List Nat) (qs:List Kv) (ae:Gh→Array Value) (L:Gh→List LE) (V:Gh→Rec→Value) (F':Gh→Rec→List FP) (L':Gh→Rec→List LE) (pu:Gh→Rec→List Prop)
  (ct:g→∀ G,Ct P f (ae G) (qs.map (Kv.fp G)) (L G) (V G) (F' G) (L' G) (pu G)):Hint P where
 d:={ val:=fun G=>V G (G n),facts:=fun G=>F' G (G n),news:=newsOf n L' (rs ++ns) 0,rds:=qrds qs,pu:=fun G=>pu G (G n) }
 τ:=Option (Result Next) × Nat × Value × List FP × List LE × List Prop × List (Option LE) × List (Option (Bool × (Ent→Heaplet→Prop)) × Bool) × Bool × Option Bool
 lhs c i G g w:=(c.R.ex P G i w,i,V (c.R.vis i (RC.put G i g)) g,F' (c.R.vis i (RC.put G i g)) g,L' (c.R.vis i (RC.put G i g)) g,pu (c.R.vis i (RC.put G i g)) g,rs.map (fun r=>(c.leAt i r G).map LE.drop),qs.map (Kv.chk c i G),sideOk ex rs ns qs (F' G g) (L' G g),Γ.B.map fun _=>c.R.gd G i)
 rhs _ _ G g w:=(some (.ok (.enter f (ae G)) w),n,V G g,F' G g,L' G g,pu G g,(L G).map some,qs.map (Kv.want G),true,Γ.B)
 sound c i ok hil hi h:=fun o ho G w hs=>by
  have h0:=h G {} w;simp only [Prod.mk.injEq,RC.ex,ho,Option.map_some,Option.some.injEq] at h0;obtain ⟨e1,rfl,_,_,_,_,e7,e8,_,ax⟩:=h0;have ay:=ct (Cx.gdOk Γ hs ax) G;have hup:=Cx.upsOf hi;have Q:(c.R.ups i).map (·.1)=rs ++ns:=by rw [hup,List.map_map];exact newsOf_fst
  have E:∀ r ∈ rs,c.R.wrE r i=true:=fun r hr=>by
   have:r ∈ (c.R.ups i).map (·.1):=by rw [Q];exact List.mem_append_left _ hr
   obtain ⟨p,hp,rfl⟩:=List.mem_map.1 this;exact List.any_eq_true.2 ⟨p,hp,by simp⟩
  let olds:=rs.map (c.R.entAt G i)
  let ε:Nat→Ent:=fun k=>c.R.entAt G i (rs.getD k 0)
  have aJ:(L G).length=rs.length:=by have:=congrArg List.length e7;simpa using this.symm
  have an:∀ k r:Nat,rs[k]?=some r→∃ x',c.leAt i r G=some x'∧(L G)[k]?=some x'.drop:=fun k r hk=>by
   have:=congrArg (fun l:List (Option LE)=>l[k]?) e7
   simp only [List.getElem?_map,hk,Option.map_some] at this;cases hl:(L G)[k]? with
   | none=>rw [hl] at this;cases this
   | some x =>
    rw [hl] at this;simp only [Option.map_some,Option.some.injEq,Option.map_eq_some_iff] at this;obtain ⟨x',h1,h2⟩:=this;exact ⟨x',h1,by rw [h2]⟩
  have ah:∀ (x:LE) e,x.drop.ent e=x.ent e:=fun x e=>by cases x <;> rfl
  have X:ents (L G) ε=olds:=by
   refine List.ext_getElem? fun k=>?_;rw [ents_get]
   show _=(rs.map (c.R.entAt G i))[k]?;rw [List.getElem?_map];cases hk:rs[k]? with
   | none =>
    have:(L G)[k]?=none:=by rw [List.getElem?_eq_none_iff] at hk ⊢;omega
    rw [this];rfl
   | some r =>
    obtain ⟨x',h1,h2⟩:=an k r hk;obtain ⟨e,a1,_,_⟩:=Cx.own_at ok hil hs h1 (by rw [E r (List.mem_of_getElem? hk)];simp);have hε:ε k=c.R.entAt G i r:=by show c.R.entAt G i (rs.getD k 0)=_;rw [List.getD_eq_getElem?_getD,hk];rfl
    rw [h2];simp only [Option.map_some,Option.some.injEq];rw [ah,hε,a1];cases x' <;> rfl
  have ai:∀ g,sideOk ex rs ns qs (F' G g) (L' G g)=true:=fun g=>by
   have:=h G g w
   simp only [Prod.mk.injEq] at this;exact this.2.2.2.2.2.2.2.2.1
  have aj:=ai {};unfold sideOk at aj;simp only [Bool.and_eq_true] at aj;obtain ⟨⟨⟨az,_⟩,hsrc⟩,hex⟩:=aj;have A:∀ b ∈ blks olds,∃ r ∈ rs,∃ o,c.R.entAt G i r=some (b,o):=fun b hb=>by
   obtain ⟨x,hx,Y⟩:=List.mem_filterMap.1 hb;obtain ⟨r,hr,rfl⟩:=List.mem_map.1 hx;cases he:c.R.entAt G i r with
   | none=>rw [he] at Y;cases Y
   | some p=>rw [he] at Y;simp at Y;subst Y;exact ⟨r,hr,p.2,he⟩
  have af:=fun r hr=>hs.ent r (by rw [E r hr];simp)
  have D:∀ t,∀ b ∈ blks olds,c.J i G t b=none:=fun t b hb=>by
   obtain ⟨r,hr,o',he⟩:=A b hb;obtain ⟨_,_,h3,h4⟩:=af r hr b o' he;refine JV_none ?_ _ fun j _=>?_
   ·have hK:hun c.N c.H b=none:=h3 _ (by show _ ∈ [_];simp);cases t
    ·exact hK
    ·cases hN:c.N b with
     | none=>exact hN
     | some o''=>unfold hun at hK;rw [hN] at hK;cases hK
   ·unfold Cx.pre;cases ab:c.R.bef i j with
    | false=>rfl
    | true=>exact h4 j ab
  let Hc:Heaplet:=bif ex then c.J i G false else wholeBut w (blks olds)
  have ac:∀ t,Sub (c.J i G t) Hc:=fun t=>by
   cases hx:ex with
   | true=>show Sub _ (bif ex then _ else _);rw [hx];exact Cx.J_le_false hs t
   | false=>show Sub _ (bif ex then _ else _);rw [hx];exact sub_but (Cx.J_le hs t) (D t)
  have ao:Agrees w Hc:=by
   cases hx:ex with
   | true=>show Agrees w (bif ex then _ else _);rw [hx];exact Cx.J_le hs false
   | false =>
    show Agrees w (bif ex then _ else _);rw [hx];intro b o e;simp only [cond_false,wholeBut] at e;split at e
    ·cases e
    ·exact e
  have aA:∀ b ∈ blks olds,Hc b=none:=fun b hb=>by
   cases hx:ex with
   | true=>show (bif ex then _ else _:Heaplet) b=none;rw [hx];exact D false b hb
   | false=>show (bif ex then _ else _:Heaplet) b=none;rw [hx];simp only [cond_false,wholeBut];rw [if_pos hb]
  have ad:∀ q ∈ qs.map (Kv.fp G),q.p Hc:=fun p hp=>by
   obtain ⟨q,hq,rfl⟩:=List.mem_map.1 hp;have hm:q.κ.src.what c i G=(some (q.κ.t,q.κ.p G),true):=map_eq e8 q hq;obtain ⟨e,a1,a2,a3,a4⟩:=Src.get ok hil hs hm;cases hx:ex with
   | true =>
    rw [hx] at hex;simp only [cond_true] at hex;exact (q.κ.rj (List.all_eq_true.1 hex q hq) G e _ a1).mono (ac _)
   | false =>
    refine q.κ.rd G e _ _ a1 (ac _) ?_;show Sub _ (bif ex then _ else _);rw [hx];refine sub_but (entH_agrees a2) fun b hb=>?_;by_cases I:∃ r,q.κ.src=.o r
    ·obtain ⟨r,I⟩:=I;have hE:=a3 r I;have hr:r ∉ rs:=by
      have:=List.all_eq_true.1 hsrc q hq
      rw [I] at this
      simpa [srcNot] using this
     obtain ⟨r',M,o',he⟩:=A b hb;cases hne:entH e b with
     | none=>rfl
     | some o'' =>
      exfalso;have aB:c.R.entAt G i r=some (b,o''):=by
       rw [hE];cases e with
       | none=>cases hne
       | some p =>
        unfold entH at hne;simp only at hne;split at hne
        ·rename_i hbe;subst hbe;cases hne;rfl
        ·cases hne
      have aC:((c.R.c i).rds.contains r || c.R.wrE r i)=true:=by
       rw [Cx.c_of hi]
       have:(qrds qs).contains r=true:=by simpa using qrds_mem hq I
       show ((qrds qs).contains r || _)=true;rw [this];rfl
      have:=hs.dis r r' b o'' o' aC (by rw [E r' M];simp) aB he
      subst this;exact hr M
    ·rw [a4 fun r hr=>I ⟨r,hr⟩];rfl
  have aD:StW w (blks olds) [Hc] olds w:=by
   refine ⟨Base.refl _ _,fun K hK=>?_,fun k b o hk=>?_,fun k l b o o' hk hl=>?_⟩
   ·have:K=Hc:=by simpa using hK
    subst this;exact ao
   ·have hm:some (b,o) ∈ olds:=List.mem_of_getElem? hk;obtain ⟨r,hr,he⟩:=List.mem_map.1 hm;have aq:b ∈ blks olds:=List.mem_filterMap.2 ⟨_,hm,rfl⟩;refine ⟨(af r hr b o he).1,.inr aq,fun K hK=>?_⟩
    have:K=Hc:=by simpa using hK
    subst this;exact aA b aq
   ·have h1:(rs.map (c.R.entAt G i))[k]?=some (some (b,o)):=hk;have h2:(rs.map (c.R.entAt G i))[l]?=some (some (b,o')):=hl;simp only [List.getElem?_map,Option.map_eq_some_iff] at h1 h2;obtain ⟨r,hr,he⟩:=h1;obtain ⟨r',M,aE⟩:=h2;have hm:=List.mem_of_getElem? hr;have aF:=List.mem_of_getElem? M
    have:=hs.dis r r' b o o' (by rw [E r hm];simp) (by rw [E r' aF];simp) he aE
    subst this;refine nodup_inj (l:=rs ++ns) az (x:=r) ?_ ?_
    ·rw [List.getElem?_append_left (List.getElem?_eq_some_iff.1 hr).1];exact hr
    ·rw [List.getElem?_append_left (List.getElem?_eq_some_iff.1 M).1];exact M
  have au:∀ (k:Nat) (x:LE),(L G)[k]?=some x→x.at (ε k) Hc Hc:=fun k x hx=>by
   have hk:k < rs.length:=by have:=(List.getElem?_eq_some_iff.1 hx).1;omega
   have av:rs[k]?=some rs[k]:=List.getElem?_eq_getElem hk;obtain ⟨x',h1,h2⟩:=an k _ av;rw [hx] at h2;cases h2;obtain ⟨e,a1,a2,_⟩:=Cx.own_at ok hil hs h1 (by rw [E _ (List.getElem_mem hk)];simp);have hε:ε k=c.R.entAt G i rs[k]:=by show c.R.entAt G i (rs.getD k 0)=_;rw [List.getD_eq_getElem?_getD,av];rfl
   cases x' with
   | own t p m q hq =>
    rw [hε,a1];show p e Hc;cases t
    ·exact m _ _ _ (ac false) a2
    ·exact m _ _ _ (ac true) a2
   | _=>trivial
  have Z:=ay w Hc ε ao ad (by rw [X];exact aD) au;rw [X] at Z;unfold Does;rw [e1];refine Z.mono ?_;rintro e w' ⟨g,C⟩;refine ⟨_,C.ret,g,?_⟩;have hg:=h G g w;simp only [Prod.mk.injEq] at hg;obtain ⟨_,_,f1,f2,f3,f4,_,_,f5,_⟩:=hg;unfold sideOk at f5;simp only [Bool.and_eq_true,beq_iff_eq] at f5;obtain ⟨⟨⟨_,aK⟩,_⟩,hex'⟩:=f5;have hv:=Cx.vis_self (c:=c) (i:=i) (G:=G) g;obtain ⟨a1,a2,a3,a4⟩:=ahead ok hil hs C.new;have aw:ex=true→Sub (hun g.H Hc) (JV (c.R.vis i (RC.put G i g)) (hun c.N c.H) c.ops.size):=fun hx=>hun_sub a4 (by
   show Sub (bif ex then _ else _) _;rw [hx];exact a2)
  have ak:∀ k:Nat,(((L' (c.R.vis i (RC.put G i g)) g)[k]?).getD .no).ent (g.es k)=((ents (L' G g) g.es)[k]?).getD none:=fun k=>by rw [f3,ents_ent]
  have al:∀ p ∈ c.R.ups i,∃ k:Nat,(rs ++ns)[k]?=some p.1∧p.2 (RC.put G i g)=((ents (L' G g) g.es)[k]?).getD none:=fun p hp=>by
   rw [hup] at hp;obtain ⟨q,hq,rfl⟩:=List.mem_map.1 hp;obtain ⟨k,h1,h2,h3⟩:=newsOf_mem hq;refine ⟨k,h1,?_⟩;show (q.2.1 _).ent (q.2.2 _)=_;rw [h2,h3,← ak k];simp only [hv,Nat.zero_add]
  refine ⟨?_,fact_of ok hil hi hs C.new (fun f hf=>?_) (fun q hq=>?_) ?_,?_,C.agr,C.new,fun p hp b o hb=>?_,fun p hp q hq b o o' hb ab=>?_⟩
  ·rw [Cx.valOf hi];show _=V _ (c.R.vis i (RC.put G i g) i);rw [hv,f1]
  ·have am:f ∈ F' (c.R.vis i (RC.put G i g)) (c.R.vis i (RC.put G i g) i):=hf;rw [hv,f2] at am;have hc:=C.facts f am;unfold FP.at at hc ⊢;cases ht:f.t with
   | true=>rw [ht] at hc;exact f.m _ _ a3 hc
   | false =>
    rw [ht] at hc;cases hx:ex with
    | true=>exact f.m _ _ (aw hx) hc
    | false =>
     rw [hx] at hex';simp only [cond_false,Bool.and_eq_true] at hex'
     have:=List.all_eq_true.1 hex'.1 f am
     rw [ht] at this;cases this
  ·obtain ⟨k,h1,h2,h3⟩:=newsOf_mem hq;rw [h2,h3];simp only [hv,Nat.zero_add];rw [f3];cases hk:(L' G g)[k]? with
   | none=>trivial
   | some x =>
    have hc:=C.own k x hk;simp only [Option.getD_some];cases x with
    | own t p m q hq =>
     cases t with
     | true=>exact m _ _ _ a3 hc
     | false =>
      cases hx:ex with
      | true=>exact m _ _ _ (aw hx) hc
      | false =>
       rw [hx] at hex';simp only [cond_false,Bool.and_eq_true] at hex'
       have:=List.all_eq_true.1 hex'.2 _ (List.mem_of_getElem? hk)
       simp [LE.tag] at this
    | _=>trivial
  ·show conjL (pu _ (c.R.vis i (RC.put G i g) i));rw [hv,f4];exact C.pu
  ·refine ⟨C.base.os,C.base.tape,C.base.output,C.base.size,fun b hb aG=>C.base.keep b hb fun hm=>aG ?_⟩;obtain ⟨r,hr,o',he⟩:=A b hm
   have:r ∈ (c.R.ups i).map (·.1):=by rw [Q];exact List.mem_append_left _ hr
   obtain ⟨p,hp,aH⟩:=List.mem_map.1 this;exact List.mem_filterMap.2 ⟨p,hp,by rw [aH,he];rfl⟩
  ·obtain ⟨k,h1,h2⟩:=al p hp;rw [h2] at hb;cases hk:(ents (L' G g) g.es)[k]? with
   | none=>rw [hk] at hb;cases hb
   | some x =>
    rw [hk] at hb;simp only [Option.getD_some] at hb;subst hb;obtain ⟨b1,b2,b3⟩:=C.ent k b o hk;refine ⟨b1,?_,b3⟩;rcases b2 with b2 | b2
    ·exact .inl b2
    ·obtain ⟨r,hr,o',he⟩:=A b b2
     have:r ∈ (c.R.ups i).map (·.1):=by rw [Q];exact List.mem_append_left _ hr
     obtain ⟨q,hq,aI⟩:=List.mem_map.1 this;exact .inr ⟨q,hq,o',by rw [aI];exact he⟩
  ·obtain ⟨k,h1,h2⟩:=al p hp;obtain ⟨l,h3,h4⟩:=al q hq;rw [h2] at hb;rw [h4] at ab;have get:∀ (k b:Nat) (o:Obj),((ents (L' G g) g.es)[k]?).getD none=some (b,o)→(ents (L' G g) g.es)[k]?=some (some (b,o)):=fun k b o hh=>by
    cases hk:(ents (L' G g) g.es)[k]? with
    | none=>rw [hk] at hh;cases hh
    | some x=>rw [hk] at hh;simp only [Option.getD_some] at hh;rw [hh]
   have:=C.dis k l b o o' (get k b o hb) (get l b o' ab)
   subst this;rw [h1] at h3;exact Option.some.inj h3
end Hint

open Go
inductive Fr where
 | seq (c:Code)
 | block (id:Nat)
 | rnd (Z:Act→World→Prop)
 | rndN (c:Code) (n:Nat)
section
variable (P : Program) (Q : Exit → Act → World → Prop)
def run:List Fr→Exit→Act→World→Prop
 | []=>Q
 | .seq c :: K=>Exit.then (fun a w=>c.wp P (run K) a w) (run K)
 | .block id :: K=>Exit.inBlock id (run K)
 | .rnd Z :: K=>Exit.then Z (run K)
 | .rndN c n :: K=>Exit.then (Code.rounds P c (run K) n) (run K)
inductive Stop where
 | reg (id:Nat) (ops:Array Oper) (d:Bool) (K:List Fr)
 | cond (c:Operand) (x y:Code) (K:List Fr)
 | loop (b:Code) (K:List Fr)
 | rnd (Z:Act→World→Prop) (K:List Fr)
 | rndN (c:Code) (n:Nat) (K:List Fr)
 | fin (e:Exit)
 | no
def Stop.wp:Stop→Act→World→Prop
 | .reg id ops d K=>(Code.region id ops d).wp P (run P Q K)
 | .cond c x y K=>(Code.cond c x y).wp P (run P Q K)
 | .loop b K=>(Code.loop b).wp P (run P Q K)
 | .rnd Z _=>Z
 | .rndN c n K=>Code.rounds P c (run P Q K) n
 | .fin e=>Q e
 | .no=>fun _ _=>False
end
def norm:Nat→Code ⊕ Exit→List Fr→Stop
 | 0,_,_=>.no
 | n+1,.inl c,K=>match c with
  | .seq x y=>norm n (.inl x) (.seq y :: K)
  | .block id x=>norm n (.inl x) (.block id :: K)
  | .skip=>norm n (.inr .normal) K
  | .ret=>norm n (.inr .ret) K
  | .exit i=>norm n (.inr (.exit i)) K
  | .region id ops d=>.reg id ops d K
  | .cond c x y=>.cond c x y K
  | .loop b=>.loop b K
  | _=>.no
 | n+1,.inr e,K=>match K with
  | []=>.fin e
  | .seq c :: K=>match e with
   | .normal=>norm n (.inl c) K
   | .ret=>norm n (.inr .ret) K
   | .exit i=>norm n (.inr (.exit i)) K
   | _=>.no
  | .block id :: K=>match e with
   | .normal=>norm n (.inr .normal) K
   | .ret=>norm n (.inr .ret) K
   | .exit i=>bif Nat.beq i id then norm n (.inr .normal) K else norm n (.inr (.exit i)) K
   | _=>.no
  | .rnd Z :: K=>match e with
   | .normal=>.rnd Z K
   | .ret=>norm n (.inr .ret) K
   | .exit i=>norm n (.inr (.exit i)) K
   | _=>.no
  | .rndN c m :: K=>match e with
   | .normal=>.rndN c m K
   | .ret=>norm n (.inr .ret) K
   | .exit i=>norm n (.inr (.exit i)) K
   | _=>.no
section
variable {P : Program} {Q : Exit → Act → World → Prop}
def wpx (P:Program) (Q:Exit→Act→World→Prop) (x:Code ⊕ Exit) (K:List Fr):Act→World→Prop:=match x with
 | .inl c=>c.wp P (run P Q K)
 | .inr e=>run P Q K e
theorem norm_sound:∀ n (x:Code ⊕ Exit) K a w,(norm n x K).wp P Q a w→wpx P Q x K a w
 | 0,_,_,_,_,h=>h.elim
 | n+1,.inl c,K,a,w,h=>by
  cases c <;> simp only [norm] at h <;> first | exact h.elim | exact h | skip
  case skip=>exact wp_skip (norm_sound n _ _ _ _ h)
  case seq x y=>exact wp_seq (norm_sound n _ _ _ _ h)
  case block id x=>exact wp_block (norm_sound n _ _ _ _ h)
  case exit i=>exact wp_exit (norm_sound n _ _ _ _ h)
  case ret=>exact wp_ret (norm_sound n _ _ _ _ h)
 | n+1,.inr e,K,a,w,h=>by
  cases K with
  | nil=>exact h
  | cons f K =>
   cases f with
   | seq c=>cases e <;> simp only [norm] at h <;> first | exact h.elim | (have:=norm_sound n _ _ _ _ h;exact this)
   | rndN c m=>cases e <;> simp only [norm] at h <;> first | exact h.elim | exact h | (have:=norm_sound n _ _ _ _ h;exact this)
   | rnd Z=>cases e <;> simp only [norm] at h <;> first | exact h.elim | exact h | (have:=norm_sound n _ _ _ _ h;exact this)
   | block id =>
    cases e <;> simp only [norm] at h <;> first | exact h.elim | skip
    case normal=>have:=norm_sound n _ _ _ _ h;exact this
    case ret=>have:=norm_sound n _ _ _ _ h;exact this
    case exit i =>
     show if i=id then _ else _
     by_cases hi:i=id
     ·rw [if_pos hi]
      have:Nat.beq i id=true:=by subst hi;exact Nat.beq_refl i
      rw [this] at h
      have:=norm_sound n _ _ _ _ h;exact this
     ·rw [if_neg hi]
      have:Nat.beq i id=false:=by
       cases hb:Nat.beq i id with
       | false=>rfl
       | true=>exact absurd (Nat.eq_of_beq_eq_true hb) hi
      rw [this] at h
      have:=norm_sound n _ _ _ _ h;exact this
end
structure Env (P:Program) where
 nt:Nat
 w0:World
 X:List Nat
 H:Heaplet
 Q:Exit→Act→World→Prop
 mo:P.follows .mixedOrders=true
def V {P:Program} (E:Env P) (S:Stop) (t:St):Prop:=∀ N ε a w,t.In E.nt E.w0 E.X E.H N ε a w→S.wp P E.Q a w
namespace Stop
def rid:Stop→Nat
 | .reg id _ _ _=>id
 | _=>0
def ops:Stop→Array Oper
 | .reg _ ops _ _=>ops
 | _=>#[]
def dr:Stop→Bool
 | .reg _ _ d _=>d
 | _=>false
def K:Stop→List Fr
 | .reg _ _ _ K=>K
 | .cond _ _ _ K=>K
 | .loop _ K=>K
 | .rnd _ K=>K
 | .rndN _ _ K=>K
 | _=>[]
def x:Stop→Code
 | .cond _ x _ _=>x
 | .loop b _=>b
 | .rndN c _ _=>c
 | _=>.skip
def y:Stop→Code
 | .cond _ _ y _=>y
 | _=>.skip
def cn:Stop→Operand
 | .cond c _ _ _=>c
 | _=>.const undef
def next (S:Stop):Stop:=norm 200 (.inr .normal) S.K
def inX (S:Stop):Stop:=norm 200 (.inl S.x) S.K
def inY (S:Stop):Stop:=norm 200 (.inl S.y) S.K
end Stop
section
variable {P : Program}
def Prods:List (Hint P)→Type
 | []=>Unit
 | h :: l=>(Gh→Rec→World→h.τ) × Prods l
def lhsAll (c:Cx P):(l:List (Hint P))→Nat→Prods l
 | [],_=>()
 | h :: l,i=>(h.lhs c i,lhsAll c l (i+1))
def rhsAll (c:Cx P):(l:List (Hint P))→Nat→Prods l
 | [],_=>()
 | h :: l,i=>(h.rhs c i,rhsAll c l (i+1))
theorem all_get {c:Cx P}:∀ {l:List (Hint P)} {k:Nat},lhsAll c l k=rhsAll c l k→∀ (j:Nat) (h:Hint P),l[j]?=some h→∀ G g w,h.lhs c (k+j) G g w=h.rhs c (k+j) G g w
 | h' :: l,k,e,0,h,hj,G,g,w=>by
  have e1:=congrArg (fun p:(Gh→Rec→World→h'.τ) × Prods l=>p.1) e;simp at hj;subst hj;exact congrFun (congrFun (congrFun e1 G) g) w
 | h' :: l,k,e,j+1,h,hj,G,g,w=>by
  have e2:lhsAll c l (k+1)=rhsAll c l (k+1):=congrArg (fun p:(Gh→Rec→World→h'.τ) × Prods l=>p.2) e
  have:=all_get e2 j h (by simpa using hj) G g w
  rwa [show k+1+j=k+(j+1) by omega] at this
def cxOf (E:Env P) (S:Stop) (t:St) (hs:List (Hint P)) (N:Heaplet) (ε:Nat→Ent):Cx P:=⟨E.nt,E.w0,E.X,E.H,N,ε,t,S.ops,hs.map (·.d)⟩
variable (c : Cx P) (G : Gh)
def Cx.sure (j:Nat) {α:Type _} (f:HintD→List α):List α:=bif (c.R.grd j).isNone then ((c.hs[j]?).map f).getD [] else []
def Cx.leFin (r:Nat):LE:=match lastW (c.R.wrE r) c.ops.size with
 | some k=>((c.hs[k]?).bind fun h=>(h.news.find? fun q=>q.1 == r).map fun q=>q.2.1 (c.R.vis k G)).getD .no
 | none=>(c.t.L[r]?).getD .no
def post:St where
 sl:=(c.ops.toList.filterMap (·.dst)).map (fun s=>(s,c.R.fin G s)) ++c.t.sl
 F:=c.t.F ++(List.range c.ops.size).flatMap fun j=>c.sure j fun h=>h.facts (c.R.vis j G)
 L:=(List.range c.t.L.length).map (c.leFin G)
def Cx.know:List Prop:=((List.range c.ops.size).flatMap fun j=>c.sure j fun h=>h.pu (c.R.vis j G)) ++((List.range c.ops.size).flatMap fun j=>c.sure j fun h=>(h.facts (c.R.vis j G)).map (·.q)) ++(List.range c.t.L.length).flatMap fun r=>(c.leFin G r).lim
end
section
variable {P : Program} {c : Cx P} {G : Gh} {a : Act} {w : World}
theorem Cx.sure_mem {α:Type _} {j:Nat} {f:HintD→List α} {x:α} (ok:c.Ok) (hj:j < c.ops.size) (h:x ∈ c.sure j f):(∀ G,c.R.gd G j=true)∧∃ d,c.hs[j]?=some d∧x ∈ f d:=by
 unfold sure at h;cases hg:(c.R.grd j).isNone with
 | false=>rw [hg] at h;cases h
 | true =>
  rw [hg] at h;refine ⟨fun G=>?_,?_⟩
  ·rw [RC.gd_eq ok.hc];cases hgr:c.R.grd j with
   | none=>rfl
   | some p=>rw [hgr] at hg;cases hg
  ·cases hd:c.hs[j]? with
   | none=>rw [hd] at h;simp at h
   | some d=>rw [hd] at h;exact ⟨d,rfl,by simpa using h⟩
theorem post_in (ok:c.Ok) (d:c.R.Done c.nt c.w0 c.X G a w) :
  (post c G).In c.nt c.w0 c.X c.H (JV G c.N c.ops.size) (fun r=>c.R.entF G r) a w∧conjL (c.know G):=by
 have D:∀ j,j < c.ops.size→Agrees w (G j).H:=fun j hj=>by
  have:=(d.st (List.range c.ops.size) fun i hi=>List.mem_range.1 hi).agr (G j).H (List.mem_append_left _ (List.mem_map.2 ⟨j,List.mem_range.2 hj,rfl⟩))
  exact this
 have E:=d.st (List.range c.ops.size) fun i hi=>List.mem_range.1 hi
 have hK:Agrees w (hun c.N c.H):=E.agr _ (List.mem_append_right _ (by show _ ∈ [_];simp));have hB:∀ t,Sub (c.B0 t) (whole w):=fun t=>(Cx.B0_le t).trans hK
 have hJ:∀ t,Sub (JV G (c.B0 t) c.ops.size) (whole w):=fun t=>JV_le (hB t) _ D
 have hb:∀ t,Sub (c.B0 t) (JV G (c.B0 t) c.ops.size):=fun t=>JV_base (hB t) _ D
 have C:∀ j,j < c.ops.size→∀ t,Sub (JV (c.R.vis j G) (c.B0 t) c.ops.size) (JV G (c.B0 t) c.ops.size):=fun j hj t =>
  JV_mono (hB t) _ D (fun k hk=>by
   unfold RC.vis;cases hbj:(c.R.bef j k || k == j) with
   | false=>exact .inl rfl
   | true=>exact .inr rfl) (Sub.refl _)
 have eK:hun (JV G c.N c.ops.size) c.H=JV G (hun c.N c.H) c.ops.size:=(JV_hun _).symm;have I:∀ j h,j < c.ops.size→c.hs[j]?=some h→c.R.gd G j=true→(∀ f ∈ h.facts (c.R.vis j G),f.at (JV G c.N c.ops.size) (JV G (hun c.N c.H) c.ops.size))∧(∀ q ∈ h.news,(q.2.1 (c.R.vis j G)).at (q.2.2 (c.R.vis j G)) (JV G c.N c.ops.size) (JV G (hun c.N c.H) c.ops.size))∧conjL (h.pu (c.R.vis j G)):=fun j h hj hh hg=>by
  have hf:=d.fact j hj hg;rw [Cx.factOf hh] at hf;have hf:=conjL_mem hf;refine ⟨fun f hm=>FP.mono (hf _ (by simp only [List.mem_append,List.mem_map];exact .inl (.inl ⟨f,hm,rfl⟩))) (C j hj true) (C j hj false),fun q hq=>LE.mono (LE.ats_at.1 (conjL_of fun p hp=>hf _ ?_)) (C j hj true) (C j hj false),conjL_of fun p hp=>hf _ (by simp only [List.mem_append];exact .inr hp)⟩;simp only [List.mem_append,List.mem_flatMap];exact .inl (.inr ⟨q,hq,hp⟩)
 have ae:∀ r k,lastW (c.R.wrE r) c.ops.size=some k→k < c.ops.size∧c.R.gd G k=true∧c.R.wrE r k=true:=fun r k hl=>by
  obtain ⟨hk,hw,_⟩:=lastW_some hl;refine ⟨hk,?_,hw⟩;obtain ⟨o',Z⟩:=Cx.opAt ok hk;have C':=RC.chk ok.hc Z;cases hg:c.R.grd k with
  | none=>rw [RC.gd_eq ok.hc,hg]
  | some jw =>
   obtain ⟨j,want⟩:=jw;obtain ⟨al,P,af⟩:=RC.grd_some hg;rw [Z] at P;cases P;rcases (C'.grd j want af).2.2.1 with hu | hu
   ·obtain ⟨p,_,hp,_⟩:=RC.wrE_find hw;rw [hu] at hp;cases hp
   ·exact RC.gd_sure ok.hc G k hu
 have A:∀ r,r < c.t.L.length→(c.leFin G r).ent (c.R.entF G r)=c.R.entF G r∧(c.leFin G r).at (c.R.entF G r) (JV G c.N c.ops.size) (JV G (hun c.N c.H) c.ops.size):=fun r hr=>by
  unfold Cx.leFin RC.entF;show LE.ent (match lastW (c.R.wrE r) c.R.ops.size with | some k=>c.R.entOf G k r | none=>(c.R.L[r]?).getD none) _=_∧_;have e0:c.R.ops.size=c.ops.size:=rfl;rw [e0];cases hl:lastW (c.R.wrE r) c.ops.size with
  | none =>
   simp only [];have hx:c.t.L[r]?=some c.t.L[r]:=List.getElem?_eq_getElem hr;have he:(c.R.L[r]?).getD none=(c.t.L[r]).ent (c.ε r):=by
    show ((ents c.t.L c.ε)[r]?).getD none=_;rw [ents_get,hx];rfl
   rw [he,hx];simp only [Option.getD_some];have h1:=LE.mono (ok.own r _ hx) (hb true) (hb false);cases A:c.t.L[r] with
   | own t p m q hq=>rw [A] at h1;exact ⟨rfl,h1⟩
   | _=>exact ⟨rfl,trivial⟩
  | some k =>
   simp only [];obtain ⟨hk,hg,hw⟩:=ae r k hl;have ab:k < c.hs.length:=by rw [ok.len];exact hk
   have hh:c.hs[k]?=some c.hs[k]:=List.getElem?_eq_getElem ab;have Q:∃ q,(c.hs[k]).news.find? (fun q=>q.1 == r)=some q:=by
    obtain ⟨p,_,hp,ah⟩:=RC.wrE_find hw;rw [Cx.upsOf hh] at hp;obtain ⟨q,hq,rfl⟩:=List.mem_map.1 hp
    have:((c.hs[k]).news.find? (fun q=>q.1 == r)).isSome=true:=List.find?_isSome.2 ⟨q,hq,by simpa using ah⟩
    exact Option.isSome_iff_exists.1 this
   obtain ⟨q,hq⟩:=Q;have he:c.R.entOf G k r=(q.2.1 (c.R.vis k G)).ent (q.2.2 (c.R.vis k G)):=by
    unfold RC.entOf;rw [Cx.upsOf hh,List.find?_map]
    have:((c.hs[k]).news.find? ((fun p:Nat × (Gh→Ent)=>p.1 == r) ∘ fun q=>(q.1,fun G=>(q.2.1 (c.R.vis k G)).ent (q.2.2 (c.R.vis k G)))))=some q:=hq
    rw [this];rfl
   have hf:=(I k _ hk hh hg).2.1 q (List.mem_of_find?_eq_some hq);rw [he,hh];simp only [Option.bind_some,hq,Option.map_some,Option.getD_some];cases A:q.2.1 (c.R.vis k G) with
   | own t p m q' hq'=>rw [A] at hf;exact ⟨rfl,hf⟩
   | _=>exact ⟨rfl,trivial⟩
 have ac:∀ r x,(post c G).L[r]?=some x→r < c.t.L.length∧x=c.leFin G r:=fun r x hx=>by
  have hx:((List.range c.t.L.length).map (c.leFin G))[r]?=some x:=hx;rw [List.getElem?_map] at hx;rcases Nat.lt_or_ge r c.t.L.length with h | h
  ·rw [List.getElem?_range h] at hx;exact ⟨h,(by simpa using hx.symm)⟩
  ·rw [List.getElem?_eq_none (by simpa using h)] at hx;cases hx
 have B:∀ r b o,(ents (post c G).L fun r=>c.R.entF G r)[r]?=some (some (b,o))→((List.range c.R.L.length).map (c.R.entF G))[r]?=some (some (b,o)):=fun r b o h=>by
  rw [ents_get,Option.map_eq_some_iff] at h;obtain ⟨x,hx,he⟩:=h;obtain ⟨hr,rfl⟩:=ac r x hx;rw [(A r hr).1] at he;have hl:c.R.L.length=c.t.L.length:=ents_len _ _;rw [List.getElem?_map,List.getElem?_range (by rw [hl];exact hr)];simp [he]
 refine ⟨⟨?_,⟨E.base,fun K hk=>?_,fun r b o he=>?_,fun r r' b o o' he ai=>E.dis r r' b o o' (B _ _ _ he) (B _ _ _ ai)⟩,JV_new ok.new _ fun j hj=>d.newG j hj,fun f hf=>?_,fun r x hx=>?_⟩,conjL_of fun p hp=>?_⟩
 ·have ad:∀ s ∈ c.ops.toList.filterMap (·.dst),(lastW (c.R.wrS s) c.R.ops.size).isSome=true:=fun s hs=>by
   obtain ⟨o,ho,hd⟩:=List.mem_filterMap.1 hs;obtain ⟨k,hk⟩:=List.getElem?_of_mem ho;have M:c.ops[k]?=some o:=by simpa using hk
   have aj:k < c.ops.size:=(Array.getElem?_eq_some_iff.1 M).1;cases hl:lastW (c.R.wrS s) c.R.ops.size with
   | some _=>rfl
   | none =>
    have:=lastW_none hl k aj
    unfold RC.wrS RC.dst at this;have h3:c.R.ops[k]?=some o:=M;rw [h3] at this;simp [hd] at this
  have s1:=d.slots (c.ops.toList.filterMap (·.dst)) fun s hs=>.inl (ad s hs)
  refine ⟨s1.defers,s1.size,fun s v hv=>?_⟩;have hv:((c.ops.toList.filterMap (·.dst)).map (fun s=>(s,c.R.fin G s)) ++c.t.sl).lookup s=some v:=hv;rw [List.lookup_append] at hv;cases hl:((c.ops.toList.filterMap (·.dst)).map (fun s=>(s,c.R.fin G s))).lookup s with
  | some u=>rw [hl] at hv;simp at hv;subst hv;exact s1.slot s u hl
  | none =>
   rw [hl] at hv;simp at hv;have s2:=d.slots [s] fun s' ak=>.inr (by
    have:s'=s:=by simpa using ak
    subst this;show (c.t.sl.lookup s').isSome=true;rw [hv];rfl)
   refine s2.slot s v ?_;simp only [List.map_cons,List.map_nil,List.lookup_cons,beq_self_eq_true]
   congr 1
   unfold RC.fin;have hn:lastW (c.R.wrS s) c.R.ops.size=none:=by
    cases hw:lastW (c.R.wrS s) c.R.ops.size with
    | none=>rfl
    | some k =>
     exfalso;obtain ⟨hk,Y,_⟩:=lastW_some hw;unfold RC.wrS RC.dst at Y;have M:c.R.ops[k]?=some (c.R.ops[k]):=Array.getElem?_eq_getElem hk;rw [M] at Y;have hd:(c.R.ops[k]).dst=some s:=by simpa using Y
     have hm:s ∈ c.ops.toList.filterMap (·.dst):=List.mem_filterMap.2 ⟨c.R.ops[k],by
      have:c.R.ops[k] ∈ c.ops:=Array.getElem_mem hk
      simpa using this,hd⟩
     have:∀ (l:List Nat),s ∈ l→(l.map (fun s=>(s,c.R.fin G s))).lookup s≠none:=by
      intro l;induction l with
      | nil=>intro h;cases h
      | cons x l ih =>
       intro h;simp only [List.map_cons,List.lookup_cons];by_cases e:s=x
       ·subst e;simp
       ·have e':(s == x)=false:=by simpa using e
        rw [e'];rcases List.mem_cons.1 h with h | h
        ·exact absurd h e
        ·exact ih h
     exact this _ hm hl
   rw [hn];show (c.t.sl.lookup s).getD undef=v;rw [hv];rfl
 ·have:K=hun (JV G c.N c.ops.size) c.H:=by simpa using hk
  subst this;rw [eK];exact hJ false
 ·obtain ⟨h1,h2,h3⟩:=E.ent r b o (B _ _ _ he);refine ⟨h1,h2,fun K hk=>?_⟩
  have:K=hun (JV G c.N c.ops.size) c.H:=by simpa using hk
  subst this;rw [eK];exact JV_none (h3 _ (List.mem_append_right _ (by show _ ∈ [_];simp))) _ fun j hj=>h3 _ (List.mem_append_left _ (List.mem_map.2 ⟨j,List.mem_range.2 hj,rfl⟩))
 ·rw [eK];rcases List.mem_append.1 hf with hf | hf
  ·exact FP.mono (ok.facts f hf) (hb true) (hb false)
  ·obtain ⟨j,hj,hf⟩:=List.mem_flatMap.1 hf;obtain ⟨hg,h,hh,hf⟩:=Cx.sure_mem ok (List.mem_range.1 hj) hf;exact (I j h (List.mem_range.1 hj) hh (hg G)).1 f hf
 ·rw [eK];obtain ⟨hr,rfl⟩:=ac r x hx;exact (A r hr).2
 ·unfold Cx.know at hp;simp only [List.mem_append,List.mem_flatMap] at hp;rcases hp with (⟨j,hj,hp⟩ | ⟨j,hj,hp⟩) | ⟨r,hr,hp⟩
  ·obtain ⟨hg,h,hh,hp⟩:=Cx.sure_mem ok (List.mem_range.1 hj) hp;exact conjL_mem (I j h (List.mem_range.1 hj) hh (hg G)).2.2 p hp
  ·obtain ⟨hg,h,hh,hp⟩:=Cx.sure_mem ok (List.mem_range.1 hj) hp;obtain ⟨f,hf,rfl⟩:=List.mem_map.1 hp;exact FP.lim_of ((I j h (List.mem_range.1 hj) hh (hg G)).1 f hf)
  ·exact LE.lim_of (A r (List.mem_range.1 hr)).2 p hp
end

open Go
section
variable {P : Program} {E : Env P} {S : Stop} {t : St}
theorem V.reg (hs:List (Hint P)) (hk:∀ N ε,(S,(cxOf E S t hs N ε).R.check E.nt,hs.length,lhsAll (cxOf E S t hs N ε) hs 0)=(.reg S.rid S.ops S.dr S.K,true,S.ops.size,rhsAll (cxOf E S t hs N ε) hs 0))
  (k:∀ N ε G,Knw ((cxOf E S t hs N ε).know G)→let S':=S.next;let t':=post (cxOf E S t hs N ε) G;V E S' t'):V E S t:=fun N ε a w b=>by
 have h0:=hk N ε;have e1:=congrArg (fun p:Stop × Bool × Nat × Prods hs=>p.1) h0;have e2:=congrArg (fun p:Stop × Bool × Nat × Prods hs=>p.2.1) h0;have e3:=congrArg (fun p:Stop × Bool × Nat × Prods hs=>p.2.2.1) h0;have e4:=congrArg (fun p:Stop × Bool × Nat × Prods hs=>p.2.2.2) h0;simp only at e1 e2 e3 e4;have ok:(cxOf E S t hs N ε).Ok:=⟨e2,by show (hs.map (·.d)).length=_;rw [List.length_map];exact e3,b.new,b.facts,b.own⟩;have f:∀ i,One (cxOf E S t hs N ε).R P E.w0 E.X i:=fun i=>by
  rcases Nat.lt_or_ge i S.ops.size with hi | hi
  ·have hl:hs[i]?=some (hs[i]'(by rw [e3];exact hi)):=List.getElem?_eq_getElem _;refine (hs[i]'(by rw [e3];exact hi)).sound (cxOf E S t hs N ε) i ok hi (by show (hs.map (·.d))[i]?=_;rw [List.getElem?_map,hl];rfl) fun G g w=>?_
   have:=all_get e4 i _ hl G g w
   rwa [Nat.zero_add] at this
  ·intro o ho
   have:(cxOf E S t hs N ε).R.ops[i]?=none:=Array.getElem?_eq_none hi
   rw [this] at ho;cases ho
 rw [e1];show (Code.region S.rid S.ops S.dr).wp P (run P E.Q S.K) a w;refine RC.region (R:=(cxOf E S t hs N ε).R) E.mo e2 f b.slots b.st fun G a' w' d=>?_;obtain ⟨h1,h2⟩:=post_in ok d
 exact norm_sound 200 (.inr .normal) S.K a' w' (k N ε G ⟨h2⟩ _ _ a' w' h1)
def cval (t:St):Operand→Option Value
 | .tmp s=>t.sl.lookup s
 | .const v=>some v
 | _=>none
theorem V.cond {b:Bool} {φ ψ:Prop} (hb:b=true↔φ) (f:b=false↔ψ) (hk:(S,cval t S.cn)=(.cond S.cn S.x S.y S.K,some (.bool b))) (k1:φ→V E S.inX t) (k2:ψ→V E S.inY t):V E S t:=fun N ε a w d=>by
 simp only [Prod.mk.injEq] at hk;obtain ⟨e1,e2⟩:=hk;rw [e1];have hv:a.eval S.cn=.bool b:=by
  cases hc:S.cn with
  | tmp s =>
   rw [hc] at e2
   have:=d.slots.slot s _ e2
   simp [Act.eval,Array.getD_eq_getD_getElem?,this]
  | const v =>
   rw [hc] at e2;simp only [cval,Option.some.injEq] at e2;subst e2;rfl
  | _=>rw [hc] at e2;cases e2
 exact wp_cond_split hv (fun h=>norm_sound 200 (.inl S.x) S.K a w (k1 (hb.1 h) N ε a w d)) (fun h=>norm_sound 200 (.inl S.y) S.K a w (k2 (f.1 h) N ε a w d))
theorem V.condT (hk:(S,cval t S.cn)=(.cond S.cn S.x S.y S.K,some (.bool true))) (k1:V E S.inX t):V E S t :=
 V.cond (φ:=True) (ψ:=False) (by simp) (by simp) hk (fun _=>k1) fun h=>h.elim
theorem V.condF (hk:(S,cval t S.cn)=(.cond S.cn S.x S.y S.K,some (.bool false))) (k1:V E S.inY t):V E S t :=
 V.cond (φ:=False) (ψ:=True) (by simp) (by simp) hk (fun h=>h.elim) fun _=>k1
def FP.drop (f:FP):FP:={ f with t:=false }
theorem FP.drop_at {f:FP} {N K:Heaplet} (h:f.at N K) (b:Sub N K):f.drop.at N K:=by
 unfold FP.at at h;cases e:f.t <;> rw [e] at h
 ·exact h
 ·exact f.m _ _ b h
theorem LE.drop_at {x:LE} {e:Ent} {N K:Heaplet} (h:x.at e N K) (b:Sub N K):x.drop.at e N K:=by
 cases x with
 | own t p m q hq =>
  cases t
  ·exact h
  ·exact m _ _ _ b h
 | _=>trivial
def matchF (x y:FP):FP:=bif y.t then x else x.drop
def matchL (x y:LE):LE:=match y with
 | .no=>.no
 | .own false _ _ _ _=>x.drop
 | _=>x
def leSt (fi:List Nat) (t t':St):List (Option Value) × List (Option FP) × List LE × Nat × Nat :=
 (t'.sl.map (fun p=>t.sl.lookup p.1),(fi.zip t'.F).map (fun p=>(t.F[p.1]?).map fun x=>matchF x p.2),(t.L.zip t'.L).map (fun p=>matchL p.1 p.2),fi.length,t.L.length)
def leSt' (t':St):List (Option Value) × List (Option FP) × List LE × Nat × Nat :=
 (t'.sl.map (fun p=>some p.2),t'.F.map some,t'.L,t'.F.length,t'.L.length)
theorem St.In.le {t t':St} {nt:Nat} {w0:World} {X:List Nat} {H N:Heaplet} {ε:Nat→Ent} {a:Act} {w:World} (h:t.In nt w0 X H N ε a w) {fi:List Nat} (hk:leSt fi t t'=leSt' t'):t'.In nt w0 X H N ε a w:=by
 simp only [leSt,leSt',Prod.mk.injEq] at hk;obtain ⟨h1,h2,h3,h4,h5⟩:=hk;have A:Sub N (hun N H):=hun_left;have hL:∀ (r:Nat) (y:LE),t'.L[r]?=some y→∃ x,t.L[r]?=some x∧y=matchL x y:=fun r y hy=>by
  have:=congrArg (fun l:List LE=>l[r]?) h3
  simp only [List.getElem?_map,hy] at this;cases hz:(t.L.zip t'.L)[r]? with
  | none=>rw [hz] at this;cases this
  | some p =>
   rw [hz] at this;rw [List.getElem?_zip_eq_some] at hz;rw [hy] at hz;obtain ⟨z1,z2⟩:=hz;simp only [Option.some.injEq] at z2;simp only [Option.map_some,Option.some.injEq] at this;rw [←z2] at this;exact ⟨p.1,z1,this.symm⟩
 have B:∀ (x y:LE) (e:Ent) (p:Nat × Obj),y=matchL x y→y.ent e=some p→x.ent e=some p:=fun x y e p hy hp=>by
  rw [hy] at hp;cases y with
  | no=>cases hp
  | blk b arr T=>exact hp
  | own t' q m r hr =>
   cases t'
   ·simp only [matchL] at hp;cases x <;> exact hp
   ·exact hp
 have d:∀ (r b:Nat) (o:Obj),(ents t'.L ε)[r]?=some (some (b,o))→(ents t.L ε)[r]?=some (some (b,o)):=fun r b o he=>by
  rw [ents_get,Option.map_eq_some_iff] at he ⊢;obtain ⟨y,hy,he⟩:=he;obtain ⟨x,hx,j⟩:=hL r y hy;exact ⟨x,hx,B x y _ _ j he⟩
 refine ⟨h.slots.sub h1,⟨h.st.base,h.st.agr,fun r b o he=>h.st.ent r b o (d _ _ _ he),fun r r' b o o' he D=>h.st.dis r r' b o o' (d _ _ _ he) (d _ _ _ D)⟩,h.new,fun f hf=>?_,fun r y hy=>?_⟩
 ·obtain ⟨k,hk⟩:=List.getElem?_of_mem hf
  have:=congrArg (fun l:List (Option FP)=>l[k]?) h2
  simp only [List.getElem?_map,hk,Option.map_some] at this;cases hz:(fi.zip t'.F)[k]? with
  | none=>rw [hz] at this;cases this
  | some p =>
   rw [hz] at this;rw [List.getElem?_zip_eq_some] at hz;rw [hk] at hz;obtain ⟨_,z2⟩:=hz;simp only [Option.some.injEq] at z2;simp only [Option.map_some,Option.some.injEq,Option.map_eq_some_iff] at this;obtain ⟨x,hx,C⟩:=this;rw [←z2] at C;have i:=h.facts x (List.mem_of_getElem? hx);rw [←C];unfold matchF;cases f.t
   ·exact FP.drop_at i A
   ·exact i
 ·obtain ⟨x,hx,j⟩:=hL r y hy;have i:=h.own r x hx;rw [j];cases y with
  | no=>trivial
  | blk b arr T=>exact i
  | own t' q m r' hr =>
   cases t'
   ·exact LE.drop_at i A
   ·exact i
theorem V.le {t':St} (fi:List Nat) (hk:leSt fi t t'=leSt' t') (k:V E S t'):V E S t:=fun N ε a w b=>k N ε a w (b.le hk)
def St.know (t:St):List Prop:=t.F.map (·.q) ++t.L.flatMap LE.lim
theorem St.In.know {nt:Nat} {w0:World} {X:List Nat} {H N:Heaplet} {ε:Nat→Ent} {a:Act} {w:World} (h:t.In nt w0 X H N ε a w):conjL t.know:=conjL_of fun p hp=>by
 rcases List.mem_append.1 hp with hp | hp
 ·obtain ⟨f,hf,rfl⟩:=List.mem_map.1 hp;exact FP.lim_of (h.facts f hf)
 ·obtain ⟨x,hx,hp⟩:=List.mem_flatMap.1 hp;obtain ⟨r,hr⟩:=List.getElem?_of_mem hx;exact LE.lim_of (h.own r x hr) p hp
def Takes {P:Program} {γ:Type} (E:Env P) (I:γ→St) (F:γ→Prop) (M:γ→Prop) (Z:Act→World→Prop):Prop:=∀ g,F g→M g→∀ N ε a w,(I g).In E.nt E.w0 E.X E.H N ε a w→Z a w
theorem loop_ghost {P:Program} {Q:Exit→Act→World→Prop} {c:Code} {a:Act} {w:World} {γ:Type} (I:γ→Act→World→Prop) (μ:γ→Nat) (g:γ) (h0:I g a w)
  (round:∀ g a w,I g a w→c.wp P (Exit.then (fun a' w'=>∃ g',I g' a' w'∧μ g' < μ g) Q) a w):(Code.loop c).wp P Q a w:=by
 classical
 let S:Act→World→Nat→Prop:=fun a w n=>∃ g,I g a w∧μ g=n
 have least:∀ a w,(∃ n,S a w n)→∃ n,S a w n∧∀ m,S a w m→n≤m:=fun a w ⟨n,hn⟩=>by
  induction n using Nat.strongRecOn with
  | _ n ih =>
   by_cases h:∃ m,m < n∧S a w m
   ·obtain ⟨m,hm,hS⟩:=h;exact ih m hm hS
   ·exact ⟨n,hn,fun m hm=>Nat.le_of_not_lt fun i=>h ⟨m,i,hm⟩⟩
 let M:Act→World→Nat:=fun a w=>if h:∃ n,S a w n then Classical.choose (least a w h) else 0
 refine wp_loop (fun a w=>∃ g,I g a w) M ⟨g,h0⟩ fun a w ⟨g,hg⟩=>?_;have d:∃ n,S a w n:=⟨μ g,g,hg,rfl⟩
 have hM:M a w=Classical.choose (least a w d):=dif_pos d;obtain ⟨⟨g1,j,o⟩,_⟩:=Classical.choose_spec (least a w d);refine Go.wp_mono (round g1 a w j) fun e a' w' hq=>?_;cases e with
 | normal =>
  obtain ⟨g2,f,i⟩:=hq;refine ⟨⟨g2,f⟩,?_⟩;have b:∃ n,S a' w' n:=⟨μ g2,g2,f,rfl⟩;have t:M a' w'=Classical.choose (least a' w' b):=dif_pos b
  have:=(Classical.choose_spec (least a' w' b)).2 (μ g2) ⟨g2,f,rfl⟩
  rw [t,hM,← o];omega
 | _=>exact hq
theorem V.loop {γ:Type} (I:γ→St) (F:γ→Prop) (μ:γ→Nat) (g:γ) (hk:S=.loop S.x S.K) (fi:List Nat) (h0:leSt fi t (I g)=leSt' (I g)) (hF:F g)
  (round:∀ g,F g→Knw (I g).know→∀ Z,Takes E I F (fun g'=>μ g' < μ g) Z→V E (norm 200 (.inl S.x) (.rnd Z :: S.K)) (I g)):V E S t:=fun N ε a w b=>by
 rw [hk];show (Code.loop S.x).wp P (run P E.Q S.K) a w;have b:=b.le h0;refine loop_ghost (fun g a w=>F g∧∃ N ε,(I g).In E.nt E.w0 E.X E.H N ε a w) μ g ⟨hF,N,ε,b⟩ fun g a w ⟨hF,N,ε,b⟩=>?_;exact norm_sound 200 (.inl S.x) (.rnd (fun a' w'=>∃ g',(F g'∧∃ N ε,(I g').In E.nt E.w0 E.X E.H N ε a' w')∧μ g' < μ g) :: S.K) a w (round g hF ⟨b.know⟩ _ (fun g' d hm N ε a w h=>⟨g',⟨d,N,ε,h⟩,hm⟩) N ε a w b)
def Stop.rz:Stop→Option (Act→World→Prop)
 | .rnd Z _=>some Z
 | _=>none
theorem V.rnd {γ:Type} {I:γ→St} {F:γ→Prop} {M:γ→Prop} {Z:Act→World→Prop} (hZ:Takes E I F M Z) (g:γ) (fi:List Nat) (hk:(S.rz,leSt fi t (I g))=(some Z,leSt' (I g))) (hF:F g) (hM:M g):V E S t:=fun N ε a w b=>by
 simp only [Prod.mk.injEq] at hk;obtain ⟨e1,e2⟩:=hk;cases S with
 | rnd Z' K =>
  simp only [Stop.rz,Option.some.injEq] at e1;subst e1;exact hZ g hF hM N ε a w (b.le e2)
 | _=>cases e1
def fnEnv {P:Program} (mo:P.follows .mixedOrders=true) (fn:Func) (nt:Nat) (w:World) (H:Heaplet) (olds:List Ent) (V:Rec→Value) (F':Rec→List FP) (L':Rec→List LE) (pu:Rec→List Prop):Env P :=
  { nt,w0:=w,X:=blks olds,H,Q:=bodyPost P fn fun e w'=>∃ g,CPost w w' H olds V F' L' pu e g,mo }
theorem ents_more {ε:Nat→Ent} {L:List LE} {n r b:Nat} {o:Obj} (h:(ents (L ++List.replicate n .no) ε)[r]?=some (some (b,o))):(ents L ε)[r]?=some (some (b,o)):=by
 rw [ents_get,Option.map_eq_some_iff] at h ⊢;obtain ⟨x,hx,he⟩:=h;rw [List.getElem?_append] at hx;split at hx
 ·exact ⟨x,hx,he⟩
 ·rw [List.getElem?_replicate] at hx;split at hx
  ·cases hx;cases he
  ·cases hx
theorem W_calls {P:Program} {f:FuncId} {fn:Func} {c:Code} {b:Array Value} {w:World} {R:Ending→World→Prop} (hf:P.funcs[f]?=some fn) (hb:fn.body=some c) (nt:Nat) (d:(b ++Array.replicate (fn.ntmps - b.size) undef).size=nt)
  (h:∀ a,SlotsOK nt (b.toList.zipIdx.map fun p=>(p.2,p.1)) a→c.wp P (bodyPost P fn R) a w):Calls P f b w R:=by
 refine calls_of_wp hf hb (h _ ⟨rfl,d,fun s v hv=>?_⟩);have i:∀ (l:List Value) (k:Nat),((l.zipIdx k).map fun p=>(p.2,p.1)).lookup s=some v→k≤s∧l[s - k]?=some v:=by
  intro l;induction l with
  | nil=>intro k h;cases h
  | cons x l ih =>
   intro k h;simp only [List.zipIdx_cons,List.map_cons,List.lookup_cons] at h;by_cases e:s=k
   ·subst e;simp at h;simp [h]
   ·have e':(s == k)=false:=by simpa using e
    rw [e'] at h;obtain ⟨h1,h2⟩:=ih (k+1) h;refine ⟨by omega,?_⟩;rw [show s - k=(s - (k+1))+1 from by omega]
    simpa using h2
 have:=(i b.toList 0 hv).2
 simp only [Nat.sub_zero,Array.getElem?_toList] at this;have j:=(Array.getElem?_eq_some_iff.1 this).1;rw [Array.getElem?_append_left j];exact this
theorem V.fn {f:FuncId} {d:Array Value} {F:List FP} {L:List LE} {V':Rec→Value} {F':Rec→List FP} {L':Rec→List LE} {pu:Rec→List Prop} (mo:P.follows .mixedOrders=true) {fn:Func} (hf:P.funcs[f]?=some fn) (nt n:Nat)
  (hk:(fn.body.isSome,(d ++Array.replicate (fn.ntmps-d.size) undef).size)=(true,nt))
  (h:∀ w H ε,Knw (F.map (·.q) ++L.flatMap LE.lim)→V (fnEnv mo fn nt w H (ents L ε) V' F' L' pu) (norm 200 (.inl (body fn)) []) ⟨d.toList.zipIdx.map fun p=>(p.2,p.1),F.map FP.drop,L.map LE.drop ++List.replicate n .no⟩):Ct P f d F L V' F' L' pu:=fun w H ε hA hF j A=>by
 simp only [Prod.mk.injEq] at hk;obtain ⟨hb,C⟩:=hk;have D:fn.body=some (body fn):=by
  unfold body;cases hc:fn.body with
  | none=>rw [hc] at hb;cases hb
  | some c=>rfl
 have B:conjL (F.map (·.q) ++L.flatMap LE.lim):=conjL_of fun p hp=>by
  rcases List.mem_append.1 hp with hp | hp
  ·obtain ⟨q,hq,rfl⟩:=List.mem_map.1 hp;exact q.hq _ (hF q hq)
  ·obtain ⟨x,hx,hp⟩:=List.mem_flatMap.1 hp;obtain ⟨r,hr⟩:=List.getElem?_of_mem hx;exact LE.lim_of (A r x hr) p hp
 have hV:=h w H ε ⟨B⟩;have eH:hun (fun _=>none) H=H:=rfl;have E:∀ (x:LE) e,x.drop.ent e=x.ent e:=fun x e=>by cases x <;> rfl
 have i:∀ (r b:Nat) (o:Obj),(ents (L.map LE.drop ++List.replicate n .no) ε)[r]?=some (some (b,o))→(ents L ε)[r]?=some (some (b,o)):=fun r b o he=>by
  have:=ents_more he
  rw [ents_get,List.getElem?_map,Option.map_eq_some_iff] at this;obtain ⟨x,hx,he⟩:=this;obtain ⟨y,hy,rfl⟩:=Option.map_eq_some_iff.1 hx;rw [ents_get,hy];rw [E] at he;simp [he]
 refine W_calls hf D nt C fun a hs=>?_;refine norm_sound 200 (.inl (body fn)) [] a w (hV (fun _=>none) ε a w ⟨hs,⟨j.base,j.agr,fun r b o he=>j.ent r b o (i _ _ _ he),fun r r' b o o' he G=>j.dis r r' b o o' (i _ _ _ he) (i _ _ _ G)⟩,new_none,fun q hq=>?_,fun r x hx=>?_⟩)
 ·obtain ⟨q',I,rfl⟩:=List.mem_map.1 hq;exact hF q' I
 ·rw [List.getElem?_append] at hx;split at hx
  ·rw [List.getElem?_map] at hx;obtain ⟨y,hy,rfl⟩:=Option.map_eq_some_iff.1 hx
   have:=A r y hy
   cases y with
   | own t p m q hq=>cases t <;> exact this
   | _=>trivial
  ·rw [List.getElem?_replicate] at hx;split at hx
   ·cases hx;trivial
   ·cases hx
def resV (P:Program) (t:St):ResultVar × Nat→Value
 | (.tmp s,_)=>(t.sl.lookup s).getD undef
 | (.cell s T,r)=>wrapT P T ((List.range ((sizeT P T).getD 0)).map fun j=>(entA (((t.L[r]?).getD .no).ent none)).getD ((addrOf ((t.sl.lookup s).getD undef)).off+j) undef)
def resC (P:Program) (t:St):ResultVar × Nat→Option Value × Bool × Bool × Ent
 | (.tmp s,_)=>(t.sl.lookup s,true,true,none)
 | (.cell s T,r)=>(t.sl.lookup s,(P.underlying T).isSome && (sizeT P T).isSome && (aggB P T || (sizeT P T).getD 0 == 1),decide ((addrOf ((t.sl.lookup s).getD undef)).off+(sizeT P T).getD 0≤(entA (((t.L[r]?).getD .no).ent none)).size),((t.L[r]?).getD .no).ent none)
def resC' (P:Program) (t:St):ResultVar × Nat→Option Value × Bool × Bool × Ent
 | (.tmp s,r)=>(some (resV P t (.tmp s,r)),true,true,none)
 | (.cell s _,r)=>(some (.pointer (some ⟨entB (((t.L[r]?).getD .no).ent none),(addrOf ((t.sl.lookup s).getD undef)).off,none⟩)),true,true,some (entB (((t.L[r]?).getD .no).ent none),.cells (entA (((t.L[r]?).getD .no).ent none)) (entT (((t.L[r]?).getD .no).ent none))))
def tupV:List Value→Value
 | [v]=>v
 | vs=>.tuple vs.toArray
def Stop.isEnd:Stop→Bool
 | .fin .ret=>true
 | .fin .normal=>true
 | _=>false
theorem res_run {w:World} {nt:Nat} {w0:World} {X:List Nat} {H N:Heaplet} {ε:Nat→Ent} {a:Act} (d:t.In nt w0 X H N ε a w) {p:ResultVar × Nat} (h:resC P t p=resC' P t p):(resOf a.tmps p.1).run P w=.ok (resV P t p) w:=by
 obtain ⟨rv,r⟩:=p;cases rv with
 | tmp s =>
  simp only [resC,resC',Prod.mk.injEq] at h;exact res_tmp h.1 d.slots
 | cell s T =>
  simp only [resC,resC',Prod.mk.injEq,Bool.and_eq_true] at h;obtain ⟨h1,⟨⟨h2,h3⟩,h4⟩,h5,h6⟩:=h;obtain ⟨n,hn⟩:=Option.isSome_iff_exists.1 h3;rw [hn] at h4 h5;simp only [Option.getD_some] at h4 h5;have he:(ents t.L ε)[r]?=some (some (entB (((t.L[r]?).getD .no).ent none),.cells (entA (((t.L[r]?).getD .no).ent none)) (entT (((t.L[r]?).getD .no).ent none)))):=by
   rw [ents_get];cases hr:t.L[r]? with
   | none=>rw [hr] at h6;cases h6
   | some x =>
    cases x with
    | blk b arr T'=>rfl
    | _=>rw [hr] at h6;cases h6
  have hb:=(d.st.ent r _ _ he).1;have hp:=slot_getD h1 d.slots;have h5:=of_decide_eq_true h5;have hl:=loadVar_run (P:=P) (w:=w) (t:=T) (a:=⟨entB (((t.L[r]?).getD .no).ent none),(addrOf ((t.sl.lookup s).getD undef)).off,none⟩) (vs:=(List.range n).map fun j=>(entA (((t.L[r]?).getD .no).ent none)).getD ((addrOf ((t.sl.lookup s).getD undef)).off+j) undef) h2 (by simpa using hn) (fun hb=>by rw [hb] at h4;simpa using h4) fun j v hj=>by
   simp only [List.getElem?_map,Option.map_eq_some_iff] at hj;obtain ⟨k,hk,rfl⟩:=hj;obtain ⟨f,rfl⟩:=List.getElem?_eq_some_iff.1 hk;simp only [List.length_range] at f;simp only [List.getElem_range];rw [add_eq rfl]
   have:(addrOf ((t.sl.lookup s).getD undef)).off+j < (entA (((t.L[r]?).getD .no).ent none)).size:=by omega
   simp [World.cell?,hb,this]
  show (do loadVar T (←asAddr (a.tmps.getD s undef)):Sem Value).run P w=_;rw [hp];simp only [resV,hn,Option.getD_some];simp [asAddr,hl]
theorem V.retG (d:List GT) {mo:P.follows .mixedOrders=true} {fn:Func} {nt:Nat} {w0:World} {H:Heaplet} {G:List Ent} {V':Rec→Value} {F':Rec→List FP} {L':Rec→List LE} {pu:Rec→List Prop} (rr:List Nat) (ss:List SV) (i:List (Nat→SV)) (bs:List Nat) (fi li:List Nat) (v:Value)
  (hk:∀ N es,(S.isEnd,fn.results.size == rr.length,(fn.results.toList.zip rr).map (resC P t),tupV ((fn.results.toList.zip rr).map (resV P t)),fi.length,(fi.zip (F' { H:=N,ss:=fun k=>ss.getD k {},sl:=fun k=>i.getD k (fun _=>{}),bs:=fun k=>bs.getD k 0,es:=es,gt:=fun k=>d.getD k default })).map (fun p=>(t.F[p.1]?).map fun x=>matchF x p.2),nodup li,li.length,(li.zip (L' { H:=N,ss:=fun k=>ss.getD k {},sl:=fun k=>i.getD k (fun _=>{}),bs:=fun k=>bs.getD k 0,es:=es,gt:=fun k=>d.getD k default })).map (fun p=>(t.L[p.1]?).map fun x=>matchL x p.2)) =
   (true,true,(fn.results.toList.zip rr).map (resC' P t),v,(F' { H:=N,ss:=fun k=>ss.getD k {},sl:=fun k=>i.getD k (fun _=>{}),bs:=fun k=>bs.getD k 0,es:=es,gt:=fun k=>d.getD k default }).length,(F' { H:=N,ss:=fun k=>ss.getD k {},sl:=fun k=>i.getD k (fun _=>{}),bs:=fun k=>bs.getD k 0,es:=es,gt:=fun k=>d.getD k default }).map some,true,(L' { H:=N,ss:=fun k=>ss.getD k {},sl:=fun k=>i.getD k (fun _=>{}),bs:=fun k=>bs.getD k 0,es:=es,gt:=fun k=>d.getD k default }).length,(L' { H:=N,ss:=fun k=>ss.getD k {},sl:=fun k=>i.getD k (fun _=>{}),bs:=fun k=>bs.getD k 0,es:=es,gt:=fun k=>d.getD k default }).map some))
  (hv:∀ N es,v=V' { H:=N,ss:=fun k=>ss.getD k {},sl:=fun k=>i.getD k (fun _=>{}),bs:=fun k=>bs.getD k 0,es:=es,gt:=fun k=>d.getD k default }) (hp:∀ N es,conjL (pu { H:=N,ss:=fun k=>ss.getD k {},sl:=fun k=>i.getD k (fun _=>{}),bs:=fun k=>bs.getD k 0,es:=es,gt:=fun k=>d.getD k default })):V (fnEnv mo fn nt w0 H G V' F' L' pu) S t:=fun N ε a w j=>by
 have h0:=hk N fun k=>ε (li.getD k 0)
 have hv:=hv N fun k=>ε (li.getD k 0)
 have hp:=hp N fun k=>ε (li.getD k 0)
 generalize hg:({ H:=N,ss:=fun k=>ss.getD k {},sl:=fun k=>i.getD k (fun _=>{}),bs:=fun k=>bs.getD k 0,es:=fun k=>ε (li.getD k 0),gt:=fun k=>d.getD k default }:Rec)=g at h0 hv hp;have gH:g.H=N:=by rw [←hg]
 have gE:g.es=fun k=>ε (li.getD k 0):=by rw [←hg]
 simp only [Prod.mk.injEq,beq_iff_eq] at h0;obtain ⟨e1,e2,e3,e4,e5,e6,e7,e8,e9⟩:=h0;have I:Sub N (hun N H):=hun_left;have hK:Agrees w (hun N H):=j.st.agr _ (by simp [fnEnv]);have M:∀ (k:Nat) (y:LE),(L' g)[k]?=some y→∃ x,t.L[li.getD k 0]?=some x∧y=matchL x y∧li[k]?=some (li.getD k 0):=fun k y hy=>by
  have:=congrArg (fun l:List (Option LE)=>l[k]?) e9
  simp only [List.getElem?_map,hy,Option.map_some] at this;cases hz:(li.zip (L' g))[k]? with
  | none=>rw [hz] at this;cases this
  | some p =>
   rw [hz] at this;rw [List.getElem?_zip_eq_some] at hz;obtain ⟨z1,z2⟩:=hz;rw [hy] at z2;simp only [Option.some.injEq] at z2;simp only [Option.map_some,Option.some.injEq,Option.map_eq_some_iff] at this;obtain ⟨x,hx,C⟩:=this;rw [←z2] at C
   have:li.getD k 0=p.1:=by rw [List.getD_eq_getElem?_getD,z1];rfl
   rw [this];exact ⟨x,hx,C.symm,z1⟩
 have Q:∀ (x y:LE) (e:Ent) (p:Nat × Obj),y=matchL x y→y.ent e=some p→x.ent e=some p:=fun x y e p hy hp=>by
  rw [hy] at hp;cases y with
  | no=>cases hp
  | blk b arr T=>exact hp
  | own t' q m r hr =>
   cases t'
   ·simp only [matchL] at hp;cases x <;> exact hp
   ·exact hp
 have B:∀ (k b:Nat) (o:Obj),(ents (L' g) g.es)[k]?=some (some (b,o))→(ents t.L ε)[li.getD k 0]?=some (some (b,o))∧li[k]?=some (li.getD k 0):=fun k b o he=>by
  rw [ents_get,Option.map_eq_some_iff] at he;obtain ⟨y,hy,he⟩:=he;obtain ⟨x,hx,C,hl⟩:=M k y hy;rw [gE] at he;refine ⟨?_,hl⟩;rw [ents_get,hx,Option.map_some,Q x y _ _ C he]
 have E:All2 (fun r v=>(resOf a.tmps r).run P w=.ok v w) fn.results.toList ((fn.results.toList.zip rr).map (resV P t)):=by
  have:∀ (rs:List ResultVar) (rr:List Nat),rs.length=rr.length→((rs.zip rr).map (resC P t)=(rs.zip rr).map (resC' P t))→All2 (fun r v=>(resOf a.tmps r).run P w=.ok v w) rs ((rs.zip rr).map (resV P t)):=by
   intro rs;induction rs with
   | nil=>intro rr _ _;cases rr <;> trivial
   | cons r rs ih =>
    intro rr hl he;cases rr with
    | nil=>cases hl
    | cons k rr =>
     simp only [List.zip_cons_cons,List.map_cons,List.cons.injEq] at he ⊢;exact ⟨res_run j he.1,ih rr (by simpa using hl) he.2⟩
  exact this _ _ (by simpa using e2) e3
 have X:(results fn a.tmps).run P w=.ok v w:=by
  rw [←e4];obtain ⟨rs,A⟩:∃ rs:List ResultVar,fn.results=rs.toArray:=⟨fn.results.toList,by simp⟩;rw [A] at E ⊢;simp only [List.toList_toArray] at E ⊢
  match rs,(rs.zip rr).map (resV P t),E,A with
  | [r],[u],h,A=>exact results_one A h.1
  | [],[],h,A=>exact results_many A (by simp) h
  | r :: r' :: rs,u :: u' :: us,h,A=>exact results_many A (by simp) h
 have fin:bodyPost P fn (fun e w'=>∃ g,CPost w0 w' H G V' F' L' pu e g) .ret a w:=by
  refine ⟨j.slots.defers,v,X,g,⟨by rw [hv],j.st.base,?_,?_,fun f hf=>?_,fun k b o he=>?_,fun k l b o o' h1 h2=>?_,fun k y hy=>?_,hp⟩⟩
  ·rw [gH];exact I.trans hK
  ·rw [gH];exact j.new
  ·rw [gH];obtain ⟨k,hk⟩:=List.getElem?_of_mem hf
   have:=congrArg (fun l:List (Option FP)=>l[k]?) e6
   simp only [List.getElem?_map,hk,Option.map_some] at this;cases hz:(fi.zip (F' g))[k]? with
   | none=>rw [hz] at this;cases this
   | some p =>
    rw [hz] at this;rw [List.getElem?_zip_eq_some] at hz;rw [hk] at hz;obtain ⟨_,z2⟩:=hz;simp only [Option.some.injEq] at z2;simp only [Option.map_some,Option.some.injEq,Option.map_eq_some_iff] at this;obtain ⟨x,hx,Y⟩:=this;rw [←z2] at Y;have D:=j.facts x (List.mem_of_getElem? hx);rw [←Y];unfold matchF;cases f.t
    ·exact FP.drop_at D I
    ·exact D
  ·obtain ⟨h1,_⟩:=B k b o he;obtain ⟨b1,b2,b3⟩:=j.st.ent _ b o h1;refine ⟨b1,b2,?_⟩;rw [gH]
   have:=b3 (hun N H) (by simp [fnEnv])
   unfold hun at this;cases hN:N b with
   | none=>rfl
   | some o'=>rw [hN] at this;cases this
  ·obtain ⟨a1,c1⟩:=B k b o h1;obtain ⟨a2,c2⟩:=B l b o' h2
   have:=j.st.dis _ _ b o o' a1 a2
   rw [this] at c1;exact nodup_inj e7 c1 c2
  ·obtain ⟨x,hx,C,_⟩:=M k y hy;have D:=j.own _ x hx;rw [gH,gE,C];cases y with
   | no=>trivial
   | blk b arr T=>exact D
   | own t' q m r' hr =>
    cases t'
    ·exact LE.drop_at D I
    ·exact D
 cases S with
 | fin e =>
  cases e with
  | ret=>exact fin
  | normal=>exact fin
  | _=>cases e1
 | _=>cases e1
theorem V.ret {mo:P.follows .mixedOrders=true} {fn:Func} {nt:Nat} {w0:World} {H:Heaplet} {d:List Ent} {V':Rec→Value} {F':Rec→List FP} {L':Rec→List LE} {pu:Rec→List Prop} (rr:List Nat) (ss:List SV) (b:List (Nat→SV)) (bs:List Nat) (fi li:List Nat) (v:Value)
  (hk:∀ N es,(S.isEnd,fn.results.size == rr.length,(fn.results.toList.zip rr).map (resC P t),tupV ((fn.results.toList.zip rr).map (resV P t)),fi.length,(fi.zip (F' { H:=N,ss:=fun k=>ss.getD k {},sl:=fun k=>b.getD k (fun _=>{}),bs:=fun k=>bs.getD k 0,es:=es })).map (fun p=>(t.F[p.1]?).map fun x=>matchF x p.2),nodup li,li.length,(li.zip (L' { H:=N,ss:=fun k=>ss.getD k {},sl:=fun k=>b.getD k (fun _=>{}),bs:=fun k=>bs.getD k 0,es:=es })).map (fun p=>(t.L[p.1]?).map fun x=>matchL x p.2)) =
   (true,true,(fn.results.toList.zip rr).map (resC' P t),v,(F' { H:=N,ss:=fun k=>ss.getD k {},sl:=fun k=>b.getD k (fun _=>{}),bs:=fun k=>bs.getD k 0,es:=es }).length,(F' { H:=N,ss:=fun k=>ss.getD k {},sl:=fun k=>b.getD k (fun _=>{}),bs:=fun k=>bs.getD k 0,es:=es }).map some,true,(L' { H:=N,ss:=fun k=>ss.getD k {},sl:=fun k=>b.getD k (fun _=>{}),bs:=fun k=>bs.getD k 0,es:=es }).length,(L' { H:=N,ss:=fun k=>ss.getD k {},sl:=fun k=>b.getD k (fun _=>{}),bs:=fun k=>bs.getD k 0,es:=es }).map some))
  (hv:∀ N es,v=V' { H:=N,ss:=fun k=>ss.getD k {},sl:=fun k=>b.getD k (fun _=>{}),bs:=fun k=>bs.getD k 0,es:=es }) (hp:∀ N es,conjL (pu { H:=N,ss:=fun k=>ss.getD k {},sl:=fun k=>b.getD k (fun _=>{}),bs:=fun k=>bs.getD k 0,es:=es })):V (fnEnv mo fn nt w0 H d V' F' L' pu) S t:=V.retG [] rr ss b bs fi li v hk hv hp
end

open Go
abbrev iv (n:Int):Value:=.int .i64 n
abbrev bv (b:Bool):Value:=.bool b
abbrev tv (s:ByteArray):Value:=.string s
def ca {α:Type} [Dat α] (x:α):Array Value:=(Dat.cells x).toArray
def ag {α:Type} [Dat α] (x:α):Value:=.agg (ca x)
abbrev pp (b off:Nat):Value:=.pointer (some ⟨b,off,none⟩)
theorem nm {α:Type _} {p:Prop} (e:α) (k:∀ x,x=e→p):p:=k e rfl
theorem iTT:true=true↔True:=by simp
theorem iFT:false=true↔False:=by simp
theorem iFF:false=false↔True:=by simp
section
variable {P : Program} {E : Env P} {S : Stop} {t : St}
theorem set_get {L:List LE} {r k:Nat} {x y:LE} (hy:(L.set r x)[k]?=some y):(k=r∧y=x)∨(k≠r∧L[k]?=some y):=by
 by_cases e:r=k
 ·subst e
  have:=(List.getElem?_eq_some_iff.1 hy).1
  rw [List.length_set] at this;rw [List.getElem?_set_self this] at hy;exact .inl ⟨rfl,(Option.some.inj hy).symm⟩
 ·rw [List.getElem?_set_ne e] at hy;exact .inr ⟨fun h=>e h.symm,hy⟩
theorem V.on {α:Type} [Dat α] (r:Nat) (T:TypeId) (hr:t.L[r]?=some .no) (k:V E S ⟨t.sl,t.F,t.L.set r (os true T ([]:List α) {})⟩):V E S t:=fun N ε a w d=>by
 let ε':Nat→Ent:=fun j=>if j=r then none else ε j
 have i:∀ j,j≠r→ε' j=ε j:=fun j hj=>if_neg hj
 have A:ε' r=none:=if_pos rfl;have f:∀ (j b:Nat) (o:Obj),(ents (t.L.set r (os true T ([]:List α) {})) ε')[j]?=some (some (b,o))→(ents t.L ε)[j]?=some (some (b,o)):=fun j b o h=>by
  rw [ents_get,Option.map_eq_some_iff] at h;obtain ⟨y,hy,he⟩:=h;rcases set_get hy with ⟨rfl,rfl⟩ | ⟨hj,hy⟩
  ·rw [A] at he;cases he
  ·rw [ents_get,hy,← he,i j hj];rfl
 refine k N ε' a w ⟨d.slots,⟨d.st.base,d.st.agr,fun j b o h=>d.st.ent j b o (f j b o h),fun j j' b o o' h h'=>d.st.dis j j' b o o' (f _ _ _ h) (f _ _ _ h')⟩,d.new,d.facts,fun j y hy=>?_⟩;rcases set_get hy with ⟨rfl,rfl⟩ | ⟨hj,hy⟩
 ·rw [A];show OSl T N ([]:List α) (.slice none 0 0) none;exact OSl.nil
 ·rw [i j hj];exact d.own j y hy
theorem V.frz {α:Type} [Dat α] (r:Nat) (b:Bool) (T:TypeId) (l:List α) (s:SV) (hr:(t.L[r]?,E.X)=(some (os b T l s),[])) (k:V E S ⟨t.sl,t.F ++[fs b l s],t.L.set r .no⟩):V E S t:=fun N ε a w d=>by
 simp only [Prod.mk.injEq] at hr;obtain ⟨hr,hX⟩:=hr;have A:=d.own r _ hr;have he:(ents t.L ε)[r]?=some (ε r):=by rw [ents_get,hr];rfl
 have hK:Agrees w (hun N E.H):=d.st.agr _ (by simp);have hE:Agrees w (entH (ε r)):=entH_agrees fun b o hb=>(d.st.ent r b o (by rw [he,hb])).1
 have s1:Sub N (hun (entH (ε r)) N):=hun_right' (U:=whole w) hE (hun_left.trans hK);have eK:hun (hun (entH (ε r)) N) E.H=hun (entH (ε r)) (hun N E.H):=hun_assoc _ _ _;have s2:Sub (hun N E.H) (hun (hun (entH (ε r)) N) E.H):=by rw [eK];exact hun_right' (U:=whole w) hE hK
 have i:∀ (j b:Nat) (o:Obj),(ents (t.L.set r .no) ε)[j]?=some (some (b,o))→j≠r∧(ents t.L ε)[j]?=some (some (b,o)):=fun j b o h=>by
  rw [ents_get,Option.map_eq_some_iff] at h;obtain ⟨y,hy,he⟩:=h;rcases set_get hy with ⟨rfl,rfl⟩ | ⟨hj,hy⟩
  ·cases he
  ·exact ⟨hj,by rw [ents_get,hy,← he];rfl⟩
 refine k (hun (entH (ε r)) N) ε a w ⟨d.slots,⟨d.st.base,fun K hk=>?_,fun j b o h=>?_,fun j j' b o o' h h'=>d.st.dis j j' b o o' (i _ _ _ h).2 (i _ _ _ h').2⟩,fun b hb=>?_,fun f hf=>?_,fun j y hy=>?_⟩
 ·have:K=hun (hun (entH (ε r)) N) E.H:=by simpa using hk
  subst this;rw [eK];exact hun_agrees hE hK
 ·obtain ⟨hj,h⟩:=i j b o h;obtain ⟨h1,h2,h3⟩:=d.st.ent j b o h;refine ⟨h1,h2,fun K hk=>?_⟩
  have:K=hun (hun (entH (ε r)) N) E.H:=by simpa using hk
  subst this;rw [eK];have hn:entH (ε r) b=none:=by
   cases hh:entH (ε r) b with
   | none=>rfl
   | some o' =>
    exfalso;unfold entH at hh;cases hp:ε r with
    | none=>rw [hp] at hh;cases hh
    | some p =>
     rw [hp] at hh;simp only at hh;split at hh
     ·rename_i hb;subst hb
      exact hj (d.st.dis j r p.1 o p.2 h (by rw [he,hp]))
     ·cases hh
  simp only [hun,hn];exact h3 (hun N E.H) (by simp)
 ·cases hh:entH (ε r) b with
  | none =>
   simp only [hun,hh] at hb;exact d.new b hb
  | some o' =>
   unfold entH at hh;cases hp:ε r with
   | none=>rw [hp] at hh;cases hh
   | some p =>
    rw [hp] at hh;simp only at hh;split at hh
    ·rename_i hb';subst hb'
     rcases (d.st.ent r p.1 p.2 (by rw [he,hp])).2.1 with h1 | h1
     ·exact h1
     ·rw [hX] at h1;cases h1
    ·cases hh
 ·rcases List.mem_append.1 hf with hf | hf
  ·exact FP.mono (d.facts f hf) s1 s2
  ·have:f=fs b l s:=by simpa using hf
   subst this;have B:∀ J J':Heaplet,Sub J J'→Sub (entH (ε r)) J'→OSl T J l s.v (ε r)→RSl J' l s.v:=fun J J' h1 h2 h=>h.frozen h1 h2
   unfold os ow LE.at at A;show bif b then RSl _ l _ else RSl _ l _
   cases b
   ·exact B _ _ s2 (by rw [eK];exact hun_left) A
   ·exact B _ _ s1 hun_left A
 ·rcases set_get hy with ⟨rfl,rfl⟩ | ⟨hj,hy⟩
  ·trivial
  ·exact LE.mono (d.own j y hy) s1 s2
end
def gf {α:Type} [Dat α] (b:Bool) (x:α):FP:=⟨b,fun H=>Dat.good H x,fun _ _ k h=>Dat.mono _ _ _ k h,Dat.q x,fun H h=>Dat.hq H x h⟩
theorem V.go {P:Program} {E:Env P} {S:Stop} {t:St} (hs:List (Hint P)) (hk:∀ N ε,(S,(cxOf E S t hs N ε).R.check E.nt,hs.length,lhsAll (cxOf E S t hs N ε) hs 0)=(.reg S.rid S.ops S.dr S.K,true,S.ops.size,rhsAll (cxOf E S t hs N ε) hs 0))
  (k:∀ N ε G,let S':=S.next;let t':=post (cxOf E S t hs N ε) G;V E S' t'):V E S t:=V.reg hs hk fun N ε G _=>k N ε G
theorem V.alt {P:Program} {E:Env P} {S:Stop} {t:St} {α:Type} (F:α→St) {a b:α} (h:a=b) (fi:List Nat) (hk:leSt fi t (F a)=leSt' (F a)) (k:V E S (F b)):V E S t:=by
 subst h;exact V.le fi hk k
theorem V.nilF {P:Program} {E:Env P} {S:Stop} {t:St} {α:Type} [Dat α] (k:V E S ⟨t.sl,t.F ++[fs true ([]:List α) {}],t.L⟩):V E S t:=fun N ε a w b=>k N ε a w ⟨b.slots,b.st,b.new,fun f hf=>by
 rcases List.mem_append.1 hf with hf | hf
 ·exact b.facts f hf
 ·have:f=fs true ([]:List α) {}:=by simpa using hf
  subst this;show RSl N ([]:List α) (.slice none 0 0);exact RSl.nil,b.own⟩
theorem V.unroll {P:Program} {E:Env P} {S:Stop} {t:St} (n:Nat) (hk:S=.loop S.x S.K) (k:V E (norm 200 (.inl S.x) (.rndN S.x n :: S.K)) t):V E S t:=fun N ε a w b=>by
 rw [hk];exact wp_loop_rounds (n+1) (norm_sound 200 (.inl S.x) (.rndN S.x n :: S.K) a w (k N ε a w b))
namespace Hint
variable {P : Program}
def mx (x y:Int):Hint P:=e g0 (.int .i64 (if y > x then y else x)) (.int .i64 (max x y)) fun _=>by rw [max_if]
def a (t:Int) (lo: -9223372036854775808≤t) (hi:t≤9223372036854775807):Hint P:=ar t t rfl lo hi
def ng (x n:Int) (hn:n= -x) (lo: -9223372036854775808≤n) (hi:n≤9223372036854775807):Hint P:=ar (0 - x) n (by omega) lo hi
def andn {g:Prop} (Γ:GdI g) (u:Bool) (b1 b2 b:Bool) (hb:b=(b1 && b2)):Hint P where
 d:={ val:=fun _=>.bool b }
 τ:=Option (Value × Value × Value) × Value × Option Bool
 lhs c i G _ _:=(c.R.pkr G i,c.R.val i (RC.put G i {}),Γ.B.map fun _=>c.R.gd G i)
 rhs _ _ _ _ _:=(some (.bool b1,(bif u then .bool b2 else bif (Γ.B.getD true && (b1 == true)) then .bool b2 else undef),.bool false),.bool b,Γ.B)
 sound c i ok hi h:=by
  subst hb;exact (and Γ u b1 b2).sound c i ok hi h
def orn {g:Prop} (Γ:GdI g) (u:Bool) (b1 b2 b:Bool) (hb:b=(b1 || b2)):Hint P where
 d:={ val:=fun _=>.bool b }
 τ:=Option (Value × Value × Value) × Value × Option Bool
 lhs c i G _ _:=(c.R.pkr G i,c.R.val i (RC.put G i {}),Γ.B.map fun _=>c.R.gd G i)
 rhs _ _ _ _ _:=(some (.bool b1,.bool true,(bif u then .bool b2 else bif (Γ.B.getD true && (b1 == false)) then .bool b2 else undef)),.bool b,Γ.B)
 sound c i ok hi h:=by
  subst hb;exact (or Γ u b1 b2).sound c i ok hi h
def seq (a b:ByteArray):Hint P:=e g0 (.bool (a.toList == b.toList)) (.bool (decide (a=b))) fun _=>by rw [toList_bytes]
def sne (a b:ByteArray):Hint P:=e g0 (.bool (!(a.toList == b.toList))) (.bool (!(decide (a=b)))) fun _=>by rw [toList_bytes]
def isn (b:Bool) (s:Gh→SV):Hint P where
 d:={ val:=fun G=>.bool (bif b then !(s G).a.isNone else (s G).a.isNone) }
 τ:=Option (Bool × TypeId × Value × Value) × Bool × Value
 lhs c i G _ _:=(c.R.bir G i,((c.R.bir G i).bind fun p=>sliceOf P p.2.1).isSome,c.R.val i (RC.put G i {}))
 rhs c i G _ _:=(some (b,((c.R.bir G i).elim 0 fun p=>p.2.1),(s G).v,.slice none 0 0),true,.bool (bif b then !(s G).a.isNone else (s G).a.isNone))
 sound c i _ _ hi h:=fun o ho G w hs=>by
  have h0:=h G {} w;simp only [Prod.mk.injEq] at h0;obtain ⟨e1,e2,e3⟩:=h0;refine Cx.still hi rfl (fun _=>⟨rfl,rfl⟩) ho ?_ e3;rw [e1] at e2;simp only [Option.bind_some] at e2;obtain ⟨d,hd⟩:=Option.isSome_iff_exists.1 e2;have hu:=slice_of hd;generalize hT:((c.R.bir G i).elim 0 fun p=>p.2.1)=T at *;unfold RC.bir at e1;rw [ho] at e1;obtain ⟨dst,op,t,pos,f,j⟩:=o;simp only [Option.map_some] at e1;split at e1
  ·rename_i t' x y ty heq
   simp only [Option.some.injEq] at heq;subst heq;simp only [Option.some.injEq,Prod.mk.injEq] at e1;obtain ⟨rfl,rfl,hx,hy⟩:=e1;simp [execOp,hx,hy,eqGuard,binOp,run_equal_slice_nil w t' d _ _ _ hu]
  ·rename_i t' x y ty heq
   simp only [Option.some.injEq] at heq;subst heq;simp only [Option.some.injEq,Prod.mk.injEq] at e1;obtain ⟨rfl,rfl,hx,hy⟩:=e1;simp [execOp,hx,hy,eqGuard,binOp,run_equal_slice_nil w t' d _ _ _ hu]
  ·cases e1
def cp {g:Prop} (Γ:GdI g) (n f:Nat) (qs:List Kv) {b:Gh→Array Value} {v:Gh→Value} (ct:g→∀ G,Cp P f (b G) (qs.map (Kv.fp G)) (v G)):Hint P :=
 call Γ n f false [] [] qs b (fun _=>[]) (fun G _=>v G) (fun _ _=>[]) (fun _ _=>[]) (fun _ _=>[]) ct
def ct {g:Prop} (Γ:GdI g) (n f:Nat) (ex:Bool) (rs ns:List Nat) (qs:List Kv) {b:Gh→Array Value} {L:Gh→List LE} {V:Gh→Rec→Value} {F':Gh→Rec→List FP} {L':Gh→Rec→List LE} {pu:Gh→Rec→List Prop}
  (h:g→∀ G,Ct P f (b G) (qs.map (Kv.fp G)) (L G) (V G) (F' G) (L' G) (pu G)):Hint P:=call Γ n f ex rs ns qs b L V F' L' pu h
end Hint
end Kb
