/- Texts for the claim, put together: the calculus of regions, its rules, and contracts of the functions that the law reaches. -/
import Derived.Test.YtpnbgdgjgndicaaGreatZwwf
import Derived.Orders
import Derived.Below
import Derived.Laws.Cover3
import Derived.Laws.Strings
import Derived.Laws.Slices
import Derived.Lib.Join
import Derived.Shelf.Strings.OnBuilder
import Derived.Test.YtpnbgdgjgndicaaGreatProg
import Derived.ChangeKeysEq
import Derived.Laws.StructEq
set_option linter.unusedVariables false
set_option linter.unusedSectionVars false
set_option linter.unusedSimpArgs false
namespace Kb
open Go
theorem Base.of_below {w w':World} (h:RowKit.Below w.heap.size w w'):Base [] w w' :=
  ⟨h.os,h.tape,h.output,h.size,fun k hk _=>h.block k hk⟩

open Go
theorem cong7 {α0 α1 α2 α3 α4 α5 α6 β:Type} (f:α0→α1→α2→α3→α4→α5→α6→β) {a0 a0':α0} (h0:a0=a0') {a1 a1':α1} (h1:a1=a1') {a2 a2':α2} (h2:a2=a2') {a3 a3':α3} (h3:a3=a3') {a4 a4':α4} (h4:a4=a4') {a5 a5':α5} (h5:a5=a5') {a6 a6':α6} (h6:a6=a6'):f a0 a1 a2 a3 a4 a5 a6=f a0' a1' a2' a3' a4' a5' a6':=by subst h0 h1 h2 h3 h4 h5 h6;rfl

open Go
namespace Hint
variable {P : Program}
def aeq (neq:Bool) (t:TypeId) (xs ys:Array Value) (b:Bool) (he:∀ w,(Op.equal t (.agg xs) (.agg ys)).run P w=.ok b w):Hint P where
  d:={ val:=fun _=>.bool (bif neq then !b else b) }
  τ:=Option (Bool × TypeId × Value × Value) × Bool × Value
  lhs c i G _ _:=(c.R.bir G i,P.eqGuardType P.depth t,c.R.val i (RC.put G i {}))
  rhs _ _ _ _ _:=(some (neq,t,.agg xs,.agg ys),false,.bool (bif neq then !b else b))
  sound c i _ _ hi h:=fun o ho G w hs=>by
    have h0:=h G {} w
    simp only [Prod.mk.injEq] at h0
    obtain ⟨e1,e2,e3⟩:=h0
    refine Cx.still hi rfl (fun _=>⟨rfl,rfl⟩) ho ?_ e3
    unfold RC.bir at e1
    rw [ho] at e1
    obtain ⟨dst,op,type,pos,after,guard⟩:=o
    have he':∀ w,(Op.equalIn 10000 t (.agg xs) (.agg ys)).run P w=.ok b w:=he
    simp only [Option.map_some] at e1
    split at e1
    · rename_i t' x y ty heq
      simp only [Option.some.injEq] at heq
      subst heq
      simp only [Option.some.injEq,Prod.mk.injEq] at e1
      obtain ⟨rfl,rfl,hx,hy⟩:=e1
      simp [execOp,hx,hy,run_eqGuard_agg w .eql t' x y xs ys e2,run_eql_struct,he']
    · rename_i t' x y ty heq
      simp only [Option.some.injEq] at heq
      subst heq
      simp only [Option.some.injEq,Prod.mk.injEq] at e1
      obtain ⟨rfl,rfl,hx,hy⟩:=e1
      simp [execOp,hx,hy,run_eqGuard_agg w .neq t' x y xs ys e2,run_neq_struct,he']
    · cases e1
end Hint

open Go
theorem enc1 {n:Int} (h0:0≤n) (h:n < 128):Utf8.encode n=⟨#[UInt8.ofNat n.toNat]⟩:=by
  have hv:Utf8.valid n=true:=by simp [Utf8.valid];omega
  unfold Utf8.encode
  simp only [hv,if_true]
  rw [if_pos (by omega)]

open Go
theorem cells_at {α:Type} [Dat α] {w:World} {H:Heaplet} {l:List α} {s:SV} (hA:Agrees w H) (h:RSl H l s.v) (hs:Dat.size α=1) {enc:α→Value} (he:∀ x,Dat.cells x=[enc x]) (hne:l≠[]) :
    ∃ bk o c,s.v=.slice (some ⟨bk,o,none⟩) l.length c∧bk < w.heap.size∧l.length≤c∧∀ (j:Nat) (x:α),l[j]?=some x→w.cell? ⟨bk,o+j,none⟩=some (enc x):=by
  obtain ⟨a,c,e,h1,h2,h3,h4⟩:=h.sl.val
  rw [rows_length] at e h1
  have hr:rows l≠[]:=fun e=>hne (by simpa [rows] using e)
  cases a with
  | none=>exact absurd (h3 rfl).1 hr
  | some a =>
    obtain ⟨hsp,cs,T,fr,hb,hc⟩:=h4 a rfl hr
    obtain ⟨blk,off,spot⟩:=a
    simp only at hsp
    subst hsp
    have hw:=hA _ _ hb
    refine ⟨blk,off,c,e,RC.heap_lt hw,h1,fun j x hj=>?_⟩
    have hf:(rows l).flatten[j]?=some (enc x):=by
      have e1:rows l=l.map fun x=>[enc x]:=by unfold rows;exact List.map_congr_left fun x _=>he x
      have e2:(rows l).flatten=l.map enc:=by
        have e3:∀ m:List α,(m.map fun x=>[enc x]).flatten=m.map enc:=fun m=>by
          induction m with
          | nil=>rfl
          | cons a m ih=>rw [List.map_cons,List.flatten_cons,ih];rfl
        rw [e1];exact e3 l
      rw [e2,List.getElem?_map,hj];rfl
    have:=hc j _ hf
    simp [World.cell?,hw]
    exact this

open Go
namespace Dm
def mkE (l:List Int):Int:=if Rt l then 0 else 3
def opV (p:Prop) [Decidable p] (l:List Int) (i:Nat):Int:=if p then mk l i else 0
def opE (p:Prop) [Decidable p] (l:List Int):Int:=if p then mkE l else 1
theorem mk_y {l:List Int} (h:Rt l) (i:Nat):mk l i=l.getD i 0:=if_pos h
theorem mk_n {l:List Int} (h:¬ Rt l) (i:Nat):mk l i=0:=if_neg h
theorem mkE_y {l:List Int} (h:Rt l):mkE l=0:=if_pos h
theorem mkE_n {l:List Int} (h:¬ Rt l):mkE l=3:=if_neg h
theorem opV_y {p:Prop} [Decidable p] (h:p) (l:List Int) (i:Nat):opV p l i=mk l i:=if_pos h
theorem opV_n {p:Prop} [Decidable p] (h:¬ p) (l:List Int) (i:Nat):opV p l i=0:=if_neg h
theorem opE_y {p:Prop} [Decidable p] (h:p) (l:List Int):opE p l=mkE l:=if_pos h
theorem opE_n {p:Prop} [Decidable p] (h:¬ p) (l:List Int):opE p l=1:=if_neg h
theorem item_size {s:ByteArray} {e:Int}:s.size≤(item s e).size∧(item s e).size≤s.size+1:=by
  unfold item;split
  · omega
  · rw [ByteArray.size_append]
    have:(⟨#[UInt8.ofNat (48+e).toNat]⟩:ByteArray).size=1:=rfl
    omega
theorem sy_size (n:Nat):(sy.getD n default).size≤4:=by
  unfold sy
  match n with
  | 0=>decide
  | 1=>decide
  | 2=>decide
  | 3=>decide
  | 4=>decide
  | 5=>decide
  | n+6=>simp [List.getD_eq_getElem?_getD];decide
theorem abN_mem {D:List Int}:∀ n,(abN D n).length≤n∧∀ x ∈ abN D n,x.size≤5
  | 0=>⟨Nat.le_refl _,fun x h=>by cases h⟩
  | n+1=>by
    obtain ⟨h1,h2⟩:=abN_mem (D:=D) n
    unfold abN;split
    · refine ⟨by simp;omega,fun x hx=>?_⟩
      rcases List.mem_append.1 hx with hx | hx
      · exact h2 x hx
      · have:x=item (sy.getD n default) (D.getD n 0):=by simpa using hx
        subst this
        have a:=(item_size (s:=sy.getD n default) (e:=D.getD n 0)).2
        have b:=sy_size n
        omega
    · exact ⟨by omega,h2⟩
theorem beN_size {D:List Int}:∀ n,(beN D n).size≤6 * n
  | 0=>by show ByteArray.empty.size≤0;decide
  | n+1=>by
    have ih:=beN_size (D:=D) n
    unfold beN;split
    · rw [ByteArray.size_append,ByteArray.size_append]
      have a:=(item_size (s:=sy.getD n default) (e:= -D.getD n 0)).2
      have b:=sy_size n
      have c:(⟨#[47]⟩:ByteArray).size=1:=rfl
      omega
    · omega
theorem lens_le {l:List ByteArray} (h:∀ x ∈ l,x.size≤5):Lib.lens (l.map (·.data.toList))≤5 * l.length:=by
  induction l with
  | nil=>simp [Lib.lens]
  | cons x l ih =>
    have h1:=ih fun y hy=>h y (List.mem_cons_of_mem _ hy)
    have h2:=h x List.mem_cons_self
    have e:(x.data.toList).length=x.size:=by rw [Array.length_toList];rfl
    simp only [Lib.lens,List.map_cons,List.sum_cons,List.length_cons] at h1 ⊢
    rw [e];omega
theorem jn_size {l:List ByteArray} (h:∀ x ∈ l,x.size≤5) (hl:l.length≤6):(Lib.join (l.map (·.data.toList)) (⟨#[42]⟩:ByteArray).data.toList).length≤36∧(jn l ⟨#[42]⟩).size≤36:=by
  have key:(Lib.join (l.map (·.data.toList)) (⟨#[42]⟩:ByteArray).data.toList).length≤36:=by
    cases l with
    | nil=>simp [Lib.join_nil]
    | cons x l =>
      rw [List.map_cons,Lib.join_length]
      have h1:=lens_le h
      rw [List.map_cons] at h1
      have e:((⟨#[42]⟩:ByteArray).data.toList)=[42]:=rfl
      rw [e]
      simp only [List.length_cons,List.length_map,List.length_nil] at h1 hl ⊢
      omega
  refine ⟨key,?_⟩
  unfold jn
  show (Lib.join _ _).toArray.size≤36
  rw [List.size_toArray];exact key
theorem ab_ok (D : List Int) : (∀ x ∈ ab D, x.size ≤ 5) ∧ (ab D).length ≤ 6 := by
  unfold ab; split
  · exact ⟨fun x hx => by have : x = ⟨#[49]⟩ := by simpa using hx
                          subst this; decide, by simp⟩
  · exact ⟨(abN_mem 6).2, (abN_mem 6).1⟩
theorem abN_pos {D:List Int} {n:Nat} (h:0 < D.getD n 0):abN D (n+1)=abN D n ++[item (sy.getD n default) (D.getD n 0)]:=by rw [abN,if_pos h]
theorem abN_no {D:List Int} {n:Nat} (h:¬ 0 < D.getD n 0):abN D (n+1)=abN D n:=by rw [abN,if_neg h]
theorem beN_neg {D:List Int} {n:Nat} (h:D.getD n 0 < 0):beN D (n+1)=beN D n ++(⟨#[47]⟩ ++item (sy.getD n default) (-D.getD n 0)):=by rw [beN,if_pos h]
theorem beN_no {D:List Int} {n:Nat} (h:¬ D.getD n 0 < 0):beN D (n+1)=beN D n:=by rw [beN,if_neg h]
end Dm
end Kb
namespace Go.Proofs
open Go.Shelf
def Tryz.lays156_ren:Go.Shelf.Ren:=⟨fun | 156=>136 | 165=>150 | 166=>151 | 169=>152 | 240=>155 | 241=>156 | 276=>157 | 277=>158 | n=>n,fun | 31=>126 | 9=>9 | 3=>3 | 4=>4 | 0=>0 | 20=>20 | 72=>142 | 76=>146 | 70=>139 | 37=>140 | 75=>145 | 127=>150 | 164=>151 | 5=>5 | 80=>148 | n=>n,fun | n=>n⟩
theorem Tryz.lays156:Go.Proofs.Lays.n156 Tryz.prog Tryz.lays156_ren:={
  mixed:=by kernel_rfl
  f156:=Tryz.func136.trans (congrArg some (by kernel_rfl))
  f165:=Tryz.func150.trans (congrArg some (by kernel_rfl))
  f166:=Tryz.func151.trans (congrArg some (by kernel_rfl))
  f169:=Tryz.func152.trans (congrArg some (by kernel_rfl))
  f240:=Tryz.func155.trans (congrArg some (by kernel_rfl))
  f241:=Tryz.func156.trans (congrArg some (by kernel_rfl))
  f276:=Tryz.func157.trans (congrArg some (by kernel_rfl))
  f277:=Tryz.func158.trans (congrArg some (by kernel_rfl))
  t0:=Tryz.underlying0
  a0:=Tryz.isAgg0
  z0:=Tryz.sizeOf0
  v0:=Tryz.zeroValue0
  t3:=Tryz.underlying3
  a3:=Tryz.isAgg3
  z3:=Tryz.sizeOf3
  v3:=Tryz.zeroValue3
  t4:=Tryz.underlying4
  a4:=Tryz.isAgg4
  z4:=Tryz.sizeOf4
  v4:=Tryz.zeroValue4
  t9:=Tryz.underlying9
  a9:=Tryz.isAgg9
  z9:=Tryz.sizeOf9
  v9:=Tryz.zeroValue9
  t20:=Tryz.underlying20
  a20:=Tryz.isAgg20
  z20:=Tryz.sizeOf20
  v20:=Tryz.zeroValue20
  t31:=Tryz.underlying126
  a31:=Tryz.isAgg126
  z31:=Tryz.sizeOf126
  v31:=Tryz.zeroValue126
  t37:=Tryz.underlying140
  a37:=Tryz.isAgg140
  z37:=Tryz.sizeOf140
  v37:=Tryz.zeroValue140
  t70:=Tryz.underlying139
  a70:=Tryz.isAgg139
  z70:=Tryz.sizeOf139
  v70:=Tryz.zeroValue139
  t72:=Tryz.underlying142
  a72:=Tryz.isAgg142
  z72:=Tryz.sizeOf142
  v72:=Tryz.zeroValue142
  t75:=Tryz.underlying145
  a75:=Tryz.isAgg145
  z75:=Tryz.sizeOf145
  v75:=Tryz.zeroValue145
  t76:=Tryz.underlying146
  a76:=Tryz.isAgg146
  z76:=Tryz.sizeOf146
  v76:=Tryz.zeroValue146
  t127:=Tryz.underlying150
  a127:=Tryz.isAgg150
  z127:=Tryz.sizeOf150
  v127:=Tryz.zeroValue150
  t164:=Tryz.underlying151
  a164:=Tryz.isAgg151
  z164:=Tryz.sizeOf151
  v164:=Tryz.zeroValue151 }
theorem Tryz.Builder_Extra_156:Builder.Extra Tryz.prog Tryz.lays156_ren:={
  sizeBuilder:=by kernel_rfl
  liesBuilder:=by kernel_rfl
  t5:=Tryz.underlying5
  a5:=Tryz.isAgg5
  z5:=Tryz.sizeOf5
  v5:=Tryz.zeroValue5
  infoByte:=by kernel_rfl
  cellsByte:=by kernel_rfl
  sizeByte:=by kernel_rfl
  neB5:=by decide }
open Go.RowKit in
theorem Tryz.strings_Join_none (a:Option Addr) (c:Nat) (sep:ByteArray) (w:World) :
    Calls Tryz.prog 136 #[.slice a 0 c,.string sep] w fun e w'=>e=.returned (.string ⟨#[]⟩)∧w'=w:=Any.strings_Join_none Tryz.lays156 Tryz.Builder_Extra_156 a c sep w
open Go.RowKit in
theorem Tryz.strings_Join (bk o c:Nat) (xs:List ByteArray) (sep:ByteArray) (w:World) (hcells:∀ (j:Nat) x,xs[j]?=some x→w.cell? ⟨bk,o+j,none⟩=some (.string x)) (hbk:bk < w.heap.size) (hN:xs.length≤140737488355328) (hcap:xs.length≤c) (hlen:(Lib.join (xs.map (·.data.toList)) sep.data.toList).length≤140737488355328) :
    Calls Tryz.prog 136 #[.slice (some ⟨bk,o,none⟩) xs.length c,.string sep] w fun e w'=>e=.returned (.string ⟨(Lib.join (xs.map (·.data.toList)) sep.data.toList).toArray⟩)∧Below w.heap.size w w':=Any.strings_Join Tryz.lays156 Tryz.Builder_Extra_156 bk o c xs sep w hcells hbk hN hcap hlen
end Go.Proofs
namespace Kb
open Go Go.Proofs
theorem join_ct (elems:List ByteArray) (elemss:SV) (sep:ByteArray) (hN:elems.length≤140737488355328) (hlen:(Lib.join (elems.map (·.data.toList)) sep.data.toList).length≤140737488355328) :
    Cp Tryz.prog 136 #[elemss.v,tv sep] [fs true elems elemss] (tv (Dm.jn elems sep)):=Cp.of fun w H hA hF=>by
  have h:RSl H elems elemss.v:=hF (fs true elems elemss) (by simp)
  by_cases e:elems=[]
  · subst e
    have hn:elemss.v=.slice elemss.a 0 elemss.c:=by
      obtain ⟨a,c,e,_⟩:=h.sl.val
      unfold SV.v at e ⊢
      injection e with e1 e2 e3
      rw [e2];rfl
    rw [hn]
    refine (Tryz.strings_Join_none elemss.a elemss.c sep w).mono fun e w' ⟨h1,h2⟩=>?_
    subst h2
    exact ⟨h1,Base.refl _ _⟩
  · obtain ⟨bk,o,c,e1,h1,h2,h3⟩:=cells_at hA h rfl (enc:=fun s=>.string s) (fun _=>rfl) e
    rw [e1]
    refine (Tryz.strings_Join bk o c elems sep w h3 h1 hN h2 hlen).mono fun e w' ⟨h1,h2⟩=>?_
    exact ⟨h1,Base.of_below h2⟩
theorem dim_equal (w:World) (a0 a1 a2 a3 a4 a5 b0 b1 b2 b3 b4 b5:Int):(Op.equal 40 (.agg #[iv a0,iv a1,iv a2,iv a3,iv a4,iv a5]) (.agg #[iv b0,iv b1,iv b2,iv b3,iv b4,iv b5])).run Tryz.prog w=.ok (decide (a0=b0∧a1=b1∧a2=b2∧a3=b3∧a4=b4∧a5=b5)) w:=by
  have hu:Tryz.prog.underlying 40=some (.array 6 3):=by kernel_rfl
  have u3:Tryz.prog.underlying 3=some (.int .i64):=by kernel_rfl
  obtain ⟨i,hi⟩:∃ i,Tryz.prog.info? 3=some i:=info_of_underlying u3
  have hc:Tryz.prog.cellsOf 3=1:=by kernel_rfl
  have p3:∀ (xs:Array Value) (o:Nat) (v:Value),xs[o]?=some v→(part 3 xs o).run Tryz.prog w=.ok v w:=fun xs o v hv=>by
    have h:(isAgg 3).run Tryz.prog w=.ok false w:=by rw [run_isAgg (by kernel_rfl),show aggB Tryz.prog 3=false from by kernel_rfl]
    simp [part,h,hv]
  show (Op.equalIn (9999+1) 40 _ _).run Tryz.prog w=_
  rw [run_equalIn_array w 9999 _ _ hu hi,hc]
  have ei:=fun a b=>run_equalIn_int (P:=Tryz.prog) w 9998 3 .i64 .i64 a b u3
  have q0:∀ c0 c1 c2 c3 c4 c5:Value,(part 3 #[c0,c1,c2,c3,c4,c5] 0).run Tryz.prog w=.ok c0 w:=fun _ _ _ _ _ _=>p3 _ 0 _ rfl
  have q1:∀ c0 c1 c2 c3 c4 c5:Value,(part 3 #[c0,c1,c2,c3,c4,c5] 1).run Tryz.prog w=.ok c1 w:=fun _ _ _ _ _ _=>p3 _ 1 _ rfl
  have q2:∀ c0 c1 c2 c3 c4 c5:Value,(part 3 #[c0,c1,c2,c3,c4,c5] 2).run Tryz.prog w=.ok c2 w:=fun _ _ _ _ _ _=>p3 _ 2 _ rfl
  have q3:∀ c0 c1 c2 c3 c4 c5:Value,(part 3 #[c0,c1,c2,c3,c4,c5] 3).run Tryz.prog w=.ok c3 w:=fun _ _ _ _ _ _=>p3 _ 3 _ rfl
  have q4:∀ c0 c1 c2 c3 c4 c5:Value,(part 3 #[c0,c1,c2,c3,c4,c5] 4).run Tryz.prog w=.ok c4 w:=fun _ _ _ _ _ _=>p3 _ 4 _ rfl
  have q5:∀ c0 c1 c2 c3 c4 c5:Value,(part 3 #[c0,c1,c2,c3,c4,c5] 5).run Tryz.prog w=.ok c5 w:=fun _ _ _ _ _ _=>p3 _ 5 _ rfl
  rw [show List.range 6=[0,1,2,3,4,5] from rfl]
  simp only [Op.eqItems]
  simp [q0,q1,q2,q3,q4,q5,ei]
  by_cases h0:a0=b0 <;> by_cases h1:a1=b1 <;> by_cases h2:a2=b2 <;> by_cases h3:a3=b3 <;> by_cases h4:a4=b4 <;> by_cases h5:a5=b5 <;> simp [h0,h1,h2,h3,h4,h5]

open Go Go.Proofs
set_option maxRecDepth 10000 in
theorem fsign_ct (c:Int) (d:List Int) (i:SV) (h:Int) (e:List Int) (j:SV) (hfP:d.length≤17179869184) (hfQ:e.length≤17179869184) :
    Cp Tryz.prog 72 #[ag (DFrac.mk ⟨c,d,i⟩ ⟨h,e,j⟩)] [fs true d i,fs true e j] (iv (if Fr.FrB c d h e then c else 0)):=by
  refine V.fn mo Tryz.func72 9 1 (by kernel_rfl) fun w H ε k0=>?_;obtain ⟨⟨kl1, -⟩,⟨kl2, -⟩, -⟩:Lq d i.v∧Lq e j.v∧True:=kq k0
  clear k0;refine V.g [.nb 0 0 (fun b=>pp b 0) 29 (fun _=>ca (DFrac.mk ⟨c,d,i⟩ ⟨h,e,j⟩)),.k (iv 0)] fun _ _ G1=>?_;intro S s
  refine V.g [.ld 0 0 true (fun _=>Dat.cells (DFrac.mk ⟨c,d,i⟩ ⟨h,e,j⟩)),.cp g0 1 36 [(kf false (.f 0) d (fun _=>i)).a,(kf false (.f 1) e (fun _=>j)).a] (fun _ G=>right_ct c d i h e j (by omega) (by omega)),.k (bv (!(decide (Fr.FrB c d h e))))] fun _ _ G2=>?_;intro S s
  refine V.cn (b:=!(decide (Fr.FrB c d h e))) (iNT iDF) (iNF iDT) (fun q1=>?_) (fun q2=>?_)
  · refine V.g [.k (iv 0)] fun _ _ G3=>?_;intro S s
    have e0:(0:Int)=if Fr.FrB c d h e then c else 0:=(if_neg q1).symm
    exact V.rt [0] [] [] [] [] [] (iv 0) (cong1 (fun (x0:Int)=>(iv x0:Value)) e0)
  refine V.g [.k (pp ((G1 0).b) 0),.k (pp ((G1 0).b) 0),.ld 0 0 false (fun _=>[iv c]),.k (iv c)] fun _ _ G4=>?_;intro S s
  have e0:c=if Fr.FrB c d h e then c else 0:=(if_pos (by first | exact q2 | exact Decidable.not_not.1 q2)).symm
  exact V.rt [0] [] [] [] [] [] (iv c) (cong1 (fun (x0:Int)=>(iv x0:Value)) e0)
theorem fsign_ctv (c:Int) (a:List Int) (d:SV) (e:Int) (b:List Int) (f:SV) (hfP:a.length≤17179869184) (hfQ:b.length≤17179869184) (rv0:Int) (erv0:rv0=if Fr.FrB c a e b then c else 0) :
    Cp Tryz.prog 72 #[ag (DFrac.mk ⟨c,a,d⟩ ⟨e,b,f⟩)] [fs true a d,fs true b f] (iv rv0):=by
  subst erv0;exact fsign_ct c a d e b f hfP hfQ

open Go Go.Proofs
set_option maxRecDepth 10000 in
theorem symbols_ct :
    Cp Tryz.prog 134 #[] [] (.agg #[tv ⟨#[103]⟩,tv ⟨#[109]⟩,tv ⟨#[115]⟩,tv ⟨#[74]⟩,tv ⟨#[99,101,110,116]⟩,tv ⟨#[112,99]⟩]):=by
  refine V.fn mo Tryz.func134 2 1 (by kernel_rfl) fun w H ε k0=>?_;clear k0
  refine V.g [.nb 0 0 (fun b=>pp b 0) 127 (fun _=>#[tv ByteArray.empty,tv ByteArray.empty,tv ByteArray.empty,tv ByteArray.empty,tv ByteArray.empty,tv ByteArray.empty])] fun _ _ G1=>?_;intro S s
  refine V.g [.k (.agg #[tv ⟨#[103]⟩,tv ⟨#[109]⟩,tv ⟨#[115]⟩,tv ⟨#[74]⟩,tv ⟨#[99,101,110,116]⟩,tv ⟨#[112,99]⟩]),.st 0 (fun _=>.blk ((G1 0).b) #[tv ⟨#[103]⟩,tv ⟨#[109]⟩,tv ⟨#[115]⟩,tv ⟨#[74]⟩,tv ⟨#[99,101,110,116]⟩,tv ⟨#[112,99]⟩] 127)] fun _ _ G2=>?_;intro S s
  exact V.rs [0] [] [] [] [] [] (.agg #[tv ⟨#[103]⟩,tv ⟨#[109]⟩,tv ⟨#[115]⟩,tv ⟨#[74]⟩,tv ⟨#[99,101,110,116]⟩,tv ⟨#[112,99]⟩])
set_option maxRecDepth 10000 in
theorem mulc_ct0 (ab:Nat) (a0 a1 a2 a3 a4 a5:Int) (bb:Nat) (b0 b1 b2 b3 b4 b5:Int) (ha:Dm.Rt [a0,a1,a2,a3,a4,a5]) (hb2:Dm.Rt [b0,b1,b2,b3,b4,b5]) :
    Ct Tryz.prog 109 #[iv 0,pp ab 0,pp bb 0] [] [.blk ab #[iv a0,iv a1,iv a2,iv a3,iv a4,iv a5] 40,.blk bb #[iv b0,iv b1,iv b2,iv b3,iv b4,iv b5] 40] (fun g=>iv (a0+b0)) (fun g=>[]) (fun g=>[.blk ab #[iv a0,iv a1,iv a2,iv a3,iv a4,iv a5] 40,.blk bb #[iv b0,iv b1,iv b2,iv b3,iv b4,iv b5] 40]) (fun g=>[]):=by
  refine V.fn mo Tryz.func109 12 0 (by kernel_rfl) fun w H ε k0=>?_;clear k0
  have ha6:=Dm.Rt6.1 ha;have hb6:=Dm.Rt6.1 hb2;refine V.g [.k (iv 0)] fun _ _ G1=>?_;intro S s
  refine V.g [.k (iv 0),.k (pp ab 0),.ld 0 0 false (fun _=>[iv a0]),.k (iv 0),.k (pp bb 0),.ld 1 0 false (fun _=>[iv b0]),.a (a0+b0) (by omega) (by omega),.k (iv (a0+b0))] fun _ _ G2=>?_;intro S s
  exact V.rs [0] [] [] [] [] [0,1] (iv (a0+b0))
theorem mulc_ct0v (ab:Nat) (a0 a1 a2 a3 a4 a5:Int) (bb:Nat) (b0 b1 b2 b3 b4 b5:Int) (ha:Dm.Rt [a0,a1,a2,a3,a4,a5]) (hb2:Dm.Rt [b0,b1,b2,b3,b4,b5]) (rv0:Int) (erv0:rv0=a0+b0) :
    Ct Tryz.prog 109 #[iv 0,pp ab 0,pp bb 0] [] [.blk ab #[iv a0,iv a1,iv a2,iv a3,iv a4,iv a5] 40,.blk bb #[iv b0,iv b1,iv b2,iv b3,iv b4,iv b5] 40] (fun g=>iv rv0) (fun g=>[]) (fun g=>[.blk ab #[iv a0,iv a1,iv a2,iv a3,iv a4,iv a5] 40,.blk bb #[iv b0,iv b1,iv b2,iv b3,iv b4,iv b5] 40]) (fun g=>[]):=by
  subst erv0;exact mulc_ct0 ab a0 a1 a2 a3 a4 a5 bb b0 b1 b2 b3 b4 b5 ha hb2
set_option maxRecDepth 10000 in
theorem mulc_ct1 (ab:Nat) (a0 a1 a2 a3 a4 a5:Int) (bb:Nat) (b0 b1 b2 b3 b4 b5:Int) (ha:Dm.Rt [a0,a1,a2,a3,a4,a5]) (hb2:Dm.Rt [b0,b1,b2,b3,b4,b5]) :
    Ct Tryz.prog 109 #[iv 1,pp ab 0,pp bb 0] [] [.blk ab #[iv a0,iv a1,iv a2,iv a3,iv a4,iv a5] 40,.blk bb #[iv b0,iv b1,iv b2,iv b3,iv b4,iv b5] 40] (fun g=>iv (a1+b1)) (fun g=>[]) (fun g=>[.blk ab #[iv a0,iv a1,iv a2,iv a3,iv a4,iv a5] 40,.blk bb #[iv b0,iv b1,iv b2,iv b3,iv b4,iv b5] 40]) (fun g=>[]):=by
  refine V.fn mo Tryz.func109 12 0 (by kernel_rfl) fun w H ε k0=>?_;clear k0
  have ha6:=Dm.Rt6.1 ha;have hb6:=Dm.Rt6.1 hb2;refine V.g [.k (iv 0)] fun _ _ G1=>?_;intro S s
  refine V.g [.k (iv 1),.k (pp ab 1),.ld 0 1 false (fun _=>[iv a1]),.k (iv 1),.k (pp bb 1),.ld 1 1 false (fun _=>[iv b1]),.a (a1+b1) (by omega) (by omega),.k (iv (a1+b1))] fun _ _ G2=>?_;intro S s
  exact V.rs [0] [] [] [] [] [0,1] (iv (a1+b1))
theorem mulc_ct1v (ab:Nat) (a0 a1 a2 a3 a4 a5:Int) (bb:Nat) (b0 b1 b2 b3 b4 b5:Int) (ha:Dm.Rt [a0,a1,a2,a3,a4,a5]) (hb2:Dm.Rt [b0,b1,b2,b3,b4,b5]) (rv0:Int) (erv0:rv0=a1+b1) :
    Ct Tryz.prog 109 #[iv 1,pp ab 0,pp bb 0] [] [.blk ab #[iv a0,iv a1,iv a2,iv a3,iv a4,iv a5] 40,.blk bb #[iv b0,iv b1,iv b2,iv b3,iv b4,iv b5] 40] (fun g=>iv rv0) (fun g=>[]) (fun g=>[.blk ab #[iv a0,iv a1,iv a2,iv a3,iv a4,iv a5] 40,.blk bb #[iv b0,iv b1,iv b2,iv b3,iv b4,iv b5] 40]) (fun g=>[]):=by
  subst erv0;exact mulc_ct1 ab a0 a1 a2 a3 a4 a5 bb b0 b1 b2 b3 b4 b5 ha hb2
set_option maxRecDepth 10000 in
theorem mulc_ct2 (ab:Nat) (a0 a1 a2 a3 a4 a5:Int) (bb:Nat) (b0 b1 b2 b3 b4 b5:Int) (ha:Dm.Rt [a0,a1,a2,a3,a4,a5]) (hb2:Dm.Rt [b0,b1,b2,b3,b4,b5]) :
    Ct Tryz.prog 109 #[iv 2,pp ab 0,pp bb 0] [] [.blk ab #[iv a0,iv a1,iv a2,iv a3,iv a4,iv a5] 40,.blk bb #[iv b0,iv b1,iv b2,iv b3,iv b4,iv b5] 40] (fun g=>iv (a2+b2)) (fun g=>[]) (fun g=>[.blk ab #[iv a0,iv a1,iv a2,iv a3,iv a4,iv a5] 40,.blk bb #[iv b0,iv b1,iv b2,iv b3,iv b4,iv b5] 40]) (fun g=>[]):=by
  refine V.fn mo Tryz.func109 12 0 (by kernel_rfl) fun w H ε k0=>?_;clear k0
  have ha6:=Dm.Rt6.1 ha;have hb6:=Dm.Rt6.1 hb2;refine V.g [.k (iv 0)] fun _ _ G1=>?_;intro S s
  refine V.g [.k (iv 2),.k (pp ab 2),.ld 0 2 false (fun _=>[iv a2]),.k (iv 2),.k (pp bb 2),.ld 1 2 false (fun _=>[iv b2]),.a (a2+b2) (by omega) (by omega),.k (iv (a2+b2))] fun _ _ G2=>?_;intro S s
  exact V.rs [0] [] [] [] [] [0,1] (iv (a2+b2))
theorem mulc_ct2v (ab:Nat) (a0 a1 a2 a3 a4 a5:Int) (bb:Nat) (b0 b1 b2 b3 b4 b5:Int) (ha:Dm.Rt [a0,a1,a2,a3,a4,a5]) (hb2:Dm.Rt [b0,b1,b2,b3,b4,b5]) (rv0:Int) (erv0:rv0=a2+b2) :
    Ct Tryz.prog 109 #[iv 2,pp ab 0,pp bb 0] [] [.blk ab #[iv a0,iv a1,iv a2,iv a3,iv a4,iv a5] 40,.blk bb #[iv b0,iv b1,iv b2,iv b3,iv b4,iv b5] 40] (fun g=>iv rv0) (fun g=>[]) (fun g=>[.blk ab #[iv a0,iv a1,iv a2,iv a3,iv a4,iv a5] 40,.blk bb #[iv b0,iv b1,iv b2,iv b3,iv b4,iv b5] 40]) (fun g=>[]):=by
  subst erv0;exact mulc_ct2 ab a0 a1 a2 a3 a4 a5 bb b0 b1 b2 b3 b4 b5 ha hb2
set_option maxRecDepth 10000 in
theorem mulc_ct3 (ab:Nat) (a0 a1 a2 a3 a4 a5:Int) (bb:Nat) (b0 b1 b2 b3 b4 b5:Int) (ha:Dm.Rt [a0,a1,a2,a3,a4,a5]) (hb2:Dm.Rt [b0,b1,b2,b3,b4,b5]) :
    Ct Tryz.prog 109 #[iv 3,pp ab 0,pp bb 0] [] [.blk ab #[iv a0,iv a1,iv a2,iv a3,iv a4,iv a5] 40,.blk bb #[iv b0,iv b1,iv b2,iv b3,iv b4,iv b5] 40] (fun g=>iv (a3+b3)) (fun g=>[]) (fun g=>[.blk ab #[iv a0,iv a1,iv a2,iv a3,iv a4,iv a5] 40,.blk bb #[iv b0,iv b1,iv b2,iv b3,iv b4,iv b5] 40]) (fun g=>[]):=by
  refine V.fn mo Tryz.func109 12 0 (by kernel_rfl) fun w H ε k0=>?_;clear k0
  have ha6:=Dm.Rt6.1 ha;have hb6:=Dm.Rt6.1 hb2;refine V.g [.k (iv 0)] fun _ _ G1=>?_;intro S s
  refine V.g [.k (iv 3),.k (pp ab 3),.ld 0 3 false (fun _=>[iv a3]),.k (iv 3),.k (pp bb 3),.ld 1 3 false (fun _=>[iv b3]),.a (a3+b3) (by omega) (by omega),.k (iv (a3+b3))] fun _ _ G2=>?_;intro S s
  exact V.rs [0] [] [] [] [] [0,1] (iv (a3+b3))
theorem mulc_ct3v (ab:Nat) (a0 a1 a2 a3 a4 a5:Int) (bb:Nat) (b0 b1 b2 b3 b4 b5:Int) (ha:Dm.Rt [a0,a1,a2,a3,a4,a5]) (hb2:Dm.Rt [b0,b1,b2,b3,b4,b5]) (rv0:Int) (erv0:rv0=a3+b3) :
    Ct Tryz.prog 109 #[iv 3,pp ab 0,pp bb 0] [] [.blk ab #[iv a0,iv a1,iv a2,iv a3,iv a4,iv a5] 40,.blk bb #[iv b0,iv b1,iv b2,iv b3,iv b4,iv b5] 40] (fun g=>iv rv0) (fun g=>[]) (fun g=>[.blk ab #[iv a0,iv a1,iv a2,iv a3,iv a4,iv a5] 40,.blk bb #[iv b0,iv b1,iv b2,iv b3,iv b4,iv b5] 40]) (fun g=>[]):=by
  subst erv0;exact mulc_ct3 ab a0 a1 a2 a3 a4 a5 bb b0 b1 b2 b3 b4 b5 ha hb2
set_option maxRecDepth 10000 in
theorem mulc_ct4 (ab:Nat) (a0 a1 a2 a3 a4 a5:Int) (bb:Nat) (b0 b1 b2 b3 b4 b5:Int) (ha:Dm.Rt [a0,a1,a2,a3,a4,a5]) (hb2:Dm.Rt [b0,b1,b2,b3,b4,b5]) :
    Ct Tryz.prog 109 #[iv 4,pp ab 0,pp bb 0] [] [.blk ab #[iv a0,iv a1,iv a2,iv a3,iv a4,iv a5] 40,.blk bb #[iv b0,iv b1,iv b2,iv b3,iv b4,iv b5] 40] (fun g=>iv (a4+b4)) (fun g=>[]) (fun g=>[.blk ab #[iv a0,iv a1,iv a2,iv a3,iv a4,iv a5] 40,.blk bb #[iv b0,iv b1,iv b2,iv b3,iv b4,iv b5] 40]) (fun g=>[]):=by
  refine V.fn mo Tryz.func109 12 0 (by kernel_rfl) fun w H ε k0=>?_;clear k0
  have ha6:=Dm.Rt6.1 ha;have hb6:=Dm.Rt6.1 hb2;refine V.g [.k (iv 0)] fun _ _ G1=>?_;intro S s
  refine V.g [.k (iv 4),.k (pp ab 4),.ld 0 4 false (fun _=>[iv a4]),.k (iv 4),.k (pp bb 4),.ld 1 4 false (fun _=>[iv b4]),.a (a4+b4) (by omega) (by omega),.k (iv (a4+b4))] fun _ _ G2=>?_;intro S s
  exact V.rs [0] [] [] [] [] [0,1] (iv (a4+b4))
theorem mulc_ct4v (ab:Nat) (a0 a1 a2 a3 a4 a5:Int) (bb:Nat) (b0 b1 b2 b3 b4 b5:Int) (ha:Dm.Rt [a0,a1,a2,a3,a4,a5]) (hb2:Dm.Rt [b0,b1,b2,b3,b4,b5]) (rv0:Int) (erv0:rv0=a4+b4) :
    Ct Tryz.prog 109 #[iv 4,pp ab 0,pp bb 0] [] [.blk ab #[iv a0,iv a1,iv a2,iv a3,iv a4,iv a5] 40,.blk bb #[iv b0,iv b1,iv b2,iv b3,iv b4,iv b5] 40] (fun g=>iv rv0) (fun g=>[]) (fun g=>[.blk ab #[iv a0,iv a1,iv a2,iv a3,iv a4,iv a5] 40,.blk bb #[iv b0,iv b1,iv b2,iv b3,iv b4,iv b5] 40]) (fun g=>[]):=by
  subst erv0;exact mulc_ct4 ab a0 a1 a2 a3 a4 a5 bb b0 b1 b2 b3 b4 b5 ha hb2
set_option maxRecDepth 10000 in
theorem mulc_ct5 (ab:Nat) (a0 a1 a2 a3 a4 a5:Int) (bb:Nat) (b0 b1 b2 b3 b4 b5:Int) (ha:Dm.Rt [a0,a1,a2,a3,a4,a5]) (hb2:Dm.Rt [b0,b1,b2,b3,b4,b5]) :
    Ct Tryz.prog 109 #[iv 5,pp ab 0,pp bb 0] [] [.blk ab #[iv a0,iv a1,iv a2,iv a3,iv a4,iv a5] 40,.blk bb #[iv b0,iv b1,iv b2,iv b3,iv b4,iv b5] 40] (fun g=>iv (a5+b5)) (fun g=>[]) (fun g=>[.blk ab #[iv a0,iv a1,iv a2,iv a3,iv a4,iv a5] 40,.blk bb #[iv b0,iv b1,iv b2,iv b3,iv b4,iv b5] 40]) (fun g=>[]):=by
  refine V.fn mo Tryz.func109 12 0 (by kernel_rfl) fun w H ε k0=>?_;clear k0
  have ha6:=Dm.Rt6.1 ha;have hb6:=Dm.Rt6.1 hb2;refine V.g [.k (iv 0)] fun _ _ G1=>?_;intro S s
  refine V.g [.k (iv 5),.k (pp ab 5),.ld 0 5 false (fun _=>[iv a5]),.k (iv 5),.k (pp bb 5),.ld 1 5 false (fun _=>[iv b5]),.a (a5+b5) (by omega) (by omega),.k (iv (a5+b5))] fun _ _ G2=>?_;intro S s
  exact V.rs [0] [] [] [] [] [0,1] (iv (a5+b5))
theorem mulc_ct5v (ab:Nat) (a0 a1 a2 a3 a4 a5:Int) (bb:Nat) (b0 b1 b2 b3 b4 b5:Int) (ha:Dm.Rt [a0,a1,a2,a3,a4,a5]) (hb2:Dm.Rt [b0,b1,b2,b3,b4,b5]) (rv0:Int) (erv0:rv0=a5+b5) :
    Ct Tryz.prog 109 #[iv 5,pp ab 0,pp bb 0] [] [.blk ab #[iv a0,iv a1,iv a2,iv a3,iv a4,iv a5] 40,.blk bb #[iv b0,iv b1,iv b2,iv b3,iv b4,iv b5] 40] (fun g=>iv rv0) (fun g=>[]) (fun g=>[.blk ab #[iv a0,iv a1,iv a2,iv a3,iv a4,iv a5] 40,.blk bb #[iv b0,iv b1,iv b2,iv b3,iv b4,iv b5] 40]) (fun g=>[]):=by
  subst erv0;exact mulc_ct5 ab a0 a1 a2 a3 a4 a5 bb b0 b1 b2 b3 b4 b5 ha hb2
set_option maxRecDepth 10000 in
theorem divc_ct0 (ab:Nat) (a0 a1 a2 a3 a4 a5:Int) (bb:Nat) (b0 b1 b2 b3 b4 b5:Int) (ha:Dm.Rt [a0,a1,a2,a3,a4,a5]) (hb2:Dm.Rt [b0,b1,b2,b3,b4,b5]) :
    Ct Tryz.prog 110 #[iv 0,pp ab 0,pp bb 0] [] [.blk ab #[iv a0,iv a1,iv a2,iv a3,iv a4,iv a5] 40,.blk bb #[iv b0,iv b1,iv b2,iv b3,iv b4,iv b5] 40] (fun g=>iv (a0-b0)) (fun g=>[]) (fun g=>[.blk ab #[iv a0,iv a1,iv a2,iv a3,iv a4,iv a5] 40,.blk bb #[iv b0,iv b1,iv b2,iv b3,iv b4,iv b5] 40]) (fun g=>[]):=by
  refine V.fn mo Tryz.func110 12 0 (by kernel_rfl) fun w H ε k0=>?_;clear k0
  have ha6:=Dm.Rt6.1 ha;have hb6:=Dm.Rt6.1 hb2;refine V.g [.k (iv 0)] fun _ _ G1=>?_;intro S s
  refine V.g [.k (iv 0),.k (pp ab 0),.ld 0 0 false (fun _=>[iv a0]),.k (iv 0),.k (pp bb 0),.ld 1 0 false (fun _=>[iv b0]),.a (a0-b0) (by omega) (by omega),.k (iv (a0-b0))] fun _ _ G2=>?_;intro S s
  exact V.rs [0] [] [] [] [] [0,1] (iv (a0-b0))
theorem divc_ct0v (ab:Nat) (a0 a1 a2 a3 a4 a5:Int) (bb:Nat) (b0 b1 b2 b3 b4 b5:Int) (ha:Dm.Rt [a0,a1,a2,a3,a4,a5]) (hb2:Dm.Rt [b0,b1,b2,b3,b4,b5]) (rv0:Int) (erv0:rv0=a0 - b0) :
    Ct Tryz.prog 110 #[iv 0,pp ab 0,pp bb 0] [] [.blk ab #[iv a0,iv a1,iv a2,iv a3,iv a4,iv a5] 40,.blk bb #[iv b0,iv b1,iv b2,iv b3,iv b4,iv b5] 40] (fun g=>iv rv0) (fun g=>[]) (fun g=>[.blk ab #[iv a0,iv a1,iv a2,iv a3,iv a4,iv a5] 40,.blk bb #[iv b0,iv b1,iv b2,iv b3,iv b4,iv b5] 40]) (fun g=>[]):=by
  subst erv0;exact divc_ct0 ab a0 a1 a2 a3 a4 a5 bb b0 b1 b2 b3 b4 b5 ha hb2
set_option maxRecDepth 10000 in
theorem divc_ct1 (ab:Nat) (a0 a1 a2 a3 a4 a5:Int) (bb:Nat) (b0 b1 b2 b3 b4 b5:Int) (ha:Dm.Rt [a0,a1,a2,a3,a4,a5]) (hb2:Dm.Rt [b0,b1,b2,b3,b4,b5]) :
    Ct Tryz.prog 110 #[iv 1,pp ab 0,pp bb 0] [] [.blk ab #[iv a0,iv a1,iv a2,iv a3,iv a4,iv a5] 40,.blk bb #[iv b0,iv b1,iv b2,iv b3,iv b4,iv b5] 40] (fun g=>iv (a1-b1)) (fun g=>[]) (fun g=>[.blk ab #[iv a0,iv a1,iv a2,iv a3,iv a4,iv a5] 40,.blk bb #[iv b0,iv b1,iv b2,iv b3,iv b4,iv b5] 40]) (fun g=>[]):=by
  refine V.fn mo Tryz.func110 12 0 (by kernel_rfl) fun w H ε k0=>?_;clear k0
  have ha6:=Dm.Rt6.1 ha;have hb6:=Dm.Rt6.1 hb2;refine V.g [.k (iv 0)] fun _ _ G1=>?_;intro S s
  refine V.g [.k (iv 1),.k (pp ab 1),.ld 0 1 false (fun _=>[iv a1]),.k (iv 1),.k (pp bb 1),.ld 1 1 false (fun _=>[iv b1]),.a (a1-b1) (by omega) (by omega),.k (iv (a1-b1))] fun _ _ G2=>?_;intro S s
  exact V.rs [0] [] [] [] [] [0,1] (iv (a1-b1))
theorem divc_ct1v (ab:Nat) (a0 a1 a2 a3 a4 a5:Int) (bb:Nat) (b0 b1 b2 b3 b4 b5:Int) (ha:Dm.Rt [a0,a1,a2,a3,a4,a5]) (hb2:Dm.Rt [b0,b1,b2,b3,b4,b5]) (rv0:Int) (erv0:rv0=a1 - b1) :
    Ct Tryz.prog 110 #[iv 1,pp ab 0,pp bb 0] [] [.blk ab #[iv a0,iv a1,iv a2,iv a3,iv a4,iv a5] 40,.blk bb #[iv b0,iv b1,iv b2,iv b3,iv b4,iv b5] 40] (fun g=>iv rv0) (fun g=>[]) (fun g=>[.blk ab #[iv a0,iv a1,iv a2,iv a3,iv a4,iv a5] 40,.blk bb #[iv b0,iv b1,iv b2,iv b3,iv b4,iv b5] 40]) (fun g=>[]):=by
  subst erv0;exact divc_ct1 ab a0 a1 a2 a3 a4 a5 bb b0 b1 b2 b3 b4 b5 ha hb2
set_option maxRecDepth 10000 in
theorem divc_ct2 (ab:Nat) (a0 a1 a2 a3 a4 a5:Int) (bb:Nat) (b0 b1 b2 b3 b4 b5:Int) (ha:Dm.Rt [a0,a1,a2,a3,a4,a5]) (hb2:Dm.Rt [b0,b1,b2,b3,b4,b5]) :
    Ct Tryz.prog 110 #[iv 2,pp ab 0,pp bb 0] [] [.blk ab #[iv a0,iv a1,iv a2,iv a3,iv a4,iv a5] 40,.blk bb #[iv b0,iv b1,iv b2,iv b3,iv b4,iv b5] 40] (fun g=>iv (a2-b2)) (fun g=>[]) (fun g=>[.blk ab #[iv a0,iv a1,iv a2,iv a3,iv a4,iv a5] 40,.blk bb #[iv b0,iv b1,iv b2,iv b3,iv b4,iv b5] 40]) (fun g=>[]):=by
  refine V.fn mo Tryz.func110 12 0 (by kernel_rfl) fun w H ε k0=>?_;clear k0
  have ha6:=Dm.Rt6.1 ha;have hb6:=Dm.Rt6.1 hb2;refine V.g [.k (iv 0)] fun _ _ G1=>?_;intro S s
  refine V.g [.k (iv 2),.k (pp ab 2),.ld 0 2 false (fun _=>[iv a2]),.k (iv 2),.k (pp bb 2),.ld 1 2 false (fun _=>[iv b2]),.a (a2-b2) (by omega) (by omega),.k (iv (a2-b2))] fun _ _ G2=>?_;intro S s
  exact V.rs [0] [] [] [] [] [0,1] (iv (a2-b2))
theorem divc_ct2v (ab:Nat) (a0 a1 a2 a3 a4 a5:Int) (bb:Nat) (b0 b1 b2 b3 b4 b5:Int) (ha:Dm.Rt [a0,a1,a2,a3,a4,a5]) (hb2:Dm.Rt [b0,b1,b2,b3,b4,b5]) (rv0:Int) (erv0:rv0=a2 - b2) :
    Ct Tryz.prog 110 #[iv 2,pp ab 0,pp bb 0] [] [.blk ab #[iv a0,iv a1,iv a2,iv a3,iv a4,iv a5] 40,.blk bb #[iv b0,iv b1,iv b2,iv b3,iv b4,iv b5] 40] (fun g=>iv rv0) (fun g=>[]) (fun g=>[.blk ab #[iv a0,iv a1,iv a2,iv a3,iv a4,iv a5] 40,.blk bb #[iv b0,iv b1,iv b2,iv b3,iv b4,iv b5] 40]) (fun g=>[]):=by
  subst erv0;exact divc_ct2 ab a0 a1 a2 a3 a4 a5 bb b0 b1 b2 b3 b4 b5 ha hb2
set_option maxRecDepth 10000 in
theorem divc_ct3 (ab:Nat) (a0 a1 a2 a3 a4 a5:Int) (bb:Nat) (b0 b1 b2 b3 b4 b5:Int) (ha:Dm.Rt [a0,a1,a2,a3,a4,a5]) (hb2:Dm.Rt [b0,b1,b2,b3,b4,b5]) :
    Ct Tryz.prog 110 #[iv 3,pp ab 0,pp bb 0] [] [.blk ab #[iv a0,iv a1,iv a2,iv a3,iv a4,iv a5] 40,.blk bb #[iv b0,iv b1,iv b2,iv b3,iv b4,iv b5] 40] (fun g=>iv (a3-b3)) (fun g=>[]) (fun g=>[.blk ab #[iv a0,iv a1,iv a2,iv a3,iv a4,iv a5] 40,.blk bb #[iv b0,iv b1,iv b2,iv b3,iv b4,iv b5] 40]) (fun g=>[]):=by
  refine V.fn mo Tryz.func110 12 0 (by kernel_rfl) fun w H ε k0=>?_;clear k0
  have ha6:=Dm.Rt6.1 ha;have hb6:=Dm.Rt6.1 hb2;refine V.g [.k (iv 0)] fun _ _ G1=>?_;intro S s
  refine V.g [.k (iv 3),.k (pp ab 3),.ld 0 3 false (fun _=>[iv a3]),.k (iv 3),.k (pp bb 3),.ld 1 3 false (fun _=>[iv b3]),.a (a3-b3) (by omega) (by omega),.k (iv (a3-b3))] fun _ _ G2=>?_;intro S s
  exact V.rs [0] [] [] [] [] [0,1] (iv (a3-b3))
theorem divc_ct3v (ab:Nat) (a0 a1 a2 a3 a4 a5:Int) (bb:Nat) (b0 b1 b2 b3 b4 b5:Int) (ha:Dm.Rt [a0,a1,a2,a3,a4,a5]) (hb2:Dm.Rt [b0,b1,b2,b3,b4,b5]) (rv0:Int) (erv0:rv0=a3 - b3) :
    Ct Tryz.prog 110 #[iv 3,pp ab 0,pp bb 0] [] [.blk ab #[iv a0,iv a1,iv a2,iv a3,iv a4,iv a5] 40,.blk bb #[iv b0,iv b1,iv b2,iv b3,iv b4,iv b5] 40] (fun g=>iv rv0) (fun g=>[]) (fun g=>[.blk ab #[iv a0,iv a1,iv a2,iv a3,iv a4,iv a5] 40,.blk bb #[iv b0,iv b1,iv b2,iv b3,iv b4,iv b5] 40]) (fun g=>[]):=by
  subst erv0;exact divc_ct3 ab a0 a1 a2 a3 a4 a5 bb b0 b1 b2 b3 b4 b5 ha hb2
set_option maxRecDepth 10000 in
theorem divc_ct4 (ab:Nat) (a0 a1 a2 a3 a4 a5:Int) (bb:Nat) (b0 b1 b2 b3 b4 b5:Int) (ha:Dm.Rt [a0,a1,a2,a3,a4,a5]) (hb2:Dm.Rt [b0,b1,b2,b3,b4,b5]) :
    Ct Tryz.prog 110 #[iv 4,pp ab 0,pp bb 0] [] [.blk ab #[iv a0,iv a1,iv a2,iv a3,iv a4,iv a5] 40,.blk bb #[iv b0,iv b1,iv b2,iv b3,iv b4,iv b5] 40] (fun g=>iv (a4-b4)) (fun g=>[]) (fun g=>[.blk ab #[iv a0,iv a1,iv a2,iv a3,iv a4,iv a5] 40,.blk bb #[iv b0,iv b1,iv b2,iv b3,iv b4,iv b5] 40]) (fun g=>[]):=by
  refine V.fn mo Tryz.func110 12 0 (by kernel_rfl) fun w H ε k0=>?_;clear k0
  have ha6:=Dm.Rt6.1 ha;have hb6:=Dm.Rt6.1 hb2;refine V.g [.k (iv 0)] fun _ _ G1=>?_;intro S s
  refine V.g [.k (iv 4),.k (pp ab 4),.ld 0 4 false (fun _=>[iv a4]),.k (iv 4),.k (pp bb 4),.ld 1 4 false (fun _=>[iv b4]),.a (a4-b4) (by omega) (by omega),.k (iv (a4-b4))] fun _ _ G2=>?_;intro S s
  exact V.rs [0] [] [] [] [] [0,1] (iv (a4-b4))
theorem divc_ct4v (ab:Nat) (a0 a1 a2 a3 a4 a5:Int) (bb:Nat) (b0 b1 b2 b3 b4 b5:Int) (ha:Dm.Rt [a0,a1,a2,a3,a4,a5]) (hb2:Dm.Rt [b0,b1,b2,b3,b4,b5]) (rv0:Int) (erv0:rv0=a4 - b4) :
    Ct Tryz.prog 110 #[iv 4,pp ab 0,pp bb 0] [] [.blk ab #[iv a0,iv a1,iv a2,iv a3,iv a4,iv a5] 40,.blk bb #[iv b0,iv b1,iv b2,iv b3,iv b4,iv b5] 40] (fun g=>iv rv0) (fun g=>[]) (fun g=>[.blk ab #[iv a0,iv a1,iv a2,iv a3,iv a4,iv a5] 40,.blk bb #[iv b0,iv b1,iv b2,iv b3,iv b4,iv b5] 40]) (fun g=>[]):=by
  subst erv0;exact divc_ct4 ab a0 a1 a2 a3 a4 a5 bb b0 b1 b2 b3 b4 b5 ha hb2
set_option maxRecDepth 10000 in
theorem divc_ct5 (ab:Nat) (a0 a1 a2 a3 a4 a5:Int) (bb:Nat) (b0 b1 b2 b3 b4 b5:Int) (ha:Dm.Rt [a0,a1,a2,a3,a4,a5]) (hb2:Dm.Rt [b0,b1,b2,b3,b4,b5]) :
    Ct Tryz.prog 110 #[iv 5,pp ab 0,pp bb 0] [] [.blk ab #[iv a0,iv a1,iv a2,iv a3,iv a4,iv a5] 40,.blk bb #[iv b0,iv b1,iv b2,iv b3,iv b4,iv b5] 40] (fun g=>iv (a5-b5)) (fun g=>[]) (fun g=>[.blk ab #[iv a0,iv a1,iv a2,iv a3,iv a4,iv a5] 40,.blk bb #[iv b0,iv b1,iv b2,iv b3,iv b4,iv b5] 40]) (fun g=>[]):=by
  refine V.fn mo Tryz.func110 12 0 (by kernel_rfl) fun w H ε k0=>?_;clear k0
  have ha6:=Dm.Rt6.1 ha;have hb6:=Dm.Rt6.1 hb2;refine V.g [.k (iv 0)] fun _ _ G1=>?_;intro S s
  refine V.g [.k (iv 5),.k (pp ab 5),.ld 0 5 false (fun _=>[iv a5]),.k (iv 5),.k (pp bb 5),.ld 1 5 false (fun _=>[iv b5]),.a (a5-b5) (by omega) (by omega),.k (iv (a5-b5))] fun _ _ G2=>?_;intro S s
  exact V.rs [0] [] [] [] [] [0,1] (iv (a5-b5))
theorem divc_ct5v (ab:Nat) (a0 a1 a2 a3 a4 a5:Int) (bb:Nat) (b0 b1 b2 b3 b4 b5:Int) (ha:Dm.Rt [a0,a1,a2,a3,a4,a5]) (hb2:Dm.Rt [b0,b1,b2,b3,b4,b5]) (rv0:Int) (erv0:rv0=a5 - b5) :
    Ct Tryz.prog 110 #[iv 5,pp ab 0,pp bb 0] [] [.blk ab #[iv a0,iv a1,iv a2,iv a3,iv a4,iv a5] 40,.blk bb #[iv b0,iv b1,iv b2,iv b3,iv b4,iv b5] 40] (fun g=>iv rv0) (fun g=>[]) (fun g=>[.blk ab #[iv a0,iv a1,iv a2,iv a3,iv a4,iv a5] 40,.blk bb #[iv b0,iv b1,iv b2,iv b3,iv b4,iv b5] 40]) (fun g=>[]):=by
  subst erv0;exact divc_ct5 ab a0 a1 a2 a3 a4 a5 bb b0 b1 b2 b3 b4 b5 ha hb2
set_option maxRecDepth 10000 in
set_option maxHeartbeats 4000000 in
theorem madem_ct (ab:Nat) (a0 a1 a2 a3 a4 a5:Int) (bb:Nat) (b0 b1 b2 b3 b4 b5:Int) (ha:Dm.Rt [a0,a1,a2,a3,a4,a5]) (hb2:Dm.Rt [b0,b1,b2,b3,b4,b5]) :
    Ct Tryz.prog 108 #[.func (.func 109) #[] #[pp ab 0,pp bb 0]] [] [.blk ab #[iv a0,iv a1,iv a2,iv a3,iv a4,iv a5] 40,.blk bb #[iv b0,iv b1,iv b2,iv b3,iv b4,iv b5] 40] (fun g=>.tuple #[.agg #[iv (Dm.mk [a0+b0,a1+b1,a2+b2,a3+b3,a4+b4,a5+b5] 0),iv (Dm.mk [a0+b0,a1+b1,a2+b2,a3+b3,a4+b4,a5+b5] 1),iv (Dm.mk [a0+b0,a1+b1,a2+b2,a3+b3,a4+b4,a5+b5] 2),iv (Dm.mk [a0+b0,a1+b1,a2+b2,a3+b3,a4+b4,a5+b5] 3),iv (Dm.mk [a0+b0,a1+b1,a2+b2,a3+b3,a4+b4,a5+b5] 4),iv (Dm.mk [a0+b0,a1+b1,a2+b2,a3+b3,a4+b4,a5+b5] 5)],iv (Dm.mkE [a0+b0,a1+b1,a2+b2,a3+b3,a4+b4,a5+b5])]) (fun g=>[]) (fun g=>[.blk ab #[iv a0,iv a1,iv a2,iv a3,iv a4,iv a5] 40,.blk bb #[iv b0,iv b1,iv b2,iv b3,iv b4,iv b5] 40]) (fun g=>[]):=by
  refine V.fn mo Tryz.func108 20 2 (by kernel_rfl) fun w H ε k0=>?_;clear k0
  refine V.g [.nb 0 2 (fun b=>pp b 0) 40 (fun _=>#[iv 0,iv 0,iv 0,iv 0,iv 0,iv 0]),.k (iv 0)] fun _ _ G1=>?_;intro S s
  refine V.g [.nb 0 3 (fun b=>pp b 0) 40 (fun _=>#[iv 0,iv 0,iv 0,iv 0,iv 0,iv 0])] fun _ _ G2=>?_;intro S s
  refine V.g [.k (iv 0)] fun _ _ G3=>?_;intro S s
  refine V.unroll 99 (by kernel_rfl) ?_;refine V.g [.kb true] fun _ _ G4=>?_;intro S s
  refine V.condT (by kernel_rfl) ?_;refine V.g [.k (iv 0),.k (iv 0)] fun _ _ G5=>?_;intro S s
  refine nm (a0+b0:Int) fun n1 hn1=>?_;refine V.g [.k (iv 0),.k (.func (.func 109) #[] #[pp ab 0,pp bb 0]),.k (iv 0),.ct g0 3 109 false [0,1] [] [] (fun _ G=>mulc_ct0v ab a0 a1 a2 a3 a4 a5 bb b0 b1 b2 b3 b4 b5 (by assumption) (by assumption) n1 hn1),.k (pp ((G2 0).b) 0),.st 3 (fun _=>.blk ((G2 0).b) #[iv n1,iv 0,iv 0,iv 0,iv 0,iv 0] 40)] fun _ _ G6=>?_;intro S s
  refine V.g [.k (iv 1),.k (iv 1)] fun _ _ G7=>?_;intro S s
  refine V.again 98 (by kernel_rfl) ?_;refine V.g [.kb true] fun _ _ G8=>?_;intro S s
  refine V.condT (by kernel_rfl) ?_;refine V.g [.k (iv 1),.k (iv 1)] fun _ _ G9=>?_;intro S s
  refine nm (a1+b1:Int) fun n2 hn2=>?_;refine V.g [.k (iv 1),.k (.func (.func 109) #[] #[pp ab 0,pp bb 0]),.k (iv 1),.ct g0 3 109 false [0,1] [] [] (fun _ G=>mulc_ct1v ab a0 a1 a2 a3 a4 a5 bb b0 b1 b2 b3 b4 b5 (by assumption) (by assumption) n2 hn2),.k (pp ((G2 0).b) 1),.st 3 (fun _=>.blk ((G2 0).b) #[iv n1,iv n2,iv 0,iv 0,iv 0,iv 0] 40)] fun _ _ G10=>?_;intro S s
  refine V.g [.k (iv 2),.k (iv 2)] fun _ _ G11=>?_;intro S s
  refine V.again 97 (by kernel_rfl) ?_;refine V.g [.kb true] fun _ _ G12=>?_;intro S s
  refine V.condT (by kernel_rfl) ?_;refine V.g [.k (iv 2),.k (iv 2)] fun _ _ G13=>?_;intro S s
  refine nm (a2+b2:Int) fun n3 hn3=>?_;refine V.g [.k (iv 2),.k (.func (.func 109) #[] #[pp ab 0,pp bb 0]),.k (iv 2),.ct g0 3 109 false [0,1] [] [] (fun _ G=>mulc_ct2v ab a0 a1 a2 a3 a4 a5 bb b0 b1 b2 b3 b4 b5 (by assumption) (by assumption) n3 hn3),.k (pp ((G2 0).b) 2),.st 3 (fun _=>.blk ((G2 0).b) #[iv n1,iv n2,iv n3,iv 0,iv 0,iv 0] 40)] fun _ _ G14=>?_;intro S s
  refine V.g [.k (iv 3),.k (iv 3)] fun _ _ G15=>?_;intro S s
  refine V.again 96 (by kernel_rfl) ?_;refine V.g [.kb true] fun _ _ G16=>?_;intro S s
  refine V.condT (by kernel_rfl) ?_;refine V.g [.k (iv 3),.k (iv 3)] fun _ _ G17=>?_;intro S s
  refine nm (a3+b3:Int) fun n4 hn4=>?_;refine V.g [.k (iv 3),.k (.func (.func 109) #[] #[pp ab 0,pp bb 0]),.k (iv 3),.ct g0 3 109 false [0,1] [] [] (fun _ G=>mulc_ct3v ab a0 a1 a2 a3 a4 a5 bb b0 b1 b2 b3 b4 b5 (by assumption) (by assumption) n4 hn4),.k (pp ((G2 0).b) 3),.st 3 (fun _=>.blk ((G2 0).b) #[iv n1,iv n2,iv n3,iv n4,iv 0,iv 0] 40)] fun _ _ G18=>?_;intro S s
  refine V.g [.k (iv 4),.k (iv 4)] fun _ _ G19=>?_;intro S s
  refine V.again 95 (by kernel_rfl) ?_;refine V.g [.kb true] fun _ _ G20=>?_;intro S s
  refine V.condT (by kernel_rfl) ?_;refine V.g [.k (iv 4),.k (iv 4)] fun _ _ G21=>?_;intro S s
  refine nm (a4+b4:Int) fun n5 hn5=>?_;refine V.g [.k (iv 4),.k (.func (.func 109) #[] #[pp ab 0,pp bb 0]),.k (iv 4),.ct g0 3 109 false [0,1] [] [] (fun _ G=>mulc_ct4v ab a0 a1 a2 a3 a4 a5 bb b0 b1 b2 b3 b4 b5 (by assumption) (by assumption) n5 hn5),.k (pp ((G2 0).b) 4),.st 3 (fun _=>.blk ((G2 0).b) #[iv n1,iv n2,iv n3,iv n4,iv n5,iv 0] 40)] fun _ _ G22=>?_;intro S s
  refine V.g [.k (iv 5),.k (iv 5)] fun _ _ G23=>?_;intro S s
  refine V.again 94 (by kernel_rfl) ?_;refine V.g [.kb true] fun _ _ G24=>?_;intro S s
  refine V.condT (by kernel_rfl) ?_;refine V.g [.k (iv 5),.k (iv 5)] fun _ _ G25=>?_;intro S s
  refine nm (a5+b5:Int) fun n6 hn6=>?_;refine V.g [.k (iv 5),.k (.func (.func 109) #[] #[pp ab 0,pp bb 0]),.k (iv 5),.ct g0 3 109 false [0,1] [] [] (fun _ G=>mulc_ct5v ab a0 a1 a2 a3 a4 a5 bb b0 b1 b2 b3 b4 b5 (by assumption) (by assumption) n6 hn6),.k (pp ((G2 0).b) 5),.st 3 (fun _=>.blk ((G2 0).b) #[iv n1,iv n2,iv n3,iv n4,iv n5,iv n6] 40)] fun _ _ G26=>?_;intro S s
  refine V.g [.k (iv 6),.k (iv 6)] fun _ _ G27=>?_;intro S s
  refine V.again 93 (by kernel_rfl) ?_;refine V.g [.kb false] fun _ _ G28=>?_;intro S s
  refine V.condF (by kernel_rfl) ?_;refine V.g [.ld 3 0 true (fun _=>[iv n1,iv n2,iv n3,iv n4,iv n5,iv n6]),.cp g0 1 63 [] (fun _ G=>dright_ct n1 n2 n3 n4 n5 n6),.k (bv (!(decide (Dm.Rt [n1,n2,n3,n4,n5,n6]))))] fun _ _ G29=>?_;intro S s
  refine V.cn (b:=!(decide (Dm.Rt [n1,n2,n3,n4,n5,n6]))) (iNT iDF) (iNF iDT) (fun q1=>?_) (fun q2=>?_)
  · have hR:¬ Dm.Rt [a0+b0,a1+b1,a2+b2,a3+b3,a4+b4,a5+b5]:=by subst_vars;exact q1
    refine V.g [.k (.agg #[iv 0,iv 0,iv 0,iv 0,iv 0,iv 0]),.st 2 (fun _=>.blk ((G1 0).b) #[iv 0,iv 0,iv 0,iv 0,iv 0,iv 0] 40),.k (iv 3)] fun _ _ G30=>?_;intro S s
    have e0:(0:Int)=Dm.mk [a0+b0,a1+b1,a2+b2,a3+b3,a4+b4,a5+b5] 0:=(Dm.mk_n hR 0).symm;have e1:(0:Int)=Dm.mk [a0+b0,a1+b1,a2+b2,a3+b3,a4+b4,a5+b5] 1:=(Dm.mk_n hR 1).symm;have e2:(0:Int)=Dm.mk [a0+b0,a1+b1,a2+b2,a3+b3,a4+b4,a5+b5] 2:=(Dm.mk_n hR 2).symm;have e3:(0:Int)=Dm.mk [a0+b0,a1+b1,a2+b2,a3+b3,a4+b4,a5+b5] 3:=(Dm.mk_n hR 3).symm;have e4:(0:Int)=Dm.mk [a0+b0,a1+b1,a2+b2,a3+b3,a4+b4,a5+b5] 4:=(Dm.mk_n hR 4).symm;have e5:(0:Int)=Dm.mk [a0+b0,a1+b1,a2+b2,a3+b3,a4+b4,a5+b5] 5:=(Dm.mk_n hR 5).symm;have e6:(3:Int)=Dm.mkE [a0+b0,a1+b1,a2+b2,a3+b3,a4+b4,a5+b5]:=(Dm.mkE_n hR).symm;exact V.rt [2,0] [] [] [] [] [0,1] (.tuple #[.agg #[iv 0,iv 0,iv 0,iv 0,iv 0,iv 0],iv 3]) (cong7 (fun (x0 x1 x2 x3 x4 x5 x6:Int)=>(.tuple #[.agg #[iv x0,iv x1,iv x2,iv x3,iv x4,iv x5],iv x6]:Value)) e0 e1 e2 e3 e4 e5 e6)
  have hR:Dm.Rt [a0+b0,a1+b1,a2+b2,a3+b3,a4+b4,a5+b5]:=by subst_vars;first | exact q2 | exact Decidable.not_not.1 q2
  refine V.g [.ld 3 0 true (fun _=>[iv n1,iv n2,iv n3,iv n4,iv n5,iv n6]),.st 2 (fun _=>.blk ((G1 0).b) #[iv n1,iv n2,iv n3,iv n4,iv n5,iv n6] 40),.k (iv 0)] fun _ _ G31=>?_;intro S s
  have e0:n1=Dm.mk [a0+b0,a1+b1,a2+b2,a3+b3,a4+b4,a5+b5] 0:=by
    rw [hn1];exact (Dm.mk_y hR 0).symm
  have e1:n2=Dm.mk [a0+b0,a1+b1,a2+b2,a3+b3,a4+b4,a5+b5] 1:=by
    rw [hn2];exact (Dm.mk_y hR 1).symm
  have e2:n3=Dm.mk [a0+b0,a1+b1,a2+b2,a3+b3,a4+b4,a5+b5] 2:=by
    rw [hn3];exact (Dm.mk_y hR 2).symm
  have e3:n4=Dm.mk [a0+b0,a1+b1,a2+b2,a3+b3,a4+b4,a5+b5] 3:=by
    rw [hn4];exact (Dm.mk_y hR 3).symm
  have e4:n5=Dm.mk [a0+b0,a1+b1,a2+b2,a3+b3,a4+b4,a5+b5] 4:=by
    rw [hn5];exact (Dm.mk_y hR 4).symm
  have e5:n6=Dm.mk [a0+b0,a1+b1,a2+b2,a3+b3,a4+b4,a5+b5] 5:=by
    rw [hn6];exact (Dm.mk_y hR 5).symm
  have e6:(0:Int)=Dm.mkE [a0+b0,a1+b1,a2+b2,a3+b3,a4+b4,a5+b5]:=(Dm.mkE_y hR).symm;exact V.rt [2,0] [] [] [] [] [0,1] (.tuple #[.agg #[iv n1,iv n2,iv n3,iv n4,iv n5,iv n6],iv 0]) (cong7 (fun (x0 x1 x2 x3 x4 x5 x6:Int)=>(.tuple #[.agg #[iv x0,iv x1,iv x2,iv x3,iv x4,iv x5],iv x6]:Value)) e0 e1 e2 e3 e4 e5 e6)
theorem madem_ctv (ab:Nat) (a0 a1 a2 a3 a4 a5:Int) (bb:Nat) (b0 b1 b2 b3 b4 b5:Int) (ha:Dm.Rt [a0,a1,a2,a3,a4,a5]) (hb2:Dm.Rt [b0,b1,b2,b3,b4,b5]) (rv0:Int) (erv0:rv0=Dm.mk [a0+b0,a1+b1,a2+b2,a3+b3,a4+b4,a5+b5] 0) (rv1:Int) (erv1:rv1=Dm.mk [a0+b0,a1+b1,a2+b2,a3+b3,a4+b4,a5+b5] 1) (rv2:Int) (erv2:rv2=Dm.mk [a0+b0,a1+b1,a2+b2,a3+b3,a4+b4,a5+b5] 2) (rv3:Int) (erv3:rv3=Dm.mk [a0+b0,a1+b1,a2+b2,a3+b3,a4+b4,a5+b5] 3) (rv4:Int) (erv4:rv4=Dm.mk [a0+b0,a1+b1,a2+b2,a3+b3,a4+b4,a5+b5] 4) (rv5:Int) (erv5:rv5=Dm.mk [a0+b0,a1+b1,a2+b2,a3+b3,a4+b4,a5+b5] 5) (rv6:Int) (erv6:rv6=Dm.mkE [a0+b0,a1+b1,a2+b2,a3+b3,a4+b4,a5+b5]) :
    Ct Tryz.prog 108 #[.func (.func 109) #[] #[pp ab 0,pp bb 0]] [] [.blk ab #[iv a0,iv a1,iv a2,iv a3,iv a4,iv a5] 40,.blk bb #[iv b0,iv b1,iv b2,iv b3,iv b4,iv b5] 40] (fun g=>.tuple #[.agg #[iv rv0,iv rv1,iv rv2,iv rv3,iv rv4,iv rv5],iv rv6]) (fun g=>[]) (fun g=>[.blk ab #[iv a0,iv a1,iv a2,iv a3,iv a4,iv a5] 40,.blk bb #[iv b0,iv b1,iv b2,iv b3,iv b4,iv b5] 40]) (fun g=>[]):=by
  subst erv0 erv1 erv2 erv3 erv4 erv5 erv6;exact madem_ct ab a0 a1 a2 a3 a4 a5 bb b0 b1 b2 b3 b4 b5 ha hb2
set_option maxRecDepth 10000 in
set_option maxHeartbeats 4000000 in
theorem maded_ct (ab:Nat) (a0 a1 a2 a3 a4 a5:Int) (bb:Nat) (b0 b1 b2 b3 b4 b5:Int) (ha:Dm.Rt [a0,a1,a2,a3,a4,a5]) (hb2:Dm.Rt [b0,b1,b2,b3,b4,b5]) :
    Ct Tryz.prog 108 #[.func (.func 110) #[] #[pp ab 0,pp bb 0]] [] [.blk ab #[iv a0,iv a1,iv a2,iv a3,iv a4,iv a5] 40,.blk bb #[iv b0,iv b1,iv b2,iv b3,iv b4,iv b5] 40] (fun g=>.tuple #[.agg #[iv (Dm.mk [a0-b0,a1-b1,a2-b2,a3-b3,a4-b4,a5-b5] 0),iv (Dm.mk [a0-b0,a1-b1,a2-b2,a3-b3,a4-b4,a5-b5] 1),iv (Dm.mk [a0-b0,a1-b1,a2-b2,a3-b3,a4-b4,a5-b5] 2),iv (Dm.mk [a0-b0,a1-b1,a2-b2,a3-b3,a4-b4,a5-b5] 3),iv (Dm.mk [a0-b0,a1-b1,a2-b2,a3-b3,a4-b4,a5-b5] 4),iv (Dm.mk [a0-b0,a1-b1,a2-b2,a3-b3,a4-b4,a5-b5] 5)],iv (Dm.mkE [a0-b0,a1-b1,a2-b2,a3-b3,a4-b4,a5-b5])]) (fun g=>[]) (fun g=>[.blk ab #[iv a0,iv a1,iv a2,iv a3,iv a4,iv a5] 40,.blk bb #[iv b0,iv b1,iv b2,iv b3,iv b4,iv b5] 40]) (fun g=>[]):=by
  refine V.fn mo Tryz.func108 20 2 (by kernel_rfl) fun w H ε k0=>?_;clear k0
  refine V.g [.nb 0 2 (fun b=>pp b 0) 40 (fun _=>#[iv 0,iv 0,iv 0,iv 0,iv 0,iv 0]),.k (iv 0)] fun _ _ G1=>?_;intro S s
  refine V.g [.nb 0 3 (fun b=>pp b 0) 40 (fun _=>#[iv 0,iv 0,iv 0,iv 0,iv 0,iv 0])] fun _ _ G2=>?_;intro S s
  refine V.g [.k (iv 0)] fun _ _ G3=>?_;intro S s
  refine V.unroll 99 (by kernel_rfl) ?_;refine V.g [.kb true] fun _ _ G4=>?_;intro S s
  refine V.condT (by kernel_rfl) ?_;refine V.g [.k (iv 0),.k (iv 0)] fun _ _ G5=>?_;intro S s
  refine nm (a0-b0:Int) fun n1 hn1=>?_;refine V.g [.k (iv 0),.k (.func (.func 110) #[] #[pp ab 0,pp bb 0]),.k (iv 0),.ct g0 3 110 false [0,1] [] [] (fun _ G=>divc_ct0v ab a0 a1 a2 a3 a4 a5 bb b0 b1 b2 b3 b4 b5 (by assumption) (by assumption) n1 hn1),.k (pp ((G2 0).b) 0),.st 3 (fun _=>.blk ((G2 0).b) #[iv n1,iv 0,iv 0,iv 0,iv 0,iv 0] 40)] fun _ _ G6=>?_;intro S s
  refine V.g [.k (iv 1),.k (iv 1)] fun _ _ G7=>?_;intro S s
  refine V.again 98 (by kernel_rfl) ?_;refine V.g [.kb true] fun _ _ G8=>?_;intro S s
  refine V.condT (by kernel_rfl) ?_;refine V.g [.k (iv 1),.k (iv 1)] fun _ _ G9=>?_;intro S s
  refine nm (a1-b1:Int) fun n2 hn2=>?_;refine V.g [.k (iv 1),.k (.func (.func 110) #[] #[pp ab 0,pp bb 0]),.k (iv 1),.ct g0 3 110 false [0,1] [] [] (fun _ G=>divc_ct1v ab a0 a1 a2 a3 a4 a5 bb b0 b1 b2 b3 b4 b5 (by assumption) (by assumption) n2 hn2),.k (pp ((G2 0).b) 1),.st 3 (fun _=>.blk ((G2 0).b) #[iv n1,iv n2,iv 0,iv 0,iv 0,iv 0] 40)] fun _ _ G10=>?_;intro S s
  refine V.g [.k (iv 2),.k (iv 2)] fun _ _ G11=>?_;intro S s
  refine V.again 97 (by kernel_rfl) ?_;refine V.g [.kb true] fun _ _ G12=>?_;intro S s
  refine V.condT (by kernel_rfl) ?_;refine V.g [.k (iv 2),.k (iv 2)] fun _ _ G13=>?_;intro S s
  refine nm (a2-b2:Int) fun n3 hn3=>?_;refine V.g [.k (iv 2),.k (.func (.func 110) #[] #[pp ab 0,pp bb 0]),.k (iv 2),.ct g0 3 110 false [0,1] [] [] (fun _ G=>divc_ct2v ab a0 a1 a2 a3 a4 a5 bb b0 b1 b2 b3 b4 b5 (by assumption) (by assumption) n3 hn3),.k (pp ((G2 0).b) 2),.st 3 (fun _=>.blk ((G2 0).b) #[iv n1,iv n2,iv n3,iv 0,iv 0,iv 0] 40)] fun _ _ G14=>?_;intro S s
  refine V.g [.k (iv 3),.k (iv 3)] fun _ _ G15=>?_;intro S s
  refine V.again 96 (by kernel_rfl) ?_;refine V.g [.kb true] fun _ _ G16=>?_;intro S s
  refine V.condT (by kernel_rfl) ?_;refine V.g [.k (iv 3),.k (iv 3)] fun _ _ G17=>?_;intro S s
  refine nm (a3-b3:Int) fun n4 hn4=>?_;refine V.g [.k (iv 3),.k (.func (.func 110) #[] #[pp ab 0,pp bb 0]),.k (iv 3),.ct g0 3 110 false [0,1] [] [] (fun _ G=>divc_ct3v ab a0 a1 a2 a3 a4 a5 bb b0 b1 b2 b3 b4 b5 (by assumption) (by assumption) n4 hn4),.k (pp ((G2 0).b) 3),.st 3 (fun _=>.blk ((G2 0).b) #[iv n1,iv n2,iv n3,iv n4,iv 0,iv 0] 40)] fun _ _ G18=>?_;intro S s
  refine V.g [.k (iv 4),.k (iv 4)] fun _ _ G19=>?_;intro S s
  refine V.again 95 (by kernel_rfl) ?_;refine V.g [.kb true] fun _ _ G20=>?_;intro S s
  refine V.condT (by kernel_rfl) ?_;refine V.g [.k (iv 4),.k (iv 4)] fun _ _ G21=>?_;intro S s
  refine nm (a4-b4:Int) fun n5 hn5=>?_;refine V.g [.k (iv 4),.k (.func (.func 110) #[] #[pp ab 0,pp bb 0]),.k (iv 4),.ct g0 3 110 false [0,1] [] [] (fun _ G=>divc_ct4v ab a0 a1 a2 a3 a4 a5 bb b0 b1 b2 b3 b4 b5 (by assumption) (by assumption) n5 hn5),.k (pp ((G2 0).b) 4),.st 3 (fun _=>.blk ((G2 0).b) #[iv n1,iv n2,iv n3,iv n4,iv n5,iv 0] 40)] fun _ _ G22=>?_;intro S s
  refine V.g [.k (iv 5),.k (iv 5)] fun _ _ G23=>?_;intro S s
  refine V.again 94 (by kernel_rfl) ?_;refine V.g [.kb true] fun _ _ G24=>?_;intro S s
  refine V.condT (by kernel_rfl) ?_;refine V.g [.k (iv 5),.k (iv 5)] fun _ _ G25=>?_;intro S s
  refine nm (a5-b5:Int) fun n6 hn6=>?_;refine V.g [.k (iv 5),.k (.func (.func 110) #[] #[pp ab 0,pp bb 0]),.k (iv 5),.ct g0 3 110 false [0,1] [] [] (fun _ G=>divc_ct5v ab a0 a1 a2 a3 a4 a5 bb b0 b1 b2 b3 b4 b5 (by assumption) (by assumption) n6 hn6),.k (pp ((G2 0).b) 5),.st 3 (fun _=>.blk ((G2 0).b) #[iv n1,iv n2,iv n3,iv n4,iv n5,iv n6] 40)] fun _ _ G26=>?_;intro S s
  refine V.g [.k (iv 6),.k (iv 6)] fun _ _ G27=>?_;intro S s
  refine V.again 93 (by kernel_rfl) ?_;refine V.g [.kb false] fun _ _ G28=>?_;intro S s
  refine V.condF (by kernel_rfl) ?_;refine V.g [.ld 3 0 true (fun _=>[iv n1,iv n2,iv n3,iv n4,iv n5,iv n6]),.cp g0 1 63 [] (fun _ G=>dright_ct n1 n2 n3 n4 n5 n6),.k (bv (!(decide (Dm.Rt [n1,n2,n3,n4,n5,n6]))))] fun _ _ G29=>?_;intro S s
  refine V.cn (b:=!(decide (Dm.Rt [n1,n2,n3,n4,n5,n6]))) (iNT iDF) (iNF iDT) (fun q1=>?_) (fun q2=>?_)
  · have hR:¬ Dm.Rt [a0-b0,a1-b1,a2-b2,a3-b3,a4-b4,a5-b5]:=by subst_vars;exact q1
    refine V.g [.k (.agg #[iv 0,iv 0,iv 0,iv 0,iv 0,iv 0]),.st 2 (fun _=>.blk ((G1 0).b) #[iv 0,iv 0,iv 0,iv 0,iv 0,iv 0] 40),.k (iv 3)] fun _ _ G30=>?_;intro S s
    have e0:(0:Int)=Dm.mk [a0-b0,a1-b1,a2-b2,a3-b3,a4-b4,a5-b5] 0:=(Dm.mk_n hR 0).symm;have e1:(0:Int)=Dm.mk [a0-b0,a1-b1,a2-b2,a3-b3,a4-b4,a5-b5] 1:=(Dm.mk_n hR 1).symm;have e2:(0:Int)=Dm.mk [a0-b0,a1-b1,a2-b2,a3-b3,a4-b4,a5-b5] 2:=(Dm.mk_n hR 2).symm;have e3:(0:Int)=Dm.mk [a0-b0,a1-b1,a2-b2,a3-b3,a4-b4,a5-b5] 3:=(Dm.mk_n hR 3).symm;have e4:(0:Int)=Dm.mk [a0-b0,a1-b1,a2-b2,a3-b3,a4-b4,a5-b5] 4:=(Dm.mk_n hR 4).symm;have e5:(0:Int)=Dm.mk [a0-b0,a1-b1,a2-b2,a3-b3,a4-b4,a5-b5] 5:=(Dm.mk_n hR 5).symm;have e6:(3:Int)=Dm.mkE [a0-b0,a1-b1,a2-b2,a3-b3,a4-b4,a5-b5]:=(Dm.mkE_n hR).symm;exact V.rt [2,0] [] [] [] [] [0,1] (.tuple #[.agg #[iv 0,iv 0,iv 0,iv 0,iv 0,iv 0],iv 3]) (cong7 (fun (x0 x1 x2 x3 x4 x5 x6:Int)=>(.tuple #[.agg #[iv x0,iv x1,iv x2,iv x3,iv x4,iv x5],iv x6]:Value)) e0 e1 e2 e3 e4 e5 e6)
  have hR:Dm.Rt [a0-b0,a1-b1,a2-b2,a3-b3,a4-b4,a5-b5]:=by subst_vars;first | exact q2 | exact Decidable.not_not.1 q2
  refine V.g [.ld 3 0 true (fun _=>[iv n1,iv n2,iv n3,iv n4,iv n5,iv n6]),.st 2 (fun _=>.blk ((G1 0).b) #[iv n1,iv n2,iv n3,iv n4,iv n5,iv n6] 40),.k (iv 0)] fun _ _ G31=>?_;intro S s
  have e0:n1=Dm.mk [a0-b0,a1-b1,a2-b2,a3-b3,a4-b4,a5-b5] 0:=by
    rw [hn1];exact (Dm.mk_y hR 0).symm
  have e1:n2=Dm.mk [a0-b0,a1-b1,a2-b2,a3-b3,a4-b4,a5-b5] 1:=by
    rw [hn2];exact (Dm.mk_y hR 1).symm
  have e2:n3=Dm.mk [a0-b0,a1-b1,a2-b2,a3-b3,a4-b4,a5-b5] 2:=by
    rw [hn3];exact (Dm.mk_y hR 2).symm
  have e3:n4=Dm.mk [a0-b0,a1-b1,a2-b2,a3-b3,a4-b4,a5-b5] 3:=by
    rw [hn4];exact (Dm.mk_y hR 3).symm
  have e4:n5=Dm.mk [a0-b0,a1-b1,a2-b2,a3-b3,a4-b4,a5-b5] 4:=by
    rw [hn5];exact (Dm.mk_y hR 4).symm
  have e5:n6=Dm.mk [a0-b0,a1-b1,a2-b2,a3-b3,a4-b4,a5-b5] 5:=by
    rw [hn6];exact (Dm.mk_y hR 5).symm
  have e6:(0:Int)=Dm.mkE [a0-b0,a1-b1,a2-b2,a3-b3,a4-b4,a5-b5]:=(Dm.mkE_y hR).symm;exact V.rt [2,0] [] [] [] [] [0,1] (.tuple #[.agg #[iv n1,iv n2,iv n3,iv n4,iv n5,iv n6],iv 0]) (cong7 (fun (x0 x1 x2 x3 x4 x5 x6:Int)=>(.tuple #[.agg #[iv x0,iv x1,iv x2,iv x3,iv x4,iv x5],iv x6]:Value)) e0 e1 e2 e3 e4 e5 e6)
theorem maded_ctv (ab:Nat) (a0 a1 a2 a3 a4 a5:Int) (bb:Nat) (b0 b1 b2 b3 b4 b5:Int) (ha:Dm.Rt [a0,a1,a2,a3,a4,a5]) (hb2:Dm.Rt [b0,b1,b2,b3,b4,b5]) (rv0:Int) (erv0:rv0=Dm.mk [a0 - b0,a1 - b1,a2 - b2,a3 - b3,a4 - b4,a5 - b5] 0) (rv1:Int) (erv1:rv1=Dm.mk [a0 - b0,a1 - b1,a2 - b2,a3 - b3,a4 - b4,a5 - b5] 1) (rv2:Int) (erv2:rv2=Dm.mk [a0 - b0,a1 - b1,a2 - b2,a3 - b3,a4 - b4,a5 - b5] 2) (rv3:Int) (erv3:rv3=Dm.mk [a0 - b0,a1 - b1,a2 - b2,a3 - b3,a4 - b4,a5 - b5] 3) (rv4:Int) (erv4:rv4=Dm.mk [a0 - b0,a1 - b1,a2 - b2,a3 - b3,a4 - b4,a5 - b5] 4) (rv5:Int) (erv5:rv5=Dm.mk [a0 - b0,a1 - b1,a2 - b2,a3 - b3,a4 - b4,a5 - b5] 5) (rv6:Int) (erv6:rv6=Dm.mkE [a0 - b0,a1 - b1,a2 - b2,a3 - b3,a4 - b4,a5 - b5]) :
    Ct Tryz.prog 108 #[.func (.func 110) #[] #[pp ab 0,pp bb 0]] [] [.blk ab #[iv a0,iv a1,iv a2,iv a3,iv a4,iv a5] 40,.blk bb #[iv b0,iv b1,iv b2,iv b3,iv b4,iv b5] 40] (fun g=>.tuple #[.agg #[iv rv0,iv rv1,iv rv2,iv rv3,iv rv4,iv rv5],iv rv6]) (fun g=>[]) (fun g=>[.blk ab #[iv a0,iv a1,iv a2,iv a3,iv a4,iv a5] 40,.blk bb #[iv b0,iv b1,iv b2,iv b3,iv b4,iv b5] 40]) (fun g=>[]):=by
  subst erv0 erv1 erv2 erv3 erv4 erv5 erv6;exact maded_ct ab a0 a1 a2 a3 a4 a5 bb b0 b1 b2 b3 b4 b5 ha hb2
set_option maxRecDepth 10000 in
theorem dmul_ct (a0 a1 a2 a3 a4 a5 b0 b1 b2 b3 b4 b5:Int) :
    Cp Tryz.prog 68 #[.agg #[iv a0,iv a1,iv a2,iv a3,iv a4,iv a5],.agg #[iv b0,iv b1,iv b2,iv b3,iv b4,iv b5]] [] (.tuple #[.agg #[iv (Dm.opV (Dm.Rt [a0,a1,a2,a3,a4,a5]∧Dm.Rt [b0,b1,b2,b3,b4,b5]) [a0+b0,a1+b1,a2+b2,a3+b3,a4+b4,a5+b5] 0),iv (Dm.opV (Dm.Rt [a0,a1,a2,a3,a4,a5]∧Dm.Rt [b0,b1,b2,b3,b4,b5]) [a0+b0,a1+b1,a2+b2,a3+b3,a4+b4,a5+b5] 1),iv (Dm.opV (Dm.Rt [a0,a1,a2,a3,a4,a5]∧Dm.Rt [b0,b1,b2,b3,b4,b5]) [a0+b0,a1+b1,a2+b2,a3+b3,a4+b4,a5+b5] 2),iv (Dm.opV (Dm.Rt [a0,a1,a2,a3,a4,a5]∧Dm.Rt [b0,b1,b2,b3,b4,b5]) [a0+b0,a1+b1,a2+b2,a3+b3,a4+b4,a5+b5] 3),iv (Dm.opV (Dm.Rt [a0,a1,a2,a3,a4,a5]∧Dm.Rt [b0,b1,b2,b3,b4,b5]) [a0+b0,a1+b1,a2+b2,a3+b3,a4+b4,a5+b5] 4),iv (Dm.opV (Dm.Rt [a0,a1,a2,a3,a4,a5]∧Dm.Rt [b0,b1,b2,b3,b4,b5]) [a0+b0,a1+b1,a2+b2,a3+b3,a4+b4,a5+b5] 5)],iv (Dm.opE (Dm.Rt [a0,a1,a2,a3,a4,a5]∧Dm.Rt [b0,b1,b2,b3,b4,b5]) [a0+b0,a1+b1,a2+b2,a3+b3,a4+b4,a5+b5])]):=by
  refine V.fn mo Tryz.func68 19 3 (by kernel_rfl) fun w H ε k0=>?_;clear k0
  refine V.g [.nb 0 0 (fun b=>pp b 0) 40 (fun _=>#[iv a0,iv a1,iv a2,iv a3,iv a4,iv a5]),.nb 1 1 (fun b=>pp b 0) 40 (fun _=>#[iv b0,iv b1,iv b2,iv b3,iv b4,iv b5]),.nb 2 2 (fun b=>pp b 0) 40 (fun _=>#[iv 0,iv 0,iv 0,iv 0,iv 0,iv 0]),.k (iv 0)] fun _ _ G1=>?_;intro S s
  refine nm ((!(decide (Dm.Rt [a0,a1,a2,a3,a4,a5]))) || (!(decide (Dm.Rt [b0,b1,b2,b3,b4,b5]))):Bool) fun p1 hp1=>?_;refine V.g [.ld 0 0 true (fun _=>[iv a0,iv a1,iv a2,iv a3,iv a4,iv a5]),.cp g0 1 63 [] (fun _ G=>dright_ct a0 a1 a2 a3 a4 a5),.k (bv (!(decide (Dm.Rt [a0,a1,a2,a3,a4,a5])))),.k (bv (!(decide (Dm.Rt [a0,a1,a2,a3,a4,a5])))),.ld 1 0 true (fun _=>[iv b0,iv b1,iv b2,iv b3,iv b4,iv b5]),.cp (gF (b:=!(decide (Dm.Rt [a0,a1,a2,a3,a4,a5]))) (iNF iDT)) 5 63 [] (fun hg G=>dright_ct b0 b1 b2 b3 b4 b5),.k (bv (!(decide (Dm.Rt [b0,b1,b2,b3,b4,b5])))),.orn g0 false (!(decide (Dm.Rt [a0,a1,a2,a3,a4,a5]))) (!(decide (Dm.Rt [b0,b1,b2,b3,b4,b5]))) p1 hp1] fun _ _ G2=>?_;intro S s
  refine V.cn (b:=p1) (iN hp1 (iOT (iNT iDF) (iNT iDF))) (iN hp1 (iOF (iNF iDT) (iNF iDT))) (fun q1=>?_) (fun q2=>?_)
  · have hN:¬ (Dm.Rt [a0,a1,a2,a3,a4,a5]∧Dm.Rt [b0,b1,b2,b3,b4,b5]):=by rintro ⟨h1,h2⟩;rcases q1 with h | h;exact h h1;exact h h2
    refine V.g [.k (.agg #[iv 0,iv 0,iv 0,iv 0,iv 0,iv 0]),.st 2 (fun _=>.blk ((G1 2).b) #[iv 0,iv 0,iv 0,iv 0,iv 0,iv 0] 40),.k (iv 1)] fun _ _ G3=>?_;intro S s
    have e0:(0:Int)=Dm.opV (Dm.Rt [a0,a1,a2,a3,a4,a5]∧Dm.Rt [b0,b1,b2,b3,b4,b5]) [a0+b0,a1+b1,a2+b2,a3+b3,a4+b4,a5+b5] 0:=(Dm.opV_n hN _ 0).symm;have e1:(0:Int)=Dm.opV (Dm.Rt [a0,a1,a2,a3,a4,a5]∧Dm.Rt [b0,b1,b2,b3,b4,b5]) [a0+b0,a1+b1,a2+b2,a3+b3,a4+b4,a5+b5] 1:=(Dm.opV_n hN _ 1).symm;have e2:(0:Int)=Dm.opV (Dm.Rt [a0,a1,a2,a3,a4,a5]∧Dm.Rt [b0,b1,b2,b3,b4,b5]) [a0+b0,a1+b1,a2+b2,a3+b3,a4+b4,a5+b5] 2:=(Dm.opV_n hN _ 2).symm;have e3:(0:Int)=Dm.opV (Dm.Rt [a0,a1,a2,a3,a4,a5]∧Dm.Rt [b0,b1,b2,b3,b4,b5]) [a0+b0,a1+b1,a2+b2,a3+b3,a4+b4,a5+b5] 3:=(Dm.opV_n hN _ 3).symm;have e4:(0:Int)=Dm.opV (Dm.Rt [a0,a1,a2,a3,a4,a5]∧Dm.Rt [b0,b1,b2,b3,b4,b5]) [a0+b0,a1+b1,a2+b2,a3+b3,a4+b4,a5+b5] 4:=(Dm.opV_n hN _ 4).symm;have e5:(0:Int)=Dm.opV (Dm.Rt [a0,a1,a2,a3,a4,a5]∧Dm.Rt [b0,b1,b2,b3,b4,b5]) [a0+b0,a1+b1,a2+b2,a3+b3,a4+b4,a5+b5] 5:=(Dm.opV_n hN _ 5).symm;have e6:(1:Int)=Dm.opE (Dm.Rt [a0,a1,a2,a3,a4,a5]∧Dm.Rt [b0,b1,b2,b3,b4,b5]) [a0+b0,a1+b1,a2+b2,a3+b3,a4+b4,a5+b5]:=(Dm.opE_n hN _).symm;exact V.rt [2,0] [] [] [] [] [] (.tuple #[.agg #[iv 0,iv 0,iv 0,iv 0,iv 0,iv 0],iv 1]) (cong7 (fun (x0 x1 x2 x3 x4 x5 x6:Int)=>(.tuple #[.agg #[iv x0,iv x1,iv x2,iv x3,iv x4,iv x5],iv x6]:Value)) e0 e1 e2 e3 e4 e5 e6)
  have hY:(Dm.Rt [a0,a1,a2,a3,a4,a5]∧Dm.Rt [b0,b1,b2,b3,b4,b5]):=q2;obtain ⟨ha,hb2⟩:=hY;have hY:(Dm.Rt [a0,a1,a2,a3,a4,a5]∧Dm.Rt [b0,b1,b2,b3,b4,b5]):=⟨ha,hb2⟩;refine nm (Dm.mk [a0+b0,a1+b1,a2+b2,a3+b3,a4+b4,a5+b5] 0:Int) fun n1 hn1=>?_;refine nm (Dm.mk [a0+b0,a1+b1,a2+b2,a3+b3,a4+b4,a5+b5] 1:Int) fun n2 hn2=>?_;refine nm (Dm.mk [a0+b0,a1+b1,a2+b2,a3+b3,a4+b4,a5+b5] 2:Int) fun n3 hn3=>?_;refine nm (Dm.mk [a0+b0,a1+b1,a2+b2,a3+b3,a4+b4,a5+b5] 3:Int) fun n4 hn4=>?_;refine nm (Dm.mk [a0+b0,a1+b1,a2+b2,a3+b3,a4+b4,a5+b5] 4:Int) fun n5 hn5=>?_;refine nm (Dm.mk [a0+b0,a1+b1,a2+b2,a3+b3,a4+b4,a5+b5] 5:Int) fun n6 hn6=>?_;refine nm (Dm.mkE [a0+b0,a1+b1,a2+b2,a3+b3,a4+b4,a5+b5]:Int) fun n7 hn7=>?_;refine V.g [.k (.func (.func 109) #[] #[pp ((G1 0).b) 0,pp ((G1 1).b) 0]),.ct g0 1 108 false [0,1] [] [] (fun _ G=>madem_ctv ((G1 0).b) a0 a1 a2 a3 a4 a5 ((G1 1).b) b0 b1 b2 b3 b4 b5 (by assumption) (by assumption) n1 hn1 n2 hn2 n3 hn3 n4 hn4 n5 hn5 n6 hn6 n7 hn7),.k (.agg #[iv n1,iv n2,iv n3,iv n4,iv n5,iv n6]),.k (iv n7),.st 2 (fun _=>.blk ((G1 2).b) #[iv n1,iv n2,iv n3,iv n4,iv n5,iv n6] 40),.k (iv n7)] fun _ _ G4=>?_;intro S s
  have e0:n1=Dm.opV (Dm.Rt [a0,a1,a2,a3,a4,a5]∧Dm.Rt [b0,b1,b2,b3,b4,b5]) [a0+b0,a1+b1,a2+b2,a3+b3,a4+b4,a5+b5] 0:=by
    rw [hn1];exact (Dm.opV_y hY _ 0).symm
  have e1:n2=Dm.opV (Dm.Rt [a0,a1,a2,a3,a4,a5]∧Dm.Rt [b0,b1,b2,b3,b4,b5]) [a0+b0,a1+b1,a2+b2,a3+b3,a4+b4,a5+b5] 1:=by
    rw [hn2];exact (Dm.opV_y hY _ 1).symm
  have e2:n3=Dm.opV (Dm.Rt [a0,a1,a2,a3,a4,a5]∧Dm.Rt [b0,b1,b2,b3,b4,b5]) [a0+b0,a1+b1,a2+b2,a3+b3,a4+b4,a5+b5] 2:=by
    rw [hn3];exact (Dm.opV_y hY _ 2).symm
  have e3:n4=Dm.opV (Dm.Rt [a0,a1,a2,a3,a4,a5]∧Dm.Rt [b0,b1,b2,b3,b4,b5]) [a0+b0,a1+b1,a2+b2,a3+b3,a4+b4,a5+b5] 3:=by
    rw [hn4];exact (Dm.opV_y hY _ 3).symm
  have e4:n5=Dm.opV (Dm.Rt [a0,a1,a2,a3,a4,a5]∧Dm.Rt [b0,b1,b2,b3,b4,b5]) [a0+b0,a1+b1,a2+b2,a3+b3,a4+b4,a5+b5] 4:=by
    rw [hn5];exact (Dm.opV_y hY _ 4).symm
  have e5:n6=Dm.opV (Dm.Rt [a0,a1,a2,a3,a4,a5]∧Dm.Rt [b0,b1,b2,b3,b4,b5]) [a0+b0,a1+b1,a2+b2,a3+b3,a4+b4,a5+b5] 5:=by
    rw [hn6];exact (Dm.opV_y hY _ 5).symm
  have e6:n7=Dm.opE (Dm.Rt [a0,a1,a2,a3,a4,a5]∧Dm.Rt [b0,b1,b2,b3,b4,b5]) [a0+b0,a1+b1,a2+b2,a3+b3,a4+b4,a5+b5]:=by
    rw [hn7];exact (Dm.opE_y hY _).symm
  exact V.rt [2,0] [] [] [] [] [] (.tuple #[.agg #[iv n1,iv n2,iv n3,iv n4,iv n5,iv n6],iv n7]) (cong7 (fun (x0 x1 x2 x3 x4 x5 x6:Int)=>(.tuple #[.agg #[iv x0,iv x1,iv x2,iv x3,iv x4,iv x5],iv x6]:Value)) e0 e1 e2 e3 e4 e5 e6)
theorem dmul_ctv (a0 a1 a2 a3 a4 a5 b0 b1 b2 b3 b4 b5 rv0:Int) (erv0:rv0=Dm.opV (Dm.Rt [a0,a1,a2,a3,a4,a5]∧Dm.Rt [b0,b1,b2,b3,b4,b5]) [a0+b0,a1+b1,a2+b2,a3+b3,a4+b4,a5+b5] 0) (rv1:Int) (erv1:rv1=Dm.opV (Dm.Rt [a0,a1,a2,a3,a4,a5]∧Dm.Rt [b0,b1,b2,b3,b4,b5]) [a0+b0,a1+b1,a2+b2,a3+b3,a4+b4,a5+b5] 1) (rv2:Int) (erv2:rv2=Dm.opV (Dm.Rt [a0,a1,a2,a3,a4,a5]∧Dm.Rt [b0,b1,b2,b3,b4,b5]) [a0+b0,a1+b1,a2+b2,a3+b3,a4+b4,a5+b5] 2) (rv3:Int) (erv3:rv3=Dm.opV (Dm.Rt [a0,a1,a2,a3,a4,a5]∧Dm.Rt [b0,b1,b2,b3,b4,b5]) [a0+b0,a1+b1,a2+b2,a3+b3,a4+b4,a5+b5] 3) (rv4:Int) (erv4:rv4=Dm.opV (Dm.Rt [a0,a1,a2,a3,a4,a5]∧Dm.Rt [b0,b1,b2,b3,b4,b5]) [a0+b0,a1+b1,a2+b2,a3+b3,a4+b4,a5+b5] 4) (rv5:Int) (erv5:rv5=Dm.opV (Dm.Rt [a0,a1,a2,a3,a4,a5]∧Dm.Rt [b0,b1,b2,b3,b4,b5]) [a0+b0,a1+b1,a2+b2,a3+b3,a4+b4,a5+b5] 5) (rv6:Int) (erv6:rv6=Dm.opE (Dm.Rt [a0,a1,a2,a3,a4,a5]∧Dm.Rt [b0,b1,b2,b3,b4,b5]) [a0+b0,a1+b1,a2+b2,a3+b3,a4+b4,a5+b5]) :
    Cp Tryz.prog 68 #[.agg #[iv a0,iv a1,iv a2,iv a3,iv a4,iv a5],.agg #[iv b0,iv b1,iv b2,iv b3,iv b4,iv b5]] [] (.tuple #[.agg #[iv rv0,iv rv1,iv rv2,iv rv3,iv rv4,iv rv5],iv rv6]):=by
  subst erv0 erv1 erv2 erv3 erv4 erv5 erv6;exact dmul_ct a0 a1 a2 a3 a4 a5 b0 b1 b2 b3 b4 b5 
set_option maxRecDepth 10000 in
theorem ddiv_ct (a0 a1 a2 a3 a4 a5 b0 b1 b2 b3 b4 b5:Int) :
    Cp Tryz.prog 70 #[.agg #[iv a0,iv a1,iv a2,iv a3,iv a4,iv a5],.agg #[iv b0,iv b1,iv b2,iv b3,iv b4,iv b5]] [] (.tuple #[.agg #[iv (Dm.opV (Dm.Rt [a0,a1,a2,a3,a4,a5]∧Dm.Rt [b0,b1,b2,b3,b4,b5]) [a0-b0,a1-b1,a2-b2,a3-b3,a4-b4,a5-b5] 0),iv (Dm.opV (Dm.Rt [a0,a1,a2,a3,a4,a5]∧Dm.Rt [b0,b1,b2,b3,b4,b5]) [a0-b0,a1-b1,a2-b2,a3-b3,a4-b4,a5-b5] 1),iv (Dm.opV (Dm.Rt [a0,a1,a2,a3,a4,a5]∧Dm.Rt [b0,b1,b2,b3,b4,b5]) [a0-b0,a1-b1,a2-b2,a3-b3,a4-b4,a5-b5] 2),iv (Dm.opV (Dm.Rt [a0,a1,a2,a3,a4,a5]∧Dm.Rt [b0,b1,b2,b3,b4,b5]) [a0-b0,a1-b1,a2-b2,a3-b3,a4-b4,a5-b5] 3),iv (Dm.opV (Dm.Rt [a0,a1,a2,a3,a4,a5]∧Dm.Rt [b0,b1,b2,b3,b4,b5]) [a0-b0,a1-b1,a2-b2,a3-b3,a4-b4,a5-b5] 4),iv (Dm.opV (Dm.Rt [a0,a1,a2,a3,a4,a5]∧Dm.Rt [b0,b1,b2,b3,b4,b5]) [a0-b0,a1-b1,a2-b2,a3-b3,a4-b4,a5-b5] 5)],iv (Dm.opE (Dm.Rt [a0,a1,a2,a3,a4,a5]∧Dm.Rt [b0,b1,b2,b3,b4,b5]) [a0-b0,a1-b1,a2-b2,a3-b3,a4-b4,a5-b5])]):=by
  refine V.fn mo Tryz.func70 19 3 (by kernel_rfl) fun w H ε k0=>?_;clear k0
  refine V.g [.nb 0 0 (fun b=>pp b 0) 40 (fun _=>#[iv a0,iv a1,iv a2,iv a3,iv a4,iv a5]),.nb 1 1 (fun b=>pp b 0) 40 (fun _=>#[iv b0,iv b1,iv b2,iv b3,iv b4,iv b5]),.nb 2 2 (fun b=>pp b 0) 40 (fun _=>#[iv 0,iv 0,iv 0,iv 0,iv 0,iv 0]),.k (iv 0)] fun _ _ G1=>?_;intro S s
  refine nm ((!(decide (Dm.Rt [a0,a1,a2,a3,a4,a5]))) || (!(decide (Dm.Rt [b0,b1,b2,b3,b4,b5]))):Bool) fun p1 hp1=>?_;refine V.g [.ld 0 0 true (fun _=>[iv a0,iv a1,iv a2,iv a3,iv a4,iv a5]),.cp g0 1 63 [] (fun _ G=>dright_ct a0 a1 a2 a3 a4 a5),.k (bv (!(decide (Dm.Rt [a0,a1,a2,a3,a4,a5])))),.k (bv (!(decide (Dm.Rt [a0,a1,a2,a3,a4,a5])))),.ld 1 0 true (fun _=>[iv b0,iv b1,iv b2,iv b3,iv b4,iv b5]),.cp (gF (b:=!(decide (Dm.Rt [a0,a1,a2,a3,a4,a5]))) (iNF iDT)) 5 63 [] (fun hg G=>dright_ct b0 b1 b2 b3 b4 b5),.k (bv (!(decide (Dm.Rt [b0,b1,b2,b3,b4,b5])))),.orn g0 false (!(decide (Dm.Rt [a0,a1,a2,a3,a4,a5]))) (!(decide (Dm.Rt [b0,b1,b2,b3,b4,b5]))) p1 hp1] fun _ _ G2=>?_;intro S s
  refine V.cn (b:=p1) (iN hp1 (iOT (iNT iDF) (iNT iDF))) (iN hp1 (iOF (iNF iDT) (iNF iDT))) (fun q1=>?_) (fun q2=>?_)
  · have hN:¬ (Dm.Rt [a0,a1,a2,a3,a4,a5]∧Dm.Rt [b0,b1,b2,b3,b4,b5]):=by rintro ⟨h1,h2⟩;rcases q1 with h | h;exact h h1;exact h h2
    refine V.g [.k (.agg #[iv 0,iv 0,iv 0,iv 0,iv 0,iv 0]),.st 2 (fun _=>.blk ((G1 2).b) #[iv 0,iv 0,iv 0,iv 0,iv 0,iv 0] 40),.k (iv 1)] fun _ _ G3=>?_;intro S s
    have e0:(0:Int)=Dm.opV (Dm.Rt [a0,a1,a2,a3,a4,a5]∧Dm.Rt [b0,b1,b2,b3,b4,b5]) [a0-b0,a1-b1,a2-b2,a3-b3,a4-b4,a5-b5] 0:=(Dm.opV_n hN _ 0).symm;have e1:(0:Int)=Dm.opV (Dm.Rt [a0,a1,a2,a3,a4,a5]∧Dm.Rt [b0,b1,b2,b3,b4,b5]) [a0-b0,a1-b1,a2-b2,a3-b3,a4-b4,a5-b5] 1:=(Dm.opV_n hN _ 1).symm;have e2:(0:Int)=Dm.opV (Dm.Rt [a0,a1,a2,a3,a4,a5]∧Dm.Rt [b0,b1,b2,b3,b4,b5]) [a0-b0,a1-b1,a2-b2,a3-b3,a4-b4,a5-b5] 2:=(Dm.opV_n hN _ 2).symm;have e3:(0:Int)=Dm.opV (Dm.Rt [a0,a1,a2,a3,a4,a5]∧Dm.Rt [b0,b1,b2,b3,b4,b5]) [a0-b0,a1-b1,a2-b2,a3-b3,a4-b4,a5-b5] 3:=(Dm.opV_n hN _ 3).symm;have e4:(0:Int)=Dm.opV (Dm.Rt [a0,a1,a2,a3,a4,a5]∧Dm.Rt [b0,b1,b2,b3,b4,b5]) [a0-b0,a1-b1,a2-b2,a3-b3,a4-b4,a5-b5] 4:=(Dm.opV_n hN _ 4).symm;have e5:(0:Int)=Dm.opV (Dm.Rt [a0,a1,a2,a3,a4,a5]∧Dm.Rt [b0,b1,b2,b3,b4,b5]) [a0-b0,a1-b1,a2-b2,a3-b3,a4-b4,a5-b5] 5:=(Dm.opV_n hN _ 5).symm;have e6:(1:Int)=Dm.opE (Dm.Rt [a0,a1,a2,a3,a4,a5]∧Dm.Rt [b0,b1,b2,b3,b4,b5]) [a0-b0,a1-b1,a2-b2,a3-b3,a4-b4,a5-b5]:=(Dm.opE_n hN _).symm;exact V.rt [2,0] [] [] [] [] [] (.tuple #[.agg #[iv 0,iv 0,iv 0,iv 0,iv 0,iv 0],iv 1]) (cong7 (fun (x0 x1 x2 x3 x4 x5 x6:Int)=>(.tuple #[.agg #[iv x0,iv x1,iv x2,iv x3,iv x4,iv x5],iv x6]:Value)) e0 e1 e2 e3 e4 e5 e6)
  have hY:(Dm.Rt [a0,a1,a2,a3,a4,a5]∧Dm.Rt [b0,b1,b2,b3,b4,b5]):=q2;obtain ⟨ha,hb2⟩:=hY;have hY:(Dm.Rt [a0,a1,a2,a3,a4,a5]∧Dm.Rt [b0,b1,b2,b3,b4,b5]):=⟨ha,hb2⟩;refine nm (Dm.mk [a0-b0,a1-b1,a2-b2,a3-b3,a4-b4,a5-b5] 0:Int) fun n1 hn1=>?_;refine nm (Dm.mk [a0-b0,a1-b1,a2-b2,a3-b3,a4-b4,a5-b5] 1:Int) fun n2 hn2=>?_;refine nm (Dm.mk [a0-b0,a1-b1,a2-b2,a3-b3,a4-b4,a5-b5] 2:Int) fun n3 hn3=>?_;refine nm (Dm.mk [a0-b0,a1-b1,a2-b2,a3-b3,a4-b4,a5-b5] 3:Int) fun n4 hn4=>?_;refine nm (Dm.mk [a0-b0,a1-b1,a2-b2,a3-b3,a4-b4,a5-b5] 4:Int) fun n5 hn5=>?_;refine nm (Dm.mk [a0-b0,a1-b1,a2-b2,a3-b3,a4-b4,a5-b5] 5:Int) fun n6 hn6=>?_;refine nm (Dm.mkE [a0-b0,a1-b1,a2-b2,a3-b3,a4-b4,a5-b5]:Int) fun n7 hn7=>?_;refine V.g [.k (.func (.func 110) #[] #[pp ((G1 0).b) 0,pp ((G1 1).b) 0]),.ct g0 1 108 false [0,1] [] [] (fun _ G=>maded_ctv ((G1 0).b) a0 a1 a2 a3 a4 a5 ((G1 1).b) b0 b1 b2 b3 b4 b5 (by assumption) (by assumption) n1 hn1 n2 hn2 n3 hn3 n4 hn4 n5 hn5 n6 hn6 n7 hn7),.k (.agg #[iv n1,iv n2,iv n3,iv n4,iv n5,iv n6]),.k (iv n7),.st 2 (fun _=>.blk ((G1 2).b) #[iv n1,iv n2,iv n3,iv n4,iv n5,iv n6] 40),.k (iv n7)] fun _ _ G4=>?_;intro S s
  have e0:n1=Dm.opV (Dm.Rt [a0,a1,a2,a3,a4,a5]∧Dm.Rt [b0,b1,b2,b3,b4,b5]) [a0-b0,a1-b1,a2-b2,a3-b3,a4-b4,a5-b5] 0:=by
    rw [hn1];exact (Dm.opV_y hY _ 0).symm
  have e1:n2=Dm.opV (Dm.Rt [a0,a1,a2,a3,a4,a5]∧Dm.Rt [b0,b1,b2,b3,b4,b5]) [a0-b0,a1-b1,a2-b2,a3-b3,a4-b4,a5-b5] 1:=by
    rw [hn2];exact (Dm.opV_y hY _ 1).symm
  have e2:n3=Dm.opV (Dm.Rt [a0,a1,a2,a3,a4,a5]∧Dm.Rt [b0,b1,b2,b3,b4,b5]) [a0-b0,a1-b1,a2-b2,a3-b3,a4-b4,a5-b5] 2:=by
    rw [hn3];exact (Dm.opV_y hY _ 2).symm
  have e3:n4=Dm.opV (Dm.Rt [a0,a1,a2,a3,a4,a5]∧Dm.Rt [b0,b1,b2,b3,b4,b5]) [a0-b0,a1-b1,a2-b2,a3-b3,a4-b4,a5-b5] 3:=by
    rw [hn4];exact (Dm.opV_y hY _ 3).symm
  have e4:n5=Dm.opV (Dm.Rt [a0,a1,a2,a3,a4,a5]∧Dm.Rt [b0,b1,b2,b3,b4,b5]) [a0-b0,a1-b1,a2-b2,a3-b3,a4-b4,a5-b5] 4:=by
    rw [hn5];exact (Dm.opV_y hY _ 4).symm
  have e5:n6=Dm.opV (Dm.Rt [a0,a1,a2,a3,a4,a5]∧Dm.Rt [b0,b1,b2,b3,b4,b5]) [a0-b0,a1-b1,a2-b2,a3-b3,a4-b4,a5-b5] 5:=by
    rw [hn6];exact (Dm.opV_y hY _ 5).symm
  have e6:n7=Dm.opE (Dm.Rt [a0,a1,a2,a3,a4,a5]∧Dm.Rt [b0,b1,b2,b3,b4,b5]) [a0-b0,a1-b1,a2-b2,a3-b3,a4-b4,a5-b5]:=by
    rw [hn7];exact (Dm.opE_y hY _).symm
  exact V.rt [2,0] [] [] [] [] [] (.tuple #[.agg #[iv n1,iv n2,iv n3,iv n4,iv n5,iv n6],iv n7]) (cong7 (fun (x0 x1 x2 x3 x4 x5 x6:Int)=>(.tuple #[.agg #[iv x0,iv x1,iv x2,iv x3,iv x4,iv x5],iv x6]:Value)) e0 e1 e2 e3 e4 e5 e6)
theorem ddiv_ctv (a0 a1 a2 a3 a4 a5 b0 b1 b2 b3 b4 b5 rv0:Int) (erv0:rv0=Dm.opV (Dm.Rt [a0,a1,a2,a3,a4,a5]∧Dm.Rt [b0,b1,b2,b3,b4,b5]) [a0 - b0,a1 - b1,a2 - b2,a3 - b3,a4 - b4,a5 - b5] 0) (rv1:Int) (erv1:rv1=Dm.opV (Dm.Rt [a0,a1,a2,a3,a4,a5]∧Dm.Rt [b0,b1,b2,b3,b4,b5]) [a0 - b0,a1 - b1,a2 - b2,a3 - b3,a4 - b4,a5 - b5] 1) (rv2:Int) (erv2:rv2=Dm.opV (Dm.Rt [a0,a1,a2,a3,a4,a5]∧Dm.Rt [b0,b1,b2,b3,b4,b5]) [a0 - b0,a1 - b1,a2 - b2,a3 - b3,a4 - b4,a5 - b5] 2) (rv3:Int) (erv3:rv3=Dm.opV (Dm.Rt [a0,a1,a2,a3,a4,a5]∧Dm.Rt [b0,b1,b2,b3,b4,b5]) [a0 - b0,a1 - b1,a2 - b2,a3 - b3,a4 - b4,a5 - b5] 3) (rv4:Int) (erv4:rv4=Dm.opV (Dm.Rt [a0,a1,a2,a3,a4,a5]∧Dm.Rt [b0,b1,b2,b3,b4,b5]) [a0 - b0,a1 - b1,a2 - b2,a3 - b3,a4 - b4,a5 - b5] 4) (rv5:Int) (erv5:rv5=Dm.opV (Dm.Rt [a0,a1,a2,a3,a4,a5]∧Dm.Rt [b0,b1,b2,b3,b4,b5]) [a0 - b0,a1 - b1,a2 - b2,a3 - b3,a4 - b4,a5 - b5] 5) (rv6:Int) (erv6:rv6=Dm.opE (Dm.Rt [a0,a1,a2,a3,a4,a5]∧Dm.Rt [b0,b1,b2,b3,b4,b5]) [a0 - b0,a1 - b1,a2 - b2,a3 - b3,a4 - b4,a5 - b5]) :
    Cp Tryz.prog 70 #[.agg #[iv a0,iv a1,iv a2,iv a3,iv a4,iv a5],.agg #[iv b0,iv b1,iv b2,iv b3,iv b4,iv b5]] [] (.tuple #[.agg #[iv rv0,iv rv1,iv rv2,iv rv3,iv rv4,iv rv5],iv rv6]):=by
  subst erv0 erv1 erv2 erv3 erv4 erv5 erv6;exact ddiv_ct a0 a1 a2 a3 a4 a5 b0 b1 b2 b3 b4 b5 

open Go
namespace Un
open Fr Bg
theorem ur_is {d:List Int} {ps qs:Int} {pd qd:List Int}:((Dm.Rt d∧FrB ps pd qs qd)∧0 < (if FrB ps pd qs qd then ps else 0))↔UR d ps pd qs qd:=by
  unfold UR
  by_cases h:FrB ps pd qs qd
  · rw [if_pos h];exact and_assoc
  · exact ⟨fun k=>absurd k.1.2 h,fun k=>absurd k.2.1 h⟩
theorem opV_pq {p q:Prop} [Decidable p] [Decidable q] (h:p) (k:q) (l:List Int) (i:Nat):Dm.opV p l i=Dm.opV q l i:=by rw [Dm.opV_y h,Dm.opV_y k]
theorem opE_pq {p q:Prop} [Decidable p] [Decidable q] (h:p) (k:q) (l:List Int):Dm.opE p l=Dm.opE q l:=by rw [Dm.opE_y h,Dm.opE_y k]
theorem opE_ne {p:Prop} [Decidable p] (h:p) {l:List Int} (k:¬ Dm.opE p l=0):¬ Dm.Rt l:=fun r=>k (by rw [Dm.opE_y h,Dm.mkE_y r])
theorem opE_eq {p:Prop} [Decidable p] (h:p) {l:List Int} (k:Dm.opE p l=0):Dm.Rt l:=Classical.byContradiction fun r=>by
  rw [Dm.opE_y h,Dm.mkE_n r] at k;omega
theorem opV_no {p:Prop} [Decidable p] (h:p) {l:List Int} (r:¬ Dm.Rt l) (i:Nat):Dm.opV p l i=0:=by rw [Dm.opV_y h,Dm.mk_n r]
theorem ur_of {d:List Int} {ps qs:Int} {pd qd:List Int} {r:Rat} (hd:Dm.Rt d) (z:Fz ps pd qs qd r) (h:0 < r):UR d ps pd qs qd:=⟨hd,z.rt,by rw [z.eqs.1];exact sgn_num.2.2.2 h⟩
theorem vec_eq {p q:Prop} [Decidable p] [Decidable q] (h:p↔q) {l m:List Int} (e:l=m):Dm.opV p l 0=Dm.opV q m 0∧Dm.opV p l 1=Dm.opV q m 1∧Dm.opV p l 2=Dm.opV q m 2∧Dm.opV p l 3=Dm.opV q m 3∧Dm.opV p l 4=Dm.opV q m 4∧Dm.opV p l 5=Dm.opV q m 5:=by
  subst e
  have k:∀ i,Dm.opV p l i=Dm.opV q l i:=fun i=>by
    by_cases k:p
    · exact opV_pq k (h.1 k) l i
    · rw [Dm.opV_n k,Dm.opV_n fun x=>k (h.2 x)]
  exact ⟨k 0,k 1,k 2,k 3,k 4,k 5⟩
theorem opE_eq2 {p q:Prop} [Decidable p] [Decidable q] (h:p↔q) {l m:List Int} (e:l=m):Dm.opE p l=Dm.opE q m:=by
  subst e
  by_cases k:p
  · exact opE_pq k (h.1 k) l
  · rw [Dm.opE_n k,Dm.opE_n fun x=>k (h.2 x)]
theorem op_l {p:Prop} [Decidable p] (h:p) {l:List Int} (r:Dm.Rt l) (i:Nat):Dm.opV p l i=l.getD i 0:=by rw [Dm.opV_y h,Dm.mk_y r]
theorem op_0 {p:Prop} [Decidable p] (h:p) {l:List Int} (r:Dm.Rt l):Dm.opE p l=0:=by rw [Dm.opE_y h,Dm.mkE_y r]
theorem means1:means ⟨#[107,87,104]⟩ ⟨#[74]⟩ 3600000 1:=by decide +kernel
theorem means2:means ⟨#[107,103,47,109,51]⟩ ⟨#[103,47,109,51]⟩ 1000 1:=by decide +kernel
theorem means3:means ⟨#[108,47,104]⟩ ⟨#[109,51,47,115]⟩ 1 3600000:=by decide +kernel
theorem means4:means ⟨#[49,47,100,50]⟩ ⟨#[49,47,115,50]⟩ 1 7464960000:=by decide +kernel
theorem means5:means ⟨#[109,109,50]⟩ ⟨#[109,50]⟩ 1 1000000:=by decide +kernel
theorem means6:means ByteArray.empty ⟨#[49]⟩ 1 1:=by decide +kernel
theorem means7:means ⟨#[49]⟩ ⟨#[49]⟩ 1 1:=by decide +kernel
theorem means8:means ⟨#[109,57,42,109,47,109]⟩ ⟨#[109,57]⟩ 1 1:=by decide +kernel
theorem fails1:(read ⟨#[107,116]⟩).2=11:=by decide +kernel
theorem fails2:(read ⟨#[87]⟩).2=11:=by decide +kernel
theorem fails3:(read ⟨#[103,47]⟩).2=12:=by decide +kernel
theorem fails4:(read ⟨#[103,49]⟩).2=12:=by decide +kernel
theorem fails5:(read ⟨#[50]⟩).2=12:=by decide +kernel
theorem fails6:(read ⟨#[49,103]⟩).2=12:=by decide +kernel
theorem fails7:(read ⟨#[109,57,42,109]⟩).2=3:=by decide +kernel
theorem kwh:read ⟨#[107,87,104]⟩=(some ([0,0,0,1,0,0],3600000),0):=by decide +kernel
theorem kwh2:Rat.divInt 3 2 * 3600000=((5400000:Int):Rat):=by decide +kernel
end Un

open Go Go.Proofs
set_option maxRecDepth 10000 in
theorem item_ct (symbol:ByteArray) (exponent:Int) (hs:symbol.size≤100) (he:0≤exponent∧exponent≤9) :
    Cp Tryz.prog 135 #[tv symbol,iv exponent] [] (tv (Dm.item symbol exponent)):=by
  refine V.fn mo Tryz.func135 14 0 (by kernel_rfl) fun w H ε k0=>?_;clear k0
  refine V.g [.k (tv ByteArray.empty)] fun _ _ G1=>?_;intro S s
  refine V.g [.k (iv exponent),.k (bv (decide (exponent=1)))] fun _ _ G2=>?_;intro S s
  refine V.cn (b:=decide (exponent=1)) iDT iDF (fun q1=>?_) (fun q2=>?_)
  · refine V.g [.k (tv symbol),.k (tv symbol)] fun _ _ G3=>?_;intro S s
    have e0:symbol=Dm.item symbol exponent:=by unfold Dm.item;rw [if_pos q1]
    exact V.rt [0] [] [] [] [] [] (tv symbol) (cong1 (fun (x0:ByteArray)=>(tv x0:Value)) e0)
  refine nm (⟨#[UInt8.ofNat (48+exponent).toNat]⟩:ByteArray) fun t1 ht1=>?_;have ht1n:t1.size=1:=by rw [ht1];rfl
  refine nm (symbol ++t1:ByteArray) fun t2 ht2=>?_;have ht2n:t2.size=symbol.size+t1.size:=by rw [ht2,ByteArray.size_append]
  refine V.g [.k (tv symbol),.k (iv exponent),.a (48+exponent) (by omega) (by omega),.ek g0 .u8 (48+exponent) (48+exponent) (fun _=>by rw [wrapU8];omega),.e g0 (.string (Utf8.encode (48+exponent))) (.string t1) (fun _=>by rw [ht1,enc1 (by omega) (by omega)]),.sad g0 symbol t1 t2 ht2 (fun _=>by omega),.k (tv t2)] fun _ _ G4=>?_;intro S s
  have e0:t2=Dm.item symbol exponent:=by unfold Dm.item;rw [if_neg q2,ht2,ht1]
  exact V.rt [0] [] [] [] [] [] (tv t2) (cong1 (fun (x0:ByteArray)=>(tv x0:Value)) e0)
set_option maxRecDepth 10000 in
set_option maxHeartbeats 2000000 in
theorem text_ct (d0 d1 d2 d3 d4 d5:Int) :
    Cp Tryz.prog 98 #[.agg #[iv d0,iv d1,iv d2,iv d3,iv d4,iv d5]] [] (tv (Dm.text [d0,d1,d2,d3,d4,d5])):=by
  refine V.fn mo Tryz.func98 47 2 (by kernel_rfl) fun w H ε k0=>?_;clear k0
  refine V.g [.nb 0 0 (fun b=>pp b 0) 40 (fun _=>#[iv d0,iv d1,iv d2,iv d3,iv d4,iv d5]),.k (tv ByteArray.empty)] fun _ _ G1=>?_;intro S_ s_
  refine V.g [.ld 0 0 true (fun _=>[iv d0,iv d1,iv d2,iv d3,iv d4,iv d5]),.cp g0 1 63 [] (fun _ G=>dright_ct d0 d1 d2 d3 d4 d5),.k (bv (!(decide (Dm.Rt [d0,d1,d2,d3,d4,d5]))))] fun _ _ G2=>?_;intro S_ s_
  refine V.cn (b:=!(decide (Dm.Rt [d0,d1,d2,d3,d4,d5]))) (iNT iDF) (iNF iDT) (fun q1=>?_) (fun q2=>?_)
  · refine V.g [.k (tv ByteArray.empty)] fun _ _ G3=>?_;intro S_ s_
    have e0:ByteArray.empty=Dm.text [d0,d1,d2,d3,d4,d5]:=by unfold Dm.text;rw [if_neg q1]
    exact V.rt [0] [] [] [] [] [] (tv ByteArray.empty) (cong1 (fun (x0:ByteArray)=>(tv x0:Value)) e0)
  have hR:Dm.Rt [d0,d1,d2,d3,d4,d5]:=by first | exact q2 | exact Decidable.not_not.1 q2
  have hR6:=Dm.Rt6.1 hR;refine V.g [.k (.slice none 0 0)] fun _ _ G4=>?_;intro S_ s_
  refine V.g [.k (tv ByteArray.empty)] fun _ _ G5=>?_;intro S_ s_
  refine V.g [.cp g0 0 134 [] (fun _ G=>symbols_ct ),.k (iv 0)] fun _ _ G6=>?_;intro S_ s_
  refine V.on (α:=ByteArray) 1 9 (by kernel_rfl) ?_;refine V.loop (γ:=List ByteArray × SV × ByteArray × Int) (fun ⟨above,aboves,below,k0⟩=>⟨[(1,pp ((G1 0).b) 0),(3,aboves.v),(4,tv below),(11,.agg #[tv ⟨#[103]⟩,tv ⟨#[109]⟩,tv ⟨#[115]⟩,tv ⟨#[74]⟩,tv ⟨#[99,101,110,116]⟩,tv ⟨#[112,99]⟩]),(12,iv k0)],[],[.blk ((G1 0).b) #[iv d0,iv d1,iv d2,iv d3,iv d4,iv d5] 40,os true 9 above aboves]⟩) (fun ⟨above,aboves,below,k0⟩=>(0≤k0)∧(k0≤6)∧(above=Dm.abN [d0,d1,d2,d3,d4,d5] k0.toNat)∧(below=Dm.beN [d0,d1,d2,d3,d4,d5] k0.toNat)) (fun ⟨above,aboves,below,k0⟩=>(6-k0).toNat) (([]:List ByteArray),{},ByteArray.empty,0) (by kernel_rfl) [] (by kernel_rfl) ?_ ?_
  · refine ⟨?_,?_,?_,?_⟩
    · show 0≤(0:Int);omega
    · show (0:Int)≤6;omega
    · show ([]:List ByteArray)=Dm.abN [d0,d1,d2,d3,d4,d5] (0:Int).toNat;rfl
    show ByteArray.empty=Dm.beN [d0,d1,d2,d3,d4,d5] (0:Int).toNat;rfl
  rintro ⟨above,aboves,below,k0⟩ hF1 kw7 Z1 hZ1;have hF1:(0≤k0)∧(k0≤6)∧(above=Dm.abN [d0,d1,d2,d3,d4,d5] k0.toNat)∧(below=Dm.beN [d0,d1,d2,d3,d4,d5] k0.toNat):=hF1;obtain ⟨hf1,hf2,hf3,hf4⟩:=hF1;obtain ⟨⟨kl1, -⟩, -⟩:Lq above aboves.v∧True:=kq kw7;clear kw7;have hbs:below.size≤6 * k0.toNat:=by rw [hf4];exact Dm.beN_size _
  have hal:above.length≤k0.toNat:=by rw [hf3];exact (Dm.abN_mem _).1
  refine V.g [.k (bv (decide (k0 < 6)))] fun _ _ G7=>?_;intro S_ s_
  refine V.cn (b:=decide (k0 < 6)) iDT iDF (fun q3=>?_) (fun q4=>?_)
  · rcases (by omega:k0=0∨k0=1∨k0=2∨k0=3∨k0=4∨k0=5) with hcs1 | hcs2 | hcs3 | hcs4 | hcs5 | hcs6
    · refine V.alt (fun (zz:Int)=>(⟨[(1,pp ((G1 0).b) 0),(3,aboves.v),(4,tv below),(11,.agg #[tv ⟨#[103]⟩,tv ⟨#[109]⟩,tv ⟨#[115]⟩,tv ⟨#[74]⟩,tv ⟨#[99,101,110,116]⟩,tv ⟨#[112,99]⟩]),(12,iv zz),(13,bv (decide (k0 < 6)))],[],[.blk ((G1 0).b) #[iv d0,iv d1,iv d2,iv d3,iv d4,iv d5] 40,os true 9 above aboves]⟩:St)) hcs1 [] (by kernel_rfl) ?_;refine V.g [.k (iv 0),.k (tv ⟨#[103]⟩),.k (iv 0),.k (tv ⟨#[103]⟩)] fun _ _ G8=>?_;intro S_ s_
      refine V.g [.k (iv 0),.k (pp ((G1 0).b) 0),.ld 0 0 false (fun _=>[iv d0]),.k (iv d0)] fun _ _ G9=>?_;intro S_ s_
      refine V.g [.k (iv d0),.k (bv (decide (0 < d0))),.k (bv (decide (0 < d0)))] fun _ _ G10=>?_;intro S_ s_
      refine V.cn (b:=decide (0 < d0)) iDT iDF (fun q5=>?_) (fun q6=>?_)
      · refine nm (above ++([Dm.item ⟨#[103]⟩ d0]:List ByteArray):List ByteArray) fun l1 hl1=>?_;have hl1n:=congrArg List.length hl1;try simp only [List.length_append,List.length_cons,List.length_nil,List.length_replicate,List.length_set,List.length_take,List.length_drop,List.length_map,List.length_reverse,List.length_range] at hl1n
        refine V.r [.k (aboves.v),.k (tv ⟨#[103]⟩),.k (iv d0),.cp g0 3 135 [] (fun _ G=>item_ct ⟨#[103]⟩ d0 (by decide) (by omega)),.nr 4 true 9 ([Dm.item ⟨#[103]⟩ d0]:List ByteArray) [] (fun _ _ _ _ _=>trivial) (fun _=>#[tv (Dm.item ⟨#[103]⟩ d0)]),.ap 5 1 9 16 false true above (fun _=>aboves) (kf true (.g 4 0) ([Dm.item ⟨#[103]⟩ d0]:List ByteArray) (fun G=>⟨atB (G 4).b,1,1⟩)) true l1 hl1 (by (try simp only [List.length_append,List.length_cons,List.length_nil,List.length_replicate,List.length_set,List.length_take,List.length_drop,List.length_map,List.length_reverse,List.length_range]);omega) (fun h=>by cases h) (.inr fun _ _=>trivial),.v fun G=>((G 5).s).v] fun _ _ G11 kw12=>?_;intro S_ s_
        obtain ⟨⟨kl2, -⟩, -⟩:Lq ([Dm.item ⟨#[103]⟩ d0]:List ByteArray) (SV.v ⟨atB (G11 4).b,1,1⟩)∧Lq l1 (((G11 5).s).v)∧True:=kq kw12;clear kw12;refine V.g [.k (iv 1),.k (iv 1)] fun _ _ G12=>?_;intro S_ s_;refine V.rnd hZ1 (l1,(G11 5).s,below,1) [] (by kernel_rfl) ?_ ?_
        · refine ⟨?_,?_,?_,?_⟩
          · show 0≤(1:Int);omega
          · show (1:Int)≤6;omega
          · show l1=Dm.abN [d0,d1,d2,d3,d4,d5] (1:Int).toNat;rw [hl1,hf3,hcs1];exact (Dm.abN_pos (D:=[d0,d1,d2,d3,d4,d5]) (n:=0) q5).symm
          show below=Dm.beN [d0,d1,d2,d3,d4,d5] (1:Int).toNat;rw [hf4,hcs1];exact (Dm.beN_no (D:=[d0,d1,d2,d3,d4,d5]) (n:=0) (show ¬ d0 < 0 by omega)).symm
        show (6-(1:Int)).toNat < (6-k0).toNat;omega
      refine V.g [.k (iv d0),.k (bv (decide (d0 < 0))),.k (bv (decide (d0 < 0)))] fun _ _ G13=>?_;intro S_ s_
      refine V.cn (b:=decide (d0 < 0)) iDT iDF (fun q7=>?_) (fun q8=>?_)
      · have hz1:(⟨#[47]⟩:ByteArray).size=1:=rfl;refine nm ((⟨#[47]⟩:ByteArray) ++(Dm.item ⟨#[103]⟩ (-d0)):ByteArray) fun t1 ht1=>?_;have ht1n:t1.size=(⟨#[47]⟩:ByteArray).size+(Dm.item ⟨#[103]⟩ (-d0)).size:=by rw [ht1,ByteArray.size_append]
        refine nm (below ++t1:ByteArray) fun t2 ht2=>?_;have ht2n:t2.size=below.size+t1.size:=by rw [ht2,ByteArray.size_append]
        have hit:=Dm.item_size (s:=⟨#[103]⟩) (e:= -d0);have hsy:(⟨#[103]⟩:ByteArray).size≤4:=by decide
        refine V.g [.k (tv below),.k (tv ⟨#[103]⟩),.k (iv d0),.ng d0 (-d0) rfl (by omega) (by omega),.cp g0 4 135 [] (fun _ G=>item_ct ⟨#[103]⟩ (-d0) (by decide) (by omega)),.sad g0 ⟨#[47]⟩ (Dm.item ⟨#[103]⟩ (-d0)) t1 ht1 (fun _=>by omega),.sad g0 below t1 t2 ht2 (fun _=>by omega),.k (tv t2)] fun _ _ G14=>?_;intro S_ s_
        refine V.g [.k (iv 1),.k (iv 1)] fun _ _ G15=>?_;intro S_ s_
        refine V.rnd hZ1 (above,aboves,t2,1) [] (by kernel_rfl) ?_ ?_
        · refine ⟨?_,?_,?_,?_⟩
          · show 0≤(1:Int);omega
          · show (1:Int)≤6;omega
          · show above=Dm.abN [d0,d1,d2,d3,d4,d5] (1:Int).toNat;rw [hf3,hcs1];exact (Dm.abN_no (D:=[d0,d1,d2,d3,d4,d5]) (n:=0) (show ¬ 0 < d0 by omega)).symm
          show t2=Dm.beN [d0,d1,d2,d3,d4,d5] (1:Int).toNat;rw [ht2,ht1,hf4,hcs1];exact (Dm.beN_neg (D:=[d0,d1,d2,d3,d4,d5]) (n:=0) q7).symm
        show (6-(1:Int)).toNat < (6-k0).toNat;omega
      refine V.g [.k (iv 1),.k (iv 1)] fun _ _ G16=>?_;intro S_ s_
      refine V.rnd hZ1 (above,aboves,below,1) [] (by kernel_rfl) ?_ ?_
      · refine ⟨?_,?_,?_,?_⟩
        · show 0≤(1:Int);omega
        · show (1:Int)≤6;omega
        · show above=Dm.abN [d0,d1,d2,d3,d4,d5] (1:Int).toNat;rw [hf3,hcs1];exact (Dm.abN_no (D:=[d0,d1,d2,d3,d4,d5]) (n:=0) (show ¬ 0 < d0 by omega)).symm
        show below=Dm.beN [d0,d1,d2,d3,d4,d5] (1:Int).toNat;rw [hf4,hcs1];exact (Dm.beN_no (D:=[d0,d1,d2,d3,d4,d5]) (n:=0) (show ¬ d0 < 0 by omega)).symm
      show (6-(1:Int)).toNat < (6-k0).toNat;omega
    · refine V.alt (fun (zz:Int)=>(⟨[(1,pp ((G1 0).b) 0),(3,aboves.v),(4,tv below),(11,.agg #[tv ⟨#[103]⟩,tv ⟨#[109]⟩,tv ⟨#[115]⟩,tv ⟨#[74]⟩,tv ⟨#[99,101,110,116]⟩,tv ⟨#[112,99]⟩]),(12,iv zz),(13,bv (decide (k0 < 6)))],[],[.blk ((G1 0).b) #[iv d0,iv d1,iv d2,iv d3,iv d4,iv d5] 40,os true 9 above aboves]⟩:St)) hcs2 [] (by kernel_rfl) ?_;refine V.g [.k (iv 1),.k (tv ⟨#[109]⟩),.k (iv 1),.k (tv ⟨#[109]⟩)] fun _ _ G17=>?_;intro S_ s_
      refine V.g [.k (iv 1),.k (pp ((G1 0).b) 1),.ld 0 1 false (fun _=>[iv d1]),.k (iv d1)] fun _ _ G18=>?_;intro S_ s_
      refine V.g [.k (iv d1),.k (bv (decide (0 < d1))),.k (bv (decide (0 < d1)))] fun _ _ G19=>?_;intro S_ s_
      refine V.cn (b:=decide (0 < d1)) iDT iDF (fun q9=>?_) (fun q10=>?_)
      · refine nm (above ++([Dm.item ⟨#[109]⟩ d1]:List ByteArray):List ByteArray) fun l2 hl2=>?_;have hl2n:=congrArg List.length hl2;try simp only [List.length_append,List.length_cons,List.length_nil,List.length_replicate,List.length_set,List.length_take,List.length_drop,List.length_map,List.length_reverse,List.length_range] at hl2n
        refine V.r [.k (aboves.v),.k (tv ⟨#[109]⟩),.k (iv d1),.cp g0 3 135 [] (fun _ G=>item_ct ⟨#[109]⟩ d1 (by decide) (by omega)),.nr 4 true 9 ([Dm.item ⟨#[109]⟩ d1]:List ByteArray) [] (fun _ _ _ _ _=>trivial) (fun _=>#[tv (Dm.item ⟨#[109]⟩ d1)]),.ap 5 1 9 16 false true above (fun _=>aboves) (kf true (.g 4 0) ([Dm.item ⟨#[109]⟩ d1]:List ByteArray) (fun G=>⟨atB (G 4).b,1,1⟩)) true l2 hl2 (by (try simp only [List.length_append,List.length_cons,List.length_nil,List.length_replicate,List.length_set,List.length_take,List.length_drop,List.length_map,List.length_reverse,List.length_range]);omega) (fun h=>by cases h) (.inr fun _ _=>trivial),.v fun G=>((G 5).s).v] fun _ _ G20 kw21=>?_;intro S_ s_
        obtain ⟨⟨kl3, -⟩, -⟩:Lq ([Dm.item ⟨#[109]⟩ d1]:List ByteArray) (SV.v ⟨atB (G20 4).b,1,1⟩)∧Lq l2 (((G20 5).s).v)∧True:=kq kw21;clear kw21;refine V.g [.k (iv 2),.k (iv 2)] fun _ _ G21=>?_;intro S_ s_;refine V.rnd hZ1 (l2,(G20 5).s,below,2) [] (by kernel_rfl) ?_ ?_
        · refine ⟨?_,?_,?_,?_⟩
          · show 0≤(2:Int);omega
          · show (2:Int)≤6;omega
          · show l2=Dm.abN [d0,d1,d2,d3,d4,d5] (2:Int).toNat;rw [hl2,hf3,hcs2];exact (Dm.abN_pos (D:=[d0,d1,d2,d3,d4,d5]) (n:=1) q9).symm
          show below=Dm.beN [d0,d1,d2,d3,d4,d5] (2:Int).toNat;rw [hf4,hcs2];exact (Dm.beN_no (D:=[d0,d1,d2,d3,d4,d5]) (n:=1) (show ¬ d1 < 0 by omega)).symm
        show (6-(2:Int)).toNat < (6-k0).toNat;omega
      refine V.g [.k (iv d1),.k (bv (decide (d1 < 0))),.k (bv (decide (d1 < 0)))] fun _ _ G22=>?_;intro S_ s_
      refine V.cn (b:=decide (d1 < 0)) iDT iDF (fun q11=>?_) (fun q12=>?_)
      · have hz2:(⟨#[47]⟩:ByteArray).size=1:=rfl;refine nm ((⟨#[47]⟩:ByteArray) ++(Dm.item ⟨#[109]⟩ (-d1)):ByteArray) fun t3 ht3=>?_;have ht3n:t3.size=(⟨#[47]⟩:ByteArray).size+(Dm.item ⟨#[109]⟩ (-d1)).size:=by rw [ht3,ByteArray.size_append]
        refine nm (below ++t3:ByteArray) fun t4 ht4=>?_;have ht4n:t4.size=below.size+t3.size:=by rw [ht4,ByteArray.size_append]
        have hit:=Dm.item_size (s:=⟨#[109]⟩) (e:= -d1);have hsy:(⟨#[109]⟩:ByteArray).size≤4:=by decide
        refine V.g [.k (tv below),.k (tv ⟨#[109]⟩),.k (iv d1),.ng d1 (-d1) rfl (by omega) (by omega),.cp g0 4 135 [] (fun _ G=>item_ct ⟨#[109]⟩ (-d1) (by decide) (by omega)),.sad g0 ⟨#[47]⟩ (Dm.item ⟨#[109]⟩ (-d1)) t3 ht3 (fun _=>by omega),.sad g0 below t3 t4 ht4 (fun _=>by omega),.k (tv t4)] fun _ _ G23=>?_;intro S_ s_
        refine V.g [.k (iv 2),.k (iv 2)] fun _ _ G24=>?_;intro S_ s_
        refine V.rnd hZ1 (above,aboves,t4,2) [] (by kernel_rfl) ?_ ?_
        · refine ⟨?_,?_,?_,?_⟩
          · show 0≤(2:Int);omega
          · show (2:Int)≤6;omega
          · show above=Dm.abN [d0,d1,d2,d3,d4,d5] (2:Int).toNat;rw [hf3,hcs2];exact (Dm.abN_no (D:=[d0,d1,d2,d3,d4,d5]) (n:=1) (show ¬ 0 < d1 by omega)).symm
          show t4=Dm.beN [d0,d1,d2,d3,d4,d5] (2:Int).toNat;rw [ht4,ht3,hf4,hcs2];exact (Dm.beN_neg (D:=[d0,d1,d2,d3,d4,d5]) (n:=1) q11).symm
        show (6-(2:Int)).toNat < (6-k0).toNat;omega
      refine V.g [.k (iv 2),.k (iv 2)] fun _ _ G25=>?_;intro S_ s_
      refine V.rnd hZ1 (above,aboves,below,2) [] (by kernel_rfl) ?_ ?_
      · refine ⟨?_,?_,?_,?_⟩
        · show 0≤(2:Int);omega
        · show (2:Int)≤6;omega
        · show above=Dm.abN [d0,d1,d2,d3,d4,d5] (2:Int).toNat;rw [hf3,hcs2];exact (Dm.abN_no (D:=[d0,d1,d2,d3,d4,d5]) (n:=1) (show ¬ 0 < d1 by omega)).symm
        show below=Dm.beN [d0,d1,d2,d3,d4,d5] (2:Int).toNat;rw [hf4,hcs2];exact (Dm.beN_no (D:=[d0,d1,d2,d3,d4,d5]) (n:=1) (show ¬ d1 < 0 by omega)).symm
      show (6-(2:Int)).toNat < (6-k0).toNat;omega
    · refine V.alt (fun (zz:Int)=>(⟨[(1,pp ((G1 0).b) 0),(3,aboves.v),(4,tv below),(11,.agg #[tv ⟨#[103]⟩,tv ⟨#[109]⟩,tv ⟨#[115]⟩,tv ⟨#[74]⟩,tv ⟨#[99,101,110,116]⟩,tv ⟨#[112,99]⟩]),(12,iv zz),(13,bv (decide (k0 < 6)))],[],[.blk ((G1 0).b) #[iv d0,iv d1,iv d2,iv d3,iv d4,iv d5] 40,os true 9 above aboves]⟩:St)) hcs3 [] (by kernel_rfl) ?_;refine V.g [.k (iv 2),.k (tv ⟨#[115]⟩),.k (iv 2),.k (tv ⟨#[115]⟩)] fun _ _ G26=>?_;intro S_ s_
      refine V.g [.k (iv 2),.k (pp ((G1 0).b) 2),.ld 0 2 false (fun _=>[iv d2]),.k (iv d2)] fun _ _ G27=>?_;intro S_ s_
      refine V.g [.k (iv d2),.k (bv (decide (0 < d2))),.k (bv (decide (0 < d2)))] fun _ _ G28=>?_;intro S_ s_
      refine V.cn (b:=decide (0 < d2)) iDT iDF (fun q13=>?_) (fun q14=>?_)
      · refine nm (above ++([Dm.item ⟨#[115]⟩ d2]:List ByteArray):List ByteArray) fun l3 hl3=>?_;have hl3n:=congrArg List.length hl3;try simp only [List.length_append,List.length_cons,List.length_nil,List.length_replicate,List.length_set,List.length_take,List.length_drop,List.length_map,List.length_reverse,List.length_range] at hl3n
        refine V.r [.k (aboves.v),.k (tv ⟨#[115]⟩),.k (iv d2),.cp g0 3 135 [] (fun _ G=>item_ct ⟨#[115]⟩ d2 (by decide) (by omega)),.nr 4 true 9 ([Dm.item ⟨#[115]⟩ d2]:List ByteArray) [] (fun _ _ _ _ _=>trivial) (fun _=>#[tv (Dm.item ⟨#[115]⟩ d2)]),.ap 5 1 9 16 false true above (fun _=>aboves) (kf true (.g 4 0) ([Dm.item ⟨#[115]⟩ d2]:List ByteArray) (fun G=>⟨atB (G 4).b,1,1⟩)) true l3 hl3 (by (try simp only [List.length_append,List.length_cons,List.length_nil,List.length_replicate,List.length_set,List.length_take,List.length_drop,List.length_map,List.length_reverse,List.length_range]);omega) (fun h=>by cases h) (.inr fun _ _=>trivial),.v fun G=>((G 5).s).v] fun _ _ G29 kw30=>?_;intro S_ s_
        obtain ⟨⟨kl4, -⟩, -⟩:Lq ([Dm.item ⟨#[115]⟩ d2]:List ByteArray) (SV.v ⟨atB (G29 4).b,1,1⟩)∧Lq l3 (((G29 5).s).v)∧True:=kq kw30;clear kw30;refine V.g [.k (iv 3),.k (iv 3)] fun _ _ G30=>?_;intro S_ s_;refine V.rnd hZ1 (l3,(G29 5).s,below,3) [] (by kernel_rfl) ?_ ?_
        · refine ⟨?_,?_,?_,?_⟩
          · show 0≤(3:Int);omega
          · show (3:Int)≤6;omega
          · show l3=Dm.abN [d0,d1,d2,d3,d4,d5] (3:Int).toNat;rw [hl3,hf3,hcs3];exact (Dm.abN_pos (D:=[d0,d1,d2,d3,d4,d5]) (n:=2) q13).symm
          show below=Dm.beN [d0,d1,d2,d3,d4,d5] (3:Int).toNat;rw [hf4,hcs3];exact (Dm.beN_no (D:=[d0,d1,d2,d3,d4,d5]) (n:=2) (show ¬ d2 < 0 by omega)).symm
        show (6-(3:Int)).toNat < (6-k0).toNat;omega
      refine V.g [.k (iv d2),.k (bv (decide (d2 < 0))),.k (bv (decide (d2 < 0)))] fun _ _ G31=>?_;intro S_ s_
      refine V.cn (b:=decide (d2 < 0)) iDT iDF (fun q15=>?_) (fun q16=>?_)
      · have hz3:(⟨#[47]⟩:ByteArray).size=1:=rfl;refine nm ((⟨#[47]⟩:ByteArray) ++(Dm.item ⟨#[115]⟩ (-d2)):ByteArray) fun t5 ht5=>?_;have ht5n:t5.size=(⟨#[47]⟩:ByteArray).size+(Dm.item ⟨#[115]⟩ (-d2)).size:=by rw [ht5,ByteArray.size_append]
        refine nm (below ++t5:ByteArray) fun t6 ht6=>?_;have ht6n:t6.size=below.size+t5.size:=by rw [ht6,ByteArray.size_append]
        have hit:=Dm.item_size (s:=⟨#[115]⟩) (e:= -d2);have hsy:(⟨#[115]⟩:ByteArray).size≤4:=by decide
        refine V.g [.k (tv below),.k (tv ⟨#[115]⟩),.k (iv d2),.ng d2 (-d2) rfl (by omega) (by omega),.cp g0 4 135 [] (fun _ G=>item_ct ⟨#[115]⟩ (-d2) (by decide) (by omega)),.sad g0 ⟨#[47]⟩ (Dm.item ⟨#[115]⟩ (-d2)) t5 ht5 (fun _=>by omega),.sad g0 below t5 t6 ht6 (fun _=>by omega),.k (tv t6)] fun _ _ G32=>?_;intro S_ s_
        refine V.g [.k (iv 3),.k (iv 3)] fun _ _ G33=>?_;intro S_ s_
        refine V.rnd hZ1 (above,aboves,t6,3) [] (by kernel_rfl) ?_ ?_
        · refine ⟨?_,?_,?_,?_⟩
          · show 0≤(3:Int);omega
          · show (3:Int)≤6;omega
          · show above=Dm.abN [d0,d1,d2,d3,d4,d5] (3:Int).toNat;rw [hf3,hcs3];exact (Dm.abN_no (D:=[d0,d1,d2,d3,d4,d5]) (n:=2) (show ¬ 0 < d2 by omega)).symm
          show t6=Dm.beN [d0,d1,d2,d3,d4,d5] (3:Int).toNat;rw [ht6,ht5,hf4,hcs3];exact (Dm.beN_neg (D:=[d0,d1,d2,d3,d4,d5]) (n:=2) q15).symm
        show (6-(3:Int)).toNat < (6-k0).toNat;omega
      refine V.g [.k (iv 3),.k (iv 3)] fun _ _ G34=>?_;intro S_ s_
      refine V.rnd hZ1 (above,aboves,below,3) [] (by kernel_rfl) ?_ ?_
      · refine ⟨?_,?_,?_,?_⟩
        · show 0≤(3:Int);omega
        · show (3:Int)≤6;omega
        · show above=Dm.abN [d0,d1,d2,d3,d4,d5] (3:Int).toNat;rw [hf3,hcs3];exact (Dm.abN_no (D:=[d0,d1,d2,d3,d4,d5]) (n:=2) (show ¬ 0 < d2 by omega)).symm
        show below=Dm.beN [d0,d1,d2,d3,d4,d5] (3:Int).toNat;rw [hf4,hcs3];exact (Dm.beN_no (D:=[d0,d1,d2,d3,d4,d5]) (n:=2) (show ¬ d2 < 0 by omega)).symm
      show (6-(3:Int)).toNat < (6-k0).toNat;omega
    · refine V.alt (fun (zz:Int)=>(⟨[(1,pp ((G1 0).b) 0),(3,aboves.v),(4,tv below),(11,.agg #[tv ⟨#[103]⟩,tv ⟨#[109]⟩,tv ⟨#[115]⟩,tv ⟨#[74]⟩,tv ⟨#[99,101,110,116]⟩,tv ⟨#[112,99]⟩]),(12,iv zz),(13,bv (decide (k0 < 6)))],[],[.blk ((G1 0).b) #[iv d0,iv d1,iv d2,iv d3,iv d4,iv d5] 40,os true 9 above aboves]⟩:St)) hcs4 [] (by kernel_rfl) ?_;refine V.g [.k (iv 3),.k (tv ⟨#[74]⟩),.k (iv 3),.k (tv ⟨#[74]⟩)] fun _ _ G35=>?_;intro S_ s_
      refine V.g [.k (iv 3),.k (pp ((G1 0).b) 3),.ld 0 3 false (fun _=>[iv d3]),.k (iv d3)] fun _ _ G36=>?_;intro S_ s_
      refine V.g [.k (iv d3),.k (bv (decide (0 < d3))),.k (bv (decide (0 < d3)))] fun _ _ G37=>?_;intro S_ s_
      refine V.cn (b:=decide (0 < d3)) iDT iDF (fun q17=>?_) (fun q18=>?_)
      · refine nm (above ++([Dm.item ⟨#[74]⟩ d3]:List ByteArray):List ByteArray) fun l4 hl4=>?_;have hl4n:=congrArg List.length hl4;try simp only [List.length_append,List.length_cons,List.length_nil,List.length_replicate,List.length_set,List.length_take,List.length_drop,List.length_map,List.length_reverse,List.length_range] at hl4n
        refine V.r [.k (aboves.v),.k (tv ⟨#[74]⟩),.k (iv d3),.cp g0 3 135 [] (fun _ G=>item_ct ⟨#[74]⟩ d3 (by decide) (by omega)),.nr 4 true 9 ([Dm.item ⟨#[74]⟩ d3]:List ByteArray) [] (fun _ _ _ _ _=>trivial) (fun _=>#[tv (Dm.item ⟨#[74]⟩ d3)]),.ap 5 1 9 16 false true above (fun _=>aboves) (kf true (.g 4 0) ([Dm.item ⟨#[74]⟩ d3]:List ByteArray) (fun G=>⟨atB (G 4).b,1,1⟩)) true l4 hl4 (by (try simp only [List.length_append,List.length_cons,List.length_nil,List.length_replicate,List.length_set,List.length_take,List.length_drop,List.length_map,List.length_reverse,List.length_range]);omega) (fun h=>by cases h) (.inr fun _ _=>trivial),.v fun G=>((G 5).s).v] fun _ _ G38 kw39=>?_;intro S_ s_
        obtain ⟨⟨kl5, -⟩, -⟩:Lq ([Dm.item ⟨#[74]⟩ d3]:List ByteArray) (SV.v ⟨atB (G38 4).b,1,1⟩)∧Lq l4 (((G38 5).s).v)∧True:=kq kw39;clear kw39;refine V.g [.k (iv 4),.k (iv 4)] fun _ _ G39=>?_;intro S_ s_;refine V.rnd hZ1 (l4,(G38 5).s,below,4) [] (by kernel_rfl) ?_ ?_
        · refine ⟨?_,?_,?_,?_⟩
          · show 0≤(4:Int);omega
          · show (4:Int)≤6;omega
          · show l4=Dm.abN [d0,d1,d2,d3,d4,d5] (4:Int).toNat;rw [hl4,hf3,hcs4];exact (Dm.abN_pos (D:=[d0,d1,d2,d3,d4,d5]) (n:=3) q17).symm
          show below=Dm.beN [d0,d1,d2,d3,d4,d5] (4:Int).toNat;rw [hf4,hcs4];exact (Dm.beN_no (D:=[d0,d1,d2,d3,d4,d5]) (n:=3) (show ¬ d3 < 0 by omega)).symm
        show (6-(4:Int)).toNat < (6-k0).toNat;omega
      refine V.g [.k (iv d3),.k (bv (decide (d3 < 0))),.k (bv (decide (d3 < 0)))] fun _ _ G40=>?_;intro S_ s_
      refine V.cn (b:=decide (d3 < 0)) iDT iDF (fun q19=>?_) (fun q20=>?_)
      · have hz4:(⟨#[47]⟩:ByteArray).size=1:=rfl;refine nm ((⟨#[47]⟩:ByteArray) ++(Dm.item ⟨#[74]⟩ (-d3)):ByteArray) fun t7 ht7=>?_;have ht7n:t7.size=(⟨#[47]⟩:ByteArray).size+(Dm.item ⟨#[74]⟩ (-d3)).size:=by rw [ht7,ByteArray.size_append]
        refine nm (below ++t7:ByteArray) fun t8 ht8=>?_;have ht8n:t8.size=below.size+t7.size:=by rw [ht8,ByteArray.size_append]
        have hit:=Dm.item_size (s:=⟨#[74]⟩) (e:= -d3);have hsy:(⟨#[74]⟩:ByteArray).size≤4:=by decide
        refine V.g [.k (tv below),.k (tv ⟨#[74]⟩),.k (iv d3),.ng d3 (-d3) rfl (by omega) (by omega),.cp g0 4 135 [] (fun _ G=>item_ct ⟨#[74]⟩ (-d3) (by decide) (by omega)),.sad g0 ⟨#[47]⟩ (Dm.item ⟨#[74]⟩ (-d3)) t7 ht7 (fun _=>by omega),.sad g0 below t7 t8 ht8 (fun _=>by omega),.k (tv t8)] fun _ _ G41=>?_;intro S_ s_
        refine V.g [.k (iv 4),.k (iv 4)] fun _ _ G42=>?_;intro S_ s_
        refine V.rnd hZ1 (above,aboves,t8,4) [] (by kernel_rfl) ?_ ?_
        · refine ⟨?_,?_,?_,?_⟩
          · show 0≤(4:Int);omega
          · show (4:Int)≤6;omega
          · show above=Dm.abN [d0,d1,d2,d3,d4,d5] (4:Int).toNat;rw [hf3,hcs4];exact (Dm.abN_no (D:=[d0,d1,d2,d3,d4,d5]) (n:=3) (show ¬ 0 < d3 by omega)).symm
          show t8=Dm.beN [d0,d1,d2,d3,d4,d5] (4:Int).toNat;rw [ht8,ht7,hf4,hcs4];exact (Dm.beN_neg (D:=[d0,d1,d2,d3,d4,d5]) (n:=3) q19).symm
        show (6-(4:Int)).toNat < (6-k0).toNat;omega
      refine V.g [.k (iv 4),.k (iv 4)] fun _ _ G43=>?_;intro S_ s_
      refine V.rnd hZ1 (above,aboves,below,4) [] (by kernel_rfl) ?_ ?_
      · refine ⟨?_,?_,?_,?_⟩
        · show 0≤(4:Int);omega
        · show (4:Int)≤6;omega
        · show above=Dm.abN [d0,d1,d2,d3,d4,d5] (4:Int).toNat;rw [hf3,hcs4];exact (Dm.abN_no (D:=[d0,d1,d2,d3,d4,d5]) (n:=3) (show ¬ 0 < d3 by omega)).symm
        show below=Dm.beN [d0,d1,d2,d3,d4,d5] (4:Int).toNat;rw [hf4,hcs4];exact (Dm.beN_no (D:=[d0,d1,d2,d3,d4,d5]) (n:=3) (show ¬ d3 < 0 by omega)).symm
      show (6-(4:Int)).toNat < (6-k0).toNat;omega
    · refine V.alt (fun (zz:Int)=>(⟨[(1,pp ((G1 0).b) 0),(3,aboves.v),(4,tv below),(11,.agg #[tv ⟨#[103]⟩,tv ⟨#[109]⟩,tv ⟨#[115]⟩,tv ⟨#[74]⟩,tv ⟨#[99,101,110,116]⟩,tv ⟨#[112,99]⟩]),(12,iv zz),(13,bv (decide (k0 < 6)))],[],[.blk ((G1 0).b) #[iv d0,iv d1,iv d2,iv d3,iv d4,iv d5] 40,os true 9 above aboves]⟩:St)) hcs5 [] (by kernel_rfl) ?_;refine V.g [.k (iv 4),.k (tv ⟨#[99,101,110,116]⟩),.k (iv 4),.k (tv ⟨#[99,101,110,116]⟩)] fun _ _ G44=>?_;intro S_ s_
      refine V.g [.k (iv 4),.k (pp ((G1 0).b) 4),.ld 0 4 false (fun _=>[iv d4]),.k (iv d4)] fun _ _ G45=>?_;intro S_ s_
      refine V.g [.k (iv d4),.k (bv (decide (0 < d4))),.k (bv (decide (0 < d4)))] fun _ _ G46=>?_;intro S_ s_
      refine V.cn (b:=decide (0 < d4)) iDT iDF (fun q21=>?_) (fun q22=>?_)
      · refine nm (above ++([Dm.item ⟨#[99,101,110,116]⟩ d4]:List ByteArray):List ByteArray) fun l5 hl5=>?_;have hl5n:=congrArg List.length hl5;try simp only [List.length_append,List.length_cons,List.length_nil,List.length_replicate,List.length_set,List.length_take,List.length_drop,List.length_map,List.length_reverse,List.length_range] at hl5n
        refine V.r [.k (aboves.v),.k (tv ⟨#[99,101,110,116]⟩),.k (iv d4),.cp g0 3 135 [] (fun _ G=>item_ct ⟨#[99,101,110,116]⟩ d4 (by decide) (by omega)),.nr 4 true 9 ([Dm.item ⟨#[99,101,110,116]⟩ d4]:List ByteArray) [] (fun _ _ _ _ _=>trivial) (fun _=>#[tv (Dm.item ⟨#[99,101,110,116]⟩ d4)]),.ap 5 1 9 16 false true above (fun _=>aboves) (kf true (.g 4 0) ([Dm.item ⟨#[99,101,110,116]⟩ d4]:List ByteArray) (fun G=>⟨atB (G 4).b,1,1⟩)) true l5 hl5 (by (try simp only [List.length_append,List.length_cons,List.length_nil,List.length_replicate,List.length_set,List.length_take,List.length_drop,List.length_map,List.length_reverse,List.length_range]);omega) (fun h=>by cases h) (.inr fun _ _=>trivial),.v fun G=>((G 5).s).v] fun _ _ G47 kw48=>?_;intro S_ s_
        obtain ⟨⟨kl6, -⟩, -⟩:Lq ([Dm.item ⟨#[99,101,110,116]⟩ d4]:List ByteArray) (SV.v ⟨atB (G47 4).b,1,1⟩)∧Lq l5 (((G47 5).s).v)∧True:=kq kw48;clear kw48;refine V.g [.k (iv 5),.k (iv 5)] fun _ _ G48=>?_;intro S_ s_;refine V.rnd hZ1 (l5,(G47 5).s,below,5) [] (by kernel_rfl) ?_ ?_
        · refine ⟨?_,?_,?_,?_⟩
          · show 0≤(5:Int);omega
          · show (5:Int)≤6;omega
          · show l5=Dm.abN [d0,d1,d2,d3,d4,d5] (5:Int).toNat;rw [hl5,hf3,hcs5];exact (Dm.abN_pos (D:=[d0,d1,d2,d3,d4,d5]) (n:=4) q21).symm
          show below=Dm.beN [d0,d1,d2,d3,d4,d5] (5:Int).toNat;rw [hf4,hcs5];exact (Dm.beN_no (D:=[d0,d1,d2,d3,d4,d5]) (n:=4) (show ¬ d4 < 0 by omega)).symm
        show (6-(5:Int)).toNat < (6-k0).toNat;omega
      refine V.g [.k (iv d4),.k (bv (decide (d4 < 0))),.k (bv (decide (d4 < 0)))] fun _ _ G49=>?_;intro S_ s_
      refine V.cn (b:=decide (d4 < 0)) iDT iDF (fun q23=>?_) (fun q24=>?_)
      · have hz5:(⟨#[47]⟩:ByteArray).size=1:=rfl;refine nm ((⟨#[47]⟩:ByteArray) ++(Dm.item ⟨#[99,101,110,116]⟩ (-d4)):ByteArray) fun t9 ht9=>?_;have ht9n:t9.size=(⟨#[47]⟩:ByteArray).size+(Dm.item ⟨#[99,101,110,116]⟩ (-d4)).size:=by rw [ht9,ByteArray.size_append]
        refine nm (below ++t9:ByteArray) fun t10 ht10=>?_;have ht10n:t10.size=below.size+t9.size:=by rw [ht10,ByteArray.size_append]
        have hit:=Dm.item_size (s:=⟨#[99,101,110,116]⟩) (e:= -d4);have hsy:(⟨#[99,101,110,116]⟩:ByteArray).size≤4:=by decide
        refine V.g [.k (tv below),.k (tv ⟨#[99,101,110,116]⟩),.k (iv d4),.ng d4 (-d4) rfl (by omega) (by omega),.cp g0 4 135 [] (fun _ G=>item_ct ⟨#[99,101,110,116]⟩ (-d4) (by decide) (by omega)),.sad g0 ⟨#[47]⟩ (Dm.item ⟨#[99,101,110,116]⟩ (-d4)) t9 ht9 (fun _=>by omega),.sad g0 below t9 t10 ht10 (fun _=>by omega),.k (tv t10)] fun _ _ G50=>?_;intro S_ s_
        refine V.g [.k (iv 5),.k (iv 5)] fun _ _ G51=>?_;intro S_ s_
        refine V.rnd hZ1 (above,aboves,t10,5) [] (by kernel_rfl) ?_ ?_
        · refine ⟨?_,?_,?_,?_⟩
          · show 0≤(5:Int);omega
          · show (5:Int)≤6;omega
          · show above=Dm.abN [d0,d1,d2,d3,d4,d5] (5:Int).toNat;rw [hf3,hcs5];exact (Dm.abN_no (D:=[d0,d1,d2,d3,d4,d5]) (n:=4) (show ¬ 0 < d4 by omega)).symm
          show t10=Dm.beN [d0,d1,d2,d3,d4,d5] (5:Int).toNat;rw [ht10,ht9,hf4,hcs5];exact (Dm.beN_neg (D:=[d0,d1,d2,d3,d4,d5]) (n:=4) q23).symm
        show (6-(5:Int)).toNat < (6-k0).toNat;omega
      refine V.g [.k (iv 5),.k (iv 5)] fun _ _ G52=>?_;intro S_ s_
      refine V.rnd hZ1 (above,aboves,below,5) [] (by kernel_rfl) ?_ ?_
      · refine ⟨?_,?_,?_,?_⟩
        · show 0≤(5:Int);omega
        · show (5:Int)≤6;omega
        · show above=Dm.abN [d0,d1,d2,d3,d4,d5] (5:Int).toNat;rw [hf3,hcs5];exact (Dm.abN_no (D:=[d0,d1,d2,d3,d4,d5]) (n:=4) (show ¬ 0 < d4 by omega)).symm
        show below=Dm.beN [d0,d1,d2,d3,d4,d5] (5:Int).toNat;rw [hf4,hcs5];exact (Dm.beN_no (D:=[d0,d1,d2,d3,d4,d5]) (n:=4) (show ¬ d4 < 0 by omega)).symm
      show (6-(5:Int)).toNat < (6-k0).toNat;omega
    refine V.alt (fun (zz:Int)=>(⟨[(1,pp ((G1 0).b) 0),(3,aboves.v),(4,tv below),(11,.agg #[tv ⟨#[103]⟩,tv ⟨#[109]⟩,tv ⟨#[115]⟩,tv ⟨#[74]⟩,tv ⟨#[99,101,110,116]⟩,tv ⟨#[112,99]⟩]),(12,iv zz),(13,bv (decide (k0 < 6)))],[],[.blk ((G1 0).b) #[iv d0,iv d1,iv d2,iv d3,iv d4,iv d5] 40,os true 9 above aboves]⟩:St)) hcs6 [] (by kernel_rfl) ?_;refine V.g [.k (iv 5),.k (tv ⟨#[112,99]⟩),.k (iv 5),.k (tv ⟨#[112,99]⟩)] fun _ _ G53=>?_;intro S_ s_
    refine V.g [.k (iv 5),.k (pp ((G1 0).b) 5),.ld 0 5 false (fun _=>[iv d5]),.k (iv d5)] fun _ _ G54=>?_;intro S_ s_
    refine V.g [.k (iv d5),.k (bv (decide (0 < d5))),.k (bv (decide (0 < d5)))] fun _ _ G55=>?_;intro S_ s_
    refine V.cn (b:=decide (0 < d5)) iDT iDF (fun q25=>?_) (fun q26=>?_)
    · refine nm (above ++([Dm.item ⟨#[112,99]⟩ d5]:List ByteArray):List ByteArray) fun l6 hl6=>?_;have hl6n:=congrArg List.length hl6;try simp only [List.length_append,List.length_cons,List.length_nil,List.length_replicate,List.length_set,List.length_take,List.length_drop,List.length_map,List.length_reverse,List.length_range] at hl6n
      refine V.r [.k (aboves.v),.k (tv ⟨#[112,99]⟩),.k (iv d5),.cp g0 3 135 [] (fun _ G=>item_ct ⟨#[112,99]⟩ d5 (by decide) (by omega)),.nr 4 true 9 ([Dm.item ⟨#[112,99]⟩ d5]:List ByteArray) [] (fun _ _ _ _ _=>trivial) (fun _=>#[tv (Dm.item ⟨#[112,99]⟩ d5)]),.ap 5 1 9 16 false true above (fun _=>aboves) (kf true (.g 4 0) ([Dm.item ⟨#[112,99]⟩ d5]:List ByteArray) (fun G=>⟨atB (G 4).b,1,1⟩)) true l6 hl6 (by (try simp only [List.length_append,List.length_cons,List.length_nil,List.length_replicate,List.length_set,List.length_take,List.length_drop,List.length_map,List.length_reverse,List.length_range]);omega) (fun h=>by cases h) (.inr fun _ _=>trivial),.v fun G=>((G 5).s).v] fun _ _ G56 kw57=>?_;intro S_ s_
      obtain ⟨⟨kl7, -⟩, -⟩:Lq ([Dm.item ⟨#[112,99]⟩ d5]:List ByteArray) (SV.v ⟨atB (G56 4).b,1,1⟩)∧Lq l6 (((G56 5).s).v)∧True:=kq kw57;clear kw57;refine V.g [.k (iv 6),.k (iv 6)] fun _ _ G57=>?_;intro S_ s_;refine V.rnd hZ1 (l6,(G56 5).s,below,6) [] (by kernel_rfl) ?_ ?_
      · refine ⟨?_,?_,?_,?_⟩
        · show 0≤(6:Int);omega
        · show (6:Int)≤6;omega
        · show l6=Dm.abN [d0,d1,d2,d3,d4,d5] (6:Int).toNat;rw [hl6,hf3,hcs6];exact (Dm.abN_pos (D:=[d0,d1,d2,d3,d4,d5]) (n:=5) q25).symm
        show below=Dm.beN [d0,d1,d2,d3,d4,d5] (6:Int).toNat;rw [hf4,hcs6];exact (Dm.beN_no (D:=[d0,d1,d2,d3,d4,d5]) (n:=5) (show ¬ d5 < 0 by omega)).symm
      show (6-(6:Int)).toNat < (6-k0).toNat;omega
    refine V.g [.k (iv d5),.k (bv (decide (d5 < 0))),.k (bv (decide (d5 < 0)))] fun _ _ G58=>?_;intro S_ s_
    refine V.cn (b:=decide (d5 < 0)) iDT iDF (fun q27=>?_) (fun q28=>?_)
    · have hz6:(⟨#[47]⟩:ByteArray).size=1:=rfl;refine nm ((⟨#[47]⟩:ByteArray) ++(Dm.item ⟨#[112,99]⟩ (-d5)):ByteArray) fun t11 ht11=>?_;have ht11n:t11.size=(⟨#[47]⟩:ByteArray).size+(Dm.item ⟨#[112,99]⟩ (-d5)).size:=by rw [ht11,ByteArray.size_append]
      refine nm (below ++t11:ByteArray) fun t12 ht12=>?_;have ht12n:t12.size=below.size+t11.size:=by rw [ht12,ByteArray.size_append]
      have hit:=Dm.item_size (s:=⟨#[112,99]⟩) (e:= -d5);have hsy:(⟨#[112,99]⟩:ByteArray).size≤4:=by decide
      refine V.g [.k (tv below),.k (tv ⟨#[112,99]⟩),.k (iv d5),.ng d5 (-d5) rfl (by omega) (by omega),.cp g0 4 135 [] (fun _ G=>item_ct ⟨#[112,99]⟩ (-d5) (by decide) (by omega)),.sad g0 ⟨#[47]⟩ (Dm.item ⟨#[112,99]⟩ (-d5)) t11 ht11 (fun _=>by omega),.sad g0 below t11 t12 ht12 (fun _=>by omega),.k (tv t12)] fun _ _ G59=>?_;intro S_ s_
      refine V.g [.k (iv 6),.k (iv 6)] fun _ _ G60=>?_;intro S_ s_
      refine V.rnd hZ1 (above,aboves,t12,6) [] (by kernel_rfl) ?_ ?_
      · refine ⟨?_,?_,?_,?_⟩
        · show 0≤(6:Int);omega
        · show (6:Int)≤6;omega
        · show above=Dm.abN [d0,d1,d2,d3,d4,d5] (6:Int).toNat;rw [hf3,hcs6];exact (Dm.abN_no (D:=[d0,d1,d2,d3,d4,d5]) (n:=5) (show ¬ 0 < d5 by omega)).symm
        show t12=Dm.beN [d0,d1,d2,d3,d4,d5] (6:Int).toNat;rw [ht12,ht11,hf4,hcs6];exact (Dm.beN_neg (D:=[d0,d1,d2,d3,d4,d5]) (n:=5) q27).symm
      show (6-(6:Int)).toNat < (6-k0).toNat;omega
    refine V.g [.k (iv 6),.k (iv 6)] fun _ _ G61=>?_;intro S_ s_
    refine V.rnd hZ1 (above,aboves,below,6) [] (by kernel_rfl) ?_ ?_
    · refine ⟨?_,?_,?_,?_⟩
      · show 0≤(6:Int);omega
      · show (6:Int)≤6;omega
      · show above=Dm.abN [d0,d1,d2,d3,d4,d5] (6:Int).toNat;rw [hf3,hcs6];exact (Dm.abN_no (D:=[d0,d1,d2,d3,d4,d5]) (n:=5) (show ¬ 0 < d5 by omega)).symm
      show below=Dm.beN [d0,d1,d2,d3,d4,d5] (6:Int).toNat;rw [hf4,hcs6];exact (Dm.beN_no (D:=[d0,d1,d2,d3,d4,d5]) (n:=5) (show ¬ d5 < 0 by omega)).symm
    show (6-(6:Int)).toNat < (6-k0).toNat;omega
  refine V.g [.k (aboves.v),.ln (ko true 9 1 above (fun _=>aboves)),.k (bv (decide ((above.length:Int)=0)))] fun _ _ G62=>?_;intro S_ s_
  refine V.cn (b:=decide ((above.length:Int)=0)) iDT iDF (fun q29=>?_) (fun q30=>?_)
  · refine V.g [.nl 0 1 true 9 ([⟨#[49]⟩]:List ByteArray) [] (fun _ _ _ _ _=>trivial) (fun _=>#[tv ⟨#[49]⟩]),.v fun G=>SV.v ⟨atB (G 0).b,1,1⟩] fun _ _ G63=>?_;intro S_ s_
    refine nm ((Dm.jn ([⟨#[49]⟩]:List ByteArray) ⟨#[42]⟩) ++below:ByteArray) fun t13 ht13=>?_;have ht13n:t13.size=(Dm.jn ([⟨#[49]⟩]:List ByteArray) ⟨#[42]⟩).size+below.size:=by rw [ht13,ByteArray.size_append]
    have hab:([⟨#[49]⟩]:List ByteArray)=Dm.ab [d0,d1,d2,d3,d4,d5]:=by unfold Dm.ab;rw [if_pos (by rw [show (6:Nat)=k0.toNat by omega,← hf3];omega)]
    have hj:=Dm.jn_size (Dm.ab_ok [d0,d1,d2,d3,d4,d5]).1 (Dm.ab_ok [d0,d1,d2,d3,d4,d5]).2;have hj3:=(Dm.ab_ok [d0,d1,d2,d3,d4,d5]).2;rw [←hab] at hj hj3;refine V.g [.k (SV.v ⟨atB (G63 0).b,1,1⟩),.cp g0 1 136 [(ko true 9 1 ([⟨#[49]⟩]:List ByteArray) (fun _=>⟨atB (G63 0).b,1,1⟩)).a] (fun _ G=>join_ct ([⟨#[49]⟩]:List ByteArray) ⟨atB (G63 0).b,1,1⟩ ⟨#[42]⟩ (by omega) (by omega)),.k (tv below),.sad g0 (Dm.jn ([⟨#[49]⟩]:List ByteArray) ⟨#[42]⟩) below t13 ht13 (fun _=>by omega),.k (tv t13)] fun _ _ G64=>?_;intro S_ s_
    have e0:t13=Dm.text [d0,d1,d2,d3,d4,d5]:=by rw [ht13,hab,hf4];unfold Dm.text;rw [if_pos hR,show k0.toNat=6 by omega]
    exact V.rt [0] [] [] [] [] [] (tv t13) (cong1 (fun (x0:ByteArray)=>(tv x0:Value)) e0)
  refine nm ((Dm.jn above ⟨#[42]⟩) ++below:ByteArray) fun t14 ht14=>?_;have ht14n:t14.size=(Dm.jn above ⟨#[42]⟩).size+below.size:=by rw [ht14,ByteArray.size_append]
  have hab:above=Dm.ab [d0,d1,d2,d3,d4,d5]:=by unfold Dm.ab;rw [if_neg (by rw [show (6:Nat)=k0.toNat by omega,← hf3];omega),show (6:Nat)=k0.toNat by omega];exact hf3
  have hj:=Dm.jn_size (Dm.ab_ok [d0,d1,d2,d3,d4,d5]).1 (Dm.ab_ok [d0,d1,d2,d3,d4,d5]).2;have hj3:=(Dm.ab_ok [d0,d1,d2,d3,d4,d5]).2;rw [←hab] at hj hj3;refine V.g [.k (aboves.v),.cp g0 1 136 [(ko true 9 1 above (fun _=>aboves)).a] (fun _ G=>join_ct above aboves ⟨#[42]⟩ (by omega) (by omega)),.k (tv below),.sad g0 (Dm.jn above ⟨#[42]⟩) below t14 ht14 (fun _=>by omega),.k (tv t14)] fun _ _ G65=>?_;intro S_ s_
  have e0:t14=Dm.text [d0,d1,d2,d3,d4,d5]:=by rw [ht14,hab,hf4];unfold Dm.text;rw [if_pos hR,show k0.toNat=6 by omega]
  exact V.rt [0] [] [] [] [] [] (tv t14) (cong1 (fun (x0:ByteArray)=>(tv x0:Value)) e0)
theorem text_ctv (d0 d1 d2 d3 d4 d5:Int) (rv0:ByteArray) (erv0:rv0=Dm.text [d0,d1,d2,d3,d4,d5]) :
    Cp Tryz.prog 98 #[.agg #[iv d0,iv d1,iv d2,iv d3,iv d4,iv d5]] [] (tv rv0):=by
  subst erv0;exact text_ct d0 d1 d2 d3 d4 d5 

open Go Go.Proofs
set_option maxRecDepth 10000 in
theorem few9_ct (l m n o p q i:Int) (c:List Int) (e:SV) (j:Int) (d:List Int) (h:SV) :
    Cp Tryz.prog 18 #[.agg #[iv l,iv m,iv n,iv o,iv p,iv q,iv i,e.v,iv j,h.v]] [fs true c e,fs true d h] (bv (decide ((c.length:Int)≤12∧(d.length:Int)≤12))):=by
  refine V.fn mo Tryz.func18 6 1 (by kernel_rfl) fun w H ε k0=>?_;obtain ⟨⟨kl1, -⟩,⟨kl2, -⟩, -⟩:Lq c e.v∧Lq d h.v∧True:=kq k0
  clear k0;refine V.g [.nb 0 0 (fun b=>pp b 0) 42 (fun _=>#[iv l,iv m,iv n,iv o,iv p,iv q,iv i,e.v,iv j,h.v]),.kb false] fun _ _ G1=>?_;intro S s
  refine V.g [.k (pp ((G1 0).b) 6),.ld 0 6 true (fun _=>Dat.cells (DFrac.mk ⟨i,c,e⟩ ⟨j,d,h⟩)),.cp g0 2 7 [(kf false (.f 0) c (fun _=>e)).a,(kf false (.f 1) d (fun _=>h)).a] (fun _ G=>few5_ct i c e j d h (12:Int)),.k (bv (decide ((c.length:Int)≤(12:Int)∧(d.length:Int)≤(12:Int))))] fun _ _ G2=>?_;intro S s
  have e0:(decide ((c.length:Int)≤(12:Int)∧(d.length:Int)≤(12:Int)))=decide ((c.length:Int)≤12∧(d.length:Int)≤12):=by first | rfl | omega | simp_all
  exact V.rt [0] [] [] [] [] [] (bv (decide ((c.length:Int)≤(12:Int)∧(d.length:Int)≤(12:Int)))) (cong1 (fun (x0:Bool)=>(bv x0:Value)) e0)
set_option maxRecDepth 10000 in
theorem same9_ct (c d e h i j y:Int) (r:List Int) (C:SV) (z:Int) (t:List Int) (D:SV) (l m n o p q A:Int) (u:List Int) (E:SV) (B:Int) (x:List Int) (F:SV) :
    Cp Tryz.prog 25 #[.agg #[iv c,iv d,iv e,iv h,iv i,iv j,iv y,C.v,iv z,D.v],.agg #[iv l,iv m,iv n,iv o,iv p,iv q,iv A,E.v,iv B,F.v]] [fs true r C,fs true t D,fs true u E,fs true x F] (bv (decide ((c=l∧d=m∧e=n∧h=o∧i=p∧j=q)∧y=A∧r=u∧z=B∧t=x))):=by
  refine V.fn mo Tryz.func25 17 2 (by kernel_rfl) fun w H ε k0=>?_;obtain ⟨⟨kl1, -⟩,⟨kl2, -⟩,⟨kl3, -⟩,⟨kl4, -⟩, -⟩:Lq r C.v∧Lq t D.v∧Lq u E.v∧Lq x F.v∧True:=kq k0
  clear k0;refine V.g [.nb 0 0 (fun b=>pp b 0) 42 (fun _=>#[iv c,iv d,iv e,iv h,iv i,iv j,iv y,C.v,iv z,D.v]),.nb 1 1 (fun b=>pp b 0) 42 (fun _=>#[iv l,iv m,iv n,iv o,iv p,iv q,iv A,E.v,iv B,F.v]),.kb false] fun _ _ G1=>?_;intro S s
  refine nm ((decide (c=l∧d=m∧e=n∧h=o∧i=p∧j=q)) && (decide (y=A∧r=u∧z=B∧t=x)):Bool) fun p1 hp1=>?_;refine V.g [.k (pp ((G1 0).b) 0),.ld 0 0 true (fun _=>[iv c,iv d,iv e,iv h,iv i,iv j]),.k (pp ((G1 1).b) 0),.ld 1 0 true (fun _=>[iv l,iv m,iv n,iv o,iv p,iv q]),.aeq false 40 #[iv c,iv d,iv e,iv h,iv i,iv j] #[iv l,iv m,iv n,iv o,iv p,iv q] _ fun w=>dim_equal w c d e h i j l m n o p q,.k (bv (decide (c=l∧d=m∧e=n∧h=o∧i=p∧j=q))),.k (pp ((G1 0).b) 6),.ld 0 6 true (fun _=>Dat.cells (DFrac.mk ⟨y,r,C⟩ ⟨z,t,D⟩)),.k (pp ((G1 1).b) 6),.ld 1 6 true (fun _=>Dat.cells (DFrac.mk ⟨A,u,E⟩ ⟨B,x,F⟩)),.cp (gT (b:=decide (c=l∧d=m∧e=n∧h=o∧i=p∧j=q)) iDT) 10 14 [(kf false (.f 0) r (fun _=>C)).a,(kf false (.f 1) t (fun _=>D)).a,(kf false (.f 2) u (fun _=>E)).a,(kf false (.f 3) x (fun _=>F)).a] (fun hg G=>same5_ct y r C z t D A u E B x F),.andn g0 false (decide (c=l∧d=m∧e=n∧h=o∧i=p∧j=q)) (decide (y=A∧r=u∧z=B∧t=x)) p1 hp1,.k (bv p1)] fun _ _ G2=>?_;intro S s
  have e0:p1=decide ((c=l∧d=m∧e=n∧h=o∧i=p∧j=q)∧y=A∧r=u∧z=B∧t=x):=by
    refine Bool.eq_iff_iff.2 (Iff.trans (iN hp1 (iAT iDT iDT)) (Iff.trans ?_ decide_eq_true_iff.symm));exact Iff.rfl
  exact V.rt [0] [] [] [] [] [] (bv p1) (cong1 (fun (x0:Bool)=>(bv x0:Value)) e0)
theorem same9t_ct (a b c d e f g:Int) (i:List Int) (j:SV) (k:Int) (l:List Int) (m:SV) (n o p q r t u:Int) (w:List Int) (x:SV) (y:Int) (z:List Int) (A:SV) (hT:(a=n∧b=o∧c=p∧d=q∧e=r∧f=t)∧g=u∧i=w∧k=y∧l=z) :
    Cp Tryz.prog 25 #[.agg #[iv a,iv b,iv c,iv d,iv e,iv f,iv g,j.v,iv k,m.v],.agg #[iv n,iv o,iv p,iv q,iv r,iv t,iv u,x.v,iv y,A.v]] [fs true i j,fs true l m,fs true w x,fs true z A] (bv (true)):=by
  have h:=same9_ct  a b c d e f g i j k l m n o p q r t u w x y z A ; rw [decide_eq_true hT] at h;exact h
set_option maxRecDepth 10000 in
theorem uright_ct (i j l m n o e:Int) (c:List Int) (p:SV) (h:Int) (d:List Int) (q:SV) (huP:c.length≤17179869184) (huQ:d.length≤17179869184) :
    Cp Tryz.prog 30 #[.agg #[iv i,iv j,iv l,iv m,iv n,iv o,iv e,p.v,iv h,q.v]] [fs true c p,fs true d q] (bv (decide (Un.UR [i,j,l,m,n,o] e c h d))):=by
  refine V.fn mo Tryz.func30 17 1 (by kernel_rfl) fun w H ε k0=>?_;obtain ⟨⟨kl1, -⟩,⟨kl2, -⟩, -⟩:Lq c p.v∧Lq d q.v∧True:=kq k0
  clear k0;refine V.g [.nb 0 0 (fun b=>pp b 0) 42 (fun _=>#[iv i,iv j,iv l,iv m,iv n,iv o,iv e,p.v,iv h,q.v]),.kb false] fun _ _ G1=>?_;intro S s
  refine nm ((decide (Dm.Rt [i,j,l,m,n,o])) && (decide (Fr.FrB e c h d)):Bool) fun p1 hp1=>?_;refine nm (if Fr.FrB e c h d then e else 0:Int) fun n1 hn1=>?_;refine V.g [.k (pp ((G1 0).b) 0),.ld 0 0 true (fun _=>[iv i,iv j,iv l,iv m,iv n,iv o]),.cp g0 2 63 [] (fun _ G=>dright_ct i j l m n o),.k (bv (decide (Dm.Rt [i,j,l,m,n,o]))),.k (pp ((G1 0).b) 6),.ld 0 6 true (fun _=>Dat.cells (DFrac.mk ⟨e,c,p⟩ ⟨h,d,q⟩)),.cp (gT (b:=decide (Dm.Rt [i,j,l,m,n,o])) iDT) 6 36 [(kf false (.f 0) c (fun _=>p)).a,(kf false (.f 1) d (fun _=>q)).a] (fun hg G=>right_ct e c p h d q (by omega) (by omega)),.andn g0 false (decide (Dm.Rt [i,j,l,m,n,o])) (decide (Fr.FrB e c h d)) p1 hp1,.k (bv p1),.k (pp ((G1 0).b) 6),.ld 0 6 true (fun _=>Dat.cells (DFrac.mk ⟨e,c,p⟩ ⟨h,d,q⟩)),.cp (gT (b:=p1) (iN hp1 (iAT iDT iDT))) 11 72 [(kf false (.f 0) c (fun _=>p)).a,(kf false (.f 1) d (fun _=>q)).a] (fun hg G=>fsign_ctv e c p h d q (by omega) (by omega) n1 hn1),.k (bv (decide (0 < n1))),.and g0 false p1 (decide (0 < n1)),.k (bv (p1 && (decide (0 < n1))))] fun _ _ G2=>?_;intro S s
  have e0:(p1 && (decide (0 < n1)))=decide (Un.UR [i,j,l,m,n,o] e c h d):=by
    rw [hn1];refine Bool.eq_iff_iff.2 (Iff.trans (iAT (iN hp1 (iAT iDT iDT)) iDT) (Iff.trans ?_ decide_eq_true_iff.symm));exact Un.ur_is
  exact V.rt [0] [] [] [] [] [] (bv (p1 && (decide (0 < n1)))) (cong1 (fun (x0:Bool)=>(bv x0:Value)) e0)
set_option maxRecDepth 10000 in
theorem umul_ct (c d e i j l y:Int) (u:List Int) (E:SV) (C:Int) (x:List Int) (F:SV) (m n o p q t B:Int) (z:List Int) (I:SV) (D:Int) (A:List Int) (J:SV) (haP:u.length≤17179869184) (haQ:x.length≤17179869184) (hbP:z.length≤17179869184) (hbQ:A.length≤17179869184) :
    Ct Tryz.prog 21 #[.agg #[iv c,iv d,iv e,iv i,iv j,iv l,iv y,E.v,iv C,F.v],.agg #[iv m,iv n,iv o,iv p,iv q,iv t,iv B,I.v,iv D,J.v]] [fs true u E,fs true x F,fs true z I,fs true A J] [] (fun g=>.tuple #[.agg #[iv (Dm.opV (Un.UR [c,d,e,i,j,l] y u C x∧Un.UR [m,n,o,p,q,t] B z D A) [c+m,d+n,e+o,i+p,j+q,l+t] 0),iv (Dm.opV (Un.UR [c,d,e,i,j,l] y u C x∧Un.UR [m,n,o,p,q,t] B z D A) [c+m,d+n,e+o,i+p,j+q,l+t] 1),iv (Dm.opV (Un.UR [c,d,e,i,j,l] y u C x∧Un.UR [m,n,o,p,q,t] B z D A) [c+m,d+n,e+o,i+p,j+q,l+t] 2),iv (Dm.opV (Un.UR [c,d,e,i,j,l] y u C x∧Un.UR [m,n,o,p,q,t] B z D A) [c+m,d+n,e+o,i+p,j+q,l+t] 3),iv (Dm.opV (Un.UR [c,d,e,i,j,l] y u C x∧Un.UR [m,n,o,p,q,t] B z D A) [c+m,d+n,e+o,i+p,j+q,l+t] 4),iv (Dm.opV (Un.UR [c,d,e,i,j,l] y u C x∧Un.UR [m,n,o,p,q,t] B z D A) [c+m,d+n,e+o,i+p,j+q,l+t] 5),iv (Fr.rS ((Un.UR [c,d,e,i,j,l] y u C x∧Un.UR [m,n,o,p,q,t] B z D A)∧Dm.Rt [c+m,d+n,e+o,i+p,j+q,l+t]) ((Fr.fq y u x) * (Fr.fq B z A))),((g.ss 0)).v,iv (Fr.rT ((Un.UR [c,d,e,i,j,l] y u C x∧Un.UR [m,n,o,p,q,t] B z D A)∧Dm.Rt [c+m,d+n,e+o,i+p,j+q,l+t])),((g.ss 1)).v],iv (Dm.opE (Un.UR [c,d,e,i,j,l] y u C x∧Un.UR [m,n,o,p,q,t] B z D A) [c+m,d+n,e+o,i+p,j+q,l+t])]) (fun g=>[fs true (Fr.rD ((Un.UR [c,d,e,i,j,l] y u C x∧Un.UR [m,n,o,p,q,t] B z D A)∧Dm.Rt [c+m,d+n,e+o,i+p,j+q,l+t]) ((Fr.fq y u x) * (Fr.fq B z A))) (g.ss 0),fs true (Fr.rE ((Un.UR [c,d,e,i,j,l] y u C x∧Un.UR [m,n,o,p,q,t] B z D A)∧Dm.Rt [c+m,d+n,e+o,i+p,j+q,l+t]) ((Fr.fq y u x) * (Fr.fq B z A))) (g.ss 1)]) (fun g=>[]) (fun g=>[]):=by
  refine V.fn mo Tryz.func21 42 5 (by kernel_rfl) fun w H ε k0=>?_;obtain ⟨⟨kl1, -⟩,⟨kl2, -⟩,⟨kl3, -⟩,⟨kl4, -⟩, -⟩:Lq u E.v∧Lq x F.v∧Lq z I.v∧Lq A J.v∧True:=kq k0
  clear k0;refine V.g [.nb 0 0 (fun b=>pp b 0) 42 (fun _=>#[iv c,iv d,iv e,iv i,iv j,iv l,iv y,E.v,iv C,F.v]),.nb 1 1 (fun b=>pp b 0) 42 (fun _=>#[iv m,iv n,iv o,iv p,iv q,iv t,iv B,I.v,iv D,J.v]),.nb 2 2 (fun b=>pp b 0) 42 (fun _=>#[iv 0,iv 0,iv 0,iv 0,iv 0,iv 0,iv 0,.slice none 0 0,iv 0,.slice none 0 0]),.k (iv 0)] fun _ _ G1=>?_;intro S s
  refine nm ((!(decide (Un.UR [c,d,e,i,j,l] y u C x))) || (!(decide (Un.UR [m,n,o,p,q,t] B z D A))):Bool) fun p1 hp1=>?_;refine V.g [.ld 0 0 true (fun _=>[iv c,iv d,iv e,iv i,iv j,iv l,iv y,E.v,iv C,F.v]),.cp g0 1 30 [(kf false (.f 0) u (fun _=>E)).a,(kf false (.f 1) x (fun _=>F)).a] (fun _ G=>uright_ct c d e i j l y u E C x F (by omega) (by omega)),.k (bv (!(decide (Un.UR [c,d,e,i,j,l] y u C x)))),.k (bv (!(decide (Un.UR [c,d,e,i,j,l] y u C x)))),.ld 1 0 true (fun _=>[iv m,iv n,iv o,iv p,iv q,iv t,iv B,I.v,iv D,J.v]),.cp (gF (b:=!(decide (Un.UR [c,d,e,i,j,l] y u C x))) (iNF iDT)) 5 30 [(kf false (.f 2) z (fun _=>I)).a,(kf false (.f 3) A (fun _=>J)).a] (fun hg G=>uright_ct m n o p q t B z I D A J (by omega) (by omega)),.k (bv (!(decide (Un.UR [m,n,o,p,q,t] B z D A)))),.orn g0 false (!(decide (Un.UR [c,d,e,i,j,l] y u C x))) (!(decide (Un.UR [m,n,o,p,q,t] B z D A))) p1 hp1] fun _ _ G2=>?_;intro S s
  refine V.cn (b:=p1) (iN hp1 (iOT (iNT iDF) (iNT iDF))) (iN hp1 (iOF (iNF iDT) (iNF iDT))) (fun q1=>?_) (fun q2=>?_)
  · have hN:¬ (Un.UR [c,d,e,i,j,l] y u C x∧Un.UR [m,n,o,p,q,t] B z D A):=by rintro ⟨h1,h2⟩;rcases q1 with h | h;exact h h1;exact h h2
    refine V.g [.k (.agg #[iv 0,iv 0,iv 0,iv 0,iv 0,iv 0,iv 0,.slice none 0 0,iv 0,.slice none 0 0]),.st 2 (fun _=>.blk ((G1 2).b) #[iv 0,iv 0,iv 0,iv 0,iv 0,iv 0,iv 0,.slice none 0 0,iv 0,.slice none 0 0] 42),.k (iv 1)] fun _ _ G3=>?_;intro S s
    refine V.nilF (α:=Int) ?_;refine V.nilF (α:=Int) ?_;have e7:([]:List Int)=Fr.rD ((Un.UR [c,d,e,i,j,l] y u C x∧Un.UR [m,n,o,p,q,t] B z D A)∧Dm.Rt [c+m,d+n,e+o,i+p,j+q,l+t]) ((Fr.fq y u x) * (Fr.fq B z A)):=(Fr.Fz.no (fun h=>hN h.1) ((Fr.fq y u x) * (Fr.fq B z A))).2.1;rw [←e7];have e9:([]:List Int)=Fr.rE ((Un.UR [c,d,e,i,j,l] y u C x∧Un.UR [m,n,o,p,q,t] B z D A)∧Dm.Rt [c+m,d+n,e+o,i+p,j+q,l+t]) ((Fr.fq y u x) * (Fr.fq B z A)):=(Fr.Fz.no (fun h=>hN h.1) ((Fr.fq y u x) * (Fr.fq B z A))).2.2.2;rw [←e9];have e0:(0:Int)=Dm.opV (Un.UR [c,d,e,i,j,l] y u C x∧Un.UR [m,n,o,p,q,t] B z D A) [c+m,d+n,e+o,i+p,j+q,l+t] 0:=(Dm.opV_n hN _ 0).symm;have e1:(0:Int)=Dm.opV (Un.UR [c,d,e,i,j,l] y u C x∧Un.UR [m,n,o,p,q,t] B z D A) [c+m,d+n,e+o,i+p,j+q,l+t] 1:=(Dm.opV_n hN _ 1).symm;have e2:(0:Int)=Dm.opV (Un.UR [c,d,e,i,j,l] y u C x∧Un.UR [m,n,o,p,q,t] B z D A) [c+m,d+n,e+o,i+p,j+q,l+t] 2:=(Dm.opV_n hN _ 2).symm;have e3:(0:Int)=Dm.opV (Un.UR [c,d,e,i,j,l] y u C x∧Un.UR [m,n,o,p,q,t] B z D A) [c+m,d+n,e+o,i+p,j+q,l+t] 3:=(Dm.opV_n hN _ 3).symm;have e4:(0:Int)=Dm.opV (Un.UR [c,d,e,i,j,l] y u C x∧Un.UR [m,n,o,p,q,t] B z D A) [c+m,d+n,e+o,i+p,j+q,l+t] 4:=(Dm.opV_n hN _ 4).symm;have e5:(0:Int)=Dm.opV (Un.UR [c,d,e,i,j,l] y u C x∧Un.UR [m,n,o,p,q,t] B z D A) [c+m,d+n,e+o,i+p,j+q,l+t] 5:=(Dm.opV_n hN _ 5).symm;have e6:(0:Int)=Fr.rS ((Un.UR [c,d,e,i,j,l] y u C x∧Un.UR [m,n,o,p,q,t] B z D A)∧Dm.Rt [c+m,d+n,e+o,i+p,j+q,l+t]) ((Fr.fq y u x) * (Fr.fq B z A)):=(Fr.Fz.no (fun h=>hN h.1) ((Fr.fq y u x) * (Fr.fq B z A))).1;have e8:(0:Int)=Fr.rT ((Un.UR [c,d,e,i,j,l] y u C x∧Un.UR [m,n,o,p,q,t] B z D A)∧Dm.Rt [c+m,d+n,e+o,i+p,j+q,l+t]):=(Fr.Fz.no (fun h=>hN h.1) ((Fr.fq y u x) * (Fr.fq B z A))).2.2.1;have e10:(1:Int)=Dm.opE (Un.UR [c,d,e,i,j,l] y u C x∧Un.UR [m,n,o,p,q,t] B z D A) [c+m,d+n,e+o,i+p,j+q,l+t]:=(Dm.opE_n hN _).symm;exact V.rt [2,0] [{},{}] [fun _=>{},fun _=>{}] [] [4,5] [] (.tuple #[.agg #[iv 0,iv 0,iv 0,iv 0,iv 0,iv 0,iv 0,SV.v ({}),iv 0,SV.v ({})],iv 1]) (cong9 (fun (x0 x1 x2 x3 x4 x5 x6 x8 x10:Int)=>(.tuple #[.agg #[iv x0,iv x1,iv x2,iv x3,iv x4,iv x5,iv x6,SV.v ({}),iv x8,SV.v ({})],iv x10]:Value)) e0 e1 e2 e3 e4 e5 e6 e8 e10)
  have hP:(Un.UR [c,d,e,i,j,l] y u C x∧Un.UR [m,n,o,p,q,t] B z D A):=by first | exact q2 | exact ⟨Decidable.not_not.1 (q2).1,Decidable.not_not.1 (q2).2⟩
  have hP2:Dm.Rt [c,d,e,i,j,l]∧Dm.Rt [m,n,o,p,q,t]:=⟨hP.1.1,hP.2.1⟩;refine nm (Dm.opV (Dm.Rt [c,d,e,i,j,l]∧Dm.Rt [m,n,o,p,q,t]) [c+m,d+n,e+o,i+p,j+q,l+t] 0:Int) fun n1 hn1=>?_;refine nm (Dm.opV (Dm.Rt [c,d,e,i,j,l]∧Dm.Rt [m,n,o,p,q,t]) [c+m,d+n,e+o,i+p,j+q,l+t] 1:Int) fun n2 hn2=>?_;refine nm (Dm.opV (Dm.Rt [c,d,e,i,j,l]∧Dm.Rt [m,n,o,p,q,t]) [c+m,d+n,e+o,i+p,j+q,l+t] 2:Int) fun n3 hn3=>?_;refine nm (Dm.opV (Dm.Rt [c,d,e,i,j,l]∧Dm.Rt [m,n,o,p,q,t]) [c+m,d+n,e+o,i+p,j+q,l+t] 3:Int) fun n4 hn4=>?_;refine nm (Dm.opV (Dm.Rt [c,d,e,i,j,l]∧Dm.Rt [m,n,o,p,q,t]) [c+m,d+n,e+o,i+p,j+q,l+t] 4:Int) fun n5 hn5=>?_;refine nm (Dm.opV (Dm.Rt [c,d,e,i,j,l]∧Dm.Rt [m,n,o,p,q,t]) [c+m,d+n,e+o,i+p,j+q,l+t] 5:Int) fun n6 hn6=>?_;refine nm (Dm.opE (Dm.Rt [c,d,e,i,j,l]∧Dm.Rt [m,n,o,p,q,t]) [c+m,d+n,e+o,i+p,j+q,l+t]:Int) fun n7 hn7=>?_;refine V.g [.k (pp ((G1 0).b) 0),.ld 0 0 true (fun _=>[iv c,iv d,iv e,iv i,iv j,iv l]),.k (pp ((G1 1).b) 0),.ld 1 0 true (fun _=>[iv m,iv n,iv o,iv p,iv q,iv t]),.cp g0 4 68 [] (fun _ G=>dmul_ctv c d e i j l m n o p q t n1 hn1 n2 hn2 n3 hn3 n4 hn4 n5 hn5 n6 hn6 n7 hn7),.k (.tuple #[.agg #[iv n1,iv n2,iv n3,iv n4,iv n5,iv n6],iv n7]),.k (.agg #[iv n1,iv n2,iv n3,iv n4,iv n5,iv n6]),.k (iv n7),.nb 8 3 (fun b=>pp b 0) 40 (fun _=>#[iv 0,iv 0,iv 0,iv 0,iv 0,iv 0]),.st 3 (fun G=>.blk ((G 8).b) #[iv n1,iv n2,iv n3,iv n4,iv n5,iv n6] 40),.k (iv n7)] fun _ _ G4=>?_;intro S s
  refine V.g [.k (iv n7),.k (bv (!(decide (n7=0))))] fun _ _ G5=>?_;intro S s
  refine V.cn (b:=!(decide (n7=0))) (iNT iDF) (iNF iDT) (fun q3=>?_) (fun q4=>?_)
  · have hR:¬ Dm.Rt [c+m,d+n,e+o,i+p,j+q,l+t]:=Un.opE_ne hP2 (by rw [←hn7];exact q3);refine V.g [.k (.agg #[iv 0,iv 0,iv 0,iv 0,iv 0,iv 0,iv 0,.slice none 0 0,iv 0,.slice none 0 0]),.k (iv n7),.st 2 (fun _=>.blk ((G1 2).b) #[iv 0,iv 0,iv 0,iv 0,iv 0,iv 0,iv 0,.slice none 0 0,iv 0,.slice none 0 0] 42),.k (iv n7)] fun _ _ G6=>?_;intro S s
    refine V.nilF (α:=Int) ?_;refine V.nilF (α:=Int) ?_;have e7:([]:List Int)=Fr.rD ((Un.UR [c,d,e,i,j,l] y u C x∧Un.UR [m,n,o,p,q,t] B z D A)∧Dm.Rt [c+m,d+n,e+o,i+p,j+q,l+t]) ((Fr.fq y u x) * (Fr.fq B z A)):=(Fr.Fz.no (fun h=>hR h.2) ((Fr.fq y u x) * (Fr.fq B z A))).2.1;rw [←e7];have e9:([]:List Int)=Fr.rE ((Un.UR [c,d,e,i,j,l] y u C x∧Un.UR [m,n,o,p,q,t] B z D A)∧Dm.Rt [c+m,d+n,e+o,i+p,j+q,l+t]) ((Fr.fq y u x) * (Fr.fq B z A)):=(Fr.Fz.no (fun h=>hR h.2) ((Fr.fq y u x) * (Fr.fq B z A))).2.2.2;rw [←e9];have e0:(0:Int)=Dm.opV (Un.UR [c,d,e,i,j,l] y u C x∧Un.UR [m,n,o,p,q,t] B z D A) [c+m,d+n,e+o,i+p,j+q,l+t] 0:=(Un.opV_no hP hR 0).symm;have e1:(0:Int)=Dm.opV (Un.UR [c,d,e,i,j,l] y u C x∧Un.UR [m,n,o,p,q,t] B z D A) [c+m,d+n,e+o,i+p,j+q,l+t] 1:=(Un.opV_no hP hR 1).symm;have e2:(0:Int)=Dm.opV (Un.UR [c,d,e,i,j,l] y u C x∧Un.UR [m,n,o,p,q,t] B z D A) [c+m,d+n,e+o,i+p,j+q,l+t] 2:=(Un.opV_no hP hR 2).symm;have e3:(0:Int)=Dm.opV (Un.UR [c,d,e,i,j,l] y u C x∧Un.UR [m,n,o,p,q,t] B z D A) [c+m,d+n,e+o,i+p,j+q,l+t] 3:=(Un.opV_no hP hR 3).symm;have e4:(0:Int)=Dm.opV (Un.UR [c,d,e,i,j,l] y u C x∧Un.UR [m,n,o,p,q,t] B z D A) [c+m,d+n,e+o,i+p,j+q,l+t] 4:=(Un.opV_no hP hR 4).symm;have e5:(0:Int)=Dm.opV (Un.UR [c,d,e,i,j,l] y u C x∧Un.UR [m,n,o,p,q,t] B z D A) [c+m,d+n,e+o,i+p,j+q,l+t] 5:=(Un.opV_no hP hR 5).symm;have e6:(0:Int)=Fr.rS ((Un.UR [c,d,e,i,j,l] y u C x∧Un.UR [m,n,o,p,q,t] B z D A)∧Dm.Rt [c+m,d+n,e+o,i+p,j+q,l+t]) ((Fr.fq y u x) * (Fr.fq B z A)):=(Fr.Fz.no (fun h=>hR h.2) ((Fr.fq y u x) * (Fr.fq B z A))).1;have e8:(0:Int)=Fr.rT ((Un.UR [c,d,e,i,j,l] y u C x∧Un.UR [m,n,o,p,q,t] B z D A)∧Dm.Rt [c+m,d+n,e+o,i+p,j+q,l+t]):=(Fr.Fz.no (fun h=>hR h.2) ((Fr.fq y u x) * (Fr.fq B z A))).2.2.1;have e10:n7=Dm.opE (Un.UR [c,d,e,i,j,l] y u C x∧Un.UR [m,n,o,p,q,t] B z D A) [c+m,d+n,e+o,i+p,j+q,l+t]:=by rw [hn7];exact Un.opE_pq hP2 hP _
    exact V.rt [2,0] [{},{}] [fun _=>{},fun _=>{}] [] [4,5] [] (.tuple #[.agg #[iv 0,iv 0,iv 0,iv 0,iv 0,iv 0,iv 0,SV.v ({}),iv 0,SV.v ({})],iv n7]) (cong9 (fun (x0 x1 x2 x3 x4 x5 x6 x8 x10:Int)=>(.tuple #[.agg #[iv x0,iv x1,iv x2,iv x3,iv x4,iv x5,iv x6,SV.v ({}),iv x8,SV.v ({})],iv x10]:Value)) e0 e1 e2 e3 e4 e5 e6 e8 e10)
  have hR:Dm.Rt [c+m,d+n,e+o,i+p,j+q,l+t]:=Un.opE_eq hP2 (by rw [←hn7];first | exact q4 | exact Decidable.not_not.1 q4);refine nm (Fr.rS (Fr.FrB y u C x∧Fr.FrB B z D A) ((Fr.fq y u x) * (Fr.fq B z A)):Int) fun n8 hn8=>?_;refine nl (Fr.rD (Fr.FrB y u C x∧Fr.FrB B z D A) ((Fr.fq y u x) * (Fr.fq B z A))) fun l1 hl1 hl1n=>?_;refine nm (Fr.rT (Fr.FrB y u C x∧Fr.FrB B z D A):Int) fun n9 hn9=>?_;refine nl (Fr.rE (Fr.FrB y u C x∧Fr.FrB B z D A) ((Fr.fq y u x) * (Fr.fq B z A))) fun l2 hl2 hl2n=>?_;refine nm (if ¬ (Fr.FrB y u C x∧Fr.FrB B z D A) then (1:Int) else 0:Int) fun n10 hn10=>?_;have zf:=Fr.Fz.of ⟨hP.1.2.1,hP.2.2.1⟩ hn8 hl1 hn9 hl2
  refine V.r [.k (pp ((G1 0).b) 6),.ld 0 6 true (fun _=>Dat.cells (DFrac.mk ⟨y,u,E⟩ ⟨C,x,F⟩)),.k (pp ((G1 1).b) 6),.ld 1 6 true (fun _=>Dat.cells (DFrac.mk ⟨B,z,I⟩ ⟨D,A,J⟩)),.ct g0 4 45 false [] [] [(kf false (.f 0) u (fun _=>E)).a,(kf false (.f 1) x (fun _=>F)).a,(kf false (.f 2) z (fun _=>I)).a,(kf false (.f 3) A (fun _=>J)).a] (fun _ G=>fmul_ctv y u E C x F B z I D A J (by omega) (by omega) (by omega) (by omega) n8 hn8 l1 hl1 n9 hn9 l2 hl2 n10 hn10),.v fun G=>.tuple #[ag (DFrac.mk ⟨n8,l1,(G 4).ss 0⟩ ⟨n9,l2,(G 4).ss 1⟩),iv n10],.v fun G=>ag (DFrac.mk ⟨n8,l1,(G 4).ss 0⟩ ⟨n9,l2,(G 4).ss 1⟩),.k (iv n10),.nb 8 4 (fun b=>pp b 0) 29 (fun _=>ca (DFrac.mk ⟨0,[],{}⟩ ⟨0,[],{}⟩)),.st 4 (fun G=>.blk ((G 8).b) (ca (DFrac.mk ⟨n8,l1,(G 4).ss 0⟩ ⟨n9,l2,(G 4).ss 1⟩)) 29),.k (iv n10)] fun _ _ G7 kw7=>?_;intro S s
  obtain ⟨⟨kl5, -⟩,⟨kl6, -⟩, -⟩:Lq l1 (((G7 4).ss 0).v)∧Lq l2 (((G7 4).ss 1).v)∧True:=kq kw7;clear kw7;refine V.g [.ld 3 0 true (fun _=>[iv n1,iv n2,iv n3,iv n4,iv n5,iv n6]),.ld 4 0 true (fun _=>Dat.cells (DFrac.mk ⟨n8,l1,(G7 4).ss 0⟩ ⟨n9,l2,(G7 4).ss 1⟩)),.k (.agg #[iv n1,iv n2,iv n3,iv n4,iv n5,iv n6,iv n8,((G7 4).ss 0).v,iv n9,((G7 4).ss 1).v]),.st 2 (fun _=>.blk ((G1 2).b) #[iv n1,iv n2,iv n3,iv n4,iv n5,iv n6,iv n8,((G7 4).ss 0).v,iv n9,((G7 4).ss 1).v] 42),.k (iv 0)] fun _ _ G8=>?_;intro S s;have e7:l1=Fr.rD ((Un.UR [c,d,e,i,j,l] y u C x∧Un.UR [m,n,o,p,q,t] B z D A)∧Dm.Rt [c+m,d+n,e+o,i+p,j+q,l+t]) ((Fr.fq y u x) * (Fr.fq B z A)):=(Fr.Fz.ret zf ⟨hP,hR⟩ (rfl)).2.1;subst e7;have e9:l2=Fr.rE ((Un.UR [c,d,e,i,j,l] y u C x∧Un.UR [m,n,o,p,q,t] B z D A)∧Dm.Rt [c+m,d+n,e+o,i+p,j+q,l+t]) ((Fr.fq y u x) * (Fr.fq B z A)):=(Fr.Fz.ret zf ⟨hP,hR⟩ (rfl)).2.2.2;subst e9;have e0:n1=Dm.opV (Un.UR [c,d,e,i,j,l] y u C x∧Un.UR [m,n,o,p,q,t] B z D A) [c+m,d+n,e+o,i+p,j+q,l+t] 0:=by
    rw [hn1];exact Un.opV_pq hP2 hP _ 0
  have e1:n2=Dm.opV (Un.UR [c,d,e,i,j,l] y u C x∧Un.UR [m,n,o,p,q,t] B z D A) [c+m,d+n,e+o,i+p,j+q,l+t] 1:=by
    rw [hn2];exact Un.opV_pq hP2 hP _ 1
  have e2:n3=Dm.opV (Un.UR [c,d,e,i,j,l] y u C x∧Un.UR [m,n,o,p,q,t] B z D A) [c+m,d+n,e+o,i+p,j+q,l+t] 2:=by
    rw [hn3];exact Un.opV_pq hP2 hP _ 2
  have e3:n4=Dm.opV (Un.UR [c,d,e,i,j,l] y u C x∧Un.UR [m,n,o,p,q,t] B z D A) [c+m,d+n,e+o,i+p,j+q,l+t] 3:=by
    rw [hn4];exact Un.opV_pq hP2 hP _ 3
  have e4:n5=Dm.opV (Un.UR [c,d,e,i,j,l] y u C x∧Un.UR [m,n,o,p,q,t] B z D A) [c+m,d+n,e+o,i+p,j+q,l+t] 4:=by
    rw [hn5];exact Un.opV_pq hP2 hP _ 4
  have e5:n6=Dm.opV (Un.UR [c,d,e,i,j,l] y u C x∧Un.UR [m,n,o,p,q,t] B z D A) [c+m,d+n,e+o,i+p,j+q,l+t] 5:=by
    rw [hn6];exact Un.opV_pq hP2 hP _ 5
  have e6:n8=Fr.rS ((Un.UR [c,d,e,i,j,l] y u C x∧Un.UR [m,n,o,p,q,t] B z D A)∧Dm.Rt [c+m,d+n,e+o,i+p,j+q,l+t]) ((Fr.fq y u x) * (Fr.fq B z A)):=(Fr.Fz.ret zf ⟨hP,hR⟩ (rfl)).1;have e8:n9=Fr.rT ((Un.UR [c,d,e,i,j,l] y u C x∧Un.UR [m,n,o,p,q,t] B z D A)∧Dm.Rt [c+m,d+n,e+o,i+p,j+q,l+t]):=(Fr.Fz.ret zf ⟨hP,hR⟩ (rfl)).2.2.1;have e10:(0:Int)=Dm.opE (Un.UR [c,d,e,i,j,l] y u C x∧Un.UR [m,n,o,p,q,t] B z D A) [c+m,d+n,e+o,i+p,j+q,l+t]:=by rw [Dm.opE_y hP,Dm.mkE_y hR]
  exact V.rt [2,0] [(G7 4).ss 0,(G7 4).ss 1] [fun _=>{},fun _=>{}] [] [4,5] [] (.tuple #[.agg #[iv n1,iv n2,iv n3,iv n4,iv n5,iv n6,iv n8,((G7 4).ss 0).v,iv n9,((G7 4).ss 1).v],iv 0]) (cong9 (fun (x0 x1 x2 x3 x4 x5 x6 x8 x10:Int)=>(.tuple #[.agg #[iv x0,iv x1,iv x2,iv x3,iv x4,iv x5,iv x6,((G7 4).ss 0).v,iv x8,((G7 4).ss 1).v],iv x10]:Value)) e0 e1 e2 e3 e4 e5 e6 e8 e10)
theorem umul_ctv (a b c d e f r:Int) (n:List Int) (x:SV) (u:Int) (o:List Int) (y:SV) (h i j k l m t:Int) (p:List Int) (z:SV) (w:Int) (q:List Int) (A:SV) (haP:n.length≤17179869184) (haQ:o.length≤17179869184) (hbP:p.length≤17179869184) (hbQ:q.length≤17179869184) (rv0:Int) (erv0:rv0=Dm.opV (Un.UR [a,b,c,d,e,f] r n u o∧Un.UR [h,i,j,k,l,m] t p w q) [a+h,b+i,c+j,d+k,e+l,f+m] 0) (rv1:Int) (erv1:rv1=Dm.opV (Un.UR [a,b,c,d,e,f] r n u o∧Un.UR [h,i,j,k,l,m] t p w q) [a+h,b+i,c+j,d+k,e+l,f+m] 1) (rv2:Int) (erv2:rv2=Dm.opV (Un.UR [a,b,c,d,e,f] r n u o∧Un.UR [h,i,j,k,l,m] t p w q) [a+h,b+i,c+j,d+k,e+l,f+m] 2) (rv3:Int) (erv3:rv3=Dm.opV (Un.UR [a,b,c,d,e,f] r n u o∧Un.UR [h,i,j,k,l,m] t p w q) [a+h,b+i,c+j,d+k,e+l,f+m] 3) (rv4:Int) (erv4:rv4=Dm.opV (Un.UR [a,b,c,d,e,f] r n u o∧Un.UR [h,i,j,k,l,m] t p w q) [a+h,b+i,c+j,d+k,e+l,f+m] 4) (rv5:Int) (erv5:rv5=Dm.opV (Un.UR [a,b,c,d,e,f] r n u o∧Un.UR [h,i,j,k,l,m] t p w q) [a+h,b+i,c+j,d+k,e+l,f+m] 5) (rv6:Int) (erv6:rv6=Fr.rS ((Un.UR [a,b,c,d,e,f] r n u o∧Un.UR [h,i,j,k,l,m] t p w q)∧Dm.Rt [a+h,b+i,c+j,d+k,e+l,f+m]) ((Fr.fq r n o) * (Fr.fq t p q))) (rv7:List Int) (erv7:rv7=Fr.rD ((Un.UR [a,b,c,d,e,f] r n u o∧Un.UR [h,i,j,k,l,m] t p w q)∧Dm.Rt [a+h,b+i,c+j,d+k,e+l,f+m]) ((Fr.fq r n o) * (Fr.fq t p q))) (rv8:Int) (erv8:rv8=Fr.rT ((Un.UR [a,b,c,d,e,f] r n u o∧Un.UR [h,i,j,k,l,m] t p w q)∧Dm.Rt [a+h,b+i,c+j,d+k,e+l,f+m])) (rv9:List Int) (erv9:rv9=Fr.rE ((Un.UR [a,b,c,d,e,f] r n u o∧Un.UR [h,i,j,k,l,m] t p w q)∧Dm.Rt [a+h,b+i,c+j,d+k,e+l,f+m]) ((Fr.fq r n o) * (Fr.fq t p q))) (rv10:Int) (erv10:rv10=Dm.opE (Un.UR [a,b,c,d,e,f] r n u o∧Un.UR [h,i,j,k,l,m] t p w q) [a+h,b+i,c+j,d+k,e+l,f+m]) :
    Ct Tryz.prog 21 #[.agg #[iv a,iv b,iv c,iv d,iv e,iv f,iv r,x.v,iv u,y.v],.agg #[iv h,iv i,iv j,iv k,iv l,iv m,iv t,z.v,iv w,A.v]] [fs true n x,fs true o y,fs true p z,fs true q A] [] (fun g=>.tuple #[.agg #[iv rv0,iv rv1,iv rv2,iv rv3,iv rv4,iv rv5,iv rv6,((g.ss 0)).v,iv rv8,((g.ss 1)).v],iv rv10]) (fun g=>[fs true rv7 (g.ss 0),fs true rv9 (g.ss 1)]) (fun g=>[]) (fun g=>[]):=by
  subst erv0 erv1 erv2 erv3 erv4 erv5 erv6 erv7 erv8 erv9 erv10;exact umul_ct a b c d e f r n x u o y h i j k l m t p z w q A haP haQ hbP hbQ
set_option maxRecDepth 10000 in
theorem udiv_ct (c d e i j l z:Int) (x:List Int) (E:SV) (C:Int) (y:List Int) (F:SV) (m n o p q t u:Int) (A:List Int) (I:SV) (D:Int) (B:List Int) (J:SV) (haP:x.length≤17179869184) (haQ:y.length≤17179869184) (hbP:A.length≤17179869184) (hbQ:B.length≤17179869184) :
    Ct Tryz.prog 23 #[.agg #[iv c,iv d,iv e,iv i,iv j,iv l,iv z,E.v,iv C,F.v],.agg #[iv m,iv n,iv o,iv p,iv q,iv t,iv u,I.v,iv D,J.v]] [fs true x E,fs true y F,fs true A I,fs true B J] [] (fun g=>.tuple #[.agg #[iv (Dm.opV (Un.UR [c,d,e,i,j,l] z x C y∧Un.UR [m,n,o,p,q,t] u A D B) [c-m,d-n,e-o,i-p,j-q,l-t] 0),iv (Dm.opV (Un.UR [c,d,e,i,j,l] z x C y∧Un.UR [m,n,o,p,q,t] u A D B) [c-m,d-n,e-o,i-p,j-q,l-t] 1),iv (Dm.opV (Un.UR [c,d,e,i,j,l] z x C y∧Un.UR [m,n,o,p,q,t] u A D B) [c-m,d-n,e-o,i-p,j-q,l-t] 2),iv (Dm.opV (Un.UR [c,d,e,i,j,l] z x C y∧Un.UR [m,n,o,p,q,t] u A D B) [c-m,d-n,e-o,i-p,j-q,l-t] 3),iv (Dm.opV (Un.UR [c,d,e,i,j,l] z x C y∧Un.UR [m,n,o,p,q,t] u A D B) [c-m,d-n,e-o,i-p,j-q,l-t] 4),iv (Dm.opV (Un.UR [c,d,e,i,j,l] z x C y∧Un.UR [m,n,o,p,q,t] u A D B) [c-m,d-n,e-o,i-p,j-q,l-t] 5),iv (Fr.rS ((Un.UR [c,d,e,i,j,l] z x C y∧Un.UR [m,n,o,p,q,t] u A D B)∧Dm.Rt [c-m,d-n,e-o,i-p,j-q,l-t]) ((Fr.fq z x y) / (Fr.fq u A B))),((g.ss 0)).v,iv (Fr.rT ((Un.UR [c,d,e,i,j,l] z x C y∧Un.UR [m,n,o,p,q,t] u A D B)∧Dm.Rt [c-m,d-n,e-o,i-p,j-q,l-t])),((g.ss 1)).v],iv (Dm.opE (Un.UR [c,d,e,i,j,l] z x C y∧Un.UR [m,n,o,p,q,t] u A D B) [c-m,d-n,e-o,i-p,j-q,l-t])]) (fun g=>[fs true (Fr.rD ((Un.UR [c,d,e,i,j,l] z x C y∧Un.UR [m,n,o,p,q,t] u A D B)∧Dm.Rt [c-m,d-n,e-o,i-p,j-q,l-t]) ((Fr.fq z x y) / (Fr.fq u A B))) (g.ss 0),fs true (Fr.rE ((Un.UR [c,d,e,i,j,l] z x C y∧Un.UR [m,n,o,p,q,t] u A D B)∧Dm.Rt [c-m,d-n,e-o,i-p,j-q,l-t]) ((Fr.fq z x y) / (Fr.fq u A B))) (g.ss 1)]) (fun g=>[]) (fun g=>[]):=by
  refine V.fn mo Tryz.func23 42 5 (by kernel_rfl) fun w H ε k0=>?_;obtain ⟨⟨kl1, -⟩,⟨kl2, -⟩,⟨kl3, -⟩,⟨kl4, -⟩, -⟩:Lq x E.v∧Lq y F.v∧Lq A I.v∧Lq B J.v∧True:=kq k0
  clear k0;refine V.g [.nb 0 0 (fun b=>pp b 0) 42 (fun _=>#[iv c,iv d,iv e,iv i,iv j,iv l,iv z,E.v,iv C,F.v]),.nb 1 1 (fun b=>pp b 0) 42 (fun _=>#[iv m,iv n,iv o,iv p,iv q,iv t,iv u,I.v,iv D,J.v]),.nb 2 2 (fun b=>pp b 0) 42 (fun _=>#[iv 0,iv 0,iv 0,iv 0,iv 0,iv 0,iv 0,.slice none 0 0,iv 0,.slice none 0 0]),.k (iv 0)] fun _ _ G1=>?_;intro S s
  refine nm ((!(decide (Un.UR [c,d,e,i,j,l] z x C y))) || (!(decide (Un.UR [m,n,o,p,q,t] u A D B))):Bool) fun p1 hp1=>?_;refine V.g [.ld 0 0 true (fun _=>[iv c,iv d,iv e,iv i,iv j,iv l,iv z,E.v,iv C,F.v]),.cp g0 1 30 [(kf false (.f 0) x (fun _=>E)).a,(kf false (.f 1) y (fun _=>F)).a] (fun _ G=>uright_ct c d e i j l z x E C y F (by omega) (by omega)),.k (bv (!(decide (Un.UR [c,d,e,i,j,l] z x C y)))),.k (bv (!(decide (Un.UR [c,d,e,i,j,l] z x C y)))),.ld 1 0 true (fun _=>[iv m,iv n,iv o,iv p,iv q,iv t,iv u,I.v,iv D,J.v]),.cp (gF (b:=!(decide (Un.UR [c,d,e,i,j,l] z x C y))) (iNF iDT)) 5 30 [(kf false (.f 2) A (fun _=>I)).a,(kf false (.f 3) B (fun _=>J)).a] (fun hg G=>uright_ct m n o p q t u A I D B J (by omega) (by omega)),.k (bv (!(decide (Un.UR [m,n,o,p,q,t] u A D B)))),.orn g0 false (!(decide (Un.UR [c,d,e,i,j,l] z x C y))) (!(decide (Un.UR [m,n,o,p,q,t] u A D B))) p1 hp1] fun _ _ G2=>?_;intro S s
  refine V.cn (b:=p1) (iN hp1 (iOT (iNT iDF) (iNT iDF))) (iN hp1 (iOF (iNF iDT) (iNF iDT))) (fun q1=>?_) (fun q2=>?_)
  · have hN:¬ (Un.UR [c,d,e,i,j,l] z x C y∧Un.UR [m,n,o,p,q,t] u A D B):=by rintro ⟨h1,h2⟩;rcases q1 with h | h;exact h h1;exact h h2
    refine V.g [.k (.agg #[iv 0,iv 0,iv 0,iv 0,iv 0,iv 0,iv 0,.slice none 0 0,iv 0,.slice none 0 0]),.st 2 (fun _=>.blk ((G1 2).b) #[iv 0,iv 0,iv 0,iv 0,iv 0,iv 0,iv 0,.slice none 0 0,iv 0,.slice none 0 0] 42),.k (iv 1)] fun _ _ G3=>?_;intro S s
    refine V.nilF (α:=Int) ?_;refine V.nilF (α:=Int) ?_;have e7:([]:List Int)=Fr.rD ((Un.UR [c,d,e,i,j,l] z x C y∧Un.UR [m,n,o,p,q,t] u A D B)∧Dm.Rt [c-m,d-n,e-o,i-p,j-q,l-t]) ((Fr.fq z x y) / (Fr.fq u A B)):=(Fr.Fz.no (fun h=>hN h.1) ((Fr.fq z x y) / (Fr.fq u A B))).2.1;rw [←e7];have e9:([]:List Int)=Fr.rE ((Un.UR [c,d,e,i,j,l] z x C y∧Un.UR [m,n,o,p,q,t] u A D B)∧Dm.Rt [c-m,d-n,e-o,i-p,j-q,l-t]) ((Fr.fq z x y) / (Fr.fq u A B)):=(Fr.Fz.no (fun h=>hN h.1) ((Fr.fq z x y) / (Fr.fq u A B))).2.2.2;rw [←e9];have e0:(0:Int)=Dm.opV (Un.UR [c,d,e,i,j,l] z x C y∧Un.UR [m,n,o,p,q,t] u A D B) [c-m,d-n,e-o,i-p,j-q,l-t] 0:=(Dm.opV_n hN _ 0).symm;have e1:(0:Int)=Dm.opV (Un.UR [c,d,e,i,j,l] z x C y∧Un.UR [m,n,o,p,q,t] u A D B) [c-m,d-n,e-o,i-p,j-q,l-t] 1:=(Dm.opV_n hN _ 1).symm;have e2:(0:Int)=Dm.opV (Un.UR [c,d,e,i,j,l] z x C y∧Un.UR [m,n,o,p,q,t] u A D B) [c-m,d-n,e-o,i-p,j-q,l-t] 2:=(Dm.opV_n hN _ 2).symm;have e3:(0:Int)=Dm.opV (Un.UR [c,d,e,i,j,l] z x C y∧Un.UR [m,n,o,p,q,t] u A D B) [c-m,d-n,e-o,i-p,j-q,l-t] 3:=(Dm.opV_n hN _ 3).symm;have e4:(0:Int)=Dm.opV (Un.UR [c,d,e,i,j,l] z x C y∧Un.UR [m,n,o,p,q,t] u A D B) [c-m,d-n,e-o,i-p,j-q,l-t] 4:=(Dm.opV_n hN _ 4).symm;have e5:(0:Int)=Dm.opV (Un.UR [c,d,e,i,j,l] z x C y∧Un.UR [m,n,o,p,q,t] u A D B) [c-m,d-n,e-o,i-p,j-q,l-t] 5:=(Dm.opV_n hN _ 5).symm;have e6:(0:Int)=Fr.rS ((Un.UR [c,d,e,i,j,l] z x C y∧Un.UR [m,n,o,p,q,t] u A D B)∧Dm.Rt [c-m,d-n,e-o,i-p,j-q,l-t]) ((Fr.fq z x y) / (Fr.fq u A B)):=(Fr.Fz.no (fun h=>hN h.1) ((Fr.fq z x y) / (Fr.fq u A B))).1;have e8:(0:Int)=Fr.rT ((Un.UR [c,d,e,i,j,l] z x C y∧Un.UR [m,n,o,p,q,t] u A D B)∧Dm.Rt [c-m,d-n,e-o,i-p,j-q,l-t]):=(Fr.Fz.no (fun h=>hN h.1) ((Fr.fq z x y) / (Fr.fq u A B))).2.2.1;have e10:(1:Int)=Dm.opE (Un.UR [c,d,e,i,j,l] z x C y∧Un.UR [m,n,o,p,q,t] u A D B) [c-m,d-n,e-o,i-p,j-q,l-t]:=(Dm.opE_n hN _).symm;exact V.rt [2,0] [{},{}] [fun _=>{},fun _=>{}] [] [4,5] [] (.tuple #[.agg #[iv 0,iv 0,iv 0,iv 0,iv 0,iv 0,iv 0,SV.v ({}),iv 0,SV.v ({})],iv 1]) (cong9 (fun (x0 x1 x2 x3 x4 x5 x6 x8 x10:Int)=>(.tuple #[.agg #[iv x0,iv x1,iv x2,iv x3,iv x4,iv x5,iv x6,SV.v ({}),iv x8,SV.v ({})],iv x10]:Value)) e0 e1 e2 e3 e4 e5 e6 e8 e10)
  have hP:(Un.UR [c,d,e,i,j,l] z x C y∧Un.UR [m,n,o,p,q,t] u A D B):=by first | exact q2 | exact ⟨Decidable.not_not.1 (q2).1,Decidable.not_not.1 (q2).2⟩
  have hP2:Dm.Rt [c,d,e,i,j,l]∧Dm.Rt [m,n,o,p,q,t]:=⟨hP.1.1,hP.2.1⟩;refine nm (Dm.opV (Dm.Rt [c,d,e,i,j,l]∧Dm.Rt [m,n,o,p,q,t]) [c-m,d-n,e-o,i-p,j-q,l-t] 0:Int) fun n1 hn1=>?_;refine nm (Dm.opV (Dm.Rt [c,d,e,i,j,l]∧Dm.Rt [m,n,o,p,q,t]) [c-m,d-n,e-o,i-p,j-q,l-t] 1:Int) fun n2 hn2=>?_;refine nm (Dm.opV (Dm.Rt [c,d,e,i,j,l]∧Dm.Rt [m,n,o,p,q,t]) [c-m,d-n,e-o,i-p,j-q,l-t] 2:Int) fun n3 hn3=>?_;refine nm (Dm.opV (Dm.Rt [c,d,e,i,j,l]∧Dm.Rt [m,n,o,p,q,t]) [c-m,d-n,e-o,i-p,j-q,l-t] 3:Int) fun n4 hn4=>?_;refine nm (Dm.opV (Dm.Rt [c,d,e,i,j,l]∧Dm.Rt [m,n,o,p,q,t]) [c-m,d-n,e-o,i-p,j-q,l-t] 4:Int) fun n5 hn5=>?_;refine nm (Dm.opV (Dm.Rt [c,d,e,i,j,l]∧Dm.Rt [m,n,o,p,q,t]) [c-m,d-n,e-o,i-p,j-q,l-t] 5:Int) fun n6 hn6=>?_;refine nm (Dm.opE (Dm.Rt [c,d,e,i,j,l]∧Dm.Rt [m,n,o,p,q,t]) [c-m,d-n,e-o,i-p,j-q,l-t]:Int) fun n7 hn7=>?_;refine V.g [.k (pp ((G1 0).b) 0),.ld 0 0 true (fun _=>[iv c,iv d,iv e,iv i,iv j,iv l]),.k (pp ((G1 1).b) 0),.ld 1 0 true (fun _=>[iv m,iv n,iv o,iv p,iv q,iv t]),.cp g0 4 70 [] (fun _ G=>ddiv_ctv c d e i j l m n o p q t n1 hn1 n2 hn2 n3 hn3 n4 hn4 n5 hn5 n6 hn6 n7 hn7),.k (.tuple #[.agg #[iv n1,iv n2,iv n3,iv n4,iv n5,iv n6],iv n7]),.k (.agg #[iv n1,iv n2,iv n3,iv n4,iv n5,iv n6]),.k (iv n7),.nb 8 3 (fun b=>pp b 0) 40 (fun _=>#[iv 0,iv 0,iv 0,iv 0,iv 0,iv 0]),.st 3 (fun G=>.blk ((G 8).b) #[iv n1,iv n2,iv n3,iv n4,iv n5,iv n6] 40),.k (iv n7)] fun _ _ G4=>?_;intro S s
  refine V.g [.k (iv n7),.k (bv (!(decide (n7=0))))] fun _ _ G5=>?_;intro S s
  refine V.cn (b:=!(decide (n7=0))) (iNT iDF) (iNF iDT) (fun q3=>?_) (fun q4=>?_)
  · have hR:¬ Dm.Rt [c-m,d-n,e-o,i-p,j-q,l-t]:=Un.opE_ne hP2 (by rw [←hn7];exact q3);refine V.g [.k (.agg #[iv 0,iv 0,iv 0,iv 0,iv 0,iv 0,iv 0,.slice none 0 0,iv 0,.slice none 0 0]),.k (iv n7),.st 2 (fun _=>.blk ((G1 2).b) #[iv 0,iv 0,iv 0,iv 0,iv 0,iv 0,iv 0,.slice none 0 0,iv 0,.slice none 0 0] 42),.k (iv n7)] fun _ _ G6=>?_;intro S s
    refine V.nilF (α:=Int) ?_;refine V.nilF (α:=Int) ?_;have e7:([]:List Int)=Fr.rD ((Un.UR [c,d,e,i,j,l] z x C y∧Un.UR [m,n,o,p,q,t] u A D B)∧Dm.Rt [c-m,d-n,e-o,i-p,j-q,l-t]) ((Fr.fq z x y) / (Fr.fq u A B)):=(Fr.Fz.no (fun h=>hR h.2) ((Fr.fq z x y) / (Fr.fq u A B))).2.1;rw [←e7];have e9:([]:List Int)=Fr.rE ((Un.UR [c,d,e,i,j,l] z x C y∧Un.UR [m,n,o,p,q,t] u A D B)∧Dm.Rt [c-m,d-n,e-o,i-p,j-q,l-t]) ((Fr.fq z x y) / (Fr.fq u A B)):=(Fr.Fz.no (fun h=>hR h.2) ((Fr.fq z x y) / (Fr.fq u A B))).2.2.2;rw [←e9];have e0:(0:Int)=Dm.opV (Un.UR [c,d,e,i,j,l] z x C y∧Un.UR [m,n,o,p,q,t] u A D B) [c-m,d-n,e-o,i-p,j-q,l-t] 0:=(Un.opV_no hP hR 0).symm;have e1:(0:Int)=Dm.opV (Un.UR [c,d,e,i,j,l] z x C y∧Un.UR [m,n,o,p,q,t] u A D B) [c-m,d-n,e-o,i-p,j-q,l-t] 1:=(Un.opV_no hP hR 1).symm;have e2:(0:Int)=Dm.opV (Un.UR [c,d,e,i,j,l] z x C y∧Un.UR [m,n,o,p,q,t] u A D B) [c-m,d-n,e-o,i-p,j-q,l-t] 2:=(Un.opV_no hP hR 2).symm;have e3:(0:Int)=Dm.opV (Un.UR [c,d,e,i,j,l] z x C y∧Un.UR [m,n,o,p,q,t] u A D B) [c-m,d-n,e-o,i-p,j-q,l-t] 3:=(Un.opV_no hP hR 3).symm;have e4:(0:Int)=Dm.opV (Un.UR [c,d,e,i,j,l] z x C y∧Un.UR [m,n,o,p,q,t] u A D B) [c-m,d-n,e-o,i-p,j-q,l-t] 4:=(Un.opV_no hP hR 4).symm;have e5:(0:Int)=Dm.opV (Un.UR [c,d,e,i,j,l] z x C y∧Un.UR [m,n,o,p,q,t] u A D B) [c-m,d-n,e-o,i-p,j-q,l-t] 5:=(Un.opV_no hP hR 5).symm;have e6:(0:Int)=Fr.rS ((Un.UR [c,d,e,i,j,l] z x C y∧Un.UR [m,n,o,p,q,t] u A D B)∧Dm.Rt [c-m,d-n,e-o,i-p,j-q,l-t]) ((Fr.fq z x y) / (Fr.fq u A B)):=(Fr.Fz.no (fun h=>hR h.2) ((Fr.fq z x y) / (Fr.fq u A B))).1;have e8:(0:Int)=Fr.rT ((Un.UR [c,d,e,i,j,l] z x C y∧Un.UR [m,n,o,p,q,t] u A D B)∧Dm.Rt [c-m,d-n,e-o,i-p,j-q,l-t]):=(Fr.Fz.no (fun h=>hR h.2) ((Fr.fq z x y) / (Fr.fq u A B))).2.2.1;have e10:n7=Dm.opE (Un.UR [c,d,e,i,j,l] z x C y∧Un.UR [m,n,o,p,q,t] u A D B) [c-m,d-n,e-o,i-p,j-q,l-t]:=by rw [hn7];exact Un.opE_pq hP2 hP _
    exact V.rt [2,0] [{},{}] [fun _=>{},fun _=>{}] [] [4,5] [] (.tuple #[.agg #[iv 0,iv 0,iv 0,iv 0,iv 0,iv 0,iv 0,SV.v ({}),iv 0,SV.v ({})],iv n7]) (cong9 (fun (x0 x1 x2 x3 x4 x5 x6 x8 x10:Int)=>(.tuple #[.agg #[iv x0,iv x1,iv x2,iv x3,iv x4,iv x5,iv x6,SV.v ({}),iv x8,SV.v ({})],iv x10]:Value)) e0 e1 e2 e3 e4 e5 e6 e8 e10)
  have hR:Dm.Rt [c-m,d-n,e-o,i-p,j-q,l-t]:=Un.opE_eq hP2 (by rw [←hn7];first | exact q4 | exact Decidable.not_not.1 q4);refine nm (Fr.rS ((Fr.FrB z x C y∧Fr.FrB u A D B)∧u≠0) ((Fr.fq z x y) / (Fr.fq u A B)):Int) fun n8 hn8=>?_;refine nl (Fr.rD ((Fr.FrB z x C y∧Fr.FrB u A D B)∧u≠0) ((Fr.fq z x y) / (Fr.fq u A B))) fun l1 hl1 hl1n=>?_;refine nm (Fr.rT ((Fr.FrB z x C y∧Fr.FrB u A D B)∧u≠0):Int) fun n9 hn9=>?_;refine nl (Fr.rE ((Fr.FrB z x C y∧Fr.FrB u A D B)∧u≠0) ((Fr.fq z x y) / (Fr.fq u A B))) fun l2 hl2 hl2n=>?_;refine nm (if ¬ (Fr.FrB z x C y∧Fr.FrB u A D B) then (1:Int) else if u=0 then 15 else 0:Int) fun n10 hn10=>?_;have zf:=Fr.Fz.of ⟨⟨hP.1.2.1,hP.2.2.1⟩,hP.2.ps⟩ hn8 hl1 hn9 hl2
  refine V.r [.k (pp ((G1 0).b) 6),.ld 0 6 true (fun _=>Dat.cells (DFrac.mk ⟨z,x,E⟩ ⟨C,y,F⟩)),.k (pp ((G1 1).b) 6),.ld 1 6 true (fun _=>Dat.cells (DFrac.mk ⟨u,A,I⟩ ⟨D,B,J⟩)),.ct g0 4 44 false [] [] [(kf false (.f 0) x (fun _=>E)).a,(kf false (.f 1) y (fun _=>F)).a,(kf false (.f 2) A (fun _=>I)).a,(kf false (.f 3) B (fun _=>J)).a] (fun _ G=>fdiv_ctv z x E C y F u A I D B J (by omega) (by omega) (by omega) (by omega) n8 hn8 l1 hl1 n9 hn9 l2 hl2 n10 hn10),.v fun G=>.tuple #[ag (DFrac.mk ⟨n8,l1,(G 4).ss 0⟩ ⟨n9,l2,(G 4).ss 1⟩),iv n10],.v fun G=>ag (DFrac.mk ⟨n8,l1,(G 4).ss 0⟩ ⟨n9,l2,(G 4).ss 1⟩),.k (iv n10),.nb 8 4 (fun b=>pp b 0) 29 (fun _=>ca (DFrac.mk ⟨0,[],{}⟩ ⟨0,[],{}⟩)),.st 4 (fun G=>.blk ((G 8).b) (ca (DFrac.mk ⟨n8,l1,(G 4).ss 0⟩ ⟨n9,l2,(G 4).ss 1⟩)) 29),.k (iv n10)] fun _ _ G7 kw7=>?_;intro S s
  obtain ⟨⟨kl5, -⟩,⟨kl6, -⟩, -⟩:Lq l1 (((G7 4).ss 0).v)∧Lq l2 (((G7 4).ss 1).v)∧True:=kq kw7;clear kw7;refine V.g [.ld 3 0 true (fun _=>[iv n1,iv n2,iv n3,iv n4,iv n5,iv n6]),.ld 4 0 true (fun _=>Dat.cells (DFrac.mk ⟨n8,l1,(G7 4).ss 0⟩ ⟨n9,l2,(G7 4).ss 1⟩)),.k (.agg #[iv n1,iv n2,iv n3,iv n4,iv n5,iv n6,iv n8,((G7 4).ss 0).v,iv n9,((G7 4).ss 1).v]),.st 2 (fun _=>.blk ((G1 2).b) #[iv n1,iv n2,iv n3,iv n4,iv n5,iv n6,iv n8,((G7 4).ss 0).v,iv n9,((G7 4).ss 1).v] 42),.k (iv 0)] fun _ _ G8=>?_;intro S s;have e7:l1=Fr.rD ((Un.UR [c,d,e,i,j,l] z x C y∧Un.UR [m,n,o,p,q,t] u A D B)∧Dm.Rt [c-m,d-n,e-o,i-p,j-q,l-t]) ((Fr.fq z x y) / (Fr.fq u A B)):=(Fr.Fz.ret zf ⟨hP,hR⟩ (rfl)).2.1;subst e7;have e9:l2=Fr.rE ((Un.UR [c,d,e,i,j,l] z x C y∧Un.UR [m,n,o,p,q,t] u A D B)∧Dm.Rt [c-m,d-n,e-o,i-p,j-q,l-t]) ((Fr.fq z x y) / (Fr.fq u A B)):=(Fr.Fz.ret zf ⟨hP,hR⟩ (rfl)).2.2.2;subst e9;have e0:n1=Dm.opV (Un.UR [c,d,e,i,j,l] z x C y∧Un.UR [m,n,o,p,q,t] u A D B) [c-m,d-n,e-o,i-p,j-q,l-t] 0:=by
    rw [hn1];exact Un.opV_pq hP2 hP _ 0
  have e1:n2=Dm.opV (Un.UR [c,d,e,i,j,l] z x C y∧Un.UR [m,n,o,p,q,t] u A D B) [c-m,d-n,e-o,i-p,j-q,l-t] 1:=by
    rw [hn2];exact Un.opV_pq hP2 hP _ 1
  have e2:n3=Dm.opV (Un.UR [c,d,e,i,j,l] z x C y∧Un.UR [m,n,o,p,q,t] u A D B) [c-m,d-n,e-o,i-p,j-q,l-t] 2:=by
    rw [hn3];exact Un.opV_pq hP2 hP _ 2
  have e3:n4=Dm.opV (Un.UR [c,d,e,i,j,l] z x C y∧Un.UR [m,n,o,p,q,t] u A D B) [c-m,d-n,e-o,i-p,j-q,l-t] 3:=by
    rw [hn4];exact Un.opV_pq hP2 hP _ 3
  have e4:n5=Dm.opV (Un.UR [c,d,e,i,j,l] z x C y∧Un.UR [m,n,o,p,q,t] u A D B) [c-m,d-n,e-o,i-p,j-q,l-t] 4:=by
    rw [hn5];exact Un.opV_pq hP2 hP _ 4
  have e5:n6=Dm.opV (Un.UR [c,d,e,i,j,l] z x C y∧Un.UR [m,n,o,p,q,t] u A D B) [c-m,d-n,e-o,i-p,j-q,l-t] 5:=by
    rw [hn6];exact Un.opV_pq hP2 hP _ 5
  have e6:n8=Fr.rS ((Un.UR [c,d,e,i,j,l] z x C y∧Un.UR [m,n,o,p,q,t] u A D B)∧Dm.Rt [c-m,d-n,e-o,i-p,j-q,l-t]) ((Fr.fq z x y) / (Fr.fq u A B)):=(Fr.Fz.ret zf ⟨hP,hR⟩ (rfl)).1;have e8:n9=Fr.rT ((Un.UR [c,d,e,i,j,l] z x C y∧Un.UR [m,n,o,p,q,t] u A D B)∧Dm.Rt [c-m,d-n,e-o,i-p,j-q,l-t]):=(Fr.Fz.ret zf ⟨hP,hR⟩ (rfl)).2.2.1;have e10:(0:Int)=Dm.opE (Un.UR [c,d,e,i,j,l] z x C y∧Un.UR [m,n,o,p,q,t] u A D B) [c-m,d-n,e-o,i-p,j-q,l-t]:=by rw [Dm.opE_y hP,Dm.mkE_y hR]
  exact V.rt [2,0] [(G7 4).ss 0,(G7 4).ss 1] [fun _=>{},fun _=>{}] [] [4,5] [] (.tuple #[.agg #[iv n1,iv n2,iv n3,iv n4,iv n5,iv n6,iv n8,((G7 4).ss 0).v,iv n9,((G7 4).ss 1).v],iv 0]) (cong9 (fun (x0 x1 x2 x3 x4 x5 x6 x8 x10:Int)=>(.tuple #[.agg #[iv x0,iv x1,iv x2,iv x3,iv x4,iv x5,iv x6,((G7 4).ss 0).v,iv x8,((G7 4).ss 1).v],iv x10]:Value)) e0 e1 e2 e3 e4 e5 e6 e8 e10)
theorem udiv_ctv (a b c d e f r:Int) (n:List Int) (x:SV) (u:Int) (o:List Int) (y:SV) (h i j k l m t:Int) (p:List Int) (z:SV) (w:Int) (q:List Int) (A:SV) (haP:n.length≤17179869184) (haQ:o.length≤17179869184) (hbP:p.length≤17179869184) (hbQ:q.length≤17179869184) (rv0:Int) (erv0:rv0=Dm.opV (Un.UR [a,b,c,d,e,f] r n u o∧Un.UR [h,i,j,k,l,m] t p w q) [a - h,b - i,c - j,d - k,e - l,f - m] 0) (rv1:Int) (erv1:rv1=Dm.opV (Un.UR [a,b,c,d,e,f] r n u o∧Un.UR [h,i,j,k,l,m] t p w q) [a - h,b - i,c - j,d - k,e - l,f - m] 1) (rv2:Int) (erv2:rv2=Dm.opV (Un.UR [a,b,c,d,e,f] r n u o∧Un.UR [h,i,j,k,l,m] t p w q) [a - h,b - i,c - j,d - k,e - l,f - m] 2) (rv3:Int) (erv3:rv3=Dm.opV (Un.UR [a,b,c,d,e,f] r n u o∧Un.UR [h,i,j,k,l,m] t p w q) [a - h,b - i,c - j,d - k,e - l,f - m] 3) (rv4:Int) (erv4:rv4=Dm.opV (Un.UR [a,b,c,d,e,f] r n u o∧Un.UR [h,i,j,k,l,m] t p w q) [a - h,b - i,c - j,d - k,e - l,f - m] 4) (rv5:Int) (erv5:rv5=Dm.opV (Un.UR [a,b,c,d,e,f] r n u o∧Un.UR [h,i,j,k,l,m] t p w q) [a - h,b - i,c - j,d - k,e - l,f - m] 5) (rv6:Int) (erv6:rv6=Fr.rS ((Un.UR [a,b,c,d,e,f] r n u o∧Un.UR [h,i,j,k,l,m] t p w q)∧Dm.Rt [a - h,b - i,c - j,d - k,e - l,f - m]) ((Fr.fq r n o) / (Fr.fq t p q))) (rv7:List Int) (erv7:rv7=Fr.rD ((Un.UR [a,b,c,d,e,f] r n u o∧Un.UR [h,i,j,k,l,m] t p w q)∧Dm.Rt [a - h,b - i,c - j,d - k,e - l,f - m]) ((Fr.fq r n o) / (Fr.fq t p q))) (rv8:Int) (erv8:rv8=Fr.rT ((Un.UR [a,b,c,d,e,f] r n u o∧Un.UR [h,i,j,k,l,m] t p w q)∧Dm.Rt [a - h,b - i,c - j,d - k,e - l,f - m])) (rv9:List Int) (erv9:rv9=Fr.rE ((Un.UR [a,b,c,d,e,f] r n u o∧Un.UR [h,i,j,k,l,m] t p w q)∧Dm.Rt [a - h,b - i,c - j,d - k,e - l,f - m]) ((Fr.fq r n o) / (Fr.fq t p q))) (rv10:Int) (erv10:rv10=Dm.opE (Un.UR [a,b,c,d,e,f] r n u o∧Un.UR [h,i,j,k,l,m] t p w q) [a - h,b - i,c - j,d - k,e - l,f - m]) :
    Ct Tryz.prog 23 #[.agg #[iv a,iv b,iv c,iv d,iv e,iv f,iv r,x.v,iv u,y.v],.agg #[iv h,iv i,iv j,iv k,iv l,iv m,iv t,z.v,iv w,A.v]] [fs true n x,fs true o y,fs true p z,fs true q A] [] (fun g=>.tuple #[.agg #[iv rv0,iv rv1,iv rv2,iv rv3,iv rv4,iv rv5,iv rv6,((g.ss 0)).v,iv rv8,((g.ss 1)).v],iv rv10]) (fun g=>[fs true rv7 (g.ss 0),fs true rv9 (g.ss 1)]) (fun g=>[]) (fun g=>[]):=by
  subst erv0 erv1 erv2 erv3 erv4 erv5 erv6 erv7 erv8 erv9 erv10;exact udiv_ct a b c d e f r n x u o y h i j k l m t p z w q A haP haQ hbP hbQ
set_option maxRecDepth 10000 in
theorem uto_ct (l:Int) (d:List Int) (y:SV) (n:Int) (e:List Int) (z:SV) (o p q t u x c:Int) (i:List Int) (A:SV) (m:Int) (j:List Int) (B:SV) (huP:i.length≤17179869184) (huQ:j.length≤17179869184) (hvP:d.length≤17179869184) (hvQ:e.length≤17179869184) :
    Ct Tryz.prog 26 #[ag (DFrac.mk ⟨l,d,y⟩ ⟨n,e,z⟩),.agg #[iv o,iv p,iv q,iv t,iv u,iv x,iv c,A.v,iv m,B.v]] [fs true d y,fs true e z,fs true i A,fs true j B] [] (fun g=>.tuple #[ag (DFrac.mk ⟨(Fr.rS ((Un.UR [o,p,q,t,u,x] c i m j∧Fr.FrB l d n e)) ((Fr.fq l d e) / (Fr.fq c i j))),Fr.rD ((Un.UR [o,p,q,t,u,x] c i m j∧Fr.FrB l d n e)) ((Fr.fq l d e) / (Fr.fq c i j)),(g.ss 0)⟩ ⟨(Fr.rT ((Un.UR [o,p,q,t,u,x] c i m j∧Fr.FrB l d n e))),Fr.rE ((Un.UR [o,p,q,t,u,x] c i m j∧Fr.FrB l d n e)) ((Fr.fq l d e) / (Fr.fq c i j)),(g.ss 1)⟩),iv (if (Un.UR [o,p,q,t,u,x] c i m j∧Fr.FrB l d n e) then (0:Int) else 1)]) (fun g=>[fs true (Fr.rD ((Un.UR [o,p,q,t,u,x] c i m j∧Fr.FrB l d n e)) ((Fr.fq l d e) / (Fr.fq c i j))) (g.ss 0),fs true (Fr.rE ((Un.UR [o,p,q,t,u,x] c i m j∧Fr.FrB l d n e)) ((Fr.fq l d e) / (Fr.fq c i j))) (g.ss 1)]) (fun g=>[]) (fun g=>[]):=by
  refine V.fn mo Tryz.func26 25 4 (by kernel_rfl) fun w H ε k0=>?_;obtain ⟨⟨kl1, -⟩,⟨kl2, -⟩,⟨kl3, -⟩,⟨kl4, -⟩, -⟩:Lq d y.v∧Lq e z.v∧Lq i A.v∧Lq j B.v∧True:=kq k0
  clear k0;refine V.g [.nb 0 0 (fun b=>pp b 0) 29 (fun _=>ca (DFrac.mk ⟨l,d,y⟩ ⟨n,e,z⟩)),.nb 1 1 (fun b=>pp b 0) 42 (fun _=>#[iv o,iv p,iv q,iv t,iv u,iv x,iv c,A.v,iv m,B.v]),.nb 2 2 (fun b=>pp b 0) 29 (fun _=>ca (DFrac.mk ⟨0,[],{}⟩ ⟨0,[],{}⟩)),.k (iv 0)] fun _ _ G1=>?_;intro S s
  refine nm ((!(decide (Un.UR [o,p,q,t,u,x] c i m j))) || (!(decide (Fr.FrB l d n e))):Bool) fun p1 hp1=>?_;refine V.g [.ld 1 0 true (fun _=>[iv o,iv p,iv q,iv t,iv u,iv x,iv c,A.v,iv m,B.v]),.cp g0 1 30 [(kf false (.f 2) i (fun _=>A)).a,(kf false (.f 3) j (fun _=>B)).a] (fun _ G=>uright_ct o p q t u x c i A m j B (by omega) (by omega)),.k (bv (!(decide (Un.UR [o,p,q,t,u,x] c i m j)))),.k (bv (!(decide (Un.UR [o,p,q,t,u,x] c i m j)))),.ld 0 0 true (fun _=>Dat.cells (DFrac.mk ⟨l,d,y⟩ ⟨n,e,z⟩)),.cp (gF (b:=!(decide (Un.UR [o,p,q,t,u,x] c i m j))) (iNF iDT)) 5 36 [(kf false (.f 0) d (fun _=>y)).a,(kf false (.f 1) e (fun _=>z)).a] (fun hg G=>right_ct l d y n e z (by omega) (by omega)),.k (bv (!(decide (Fr.FrB l d n e)))),.orn g0 false (!(decide (Un.UR [o,p,q,t,u,x] c i m j))) (!(decide (Fr.FrB l d n e))) p1 hp1] fun _ _ G2=>?_;intro S s
  refine V.cn (b:=p1) (iN hp1 (iOT (iNT iDF) (iNT iDF))) (iN hp1 (iOF (iNF iDT) (iNF iDT))) (fun q1=>?_) (fun q2=>?_)
  · have hN:¬ (Un.UR [o,p,q,t,u,x] c i m j∧Fr.FrB l d n e):=by rintro ⟨h1,h2⟩;rcases q1 with h | h;exact h h1;exact h h2
    refine V.g [.k (ag (DFrac.mk ⟨0,[],{}⟩ ⟨0,[],{}⟩)),.st 2 (fun _=>.blk ((G1 2).b) (ca (DFrac.mk ⟨0,[],{}⟩ ⟨0,[],{}⟩)) 29),.k (iv 1)] fun _ _ G3=>?_;intro S s
    refine V.nilF (α:=Int) ?_;refine V.nilF (α:=Int) ?_;have e1:([]:List Int)=Fr.rD ((Un.UR [o,p,q,t,u,x] c i m j∧Fr.FrB l d n e)) ((Fr.fq l d e) / (Fr.fq c i j)):=(Fr.Fz.no hN ((Fr.fq l d e) / (Fr.fq c i j))).2.1;rw [←e1];have e3:([]:List Int)=Fr.rE ((Un.UR [o,p,q,t,u,x] c i m j∧Fr.FrB l d n e)) ((Fr.fq l d e) / (Fr.fq c i j)):=(Fr.Fz.no hN ((Fr.fq l d e) / (Fr.fq c i j))).2.2.2;rw [←e3];have e0:(0:Int)=Fr.rS ((Un.UR [o,p,q,t,u,x] c i m j∧Fr.FrB l d n e)) ((Fr.fq l d e) / (Fr.fq c i j)):=(Fr.Fz.no hN ((Fr.fq l d e) / (Fr.fq c i j))).1;have e2:(0:Int)=Fr.rT ((Un.UR [o,p,q,t,u,x] c i m j∧Fr.FrB l d n e)):=(Fr.Fz.no hN ((Fr.fq l d e) / (Fr.fq c i j))).2.2.1;have e4:(1:Int)=if (Un.UR [o,p,q,t,u,x] c i m j∧Fr.FrB l d n e) then (0:Int) else 1:=(if_neg hN).symm
    exact V.rt [2,0] [{},{}] [fun _=>{},fun _=>{}] [] [4,5] [] (.tuple #[ag (DFrac.mk ⟨0,([]:List Int),{}⟩ ⟨0,([]:List Int),{}⟩),iv 1]) (cong3 (fun (x0 x2 x4:Int)=>(.tuple #[.agg #[iv x0,SV.v ({}),iv x2,SV.v ({})],iv x4]:Value)) e0 e2 e4)
  have hP:(Un.UR [o,p,q,t,u,x] c i m j∧Fr.FrB l d n e):=by first | exact q2 | exact ⟨Decidable.not_not.1 (q2).1,Decidable.not_not.1 (q2).2⟩
  refine nm (Fr.rS ((Fr.FrB l d n e∧Fr.FrB c i m j)∧c≠0) ((Fr.fq l d e) / (Fr.fq c i j)):Int) fun n1 hn1=>?_;refine nl (Fr.rD ((Fr.FrB l d n e∧Fr.FrB c i m j)∧c≠0) ((Fr.fq l d e) / (Fr.fq c i j))) fun l1 hl1 hl1n=>?_;refine nm (Fr.rT ((Fr.FrB l d n e∧Fr.FrB c i m j)∧c≠0):Int) fun n2 hn2=>?_;refine nl (Fr.rE ((Fr.FrB l d n e∧Fr.FrB c i m j)∧c≠0) ((Fr.fq l d e) / (Fr.fq c i j))) fun l2 hl2 hl2n=>?_;refine nm (if ¬ (Fr.FrB l d n e∧Fr.FrB c i m j) then (1:Int) else if c=0 then 15 else 0:Int) fun n3 hn3=>?_;have zf:=Fr.Fz.of ⟨⟨hP.2,hP.1.2.1⟩,hP.1.ps⟩ hn1 hl1 hn2 hl2
  refine V.r [.ld 0 0 true (fun _=>Dat.cells (DFrac.mk ⟨l,d,y⟩ ⟨n,e,z⟩)),.k (pp ((G1 1).b) 6),.ld 1 6 true (fun _=>Dat.cells (DFrac.mk ⟨c,i,A⟩ ⟨m,j,B⟩)),.ct g0 3 44 false [] [] [(kf false (.f 0) d (fun _=>y)).a,(kf false (.f 1) e (fun _=>z)).a,(kf false (.f 2) i (fun _=>A)).a,(kf false (.f 3) j (fun _=>B)).a] (fun _ G=>fdiv_ctv l d y n e z c i A m j B (by omega) (by omega) (by omega) (by omega) n1 hn1 l1 hl1 n2 hn2 l2 hl2 n3 hn3),.v fun G=>.tuple #[ag (DFrac.mk ⟨n1,l1,(G 3).ss 0⟩ ⟨n2,l2,(G 3).ss 1⟩),iv n3],.v fun G=>ag (DFrac.mk ⟨n1,l1,(G 3).ss 0⟩ ⟨n2,l2,(G 3).ss 1⟩),.k (iv n3),.nb 7 3 (fun b=>pp b 0) 29 (fun _=>ca (DFrac.mk ⟨0,[],{}⟩ ⟨0,[],{}⟩)),.st 3 (fun G=>.blk ((G 7).b) (ca (DFrac.mk ⟨n1,l1,(G 3).ss 0⟩ ⟨n2,l2,(G 3).ss 1⟩)) 29),.k (iv n3)] fun _ _ G4 kw4=>?_;intro S s
  obtain ⟨⟨kl5, -⟩,⟨kl6, -⟩, -⟩:Lq l1 (((G4 3).ss 0).v)∧Lq l2 (((G4 3).ss 1).v)∧True:=kq kw4;clear kw4;refine V.g [.ld 3 0 true (fun _=>Dat.cells (DFrac.mk ⟨n1,l1,(G4 3).ss 0⟩ ⟨n2,l2,(G4 3).ss 1⟩)),.st 2 (fun _=>.blk ((G1 2).b) (ca (DFrac.mk ⟨n1,l1,(G4 3).ss 0⟩ ⟨n2,l2,(G4 3).ss 1⟩)) 29),.k (iv 0)] fun _ _ G5=>?_;intro S s;have e1:l1=Fr.rD ((Un.UR [o,p,q,t,u,x] c i m j∧Fr.FrB l d n e)) ((Fr.fq l d e) / (Fr.fq c i j)):=(Fr.Fz.ret zf hP (rfl)).2.1;subst e1;have e3:l2=Fr.rE ((Un.UR [o,p,q,t,u,x] c i m j∧Fr.FrB l d n e)) ((Fr.fq l d e) / (Fr.fq c i j)):=(Fr.Fz.ret zf hP (rfl)).2.2.2;subst e3;have e0:n1=Fr.rS ((Un.UR [o,p,q,t,u,x] c i m j∧Fr.FrB l d n e)) ((Fr.fq l d e) / (Fr.fq c i j)):=(Fr.Fz.ret zf hP (rfl)).1;have e2:n2=Fr.rT ((Un.UR [o,p,q,t,u,x] c i m j∧Fr.FrB l d n e)):=(Fr.Fz.ret zf hP (rfl)).2.2.1;have e4:(0:Int)=if (Un.UR [o,p,q,t,u,x] c i m j∧Fr.FrB l d n e) then (0:Int) else 1:=(if_pos hP).symm
  exact V.rt [2,0] [(G4 3).ss 0,(G4 3).ss 1] [fun _=>{},fun _=>{}] [] [4,5] [] (.tuple #[ag (DFrac.mk ⟨n1,(Fr.rD ((Un.UR [o,p,q,t,u,x] c i m j∧Fr.FrB l d n e)) ((Fr.fq l d e) / (Fr.fq c i j))),(G4 3).ss 0⟩ ⟨n2,(Fr.rE ((Un.UR [o,p,q,t,u,x] c i m j∧Fr.FrB l d n e)) ((Fr.fq l d e) / (Fr.fq c i j))),(G4 3).ss 1⟩),iv 0]) (cong3 (fun (x0 x2 x4:Int)=>(.tuple #[.agg #[iv x0,((G4 3).ss 0).v,iv x2,((G4 3).ss 1).v],iv x4]:Value)) e0 e2 e4)
theorem uto_ctv (e:Int) (a:List Int) (p:SV) (h:Int) (b:List Int) (q:SV) (i j k l m n f:Int) (c:List Int) (r:SV) (o:Int) (d:List Int) (t:SV) (huP:c.length≤17179869184) (huQ:d.length≤17179869184) (hvP:a.length≤17179869184) (hvQ:b.length≤17179869184) (rv0:Int) (erv0:rv0=Fr.rS ((Un.UR [i,j,k,l,m,n] f c o d∧Fr.FrB e a h b)) ((Fr.fq e a b) / (Fr.fq f c d))) (rv1:List Int) (erv1:rv1=Fr.rD ((Un.UR [i,j,k,l,m,n] f c o d∧Fr.FrB e a h b)) ((Fr.fq e a b) / (Fr.fq f c d))) (rv2:Int) (erv2:rv2=Fr.rT ((Un.UR [i,j,k,l,m,n] f c o d∧Fr.FrB e a h b))) (rv3:List Int) (erv3:rv3=Fr.rE ((Un.UR [i,j,k,l,m,n] f c o d∧Fr.FrB e a h b)) ((Fr.fq e a b) / (Fr.fq f c d))) (rv4:Int) (erv4:rv4=if (Un.UR [i,j,k,l,m,n] f c o d∧Fr.FrB e a h b) then (0:Int) else 1) :
    Ct Tryz.prog 26 #[ag (DFrac.mk ⟨e,a,p⟩ ⟨h,b,q⟩),.agg #[iv i,iv j,iv k,iv l,iv m,iv n,iv f,r.v,iv o,t.v]] [fs true a p,fs true b q,fs true c r,fs true d t] [] (fun g=>.tuple #[ag (DFrac.mk ⟨rv0,rv1,(g.ss 0)⟩ ⟨rv2,rv3,(g.ss 1)⟩),iv rv4]) (fun g=>[fs true rv1 (g.ss 0),fs true rv3 (g.ss 1)]) (fun g=>[]) (fun g=>[]):=by
  subst erv0 erv1 erv2 erv3 erv4;exact uto_ct e a p h b q i j k l m n f c r o d t huP huQ hvP hvQ
set_option maxRecDepth 10000 in
theorem ufrom_ct (l:Int) (c:List Int) (y:SV) (n:Int) (d:List Int) (z:SV) (o p q t u x j:Int) (e:List Int) (A:SV) (m:Int) (i:List Int) (B:SV) (huP:e.length≤17179869184) (huQ:i.length≤17179869184) (hnP:c.length≤17179869184) (hnQ:d.length≤17179869184) :
    Ct Tryz.prog 28 #[ag (DFrac.mk ⟨l,c,y⟩ ⟨n,d,z⟩),.agg #[iv o,iv p,iv q,iv t,iv u,iv x,iv j,A.v,iv m,B.v]] [fs true c y,fs true d z,fs true e A,fs true i B] [] (fun g=>.tuple #[ag (DFrac.mk ⟨(Fr.rS ((Un.UR [o,p,q,t,u,x] j e m i∧Fr.FrB l c n d)) ((Fr.fq l c d) * (Fr.fq j e i))),Fr.rD ((Un.UR [o,p,q,t,u,x] j e m i∧Fr.FrB l c n d)) ((Fr.fq l c d) * (Fr.fq j e i)),(g.ss 0)⟩ ⟨(Fr.rT ((Un.UR [o,p,q,t,u,x] j e m i∧Fr.FrB l c n d))),Fr.rE ((Un.UR [o,p,q,t,u,x] j e m i∧Fr.FrB l c n d)) ((Fr.fq l c d) * (Fr.fq j e i)),(g.ss 1)⟩),iv (if (Un.UR [o,p,q,t,u,x] j e m i∧Fr.FrB l c n d) then (0:Int) else 1)]) (fun g=>[fs true (Fr.rD ((Un.UR [o,p,q,t,u,x] j e m i∧Fr.FrB l c n d)) ((Fr.fq l c d) * (Fr.fq j e i))) (g.ss 0),fs true (Fr.rE ((Un.UR [o,p,q,t,u,x] j e m i∧Fr.FrB l c n d)) ((Fr.fq l c d) * (Fr.fq j e i))) (g.ss 1)]) (fun g=>[]) (fun g=>[]):=by
  refine V.fn mo Tryz.func28 25 4 (by kernel_rfl) fun w H ε k0=>?_;obtain ⟨⟨kl1, -⟩,⟨kl2, -⟩,⟨kl3, -⟩,⟨kl4, -⟩, -⟩:Lq c y.v∧Lq d z.v∧Lq e A.v∧Lq i B.v∧True:=kq k0
  clear k0;refine V.g [.nb 0 0 (fun b=>pp b 0) 29 (fun _=>ca (DFrac.mk ⟨l,c,y⟩ ⟨n,d,z⟩)),.nb 1 1 (fun b=>pp b 0) 42 (fun _=>#[iv o,iv p,iv q,iv t,iv u,iv x,iv j,A.v,iv m,B.v]),.nb 2 2 (fun b=>pp b 0) 29 (fun _=>ca (DFrac.mk ⟨0,[],{}⟩ ⟨0,[],{}⟩)),.k (iv 0)] fun _ _ G1=>?_;intro S s
  refine nm ((!(decide (Un.UR [o,p,q,t,u,x] j e m i))) || (!(decide (Fr.FrB l c n d))):Bool) fun p1 hp1=>?_;refine V.g [.ld 1 0 true (fun _=>[iv o,iv p,iv q,iv t,iv u,iv x,iv j,A.v,iv m,B.v]),.cp g0 1 30 [(kf false (.f 2) e (fun _=>A)).a,(kf false (.f 3) i (fun _=>B)).a] (fun _ G=>uright_ct o p q t u x j e A m i B (by omega) (by omega)),.k (bv (!(decide (Un.UR [o,p,q,t,u,x] j e m i)))),.k (bv (!(decide (Un.UR [o,p,q,t,u,x] j e m i)))),.ld 0 0 true (fun _=>Dat.cells (DFrac.mk ⟨l,c,y⟩ ⟨n,d,z⟩)),.cp (gF (b:=!(decide (Un.UR [o,p,q,t,u,x] j e m i))) (iNF iDT)) 5 36 [(kf false (.f 0) c (fun _=>y)).a,(kf false (.f 1) d (fun _=>z)).a] (fun hg G=>right_ct l c y n d z (by omega) (by omega)),.k (bv (!(decide (Fr.FrB l c n d)))),.orn g0 false (!(decide (Un.UR [o,p,q,t,u,x] j e m i))) (!(decide (Fr.FrB l c n d))) p1 hp1] fun _ _ G2=>?_;intro S s
  refine V.cn (b:=p1) (iN hp1 (iOT (iNT iDF) (iNT iDF))) (iN hp1 (iOF (iNF iDT) (iNF iDT))) (fun q1=>?_) (fun q2=>?_)
  · have hN:¬ (Un.UR [o,p,q,t,u,x] j e m i∧Fr.FrB l c n d):=by rintro ⟨h1,h2⟩;rcases q1 with h | h;exact h h1;exact h h2
    refine V.g [.k (ag (DFrac.mk ⟨0,[],{}⟩ ⟨0,[],{}⟩)),.st 2 (fun _=>.blk ((G1 2).b) (ca (DFrac.mk ⟨0,[],{}⟩ ⟨0,[],{}⟩)) 29),.k (iv 1)] fun _ _ G3=>?_;intro S s
    refine V.nilF (α:=Int) ?_;refine V.nilF (α:=Int) ?_;have e1:([]:List Int)=Fr.rD ((Un.UR [o,p,q,t,u,x] j e m i∧Fr.FrB l c n d)) ((Fr.fq l c d) * (Fr.fq j e i)):=(Fr.Fz.no hN ((Fr.fq l c d) * (Fr.fq j e i))).2.1;rw [←e1];have e3:([]:List Int)=Fr.rE ((Un.UR [o,p,q,t,u,x] j e m i∧Fr.FrB l c n d)) ((Fr.fq l c d) * (Fr.fq j e i)):=(Fr.Fz.no hN ((Fr.fq l c d) * (Fr.fq j e i))).2.2.2;rw [←e3];have e0:(0:Int)=Fr.rS ((Un.UR [o,p,q,t,u,x] j e m i∧Fr.FrB l c n d)) ((Fr.fq l c d) * (Fr.fq j e i)):=(Fr.Fz.no hN ((Fr.fq l c d) * (Fr.fq j e i))).1;have e2:(0:Int)=Fr.rT ((Un.UR [o,p,q,t,u,x] j e m i∧Fr.FrB l c n d)):=(Fr.Fz.no hN ((Fr.fq l c d) * (Fr.fq j e i))).2.2.1;have e4:(1:Int)=if (Un.UR [o,p,q,t,u,x] j e m i∧Fr.FrB l c n d) then (0:Int) else 1:=(if_neg hN).symm
    exact V.rt [2,0] [{},{}] [fun _=>{},fun _=>{}] [] [4,5] [] (.tuple #[ag (DFrac.mk ⟨0,([]:List Int),{}⟩ ⟨0,([]:List Int),{}⟩),iv 1]) (cong3 (fun (x0 x2 x4:Int)=>(.tuple #[.agg #[iv x0,SV.v ({}),iv x2,SV.v ({})],iv x4]:Value)) e0 e2 e4)
  have hP:(Un.UR [o,p,q,t,u,x] j e m i∧Fr.FrB l c n d):=by first | exact q2 | exact ⟨Decidable.not_not.1 (q2).1,Decidable.not_not.1 (q2).2⟩
  refine nm (Fr.rS (Fr.FrB l c n d∧Fr.FrB j e m i) ((Fr.fq l c d) * (Fr.fq j e i)):Int) fun n1 hn1=>?_;refine nl (Fr.rD (Fr.FrB l c n d∧Fr.FrB j e m i) ((Fr.fq l c d) * (Fr.fq j e i))) fun l1 hl1 hl1n=>?_;refine nm (Fr.rT (Fr.FrB l c n d∧Fr.FrB j e m i):Int) fun n2 hn2=>?_;refine nl (Fr.rE (Fr.FrB l c n d∧Fr.FrB j e m i) ((Fr.fq l c d) * (Fr.fq j e i))) fun l2 hl2 hl2n=>?_;refine nm (if ¬ (Fr.FrB l c n d∧Fr.FrB j e m i) then (1:Int) else 0:Int) fun n3 hn3=>?_;have zf:=Fr.Fz.of ⟨hP.2,hP.1.2.1⟩ hn1 hl1 hn2 hl2
  refine V.r [.ld 0 0 true (fun _=>Dat.cells (DFrac.mk ⟨l,c,y⟩ ⟨n,d,z⟩)),.k (pp ((G1 1).b) 6),.ld 1 6 true (fun _=>Dat.cells (DFrac.mk ⟨j,e,A⟩ ⟨m,i,B⟩)),.ct g0 3 45 false [] [] [(kf false (.f 0) c (fun _=>y)).a,(kf false (.f 1) d (fun _=>z)).a,(kf false (.f 2) e (fun _=>A)).a,(kf false (.f 3) i (fun _=>B)).a] (fun _ G=>fmul_ctv l c y n d z j e A m i B (by omega) (by omega) (by omega) (by omega) n1 hn1 l1 hl1 n2 hn2 l2 hl2 n3 hn3),.v fun G=>.tuple #[ag (DFrac.mk ⟨n1,l1,(G 3).ss 0⟩ ⟨n2,l2,(G 3).ss 1⟩),iv n3],.v fun G=>ag (DFrac.mk ⟨n1,l1,(G 3).ss 0⟩ ⟨n2,l2,(G 3).ss 1⟩),.k (iv n3),.nb 7 3 (fun b=>pp b 0) 29 (fun _=>ca (DFrac.mk ⟨0,[],{}⟩ ⟨0,[],{}⟩)),.st 3 (fun G=>.blk ((G 7).b) (ca (DFrac.mk ⟨n1,l1,(G 3).ss 0⟩ ⟨n2,l2,(G 3).ss 1⟩)) 29),.k (iv n3)] fun _ _ G4 kw4=>?_;intro S s
  obtain ⟨⟨kl5, -⟩,⟨kl6, -⟩, -⟩:Lq l1 (((G4 3).ss 0).v)∧Lq l2 (((G4 3).ss 1).v)∧True:=kq kw4;clear kw4;refine V.g [.ld 3 0 true (fun _=>Dat.cells (DFrac.mk ⟨n1,l1,(G4 3).ss 0⟩ ⟨n2,l2,(G4 3).ss 1⟩)),.st 2 (fun _=>.blk ((G1 2).b) (ca (DFrac.mk ⟨n1,l1,(G4 3).ss 0⟩ ⟨n2,l2,(G4 3).ss 1⟩)) 29),.k (iv 0)] fun _ _ G5=>?_;intro S s;have e1:l1=Fr.rD ((Un.UR [o,p,q,t,u,x] j e m i∧Fr.FrB l c n d)) ((Fr.fq l c d) * (Fr.fq j e i)):=(Fr.Fz.ret zf hP (rfl)).2.1;subst e1;have e3:l2=Fr.rE ((Un.UR [o,p,q,t,u,x] j e m i∧Fr.FrB l c n d)) ((Fr.fq l c d) * (Fr.fq j e i)):=(Fr.Fz.ret zf hP (rfl)).2.2.2;subst e3;have e0:n1=Fr.rS ((Un.UR [o,p,q,t,u,x] j e m i∧Fr.FrB l c n d)) ((Fr.fq l c d) * (Fr.fq j e i)):=(Fr.Fz.ret zf hP (rfl)).1;have e2:n2=Fr.rT ((Un.UR [o,p,q,t,u,x] j e m i∧Fr.FrB l c n d)):=(Fr.Fz.ret zf hP (rfl)).2.2.1;have e4:(0:Int)=if (Un.UR [o,p,q,t,u,x] j e m i∧Fr.FrB l c n d) then (0:Int) else 1:=(if_pos hP).symm
  exact V.rt [2,0] [(G4 3).ss 0,(G4 3).ss 1] [fun _=>{},fun _=>{}] [] [4,5] [] (.tuple #[ag (DFrac.mk ⟨n1,(Fr.rD ((Un.UR [o,p,q,t,u,x] j e m i∧Fr.FrB l c n d)) ((Fr.fq l c d) * (Fr.fq j e i))),(G4 3).ss 0⟩ ⟨n2,(Fr.rE ((Un.UR [o,p,q,t,u,x] j e m i∧Fr.FrB l c n d)) ((Fr.fq l c d) * (Fr.fq j e i))),(G4 3).ss 1⟩),iv 0]) (cong3 (fun (x0 x2 x4:Int)=>(.tuple #[.agg #[iv x0,((G4 3).ss 0).v,iv x2,((G4 3).ss 1).v],iv x4]:Value)) e0 e2 e4)
theorem ufrom_ctv (e:Int) (a:List Int) (p:SV) (h:Int) (b:List Int) (q:SV) (i j k l m n f:Int) (c:List Int) (r:SV) (o:Int) (d:List Int) (t:SV) (huP:c.length≤17179869184) (huQ:d.length≤17179869184) (hnP:a.length≤17179869184) (hnQ:b.length≤17179869184) (rv0:Int) (erv0:rv0=Fr.rS ((Un.UR [i,j,k,l,m,n] f c o d∧Fr.FrB e a h b)) ((Fr.fq e a b) * (Fr.fq f c d))) (rv1:List Int) (erv1:rv1=Fr.rD ((Un.UR [i,j,k,l,m,n] f c o d∧Fr.FrB e a h b)) ((Fr.fq e a b) * (Fr.fq f c d))) (rv2:Int) (erv2:rv2=Fr.rT ((Un.UR [i,j,k,l,m,n] f c o d∧Fr.FrB e a h b))) (rv3:List Int) (erv3:rv3=Fr.rE ((Un.UR [i,j,k,l,m,n] f c o d∧Fr.FrB e a h b)) ((Fr.fq e a b) * (Fr.fq f c d))) (rv4:Int) (erv4:rv4=if (Un.UR [i,j,k,l,m,n] f c o d∧Fr.FrB e a h b) then (0:Int) else 1) :
    Ct Tryz.prog 28 #[ag (DFrac.mk ⟨e,a,p⟩ ⟨h,b,q⟩),.agg #[iv i,iv j,iv k,iv l,iv m,iv n,iv f,r.v,iv o,t.v]] [fs true a p,fs true b q,fs true c r,fs true d t] [] (fun g=>.tuple #[ag (DFrac.mk ⟨rv0,rv1,(g.ss 0)⟩ ⟨rv2,rv3,(g.ss 1)⟩),iv rv4]) (fun g=>[fs true rv1 (g.ss 0),fs true rv3 (g.ss 1)]) (fun g=>[]) (fun g=>[]):=by
  subst erv0 erv1 erv2 erv3 erv4;exact ufrom_ct e a p h b q i j k l m n f c r o d t huP huQ hnP hnQ
set_option maxRecDepth 10000 in
theorem means_ct (s d:ByteArray) (p q:Int) (hs:s.size≤1000000) (hp: -9223372036854775808≤p∧p≤9223372036854775807) (hq: -9223372036854775808≤q∧q≤9223372036854775807) (hq0:q≠0) :
    Cp Tryz.prog 57 #[tv s,tv d,iv p,iv q] [] (bv (decide (Un.means s d p q))):=by
  refine V.fn mo Tryz.func57 39 2 (by kernel_rfl) fun w H ε k0=>?_;clear k0
  refine V.g [.kb false] fun _ _ G1=>?_;intro S_ s_
  refine nm (Un.dv ((Un.read s).1) 0:Int) fun n1 hn1=>?_;refine nm (Un.dv ((Un.read s).1) 1:Int) fun n2 hn2=>?_;refine nm (Un.dv ((Un.read s).1) 2:Int) fun n3 hn3=>?_;refine nm (Un.dv ((Un.read s).1) 3:Int) fun n4 hn4=>?_;refine nm (Un.dv ((Un.read s).1) 4:Int) fun n5 hn5=>?_;refine nm (Un.dv ((Un.read s).1) 5:Int) fun n6 hn6=>?_;refine nm (Fr.rS (((Un.read s).1).isSome=true) (Un.fv ((Un.read s).1)):Int) fun n7 hn7=>?_;refine nl (Fr.rD (((Un.read s).1).isSome=true) (Un.fv ((Un.read s).1))) fun l1 hl1 hl1n=>?_;refine nm (Fr.rT (((Un.read s).1).isSome=true):Int) fun n8 hn8=>?_;refine nl (Fr.rE (((Un.read s).1).isSome=true) (Un.fv ((Un.read s).1))) fun l2 hl2 hl2n=>?_;refine nm ((Un.read s).2:Int) fun n9 hn9=>?_;have zr:(Un.read s).1.isSome=true→_:=fun h=>Fr.Fz.of h hn7 hl1 hn8 hl2
  refine V.r [.k (tv s),.ct g0 1 19 false [] [] [] (fun _ G=>uread_ctv s (by omega) n1 hn1 n2 hn2 n3 hn3 n4 hn4 n5 hn5 n6 hn6 n7 hn7 l1 hl1 n8 hn8 l2 hl2 n9 hn9),.v fun G=>.tuple #[.agg #[iv n1,iv n2,iv n3,iv n4,iv n5,iv n6,iv n7,((G 1).ss 0).v,iv n8,((G 1).ss 1).v],iv n9],.v fun G=>.agg #[iv n1,iv n2,iv n3,iv n4,iv n5,iv n6,iv n7,((G 1).ss 0).v,iv n8,((G 1).ss 1).v],.k (iv n9),.nb 5 0 (fun b=>pp b 0) 42 (fun _=>#[iv 0,iv 0,iv 0,iv 0,iv 0,iv 0,iv 0,.slice none 0 0,iv 0,.slice none 0 0]),.st 0 (fun G=>.blk ((G 5).b) #[iv n1,iv n2,iv n3,iv n4,iv n5,iv n6,iv n7,((G 1).ss 0).v,iv n8,((G 1).ss 1).v] 42),.k (iv n9)] fun _ _ G2 kw2=>?_;intro S_ s_
  obtain ⟨⟨kl1, -⟩,⟨kl2, -⟩, -⟩:Lq l1 (((G2 1).ss 0).v)∧Lq l2 (((G2 1).ss 1).v)∧True:=kq kw2;clear kw2;refine nm (Fr.rS (q≠0) (Rat.divInt p q):Int) fun n10 hn10=>?_;refine nl (Fr.rD (q≠0) (Rat.divInt p q)) fun l3 hl3 hl3n=>?_;refine nm (Fr.rT (q≠0):Int) fun n11 hn11=>?_;refine nl (Fr.rE (q≠0) (Rat.divInt p q)) fun l4 hl4 hl4n=>?_;refine nm (if q=0 then (15:Int) else 0:Int) fun n12 hn12=>?_;have zo:=Fr.Fz.of hq0 hn10 hl3 hn11 hl4;refine V.r [.k (iv p),.k (iv q),.ct g0 2 59 false [] [] [] (fun _ G=>r5of_ctv p q (by omega) (by omega) n10 hn10 l3 hl3 n11 hn11 l4 hl4 n12 hn12),.v fun G=>.tuple #[ag (DFrac.mk ⟨n10,l3,(G 2).ss 0⟩ ⟨n11,l4,(G 2).ss 1⟩),iv n12],.v fun G=>ag (DFrac.mk ⟨n10,l3,(G 2).ss 0⟩ ⟨n11,l4,(G 2).ss 1⟩),.k (iv n12),.nb 6 1 (fun b=>pp b 0) 29 (fun _=>ca (DFrac.mk ⟨0,[],{}⟩ ⟨0,[],{}⟩)),.st 1 (fun G=>.blk ((G 6).b) (ca (DFrac.mk ⟨n10,l3,(G 2).ss 0⟩ ⟨n11,l4,(G 2).ss 1⟩)) 29),.k (iv n12)] fun _ _ G3 kw3=>?_;intro S_ s_;obtain ⟨⟨kl3, -⟩,⟨kl4, -⟩, -⟩:Lq l3 (((G3 2).ss 0).v)∧Lq l4 (((G3 2).ss 1).v)∧True:=kq kw3;clear kw3;refine nm (Dm.text [n1,n2,n3,n4,n5,n6]:ByteArray) fun t1 ht1=>?_;refine nm (((decide (n9=0)) && (decide (t1=d))) && (decide (n7=n10∧l1=l3∧n8=n11∧l2=l4)):Bool) fun p1 hp1=>?_;refine V.g [.k (iv n9),.k (bv (decide (n9=0))),.k (bv (decide (n9=0))),.k (pp ((G2 5).b) 0),.ld 0 0 true (fun _=>[iv n1,iv n2,iv n3,iv n4,iv n5,iv n6]),.cp (gT (b:=decide (n9=0)) iDT) 5 98 [] (fun hg G=>text_ctv n1 n2 n3 n4 n5 n6 t1 ht1),.k (tv d),.seq t1 d,.and g0 false (decide (n9=0)) (decide (t1=d)),.k (bv ((decide (n9=0)) && (decide (t1=d)))),.k (pp ((G2 5).b) 6),.ld 0 6 true (fun _=>Dat.cells (DFrac.mk ⟨n7,l1,(G2 1).ss 0⟩ ⟨n8,l2,(G2 1).ss 1⟩)),.ld 1 0 true (fun _=>Dat.cells (DFrac.mk ⟨n10,l3,(G3 2).ss 0⟩ ⟨n11,l4,(G3 2).ss 1⟩)),.cp (gT (b:=(decide (n9=0)) && (decide (t1=d))) (iAT iDT iDT)) 13 14 [(kf true (.f 0) l1 (fun _=>(G2 1).ss 0)).a,(kf true (.f 1) l2 (fun _=>(G2 1).ss 1)).a,(kf true (.f 2) l3 (fun _=>(G3 2).ss 0)).a,(kf true (.f 3) l4 (fun _=>(G3 2).ss 1)).a] (fun hg G=>same5_ct n7 l1 ((G2 1).ss 0) n8 l2 ((G2 1).ss 1) n10 l3 ((G3 2).ss 0) n11 l4 ((G3 2).ss 1)),.andn g0 false ((decide (n9=0)) && (decide (t1=d))) (decide (n7=n10∧l1=l3∧n8=n11∧l2=l4)) p1 hp1,.k (bv p1)] fun _ _ G4=>?_;intro S_ s_;have e0:p1=decide (Un.means s d p q):=by
    refine Bool.eq_iff_iff.2 (Iff.trans (iN hp1 (iAT (iAT iDT iDT) iDT)) (Iff.trans ?_ decide_eq_true_iff.symm));show (n9=0∧t1=d)∧_↔_;rw [ht1,hn1,hn2,hn3,hn4,hn5,hn6];constructor
    · rintro ⟨⟨h1,h2⟩,h3⟩;rw [hn9] at h1;have hs1:=Un.read_some h1;exact ⟨⟨h1,h2⟩,hs1,(Fr.Fz.iff (zr hs1) zo).1 h3⟩
    rintro ⟨⟨h1,h2⟩,hs1,h3⟩;exact ⟨⟨by rw [hn9];exact h1,h2⟩,(Fr.Fz.iff (zr hs1) zo).2 h3⟩
  exact V.rt [0] [] [] [] [] [] (bv p1) (cong1 (fun (x0:Bool)=>(bv x0:Value)) e0)
theorem meanst_ct (s d:ByteArray) (p q:Int) (hs:s.size≤1000000) (hp: -9223372036854775808≤p∧p≤9223372036854775807) (hq: -9223372036854775808≤q∧q≤9223372036854775807) (hq0:q≠0) (hT:Un.means s d p q) :
    Cp Tryz.prog 57 #[tv s,tv d,iv p,iv q] [] (bv (true)):=by
  have h:=means_ct  s d p q hs hp hq hq0;rw [decide_eq_true hT] at h;exact h
set_option maxRecDepth 10000 in
theorem fails_ct (s:ByteArray) (want:Int) (hs:s.size≤1000000) :
    Cp Tryz.prog 58 #[tv s,iv want] [] (bv (decide ((Un.read s).2=want))):=by
  refine V.fn mo Tryz.func58 15 1 (by kernel_rfl) fun w H ε k0=>?_;clear k0
  refine V.g [.kb false] fun _ _ G1=>?_;intro S_ s_
  refine nm (Un.dv ((Un.read s).1) 0:Int) fun n1 hn1=>?_;refine nm (Un.dv ((Un.read s).1) 1:Int) fun n2 hn2=>?_;refine nm (Un.dv ((Un.read s).1) 2:Int) fun n3 hn3=>?_;refine nm (Un.dv ((Un.read s).1) 3:Int) fun n4 hn4=>?_;refine nm (Un.dv ((Un.read s).1) 4:Int) fun n5 hn5=>?_;refine nm (Un.dv ((Un.read s).1) 5:Int) fun n6 hn6=>?_;refine nm (Fr.rS (((Un.read s).1).isSome=true) (Un.fv ((Un.read s).1)):Int) fun n7 hn7=>?_;refine nl (Fr.rD (((Un.read s).1).isSome=true) (Un.fv ((Un.read s).1))) fun l1 hl1 hl1n=>?_;refine nm (Fr.rT (((Un.read s).1).isSome=true):Int) fun n8 hn8=>?_;refine nl (Fr.rE (((Un.read s).1).isSome=true) (Un.fv ((Un.read s).1))) fun l2 hl2 hl2n=>?_;refine nm ((Un.read s).2:Int) fun n9 hn9=>?_;refine V.r [.k (tv s),.ct g0 1 19 false [] [] [] (fun _ G=>uread_ctv s (by omega) n1 hn1 n2 hn2 n3 hn3 n4 hn4 n5 hn5 n6 hn6 n7 hn7 l1 hl1 n8 hn8 l2 hl2 n9 hn9),.v fun G=>.tuple #[.agg #[iv n1,iv n2,iv n3,iv n4,iv n5,iv n6,iv n7,((G 1).ss 0).v,iv n8,((G 1).ss 1).v],iv n9],.v fun G=>.agg #[iv n1,iv n2,iv n3,iv n4,iv n5,iv n6,iv n7,((G 1).ss 0).v,iv n8,((G 1).ss 1).v],.k (iv n9),.nb 5 0 (fun b=>pp b 0) 42 (fun _=>#[iv 0,iv 0,iv 0,iv 0,iv 0,iv 0,iv 0,.slice none 0 0,iv 0,.slice none 0 0]),.st 0 (fun G=>.blk ((G 5).b) #[iv n1,iv n2,iv n3,iv n4,iv n5,iv n6,iv n7,((G 1).ss 0).v,iv n8,((G 1).ss 1).v] 42),.k (iv n9)] fun _ _ G2 kw2=>?_;intro S_ s_
  obtain ⟨⟨kl1, -⟩,⟨kl2, -⟩, -⟩:Lq l1 (((G2 1).ss 0).v)∧Lq l2 (((G2 1).ss 1).v)∧True:=kq kw2;clear kw2;refine V.g [.k (iv n9),.k (iv want),.k (bv (decide (n9=want))),.k (bv (decide (n9=want)))] fun _ _ G3=>?_;intro S_ s_;have e0:(decide (n9=want))=decide ((Un.read s).2=want):=by rw [hn9]
  exact V.rt [0] [] [] [] [] [] (bv (decide (n9=want))) (cong1 (fun (x0:Bool)=>(bv x0:Value)) e0)
theorem failst_ct (s:ByteArray) (want:Int) (hs:s.size≤1000000) (hT:(Un.read s).2=want) :
    Cp Tryz.prog 58 #[tv s,iv want] [] (bv (true)):=by
  have h:=fails_ct  s want hs;rw [decide_eq_true hT] at h;exact h
set_option maxRecDepth 10000 in
theorem sane9_ct :
    Cp Tryz.prog 17 #[] [] (bv true):=by
  refine V.fn mo Tryz.func17 81 3 (by kernel_rfl) fun w H ε k0=>?_;clear k0
  refine V.g [.kb false] fun _ _ G1=>?_;intro S s
  refine V.g [.cp g0 0 57 [] (fun _ G=>meanst_ct ⟨#[107,87,104]⟩ ⟨#[74]⟩ (3600000:Int) (1:Int) (by decide) ⟨by decide,by decide⟩ ⟨by decide,by decide⟩ (by decide) Un.means1),.kb true,.cp g0 2 57 [] (fun _ G=>meanst_ct ⟨#[107,103,47,109,51]⟩ ⟨#[103,47,109,51]⟩ (1000:Int) (1:Int) (by decide) ⟨by decide,by decide⟩ ⟨by decide,by decide⟩ (by decide) Un.means2),.kb true,.kb true,.cp g0 5 57 [] (fun _ G=>meanst_ct ⟨#[108,47,104]⟩ ⟨#[109,51,47,115]⟩ (1:Int) (3600000:Int) (by decide) ⟨by decide,by decide⟩ ⟨by decide,by decide⟩ (by decide) Un.means3),.kb true,.kb true,.cp g0 8 57 [] (fun _ G=>meanst_ct ⟨#[49,47,100,50]⟩ ⟨#[49,47,115,50]⟩ (1:Int) (7464960000:Int) (by decide) ⟨by decide,by decide⟩ ⟨by decide,by decide⟩ (by decide) Un.means4),.kb true,.kb true,.cp g0 11 57 [] (fun _ G=>meanst_ct ⟨#[109,109,50]⟩ ⟨#[109,50]⟩ (1:Int) (1000000:Int) (by decide) ⟨by decide,by decide⟩ ⟨by decide,by decide⟩ (by decide) Un.means5),.kb true,.kb true,.cp g0 14 57 [] (fun _ G=>meanst_ct ByteArray.empty ⟨#[49]⟩ (1:Int) (1:Int) (by decide) ⟨by decide,by decide⟩ ⟨by decide,by decide⟩ (by decide) Un.means6),.kb true,.kb true,.cp g0 17 57 [] (fun _ G=>meanst_ct ⟨#[49]⟩ ⟨#[49]⟩ (1:Int) (1:Int) (by decide) ⟨by decide,by decide⟩ ⟨by decide,by decide⟩ (by decide) Un.means7),.kb true,.kb true,.cp g0 20 57 [] (fun _ G=>meanst_ct ⟨#[109,57,42,109,47,109]⟩ ⟨#[109,57]⟩ (1:Int) (1:Int) (by decide) ⟨by decide,by decide⟩ ⟨by decide,by decide⟩ (by decide) Un.means8),.kb true,.kb true] fun _ _ G2=>?_;intro S s
  refine V.g [.cp g0 0 58 [] (fun _ G=>failst_ct ⟨#[107,116]⟩ (11:Int) (by decide) Un.fails1),.kb true,.cp g0 2 58 [] (fun _ G=>failst_ct ⟨#[87]⟩ (11:Int) (by decide) Un.fails2),.kb true,.kb true,.cp g0 5 58 [] (fun _ G=>failst_ct ⟨#[103,47]⟩ (12:Int) (by decide) Un.fails3),.kb true,.kb true,.cp g0 8 58 [] (fun _ G=>failst_ct ⟨#[103,49]⟩ (12:Int) (by decide) Un.fails4),.kb true,.kb true,.cp g0 11 58 [] (fun _ G=>failst_ct ⟨#[50]⟩ (12:Int) (by decide) Un.fails5),.kb true,.kb true,.cp g0 14 58 [] (fun _ G=>failst_ct ⟨#[49,103]⟩ (12:Int) (by decide) Un.fails6),.kb true,.kb true,.cp g0 17 58 [] (fun _ G=>failst_ct ⟨#[109,57,42,109]⟩ (3:Int) (by decide) Un.fails7),.kb true,.kb true] fun _ _ G3=>?_;intro S s
  refine nm (Un.dv ((Un.read ⟨#[107,87,104]⟩).1) 0:Int) fun n1 hn1=>?_;refine nm (Un.dv ((Un.read ⟨#[107,87,104]⟩).1) 1:Int) fun n2 hn2=>?_;refine nm (Un.dv ((Un.read ⟨#[107,87,104]⟩).1) 2:Int) fun n3 hn3=>?_;refine nm (Un.dv ((Un.read ⟨#[107,87,104]⟩).1) 3:Int) fun n4 hn4=>?_;refine nm (Un.dv ((Un.read ⟨#[107,87,104]⟩).1) 4:Int) fun n5 hn5=>?_;refine nm (Un.dv ((Un.read ⟨#[107,87,104]⟩).1) 5:Int) fun n6 hn6=>?_;refine nm (Fr.rS (((Un.read ⟨#[107,87,104]⟩).1).isSome=true) (Un.fv ((Un.read ⟨#[107,87,104]⟩).1)):Int) fun n7 hn7=>?_;refine nl (Fr.rD (((Un.read ⟨#[107,87,104]⟩).1).isSome=true) (Un.fv ((Un.read ⟨#[107,87,104]⟩).1))) fun l1 hl1 hl1n=>?_;refine nm (Fr.rT (((Un.read ⟨#[107,87,104]⟩).1).isSome=true):Int) fun n8 hn8=>?_;refine nl (Fr.rE (((Un.read ⟨#[107,87,104]⟩).1).isSome=true) (Un.fv ((Un.read ⟨#[107,87,104]⟩).1))) fun l2 hl2 hl2n=>?_;refine nm ((Un.read ⟨#[107,87,104]⟩).2:Int) fun n9 hn9=>?_;have zr:=Fr.Fz.of (show (Un.read ⟨#[107,87,104]⟩).1.isSome=true by rw [Un.kwh];rfl) hn7 hl1 hn8 hl2
  rw [show Un.fv (Un.read ⟨#[107,87,104]⟩).1=3600000 by rw [Un.kwh];rfl] at zr;have hzl:=zr.len (k:=4) (by decide +kernel);have hzl1:=hzl.1;have hzl2:=hzl.2;have en1:n1=0:=by rw [hn1,Un.kwh];rfl
  have en2:n2=0:=by rw [hn2,Un.kwh];rfl
  have en3:n3=0:=by rw [hn3,Un.kwh];rfl
  have en4:n4=1:=by rw [hn4,Un.kwh];rfl
  have en5:n5=0:=by rw [hn5,Un.kwh];rfl
  have en6:n6=0:=by rw [hn6,Un.kwh];rfl
  have ekE:n9=0:=by rw [hn9,Un.kwh]
  refine V.r [.ct g0 0 19 false [] [] [] (fun _ G=>uread_ctv ⟨#[107,87,104]⟩ (by decide) n1 hn1 n2 hn2 n3 hn3 n4 hn4 n5 hn5 n6 hn6 n7 hn7 l1 hl1 n8 hn8 l2 hl2 n9 hn9),.v fun G=>.tuple #[.agg #[iv n1,iv n2,iv n3,iv n4,iv n5,iv n6,iv n7,((G 0).ss 0).v,iv n8,((G 0).ss 1).v],iv n9],.v fun G=>.agg #[iv n1,iv n2,iv n3,iv n4,iv n5,iv n6,iv n7,((G 0).ss 0).v,iv n8,((G 0).ss 1).v],.k (iv n9),.nb 4 0 (fun b=>pp b 0) 42 (fun _=>#[iv 0,iv 0,iv 0,iv 0,iv 0,iv 0,iv 0,.slice none 0 0,iv 0,.slice none 0 0]),.st 0 (fun G=>.blk ((G 4).b) #[iv n1,iv n2,iv n3,iv n4,iv n5,iv n6,iv n7,((G 0).ss 0).v,iv n8,((G 0).ss 1).v] 42),.k (iv n9)] fun _ _ G4 kw4=>?_;intro S s
  obtain ⟨⟨kl1, -⟩,⟨kl2, -⟩, -⟩:Lq l1 (((G4 0).ss 0).v)∧Lq l2 (((G4 0).ss 1).v)∧True:=kq kw4;clear kw4;refine nm (Fr.rS ((2:Int)≠0) (Rat.divInt (3:Int) (2:Int)):Int) fun n10 hn10=>?_;refine nl (Fr.rD ((2:Int)≠0) (Rat.divInt (3:Int) (2:Int))) fun l3 hl3 hl3n=>?_;refine nm (Fr.rT ((2:Int)≠0):Int) fun n11 hn11=>?_;refine nl (Fr.rE ((2:Int)≠0) (Rat.divInt (3:Int) (2:Int))) fun l4 hl4 hl4n=>?_;refine nm (if (2:Int)=0 then (15:Int) else 0:Int) fun n12 hn12=>?_;have zh:=Fr.Fz.of (show (2:Int)≠0 by decide) hn10 hl3 hn11 hl4;have hzh:=zh.len (k:=4) (by decide +kernel);have hzh1:=hzh.1;have hzh2:=hzh.2;refine V.r [.ct g0 0 59 false [] [] [] (fun _ G=>r5of_ctv (3:Int) (2:Int) ⟨by decide,by decide⟩ ⟨by decide,by decide⟩ n10 hn10 l3 hl3 n11 hn11 l4 hl4 n12 hn12),.v fun G=>.tuple #[ag (DFrac.mk ⟨n10,l3,(G 0).ss 0⟩ ⟨n11,l4,(G 0).ss 1⟩),iv n12],.v fun G=>ag (DFrac.mk ⟨n10,l3,(G 0).ss 0⟩ ⟨n11,l4,(G 0).ss 1⟩),.k (iv n12),.nb 4 1 (fun b=>pp b 0) 29 (fun _=>ca (DFrac.mk ⟨0,[],{}⟩ ⟨0,[],{}⟩)),.st 1 (fun G=>.blk ((G 4).b) (ca (DFrac.mk ⟨n10,l3,(G 0).ss 0⟩ ⟨n11,l4,(G 0).ss 1⟩)) 29),.k (iv n12)] fun _ _ G5 kw5=>?_;intro S s;obtain ⟨⟨kl3, -⟩,⟨kl4, -⟩, -⟩:Lq l3 (((G5 0).ss 0).v)∧Lq l4 (((G5 0).ss 1).v)∧True:=kq kw5;clear kw5;refine nm (Fr.rS ((Un.UR [n1,n2,n3,n4,n5,n6] n7 l1 n8 l2∧Fr.FrB n10 l3 n11 l4)) ((Fr.fq n10 l3 l4) * (Fr.fq n7 l1 l2)):Int) fun n13 hn13=>?_;refine nl (Fr.rD ((Un.UR [n1,n2,n3,n4,n5,n6] n7 l1 n8 l2∧Fr.FrB n10 l3 n11 l4)) ((Fr.fq n10 l3 l4) * (Fr.fq n7 l1 l2))) fun l5 hl5 hl5n=>?_;refine nm (Fr.rT ((Un.UR [n1,n2,n3,n4,n5,n6] n7 l1 n8 l2∧Fr.FrB n10 l3 n11 l4)):Int) fun n14 hn14=>?_;refine nl (Fr.rE ((Un.UR [n1,n2,n3,n4,n5,n6] n7 l1 n8 l2∧Fr.FrB n10 l3 n11 l4)) ((Fr.fq n10 l3 l4) * (Fr.fq n7 l1 l2))) fun l6 hl6 hl6n=>?_;refine nm (if (Un.UR [n1,n2,n3,n4,n5,n6] n7 l1 n8 l2∧Fr.FrB n10 l3 n11 l4) then (0:Int) else 1:Int) fun n15 hn15=>?_;have hUR:Un.UR [n1,n2,n3,n4,n5,n6] n7 l1 n8 l2:=Un.ur_of (by rw [en1,en2,en3,en4,en5,en6];decide) zr (by decide);have zv:=Fr.Fz.of (And.intro hUR zh.rt) hn13 hl5 hn14 hl6;rw [zh.v,zr.v,Un.kwh2] at zv;have evE:n15=0:=by rw [hn15,if_pos ⟨hUR,zh.rt⟩]
  refine V.r [.ld 1 0 true (fun _=>Dat.cells (DFrac.mk ⟨n10,l3,(G5 0).ss 0⟩ ⟨n11,l4,(G5 0).ss 1⟩)),.ld 0 0 true (fun _=>[iv n1,iv n2,iv n3,iv n4,iv n5,iv n6,iv n7,((G4 0).ss 0).v,iv n8,((G4 0).ss 1).v]),.ct g0 2 28 false [] [] [(kf true (.f 2) l3 (fun _=>(G5 0).ss 0)).a,(kf true (.f 3) l4 (fun _=>(G5 0).ss 1)).a,(kf true (.f 0) l1 (fun _=>(G4 0).ss 0)).a,(kf true (.f 1) l2 (fun _=>(G4 0).ss 1)).a] (fun _ G=>ufrom_ctv n10 l3 ((G5 0).ss 0) n11 l4 ((G5 0).ss 1) n1 n2 n3 n4 n5 n6 n7 l1 ((G4 0).ss 0) n8 l2 ((G4 0).ss 1) (by omega) (by omega) (by omega) (by omega) n13 hn13 l5 hl5 n14 hn14 l6 hl6 n15 hn15),.v fun G=>.tuple #[ag (DFrac.mk ⟨n13,l5,(G 2).ss 0⟩ ⟨n14,l6,(G 2).ss 1⟩),iv n15],.v fun G=>ag (DFrac.mk ⟨n13,l5,(G 2).ss 0⟩ ⟨n14,l6,(G 2).ss 1⟩),.k (iv n15),.nb 6 2 (fun b=>pp b 0) 29 (fun _=>ca (DFrac.mk ⟨0,[],{}⟩ ⟨0,[],{}⟩)),.st 2 (fun G=>.blk ((G 6).b) (ca (DFrac.mk ⟨n13,l5,(G 2).ss 0⟩ ⟨n14,l6,(G 2).ss 1⟩)) 29),.k (iv n15)] fun _ _ G6 kw6=>?_;intro S s
  obtain ⟨⟨kl5, -⟩,⟨kl6, -⟩, -⟩:Lq l5 (((G6 2).ss 0).v)∧Lq l6 (((G6 2).ss 1).v)∧True:=kq kw6;clear kw6;refine nm (Bg.sgn (5400000:Int):Int) fun n16 hn16=>?_;refine nl (Bg.dig (5400000:Int).natAbs) fun l7 hl7 hl7n=>?_;refine nl (Bg.dig 1) fun l8 hl8 hl8n=>?_;refine nm (((decide (n9=0)) && (decide (n15=0))) && true:Bool) fun p1 hp1=>?_;have zi:Fr.Fz n16 l7 1 l8 ((5400000:Int):Rat):=by subst_vars;exact Un.intz _
  have hsm:=Fr.Fz.inj zv zi;refine V.g [.kb true,.kb true,.kb true,.kb true,.kb true,.k (iv n9),.k (bv (decide (n9=0))),.k (bv (decide (n9=0))),.k (bv (decide (n9=0))),.k (iv n15),.k (bv (decide (n15=0))),.and g0 false (decide (n9=0)) (decide (n15=0)),.k (bv ((decide (n9=0)) && (decide (n15=0)))),.ld 2 0 true (fun _=>Dat.cells (DFrac.mk ⟨n13,l5,(G6 2).ss 0⟩ ⟨n14,l6,(G6 2).ss 1⟩)),.ct (gT (b:=(decide (n9=0)) && (decide (n15=0))) (iAT iDT iDT)) 14 33 false [] [] [] (fun hg G=>r5int_ctv (5400000:Int) (by omega) n16 hn16 l7 hl7 l8 hl8),.cp (gT (b:=(decide (n9=0)) && (decide (n15=0))) (iAT iDT iDT)) 15 14 [(kf true (.f 4) l5 (fun _=>(G6 2).ss 0)).a,(kf true (.f 5) l6 (fun _=>(G6 2).ss 1)).a,(kf true (.g 14 0) l7 (fun G=>(G 14).ss 0)).a,(kf true (.g 14 1) l8 (fun G=>(G 14).ss 1)).a] (fun hg G=>same5t_ct n13 l5 ((G6 2).ss 0) n14 l6 ((G6 2).ss 1) n16 l7 ((G 14).ss 0) (1:Int) l8 ((G 14).ss 1) hsm),.andn g0 false ((decide (n9=0)) && (decide (n15=0))) true p1 hp1,.k (bv p1)] fun _ _ G7=>?_;intro S s
  have e0:p1=true:=by
    refine (iN hp1 (iAT (iAT iDT iDT) iTT)).2 ?_;exact ⟨⟨ekE,evE⟩,trivial⟩
  exact V.rt [0] [] [] [] [] [] (bv p1) (cong1 (fun (x0:Bool)=>(bv x0:Value)) e0)

open Go Go.Proofs
set_option maxRecDepth 10000 in
theorem r5sign_ct (c:Int) (d:List Int) (i:SV) (h:Int) (e:List Int) (j:SV) (hfP:d.length≤1073741824) (hfQ:e.length≤1073741824) :
    Cp Tryz.prog 73 #[ag (DFrac.mk ⟨c,d,i⟩ ⟨h,e,j⟩)] [fs true d i,fs true e j] (iv (if Fr.FrB c d h e then c else 0)):=by
  refine V.fn mo Tryz.func73 9 1 (by kernel_rfl) fun w H ε k0=>?_;obtain ⟨⟨kl1, -⟩,⟨kl2, -⟩, -⟩:Lq d i.v∧Lq e j.v∧True:=kq k0
  clear k0;refine V.g [.nb 0 0 (fun b=>pp b 0) 29 (fun _=>ca (DFrac.mk ⟨c,d,i⟩ ⟨h,e,j⟩)),.k (iv 0)] fun _ _ G1=>?_;intro S s
  refine V.g [.ld 0 0 true (fun _=>Dat.cells (DFrac.mk ⟨c,d,i⟩ ⟨h,e,j⟩)),.cp g0 1 39 [(kf false (.f 0) d (fun _=>i)).a,(kf false (.f 1) e (fun _=>j)).a] (fun _ G=>r5right_ct c d i h e j (by omega) (by omega)),.k (bv (!(decide (Fr.FrB c d h e))))] fun _ _ G2=>?_;intro S s
  refine V.cn (b:=!(decide (Fr.FrB c d h e))) (iNT iDF) (iNF iDT) (fun q1=>?_) (fun q2=>?_)
  · refine V.g [.k (iv 0)] fun _ _ G3=>?_;intro S s
    have e0:(0:Int)=if Fr.FrB c d h e then c else 0:=(if_neg q1).symm
    exact V.rt [0] [] [] [] [] [] (iv 0) (cong1 (fun (x0:Int)=>(iv x0:Value)) e0)
  refine V.g [.k (pp ((G1 0).b) 0),.k (pp ((G1 0).b) 0),.ld 0 0 false (fun _=>[iv c]),.k (iv c)] fun _ _ G4=>?_;intro S s
  have e0:c=if Fr.FrB c d h e then c else 0:=(if_pos (by first | exact q2 | exact Decidable.not_not.1 q2)).symm
  exact V.rt [0] [] [] [] [] [] (iv c) (cong1 (fun (x0:Int)=>(iv x0:Value)) e0)
theorem r5sign_ctv (c:Int) (a:List Int) (d:SV) (e:Int) (b:List Int) (f:SV) (hfP:a.length≤1073741824) (hfQ:b.length≤1073741824) (rv0:Int) (erv0:rv0=if Fr.FrB c a e b then c else 0) :
    Cp Tryz.prog 73 #[ag (DFrac.mk ⟨c,a,d⟩ ⟨e,b,f⟩)] [fs true a d,fs true b f] (iv rv0):=by
  subst erv0;exact r5sign_ct c a d e b f hfP hfQ

open Go Go.Proofs
set_option maxRecDepth 10000 in
theorem r8mul_ct (a0 a1 a2 a3 a4 a5 b0 b1 b2 b3 b4 b5:Int) :
    Cp Tryz.prog 69 #[.agg #[iv a0,iv a1,iv a2,iv a3,iv a4,iv a5],.agg #[iv b0,iv b1,iv b2,iv b3,iv b4,iv b5]] [] (.tuple #[.agg #[iv (Dm.opV (Dm.Rt [a0,a1,a2,a3,a4,a5]∧Dm.Rt [b0,b1,b2,b3,b4,b5]) [a0+b0,a1+b1,a2+b2,a3+b3,a4+b4,a5+b5] 0),iv (Dm.opV (Dm.Rt [a0,a1,a2,a3,a4,a5]∧Dm.Rt [b0,b1,b2,b3,b4,b5]) [a0+b0,a1+b1,a2+b2,a3+b3,a4+b4,a5+b5] 1),iv (Dm.opV (Dm.Rt [a0,a1,a2,a3,a4,a5]∧Dm.Rt [b0,b1,b2,b3,b4,b5]) [a0+b0,a1+b1,a2+b2,a3+b3,a4+b4,a5+b5] 2),iv (Dm.opV (Dm.Rt [a0,a1,a2,a3,a4,a5]∧Dm.Rt [b0,b1,b2,b3,b4,b5]) [a0+b0,a1+b1,a2+b2,a3+b3,a4+b4,a5+b5] 3),iv (Dm.opV (Dm.Rt [a0,a1,a2,a3,a4,a5]∧Dm.Rt [b0,b1,b2,b3,b4,b5]) [a0+b0,a1+b1,a2+b2,a3+b3,a4+b4,a5+b5] 4),iv (Dm.opV (Dm.Rt [a0,a1,a2,a3,a4,a5]∧Dm.Rt [b0,b1,b2,b3,b4,b5]) [a0+b0,a1+b1,a2+b2,a3+b3,a4+b4,a5+b5] 5)],iv (Dm.opE (Dm.Rt [a0,a1,a2,a3,a4,a5]∧Dm.Rt [b0,b1,b2,b3,b4,b5]) [a0+b0,a1+b1,a2+b2,a3+b3,a4+b4,a5+b5])]):=by
  refine V.fn mo Tryz.func69 36 4 (by kernel_rfl) fun w H ε k0=>?_;clear k0
  refine V.g [.nb 0 0 (fun b=>pp b 0) 40 (fun _=>#[iv a0,iv a1,iv a2,iv a3,iv a4,iv a5]),.nb 1 1 (fun b=>pp b 0) 40 (fun _=>#[iv b0,iv b1,iv b2,iv b3,iv b4,iv b5]),.nb 2 2 (fun b=>pp b 0) 40 (fun _=>#[iv 0,iv 0,iv 0,iv 0,iv 0,iv 0]),.k (iv 0)] fun _ _ G1=>?_;intro S s
  refine nm ((!(decide (Dm.Rt [a0,a1,a2,a3,a4,a5]))) || (!(decide (Dm.Rt [b0,b1,b2,b3,b4,b5]))):Bool) fun p1 hp1=>?_;refine V.g [.ld 0 0 true (fun _=>[iv a0,iv a1,iv a2,iv a3,iv a4,iv a5]),.cp g0 1 67 [] (fun _ G=>r8right_ct a0 a1 a2 a3 a4 a5),.k (bv (!(decide (Dm.Rt [a0,a1,a2,a3,a4,a5])))),.k (bv (!(decide (Dm.Rt [a0,a1,a2,a3,a4,a5])))),.ld 1 0 true (fun _=>[iv b0,iv b1,iv b2,iv b3,iv b4,iv b5]),.cp (gF (b:=!(decide (Dm.Rt [a0,a1,a2,a3,a4,a5]))) (iNF iDT)) 5 67 [] (fun hg G=>r8right_ct b0 b1 b2 b3 b4 b5),.k (bv (!(decide (Dm.Rt [b0,b1,b2,b3,b4,b5])))),.orn g0 false (!(decide (Dm.Rt [a0,a1,a2,a3,a4,a5]))) (!(decide (Dm.Rt [b0,b1,b2,b3,b4,b5]))) p1 hp1] fun _ _ G2=>?_;intro S s
  refine V.cn (b:=p1) (iN hp1 (iOT (iNT iDF) (iNT iDF))) (iN hp1 (iOF (iNF iDT) (iNF iDT))) (fun q1=>?_) (fun q2=>?_)
  · have hN:¬ (Dm.Rt [a0,a1,a2,a3,a4,a5]∧Dm.Rt [b0,b1,b2,b3,b4,b5]):=by rintro ⟨h1,h2⟩;rcases q1 with h | h;exact h h1;exact h h2
    refine V.g [.k (.agg #[iv 0,iv 0,iv 0,iv 0,iv 0,iv 0]),.st 2 (fun _=>.blk ((G1 2).b) #[iv 0,iv 0,iv 0,iv 0,iv 0,iv 0] 40),.k (iv 1)] fun _ _ G3=>?_;intro S s
    have e0:(0:Int)=Dm.opV (Dm.Rt [a0,a1,a2,a3,a4,a5]∧Dm.Rt [b0,b1,b2,b3,b4,b5]) [a0+b0,a1+b1,a2+b2,a3+b3,a4+b4,a5+b5] 0:=(Dm.opV_n hN _ 0).symm;have e1:(0:Int)=Dm.opV (Dm.Rt [a0,a1,a2,a3,a4,a5]∧Dm.Rt [b0,b1,b2,b3,b4,b5]) [a0+b0,a1+b1,a2+b2,a3+b3,a4+b4,a5+b5] 1:=(Dm.opV_n hN _ 1).symm;have e2:(0:Int)=Dm.opV (Dm.Rt [a0,a1,a2,a3,a4,a5]∧Dm.Rt [b0,b1,b2,b3,b4,b5]) [a0+b0,a1+b1,a2+b2,a3+b3,a4+b4,a5+b5] 2:=(Dm.opV_n hN _ 2).symm;have e3:(0:Int)=Dm.opV (Dm.Rt [a0,a1,a2,a3,a4,a5]∧Dm.Rt [b0,b1,b2,b3,b4,b5]) [a0+b0,a1+b1,a2+b2,a3+b3,a4+b4,a5+b5] 3:=(Dm.opV_n hN _ 3).symm;have e4:(0:Int)=Dm.opV (Dm.Rt [a0,a1,a2,a3,a4,a5]∧Dm.Rt [b0,b1,b2,b3,b4,b5]) [a0+b0,a1+b1,a2+b2,a3+b3,a4+b4,a5+b5] 4:=(Dm.opV_n hN _ 4).symm;have e5:(0:Int)=Dm.opV (Dm.Rt [a0,a1,a2,a3,a4,a5]∧Dm.Rt [b0,b1,b2,b3,b4,b5]) [a0+b0,a1+b1,a2+b2,a3+b3,a4+b4,a5+b5] 5:=(Dm.opV_n hN _ 5).symm;have e6:(1:Int)=Dm.opE (Dm.Rt [a0,a1,a2,a3,a4,a5]∧Dm.Rt [b0,b1,b2,b3,b4,b5]) [a0+b0,a1+b1,a2+b2,a3+b3,a4+b4,a5+b5]:=(Dm.opE_n hN _).symm;exact V.rt [2,0] [] [] [] [] [] (.tuple #[.agg #[iv 0,iv 0,iv 0,iv 0,iv 0,iv 0],iv 1]) (cong7 (fun (x0 x1 x2 x3 x4 x5 x6:Int)=>(.tuple #[.agg #[iv x0,iv x1,iv x2,iv x3,iv x4,iv x5],iv x6]:Value)) e0 e1 e2 e3 e4 e5 e6)
  have hP:(Dm.Rt [a0,a1,a2,a3,a4,a5]∧Dm.Rt [b0,b1,b2,b3,b4,b5]):=by first | exact q2 | exact ⟨Decidable.not_not.1 (q2).1,Decidable.not_not.1 (q2).2⟩
  have ha6:=Dm.Rt6.1 hP.1;have hb6:=Dm.Rt6.1 hP.2;refine V.g [.k (.agg #[iv 0,iv 0,iv 0,iv 0,iv 0,iv 0]),.nb 1 3 (fun b=>pp b 0) 40 (fun _=>#[iv 0,iv 0,iv 0,iv 0,iv 0,iv 0]),.st 3 (fun G=>.blk ((G 1).b) #[iv 0,iv 0,iv 0,iv 0,iv 0,iv 0] 40)] fun _ _ G4=>?_;intro S s
  refine V.g [.k (iv 0)] fun _ _ G5=>?_;intro S s
  refine V.unrollL 99 (by kernel_rfl) ?_;intro L_1;refine V.g [.k (iv 0),.kb true] fun _ _ G6=>?_;intro S s
  refine V.condT (by kernel_rfl) ?_;refine V.g [.k (iv 0),.k (iv 0),.k (pp ((G1 0).b) 0),.ld 0 0 false (fun _=>[iv a0]),.k (iv 0),.k (pp ((G1 1).b) 0),.ld 1 0 false (fun _=>[iv b0]),.a (a0+b0) (by omega) (by omega),.k (pp ((G4 1).b) 0),.st 3 (fun _=>.blk ((G4 1).b) #[iv (a0+b0),iv 0,iv 0,iv 0,iv 0,iv 0] 40)] fun _ _ G7=>?_;intro S s
  refine V.g [.k (iv 0),.k (iv 1),.k (iv 1)] fun _ _ G8=>?_;intro S s
  refine V.againL L_1 98 (by kernel_rfl) ?_;refine V.g [.k (iv 1),.kb true] fun _ _ G9=>?_;intro S s
  refine V.condT (by kernel_rfl) ?_;refine V.g [.k (iv 1),.k (iv 1),.k (pp ((G1 0).b) 1),.ld 0 1 false (fun _=>[iv a1]),.k (iv 1),.k (pp ((G1 1).b) 1),.ld 1 1 false (fun _=>[iv b1]),.a (a1+b1) (by omega) (by omega),.k (pp ((G4 1).b) 1),.st 3 (fun _=>.blk ((G4 1).b) #[iv (a0+b0),iv (a1+b1),iv 0,iv 0,iv 0,iv 0] 40)] fun _ _ G10=>?_;intro S s
  refine V.g [.k (iv 1),.k (iv 2),.k (iv 2)] fun _ _ G11=>?_;intro S s
  refine V.againL L_1 97 (by kernel_rfl) ?_;refine V.g [.k (iv 2),.kb true] fun _ _ G12=>?_;intro S s
  refine V.condT (by kernel_rfl) ?_;refine V.g [.k (iv 2),.k (iv 2),.k (pp ((G1 0).b) 2),.ld 0 2 false (fun _=>[iv a2]),.k (iv 2),.k (pp ((G1 1).b) 2),.ld 1 2 false (fun _=>[iv b2]),.a (a2+b2) (by omega) (by omega),.k (pp ((G4 1).b) 2),.st 3 (fun _=>.blk ((G4 1).b) #[iv (a0+b0),iv (a1+b1),iv (a2+b2),iv 0,iv 0,iv 0] 40)] fun _ _ G13=>?_;intro S s
  refine V.g [.k (iv 2),.k (iv 3),.k (iv 3)] fun _ _ G14=>?_;intro S s
  refine V.againL L_1 96 (by kernel_rfl) ?_;refine V.g [.k (iv 3),.kb true] fun _ _ G15=>?_;intro S s
  refine V.condT (by kernel_rfl) ?_;refine V.g [.k (iv 3),.k (iv 3),.k (pp ((G1 0).b) 3),.ld 0 3 false (fun _=>[iv a3]),.k (iv 3),.k (pp ((G1 1).b) 3),.ld 1 3 false (fun _=>[iv b3]),.a (a3+b3) (by omega) (by omega),.k (pp ((G4 1).b) 3),.st 3 (fun _=>.blk ((G4 1).b) #[iv (a0+b0),iv (a1+b1),iv (a2+b2),iv (a3+b3),iv 0,iv 0] 40)] fun _ _ G16=>?_;intro S s
  refine V.g [.k (iv 3),.k (iv 4),.k (iv 4)] fun _ _ G17=>?_;intro S s
  refine V.againL L_1 95 (by kernel_rfl) ?_;refine V.g [.k (iv 4),.kb true] fun _ _ G18=>?_;intro S s
  refine V.condT (by kernel_rfl) ?_;refine V.g [.k (iv 4),.k (iv 4),.k (pp ((G1 0).b) 4),.ld 0 4 false (fun _=>[iv a4]),.k (iv 4),.k (pp ((G1 1).b) 4),.ld 1 4 false (fun _=>[iv b4]),.a (a4+b4) (by omega) (by omega),.k (pp ((G4 1).b) 4),.st 3 (fun _=>.blk ((G4 1).b) #[iv (a0+b0),iv (a1+b1),iv (a2+b2),iv (a3+b3),iv (a4+b4),iv 0] 40)] fun _ _ G19=>?_;intro S s
  refine V.g [.k (iv 4),.k (iv 5),.k (iv 5)] fun _ _ G20=>?_;intro S s
  refine V.againL L_1 94 (by kernel_rfl) ?_;refine V.g [.k (iv 5),.kb true] fun _ _ G21=>?_;intro S s
  refine V.condT (by kernel_rfl) ?_;refine V.g [.k (iv 5),.k (iv 5),.k (pp ((G1 0).b) 5),.ld 0 5 false (fun _=>[iv a5]),.k (iv 5),.k (pp ((G1 1).b) 5),.ld 1 5 false (fun _=>[iv b5]),.a (a5+b5) (by omega) (by omega),.k (pp ((G4 1).b) 5),.st 3 (fun _=>.blk ((G4 1).b) #[iv (a0+b0),iv (a1+b1),iv (a2+b2),iv (a3+b3),iv (a4+b4),iv (a5+b5)] 40)] fun _ _ G22=>?_;intro S s
  refine V.g [.k (iv 5),.k (iv 6),.k (iv 6)] fun _ _ G23=>?_;intro S s
  refine V.againL L_1 93 (by kernel_rfl) ?_;refine V.g [.k (iv 6),.kb false] fun _ _ G24=>?_;intro S s
  refine V.condF (by kernel_rfl) ?_;refine V.g [.ld 3 0 true (fun _=>[iv (a0+b0),iv (a1+b1),iv (a2+b2),iv (a3+b3),iv (a4+b4),iv (a5+b5)]),.cp g0 1 67 [] (fun _ G=>r8right_ct (a0+b0) (a1+b1) (a2+b2) (a3+b3) (a4+b4) (a5+b5)),.k (bv (!(decide (Dm.Rt [(a0+b0),(a1+b1),(a2+b2),(a3+b3),(a4+b4),(a5+b5)]))))] fun _ _ G25=>?_;intro S s
  refine V.cn (b:=!(decide (Dm.Rt [(a0+b0),(a1+b1),(a2+b2),(a3+b3),(a4+b4),(a5+b5)]))) (iNT iDF) (iNF iDT) (fun q3=>?_) (fun q4=>?_)
  · have hR:¬ Dm.Rt [a0+b0,a1+b1,a2+b2,a3+b3,a4+b4,a5+b5]:=by have hqq:=q3;exact hqq
    refine V.g [.k (.agg #[iv 0,iv 0,iv 0,iv 0,iv 0,iv 0]),.st 2 (fun _=>.blk ((G1 2).b) #[iv 0,iv 0,iv 0,iv 0,iv 0,iv 0] 40),.k (iv 3)] fun _ _ G26=>?_;intro S s
    have e0:(0:Int)=Dm.opV (Dm.Rt [a0,a1,a2,a3,a4,a5]∧Dm.Rt [b0,b1,b2,b3,b4,b5]) [a0+b0,a1+b1,a2+b2,a3+b3,a4+b4,a5+b5] 0:=(Un.opV_no hP hR 0).symm;have e1:(0:Int)=Dm.opV (Dm.Rt [a0,a1,a2,a3,a4,a5]∧Dm.Rt [b0,b1,b2,b3,b4,b5]) [a0+b0,a1+b1,a2+b2,a3+b3,a4+b4,a5+b5] 1:=(Un.opV_no hP hR 1).symm;have e2:(0:Int)=Dm.opV (Dm.Rt [a0,a1,a2,a3,a4,a5]∧Dm.Rt [b0,b1,b2,b3,b4,b5]) [a0+b0,a1+b1,a2+b2,a3+b3,a4+b4,a5+b5] 2:=(Un.opV_no hP hR 2).symm;have e3:(0:Int)=Dm.opV (Dm.Rt [a0,a1,a2,a3,a4,a5]∧Dm.Rt [b0,b1,b2,b3,b4,b5]) [a0+b0,a1+b1,a2+b2,a3+b3,a4+b4,a5+b5] 3:=(Un.opV_no hP hR 3).symm;have e4:(0:Int)=Dm.opV (Dm.Rt [a0,a1,a2,a3,a4,a5]∧Dm.Rt [b0,b1,b2,b3,b4,b5]) [a0+b0,a1+b1,a2+b2,a3+b3,a4+b4,a5+b5] 4:=(Un.opV_no hP hR 4).symm;have e5:(0:Int)=Dm.opV (Dm.Rt [a0,a1,a2,a3,a4,a5]∧Dm.Rt [b0,b1,b2,b3,b4,b5]) [a0+b0,a1+b1,a2+b2,a3+b3,a4+b4,a5+b5] 5:=(Un.opV_no hP hR 5).symm;have e6:(3:Int)=Dm.opE (Dm.Rt [a0,a1,a2,a3,a4,a5]∧Dm.Rt [b0,b1,b2,b3,b4,b5]) [a0+b0,a1+b1,a2+b2,a3+b3,a4+b4,a5+b5]:=by rw [Dm.opE_y hP,Dm.mkE_n hR]
    exact V.rt [2,0] [] [] [] [] [] (.tuple #[.agg #[iv 0,iv 0,iv 0,iv 0,iv 0,iv 0],iv 3]) (cong7 (fun (x0 x1 x2 x3 x4 x5 x6:Int)=>(.tuple #[.agg #[iv x0,iv x1,iv x2,iv x3,iv x4,iv x5],iv x6]:Value)) e0 e1 e2 e3 e4 e5 e6)
  have hR:Dm.Rt [a0+b0,a1+b1,a2+b2,a3+b3,a4+b4,a5+b5]:=by have hqq:=q4;first | exact hqq | exact Decidable.not_not.1 hqq
  refine V.g [.ld 3 0 true (fun _=>[iv (a0+b0),iv (a1+b1),iv (a2+b2),iv (a3+b3),iv (a4+b4),iv (a5+b5)]),.st 2 (fun _=>.blk ((G1 2).b) #[iv (a0+b0),iv (a1+b1),iv (a2+b2),iv (a3+b3),iv (a4+b4),iv (a5+b5)] 40),.k (iv 0)] fun _ _ G27=>?_;intro S s
  have e0:(a0+b0)=Dm.opV (Dm.Rt [a0,a1,a2,a3,a4,a5]∧Dm.Rt [b0,b1,b2,b3,b4,b5]) [a0+b0,a1+b1,a2+b2,a3+b3,a4+b4,a5+b5] 0:=(Un.op_l hP hR 0).symm;have e1:(a1+b1)=Dm.opV (Dm.Rt [a0,a1,a2,a3,a4,a5]∧Dm.Rt [b0,b1,b2,b3,b4,b5]) [a0+b0,a1+b1,a2+b2,a3+b3,a4+b4,a5+b5] 1:=(Un.op_l hP hR 1).symm;have e2:(a2+b2)=Dm.opV (Dm.Rt [a0,a1,a2,a3,a4,a5]∧Dm.Rt [b0,b1,b2,b3,b4,b5]) [a0+b0,a1+b1,a2+b2,a3+b3,a4+b4,a5+b5] 2:=(Un.op_l hP hR 2).symm;have e3:(a3+b3)=Dm.opV (Dm.Rt [a0,a1,a2,a3,a4,a5]∧Dm.Rt [b0,b1,b2,b3,b4,b5]) [a0+b0,a1+b1,a2+b2,a3+b3,a4+b4,a5+b5] 3:=(Un.op_l hP hR 3).symm;have e4:(a4+b4)=Dm.opV (Dm.Rt [a0,a1,a2,a3,a4,a5]∧Dm.Rt [b0,b1,b2,b3,b4,b5]) [a0+b0,a1+b1,a2+b2,a3+b3,a4+b4,a5+b5] 4:=(Un.op_l hP hR 4).symm;have e5:(a5+b5)=Dm.opV (Dm.Rt [a0,a1,a2,a3,a4,a5]∧Dm.Rt [b0,b1,b2,b3,b4,b5]) [a0+b0,a1+b1,a2+b2,a3+b3,a4+b4,a5+b5] 5:=(Un.op_l hP hR 5).symm;have e6:(0:Int)=Dm.opE (Dm.Rt [a0,a1,a2,a3,a4,a5]∧Dm.Rt [b0,b1,b2,b3,b4,b5]) [a0+b0,a1+b1,a2+b2,a3+b3,a4+b4,a5+b5]:=(Un.op_0 hP hR).symm;exact V.rt [2,0] [] [] [] [] [] (.tuple #[.agg #[iv (a0+b0),iv (a1+b1),iv (a2+b2),iv (a3+b3),iv (a4+b4),iv (a5+b5)],iv 0]) (cong7 (fun (x0 x1 x2 x3 x4 x5 x6:Int)=>(.tuple #[.agg #[iv x0,iv x1,iv x2,iv x3,iv x4,iv x5],iv x6]:Value)) e0 e1 e2 e3 e4 e5 e6)
theorem r8mul_ctv (a0 a1 a2 a3 a4 a5 b0 b1 b2 b3 b4 b5 rv0:Int) (erv0:rv0=Dm.opV (Dm.Rt [a0,a1,a2,a3,a4,a5]∧Dm.Rt [b0,b1,b2,b3,b4,b5]) [a0+b0,a1+b1,a2+b2,a3+b3,a4+b4,a5+b5] 0) (rv1:Int) (erv1:rv1=Dm.opV (Dm.Rt [a0,a1,a2,a3,a4,a5]∧Dm.Rt [b0,b1,b2,b3,b4,b5]) [a0+b0,a1+b1,a2+b2,a3+b3,a4+b4,a5+b5] 1) (rv2:Int) (erv2:rv2=Dm.opV (Dm.Rt [a0,a1,a2,a3,a4,a5]∧Dm.Rt [b0,b1,b2,b3,b4,b5]) [a0+b0,a1+b1,a2+b2,a3+b3,a4+b4,a5+b5] 2) (rv3:Int) (erv3:rv3=Dm.opV (Dm.Rt [a0,a1,a2,a3,a4,a5]∧Dm.Rt [b0,b1,b2,b3,b4,b5]) [a0+b0,a1+b1,a2+b2,a3+b3,a4+b4,a5+b5] 3) (rv4:Int) (erv4:rv4=Dm.opV (Dm.Rt [a0,a1,a2,a3,a4,a5]∧Dm.Rt [b0,b1,b2,b3,b4,b5]) [a0+b0,a1+b1,a2+b2,a3+b3,a4+b4,a5+b5] 4) (rv5:Int) (erv5:rv5=Dm.opV (Dm.Rt [a0,a1,a2,a3,a4,a5]∧Dm.Rt [b0,b1,b2,b3,b4,b5]) [a0+b0,a1+b1,a2+b2,a3+b3,a4+b4,a5+b5] 5) (rv6:Int) (erv6:rv6=Dm.opE (Dm.Rt [a0,a1,a2,a3,a4,a5]∧Dm.Rt [b0,b1,b2,b3,b4,b5]) [a0+b0,a1+b1,a2+b2,a3+b3,a4+b4,a5+b5]) :
    Cp Tryz.prog 69 #[.agg #[iv a0,iv a1,iv a2,iv a3,iv a4,iv a5],.agg #[iv b0,iv b1,iv b2,iv b3,iv b4,iv b5]] [] (.tuple #[.agg #[iv rv0,iv rv1,iv rv2,iv rv3,iv rv4,iv rv5],iv rv6]):=by
  subst erv0 erv1 erv2 erv3 erv4 erv5 erv6;exact r8mul_ct a0 a1 a2 a3 a4 a5 b0 b1 b2 b3 b4 b5 
set_option maxRecDepth 10000 in
theorem r8inv_ct (d0 d1 d2 d3 d4 d5:Int) (hd:Dm.Rt [d0,d1,d2,d3,d4,d5]) :
    Cp Tryz.prog 111 #[.agg #[iv d0,iv d1,iv d2,iv d3,iv d4,iv d5]] [] (.agg #[iv (-d0),iv (-d1),iv (-d2),iv (-d3),iv (-d4),iv (-d5)]):=by
  refine V.fn mo Tryz.func111 15 2 (by kernel_rfl) fun w H ε k0=>?_;clear k0
  have hd6:=Dm.Rt6.1 hd;refine V.g [.nb 0 0 (fun b=>pp b 0) 40 (fun _=>#[iv d0,iv d1,iv d2,iv d3,iv d4,iv d5]),.nb 1 1 (fun b=>pp b 0) 40 (fun _=>#[iv 0,iv 0,iv 0,iv 0,iv 0,iv 0])] fun _ _ G1=>?_;intro S s
  refine V.g [.k (iv 0)] fun _ _ G2=>?_;intro S s
  refine V.unrollL 99 (by kernel_rfl) ?_;intro L_1;refine V.g [.k (iv 0),.kb true] fun _ _ G3=>?_;intro S s
  refine V.condT (by kernel_rfl) ?_;refine V.g [.k (iv 0),.k (iv 0),.k (pp ((G1 0).b) 0),.ld 0 0 false (fun _=>[iv d0]),.ng d0 (-d0) rfl (by omega) (by omega),.k (pp ((G1 0).b) 0),.st 0 (fun _=>.blk ((G1 0).b) #[iv (-d0),iv d1,iv d2,iv d3,iv d4,iv d5] 40)] fun _ _ G4=>?_;intro S s
  refine V.g [.k (iv 0),.k (iv 1),.k (iv 1)] fun _ _ G5=>?_;intro S s
  refine V.againL L_1 98 (by kernel_rfl) ?_;refine V.g [.k (iv 1),.kb true] fun _ _ G6=>?_;intro S s
  refine V.condT (by kernel_rfl) ?_;refine V.g [.k (iv 1),.k (iv 1),.k (pp ((G1 0).b) 1),.ld 0 1 false (fun _=>[iv d1]),.ng d1 (-d1) rfl (by omega) (by omega),.k (pp ((G1 0).b) 1),.st 0 (fun _=>.blk ((G1 0).b) #[iv (-d0),iv (-d1),iv d2,iv d3,iv d4,iv d5] 40)] fun _ _ G7=>?_;intro S s
  refine V.g [.k (iv 1),.k (iv 2),.k (iv 2)] fun _ _ G8=>?_;intro S s
  refine V.againL L_1 97 (by kernel_rfl) ?_;refine V.g [.k (iv 2),.kb true] fun _ _ G9=>?_;intro S s
  refine V.condT (by kernel_rfl) ?_;refine V.g [.k (iv 2),.k (iv 2),.k (pp ((G1 0).b) 2),.ld 0 2 false (fun _=>[iv d2]),.ng d2 (-d2) rfl (by omega) (by omega),.k (pp ((G1 0).b) 2),.st 0 (fun _=>.blk ((G1 0).b) #[iv (-d0),iv (-d1),iv (-d2),iv d3,iv d4,iv d5] 40)] fun _ _ G10=>?_;intro S s
  refine V.g [.k (iv 2),.k (iv 3),.k (iv 3)] fun _ _ G11=>?_;intro S s
  refine V.againL L_1 96 (by kernel_rfl) ?_;refine V.g [.k (iv 3),.kb true] fun _ _ G12=>?_;intro S s
  refine V.condT (by kernel_rfl) ?_;refine V.g [.k (iv 3),.k (iv 3),.k (pp ((G1 0).b) 3),.ld 0 3 false (fun _=>[iv d3]),.ng d3 (-d3) rfl (by omega) (by omega),.k (pp ((G1 0).b) 3),.st 0 (fun _=>.blk ((G1 0).b) #[iv (-d0),iv (-d1),iv (-d2),iv (-d3),iv d4,iv d5] 40)] fun _ _ G13=>?_;intro S s
  refine V.g [.k (iv 3),.k (iv 4),.k (iv 4)] fun _ _ G14=>?_;intro S s
  refine V.againL L_1 95 (by kernel_rfl) ?_;refine V.g [.k (iv 4),.kb true] fun _ _ G15=>?_;intro S s
  refine V.condT (by kernel_rfl) ?_;refine V.g [.k (iv 4),.k (iv 4),.k (pp ((G1 0).b) 4),.ld 0 4 false (fun _=>[iv d4]),.ng d4 (-d4) rfl (by omega) (by omega),.k (pp ((G1 0).b) 4),.st 0 (fun _=>.blk ((G1 0).b) #[iv (-d0),iv (-d1),iv (-d2),iv (-d3),iv (-d4),iv d5] 40)] fun _ _ G16=>?_;intro S s
  refine V.g [.k (iv 4),.k (iv 5),.k (iv 5)] fun _ _ G17=>?_;intro S s
  refine V.againL L_1 94 (by kernel_rfl) ?_;refine V.g [.k (iv 5),.kb true] fun _ _ G18=>?_;intro S s
  refine V.condT (by kernel_rfl) ?_;refine V.g [.k (iv 5),.k (iv 5),.k (pp ((G1 0).b) 5),.ld 0 5 false (fun _=>[iv d5]),.ng d5 (-d5) rfl (by omega) (by omega),.k (pp ((G1 0).b) 5),.st 0 (fun _=>.blk ((G1 0).b) #[iv (-d0),iv (-d1),iv (-d2),iv (-d3),iv (-d4),iv (-d5)] 40)] fun _ _ G19=>?_;intro S s
  refine V.g [.k (iv 5),.k (iv 6),.k (iv 6)] fun _ _ G20=>?_;intro S s
  refine V.againL L_1 93 (by kernel_rfl) ?_;refine V.g [.k (iv 6),.kb false] fun _ _ G21=>?_;intro S s
  refine V.condF (by kernel_rfl) ?_;refine V.g [.ld 0 0 true (fun _=>[iv (-d0),iv (-d1),iv (-d2),iv (-d3),iv (-d4),iv (-d5)]),.st 1 (fun _=>.blk ((G1 1).b) #[iv (-d0),iv (-d1),iv (-d2),iv (-d3),iv (-d4),iv (-d5)] 40)] fun _ _ G22=>?_;intro S s
  exact V.rs [1] [] [] [] [] [] (.agg #[iv (-d0),iv (-d1),iv (-d2),iv (-d3),iv (-d4),iv (-d5)])
theorem r8inv_ctv (d0 d1 d2 d3 d4 d5:Int) (hd:Dm.Rt [d0,d1,d2,d3,d4,d5]) (rv0:Int) (erv0:rv0= -d0) (rv1:Int) (erv1:rv1= -d1) (rv2:Int) (erv2:rv2= -d2) (rv3:Int) (erv3:rv3= -d3) (rv4:Int) (erv4:rv4= -d4) (rv5:Int) (erv5:rv5= -d5) :
    Cp Tryz.prog 111 #[.agg #[iv d0,iv d1,iv d2,iv d3,iv d4,iv d5]] [] (.agg #[iv rv0,iv rv1,iv rv2,iv rv3,iv rv4,iv rv5]):=by
  subst erv0 erv1 erv2 erv3 erv4 erv5;exact r8inv_ct d0 d1 d2 d3 d4 d5 hd
set_option maxRecDepth 10000 in
theorem r8div_ct (a0 a1 a2 a3 a4 a5 b0 b1 b2 b3 b4 b5:Int) :
    Cp Tryz.prog 71 #[.agg #[iv a0,iv a1,iv a2,iv a3,iv a4,iv a5],.agg #[iv b0,iv b1,iv b2,iv b3,iv b4,iv b5]] [] (.tuple #[.agg #[iv (Dm.opV (Dm.Rt [a0,a1,a2,a3,a4,a5]∧Dm.Rt [b0,b1,b2,b3,b4,b5]) [a0-b0,a1-b1,a2-b2,a3-b3,a4-b4,a5-b5] 0),iv (Dm.opV (Dm.Rt [a0,a1,a2,a3,a4,a5]∧Dm.Rt [b0,b1,b2,b3,b4,b5]) [a0-b0,a1-b1,a2-b2,a3-b3,a4-b4,a5-b5] 1),iv (Dm.opV (Dm.Rt [a0,a1,a2,a3,a4,a5]∧Dm.Rt [b0,b1,b2,b3,b4,b5]) [a0-b0,a1-b1,a2-b2,a3-b3,a4-b4,a5-b5] 2),iv (Dm.opV (Dm.Rt [a0,a1,a2,a3,a4,a5]∧Dm.Rt [b0,b1,b2,b3,b4,b5]) [a0-b0,a1-b1,a2-b2,a3-b3,a4-b4,a5-b5] 3),iv (Dm.opV (Dm.Rt [a0,a1,a2,a3,a4,a5]∧Dm.Rt [b0,b1,b2,b3,b4,b5]) [a0-b0,a1-b1,a2-b2,a3-b3,a4-b4,a5-b5] 4),iv (Dm.opV (Dm.Rt [a0,a1,a2,a3,a4,a5]∧Dm.Rt [b0,b1,b2,b3,b4,b5]) [a0-b0,a1-b1,a2-b2,a3-b3,a4-b4,a5-b5] 5)],iv (Dm.opE (Dm.Rt [a0,a1,a2,a3,a4,a5]∧Dm.Rt [b0,b1,b2,b3,b4,b5]) [a0-b0,a1-b1,a2-b2,a3-b3,a4-b4,a5-b5])]):=by
  refine V.fn mo Tryz.func71 21 4 (by kernel_rfl) fun w H ε k0=>?_;clear k0
  refine V.g [.nb 0 0 (fun b=>pp b 0) 40 (fun _=>#[iv a0,iv a1,iv a2,iv a3,iv a4,iv a5]),.nb 1 1 (fun b=>pp b 0) 40 (fun _=>#[iv b0,iv b1,iv b2,iv b3,iv b4,iv b5]),.nb 2 2 (fun b=>pp b 0) 40 (fun _=>#[iv 0,iv 0,iv 0,iv 0,iv 0,iv 0]),.k (iv 0)] fun _ _ G1=>?_;intro S s
  refine V.g [.ld 1 0 true (fun _=>[iv b0,iv b1,iv b2,iv b3,iv b4,iv b5]),.cp g0 1 67 [] (fun _ G=>r8right_ct b0 b1 b2 b3 b4 b5),.k (bv (!(decide (Dm.Rt [b0,b1,b2,b3,b4,b5]))))] fun _ _ G2=>?_;intro S s
  refine V.cn (b:=!(decide (Dm.Rt [b0,b1,b2,b3,b4,b5]))) (iNT iDF) (iNF iDT) (fun q1=>?_) (fun q2=>?_)
  · refine V.g [.k (.agg #[iv 0,iv 0,iv 0,iv 0,iv 0,iv 0]),.st 2 (fun _=>.blk ((G1 2).b) #[iv 0,iv 0,iv 0,iv 0,iv 0,iv 0] 40),.k (iv 1)] fun _ _ G3=>?_;intro S s
    have e0:(0:Int)=Dm.opV (Dm.Rt [a0,a1,a2,a3,a4,a5]∧Dm.Rt [b0,b1,b2,b3,b4,b5]) [a0-b0,a1-b1,a2-b2,a3-b3,a4-b4,a5-b5] 0:=(Dm.opV_n (fun h=>q1 h.2) _ 0).symm;have e1:(0:Int)=Dm.opV (Dm.Rt [a0,a1,a2,a3,a4,a5]∧Dm.Rt [b0,b1,b2,b3,b4,b5]) [a0-b0,a1-b1,a2-b2,a3-b3,a4-b4,a5-b5] 1:=(Dm.opV_n (fun h=>q1 h.2) _ 1).symm;have e2:(0:Int)=Dm.opV (Dm.Rt [a0,a1,a2,a3,a4,a5]∧Dm.Rt [b0,b1,b2,b3,b4,b5]) [a0-b0,a1-b1,a2-b2,a3-b3,a4-b4,a5-b5] 2:=(Dm.opV_n (fun h=>q1 h.2) _ 2).symm;have e3:(0:Int)=Dm.opV (Dm.Rt [a0,a1,a2,a3,a4,a5]∧Dm.Rt [b0,b1,b2,b3,b4,b5]) [a0-b0,a1-b1,a2-b2,a3-b3,a4-b4,a5-b5] 3:=(Dm.opV_n (fun h=>q1 h.2) _ 3).symm;have e4:(0:Int)=Dm.opV (Dm.Rt [a0,a1,a2,a3,a4,a5]∧Dm.Rt [b0,b1,b2,b3,b4,b5]) [a0-b0,a1-b1,a2-b2,a3-b3,a4-b4,a5-b5] 4:=(Dm.opV_n (fun h=>q1 h.2) _ 4).symm;have e5:(0:Int)=Dm.opV (Dm.Rt [a0,a1,a2,a3,a4,a5]∧Dm.Rt [b0,b1,b2,b3,b4,b5]) [a0-b0,a1-b1,a2-b2,a3-b3,a4-b4,a5-b5] 5:=(Dm.opV_n (fun h=>q1 h.2) _ 5).symm;have e6:(1:Int)=Dm.opE (Dm.Rt [a0,a1,a2,a3,a4,a5]∧Dm.Rt [b0,b1,b2,b3,b4,b5]) [a0-b0,a1-b1,a2-b2,a3-b3,a4-b4,a5-b5]:=(Dm.opE_n (fun h=>q1 h.2) _).symm;exact V.rt [2,0] [] [] [] [] [] (.tuple #[.agg #[iv 0,iv 0,iv 0,iv 0,iv 0,iv 0],iv 1]) (cong7 (fun (x0 x1 x2 x3 x4 x5 x6:Int)=>(.tuple #[.agg #[iv x0,iv x1,iv x2,iv x3,iv x4,iv x5],iv x6]:Value)) e0 e1 e2 e3 e4 e5 e6)
  have hB:Dm.Rt [b0,b1,b2,b3,b4,b5]:=by have hqq:=q2;first | exact hqq | exact Decidable.not_not.1 hqq
  refine nm (-b0:Int) fun n1 hn1=>?_;refine nm (-b1:Int) fun n2 hn2=>?_;refine nm (-b2:Int) fun n3 hn3=>?_;refine nm (-b3:Int) fun n4 hn4=>?_;refine nm (-b4:Int) fun n5 hn5=>?_;refine nm (-b5:Int) fun n6 hn6=>?_;refine nm (Dm.opV (Dm.Rt [a0,a1,a2,a3,a4,a5]∧Dm.Rt [n1,n2,n3,n4,n5,n6]) [a0+n1,a1+n2,a2+n3,a3+n4,a4+n5,a5+n6] 0:Int) fun n7 hn7=>?_;refine nm (Dm.opV (Dm.Rt [a0,a1,a2,a3,a4,a5]∧Dm.Rt [n1,n2,n3,n4,n5,n6]) [a0+n1,a1+n2,a2+n3,a3+n4,a4+n5,a5+n6] 1:Int) fun n8 hn8=>?_;refine nm (Dm.opV (Dm.Rt [a0,a1,a2,a3,a4,a5]∧Dm.Rt [n1,n2,n3,n4,n5,n6]) [a0+n1,a1+n2,a2+n3,a3+n4,a4+n5,a5+n6] 2:Int) fun n9 hn9=>?_;refine nm (Dm.opV (Dm.Rt [a0,a1,a2,a3,a4,a5]∧Dm.Rt [n1,n2,n3,n4,n5,n6]) [a0+n1,a1+n2,a2+n3,a3+n4,a4+n5,a5+n6] 3:Int) fun n10 hn10=>?_;refine nm (Dm.opV (Dm.Rt [a0,a1,a2,a3,a4,a5]∧Dm.Rt [n1,n2,n3,n4,n5,n6]) [a0+n1,a1+n2,a2+n3,a3+n4,a4+n5,a5+n6] 4:Int) fun n11 hn11=>?_;refine nm (Dm.opV (Dm.Rt [a0,a1,a2,a3,a4,a5]∧Dm.Rt [n1,n2,n3,n4,n5,n6]) [a0+n1,a1+n2,a2+n3,a3+n4,a4+n5,a5+n6] 5:Int) fun n12 hn12=>?_;refine nm (Dm.opE (Dm.Rt [a0,a1,a2,a3,a4,a5]∧Dm.Rt [n1,n2,n3,n4,n5,n6]) [a0+n1,a1+n2,a2+n3,a3+n4,a4+n5,a5+n6]:Int) fun n13 hn13=>?_;have hB6:=Dm.Rt6.1 hB
  have hin:Dm.Rt [n1,n2,n3,n4,n5,n6]:=by rw [hn1,hn2,hn3,hn4,hn5,hn6];exact Dm.Rt6.2 (by omega)
  have hif:(Dm.Rt [a0,a1,a2,a3,a4,a5]∧Dm.Rt [n1,n2,n3,n4,n5,n6])↔(Dm.Rt [a0,a1,a2,a3,a4,a5]∧Dm.Rt [b0,b1,b2,b3,b4,b5]):=⟨fun h=>⟨h.1,hB⟩,fun h=>⟨h.1,hin⟩⟩;have hll:[a0+n1,a1+n2,a2+n3,a3+n4,a4+n5,a5+n6]=[a0-b0,a1-b1,a2-b2,a3-b3,a4-b4,a5-b5]:=by rw [hn1,hn2,hn3,hn4,hn5,hn6];rfl
  have hv:=Un.vec_eq hif hll;have hve:=Un.opE_eq2 hif hll;refine V.g [.ld 0 0 true (fun _=>[iv a0,iv a1,iv a2,iv a3,iv a4,iv a5]),.ld 1 0 true (fun _=>[iv b0,iv b1,iv b2,iv b3,iv b4,iv b5]),.cp g0 2 111 [] (fun _ G=>r8inv_ctv b0 b1 b2 b3 b4 b5 hB n1 hn1 n2 hn2 n3 hn3 n4 hn4 n5 hn5 n6 hn6),.cp g0 3 69 [] (fun _ G=>r8mul_ctv a0 a1 a2 a3 a4 a5 n1 n2 n3 n4 n5 n6 n7 hn7 n8 hn8 n9 hn9 n10 hn10 n11 hn11 n12 hn12 n13 hn13),.k (.tuple #[.agg #[iv n7,iv n8,iv n9,iv n10,iv n11,iv n12],iv n13]),.k (.agg #[iv n7,iv n8,iv n9,iv n10,iv n11,iv n12]),.k (iv n13),.nb 7 3 (fun b=>pp b 0) 40 (fun _=>#[iv 0,iv 0,iv 0,iv 0,iv 0,iv 0]),.st 3 (fun G=>.blk ((G 7).b) #[iv n7,iv n8,iv n9,iv n10,iv n11,iv n12] 40),.k (iv n13)] fun _ _ G4=>?_;intro S s
  refine V.g [.ld 3 0 true (fun _=>[iv n7,iv n8,iv n9,iv n10,iv n11,iv n12]),.k (iv n13),.st 2 (fun _=>.blk ((G1 2).b) #[iv n7,iv n8,iv n9,iv n10,iv n11,iv n12] 40),.k (iv n13)] fun _ _ G5=>?_;intro S s
  have e0:n7=Dm.opV (Dm.Rt [a0,a1,a2,a3,a4,a5]∧Dm.Rt [b0,b1,b2,b3,b4,b5]) [a0-b0,a1-b1,a2-b2,a3-b3,a4-b4,a5-b5] 0:=by rw [hn7];exact hv.1
  have e1:n8=Dm.opV (Dm.Rt [a0,a1,a2,a3,a4,a5]∧Dm.Rt [b0,b1,b2,b3,b4,b5]) [a0-b0,a1-b1,a2-b2,a3-b3,a4-b4,a5-b5] 1:=by rw [hn8];exact hv.2.1
  have e2:n9=Dm.opV (Dm.Rt [a0,a1,a2,a3,a4,a5]∧Dm.Rt [b0,b1,b2,b3,b4,b5]) [a0-b0,a1-b1,a2-b2,a3-b3,a4-b4,a5-b5] 2:=by rw [hn9];exact hv.2.2.1
  have e3:n10=Dm.opV (Dm.Rt [a0,a1,a2,a3,a4,a5]∧Dm.Rt [b0,b1,b2,b3,b4,b5]) [a0-b0,a1-b1,a2-b2,a3-b3,a4-b4,a5-b5] 3:=by rw [hn10];exact hv.2.2.2.1
  have e4:n11=Dm.opV (Dm.Rt [a0,a1,a2,a3,a4,a5]∧Dm.Rt [b0,b1,b2,b3,b4,b5]) [a0-b0,a1-b1,a2-b2,a3-b3,a4-b4,a5-b5] 4:=by rw [hn11];exact hv.2.2.2.2.1
  have e5:n12=Dm.opV (Dm.Rt [a0,a1,a2,a3,a4,a5]∧Dm.Rt [b0,b1,b2,b3,b4,b5]) [a0-b0,a1-b1,a2-b2,a3-b3,a4-b4,a5-b5] 5:=by rw [hn12];exact hv.2.2.2.2.2
  have e6:n13=Dm.opE (Dm.Rt [a0,a1,a2,a3,a4,a5]∧Dm.Rt [b0,b1,b2,b3,b4,b5]) [a0-b0,a1-b1,a2-b2,a3-b3,a4-b4,a5-b5]:=by rw [hn13];exact hve
  exact V.rt [2,0] [] [] [] [] [] (.tuple #[.agg #[iv n7,iv n8,iv n9,iv n10,iv n11,iv n12],iv n13]) (cong7 (fun (x0 x1 x2 x3 x4 x5 x6:Int)=>(.tuple #[.agg #[iv x0,iv x1,iv x2,iv x3,iv x4,iv x5],iv x6]:Value)) e0 e1 e2 e3 e4 e5 e6)
theorem r8div_ctv (a0 a1 a2 a3 a4 a5 b0 b1 b2 b3 b4 b5 rv0:Int) (erv0:rv0=Dm.opV (Dm.Rt [a0,a1,a2,a3,a4,a5]∧Dm.Rt [b0,b1,b2,b3,b4,b5]) [a0 - b0,a1 - b1,a2 - b2,a3 - b3,a4 - b4,a5 - b5] 0) (rv1:Int) (erv1:rv1=Dm.opV (Dm.Rt [a0,a1,a2,a3,a4,a5]∧Dm.Rt [b0,b1,b2,b3,b4,b5]) [a0 - b0,a1 - b1,a2 - b2,a3 - b3,a4 - b4,a5 - b5] 1) (rv2:Int) (erv2:rv2=Dm.opV (Dm.Rt [a0,a1,a2,a3,a4,a5]∧Dm.Rt [b0,b1,b2,b3,b4,b5]) [a0 - b0,a1 - b1,a2 - b2,a3 - b3,a4 - b4,a5 - b5] 2) (rv3:Int) (erv3:rv3=Dm.opV (Dm.Rt [a0,a1,a2,a3,a4,a5]∧Dm.Rt [b0,b1,b2,b3,b4,b5]) [a0 - b0,a1 - b1,a2 - b2,a3 - b3,a4 - b4,a5 - b5] 3) (rv4:Int) (erv4:rv4=Dm.opV (Dm.Rt [a0,a1,a2,a3,a4,a5]∧Dm.Rt [b0,b1,b2,b3,b4,b5]) [a0 - b0,a1 - b1,a2 - b2,a3 - b3,a4 - b4,a5 - b5] 4) (rv5:Int) (erv5:rv5=Dm.opV (Dm.Rt [a0,a1,a2,a3,a4,a5]∧Dm.Rt [b0,b1,b2,b3,b4,b5]) [a0 - b0,a1 - b1,a2 - b2,a3 - b3,a4 - b4,a5 - b5] 5) (rv6:Int) (erv6:rv6=Dm.opE (Dm.Rt [a0,a1,a2,a3,a4,a5]∧Dm.Rt [b0,b1,b2,b3,b4,b5]) [a0 - b0,a1 - b1,a2 - b2,a3 - b3,a4 - b4,a5 - b5]) :
    Cp Tryz.prog 71 #[.agg #[iv a0,iv a1,iv a2,iv a3,iv a4,iv a5],.agg #[iv b0,iv b1,iv b2,iv b3,iv b4,iv b5]] [] (.tuple #[.agg #[iv rv0,iv rv1,iv rv2,iv rv3,iv rv4,iv rv5],iv rv6]):=by
  subst erv0 erv1 erv2 erv3 erv4 erv5 erv6;exact r8div_ct a0 a1 a2 a3 a4 a5 b0 b1 b2 b3 b4 b5 
set_option maxRecDepth 10000 in
theorem r9right_ct (i j l m n o e:Int) (c:List Int) (p:SV) (h:Int) (d:List Int) (q:SV) (huP:c.length≤1073741824) (huQ:d.length≤1073741824) :
    Cp Tryz.prog 31 #[.agg #[iv i,iv j,iv l,iv m,iv n,iv o,iv e,p.v,iv h,q.v]] [fs true c p,fs true d q] (bv (decide (Un.UR [i,j,l,m,n,o] e c h d))):=by
  refine V.fn mo Tryz.func31 17 1 (by kernel_rfl) fun w H ε k0=>?_;obtain ⟨⟨kl1, -⟩,⟨kl2, -⟩, -⟩:Lq c p.v∧Lq d q.v∧True:=kq k0
  clear k0;refine V.g [.nb 0 0 (fun b=>pp b 0) 42 (fun _=>#[iv i,iv j,iv l,iv m,iv n,iv o,iv e,p.v,iv h,q.v]),.kb false] fun _ _ G1=>?_;intro S s
  refine nm ((decide (Dm.Rt [i,j,l,m,n,o])) && (decide (Fr.FrB e c h d)):Bool) fun p1 hp1=>?_;refine nm (if Fr.FrB e c h d then e else 0:Int) fun n1 hn1=>?_;refine V.g [.k (pp ((G1 0).b) 0),.ld 0 0 true (fun _=>[iv i,iv j,iv l,iv m,iv n,iv o]),.cp g0 2 67 [] (fun _ G=>r8right_ct i j l m n o),.k (bv (decide (Dm.Rt [i,j,l,m,n,o]))),.k (pp ((G1 0).b) 6),.ld 0 6 true (fun _=>Dat.cells (DFrac.mk ⟨e,c,p⟩ ⟨h,d,q⟩)),.cp (gT (b:=decide (Dm.Rt [i,j,l,m,n,o])) iDT) 6 39 [(kf false (.f 0) c (fun _=>p)).a,(kf false (.f 1) d (fun _=>q)).a] (fun hg G=>r5right_ct e c p h d q (by omega) (by omega)),.andn g0 false (decide (Dm.Rt [i,j,l,m,n,o])) (decide (Fr.FrB e c h d)) p1 hp1,.k (bv p1),.k (pp ((G1 0).b) 6),.ld 0 6 true (fun _=>Dat.cells (DFrac.mk ⟨e,c,p⟩ ⟨h,d,q⟩)),.cp (gT (b:=p1) (iN hp1 (iAT iDT iDT))) 11 73 [(kf false (.f 0) c (fun _=>p)).a,(kf false (.f 1) d (fun _=>q)).a] (fun hg G=>r5sign_ctv e c p h d q (by omega) (by omega) n1 hn1),.k (bv (decide (0 < n1))),.and g0 false p1 (decide (0 < n1)),.k (bv (p1 && (decide (0 < n1))))] fun _ _ G2=>?_;intro S s
  have e0:(p1 && (decide (0 < n1)))=decide (Un.UR [i,j,l,m,n,o] e c h d):=by
    rw [hn1];refine Bool.eq_iff_iff.2 (Iff.trans (iAT (iN hp1 (iAT iDT iDT)) iDT) (Iff.trans ?_ decide_eq_true_iff.symm));exact Un.ur_is
  exact V.rt [0] [] [] [] [] [] (bv (p1 && (decide (0 < n1)))) (cong1 (fun (x0:Bool)=>(bv x0:Value)) e0)
end Kb
