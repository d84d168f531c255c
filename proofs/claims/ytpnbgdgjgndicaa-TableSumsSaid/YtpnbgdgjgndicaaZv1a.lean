/- Texts for the claim, put together: the calculus of regions, its rules, and contracts of the functions that the law reaches. -/
import Derived.Test.YtpnbgdgjgndicaaZvwg
import Derived.Test.YtpnbgdgjgndicaaZv013a
import Derived.Test.YtpnbgdgjgndicaaZv13a
import Derived.ChangeSame
set_option linter.unusedVariables false
set_option linter.unusedSectionVars false
set_option linter.unusedSimpArgs false
namespace Kb
open Go
namespace Tb
open Fr Bg
theorem sumR_bd : ∀ (a b : Int) (l : List DRow), (∀ r ∈ l, inR r.Value) → -1099511627776 * (l.length : Int) ≤ sumR a b l ∧ sumR a b l ≤ 1099511627776 * (l.length : Int)
  | a, b, [], _ => by simp [sumR]
  | a, b, r :: l, h => by
    have h1 := h r List.mem_cons_self
    have h2 := sumR_bd a b l fun x hx => h x (List.mem_cons_of_mem _ hx)
    have e : sumR a b (r :: l) = (if a ≤ r.Key ∧ r.Key ≤ b then r.Value else 0) + sumR a b l := rfl
    unfold inR at h1
    rw [List.length_cons, e]
    split <;> omega
theorem so_mem {l : List DRow} (h : So l) : ∀ r ∈ l, inR r.Key ∧ inR r.Value := fun r hr => by
  obtain ⟨i, hi, rfl⟩ := List.getElem_of_mem hr
  have := h.2.2 i hi
  unfold ky vl at this
  rw [List.getD_eq_getElem?_getD, List.getElem?_eq_getElem hi] at this
  exact this
theorem so_sum {l : List DRow} (h : So l) (a b : Int) (k : Nat) : -109951162777600 ≤ sumR a b (l.take k) ∧ sumR a b (l.take k) ≤ 109951162777600 := by
  have h1 := sumR_bd a b (l.take k) fun r hr => (so_mem h r (List.mem_of_mem_take hr)).2
  have h2 := h.2.1
  have h3 : (l.take k).length ≤ l.length := by rw [List.length_take]; omega
  omega
theorem sumR_two {a b c : Int} (h1 : a ≤ b) (h2 : b < c) : ∀ l : List DRow, sumR a b l + sumR (b + 1) c l = sumR a c l
  | [] => rfl
  | r :: l => by
    have := sumR_two h1 h2 l
    have e : ∀ x y : Int, sumR x y (r :: l) = (if x ≤ r.Key ∧ r.Key ≤ y then r.Value else 0) + sumR x y l := fun _ _ => rfl
    rw [e, e, e]
    split <;> split <;> split <;> omega
theorem add_mul3 (a b u : Rat) : a * u + b * u = (a + b) * u := (Rat.add_mul a b u).symm
theorem sum_step {un : ByteArray} {l : List DRow} {i : Nat} (h : So l) (hi : i < l.length) : ((sumR (-1099511627776) 1099511627776 (l.take i) : Int) : Rat) * uf un + wv un l i = ((sumR (-1099511627776) 1099511627776 (l.take (i + 1)) : Int) : Rat) * uf un := by
  have hr := (h.2.2 i hi).1
  unfold inR at hr
  rw [sumR_step hi, if_pos hr, Rat.intCast_add, ← add_mul3]; rfl
theorem sum_0 {a b : Int} {l : List DRow} {u : Rat} : ((sumR a b (l.take 0) : Int) : Rat) * u = ((0 : Int) : Rat) := by
  show ((0 : Int) : Rat) * u = _
  exact Rat.zero_mul u
theorem sums {a b c : Int} (h1 : a ≤ b) (h2 : b < c) (l : List DRow) (u : Rat) : ((sumR a b l : Int) : Rat) * u + ((sumR (b + 1) c l : Int) : Rat) * u = ((sumR a c l : Int) : Rat) * u := by
  rw [add_mul3, ← Rat.intCast_add, sumR_two h1 h2]
end Tb

open Go Go.RowKit Go.WideShapes Go.ChangeShapes
theorem wf64 {a : Int} (h : (Lit.int .i64 a).wf = true) : -9223372036854775808 ≤ a ∧ a ≤ 9223372036854775807 := by
  simp [Lit.wf, IntKind.min, IntKind.max, IntKind.signed, IntKind.bits] at h
  omega

open Go Go.Proofs
set_option maxRecDepth 10000 in
theorem ltsums_ct (t_Name t_Unit : ByteArray) (t_Rows : List DRow) (t_Rowss : SV) (from_ middle to : Int) (hfr0 : -9223372036854775808 ≤ from_) (hfr1 : from_ ≤ 9223372036854775807) (hmi0 : -9223372036854775808 ≤ middle) (hmi1 : middle ≤ 9223372036854775807) (hto0 : -9223372036854775808 ≤ to) (hto1 : to ≤ 9223372036854775807) :
    Cp Try.prog 6 #[ag (DTable.mk t_Name t_Unit ⟨t_Rows, t_Rowss⟩), iv from_, iv middle, iv to] [fs true t_Rows t_Rowss] (bv true) := by
  refine V.fn mo Try.func6 130 8 (by kernel_rfl) fun w H ε k0 => ?_
  obtain ⟨⟨kl1, -⟩, -⟩ : Lq t_Rows t_Rowss.v ∧ True := kn k0 (by kernel_rfl)
  clear k0
  refine V.g [.nb 0 0 (fun b => pp b 0) 55 (fun _ => ca (DTable.mk t_Name t_Unit ⟨t_Rows, t_Rowss⟩)),.kb false] fun _ _ G1 => ?_
  intro S_ s_
  refine V.g [.cp g0 0 27 [] (fun _ G => small_ct ),.kb true] fun _ _ G2 => ?_
  intro S_ s_
  refine nm ((!(decide ((t_Rows.length : Int) ≤ 110 ∧ (t_Name.size : Int) ≤ 40 ∧ (ByteArray.size t_Unit : Int) ≤ 40))) || (!(decide (Tb.RtT t_Name t_Unit t_Rows))) : Bool) fun p1 hp1 => ?_
  refine V.g [.ld 0 0 true (fun _ => Dat.cells (DTable.mk t_Name t_Unit ⟨t_Rows, t_Rowss⟩)),.cp g0 1 31 [(kf false (.f 0) t_Rows (fun _ => t_Rowss)).a] (fun _ G => few13_ct t_Name t_Unit t_Rows t_Rowss),.k (bv (!(decide ((t_Rows.length : Int) ≤ 110 ∧ (t_Name.size : Int) ≤ 40 ∧ (ByteArray.size t_Unit : Int) ≤ 40)))),.k (bv (!(decide ((t_Rows.length : Int) ≤ 110 ∧ (t_Name.size : Int) ≤ 40 ∧ (ByteArray.size t_Unit : Int) ≤ 40)))),.ld 0 0 true (fun _ => Dat.cells (DTable.mk t_Name t_Unit ⟨t_Rows, t_Rowss⟩)),.cp (gF (b := !(decide ((t_Rows.length : Int) ≤ 110 ∧ (t_Name.size : Int) ≤ 40 ∧ (ByteArray.size t_Unit : Int) ≤ 40))) (iNF iDT)) 5 32 [(kf false (.f 0) t_Rows (fun _ => t_Rowss)).a] (fun hg G => tright_ct t_Name t_Unit t_Rows t_Rowss (by omega) (by omega)),.k (bv (!(decide (Tb.RtT t_Name t_Unit t_Rows)))),.orn g0 false (!(decide ((t_Rows.length : Int) ≤ 110 ∧ (t_Name.size : Int) ≤ 40 ∧ (ByteArray.size t_Unit : Int) ≤ 40))) (!(decide (Tb.RtT t_Name t_Unit t_Rows))) p1 hp1] fun _ _ G3 => ?_
  intro S_ s_
  refine V.cond (b := p1) (iN hp1 (iOT (iNT iDF) (iNT iDF))) (iN hp1 (iOF (iNF iDT) (iNF iDT))) (by kernel_rfl) (fun q1 => ?_) (fun q2 => ?_)
  · refine V.g [.kb true,.kb true] fun _ _ G4 => ?_
    intro S_ s_
    exact V.ret [0] [] [] [] [] [] (bv true) (fun _ _ => by kernel_rfl) (fun _ _ => by kernel_rfl) (fun _ _ => trivial)
  obtain ⟨hfw, hR⟩ := q2
  have hso := hR.so; have hxl := hso.2.1; have hu := hR.1.1.1
  refine nm (Bg.sgn (0 : Int) : Int) fun n1 hn1 => ?_
  refine nm (Bg.dig (0 : Int).natAbs : List Int) fun l1 hl1 => ?_
  have hl1n := congrArg List.length hl1
  refine nm (Bg.dig 1 : List Int) fun l2 hl2 => ?_
  have hl2n := congrArg List.length hl2
  refine V.r [.ct g0 0 16 false [] [] [] (fun _ G => r5int_ctv (0 : Int) (by omega) n1 hn1 l1 hl1 l2 hl2),.nb 1 1 (fun b => pp b 0) 30 (fun _ => ca (DFrac.mk (DBig.mk 0 ⟨[], {}⟩) (DBig.mk 0 ⟨[], {}⟩))),.st 1 (fun G => .blk ((G 1).b) (ca (DFrac.mk (DBig.mk n1 ⟨l1, (G 0).ss 0⟩) (DBig.mk 1 ⟨l2, (G 0).ss 1⟩))) 30)] fun _ _ G5 kw5 => ?_
  intro S_ s_
  obtain ⟨⟨kl2, -⟩, ⟨kl3, -⟩, -⟩ : Lq l1 (((G5 0).ss 0).v) ∧ Lq l2 (((G5 0).ss 1).v) ∧ True := kn kw5 (by kernel_rfl)
  clear kw5
  refine V.g [.k (iv 0)] fun _ _ G6 => ?_
  intro S_ s_
  refine V.loop (γ := Int × Int × List Int × SV × Int × List Int × SV) (fun ⟨i, all_0, all_1, all_1s, all_2, all_3, all_3s⟩ => ⟨[(1, iv from_), (2, iv middle), (3, iv to), (4, pp ((G1 0).b) 0), (9, bv true), (10, pp ((G5 1).b) 0), (11, iv i)], [fs false t_Rows t_Rowss, fs true all_1 all_1s, fs true all_3 all_3s], [.blk ((G1 0).b) (ca (DTable.mk t_Name t_Unit ⟨t_Rows, t_Rowss⟩)) 55, .blk ((G5 1).b) (ca (DFrac.mk (DBig.mk all_0 ⟨all_1, all_1s⟩) (DBig.mk all_2 ⟨all_3, all_3s⟩))) 30, .no, .no, .no, .no, .no, .no]⟩) (fun ⟨i, all_0, all_1, all_1s, all_2, all_3, all_3s⟩ => (0 ≤ i) ∧ (i ≤ (t_Rows.length : Int)) ∧ (0 ≤ i) ∧ (i ≤ (t_Rows.length : Int)) ∧ (Fr.Fz all_0 all_1 all_2 all_3 (((Tb.sumR (-1099511627776) 1099511627776 (t_Rows.take i.toNat) : Int) : Rat) * Tb.uf t_Unit))) (fun ⟨i, all_0, all_1, all_1s, all_2, all_3, all_3s⟩ => ((t_Rows.length : Int) - i).toNat) (0, n1, l1, (G5 0).ss 0, 1, l2, (G5 0).ss 1) (by kernel_rfl) [0, 1, 2] (by kernel_rfl) ?_ ?_
  · refine ⟨?_, ?_, ?_, ?_, ?_⟩
    · show 0 ≤ (0 : Int)
      first | omega | rfl | (simp; done) | (subst_vars; simp; done)
    · show (0 : Int) ≤ (t_Rows.length : Int)
      first | omega | rfl | (simp; done) | (subst_vars; simp; done)
    · show 0 ≤ (0 : Int)
      omega
    · show (0 : Int) ≤ (t_Rows.length : Int)
      omega
    show Fr.Fz n1 l1 (1 : Int) l2 (((Tb.sumR (-1099511627776) 1099511627776 (t_Rows.take (0 : Int).toNat) : Int) : Rat) * Tb.uf t_Unit)
    rw [show (0 : Int).toNat = 0 from rfl, Tb.sum_0]; subst_vars; exact Un.intz 0
  rintro ⟨i, all_0, all_1, all_1s, all_2, all_3, all_3s⟩ hF1 kw7 Z1 hZ1
  have hF1 : (0 ≤ i) ∧ (i ≤ (t_Rows.length : Int)) ∧ (0 ≤ i) ∧ (i ≤ (t_Rows.length : Int)) ∧ (Fr.Fz all_0 all_1 all_2 all_3 (((Tb.sumR (-1099511627776) 1099511627776 (t_Rows.take i.toNat) : Int) : Rat) * Tb.uf t_Unit)) := hF1
  obtain ⟨hf1, hf2, hf3, hf4, hf5⟩ := hF1
  obtain ⟨-, ⟨kl4, -⟩, ⟨kl5, -⟩, -⟩ : Lq t_Rows t_Rowss.v ∧ Lq all_1 all_1s.v ∧ Lq all_3 all_3s.v ∧ True := kn kw7 (by kernel_rfl)
  clear kw7
  have hFl := hf5.len (Tb.worth_hb hu (n := Tb.sumR (-1099511627776) 1099511627776 (t_Rows.take i.toNat)) (by have := Tb.so_sum hso (-1099511627776) 1099511627776 i.toNat; omega)); have hFl1 := hFl.1; have hFl2 := hFl.2
  refine V.g [.k (iv i),.k (pp ((G1 0).b) 2),.ld 0 2 false (fun _ => [t_Rowss.v]),.ln (kf false (.f 0) t_Rows (fun _ => t_Rowss)),.k (bv (decide (i < (t_Rows.length : Int))))] fun _ _ G7 => ?_
  intro S_ s_
  refine V.cond (b := decide (i < (t_Rows.length : Int))) iDT iDF (by kernel_rfl) (fun q3 => ?_) (fun q4 => ?_)
  · refine nm (t_Rows.getD i.toNat default : DRow) fun x1 hx1 => ?_
    refine nm (Bg.sgn x1.Key : Int) fun n2 hn2 => ?_
    refine nm (Bg.dig x1.Key.natAbs : List Int) fun l3 hl3 => ?_
    have hl3n := congrArg List.length hl3
    refine nm (Bg.dig 1 : List Int) fun l4 hl4 => ?_
    have hl4n := congrArg List.length hl4
    refine nm (Fr.rS ((Tb.RtT t_Name t_Unit t_Rows ∧ Fr.FrB n2 l3 (1 : Int) l4) ∧ 0 < Tb.aft t_Rows (Fr.fq n2 l3 l4)) (Tb.lkR t_Unit t_Rows (Fr.fq n2 l3 l4)) : Int) fun n3 hn3 => ?_
    refine nm (Fr.rD ((Tb.RtT t_Name t_Unit t_Rows ∧ Fr.FrB n2 l3 (1 : Int) l4) ∧ 0 < Tb.aft t_Rows (Fr.fq n2 l3 l4)) (Tb.lkR t_Unit t_Rows (Fr.fq n2 l3 l4)) : List Int) fun l5 hl5 => ?_
    have hl5n := congrArg List.length hl5
    refine nm (Fr.rT ((Tb.RtT t_Name t_Unit t_Rows ∧ Fr.FrB n2 l3 (1 : Int) l4) ∧ 0 < Tb.aft t_Rows (Fr.fq n2 l3 l4)) : Int) fun n4 hn4 => ?_
    refine nm (Fr.rE ((Tb.RtT t_Name t_Unit t_Rows ∧ Fr.FrB n2 l3 (1 : Int) l4) ∧ 0 < Tb.aft t_Rows (Fr.fq n2 l3 l4)) (Tb.lkR t_Unit t_Rows (Fr.fq n2 l3 l4)) : List Int) fun l6 hl6 => ?_
    have hl6n := congrArg List.length hl6
    refine nm (if ¬ (Tb.RtT t_Name t_Unit t_Rows ∧ Fr.FrB n2 l3 (1 : Int) l4) then (1 : Int) else if Tb.aft t_Rows (Fr.fq n2 l3 l4) = 0 then 4 else 0 : Int) fun n5 hn5 => ?_
    have hk_x : Tb.ky t_Rows i.toNat = x1.Key := by rw [hx1]; rfl
    have hr_x := (hso.2.2 i.toNat (by omega)).1
    rw [hk_x] at hr_x; unfold Tb.inR at hr_x
    have zk : Fr.Fz n2 l3 1 l4 (x1.Key : Rat) := by subst_vars; exact Un.intz _
    have hlk := zk.len (Fr.Hb.int (n := x1.Key) (by omega)); have hlk1 := hlk.1; have hlk2 := hlk.2
    have haft : Tb.aft t_Rows (Fr.fq n2 l3 l4) = i.toNat + 1 := by rw [zk.v, ← hk_x]; exact Tb.aft_key hso (by omega)
    have hP8 := And.intro hR zk.rt
    have zf := Fr.Fz.of (And.intro hP8 (show 0 < Tb.aft t_Rows (Fr.fq n2 l3 l4) by omega)) hn3 hl5 hn4 hl6
    rw [Tb.lk_row haft] at zf
    have e8 : n5 = 0 := by rw [hn5, if_neg (fun h => h hP8), if_neg (by omega)]
    have hrv := (hso.2.2 i.toNat (by omega)).2
    unfold Tb.inR at hrv
    have hlf := zf.len (Tb.worth_hb hu (n := Tb.vl t_Rows i.toNat) (by omega)); have hlf1 := hlf.1; have hlf2 := hlf.2
    refine V.r [.ld 0 0 true (fun _ => Dat.cells (DTable.mk t_Name t_Unit ⟨t_Rows, t_Rowss⟩)),.k (pp ((G1 0).b) 2),.ld 0 2 false (fun _ => [t_Rowss.v]),.k (iv i),.ix g0 (kf false (.f 0) t_Rows (fun _ => t_Rowss)) i (fun _ => ⟨by omega, by omega⟩),.k (.pointer (some ((elemAddr t_Rowss.v (i.toNat * 2)).add 0))),.le g0 (kf false (.f 0) t_Rows (fun _ => t_Rowss)) i (some 0) false x1 hx1 (fun _ => ⟨by omega, by omega⟩) false (fun _ => [iv x1.Key]),.ct g0 7 16 false [] [] [] (fun _ G => r5int_ctv x1.Key (by omega) n2 hn2 l3 hl3 l4 hl4),.ct g0 8 29 false [] [] [(kf false (.f 0) t_Rows (fun _ => t_Rowss)).a, (kf true (.g 7 0) l3 (fun G => (G 7).ss 0)).a, (kf true (.g 7 1) l4 (fun G => (G 7).ss 1)).a] (fun _ G => tlook_ctv t_Name t_Unit t_Rows t_Rowss n2 l3 ((G 7).ss 0) (1 : Int) l4 ((G 7).ss 1) (by omega) (by omega) (by omega) (by omega) n3 hn3 l5 hl5 n4 hn4 l6 hl6 n5 hn5),.v fun G => .tuple #[ag (DFrac.mk (DBig.mk n3 ⟨l5, (G 8).ss 0⟩) (DBig.mk n4 ⟨l6, (G 8).ss 1⟩)), iv n5],.v fun G => ag (DFrac.mk (DBig.mk n3 ⟨l5, (G 8).ss 0⟩) (DBig.mk n4 ⟨l6, (G 8).ss 1⟩)),.k (iv n5),.nb 12 2 (fun b => pp b 0) 30 (fun _ => ca (DFrac.mk (DBig.mk 0 ⟨[], {}⟩) (DBig.mk 0 ⟨[], {}⟩))),.st 2 (fun G => .blk ((G 12).b) (ca (DFrac.mk (DBig.mk n3 ⟨l5, (G 8).ss 0⟩) (DBig.mk n4 ⟨l6, (G 8).ss 1⟩))) 30),.k (iv n5)] fun _ _ G8 kw9 => ?_
    intro S_ s_
    obtain ⟨⟨kl6, -⟩, ⟨kl7, -⟩, ⟨kl8, -⟩, ⟨kl9, -⟩, -⟩ : Lq l3 (((G8 7).ss 0).v) ∧ Lq l4 (((G8 7).ss 1).v) ∧ Lq l5 (((G8 8).ss 0).v) ∧ Lq l6 (((G8 8).ss 1).v) ∧ True := kn kw9 (by kernel_rfl)
    clear kw9
    refine V.g [.k (iv n5),.k (bv (!(decide (n5 = 0))))] fun _ _ G9 => ?_
    intro S_ s_
    refine V.cond (b := !(decide (n5 = 0))) (iNT iDF) (iNF iDT) (by kernel_rfl) (fun q5 => ?_) (fun q6 => ?_)
    · exact absurd e8 (by have hqq := q5; exact hqq)
    refine nm (Fr.rS (Fr.FrB all_0 all_1 all_2 all_3 ∧ Fr.FrB n3 l5 n4 l6) ((Fr.fq all_0 all_1 all_3) + (Fr.fq n3 l5 l6)) : Int) fun n6 hn6 => ?_
    refine nm (Fr.rD (Fr.FrB all_0 all_1 all_2 all_3 ∧ Fr.FrB n3 l5 n4 l6) ((Fr.fq all_0 all_1 all_3) + (Fr.fq n3 l5 l6)) : List Int) fun l7 hl7 => ?_
    have hl7n := congrArg List.length hl7
    refine nm (Fr.rT (Fr.FrB all_0 all_1 all_2 all_3 ∧ Fr.FrB n3 l5 n4 l6) : Int) fun n7 hn7 => ?_
    refine nm (Fr.rE (Fr.FrB all_0 all_1 all_2 all_3 ∧ Fr.FrB n3 l5 n4 l6) ((Fr.fq all_0 all_1 all_3) + (Fr.fq n3 l5 l6)) : List Int) fun l8 hl8 => ?_
    have hl8n := congrArg List.length hl8
    refine nm (if ¬ (Fr.FrB all_0 all_1 all_2 all_3 ∧ Fr.FrB n3 l5 n4 l6) then (1 : Int) else 0 : Int) fun n8 hn8 => ?_
    have za := Fr.Fz.of (And.intro hf5.rt zf.rt) hn6 hl7 hn7 hl8
    rw [hf5.v, zf.v, Tb.sum_step hso (by omega)] at za
    refine V.r [.ld 1 0 true (fun _ => Dat.cells (DFrac.mk (DBig.mk all_0 ⟨all_1, all_1s⟩) (DBig.mk all_2 ⟨all_3, all_3s⟩))),.ld 2 0 true (fun _ => Dat.cells (DFrac.mk (DBig.mk n3 ⟨l5, (G8 8).ss 0⟩) (DBig.mk n4 ⟨l6, (G8 8).ss 1⟩))),.ct g0 2 33 false [] [] [(kf true (.f 1) all_1 (fun _ => all_1s)).a, (kf true (.f 2) all_3 (fun _ => all_3s)).a, (kf true (.f 5) l5 (fun _ => (G8 8).ss 0)).a, (kf true (.f 6) l6 (fun _ => (G8 8).ss 1)).a] (fun _ G => fadd_ctv all_0 all_1 all_1s all_2 all_3 all_3s n3 l5 ((G8 8).ss 0) n4 l6 ((G8 8).ss 1) (by omega) (by omega) (by omega) (by omega) n6 hn6 l7 hl7 n7 hn7 l8 hl8 n8 hn8),.v fun G => .tuple #[ag (DFrac.mk (DBig.mk n6 ⟨l7, (G 2).ss 0⟩) (DBig.mk n7 ⟨l8, (G 2).ss 1⟩)), iv n8],.v fun G => ag (DFrac.mk (DBig.mk n6 ⟨l7, (G 2).ss 0⟩) (DBig.mk n7 ⟨l8, (G 2).ss 1⟩)),.k (iv n8),.st 1 (fun G => .blk ((G5 1).b) (ca (DFrac.mk (DBig.mk n6 ⟨l7, (G 2).ss 0⟩) (DBig.mk n7 ⟨l8, (G 2).ss 1⟩))) 30)] fun _ _ G10 kw11 => ?_
    intro S_ s_
    obtain ⟨⟨kl10, -⟩, ⟨kl11, -⟩, -⟩ : Lq l7 (((G10 2).ss 0).v) ∧ Lq l8 (((G10 2).ss 1).v) ∧ True := kn kw11 (by kernel_rfl)
    clear kw11
    refine V.g [.k (iv i),.a (i + 1) (by omega) (by omega),.k (iv (i + 1))] fun _ _ G11 => ?_
    intro S_ s_
    refine V.rnd hZ1 (i + 1, n6, l7, (G10 2).ss 0, n7, l8, (G10 2).ss 1) [0, 7, 8] (by kernel_rfl) ?_ ?_
    · refine ⟨?_, ?_, ?_, ?_, ?_⟩
      · show 0 ≤ (i + 1)
        omega
      · show (i + 1) ≤ (t_Rows.length : Int)
        omega
      · show 0 ≤ (i + 1)
        omega
      · show (i + 1) ≤ (t_Rows.length : Int)
        omega
      show Fr.Fz n6 l7 n7 l8 (((Tb.sumR (-1099511627776) 1099511627776 (t_Rows.take (i + 1).toNat) : Int) : Rat) * Tb.uf t_Unit)
      rw [show (i + 1).toNat = i.toNat + 1 by omega]; exact za
    show ((t_Rows.length : Int) - (i + 1)).toNat < ((t_Rows.length : Int) - i).toNat
    omega
  refine nm (Fr.rS (Tb.RtT t_Name t_Unit t_Rows) (((Tb.sumR (-1099511627776 : Int) (1099511627776 : Int) t_Rows : Int) : Rat) * Tb.uf t_Unit) : Int) fun n9 hn9 => ?_
  refine nm (Fr.rD (Tb.RtT t_Name t_Unit t_Rows) (((Tb.sumR (-1099511627776 : Int) (1099511627776 : Int) t_Rows : Int) : Rat) * Tb.uf t_Unit) : List Int) fun l9 hl9 => ?_
  have hl9n := congrArg List.length hl9
  refine nm (Fr.rT (Tb.RtT t_Name t_Unit t_Rows) : Int) fun n10 hn10 => ?_
  refine nm (Fr.rE (Tb.RtT t_Name t_Unit t_Rows) (((Tb.sumR (-1099511627776 : Int) (1099511627776 : Int) t_Rows : Int) : Rat) * Tb.uf t_Unit) : List Int) fun l10 hl10 => ?_
  have hl10n := congrArg List.length hl10
  refine nm (if Tb.RtT t_Name t_Unit t_Rows then (0 : Int) else 1 : Int) fun n11 hn11 => ?_
  have zw := Fr.Fz.of hR hn9 hl9 hn10 hl10
  have e_zw : n11 = 0 := by rw [hn11, if_pos hR]
  have hall := hf5
  rw [List.take_of_length_le (by omega)] at hall
  have hs13 := Fr.Fz.inj hall zw
  refine V.r [.ld 0 0 true (fun _ => Dat.cells (DTable.mk t_Name t_Unit ⟨t_Rows, t_Rowss⟩)),.ct g0 1 34 false [] [] [(kf false (.f 0) t_Rows (fun _ => t_Rowss)).a] (fun _ G => tsum_ctv t_Name t_Unit t_Rows t_Rowss (-1099511627776 : Int) (1099511627776 : Int) (by omega) (by omega) n9 hn9 l9 hl9 n10 hn10 l10 hl10 n11 hn11),.v fun G => .tuple #[ag (DFrac.mk (DBig.mk n9 ⟨l9, (G 1).ss 0⟩) (DBig.mk n10 ⟨l10, (G 1).ss 1⟩)), iv n11],.v fun G => ag (DFrac.mk (DBig.mk n9 ⟨l9, (G 1).ss 0⟩) (DBig.mk n10 ⟨l10, (G 1).ss 1⟩)),.k (iv n11),.nb 5 3 (fun b => pp b 0) 30 (fun _ => ca (DFrac.mk (DBig.mk 0 ⟨[], {}⟩) (DBig.mk 0 ⟨[], {}⟩))),.st 3 (fun G => .blk ((G 5).b) (ca (DFrac.mk (DBig.mk n9 ⟨l9, (G 1).ss 0⟩) (DBig.mk n10 ⟨l10, (G 1).ss 1⟩))) 30),.k (iv n11)] fun _ _ G12 kw13 => ?_
  intro S_ s_
  obtain ⟨⟨kl12, -⟩, ⟨kl13, -⟩, -⟩ : Lq l9 (((G12 1).ss 0).v) ∧ Lq l10 (((G12 1).ss 1).v) ∧ True := kn kw13 (by kernel_rfl)
  clear kw13
  refine V.g [.k (iv n11),.k (bv (!(decide (n11 = 0)))),.k (bv (!(decide (n11 = 0)))),.ld 1 0 true (fun _ => Dat.cells (DFrac.mk (DBig.mk all_0 ⟨all_1, all_1s⟩) (DBig.mk all_2 ⟨all_3, all_3s⟩))),.ld 3 0 true (fun _ => Dat.cells (DFrac.mk (DBig.mk n9 ⟨l9, (G12 1).ss 0⟩) (DBig.mk n10 ⟨l10, (G12 1).ss 1⟩))),.cp (gF (b := !(decide (n11 = 0))) (iNF iDT)) 5 15 [(kf true (.f 1) all_1 (fun _ => all_1s)).a, (kf true (.f 2) all_3 (fun _ => all_3s)).a, (kf true (.f 3) l9 (fun _ => (G12 1).ss 0)).a, (kf true (.f 4) l10 (fun _ => (G12 1).ss 1)).a] (fun hg G => same5t_ct all_0 all_1 all_1s all_2 all_3 all_3s n9 l9 ((G12 1).ss 0) n10 l10 ((G12 1).ss 1) hs13),.kb false,.or g0 false (!(decide (n11 = 0))) false] fun _ _ G13 => ?_
  intro S_ s_
  refine V.cond (b := (!(decide (n11 = 0))) || false) (iOT (iNT iDF) iFT) (iOF (iNF iDT) iFF) (by kernel_rfl) (fun q7 => ?_) (fun q8 => ?_)
  · exfalso; have hqq := q7; rcases hqq with h | h; exact h e_zw; exact h.elim
  refine nm ((decide (middle < from_)) || (decide (to ≤ middle)) : Bool) fun p2 hp2 => ?_
  refine V.g [.k (iv from_),.k (iv middle),.k (bv (decide (middle < from_))),.k (bv (decide (middle < from_))),.k (iv middle),.k (iv to),.k (bv (decide (to ≤ middle))),.orn g0 false (decide (middle < from_)) (decide (to ≤ middle)) p2 hp2] fun _ _ G14 => ?_
  intro S_ s_
  refine V.cond (b := p2) (iN hp2 (iOT iDT iDT)) (iN hp2 (iOF iDF iDF)) (by kernel_rfl) (fun q9 => ?_) (fun q10 => ?_)
  · refine V.g [.kb true,.kb true] fun _ _ G15 => ?_
    intro S_ s_
    exact V.ret [0] [] [] [] [] [] (bv true) (fun _ _ => by kernel_rfl) (fun _ _ => by kernel_rfl) (fun _ _ => trivial)
  have hqq := q10
  have hab : from_ ≤ middle := by omega
  have hbc : middle < to := by omega
  refine nm (Fr.rS (Tb.RtT t_Name t_Unit t_Rows) (((Tb.sumR from_ middle t_Rows : Int) : Rat) * Tb.uf t_Unit) : Int) fun n12 hn12 => ?_
  refine nm (Fr.rD (Tb.RtT t_Name t_Unit t_Rows) (((Tb.sumR from_ middle t_Rows : Int) : Rat) * Tb.uf t_Unit) : List Int) fun l11 hl11 => ?_
  have hl11n := congrArg List.length hl11
  refine nm (Fr.rE (Tb.RtT t_Name t_Unit t_Rows) (((Tb.sumR from_ middle t_Rows : Int) : Rat) * Tb.uf t_Unit) : List Int) fun l12 hl12 => ?_
  have hl12n := congrArg List.length hl12
  have zx := Fr.Fz.of hR hn12 hl11 hn10 hl12
  have e_zx : n11 = 0 := by rw [hn11, if_pos hR]
  have hl_zx := zx.len (Tb.worth_hb hu (n := Tb.sumR from_ middle t_Rows) (by have := Tb.so_sum hso from_ middle t_Rows.length; rw [List.take_length] at this; omega)); have hl1_zx := hl_zx.1; have hl2_zx := hl_zx.2
  refine V.r [.ld 0 0 true (fun _ => Dat.cells (DTable.mk t_Name t_Unit ⟨t_Rows, t_Rowss⟩)),.k (iv from_),.k (iv middle),.ct g0 3 34 false [] [] [(kf false (.f 0) t_Rows (fun _ => t_Rowss)).a] (fun _ G => tsum_ctv t_Name t_Unit t_Rows t_Rowss from_ middle (by omega) (by omega) n12 hn12 l11 hl11 n10 hn10 l12 hl12 n11 hn11),.v fun G => .tuple #[ag (DFrac.mk (DBig.mk n12 ⟨l11, (G 3).ss 0⟩) (DBig.mk n10 ⟨l12, (G 3).ss 1⟩)), iv n11],.v fun G => ag (DFrac.mk (DBig.mk n12 ⟨l11, (G 3).ss 0⟩) (DBig.mk n10 ⟨l12, (G 3).ss 1⟩)),.k (iv n11),.nb 7 4 (fun b => pp b 0) 30 (fun _ => ca (DFrac.mk (DBig.mk 0 ⟨[], {}⟩) (DBig.mk 0 ⟨[], {}⟩))),.st 4 (fun G => .blk ((G 7).b) (ca (DFrac.mk (DBig.mk n12 ⟨l11, (G 3).ss 0⟩) (DBig.mk n10 ⟨l12, (G 3).ss 1⟩))) 30),.k (iv n11)] fun _ _ G16 kw17 => ?_
  intro S_ s_
  obtain ⟨⟨kl14, -⟩, ⟨kl15, -⟩, -⟩ : Lq l11 (((G16 3).ss 0).v) ∧ Lq l12 (((G16 3).ss 1).v) ∧ True := kn kw17 (by kernel_rfl)
  clear kw17
  refine nm (Fr.rS (Tb.RtT t_Name t_Unit t_Rows) (((Tb.sumR (middle + 1) to t_Rows : Int) : Rat) * Tb.uf t_Unit) : Int) fun n13 hn13 => ?_
  refine nm (Fr.rD (Tb.RtT t_Name t_Unit t_Rows) (((Tb.sumR (middle + 1) to t_Rows : Int) : Rat) * Tb.uf t_Unit) : List Int) fun l13 hl13 => ?_
  have hl13n := congrArg List.length hl13
  refine nm (Fr.rE (Tb.RtT t_Name t_Unit t_Rows) (((Tb.sumR (middle + 1) to t_Rows : Int) : Rat) * Tb.uf t_Unit) : List Int) fun l14 hl14 => ?_
  have hl14n := congrArg List.length hl14
  have zy := Fr.Fz.of hR hn13 hl13 hn10 hl14
  have e_zy : n11 = 0 := by rw [hn11, if_pos hR]
  have hl_zy := zy.len (Tb.worth_hb hu (n := Tb.sumR (middle + 1) to t_Rows) (by have := Tb.so_sum hso (middle + 1) to t_Rows.length; rw [List.take_length] at this; omega)); have hl1_zy := hl_zy.1; have hl2_zy := hl_zy.2
  refine V.r [.ld 0 0 true (fun _ => Dat.cells (DTable.mk t_Name t_Unit ⟨t_Rows, t_Rowss⟩)),.k (iv middle),.a (middle + 1) (by omega) (by omega),.k (iv to),.ct g0 4 34 false [] [] [(kf false (.f 0) t_Rows (fun _ => t_Rowss)).a] (fun _ G => tsum_ctv t_Name t_Unit t_Rows t_Rowss (middle + 1) to (by omega) (by omega) n13 hn13 l13 hl13 n10 hn10 l14 hl14 n11 hn11),.v fun G => .tuple #[ag (DFrac.mk (DBig.mk n13 ⟨l13, (G 4).ss 0⟩) (DBig.mk n10 ⟨l14, (G 4).ss 1⟩)), iv n11],.v fun G => ag (DFrac.mk (DBig.mk n13 ⟨l13, (G 4).ss 0⟩) (DBig.mk n10 ⟨l14, (G 4).ss 1⟩)),.k (iv n11),.nb 8 5 (fun b => pp b 0) 30 (fun _ => ca (DFrac.mk (DBig.mk 0 ⟨[], {}⟩) (DBig.mk 0 ⟨[], {}⟩))),.st 5 (fun G => .blk ((G 8).b) (ca (DFrac.mk (DBig.mk n13 ⟨l13, (G 4).ss 0⟩) (DBig.mk n10 ⟨l14, (G 4).ss 1⟩))) 30),.k (iv n11)] fun _ _ G17 kw18 => ?_
  intro S_ s_
  obtain ⟨⟨kl16, -⟩, ⟨kl17, -⟩, -⟩ : Lq l13 (((G17 4).ss 0).v) ∧ Lq l14 (((G17 4).ss 1).v) ∧ True := kn kw18 (by kernel_rfl)
  clear kw18
  refine nm (Fr.rS (Tb.RtT t_Name t_Unit t_Rows) (((Tb.sumR from_ to t_Rows : Int) : Rat) * Tb.uf t_Unit) : Int) fun n14 hn14 => ?_
  refine nm (Fr.rD (Tb.RtT t_Name t_Unit t_Rows) (((Tb.sumR from_ to t_Rows : Int) : Rat) * Tb.uf t_Unit) : List Int) fun l15 hl15 => ?_
  have hl15n := congrArg List.length hl15
  refine nm (Fr.rE (Tb.RtT t_Name t_Unit t_Rows) (((Tb.sumR from_ to t_Rows : Int) : Rat) * Tb.uf t_Unit) : List Int) fun l16 hl16 => ?_
  have hl16n := congrArg List.length hl16
  have zz_ := Fr.Fz.of hR hn14 hl15 hn10 hl16
  have e_zz_ : n11 = 0 := by rw [hn11, if_pos hR]
  refine V.r [.ld 0 0 true (fun _ => Dat.cells (DTable.mk t_Name t_Unit ⟨t_Rows, t_Rowss⟩)),.k (iv from_),.k (iv to),.ct g0 3 34 false [] [] [(kf false (.f 0) t_Rows (fun _ => t_Rowss)).a] (fun _ G => tsum_ctv t_Name t_Unit t_Rows t_Rowss from_ to (by omega) (by omega) n14 hn14 l15 hl15 n10 hn10 l16 hl16 n11 hn11),.v fun G => .tuple #[ag (DFrac.mk (DBig.mk n14 ⟨l15, (G 3).ss 0⟩) (DBig.mk n10 ⟨l16, (G 3).ss 1⟩)), iv n11],.v fun G => ag (DFrac.mk (DBig.mk n14 ⟨l15, (G 3).ss 0⟩) (DBig.mk n10 ⟨l16, (G 3).ss 1⟩)),.k (iv n11),.nb 7 6 (fun b => pp b 0) 30 (fun _ => ca (DFrac.mk (DBig.mk 0 ⟨[], {}⟩) (DBig.mk 0 ⟨[], {}⟩))),.st 6 (fun G => .blk ((G 7).b) (ca (DFrac.mk (DBig.mk n14 ⟨l15, (G 3).ss 0⟩) (DBig.mk n10 ⟨l16, (G 3).ss 1⟩))) 30),.k (iv n11)] fun _ _ G18 kw19 => ?_
  intro S_ s_
  obtain ⟨⟨kl18, -⟩, ⟨kl19, -⟩, -⟩ : Lq l15 (((G18 3).ss 0).v) ∧ Lq l16 (((G18 3).ss 1).v) ∧ True := kn kw19 (by kernel_rfl)
  clear kw19
  refine nm (Fr.rS (Fr.FrB n12 l11 n10 l12 ∧ Fr.FrB n13 l13 n10 l14) ((Fr.fq n12 l11 l12) + (Fr.fq n13 l13 l14)) : Int) fun n15 hn15 => ?_
  refine nm (Fr.rD (Fr.FrB n12 l11 n10 l12 ∧ Fr.FrB n13 l13 n10 l14) ((Fr.fq n12 l11 l12) + (Fr.fq n13 l13 l14)) : List Int) fun l17 hl17 => ?_
  have hl17n := congrArg List.length hl17
  refine nm (Fr.rT (Fr.FrB n12 l11 n10 l12 ∧ Fr.FrB n13 l13 n10 l14) : Int) fun n16 hn16 => ?_
  refine nm (Fr.rE (Fr.FrB n12 l11 n10 l12 ∧ Fr.FrB n13 l13 n10 l14) ((Fr.fq n12 l11 l12) + (Fr.fq n13 l13 l14)) : List Int) fun l18 hl18 => ?_
  have hl18n := congrArg List.length hl18
  refine nm (if ¬ (Fr.FrB n12 l11 n10 l12 ∧ Fr.FrB n13 l13 n10 l14) then (1 : Int) else 0 : Int) fun n17 hn17 => ?_
  have zd := Fr.Fz.of (And.intro zx.rt zy.rt) hn15 hl17 hn16 hl18
  rw [zx.v, zy.v, Tb.sums (by omega) (by omega)] at zd
  have hs21 := Fr.Fz.inj zz_ zd
  refine V.r [.ld 4 0 true (fun _ => Dat.cells (DFrac.mk (DBig.mk n12 ⟨l11, (G16 3).ss 0⟩) (DBig.mk n10 ⟨l12, (G16 3).ss 1⟩))),.ld 5 0 true (fun _ => Dat.cells (DFrac.mk (DBig.mk n13 ⟨l13, (G17 4).ss 0⟩) (DBig.mk n10 ⟨l14, (G17 4).ss 1⟩))),.ct g0 2 33 false [] [] [(kf true (.f 5) l11 (fun _ => (G16 3).ss 0)).a, (kf true (.f 6) l12 (fun _ => (G16 3).ss 1)).a, (kf true (.f 7) l13 (fun _ => (G17 4).ss 0)).a, (kf true (.f 8) l14 (fun _ => (G17 4).ss 1)).a] (fun _ G => fadd_ctv n12 l11 ((G16 3).ss 0) n10 l12 ((G16 3).ss 1) n13 l13 ((G17 4).ss 0) n10 l14 ((G17 4).ss 1) (by omega) (by omega) (by omega) (by omega) n15 hn15 l17 hl17 n16 hn16 l18 hl18 n17 hn17),.v fun G => .tuple #[ag (DFrac.mk (DBig.mk n15 ⟨l17, (G 2).ss 0⟩) (DBig.mk n16 ⟨l18, (G 2).ss 1⟩)), iv n17],.v fun G => ag (DFrac.mk (DBig.mk n15 ⟨l17, (G 2).ss 0⟩) (DBig.mk n16 ⟨l18, (G 2).ss 1⟩)),.k (iv n17),.nb 6 7 (fun b => pp b 0) 30 (fun _ => ca (DFrac.mk (DBig.mk 0 ⟨[], {}⟩) (DBig.mk 0 ⟨[], {}⟩))),.st 7 (fun G => .blk ((G 6).b) (ca (DFrac.mk (DBig.mk n15 ⟨l17, (G 2).ss 0⟩) (DBig.mk n16 ⟨l18, (G 2).ss 1⟩))) 30),.k (iv n17)] fun _ _ G19 kw20 => ?_
  intro S_ s_
  obtain ⟨⟨kl20, -⟩, ⟨kl21, -⟩, -⟩ : Lq l17 (((G19 2).ss 0).v) ∧ Lq l18 (((G19 2).ss 1).v) ∧ True := kn kw20 (by kernel_rfl)
  clear kw20
  refine nm (((decide (n11 = 0)) && (decide (n11 = 0))) && (decide (n11 = 0)) : Bool) fun p3 hp3 => ?_
  refine V.g [.kb true,.kb true,.k (iv n11),.k (bv (decide (n11 = 0))),.k (bv (decide (n11 = 0))),.k (bv (decide (n11 = 0))),.k (iv n11),.k (bv (decide (n11 = 0))),.and g0 false (decide (n11 = 0)) (decide (n11 = 0)),.k (bv ((decide (n11 = 0)) && (decide (n11 = 0)))),.k (iv n11),.k (bv (decide (n11 = 0))),.andn g0 false ((decide (n11 = 0)) && (decide (n11 = 0))) (decide (n11 = 0)) p3 hp3,.k (bv p3),.ld 6 0 true (fun _ => Dat.cells (DFrac.mk (DBig.mk n14 ⟨l15, (G18 3).ss 0⟩) (DBig.mk n10 ⟨l16, (G18 3).ss 1⟩))),.ld 7 0 true (fun _ => Dat.cells (DFrac.mk (DBig.mk n15 ⟨l17, (G19 2).ss 0⟩) (DBig.mk n16 ⟨l18, (G19 2).ss 1⟩))),.cp (gT (b := p3) (iN hp3 (iAT (iAT iDT iDT) iDT))) 16 15 [(kf true (.f 9) l15 (fun _ => (G18 3).ss 0)).a, (kf true (.f 10) l16 (fun _ => (G18 3).ss 1)).a, (kf true (.f 11) l17 (fun _ => (G19 2).ss 0)).a, (kf true (.f 12) l18 (fun _ => (G19 2).ss 1)).a] (fun hg G => same5t_ct n14 l15 ((G18 3).ss 0) n10 l16 ((G18 3).ss 1) n15 l17 ((G19 2).ss 0) n16 l18 ((G19 2).ss 1) hs21),.and g0 false p3 true,.k (bv (p3 && true))] fun _ _ G20 => ?_
  intro S_ s_
  have e0 : (p3 && true) = true := by
    refine (iAT (iN hp3 (iAT (iAT iDT iDT) iDT)) iTT).2 ?_
    first | exact ⟨⟨⟨e_zx, e_zy⟩, e_zz_⟩, trivial⟩ | exact ⟨⟨e_zx, e_zy⟩, e_zz_⟩
  exact V.ret [0] [] [] [] [] [] (bv (p3 && true)) (fun _ _ => by kernel_rfl) (fun _ _ => (Eq.trans (by kernel_rfl) (cong1 (fun (x0 : Bool) => (bv x0 : Value)) e0)).trans (by kernel_rfl)) (fun _ _ => trivial)
end Kb
