/- Texts for the claim, put together: the calculus of regions, its rules, and contracts of the functions that the law reaches. -/
import Derived.Test.YtpnbgdgjgndicaaZvwg
import Derived.Test.YtpnbgdgjgndicaaZv023a
set_option linter.unusedVariables false
set_option linter.unusedSectionVars false
set_option linter.unusedSimpArgs false
namespace Kb
open Go
namespace Un
open Fr Bg
theorem fr_eq {p q : Prop} [Decidable p] [Decidable q] (h : p ↔ q) {r r' : Rat} (e : r = r') : rS p r = rS q r' ∧ rD p r = rD q r' ∧ rT p = rT q ∧ rE p r = rE q r' := by
  subst e
  by_cases k : p
  · have k' := h.1 k
    rw [rS_y k, rD_y k, rT_y k, rE_y k, rS_y k', rD_y k', rT_y k', rE_y k']; exact ⟨rfl, rfl, rfl, rfl⟩
  · have k' := fun x => k (h.2 x)
    rw [rS_n k, rD_n k, rT_n k, rE_n k, rS_n k', rD_n k', rT_n k', rE_n k']; exact ⟨rfl, rfl, rfl, rfl⟩
end Un

open Go
namespace Tb
open Fr Bg
theorem exu : uf ek = 1000 := by decide +kernel
end Tb

open Go
namespace Tb
open Fr Bg
def g1000 (r : DRow) : DRow := ⟨r.Key, 1000 * r.Value⟩
theorem get_map (l : List DRow) (k : Nat) : (l.map g1000).getD k default = g1000 (l.getD k default) := by
  rw [List.getD_eq_getElem?_getD, List.getD_eq_getElem?_getD, List.getElem?_map]
  cases l[k]? <;> rfl
theorem ky_map (l : List DRow) (k : Nat) : ky (l.map g1000) k = ky l k := by unfold ky; rw [get_map]; rfl
theorem vl_map (l : List DRow) (k : Nat) : vl (l.map g1000) k = 1000 * vl l k := by unfold vl; rw [get_map]; rfl
theorem aft_map : ∀ (l : List DRow) (q : Rat), aft (l.map g1000) q = aft l q
  | [], _ => rfl
  | r :: l, q => by
    have e : aft ((r :: l).map g1000) q = if (r.Key : Rat) ≤ q then aft (l.map g1000) q + 1 else 0 := rfl
    rw [e, aft_map l q]; rfl
theorem uk : uf ⟨#[107, 103]⟩ = 1000 := exu
theorem ug : uf ⟨#[103]⟩ = 1 := by decide +kernel
theorem mul1000 (n : Int) : ((1000 * n : Int) : Rat) * 1 = (n : Rat) * 1000 := by
  rw [Rat.mul_one, Rat.intCast_mul, Rat.mul_comm]; rfl
theorem wv_map (l : List DRow) (k : Nat) : wv ⟨#[103]⟩ (l.map g1000) k = wv ⟨#[107, 103]⟩ l k := by
  unfold wv; rw [vl_map, ug, uk, mul1000]
theorem lkR_map (l : List DRow) (q : Rat) : lkR ⟨#[103]⟩ (l.map g1000) q = lkR ⟨#[107, 103]⟩ l q := by
  unfold lkR; rw [aft_map, wv_map]
theorem lin_map (l : List DRow) (q : Rat) : lin ⟨#[103]⟩ (l.map g1000) q = lin ⟨#[107, 103]⟩ l q := by
  unfold lin
  rw [aft_map, wv_map, ky_map, ky_map, vl_map, vl_map, List.length_map, ug, uk, ← Int.mul_sub, mul1000]
theorem sumR_map (a b : Int) : ∀ l : List DRow, sumR a b (l.map g1000) = 1000 * sumR a b l
  | [] => rfl
  | r :: l => by
    have e1 : sumR a b (r :: l) = (if a ≤ r.Key ∧ r.Key ≤ b then r.Value else 0) + sumR a b l := rfl
    have e2 : sumR a b ((r :: l).map g1000) = (if a ≤ r.Key ∧ r.Key ≤ b then 1000 * r.Value else 0) + sumR a b (l.map g1000) := rfl
    rw [e1, e2, sumR_map a b l, Int.mul_add]
    congr 1
    split <;> rfl
theorem sum_map (a b : Int) (l : List DRow) : ((sumR a b (l.map g1000) : Int) : Rat) * uf ⟨#[103]⟩ = ((sumR a b l : Int) : Rat) * uf ⟨#[107, 103]⟩ := by
  rw [sumR_map, ug, uk, mul1000]
theorem rt_map {nm : ByteArray} {l : List DRow} (h : RtT nm ⟨#[107, 103]⟩ l) (hv : ∀ k, k < l.length → -1099511627 ≤ vl l k ∧ vl l k ≤ 1099511627) : RtT nm ⟨#[103]⟩ (l.map g1000) := by
  obtain ⟨⟨⟨_, h2⟩, h3⟩, h4⟩ := h
  refine ⟨⟨⟨by decide +kernel, h2⟩, by rw [List.length_map]; exact h3⟩, fun i hi => ?_⟩
  rw [List.length_map] at hi
  have h5 := h4 i hi
  have h6 := hv i hi
  unfold RowOk inR at *
  rw [ky_map, ky_map, vl_map]
  refine ⟨⟨h5.1.1, by omega⟩, h5.2⟩
theorem map_step {l : List DRow} {k : Nat} (h : k < l.length) : (l.take k).map g1000 ++ [g1000 (l.getD k default)] = (l.take (k + 1)).map g1000 := by
  rw [take_get h, List.map_append]; rfl
end Tb

open Go Go.Proofs
set_option maxRecDepth 10000 in
theorem ltunits_ct (t_Name t_Unit : ByteArray) (t_Rows : List DRow) (t_Rowss : SV) (key_P_Sign : Int) (key_P_Digits : List Int) (key_P_Digitss : SV) (key_Q_Sign : Int) (key_Q_Digits : List Int) (key_Q_Digitss : SV) (from_ to : Int) :
    Cp Try.prog 7 #[ag (DTable.mk t_Name t_Unit ⟨t_Rows, t_Rowss⟩), ag (DFrac.mk (DBig.mk key_P_Sign ⟨key_P_Digits, key_P_Digitss⟩) (DBig.mk key_Q_Sign ⟨key_Q_Digits, key_Q_Digitss⟩)), iv from_, iv to] [fs true t_Rows t_Rowss, fs true key_P_Digits key_P_Digitss, fs true key_Q_Digits key_Q_Digitss] (bv true) := by
  refine V.fn mo Try.func7 155 10 (by kernel_rfl) fun w H ε k0 => ?_
  obtain ⟨⟨kl1, -⟩, ⟨kl2, -⟩, ⟨kl3, -⟩, -⟩ : Lq t_Rows t_Rowss.v ∧ Lq key_P_Digits key_P_Digitss.v ∧ Lq key_Q_Digits key_Q_Digitss.v ∧ True := kn k0 (by kernel_rfl)
  clear k0
  refine V.g [.nb 0 0 (fun b => pp b 0) 55 (fun _ => ca (DTable.mk t_Name t_Unit ⟨t_Rows, t_Rowss⟩)),.nb 1 1 (fun b => pp b 0) 30 (fun _ => ca (DFrac.mk (DBig.mk key_P_Sign ⟨key_P_Digits, key_P_Digitss⟩) (DBig.mk key_Q_Sign ⟨key_Q_Digits, key_Q_Digitss⟩))),.kb false] fun _ _ G1 => ?_
  intro S_ s_
  refine V.g [.cp g0 0 27 [] (fun _ G => small_ct ),.kb true] fun _ _ G2 => ?_
  intro S_ s_
  refine V.g [.k (pp ((G1 0).b) 1),.st 0 (fun _ => .blk ((G1 0).b) (ca (DTable.mk t_Name ⟨#[107, 103]⟩ ⟨t_Rows, t_Rowss⟩)) 55)] fun _ _ G3 => ?_
  intro S_ s_
  refine nm ((!(decide ((t_Rows.length : Int) ≤ 110 ∧ (t_Name.size : Int) ≤ 40 ∧ (ByteArray.size ⟨#[107, 103]⟩ : Int) ≤ 40))) || (!(decide ((key_P_Digits.length : Int) ≤ (5 : Int) ∧ (key_Q_Digits.length : Int) ≤ (5 : Int)))) : Bool) fun p1 hp1 => ?_
  refine nm (p1 || (!(decide (Tb.RtT t_Name ⟨#[107, 103]⟩ t_Rows))) : Bool) fun p2 hp2 => ?_
  refine nm (p2 || (!(decide (Fr.FrB key_P_Sign key_P_Digits key_Q_Sign key_Q_Digits))) : Bool) fun p3 hp3 => ?_
  refine V.g [.ld 0 0 true (fun _ => Dat.cells (DTable.mk t_Name ⟨#[107, 103]⟩ ⟨t_Rows, t_Rowss⟩)),.cp g0 1 31 [(kf false (.f 0) t_Rows (fun _ => t_Rowss)).a] (fun _ G => few13_ct t_Name ⟨#[107, 103]⟩ t_Rows t_Rowss),.k (bv (!(decide ((t_Rows.length : Int) ≤ 110 ∧ (t_Name.size : Int) ≤ 40 ∧ (ByteArray.size ⟨#[107, 103]⟩ : Int) ≤ 40)))),.k (bv (!(decide ((t_Rows.length : Int) ≤ 110 ∧ (t_Name.size : Int) ≤ 40 ∧ (ByteArray.size ⟨#[107, 103]⟩ : Int) ≤ 40)))),.ld 1 0 true (fun _ => Dat.cells (DFrac.mk (DBig.mk key_P_Sign ⟨key_P_Digits, key_P_Digitss⟩) (DBig.mk key_Q_Sign ⟨key_Q_Digits, key_Q_Digitss⟩))),.cp (gF (b := !(decide ((t_Rows.length : Int) ≤ 110 ∧ (t_Name.size : Int) ≤ 40 ∧ (ByteArray.size ⟨#[107, 103]⟩ : Int) ≤ 40))) (iNF iDT)) 5 22 [(kf false (.f 1) key_P_Digits (fun _ => key_P_Digitss)).a, (kf false (.f 2) key_Q_Digits (fun _ => key_Q_Digitss)).a] (fun hg G => few5_ct key_P_Sign key_P_Digits key_P_Digitss key_Q_Sign key_Q_Digits key_Q_Digitss (5 : Int)),.k (bv (!(decide ((key_P_Digits.length : Int) ≤ (5 : Int) ∧ (key_Q_Digits.length : Int) ≤ (5 : Int))))),.orn g0 false (!(decide ((t_Rows.length : Int) ≤ 110 ∧ (t_Name.size : Int) ≤ 40 ∧ (ByteArray.size ⟨#[107, 103]⟩ : Int) ≤ 40))) (!(decide ((key_P_Digits.length : Int) ≤ (5 : Int) ∧ (key_Q_Digits.length : Int) ≤ (5 : Int)))) p1 hp1,.k (bv p1),.ld 0 0 true (fun _ => Dat.cells (DTable.mk t_Name ⟨#[107, 103]⟩ ⟨t_Rows, t_Rowss⟩)),.cp (gF (b := p1) (iN hp1 (iOF (iNF iDT) (iNF iDT)))) 10 32 [(kf false (.f 0) t_Rows (fun _ => t_Rowss)).a] (fun hg G => tright_ct t_Name ⟨#[107, 103]⟩ t_Rows t_Rowss (by decide) (by omega)),.k (bv (!(decide (Tb.RtT t_Name ⟨#[107, 103]⟩ t_Rows)))),.orn g0 false p1 (!(decide (Tb.RtT t_Name ⟨#[107, 103]⟩ t_Rows))) p2 hp2,.k (bv p2),.ld 1 0 true (fun _ => Dat.cells (DFrac.mk (DBig.mk key_P_Sign ⟨key_P_Digits, key_P_Digitss⟩) (DBig.mk key_Q_Sign ⟨key_Q_Digits, key_Q_Digitss⟩))),.cp (gF (b := p2) (iN hp2 (iOF (iN hp1 (iOF (iNF iDT) (iNF iDT))) (iNF iDT)))) 15 24 [(kf false (.f 1) key_P_Digits (fun _ => key_P_Digitss)).a, (kf false (.f 2) key_Q_Digits (fun _ => key_Q_Digitss)).a] (fun hg G => right_ct key_P_Sign key_P_Digits key_P_Digitss key_Q_Sign key_Q_Digits key_Q_Digitss (by omega) (by omega)),.k (bv (!(decide (Fr.FrB key_P_Sign key_P_Digits key_Q_Sign key_Q_Digits)))),.orn g0 false p2 (!(decide (Fr.FrB key_P_Sign key_P_Digits key_Q_Sign key_Q_Digits))) p3 hp3] fun _ _ G4 => ?_
  intro S_ s_
  refine V.cond (b := p3) (iN hp3 (iOT (iN hp2 (iOT (iN hp1 (iOT (iNT iDF) (iNT iDF))) (iNT iDF))) (iNT iDF))) (iN hp3 (iOF (iN hp2 (iOF (iN hp1 (iOF (iNF iDT) (iNF iDT))) (iNF iDT))) (iNF iDT))) (by kernel_rfl) (fun q1 => ?_) (fun q2 => ?_)
  · refine V.g [.kb true,.kb true] fun _ _ G5 => ?_
    intro S_ s_
    exact V.ret [0] [] [] [] [] [] (bv true) (fun _ _ => by kernel_rfl) (fun _ _ => by kernel_rfl) (fun _ _ => trivial)
  obtain ⟨⟨⟨hfw, hfk⟩, hR⟩, hK⟩ := q2
  have hso := hR.so; have hxl := hso.2.1
  have hP : (Tb.RtT t_Name ⟨#[107, 103]⟩ t_Rows ∧ Fr.FrB key_P_Sign key_P_Digits key_Q_Sign key_Q_Digits) := ⟨hR, hK⟩
  refine V.g [.k (pp ((G1 0).b) 0),.ld 0 0 false (fun _ => [tv t_Name]),.k (ag (DTable.mk t_Name ⟨#[103]⟩ ⟨[], {}⟩)),.nb 3 2 (fun b => pp b 0) 55 (fun _ => ca (DTable.mk ByteArray.empty ByteArray.empty ⟨[], {}⟩)),.st 2 (fun G => .blk ((G 3).b) (ca (DTable.mk t_Name ⟨#[103]⟩ ⟨[], {}⟩)) 55)] fun _ _ G6 => ?_
  intro S_ s_
  refine V.g [.k (iv 0)] fun _ _ G7 => ?_
  intro S_ s_
  refine V.on (α := DRow) 3 60 (by kernel_rfl) ?_
  refine V.loop (γ := Int × List DRow × SV) (fun ⟨i, grams_2, grams_2s⟩ => ⟨[(2, iv from_), (3, iv to), (4, pp ((G1 0).b) 0), (5, pp ((G1 1).b) 0), (9, bv true), (10, pp ((G6 3).b) 0), (11, iv i)], [fs false t_Rows t_Rowss, fs false key_P_Digits key_P_Digitss, fs false key_Q_Digits key_Q_Digitss], [.blk ((G1 0).b) (ca (DTable.mk t_Name ⟨#[107, 103]⟩ ⟨t_Rows, t_Rowss⟩)) 55, .blk ((G1 1).b) (ca (DFrac.mk (DBig.mk key_P_Sign ⟨key_P_Digits, key_P_Digitss⟩) (DBig.mk key_Q_Sign ⟨key_Q_Digits, key_Q_Digitss⟩))) 30, .blk ((G6 3).b) (ca (DTable.mk t_Name ⟨#[103]⟩ ⟨grams_2, grams_2s⟩)) 55, os true 60 grams_2 grams_2s, .no, .no, .no, .no, .no, .no]⟩) (fun ⟨i, grams_2, grams_2s⟩ => (0 ≤ i) ∧ (i ≤ (t_Rows.length : Int)) ∧ (0 ≤ i) ∧ (i ≤ (t_Rows.length : Int)) ∧ (grams_2 = (t_Rows.take i.toNat).map Tb.g1000) ∧ (∀ k, k < i.toNat → -1099511627 ≤ Tb.vl t_Rows k ∧ Tb.vl t_Rows k ≤ 1099511627)) (fun ⟨i, grams_2, grams_2s⟩ => ((t_Rows.length : Int) - i).toNat) (0, ([] : List DRow), {}) (by kernel_rfl) [0, 1, 2] (by kernel_rfl) ?_ ?_
  · refine ⟨?_, ?_, ?_, ?_, ?_, ?_⟩
    · show 0 ≤ (0 : Int)
      first | omega | rfl | (simp; done) | (subst_vars; simp; done)
    · show (0 : Int) ≤ (t_Rows.length : Int)
      first | omega | rfl | (simp; done) | (subst_vars; simp; done)
    · show 0 ≤ (0 : Int)
      omega
    · show (0 : Int) ≤ (t_Rows.length : Int)
      omega
    · show ([] : List DRow) = (t_Rows.take (0 : Int).toNat).map Tb.g1000
      rfl
    show ∀ k, k < (0 : Int).toNat → -1099511627 ≤ Tb.vl t_Rows k ∧ Tb.vl t_Rows k ≤ 1099511627
    intro k hk; simp at hk
  rintro ⟨i, grams_2, grams_2s⟩ hF1 kw8 Z1 hZ1
  have hF1 : (0 ≤ i) ∧ (i ≤ (t_Rows.length : Int)) ∧ (0 ≤ i) ∧ (i ≤ (t_Rows.length : Int)) ∧ (grams_2 = (t_Rows.take i.toNat).map Tb.g1000) ∧ (∀ k, k < i.toNat → -1099511627 ≤ Tb.vl t_Rows k ∧ Tb.vl t_Rows k ≤ 1099511627) := hF1
  obtain ⟨hf1, hf2, hf3, hf4, hf5, hf6⟩ := hF1
  obtain ⟨-, -, -, ⟨kl4, -⟩, -⟩ : Lq t_Rows t_Rowss.v ∧ Lq key_P_Digits key_P_Digitss.v ∧ Lq key_Q_Digits key_Q_Digitss.v ∧ Lq grams_2 grams_2s.v ∧ True := kn kw8 (by kernel_rfl)
  clear kw8
  have hgl := congrArg List.length hf5; simp only [List.length_map, List.length_take] at hgl
  refine V.g [.k (iv i),.k (pp ((G1 0).b) 2),.ld 0 2 false (fun _ => [t_Rowss.v]),.ln (kf false (.f 0) t_Rows (fun _ => t_Rowss)),.k (bv (decide (i < (t_Rows.length : Int))))] fun _ _ G8 => ?_
  intro S_ s_
  refine V.cond (b := decide (i < (t_Rows.length : Int))) iDT iDF (by kernel_rfl) (fun q3 => ?_) (fun q4 => ?_)
  · refine nm (t_Rows.getD i.toNat default : DRow) fun x1 hx1 => ?_
    refine V.g [.k (pp ((G1 0).b) 2),.ld 0 2 false (fun _ => [t_Rowss.v]),.k (iv i),.ix g0 (kf false (.f 0) t_Rows (fun _ => t_Rowss)) i (fun _ => ⟨by omega, by omega⟩),.k (.pointer (some ((elemAddr t_Rowss.v (i.toNat * 2)).add 1))),.le g0 (kf false (.f 0) t_Rows (fun _ => t_Rowss)) i (some 1) false x1 hx1 (fun _ => ⟨by omega, by omega⟩) false (fun _ => [iv x1.Value]),.k (iv x1.Value)] fun _ _ G9 => ?_
    intro S_ s_
    refine nm ((decide (x1.Value < (-1099511627))) || (decide (1099511627 < x1.Value)) : Bool) fun p4 hp4 => ?_
    refine V.g [.k (iv x1.Value),.k (bv (decide (x1.Value < (-1099511627)))),.k (bv (decide (x1.Value < (-1099511627)))),.k (iv x1.Value),.k (bv (decide (1099511627 < x1.Value))),.orn g0 false (decide (x1.Value < (-1099511627))) (decide (1099511627 < x1.Value)) p4 hp4] fun _ _ G10 => ?_
    intro S_ s_
    refine V.cond (b := p4) (iN hp4 (iOT iDT iDT)) (iN hp4 (iOF iDF iDF)) (by kernel_rfl) (fun q5 => ?_) (fun q6 => ?_)
    · refine V.g [.kb true,.kb true] fun _ _ G11 => ?_
      intro S_ s_
      exact V.ret [0] [] [] [] [] [] (bv true) (fun _ _ => by kernel_rfl) (fun _ _ => by kernel_rfl) (fun _ _ => trivial)
    have hbv : -1099511627 ≤ x1.Value ∧ x1.Value ≤ 1099511627 := by have hqq := q6; omega
    refine nm (1000 * x1.Value : Int) fun n1 hn1 => ?_
    refine nm (grams_2 ++ ([DRow.mk x1.Key n1] : List DRow) : List DRow) fun l1 hl1 => ?_
    have hl1n := congrArg List.length hl1; try simp only [List.length_append, List.length_cons, List.length_nil, List.length_replicate, List.length_set, List.length_take, List.length_drop, List.length_map, List.length_reverse, List.length_range] at hl1n
    refine V.r [.k (pp ((G6 3).b) 2),.ld 2 2 false (fun _ => [grams_2s.v]),.k (pp ((G1 0).b) 2),.ld 0 2 false (fun _ => [t_Rowss.v]),.k (iv i),.ix g0 (kf false (.f 0) t_Rows (fun _ => t_Rowss)) i (fun _ => ⟨by omega, by omega⟩),.k (.pointer (some ((elemAddr t_Rowss.v (i.toNat * 2)).add 0))),.le g0 (kf false (.f 0) t_Rows (fun _ => t_Rowss)) i (some 0) false x1 hx1 (fun _ => ⟨by omega, by omega⟩) false (fun _ => [iv x1.Key]),.k (iv x1.Value),.ar (1000 * x1.Value) n1 hn1 (by omega) (by omega),.k (ag (DRow.mk x1.Key n1)),.nr 11 true 60 ([DRow.mk x1.Key n1] : List DRow) [] (fun _ _ _ _ _ => trivial) (fun _ => #[iv x1.Key, iv n1]),.ap 12 3 60 16 false true grams_2 (fun _ => grams_2s) (kf true (.g 11 0) ([DRow.mk x1.Key n1] : List DRow) (fun G => ⟨atB (G 11).b, 1, 1⟩)) true l1 hl1 (by (try simp only [List.length_append, List.length_cons, List.length_nil, List.length_replicate, List.length_set, List.length_take, List.length_drop, List.length_map, List.length_reverse, List.length_range]); omega) (fun h => by cases h) (.inr fun _ _ => trivial),.k (pp ((G6 3).b) 2),.st 2 (fun G => .blk ((G6 3).b) (ca (DTable.mk t_Name ⟨#[103]⟩ ⟨l1, (G 12).s⟩)) 55)] fun _ _ G12 kw13 => ?_
    intro S_ s_
    obtain ⟨⟨kl5, -⟩, -⟩ : Lq ([DRow.mk x1.Key n1] : List DRow) (SV.v ⟨atB (G12 11).b, 1, 1⟩) ∧ Lq l1 (((G12 12).s).v) ∧ True := kn kw13 (by kernel_rfl)
    clear kw13
    refine V.g [.k (iv i),.a (i + 1) (by omega) (by omega),.k (iv (i + 1))] fun _ _ G13 => ?_
    intro S_ s_
    refine V.rnd hZ1 (i + 1, l1, (G12 12).s) [0, 1, 2] (by kernel_rfl) ?_ ?_
    · refine ⟨?_, ?_, ?_, ?_, ?_, ?_⟩
      · show 0 ≤ (i + 1)
        omega
      · show (i + 1) ≤ (t_Rows.length : Int)
        omega
      · show 0 ≤ (i + 1)
        omega
      · show (i + 1) ≤ (t_Rows.length : Int)
        omega
      · show l1 = (t_Rows.take (i + 1).toNat).map Tb.g1000
        rw [hl1, hn1, hf5, show (i + 1).toNat = i.toNat + 1 by omega, ← Tb.map_step (by omega), ← hx1]; rfl
      show ∀ k, k < (i + 1).toNat → -1099511627 ≤ Tb.vl t_Rows k ∧ Tb.vl t_Rows k ≤ 1099511627
      intro k hk; by_cases e : k < i.toNat
      · exact hf6 k e
      rw [show k = i.toNat by omega]
      have hvx : Tb.vl t_Rows i.toNat = x1.Value := by rw [hx1]; rfl
      rw [hvx]; exact hbv
    show ((t_Rows.length : Int) - (i + 1)).toNat < ((t_Rows.length : Int) - i).toNat
    omega
  have hG : grams_2 = t_Rows.map Tb.g1000 := by rw [hf5, List.take_of_length_le (by omega)]
  have hRg : Tb.RtT t_Name ⟨#[103]⟩ grams_2 := by rw [hG]; exact Tb.rt_map hR fun k hk => hf6 k (by omega)
  have hPg : Tb.RtT t_Name ⟨#[103]⟩ grams_2 ∧ Fr.FrB key_P_Sign key_P_Digits key_Q_Sign key_Q_Digits := ⟨hRg, hK⟩
  refine nm (Fr.rS ((Tb.RtT t_Name ⟨#[107, 103]⟩ t_Rows ∧ Fr.FrB key_P_Sign key_P_Digits key_Q_Sign key_Q_Digits) ∧ 0 < Tb.aft t_Rows (Fr.fq key_P_Sign key_P_Digits key_Q_Digits)) (Tb.lkR ⟨#[107, 103]⟩ t_Rows (Fr.fq key_P_Sign key_P_Digits key_Q_Digits)) : Int) fun n2 hn2 => ?_
  refine nm (Fr.rD ((Tb.RtT t_Name ⟨#[107, 103]⟩ t_Rows ∧ Fr.FrB key_P_Sign key_P_Digits key_Q_Sign key_Q_Digits) ∧ 0 < Tb.aft t_Rows (Fr.fq key_P_Sign key_P_Digits key_Q_Digits)) (Tb.lkR ⟨#[107, 103]⟩ t_Rows (Fr.fq key_P_Sign key_P_Digits key_Q_Digits)) : List Int) fun l2 hl2 => ?_
  have hl2n := congrArg List.length hl2
  refine nm (Fr.rT ((Tb.RtT t_Name ⟨#[107, 103]⟩ t_Rows ∧ Fr.FrB key_P_Sign key_P_Digits key_Q_Sign key_Q_Digits) ∧ 0 < Tb.aft t_Rows (Fr.fq key_P_Sign key_P_Digits key_Q_Digits)) : Int) fun n3 hn3 => ?_
  refine nm (Fr.rE ((Tb.RtT t_Name ⟨#[107, 103]⟩ t_Rows ∧ Fr.FrB key_P_Sign key_P_Digits key_Q_Sign key_Q_Digits) ∧ 0 < Tb.aft t_Rows (Fr.fq key_P_Sign key_P_Digits key_Q_Digits)) (Tb.lkR ⟨#[107, 103]⟩ t_Rows (Fr.fq key_P_Sign key_P_Digits key_Q_Digits)) : List Int) fun l3 hl3 => ?_
  have hl3n := congrArg List.length hl3
  refine nm (if ¬ (Tb.RtT t_Name ⟨#[107, 103]⟩ t_Rows ∧ Fr.FrB key_P_Sign key_P_Digits key_Q_Sign key_Q_Digits) then (1 : Int) else if Tb.aft t_Rows (Fr.fq key_P_Sign key_P_Digits key_Q_Digits) = 0 then 4 else 0 : Int) fun n4 hn4 => ?_
  refine V.r [.ld 0 0 true (fun _ => Dat.cells (DTable.mk t_Name ⟨#[107, 103]⟩ ⟨t_Rows, t_Rowss⟩)),.ld 1 0 true (fun _ => Dat.cells (DFrac.mk (DBig.mk key_P_Sign ⟨key_P_Digits, key_P_Digitss⟩) (DBig.mk key_Q_Sign ⟨key_Q_Digits, key_Q_Digitss⟩))),.ct g0 2 29 false [] [] [(kf false (.f 0) t_Rows (fun _ => t_Rowss)).a, (kf false (.f 1) key_P_Digits (fun _ => key_P_Digitss)).a, (kf false (.f 2) key_Q_Digits (fun _ => key_Q_Digitss)).a] (fun _ G => tlook_ctv t_Name ⟨#[107, 103]⟩ t_Rows t_Rowss key_P_Sign key_P_Digits key_P_Digitss key_Q_Sign key_Q_Digits key_Q_Digitss (by decide) (by omega) (by omega) (by omega) n2 hn2 l2 hl2 n3 hn3 l3 hl3 n4 hn4),.v fun G => .tuple #[ag (DFrac.mk (DBig.mk n2 ⟨l2, (G 2).ss 0⟩) (DBig.mk n3 ⟨l3, (G 2).ss 1⟩)), iv n4],.v fun G => ag (DFrac.mk (DBig.mk n2 ⟨l2, (G 2).ss 0⟩) (DBig.mk n3 ⟨l3, (G 2).ss 1⟩)),.k (iv n4),.nb 6 4 (fun b => pp b 0) 30 (fun _ => ca (DFrac.mk (DBig.mk 0 ⟨[], {}⟩) (DBig.mk 0 ⟨[], {}⟩))),.st 4 (fun G => .blk ((G 6).b) (ca (DFrac.mk (DBig.mk n2 ⟨l2, (G 2).ss 0⟩) (DBig.mk n3 ⟨l3, (G 2).ss 1⟩))) 30),.k (iv n4)] fun _ _ G14 kw15 => ?_
  intro S_ s_
  obtain ⟨⟨kl6, -⟩, ⟨kl7, -⟩, -⟩ : Lq l2 (((G14 2).ss 0).v) ∧ Lq l3 (((G14 2).ss 1).v) ∧ Lq grams_2 grams_2s.v ∧ True := kn kw15 (by kernel_rfl)
  clear kw15
  refine nm (Fr.rS ((Tb.RtT t_Name ⟨#[103]⟩ grams_2 ∧ Fr.FrB key_P_Sign key_P_Digits key_Q_Sign key_Q_Digits) ∧ 0 < Tb.aft grams_2 (Fr.fq key_P_Sign key_P_Digits key_Q_Digits)) (Tb.lkR ⟨#[103]⟩ grams_2 (Fr.fq key_P_Sign key_P_Digits key_Q_Digits)) : Int) fun n5 hn5 => ?_
  refine nm (Fr.rD ((Tb.RtT t_Name ⟨#[103]⟩ grams_2 ∧ Fr.FrB key_P_Sign key_P_Digits key_Q_Sign key_Q_Digits) ∧ 0 < Tb.aft grams_2 (Fr.fq key_P_Sign key_P_Digits key_Q_Digits)) (Tb.lkR ⟨#[103]⟩ grams_2 (Fr.fq key_P_Sign key_P_Digits key_Q_Digits)) : List Int) fun l4 hl4 => ?_
  have hl4n := congrArg List.length hl4
  refine nm (Fr.rT ((Tb.RtT t_Name ⟨#[103]⟩ grams_2 ∧ Fr.FrB key_P_Sign key_P_Digits key_Q_Sign key_Q_Digits) ∧ 0 < Tb.aft grams_2 (Fr.fq key_P_Sign key_P_Digits key_Q_Digits)) : Int) fun n6 hn6 => ?_
  refine nm (Fr.rE ((Tb.RtT t_Name ⟨#[103]⟩ grams_2 ∧ Fr.FrB key_P_Sign key_P_Digits key_Q_Sign key_Q_Digits) ∧ 0 < Tb.aft grams_2 (Fr.fq key_P_Sign key_P_Digits key_Q_Digits)) (Tb.lkR ⟨#[103]⟩ grams_2 (Fr.fq key_P_Sign key_P_Digits key_Q_Digits)) : List Int) fun l5 hl5 => ?_
  have hl5n := congrArg List.length hl5
  refine nm (if ¬ (Tb.RtT t_Name ⟨#[103]⟩ grams_2 ∧ Fr.FrB key_P_Sign key_P_Digits key_Q_Sign key_Q_Digits) then (1 : Int) else if Tb.aft grams_2 (Fr.fq key_P_Sign key_P_Digits key_Q_Digits) = 0 then 4 else 0 : Int) fun n7 hn7 => ?_
  refine V.r [.ld 2 0 true (fun _ => Dat.cells (DTable.mk t_Name ⟨#[103]⟩ ⟨grams_2, grams_2s⟩)),.ld 1 0 true (fun _ => Dat.cells (DFrac.mk (DBig.mk key_P_Sign ⟨key_P_Digits, key_P_Digitss⟩) (DBig.mk key_Q_Sign ⟨key_Q_Digits, key_Q_Digitss⟩))),.ct g0 2 29 false [] [] [(ko true 60 3 grams_2 (fun _ => grams_2s)).a, (kf false (.f 1) key_P_Digits (fun _ => key_P_Digitss)).a, (kf false (.f 2) key_Q_Digits (fun _ => key_Q_Digitss)).a] (fun _ G => tlook_ctv t_Name ⟨#[103]⟩ grams_2 grams_2s key_P_Sign key_P_Digits key_P_Digitss key_Q_Sign key_Q_Digits key_Q_Digitss (by decide) (by omega) (by omega) (by omega) n5 hn5 l4 hl4 n6 hn6 l5 hl5 n7 hn7),.v fun G => .tuple #[ag (DFrac.mk (DBig.mk n5 ⟨l4, (G 2).ss 0⟩) (DBig.mk n6 ⟨l5, (G 2).ss 1⟩)), iv n7],.v fun G => ag (DFrac.mk (DBig.mk n5 ⟨l4, (G 2).ss 0⟩) (DBig.mk n6 ⟨l5, (G 2).ss 1⟩)),.k (iv n7),.nb 6 5 (fun b => pp b 0) 30 (fun _ => ca (DFrac.mk (DBig.mk 0 ⟨[], {}⟩) (DBig.mk 0 ⟨[], {}⟩))),.st 5 (fun G => .blk ((G 6).b) (ca (DFrac.mk (DBig.mk n5 ⟨l4, (G 2).ss 0⟩) (DBig.mk n6 ⟨l5, (G 2).ss 1⟩))) 30),.k (iv n7)] fun _ _ G15 kw16 => ?_
  intro S_ s_
  obtain ⟨⟨kl8, -⟩, ⟨kl9, -⟩, -⟩ : Lq l4 (((G15 2).ss 0).v) ∧ Lq l5 (((G15 2).ss 1).v) ∧ Lq grams_2 grams_2s.v ∧ True := kn kw16 (by kernel_rfl)
  clear kw16
  refine nm (Fr.rS ((Tb.RtT t_Name ⟨#[107, 103]⟩ t_Rows ∧ Fr.FrB key_P_Sign key_P_Digits key_Q_Sign key_Q_Digits) ∧ (Tb.lin ⟨#[107, 103]⟩ t_Rows (Fr.fq key_P_Sign key_P_Digits key_Q_Digits)).isSome = true) ((Tb.lin ⟨#[107, 103]⟩ t_Rows (Fr.fq key_P_Sign key_P_Digits key_Q_Digits)).getD 0) : Int) fun n8 hn8 => ?_
  refine nm (Fr.rD ((Tb.RtT t_Name ⟨#[107, 103]⟩ t_Rows ∧ Fr.FrB key_P_Sign key_P_Digits key_Q_Sign key_Q_Digits) ∧ (Tb.lin ⟨#[107, 103]⟩ t_Rows (Fr.fq key_P_Sign key_P_Digits key_Q_Digits)).isSome = true) ((Tb.lin ⟨#[107, 103]⟩ t_Rows (Fr.fq key_P_Sign key_P_Digits key_Q_Digits)).getD 0) : List Int) fun l6 hl6 => ?_
  have hl6n := congrArg List.length hl6
  refine nm (Fr.rT ((Tb.RtT t_Name ⟨#[107, 103]⟩ t_Rows ∧ Fr.FrB key_P_Sign key_P_Digits key_Q_Sign key_Q_Digits) ∧ (Tb.lin ⟨#[107, 103]⟩ t_Rows (Fr.fq key_P_Sign key_P_Digits key_Q_Digits)).isSome = true) : Int) fun n9 hn9 => ?_
  refine nm (Fr.rE ((Tb.RtT t_Name ⟨#[107, 103]⟩ t_Rows ∧ Fr.FrB key_P_Sign key_P_Digits key_Q_Sign key_Q_Digits) ∧ (Tb.lin ⟨#[107, 103]⟩ t_Rows (Fr.fq key_P_Sign key_P_Digits key_Q_Digits)).isSome = true) ((Tb.lin ⟨#[107, 103]⟩ t_Rows (Fr.fq key_P_Sign key_P_Digits key_Q_Digits)).getD 0) : List Int) fun l7 hl7 => ?_
  have hl7n := congrArg List.length hl7
  refine nm (if ¬ (Tb.RtT t_Name ⟨#[107, 103]⟩ t_Rows ∧ Fr.FrB key_P_Sign key_P_Digits key_Q_Sign key_Q_Digits) then (1 : Int) else if (Tb.lin ⟨#[107, 103]⟩ t_Rows (Fr.fq key_P_Sign key_P_Digits key_Q_Digits)).isSome = true then 0 else 4 : Int) fun n10 hn10 => ?_
  refine V.r [.ld 0 0 true (fun _ => Dat.cells (DTable.mk t_Name ⟨#[107, 103]⟩ ⟨t_Rows, t_Rowss⟩)),.ld 1 0 true (fun _ => Dat.cells (DFrac.mk (DBig.mk key_P_Sign ⟨key_P_Digits, key_P_Digitss⟩) (DBig.mk key_Q_Sign ⟨key_Q_Digits, key_Q_Digitss⟩))),.ct g0 2 35 false [] [] [(kf false (.f 0) t_Rows (fun _ => t_Rowss)).a, (kf false (.f 1) key_P_Digits (fun _ => key_P_Digitss)).a, (kf false (.f 2) key_Q_Digits (fun _ => key_Q_Digitss)).a] (fun _ G => tline_ctv t_Name ⟨#[107, 103]⟩ t_Rows t_Rowss key_P_Sign key_P_Digits key_P_Digitss key_Q_Sign key_Q_Digits key_Q_Digitss (by decide) (by omega) (by omega) (by omega) n8 hn8 l6 hl6 n9 hn9 l7 hl7 n10 hn10),.v fun G => .tuple #[ag (DFrac.mk (DBig.mk n8 ⟨l6, (G 2).ss 0⟩) (DBig.mk n9 ⟨l7, (G 2).ss 1⟩)), iv n10],.v fun G => ag (DFrac.mk (DBig.mk n8 ⟨l6, (G 2).ss 0⟩) (DBig.mk n9 ⟨l7, (G 2).ss 1⟩)),.k (iv n10),.nb 6 6 (fun b => pp b 0) 30 (fun _ => ca (DFrac.mk (DBig.mk 0 ⟨[], {}⟩) (DBig.mk 0 ⟨[], {}⟩))),.st 6 (fun G => .blk ((G 6).b) (ca (DFrac.mk (DBig.mk n8 ⟨l6, (G 2).ss 0⟩) (DBig.mk n9 ⟨l7, (G 2).ss 1⟩))) 30),.k (iv n10)] fun _ _ G16 kw17 => ?_
  intro S_ s_
  obtain ⟨⟨kl10, -⟩, ⟨kl11, -⟩, -⟩ : Lq l6 (((G16 2).ss 0).v) ∧ Lq l7 (((G16 2).ss 1).v) ∧ Lq grams_2 grams_2s.v ∧ True := kn kw17 (by kernel_rfl)
  clear kw17
  refine nm (Fr.rS ((Tb.RtT t_Name ⟨#[103]⟩ grams_2 ∧ Fr.FrB key_P_Sign key_P_Digits key_Q_Sign key_Q_Digits) ∧ (Tb.lin ⟨#[103]⟩ grams_2 (Fr.fq key_P_Sign key_P_Digits key_Q_Digits)).isSome = true) ((Tb.lin ⟨#[103]⟩ grams_2 (Fr.fq key_P_Sign key_P_Digits key_Q_Digits)).getD 0) : Int) fun n11 hn11 => ?_
  refine nm (Fr.rD ((Tb.RtT t_Name ⟨#[103]⟩ grams_2 ∧ Fr.FrB key_P_Sign key_P_Digits key_Q_Sign key_Q_Digits) ∧ (Tb.lin ⟨#[103]⟩ grams_2 (Fr.fq key_P_Sign key_P_Digits key_Q_Digits)).isSome = true) ((Tb.lin ⟨#[103]⟩ grams_2 (Fr.fq key_P_Sign key_P_Digits key_Q_Digits)).getD 0) : List Int) fun l8 hl8 => ?_
  have hl8n := congrArg List.length hl8
  refine nm (Fr.rT ((Tb.RtT t_Name ⟨#[103]⟩ grams_2 ∧ Fr.FrB key_P_Sign key_P_Digits key_Q_Sign key_Q_Digits) ∧ (Tb.lin ⟨#[103]⟩ grams_2 (Fr.fq key_P_Sign key_P_Digits key_Q_Digits)).isSome = true) : Int) fun n12 hn12 => ?_
  refine nm (Fr.rE ((Tb.RtT t_Name ⟨#[103]⟩ grams_2 ∧ Fr.FrB key_P_Sign key_P_Digits key_Q_Sign key_Q_Digits) ∧ (Tb.lin ⟨#[103]⟩ grams_2 (Fr.fq key_P_Sign key_P_Digits key_Q_Digits)).isSome = true) ((Tb.lin ⟨#[103]⟩ grams_2 (Fr.fq key_P_Sign key_P_Digits key_Q_Digits)).getD 0) : List Int) fun l9 hl9 => ?_
  have hl9n := congrArg List.length hl9
  refine nm (if ¬ (Tb.RtT t_Name ⟨#[103]⟩ grams_2 ∧ Fr.FrB key_P_Sign key_P_Digits key_Q_Sign key_Q_Digits) then (1 : Int) else if (Tb.lin ⟨#[103]⟩ grams_2 (Fr.fq key_P_Sign key_P_Digits key_Q_Digits)).isSome = true then 0 else 4 : Int) fun n13 hn13 => ?_
  refine V.r [.ld 2 0 true (fun _ => Dat.cells (DTable.mk t_Name ⟨#[103]⟩ ⟨grams_2, grams_2s⟩)),.ld 1 0 true (fun _ => Dat.cells (DFrac.mk (DBig.mk key_P_Sign ⟨key_P_Digits, key_P_Digitss⟩) (DBig.mk key_Q_Sign ⟨key_Q_Digits, key_Q_Digitss⟩))),.ct g0 2 35 false [] [] [(ko true 60 3 grams_2 (fun _ => grams_2s)).a, (kf false (.f 1) key_P_Digits (fun _ => key_P_Digitss)).a, (kf false (.f 2) key_Q_Digits (fun _ => key_Q_Digitss)).a] (fun _ G => tline_ctv t_Name ⟨#[103]⟩ grams_2 grams_2s key_P_Sign key_P_Digits key_P_Digitss key_Q_Sign key_Q_Digits key_Q_Digitss (by decide) (by omega) (by omega) (by omega) n11 hn11 l8 hl8 n12 hn12 l9 hl9 n13 hn13),.v fun G => .tuple #[ag (DFrac.mk (DBig.mk n11 ⟨l8, (G 2).ss 0⟩) (DBig.mk n12 ⟨l9, (G 2).ss 1⟩)), iv n13],.v fun G => ag (DFrac.mk (DBig.mk n11 ⟨l8, (G 2).ss 0⟩) (DBig.mk n12 ⟨l9, (G 2).ss 1⟩)),.k (iv n13),.nb 6 7 (fun b => pp b 0) 30 (fun _ => ca (DFrac.mk (DBig.mk 0 ⟨[], {}⟩) (DBig.mk 0 ⟨[], {}⟩))),.st 7 (fun G => .blk ((G 6).b) (ca (DFrac.mk (DBig.mk n11 ⟨l8, (G 2).ss 0⟩) (DBig.mk n12 ⟨l9, (G 2).ss 1⟩))) 30),.k (iv n13)] fun _ _ G17 kw18 => ?_
  intro S_ s_
  obtain ⟨⟨kl12, -⟩, ⟨kl13, -⟩, -⟩ : Lq l8 (((G17 2).ss 0).v) ∧ Lq l9 (((G17 2).ss 1).v) ∧ Lq grams_2 grams_2s.v ∧ True := kn kw18 (by kernel_rfl)
  clear kw18
  refine nm (Fr.rS (Tb.RtT t_Name ⟨#[107, 103]⟩ t_Rows) (((Tb.sumR from_ to t_Rows : Int) : Rat) * Tb.uf ⟨#[107, 103]⟩) : Int) fun n14 hn14 => ?_
  refine nm (Fr.rD (Tb.RtT t_Name ⟨#[107, 103]⟩ t_Rows) (((Tb.sumR from_ to t_Rows : Int) : Rat) * Tb.uf ⟨#[107, 103]⟩) : List Int) fun l10 hl10 => ?_
  have hl10n := congrArg List.length hl10
  refine nm (Fr.rT (Tb.RtT t_Name ⟨#[107, 103]⟩ t_Rows) : Int) fun n15 hn15 => ?_
  refine nm (Fr.rE (Tb.RtT t_Name ⟨#[107, 103]⟩ t_Rows) (((Tb.sumR from_ to t_Rows : Int) : Rat) * Tb.uf ⟨#[107, 103]⟩) : List Int) fun l11 hl11 => ?_
  have hl11n := congrArg List.length hl11
  refine nm (if Tb.RtT t_Name ⟨#[107, 103]⟩ t_Rows then (0 : Int) else 1 : Int) fun n16 hn16 => ?_
  refine V.r [.ld 0 0 true (fun _ => Dat.cells (DTable.mk t_Name ⟨#[107, 103]⟩ ⟨t_Rows, t_Rowss⟩)),.k (iv from_),.k (iv to),.ct g0 3 34 false [] [] [(kf false (.f 0) t_Rows (fun _ => t_Rowss)).a] (fun _ G => tsum_ctv t_Name ⟨#[107, 103]⟩ t_Rows t_Rowss from_ to (by decide) (by omega) n14 hn14 l10 hl10 n15 hn15 l11 hl11 n16 hn16),.v fun G => .tuple #[ag (DFrac.mk (DBig.mk n14 ⟨l10, (G 3).ss 0⟩) (DBig.mk n15 ⟨l11, (G 3).ss 1⟩)), iv n16],.v fun G => ag (DFrac.mk (DBig.mk n14 ⟨l10, (G 3).ss 0⟩) (DBig.mk n15 ⟨l11, (G 3).ss 1⟩)),.k (iv n16),.nb 7 8 (fun b => pp b 0) 30 (fun _ => ca (DFrac.mk (DBig.mk 0 ⟨[], {}⟩) (DBig.mk 0 ⟨[], {}⟩))),.st 8 (fun G => .blk ((G 7).b) (ca (DFrac.mk (DBig.mk n14 ⟨l10, (G 3).ss 0⟩) (DBig.mk n15 ⟨l11, (G 3).ss 1⟩))) 30),.k (iv n16)] fun _ _ G18 kw19 => ?_
  intro S_ s_
  obtain ⟨⟨kl14, -⟩, ⟨kl15, -⟩, -⟩ : Lq l10 (((G18 3).ss 0).v) ∧ Lq l11 (((G18 3).ss 1).v) ∧ Lq grams_2 grams_2s.v ∧ True := kn kw19 (by kernel_rfl)
  clear kw19
  refine nm (Fr.rS (Tb.RtT t_Name ⟨#[103]⟩ grams_2) (((Tb.sumR from_ to grams_2 : Int) : Rat) * Tb.uf ⟨#[103]⟩) : Int) fun n17 hn17 => ?_
  refine nm (Fr.rD (Tb.RtT t_Name ⟨#[103]⟩ grams_2) (((Tb.sumR from_ to grams_2 : Int) : Rat) * Tb.uf ⟨#[103]⟩) : List Int) fun l12 hl12 => ?_
  have hl12n := congrArg List.length hl12
  refine nm (Fr.rT (Tb.RtT t_Name ⟨#[103]⟩ grams_2) : Int) fun n18 hn18 => ?_
  refine nm (Fr.rE (Tb.RtT t_Name ⟨#[103]⟩ grams_2) (((Tb.sumR from_ to grams_2 : Int) : Rat) * Tb.uf ⟨#[103]⟩) : List Int) fun l13 hl13 => ?_
  have hl13n := congrArg List.length hl13
  refine nm (if Tb.RtT t_Name ⟨#[103]⟩ grams_2 then (0 : Int) else 1 : Int) fun n19 hn19 => ?_
  refine V.r [.ld 2 0 true (fun _ => Dat.cells (DTable.mk t_Name ⟨#[103]⟩ ⟨grams_2, grams_2s⟩)),.k (iv from_),.k (iv to),.ct g0 3 34 false [] [] [(ko true 60 3 grams_2 (fun _ => grams_2s)).a] (fun _ G => tsum_ctv t_Name ⟨#[103]⟩ grams_2 grams_2s from_ to (by decide) (by omega) n17 hn17 l12 hl12 n18 hn18 l13 hl13 n19 hn19),.v fun G => .tuple #[ag (DFrac.mk (DBig.mk n17 ⟨l12, (G 3).ss 0⟩) (DBig.mk n18 ⟨l13, (G 3).ss 1⟩)), iv n19],.v fun G => ag (DFrac.mk (DBig.mk n17 ⟨l12, (G 3).ss 0⟩) (DBig.mk n18 ⟨l13, (G 3).ss 1⟩)),.k (iv n19),.nb 7 9 (fun b => pp b 0) 30 (fun _ => ca (DFrac.mk (DBig.mk 0 ⟨[], {}⟩) (DBig.mk 0 ⟨[], {}⟩))),.st 9 (fun G => .blk ((G 7).b) (ca (DFrac.mk (DBig.mk n17 ⟨l12, (G 3).ss 0⟩) (DBig.mk n18 ⟨l13, (G 3).ss 1⟩))) 30),.k (iv n19)] fun _ _ G19 kw20 => ?_
  intro S_ s_
  obtain ⟨⟨kl16, -⟩, ⟨kl17, -⟩, -⟩ : Lq l12 (((G19 3).ss 0).v) ∧ Lq l13 (((G19 3).ss 1).v) ∧ Lq grams_2 grams_2s.v ∧ True := kn kw20 (by kernel_rfl)
  clear kw20
  refine nm (((decide (n4 = n7)) && true) && (decide (n10 = n13)) : Bool) fun p5 hp5 => ?_
  refine nm (((p5 && true) && (decide (n16 = 0))) && (decide (n19 = 0)) : Bool) fun p6 hp6 => ?_
  have hPn : ¬ ¬ (Tb.RtT t_Name ⟨#[107, 103]⟩ t_Rows ∧ Fr.FrB key_P_Sign key_P_Digits key_Q_Sign key_Q_Digits) := fun h => h hP
  have hPgn : ¬ ¬ (Tb.RtT t_Name ⟨#[103]⟩ grams_2 ∧ Fr.FrB key_P_Sign key_P_Digits key_Q_Sign key_Q_Digits) := fun h => h hPg
  have haf : Tb.aft grams_2 (Fr.fq key_P_Sign key_P_Digits key_Q_Digits) = Tb.aft t_Rows (Fr.fq key_P_Sign key_P_Digits key_Q_Digits) := by rw [hG, Tb.aft_map]
  have hlin : Tb.lin ⟨#[103]⟩ grams_2 (Fr.fq key_P_Sign key_P_Digits key_Q_Digits) = Tb.lin ⟨#[107, 103]⟩ t_Rows (Fr.fq key_P_Sign key_P_Digits key_Q_Digits) := by rw [hG, Tb.lin_map]
  have s1 : n2 = n5 ∧ l2 = l4 ∧ n3 = n6 ∧ l3 = l5 := by
    rw [hn2, hl2, hn3, hl3, hn5, hl4, hn6, hl5]
    exact Un.fr_eq (by rw [haf]; exact ⟨fun h => ⟨hPg, h.2⟩, fun h => ⟨hP, h.2⟩⟩) (by rw [hG, Tb.lkR_map])
  have e_s1 : n4 = n7 := by rw [hn4, hn7]; rw [haf, if_neg hPn, if_neg hPgn]
  have s2 : n8 = n11 ∧ l6 = l8 ∧ n9 = n12 ∧ l7 = l9 := by
    rw [hn8, hl6, hn9, hl7, hn11, hl8, hn12, hl9]
    exact Un.fr_eq (by rw [hlin]; exact ⟨fun h => ⟨hPg, h.2⟩, fun h => ⟨hP, h.2⟩⟩) (by rw [hlin])
  have e_s2 : n10 = n13 := by rw [hn10, hn13]; rw [hlin, if_neg hPn, if_neg hPgn]
  have s3 : n14 = n17 ∧ l10 = l12 ∧ n15 = n18 ∧ l11 = l13 := by
    rw [hn14, hl10, hn15, hl11, hn17, hl12, hn18, hl13]
    exact Un.fr_eq ⟨fun _ => hRg, fun _ => hR⟩ (by rw [hG, Tb.sum_map])
  have e_s3 : n16 = n19 := by rw [hn16, hn19]; rw [if_pos hR, if_pos hRg]
  have e3 : n16 = 0 := by rw [hn16, if_pos hR]
  have e4 : n19 = 0 := by rw [hn19, if_pos hRg]
  refine V.g [.kb true,.kb true,.ld 4 0 true (fun _ => Dat.cells (DFrac.mk (DBig.mk n2 ⟨l2, (G14 2).ss 0⟩) (DBig.mk n3 ⟨l3, (G14 2).ss 1⟩))),.ld 5 0 true (fun _ => Dat.cells (DFrac.mk (DBig.mk n5 ⟨l4, (G15 2).ss 0⟩) (DBig.mk n6 ⟨l5, (G15 2).ss 1⟩))),.cp g0 4 15 [(kf true (.f 3) l2 (fun _ => (G14 2).ss 0)).a, (kf true (.f 4) l3 (fun _ => (G14 2).ss 1)).a, (kf true (.f 5) l4 (fun _ => (G15 2).ss 0)).a, (kf true (.f 6) l5 (fun _ => (G15 2).ss 1)).a] (fun _ G => same5t_ct n2 l2 ((G14 2).ss 0) n3 l3 ((G14 2).ss 1) n5 l4 ((G15 2).ss 0) n6 l5 ((G15 2).ss 1) s1),.kb true,.kb true,.k (iv n4),.k (iv n7),.k (bv (decide (n4 = n7))),.k (bv (decide (n4 = n7))),.k (bv (decide (n4 = n7))),.ld 6 0 true (fun _ => Dat.cells (DFrac.mk (DBig.mk n8 ⟨l6, (G16 2).ss 0⟩) (DBig.mk n9 ⟨l7, (G16 2).ss 1⟩))),.ld 7 0 true (fun _ => Dat.cells (DFrac.mk (DBig.mk n11 ⟨l8, (G17 2).ss 0⟩) (DBig.mk n12 ⟨l9, (G17 2).ss 1⟩))),.cp (gT (b := decide (n4 = n7)) iDT) 14 15 [(kf true (.f 7) l6 (fun _ => (G16 2).ss 0)).a, (kf true (.f 8) l7 (fun _ => (G16 2).ss 1)).a, (kf true (.f 9) l8 (fun _ => (G17 2).ss 0)).a, (kf true (.f 10) l9 (fun _ => (G17 2).ss 1)).a] (fun hg G => same5t_ct n8 l6 ((G16 2).ss 0) n9 l7 ((G16 2).ss 1) n11 l8 ((G17 2).ss 0) n12 l9 ((G17 2).ss 1) s2),.and g0 false (decide (n4 = n7)) true,.k (bv ((decide (n4 = n7)) && true)),.k (iv n10),.k (iv n13),.k (bv (decide (n10 = n13))),.andn g0 false ((decide (n4 = n7)) && true) (decide (n10 = n13)) p5 hp5,.k (bv p5),.ld 8 0 true (fun _ => Dat.cells (DFrac.mk (DBig.mk n14 ⟨l10, (G18 3).ss 0⟩) (DBig.mk n15 ⟨l11, (G18 3).ss 1⟩))),.ld 9 0 true (fun _ => Dat.cells (DFrac.mk (DBig.mk n17 ⟨l12, (G19 3).ss 0⟩) (DBig.mk n18 ⟨l13, (G19 3).ss 1⟩))),.cp (gT (b := p5) (iN hp5 (iAT (iAT iDT iTT) iDT))) 24 15 [(kf true (.f 11) l10 (fun _ => (G18 3).ss 0)).a, (kf true (.f 12) l11 (fun _ => (G18 3).ss 1)).a, (kf true (.f 13) l12 (fun _ => (G19 3).ss 0)).a, (kf true (.f 14) l13 (fun _ => (G19 3).ss 1)).a] (fun hg G => same5t_ct n14 l10 ((G18 3).ss 0) n15 l11 ((G18 3).ss 1) n17 l12 ((G19 3).ss 0) n18 l13 ((G19 3).ss 1) s3),.and g0 false p5 true,.k (bv (p5 && true)),.k (iv n16),.k (bv (decide (n16 = 0))),.and g0 false (p5 && true) (decide (n16 = 0)),.k (bv ((p5 && true) && (decide (n16 = 0)))),.k (iv n19),.k (bv (decide (n19 = 0))),.andn g0 false ((p5 && true) && (decide (n16 = 0))) (decide (n19 = 0)) p6 hp6,.k (bv p6)] fun _ _ G20 => ?_
  intro S_ s_
  have e0 : p6 = true := by
    refine (iN hp6 (iAT (iAT (iAT (iN hp5 (iAT (iAT iDT iTT) iDT)) iTT) iDT) iDT)).2 ?_
    first | exact ⟨⟨⟨e_s1, e_s2⟩, e3⟩, e4⟩ | simp [e_s1, e_s2, e3, e4]
  exact V.ret [0] [] [] [] [] [] (bv p6) (fun _ _ => by kernel_rfl) (fun _ _ => (Eq.trans (by kernel_rfl) (cong1 (fun (x0 : Bool) => (bv x0 : Value)) e0)).trans (by kernel_rfl)) (fun _ _ => trivial)
end Kb
