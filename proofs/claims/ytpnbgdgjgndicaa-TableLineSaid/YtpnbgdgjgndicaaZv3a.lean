/- Texts for the claim, put together: the calculus of regions, its rules, and contracts of the functions that the law reaches. -/
import Derived.Test.YtpnbgdgjgndicaaZvwg
import Derived.Test.YtpnbgdgjgndicaaZv013a
import Derived.Test.YtpnbgdgjgndicaaZv023a
import Derived.Test.YtpnbgdgjgndicaaZv03a
import Derived.Test.YtpnbgdgjgndicaaZv13a
set_option linter.unusedVariables false
set_option linter.unusedSectionVars false
set_option linter.unusedSimpArgs false
namespace Kb
open Go
namespace Un
open Fr Bg
theorem dmc {a f : Rat} (h : f ≠ 0) : a / f * f = a := by rw [Rat.div_def, Rat.mul_assoc, Rat.inv_mul_cancel f h, Rat.mul_one]
end Un

open Go
namespace Tb
open Fr Bg
theorem cmpQ_pos {a b : Rat} : 0 < cmpQ a b ↔ b < a := by
  unfold cmpQ
  by_cases h : a < b
  · rw [if_pos h]; exact ⟨fun k => by omega, fun k => (Rat.not_lt.2 (Rat.le_of_lt h) k).elim⟩
  · rw [if_neg h]
    by_cases e : a = b
    · rw [if_pos e]; exact ⟨fun k => by omega, fun k => by subst e; exact (Rat.lt_irrefl k).elim⟩
    · rw [if_neg e]; exact ⟨fun _ => Rat.lt_of_le_of_ne (Rat.not_lt.1 h) fun k => e k.symm, fun _ => by omega⟩
end Tb

open Go
namespace Tb
open Fr Bg
theorem cmp_rg (a b : Rat) : -1 ≤ cmpQ a b ∧ cmpQ a b ≤ 1 := by
  unfold cmpQ
  split
  · decide
  · split <;> decide
end Tb

open Go
namespace Tb
open Fr Bg
theorem mid (k k' v v' u : Rat) (h : k < k') : v * u + ((k + k') / 2 - k) / (k' - k) * ((v' - v) * u) = (v * u + v' * u) / 2 := by
  have : k' - k ≠ 0 := by grind
  grind
theorem btw (a b t : Rat) (h0 : 0 ≤ t) (h1 : t ≤ 1) : (if b < a then b else a) ≤ a + t * (b - a) ∧ a + t * (b - a) ≤ (if a < b then b else a) := by
  have h4 : a ≤ b ∨ b ≤ a := Rat.le_total
  rcases h4 with h4 | h4
  · have h2 : 0 ≤ t * (b - a) := Rat.mul_nonneg h0 (by grind)
    have h3 : 0 ≤ (1 - t) * (b - a) := Rat.mul_nonneg (by grind) (by grind)
    constructor <;> split <;> grind
  · have h2 : 0 ≤ t * (a - b) := Rat.mul_nonneg h0 (by grind)
    have h3 : 0 ≤ (1 - t) * (a - b) := Rat.mul_nonneg (by grind) (by grind)
    constructor <;> split <;> grind
theorem frac01 (k k' q : Rat) (h : k < k') (h1 : k ≤ q) (h2 : q ≤ k') : 0 ≤ (q - k) / (k' - k) ∧ (q - k) / (k' - k) ≤ 1 := by
  have h3 : 0 < k' - k := by grind
  have h5 : (q - k) / (k' - k) * (k' - k) = q - k := Un.dmc (by grind)
  generalize (q - k) / (k' - k) = t at h5 ⊢
  constructor
  · refine Rat.not_lt.1 fun h6 => ?_
    have := Rat.mul_pos (show 0 < -t by grind) h3
    grind
  · refine Rat.not_lt.1 fun h6 => ?_
    have := Rat.mul_pos (show 0 < t - 1 by grind) h3
    grind
theorem lin_at {un : ByteArray} {l : List DRow} {q : Rat} {i : Nat} (h : aft l q = i + 1) (hl : i + 1 < l.length) (hk : ¬ (ky l i : Rat) = q) :
    lin un l q = some (wv un l i + (q - (ky l i : Rat)) / ((ky l (i + 1) - ky l i : Int) : Rat) * (((vl l (i + 1) - vl l i : Int) : Rat) * uf un)) := by
  unfold lin
  rw [h, Nat.add_sub_cancel, if_neg (by omega), if_neg hk, if_neg (by omega)]
theorem lin_key {un : ByteArray} {l : List DRow} {i : Nat} (h : So l) (hi : i < l.length) : lin un l (ky l i : Rat) = some (wv un l i) := by
  unfold lin
  rw [aft_key h hi, Nat.add_sub_cancel, if_neg (by omega), if_pos rfl]
theorem lin_mid {un : ByteArray} {l : List DRow} {i : Nat} (h : So l) (hi : i + 1 < l.length) : lin un l (((ky l i : Rat) + (ky l (i + 1) : Rat)) / 2) = some ((wv un l i + wv un l (i + 1)) / 2) := by
  have h1 : (ky l i : Rat) < (ky l (i + 1) : Rat) := int_lt.2 (h.1 _ _ (by omega) hi)
  have h2 : (ky l i : Rat) < ((ky l i : Rat) + (ky l (i + 1) : Rat)) / 2 := by grind
  have h3 : ((ky l i : Rat) + (ky l (i + 1) : Rat)) / 2 < (ky l (i + 1) : Rat) := by grind
  have ha := aft_row h (i := i) (by omega) (Rat.le_of_lt h2) fun _ => h3
  rw [lin_at ha hi (by grind), Rat.intCast_sub, Rat.intCast_sub]
  unfold wv
  rw [mid _ _ _ _ _ h1]
theorem lin_btw {un : ByteArray} {l : List DRow} {i : Nat} {q : Rat} (h : So l) (hi : i + 1 < l.length) (h1 : (ky l i : Rat) ≤ q) (h2 : q ≤ (ky l (i + 1) : Rat)) : ∃ r, lin un l q = some r ∧ (if wv un l (i + 1) < wv un l i then wv un l (i + 1) else wv un l i) ≤ r ∧ r ≤ (if wv un l i < wv un l (i + 1) then wv un l (i + 1) else wv un l i) := by
  have hk : (ky l i : Rat) < (ky l (i + 1) : Rat) := int_lt.2 (h.1 _ _ (by omega) hi)
  by_cases e1 : (ky l i : Rat) = q
  · refine ⟨wv un l i, by rw [← e1]; exact lin_key h (by omega), ?_⟩
    constructor <;> split <;> grind
  · by_cases e2 : (ky l (i + 1) : Rat) = q
    · refine ⟨wv un l (i + 1), by rw [← e2]; exact lin_key h hi, ?_⟩
      constructor <;> split <;> grind
    · have ha := aft_row h (i := i) (by omega) h1 fun _ => by grind
      refine ⟨_, lin_at ha hi e1, ?_⟩
      have h5 := frac01 _ _ q hk h1 h2
      have h6 := btw (wv un l i) (wv un l (i + 1)) _ h5.1 h5.2
      have e : wv un l (i + 1) - wv un l i = ((vl l (i + 1) - vl l i : Int) : Rat) * uf un := by unfold wv; rw [Rat.intCast_sub]; grind
      rw [e] at h6
      rw [Rat.intCast_sub (ky l (i + 1))]
      exact h6
theorem lin_hb {un : ByteArray} {l : List DRow} {q r : Rat} {k : Nat} (h : So l) (hu : (Un.read un).2 = 0) (hq : Hb q k) (hr : lin un l q = some r) : Hb r (k + 2980) := by
  have hk := hq.pos
  have hw : ∀ i, Hb (wv un l i) 1481 := fun i => by
    unfold wv
    refine worth_hb hu ?_
    rcases Nat.lt_or_ge i l.length with hi | hi
    · have := (h.2.2 i hi).2; unfold inR at this; omega
    · have e : vl l i = 0 := by unfold vl; rw [List.getD_eq_getElem?_getD, List.getElem?_eq_none hi]; rfl
      omega
  unfold lin at hr
  split at hr
  · cases hr
  · split at hr
    · obtain rfl := Option.some.inj hr
      exact (hw _).mono (by omega)
    · split at hr
      · cases hr
      · rename_i h1 h2 h3
        obtain rfl := Option.some.inj hr
        have hal := aft_le l q
        have r1 := h.2.2 (aft l q) (by omega)
        have r2 := h.2.2 (aft l q - 1) (by omega)
        unfold inR at r1 r2
        have b1 := (hq.sub (Hb.int (n := ky l (aft l q - 1)) (by omega))).div (Hb.int (n := ky l (aft l q) - ky l (aft l q - 1)) (by omega))
        have b2 := b1.mul (worth_hb hu (n := vl l (aft l q) - vl l (aft l q - 1)) (by omega))
        exact ((hw _).add b2).mono (by omega)
end Tb

open Go Go.Proofs
set_option maxRecDepth 10000 in
theorem fslim_ct (a_Sign : Int) (a_Digits : List Int) (a_Digitss : SV) (hR : Bg.RtB a_Sign a_Digits) (hl : a_Digits.length ≤ 17179869184) :
    Ct Try.prog 113 #[ag (DBig.mk a_Sign ⟨a_Digits, a_Digitss⟩)] [fs true a_Digits a_Digitss] [] (fun g => ag (DBig.mk a_Sign ⟨a_Digits, (g.ss 0)⟩)) (fun g => [fs true a_Digits (g.ss 0)]) (fun g => []) (fun g => []) := by
  refine V.fn mo Try.func113 6 2 (by kernel_rfl) fun w H ε k0 => ?_
  obtain ⟨⟨kl1, -⟩, -⟩ : Lq a_Digits a_Digitss.v ∧ True := kn k0 (by kernel_rfl)
  clear k0
  refine V.g [.nb 0 0 (fun b => pp b 0) 28 (fun _ => ca (DBig.mk a_Sign ⟨a_Digits, a_Digitss⟩)),.nb 1 1 (fun b => pp b 0) 28 (fun _ => ca (DBig.mk 0 ⟨[], {}⟩))] fun _ _ G1 => ?_
  intro S_ s_
  refine nm (Bg.oS (Bg.RtB a_Sign a_Digits) (-Bg.zv a_Sign a_Digits) : Int) fun n1 hn1 => ?_
  refine nm (Bg.oD (Bg.RtB a_Sign a_Digits) (-Bg.zv a_Sign a_Digits) : List Int) fun l1 hl1 => ?_
  have hl1n := congrArg List.length hl1
  refine nm (Bg.oS (Bg.RtB n1 l1) (-Bg.zv n1 l1) : Int) fun n2 hn2 => ?_
  refine nm (Bg.oD (Bg.RtB n1 l1) (-Bg.zv n1 l1) : List Int) fun l2 hl2 => ?_
  have hl2n := congrArg List.length hl2
  obtain ⟨z1, z1l⟩ := (Fr.RtB.z hR).neg hn1 hl1
  obtain ⟨z2, z2l⟩ := z1.neg hn2 hl2
  rw [Int.neg_neg] at z2
  have hz := Fr.Bz.inj z2 (Fr.RtB.z hR)
  refine V.r [.ld 0 0 true (fun _ => Dat.cells (DBig.mk a_Sign ⟨a_Digits, a_Digitss⟩)),.ct g0 1 93 false [] [] [(kf false (.f 0) a_Digits (fun _ => a_Digitss)).a] (fun _ G => neg_ctv a_Sign a_Digits a_Digitss (by omega) n1 hn1 l1 hl1),.ct g0 2 93 false [] [] [(kf true (.g 1 0) l1 (fun G => (G 1).ss 0)).a] (fun _ G => neg_ctv n1 l1 ((G 1).ss 0) (by omega) n2 hn2 l2 hl2),.st 1 (fun G => .blk ((G1 1).b) (ca (DBig.mk n2 ⟨l2, (G 2).ss 0⟩)) 28)] fun _ _ G2 kw2 => ?_
  intro S_ s_
  obtain ⟨⟨kl2, -⟩, ⟨kl3, -⟩, -⟩ : Lq l1 (((G2 1).ss 0).v) ∧ Lq l2 (((G2 2).ss 0).v) ∧ True := kn kw2 (by kernel_rfl)
  clear kw2
  have e1 : l2 = a_Digits := hz.2
  replace e1 := e1.symm
  subst e1
  have e0 : n2 = a_Sign := hz.1
  exact V.ret [1] [(G2 2).ss 0] [fun _ => {}] [] [2] [] (ag (DBig.mk n2 ⟨a_Digits, (G2 2).ss 0⟩)) (fun _ _ => by kernel_rfl) (fun _ _ => (Eq.trans (by kernel_rfl) (cong1 (fun (x0 : Int) => (.agg #[iv x0, ((G2 2).ss 0).v] : Value)) e0)).trans (by kernel_rfl)) (fun _ _ => trivial)
set_option maxRecDepth 10000 in
theorem fmin0_ct (a_P_Sign : Int) (a_P_Digits : List Int) (a_P_Digitss : SV) (a_Q_Sign : Int) (a_Q_Digits : List Int) (a_Q_Digitss : SV) (b_P_Sign : Int) (b_P_Digits : List Int) (b_P_Digitss : SV) (b_Q_Sign : Int) (b_Q_Digits : List Int) (b_Q_Digitss : SV) (haP : a_P_Digits.length ≤ 17179869184) (haQ : a_Q_Digits.length ≤ 17179869184) (hbP : b_P_Digits.length ≤ 17179869184) (hbQ : b_Q_Digits.length ≤ 17179869184) :
    Ct Try.prog 77 #[ag (DFrac.mk (DBig.mk a_P_Sign ⟨a_P_Digits, a_P_Digitss⟩) (DBig.mk a_Q_Sign ⟨a_Q_Digits, a_Q_Digitss⟩)), ag (DFrac.mk (DBig.mk b_P_Sign ⟨b_P_Digits, b_P_Digitss⟩) (DBig.mk b_Q_Sign ⟨b_Q_Digits, b_Q_Digitss⟩)), iv (-1)] [fs true a_P_Digits a_P_Digitss, fs true a_Q_Digits a_Q_Digitss, fs true b_P_Digits b_P_Digitss, fs true b_Q_Digits b_Q_Digitss] [] (fun g => .tuple #[ag (DFrac.mk (DBig.mk (Fr.rS (Fr.FrB a_P_Sign a_P_Digits a_Q_Sign a_Q_Digits ∧ Fr.FrB b_P_Sign b_P_Digits b_Q_Sign b_Q_Digits) (if (Fr.fq b_P_Sign b_P_Digits b_Q_Digits) < (Fr.fq a_P_Sign a_P_Digits a_Q_Digits) then (Fr.fq b_P_Sign b_P_Digits b_Q_Digits) else (Fr.fq a_P_Sign a_P_Digits a_Q_Digits))) ⟨Fr.rD (Fr.FrB a_P_Sign a_P_Digits a_Q_Sign a_Q_Digits ∧ Fr.FrB b_P_Sign b_P_Digits b_Q_Sign b_Q_Digits) (if (Fr.fq b_P_Sign b_P_Digits b_Q_Digits) < (Fr.fq a_P_Sign a_P_Digits a_Q_Digits) then (Fr.fq b_P_Sign b_P_Digits b_Q_Digits) else (Fr.fq a_P_Sign a_P_Digits a_Q_Digits)), (g.ss 0)⟩) (DBig.mk (Fr.rT (Fr.FrB a_P_Sign a_P_Digits a_Q_Sign a_Q_Digits ∧ Fr.FrB b_P_Sign b_P_Digits b_Q_Sign b_Q_Digits)) ⟨Fr.rE (Fr.FrB a_P_Sign a_P_Digits a_Q_Sign a_Q_Digits ∧ Fr.FrB b_P_Sign b_P_Digits b_Q_Sign b_Q_Digits) (if (Fr.fq b_P_Sign b_P_Digits b_Q_Digits) < (Fr.fq a_P_Sign a_P_Digits a_Q_Digits) then (Fr.fq b_P_Sign b_P_Digits b_Q_Digits) else (Fr.fq a_P_Sign a_P_Digits a_Q_Digits)), (g.ss 1)⟩)), iv (if Fr.FrB a_P_Sign a_P_Digits a_Q_Sign a_Q_Digits ∧ Fr.FrB b_P_Sign b_P_Digits b_Q_Sign b_Q_Digits then (0 : Int) else 1)]) (fun g => [fs true (Fr.rD (Fr.FrB a_P_Sign a_P_Digits a_Q_Sign a_Q_Digits ∧ Fr.FrB b_P_Sign b_P_Digits b_Q_Sign b_Q_Digits) (if (Fr.fq b_P_Sign b_P_Digits b_Q_Digits) < (Fr.fq a_P_Sign a_P_Digits a_Q_Digits) then (Fr.fq b_P_Sign b_P_Digits b_Q_Digits) else (Fr.fq a_P_Sign a_P_Digits a_Q_Digits))) (g.ss 0), fs true (Fr.rE (Fr.FrB a_P_Sign a_P_Digits a_Q_Sign a_Q_Digits ∧ Fr.FrB b_P_Sign b_P_Digits b_Q_Sign b_Q_Digits) (if (Fr.fq b_P_Sign b_P_Digits b_Q_Digits) < (Fr.fq a_P_Sign a_P_Digits a_Q_Digits) then (Fr.fq b_P_Sign b_P_Digits b_Q_Digits) else (Fr.fq a_P_Sign a_P_Digits a_Q_Digits))) (g.ss 1)]) (fun g => []) (fun g => []) := by
  refine V.fn mo Try.func77 31 3 (by kernel_rfl) fun w H ε k0 => ?_
  obtain ⟨⟨kl1, -⟩, ⟨kl2, -⟩, ⟨kl3, -⟩, ⟨kl4, -⟩, -⟩ : Lq a_P_Digits a_P_Digitss.v ∧ Lq a_Q_Digits a_Q_Digitss.v ∧ Lq b_P_Digits b_P_Digitss.v ∧ Lq b_Q_Digits b_Q_Digitss.v ∧ True := kn k0 (by kernel_rfl)
  clear k0
  refine V.g [.nb 0 0 (fun b => pp b 0) 30 (fun _ => ca (DFrac.mk (DBig.mk a_P_Sign ⟨a_P_Digits, a_P_Digitss⟩) (DBig.mk a_Q_Sign ⟨a_Q_Digits, a_Q_Digitss⟩))),.nb 1 1 (fun b => pp b 0) 30 (fun _ => ca (DFrac.mk (DBig.mk b_P_Sign ⟨b_P_Digits, b_P_Digitss⟩) (DBig.mk b_Q_Sign ⟨b_Q_Digits, b_Q_Digitss⟩))),.nb 2 2 (fun b => pp b 0) 30 (fun _ => ca (DFrac.mk (DBig.mk 0 ⟨[], {}⟩) (DBig.mk 0 ⟨[], {}⟩))),.k (iv 0)] fun _ _ G1 => ?_
  intro S_ s_
  refine nm ((!(decide (Fr.FrB a_P_Sign a_P_Digits a_Q_Sign a_Q_Digits))) || (!(decide (Fr.FrB b_P_Sign b_P_Digits b_Q_Sign b_Q_Digits))) : Bool) fun p1 hp1 => ?_
  refine V.g [.ld 0 0 true (fun _ => Dat.cells (DFrac.mk (DBig.mk a_P_Sign ⟨a_P_Digits, a_P_Digitss⟩) (DBig.mk a_Q_Sign ⟨a_Q_Digits, a_Q_Digitss⟩))),.cp g0 1 24 [(kf false (.f 0) a_P_Digits (fun _ => a_P_Digitss)).a, (kf false (.f 1) a_Q_Digits (fun _ => a_Q_Digitss)).a] (fun _ G => right_ct a_P_Sign a_P_Digits a_P_Digitss a_Q_Sign a_Q_Digits a_Q_Digitss (by omega) (by omega)),.k (bv (!(decide (Fr.FrB a_P_Sign a_P_Digits a_Q_Sign a_Q_Digits)))),.k (bv (!(decide (Fr.FrB a_P_Sign a_P_Digits a_Q_Sign a_Q_Digits)))),.ld 1 0 true (fun _ => Dat.cells (DFrac.mk (DBig.mk b_P_Sign ⟨b_P_Digits, b_P_Digitss⟩) (DBig.mk b_Q_Sign ⟨b_Q_Digits, b_Q_Digitss⟩))),.cp (gF (b := !(decide (Fr.FrB a_P_Sign a_P_Digits a_Q_Sign a_Q_Digits))) (iNF iDT)) 5 24 [(kf false (.f 2) b_P_Digits (fun _ => b_P_Digitss)).a, (kf false (.f 3) b_Q_Digits (fun _ => b_Q_Digitss)).a] (fun hg G => right_ct b_P_Sign b_P_Digits b_P_Digitss b_Q_Sign b_Q_Digits b_Q_Digitss (by omega) (by omega)),.k (bv (!(decide (Fr.FrB b_P_Sign b_P_Digits b_Q_Sign b_Q_Digits)))),.orn g0 false (!(decide (Fr.FrB a_P_Sign a_P_Digits a_Q_Sign a_Q_Digits))) (!(decide (Fr.FrB b_P_Sign b_P_Digits b_Q_Sign b_Q_Digits))) p1 hp1] fun _ _ G2 => ?_
  intro S_ s_
  refine V.cond (b := p1) (iN hp1 (iOT (iNT iDF) (iNT iDF))) (iN hp1 (iOF (iNF iDT) (iNF iDT))) (by kernel_rfl) (fun q1 => ?_) (fun q2 => ?_)
  · have hNR : ¬ (Fr.FrB a_P_Sign a_P_Digits a_Q_Sign a_Q_Digits ∧ Fr.FrB b_P_Sign b_P_Digits b_Q_Sign b_Q_Digits) := by rintro ⟨h1, h2⟩; rcases q1 with h | h; exact h h1; exact h h2
    refine V.g [.k (ag (DFrac.mk (DBig.mk 0 ⟨[], {}⟩) (DBig.mk 0 ⟨[], {}⟩))),.st 2 (fun _ => .blk ((G1 2).b) (ca (DFrac.mk (DBig.mk 0 ⟨[], {}⟩) (DBig.mk 0 ⟨[], {}⟩))) 30),.k (iv 1)] fun _ _ G3 => ?_
    intro S_ s_
    refine V.nilF (α := Int) ?_
    refine V.nilF (α := Int) ?_
    have e1 : ([] : List Int) = Fr.rD (Fr.FrB a_P_Sign a_P_Digits a_Q_Sign a_Q_Digits ∧ Fr.FrB b_P_Sign b_P_Digits b_Q_Sign b_Q_Digits) (if (Fr.fq b_P_Sign b_P_Digits b_Q_Digits) < (Fr.fq a_P_Sign a_P_Digits a_Q_Digits) then (Fr.fq b_P_Sign b_P_Digits b_Q_Digits) else (Fr.fq a_P_Sign a_P_Digits a_Q_Digits)) := (Fr.Fz.no hNR (if (Fr.fq b_P_Sign b_P_Digits b_Q_Digits) < (Fr.fq a_P_Sign a_P_Digits a_Q_Digits) then (Fr.fq b_P_Sign b_P_Digits b_Q_Digits) else (Fr.fq a_P_Sign a_P_Digits a_Q_Digits))).2.1
    rw [← e1]
    have e3 : ([] : List Int) = Fr.rE (Fr.FrB a_P_Sign a_P_Digits a_Q_Sign a_Q_Digits ∧ Fr.FrB b_P_Sign b_P_Digits b_Q_Sign b_Q_Digits) (if (Fr.fq b_P_Sign b_P_Digits b_Q_Digits) < (Fr.fq a_P_Sign a_P_Digits a_Q_Digits) then (Fr.fq b_P_Sign b_P_Digits b_Q_Digits) else (Fr.fq a_P_Sign a_P_Digits a_Q_Digits)) := (Fr.Fz.no hNR (if (Fr.fq b_P_Sign b_P_Digits b_Q_Digits) < (Fr.fq a_P_Sign a_P_Digits a_Q_Digits) then (Fr.fq b_P_Sign b_P_Digits b_Q_Digits) else (Fr.fq a_P_Sign a_P_Digits a_Q_Digits))).2.2.2
    rw [← e3]
    have e0 : (0 : Int) = Fr.rS (Fr.FrB a_P_Sign a_P_Digits a_Q_Sign a_Q_Digits ∧ Fr.FrB b_P_Sign b_P_Digits b_Q_Sign b_Q_Digits) (if (Fr.fq b_P_Sign b_P_Digits b_Q_Digits) < (Fr.fq a_P_Sign a_P_Digits a_Q_Digits) then (Fr.fq b_P_Sign b_P_Digits b_Q_Digits) else (Fr.fq a_P_Sign a_P_Digits a_Q_Digits)) := (Fr.Fz.no hNR (if (Fr.fq b_P_Sign b_P_Digits b_Q_Digits) < (Fr.fq a_P_Sign a_P_Digits a_Q_Digits) then (Fr.fq b_P_Sign b_P_Digits b_Q_Digits) else (Fr.fq a_P_Sign a_P_Digits a_Q_Digits))).1
    have e2 : (0 : Int) = Fr.rT (Fr.FrB a_P_Sign a_P_Digits a_Q_Sign a_Q_Digits ∧ Fr.FrB b_P_Sign b_P_Digits b_Q_Sign b_Q_Digits) := (Fr.Fz.no hNR (if (Fr.fq b_P_Sign b_P_Digits b_Q_Digits) < (Fr.fq a_P_Sign a_P_Digits a_Q_Digits) then (Fr.fq b_P_Sign b_P_Digits b_Q_Digits) else (Fr.fq a_P_Sign a_P_Digits a_Q_Digits))).2.2.1
    have e4 : (1 : Int) = if Fr.FrB a_P_Sign a_P_Digits a_Q_Sign a_Q_Digits ∧ Fr.FrB b_P_Sign b_P_Digits b_Q_Sign b_Q_Digits then (0 : Int) else 1 := (if_neg hNR).symm
    exact V.ret [2, 0] [{}, {}] [fun _ => {}, fun _ => {}] [] [4, 5] [] (.tuple #[ag (DFrac.mk (DBig.mk 0 ⟨([] : List Int), {}⟩) (DBig.mk 0 ⟨([] : List Int), {}⟩)), iv 1]) (fun _ _ => by kernel_rfl) (fun _ _ => (Eq.trans (by kernel_rfl) (cong3 (fun (x0 : Int) (x2 : Int) (x4 : Int) => (.tuple #[.agg #[iv x0, SV.v ({}), iv x2, SV.v ({})], iv x4] : Value)) e0 e2 e4)).trans (by kernel_rfl)) (fun _ _ => trivial)
  have hRR : Fr.FrB a_P_Sign a_P_Digits a_Q_Sign a_Q_Digits ∧ Fr.FrB b_P_Sign b_P_Digits b_Q_Sign b_Q_Digits := by first | exact q2 | exact ⟨Decidable.not_not.1 (q2).1, Decidable.not_not.1 (q2).2⟩
  have fa := Fr.FrB.z hRR.1; have fb := Fr.FrB.z hRR.2
  refine nm (if Fr.FrB a_P_Sign a_P_Digits a_Q_Sign a_Q_Digits ∧ Fr.FrB b_P_Sign b_P_Digits b_Q_Sign b_Q_Digits then Fr.cmpQ (Fr.fq a_P_Sign a_P_Digits a_Q_Digits) (Fr.fq b_P_Sign b_P_Digits b_Q_Digits) else 0 : Int) fun n1 hn1 => ?_
  refine nm (n1 * (-1) : Int) fun n2 hn2 => ?_
  have hcm : n1 = Fr.cmpQ (Fr.fq a_P_Sign a_P_Digits a_Q_Digits) (Fr.fq b_P_Sign b_P_Digits b_Q_Digits) := by rw [hn1, if_pos hRR]
  have hcn := Tb.cmpQ_pos (a := (Fr.fq a_P_Sign a_P_Digits a_Q_Digits)) (b := (Fr.fq b_P_Sign b_P_Digits b_Q_Digits))
  have hcr := Tb.cmp_rg (Fr.fq a_P_Sign a_P_Digits a_Q_Digits) (Fr.fq b_P_Sign b_P_Digits b_Q_Digits)
  rw [← hcm] at hcn hcr
  refine V.g [.ld 0 0 true (fun _ => Dat.cells (DFrac.mk (DBig.mk a_P_Sign ⟨a_P_Digits, a_P_Digitss⟩) (DBig.mk a_Q_Sign ⟨a_Q_Digits, a_Q_Digitss⟩))),.ld 1 0 true (fun _ => Dat.cells (DFrac.mk (DBig.mk b_P_Sign ⟨b_P_Digits, b_P_Digitss⟩) (DBig.mk b_Q_Sign ⟨b_Q_Digits, b_Q_Digitss⟩))),.cp g0 2 30 [(kf false (.f 0) a_P_Digits (fun _ => a_P_Digitss)).a, (kf false (.f 1) a_Q_Digits (fun _ => a_Q_Digitss)).a, (kf false (.f 2) b_P_Digits (fun _ => b_P_Digitss)).a, (kf false (.f 3) b_Q_Digits (fun _ => b_Q_Digitss)).a] (fun _ G => fcmp_ctv a_P_Sign a_P_Digits a_P_Digitss a_Q_Sign a_Q_Digits a_Q_Digitss b_P_Sign b_P_Digits b_P_Digitss b_Q_Sign b_Q_Digits b_Q_Digitss (by omega) (by omega) (by omega) (by omega) n1 hn1),.k (iv (-1)),.ar (n1 * (-1)) n2 hn2 (by omega) (by omega),.k (bv (decide (n2 < 0)))] fun _ _ G4 => ?_
  intro S_ s_
  refine V.cond (b := decide (n2 < 0)) iDT iDF (by kernel_rfl) (fun q3 => ?_) (fun q4 => ?_)
  · have hif : (if (Fr.fq b_P_Sign b_P_Digits b_Q_Digits) < (Fr.fq a_P_Sign a_P_Digits a_Q_Digits) then (Fr.fq b_P_Sign b_P_Digits b_Q_Digits) else (Fr.fq a_P_Sign a_P_Digits a_Q_Digits)) = (Fr.fq b_P_Sign b_P_Digits b_Q_Digits) := if_pos (hcn.1 (by have hqq := q3; omega))
    have hR1 := hRR.2.1; have hR2 := hRR.2.2.1
    refine V.g [.ld 1 0 true (fun _ => Dat.cells (DFrac.mk (DBig.mk b_P_Sign ⟨b_P_Digits, b_P_Digitss⟩) (DBig.mk b_Q_Sign ⟨b_Q_Digits, b_Q_Digitss⟩))),.st 0 (fun _ => .blk ((G1 0).b) (ca (DFrac.mk (DBig.mk b_P_Sign ⟨b_P_Digits, b_P_Digitss⟩) (DBig.mk b_Q_Sign ⟨b_Q_Digits, b_Q_Digitss⟩))) 30)] fun _ _ G5 => ?_
    intro S_ s_
    refine V.r [.k (pp ((G1 0).b) 0),.ld 0 0 true (fun _ => Dat.cells (DBig.mk b_P_Sign ⟨b_P_Digits, b_P_Digitss⟩)),.ct g0 2 113 false [] [] [(kf false (.f 2) b_P_Digits (fun _ => b_P_Digitss)).a] (fun _ G => fslim_ct b_P_Sign b_P_Digits b_P_Digitss hR1 (by omega)),.k (pp ((G1 0).b) 2),.ld 0 2 true (fun _ => Dat.cells (DBig.mk b_Q_Sign ⟨b_Q_Digits, b_Q_Digitss⟩)),.ct g0 5 113 false [] [] [(kf false (.f 3) b_Q_Digits (fun _ => b_Q_Digitss)).a] (fun _ G => fslim_ct b_Q_Sign b_Q_Digits b_Q_Digitss hR2 (by omega)),.v fun G => ag (DFrac.mk (DBig.mk b_P_Sign ⟨b_P_Digits, (G 2).ss 0⟩) (DBig.mk b_Q_Sign ⟨b_Q_Digits, (G 5).ss 0⟩)),.st 2 (fun G => .blk ((G1 2).b) (ca (DFrac.mk (DBig.mk b_P_Sign ⟨b_P_Digits, (G 2).ss 0⟩) (DBig.mk b_Q_Sign ⟨b_Q_Digits, (G 5).ss 0⟩))) 30),.k (iv 0)] fun _ _ G6 kw6 => ?_
    intro S_ s_
    obtain ⟨⟨kl5, -⟩, ⟨kl6, -⟩, -⟩ : Lq b_P_Digits (((G6 2).ss 0).v) ∧ Lq b_Q_Digits (((G6 5).ss 0).v) ∧ True := kn kw6 (by kernel_rfl)
    clear kw6
    have e1 : b_P_Digits = Fr.rD (Fr.FrB a_P_Sign a_P_Digits a_Q_Sign a_Q_Digits ∧ Fr.FrB b_P_Sign b_P_Digits b_Q_Sign b_Q_Digits) (if (Fr.fq b_P_Sign b_P_Digits b_Q_Digits) < (Fr.fq a_P_Sign a_P_Digits a_Q_Digits) then (Fr.fq b_P_Sign b_P_Digits b_Q_Digits) else (Fr.fq a_P_Sign a_P_Digits a_Q_Digits)) := (Fr.Fz.ret fb hRR hif.symm).2.1
    rw [← e1]
    have e3 : b_Q_Digits = Fr.rE (Fr.FrB a_P_Sign a_P_Digits a_Q_Sign a_Q_Digits ∧ Fr.FrB b_P_Sign b_P_Digits b_Q_Sign b_Q_Digits) (if (Fr.fq b_P_Sign b_P_Digits b_Q_Digits) < (Fr.fq a_P_Sign a_P_Digits a_Q_Digits) then (Fr.fq b_P_Sign b_P_Digits b_Q_Digits) else (Fr.fq a_P_Sign a_P_Digits a_Q_Digits)) := (Fr.Fz.ret fb hRR hif.symm).2.2.2
    rw [← e3]
    have e0 : b_P_Sign = Fr.rS (Fr.FrB a_P_Sign a_P_Digits a_Q_Sign a_Q_Digits ∧ Fr.FrB b_P_Sign b_P_Digits b_Q_Sign b_Q_Digits) (if (Fr.fq b_P_Sign b_P_Digits b_Q_Digits) < (Fr.fq a_P_Sign a_P_Digits a_Q_Digits) then (Fr.fq b_P_Sign b_P_Digits b_Q_Digits) else (Fr.fq a_P_Sign a_P_Digits a_Q_Digits)) := (Fr.Fz.ret fb hRR hif.symm).1
    have e2 : b_Q_Sign = Fr.rT (Fr.FrB a_P_Sign a_P_Digits a_Q_Sign a_Q_Digits ∧ Fr.FrB b_P_Sign b_P_Digits b_Q_Sign b_Q_Digits) := (Fr.Fz.ret fb hRR hif.symm).2.2.1
    have e4 : (0 : Int) = if Fr.FrB a_P_Sign a_P_Digits a_Q_Sign a_Q_Digits ∧ Fr.FrB b_P_Sign b_P_Digits b_Q_Sign b_Q_Digits then (0 : Int) else 1 := (if_pos hRR).symm
    exact V.ret [2, 0] [(G6 2).ss 0, (G6 5).ss 0] [fun _ => {}, fun _ => {}] [] [4, 5] [] (.tuple #[ag (DFrac.mk (DBig.mk b_P_Sign ⟨b_P_Digits, (G6 2).ss 0⟩) (DBig.mk b_Q_Sign ⟨b_Q_Digits, (G6 5).ss 0⟩)), iv 0]) (fun _ _ => by kernel_rfl) (fun _ _ => (Eq.trans (by kernel_rfl) (cong3 (fun (x0 : Int) (x2 : Int) (x4 : Int) => (.tuple #[.agg #[iv x0, ((G6 2).ss 0).v, iv x2, ((G6 5).ss 0).v], iv x4] : Value)) e0 e2 e4)).trans (by kernel_rfl)) (fun _ _ => trivial)
  have hif : (if (Fr.fq b_P_Sign b_P_Digits b_Q_Digits) < (Fr.fq a_P_Sign a_P_Digits a_Q_Digits) then (Fr.fq b_P_Sign b_P_Digits b_Q_Digits) else (Fr.fq a_P_Sign a_P_Digits a_Q_Digits)) = (Fr.fq a_P_Sign a_P_Digits a_Q_Digits) := if_neg (fun h => q4 (by have := hcn.2 h; omega))
  have hR1 := hRR.1.1; have hR2 := hRR.1.2.1
  refine V.r [.k (pp ((G1 0).b) 0),.ld 0 0 true (fun _ => Dat.cells (DBig.mk a_P_Sign ⟨a_P_Digits, a_P_Digitss⟩)),.ct g0 2 113 false [] [] [(kf false (.f 0) a_P_Digits (fun _ => a_P_Digitss)).a] (fun _ G => fslim_ct a_P_Sign a_P_Digits a_P_Digitss hR1 (by omega)),.k (pp ((G1 0).b) 2),.ld 0 2 true (fun _ => Dat.cells (DBig.mk a_Q_Sign ⟨a_Q_Digits, a_Q_Digitss⟩)),.ct g0 5 113 false [] [] [(kf false (.f 1) a_Q_Digits (fun _ => a_Q_Digitss)).a] (fun _ G => fslim_ct a_Q_Sign a_Q_Digits a_Q_Digitss hR2 (by omega)),.v fun G => ag (DFrac.mk (DBig.mk a_P_Sign ⟨a_P_Digits, (G 2).ss 0⟩) (DBig.mk a_Q_Sign ⟨a_Q_Digits, (G 5).ss 0⟩)),.st 2 (fun G => .blk ((G1 2).b) (ca (DFrac.mk (DBig.mk a_P_Sign ⟨a_P_Digits, (G 2).ss 0⟩) (DBig.mk a_Q_Sign ⟨a_Q_Digits, (G 5).ss 0⟩))) 30),.k (iv 0)] fun _ _ G7 kw7 => ?_
  intro S_ s_
  obtain ⟨⟨kl7, -⟩, ⟨kl8, -⟩, -⟩ : Lq a_P_Digits (((G7 2).ss 0).v) ∧ Lq a_Q_Digits (((G7 5).ss 0).v) ∧ True := kn kw7 (by kernel_rfl)
  clear kw7
  have e1 : a_P_Digits = Fr.rD (Fr.FrB a_P_Sign a_P_Digits a_Q_Sign a_Q_Digits ∧ Fr.FrB b_P_Sign b_P_Digits b_Q_Sign b_Q_Digits) (if (Fr.fq b_P_Sign b_P_Digits b_Q_Digits) < (Fr.fq a_P_Sign a_P_Digits a_Q_Digits) then (Fr.fq b_P_Sign b_P_Digits b_Q_Digits) else (Fr.fq a_P_Sign a_P_Digits a_Q_Digits)) := (Fr.Fz.ret fa hRR hif.symm).2.1
  rw [← e1]
  have e3 : a_Q_Digits = Fr.rE (Fr.FrB a_P_Sign a_P_Digits a_Q_Sign a_Q_Digits ∧ Fr.FrB b_P_Sign b_P_Digits b_Q_Sign b_Q_Digits) (if (Fr.fq b_P_Sign b_P_Digits b_Q_Digits) < (Fr.fq a_P_Sign a_P_Digits a_Q_Digits) then (Fr.fq b_P_Sign b_P_Digits b_Q_Digits) else (Fr.fq a_P_Sign a_P_Digits a_Q_Digits)) := (Fr.Fz.ret fa hRR hif.symm).2.2.2
  rw [← e3]
  have e0 : a_P_Sign = Fr.rS (Fr.FrB a_P_Sign a_P_Digits a_Q_Sign a_Q_Digits ∧ Fr.FrB b_P_Sign b_P_Digits b_Q_Sign b_Q_Digits) (if (Fr.fq b_P_Sign b_P_Digits b_Q_Digits) < (Fr.fq a_P_Sign a_P_Digits a_Q_Digits) then (Fr.fq b_P_Sign b_P_Digits b_Q_Digits) else (Fr.fq a_P_Sign a_P_Digits a_Q_Digits)) := (Fr.Fz.ret fa hRR hif.symm).1
  have e2 : a_Q_Sign = Fr.rT (Fr.FrB a_P_Sign a_P_Digits a_Q_Sign a_Q_Digits ∧ Fr.FrB b_P_Sign b_P_Digits b_Q_Sign b_Q_Digits) := (Fr.Fz.ret fa hRR hif.symm).2.2.1
  have e4 : (0 : Int) = if Fr.FrB a_P_Sign a_P_Digits a_Q_Sign a_Q_Digits ∧ Fr.FrB b_P_Sign b_P_Digits b_Q_Sign b_Q_Digits then (0 : Int) else 1 := (if_pos hRR).symm
  exact V.ret [2, 0] [(G7 2).ss 0, (G7 5).ss 0] [fun _ => {}, fun _ => {}] [] [4, 5] [] (.tuple #[ag (DFrac.mk (DBig.mk a_P_Sign ⟨a_P_Digits, (G7 2).ss 0⟩) (DBig.mk a_Q_Sign ⟨a_Q_Digits, (G7 5).ss 0⟩)), iv 0]) (fun _ _ => by kernel_rfl) (fun _ _ => (Eq.trans (by kernel_rfl) (cong3 (fun (x0 : Int) (x2 : Int) (x4 : Int) => (.tuple #[.agg #[iv x0, ((G7 2).ss 0).v, iv x2, ((G7 5).ss 0).v], iv x4] : Value)) e0 e2 e4)).trans (by kernel_rfl)) (fun _ _ => trivial)
theorem fmin0_ctv (a_P_Sign : Int) (a_P_Digits : List Int) (a_P_Digitss : SV) (a_Q_Sign : Int) (a_Q_Digits : List Int) (a_Q_Digitss : SV) (b_P_Sign : Int) (b_P_Digits : List Int) (b_P_Digitss : SV) (b_Q_Sign : Int) (b_Q_Digits : List Int) (b_Q_Digitss : SV) (haP : a_P_Digits.length ≤ 17179869184) (haQ : a_Q_Digits.length ≤ 17179869184) (hbP : b_P_Digits.length ≤ 17179869184) (hbQ : b_Q_Digits.length ≤ 17179869184) (rv0 : Int) (erv0 : rv0 = Fr.rS (Fr.FrB a_P_Sign a_P_Digits a_Q_Sign a_Q_Digits ∧ Fr.FrB b_P_Sign b_P_Digits b_Q_Sign b_Q_Digits) (if (Fr.fq b_P_Sign b_P_Digits b_Q_Digits) < (Fr.fq a_P_Sign a_P_Digits a_Q_Digits) then (Fr.fq b_P_Sign b_P_Digits b_Q_Digits) else (Fr.fq a_P_Sign a_P_Digits a_Q_Digits))) (rv1 : List Int) (erv1 : rv1 = Fr.rD (Fr.FrB a_P_Sign a_P_Digits a_Q_Sign a_Q_Digits ∧ Fr.FrB b_P_Sign b_P_Digits b_Q_Sign b_Q_Digits) (if (Fr.fq b_P_Sign b_P_Digits b_Q_Digits) < (Fr.fq a_P_Sign a_P_Digits a_Q_Digits) then (Fr.fq b_P_Sign b_P_Digits b_Q_Digits) else (Fr.fq a_P_Sign a_P_Digits a_Q_Digits))) (rv2 : Int) (erv2 : rv2 = Fr.rT (Fr.FrB a_P_Sign a_P_Digits a_Q_Sign a_Q_Digits ∧ Fr.FrB b_P_Sign b_P_Digits b_Q_Sign b_Q_Digits)) (rv3 : List Int) (erv3 : rv3 = Fr.rE (Fr.FrB a_P_Sign a_P_Digits a_Q_Sign a_Q_Digits ∧ Fr.FrB b_P_Sign b_P_Digits b_Q_Sign b_Q_Digits) (if (Fr.fq b_P_Sign b_P_Digits b_Q_Digits) < (Fr.fq a_P_Sign a_P_Digits a_Q_Digits) then (Fr.fq b_P_Sign b_P_Digits b_Q_Digits) else (Fr.fq a_P_Sign a_P_Digits a_Q_Digits))) (rv4 : Int) (erv4 : rv4 = if Fr.FrB a_P_Sign a_P_Digits a_Q_Sign a_Q_Digits ∧ Fr.FrB b_P_Sign b_P_Digits b_Q_Sign b_Q_Digits then (0 : Int) else 1) :
    Ct Try.prog 77 #[ag (DFrac.mk (DBig.mk a_P_Sign ⟨a_P_Digits, a_P_Digitss⟩) (DBig.mk a_Q_Sign ⟨a_Q_Digits, a_Q_Digitss⟩)), ag (DFrac.mk (DBig.mk b_P_Sign ⟨b_P_Digits, b_P_Digitss⟩) (DBig.mk b_Q_Sign ⟨b_Q_Digits, b_Q_Digitss⟩)), iv (-1)] [fs true a_P_Digits a_P_Digitss, fs true a_Q_Digits a_Q_Digitss, fs true b_P_Digits b_P_Digitss, fs true b_Q_Digits b_Q_Digitss] [] (fun g => .tuple #[ag (DFrac.mk (DBig.mk rv0 ⟨rv1, (g.ss 0)⟩) (DBig.mk rv2 ⟨rv3, (g.ss 1)⟩)), iv rv4]) (fun g => [fs true rv1 (g.ss 0), fs true rv3 (g.ss 1)]) (fun g => []) (fun g => []) := by
  subst erv0 erv1 erv2 erv3 erv4; exact fmin0_ct a_P_Sign a_P_Digits a_P_Digitss a_Q_Sign a_Q_Digits a_Q_Digitss b_P_Sign b_P_Digits b_P_Digitss b_Q_Sign b_Q_Digits b_Q_Digitss haP haQ hbP hbQ
set_option maxRecDepth 10000 in
theorem fmax0_ct (a_P_Sign : Int) (a_P_Digits : List Int) (a_P_Digitss : SV) (a_Q_Sign : Int) (a_Q_Digits : List Int) (a_Q_Digitss : SV) (b_P_Sign : Int) (b_P_Digits : List Int) (b_P_Digitss : SV) (b_Q_Sign : Int) (b_Q_Digits : List Int) (b_Q_Digitss : SV) (haP : a_P_Digits.length ≤ 17179869184) (haQ : a_Q_Digits.length ≤ 17179869184) (hbP : b_P_Digits.length ≤ 17179869184) (hbQ : b_Q_Digits.length ≤ 17179869184) :
    Ct Try.prog 77 #[ag (DFrac.mk (DBig.mk a_P_Sign ⟨a_P_Digits, a_P_Digitss⟩) (DBig.mk a_Q_Sign ⟨a_Q_Digits, a_Q_Digitss⟩)), ag (DFrac.mk (DBig.mk b_P_Sign ⟨b_P_Digits, b_P_Digitss⟩) (DBig.mk b_Q_Sign ⟨b_Q_Digits, b_Q_Digitss⟩)), iv 1] [fs true a_P_Digits a_P_Digitss, fs true a_Q_Digits a_Q_Digitss, fs true b_P_Digits b_P_Digitss, fs true b_Q_Digits b_Q_Digitss] [] (fun g => .tuple #[ag (DFrac.mk (DBig.mk (Fr.rS (Fr.FrB a_P_Sign a_P_Digits a_Q_Sign a_Q_Digits ∧ Fr.FrB b_P_Sign b_P_Digits b_Q_Sign b_Q_Digits) (if (Fr.fq a_P_Sign a_P_Digits a_Q_Digits) < (Fr.fq b_P_Sign b_P_Digits b_Q_Digits) then (Fr.fq b_P_Sign b_P_Digits b_Q_Digits) else (Fr.fq a_P_Sign a_P_Digits a_Q_Digits))) ⟨Fr.rD (Fr.FrB a_P_Sign a_P_Digits a_Q_Sign a_Q_Digits ∧ Fr.FrB b_P_Sign b_P_Digits b_Q_Sign b_Q_Digits) (if (Fr.fq a_P_Sign a_P_Digits a_Q_Digits) < (Fr.fq b_P_Sign b_P_Digits b_Q_Digits) then (Fr.fq b_P_Sign b_P_Digits b_Q_Digits) else (Fr.fq a_P_Sign a_P_Digits a_Q_Digits)), (g.ss 0)⟩) (DBig.mk (Fr.rT (Fr.FrB a_P_Sign a_P_Digits a_Q_Sign a_Q_Digits ∧ Fr.FrB b_P_Sign b_P_Digits b_Q_Sign b_Q_Digits)) ⟨Fr.rE (Fr.FrB a_P_Sign a_P_Digits a_Q_Sign a_Q_Digits ∧ Fr.FrB b_P_Sign b_P_Digits b_Q_Sign b_Q_Digits) (if (Fr.fq a_P_Sign a_P_Digits a_Q_Digits) < (Fr.fq b_P_Sign b_P_Digits b_Q_Digits) then (Fr.fq b_P_Sign b_P_Digits b_Q_Digits) else (Fr.fq a_P_Sign a_P_Digits a_Q_Digits)), (g.ss 1)⟩)), iv (if Fr.FrB a_P_Sign a_P_Digits a_Q_Sign a_Q_Digits ∧ Fr.FrB b_P_Sign b_P_Digits b_Q_Sign b_Q_Digits then (0 : Int) else 1)]) (fun g => [fs true (Fr.rD (Fr.FrB a_P_Sign a_P_Digits a_Q_Sign a_Q_Digits ∧ Fr.FrB b_P_Sign b_P_Digits b_Q_Sign b_Q_Digits) (if (Fr.fq a_P_Sign a_P_Digits a_Q_Digits) < (Fr.fq b_P_Sign b_P_Digits b_Q_Digits) then (Fr.fq b_P_Sign b_P_Digits b_Q_Digits) else (Fr.fq a_P_Sign a_P_Digits a_Q_Digits))) (g.ss 0), fs true (Fr.rE (Fr.FrB a_P_Sign a_P_Digits a_Q_Sign a_Q_Digits ∧ Fr.FrB b_P_Sign b_P_Digits b_Q_Sign b_Q_Digits) (if (Fr.fq a_P_Sign a_P_Digits a_Q_Digits) < (Fr.fq b_P_Sign b_P_Digits b_Q_Digits) then (Fr.fq b_P_Sign b_P_Digits b_Q_Digits) else (Fr.fq a_P_Sign a_P_Digits a_Q_Digits))) (g.ss 1)]) (fun g => []) (fun g => []) := by
  refine V.fn mo Try.func77 31 3 (by kernel_rfl) fun w H ε k0 => ?_
  obtain ⟨⟨kl1, -⟩, ⟨kl2, -⟩, ⟨kl3, -⟩, ⟨kl4, -⟩, -⟩ : Lq a_P_Digits a_P_Digitss.v ∧ Lq a_Q_Digits a_Q_Digitss.v ∧ Lq b_P_Digits b_P_Digitss.v ∧ Lq b_Q_Digits b_Q_Digitss.v ∧ True := kn k0 (by kernel_rfl)
  clear k0
  refine V.g [.nb 0 0 (fun b => pp b 0) 30 (fun _ => ca (DFrac.mk (DBig.mk a_P_Sign ⟨a_P_Digits, a_P_Digitss⟩) (DBig.mk a_Q_Sign ⟨a_Q_Digits, a_Q_Digitss⟩))),.nb 1 1 (fun b => pp b 0) 30 (fun _ => ca (DFrac.mk (DBig.mk b_P_Sign ⟨b_P_Digits, b_P_Digitss⟩) (DBig.mk b_Q_Sign ⟨b_Q_Digits, b_Q_Digitss⟩))),.nb 2 2 (fun b => pp b 0) 30 (fun _ => ca (DFrac.mk (DBig.mk 0 ⟨[], {}⟩) (DBig.mk 0 ⟨[], {}⟩))),.k (iv 0)] fun _ _ G1 => ?_
  intro S_ s_
  refine nm ((!(decide (Fr.FrB a_P_Sign a_P_Digits a_Q_Sign a_Q_Digits))) || (!(decide (Fr.FrB b_P_Sign b_P_Digits b_Q_Sign b_Q_Digits))) : Bool) fun p1 hp1 => ?_
  refine V.g [.ld 0 0 true (fun _ => Dat.cells (DFrac.mk (DBig.mk a_P_Sign ⟨a_P_Digits, a_P_Digitss⟩) (DBig.mk a_Q_Sign ⟨a_Q_Digits, a_Q_Digitss⟩))),.cp g0 1 24 [(kf false (.f 0) a_P_Digits (fun _ => a_P_Digitss)).a, (kf false (.f 1) a_Q_Digits (fun _ => a_Q_Digitss)).a] (fun _ G => right_ct a_P_Sign a_P_Digits a_P_Digitss a_Q_Sign a_Q_Digits a_Q_Digitss (by omega) (by omega)),.k (bv (!(decide (Fr.FrB a_P_Sign a_P_Digits a_Q_Sign a_Q_Digits)))),.k (bv (!(decide (Fr.FrB a_P_Sign a_P_Digits a_Q_Sign a_Q_Digits)))),.ld 1 0 true (fun _ => Dat.cells (DFrac.mk (DBig.mk b_P_Sign ⟨b_P_Digits, b_P_Digitss⟩) (DBig.mk b_Q_Sign ⟨b_Q_Digits, b_Q_Digitss⟩))),.cp (gF (b := !(decide (Fr.FrB a_P_Sign a_P_Digits a_Q_Sign a_Q_Digits))) (iNF iDT)) 5 24 [(kf false (.f 2) b_P_Digits (fun _ => b_P_Digitss)).a, (kf false (.f 3) b_Q_Digits (fun _ => b_Q_Digitss)).a] (fun hg G => right_ct b_P_Sign b_P_Digits b_P_Digitss b_Q_Sign b_Q_Digits b_Q_Digitss (by omega) (by omega)),.k (bv (!(decide (Fr.FrB b_P_Sign b_P_Digits b_Q_Sign b_Q_Digits)))),.orn g0 false (!(decide (Fr.FrB a_P_Sign a_P_Digits a_Q_Sign a_Q_Digits))) (!(decide (Fr.FrB b_P_Sign b_P_Digits b_Q_Sign b_Q_Digits))) p1 hp1] fun _ _ G2 => ?_
  intro S_ s_
  refine V.cond (b := p1) (iN hp1 (iOT (iNT iDF) (iNT iDF))) (iN hp1 (iOF (iNF iDT) (iNF iDT))) (by kernel_rfl) (fun q1 => ?_) (fun q2 => ?_)
  · have hNR : ¬ (Fr.FrB a_P_Sign a_P_Digits a_Q_Sign a_Q_Digits ∧ Fr.FrB b_P_Sign b_P_Digits b_Q_Sign b_Q_Digits) := by rintro ⟨h1, h2⟩; rcases q1 with h | h; exact h h1; exact h h2
    refine V.g [.k (ag (DFrac.mk (DBig.mk 0 ⟨[], {}⟩) (DBig.mk 0 ⟨[], {}⟩))),.st 2 (fun _ => .blk ((G1 2).b) (ca (DFrac.mk (DBig.mk 0 ⟨[], {}⟩) (DBig.mk 0 ⟨[], {}⟩))) 30),.k (iv 1)] fun _ _ G3 => ?_
    intro S_ s_
    refine V.nilF (α := Int) ?_
    refine V.nilF (α := Int) ?_
    have e1 : ([] : List Int) = Fr.rD (Fr.FrB a_P_Sign a_P_Digits a_Q_Sign a_Q_Digits ∧ Fr.FrB b_P_Sign b_P_Digits b_Q_Sign b_Q_Digits) (if (Fr.fq a_P_Sign a_P_Digits a_Q_Digits) < (Fr.fq b_P_Sign b_P_Digits b_Q_Digits) then (Fr.fq b_P_Sign b_P_Digits b_Q_Digits) else (Fr.fq a_P_Sign a_P_Digits a_Q_Digits)) := (Fr.Fz.no hNR (if (Fr.fq a_P_Sign a_P_Digits a_Q_Digits) < (Fr.fq b_P_Sign b_P_Digits b_Q_Digits) then (Fr.fq b_P_Sign b_P_Digits b_Q_Digits) else (Fr.fq a_P_Sign a_P_Digits a_Q_Digits))).2.1
    rw [← e1]
    have e3 : ([] : List Int) = Fr.rE (Fr.FrB a_P_Sign a_P_Digits a_Q_Sign a_Q_Digits ∧ Fr.FrB b_P_Sign b_P_Digits b_Q_Sign b_Q_Digits) (if (Fr.fq a_P_Sign a_P_Digits a_Q_Digits) < (Fr.fq b_P_Sign b_P_Digits b_Q_Digits) then (Fr.fq b_P_Sign b_P_Digits b_Q_Digits) else (Fr.fq a_P_Sign a_P_Digits a_Q_Digits)) := (Fr.Fz.no hNR (if (Fr.fq a_P_Sign a_P_Digits a_Q_Digits) < (Fr.fq b_P_Sign b_P_Digits b_Q_Digits) then (Fr.fq b_P_Sign b_P_Digits b_Q_Digits) else (Fr.fq a_P_Sign a_P_Digits a_Q_Digits))).2.2.2
    rw [← e3]
    have e0 : (0 : Int) = Fr.rS (Fr.FrB a_P_Sign a_P_Digits a_Q_Sign a_Q_Digits ∧ Fr.FrB b_P_Sign b_P_Digits b_Q_Sign b_Q_Digits) (if (Fr.fq a_P_Sign a_P_Digits a_Q_Digits) < (Fr.fq b_P_Sign b_P_Digits b_Q_Digits) then (Fr.fq b_P_Sign b_P_Digits b_Q_Digits) else (Fr.fq a_P_Sign a_P_Digits a_Q_Digits)) := (Fr.Fz.no hNR (if (Fr.fq a_P_Sign a_P_Digits a_Q_Digits) < (Fr.fq b_P_Sign b_P_Digits b_Q_Digits) then (Fr.fq b_P_Sign b_P_Digits b_Q_Digits) else (Fr.fq a_P_Sign a_P_Digits a_Q_Digits))).1
    have e2 : (0 : Int) = Fr.rT (Fr.FrB a_P_Sign a_P_Digits a_Q_Sign a_Q_Digits ∧ Fr.FrB b_P_Sign b_P_Digits b_Q_Sign b_Q_Digits) := (Fr.Fz.no hNR (if (Fr.fq a_P_Sign a_P_Digits a_Q_Digits) < (Fr.fq b_P_Sign b_P_Digits b_Q_Digits) then (Fr.fq b_P_Sign b_P_Digits b_Q_Digits) else (Fr.fq a_P_Sign a_P_Digits a_Q_Digits))).2.2.1
    have e4 : (1 : Int) = if Fr.FrB a_P_Sign a_P_Digits a_Q_Sign a_Q_Digits ∧ Fr.FrB b_P_Sign b_P_Digits b_Q_Sign b_Q_Digits then (0 : Int) else 1 := (if_neg hNR).symm
    exact V.ret [2, 0] [{}, {}] [fun _ => {}, fun _ => {}] [] [4, 5] [] (.tuple #[ag (DFrac.mk (DBig.mk 0 ⟨([] : List Int), {}⟩) (DBig.mk 0 ⟨([] : List Int), {}⟩)), iv 1]) (fun _ _ => by kernel_rfl) (fun _ _ => (Eq.trans (by kernel_rfl) (cong3 (fun (x0 : Int) (x2 : Int) (x4 : Int) => (.tuple #[.agg #[iv x0, SV.v ({}), iv x2, SV.v ({})], iv x4] : Value)) e0 e2 e4)).trans (by kernel_rfl)) (fun _ _ => trivial)
  have hRR : Fr.FrB a_P_Sign a_P_Digits a_Q_Sign a_Q_Digits ∧ Fr.FrB b_P_Sign b_P_Digits b_Q_Sign b_Q_Digits := by first | exact q2 | exact ⟨Decidable.not_not.1 (q2).1, Decidable.not_not.1 (q2).2⟩
  have fa := Fr.FrB.z hRR.1; have fb := Fr.FrB.z hRR.2
  refine nm (if Fr.FrB a_P_Sign a_P_Digits a_Q_Sign a_Q_Digits ∧ Fr.FrB b_P_Sign b_P_Digits b_Q_Sign b_Q_Digits then Fr.cmpQ (Fr.fq a_P_Sign a_P_Digits a_Q_Digits) (Fr.fq b_P_Sign b_P_Digits b_Q_Digits) else 0 : Int) fun n1 hn1 => ?_
  refine nm (n1 * 1 : Int) fun n2 hn2 => ?_
  have hcm : n1 = Fr.cmpQ (Fr.fq a_P_Sign a_P_Digits a_Q_Digits) (Fr.fq b_P_Sign b_P_Digits b_Q_Digits) := by rw [hn1, if_pos hRR]
  have hcn := Tb.cmpQ_neg (a := (Fr.fq a_P_Sign a_P_Digits a_Q_Digits)) (b := (Fr.fq b_P_Sign b_P_Digits b_Q_Digits))
  have hcr := Tb.cmp_rg (Fr.fq a_P_Sign a_P_Digits a_Q_Digits) (Fr.fq b_P_Sign b_P_Digits b_Q_Digits)
  rw [← hcm] at hcn hcr
  refine V.g [.ld 0 0 true (fun _ => Dat.cells (DFrac.mk (DBig.mk a_P_Sign ⟨a_P_Digits, a_P_Digitss⟩) (DBig.mk a_Q_Sign ⟨a_Q_Digits, a_Q_Digitss⟩))),.ld 1 0 true (fun _ => Dat.cells (DFrac.mk (DBig.mk b_P_Sign ⟨b_P_Digits, b_P_Digitss⟩) (DBig.mk b_Q_Sign ⟨b_Q_Digits, b_Q_Digitss⟩))),.cp g0 2 30 [(kf false (.f 0) a_P_Digits (fun _ => a_P_Digitss)).a, (kf false (.f 1) a_Q_Digits (fun _ => a_Q_Digitss)).a, (kf false (.f 2) b_P_Digits (fun _ => b_P_Digitss)).a, (kf false (.f 3) b_Q_Digits (fun _ => b_Q_Digitss)).a] (fun _ G => fcmp_ctv a_P_Sign a_P_Digits a_P_Digitss a_Q_Sign a_Q_Digits a_Q_Digitss b_P_Sign b_P_Digits b_P_Digitss b_Q_Sign b_Q_Digits b_Q_Digitss (by omega) (by omega) (by omega) (by omega) n1 hn1),.k (iv 1),.ar (n1 * 1) n2 hn2 (by omega) (by omega),.k (bv (decide (n2 < 0)))] fun _ _ G4 => ?_
  intro S_ s_
  refine V.cond (b := decide (n2 < 0)) iDT iDF (by kernel_rfl) (fun q3 => ?_) (fun q4 => ?_)
  · have hif : (if (Fr.fq a_P_Sign a_P_Digits a_Q_Digits) < (Fr.fq b_P_Sign b_P_Digits b_Q_Digits) then (Fr.fq b_P_Sign b_P_Digits b_Q_Digits) else (Fr.fq a_P_Sign a_P_Digits a_Q_Digits)) = (Fr.fq b_P_Sign b_P_Digits b_Q_Digits) := if_pos (hcn.1 (by have hqq := q3; omega))
    have hR1 := hRR.2.1; have hR2 := hRR.2.2.1
    refine V.g [.ld 1 0 true (fun _ => Dat.cells (DFrac.mk (DBig.mk b_P_Sign ⟨b_P_Digits, b_P_Digitss⟩) (DBig.mk b_Q_Sign ⟨b_Q_Digits, b_Q_Digitss⟩))),.st 0 (fun _ => .blk ((G1 0).b) (ca (DFrac.mk (DBig.mk b_P_Sign ⟨b_P_Digits, b_P_Digitss⟩) (DBig.mk b_Q_Sign ⟨b_Q_Digits, b_Q_Digitss⟩))) 30)] fun _ _ G5 => ?_
    intro S_ s_
    refine V.r [.k (pp ((G1 0).b) 0),.ld 0 0 true (fun _ => Dat.cells (DBig.mk b_P_Sign ⟨b_P_Digits, b_P_Digitss⟩)),.ct g0 2 113 false [] [] [(kf false (.f 2) b_P_Digits (fun _ => b_P_Digitss)).a] (fun _ G => fslim_ct b_P_Sign b_P_Digits b_P_Digitss hR1 (by omega)),.k (pp ((G1 0).b) 2),.ld 0 2 true (fun _ => Dat.cells (DBig.mk b_Q_Sign ⟨b_Q_Digits, b_Q_Digitss⟩)),.ct g0 5 113 false [] [] [(kf false (.f 3) b_Q_Digits (fun _ => b_Q_Digitss)).a] (fun _ G => fslim_ct b_Q_Sign b_Q_Digits b_Q_Digitss hR2 (by omega)),.v fun G => ag (DFrac.mk (DBig.mk b_P_Sign ⟨b_P_Digits, (G 2).ss 0⟩) (DBig.mk b_Q_Sign ⟨b_Q_Digits, (G 5).ss 0⟩)),.st 2 (fun G => .blk ((G1 2).b) (ca (DFrac.mk (DBig.mk b_P_Sign ⟨b_P_Digits, (G 2).ss 0⟩) (DBig.mk b_Q_Sign ⟨b_Q_Digits, (G 5).ss 0⟩))) 30),.k (iv 0)] fun _ _ G6 kw6 => ?_
    intro S_ s_
    obtain ⟨⟨kl5, -⟩, ⟨kl6, -⟩, -⟩ : Lq b_P_Digits (((G6 2).ss 0).v) ∧ Lq b_Q_Digits (((G6 5).ss 0).v) ∧ True := kn kw6 (by kernel_rfl)
    clear kw6
    have e1 : b_P_Digits = Fr.rD (Fr.FrB a_P_Sign a_P_Digits a_Q_Sign a_Q_Digits ∧ Fr.FrB b_P_Sign b_P_Digits b_Q_Sign b_Q_Digits) (if (Fr.fq a_P_Sign a_P_Digits a_Q_Digits) < (Fr.fq b_P_Sign b_P_Digits b_Q_Digits) then (Fr.fq b_P_Sign b_P_Digits b_Q_Digits) else (Fr.fq a_P_Sign a_P_Digits a_Q_Digits)) := (Fr.Fz.ret fb hRR hif.symm).2.1
    rw [← e1]
    have e3 : b_Q_Digits = Fr.rE (Fr.FrB a_P_Sign a_P_Digits a_Q_Sign a_Q_Digits ∧ Fr.FrB b_P_Sign b_P_Digits b_Q_Sign b_Q_Digits) (if (Fr.fq a_P_Sign a_P_Digits a_Q_Digits) < (Fr.fq b_P_Sign b_P_Digits b_Q_Digits) then (Fr.fq b_P_Sign b_P_Digits b_Q_Digits) else (Fr.fq a_P_Sign a_P_Digits a_Q_Digits)) := (Fr.Fz.ret fb hRR hif.symm).2.2.2
    rw [← e3]
    have e0 : b_P_Sign = Fr.rS (Fr.FrB a_P_Sign a_P_Digits a_Q_Sign a_Q_Digits ∧ Fr.FrB b_P_Sign b_P_Digits b_Q_Sign b_Q_Digits) (if (Fr.fq a_P_Sign a_P_Digits a_Q_Digits) < (Fr.fq b_P_Sign b_P_Digits b_Q_Digits) then (Fr.fq b_P_Sign b_P_Digits b_Q_Digits) else (Fr.fq a_P_Sign a_P_Digits a_Q_Digits)) := (Fr.Fz.ret fb hRR hif.symm).1
    have e2 : b_Q_Sign = Fr.rT (Fr.FrB a_P_Sign a_P_Digits a_Q_Sign a_Q_Digits ∧ Fr.FrB b_P_Sign b_P_Digits b_Q_Sign b_Q_Digits) := (Fr.Fz.ret fb hRR hif.symm).2.2.1
    have e4 : (0 : Int) = if Fr.FrB a_P_Sign a_P_Digits a_Q_Sign a_Q_Digits ∧ Fr.FrB b_P_Sign b_P_Digits b_Q_Sign b_Q_Digits then (0 : Int) else 1 := (if_pos hRR).symm
    exact V.ret [2, 0] [(G6 2).ss 0, (G6 5).ss 0] [fun _ => {}, fun _ => {}] [] [4, 5] [] (.tuple #[ag (DFrac.mk (DBig.mk b_P_Sign ⟨b_P_Digits, (G6 2).ss 0⟩) (DBig.mk b_Q_Sign ⟨b_Q_Digits, (G6 5).ss 0⟩)), iv 0]) (fun _ _ => by kernel_rfl) (fun _ _ => (Eq.trans (by kernel_rfl) (cong3 (fun (x0 : Int) (x2 : Int) (x4 : Int) => (.tuple #[.agg #[iv x0, ((G6 2).ss 0).v, iv x2, ((G6 5).ss 0).v], iv x4] : Value)) e0 e2 e4)).trans (by kernel_rfl)) (fun _ _ => trivial)
  have hif : (if (Fr.fq a_P_Sign a_P_Digits a_Q_Digits) < (Fr.fq b_P_Sign b_P_Digits b_Q_Digits) then (Fr.fq b_P_Sign b_P_Digits b_Q_Digits) else (Fr.fq a_P_Sign a_P_Digits a_Q_Digits)) = (Fr.fq a_P_Sign a_P_Digits a_Q_Digits) := if_neg (fun h => q4 (by have := hcn.2 h; omega))
  have hR1 := hRR.1.1; have hR2 := hRR.1.2.1
  refine V.r [.k (pp ((G1 0).b) 0),.ld 0 0 true (fun _ => Dat.cells (DBig.mk a_P_Sign ⟨a_P_Digits, a_P_Digitss⟩)),.ct g0 2 113 false [] [] [(kf false (.f 0) a_P_Digits (fun _ => a_P_Digitss)).a] (fun _ G => fslim_ct a_P_Sign a_P_Digits a_P_Digitss hR1 (by omega)),.k (pp ((G1 0).b) 2),.ld 0 2 true (fun _ => Dat.cells (DBig.mk a_Q_Sign ⟨a_Q_Digits, a_Q_Digitss⟩)),.ct g0 5 113 false [] [] [(kf false (.f 1) a_Q_Digits (fun _ => a_Q_Digitss)).a] (fun _ G => fslim_ct a_Q_Sign a_Q_Digits a_Q_Digitss hR2 (by omega)),.v fun G => ag (DFrac.mk (DBig.mk a_P_Sign ⟨a_P_Digits, (G 2).ss 0⟩) (DBig.mk a_Q_Sign ⟨a_Q_Digits, (G 5).ss 0⟩)),.st 2 (fun G => .blk ((G1 2).b) (ca (DFrac.mk (DBig.mk a_P_Sign ⟨a_P_Digits, (G 2).ss 0⟩) (DBig.mk a_Q_Sign ⟨a_Q_Digits, (G 5).ss 0⟩))) 30),.k (iv 0)] fun _ _ G7 kw7 => ?_
  intro S_ s_
  obtain ⟨⟨kl7, -⟩, ⟨kl8, -⟩, -⟩ : Lq a_P_Digits (((G7 2).ss 0).v) ∧ Lq a_Q_Digits (((G7 5).ss 0).v) ∧ True := kn kw7 (by kernel_rfl)
  clear kw7
  have e1 : a_P_Digits = Fr.rD (Fr.FrB a_P_Sign a_P_Digits a_Q_Sign a_Q_Digits ∧ Fr.FrB b_P_Sign b_P_Digits b_Q_Sign b_Q_Digits) (if (Fr.fq a_P_Sign a_P_Digits a_Q_Digits) < (Fr.fq b_P_Sign b_P_Digits b_Q_Digits) then (Fr.fq b_P_Sign b_P_Digits b_Q_Digits) else (Fr.fq a_P_Sign a_P_Digits a_Q_Digits)) := (Fr.Fz.ret fa hRR hif.symm).2.1
  rw [← e1]
  have e3 : a_Q_Digits = Fr.rE (Fr.FrB a_P_Sign a_P_Digits a_Q_Sign a_Q_Digits ∧ Fr.FrB b_P_Sign b_P_Digits b_Q_Sign b_Q_Digits) (if (Fr.fq a_P_Sign a_P_Digits a_Q_Digits) < (Fr.fq b_P_Sign b_P_Digits b_Q_Digits) then (Fr.fq b_P_Sign b_P_Digits b_Q_Digits) else (Fr.fq a_P_Sign a_P_Digits a_Q_Digits)) := (Fr.Fz.ret fa hRR hif.symm).2.2.2
  rw [← e3]
  have e0 : a_P_Sign = Fr.rS (Fr.FrB a_P_Sign a_P_Digits a_Q_Sign a_Q_Digits ∧ Fr.FrB b_P_Sign b_P_Digits b_Q_Sign b_Q_Digits) (if (Fr.fq a_P_Sign a_P_Digits a_Q_Digits) < (Fr.fq b_P_Sign b_P_Digits b_Q_Digits) then (Fr.fq b_P_Sign b_P_Digits b_Q_Digits) else (Fr.fq a_P_Sign a_P_Digits a_Q_Digits)) := (Fr.Fz.ret fa hRR hif.symm).1
  have e2 : a_Q_Sign = Fr.rT (Fr.FrB a_P_Sign a_P_Digits a_Q_Sign a_Q_Digits ∧ Fr.FrB b_P_Sign b_P_Digits b_Q_Sign b_Q_Digits) := (Fr.Fz.ret fa hRR hif.symm).2.2.1
  have e4 : (0 : Int) = if Fr.FrB a_P_Sign a_P_Digits a_Q_Sign a_Q_Digits ∧ Fr.FrB b_P_Sign b_P_Digits b_Q_Sign b_Q_Digits then (0 : Int) else 1 := (if_pos hRR).symm
  exact V.ret [2, 0] [(G7 2).ss 0, (G7 5).ss 0] [fun _ => {}, fun _ => {}] [] [4, 5] [] (.tuple #[ag (DFrac.mk (DBig.mk a_P_Sign ⟨a_P_Digits, (G7 2).ss 0⟩) (DBig.mk a_Q_Sign ⟨a_Q_Digits, (G7 5).ss 0⟩)), iv 0]) (fun _ _ => by kernel_rfl) (fun _ _ => (Eq.trans (by kernel_rfl) (cong3 (fun (x0 : Int) (x2 : Int) (x4 : Int) => (.tuple #[.agg #[iv x0, ((G7 2).ss 0).v, iv x2, ((G7 5).ss 0).v], iv x4] : Value)) e0 e2 e4)).trans (by kernel_rfl)) (fun _ _ => trivial)
theorem fmax0_ctv (a_P_Sign : Int) (a_P_Digits : List Int) (a_P_Digitss : SV) (a_Q_Sign : Int) (a_Q_Digits : List Int) (a_Q_Digitss : SV) (b_P_Sign : Int) (b_P_Digits : List Int) (b_P_Digitss : SV) (b_Q_Sign : Int) (b_Q_Digits : List Int) (b_Q_Digitss : SV) (haP : a_P_Digits.length ≤ 17179869184) (haQ : a_Q_Digits.length ≤ 17179869184) (hbP : b_P_Digits.length ≤ 17179869184) (hbQ : b_Q_Digits.length ≤ 17179869184) (rv0 : Int) (erv0 : rv0 = Fr.rS (Fr.FrB a_P_Sign a_P_Digits a_Q_Sign a_Q_Digits ∧ Fr.FrB b_P_Sign b_P_Digits b_Q_Sign b_Q_Digits) (if (Fr.fq a_P_Sign a_P_Digits a_Q_Digits) < (Fr.fq b_P_Sign b_P_Digits b_Q_Digits) then (Fr.fq b_P_Sign b_P_Digits b_Q_Digits) else (Fr.fq a_P_Sign a_P_Digits a_Q_Digits))) (rv1 : List Int) (erv1 : rv1 = Fr.rD (Fr.FrB a_P_Sign a_P_Digits a_Q_Sign a_Q_Digits ∧ Fr.FrB b_P_Sign b_P_Digits b_Q_Sign b_Q_Digits) (if (Fr.fq a_P_Sign a_P_Digits a_Q_Digits) < (Fr.fq b_P_Sign b_P_Digits b_Q_Digits) then (Fr.fq b_P_Sign b_P_Digits b_Q_Digits) else (Fr.fq a_P_Sign a_P_Digits a_Q_Digits))) (rv2 : Int) (erv2 : rv2 = Fr.rT (Fr.FrB a_P_Sign a_P_Digits a_Q_Sign a_Q_Digits ∧ Fr.FrB b_P_Sign b_P_Digits b_Q_Sign b_Q_Digits)) (rv3 : List Int) (erv3 : rv3 = Fr.rE (Fr.FrB a_P_Sign a_P_Digits a_Q_Sign a_Q_Digits ∧ Fr.FrB b_P_Sign b_P_Digits b_Q_Sign b_Q_Digits) (if (Fr.fq a_P_Sign a_P_Digits a_Q_Digits) < (Fr.fq b_P_Sign b_P_Digits b_Q_Digits) then (Fr.fq b_P_Sign b_P_Digits b_Q_Digits) else (Fr.fq a_P_Sign a_P_Digits a_Q_Digits))) (rv4 : Int) (erv4 : rv4 = if Fr.FrB a_P_Sign a_P_Digits a_Q_Sign a_Q_Digits ∧ Fr.FrB b_P_Sign b_P_Digits b_Q_Sign b_Q_Digits then (0 : Int) else 1) :
    Ct Try.prog 77 #[ag (DFrac.mk (DBig.mk a_P_Sign ⟨a_P_Digits, a_P_Digitss⟩) (DBig.mk a_Q_Sign ⟨a_Q_Digits, a_Q_Digitss⟩)), ag (DFrac.mk (DBig.mk b_P_Sign ⟨b_P_Digits, b_P_Digitss⟩) (DBig.mk b_Q_Sign ⟨b_Q_Digits, b_Q_Digitss⟩)), iv 1] [fs true a_P_Digits a_P_Digitss, fs true a_Q_Digits a_Q_Digitss, fs true b_P_Digits b_P_Digitss, fs true b_Q_Digits b_Q_Digitss] [] (fun g => .tuple #[ag (DFrac.mk (DBig.mk rv0 ⟨rv1, (g.ss 0)⟩) (DBig.mk rv2 ⟨rv3, (g.ss 1)⟩)), iv rv4]) (fun g => [fs true rv1 (g.ss 0), fs true rv3 (g.ss 1)]) (fun g => []) (fun g => []) := by
  subst erv0 erv1 erv2 erv3 erv4; exact fmax0_ct a_P_Sign a_P_Digits a_P_Digitss a_Q_Sign a_Q_Digits a_Q_Digitss b_P_Sign b_P_Digits b_P_Digitss b_Q_Sign b_Q_Digits b_Q_Digitss haP haQ hbP hbQ
set_option maxRecDepth 10000 in
theorem fmin_ct (a_P_Sign : Int) (a_P_Digits : List Int) (a_P_Digitss : SV) (a_Q_Sign : Int) (a_Q_Digits : List Int) (a_Q_Digitss : SV) (b_P_Sign : Int) (b_P_Digits : List Int) (b_P_Digitss : SV) (b_Q_Sign : Int) (b_Q_Digits : List Int) (b_Q_Digitss : SV) (haP : a_P_Digits.length ≤ 17179869184) (haQ : a_Q_Digits.length ≤ 17179869184) (hbP : b_P_Digits.length ≤ 17179869184) (hbQ : b_Q_Digits.length ≤ 17179869184) :
    Ct Try.prog 41 #[ag (DFrac.mk (DBig.mk a_P_Sign ⟨a_P_Digits, a_P_Digitss⟩) (DBig.mk a_Q_Sign ⟨a_Q_Digits, a_Q_Digitss⟩)), ag (DFrac.mk (DBig.mk b_P_Sign ⟨b_P_Digits, b_P_Digitss⟩) (DBig.mk b_Q_Sign ⟨b_Q_Digits, b_Q_Digitss⟩))] [fs true a_P_Digits a_P_Digitss, fs true a_Q_Digits a_Q_Digitss, fs true b_P_Digits b_P_Digitss, fs true b_Q_Digits b_Q_Digitss] [] (fun g => .tuple #[ag (DFrac.mk (DBig.mk (Fr.rS (Fr.FrB a_P_Sign a_P_Digits a_Q_Sign a_Q_Digits ∧ Fr.FrB b_P_Sign b_P_Digits b_Q_Sign b_Q_Digits) (if (Fr.fq b_P_Sign b_P_Digits b_Q_Digits) < (Fr.fq a_P_Sign a_P_Digits a_Q_Digits) then (Fr.fq b_P_Sign b_P_Digits b_Q_Digits) else (Fr.fq a_P_Sign a_P_Digits a_Q_Digits))) ⟨Fr.rD (Fr.FrB a_P_Sign a_P_Digits a_Q_Sign a_Q_Digits ∧ Fr.FrB b_P_Sign b_P_Digits b_Q_Sign b_Q_Digits) (if (Fr.fq b_P_Sign b_P_Digits b_Q_Digits) < (Fr.fq a_P_Sign a_P_Digits a_Q_Digits) then (Fr.fq b_P_Sign b_P_Digits b_Q_Digits) else (Fr.fq a_P_Sign a_P_Digits a_Q_Digits)), (g.ss 0)⟩) (DBig.mk (Fr.rT (Fr.FrB a_P_Sign a_P_Digits a_Q_Sign a_Q_Digits ∧ Fr.FrB b_P_Sign b_P_Digits b_Q_Sign b_Q_Digits)) ⟨Fr.rE (Fr.FrB a_P_Sign a_P_Digits a_Q_Sign a_Q_Digits ∧ Fr.FrB b_P_Sign b_P_Digits b_Q_Sign b_Q_Digits) (if (Fr.fq b_P_Sign b_P_Digits b_Q_Digits) < (Fr.fq a_P_Sign a_P_Digits a_Q_Digits) then (Fr.fq b_P_Sign b_P_Digits b_Q_Digits) else (Fr.fq a_P_Sign a_P_Digits a_Q_Digits)), (g.ss 1)⟩)), iv (if Fr.FrB a_P_Sign a_P_Digits a_Q_Sign a_Q_Digits ∧ Fr.FrB b_P_Sign b_P_Digits b_Q_Sign b_Q_Digits then (0 : Int) else 1)]) (fun g => [fs true (Fr.rD (Fr.FrB a_P_Sign a_P_Digits a_Q_Sign a_Q_Digits ∧ Fr.FrB b_P_Sign b_P_Digits b_Q_Sign b_Q_Digits) (if (Fr.fq b_P_Sign b_P_Digits b_Q_Digits) < (Fr.fq a_P_Sign a_P_Digits a_Q_Digits) then (Fr.fq b_P_Sign b_P_Digits b_Q_Digits) else (Fr.fq a_P_Sign a_P_Digits a_Q_Digits))) (g.ss 0), fs true (Fr.rE (Fr.FrB a_P_Sign a_P_Digits a_Q_Sign a_Q_Digits ∧ Fr.FrB b_P_Sign b_P_Digits b_Q_Sign b_Q_Digits) (if (Fr.fq b_P_Sign b_P_Digits b_Q_Digits) < (Fr.fq a_P_Sign a_P_Digits a_Q_Digits) then (Fr.fq b_P_Sign b_P_Digits b_Q_Digits) else (Fr.fq a_P_Sign a_P_Digits a_Q_Digits))) (g.ss 1)]) (fun g => []) (fun g => []) := by
  refine V.fn mo Try.func41 11 3 (by kernel_rfl) fun w H ε k0 => ?_
  obtain ⟨⟨kl1, -⟩, ⟨kl2, -⟩, ⟨kl3, -⟩, ⟨kl4, -⟩, -⟩ : Lq a_P_Digits a_P_Digitss.v ∧ Lq a_Q_Digits a_Q_Digitss.v ∧ Lq b_P_Digits b_P_Digitss.v ∧ Lq b_Q_Digits b_Q_Digitss.v ∧ True := kn k0 (by kernel_rfl)
  clear k0
  refine V.g [.nb 0 0 (fun b => pp b 0) 30 (fun _ => ca (DFrac.mk (DBig.mk a_P_Sign ⟨a_P_Digits, a_P_Digitss⟩) (DBig.mk a_Q_Sign ⟨a_Q_Digits, a_Q_Digitss⟩))),.nb 1 1 (fun b => pp b 0) 30 (fun _ => ca (DFrac.mk (DBig.mk b_P_Sign ⟨b_P_Digits, b_P_Digitss⟩) (DBig.mk b_Q_Sign ⟨b_Q_Digits, b_Q_Digitss⟩))),.nb 2 2 (fun b => pp b 0) 30 (fun _ => ca (DFrac.mk (DBig.mk 0 ⟨[], {}⟩) (DBig.mk 0 ⟨[], {}⟩))),.k (iv 0)] fun _ _ G1 => ?_
  intro S_ s_
  refine nm (Fr.rS (Fr.FrB a_P_Sign a_P_Digits a_Q_Sign a_Q_Digits ∧ Fr.FrB b_P_Sign b_P_Digits b_Q_Sign b_Q_Digits) (if (Fr.fq b_P_Sign b_P_Digits b_Q_Digits) < (Fr.fq a_P_Sign a_P_Digits a_Q_Digits) then (Fr.fq b_P_Sign b_P_Digits b_Q_Digits) else (Fr.fq a_P_Sign a_P_Digits a_Q_Digits)) : Int) fun n1 hn1 => ?_
  refine nm (Fr.rD (Fr.FrB a_P_Sign a_P_Digits a_Q_Sign a_Q_Digits ∧ Fr.FrB b_P_Sign b_P_Digits b_Q_Sign b_Q_Digits) (if (Fr.fq b_P_Sign b_P_Digits b_Q_Digits) < (Fr.fq a_P_Sign a_P_Digits a_Q_Digits) then (Fr.fq b_P_Sign b_P_Digits b_Q_Digits) else (Fr.fq a_P_Sign a_P_Digits a_Q_Digits)) : List Int) fun l1 hl1 => ?_
  have hl1n := congrArg List.length hl1
  refine nm (Fr.rT (Fr.FrB a_P_Sign a_P_Digits a_Q_Sign a_Q_Digits ∧ Fr.FrB b_P_Sign b_P_Digits b_Q_Sign b_Q_Digits) : Int) fun n2 hn2 => ?_
  refine nm (Fr.rE (Fr.FrB a_P_Sign a_P_Digits a_Q_Sign a_Q_Digits ∧ Fr.FrB b_P_Sign b_P_Digits b_Q_Sign b_Q_Digits) (if (Fr.fq b_P_Sign b_P_Digits b_Q_Digits) < (Fr.fq a_P_Sign a_P_Digits a_Q_Digits) then (Fr.fq b_P_Sign b_P_Digits b_Q_Digits) else (Fr.fq a_P_Sign a_P_Digits a_Q_Digits)) : List Int) fun l2 hl2 => ?_
  have hl2n := congrArg List.length hl2
  refine nm (if Fr.FrB a_P_Sign a_P_Digits a_Q_Sign a_Q_Digits ∧ Fr.FrB b_P_Sign b_P_Digits b_Q_Sign b_Q_Digits then (0 : Int) else 1 : Int) fun n3 hn3 => ?_
  refine V.r [.ld 0 0 true (fun _ => Dat.cells (DFrac.mk (DBig.mk a_P_Sign ⟨a_P_Digits, a_P_Digitss⟩) (DBig.mk a_Q_Sign ⟨a_Q_Digits, a_Q_Digitss⟩))),.ld 1 0 true (fun _ => Dat.cells (DFrac.mk (DBig.mk b_P_Sign ⟨b_P_Digits, b_P_Digitss⟩) (DBig.mk b_Q_Sign ⟨b_Q_Digits, b_Q_Digitss⟩))),.ct g0 2 77 false [] [] [(kf false (.f 0) a_P_Digits (fun _ => a_P_Digitss)).a, (kf false (.f 1) a_Q_Digits (fun _ => a_Q_Digitss)).a, (kf false (.f 2) b_P_Digits (fun _ => b_P_Digitss)).a, (kf false (.f 3) b_Q_Digits (fun _ => b_Q_Digitss)).a] (fun _ G => fmin0_ctv a_P_Sign a_P_Digits a_P_Digitss a_Q_Sign a_Q_Digits a_Q_Digitss b_P_Sign b_P_Digits b_P_Digitss b_Q_Sign b_Q_Digits b_Q_Digitss (by omega) (by omega) (by omega) (by omega) n1 hn1 l1 hl1 n2 hn2 l2 hl2 n3 hn3),.v fun G => ag (DFrac.mk (DBig.mk n1 ⟨l1, (G 2).ss 0⟩) (DBig.mk n2 ⟨l2, (G 2).ss 1⟩)),.k (iv n3),.st 2 (fun G => .blk ((G1 2).b) (ca (DFrac.mk (DBig.mk n1 ⟨l1, (G 2).ss 0⟩) (DBig.mk n2 ⟨l2, (G 2).ss 1⟩))) 30),.k (iv n3)] fun _ _ G2 kw2 => ?_
  intro S_ s_
  obtain ⟨⟨kl5, -⟩, ⟨kl6, -⟩, -⟩ : Lq l1 (((G2 2).ss 0).v) ∧ Lq l2 (((G2 2).ss 1).v) ∧ True := kn kw2 (by kernel_rfl)
  clear kw2
  have e1 : l1 = Fr.rD (Fr.FrB a_P_Sign a_P_Digits a_Q_Sign a_Q_Digits ∧ Fr.FrB b_P_Sign b_P_Digits b_Q_Sign b_Q_Digits) (if (Fr.fq b_P_Sign b_P_Digits b_Q_Digits) < (Fr.fq a_P_Sign a_P_Digits a_Q_Digits) then (Fr.fq b_P_Sign b_P_Digits b_Q_Digits) else (Fr.fq a_P_Sign a_P_Digits a_Q_Digits)) := by rw [hl1]
  subst e1
  have e3 : l2 = Fr.rE (Fr.FrB a_P_Sign a_P_Digits a_Q_Sign a_Q_Digits ∧ Fr.FrB b_P_Sign b_P_Digits b_Q_Sign b_Q_Digits) (if (Fr.fq b_P_Sign b_P_Digits b_Q_Digits) < (Fr.fq a_P_Sign a_P_Digits a_Q_Digits) then (Fr.fq b_P_Sign b_P_Digits b_Q_Digits) else (Fr.fq a_P_Sign a_P_Digits a_Q_Digits)) := by rw [hl2]
  subst e3
  have e0 : n1 = Fr.rS (Fr.FrB a_P_Sign a_P_Digits a_Q_Sign a_Q_Digits ∧ Fr.FrB b_P_Sign b_P_Digits b_Q_Sign b_Q_Digits) (if (Fr.fq b_P_Sign b_P_Digits b_Q_Digits) < (Fr.fq a_P_Sign a_P_Digits a_Q_Digits) then (Fr.fq b_P_Sign b_P_Digits b_Q_Digits) else (Fr.fq a_P_Sign a_P_Digits a_Q_Digits)) := by rw [hn1]
  have e2 : n2 = Fr.rT (Fr.FrB a_P_Sign a_P_Digits a_Q_Sign a_Q_Digits ∧ Fr.FrB b_P_Sign b_P_Digits b_Q_Sign b_Q_Digits) := by rw [hn2]
  have e4 : n3 = if Fr.FrB a_P_Sign a_P_Digits a_Q_Sign a_Q_Digits ∧ Fr.FrB b_P_Sign b_P_Digits b_Q_Sign b_Q_Digits then (0 : Int) else 1 := by rw [hn3]
  exact V.ret [2, 0] [(G2 2).ss 0, (G2 2).ss 1] [fun _ => {}, fun _ => {}] [] [4, 5] [] (.tuple #[ag (DFrac.mk (DBig.mk n1 ⟨(Fr.rD (Fr.FrB a_P_Sign a_P_Digits a_Q_Sign a_Q_Digits ∧ Fr.FrB b_P_Sign b_P_Digits b_Q_Sign b_Q_Digits) (if (Fr.fq b_P_Sign b_P_Digits b_Q_Digits) < (Fr.fq a_P_Sign a_P_Digits a_Q_Digits) then (Fr.fq b_P_Sign b_P_Digits b_Q_Digits) else (Fr.fq a_P_Sign a_P_Digits a_Q_Digits))), (G2 2).ss 0⟩) (DBig.mk n2 ⟨(Fr.rE (Fr.FrB a_P_Sign a_P_Digits a_Q_Sign a_Q_Digits ∧ Fr.FrB b_P_Sign b_P_Digits b_Q_Sign b_Q_Digits) (if (Fr.fq b_P_Sign b_P_Digits b_Q_Digits) < (Fr.fq a_P_Sign a_P_Digits a_Q_Digits) then (Fr.fq b_P_Sign b_P_Digits b_Q_Digits) else (Fr.fq a_P_Sign a_P_Digits a_Q_Digits))), (G2 2).ss 1⟩)), iv n3]) (fun _ _ => by kernel_rfl) (fun _ _ => (Eq.trans (by kernel_rfl) (cong3 (fun (x0 : Int) (x2 : Int) (x4 : Int) => (.tuple #[.agg #[iv x0, ((G2 2).ss 0).v, iv x2, ((G2 2).ss 1).v], iv x4] : Value)) e0 e2 e4)).trans (by kernel_rfl)) (fun _ _ => trivial)
theorem fmin_ctv (a_P_Sign : Int) (a_P_Digits : List Int) (a_P_Digitss : SV) (a_Q_Sign : Int) (a_Q_Digits : List Int) (a_Q_Digitss : SV) (b_P_Sign : Int) (b_P_Digits : List Int) (b_P_Digitss : SV) (b_Q_Sign : Int) (b_Q_Digits : List Int) (b_Q_Digitss : SV) (haP : a_P_Digits.length ≤ 17179869184) (haQ : a_Q_Digits.length ≤ 17179869184) (hbP : b_P_Digits.length ≤ 17179869184) (hbQ : b_Q_Digits.length ≤ 17179869184) (rv0 : Int) (erv0 : rv0 = Fr.rS (Fr.FrB a_P_Sign a_P_Digits a_Q_Sign a_Q_Digits ∧ Fr.FrB b_P_Sign b_P_Digits b_Q_Sign b_Q_Digits) (if (Fr.fq b_P_Sign b_P_Digits b_Q_Digits) < (Fr.fq a_P_Sign a_P_Digits a_Q_Digits) then (Fr.fq b_P_Sign b_P_Digits b_Q_Digits) else (Fr.fq a_P_Sign a_P_Digits a_Q_Digits))) (rv1 : List Int) (erv1 : rv1 = Fr.rD (Fr.FrB a_P_Sign a_P_Digits a_Q_Sign a_Q_Digits ∧ Fr.FrB b_P_Sign b_P_Digits b_Q_Sign b_Q_Digits) (if (Fr.fq b_P_Sign b_P_Digits b_Q_Digits) < (Fr.fq a_P_Sign a_P_Digits a_Q_Digits) then (Fr.fq b_P_Sign b_P_Digits b_Q_Digits) else (Fr.fq a_P_Sign a_P_Digits a_Q_Digits))) (rv2 : Int) (erv2 : rv2 = Fr.rT (Fr.FrB a_P_Sign a_P_Digits a_Q_Sign a_Q_Digits ∧ Fr.FrB b_P_Sign b_P_Digits b_Q_Sign b_Q_Digits)) (rv3 : List Int) (erv3 : rv3 = Fr.rE (Fr.FrB a_P_Sign a_P_Digits a_Q_Sign a_Q_Digits ∧ Fr.FrB b_P_Sign b_P_Digits b_Q_Sign b_Q_Digits) (if (Fr.fq b_P_Sign b_P_Digits b_Q_Digits) < (Fr.fq a_P_Sign a_P_Digits a_Q_Digits) then (Fr.fq b_P_Sign b_P_Digits b_Q_Digits) else (Fr.fq a_P_Sign a_P_Digits a_Q_Digits))) (rv4 : Int) (erv4 : rv4 = if Fr.FrB a_P_Sign a_P_Digits a_Q_Sign a_Q_Digits ∧ Fr.FrB b_P_Sign b_P_Digits b_Q_Sign b_Q_Digits then (0 : Int) else 1) :
    Ct Try.prog 41 #[ag (DFrac.mk (DBig.mk a_P_Sign ⟨a_P_Digits, a_P_Digitss⟩) (DBig.mk a_Q_Sign ⟨a_Q_Digits, a_Q_Digitss⟩)), ag (DFrac.mk (DBig.mk b_P_Sign ⟨b_P_Digits, b_P_Digitss⟩) (DBig.mk b_Q_Sign ⟨b_Q_Digits, b_Q_Digitss⟩))] [fs true a_P_Digits a_P_Digitss, fs true a_Q_Digits a_Q_Digitss, fs true b_P_Digits b_P_Digitss, fs true b_Q_Digits b_Q_Digitss] [] (fun g => .tuple #[ag (DFrac.mk (DBig.mk rv0 ⟨rv1, (g.ss 0)⟩) (DBig.mk rv2 ⟨rv3, (g.ss 1)⟩)), iv rv4]) (fun g => [fs true rv1 (g.ss 0), fs true rv3 (g.ss 1)]) (fun g => []) (fun g => []) := by
  subst erv0 erv1 erv2 erv3 erv4; exact fmin_ct a_P_Sign a_P_Digits a_P_Digitss a_Q_Sign a_Q_Digits a_Q_Digitss b_P_Sign b_P_Digits b_P_Digitss b_Q_Sign b_Q_Digits b_Q_Digitss haP haQ hbP hbQ
set_option maxRecDepth 10000 in
theorem fmax_ct (a_P_Sign : Int) (a_P_Digits : List Int) (a_P_Digitss : SV) (a_Q_Sign : Int) (a_Q_Digits : List Int) (a_Q_Digitss : SV) (b_P_Sign : Int) (b_P_Digits : List Int) (b_P_Digitss : SV) (b_Q_Sign : Int) (b_Q_Digits : List Int) (b_Q_Digitss : SV) (haP : a_P_Digits.length ≤ 17179869184) (haQ : a_Q_Digits.length ≤ 17179869184) (hbP : b_P_Digits.length ≤ 17179869184) (hbQ : b_Q_Digits.length ≤ 17179869184) :
    Ct Try.prog 42 #[ag (DFrac.mk (DBig.mk a_P_Sign ⟨a_P_Digits, a_P_Digitss⟩) (DBig.mk a_Q_Sign ⟨a_Q_Digits, a_Q_Digitss⟩)), ag (DFrac.mk (DBig.mk b_P_Sign ⟨b_P_Digits, b_P_Digitss⟩) (DBig.mk b_Q_Sign ⟨b_Q_Digits, b_Q_Digitss⟩))] [fs true a_P_Digits a_P_Digitss, fs true a_Q_Digits a_Q_Digitss, fs true b_P_Digits b_P_Digitss, fs true b_Q_Digits b_Q_Digitss] [] (fun g => .tuple #[ag (DFrac.mk (DBig.mk (Fr.rS (Fr.FrB a_P_Sign a_P_Digits a_Q_Sign a_Q_Digits ∧ Fr.FrB b_P_Sign b_P_Digits b_Q_Sign b_Q_Digits) (if (Fr.fq a_P_Sign a_P_Digits a_Q_Digits) < (Fr.fq b_P_Sign b_P_Digits b_Q_Digits) then (Fr.fq b_P_Sign b_P_Digits b_Q_Digits) else (Fr.fq a_P_Sign a_P_Digits a_Q_Digits))) ⟨Fr.rD (Fr.FrB a_P_Sign a_P_Digits a_Q_Sign a_Q_Digits ∧ Fr.FrB b_P_Sign b_P_Digits b_Q_Sign b_Q_Digits) (if (Fr.fq a_P_Sign a_P_Digits a_Q_Digits) < (Fr.fq b_P_Sign b_P_Digits b_Q_Digits) then (Fr.fq b_P_Sign b_P_Digits b_Q_Digits) else (Fr.fq a_P_Sign a_P_Digits a_Q_Digits)), (g.ss 0)⟩) (DBig.mk (Fr.rT (Fr.FrB a_P_Sign a_P_Digits a_Q_Sign a_Q_Digits ∧ Fr.FrB b_P_Sign b_P_Digits b_Q_Sign b_Q_Digits)) ⟨Fr.rE (Fr.FrB a_P_Sign a_P_Digits a_Q_Sign a_Q_Digits ∧ Fr.FrB b_P_Sign b_P_Digits b_Q_Sign b_Q_Digits) (if (Fr.fq a_P_Sign a_P_Digits a_Q_Digits) < (Fr.fq b_P_Sign b_P_Digits b_Q_Digits) then (Fr.fq b_P_Sign b_P_Digits b_Q_Digits) else (Fr.fq a_P_Sign a_P_Digits a_Q_Digits)), (g.ss 1)⟩)), iv (if Fr.FrB a_P_Sign a_P_Digits a_Q_Sign a_Q_Digits ∧ Fr.FrB b_P_Sign b_P_Digits b_Q_Sign b_Q_Digits then (0 : Int) else 1)]) (fun g => [fs true (Fr.rD (Fr.FrB a_P_Sign a_P_Digits a_Q_Sign a_Q_Digits ∧ Fr.FrB b_P_Sign b_P_Digits b_Q_Sign b_Q_Digits) (if (Fr.fq a_P_Sign a_P_Digits a_Q_Digits) < (Fr.fq b_P_Sign b_P_Digits b_Q_Digits) then (Fr.fq b_P_Sign b_P_Digits b_Q_Digits) else (Fr.fq a_P_Sign a_P_Digits a_Q_Digits))) (g.ss 0), fs true (Fr.rE (Fr.FrB a_P_Sign a_P_Digits a_Q_Sign a_Q_Digits ∧ Fr.FrB b_P_Sign b_P_Digits b_Q_Sign b_Q_Digits) (if (Fr.fq a_P_Sign a_P_Digits a_Q_Digits) < (Fr.fq b_P_Sign b_P_Digits b_Q_Digits) then (Fr.fq b_P_Sign b_P_Digits b_Q_Digits) else (Fr.fq a_P_Sign a_P_Digits a_Q_Digits))) (g.ss 1)]) (fun g => []) (fun g => []) := by
  refine V.fn mo Try.func42 11 3 (by kernel_rfl) fun w H ε k0 => ?_
  obtain ⟨⟨kl1, -⟩, ⟨kl2, -⟩, ⟨kl3, -⟩, ⟨kl4, -⟩, -⟩ : Lq a_P_Digits a_P_Digitss.v ∧ Lq a_Q_Digits a_Q_Digitss.v ∧ Lq b_P_Digits b_P_Digitss.v ∧ Lq b_Q_Digits b_Q_Digitss.v ∧ True := kn k0 (by kernel_rfl)
  clear k0
  refine V.g [.nb 0 0 (fun b => pp b 0) 30 (fun _ => ca (DFrac.mk (DBig.mk a_P_Sign ⟨a_P_Digits, a_P_Digitss⟩) (DBig.mk a_Q_Sign ⟨a_Q_Digits, a_Q_Digitss⟩))),.nb 1 1 (fun b => pp b 0) 30 (fun _ => ca (DFrac.mk (DBig.mk b_P_Sign ⟨b_P_Digits, b_P_Digitss⟩) (DBig.mk b_Q_Sign ⟨b_Q_Digits, b_Q_Digitss⟩))),.nb 2 2 (fun b => pp b 0) 30 (fun _ => ca (DFrac.mk (DBig.mk 0 ⟨[], {}⟩) (DBig.mk 0 ⟨[], {}⟩))),.k (iv 0)] fun _ _ G1 => ?_
  intro S_ s_
  refine nm (Fr.rS (Fr.FrB a_P_Sign a_P_Digits a_Q_Sign a_Q_Digits ∧ Fr.FrB b_P_Sign b_P_Digits b_Q_Sign b_Q_Digits) (if (Fr.fq a_P_Sign a_P_Digits a_Q_Digits) < (Fr.fq b_P_Sign b_P_Digits b_Q_Digits) then (Fr.fq b_P_Sign b_P_Digits b_Q_Digits) else (Fr.fq a_P_Sign a_P_Digits a_Q_Digits)) : Int) fun n1 hn1 => ?_
  refine nm (Fr.rD (Fr.FrB a_P_Sign a_P_Digits a_Q_Sign a_Q_Digits ∧ Fr.FrB b_P_Sign b_P_Digits b_Q_Sign b_Q_Digits) (if (Fr.fq a_P_Sign a_P_Digits a_Q_Digits) < (Fr.fq b_P_Sign b_P_Digits b_Q_Digits) then (Fr.fq b_P_Sign b_P_Digits b_Q_Digits) else (Fr.fq a_P_Sign a_P_Digits a_Q_Digits)) : List Int) fun l1 hl1 => ?_
  have hl1n := congrArg List.length hl1
  refine nm (Fr.rT (Fr.FrB a_P_Sign a_P_Digits a_Q_Sign a_Q_Digits ∧ Fr.FrB b_P_Sign b_P_Digits b_Q_Sign b_Q_Digits) : Int) fun n2 hn2 => ?_
  refine nm (Fr.rE (Fr.FrB a_P_Sign a_P_Digits a_Q_Sign a_Q_Digits ∧ Fr.FrB b_P_Sign b_P_Digits b_Q_Sign b_Q_Digits) (if (Fr.fq a_P_Sign a_P_Digits a_Q_Digits) < (Fr.fq b_P_Sign b_P_Digits b_Q_Digits) then (Fr.fq b_P_Sign b_P_Digits b_Q_Digits) else (Fr.fq a_P_Sign a_P_Digits a_Q_Digits)) : List Int) fun l2 hl2 => ?_
  have hl2n := congrArg List.length hl2
  refine nm (if Fr.FrB a_P_Sign a_P_Digits a_Q_Sign a_Q_Digits ∧ Fr.FrB b_P_Sign b_P_Digits b_Q_Sign b_Q_Digits then (0 : Int) else 1 : Int) fun n3 hn3 => ?_
  refine V.r [.ld 0 0 true (fun _ => Dat.cells (DFrac.mk (DBig.mk a_P_Sign ⟨a_P_Digits, a_P_Digitss⟩) (DBig.mk a_Q_Sign ⟨a_Q_Digits, a_Q_Digitss⟩))),.ld 1 0 true (fun _ => Dat.cells (DFrac.mk (DBig.mk b_P_Sign ⟨b_P_Digits, b_P_Digitss⟩) (DBig.mk b_Q_Sign ⟨b_Q_Digits, b_Q_Digitss⟩))),.ct g0 2 77 false [] [] [(kf false (.f 0) a_P_Digits (fun _ => a_P_Digitss)).a, (kf false (.f 1) a_Q_Digits (fun _ => a_Q_Digitss)).a, (kf false (.f 2) b_P_Digits (fun _ => b_P_Digitss)).a, (kf false (.f 3) b_Q_Digits (fun _ => b_Q_Digitss)).a] (fun _ G => fmax0_ctv a_P_Sign a_P_Digits a_P_Digitss a_Q_Sign a_Q_Digits a_Q_Digitss b_P_Sign b_P_Digits b_P_Digitss b_Q_Sign b_Q_Digits b_Q_Digitss (by omega) (by omega) (by omega) (by omega) n1 hn1 l1 hl1 n2 hn2 l2 hl2 n3 hn3),.v fun G => ag (DFrac.mk (DBig.mk n1 ⟨l1, (G 2).ss 0⟩) (DBig.mk n2 ⟨l2, (G 2).ss 1⟩)),.k (iv n3),.st 2 (fun G => .blk ((G1 2).b) (ca (DFrac.mk (DBig.mk n1 ⟨l1, (G 2).ss 0⟩) (DBig.mk n2 ⟨l2, (G 2).ss 1⟩))) 30),.k (iv n3)] fun _ _ G2 kw2 => ?_
  intro S_ s_
  obtain ⟨⟨kl5, -⟩, ⟨kl6, -⟩, -⟩ : Lq l1 (((G2 2).ss 0).v) ∧ Lq l2 (((G2 2).ss 1).v) ∧ True := kn kw2 (by kernel_rfl)
  clear kw2
  have e1 : l1 = Fr.rD (Fr.FrB a_P_Sign a_P_Digits a_Q_Sign a_Q_Digits ∧ Fr.FrB b_P_Sign b_P_Digits b_Q_Sign b_Q_Digits) (if (Fr.fq a_P_Sign a_P_Digits a_Q_Digits) < (Fr.fq b_P_Sign b_P_Digits b_Q_Digits) then (Fr.fq b_P_Sign b_P_Digits b_Q_Digits) else (Fr.fq a_P_Sign a_P_Digits a_Q_Digits)) := by rw [hl1]
  subst e1
  have e3 : l2 = Fr.rE (Fr.FrB a_P_Sign a_P_Digits a_Q_Sign a_Q_Digits ∧ Fr.FrB b_P_Sign b_P_Digits b_Q_Sign b_Q_Digits) (if (Fr.fq a_P_Sign a_P_Digits a_Q_Digits) < (Fr.fq b_P_Sign b_P_Digits b_Q_Digits) then (Fr.fq b_P_Sign b_P_Digits b_Q_Digits) else (Fr.fq a_P_Sign a_P_Digits a_Q_Digits)) := by rw [hl2]
  subst e3
  have e0 : n1 = Fr.rS (Fr.FrB a_P_Sign a_P_Digits a_Q_Sign a_Q_Digits ∧ Fr.FrB b_P_Sign b_P_Digits b_Q_Sign b_Q_Digits) (if (Fr.fq a_P_Sign a_P_Digits a_Q_Digits) < (Fr.fq b_P_Sign b_P_Digits b_Q_Digits) then (Fr.fq b_P_Sign b_P_Digits b_Q_Digits) else (Fr.fq a_P_Sign a_P_Digits a_Q_Digits)) := by rw [hn1]
  have e2 : n2 = Fr.rT (Fr.FrB a_P_Sign a_P_Digits a_Q_Sign a_Q_Digits ∧ Fr.FrB b_P_Sign b_P_Digits b_Q_Sign b_Q_Digits) := by rw [hn2]
  have e4 : n3 = if Fr.FrB a_P_Sign a_P_Digits a_Q_Sign a_Q_Digits ∧ Fr.FrB b_P_Sign b_P_Digits b_Q_Sign b_Q_Digits then (0 : Int) else 1 := by rw [hn3]
  exact V.ret [2, 0] [(G2 2).ss 0, (G2 2).ss 1] [fun _ => {}, fun _ => {}] [] [4, 5] [] (.tuple #[ag (DFrac.mk (DBig.mk n1 ⟨(Fr.rD (Fr.FrB a_P_Sign a_P_Digits a_Q_Sign a_Q_Digits ∧ Fr.FrB b_P_Sign b_P_Digits b_Q_Sign b_Q_Digits) (if (Fr.fq a_P_Sign a_P_Digits a_Q_Digits) < (Fr.fq b_P_Sign b_P_Digits b_Q_Digits) then (Fr.fq b_P_Sign b_P_Digits b_Q_Digits) else (Fr.fq a_P_Sign a_P_Digits a_Q_Digits))), (G2 2).ss 0⟩) (DBig.mk n2 ⟨(Fr.rE (Fr.FrB a_P_Sign a_P_Digits a_Q_Sign a_Q_Digits ∧ Fr.FrB b_P_Sign b_P_Digits b_Q_Sign b_Q_Digits) (if (Fr.fq a_P_Sign a_P_Digits a_Q_Digits) < (Fr.fq b_P_Sign b_P_Digits b_Q_Digits) then (Fr.fq b_P_Sign b_P_Digits b_Q_Digits) else (Fr.fq a_P_Sign a_P_Digits a_Q_Digits))), (G2 2).ss 1⟩)), iv n3]) (fun _ _ => by kernel_rfl) (fun _ _ => (Eq.trans (by kernel_rfl) (cong3 (fun (x0 : Int) (x2 : Int) (x4 : Int) => (.tuple #[.agg #[iv x0, ((G2 2).ss 0).v, iv x2, ((G2 2).ss 1).v], iv x4] : Value)) e0 e2 e4)).trans (by kernel_rfl)) (fun _ _ => trivial)
theorem fmax_ctv (a_P_Sign : Int) (a_P_Digits : List Int) (a_P_Digitss : SV) (a_Q_Sign : Int) (a_Q_Digits : List Int) (a_Q_Digitss : SV) (b_P_Sign : Int) (b_P_Digits : List Int) (b_P_Digitss : SV) (b_Q_Sign : Int) (b_Q_Digits : List Int) (b_Q_Digitss : SV) (haP : a_P_Digits.length ≤ 17179869184) (haQ : a_Q_Digits.length ≤ 17179869184) (hbP : b_P_Digits.length ≤ 17179869184) (hbQ : b_Q_Digits.length ≤ 17179869184) (rv0 : Int) (erv0 : rv0 = Fr.rS (Fr.FrB a_P_Sign a_P_Digits a_Q_Sign a_Q_Digits ∧ Fr.FrB b_P_Sign b_P_Digits b_Q_Sign b_Q_Digits) (if (Fr.fq a_P_Sign a_P_Digits a_Q_Digits) < (Fr.fq b_P_Sign b_P_Digits b_Q_Digits) then (Fr.fq b_P_Sign b_P_Digits b_Q_Digits) else (Fr.fq a_P_Sign a_P_Digits a_Q_Digits))) (rv1 : List Int) (erv1 : rv1 = Fr.rD (Fr.FrB a_P_Sign a_P_Digits a_Q_Sign a_Q_Digits ∧ Fr.FrB b_P_Sign b_P_Digits b_Q_Sign b_Q_Digits) (if (Fr.fq a_P_Sign a_P_Digits a_Q_Digits) < (Fr.fq b_P_Sign b_P_Digits b_Q_Digits) then (Fr.fq b_P_Sign b_P_Digits b_Q_Digits) else (Fr.fq a_P_Sign a_P_Digits a_Q_Digits))) (rv2 : Int) (erv2 : rv2 = Fr.rT (Fr.FrB a_P_Sign a_P_Digits a_Q_Sign a_Q_Digits ∧ Fr.FrB b_P_Sign b_P_Digits b_Q_Sign b_Q_Digits)) (rv3 : List Int) (erv3 : rv3 = Fr.rE (Fr.FrB a_P_Sign a_P_Digits a_Q_Sign a_Q_Digits ∧ Fr.FrB b_P_Sign b_P_Digits b_Q_Sign b_Q_Digits) (if (Fr.fq a_P_Sign a_P_Digits a_Q_Digits) < (Fr.fq b_P_Sign b_P_Digits b_Q_Digits) then (Fr.fq b_P_Sign b_P_Digits b_Q_Digits) else (Fr.fq a_P_Sign a_P_Digits a_Q_Digits))) (rv4 : Int) (erv4 : rv4 = if Fr.FrB a_P_Sign a_P_Digits a_Q_Sign a_Q_Digits ∧ Fr.FrB b_P_Sign b_P_Digits b_Q_Sign b_Q_Digits then (0 : Int) else 1) :
    Ct Try.prog 42 #[ag (DFrac.mk (DBig.mk a_P_Sign ⟨a_P_Digits, a_P_Digitss⟩) (DBig.mk a_Q_Sign ⟨a_Q_Digits, a_Q_Digitss⟩)), ag (DFrac.mk (DBig.mk b_P_Sign ⟨b_P_Digits, b_P_Digitss⟩) (DBig.mk b_Q_Sign ⟨b_Q_Digits, b_Q_Digitss⟩))] [fs true a_P_Digits a_P_Digitss, fs true a_Q_Digits a_Q_Digitss, fs true b_P_Digits b_P_Digitss, fs true b_Q_Digits b_Q_Digitss] [] (fun g => .tuple #[ag (DFrac.mk (DBig.mk rv0 ⟨rv1, (g.ss 0)⟩) (DBig.mk rv2 ⟨rv3, (g.ss 1)⟩)), iv rv4]) (fun g => [fs true rv1 (g.ss 0), fs true rv3 (g.ss 1)]) (fun g => []) (fun g => []) := by
  subst erv0 erv1 erv2 erv3 erv4; exact fmax_ct a_P_Sign a_P_Digits a_P_Digitss a_Q_Sign a_Q_Digits a_Q_Digitss b_P_Sign b_P_Digits b_P_Digitss b_Q_Sign b_Q_Digits b_Q_Digitss haP haQ hbP hbQ

open Go Go.Proofs
set_option maxRecDepth 10000 in
set_option maxHeartbeats 4000000 in
theorem ltline_ct (t_Name t_Unit : ByteArray) (t_Rows : List DRow) (t_Rowss : SV) (i key_P_Sign : Int) (key_P_Digits : List Int) (key_P_Digitss : SV) (key_Q_Sign : Int) (key_Q_Digits : List Int) (key_Q_Digitss : SV) :
    Cp Try.prog 10 #[ag (DTable.mk t_Name t_Unit ⟨t_Rows, t_Rowss⟩), iv i, ag (DFrac.mk (DBig.mk key_P_Sign ⟨key_P_Digits, key_P_Digitss⟩) (DBig.mk key_Q_Sign ⟨key_Q_Digits, key_Q_Digitss⟩))] [fs true t_Rows t_Rowss, fs true key_P_Digits key_P_Digitss, fs true key_Q_Digits key_Q_Digitss] (bv true) := by
  refine V.fn mo Try.func10 188 15 (by kernel_rfl) fun w H ε k0 => ?_
  obtain ⟨⟨kl1, -⟩, ⟨kl2, -⟩, ⟨kl3, -⟩, -⟩ : Lq t_Rows t_Rowss.v ∧ Lq key_P_Digits key_P_Digitss.v ∧ Lq key_Q_Digits key_Q_Digitss.v ∧ True := kn k0 (by kernel_rfl)
  clear k0
  refine V.g [.nb 0 0 (fun b => pp b 0) 55 (fun _ => ca (DTable.mk t_Name t_Unit ⟨t_Rows, t_Rowss⟩)),.nb 1 1 (fun b => pp b 0) 30 (fun _ => ca (DFrac.mk (DBig.mk key_P_Sign ⟨key_P_Digits, key_P_Digitss⟩) (DBig.mk key_Q_Sign ⟨key_Q_Digits, key_Q_Digitss⟩))),.kb false] fun _ _ G1 => ?_
  intro S_ s_
  refine V.g [.cp g0 0 27 [] (fun _ G => small_ct ),.kb true] fun _ _ G2 => ?_
  intro S_ s_
  refine nm ((!(decide (((((t_Rows.length : Int) ≤ 110 ∧ (t_Name.size : Int) ≤ 40 ∧ (ByteArray.size t_Unit : Int) ≤ 40) ∧ Tb.RtT t_Name t_Unit t_Rows) ∧ 0 ≤ i) ∧ i < (t_Rows.length : Int)))) || (!(decide ((key_P_Digits.length : Int) ≤ (5 : Int) ∧ (key_Q_Digits.length : Int) ≤ (5 : Int)))) : Bool) fun p1 hp1 => ?_
  refine V.g [.ld 0 0 true (fun _ => Dat.cells (DTable.mk t_Name t_Unit ⟨t_Rows, t_Rowss⟩)),.k (iv i),.cp g0 2 28 [(kf false (.f 0) t_Rows (fun _ => t_Rowss)).a] (fun _ G => rrow_ct t_Name t_Unit t_Rows t_Rowss i),.k (bv (!(decide (((((t_Rows.length : Int) ≤ 110 ∧ (t_Name.size : Int) ≤ 40 ∧ (ByteArray.size t_Unit : Int) ≤ 40) ∧ Tb.RtT t_Name t_Unit t_Rows) ∧ 0 ≤ i) ∧ i < (t_Rows.length : Int))))),.k (bv (!(decide (((((t_Rows.length : Int) ≤ 110 ∧ (t_Name.size : Int) ≤ 40 ∧ (ByteArray.size t_Unit : Int) ≤ 40) ∧ Tb.RtT t_Name t_Unit t_Rows) ∧ 0 ≤ i) ∧ i < (t_Rows.length : Int))))),.ld 1 0 true (fun _ => Dat.cells (DFrac.mk (DBig.mk key_P_Sign ⟨key_P_Digits, key_P_Digitss⟩) (DBig.mk key_Q_Sign ⟨key_Q_Digits, key_Q_Digitss⟩))),.cp (gF (b := !(decide (((((t_Rows.length : Int) ≤ 110 ∧ (t_Name.size : Int) ≤ 40 ∧ (ByteArray.size t_Unit : Int) ≤ 40) ∧ Tb.RtT t_Name t_Unit t_Rows) ∧ 0 ≤ i) ∧ i < (t_Rows.length : Int)))) (iNF iDT)) 6 22 [(kf false (.f 1) key_P_Digits (fun _ => key_P_Digitss)).a, (kf false (.f 2) key_Q_Digits (fun _ => key_Q_Digitss)).a] (fun hg G => few5_ct key_P_Sign key_P_Digits key_P_Digitss key_Q_Sign key_Q_Digits key_Q_Digitss (5 : Int)),.k (bv (!(decide ((key_P_Digits.length : Int) ≤ (5 : Int) ∧ (key_Q_Digits.length : Int) ≤ (5 : Int))))),.orn g0 false (!(decide (((((t_Rows.length : Int) ≤ 110 ∧ (t_Name.size : Int) ≤ 40 ∧ (ByteArray.size t_Unit : Int) ≤ 40) ∧ Tb.RtT t_Name t_Unit t_Rows) ∧ 0 ≤ i) ∧ i < (t_Rows.length : Int)))) (!(decide ((key_P_Digits.length : Int) ≤ (5 : Int) ∧ (key_Q_Digits.length : Int) ≤ (5 : Int)))) p1 hp1] fun _ _ G3 => ?_
  intro S_ s_
  refine V.cond (b := p1) (iN hp1 (iOT (iNT iDF) (iNT iDF))) (iN hp1 (iOF (iNF iDT) (iNF iDT))) (by kernel_rfl) (fun q1 => ?_) (fun q2 => ?_)
  · refine V.g [.kb true,.kb true] fun _ _ G4 => ?_
    intro S_ s_
    exact V.ret [0] [] [] [] [] [] (bv true) (fun _ _ => by kernel_rfl) (fun _ _ => by kernel_rfl) (fun _ _ => trivial)
  obtain ⟨hRR, hfk⟩ := q2
  obtain ⟨⟨⟨hfw, hR⟩, hi0⟩, hil⟩ := hRR
  have hso := hR.so; have hxl := hso.2.1; have hu := hR.1.1.1
  refine nm (t_Rows.getD i.toNat default : DRow) fun x1 hx1 => ?_
  refine nm (Bg.sgn x1.Key : Int) fun n1 hn1 => ?_
  refine nm (Bg.dig x1.Key.natAbs : List Int) fun l1 hl1 => ?_
  have hl1n := congrArg List.length hl1
  refine nm (Bg.dig 1 : List Int) fun l2 hl2 => ?_
  have hl2n := congrArg List.length hl2
  have hk_f : Tb.ky t_Rows (i.toNat) = x1.Key := by rw [hx1]; rfl
  have hr_f := (hso.2.2 (i.toNat) (by omega)).1
  rw [hk_f] at hr_f; unfold Tb.inR at hr_f
  have zf : Fr.Fz n1 l1 1 l2 (Tb.ky t_Rows (i.toNat) : Rat) := by rw [hk_f]; subst_vars; exact Un.intz _
  have hl_f := zf.len (Fr.Hb.int (n := Tb.ky t_Rows (i.toNat)) (by omega)); have hl1_f := hl_f.1; have hl2_f := hl_f.2
  refine V.r [.k (pp ((G1 0).b) 2),.ld 0 2 false (fun _ => [t_Rowss.v]),.k (iv i),.ix g0 (kf false (.f 0) t_Rows (fun _ => t_Rowss)) i (fun _ => ⟨by omega, by omega⟩),.k (.pointer (some ((elemAddr t_Rowss.v (i.toNat * 2)).add 0))),.le g0 (kf false (.f 0) t_Rows (fun _ => t_Rowss)) i (some 0) false x1 hx1 (fun _ => ⟨by omega, by omega⟩) false (fun _ => [iv x1.Key]),.ct g0 6 16 false [] [] [] (fun _ G => r5int_ctv x1.Key (by omega) n1 hn1 l1 hl1 l2 hl2),.nb 7 2 (fun b => pp b 0) 30 (fun _ => ca (DFrac.mk (DBig.mk 0 ⟨[], {}⟩) (DBig.mk 0 ⟨[], {}⟩))),.st 2 (fun G => .blk ((G 7).b) (ca (DFrac.mk (DBig.mk n1 ⟨l1, (G 6).ss 0⟩) (DBig.mk 1 ⟨l2, (G 6).ss 1⟩))) 30)] fun _ _ G5 kw5 => ?_
  intro S_ s_
  obtain ⟨⟨kl4, -⟩, ⟨kl5, -⟩, -⟩ : Lq l1 (((G5 6).ss 0).v) ∧ Lq l2 (((G5 6).ss 1).v) ∧ True := kn kw5 (by kernel_rfl)
  clear kw5
  refine nm (Fr.rS ((Tb.RtT t_Name t_Unit t_Rows ∧ Fr.FrB n1 l1 (1 : Int) l2) ∧ (Tb.lin t_Unit t_Rows (Fr.fq n1 l1 l2)).isSome = true) ((Tb.lin t_Unit t_Rows (Fr.fq n1 l1 l2)).getD 0) : Int) fun n2 hn2 => ?_
  refine nm (Fr.rD ((Tb.RtT t_Name t_Unit t_Rows ∧ Fr.FrB n1 l1 (1 : Int) l2) ∧ (Tb.lin t_Unit t_Rows (Fr.fq n1 l1 l2)).isSome = true) ((Tb.lin t_Unit t_Rows (Fr.fq n1 l1 l2)).getD 0) : List Int) fun l3 hl3 => ?_
  have hl3n := congrArg List.length hl3
  refine nm (Fr.rT ((Tb.RtT t_Name t_Unit t_Rows ∧ Fr.FrB n1 l1 (1 : Int) l2) ∧ (Tb.lin t_Unit t_Rows (Fr.fq n1 l1 l2)).isSome = true) : Int) fun n3 hn3 => ?_
  refine nm (Fr.rE ((Tb.RtT t_Name t_Unit t_Rows ∧ Fr.FrB n1 l1 (1 : Int) l2) ∧ (Tb.lin t_Unit t_Rows (Fr.fq n1 l1 l2)).isSome = true) ((Tb.lin t_Unit t_Rows (Fr.fq n1 l1 l2)).getD 0) : List Int) fun l4 hl4 => ?_
  have hl4n := congrArg List.length hl4
  refine nm (if ¬ (Tb.RtT t_Name t_Unit t_Rows ∧ Fr.FrB n1 l1 (1 : Int) l2) then (1 : Int) else if (Tb.lin t_Unit t_Rows (Fr.fq n1 l1 l2)).isSome = true then 0 else 4 : Int) fun n4 hn4 => ?_
  have hL_zc : Tb.lin t_Unit t_Rows (Fr.fq n1 l1 l2) = some (Tb.wv t_Unit t_Rows i.toNat) := by rw [zf.v]; exact Tb.lin_key hso (by omega)
  have hp_zc := And.intro hR zf.rt
  have zc := Fr.Fz.of (And.intro hp_zc (show (Tb.lin t_Unit t_Rows (Fr.fq n1 l1 l2)).isSome = true by rw [hL_zc]; rfl)) hn2 hl3 hn3 hl4
  rw [hL_zc] at zc
  have zc : Fr.Fz n2 l3 n3 l4 (Tb.wv t_Unit t_Rows i.toNat) := zc
  have e_zc : n4 = 0 := by rw [hn4, if_neg (fun h => h hp_zc), hL_zc]; rfl
  have hv_zc := (hso.2.2 (i.toNat) (by omega)).2
  unfold Tb.inR at hv_zc
  have hl_zc := zc.len (Tb.worth_hb hu (n := Tb.vl t_Rows (i.toNat)) (by omega)); have hl1_zc := hl_zc.1; have hl2_zc := hl_zc.2
  refine V.r [.ld 0 0 true (fun _ => Dat.cells (DTable.mk t_Name t_Unit ⟨t_Rows, t_Rowss⟩)),.ld 2 0 true (fun _ => Dat.cells (DFrac.mk (DBig.mk n1 ⟨l1, (G5 6).ss 0⟩) (DBig.mk 1 ⟨l2, (G5 6).ss 1⟩))),.ct g0 2 35 false [] [] [(kf false (.f 0) t_Rows (fun _ => t_Rowss)).a, (kf true (.f 3) l1 (fun _ => (G5 6).ss 0)).a, (kf true (.f 4) l2 (fun _ => (G5 6).ss 1)).a] (fun _ G => tline_ctv t_Name t_Unit t_Rows t_Rowss n1 l1 ((G5 6).ss 0) (1 : Int) l2 ((G5 6).ss 1) (by omega) (by omega) (by omega) (by omega) n2 hn2 l3 hl3 n3 hn3 l4 hl4 n4 hn4),.v fun G => .tuple #[ag (DFrac.mk (DBig.mk n2 ⟨l3, (G 2).ss 0⟩) (DBig.mk n3 ⟨l4, (G 2).ss 1⟩)), iv n4],.v fun G => ag (DFrac.mk (DBig.mk n2 ⟨l3, (G 2).ss 0⟩) (DBig.mk n3 ⟨l4, (G 2).ss 1⟩)),.k (iv n4),.nb 6 3 (fun b => pp b 0) 30 (fun _ => ca (DFrac.mk (DBig.mk 0 ⟨[], {}⟩) (DBig.mk 0 ⟨[], {}⟩))),.st 3 (fun G => .blk ((G 6).b) (ca (DFrac.mk (DBig.mk n2 ⟨l3, (G 2).ss 0⟩) (DBig.mk n3 ⟨l4, (G 2).ss 1⟩))) 30),.k (iv n4)] fun _ _ G6 kw6 => ?_
  intro S_ s_
  obtain ⟨⟨kl6, -⟩, ⟨kl7, -⟩, -⟩ : Lq l3 (((G6 2).ss 0).v) ∧ Lq l4 (((G6 2).ss 1).v) ∧ True := kn kw6 (by kernel_rfl)
  clear kw6
  refine nm (Fr.rS ((Tb.RtT t_Name t_Unit t_Rows ∧ Fr.FrB n1 l1 (1 : Int) l2) ∧ 0 < Tb.aft t_Rows (Fr.fq n1 l1 l2)) (Tb.lkR t_Unit t_Rows (Fr.fq n1 l1 l2)) : Int) fun n5 hn5 => ?_
  refine nm (Fr.rD ((Tb.RtT t_Name t_Unit t_Rows ∧ Fr.FrB n1 l1 (1 : Int) l2) ∧ 0 < Tb.aft t_Rows (Fr.fq n1 l1 l2)) (Tb.lkR t_Unit t_Rows (Fr.fq n1 l1 l2)) : List Int) fun l5 hl5 => ?_
  have hl5n := congrArg List.length hl5
  refine nm (Fr.rT ((Tb.RtT t_Name t_Unit t_Rows ∧ Fr.FrB n1 l1 (1 : Int) l2) ∧ 0 < Tb.aft t_Rows (Fr.fq n1 l1 l2)) : Int) fun n6 hn6 => ?_
  refine nm (Fr.rE ((Tb.RtT t_Name t_Unit t_Rows ∧ Fr.FrB n1 l1 (1 : Int) l2) ∧ 0 < Tb.aft t_Rows (Fr.fq n1 l1 l2)) (Tb.lkR t_Unit t_Rows (Fr.fq n1 l1 l2)) : List Int) fun l6 hl6 => ?_
  have hl6n := congrArg List.length hl6
  refine nm (if ¬ (Tb.RtT t_Name t_Unit t_Rows ∧ Fr.FrB n1 l1 (1 : Int) l2) then (1 : Int) else if Tb.aft t_Rows (Fr.fq n1 l1 l2) = 0 then 4 else 0 : Int) fun n7 hn7 => ?_
  have haf : Tb.aft t_Rows (Fr.fq n1 l1 l2) = i.toNat + 1 := by rw [zf.v]; exact Tb.aft_key hso (by omega)
  have zd := Fr.Fz.of (And.intro hp_zc (show 0 < Tb.aft t_Rows (Fr.fq n1 l1 l2) by omega)) hn5 hl5 hn6 hl6
  rw [Tb.lk_row haf] at zd
  have e_zd : n7 = 0 := by rw [hn7, if_neg (fun h => h hp_zc), if_neg (by omega)]
  have hs7 := Fr.Fz.inj zc zd
  refine V.r [.ld 0 0 true (fun _ => Dat.cells (DTable.mk t_Name t_Unit ⟨t_Rows, t_Rowss⟩)),.ld 2 0 true (fun _ => Dat.cells (DFrac.mk (DBig.mk n1 ⟨l1, (G5 6).ss 0⟩) (DBig.mk 1 ⟨l2, (G5 6).ss 1⟩))),.ct g0 2 29 false [] [] [(kf false (.f 0) t_Rows (fun _ => t_Rowss)).a, (kf true (.f 3) l1 (fun _ => (G5 6).ss 0)).a, (kf true (.f 4) l2 (fun _ => (G5 6).ss 1)).a] (fun _ G => tlook_ctv t_Name t_Unit t_Rows t_Rowss n1 l1 ((G5 6).ss 0) (1 : Int) l2 ((G5 6).ss 1) (by omega) (by omega) (by omega) (by omega) n5 hn5 l5 hl5 n6 hn6 l6 hl6 n7 hn7),.v fun G => .tuple #[ag (DFrac.mk (DBig.mk n5 ⟨l5, (G 2).ss 0⟩) (DBig.mk n6 ⟨l6, (G 2).ss 1⟩)), iv n7],.v fun G => ag (DFrac.mk (DBig.mk n5 ⟨l5, (G 2).ss 0⟩) (DBig.mk n6 ⟨l6, (G 2).ss 1⟩)),.k (iv n7),.nb 6 4 (fun b => pp b 0) 30 (fun _ => ca (DFrac.mk (DBig.mk 0 ⟨[], {}⟩) (DBig.mk 0 ⟨[], {}⟩))),.st 4 (fun G => .blk ((G 6).b) (ca (DFrac.mk (DBig.mk n5 ⟨l5, (G 2).ss 0⟩) (DBig.mk n6 ⟨l6, (G 2).ss 1⟩))) 30),.k (iv n7)] fun _ _ G7 kw7 => ?_
  intro S_ s_
  obtain ⟨⟨kl8, -⟩, ⟨kl9, -⟩, -⟩ : Lq l5 (((G7 2).ss 0).v) ∧ Lq l6 (((G7 2).ss 1).v) ∧ True := kn kw7 (by kernel_rfl)
  clear kw7
  refine nm (((!(decide (n4 = 0))) || (!(decide (n7 = 0)))) || false : Bool) fun p2 hp2 => ?_
  refine V.g [.k (iv n4),.k (bv (!(decide (n4 = 0)))),.k (bv (!(decide (n4 = 0)))),.k (iv n7),.k (bv (!(decide (n7 = 0)))),.or g0 false (!(decide (n4 = 0))) (!(decide (n7 = 0))),.k (bv ((!(decide (n4 = 0))) || (!(decide (n7 = 0))))),.ld 3 0 true (fun _ => Dat.cells (DFrac.mk (DBig.mk n2 ⟨l3, (G6 2).ss 0⟩) (DBig.mk n3 ⟨l4, (G6 2).ss 1⟩))),.ld 4 0 true (fun _ => Dat.cells (DFrac.mk (DBig.mk n5 ⟨l5, (G7 2).ss 0⟩) (DBig.mk n6 ⟨l6, (G7 2).ss 1⟩))),.cp (gF (b := (!(decide (n4 = 0))) || (!(decide (n7 = 0)))) (iOF (iNF iDT) (iNF iDT))) 9 15 [(kf true (.f 5) l3 (fun _ => (G6 2).ss 0)).a, (kf true (.f 6) l4 (fun _ => (G6 2).ss 1)).a, (kf true (.f 7) l5 (fun _ => (G7 2).ss 0)).a, (kf true (.f 8) l6 (fun _ => (G7 2).ss 1)).a] (fun hg G => same5t_ct n2 l3 ((G6 2).ss 0) n3 l4 ((G6 2).ss 1) n5 l5 ((G7 2).ss 0) n6 l6 ((G7 2).ss 1) hs7),.kb false,.orn g0 false ((!(decide (n4 = 0))) || (!(decide (n7 = 0)))) false p2 hp2] fun _ _ G8 => ?_
  intro S_ s_
  refine V.cond (b := p2) (iN hp2 (iOT (iOT (iNT iDF) (iNT iDF)) iFT)) (iN hp2 (iOF (iOF (iNF iDT) (iNF iDT)) iFF)) (by kernel_rfl) (fun q3 => ?_) (fun q4 => ?_)
  · exfalso; have hqq := q3; rcases hqq with (h | h) | h
    · exact h e_zc
    · exact h e_zd
    exact h.elim
  refine V.g [.k (iv i),.a (i + 1) (by omega) (by omega),.k (pp ((G1 0).b) 2),.ld 0 2 false (fun _ => [t_Rowss.v]),.ln (kf false (.f 0) t_Rows (fun _ => t_Rowss)),.k (bv (decide ((t_Rows.length : Int) ≤ i + 1)))] fun _ _ G9 => ?_
  intro S_ s_
  refine V.cond (b := decide ((t_Rows.length : Int) ≤ i + 1)) iDT iDF (by kernel_rfl) (fun q5 => ?_) (fun q6 => ?_)
  · refine V.g [.kb true,.kb true] fun _ _ G10 => ?_
    intro S_ s_
    exact V.ret [0] [] [] [] [] [] (bv true) (fun _ _ => by kernel_rfl) (fun _ _ => by kernel_rfl) (fun _ _ => trivial)
  refine nm (t_Rows.getD (i + 1).toNat default : DRow) fun x2 hx2 => ?_
  refine nm (Bg.sgn x2.Key : Int) fun n8 hn8 => ?_
  refine nm (Bg.dig x2.Key.natAbs : List Int) fun l7 hl7 => ?_
  have hl7n := congrArg List.length hl7
  have hk_n : Tb.ky t_Rows (i.toNat + 1) = x2.Key := by rw [hx2, show (i + 1).toNat = i.toNat + 1 by omega]; rfl
  have hr_n := (hso.2.2 (i.toNat + 1) (by omega)).1
  rw [hk_n] at hr_n; unfold Tb.inR at hr_n
  have zn : Fr.Fz n8 l7 1 l2 (Tb.ky t_Rows (i.toNat + 1) : Rat) := by rw [hk_n]; subst_vars; exact Un.intz _
  have hl_n := zn.len (Fr.Hb.int (n := Tb.ky t_Rows (i.toNat + 1)) (by omega)); have hl1_n := hl_n.1; have hl2_n := hl_n.2
  refine V.r [.k (pp ((G1 0).b) 2),.ld 0 2 false (fun _ => [t_Rowss.v]),.k (iv i),.a (i + 1) (by omega) (by omega),.ix g0 (kf false (.f 0) t_Rows (fun _ => t_Rowss)) (i + 1) (fun _ => ⟨by omega, by omega⟩),.k (.pointer (some ((elemAddr t_Rowss.v ((i + 1).toNat * 2)).add 0))),.le g0 (kf false (.f 0) t_Rows (fun _ => t_Rowss)) (i + 1) (some 0) false x2 hx2 (fun _ => ⟨by omega, by omega⟩) false (fun _ => [iv x2.Key]),.ct g0 7 16 false [] [] [] (fun _ G => r5int_ctv x2.Key (by omega) n8 hn8 l7 hl7 l2 hl2),.nb 8 5 (fun b => pp b 0) 30 (fun _ => ca (DFrac.mk (DBig.mk 0 ⟨[], {}⟩) (DBig.mk 0 ⟨[], {}⟩))),.st 5 (fun G => .blk ((G 8).b) (ca (DFrac.mk (DBig.mk n8 ⟨l7, (G 7).ss 0⟩) (DBig.mk 1 ⟨l2, (G 7).ss 1⟩))) 30)] fun _ _ G11 kw11 => ?_
  intro S_ s_
  obtain ⟨⟨kl10, -⟩, ⟨kl11, -⟩, -⟩ : Lq l7 (((G11 7).ss 0).v) ∧ Lq l2 (((G11 7).ss 1).v) ∧ True := kn kw11 (by kernel_rfl)
  clear kw11
  refine nm (Fr.rS ((Tb.RtT t_Name t_Unit t_Rows ∧ Fr.FrB n8 l7 (1 : Int) l2) ∧ (Tb.lin t_Unit t_Rows (Fr.fq n8 l7 l2)).isSome = true) ((Tb.lin t_Unit t_Rows (Fr.fq n8 l7 l2)).getD 0) : Int) fun n9 hn9 => ?_
  refine nm (Fr.rD ((Tb.RtT t_Name t_Unit t_Rows ∧ Fr.FrB n8 l7 (1 : Int) l2) ∧ (Tb.lin t_Unit t_Rows (Fr.fq n8 l7 l2)).isSome = true) ((Tb.lin t_Unit t_Rows (Fr.fq n8 l7 l2)).getD 0) : List Int) fun l8 hl8 => ?_
  have hl8n := congrArg List.length hl8
  refine nm (Fr.rT ((Tb.RtT t_Name t_Unit t_Rows ∧ Fr.FrB n8 l7 (1 : Int) l2) ∧ (Tb.lin t_Unit t_Rows (Fr.fq n8 l7 l2)).isSome = true) : Int) fun n10 hn10 => ?_
  refine nm (Fr.rE ((Tb.RtT t_Name t_Unit t_Rows ∧ Fr.FrB n8 l7 (1 : Int) l2) ∧ (Tb.lin t_Unit t_Rows (Fr.fq n8 l7 l2)).isSome = true) ((Tb.lin t_Unit t_Rows (Fr.fq n8 l7 l2)).getD 0) : List Int) fun l9 hl9 => ?_
  have hl9n := congrArg List.length hl9
  refine nm (if ¬ (Tb.RtT t_Name t_Unit t_Rows ∧ Fr.FrB n8 l7 (1 : Int) l2) then (1 : Int) else if (Tb.lin t_Unit t_Rows (Fr.fq n8 l7 l2)).isSome = true then 0 else 4 : Int) fun n11 hn11 => ?_
  have hL_zg : Tb.lin t_Unit t_Rows (Fr.fq n8 l7 l2) = some (Tb.wv t_Unit t_Rows (i.toNat + 1)) := by rw [zn.v]; exact Tb.lin_key hso (by omega)
  have hp_zg := And.intro hR zn.rt
  have zg := Fr.Fz.of (And.intro hp_zg (show (Tb.lin t_Unit t_Rows (Fr.fq n8 l7 l2)).isSome = true by rw [hL_zg]; rfl)) hn9 hl8 hn10 hl9
  rw [hL_zg] at zg
  have zg : Fr.Fz n9 l8 n10 l9 (Tb.wv t_Unit t_Rows (i.toNat + 1)) := zg
  have e_zg : n11 = 0 := by rw [hn11, if_neg (fun h => h hp_zg), hL_zg]; rfl
  have hv_zg := (hso.2.2 (i.toNat + 1) (by omega)).2
  unfold Tb.inR at hv_zg
  have hl_zg := zg.len (Tb.worth_hb hu (n := Tb.vl t_Rows (i.toNat + 1)) (by omega)); have hl1_zg := hl_zg.1; have hl2_zg := hl_zg.2
  refine V.r [.ld 0 0 true (fun _ => Dat.cells (DTable.mk t_Name t_Unit ⟨t_Rows, t_Rowss⟩)),.ld 5 0 true (fun _ => Dat.cells (DFrac.mk (DBig.mk n8 ⟨l7, (G11 7).ss 0⟩) (DBig.mk 1 ⟨l2, (G11 7).ss 1⟩))),.ct g0 2 35 false [] [] [(kf false (.f 0) t_Rows (fun _ => t_Rowss)).a, (kf true (.f 9) l7 (fun _ => (G11 7).ss 0)).a, (kf true (.f 10) l2 (fun _ => (G11 7).ss 1)).a] (fun _ G => tline_ctv t_Name t_Unit t_Rows t_Rowss n8 l7 ((G11 7).ss 0) (1 : Int) l2 ((G11 7).ss 1) (by omega) (by omega) (by omega) (by omega) n9 hn9 l8 hl8 n10 hn10 l9 hl9 n11 hn11),.v fun G => .tuple #[ag (DFrac.mk (DBig.mk n9 ⟨l8, (G 2).ss 0⟩) (DBig.mk n10 ⟨l9, (G 2).ss 1⟩)), iv n11],.v fun G => ag (DFrac.mk (DBig.mk n9 ⟨l8, (G 2).ss 0⟩) (DBig.mk n10 ⟨l9, (G 2).ss 1⟩)),.k (iv n11),.nb 6 6 (fun b => pp b 0) 30 (fun _ => ca (DFrac.mk (DBig.mk 0 ⟨[], {}⟩) (DBig.mk 0 ⟨[], {}⟩))),.st 6 (fun G => .blk ((G 6).b) (ca (DFrac.mk (DBig.mk n9 ⟨l8, (G 2).ss 0⟩) (DBig.mk n10 ⟨l9, (G 2).ss 1⟩))) 30),.k (iv n11)] fun _ _ G12 kw12 => ?_
  intro S_ s_
  obtain ⟨⟨kl12, -⟩, ⟨kl13, -⟩, -⟩ : Lq l8 (((G12 2).ss 0).v) ∧ Lq l9 (((G12 2).ss 1).v) ∧ True := kn kw12 (by kernel_rfl)
  clear kw12
  refine nm (Fr.rS (Fr.FrB n1 l1 (1 : Int) l2 ∧ Fr.FrB n8 l7 (1 : Int) l2) ((Fr.fq n1 l1 l2) + (Fr.fq n8 l7 l2)) : Int) fun n12 hn12 => ?_
  refine nm (Fr.rD (Fr.FrB n1 l1 (1 : Int) l2 ∧ Fr.FrB n8 l7 (1 : Int) l2) ((Fr.fq n1 l1 l2) + (Fr.fq n8 l7 l2)) : List Int) fun l10 hl10 => ?_
  have hl10n := congrArg List.length hl10
  refine nm (Fr.rT (Fr.FrB n1 l1 (1 : Int) l2 ∧ Fr.FrB n8 l7 (1 : Int) l2) : Int) fun n13 hn13 => ?_
  refine nm (Fr.rE (Fr.FrB n1 l1 (1 : Int) l2 ∧ Fr.FrB n8 l7 (1 : Int) l2) ((Fr.fq n1 l1 l2) + (Fr.fq n8 l7 l2)) : List Int) fun l11 hl11 => ?_
  have hl11n := congrArg List.length hl11
  refine nm (if ¬ (Fr.FrB n1 l1 (1 : Int) l2 ∧ Fr.FrB n8 l7 (1 : Int) l2) then (1 : Int) else 0 : Int) fun n14 hn14 => ?_
  have zs : Fr.Fz n12 l10 n13 l11 ((Tb.ky t_Rows i.toNat : Rat) + (Tb.ky t_Rows (i.toNat + 1) : Rat)) := by have h := Fr.Fz.of (And.intro zf.rt zn.rt) hn12 hl10 hn13 hl11; rw [zf.v, zn.v] at h; exact h
  have hb_zs := (Fr.Hb.int (n := Tb.ky t_Rows i.toNat) (by omega)).add (Fr.Hb.int (n := Tb.ky t_Rows (i.toNat + 1)) (by omega))
  have hl_zs := zs.len hb_zs; have hl1_zs := hl_zs.1; have hl2_zs := hl_zs.2
  refine V.r [.ld 2 0 true (fun _ => Dat.cells (DFrac.mk (DBig.mk n1 ⟨l1, (G5 6).ss 0⟩) (DBig.mk 1 ⟨l2, (G5 6).ss 1⟩))),.ld 5 0 true (fun _ => Dat.cells (DFrac.mk (DBig.mk n8 ⟨l7, (G11 7).ss 0⟩) (DBig.mk 1 ⟨l2, (G11 7).ss 1⟩))),.ct g0 2 33 false [] [] [(kf true (.f 3) l1 (fun _ => (G5 6).ss 0)).a, (kf true (.f 4) l2 (fun _ => (G5 6).ss 1)).a, (kf true (.f 9) l7 (fun _ => (G11 7).ss 0)).a, (kf true (.f 10) l2 (fun _ => (G11 7).ss 1)).a] (fun _ G => fadd_ctv n1 l1 ((G5 6).ss 0) (1 : Int) l2 ((G5 6).ss 1) n8 l7 ((G11 7).ss 0) (1 : Int) l2 ((G11 7).ss 1) (by omega) (by omega) (by omega) (by omega) n12 hn12 l10 hl10 n13 hn13 l11 hl11 n14 hn14),.v fun G => .tuple #[ag (DFrac.mk (DBig.mk n12 ⟨l10, (G 2).ss 0⟩) (DBig.mk n13 ⟨l11, (G 2).ss 1⟩)), iv n14],.v fun G => ag (DFrac.mk (DBig.mk n12 ⟨l10, (G 2).ss 0⟩) (DBig.mk n13 ⟨l11, (G 2).ss 1⟩)),.k (iv n14),.nb 6 7 (fun b => pp b 0) 30 (fun _ => ca (DFrac.mk (DBig.mk 0 ⟨[], {}⟩) (DBig.mk 0 ⟨[], {}⟩))),.st 7 (fun G => .blk ((G 6).b) (ca (DFrac.mk (DBig.mk n12 ⟨l10, (G 2).ss 0⟩) (DBig.mk n13 ⟨l11, (G 2).ss 1⟩))) 30),.k (iv n14)] fun _ _ G13 kw13 => ?_
  intro S_ s_
  obtain ⟨⟨kl14, -⟩, ⟨kl15, -⟩, -⟩ : Lq l10 (((G13 2).ss 0).v) ∧ Lq l11 (((G13 2).ss 1).v) ∧ True := kn kw13 (by kernel_rfl)
  clear kw13
  refine nm (Bg.sgn (2 : Int) : Int) fun n15 hn15 => ?_
  refine nm (Bg.dig (2 : Int).natAbs : List Int) fun l12 hl12 => ?_
  have hl12n := congrArg List.length hl12
  refine nm (Fr.rS ((Fr.FrB n12 l10 n13 l11 ∧ Fr.FrB n15 l12 (1 : Int) l2) ∧ n15 ≠ 0) ((Fr.fq n12 l10 l11) / (Fr.fq n15 l12 l2)) : Int) fun n16 hn16 => ?_
  refine nm (Fr.rD ((Fr.FrB n12 l10 n13 l11 ∧ Fr.FrB n15 l12 (1 : Int) l2) ∧ n15 ≠ 0) ((Fr.fq n12 l10 l11) / (Fr.fq n15 l12 l2)) : List Int) fun l13 hl13 => ?_
  have hl13n := congrArg List.length hl13
  refine nm (Fr.rT ((Fr.FrB n12 l10 n13 l11 ∧ Fr.FrB n15 l12 (1 : Int) l2) ∧ n15 ≠ 0) : Int) fun n17 hn17 => ?_
  refine nm (Fr.rE ((Fr.FrB n12 l10 n13 l11 ∧ Fr.FrB n15 l12 (1 : Int) l2) ∧ n15 ≠ 0) ((Fr.fq n12 l10 l11) / (Fr.fq n15 l12 l2)) : List Int) fun l14 hl14 => ?_
  have hl14n := congrArg List.length hl14
  refine nm (if ¬ (Fr.FrB n12 l10 n13 l11 ∧ Fr.FrB n15 l12 (1 : Int) l2) then (1 : Int) else if n15 = 0 then 15 else 0 : Int) fun n18 hn18 => ?_
  have z2_zh : Fr.Fz n15 l12 1 l2 ((2 : Int) : Rat) := by subst_vars; exact Un.intz 2
  have hl_2zh := z2_zh.len (Fr.Hb.int (n := 2) (by decide)); have hl1_2zh := hl_2zh.1; have hl2_2zh := hl_2zh.2
  have n2_zh : n15 ≠ 0 := by rw [z2_zh.eqs.1]; decide
  have zh : Fr.Fz n16 l13 n17 l14 (((Tb.ky t_Rows i.toNat : Rat) + (Tb.ky t_Rows (i.toNat + 1) : Rat)) / 2) := by have h := Fr.Fz.of (And.intro (And.intro zs.rt z2_zh.rt) n2_zh) hn16 hl13 hn17 hl14; rw [zs.v, z2_zh.v] at h; exact h
  have hb_zh := hb_zs.div (Fr.Hb.int (n := 2) (by decide))
  have hl_zh := zh.len hb_zh; have hl1_zh := hl_zh.1; have hl2_zh := hl_zh.2
  refine V.r [.ld 7 0 true (fun _ => Dat.cells (DFrac.mk (DBig.mk n12 ⟨l10, (G13 2).ss 0⟩) (DBig.mk n13 ⟨l11, (G13 2).ss 1⟩))),.ct g0 1 16 false [] [] [] (fun _ G => r5int_ctv (2 : Int) (by omega) n15 hn15 l12 hl12 l2 hl2),.ct g0 2 40 false [] [] [(kf true (.f 13) l10 (fun _ => (G13 2).ss 0)).a, (kf true (.f 14) l11 (fun _ => (G13 2).ss 1)).a, (kf true (.g 1 0) l12 (fun G => (G 1).ss 0)).a, (kf true (.g 1 1) l2 (fun G => (G 1).ss 1)).a] (fun _ G => fdiv_ctv n12 l10 ((G13 2).ss 0) n13 l11 ((G13 2).ss 1) n15 l12 ((G 1).ss 0) (1 : Int) l2 ((G 1).ss 1) (by omega) (by omega) (by omega) (by omega) n16 hn16 l13 hl13 n17 hn17 l14 hl14 n18 hn18),.v fun G => .tuple #[ag (DFrac.mk (DBig.mk n16 ⟨l13, (G 2).ss 0⟩) (DBig.mk n17 ⟨l14, (G 2).ss 1⟩)), iv n18],.v fun G => ag (DFrac.mk (DBig.mk n16 ⟨l13, (G 2).ss 0⟩) (DBig.mk n17 ⟨l14, (G 2).ss 1⟩)),.k (iv n18),.nb 6 8 (fun b => pp b 0) 30 (fun _ => ca (DFrac.mk (DBig.mk 0 ⟨[], {}⟩) (DBig.mk 0 ⟨[], {}⟩))),.st 8 (fun G => .blk ((G 6).b) (ca (DFrac.mk (DBig.mk n16 ⟨l13, (G 2).ss 0⟩) (DBig.mk n17 ⟨l14, (G 2).ss 1⟩))) 30),.k (iv n18)] fun _ _ G14 kw14 => ?_
  intro S_ s_
  obtain ⟨⟨kl16, -⟩, ⟨kl17, -⟩, ⟨kl18, -⟩, ⟨kl19, -⟩, -⟩ : Lq l12 (((G14 1).ss 0).v) ∧ Lq l2 (((G14 1).ss 1).v) ∧ Lq l13 (((G14 2).ss 0).v) ∧ Lq l14 (((G14 2).ss 1).v) ∧ True := kn kw14 (by kernel_rfl)
  clear kw14
  refine nm (Fr.rS ((Tb.RtT t_Name t_Unit t_Rows ∧ Fr.FrB n16 l13 n17 l14) ∧ (Tb.lin t_Unit t_Rows (Fr.fq n16 l13 l14)).isSome = true) ((Tb.lin t_Unit t_Rows (Fr.fq n16 l13 l14)).getD 0) : Int) fun n19 hn19 => ?_
  refine nm (Fr.rD ((Tb.RtT t_Name t_Unit t_Rows ∧ Fr.FrB n16 l13 n17 l14) ∧ (Tb.lin t_Unit t_Rows (Fr.fq n16 l13 l14)).isSome = true) ((Tb.lin t_Unit t_Rows (Fr.fq n16 l13 l14)).getD 0) : List Int) fun l15 hl15 => ?_
  have hl15n := congrArg List.length hl15
  refine nm (Fr.rT ((Tb.RtT t_Name t_Unit t_Rows ∧ Fr.FrB n16 l13 n17 l14) ∧ (Tb.lin t_Unit t_Rows (Fr.fq n16 l13 l14)).isSome = true) : Int) fun n20 hn20 => ?_
  refine nm (Fr.rE ((Tb.RtT t_Name t_Unit t_Rows ∧ Fr.FrB n16 l13 n17 l14) ∧ (Tb.lin t_Unit t_Rows (Fr.fq n16 l13 l14)).isSome = true) ((Tb.lin t_Unit t_Rows (Fr.fq n16 l13 l14)).getD 0) : List Int) fun l16 hl16 => ?_
  have hl16n := congrArg List.length hl16
  refine nm (if ¬ (Tb.RtT t_Name t_Unit t_Rows ∧ Fr.FrB n16 l13 n17 l14) then (1 : Int) else if (Tb.lin t_Unit t_Rows (Fr.fq n16 l13 l14)).isSome = true then 0 else 4 : Int) fun n21 hn21 => ?_
  have hL_zm : Tb.lin t_Unit t_Rows (Fr.fq n16 l13 l14) = some ((Tb.wv t_Unit t_Rows i.toNat + Tb.wv t_Unit t_Rows (i.toNat + 1)) / 2) := by rw [zh.v]; exact Tb.lin_mid hso (by omega)
  have hp_zm := And.intro hR zh.rt
  have zm := Fr.Fz.of (And.intro hp_zm (show (Tb.lin t_Unit t_Rows (Fr.fq n16 l13 l14)).isSome = true by rw [hL_zm]; rfl)) hn19 hl15 hn20 hl16
  rw [hL_zm] at zm
  have zm : Fr.Fz n19 l15 n20 l16 ((Tb.wv t_Unit t_Rows i.toNat + Tb.wv t_Unit t_Rows (i.toNat + 1)) / 2) := zm
  have e_zm : n21 = 0 := by rw [hn21, if_neg (fun h => h hp_zm), hL_zm]; rfl
  refine V.r [.ld 0 0 true (fun _ => Dat.cells (DTable.mk t_Name t_Unit ⟨t_Rows, t_Rowss⟩)),.ld 8 0 true (fun _ => Dat.cells (DFrac.mk (DBig.mk n16 ⟨l13, (G14 2).ss 0⟩) (DBig.mk n17 ⟨l14, (G14 2).ss 1⟩))),.ct g0 2 35 false [] [] [(kf false (.f 0) t_Rows (fun _ => t_Rowss)).a, (kf true (.f 17) l13 (fun _ => (G14 2).ss 0)).a, (kf true (.f 18) l14 (fun _ => (G14 2).ss 1)).a] (fun _ G => tline_ctv t_Name t_Unit t_Rows t_Rowss n16 l13 ((G14 2).ss 0) n17 l14 ((G14 2).ss 1) (by omega) (by omega) (by omega) (by omega) n19 hn19 l15 hl15 n20 hn20 l16 hl16 n21 hn21),.v fun G => .tuple #[ag (DFrac.mk (DBig.mk n19 ⟨l15, (G 2).ss 0⟩) (DBig.mk n20 ⟨l16, (G 2).ss 1⟩)), iv n21],.v fun G => ag (DFrac.mk (DBig.mk n19 ⟨l15, (G 2).ss 0⟩) (DBig.mk n20 ⟨l16, (G 2).ss 1⟩)),.k (iv n21),.nb 6 9 (fun b => pp b 0) 30 (fun _ => ca (DFrac.mk (DBig.mk 0 ⟨[], {}⟩) (DBig.mk 0 ⟨[], {}⟩))),.st 9 (fun G => .blk ((G 6).b) (ca (DFrac.mk (DBig.mk n19 ⟨l15, (G 2).ss 0⟩) (DBig.mk n20 ⟨l16, (G 2).ss 1⟩))) 30),.k (iv n21)] fun _ _ G15 kw15 => ?_
  intro S_ s_
  obtain ⟨⟨kl20, -⟩, ⟨kl21, -⟩, -⟩ : Lq l15 (((G15 2).ss 0).v) ∧ Lq l16 (((G15 2).ss 1).v) ∧ True := kn kw15 (by kernel_rfl)
  clear kw15
  refine nm (Fr.rS (Fr.FrB n2 l3 n3 l4 ∧ Fr.FrB n9 l8 n10 l9) ((Fr.fq n2 l3 l4) + (Fr.fq n9 l8 l9)) : Int) fun n22 hn22 => ?_
  refine nm (Fr.rD (Fr.FrB n2 l3 n3 l4 ∧ Fr.FrB n9 l8 n10 l9) ((Fr.fq n2 l3 l4) + (Fr.fq n9 l8 l9)) : List Int) fun l17 hl17 => ?_
  have hl17n := congrArg List.length hl17
  refine nm (Fr.rT (Fr.FrB n2 l3 n3 l4 ∧ Fr.FrB n9 l8 n10 l9) : Int) fun n23 hn23 => ?_
  refine nm (Fr.rE (Fr.FrB n2 l3 n3 l4 ∧ Fr.FrB n9 l8 n10 l9) ((Fr.fq n2 l3 l4) + (Fr.fq n9 l8 l9)) : List Int) fun l18 hl18 => ?_
  have hl18n := congrArg List.length hl18
  refine nm (if ¬ (Fr.FrB n2 l3 n3 l4 ∧ Fr.FrB n9 l8 n10 l9) then (1 : Int) else 0 : Int) fun n24 hn24 => ?_
  have zv : Fr.Fz n22 l17 n23 l18 (Tb.wv t_Unit t_Rows i.toNat + Tb.wv t_Unit t_Rows (i.toNat + 1)) := by have h := Fr.Fz.of (And.intro zc.rt zg.rt) hn22 hl17 hn23 hl18; rw [zc.v, zg.v] at h; exact h
  have hb_zv := (Tb.worth_hb hu (n := Tb.vl t_Rows i.toNat) (by omega)).add (Tb.worth_hb hu (n := Tb.vl t_Rows (i.toNat + 1)) (by omega))
  have hl_zv := zv.len hb_zv; have hl1_zv := hl_zv.1; have hl2_zv := hl_zv.2
  refine V.r [.ld 3 0 true (fun _ => Dat.cells (DFrac.mk (DBig.mk n2 ⟨l3, (G6 2).ss 0⟩) (DBig.mk n3 ⟨l4, (G6 2).ss 1⟩))),.ld 6 0 true (fun _ => Dat.cells (DFrac.mk (DBig.mk n9 ⟨l8, (G12 2).ss 0⟩) (DBig.mk n10 ⟨l9, (G12 2).ss 1⟩))),.ct g0 2 33 false [] [] [(kf true (.f 5) l3 (fun _ => (G6 2).ss 0)).a, (kf true (.f 6) l4 (fun _ => (G6 2).ss 1)).a, (kf true (.f 11) l8 (fun _ => (G12 2).ss 0)).a, (kf true (.f 12) l9 (fun _ => (G12 2).ss 1)).a] (fun _ G => fadd_ctv n2 l3 ((G6 2).ss 0) n3 l4 ((G6 2).ss 1) n9 l8 ((G12 2).ss 0) n10 l9 ((G12 2).ss 1) (by omega) (by omega) (by omega) (by omega) n22 hn22 l17 hl17 n23 hn23 l18 hl18 n24 hn24),.v fun G => .tuple #[ag (DFrac.mk (DBig.mk n22 ⟨l17, (G 2).ss 0⟩) (DBig.mk n23 ⟨l18, (G 2).ss 1⟩)), iv n24],.v fun G => ag (DFrac.mk (DBig.mk n22 ⟨l17, (G 2).ss 0⟩) (DBig.mk n23 ⟨l18, (G 2).ss 1⟩)),.k (iv n24),.nb 6 10 (fun b => pp b 0) 30 (fun _ => ca (DFrac.mk (DBig.mk 0 ⟨[], {}⟩) (DBig.mk 0 ⟨[], {}⟩))),.st 10 (fun G => .blk ((G 6).b) (ca (DFrac.mk (DBig.mk n22 ⟨l17, (G 2).ss 0⟩) (DBig.mk n23 ⟨l18, (G 2).ss 1⟩))) 30),.k (iv n24)] fun _ _ G16 kw16 => ?_
  intro S_ s_
  obtain ⟨⟨kl22, -⟩, ⟨kl23, -⟩, -⟩ : Lq l17 (((G16 2).ss 0).v) ∧ Lq l18 (((G16 2).ss 1).v) ∧ True := kn kw16 (by kernel_rfl)
  clear kw16
  refine nm (Fr.rS ((Fr.FrB n22 l17 n23 l18 ∧ Fr.FrB n15 l12 (1 : Int) l2) ∧ n15 ≠ 0) ((Fr.fq n22 l17 l18) / (Fr.fq n15 l12 l2)) : Int) fun n25 hn25 => ?_
  refine nm (Fr.rD ((Fr.FrB n22 l17 n23 l18 ∧ Fr.FrB n15 l12 (1 : Int) l2) ∧ n15 ≠ 0) ((Fr.fq n22 l17 l18) / (Fr.fq n15 l12 l2)) : List Int) fun l19 hl19 => ?_
  have hl19n := congrArg List.length hl19
  refine nm (Fr.rT ((Fr.FrB n22 l17 n23 l18 ∧ Fr.FrB n15 l12 (1 : Int) l2) ∧ n15 ≠ 0) : Int) fun n26 hn26 => ?_
  refine nm (Fr.rE ((Fr.FrB n22 l17 n23 l18 ∧ Fr.FrB n15 l12 (1 : Int) l2) ∧ n15 ≠ 0) ((Fr.fq n22 l17 l18) / (Fr.fq n15 l12 l2)) : List Int) fun l20 hl20 => ?_
  have hl20n := congrArg List.length hl20
  refine nm (if ¬ (Fr.FrB n22 l17 n23 l18 ∧ Fr.FrB n15 l12 (1 : Int) l2) then (1 : Int) else if n15 = 0 then 15 else 0 : Int) fun n27 hn27 => ?_
  have z2_zw : Fr.Fz n15 l12 1 l2 ((2 : Int) : Rat) := by subst_vars; exact Un.intz 2
  have hl_2zw := z2_zw.len (Fr.Hb.int (n := 2) (by decide)); have hl1_2zw := hl_2zw.1; have hl2_2zw := hl_2zw.2
  have n2_zw : n15 ≠ 0 := by rw [z2_zw.eqs.1]; decide
  have zw : Fr.Fz n25 l19 n26 l20 ((Tb.wv t_Unit t_Rows i.toNat + Tb.wv t_Unit t_Rows (i.toNat + 1)) / 2) := by have h := Fr.Fz.of (And.intro (And.intro zv.rt z2_zw.rt) n2_zw) hn25 hl19 hn26 hl20; rw [zv.v, z2_zw.v] at h; exact h
  have hb_zw := hb_zv.div (Fr.Hb.int (n := 2) (by decide))
  have hl_zw := zw.len hb_zw; have hl1_zw := hl_zw.1; have hl2_zw := hl_zw.2
  have hs18 := Fr.Fz.inj zm zw
  refine V.r [.ld 10 0 true (fun _ => Dat.cells (DFrac.mk (DBig.mk n22 ⟨l17, (G16 2).ss 0⟩) (DBig.mk n23 ⟨l18, (G16 2).ss 1⟩))),.ct g0 1 16 false [] [] [] (fun _ G => r5int_ctv (2 : Int) (by omega) n15 hn15 l12 hl12 l2 hl2),.ct g0 2 40 false [] [] [(kf true (.f 21) l17 (fun _ => (G16 2).ss 0)).a, (kf true (.f 22) l18 (fun _ => (G16 2).ss 1)).a, (kf true (.g 1 0) l12 (fun G => (G 1).ss 0)).a, (kf true (.g 1 1) l2 (fun G => (G 1).ss 1)).a] (fun _ G => fdiv_ctv n22 l17 ((G16 2).ss 0) n23 l18 ((G16 2).ss 1) n15 l12 ((G 1).ss 0) (1 : Int) l2 ((G 1).ss 1) (by omega) (by omega) (by omega) (by omega) n25 hn25 l19 hl19 n26 hn26 l20 hl20 n27 hn27),.v fun G => .tuple #[ag (DFrac.mk (DBig.mk n25 ⟨l19, (G 2).ss 0⟩) (DBig.mk n26 ⟨l20, (G 2).ss 1⟩)), iv n27],.v fun G => ag (DFrac.mk (DBig.mk n25 ⟨l19, (G 2).ss 0⟩) (DBig.mk n26 ⟨l20, (G 2).ss 1⟩)),.k (iv n27),.nb 6 11 (fun b => pp b 0) 30 (fun _ => ca (DFrac.mk (DBig.mk 0 ⟨[], {}⟩) (DBig.mk 0 ⟨[], {}⟩))),.st 11 (fun G => .blk ((G 6).b) (ca (DFrac.mk (DBig.mk n25 ⟨l19, (G 2).ss 0⟩) (DBig.mk n26 ⟨l20, (G 2).ss 1⟩))) 30),.k (iv n27)] fun _ _ G17 kw17 => ?_
  intro S_ s_
  obtain ⟨⟨kl24, -⟩, ⟨kl25, -⟩, ⟨kl26, -⟩, ⟨kl27, -⟩, -⟩ : Lq l12 (((G17 1).ss 0).v) ∧ Lq l2 (((G17 1).ss 1).v) ∧ Lq l19 (((G17 2).ss 0).v) ∧ Lq l20 (((G17 2).ss 1).v) ∧ True := kn kw17 (by kernel_rfl)
  clear kw17
  refine nm ((!(decide (n11 = 0))) || (!(decide (n21 = 0))) : Bool) fun p3 hp3 => ?_
  refine V.g [.k (iv n11),.k (bv (!(decide (n11 = 0)))),.k (bv (!(decide (n11 = 0)))),.k (iv n21),.k (bv (!(decide (n21 = 0)))),.orn g0 false (!(decide (n11 = 0))) (!(decide (n21 = 0))) p3 hp3,.k (bv p3),.ld 9 0 true (fun _ => Dat.cells (DFrac.mk (DBig.mk n19 ⟨l15, (G15 2).ss 0⟩) (DBig.mk n20 ⟨l16, (G15 2).ss 1⟩))),.ld 11 0 true (fun _ => Dat.cells (DFrac.mk (DBig.mk n25 ⟨l19, (G17 2).ss 0⟩) (DBig.mk n26 ⟨l20, (G17 2).ss 1⟩))),.cp (gF (b := p3) (iN hp3 (iOF (iNF iDT) (iNF iDT)))) 9 15 [(kf true (.f 19) l15 (fun _ => (G15 2).ss 0)).a, (kf true (.f 20) l16 (fun _ => (G15 2).ss 1)).a, (kf true (.f 25) l19 (fun _ => (G17 2).ss 0)).a, (kf true (.f 26) l20 (fun _ => (G17 2).ss 1)).a] (fun hg G => same5t_ct n19 l15 ((G15 2).ss 0) n20 l16 ((G15 2).ss 1) n25 l19 ((G17 2).ss 0) n26 l20 ((G17 2).ss 1) hs18),.kb false,.or g0 false p3 false] fun _ _ G18 => ?_
  intro S_ s_
  refine V.cond (b := p3 || false) (iOT (iN hp3 (iOT (iNT iDF) (iNT iDF))) iFT) (iOF (iN hp3 (iOF (iNF iDT) (iNF iDT))) iFF) (by kernel_rfl) (fun q7 => ?_) (fun q8 => ?_)
  · exfalso; have hqq := q7; rcases hqq with (h | h) | h
    · exact h e_zg
    · exact h e_zm
    exact h.elim
  refine nm (if Fr.FrB key_P_Sign key_P_Digits key_Q_Sign key_Q_Digits ∧ Fr.FrB n1 l1 (1 : Int) l2 then Fr.cmpQ (Fr.fq key_P_Sign key_P_Digits key_Q_Digits) (Fr.fq n1 l1 l2) else 0 : Int) fun n28 hn28 => ?_
  refine nm ((!(decide (Fr.FrB key_P_Sign key_P_Digits key_Q_Sign key_Q_Digits))) || (decide (n28 < 0)) : Bool) fun p4 hp4 => ?_
  refine nm (if Fr.FrB key_P_Sign key_P_Digits key_Q_Sign key_Q_Digits ∧ Fr.FrB n8 l7 (1 : Int) l2 then Fr.cmpQ (Fr.fq key_P_Sign key_P_Digits key_Q_Digits) (Fr.fq n8 l7 l2) else 0 : Int) fun n29 hn29 => ?_
  have hcn : Fr.FrB key_P_Sign key_P_Digits key_Q_Sign key_Q_Digits → (n28 < 0 ↔ (Fr.fq key_P_Sign key_P_Digits key_Q_Digits) < (Tb.ky t_Rows i.toNat : Rat)) := fun hK => by rw [hn28, if_pos ⟨hK, zf.rt⟩, zf.v]; exact Tb.cmpQ_neg
  have hcm : Fr.FrB key_P_Sign key_P_Digits key_Q_Sign key_Q_Digits → (0 < n29 ↔ (Tb.ky t_Rows (i.toNat + 1) : Rat) < (Fr.fq key_P_Sign key_P_Digits key_Q_Digits)) := fun hK => by rw [hn29, if_pos ⟨hK, zn.rt⟩, zn.v]; exact Tb.cmpQ_pos
  refine V.g [.ld 1 0 true (fun _ => Dat.cells (DFrac.mk (DBig.mk key_P_Sign ⟨key_P_Digits, key_P_Digitss⟩) (DBig.mk key_Q_Sign ⟨key_Q_Digits, key_Q_Digitss⟩))),.cp g0 1 24 [(kf false (.f 1) key_P_Digits (fun _ => key_P_Digitss)).a, (kf false (.f 2) key_Q_Digits (fun _ => key_Q_Digitss)).a] (fun _ G => right_ct key_P_Sign key_P_Digits key_P_Digitss key_Q_Sign key_Q_Digits key_Q_Digitss (by omega) (by omega)),.k (bv (!(decide (Fr.FrB key_P_Sign key_P_Digits key_Q_Sign key_Q_Digits)))),.k (bv (!(decide (Fr.FrB key_P_Sign key_P_Digits key_Q_Sign key_Q_Digits)))),.ld 1 0 true (fun _ => Dat.cells (DFrac.mk (DBig.mk key_P_Sign ⟨key_P_Digits, key_P_Digitss⟩) (DBig.mk key_Q_Sign ⟨key_Q_Digits, key_Q_Digitss⟩))),.ld 2 0 true (fun _ => Dat.cells (DFrac.mk (DBig.mk n1 ⟨l1, (G5 6).ss 0⟩) (DBig.mk 1 ⟨l2, (G5 6).ss 1⟩))),.cp (gF (b := !(decide (Fr.FrB key_P_Sign key_P_Digits key_Q_Sign key_Q_Digits))) (iNF iDT)) 6 30 [(kf false (.f 1) key_P_Digits (fun _ => key_P_Digitss)).a, (kf false (.f 2) key_Q_Digits (fun _ => key_Q_Digitss)).a, (kf true (.f 3) l1 (fun _ => (G5 6).ss 0)).a, (kf true (.f 4) l2 (fun _ => (G5 6).ss 1)).a] (fun hg G => fcmp_ctv key_P_Sign key_P_Digits key_P_Digitss key_Q_Sign key_Q_Digits key_Q_Digitss n1 l1 ((G5 6).ss 0) (1 : Int) l2 ((G5 6).ss 1) (by omega) (by omega) (by omega) (by omega) n28 hn28),.k (bv (decide (n28 < 0))),.orn g0 false (!(decide (Fr.FrB key_P_Sign key_P_Digits key_Q_Sign key_Q_Digits))) (decide (n28 < 0)) p4 hp4,.k (bv p4),.ld 1 0 true (fun _ => Dat.cells (DFrac.mk (DBig.mk key_P_Sign ⟨key_P_Digits, key_P_Digitss⟩) (DBig.mk key_Q_Sign ⟨key_Q_Digits, key_Q_Digitss⟩))),.ld 5 0 true (fun _ => Dat.cells (DFrac.mk (DBig.mk n8 ⟨l7, (G11 7).ss 0⟩) (DBig.mk 1 ⟨l2, (G11 7).ss 1⟩))),.cp (gF (b := p4) (iN hp4 (iOF (iNF iDT) iDF))) 12 30 [(kf false (.f 1) key_P_Digits (fun _ => key_P_Digitss)).a, (kf false (.f 2) key_Q_Digits (fun _ => key_Q_Digitss)).a, (kf true (.f 9) l7 (fun _ => (G11 7).ss 0)).a, (kf true (.f 10) l2 (fun _ => (G11 7).ss 1)).a] (fun hg G => fcmp_ctv key_P_Sign key_P_Digits key_P_Digitss key_Q_Sign key_Q_Digits key_Q_Digitss n8 l7 ((G11 7).ss 0) (1 : Int) l2 ((G11 7).ss 1) (by omega) (by omega) (by omega) (by omega) n29 hn29),.k (bv (decide (0 < n29))),.or g0 false p4 (decide (0 < n29))] fun _ _ G19 => ?_
  intro S_ s_
  refine V.cond (b := p4 || (decide (0 < n29))) (iOT (iN hp4 (iOT (iNT iDF) iDT)) iDT) (iOF (iN hp4 (iOF (iNF iDT) iDF)) iDF) (by kernel_rfl) (fun q9 => ?_) (fun q10 => ?_)
  · refine V.g [.kb true,.kb true] fun _ _ G20 => ?_
    intro S_ s_
    exact V.ret [0] [] [] [] [] [] (bv true) (fun _ _ => by kernel_rfl) (fun _ _ => by kernel_rfl) (fun _ _ => trivial)
  obtain ⟨⟨hK, hq1⟩, hq2⟩ := q10
  have hle1 : (Tb.ky t_Rows i.toNat : Rat) ≤ (Fr.fq key_P_Sign key_P_Digits key_Q_Digits) := Rat.not_lt.1 fun h => hq1 ((hcn hK).2 h)
  have hle2 : (Fr.fq key_P_Sign key_P_Digits key_Q_Digits) ≤ (Tb.ky t_Rows (i.toNat + 1) : Rat) := Rat.not_lt.1 fun h => hq2 ((hcm hK).2 h)
  obtain ⟨r, hLr, hr1, hr2⟩ := Tb.lin_btw (un := t_Unit) hso (by omega) hle1 hle2
  have hbr := Tb.lin_hb hso hu (hK.hb (k := 5) (by omega) (by omega)) hLr
  refine nm (Fr.rS ((Tb.RtT t_Name t_Unit t_Rows ∧ Fr.FrB key_P_Sign key_P_Digits key_Q_Sign key_Q_Digits) ∧ (Tb.lin t_Unit t_Rows (Fr.fq key_P_Sign key_P_Digits key_Q_Digits)).isSome = true) ((Tb.lin t_Unit t_Rows (Fr.fq key_P_Sign key_P_Digits key_Q_Digits)).getD 0) : Int) fun n30 hn30 => ?_
  refine nm (Fr.rD ((Tb.RtT t_Name t_Unit t_Rows ∧ Fr.FrB key_P_Sign key_P_Digits key_Q_Sign key_Q_Digits) ∧ (Tb.lin t_Unit t_Rows (Fr.fq key_P_Sign key_P_Digits key_Q_Digits)).isSome = true) ((Tb.lin t_Unit t_Rows (Fr.fq key_P_Sign key_P_Digits key_Q_Digits)).getD 0) : List Int) fun l21 hl21 => ?_
  have hl21n := congrArg List.length hl21
  refine nm (Fr.rT ((Tb.RtT t_Name t_Unit t_Rows ∧ Fr.FrB key_P_Sign key_P_Digits key_Q_Sign key_Q_Digits) ∧ (Tb.lin t_Unit t_Rows (Fr.fq key_P_Sign key_P_Digits key_Q_Digits)).isSome = true) : Int) fun n31 hn31 => ?_
  refine nm (Fr.rE ((Tb.RtT t_Name t_Unit t_Rows ∧ Fr.FrB key_P_Sign key_P_Digits key_Q_Sign key_Q_Digits) ∧ (Tb.lin t_Unit t_Rows (Fr.fq key_P_Sign key_P_Digits key_Q_Digits)).isSome = true) ((Tb.lin t_Unit t_Rows (Fr.fq key_P_Sign key_P_Digits key_Q_Digits)).getD 0) : List Int) fun l22 hl22 => ?_
  have hl22n := congrArg List.length hl22
  refine nm (if ¬ (Tb.RtT t_Name t_Unit t_Rows ∧ Fr.FrB key_P_Sign key_P_Digits key_Q_Sign key_Q_Digits) then (1 : Int) else if (Tb.lin t_Unit t_Rows (Fr.fq key_P_Sign key_P_Digits key_Q_Digits)).isSome = true then 0 else 4 : Int) fun n32 hn32 => ?_
  have hp_t := And.intro hR hK
  have zt : Fr.Fz n30 l21 n31 l22 r := by have h := Fr.Fz.of (And.intro hp_t (show (Tb.lin t_Unit t_Rows (Fr.fq key_P_Sign key_P_Digits key_Q_Digits)).isSome = true by rw [hLr]; rfl)) hn30 hl21 hn31 hl22; rw [hLr] at h; exact h
  have e_zt : n32 = 0 := by rw [hn32, if_neg (fun h => h hp_t), hLr]; rfl
  have hl_t := zt.len hbr; have hl1_t := hl_t.1; have hl2_t := hl_t.2
  refine V.r [.ld 0 0 true (fun _ => Dat.cells (DTable.mk t_Name t_Unit ⟨t_Rows, t_Rowss⟩)),.ld 1 0 true (fun _ => Dat.cells (DFrac.mk (DBig.mk key_P_Sign ⟨key_P_Digits, key_P_Digitss⟩) (DBig.mk key_Q_Sign ⟨key_Q_Digits, key_Q_Digitss⟩))),.ct g0 2 35 false [] [] [(kf false (.f 0) t_Rows (fun _ => t_Rowss)).a, (kf false (.f 1) key_P_Digits (fun _ => key_P_Digitss)).a, (kf false (.f 2) key_Q_Digits (fun _ => key_Q_Digitss)).a] (fun _ G => tline_ctv t_Name t_Unit t_Rows t_Rowss key_P_Sign key_P_Digits key_P_Digitss key_Q_Sign key_Q_Digits key_Q_Digitss (by omega) (by omega) (by omega) (by omega) n30 hn30 l21 hl21 n31 hn31 l22 hl22 n32 hn32),.v fun G => .tuple #[ag (DFrac.mk (DBig.mk n30 ⟨l21, (G 2).ss 0⟩) (DBig.mk n31 ⟨l22, (G 2).ss 1⟩)), iv n32],.v fun G => ag (DFrac.mk (DBig.mk n30 ⟨l21, (G 2).ss 0⟩) (DBig.mk n31 ⟨l22, (G 2).ss 1⟩)),.k (iv n32),.nb 6 12 (fun b => pp b 0) 30 (fun _ => ca (DFrac.mk (DBig.mk 0 ⟨[], {}⟩) (DBig.mk 0 ⟨[], {}⟩))),.st 12 (fun G => .blk ((G 6).b) (ca (DFrac.mk (DBig.mk n30 ⟨l21, (G 2).ss 0⟩) (DBig.mk n31 ⟨l22, (G 2).ss 1⟩))) 30),.k (iv n32)] fun _ _ G21 kw21 => ?_
  intro S_ s_
  obtain ⟨⟨kl28, -⟩, ⟨kl29, -⟩, -⟩ : Lq l21 (((G21 2).ss 0).v) ∧ Lq l22 (((G21 2).ss 1).v) ∧ True := kn kw21 (by kernel_rfl)
  clear kw21
  refine nm (Fr.rS (Fr.FrB n2 l3 n3 l4 ∧ Fr.FrB n9 l8 n10 l9) (if (Fr.fq n9 l8 l9) < (Fr.fq n2 l3 l4) then (Fr.fq n9 l8 l9) else (Fr.fq n2 l3 l4)) : Int) fun n33 hn33 => ?_
  refine nm (Fr.rD (Fr.FrB n2 l3 n3 l4 ∧ Fr.FrB n9 l8 n10 l9) (if (Fr.fq n9 l8 l9) < (Fr.fq n2 l3 l4) then (Fr.fq n9 l8 l9) else (Fr.fq n2 l3 l4)) : List Int) fun l23 hl23 => ?_
  have hl23n := congrArg List.length hl23
  refine nm (Fr.rE (Fr.FrB n2 l3 n3 l4 ∧ Fr.FrB n9 l8 n10 l9) (if (Fr.fq n9 l8 l9) < (Fr.fq n2 l3 l4) then (Fr.fq n9 l8 l9) else (Fr.fq n2 l3 l4)) : List Int) fun l24 hl24 => ?_
  have hl24n := congrArg List.length hl24
  refine nm (if Fr.FrB n2 l3 n3 l4 ∧ Fr.FrB n9 l8 n10 l9 then (0 : Int) else 1 : Int) fun n34 hn34 => ?_
  have zlo : Fr.Fz n33 l23 n23 l24 (if Tb.wv t_Unit t_Rows (i.toNat + 1) < Tb.wv t_Unit t_Rows i.toNat then Tb.wv t_Unit t_Rows (i.toNat + 1) else Tb.wv t_Unit t_Rows i.toNat) := by have h := Fr.Fz.of (And.intro zc.rt zg.rt) hn33 hl23 hn23 hl24; rw [zc.v, zg.v] at h; exact h
  have hl_zlo := zlo.len (k := 1481) (by split; exact Tb.worth_hb hu (by omega); exact Tb.worth_hb hu (by omega)); have hl1_zlo := hl_zlo.1; have hl2_zlo := hl_zlo.2
  refine V.r [.ld 3 0 true (fun _ => Dat.cells (DFrac.mk (DBig.mk n2 ⟨l3, (G6 2).ss 0⟩) (DBig.mk n3 ⟨l4, (G6 2).ss 1⟩))),.ld 6 0 true (fun _ => Dat.cells (DFrac.mk (DBig.mk n9 ⟨l8, (G12 2).ss 0⟩) (DBig.mk n10 ⟨l9, (G12 2).ss 1⟩))),.ct g0 2 41 false [] [] [(kf true (.f 5) l3 (fun _ => (G6 2).ss 0)).a, (kf true (.f 6) l4 (fun _ => (G6 2).ss 1)).a, (kf true (.f 11) l8 (fun _ => (G12 2).ss 0)).a, (kf true (.f 12) l9 (fun _ => (G12 2).ss 1)).a] (fun _ G => fmin_ctv n2 l3 ((G6 2).ss 0) n3 l4 ((G6 2).ss 1) n9 l8 ((G12 2).ss 0) n10 l9 ((G12 2).ss 1) (by omega) (by omega) (by omega) (by omega) n33 hn33 l23 hl23 n23 hn23 l24 hl24 n34 hn34),.v fun G => .tuple #[ag (DFrac.mk (DBig.mk n33 ⟨l23, (G 2).ss 0⟩) (DBig.mk n23 ⟨l24, (G 2).ss 1⟩)), iv n34],.v fun G => ag (DFrac.mk (DBig.mk n33 ⟨l23, (G 2).ss 0⟩) (DBig.mk n23 ⟨l24, (G 2).ss 1⟩)),.k (iv n34),.nb 6 13 (fun b => pp b 0) 30 (fun _ => ca (DFrac.mk (DBig.mk 0 ⟨[], {}⟩) (DBig.mk 0 ⟨[], {}⟩))),.st 13 (fun G => .blk ((G 6).b) (ca (DFrac.mk (DBig.mk n33 ⟨l23, (G 2).ss 0⟩) (DBig.mk n23 ⟨l24, (G 2).ss 1⟩))) 30),.k (iv n34)] fun _ _ G22 kw22 => ?_
  intro S_ s_
  obtain ⟨⟨kl30, -⟩, ⟨kl31, -⟩, -⟩ : Lq l23 (((G22 2).ss 0).v) ∧ Lq l24 (((G22 2).ss 1).v) ∧ True := kn kw22 (by kernel_rfl)
  clear kw22
  refine nm (Fr.rS (Fr.FrB n2 l3 n3 l4 ∧ Fr.FrB n9 l8 n10 l9) (if (Fr.fq n2 l3 l4) < (Fr.fq n9 l8 l9) then (Fr.fq n9 l8 l9) else (Fr.fq n2 l3 l4)) : Int) fun n35 hn35 => ?_
  refine nm (Fr.rD (Fr.FrB n2 l3 n3 l4 ∧ Fr.FrB n9 l8 n10 l9) (if (Fr.fq n2 l3 l4) < (Fr.fq n9 l8 l9) then (Fr.fq n9 l8 l9) else (Fr.fq n2 l3 l4)) : List Int) fun l25 hl25 => ?_
  have hl25n := congrArg List.length hl25
  refine nm (Fr.rE (Fr.FrB n2 l3 n3 l4 ∧ Fr.FrB n9 l8 n10 l9) (if (Fr.fq n2 l3 l4) < (Fr.fq n9 l8 l9) then (Fr.fq n9 l8 l9) else (Fr.fq n2 l3 l4)) : List Int) fun l26 hl26 => ?_
  have hl26n := congrArg List.length hl26
  have zhi : Fr.Fz n35 l25 n23 l26 (if Tb.wv t_Unit t_Rows i.toNat < Tb.wv t_Unit t_Rows (i.toNat + 1) then Tb.wv t_Unit t_Rows (i.toNat + 1) else Tb.wv t_Unit t_Rows i.toNat) := by have h := Fr.Fz.of (And.intro zc.rt zg.rt) hn35 hl25 hn23 hl26; rw [zc.v, zg.v] at h; exact h
  have hl_zhi := zhi.len (k := 1481) (by split; exact Tb.worth_hb hu (by omega); exact Tb.worth_hb hu (by omega)); have hl1_zhi := hl_zhi.1; have hl2_zhi := hl_zhi.2
  refine V.r [.ld 3 0 true (fun _ => Dat.cells (DFrac.mk (DBig.mk n2 ⟨l3, (G6 2).ss 0⟩) (DBig.mk n3 ⟨l4, (G6 2).ss 1⟩))),.ld 6 0 true (fun _ => Dat.cells (DFrac.mk (DBig.mk n9 ⟨l8, (G12 2).ss 0⟩) (DBig.mk n10 ⟨l9, (G12 2).ss 1⟩))),.ct g0 2 42 false [] [] [(kf true (.f 5) l3 (fun _ => (G6 2).ss 0)).a, (kf true (.f 6) l4 (fun _ => (G6 2).ss 1)).a, (kf true (.f 11) l8 (fun _ => (G12 2).ss 0)).a, (kf true (.f 12) l9 (fun _ => (G12 2).ss 1)).a] (fun _ G => fmax_ctv n2 l3 ((G6 2).ss 0) n3 l4 ((G6 2).ss 1) n9 l8 ((G12 2).ss 0) n10 l9 ((G12 2).ss 1) (by omega) (by omega) (by omega) (by omega) n35 hn35 l25 hl25 n23 hn23 l26 hl26 n34 hn34),.v fun G => .tuple #[ag (DFrac.mk (DBig.mk n35 ⟨l25, (G 2).ss 0⟩) (DBig.mk n23 ⟨l26, (G 2).ss 1⟩)), iv n34],.v fun G => ag (DFrac.mk (DBig.mk n35 ⟨l25, (G 2).ss 0⟩) (DBig.mk n23 ⟨l26, (G 2).ss 1⟩)),.k (iv n34),.nb 6 14 (fun b => pp b 0) 30 (fun _ => ca (DFrac.mk (DBig.mk 0 ⟨[], {}⟩) (DBig.mk 0 ⟨[], {}⟩))),.st 14 (fun G => .blk ((G 6).b) (ca (DFrac.mk (DBig.mk n35 ⟨l25, (G 2).ss 0⟩) (DBig.mk n23 ⟨l26, (G 2).ss 1⟩))) 30),.k (iv n34)] fun _ _ G23 kw23 => ?_
  intro S_ s_
  obtain ⟨⟨kl32, -⟩, ⟨kl33, -⟩, -⟩ : Lq l25 (((G23 2).ss 0).v) ∧ Lq l26 (((G23 2).ss 1).v) ∧ True := kn kw23 (by kernel_rfl)
  clear kw23
  refine nm (if Fr.FrB n33 l23 n23 l24 ∧ Fr.FrB n30 l21 n31 l22 then Fr.cmpQ (Fr.fq n33 l23 l24) (Fr.fq n30 l21 l22) else 0 : Int) fun n36 hn36 => ?_
  refine nm (if Fr.FrB n30 l21 n31 l22 ∧ Fr.FrB n35 l25 n23 l26 then Fr.cmpQ (Fr.fq n30 l21 l22) (Fr.fq n35 l25 l26) else 0 : Int) fun n37 hn37 => ?_
  refine nm (((decide (n32 = 0)) && (decide (n36 ≤ 0))) && (decide (n37 ≤ 0)) : Bool) fun p5 hp5 => ?_
  have hn1 : n36 ≤ 0 := by rw [hn36, if_pos ⟨zlo.rt, zt.rt⟩, zlo.v, zt.v, Tb.cmp_le]; exact hr1
  have hn2 : n37 ≤ 0 := by rw [hn37, if_pos ⟨zt.rt, zhi.rt⟩, zt.v, zhi.v, Tb.cmp_le]; exact hr2
  refine V.g [.kb true,.kb true,.k (iv n32),.k (bv (decide (n32 = 0))),.k (bv (decide (n32 = 0))),.k (bv (decide (n32 = 0))),.ld 13 0 true (fun _ => Dat.cells (DFrac.mk (DBig.mk n33 ⟨l23, (G22 2).ss 0⟩) (DBig.mk n23 ⟨l24, (G22 2).ss 1⟩))),.ld 12 0 true (fun _ => Dat.cells (DFrac.mk (DBig.mk n30 ⟨l21, (G21 2).ss 0⟩) (DBig.mk n31 ⟨l22, (G21 2).ss 1⟩))),.cp (gT (b := decide (n32 = 0)) iDT) 8 30 [(kf true (.f 29) l23 (fun _ => (G22 2).ss 0)).a, (kf true (.f 30) l24 (fun _ => (G22 2).ss 1)).a, (kf true (.f 27) l21 (fun _ => (G21 2).ss 0)).a, (kf true (.f 28) l22 (fun _ => (G21 2).ss 1)).a] (fun hg G => fcmp_ctv n33 l23 ((G22 2).ss 0) n23 l24 ((G22 2).ss 1) n30 l21 ((G21 2).ss 0) n31 l22 ((G21 2).ss 1) (by omega) (by omega) (by omega) (by omega) n36 hn36),.k (bv (decide (n36 ≤ 0))),.and g0 false (decide (n32 = 0)) (decide (n36 ≤ 0)),.k (bv ((decide (n32 = 0)) && (decide (n36 ≤ 0)))),.ld 12 0 true (fun _ => Dat.cells (DFrac.mk (DBig.mk n30 ⟨l21, (G21 2).ss 0⟩) (DBig.mk n31 ⟨l22, (G21 2).ss 1⟩))),.ld 14 0 true (fun _ => Dat.cells (DFrac.mk (DBig.mk n35 ⟨l25, (G23 2).ss 0⟩) (DBig.mk n23 ⟨l26, (G23 2).ss 1⟩))),.cp (gT (b := (decide (n32 = 0)) && (decide (n36 ≤ 0))) (iAT iDT iDT)) 14 30 [(kf true (.f 27) l21 (fun _ => (G21 2).ss 0)).a, (kf true (.f 28) l22 (fun _ => (G21 2).ss 1)).a, (kf true (.f 31) l25 (fun _ => (G23 2).ss 0)).a, (kf true (.f 32) l26 (fun _ => (G23 2).ss 1)).a] (fun hg G => fcmp_ctv n30 l21 ((G21 2).ss 0) n31 l22 ((G21 2).ss 1) n35 l25 ((G23 2).ss 0) n23 l26 ((G23 2).ss 1) (by omega) (by omega) (by omega) (by omega) n37 hn37),.k (bv (decide (n37 ≤ 0))),.andn g0 false ((decide (n32 = 0)) && (decide (n36 ≤ 0))) (decide (n37 ≤ 0)) p5 hp5,.k (bv p5)] fun _ _ G24 => ?_
  intro S_ s_
  have e0 : p5 = true := by
    refine (iN hp5 (iAT (iAT iDT iDT) iDT)).2 ?_
    first | exact ⟨⟨e_zt, hn1⟩, hn2⟩ | simp [e_zt, hn1, hn2]
  exact V.ret [0] [] [] [] [] [] (bv p5) (fun _ _ => by kernel_rfl) (fun _ _ => (Eq.trans (by kernel_rfl) (cong1 (fun (x0 : Bool) => (bv x0 : Value)) e0)).trans (by kernel_rfl)) (fun _ _ => trivial)
end Kb
