/- The contracts of the vault. -/
import Derived.Test.YtaolgnmpgnamnaaTn
import Derived.Test.YtaolgnmpgnamnaaKg
import Derived.Test.YtaolgnmpgnamnaaMo
set_option linter.unusedVariables false
set_option linter.unusedSimpArgs false
namespace Kb
open Go Go.Proofs
set_option maxRecDepth 10000 in
theorem within_ct (n high : Int) :
    Cp Try.prog 60 #[iv n, iv high] [] (bv (decide (0 ≤ n ∧ n ≤ high))) := by
  refine V.fn mo Try.func60 12 0 (by kernel_rfl) fun w H ε k0 => ?_
  clear k0
  refine V.go [.k (bv false)] (fun _ _ => by kernel_rfl) fun _ _ G1 => ?_
  intro S1 t1
  refine V.go [.k (iv n),
    .k (bv (decide (0 ≤ n))),
    .k (bv (decide (0 ≤ n))),
    .k (iv n),
    .k (iv high),
    .k (bv (decide (n ≤ high))),
    .and g0 false (decide (0 ≤ n)) (decide (n ≤ high)),
    .k (bv ((decide (0 ≤ n)) && (decide (n ≤ high))))] (fun _ _ => by kernel_rfl) fun _ _ G2 => ?_
  intro S2 t2
  have e0 : ((decide (0 ≤ n)) && (decide (n ≤ high))) = decide (0 ≤ n ∧ n ≤ high) := by
    refine Bool.eq_iff_iff.2 (Iff.trans (iAT iDT iDT) (Iff.trans ?_ decide_eq_true_iff.symm))
    exact Iff.rfl
  exact V.ret [0] [] [] [] [] [] (bv ((decide (0 ≤ n)) && (decide (n ≤ high)))) (fun _ _ => by kernel_rfl) (fun _ _ => (Eq.trans (by kernel_rfl) (cong1 (fun (x0 : Bool) => (bv x0 : Value)) e0)).trans (by kernel_rfl)) (fun _ _ => trivial)

set_option maxRecDepth 10000 in
theorem leaf_ct (x_Text : ByteArray) (x_Value x_Blind x_Left x_Right : Int) :
    Cp Try.prog 58 #[ag (DThing.mk x_Text x_Value x_Blind x_Left x_Right)] [] (bv (decide (Tm.isLeaf ⟨x_Text, x_Value, x_Blind, x_Left, x_Right⟩))) := by
  refine V.fn mo Try.func58 29 1 (by kernel_rfl) fun w H ε k0 => ?_
  clear k0
  refine V.go [.nb 0 0 (fun b => pp b 0) 44 (fun _ => ca (DThing.mk x_Text x_Value x_Blind x_Left x_Right)),
    .k (bv false)] (fun _ _ => by kernel_rfl) fun _ _ G1 => ?_
  intro S1 t1
  refine nm ((decide (x_Left = (-1))) && (decide (x_Right = (-1))) : Bool) fun p1 hp1 => ?_
  refine V.go [.k (pp ((G1 0).b) 3),
    .ld 0 3 false (fun _ => [iv x_Left]),
    .k (bv (decide (x_Left = (-1)))),
    .k (bv (decide (x_Left = (-1)))),
    .k (pp ((G1 0).b) 4),
    .ld 0 4 false (fun _ => [iv x_Right]),
    .k (bv (decide (x_Right = (-1)))),
    .andn g0 false (decide (x_Left = (-1))) (decide (x_Right = (-1))) p1 hp1,
    .k (bv p1)] (fun _ _ => by kernel_rfl) fun _ _ G2 => ?_
  intro S2 t2
  refine nm ((p1 && (decide ((x_Text.size : Int) ≤ 8000))) && (decide (0 ≤ x_Value ∧ x_Value ≤ (1099511627776 : Int))) : Bool) fun p2 hp2 => ?_
  refine nm (p2 && (decide (0 ≤ x_Blind ∧ x_Blind ≤ (1099511627776 : Int))) : Bool) fun p3 hp3 => ?_
  refine V.go [.k (bv p1),
    .k (bv p1),
    .k (pp ((G1 0).b) 0),
    .ld 0 0 false (fun _ => [tv x_Text]),
    .k (iv (x_Text.size : Int)),
    .k (bv (decide ((x_Text.size : Int) ≤ 8000))),
    .and g0 false p1 (decide ((x_Text.size : Int) ≤ 8000)),
    .k (bv (p1 && (decide ((x_Text.size : Int) ≤ 8000)))),
    .k (pp ((G1 0).b) 1),
    .ld 0 1 false (fun _ => [iv x_Value]),
    .cp (gT (b := p1 && (decide ((x_Text.size : Int) ≤ 8000))) (iAT (iN hp1 (iAT iDT iDT)) iDT)) 10 60 [] (fun hg G => within_ct x_Value (1099511627776 : Int)),
    .andn g0 false (p1 && (decide ((x_Text.size : Int) ≤ 8000))) (decide (0 ≤ x_Value ∧ x_Value ≤ (1099511627776 : Int))) p2 hp2,
    .k (bv p2),
    .k (pp ((G1 0).b) 2),
    .ld 0 2 false (fun _ => [iv x_Blind]),
    .cp (gT (b := p2) (iN hp2 (iAT (iAT (iN hp1 (iAT iDT iDT)) iDT) iDT))) 15 60 [] (fun hg G => within_ct x_Blind (1099511627776 : Int)),
    .andn g0 false p2 (decide (0 ≤ x_Blind ∧ x_Blind ≤ (1099511627776 : Int))) p3 hp3,
    .k (bv p3)] (fun _ _ => by kernel_rfl) fun _ _ G3 => ?_
  intro S3 t3
  have e0 : p3 = decide (Tm.isLeaf ⟨x_Text, x_Value, x_Blind, x_Left, x_Right⟩) := by
    refine Bool.eq_iff_iff.2 (Iff.trans (iN hp3 (iAT (iN hp2 (iAT (iAT (iN hp1 (iAT iDT iDT)) iDT) iDT)) iDT)) (Iff.trans ?_ decide_eq_true_iff.symm))
    simp only [Tm.isLeaf]
    omega
  exact V.ret [0] [] [] [] [] [] (bv p3) (fun _ _ => by kernel_rfl) (fun _ _ => (Eq.trans (by kernel_rfl) (cong1 (fun (x0 : Bool) => (bv x0 : Value)) e0)).trans (by kernel_rfl)) (fun _ _ => trivial)

set_option maxRecDepth 10000 in
theorem pair_ct (l : List DThing) (ls : SV) (left right : Int) (hbd : ∀ x ∈ l, Tm.Bd x) :
    Cp Try.prog 59 #[ls.v, iv left, iv right] [fs true l ls] (.tuple #[ag (Tm.pairT l left right), iv (Tm.pairE l left right)]) := by
  refine V.fn mo Try.func59 57 4 (by kernel_rfl) fun w H ε k0 => ?_
  obtain ⟨⟨kl1, -⟩, -⟩ : Lq l ls.v ∧ True := kn k0 (by kernel_rfl)
  clear k0
  refine V.go [.nb 0 0 (fun b => pp b 0) 44 (fun _ => ca (DThing.mk ByteArray.empty 0 0 0 0)),
    .k (iv 0)] (fun _ _ => by kernel_rfl) fun _ _ G1 => ?_
  intro S1 t1
  refine nm ((l.length : Int) - 1 : Int) fun n1 hn1 => ?_
  refine nm ((!(decide (0 ≤ left ∧ left ≤ n1))) || (!(decide (0 ≤ right ∧ right ≤ n1))) : Bool) fun p1 hp1 => ?_
  refine V.go [.k (iv left),
    .k (ls.v),
    .ln (kf false (.f 0) l (fun _ => ls)),
    .ar ((l.length : Int) - 1) n1 hn1 (by omega) (by omega),
    .cp g0 4 60 [] (fun _ G => within_ct left n1),
    .k (bv (!(decide (0 ≤ left ∧ left ≤ n1)))),
    .k (bv (!(decide (0 ≤ left ∧ left ≤ n1)))),
    .k (iv right),
    .k (ls.v),
    .ln (kf false (.f 0) l (fun _ => ls)),
    .arg (gF (b := !(decide (0 ≤ left ∧ left ≤ n1))) (iNF iDT)) ((l.length : Int) - 1) n1 hn1 (fun hg => by omega),
    .cp (gF (b := !(decide (0 ≤ left ∧ left ≤ n1))) (iNF iDT)) 11 60 [] (fun hg G => within_ct right n1),
    .k (bv (!(decide (0 ≤ right ∧ right ≤ n1)))),
    .orn g0 false (!(decide (0 ≤ left ∧ left ≤ n1))) (!(decide (0 ≤ right ∧ right ≤ n1))) p1 hp1] (fun _ _ => by kernel_rfl) fun _ _ G2 => ?_
  intro S2 t2
  refine V.cond (b := p1) (iN hp1 (iOT (iNT iDF) (iNT iDF))) (iN hp1 (iOF (iNF iDT) (iNF iDT))) (by kernel_rfl) (fun q1 => ?_) (fun q2 => ?_)
  · skip
    refine V.go [.k (ag (DThing.mk ByteArray.empty 0 0 0 0)),
      .st 0 (fun _ => .blk ((G1 0).b) (ca (DThing.mk ByteArray.empty 0 0 0 0)) 44),
      .k (iv 4)] (fun _ _ => by kernel_rfl) fun _ _ G3 => ?_
    intro S3 t3
    have hp := Tm.pairE_no (l := l) (a := left) (b := right) (by unfold Tm.has; omega)
    have hT := Tm.pairT_no (l := l) (a := left) (b := right) (by omega)
    have e0 : ByteArray.empty = (Tm.pairT l left right).Text := by
      first | rw [hT] | exact hp.symm
    have e1 : (0 : Int) = (Tm.pairT l left right).Value := by
      first | rw [hT] | exact hp.symm
    have e2 : (0 : Int) = (Tm.pairT l left right).Blind := by
      first | rw [hT] | exact hp.symm
    have e3 : (0 : Int) = (Tm.pairT l left right).Left := by
      first | rw [hT] | exact hp.symm
    have e4 : (0 : Int) = (Tm.pairT l left right).Right := by
      first | rw [hT] | exact hp.symm
    have e5 : (4 : Int) = Tm.pairE l left right := by
      first | rw [hT] | exact hp.symm
    exact V.ret [0, 0] [] [] [] [] [] (.tuple #[ag (DThing.mk ByteArray.empty 0 0 0 0), iv 4]) (fun _ _ => by kernel_rfl) (fun _ _ => (Eq.trans (by kernel_rfl) (cong6 (fun (x0 : ByteArray) (x1 : Int) (x2 : Int) (x3 : Int) (x4 : Int) (x5 : Int) => (.tuple #[.agg #[tv x0, iv x1, iv x2, iv x3, iv x4], iv x5] : Value)) e0 e1 e2 e3 e4 e5)).trans (by kernel_rfl)) (fun _ _ => trivial)
  · skip
    refine nm (l.getD left.toNat default : DThing) fun x1 hx1 => ?_
    refine nm (l.getD right.toNat default : DThing) fun x2 hx2 => ?_
    refine V.go [.k (ls.v),
      .k (iv left),
      .ix g0 (kf false (.f 0) l (fun _ => ls)) left (fun _ => ⟨by omega, by omega⟩),
      .le g0 (kf false (.f 0) l (fun _ => ls)) left none false x1 hx1 (fun _ => ⟨by omega, by omega⟩) true (fun _ => Dat.cells x1),
      .k (ls.v),
      .k (iv right),
      .ix g0 (kf false (.f 0) l (fun _ => ls)) right (fun _ => ⟨by omega, by omega⟩),
      .le g0 (kf false (.f 0) l (fun _ => ls)) right none false x2 hx2 (fun _ => ⟨by omega, by omega⟩) true (fun _ => Dat.cells x2),
      .nb 8 1 (fun b => pp b 0) 44 (fun _ => ca (DThing.mk ByteArray.empty 0 0 0 0)),
      .nb 9 2 (fun b => pp b 0) 44 (fun _ => ca (DThing.mk ByteArray.empty 0 0 0 0)),
      .st 1 (fun G => .blk ((G 8).b) (ca x1) 44),
      .st 2 (fun G => .blk ((G 9).b) (ca x2) 44)] (fun _ _ => by kernel_rfl) fun _ _ G4 => ?_
    intro S4 t4
    have hba := hbd x1 (getD_mem (l := l) (k := left.toNat) (by omega) hx1)
    have hbb := hbd x2 (getD_mem (l := l) (k := right.toNat) (by omega) hx2)
    unfold Tm.Bd at hba hbb
    refine nm (x1.Value + x2.Value : Int) fun n2 hn2 => ?_
    refine nm (x1.Blind + x2.Blind : Int) fun n3 hn3 => ?_
    refine V.go [.k (pp ((G4 8).b) 1),
      .ld 1 1 false (fun _ => [iv x1.Value]),
      .k (pp ((G4 9).b) 1),
      .ld 2 1 false (fun _ => [iv x2.Value]),
      .ar (x1.Value + x2.Value) n2 hn2 (by omega) (by omega),
      .k (pp ((G4 8).b) 2),
      .ld 1 2 false (fun _ => [iv x1.Blind]),
      .k (pp ((G4 9).b) 2),
      .ld 2 2 false (fun _ => [iv x2.Blind]),
      .ar (x1.Blind + x2.Blind) n3 hn3 (by omega) (by omega),
      .k (iv left),
      .k (iv right),
      .k (ag (DThing.mk ByteArray.empty n2 n3 left right)),
      .nb 13 3 (fun b => pp b 0) 44 (fun _ => ca (DThing.mk ByteArray.empty 0 0 0 0)),
      .st 3 (fun G => .blk ((G 13).b) (ca (DThing.mk ByteArray.empty n2 n3 left right)) 44)] (fun _ _ => by kernel_rfl) fun _ _ G5 => ?_
    intro S5 t5
    refine nm ((decide (1125899906842624 < n2)) || (decide (1125899906842624 < n3)) : Bool) fun p2 hp2 => ?_
    refine V.go [.k (pp ((G5 13).b) 1),
      .ld 3 1 false (fun _ => [iv n2]),
      .k (bv (decide (1125899906842624 < n2))),
      .k (bv (decide (1125899906842624 < n2))),
      .k (pp ((G5 13).b) 2),
      .ld 3 2 false (fun _ => [iv n3]),
      .k (bv (decide (1125899906842624 < n3))),
      .orn g0 false (decide (1125899906842624 < n2)) (decide (1125899906842624 < n3)) p2 hp2] (fun _ _ => by kernel_rfl) fun _ _ G6 => ?_
    intro S6 t6
    refine V.cond (b := p2) (iN hp2 (iOT iDT iDT)) (iN hp2 (iOF iDF iDF)) (by kernel_rfl) (fun q3 => ?_) (fun q4 => ?_)
    · skip
      refine V.go [.k (ag (DThing.mk ByteArray.empty 0 0 0 0)),
        .st 0 (fun _ => .blk ((G1 0).b) (ca (DThing.mk ByteArray.empty 0 0 0 0)) 44),
        .k (iv 3)] (fun _ _ => by kernel_rfl) fun _ _ G7 => ?_
      intro S7 t7
      have hh : Tm.has l left ∧ Tm.has l right := by unfold Tm.has; omega
      have hp := Tm.pairE_big hx1 hx2 hh (by omega)
      have hT := Tm.pairT_no (l := l) (a := left) (b := right) (by omega)
      have e0 : ByteArray.empty = (Tm.pairT l left right).Text := by
        first | rw [hT] | exact hp.symm
      have e1 : (0 : Int) = (Tm.pairT l left right).Value := by
        first | rw [hT] | exact hp.symm
      have e2 : (0 : Int) = (Tm.pairT l left right).Blind := by
        first | rw [hT] | exact hp.symm
      have e3 : (0 : Int) = (Tm.pairT l left right).Left := by
        first | rw [hT] | exact hp.symm
      have e4 : (0 : Int) = (Tm.pairT l left right).Right := by
        first | rw [hT] | exact hp.symm
      have e5 : (3 : Int) = Tm.pairE l left right := by
        first | rw [hT] | exact hp.symm
      exact V.ret [0, 0] [] [] [] [] [] (.tuple #[ag (DThing.mk ByteArray.empty 0 0 0 0), iv 3]) (fun _ _ => by kernel_rfl) (fun _ _ => (Eq.trans (by kernel_rfl) (cong6 (fun (x0 : ByteArray) (x1 : Int) (x2 : Int) (x3 : Int) (x4 : Int) (x5 : Int) => (.tuple #[.agg #[tv x0, iv x1, iv x2, iv x3, iv x4], iv x5] : Value)) e0 e1 e2 e3 e4 e5)).trans (by kernel_rfl)) (fun _ _ => trivial)
    · skip
      refine V.go [.ld 3 0 true (fun _ => Dat.cells (DThing.mk ByteArray.empty n2 n3 left right)),
        .st 0 (fun _ => .blk ((G1 0).b) (ca (DThing.mk ByteArray.empty n2 n3 left right)) 44),
        .k (iv 0)] (fun _ _ => by kernel_rfl) fun _ _ G8 => ?_
      intro S8 t8
      have hh : Tm.has l left ∧ Tm.has l right := by unfold Tm.has; omega
      have hp := Tm.pairE_ok hx1 hx2 hh (by omega)
      have hT := Tm.pairT_ok hx1 hx2 hp (v := n2) (w := n3) (by omega) (by omega)
      have e0 : ByteArray.empty = (Tm.pairT l left right).Text := by
        first | rw [hT] | exact hp.symm
      have e1 : n2 = (Tm.pairT l left right).Value := by
        first | rw [hT] | exact hp.symm
      have e2 : n3 = (Tm.pairT l left right).Blind := by
        first | rw [hT] | exact hp.symm
      have e3 : left = (Tm.pairT l left right).Left := by
        first | rw [hT] | exact hp.symm
      have e4 : right = (Tm.pairT l left right).Right := by
        first | rw [hT] | exact hp.symm
      have e5 : (0 : Int) = Tm.pairE l left right := by
        first | rw [hT] | exact hp.symm
      exact V.ret [0, 0] [] [] [] [] [] (.tuple #[ag (DThing.mk ByteArray.empty n2 n3 left right), iv 0]) (fun _ _ => by kernel_rfl) (fun _ _ => (Eq.trans (by kernel_rfl) (cong6 (fun (x0 : ByteArray) (x1 : Int) (x2 : Int) (x3 : Int) (x4 : Int) (x5 : Int) => (.tuple #[.agg #[tv x0, iv x1, iv x2, iv x3, iv x4], iv x5] : Value)) e0 e1 e2 e3 e4 e5)).trans (by kernel_rfl)) (fun _ _ => trivial)

set_option maxRecDepth 10000 in
theorem sound_ct (v : List DThing) (vs : SV) :
    Cp Try.prog 26 #[ag (DVault.mk ⟨v, vs⟩)] [fs true v vs] (bv (decide (Tm.Sound v))) := by
  refine V.fn mo Try.func26 41 3 (by kernel_rfl) fun w H ε k0 => ?_
  obtain ⟨⟨kl1, -⟩, -⟩ : Lq v vs.v ∧ True := kn k0 (by kernel_rfl)
  clear k0
  refine V.go [.nb 0 0 (fun b => pp b 0) 24 (fun _ => ca (DVault.mk ⟨v, vs⟩)),
    .k (bv false)] (fun _ _ => by kernel_rfl) fun _ _ G1 => ?_
  intro S1 t1
  refine V.go [.k (pp ((G1 0).b) 0),
    .ld 0 0 false (fun _ => [vs.v]),
    .ln (kf false (.f 0) v (fun _ => vs)),
    .k (bv (decide (2000 < (v.length : Int))))] (fun _ _ => by kernel_rfl) fun _ _ G2 => ?_
  intro S2 t2
  refine V.cond (b := decide (2000 < (v.length : Int))) iDT iDF (by kernel_rfl) (fun q1 => ?_) (fun q2 => ?_)
  · skip
    refine V.go [.k (bv false)] (fun _ _ => by kernel_rfl) fun _ _ G3 => ?_
    intro S3 t3
    have e0 : false = decide (Tm.Sound v) := by
      exact Tm.sound_len (by omega)
    exact V.ret [0] [] [] [] [] [] (bv false) (fun _ _ => by kernel_rfl) (fun _ _ => (Eq.trans (by kernel_rfl) (cong1 (fun (x0 : Bool) => (bv x0 : Value)) e0)).trans (by kernel_rfl)) (fun _ _ => trivial)
  · skip
    refine V.go [.k (pp ((G1 0).b) 0),
      .ld 0 0 false (fun _ => [vs.v]),
      .ln (kf false (.f 0) v (fun _ => vs)),
      .k (iv 0)] (fun _ _ => by kernel_rfl) fun _ _ G4 => ?_
    intro S4 t4
    refine V.loop (γ := Int) (fun k0 => ⟨[(1, pp ((G1 0).b) 0), (12, vs.v), (13, iv (v.length : Int)), (14, iv k0)], [fs false v vs], [.blk ((G1 0).b) (ca (DVault.mk ⟨v, vs⟩)) 24, .no, .no]⟩) (fun k0 => (0 ≤ k0) ∧ (k0 ≤ (v.length : Int)) ∧ (Tm.okTo v k0.toNat)) (fun k0 => ((v.length : Int) - k0).toNat) 0 (by kernel_rfl) [0] (by kernel_rfl) ?_ ?_
    · skip
      refine ⟨?_, ?_, ?_⟩
      · show 0 ≤ (0 : Int)
        first | omega | rfl | (simp; done) | (subst_vars; simp; done)
      · show (0 : Int) ≤ (v.length : Int)
        first | omega | rfl | (simp; done) | (subst_vars; simp; done)
      · show Tm.okTo v (0 : Int).toNat
        intro i hi; simp at hi
    · rintro k0 hF1 kw5 Z1 hZ1
      have hF1 : (0 ≤ k0) ∧ (k0 ≤ (v.length : Int)) ∧ (Tm.okTo v k0.toNat) := hF1
      obtain ⟨hf1, hf2, hf3⟩ := hF1
      clear kw5
      refine V.go [.k (bv (decide (k0 < (v.length : Int))))] (fun _ _ => by kernel_rfl) fun _ _ G5 => ?_
      intro S5 t5
      refine V.cond (b := decide (k0 < (v.length : Int))) iDT iDF (by kernel_rfl) (fun q3 => ?_) (fun q4 => ?_)
      · skip
        refine nm (v.getD k0.toNat default : DThing) fun x1 hx1 => ?_
        refine V.go [.k (iv k0),
          .ix g0 (kf false (.f 0) v (fun _ => vs)) k0 (fun _ => ⟨by omega, by omega⟩),
          .le g0 (kf false (.f 0) v (fun _ => vs)) k0 none false x1 hx1 (fun _ => ⟨by omega, by omega⟩) true (fun _ => Dat.cells x1),
          .nb 3 1 (fun b => pp b 0) 44 (fun _ => ca (DThing.mk ByteArray.empty 0 0 0 0)),
          .k (iv k0),
          .st 1 (fun G => .blk ((G 3).b) (ca x1) 44)] (fun _ _ => by kernel_rfl) fun _ _ G6 => ?_
        intro S6 t6
        refine V.go [.ld 1 0 true (fun _ => Dat.cells x1),
          .cp g0 1 58 [] (fun _ G => leaf_ct x1.Text x1.Value x1.Blind x1.Left x1.Right)] (fun _ _ => by kernel_rfl) fun _ _ G7 => ?_
        intro S7 t7
        refine V.cond (b := decide (Tm.isLeaf ⟨x1.Text, x1.Value, x1.Blind, x1.Left, x1.Right⟩)) iDT iDF (by kernel_rfl) (fun q5 => ?_) (fun q6 => ?_)
        · skip
          refine V.go [.a (k0 + 1) (by omega) (by omega),
            .k (iv (k0 + 1))] (fun _ _ => by kernel_rfl) fun _ _ G8 => ?_
          intro S8 t8
          refine V.rnd hZ1 (k0 + 1) [0] (by kernel_rfl) ?_ ?_
          · skip
            refine ⟨?_, ?_, ?_⟩
            · show 0 ≤ (k0 + 1)
              first | omega | rfl | (simp; done) | (subst_vars; simp; done)
            · show (k0 + 1) ≤ (v.length : Int)
              first | omega | rfl | (simp; done) | (subst_vars; simp; done)
            · show Tm.okTo v (k0 + 1).toNat
              refine Tm.sound_step (by assumption) (by assumption) (by assumption) rfl (Tm.okT_iff.2 ?_)
              exact .inl (by assumption)
          · show ((v.length : Int) - (k0 + 1)).toNat < ((v.length : Int) - k0).toNat
            omega
        · skip
          refine nm (v.take k0.toNat : List DThing) fun l1 hl1 => ?_
          have hl1n := congrArg List.length hl1; try simp only [List.length_append, List.length_cons, List.length_nil, List.length_replicate, List.length_set, List.length_take, List.length_drop, List.length_map, List.length_reverse, List.length_range] at hl1n
          refine V.reg [.k (pp ((G1 0).b) 0),
            .ld 0 0 false (fun _ => [vs.v]),
            .k (iv k0),
            .sl g0 (kf false (.f 0) v (fun _ => vs)) rfl none (some k0) 0 k0 rfl rfl l1 (by rw [hl1]; simp) (fun _ => ⟨by omega, by omega, by omega⟩),
            .k (pp ((G6 3).b) 3),
            .ld 1 3 false (fun _ => [iv x1.Left]),
            .k (pp ((G6 3).b) 4),
            .ld 1 4 false (fun _ => [iv x1.Right]),
            .cp g0 8 59 [(kf false (.g 3 0) l1 (fun _ => (vs.sub 5 (0 : Int).toNat k0.toNat))).a] (fun _ G => pair_ct l1 (vs.sub 5 (0 : Int).toNat k0.toNat) x1.Left x1.Right (by rw [hl1]; exact Tm.bd_take (by assumption) (by omega))),
            .k (.tuple #[ag (Tm.pairT l1 x1.Left x1.Right), iv (Tm.pairE l1 x1.Left x1.Right)]),
            .k (ag (Tm.pairT l1 x1.Left x1.Right)),
            .k (iv (Tm.pairE l1 x1.Left x1.Right)),
            .nb 12 2 (fun b => pp b 0) 44 (fun _ => ca (DThing.mk ByteArray.empty 0 0 0 0)),
            .st 2 (fun G => .blk ((G 12).b) (ca (Tm.pairT l1 x1.Left x1.Right)) 44),
            .k (iv (Tm.pairE l1 x1.Left x1.Right))] (fun _ _ => by kernel_rfl) fun _ _ G9 kw10 => ?_
          intro S9 t9
          obtain ⟨⟨kl2, -⟩, -⟩ : Lq l1 ((vs.sub 5 (0 : Int).toNat k0.toNat).v) ∧ True := kn kw10 (by kernel_rfl)
          clear kw10
          refine nm ((!(decide (Tm.pairE l1 x1.Left x1.Right = 0))) || (!(decide (x1.Text = (Tm.pairT l1 x1.Left x1.Right).Text ∧ x1.Value = (Tm.pairT l1 x1.Left x1.Right).Value ∧ x1.Blind = (Tm.pairT l1 x1.Left x1.Right).Blind ∧ x1.Left = (Tm.pairT l1 x1.Left x1.Right).Left ∧ x1.Right = (Tm.pairT l1 x1.Left x1.Right).Right))) : Bool) fun p1 hp1 => ?_
          refine V.go [.k (iv (Tm.pairE l1 x1.Left x1.Right)),
            .k (bv (!(decide (Tm.pairE l1 x1.Left x1.Right = 0)))),
            .k (bv (!(decide (Tm.pairE l1 x1.Left x1.Right = 0)))),
            .ld 1 0 true (fun _ => Dat.cells x1),
            .ld 2 0 true (fun _ => Dat.cells (Tm.pairT l1 x1.Left x1.Right)),
            .aeq true 44 (ca x1) (ca (Tm.pairT l1 x1.Left x1.Right)) _ fun w => thing_equal w x1.Text x1.Value x1.Blind x1.Left x1.Right ((Tm.pairT l1 x1.Left x1.Right).Text) ((Tm.pairT l1 x1.Left x1.Right).Value) ((Tm.pairT l1 x1.Left x1.Right).Blind) ((Tm.pairT l1 x1.Left x1.Right).Left) ((Tm.pairT l1 x1.Left x1.Right).Right),
            .orn g0 false (!(decide (Tm.pairE l1 x1.Left x1.Right = 0))) (!(decide (x1.Text = (Tm.pairT l1 x1.Left x1.Right).Text ∧ x1.Value = (Tm.pairT l1 x1.Left x1.Right).Value ∧ x1.Blind = (Tm.pairT l1 x1.Left x1.Right).Blind ∧ x1.Left = (Tm.pairT l1 x1.Left x1.Right).Left ∧ x1.Right = (Tm.pairT l1 x1.Left x1.Right).Right))) p1 hp1] (fun _ _ => by kernel_rfl) fun _ _ G10 => ?_
          intro S10 t10
          refine V.cond (b := p1) (iN hp1 (iOT (iNT iDF) (iNT iDF))) (iN hp1 (iOF (iNF iDT) (iNF iDT))) (by kernel_rfl) (fun q7 => ?_) (fun q8 => ?_)
          · skip
            refine V.go [.k (bv false)] (fun _ _ => by kernel_rfl) fun _ _ G11 => ?_
            intro S11 t11
            have e0 : false = decide (Tm.Sound v) := by
              rw [hl1] at q7
              exact Tm.sound_no (k := k0) (by assumption) (by omega) (by assumption) (by assumption) (by assumption)
            exact V.ret [0] [] [] [] [] [] (bv false) (fun _ _ => by kernel_rfl) (fun _ _ => (Eq.trans (by kernel_rfl) (cong1 (fun (x0 : Bool) => (bv x0 : Value)) e0)).trans (by kernel_rfl)) (fun _ _ => trivial)
          · skip
            refine V.go [.a (k0 + 1) (by omega) (by omega),
              .k (iv (k0 + 1))] (fun _ _ => by kernel_rfl) fun _ _ G12 => ?_
            intro S12 t12
            refine V.rnd hZ1 (k0 + 1) [0] (by kernel_rfl) ?_ ?_
            · skip
              refine ⟨?_, ?_, ?_⟩
              · show 0 ≤ (k0 + 1)
                first | omega | rfl | (simp; done) | (subst_vars; simp; done)
              · show (k0 + 1) ≤ (v.length : Int)
                first | omega | rfl | (simp; done) | (subst_vars; simp; done)
              · show Tm.okTo v (k0 + 1).toNat
                refine Tm.sound_step (by assumption) (by assumption) (by assumption) rfl (Tm.okT_iff.2 ?_)
                rw [hl1] at q8
                exact .inr (by assumption)
            · show ((v.length : Int) - (k0 + 1)).toNat < ((v.length : Int) - k0).toNat
              omega
      · skip
        refine V.go [.k (bv true)] (fun _ _ => by kernel_rfl) fun _ _ G13 => ?_
        intro S13 t13
        have e0 : true = decide (Tm.Sound v) := by
          exact Tm.sound_yes (by assumption) (by assumption) rfl (by assumption) (by assumption) (by assumption)
        exact V.ret [0] [] [] [] [] [] (bv true) (fun _ _ => by kernel_rfl) (fun _ _ => (Eq.trans (by kernel_rfl) (cong1 (fun (x0 : Bool) => (bv x0 : Value)) e0)).trans (by kernel_rfl)) (fun _ _ => trivial)

set_option maxRecDepth 10000 in
theorem opens_ct (v : List DThing) (vs : SV) (i : Int) (text : ByteArray) (value blind : Int) :
    Cp Try.prog 27 #[ag (DVault.mk ⟨v, vs⟩), iv i, tv text, iv value, iv blind] [fs true v vs] (bv (decide (Tm.opensP v i text value blind))) := by
  refine V.fn mo Try.func27 45 2 (by kernel_rfl) fun w H ε k0 => ?_
  obtain ⟨⟨kl1, -⟩, -⟩ : Lq v vs.v ∧ True := kn k0 (by kernel_rfl)
  clear k0
  refine V.go [.nb 0 0 (fun b => pp b 0) 24 (fun _ => ca (DVault.mk ⟨v, vs⟩)),
    .k (bv false)] (fun _ _ => by kernel_rfl) fun _ _ G1 => ?_
  intro S1 t1
  refine nm ((v.length : Int) - 1 : Int) fun n1 hn1 => ?_
  refine nm ((!(decide (Tm.Sound v))) || (!(decide (0 ≤ i ∧ i ≤ n1))) : Bool) fun p1 hp1 => ?_
  refine V.go [.ld 0 0 true (fun _ => Dat.cells (DVault.mk ⟨v, vs⟩)),
    .cp g0 1 26 [(kf false (.f 0) v (fun _ => vs)).a] (fun _ G => sound_ct v vs),
    .k (bv (!(decide (Tm.Sound v)))),
    .k (bv (!(decide (Tm.Sound v)))),
    .k (iv i),
    .k (pp ((G1 0).b) 0),
    .ld 0 0 false (fun _ => [vs.v]),
    .ln (kf false (.f 0) v (fun _ => vs)),
    .arg (gF (b := !(decide (Tm.Sound v))) (iNF iDT)) ((v.length : Int) - 1) n1 hn1 (fun hg => by omega),
    .cp (gF (b := !(decide (Tm.Sound v))) (iNF iDT)) 9 60 [] (fun hg G => within_ct i n1),
    .k (bv (!(decide (0 ≤ i ∧ i ≤ n1)))),
    .orn g0 false (!(decide (Tm.Sound v))) (!(decide (0 ≤ i ∧ i ≤ n1))) p1 hp1] (fun _ _ => by kernel_rfl) fun _ _ G2 => ?_
  intro S2 t2
  refine V.cond (b := p1) (iN hp1 (iOT (iNT iDF) (iNT iDF))) (iN hp1 (iOF (iNF iDT) (iNF iDT))) (by kernel_rfl) (fun q1 => ?_) (fun q2 => ?_)
  · skip
    refine V.go [.k (bv false)] (fun _ _ => by kernel_rfl) fun _ _ G3 => ?_
    intro S3 t3
    have e0 : false = decide (Tm.opensP v i text value blind) := by
      symm; rw [decide_eq_false_iff_not]; rintro ⟨h1, h2, _⟩; simp only [Tm.has] at h2; rcases q1 with h | h
      · exact h h1
      · omega
    exact V.ret [0] [] [] [] [] [] (bv false) (fun _ _ => by kernel_rfl) (fun _ _ => (Eq.trans (by kernel_rfl) (cong1 (fun (x0 : Bool) => (bv x0 : Value)) e0)).trans (by kernel_rfl)) (fun _ _ => trivial)
  · skip
    refine nm (v.getD i.toNat default : DThing) fun x1 hx1 => ?_
    refine V.go [.k (pp ((G1 0).b) 0),
      .ld 0 0 false (fun _ => [vs.v]),
      .k (iv i),
      .ix g0 (kf false (.f 0) v (fun _ => vs)) i (fun _ => ⟨by omega, by omega⟩),
      .le g0 (kf false (.f 0) v (fun _ => vs)) i none false x1 hx1 (fun _ => ⟨by omega, by omega⟩) true (fun _ => Dat.cells x1),
      .nb 5 1 (fun b => pp b 0) 44 (fun _ => ca (DThing.mk ByteArray.empty 0 0 0 0)),
      .st 1 (fun G => .blk ((G 5).b) (ca x1) 44)] (fun _ _ => by kernel_rfl) fun _ _ G4 => ?_
    intro S4 t4
    refine nm ((decide (x1.Text = text)) && (decide (x1.Value = value)) : Bool) fun p2 hp2 => ?_
    refine V.go [.k (pp ((G4 5).b) 0),
      .ld 1 0 false (fun _ => [tv x1.Text]),
      .k (tv text),
      .seq x1.Text text,
      .k (bv (decide (x1.Text = text))),
      .k (pp ((G4 5).b) 1),
      .ld 1 1 false (fun _ => [iv x1.Value]),
      .k (iv value),
      .k (bv (decide (x1.Value = value))),
      .andn g0 false (decide (x1.Text = text)) (decide (x1.Value = value)) p2 hp2,
      .k (bv p2),
      .k (pp ((G4 5).b) 2),
      .ld 1 2 false (fun _ => [iv x1.Blind]),
      .k (iv blind),
      .k (bv (decide (x1.Blind = blind))),
      .and g0 false p2 (decide (x1.Blind = blind)),
      .k (bv (p2 && (decide (x1.Blind = blind))))] (fun _ _ => by kernel_rfl) fun _ _ G5 => ?_
    intro S5 t5
    have e0 : (p2 && (decide (x1.Blind = blind))) = decide (Tm.opensP v i text value blind) := by
      refine Bool.eq_iff_iff.2 (Iff.trans (iAT (iN hp2 (iAT iDT iDT)) iDT) (Iff.trans ?_ decide_eq_true_iff.symm))
      unfold Tm.opensP Tm.has Tm.el; rw [← hx1]
      have hS : Tm.Sound v := by rcases q2 with ⟨h, _⟩; first | exact h | exact Decidable.not_not.1 h
      constructor
      · intro h; exact ⟨hS, by omega, h.1.1, h.1.2, h.2⟩
      · rintro ⟨_, _, h1, h2, h3⟩; exact ⟨⟨h1, h2⟩, h3⟩
    exact V.ret [0] [] [] [] [] [] (bv (p2 && (decide (x1.Blind = blind)))) (fun _ _ => by kernel_rfl) (fun _ _ => (Eq.trans (by kernel_rfl) (cong1 (fun (x0 : Bool) => (bv x0 : Value)) e0)).trans (by kernel_rfl)) (fun _ _ => trivial)

end Kb
