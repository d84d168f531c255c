/- The contracts of the references: vault. -/
import Derived.Test.YtaolgnmpgnamnaaTb
import Derived.Test.YtaolgnmpgnamnaaTp
set_option linter.unusedVariables false
set_option linter.unusedSimpArgs false
namespace Kb
open Go Go.Proofs
theorem mo_ra : Try.prog.follows .mixedOrders = true := by kernel_rfl
noncomputable def rin_ct_r71_0 (n low high : Int) : RC := { ops := opsAt Try.f71 0, B := [0], sl := [(0, .int .i64 n), (1, .int .i64 low), (2, .int .i64 high)], A := [], L := [], cs := [{ val := fun _ => .bool false }] }
noncomputable def rin_ct_r71_1 (n low high : Int) (p1 p2 p3 : Bool) : RC := { ops := opsAt Try.f71 1, B := [0, 0, 3, 7, 15, 15, 63, 127, 255], sl := [(0, .int .i64 n), (1, .int .i64 low), (2, .int .i64 high)], A := [], L := [], cs := [{ val := fun _ => .int .i64 n }, { val := fun _ => .int .i64 low }, { val := fun _ => .bool p1 }, { val := fun _ => .bool p1 }, { val := fun _ => .int .i64 n }, { val := fun _ => .int .i64 high }, { val := fun _ => .bool p2 }, { val := fun _ => .bool p3 }, { val := fun _ => .bool p3 }] }
set_option maxRecDepth 10000 in
theorem rin_ct (n low high : Int) (w0 : World) :
    Calls Try.prog 71 #[.int .i64 n, .int .i64 low, .int .i64 high] w0 (fun e w' => e = .returned (.bool ((decide (low ≤ n ∧ n ≤ high)))) ∧ Base [] w0 w') := by
  refine calls_of_W (sl := [(0, .int .i64 n), (1, .int .i64 low), (2, .int .i64 high)]) (A := []) (L := []) Try.func71 (by kernel_rfl) 15 (by kernel_rfl) (by kernel_rfl) (fun _ h => by cases h) (by simp) ?_
  refine W.seq (by kernel_rfl) ?_
  refine W.regV (rin_ct_r71_0 n low high) [0] [] (fun G => [.bool false]) (by kernel_rfl) mo_ra (by kernel_rfl) (fun _ _ => by kernel_rfl) trivial (by kernel_rfl) ?_
  intro G1 xa xw hDn
  refine hDn.to [0, 1, 2] [] (by kernel_rfl) ?_
  clear hDn
  refine Pre.conv (sl := [(0, .int .i64 n), (1, .int .i64 low), (2, .int .i64 high)]) (A := []) (L := []) ?_ (by kernel_rfl) (by kernel_rfl) (by kernel_rfl)
  clear G1
  refine At.then ?_
  refine W.seq (by kernel_rfl) ?_
  obtain ⟨p1, hp1⟩ : ∃ zz : Bool, zz = decide (low ≤ n) := ⟨_, rfl⟩
  obtain ⟨p2, hp2⟩ : ∃ zz : Bool, zz = decide (n ≤ high) := ⟨_, rfl⟩
  obtain ⟨p3, hp3⟩ : ∃ zz : Bool, zz = (p1 && p2) := ⟨_, rfl⟩
  refine W.regV (rin_ct_r71_1 n low high p1 p2 p3) [0, 1, 3, 4, 5, 8] [2, 6, 7] (fun G => [.int .i64 n, .int .i64 low, .bool p1, .int .i64 n, .int .i64 high, .bool p3]) (by kernel_rfl) mo_ra (by kernel_rfl) (fun _ _ => by kernel_rfl) ⟨?_, ?_, ?_, trivial⟩ (by kernel_rfl) ?_
  · exact One.bo hp1 (fun _ _ => by kernel_rfl)
  · exact One.bo hp2 (fun _ _ => by kernel_rfl)
  · subst hp3
    cases p1 <;> exact One.under fun _ _ _ => by kernel_rfl
  intro G2 xa xw hDn
  refine hDn.to [6] [] (by kernel_rfl) ?_
  clear hDn
  refine Pre.conv (sl := [(6, .bool p3)]) (A := []) (L := []) ?_ (by kernel_rfl) (by kernel_rfl) (by kernel_rfl)
  clear G2
  refine At.then ?_
  refine W.ret (by kernel_rfl) ?_
  refine At.results (Or.inl rfl) (.bool p3) (fun xa xw hs hw => results_one (r := .tmp 6) (by kernel_rfl) (res_tmp (t := 6) (by kernel_rfl) hs)) (fun w' hw => ?_)
  have e0 : p3 = (decide (low ≤ n ∧ n ≤ high)) := by
    rw [Bool.eq_iff_iff, (iN hp3 (iAT (iN hp1 iDT) (iN hp2 iDT))), decide_eq_true_iff]
  exact ⟨congrArg Ending.returned (cong1 (fun (x0 : Bool) => (.bool x0 : Value)) e0), hw.base⟩

noncomputable def leafy_ct_r53_0 (x_Text : ByteArray) (x_Value x_Blind x_Left x_Right : Int) : RC := { ops := opsAt Try.f53 0, B := [0, 0], sl := [(0, .agg #[.string x_Text, .int .i64 x_Value, .int .i64 x_Blind, .int .i64 x_Left, .int .i64 x_Right])], A := [], L := [none], cs := [{ val := fun G => .pointer (some ⟨(G 0).b, 0, none⟩), ups := [(0, fun G => some ((G 0).b, .cells #[.string x_Text, .int .i64 x_Value, .int .i64 x_Blind, .int .i64 x_Left, .int .i64 x_Right] 44 (0, 0)))] }, { val := fun _ => .bool false }] }
noncomputable def leafy_ct_r53_1 (x_Text : ByteArray) (x_Value x_Blind x_Left x_Right : Int) (b1 : Nat) (p1 p2 p3 : Bool) : RC := { ops := opsAt Try.f53 1, B := [0, 1, 3, 7, 15, 31, 63, 127, 255], sl := [(1, .pointer (some ⟨b1, 0, none⟩))], A := [], L := [some (b1, .cells #[.string x_Text, .int .i64 x_Value, .int .i64 x_Blind, .int .i64 x_Left, .int .i64 x_Right] 44 (0, 0))], cs := [{ val := fun _ => .pointer (some ⟨b1, 3, none⟩) }, { val := fun _ => .int .i64 x_Left, rds := [0] }, { val := fun _ => .bool p1 }, { val := fun _ => .bool p1 }, { val := fun _ => .pointer (some ⟨b1, 4, none⟩) }, { val := fun _ => .int .i64 x_Right, rds := [0] }, { val := fun _ => .bool p2 }, { val := fun _ => .bool p3 }, { val := fun _ => .bool p3 }] }
set_option maxRecDepth 10000 in
theorem leafy_ct (x_Text : ByteArray) (x_Value x_Blind x_Left x_Right : Int) (w0 : World) :
    Calls Try.prog 53 #[.agg #[.string x_Text, .int .i64 x_Value, .int .i64 x_Blind, .int .i64 x_Left, .int .i64 x_Right]] w0 (fun e w' => e = .returned (.bool ((decide (x_Left = -1 ∧ x_Right = -1)))) ∧ Base [] w0 w') := by
  refine calls_of_W (sl := [(0, .agg #[.string x_Text, .int .i64 x_Value, .int .i64 x_Blind, .int .i64 x_Left, .int .i64 x_Right])]) (A := []) (L := [none]) Try.func53 (by kernel_rfl) 11 (by kernel_rfl) (by kernel_rfl) (fun _ h => by cases h) (by simp) ?_
  refine W.seq (by kernel_rfl) ?_
  refine W.regV (leafy_ct_r53_0 x_Text x_Value x_Blind x_Left x_Right) [1] [0] (fun G => [.bool false]) (by kernel_rfl) mo_ra (by kernel_rfl) (fun _ _ => by kernel_rfl) ⟨?_, trivial⟩ (by kernel_rfl) ?_
  · exact One.new (r := 0) (T := 44) (fun b => .pointer (some ⟨b, 0, none⟩)) (arr := fun G => #[.string x_Text, .int .i64 x_Value, .int .i64 x_Blind, .int .i64 x_Left, .int .i64 x_Right]) (fun G w => by kernel_rfl) (fun G b => by kernel_rfl)
  intro G1 xa xw hDn
  refine hDn.to [1] [] (by kernel_rfl) ?_
  clear hDn
  refine Pre.conv (sl := [(1, .pointer (some ⟨(G1 0).b, 0, none⟩))]) (A := []) (L := [some ((G1 0).b, .cells #[.string x_Text, .int .i64 x_Value, .int .i64 x_Blind, .int .i64 x_Left, .int .i64 x_Right] 44 (0, 0))]) ?_ (by kernel_rfl) (by kernel_rfl) (by kernel_rfl)
  generalize (G1 0).b = b1 at ⊢
  clear G1
  refine At.then ?_
  refine W.seq (by kernel_rfl) ?_
  obtain ⟨p1, hp1⟩ : ∃ zz : Bool, zz = decide (x_Left = (-1)) := ⟨_, rfl⟩
  obtain ⟨p2, hp2⟩ : ∃ zz : Bool, zz = decide (x_Right = (-1)) := ⟨_, rfl⟩
  obtain ⟨p3, hp3⟩ : ∃ zz : Bool, zz = (p1 && p2) := ⟨_, rfl⟩
  refine W.regV (leafy_ct_r53_1 x_Text x_Value x_Blind x_Left x_Right b1 p1 p2 p3) [0, 3, 4, 8] [1, 2, 5, 6, 7] (fun G => [.pointer (some ⟨b1, 3, none⟩), .bool p1, .pointer (some ⟨b1, 4, none⟩), .bool p3]) (by kernel_rfl) mo_ra (by kernel_rfl) (fun _ _ => by kernel_rfl) ⟨?_, ?_, ?_, ?_, ?_, trivial⟩ (by kernel_rfl) ?_
  · exact One.loadE (t := 3) (r := 0) (off := 3) (b := fun G => b1) (vs := fun G => [.int .i64 x_Left]) (arr := fun G => #[.string x_Text, .int .i64 x_Value, .int .i64 x_Blind, .int .i64 x_Left, .int .i64 x_Right]) (T := 44) (fr := (0, 0)) (fun G => ⟨by kernel_rfl⟩) (fun G => by kernel_rfl)
  · exact One.bo hp1 (fun _ _ => by kernel_rfl)
  · exact One.loadE (t := 3) (r := 0) (off := 4) (b := fun G => b1) (vs := fun G => [.int .i64 x_Right]) (arr := fun G => #[.string x_Text, .int .i64 x_Value, .int .i64 x_Blind, .int .i64 x_Left, .int .i64 x_Right]) (T := 44) (fr := (0, 0)) (fun G => ⟨by kernel_rfl⟩) (fun G => by kernel_rfl)
  · exact One.bo hp2 (fun _ _ => by kernel_rfl)
  · subst hp3
    cases p1 <;> exact One.under fun _ _ _ => by kernel_rfl
  intro G2 xa xw hDn
  refine hDn.to [2] [] (by kernel_rfl) ?_
  clear hDn
  refine Pre.conv (sl := [(2, .bool p3)]) (A := []) (L := [some (b1, .cells #[.string x_Text, .int .i64 x_Value, .int .i64 x_Blind, .int .i64 x_Left, .int .i64 x_Right] 44 (0, 0))]) ?_ (by kernel_rfl) (by kernel_rfl) (by kernel_rfl)
  clear G2
  refine At.then ?_
  refine W.ret (by kernel_rfl) ?_
  refine At.results (Or.inl rfl) (.bool p3) (fun xa xw hs hw => results_one (r := .tmp 2) (by kernel_rfl) (res_tmp (t := 2) (by kernel_rfl) hs)) (fun w' hw => ?_)
  have e0 : p3 = (decide (x_Left = -1 ∧ x_Right = -1)) := by
    rw [Bool.eq_iff_iff, (iN hp3 (iAT (iN hp1 iDT) (iN hp2 iDT))), decide_eq_true_iff]
  exact ⟨congrArg Ending.returned (cong1 (fun (x0 : Bool) => (.bool x0 : Value)) e0), hw.base⟩

noncomputable def rleaf_ct_r70_0 (x_Text : ByteArray) (x_Value x_Blind x_Left x_Right : Int) : RC := { ops := opsAt Try.f70 0, B := [0, 0], sl := [(0, .agg #[.string x_Text, .int .i64 x_Value, .int .i64 x_Blind, .int .i64 x_Left, .int .i64 x_Right])], A := [], L := [none], cs := [{ val := fun G => .pointer (some ⟨(G 0).b, 0, none⟩), ups := [(0, fun G => some ((G 0).b, .cells #[.string x_Text, .int .i64 x_Value, .int .i64 x_Blind, .int .i64 x_Left, .int .i64 x_Right] 44 (0, 0)))] }, { val := fun _ => .bool false }] }
noncomputable def rleaf_ct_r70_1 (x_Text : ByteArray) (x_Value x_Blind x_Left x_Right : Int) (b1 : Nat) (p1 : Bool) (n1 : Int) (p2 p3 p4 p5 p6 p7 : Bool) : RC := { ops := opsAt Try.f70 1, B := [0, 1, 3, 7, 15, 31, 63, 127, 255, 511, 1023, 2047, 4095, 8191, 16383, 32767, 65535, 131071, 262143], sl := [(1, .pointer (some ⟨b1, 0, none⟩))], A := [], L := [some (b1, .cells #[.string x_Text, .int .i64 x_Value, .int .i64 x_Blind, .int .i64 x_Left, .int .i64 x_Right] 44 (0, 0))], cs := [{ val := fun _ => .agg #[.string x_Text, .int .i64 x_Value, .int .i64 x_Blind, .int .i64 x_Left, .int .i64 x_Right], rds := [0] }, { val := fun _ => .bool p1 }, { val := fun _ => .bool p1 }, { val := fun _ => .pointer (some ⟨b1, 0, none⟩) }, { val := fun _ => .string x_Text, rds := [0] }, { val := fun _ => .int .i64 n1 }, { val := fun _ => .bool p2 }, { val := fun _ => .bool p3 }, { val := fun _ => .bool p3 }, { val := fun _ => .pointer (some ⟨b1, 1, none⟩) }, { val := fun _ => .int .i64 x_Value, rds := [0] }, { val := fun _ => .bool p4 }, { val := fun _ => .bool p5 }, { val := fun _ => .bool p5 }, { val := fun _ => .pointer (some ⟨b1, 2, none⟩) }, { val := fun _ => .int .i64 x_Blind, rds := [0] }, { val := fun _ => .bool p6 }, { val := fun _ => .bool p7 }, { val := fun _ => .bool p7 }] }
set_option maxRecDepth 10000 in
theorem rleaf_ct (x_Text : ByteArray) (x_Value x_Blind x_Left x_Right : Int) (w0 : World) :
    Calls Try.prog 70 #[.agg #[.string x_Text, .int .i64 x_Value, .int .i64 x_Blind, .int .i64 x_Left, .int .i64 x_Right]] w0 (fun e w' => e = .returned (.bool ((decide (Tm.isLeaf ⟨x_Text, x_Value, x_Blind, x_Left, x_Right⟩)))) ∧ Base [] w0 w') := by
  refine calls_of_W (sl := [(0, .agg #[.string x_Text, .int .i64 x_Value, .int .i64 x_Blind, .int .i64 x_Left, .int .i64 x_Right])]) (A := []) (L := [none]) Try.func70 (by kernel_rfl) 21 (by kernel_rfl) (by kernel_rfl) (fun _ h => by cases h) (by simp) ?_
  refine W.seq (by kernel_rfl) ?_
  refine W.regV (rleaf_ct_r70_0 x_Text x_Value x_Blind x_Left x_Right) [1] [0] (fun G => [.bool false]) (by kernel_rfl) mo_ra (by kernel_rfl) (fun _ _ => by kernel_rfl) ⟨?_, trivial⟩ (by kernel_rfl) ?_
  · exact One.new (r := 0) (T := 44) (fun b => .pointer (some ⟨b, 0, none⟩)) (arr := fun G => #[.string x_Text, .int .i64 x_Value, .int .i64 x_Blind, .int .i64 x_Left, .int .i64 x_Right]) (fun G w => by kernel_rfl) (fun G b => by kernel_rfl)
  intro G1 xa xw hDn
  refine hDn.to [1] [] (by kernel_rfl) ?_
  clear hDn
  refine Pre.conv (sl := [(1, .pointer (some ⟨(G1 0).b, 0, none⟩))]) (A := []) (L := [some ((G1 0).b, .cells #[.string x_Text, .int .i64 x_Value, .int .i64 x_Blind, .int .i64 x_Left, .int .i64 x_Right] 44 (0, 0))]) ?_ (by kernel_rfl) (by kernel_rfl) (by kernel_rfl)
  generalize (G1 0).b = b1 at ⊢
  clear G1
  refine At.then ?_
  refine W.seq (by kernel_rfl) ?_
  obtain ⟨p1, hp1⟩ : ∃ zz : Bool, zz = (decide (x_Left = -1 ∧ x_Right = -1)) := ⟨_, rfl⟩
  obtain ⟨n1, hn1⟩ : ∃ zz : Int, zz = (x_Text.size : Int) := ⟨_, rfl⟩
  obtain ⟨p2, hp2⟩ : ∃ zz : Bool, zz = decide (n1 ≤ 8000) := ⟨_, rfl⟩
  obtain ⟨p3, hp3⟩ : ∃ zz : Bool, zz = (p1 && p2) := ⟨_, rfl⟩
  obtain ⟨p4, hp4⟩ : ∃ zz : Bool, zz = (decide (0 ≤ x_Value ∧ x_Value ≤ 1099511627776)) := ⟨_, rfl⟩
  obtain ⟨p5, hp5⟩ : ∃ zz : Bool, zz = (p3 && p4) := ⟨_, rfl⟩
  obtain ⟨p6, hp6⟩ : ∃ zz : Bool, zz = (decide (0 ≤ x_Blind ∧ x_Blind ≤ 1099511627776)) := ⟨_, rfl⟩
  obtain ⟨p7, hp7⟩ : ∃ zz : Bool, zz = (p5 && p6) := ⟨_, rfl⟩
  refine W.regV (rleaf_ct_r70_1 x_Text x_Value x_Blind x_Left x_Right b1 p1 n1 p2 p3 p4 p5 p6 p7) [2, 3, 8, 9, 13, 14, 18] [0, 1, 4, 5, 6, 7, 10, 11, 12, 15, 16, 17] (fun G => [.bool p1, .pointer (some ⟨b1, 0, none⟩), .bool p3, .pointer (some ⟨b1, 1, none⟩), .bool p5, .pointer (some ⟨b1, 2, none⟩), .bool p7]) (by kernel_rfl) mo_ra (by kernel_rfl) (fun _ _ => by kernel_rfl) ⟨?_, ?_, ?_, ?_, ?_, ?_, ?_, ?_, ?_, ?_, ?_, ?_, trivial⟩ (by kernel_rfl) ?_
  · exact One.loadE (t := 44) (r := 0) (off := 0) (b := fun G => b1) (vs := fun G => [.string x_Text, .int .i64 x_Value, .int .i64 x_Blind, .int .i64 x_Left, .int .i64 x_Right]) (arr := fun G => #[.string x_Text, .int .i64 x_Value, .int .i64 x_Blind, .int .i64 x_Left, .int .i64 x_Right]) (T := 44) (fr := (0, 0)) (fun G => ⟨by kernel_rfl⟩) (fun G => by kernel_rfl)
  · exact One.callP (v := fun G => .bool p1) (f := 53) (args := fun G => #[.agg #[.string x_Text, .int .i64 x_Value, .int .i64 x_Blind, .int .i64 x_Left, .int .i64 x_Right]]) (fun _ _ => by kernel_rfl) (fun G w hs => by
      rw [hp1]
      exact leafy_ct x_Text x_Value x_Blind x_Left x_Right w )
  · exact One.loadE (t := 9) (r := 0) (off := 0) (b := fun G => b1) (vs := fun G => [.string x_Text]) (arr := fun G => #[.string x_Text, .int .i64 x_Value, .int .i64 x_Blind, .int .i64 x_Left, .int .i64 x_Right]) (T := 44) (fr := (0, 0)) (fun G => ⟨by kernel_rfl⟩) (fun G => by kernel_rfl)
  · exact One.eq (congrArg (Value.int .i64) hn1.symm) (fun _ _ => by kernel_rfl)
  · exact One.bo hp2 (fun _ _ => by kernel_rfl)
  · subst hp3
    cases p1 <;> exact One.under fun _ _ _ => by kernel_rfl
  · exact One.loadE (t := 3) (r := 0) (off := 1) (b := fun G => b1) (vs := fun G => [.int .i64 x_Value]) (arr := fun G => #[.string x_Text, .int .i64 x_Value, .int .i64 x_Blind, .int .i64 x_Left, .int .i64 x_Right]) (T := 44) (fr := (0, 0)) (fun G => ⟨by kernel_rfl⟩) (fun G => by kernel_rfl)
  · exact One.callP (v := fun G => .bool p4) (f := 71) (args := fun G => #[.int .i64 x_Value, .int .i64 0, .int .i64 1099511627776]) (fun _ _ => by kernel_rfl) (fun G w hs => by
      have hg := gd_of hs (p := (true && (p3 == true))) (by kernel_rfl)
      have hg0 := (iN hp3 (iAT (iN hp1 iDT) (iN hp2 iDT))).1 (eqT (andR hg))
      rw [hp4]
      exact rin_ct x_Value 0 1099511627776 w )
  · subst hp5
    cases p3 <;> exact One.under fun _ _ _ => by kernel_rfl
  · exact One.loadE (t := 3) (r := 0) (off := 2) (b := fun G => b1) (vs := fun G => [.int .i64 x_Blind]) (arr := fun G => #[.string x_Text, .int .i64 x_Value, .int .i64 x_Blind, .int .i64 x_Left, .int .i64 x_Right]) (T := 44) (fr := (0, 0)) (fun G => ⟨by kernel_rfl⟩) (fun G => by kernel_rfl)
  · exact One.callP (v := fun G => .bool p6) (f := 71) (args := fun G => #[.int .i64 x_Blind, .int .i64 0, .int .i64 1099511627776]) (fun _ _ => by kernel_rfl) (fun G w hs => by
      have hg := gd_of hs (p := (true && (p5 == true))) (by kernel_rfl)
      have hg0 := (iN hp5 (iAT (iN hp3 (iAT (iN hp1 iDT) (iN hp2 iDT))) (iN hp4 iDT))).1 (eqT (andR hg))
      rw [hp6]
      exact rin_ct x_Blind 0 1099511627776 w )
  · subst hp7
    cases p5 <;> exact One.under fun _ _ _ => by kernel_rfl
  intro G2 xa xw hDn
  refine hDn.to [2] [] (by kernel_rfl) ?_
  clear hDn
  refine Pre.conv (sl := [(2, .bool p7)]) (A := []) (L := [some (b1, .cells #[.string x_Text, .int .i64 x_Value, .int .i64 x_Blind, .int .i64 x_Left, .int .i64 x_Right] 44 (0, 0))]) ?_ (by kernel_rfl) (by kernel_rfl) (by kernel_rfl)
  clear G2
  refine At.then ?_
  refine W.ret (by kernel_rfl) ?_
  refine At.results (Or.inl rfl) (.bool p7) (fun xa xw hs hw => results_one (r := .tmp 2) (by kernel_rfl) (res_tmp (t := 2) (by kernel_rfl) hs)) (fun w' hw => ?_)
  have e0 : p7 = (decide (Tm.isLeaf ⟨x_Text, x_Value, x_Blind, x_Left, x_Right⟩)) := by
    rw [Bool.eq_iff_iff, (iN hp7 (iAT (iN hp5 (iAT (iN hp3 (iAT (iN hp1 iDT) (iN hp2 iDT))) (iN hp4 iDT))) (iN hp6 iDT))), decide_eq_true_iff]
    simp only [Tm.isLeaf]
    omega
  exact ⟨congrArg Ending.returned (cong1 (fun (x0 : Bool) => (.bool x0 : Value)) e0), hw.base⟩

noncomputable def rsound_ct_r47_0 (vv : Value) (H : Heaplet) : RC := { ops := opsAt Try.f47 0, B := [0, 0], sl := [(0, .agg #[vv])], A := [H], L := [none, none, none, none], cs := [{ val := fun G => .pointer (some ⟨(G 0).b, 0, none⟩), ups := [(0, fun G => some ((G 0).b, .cells #[vv] 24 (0, 0)))] }, { val := fun _ => .bool false }] }
noncomputable def rsound_ct_r47_1 (vv : Value) (H : Heaplet) (b1 : Nat) (n1 : Int) (p1 : Bool) : RC := { ops := opsAt Try.f47 1, B := [0, 1, 3, 7], sl := [(1, .pointer (some ⟨b1, 0, none⟩))], A := [H], L := [some (b1, .cells #[vv] 24 (0, 0)), none, none, none], cs := [{ val := fun _ => .pointer (some ⟨b1, 0, none⟩) }, { val := fun _ => vv, rds := [0] }, { val := fun _ => .int .i64 n1 }, { val := fun _ => .bool p1 }] }
noncomputable def rsound_ct_r47_2 (vv : Value) (H : Heaplet) (b1 : Nat) (p1 : Bool) : RC := { ops := opsAt Try.f47 2, B := [0], sl := [(1, .pointer (some ⟨b1, 0, none⟩)), (10, .bool p1)], A := [H], L := [some (b1, .cells #[vv] 24 (0, 0)), none, none, none], cs := [{ val := fun _ => .bool false }] }
noncomputable def rsound_ct_r47_3 (vv : Value) (H : Heaplet) (b1 : Nat) (p1 : Bool) : RC := { ops := opsAt Try.f47 3, B := [0], sl := [(1, .pointer (some ⟨b1, 0, none⟩)), (10, .bool p1)], A := [H], L := [some (b1, .cells #[vv] 24 (0, 0)), none, none, none], cs := [{ val := fun _ => .int .i64 0 }] }
noncomputable def rsound_ct_r47_4 (vv : Value) (H : Heaplet) (b1 : Nat) (n1 i : Int) (p2 : Bool) : RC := { ops := opsAt Try.f47 4, B := [0, 0, 2, 6, 15], sl := [(1, .pointer (some ⟨b1, 0, none⟩)), (3, .int .i64 i)], A := [H], L := [some (b1, .cells #[vv] 24 (0, 0)), none, none, none], cs := [{ val := fun _ => .int .i64 i }, { val := fun _ => .pointer (some ⟨b1, 0, none⟩) }, { val := fun _ => vv, rds := [0] }, { val := fun _ => .int .i64 n1 }, { val := fun _ => .bool p2 }] }
noncomputable def rsound_ct_r47_5 (vv : Value) (H : Heaplet) (b1 : Nat) (i : Int) (p2 : Bool) (x1 : DThing) : RC := { ops := opsAt Try.f47 6, B := [0, 1, 0, 7, 15, 0, 63], sl := [(1, .pointer (some ⟨b1, 0, none⟩)), (3, .int .i64 i), (15, .bool p2)], A := [H], L := [some (b1, .cells #[vv] 24 (0, 0)), none, none, none], cs := [{ val := fun _ => .pointer (some ⟨b1, 0, none⟩) }, { val := fun _ => vv, rds := [0] }, { val := fun _ => .int .i64 i }, { val := fun _ => .pointer (some (elemAddr vv (i.toNat * 5))) }, { val := fun _ => .agg #[.string x1.Text, .int .i64 x1.Value, .int .i64 x1.Blind, .int .i64 x1.Left, .int .i64 x1.Right] }, { val := fun G => .pointer (some ⟨(G 5).b, 0, none⟩), ups := [(1, fun G => some ((G 5).b, .cells #[.string ByteArray.empty, .int .i64 0, .int .i64 0, .int .i64 0, .int .i64 0] 44 (0, 0)))] }, { val := fun _ => undef, ups := [(1, fun G => some ((G 5).b, .cells #[.string x1.Text, .int .i64 x1.Value, .int .i64 x1.Blind, .int .i64 x1.Left, .int .i64 x1.Right] 44 (0, 0)))] }] }
noncomputable def rsound_ct_r47_6 (vv : Value) (H : Heaplet) (b1 : Nat) (i : Int) (x1 : DThing) (b2 : Nat) (p3 : Bool) : RC := { ops := opsAt Try.f47 7, B := [0, 1], sl := [(1, .pointer (some ⟨b1, 0, none⟩)), (3, .int .i64 i), (4, .pointer (some ⟨b2, 0, none⟩))], A := [H], L := [some (b1, .cells #[vv] 24 (0, 0)), some (b2, .cells #[.string x1.Text, .int .i64 x1.Value, .int .i64 x1.Blind, .int .i64 x1.Left, .int .i64 x1.Right] 44 (0, 0)), none, none], cs := [{ val := fun _ => .agg #[.string x1.Text, .int .i64 x1.Value, .int .i64 x1.Blind, .int .i64 x1.Left, .int .i64 x1.Right], rds := [1] }, { val := fun _ => .bool p3 }] }
noncomputable def rsound_ct_r47_7 (vv : Value) (H : Heaplet) (b1 : Nat) (i : Int) (x1 : DThing) (b2 : Nat) (p3 : Bool) (n2 : Int) : RC := { ops := opsAt Try.f47 5, B := [0, 1, 3], sl := [(1, .pointer (some ⟨b1, 0, none⟩)), (3, .int .i64 i), (4, .pointer (some ⟨b2, 0, none⟩)), (24, .bool p3)], A := [H], L := [some (b1, .cells #[vv] 24 (0, 0)), some (b2, .cells #[.string x1.Text, .int .i64 x1.Value, .int .i64 x1.Blind, .int .i64 x1.Left, .int .i64 x1.Right] 44 (0, 0)), none, none], cs := [{ val := fun _ => .int .i64 i }, { val := fun _ => .int .i64 n2 }, { val := fun _ => .int .i64 n2 }] }
noncomputable def rsound_ct_r47_8 (vv : Value) (H : Heaplet) (b1 : Nat) (i : Int) (x1 : DThing) (b2 : Nat) (p3 p4 : Bool) (n3 : Int) (p5 p6 p7 p8 : Bool) : RC := { ops := opsAt Try.f47 8, B := [0, 1, 3, 7, 15, 31, 15, 79, 255, 511, 1023, 2047, 4095, 8191, 4095, 20479, 65535, 131071, 262143], sl := [(1, .pointer (some ⟨b1, 0, none⟩)), (3, .int .i64 i), (4, .pointer (some ⟨b2, 0, none⟩)), (24, .bool p3)], A := [H], L := [some (b1, .cells #[vv] 24 (0, 0)), some (b2, .cells #[.string x1.Text, .int .i64 x1.Value, .int .i64 x1.Blind, .int .i64 x1.Left, .int .i64 x1.Right] 44 (0, 0)), none, none], cs := [{ val := fun _ => .pointer (some ⟨b2, 0, none⟩) }, { val := fun _ => .string x1.Text, rds := [1] }, { val := fun _ => .bool p4 }, { val := fun _ => .bool p4 }, { val := fun _ => .pointer (some ⟨b2, 3, none⟩) }, { val := fun _ => .int .i64 x1.Left, rds := [1] }, { val := fun _ => .int .i64 i }, { val := fun _ => .int .i64 n3 }, { val := fun _ => .bool p5 }, { val := fun _ => .bool (!p5) }, { val := fun _ => .bool p6 }, { val := fun _ => .bool p6 }, { val := fun _ => .pointer (some ⟨b2, 4, none⟩) }, { val := fun _ => .int .i64 x1.Right, rds := [1] }, { val := fun _ => .int .i64 i }, { val := fun _ => .int .i64 n3 }, { val := fun _ => .bool p7 }, { val := fun _ => .bool (!p7) }, { val := fun _ => .bool p8 }] }
noncomputable def rsound_ct_r47_9 (vv : Value) (H : Heaplet) (b1 : Nat) (i : Int) (x1 : DThing) (b2 : Nat) (p8 : Bool) : RC := { ops := opsAt Try.f47 9, B := [0], sl := [(1, .pointer (some ⟨b1, 0, none⟩)), (3, .int .i64 i), (4, .pointer (some ⟨b2, 0, none⟩)), (43, .bool p8)], A := [H], L := [some (b1, .cells #[vv] 24 (0, 0)), some (b2, .cells #[.string x1.Text, .int .i64 x1.Value, .int .i64 x1.Blind, .int .i64 x1.Left, .int .i64 x1.Right] 44 (0, 0)), none, none], cs := [{ val := fun _ => .bool false }] }
noncomputable def rsound_ct_r47_10 (vv : Value) (H : Heaplet) (b1 : Nat) (i : Int) (x1 : DThing) (b2 : Nat) (p8 : Bool) (x2 : DThing) : RC := { ops := opsAt Try.f47 10, B := [0, 1, 0, 4, 15, 31, 0, 127], sl := [(1, .pointer (some ⟨b1, 0, none⟩)), (3, .int .i64 i), (4, .pointer (some ⟨b2, 0, none⟩)), (43, .bool p8)], A := [H], L := [some (b1, .cells #[vv] 24 (0, 0)), some (b2, .cells #[.string x1.Text, .int .i64 x1.Value, .int .i64 x1.Blind, .int .i64 x1.Left, .int .i64 x1.Right] 44 (0, 0)), none, none], cs := [{ val := fun _ => .pointer (some ⟨b1, 0, none⟩) }, { val := fun _ => vv, rds := [0] }, { val := fun _ => .pointer (some ⟨b2, 3, none⟩) }, { val := fun _ => .int .i64 x1.Left, rds := [1] }, { val := fun _ => .pointer (some (elemAddr vv (x1.Left.toNat * 5))) }, { val := fun _ => .agg #[.string x2.Text, .int .i64 x2.Value, .int .i64 x2.Blind, .int .i64 x2.Left, .int .i64 x2.Right] }, { val := fun G => .pointer (some ⟨(G 6).b, 0, none⟩), ups := [(2, fun G => some ((G 6).b, .cells #[.string ByteArray.empty, .int .i64 0, .int .i64 0, .int .i64 0, .int .i64 0] 44 (0, 0)))] }, { val := fun _ => undef, ups := [(2, fun G => some ((G 6).b, .cells #[.string x2.Text, .int .i64 x2.Value, .int .i64 x2.Blind, .int .i64 x2.Left, .int .i64 x2.Right] 44 (0, 0)))] }] }
noncomputable def rsound_ct_r47_11 (vv : Value) (H : Heaplet) (b1 : Nat) (i : Int) (x1 : DThing) (b2 : Nat) (x2 : DThing) (b3 : Nat) (x3 : DThing) : RC := { ops := opsAt Try.f47 11, B := [0, 1, 0, 4, 15, 31, 0, 127], sl := [(1, .pointer (some ⟨b1, 0, none⟩)), (3, .int .i64 i), (4, .pointer (some ⟨b2, 0, none⟩)), (5, .pointer (some ⟨b3, 0, none⟩))], A := [H], L := [some (b1, .cells #[vv] 24 (0, 0)), some (b2, .cells #[.string x1.Text, .int .i64 x1.Value, .int .i64 x1.Blind, .int .i64 x1.Left, .int .i64 x1.Right] 44 (0, 0)), some (b3, .cells #[.string x2.Text, .int .i64 x2.Value, .int .i64 x2.Blind, .int .i64 x2.Left, .int .i64 x2.Right] 44 (0, 0)), none], cs := [{ val := fun _ => .pointer (some ⟨b1, 0, none⟩) }, { val := fun _ => vv, rds := [0] }, { val := fun _ => .pointer (some ⟨b2, 4, none⟩) }, { val := fun _ => .int .i64 x1.Right, rds := [1] }, { val := fun _ => .pointer (some (elemAddr vv (x1.Right.toNat * 5))) }, { val := fun _ => .agg #[.string x3.Text, .int .i64 x3.Value, .int .i64 x3.Blind, .int .i64 x3.Left, .int .i64 x3.Right] }, { val := fun G => .pointer (some ⟨(G 6).b, 0, none⟩), ups := [(3, fun G => some ((G 6).b, .cells #[.string ByteArray.empty, .int .i64 0, .int .i64 0, .int .i64 0, .int .i64 0] 44 (0, 0)))] }, { val := fun _ => undef, ups := [(3, fun G => some ((G 6).b, .cells #[.string x3.Text, .int .i64 x3.Value, .int .i64 x3.Blind, .int .i64 x3.Left, .int .i64 x3.Right] 44 (0, 0)))] }] }
noncomputable def rsound_ct_r47_12 (vv : Value) (H : Heaplet) (b1 : Nat) (i : Int) (x1 : DThing) (b2 : Nat) (x2 : DThing) (b3 : Nat) (x3 : DThing) (b4 : Nat) (n4 : Int) (p9 : Bool) (n5 : Int) (p10 p11 p12 p13 p14 p15 : Bool) : RC := { ops := opsAt Try.f47 12, B := [0, 1, 0, 4, 0, 16, 60, 127, 255, 511, 1023, 511, 2559, 511, 8703, 31231, 65535, 131071, 262143, 524287, 1048575, 2097151, 4194303, 8388607, 16777215, 33554431, 67108863, 134217727], sl := [(1, .pointer (some ⟨b1, 0, none⟩)), (3, .int .i64 i), (4, .pointer (some ⟨b2, 0, none⟩)), (5, .pointer (some ⟨b3, 0, none⟩)), (6, .pointer (some ⟨b4, 0, none⟩))], A := [H], L := [some (b1, .cells #[vv] 24 (0, 0)), some (b2, .cells #[.string x1.Text, .int .i64 x1.Value, .int .i64 x1.Blind, .int .i64 x1.Left, .int .i64 x1.Right] 44 (0, 0)), some (b3, .cells #[.string x2.Text, .int .i64 x2.Value, .int .i64 x2.Blind, .int .i64 x2.Left, .int .i64 x2.Right] 44 (0, 0)), some (b4, .cells #[.string x3.Text, .int .i64 x3.Value, .int .i64 x3.Blind, .int .i64 x3.Left, .int .i64 x3.Right] 44 (0, 0))], cs := [{ val := fun _ => .pointer (some ⟨b2, 1, none⟩) }, { val := fun _ => .int .i64 x1.Value, rds := [1] }, { val := fun _ => .pointer (some ⟨b3, 1, none⟩) }, { val := fun _ => .int .i64 x2.Value, rds := [2] }, { val := fun _ => .pointer (some ⟨b4, 1, none⟩) }, { val := fun _ => .int .i64 x3.Value, rds := [3] }, { val := fun _ => .int .i64 n4 }, { val := fun _ => .bool p9 }, { val := fun _ => .bool p9 }, { val := fun _ => .pointer (some ⟨b2, 2, none⟩) }, { val := fun _ => .int .i64 x1.Blind, rds := [1] }, { val := fun _ => .pointer (some ⟨b3, 2, none⟩) }, { val := fun _ => .int .i64 x2.Blind, rds := [2] }, { val := fun _ => .pointer (some ⟨b4, 2, none⟩) }, { val := fun _ => .int .i64 x3.Blind, rds := [3] }, { val := fun _ => .int .i64 n5 }, { val := fun _ => .bool p10 }, { val := fun _ => .bool p11 }, { val := fun _ => .bool p11 }, { val := fun _ => .pointer (some ⟨b2, 1, none⟩) }, { val := fun _ => .int .i64 x1.Value, rds := [1] }, { val := fun _ => .bool p12 }, { val := fun _ => .bool p13 }, { val := fun _ => .bool p13 }, { val := fun _ => .pointer (some ⟨b2, 2, none⟩) }, { val := fun _ => .int .i64 x1.Blind, rds := [1] }, { val := fun _ => .bool p14 }, { val := fun _ => .bool p15 }] }
noncomputable def rsound_ct_r47_13 (vv : Value) (H : Heaplet) (b1 : Nat) (i : Int) (x1 : DThing) (b2 : Nat) (x2 : DThing) (b3 : Nat) (x3 : DThing) (b4 : Nat) (p15 : Bool) : RC := { ops := opsAt Try.f47 13, B := [0], sl := [(1, .pointer (some ⟨b1, 0, none⟩)), (3, .int .i64 i), (83, .bool p15)], A := [H], L := [some (b1, .cells #[vv] 24 (0, 0)), some (b2, .cells #[.string x1.Text, .int .i64 x1.Value, .int .i64 x1.Blind, .int .i64 x1.Left, .int .i64 x1.Right] 44 (0, 0)), some (b3, .cells #[.string x2.Text, .int .i64 x2.Value, .int .i64 x2.Blind, .int .i64 x2.Left, .int .i64 x2.Right] 44 (0, 0)), some (b4, .cells #[.string x3.Text, .int .i64 x3.Value, .int .i64 x3.Blind, .int .i64 x3.Left, .int .i64 x3.Right] 44 (0, 0))], cs := [{ val := fun _ => .bool false }] }
noncomputable def rsound_ct_r47_14 (vv : Value) (H : Heaplet) (b1 : Nat) (i : Int) (x1 : DThing) (b2 : Nat) (x2 : DThing) (b3 : Nat) (x3 : DThing) (b4 : Nat) (p15 : Bool) (n6 : Int) : RC := { ops := opsAt Try.f47 5, B := [0, 1, 3], sl := [(1, .pointer (some ⟨b1, 0, none⟩)), (3, .int .i64 i), (83, .bool p15)], A := [H], L := [some (b1, .cells #[vv] 24 (0, 0)), some (b2, .cells #[.string x1.Text, .int .i64 x1.Value, .int .i64 x1.Blind, .int .i64 x1.Left, .int .i64 x1.Right] 44 (0, 0)), some (b3, .cells #[.string x2.Text, .int .i64 x2.Value, .int .i64 x2.Blind, .int .i64 x2.Left, .int .i64 x2.Right] 44 (0, 0)), some (b4, .cells #[.string x3.Text, .int .i64 x3.Value, .int .i64 x3.Blind, .int .i64 x3.Left, .int .i64 x3.Right] 44 (0, 0))], cs := [{ val := fun _ => .int .i64 i }, { val := fun _ => .int .i64 n6 }, { val := fun _ => .int .i64 n6 }] }
noncomputable def rsound_ct_r47_15 (vv : Value) (H : Heaplet) (b1 : Nat) (i : Int) (p2 : Bool) : RC := { ops := opsAt Try.f47 14, B := [0], sl := [(1, .pointer (some ⟨b1, 0, none⟩)), (3, .int .i64 i), (15, .bool p2)], A := [H], L := [some (b1, .cells #[vv] 24 (0, 0)), none, none, none], cs := [{ val := fun _ => .bool true }] }
set_option maxRecDepth 10000 in
theorem rsound_ct (v : List DThing) (vv : Value) (w0 : World) (H : Heaplet) (hA : Agrees w0 H) (hv : RSl H v vv) :
    Calls Try.prog 47 #[.agg #[vv]] w0 (fun e w' => e = .returned (.bool ((decide (Tm.Sound v)))) ∧ Base [] w0 w') := by
  have hE : Ext w0 H H := Ext.refl w0 H
  have hvn := hv.lim
  refine calls_of_W (sl := [(0, .agg #[vv])]) (A := [H]) (L := [none, none, none, none]) Try.func47 (by kernel_rfl) 84 (by kernel_rfl) (by kernel_rfl) (fun J hJ => by simp at hJ; subst hJ; exact hA) (by simp) ?_
  refine W.seq (by kernel_rfl) ?_
  refine W.regV (rsound_ct_r47_0 vv H) [1] [0] (fun G => [.bool false]) (by kernel_rfl) mo_ra (by kernel_rfl) (fun _ _ => by kernel_rfl) ⟨?_, trivial⟩ (by kernel_rfl) ?_
  · exact One.new (r := 0) (T := 24) (fun b => .pointer (some ⟨b, 0, none⟩)) (arr := fun G => #[vv]) (fun G w => by kernel_rfl) (fun G b => by kernel_rfl)
  intro G1 xa xw hDn
  refine hDn.to [1] [] (by kernel_rfl) ?_
  clear hDn
  refine Pre.conv (sl := [(1, .pointer (some ⟨(G1 0).b, 0, none⟩))]) (A := [H]) (L := [some ((G1 0).b, .cells #[vv] 24 (0, 0)), none, none, none]) ?_ (by kernel_rfl) (by kernel_rfl) (by kernel_rfl)
  generalize (G1 0).b = b1 at ⊢
  clear G1
  refine At.then ?_
  refine W.seq (by kernel_rfl) ?_
  refine W.seq (by kernel_rfl) ?_
  obtain ⟨n1, hn1⟩ : ∃ zz : Int, zz = (v.length : Int) := ⟨_, rfl⟩
  obtain ⟨p1, hp1⟩ : ∃ zz : Bool, zz = decide (2000 < n1) := ⟨_, rfl⟩
  refine W.regV (rsound_ct_r47_1 vv H b1 n1 p1) [0] [1, 2, 3] (fun G => [.pointer (some ⟨b1, 0, none⟩)]) (by kernel_rfl) mo_ra (by kernel_rfl) (fun _ _ => by kernel_rfl) ⟨?_, ?_, ?_, trivial⟩ (by kernel_rfl) ?_
  · exact One.loadE (t := 22) (r := 0) (off := 0) (b := fun G => b1) (vs := fun G => [vv]) (arr := fun G => #[vv]) (T := 24) (fr := (0, 0)) (fun G => ⟨by kernel_rfl⟩) (fun G => by kernel_rfl)
  · exact One.len (t := 22) (n := n1) (v := fun G => vv) (fun _ => ⟨by kernel_rfl⟩) (fun G w hs => ⟨_, (hv).isSl, hn1⟩)
  · exact One.bo hp1 (fun _ _ => by kernel_rfl)
  intro G2 xa xw hDn
  refine hDn.to [1, 10] [] (by kernel_rfl) ?_
  clear hDn
  refine Pre.conv (sl := [(1, .pointer (some ⟨b1, 0, none⟩)), (10, .bool p1)]) (A := [H]) (L := [some (b1, .cells #[vv] 24 (0, 0)), none, none, none]) ?_ (by kernel_rfl) (by kernel_rfl) (by kernel_rfl)
  clear G2
  refine At.then ?_
  refine W.cond p1 (by kernel_rfl) (fun xa hs => cnd_of (t := 10) (by kernel_rfl) (by kernel_rfl) hs) (fun hq => ?_) (fun hq => ?_)
  · skip
    have hq1 := hq
    replace hq1 := (iN hp1 iDT).1 hq1
    refine W.seq (by kernel_rfl) ?_
    refine W.regV (rsound_ct_r47_2 vv H b1 p1) [0] [] (fun G => [.bool false]) (by kernel_rfl) mo_ra (by kernel_rfl) (fun _ _ => by kernel_rfl) trivial (by kernel_rfl) ?_
    intro G3 xa xw hDn
    refine hDn.to [2] [] (by kernel_rfl) ?_
    clear hDn
    refine Pre.conv (sl := [(2, .bool false)]) (A := [H]) (L := [some (b1, .cells #[vv] 24 (0, 0)), none, none, none]) ?_ (by kernel_rfl) (by kernel_rfl) (by kernel_rfl)
    clear G3
    refine At.then ?_
    refine W.ret (by kernel_rfl) ?_
    refine At.thenRet ?_
    refine At.results (Or.inl rfl) (.bool false) (fun xa xw hs hw => results_one (r := .tmp 2) (by kernel_rfl) (res_tmp (t := 2) (by kernel_rfl) hs)) (fun w' hw => ?_)
    have e0 : false = (decide (Tm.Sound v)) := by
      exact Tm.sound_len (by omega)
    exact ⟨congrArg Ending.returned (cong1 (fun (x0 : Bool) => (.bool x0 : Value)) e0), hw.base⟩
  · skip
    have hq2 := hq
    replace hq2 := (iN hp1 iDF).1 hq2
    refine W.skip (by kernel_rfl) ?_
    refine At.then ?_
    refine W.seq (by kernel_rfl) ?_
    refine W.seq (by kernel_rfl) ?_
    refine W.regV (rsound_ct_r47_3 vv H b1 p1) [0] [] (fun G => [.int .i64 0]) (by kernel_rfl) mo_ra (by kernel_rfl) (fun _ _ => by kernel_rfl) trivial (by kernel_rfl) ?_
    intro G4 xa xw hDn
    refine hDn.to [1, 3] [] (by kernel_rfl) ?_
    clear hDn
    refine Pre.conv (sl := [(1, .pointer (some ⟨b1, 0, none⟩)), (3, .int .i64 0)]) (A := [H]) (L := [some (b1, .cells #[vv] 24 (0, 0)), none, none, none]) ?_ (by kernel_rfl) (by kernel_rfl) (by kernel_rfl)
    clear G4
    refine At.then ?_
    refine W.block 0 (by kernel_rfl) ?_
    refine W.loopS (γ := Int) (fun i => [(1, .pointer (some ⟨b1, 0, none⟩)), (3, .int .i64 i)]) (fun i => [H]) (fun i => [some (b1, .cells #[vv] 24 (0, 0)), none, none, none]) (fun i => (0 ≤ i) ∧ (i ≤ (v.length : Int)) ∧ (Tm.okTo v i.toNat)) (fun i => ((v.length : Int) - i).toNat) 0 (by kernel_rfl) ?_ ?_
    · intro xa xw hs hw
      refine ⟨hs.sub (by kernel_rfl), hw.mask [true, false, false, false] (by kernel_rfl), ?_⟩
      refine ⟨?_, ?_, ?_⟩
      · show 0 ≤ (0 : Int)
        first | omega | rfl | (simp; done) | (subst_vars; simp; done)
      · show (0 : Int) ≤ (v.length : Int)
        first | omega | rfl | (simp; done) | (subst_vars; simp; done)
      · show Tm.okTo v (0 : Int).toNat
        intro i hi; simp at hi
    · rintro i hF
      have hF : (0 ≤ i) ∧ (i ≤ (v.length : Int)) ∧ (Tm.okTo v i.toNat) := hF
      obtain ⟨hf1, hf2, hf3⟩ := hF
      show W Try.prog 84 w0 [] (Code.l (Code.l (Code.r (Code.l (Code.r (Code.r (body Try.f47))))))) _ [(1, .pointer (some ⟨b1, 0, none⟩)), (3, .int .i64 i)] [H] [some (b1, .cells #[vv] 24 (0, 0)), none, none, none]
      refine W.seq (by kernel_rfl) ?_
      refine W.seq (by kernel_rfl) ?_
      obtain ⟨p2, hp2⟩ : ∃ zz : Bool, zz = decide (i < n1) := ⟨_, rfl⟩
      refine W.regV (rsound_ct_r47_4 vv H b1 n1 i p2) [0, 1] [2, 3, 4] (fun G => [.int .i64 i, .pointer (some ⟨b1, 0, none⟩)]) (by kernel_rfl) mo_ra (by kernel_rfl) (fun _ _ => by kernel_rfl) ⟨?_, ?_, ?_, trivial⟩ (by kernel_rfl) ?_
      · exact One.loadE (t := 22) (r := 0) (off := 0) (b := fun G => b1) (vs := fun G => [vv]) (arr := fun G => #[vv]) (T := 24) (fr := (0, 0)) (fun G => ⟨by kernel_rfl⟩) (fun G => by kernel_rfl)
      · exact One.len (t := 22) (n := n1) (v := fun G => vv) (fun _ => ⟨by kernel_rfl⟩) (fun G w hs => ⟨_, (hv).isSl, hn1⟩)
      · exact One.bo hp2 (fun _ _ => by kernel_rfl)
      intro G5 xa xw hDn
      refine hDn.to [1, 3, 15] [] (by kernel_rfl) ?_
      clear hDn
      refine Pre.conv (sl := [(1, .pointer (some ⟨b1, 0, none⟩)), (3, .int .i64 i), (15, .bool p2)]) (A := [H]) (L := [some (b1, .cells #[vv] 24 (0, 0)), none, none, none]) ?_ (by kernel_rfl) (by kernel_rfl) (by kernel_rfl)
      clear G5
      refine At.then ?_
      refine W.cond p2 (by kernel_rfl) (fun xa hs => cnd_of (t := 15) (by kernel_rfl) (by kernel_rfl) hs) (fun hq => ?_) (fun hq => ?_)
      · skip
        have hq3 := hq
        replace hq3 := (iN hp2 iDT).1 hq3
        refine W.skip (by kernel_rfl) ?_
        refine At.then ?_
        refine W.seq (by kernel_rfl) ?_
        refine W.block 1 (by kernel_rfl) ?_
        refine W.seq (by kernel_rfl) ?_
        obtain ⟨x1, hx1⟩ : ∃ zz : DThing, zz = v.getD i.toNat default := ⟨_, rfl⟩
        refine W.regV (rsound_ct_r47_5 vv H b1 i p2 x1) [0, 2] [1, 3, 4, 5, 6] (fun G => [.pointer (some ⟨b1, 0, none⟩), .int .i64 i]) (by kernel_rfl) mo_ra (by kernel_rfl) (fun _ _ => by kernel_rfl) ⟨?_, ?_, ?_, ?_, ?_, trivial⟩ (by kernel_rfl) ?_
        · exact One.loadE (t := 22) (r := 0) (off := 0) (b := fun G => b1) (vs := fun G => [vv]) (arr := fun G => #[vv]) (T := 24) (fr := (0, 0)) (fun G => ⟨by kernel_rfl⟩) (fun G => by kernel_rfl)
        · exact One.index (t := 22) (e := 44) (size := 5) (v := fun G => vv) (k := .i64) (n := i) (fun _ => ⟨by kernel_rfl⟩) (fun G w hs => ⟨_, (hv).isSl, by first | omega | (simp only [List.length_append, List.length_cons, List.length_nil, List.length_replicate, List.length_set, List.length_take, List.length_drop, List.length_map, List.length_reverse, List.length_range]; omega), by first | omega | (simp only [List.length_append, List.length_cons, List.length_nil, List.length_replicate, List.length_set, List.length_take, List.length_drop, List.length_map, List.length_reverse, List.length_range]; omega)⟩)
        · exact One.loadD (α := DThing) (t := 44) (size := 5) (off := 0) (k := i) (l := fun G => v) (x := fun G => x1) (vs := fun G => [.string x1.Text, .int .i64 x1.Value, .int .i64 x1.Blind, .int .i64 x1.Left, .int .i64 x1.Right]) (v := fun G => vv) (H := fun G => H) (p := fun G => elemAddr vv (i.toNat * 5)) (fun G => ⟨by kernel_rfl⟩) rfl (fun G => by kernel_rfl) (fun G w hs => ⟨(hs.read 0 rfl), hv, (add_zero' _).symm, by omega, by first | omega | (simp only [List.length_append, List.length_cons, List.length_nil, List.length_replicate, List.length_set, List.length_take, List.length_drop, List.length_map, List.length_reverse, List.length_range]; omega), hx1⟩)
        · exact One.new (r := 1) (T := 44) (fun b => .pointer (some ⟨b, 0, none⟩)) (arr := fun G => #[.string ByteArray.empty, .int .i64 0, .int .i64 0, .int .i64 0, .int .i64 0]) (fun G w => by kernel_rfl) (fun G b => by kernel_rfl)
        · exact One.store (t := 44) (r := 1) (off := 0) (T := 44) (b := fun G => (G 5).b) (u := fun G => .agg #[.string x1.Text, .int .i64 x1.Value, .int .i64 x1.Blind, .int .i64 x1.Left, .int .i64 x1.Right]) (vs := fun G => [.string x1.Text, .int .i64 x1.Value, .int .i64 x1.Blind, .int .i64 x1.Left, .int .i64 x1.Right]) (arr := fun G => #[.string ByteArray.empty, .int .i64 0, .int .i64 0, .int .i64 0, .int .i64 0]) (fun G => ⟨by kernel_rfl⟩) (fun G => by kernel_rfl)
        intro G6 xa xw hDn
        refine hDn.to [1, 3, 4] [] (by kernel_rfl) ?_
        clear hDn
        refine Pre.conv (sl := [(1, .pointer (some ⟨b1, 0, none⟩)), (3, .int .i64 i), (4, .pointer (some ⟨(G6 5).b, 0, none⟩))]) (A := [H]) (L := [some (b1, .cells #[vv] 24 (0, 0)), some ((G6 5).b, .cells #[.string x1.Text, .int .i64 x1.Value, .int .i64 x1.Blind, .int .i64 x1.Left, .int .i64 x1.Right] 44 (0, 0)), none, none]) ?_ (by kernel_rfl) (by kernel_rfl) (by kernel_rfl)
        generalize (G6 5).b = b2 at ⊢
        clear G6
        refine At.then ?_
        refine W.seq (by kernel_rfl) ?_
        refine W.seq (by kernel_rfl) ?_
        obtain ⟨p3, hp3⟩ : ∃ zz : Bool, zz = (decide (Tm.isLeaf ⟨x1.Text, x1.Value, x1.Blind, x1.Left, x1.Right⟩)) := ⟨_, rfl⟩
        refine W.regV (rsound_ct_r47_6 vv H b1 i x1 b2 p3) [] [0, 1] (fun G => []) (by kernel_rfl) mo_ra (by kernel_rfl) (fun _ _ => by kernel_rfl) ⟨?_, ?_, trivial⟩ (by kernel_rfl) ?_
        · exact One.loadE (t := 44) (r := 1) (off := 0) (b := fun G => b2) (vs := fun G => [.string x1.Text, .int .i64 x1.Value, .int .i64 x1.Blind, .int .i64 x1.Left, .int .i64 x1.Right]) (arr := fun G => #[.string x1.Text, .int .i64 x1.Value, .int .i64 x1.Blind, .int .i64 x1.Left, .int .i64 x1.Right]) (T := 44) (fr := (0, 0)) (fun G => ⟨by kernel_rfl⟩) (fun G => by kernel_rfl)
        · exact One.callP (v := fun G => .bool p3) (f := 70) (args := fun G => #[.agg #[.string x1.Text, .int .i64 x1.Value, .int .i64 x1.Blind, .int .i64 x1.Left, .int .i64 x1.Right]]) (fun _ _ => by kernel_rfl) (fun G w hs => by
            rw [hp3]
            exact rleaf_ct x1.Text x1.Value x1.Blind x1.Left x1.Right w )
        intro G7 xa xw hDn
        refine hDn.to [1, 3, 4, 24] [] (by kernel_rfl) ?_
        clear hDn
        refine Pre.conv (sl := [(1, .pointer (some ⟨b1, 0, none⟩)), (3, .int .i64 i), (4, .pointer (some ⟨b2, 0, none⟩)), (24, .bool p3)]) (A := [H]) (L := [some (b1, .cells #[vv] 24 (0, 0)), some (b2, .cells #[.string x1.Text, .int .i64 x1.Value, .int .i64 x1.Blind, .int .i64 x1.Left, .int .i64 x1.Right] 44 (0, 0)), none, none]) ?_ (by kernel_rfl) (by kernel_rfl) (by kernel_rfl)
        clear G7
        refine At.then ?_
        refine W.cond p3 (by kernel_rfl) (fun xa hs => cnd_of (t := 24) (by kernel_rfl) (by kernel_rfl) hs) (fun hq => ?_) (fun hq => ?_)
        · skip
          have hq4 := hq
          replace hq4 := (iN hp3 iDT).1 hq4
          refine W.exit 1 (by kernel_rfl) ?_
          refine At.thenExit ?_
          refine At.blockHit ?_
          refine At.then ?_
          obtain ⟨n2, hn2⟩ : ∃ zz : Int, zz = i + 1 := ⟨_, rfl⟩
          refine W.regV (rsound_ct_r47_7 vv H b1 i x1 b2 p3 n2) [0, 2] [1] (fun G => [.int .i64 i, .int .i64 n2]) (by kernel_rfl) mo_ra (by kernel_rfl) (fun _ _ => by kernel_rfl) ⟨?_, trivial⟩ (by kernel_rfl) ?_
          · exact One.ar hn2 (fun _ _ => by kernel_rfl) (fun G w hs => by omega)
          intro G8 xa xw hDn
          refine hDn.to [1, 3] [] (by kernel_rfl) ?_
          clear hDn
          refine Pre.conv (sl := [(1, .pointer (some ⟨b1, 0, none⟩)), (3, .int .i64 n2)]) (A := [H]) (L := [some (b1, .cells #[vv] 24 (0, 0)), some (b2, .cells #[.string x1.Text, .int .i64 x1.Value, .int .i64 x1.Blind, .int .i64 x1.Left, .int .i64 x1.Right] 44 (0, 0)), none, none]) ?_ (by kernel_rfl) (by kernel_rfl) (by kernel_rfl)
          clear G8
          intro xa xw hs hw
          refine ⟨n2, ⟨hs.sub (by kernel_rfl), hw.mask [true, false, false, false] (by kernel_rfl), ?_⟩, ?_⟩
          · skip
            refine ⟨?_, ?_, ?_⟩
            · show 0 ≤ n2
              first | omega | rfl | (simp; done) | (subst_vars; simp; done)
            · show n2 ≤ (v.length : Int)
              first | omega | rfl | (simp; done) | (subst_vars; simp; done)
            · show Tm.okTo v n2.toNat
              refine Tm.sound_step (k := i) hf3 (by omega) (by assumption) (by assumption) ((Tm.okT_ref (by omega) (by omega)).2 ?_)
              exact .inl (by assumption)
          · show ((v.length : Int) - n2).toNat < ((v.length : Int) - i).toNat
            omega
        · skip
          have hq5 := hq
          replace hq5 := (iN hp3 iDF).1 hq5
          refine W.skip (by kernel_rfl) ?_
          refine At.then ?_
          refine W.seq (by kernel_rfl) ?_
          refine W.seq (by kernel_rfl) ?_
          obtain ⟨p4, hp4⟩ : ∃ zz : Bool, zz = !(decide (x1.Text = ByteArray.empty)) := ⟨_, rfl⟩
          obtain ⟨n3, hn3⟩ : ∃ zz : Int, zz = i - 1 := ⟨_, rfl⟩
          obtain ⟨p5, hp5⟩ : ∃ zz : Bool, zz = (decide (0 ≤ x1.Left ∧ x1.Left ≤ n3)) := ⟨_, rfl⟩
          obtain ⟨p6, hp6⟩ : ∃ zz : Bool, zz = (p4 || !p5) := ⟨_, rfl⟩
          obtain ⟨p7, hp7⟩ : ∃ zz : Bool, zz = (decide (0 ≤ x1.Right ∧ x1.Right ≤ n3)) := ⟨_, rfl⟩
          obtain ⟨p8, hp8⟩ : ∃ zz : Bool, zz = (p6 || !p7) := ⟨_, rfl⟩
          refine W.regV (rsound_ct_r47_8 vv H b1 i x1 b2 p3 p4 n3 p5 p6 p7 p8) [0, 3, 4, 6, 9, 11, 12, 14, 17] [1, 2, 5, 7, 8, 10, 13, 15, 16, 18] (fun G => [.pointer (some ⟨b2, 0, none⟩), .bool p4, .pointer (some ⟨b2, 3, none⟩), .int .i64 i, .bool (!p5), .bool p6, .pointer (some ⟨b2, 4, none⟩), .int .i64 i, .bool (!p7)]) (by kernel_rfl) mo_ra (by kernel_rfl) (fun _ _ => by kernel_rfl) ⟨?_, ?_, ?_, ?_, ?_, ?_, ?_, ?_, ?_, ?_, trivial⟩ (by kernel_rfl) ?_
          · exact One.loadE (t := 9) (r := 1) (off := 0) (b := fun G => b2) (vs := fun G => [.string x1.Text]) (arr := fun G => #[.string x1.Text, .int .i64 x1.Value, .int .i64 x1.Blind, .int .i64 x1.Left, .int .i64 x1.Right]) (T := 44) (fr := (0, 0)) (fun G => ⟨by kernel_rfl⟩) (fun G => by kernel_rfl)
          · exact One.eq (congrArg Value.bool ((congrArg not (toList_bytes _ _)).trans hp4.symm)) (fun _ _ => by kernel_rfl)
          · exact One.loadE (t := 3) (r := 1) (off := 3) (b := fun G => b2) (vs := fun G => [.int .i64 x1.Left]) (arr := fun G => #[.string x1.Text, .int .i64 x1.Value, .int .i64 x1.Blind, .int .i64 x1.Left, .int .i64 x1.Right]) (T := 44) (fr := (0, 0)) (fun G => ⟨by kernel_rfl⟩) (fun G => by kernel_rfl)
          · exact One.ar hn3 (fun _ _ => by kernel_rfl) (fun G w hs => by
              have hg := gd_of hs (p := (true && (p4 == false))) (by kernel_rfl)
              have hg0 := (iN hp4 (iNF iDT)).1 (eqF (andR hg))
              exact by omega)
          · exact One.callP (v := fun G => .bool p5) (f := 71) (args := fun G => #[.int .i64 x1.Left, .int .i64 0, .int .i64 n3]) (fun _ _ => by kernel_rfl) (fun G w hs => by
              have hg := gd_of hs (p := (true && (p4 == false))) (by kernel_rfl)
              have hg0 := (iN hp4 (iNF iDT)).1 (eqF (andR hg))
              rw [hp5]
              exact rin_ct x1.Left 0 n3 w )
          · subst hp6
            cases p4 <;> exact One.under fun _ _ _ => by kernel_rfl
          · exact One.loadE (t := 3) (r := 1) (off := 4) (b := fun G => b2) (vs := fun G => [.int .i64 x1.Right]) (arr := fun G => #[.string x1.Text, .int .i64 x1.Value, .int .i64 x1.Blind, .int .i64 x1.Left, .int .i64 x1.Right]) (T := 44) (fr := (0, 0)) (fun G => ⟨by kernel_rfl⟩) (fun G => by kernel_rfl)
          · exact One.ar hn3 (fun _ _ => by kernel_rfl) (fun G w hs => by
              have hg := gd_of hs (p := (true && (p6 == false))) (by kernel_rfl)
              have hg0 := (iN hp6 (iOF (iN hp4 (iNF iDT)) (iNF (iN hp5 iDT)))).1 (eqF (andR hg))
              exact by omega)
          · exact One.callP (v := fun G => .bool p7) (f := 71) (args := fun G => #[.int .i64 x1.Right, .int .i64 0, .int .i64 n3]) (fun _ _ => by kernel_rfl) (fun G w hs => by
              have hg := gd_of hs (p := (true && (p6 == false))) (by kernel_rfl)
              have hg0 := (iN hp6 (iOF (iN hp4 (iNF iDT)) (iNF (iN hp5 iDT)))).1 (eqF (andR hg))
              rw [hp7]
              exact rin_ct x1.Right 0 n3 w )
          · subst hp8
            cases p6 <;> exact One.under fun _ _ _ => by kernel_rfl
          intro G9 xa xw hDn
          refine hDn.to [1, 3, 4, 43] [] (by kernel_rfl) ?_
          clear hDn
          refine Pre.conv (sl := [(1, .pointer (some ⟨b1, 0, none⟩)), (3, .int .i64 i), (4, .pointer (some ⟨b2, 0, none⟩)), (43, .bool p8)]) (A := [H]) (L := [some (b1, .cells #[vv] 24 (0, 0)), some (b2, .cells #[.string x1.Text, .int .i64 x1.Value, .int .i64 x1.Blind, .int .i64 x1.Left, .int .i64 x1.Right] 44 (0, 0)), none, none]) ?_ (by kernel_rfl) (by kernel_rfl) (by kernel_rfl)
          clear G9
          refine At.then ?_
          refine W.cond p8 (by kernel_rfl) (fun xa hs => cnd_of (t := 43) (by kernel_rfl) (by kernel_rfl) hs) (fun hq => ?_) (fun hq => ?_)
          · skip
            have hq6 := hq
            replace hq6 := (iN hp8 (iOT (iN hp6 (iOT (iN hp4 (iNT iDF)) (iNT (iN hp5 iDF)))) (iNT (iN hp7 iDF)))).1 hq6
            refine W.seq (by kernel_rfl) ?_
            refine W.regV (rsound_ct_r47_9 vv H b1 i x1 b2 p8) [0] [] (fun G => [.bool false]) (by kernel_rfl) mo_ra (by kernel_rfl) (fun _ _ => by kernel_rfl) trivial (by kernel_rfl) ?_
            intro G10 xa xw hDn
            refine hDn.to [2] [] (by kernel_rfl) ?_
            clear hDn
            refine Pre.conv (sl := [(2, .bool false)]) (A := [H]) (L := [some (b1, .cells #[vv] 24 (0, 0)), some (b2, .cells #[.string x1.Text, .int .i64 x1.Value, .int .i64 x1.Blind, .int .i64 x1.Left, .int .i64 x1.Right] 44 (0, 0)), none, none]) ?_ (by kernel_rfl) (by kernel_rfl) (by kernel_rfl)
            clear G10
            refine At.then ?_
            refine W.ret (by kernel_rfl) ?_
            refine At.thenRet ?_
            refine At.blockRet ?_
            refine At.thenRet ?_
            refine At.thenRet ?_
            refine At.blockRet ?_
            refine At.thenRet ?_
            refine At.results (Or.inl rfl) (.bool false) (fun xa xw hs hw => results_one (r := .tmp 2) (by kernel_rfl) (res_tmp (t := 2) (by kernel_rfl) hs)) (fun w' hw => ?_)
            have e0 : false = (decide (Tm.Sound v)) := by
              refine Tm.sound_no_ref (k := i) (by omega) (by omega) (by assumption) (by assumption) ?_
              rintro ⟨h1, h2, h3, h4, h5, h6, h7⟩
              unfold Tm.el at h4 h5
              rcases hq6 with h | h <;> first | (rcases h with h | h <;> first | (rcases h with h | h <;> first | exact h h1 | omega) | exact h h1 | omega) | omega
            exact ⟨congrArg Ending.returned (cong1 (fun (x0 : Bool) => (.bool x0 : Value)) e0), hw.base⟩
          · skip
            have hq7 := hq
            replace hq7 := (iN hp8 (iOF (iN hp6 (iOF (iN hp4 (iNF iDT)) (iNF (iN hp5 iDT)))) (iNF (iN hp7 iDT)))).1 hq7
            refine W.skip (by kernel_rfl) ?_
            refine At.then ?_
            refine W.seq (by kernel_rfl) ?_
            obtain ⟨x2, hx2⟩ : ∃ zz : DThing, zz = v.getD x1.Left.toNat default := ⟨_, rfl⟩
            refine W.regV (rsound_ct_r47_10 vv H b1 i x1 b2 p8 x2) [0, 2] [1, 3, 4, 5, 6, 7] (fun G => [.pointer (some ⟨b1, 0, none⟩), .pointer (some ⟨b2, 3, none⟩)]) (by kernel_rfl) mo_ra (by kernel_rfl) (fun _ _ => by kernel_rfl) ⟨?_, ?_, ?_, ?_, ?_, ?_, trivial⟩ (by kernel_rfl) ?_
            · exact One.loadE (t := 22) (r := 0) (off := 0) (b := fun G => b1) (vs := fun G => [vv]) (arr := fun G => #[vv]) (T := 24) (fr := (0, 0)) (fun G => ⟨by kernel_rfl⟩) (fun G => by kernel_rfl)
            · exact One.loadE (t := 3) (r := 1) (off := 3) (b := fun G => b2) (vs := fun G => [.int .i64 x1.Left]) (arr := fun G => #[.string x1.Text, .int .i64 x1.Value, .int .i64 x1.Blind, .int .i64 x1.Left, .int .i64 x1.Right]) (T := 44) (fr := (0, 0)) (fun G => ⟨by kernel_rfl⟩) (fun G => by kernel_rfl)
            · exact One.index (t := 22) (e := 44) (size := 5) (v := fun G => vv) (k := .i64) (n := x1.Left) (fun _ => ⟨by kernel_rfl⟩) (fun G w hs => ⟨_, (hv).isSl, by first | omega | (simp only [List.length_append, List.length_cons, List.length_nil, List.length_replicate, List.length_set, List.length_take, List.length_drop, List.length_map, List.length_reverse, List.length_range]; omega), by first | omega | (simp only [List.length_append, List.length_cons, List.length_nil, List.length_replicate, List.length_set, List.length_take, List.length_drop, List.length_map, List.length_reverse, List.length_range]; omega)⟩)
            · exact One.loadD (α := DThing) (t := 44) (size := 5) (off := 0) (k := x1.Left) (l := fun G => v) (x := fun G => x2) (vs := fun G => [.string x2.Text, .int .i64 x2.Value, .int .i64 x2.Blind, .int .i64 x2.Left, .int .i64 x2.Right]) (v := fun G => vv) (H := fun G => H) (p := fun G => elemAddr vv (x1.Left.toNat * 5)) (fun G => ⟨by kernel_rfl⟩) rfl (fun G => by kernel_rfl) (fun G w hs => ⟨(hs.read 0 rfl), hv, (add_zero' _).symm, by omega, by first | omega | (simp only [List.length_append, List.length_cons, List.length_nil, List.length_replicate, List.length_set, List.length_take, List.length_drop, List.length_map, List.length_reverse, List.length_range]; omega), hx2⟩)
            · exact One.new (r := 2) (T := 44) (fun b => .pointer (some ⟨b, 0, none⟩)) (arr := fun G => #[.string ByteArray.empty, .int .i64 0, .int .i64 0, .int .i64 0, .int .i64 0]) (fun G w => by kernel_rfl) (fun G b => by kernel_rfl)
            · exact One.store (t := 44) (r := 2) (off := 0) (T := 44) (b := fun G => (G 6).b) (u := fun G => .agg #[.string x2.Text, .int .i64 x2.Value, .int .i64 x2.Blind, .int .i64 x2.Left, .int .i64 x2.Right]) (vs := fun G => [.string x2.Text, .int .i64 x2.Value, .int .i64 x2.Blind, .int .i64 x2.Left, .int .i64 x2.Right]) (arr := fun G => #[.string ByteArray.empty, .int .i64 0, .int .i64 0, .int .i64 0, .int .i64 0]) (fun G => ⟨by kernel_rfl⟩) (fun G => by kernel_rfl)
            intro G11 xa xw hDn
            refine hDn.to [1, 3, 4, 5] [] (by kernel_rfl) ?_
            clear hDn
            refine Pre.conv (sl := [(1, .pointer (some ⟨b1, 0, none⟩)), (3, .int .i64 i), (4, .pointer (some ⟨b2, 0, none⟩)), (5, .pointer (some ⟨(G11 6).b, 0, none⟩))]) (A := [H]) (L := [some (b1, .cells #[vv] 24 (0, 0)), some (b2, .cells #[.string x1.Text, .int .i64 x1.Value, .int .i64 x1.Blind, .int .i64 x1.Left, .int .i64 x1.Right] 44 (0, 0)), some ((G11 6).b, .cells #[.string x2.Text, .int .i64 x2.Value, .int .i64 x2.Blind, .int .i64 x2.Left, .int .i64 x2.Right] 44 (0, 0)), none]) ?_ (by kernel_rfl) (by kernel_rfl) (by kernel_rfl)
            generalize (G11 6).b = b3 at ⊢
            clear G11
            refine At.then ?_
            refine W.seq (by kernel_rfl) ?_
            obtain ⟨x3, hx3⟩ : ∃ zz : DThing, zz = v.getD x1.Right.toNat default := ⟨_, rfl⟩
            refine W.regV (rsound_ct_r47_11 vv H b1 i x1 b2 x2 b3 x3) [0, 2] [1, 3, 4, 5, 6, 7] (fun G => [.pointer (some ⟨b1, 0, none⟩), .pointer (some ⟨b2, 4, none⟩)]) (by kernel_rfl) mo_ra (by kernel_rfl) (fun _ _ => by kernel_rfl) ⟨?_, ?_, ?_, ?_, ?_, ?_, trivial⟩ (by kernel_rfl) ?_
            · exact One.loadE (t := 22) (r := 0) (off := 0) (b := fun G => b1) (vs := fun G => [vv]) (arr := fun G => #[vv]) (T := 24) (fr := (0, 0)) (fun G => ⟨by kernel_rfl⟩) (fun G => by kernel_rfl)
            · exact One.loadE (t := 3) (r := 1) (off := 4) (b := fun G => b2) (vs := fun G => [.int .i64 x1.Right]) (arr := fun G => #[.string x1.Text, .int .i64 x1.Value, .int .i64 x1.Blind, .int .i64 x1.Left, .int .i64 x1.Right]) (T := 44) (fr := (0, 0)) (fun G => ⟨by kernel_rfl⟩) (fun G => by kernel_rfl)
            · exact One.index (t := 22) (e := 44) (size := 5) (v := fun G => vv) (k := .i64) (n := x1.Right) (fun _ => ⟨by kernel_rfl⟩) (fun G w hs => ⟨_, (hv).isSl, by first | omega | (simp only [List.length_append, List.length_cons, List.length_nil, List.length_replicate, List.length_set, List.length_take, List.length_drop, List.length_map, List.length_reverse, List.length_range]; omega), by first | omega | (simp only [List.length_append, List.length_cons, List.length_nil, List.length_replicate, List.length_set, List.length_take, List.length_drop, List.length_map, List.length_reverse, List.length_range]; omega)⟩)
            · exact One.loadD (α := DThing) (t := 44) (size := 5) (off := 0) (k := x1.Right) (l := fun G => v) (x := fun G => x3) (vs := fun G => [.string x3.Text, .int .i64 x3.Value, .int .i64 x3.Blind, .int .i64 x3.Left, .int .i64 x3.Right]) (v := fun G => vv) (H := fun G => H) (p := fun G => elemAddr vv (x1.Right.toNat * 5)) (fun G => ⟨by kernel_rfl⟩) rfl (fun G => by kernel_rfl) (fun G w hs => ⟨(hs.read 0 rfl), hv, (add_zero' _).symm, by omega, by first | omega | (simp only [List.length_append, List.length_cons, List.length_nil, List.length_replicate, List.length_set, List.length_take, List.length_drop, List.length_map, List.length_reverse, List.length_range]; omega), hx3⟩)
            · exact One.new (r := 3) (T := 44) (fun b => .pointer (some ⟨b, 0, none⟩)) (arr := fun G => #[.string ByteArray.empty, .int .i64 0, .int .i64 0, .int .i64 0, .int .i64 0]) (fun G w => by kernel_rfl) (fun G b => by kernel_rfl)
            · exact One.store (t := 44) (r := 3) (off := 0) (T := 44) (b := fun G => (G 6).b) (u := fun G => .agg #[.string x3.Text, .int .i64 x3.Value, .int .i64 x3.Blind, .int .i64 x3.Left, .int .i64 x3.Right]) (vs := fun G => [.string x3.Text, .int .i64 x3.Value, .int .i64 x3.Blind, .int .i64 x3.Left, .int .i64 x3.Right]) (arr := fun G => #[.string ByteArray.empty, .int .i64 0, .int .i64 0, .int .i64 0, .int .i64 0]) (fun G => ⟨by kernel_rfl⟩) (fun G => by kernel_rfl)
            intro G12 xa xw hDn
            refine hDn.to [1, 3, 4, 5, 6] [] (by kernel_rfl) ?_
            clear hDn
            refine Pre.conv (sl := [(1, .pointer (some ⟨b1, 0, none⟩)), (3, .int .i64 i), (4, .pointer (some ⟨b2, 0, none⟩)), (5, .pointer (some ⟨b3, 0, none⟩)), (6, .pointer (some ⟨(G12 6).b, 0, none⟩))]) (A := [H]) (L := [some (b1, .cells #[vv] 24 (0, 0)), some (b2, .cells #[.string x1.Text, .int .i64 x1.Value, .int .i64 x1.Blind, .int .i64 x1.Left, .int .i64 x1.Right] 44 (0, 0)), some (b3, .cells #[.string x2.Text, .int .i64 x2.Value, .int .i64 x2.Blind, .int .i64 x2.Left, .int .i64 x2.Right] 44 (0, 0)), some ((G12 6).b, .cells #[.string x3.Text, .int .i64 x3.Value, .int .i64 x3.Blind, .int .i64 x3.Left, .int .i64 x3.Right] 44 (0, 0))]) ?_ (by kernel_rfl) (by kernel_rfl) (by kernel_rfl)
            generalize (G12 6).b = b4 at ⊢
            clear G12
            refine At.then ?_
            refine W.seq (by kernel_rfl) ?_
            have hba := Tm.bd_of hf3 (by omega) x1.Left.toNat (by omega)
            have hbb := Tm.bd_of hf3 (by omega) x1.Right.toNat (by omega)
            rw [← hx2] at hba; rw [← hx3] at hbb; unfold Tm.Bd at hba hbb
            obtain ⟨n4, hn4⟩ : ∃ zz : Int, zz = x2.Value + x3.Value := ⟨_, rfl⟩
            obtain ⟨p9, hp9⟩ : ∃ zz : Bool, zz = !(decide (x1.Value = n4)) := ⟨_, rfl⟩
            obtain ⟨n5, hn5⟩ : ∃ zz : Int, zz = x2.Blind + x3.Blind := ⟨_, rfl⟩
            obtain ⟨p10, hp10⟩ : ∃ zz : Bool, zz = !(decide (x1.Blind = n5)) := ⟨_, rfl⟩
            obtain ⟨p11, hp11⟩ : ∃ zz : Bool, zz = (p9 || p10) := ⟨_, rfl⟩
            obtain ⟨p12, hp12⟩ : ∃ zz : Bool, zz = decide (1125899906842624 < x1.Value) := ⟨_, rfl⟩
            obtain ⟨p13, hp13⟩ : ∃ zz : Bool, zz = (p11 || p12) := ⟨_, rfl⟩
            obtain ⟨p14, hp14⟩ : ∃ zz : Bool, zz = decide (1125899906842624 < x1.Blind) := ⟨_, rfl⟩
            obtain ⟨p15, hp15⟩ : ∃ zz : Bool, zz = (p13 || p14) := ⟨_, rfl⟩
            refine W.regV (rsound_ct_r47_12 vv H b1 i x1 b2 x2 b3 x3 b4 n4 p9 n5 p10 p11 p12 p13 p14 p15) [0, 2, 4, 8, 9, 11, 13, 18, 19, 23, 24] [1, 3, 5, 6, 7, 10, 12, 14, 15, 16, 17, 20, 21, 22, 25, 26, 27] (fun G => [.pointer (some ⟨b2, 1, none⟩), .pointer (some ⟨b3, 1, none⟩), .pointer (some ⟨b4, 1, none⟩), .bool p9, .pointer (some ⟨b2, 2, none⟩), .pointer (some ⟨b3, 2, none⟩), .pointer (some ⟨b4, 2, none⟩), .bool p11, .pointer (some ⟨b2, 1, none⟩), .bool p13, .pointer (some ⟨b2, 2, none⟩)]) (by kernel_rfl) mo_ra (by kernel_rfl) (fun _ _ => by kernel_rfl) ⟨?_, ?_, ?_, ?_, ?_, ?_, ?_, ?_, ?_, ?_, ?_, ?_, ?_, ?_, ?_, ?_, ?_, trivial⟩ (by kernel_rfl) ?_
            · exact One.loadE (t := 3) (r := 1) (off := 1) (b := fun G => b2) (vs := fun G => [.int .i64 x1.Value]) (arr := fun G => #[.string x1.Text, .int .i64 x1.Value, .int .i64 x1.Blind, .int .i64 x1.Left, .int .i64 x1.Right]) (T := 44) (fr := (0, 0)) (fun G => ⟨by kernel_rfl⟩) (fun G => by kernel_rfl)
            · exact One.loadE (t := 3) (r := 2) (off := 1) (b := fun G => b3) (vs := fun G => [.int .i64 x2.Value]) (arr := fun G => #[.string x2.Text, .int .i64 x2.Value, .int .i64 x2.Blind, .int .i64 x2.Left, .int .i64 x2.Right]) (T := 44) (fr := (0, 0)) (fun G => ⟨by kernel_rfl⟩) (fun G => by kernel_rfl)
            · exact One.loadE (t := 3) (r := 3) (off := 1) (b := fun G => b4) (vs := fun G => [.int .i64 x3.Value]) (arr := fun G => #[.string x3.Text, .int .i64 x3.Value, .int .i64 x3.Blind, .int .i64 x3.Left, .int .i64 x3.Right]) (T := 44) (fr := (0, 0)) (fun G => ⟨by kernel_rfl⟩) (fun G => by kernel_rfl)
            · exact One.ar hn4 (fun _ _ => by kernel_rfl) (fun G w hs => by omega)
            · exact One.bo hp9 (fun _ _ => by kernel_rfl)
            · exact One.loadE (t := 3) (r := 1) (off := 2) (b := fun G => b2) (vs := fun G => [.int .i64 x1.Blind]) (arr := fun G => #[.string x1.Text, .int .i64 x1.Value, .int .i64 x1.Blind, .int .i64 x1.Left, .int .i64 x1.Right]) (T := 44) (fr := (0, 0)) (fun G => ⟨by kernel_rfl⟩) (fun G => by kernel_rfl)
            · exact One.loadE (t := 3) (r := 2) (off := 2) (b := fun G => b3) (vs := fun G => [.int .i64 x2.Blind]) (arr := fun G => #[.string x2.Text, .int .i64 x2.Value, .int .i64 x2.Blind, .int .i64 x2.Left, .int .i64 x2.Right]) (T := 44) (fr := (0, 0)) (fun G => ⟨by kernel_rfl⟩) (fun G => by kernel_rfl)
            · exact One.loadE (t := 3) (r := 3) (off := 2) (b := fun G => b4) (vs := fun G => [.int .i64 x3.Blind]) (arr := fun G => #[.string x3.Text, .int .i64 x3.Value, .int .i64 x3.Blind, .int .i64 x3.Left, .int .i64 x3.Right]) (T := 44) (fr := (0, 0)) (fun G => ⟨by kernel_rfl⟩) (fun G => by kernel_rfl)
            · exact One.ar hn5 (fun _ _ => by kernel_rfl) (fun G w hs => by
                have hg := gd_of hs (p := (true && (p9 == false))) (by kernel_rfl)
                have hg0 := (iN hp9 (iNF iDT)).1 (eqF (andR hg))
                exact by omega)
            · exact One.bo hp10 (fun _ _ => by kernel_rfl)
            · subst hp11
              cases p9 <;> exact One.under fun _ _ _ => by kernel_rfl
            · exact One.loadE (t := 3) (r := 1) (off := 1) (b := fun G => b2) (vs := fun G => [.int .i64 x1.Value]) (arr := fun G => #[.string x1.Text, .int .i64 x1.Value, .int .i64 x1.Blind, .int .i64 x1.Left, .int .i64 x1.Right]) (T := 44) (fr := (0, 0)) (fun G => ⟨by kernel_rfl⟩) (fun G => by kernel_rfl)
            · exact One.bo hp12 (fun _ _ => by kernel_rfl)
            · subst hp13
              cases p11 <;> exact One.under fun _ _ _ => by kernel_rfl
            · exact One.loadE (t := 3) (r := 1) (off := 2) (b := fun G => b2) (vs := fun G => [.int .i64 x1.Blind]) (arr := fun G => #[.string x1.Text, .int .i64 x1.Value, .int .i64 x1.Blind, .int .i64 x1.Left, .int .i64 x1.Right]) (T := 44) (fr := (0, 0)) (fun G => ⟨by kernel_rfl⟩) (fun G => by kernel_rfl)
            · exact One.bo hp14 (fun _ _ => by kernel_rfl)
            · subst hp15
              cases p13 <;> exact One.under fun _ _ _ => by kernel_rfl
            intro G13 xa xw hDn
            refine hDn.to [1, 3, 83] [] (by kernel_rfl) ?_
            clear hDn
            refine Pre.conv (sl := [(1, .pointer (some ⟨b1, 0, none⟩)), (3, .int .i64 i), (83, .bool p15)]) (A := [H]) (L := [some (b1, .cells #[vv] 24 (0, 0)), some (b2, .cells #[.string x1.Text, .int .i64 x1.Value, .int .i64 x1.Blind, .int .i64 x1.Left, .int .i64 x1.Right] 44 (0, 0)), some (b3, .cells #[.string x2.Text, .int .i64 x2.Value, .int .i64 x2.Blind, .int .i64 x2.Left, .int .i64 x2.Right] 44 (0, 0)), some (b4, .cells #[.string x3.Text, .int .i64 x3.Value, .int .i64 x3.Blind, .int .i64 x3.Left, .int .i64 x3.Right] 44 (0, 0))]) ?_ (by kernel_rfl) (by kernel_rfl) (by kernel_rfl)
            clear G13
            refine At.then ?_
            refine W.cond p15 (by kernel_rfl) (fun xa hs => cnd_of (t := 83) (by kernel_rfl) (by kernel_rfl) hs) (fun hq => ?_) (fun hq => ?_)
            · skip
              have hq8 := hq
              replace hq8 := (iN hp15 (iOT (iN hp13 (iOT (iN hp11 (iOT (iN hp9 (iNT iDF)) (iN hp10 (iNT iDF)))) (iN hp12 iDT))) (iN hp14 iDT))).1 hq8
              refine W.seq (by kernel_rfl) ?_
              refine W.regV (rsound_ct_r47_13 vv H b1 i x1 b2 x2 b3 x3 b4 p15) [0] [] (fun G => [.bool false]) (by kernel_rfl) mo_ra (by kernel_rfl) (fun _ _ => by kernel_rfl) trivial (by kernel_rfl) ?_
              intro G14 xa xw hDn
              refine hDn.to [2] [] (by kernel_rfl) ?_
              clear hDn
              refine Pre.conv (sl := [(2, .bool false)]) (A := [H]) (L := [some (b1, .cells #[vv] 24 (0, 0)), some (b2, .cells #[.string x1.Text, .int .i64 x1.Value, .int .i64 x1.Blind, .int .i64 x1.Left, .int .i64 x1.Right] 44 (0, 0)), some (b3, .cells #[.string x2.Text, .int .i64 x2.Value, .int .i64 x2.Blind, .int .i64 x2.Left, .int .i64 x2.Right] 44 (0, 0)), some (b4, .cells #[.string x3.Text, .int .i64 x3.Value, .int .i64 x3.Blind, .int .i64 x3.Left, .int .i64 x3.Right] 44 (0, 0))]) ?_ (by kernel_rfl) (by kernel_rfl) (by kernel_rfl)
              clear G14
              refine At.then ?_
              refine W.ret (by kernel_rfl) ?_
              refine At.blockRet ?_
              refine At.thenRet ?_
              refine At.thenRet ?_
              refine At.blockRet ?_
              refine At.thenRet ?_
              refine At.results (Or.inl rfl) (.bool false) (fun xa xw hs hw => results_one (r := .tmp 2) (by kernel_rfl) (res_tmp (t := 2) (by kernel_rfl) hs)) (fun w' hw => ?_)
              have e0 : false = (decide (Tm.Sound v)) := by
                refine Tm.sound_no_ref (k := i) (by omega) (by omega) (by assumption) (by assumption) ?_
                rintro ⟨h1, h2, h3, h4, h5, h6, h7⟩
                unfold Tm.el at h4 h5
                rw [← hx2, ← hx3] at h4 h5
                rcases hq8 with h | h <;> first | (rcases h with h | h <;> first | (rcases h with h | h <;> first | exact h h1 | omega) | exact h h1 | omega) | omega
              exact ⟨congrArg Ending.returned (cong1 (fun (x0 : Bool) => (.bool x0 : Value)) e0), hw.base⟩
            · skip
              have hq9 := hq
              replace hq9 := (iN hp15 (iOF (iN hp13 (iOF (iN hp11 (iOF (iN hp9 (iNF iDT)) (iN hp10 (iNF iDT)))) (iN hp12 iDF))) (iN hp14 iDF))).1 hq9
              refine W.skip (by kernel_rfl) ?_
              refine At.blockNormal ?_
              refine At.then ?_
              obtain ⟨n6, hn6⟩ : ∃ zz : Int, zz = i + 1 := ⟨_, rfl⟩
              refine W.regV (rsound_ct_r47_14 vv H b1 i x1 b2 x2 b3 x3 b4 p15 n6) [0, 2] [1] (fun G => [.int .i64 i, .int .i64 n6]) (by kernel_rfl) mo_ra (by kernel_rfl) (fun _ _ => by kernel_rfl) ⟨?_, trivial⟩ (by kernel_rfl) ?_
              · exact One.ar hn6 (fun _ _ => by kernel_rfl) (fun G w hs => by omega)
              intro G15 xa xw hDn
              refine hDn.to [1, 3] [] (by kernel_rfl) ?_
              clear hDn
              refine Pre.conv (sl := [(1, .pointer (some ⟨b1, 0, none⟩)), (3, .int .i64 n6)]) (A := [H]) (L := [some (b1, .cells #[vv] 24 (0, 0)), some (b2, .cells #[.string x1.Text, .int .i64 x1.Value, .int .i64 x1.Blind, .int .i64 x1.Left, .int .i64 x1.Right] 44 (0, 0)), some (b3, .cells #[.string x2.Text, .int .i64 x2.Value, .int .i64 x2.Blind, .int .i64 x2.Left, .int .i64 x2.Right] 44 (0, 0)), some (b4, .cells #[.string x3.Text, .int .i64 x3.Value, .int .i64 x3.Blind, .int .i64 x3.Left, .int .i64 x3.Right] 44 (0, 0))]) ?_ (by kernel_rfl) (by kernel_rfl) (by kernel_rfl)
              clear G15
              intro xa xw hs hw
              refine ⟨n6, ⟨hs.sub (by kernel_rfl), hw.mask [true, false, false, false] (by kernel_rfl), ?_⟩, ?_⟩
              · skip
                refine ⟨?_, ?_, ?_⟩
                · show 0 ≤ n6
                  first | omega | rfl | (simp; done) | (subst_vars; simp; done)
                · show n6 ≤ (v.length : Int)
                  first | omega | rfl | (simp; done) | (subst_vars; simp; done)
                · show Tm.okTo v n6.toNat
                  refine Tm.sound_step (k := i) hf3 (by omega) (by assumption) (by assumption) ((Tm.okT_ref (by omega) (by omega)).2 ?_)
                  right; unfold Tm.refOK Tm.el; rw [← hx2, ← hx3]; refine ⟨by first | exact hq7.1.1 | exact Decidable.not_not.1 hq7.1.1, ?_⟩; omega
              · show ((v.length : Int) - n6).toNat < ((v.length : Int) - i).toNat
                omega
      · skip
        have hq10 := hq
        replace hq10 := (iN hp2 iDF).1 hq10
        refine W.exit 0 (by kernel_rfl) ?_
        refine At.thenExit ?_
        refine At.thenExit ?_
        refine At.blockHit ?_
        refine At.then ?_
        refine W.seq (by kernel_rfl) ?_
        refine W.regV (rsound_ct_r47_15 vv H b1 i p2) [0] [] (fun G => [.bool true]) (by kernel_rfl) mo_ra (by kernel_rfl) (fun _ _ => by kernel_rfl) trivial (by kernel_rfl) ?_
        intro G16 xa xw hDn
        refine hDn.to [2] [] (by kernel_rfl) ?_
        clear hDn
        refine Pre.conv (sl := [(2, .bool true)]) (A := [H]) (L := [some (b1, .cells #[vv] 24 (0, 0)), none, none, none]) ?_ (by kernel_rfl) (by kernel_rfl) (by kernel_rfl)
        clear G16
        refine At.then ?_
        refine W.ret (by kernel_rfl) ?_
        refine At.results (Or.inl rfl) (.bool true) (fun xa xw hs hw => results_one (r := .tmp 2) (by kernel_rfl) (res_tmp (t := 2) (by kernel_rfl) hs)) (fun w' hw => ?_)
        have e0 : true = (decide (Tm.Sound v)) := by
          exact Tm.sound_yes (k := i) (by assumption) (by omega) (by assumption) (by omega) (by omega) (by omega)
        exact ⟨congrArg Ending.returned (cong1 (fun (x0 : Bool) => (.bool x0 : Value)) e0), hw.base⟩

noncomputable def put_ct_r72_0 (vv : Value) (x_Text : ByteArray) (x_Value x_Blind x_Left x_Right : Int) (H : Heaplet) : RC := { ops := opsAt Try.f72 0, B := [0, 0, 0], sl := [(0, .agg #[vv]), (1, .agg #[.string x_Text, .int .i64 x_Value, .int .i64 x_Blind, .int .i64 x_Left, .int .i64 x_Right])], A := [H], L := [none, none, none, none, none], cs := [{ val := fun G => .pointer (some ⟨(G 0).b, 0, none⟩), ups := [(0, fun G => some ((G 0).b, .cells #[vv] 24 (0, 0)))] }, { val := fun G => .pointer (some ⟨(G 1).b, 0, none⟩), ups := [(1, fun G => some ((G 1).b, .cells #[.string x_Text, .int .i64 x_Value, .int .i64 x_Blind, .int .i64 x_Left, .int .i64 x_Right] 44 (0, 0)))] }, { val := fun G => .pointer (some ⟨(G 2).b, 0, none⟩), ups := [(2, fun G => some ((G 2).b, .cells #[.slice none 0 0] 24 (0, 0)))] }] }
noncomputable def put_ct_r72_1 (v : List DThing) (vv : Value) (x_Text : ByteArray) (x_Value x_Blind x_Left x_Right : Int) (H : Heaplet) (b1 b2 b3 : Nat) (l1 l2 : List DThing) : RC := { ops := opsAt Try.f72 1, B := [0, 0, 2, 7, 0, 16, 63, 127, 255], sl := [(2, .pointer (some ⟨b1, 0, none⟩)), (3, .pointer (some ⟨b2, 0, none⟩)), (4, .pointer (some ⟨b3, 0, none⟩))], A := [H], L := [some (b1, .cells #[vv] 24 (0, 0)), some (b2, .cells #[.string x_Text, .int .i64 x_Value, .int .i64 x_Blind, .int .i64 x_Left, .int .i64 x_Right] 44 (0, 0)), some (b3, .cells #[.slice none 0 0] 24 (0, 0)), none, none], cs := [{ val := fun G => .slice (some ⟨(G 0).b, 0, none⟩) 0 0, ups := [(3, fun G => (some ((G 0).b, .cells #[] 44 (0, 0))))] }, { val := fun _ => .pointer (some ⟨b1, 0, none⟩) }, { val := fun _ => vv, rds := [0] }, { val := fun G => (G 3).v, fact := fun G => OSl 44 H l1 (G 3).v (G 3).e, ups := [(3, fun G => (G 3).e)] }, { val := fun _ => .agg #[.string x_Text, .int .i64 x_Value, .int .i64 x_Blind, .int .i64 x_Left, .int .i64 x_Right], rds := [1] }, { val := fun G => .slice (some ⟨(G 5).b, 0, none⟩) 1 1, ups := [(4, fun G => (some ((G 5).b, .cells #[.string x_Text, .int .i64 x_Value, .int .i64 x_Blind, .int .i64 x_Left, .int .i64 x_Right] 44 (0, 0))))] }, { val := fun G => (G 6).v, fact := fun G => OSl 44 H l2 (G 6).v (G 6).e, ups := [(3, fun G => (G 6).e)], rds := [4] }, { val := fun G => .agg #[(G 6).v] }, { val := fun _ => undef, ups := [(2, fun G => some (b3, .cells #[(G 6).v] 24 (0, 0)))] }] }
set_option maxRecDepth 10000 in
theorem put_ct (v : List DThing) (vv : Value) (x_Text : ByteArray) (x_Value x_Blind x_Left x_Right : Int) (w0 : World) (H : Heaplet) (hA : Agrees w0 H) (hv : RSl H v vv) (hb : v.length ≤ 1000000) :
    Calls Try.prog 72 #[.agg #[vv], .agg #[.string x_Text, .int .i64 x_Value, .int .i64 x_Blind, .int .i64 x_Left, .int .i64 x_Right]] w0 (Makes H (fun g => .agg #[g.v]) (fun J g => RSl J (v ++ [DThing.mk x_Text x_Value x_Blind x_Left x_Right]) g.v) w0) := by
  have hE : Ext w0 H H := Ext.refl w0 H
  have hvn := hv.lim
  refine calls_of_W (sl := [(0, .agg #[vv]), (1, .agg #[.string x_Text, .int .i64 x_Value, .int .i64 x_Blind, .int .i64 x_Left, .int .i64 x_Right])]) (A := [H]) (L := [none, none, none, none, none]) Try.func72 (by kernel_rfl) 13 (by kernel_rfl) (by kernel_rfl) (fun J hJ => by simp at hJ; subst hJ; exact hA) (by simp) ?_
  refine W.seq (by kernel_rfl) ?_
  refine W.regV (put_ct_r72_0 vv x_Text x_Value x_Blind x_Left x_Right H) [] [0, 1, 2] (fun G => []) (by kernel_rfl) mo_ra (by kernel_rfl) (fun _ _ => by kernel_rfl) ⟨?_, ?_, ?_, trivial⟩ (by kernel_rfl) ?_
  · exact One.new (r := 0) (T := 24) (fun b => .pointer (some ⟨b, 0, none⟩)) (arr := fun G => #[vv]) (fun G w => by kernel_rfl) (fun G b => by kernel_rfl)
  · exact One.new (r := 1) (T := 44) (fun b => .pointer (some ⟨b, 0, none⟩)) (arr := fun G => #[.string x_Text, .int .i64 x_Value, .int .i64 x_Blind, .int .i64 x_Left, .int .i64 x_Right]) (fun G w => by kernel_rfl) (fun G b => by kernel_rfl)
  · exact One.new (r := 2) (T := 24) (fun b => .pointer (some ⟨b, 0, none⟩)) (arr := fun G => #[.slice none 0 0]) (fun G w => by kernel_rfl) (fun G b => by kernel_rfl)
  intro G1 xa xw hDn
  refine hDn.to [2, 3, 4] [] (by kernel_rfl) ?_
  clear hDn
  refine Pre.conv (sl := [(2, .pointer (some ⟨(G1 0).b, 0, none⟩)), (3, .pointer (some ⟨(G1 1).b, 0, none⟩)), (4, .pointer (some ⟨(G1 2).b, 0, none⟩))]) (A := [H]) (L := [some ((G1 0).b, .cells #[vv] 24 (0, 0)), some ((G1 1).b, .cells #[.string x_Text, .int .i64 x_Value, .int .i64 x_Blind, .int .i64 x_Left, .int .i64 x_Right] 44 (0, 0)), some ((G1 2).b, .cells #[.slice none 0 0] 24 (0, 0)), none, none]) ?_ (by kernel_rfl) (by kernel_rfl) (by kernel_rfl)
  generalize (G1 0).b = b1 at ⊢
  generalize (G1 1).b = b2 at ⊢
  generalize (G1 2).b = b3 at ⊢
  clear G1
  refine At.then ?_
  refine W.seq (by kernel_rfl) ?_
  obtain ⟨l1, hl1⟩ : ∃ zz : List DThing, zz = (([] : List DThing)) ++ v := ⟨_, rfl⟩
  have hl1n := congrArg List.length hl1; try simp only [List.length_append, List.length_cons, List.length_nil, List.length_replicate, List.length_set, List.length_take, List.length_drop, List.length_map, List.length_reverse, List.length_range] at hl1n
  obtain ⟨l2, hl2⟩ : ∃ zz : List DThing, zz = l1 ++ [(DThing.mk x_Text x_Value x_Blind x_Left x_Right)] := ⟨_, rfl⟩
  have hl2n := congrArg List.length hl2; try simp only [List.length_append, List.length_cons, List.length_nil, List.length_replicate, List.length_set, List.length_take, List.length_drop, List.length_map, List.length_reverse, List.length_range] at hl2n
  refine W.regV (put_ct_r72_1 v vv x_Text x_Value x_Blind x_Left x_Right H b1 b2 b3 l1 l2) [1] [0, 2, 3, 4, 5, 6, 7, 8] (fun G => [.pointer (some ⟨b1, 0, none⟩)]) (by kernel_rfl) mo_ra (by kernel_rfl) (fun _ _ => by kernel_rfl) ⟨?_, ?_, ?_, ?_, ?_, ?_, ?_, ?_, trivial⟩ (by kernel_rfl) ?_
  · exact One.new (r := 3) (T := 44) (fun b => .slice (some ⟨b, 0, none⟩) 0 0) (arr := fun G => #[]) (fun G w => by kernel_rfl) (fun G b => by kernel_rfl)
  · exact One.loadE (t := 22) (r := 0) (off := 0) (b := fun G => b1) (vs := fun G => [vv]) (arr := fun G => #[vv]) (T := 24) (fr := (0, 0)) (fun G => ⟨by kernel_rfl⟩) (fun G => by kernel_rfl)
  · exact One.appendD (α := DThing) (t := 22) (E := 44) (size := 5) (bytes := 48) (r := 3) (l := fun G => ([] : List DThing)) (m := fun G => v) (lm := fun G => l1) (v := fun G => .slice (some ⟨(G 0).b, 0, none⟩) 0 0) (x := fun G => vv) (e := fun G => (some ((G 0).b, .cells #[] 44 (0, 0)))) (H := fun G => H) (J := fun G => H) (fun G g => ⟨by kernel_rfl, by kernel_rfl⟩) rfl (fun G w hs => ⟨(OSl.lit (α := DThing) (E := 44) (n := 0) (H := H) (l := ([] : List DThing)) (g := (G 0).b) (arr := #[]) (fun _ _ => trivial) (by kernel_rfl)), (hs.read 0 rfl), hv, (fun _ _ => trivial), hl1, by (try simp only [List.length_append, List.length_cons, List.length_nil, List.length_replicate, List.length_set, List.length_take, List.length_drop, List.length_map, List.length_reverse, List.length_range]); omega⟩)
  · exact One.loadE (t := 44) (r := 1) (off := 0) (b := fun G => b2) (vs := fun G => [.string x_Text, .int .i64 x_Value, .int .i64 x_Blind, .int .i64 x_Left, .int .i64 x_Right]) (arr := fun G => #[.string x_Text, .int .i64 x_Value, .int .i64 x_Blind, .int .i64 x_Left, .int .i64 x_Right]) (T := 44) (fr := (0, 0)) (fun G => ⟨by kernel_rfl⟩) (fun G => by kernel_rfl)
  · exact One.new (r := 4) (T := 44) (fun b => .slice (some ⟨b, 0, none⟩) 1 1) (arr := fun G => #[.string x_Text, .int .i64 x_Value, .int .i64 x_Blind, .int .i64 x_Left, .int .i64 x_Right]) (fun G w => by kernel_rfl) (fun G b => by kernel_rfl)
  · exact One.appendD (α := DThing) (t := 22) (E := 44) (size := 5) (bytes := 48) (r := 3) (l := fun G => l1) (m := fun G => [(DThing.mk x_Text x_Value x_Blind x_Left x_Right)]) (lm := fun G => l2) (v := fun G => (G 3).v) (x := fun G => .slice (some ⟨(G 5).b, 0, none⟩) 1 1) (e := fun G => (G 3).e) (H := fun G => H) (J := fun G => (hun (entH ((some ((G 5).b, .cells #[.string x_Text, .int .i64 x_Value, .int .i64 x_Blind, .int .i64 x_Left, .int .i64 x_Right] 44 (0, 0))))) H)) (fun G g => ⟨by kernel_rfl, by kernel_rfl⟩) rfl (fun G w hs => by
      have ho3 : OSl 44 H l1 (G 3).v (G 3).e := hs.get 3 (by kernel_rfl) (p := true) (by kernel_rfl) rfl (by kernel_rfl)
      exact ⟨ho3, (hun_agrees (entH_agrees (hs.own (r := 4) (e := (some ((G 5).b, .cells #[.string x_Text, .int .i64 x_Value, .int .i64 x_Blind, .int .i64 x_Left, .int .i64 x_Right] 44 (0, 0)))) (by kernel_rfl))) (hs.read 0 rfl)), (((OSl.lit (α := DThing) (E := 44) (n := 1) (H := H) (l := [(DThing.mk x_Text x_Value x_Blind x_Left x_Right)]) (g := (G 5).b) (arr := #[.string x_Text, .int .i64 x_Value, .int .i64 x_Blind, .int .i64 x_Left, .int .i64 x_Right]) (fun _ _ => trivial) (by kernel_rfl))).read (hs.own (r := 4) (e := (some ((G 5).b, .cells #[.string x_Text, .int .i64 x_Value, .int .i64 x_Blind, .int .i64 x_Left, .int .i64 x_Right] 44 (0, 0)))) (by kernel_rfl)) (hs.read 0 rfl)), (fun _ _ => trivial), hl2, by (try simp only [List.length_append, List.length_cons, List.length_nil, List.length_replicate, List.length_set, List.length_take, List.length_drop, List.length_map, List.length_reverse, List.length_range]); omega⟩)
  · exact One.buildS (t := 24) (ps := fun x => #[(0, (x 0))]) (rs := fun x => .agg #[(x 0)]) (l := fun G => [(G 6).v]) (fun _ => ⟨by kernel_rfl⟩) (fun _ _ _ _ => by kernel_rfl) (fun G w hs => by
      have ho6 : OSl 44 H l2 (G 6).v (G 6).e := hs.get 6 (by kernel_rfl) (p := true) (by kernel_rfl) rfl (by kernel_rfl)
      exact (List.forall_mem_cons.2 ⟨⟨_, (ho6).isSl⟩, (List.forall_mem_nil _)⟩))
  · exact One.storeX (t := 24) (r := 2) (off := 0) (T := 24) (b := fun G => b3) (u := fun G => .agg #[(G 6).v]) (vs := fun G => [(G 6).v]) (arr := fun G => #[.slice none 0 0]) (fun G => ⟨by kernel_rfl⟩) (fun G w hs => by
      have ho6 : OSl 44 H l2 (G 6).v (G 6).e := hs.get 6 (by kernel_rfl) (p := true) (by kernel_rfl) rfl (by kernel_rfl)
      exact ⟨rfl, (all_cons1 (ho6).cell1 rfl)⟩)
  intro G2 xa xw hDn
  have hf6_1 : OSl 44 H l2 (G2 6).v (G2 6).e := hDn.get 6 (by kernel_rfl) (by kernel_rfl) (by kernel_rfl)
  refine hDn.to [4] [] (by kernel_rfl) ?_
  clear hDn
  refine Pre.conv (sl := [(4, .pointer (some ⟨b3, 0, none⟩))]) (A := [H]) (L := [some (b1, .cells #[vv] 24 (0, 0)), some (b2, .cells #[.string x_Text, .int .i64 x_Value, .int .i64 x_Blind, .int .i64 x_Left, .int .i64 x_Right] 44 (0, 0)), some (b3, .cells #[(G2 6).v] 24 (0, 0)), (G2 6).e, (some ((G2 5).b, .cells #[.string x_Text, .int .i64 x_Value, .int .i64 x_Blind, .int .i64 x_Left, .int .i64 x_Right] 44 (0, 0)))]) ?_ (by kernel_rfl) (by kernel_rfl) (by kernel_rfl)
  generalize (G2 6).v = v1 at hf6_1 ⊢
  generalize (G2 6).e = e1 at hf6_1 ⊢
  generalize (G2 5).b = b4 at hf6_1 ⊢
  clear G2
  refine At.then ?_
  refine W.ret (by kernel_rfl) ?_
  refine Pre.freeze 3 (e := e1) (by kernel_rfl) hE (fun K1 hk1 hk2 hE1 => ?_)
  have hr1 := (hv).mono hk1
  have hr2 := (hf6_1).frozen hk1 hk2
  refine Pre.conv (L := [some (b1, .cells #[vv] 24 (0, 0)), some (b2, .cells #[.string x_Text, .int .i64 x_Value, .int .i64 x_Blind, .int .i64 x_Left, .int .i64 x_Right] 44 (0, 0)), some (b3, .cells #[v1] 24 (0, 0)), none, (some (b4, .cells #[.string x_Text, .int .i64 x_Value, .int .i64 x_Blind, .int .i64 x_Left, .int .i64 x_Right] 44 (0, 0)))]) ?_ rfl rfl (by kernel_rfl)
  refine At.results (Or.inl rfl) (.agg #[v1]) (fun xa xw hs hw => results_one (r := .cell 4 24) (by kernel_rfl) (res_cell (ty := 24) (r := 2) (b := b3) (off := 0) (arr := #[v1]) (T := 24) (vs := [v1]) hs hw (by kernel_rfl))) (fun w' hw => ?_)
  have e0 : l2 = v ++ [DThing.mk x_Text x_Value x_Blind x_Left x_Right] := by
    rw [hl2, hl1]; simp
  exact Makes.ret v1 undef undef hA hE1 hw (fun N => rfl) (fun N J hJ => (e0 ▸ (hr2).mono hJ))

noncomputable def rLeaf_ct_r48_0 (vv : Value) (text : ByteArray) (value blind : Int) (H : Heaplet) : RC := { ops := opsAt Try.f48 0, B := [0, 0, 0, 4], sl := [(0, .agg #[vv]), (1, .string text), (2, .int .i64 value), (3, .int .i64 blind)], A := [H], L := [none, none, none], cs := [{ val := fun G => .pointer (some ⟨(G 0).b, 0, none⟩), ups := [(0, fun G => some ((G 0).b, .cells #[vv] 24 (0, 0)))] }, { val := fun G => .pointer (some ⟨(G 1).b, 0, none⟩), ups := [(1, fun G => some ((G 1).b, .cells #[.slice none 0 0] 24 (0, 0)))] }, { val := fun _ => .int .i64 0 }, { val := fun _ => .int .i64 0 }] }
noncomputable def rLeaf_ct_r48_1 (vv : Value) (text : ByteArray) (value blind : Int) (H : Heaplet) (b1 b2 : Nat) : RC := { ops := opsAt Try.f48 1, B := [0, 0, 0, 7, 0, 31], sl := [(1, .string text), (2, .int .i64 value), (3, .int .i64 blind), (4, .pointer (some ⟨b1, 0, none⟩)), (8, .pointer (some ⟨b2, 0, none⟩))], A := [H], L := [some (b1, .cells #[vv] 24 (0, 0)), some (b2, .cells #[.slice none 0 0] 24 (0, 0)), none], cs := [{ val := fun _ => .string text }, { val := fun _ => .int .i64 value }, { val := fun _ => .int .i64 blind }, { val := fun _ => .agg #[.string text, .int .i64 value, .int .i64 blind, .int .i64 ((-1)), .int .i64 ((-1))] }, { val := fun G => .pointer (some ⟨(G 4).b, 0, none⟩), ups := [(2, fun G => some ((G 4).b, .cells #[.string ByteArray.empty, .int .i64 0, .int .i64 0, .int .i64 0, .int .i64 0] 44 (0, 0)))] }, { val := fun _ => undef, ups := [(2, fun G => some ((G 4).b, .cells #[.string text, .int .i64 value, .int .i64 blind, .int .i64 ((-1)), .int .i64 ((-1))] 44 (0, 0)))] }] }
noncomputable def rLeaf_ct_r48_2 (vv : Value) (text : ByteArray) (value blind : Int) (H : Heaplet) (b1 b2 b3 : Nat) (p1 p2 p3 : Bool) : RC := { ops := opsAt Try.f48 2, B := [0, 1, 3, 7, 15, 31, 63, 127], sl := [(4, .pointer (some ⟨b1, 0, none⟩)), (8, .pointer (some ⟨b2, 0, none⟩)), (11, .pointer (some ⟨b3, 0, none⟩))], A := [H], L := [some (b1, .cells #[vv] 24 (0, 0)), some (b2, .cells #[.slice none 0 0] 24 (0, 0)), some (b3, .cells #[.string text, .int .i64 value, .int .i64 blind, .int .i64 ((-1)), .int .i64 ((-1))] 44 (0, 0))], cs := [{ val := fun _ => .agg #[vv], rds := [0] }, { val := fun _ => .bool p1 }, { val := fun _ => .bool (!p1) }, { val := fun _ => .bool (!p1) }, { val := fun _ => .agg #[.string text, .int .i64 value, .int .i64 blind, .int .i64 ((-1)), .int .i64 ((-1))], rds := [2] }, { val := fun _ => .bool p2 }, { val := fun _ => .bool (!p2) }, { val := fun _ => .bool p3 }] }
noncomputable def rLeaf_ct_r48_3 (vv : Value) (text : ByteArray) (value blind : Int) (H : Heaplet) (b1 b2 b3 : Nat) (p3 : Bool) : RC := { ops := opsAt Try.f48 3, B := [0, 1, 3, 7], sl := [(4, .pointer (some ⟨b1, 0, none⟩)), (8, .pointer (some ⟨b2, 0, none⟩)), (11, .pointer (some ⟨b3, 0, none⟩)), (23, .bool p3)], A := [H], L := [some (b1, .cells #[vv] 24 (0, 0)), some (b2, .cells #[.slice none 0 0] 24 (0, 0)), some (b3, .cells #[.string text, .int .i64 value, .int .i64 blind, .int .i64 ((-1)), .int .i64 ((-1))] 44 (0, 0))], cs := [{ val := fun _ => .agg #[.slice none 0 0] }, { val := fun _ => undef, ups := [(1, fun _ => some (b2, .cells #[.slice none 0 0] 24 (0, 0)))] }, { val := fun _ => .int .i64 ((-1)) }, { val := fun _ => .int .i64 1 }] }
noncomputable def rLeaf_ct_r48_4 (vv : Value) (text : ByteArray) (value blind : Int) (H : Heaplet) (b1 b2 b3 : Nat) (p3 : Bool) (n1 : Int) (p4 : Bool) : RC := { ops := opsAt Try.f48 4, B := [0, 1, 3, 7], sl := [(4, .pointer (some ⟨b1, 0, none⟩)), (8, .pointer (some ⟨b2, 0, none⟩)), (11, .pointer (some ⟨b3, 0, none⟩)), (23, .bool p3)], A := [H], L := [some (b1, .cells #[vv] 24 (0, 0)), some (b2, .cells #[.slice none 0 0] 24 (0, 0)), some (b3, .cells #[.string text, .int .i64 value, .int .i64 blind, .int .i64 ((-1)), .int .i64 ((-1))] 44 (0, 0))], cs := [{ val := fun _ => .pointer (some ⟨b1, 0, none⟩) }, { val := fun _ => vv, rds := [0] }, { val := fun _ => .int .i64 n1 }, { val := fun _ => .bool p4 }] }
noncomputable def rLeaf_ct_r48_5 (vv : Value) (text : ByteArray) (value blind : Int) (H : Heaplet) (b1 b2 b3 : Nat) (p4 : Bool) : RC := { ops := opsAt Try.f48 5, B := [0, 1, 3, 7], sl := [(4, .pointer (some ⟨b1, 0, none⟩)), (8, .pointer (some ⟨b2, 0, none⟩)), (11, .pointer (some ⟨b3, 0, none⟩)), (28, .bool p4)], A := [H], L := [some (b1, .cells #[vv] 24 (0, 0)), some (b2, .cells #[.slice none 0 0] 24 (0, 0)), some (b3, .cells #[.string text, .int .i64 value, .int .i64 blind, .int .i64 ((-1)), .int .i64 ((-1))] 44 (0, 0))], cs := [{ val := fun _ => .agg #[.slice none 0 0] }, { val := fun _ => undef, ups := [(1, fun _ => some (b2, .cells #[.slice none 0 0] 24 (0, 0)))] }, { val := fun _ => .int .i64 ((-1)) }, { val := fun _ => .int .i64 6 }] }
noncomputable def rLeaf_ct_r48_6 (w0 : World) (v : List DThing) (vv : Value) (text : ByteArray) (value blind : Int) (H : Heaplet) (b1 b2 b3 : Nat) (n1 : Int) (p4 : Bool) (l1 : List DThing) : RC := { ops := opsAt Try.f48 6, B := [0, 0, 3, 0, 8, 24, 7, 127, 255], sl := [(4, .pointer (some ⟨b1, 0, none⟩)), (8, .pointer (some ⟨b2, 0, none⟩)), (11, .pointer (some ⟨b3, 0, none⟩)), (28, .bool p4)], A := [H], L := [some (b1, .cells #[vv] 24 (0, 0)), some (b2, .cells #[.slice none 0 0] 24 (0, 0)), some (b3, .cells #[.string text, .int .i64 value, .int .i64 blind, .int .i64 ((-1)), .int .i64 ((-1))] 44 (0, 0))], cs := [{ val := fun _ => .agg #[vv], rds := [0] }, { val := fun _ => .agg #[.string text, .int .i64 value, .int .i64 blind, .int .i64 ((-1)), .int .i64 ((-1))], rds := [2] }, { val := fun G => .agg #[(G 2).v], fact := fun G => (RSl (hun (G 2).H H) l1 (G 2).v) ∧ New w0 (G 2).H }, { val := fun _ => .pointer (some ⟨b1, 0, none⟩) }, { val := fun _ => vv, rds := [0] }, { val := fun _ => .int .i64 n1 }, { val := fun _ => undef, ups := [(1, fun G => some (b2, .cells #[(G 2).v] 24 (0, 0)))] }, { val := fun _ => .int .i64 n1 }, { val := fun _ => .int .i64 0 }] }
set_option maxRecDepth 10000 in
theorem rLeaf_ct (v : List DThing) (vv : Value) (text : ByteArray) (value blind : Int) (w0 : World) (H : Heaplet) (hA : Agrees w0 H) (hv : RSl H v vv) :
    Calls Try.prog 48 #[.agg #[vv], .string text, .int .i64 value, .int .i64 blind] w0 (Makes H (fun g => .tuple #[.agg #[g.v], .int .i64 ((Tm.leafI v text value blind)), .int .i64 ((Tm.leafE v text value blind))]) (fun J g => RSl J ((Tm.leafV v text value blind)) g.v) w0) := by
  have hE : Ext w0 H H := Ext.refl w0 H
  have hvn := hv.lim
  refine calls_of_W (sl := [(0, .agg #[vv]), (1, .string text), (2, .int .i64 value), (3, .int .i64 blind)]) (A := [H]) (L := [none, none, none]) Try.func48 (by kernel_rfl) 36 (by kernel_rfl) (by kernel_rfl) (fun J hJ => by simp at hJ; subst hJ; exact hA) (by simp) ?_
  refine W.seq (by kernel_rfl) ?_
  refine W.regV (rLeaf_ct_r48_0 vv text value blind H) [2, 3] [0, 1] (fun G => [.int .i64 0, .int .i64 0]) (by kernel_rfl) mo_ra (by kernel_rfl) (fun _ _ => by kernel_rfl) ⟨?_, ?_, trivial⟩ (by kernel_rfl) ?_
  · exact One.new (r := 0) (T := 24) (fun b => .pointer (some ⟨b, 0, none⟩)) (arr := fun G => #[vv]) (fun G w => by kernel_rfl) (fun G b => by kernel_rfl)
  · exact One.new (r := 1) (T := 24) (fun b => .pointer (some ⟨b, 0, none⟩)) (arr := fun G => #[.slice none 0 0]) (fun G w => by kernel_rfl) (fun G b => by kernel_rfl)
  intro G1 xa xw hDn
  refine hDn.to [1, 2, 3, 4, 8] [] (by kernel_rfl) ?_
  clear hDn
  refine Pre.conv (sl := [(1, .string text), (2, .int .i64 value), (3, .int .i64 blind), (4, .pointer (some ⟨(G1 0).b, 0, none⟩)), (8, .pointer (some ⟨(G1 1).b, 0, none⟩))]) (A := [H]) (L := [some ((G1 0).b, .cells #[vv] 24 (0, 0)), some ((G1 1).b, .cells #[.slice none 0 0] 24 (0, 0)), none]) ?_ (by kernel_rfl) (by kernel_rfl) (by kernel_rfl)
  generalize (G1 0).b = b1 at ⊢
  generalize (G1 1).b = b2 at ⊢
  clear G1
  refine At.then ?_
  refine W.seq (by kernel_rfl) ?_
  refine W.regV (rLeaf_ct_r48_1 vv text value blind H b1 b2) [0, 1, 2, 3] [4, 5] (fun G => [.string text, .int .i64 value, .int .i64 blind, .agg #[.string text, .int .i64 value, .int .i64 blind, .int .i64 ((-1)), .int .i64 ((-1))]]) (by kernel_rfl) mo_ra (by kernel_rfl) (fun _ _ => by kernel_rfl) ⟨?_, ?_, trivial⟩ (by kernel_rfl) ?_
  · exact One.new (r := 2) (T := 44) (fun b => .pointer (some ⟨b, 0, none⟩)) (arr := fun G => #[.string ByteArray.empty, .int .i64 0, .int .i64 0, .int .i64 0, .int .i64 0]) (fun G w => by kernel_rfl) (fun G b => by kernel_rfl)
  · exact One.store (t := 44) (r := 2) (off := 0) (T := 44) (b := fun G => (G 4).b) (u := fun G => .agg #[.string text, .int .i64 value, .int .i64 blind, .int .i64 ((-1)), .int .i64 ((-1))]) (vs := fun G => [.string text, .int .i64 value, .int .i64 blind, .int .i64 ((-1)), .int .i64 ((-1))]) (arr := fun G => #[.string ByteArray.empty, .int .i64 0, .int .i64 0, .int .i64 0, .int .i64 0]) (fun G => ⟨by kernel_rfl⟩) (fun G => by kernel_rfl)
  intro G2 xa xw hDn
  refine hDn.to [4, 8, 11] [] (by kernel_rfl) ?_
  clear hDn
  refine Pre.conv (sl := [(4, .pointer (some ⟨b1, 0, none⟩)), (8, .pointer (some ⟨b2, 0, none⟩)), (11, .pointer (some ⟨(G2 4).b, 0, none⟩))]) (A := [H]) (L := [some (b1, .cells #[vv] 24 (0, 0)), some (b2, .cells #[.slice none 0 0] 24 (0, 0)), some ((G2 4).b, .cells #[.string text, .int .i64 value, .int .i64 blind, .int .i64 ((-1)), .int .i64 ((-1))] 44 (0, 0))]) ?_ (by kernel_rfl) (by kernel_rfl) (by kernel_rfl)
  generalize (G2 4).b = b3 at ⊢
  clear G2
  refine At.then ?_
  refine W.seq (by kernel_rfl) ?_
  refine W.seq (by kernel_rfl) ?_
  obtain ⟨p1, hp1⟩ : ∃ zz : Bool, zz = (decide (Tm.Sound v)) := ⟨_, rfl⟩
  obtain ⟨p2, hp2⟩ : ∃ zz : Bool, zz = (decide (Tm.isLeaf ⟨text, value, blind, ((-1)), ((-1))⟩)) := ⟨_, rfl⟩
  obtain ⟨p3, hp3⟩ : ∃ zz : Bool, zz = (!p1 || !p2) := ⟨_, rfl⟩
  refine W.regV (rLeaf_ct_r48_2 vv text value blind H b1 b2 b3 p1 p2 p3) [2, 3, 6] [0, 1, 4, 5, 7] (fun G => [.bool (!p1), .bool (!p1), .bool (!p2)]) (by kernel_rfl) mo_ra (by kernel_rfl) (fun _ _ => by kernel_rfl) ⟨?_, ?_, ?_, ?_, ?_, trivial⟩ (by kernel_rfl) ?_
  · exact One.loadE (t := 24) (r := 0) (off := 0) (b := fun G => b1) (vs := fun G => [vv]) (arr := fun G => #[vv]) (T := 24) (fr := (0, 0)) (fun G => ⟨by kernel_rfl⟩) (fun G => by kernel_rfl)
  · exact One.callP (v := fun G => .bool p1) (f := 47) (args := fun G => #[.agg #[vv]]) (fun _ _ => by kernel_rfl) (fun G w hs => by
      rw [hp1]
      exact rsound_ct v vv w H (hs.read 0 rfl) (hv) )
  · exact One.loadE (t := 44) (r := 2) (off := 0) (b := fun G => b3) (vs := fun G => [.string text, .int .i64 value, .int .i64 blind, .int .i64 ((-1)), .int .i64 ((-1))]) (arr := fun G => #[.string text, .int .i64 value, .int .i64 blind, .int .i64 ((-1)), .int .i64 ((-1))]) (T := 44) (fr := (0, 0)) (fun G => ⟨by kernel_rfl⟩) (fun G => by kernel_rfl)
  · exact One.callP (v := fun G => .bool p2) (f := 70) (args := fun G => #[.agg #[.string text, .int .i64 value, .int .i64 blind, .int .i64 ((-1)), .int .i64 ((-1))]]) (fun _ _ => by kernel_rfl) (fun G w hs => by
      have hg := gd_of hs (p := (true && ((!p1) == false))) (by kernel_rfl)
      have hg0 := (iNF (iN hp1 iDT)).1 (eqF (andR hg))
      rw [hp2]
      exact rleaf_ct text value blind ((-1)) ((-1)) w )
  · subst hp3
    cases p1 <;> exact One.under fun _ _ _ => by kernel_rfl
  intro G3 xa xw hDn
  refine hDn.to [4, 8, 11, 23] [] (by kernel_rfl) ?_
  clear hDn
  refine Pre.conv (sl := [(4, .pointer (some ⟨b1, 0, none⟩)), (8, .pointer (some ⟨b2, 0, none⟩)), (11, .pointer (some ⟨b3, 0, none⟩)), (23, .bool p3)]) (A := [H]) (L := [some (b1, .cells #[vv] 24 (0, 0)), some (b2, .cells #[.slice none 0 0] 24 (0, 0)), some (b3, .cells #[.string text, .int .i64 value, .int .i64 blind, .int .i64 ((-1)), .int .i64 ((-1))] 44 (0, 0))]) ?_ (by kernel_rfl) (by kernel_rfl) (by kernel_rfl)
  clear G3
  refine At.then ?_
  refine W.cond p3 (by kernel_rfl) (fun xa hs => cnd_of (t := 23) (by kernel_rfl) (by kernel_rfl) hs) (fun hq => ?_) (fun hq => ?_)
  · skip
    have hq1 := hq
    replace hq1 := (iN hp3 (iOT (iNT (iN hp1 iDF)) (iNT (iN hp2 iDF)))).1 hq1
    refine W.seq (by kernel_rfl) ?_
    have hE1 := Tm.leafE_bad (v := v) (t := text) (a := value) (b := blind) (by rintro ⟨h1, h2⟩; rcases hq1 with h | h; exact h h1; exact h h2)
    have hV := And.intro hE1 (Tm.leafV_no hE1 (by decide))
    refine W.regV (rLeaf_ct_r48_3 vv text value blind H b1 b2 b3 p3) [0, 2, 3] [1] (fun G => [.agg #[.slice none 0 0], .int .i64 ((-1)), .int .i64 1]) (by kernel_rfl) mo_ra (by kernel_rfl) (fun _ _ => by kernel_rfl) ⟨?_, trivial⟩ (by kernel_rfl) ?_
    · exact One.store (t := 24) (r := 1) (off := 0) (T := 24) (b := fun G => b2) (u := fun G => .agg #[.slice none 0 0]) (vs := fun G => [.slice none 0 0]) (arr := fun G => #[.slice none 0 0]) (fun G => ⟨by kernel_rfl⟩) (fun G => by kernel_rfl)
    intro G4 xa xw hDn
    refine hDn.to [8, 9, 10] [] (by kernel_rfl) ?_
    clear hDn
    refine Pre.conv (sl := [(8, .pointer (some ⟨b2, 0, none⟩)), (9, .int .i64 ((-1))), (10, .int .i64 1)]) (A := [H]) (L := [some (b1, .cells #[vv] 24 (0, 0)), some (b2, .cells #[.slice none 0 0] 24 (0, 0)), some (b3, .cells #[.string text, .int .i64 value, .int .i64 blind, .int .i64 ((-1)), .int .i64 ((-1))] 44 (0, 0))]) ?_ (by kernel_rfl) (by kernel_rfl) (by kernel_rfl)
    clear G4
    refine At.then ?_
    refine W.ret (by kernel_rfl) ?_
    refine At.thenRet ?_
    refine At.results (Or.inl rfl) (.tuple #[.agg #[.slice none 0 0], .int .i64 ((-1)), .int .i64 1]) (fun xa xw hs hw => results_many (rs := [.cell 8 24, .tmp 9, .tmp 10]) (vs := [.agg #[.slice none 0 0], .int .i64 ((-1)), .int .i64 1]) (by kernel_rfl) (by simp) ⟨res_cell (ty := 24) (r := 1) (b := b2) (off := 0) (arr := #[.slice none 0 0]) (T := 24) (vs := [.slice none 0 0]) hs hw (by kernel_rfl), res_tmp (t := 9) (by kernel_rfl) hs, res_tmp (t := 10) (by kernel_rfl) hs, trivial⟩) (fun w' hw => ?_)
    have e0 : ([] : List DThing) = (Tm.leafV v text value blind) := by
      rw [hV.2.1]
    have e1 : (-1) = (Tm.leafI v text value blind) := by
      rw [hV.2.2]
    have e2 : 1 = (Tm.leafE v text value blind) := by
      rw [hV.1]
    exact Makes.ret (.slice none 0 0) undef undef hA hE hw (fun N => cong2 (fun (x1 : Int) (x2 : Int) => (.tuple #[.agg #[.slice none 0 0], .int .i64 x1, .int .i64 x2] : Value)) e1 e2) (fun N J hJ => (e0 ▸ RSl.nil))
  · skip
    have hq2 := hq
    replace hq2 := (iN hp3 (iOF (iNF (iN hp1 iDT)) (iNF (iN hp2 iDT)))).1 hq2
    refine W.skip (by kernel_rfl) ?_
    refine At.then ?_
    refine W.seq (by kernel_rfl) ?_
    refine W.seq (by kernel_rfl) ?_
    have hS : Tm.Sound v ∧ Tm.isLeaf (Tm.leafT text value blind) := hq2
    have hS1 := hS.1.1
    obtain ⟨n1, hn1⟩ : ∃ zz : Int, zz = (v.length : Int) := ⟨_, rfl⟩
    obtain ⟨p4, hp4⟩ : ∃ zz : Bool, zz = decide (2000 ≤ n1) := ⟨_, rfl⟩
    refine W.regV (rLeaf_ct_r48_4 vv text value blind H b1 b2 b3 p3 n1 p4) [0] [1, 2, 3] (fun G => [.pointer (some ⟨b1, 0, none⟩)]) (by kernel_rfl) mo_ra (by kernel_rfl) (fun _ _ => by kernel_rfl) ⟨?_, ?_, ?_, trivial⟩ (by kernel_rfl) ?_
    · exact One.loadE (t := 22) (r := 0) (off := 0) (b := fun G => b1) (vs := fun G => [vv]) (arr := fun G => #[vv]) (T := 24) (fr := (0, 0)) (fun G => ⟨by kernel_rfl⟩) (fun G => by kernel_rfl)
    · exact One.len (t := 22) (n := n1) (v := fun G => vv) (fun _ => ⟨by kernel_rfl⟩) (fun G w hs => ⟨_, (hv).isSl, hn1⟩)
    · exact One.bo hp4 (fun _ _ => by kernel_rfl)
    intro G5 xa xw hDn
    refine hDn.to [4, 8, 11, 28] [] (by kernel_rfl) ?_
    clear hDn
    refine Pre.conv (sl := [(4, .pointer (some ⟨b1, 0, none⟩)), (8, .pointer (some ⟨b2, 0, none⟩)), (11, .pointer (some ⟨b3, 0, none⟩)), (28, .bool p4)]) (A := [H]) (L := [some (b1, .cells #[vv] 24 (0, 0)), some (b2, .cells #[.slice none 0 0] 24 (0, 0)), some (b3, .cells #[.string text, .int .i64 value, .int .i64 blind, .int .i64 ((-1)), .int .i64 ((-1))] 44 (0, 0))]) ?_ (by kernel_rfl) (by kernel_rfl) (by kernel_rfl)
    clear G5
    refine At.then ?_
    refine W.cond p4 (by kernel_rfl) (fun xa hs => cnd_of (t := 28) (by kernel_rfl) (by kernel_rfl) hs) (fun hq => ?_) (fun hq => ?_)
    · skip
      have hq3 := hq
      replace hq3 := (iN hp4 iDT).1 hq3
      refine W.seq (by kernel_rfl) ?_
      have hE1 := Tm.leafE_full hS (by omega)
      have hV := And.intro hE1 (Tm.leafV_no hE1 (by decide))
      refine W.regV (rLeaf_ct_r48_5 vv text value blind H b1 b2 b3 p4) [0, 2, 3] [1] (fun G => [.agg #[.slice none 0 0], .int .i64 ((-1)), .int .i64 6]) (by kernel_rfl) mo_ra (by kernel_rfl) (fun _ _ => by kernel_rfl) ⟨?_, trivial⟩ (by kernel_rfl) ?_
      · exact One.store (t := 24) (r := 1) (off := 0) (T := 24) (b := fun G => b2) (u := fun G => .agg #[.slice none 0 0]) (vs := fun G => [.slice none 0 0]) (arr := fun G => #[.slice none 0 0]) (fun G => ⟨by kernel_rfl⟩) (fun G => by kernel_rfl)
      intro G6 xa xw hDn
      refine hDn.to [8, 9, 10] [] (by kernel_rfl) ?_
      clear hDn
      refine Pre.conv (sl := [(8, .pointer (some ⟨b2, 0, none⟩)), (9, .int .i64 ((-1))), (10, .int .i64 6)]) (A := [H]) (L := [some (b1, .cells #[vv] 24 (0, 0)), some (b2, .cells #[.slice none 0 0] 24 (0, 0)), some (b3, .cells #[.string text, .int .i64 value, .int .i64 blind, .int .i64 ((-1)), .int .i64 ((-1))] 44 (0, 0))]) ?_ (by kernel_rfl) (by kernel_rfl) (by kernel_rfl)
      clear G6
      refine At.then ?_
      refine W.ret (by kernel_rfl) ?_
      refine At.thenRet ?_
      refine At.results (Or.inl rfl) (.tuple #[.agg #[.slice none 0 0], .int .i64 ((-1)), .int .i64 6]) (fun xa xw hs hw => results_many (rs := [.cell 8 24, .tmp 9, .tmp 10]) (vs := [.agg #[.slice none 0 0], .int .i64 ((-1)), .int .i64 6]) (by kernel_rfl) (by simp) ⟨res_cell (ty := 24) (r := 1) (b := b2) (off := 0) (arr := #[.slice none 0 0]) (T := 24) (vs := [.slice none 0 0]) hs hw (by kernel_rfl), res_tmp (t := 9) (by kernel_rfl) hs, res_tmp (t := 10) (by kernel_rfl) hs, trivial⟩) (fun w' hw => ?_)
      have e0 : ([] : List DThing) = (Tm.leafV v text value blind) := by
        rw [hV.2.1]
      have e1 : (-1) = (Tm.leafI v text value blind) := by
        rw [hV.2.2]
      have e2 : 6 = (Tm.leafE v text value blind) := by
        rw [hV.1]
      exact Makes.ret (.slice none 0 0) undef undef hA hE hw (fun N => cong2 (fun (x1 : Int) (x2 : Int) => (.tuple #[.agg #[.slice none 0 0], .int .i64 x1, .int .i64 x2] : Value)) e1 e2) (fun N J hJ => (e0 ▸ RSl.nil))
    · skip
      have hq4 := hq
      replace hq4 := (iN hp4 iDF).1 hq4
      refine W.skip (by kernel_rfl) ?_
      refine At.then ?_
      refine W.seq (by kernel_rfl) ?_
      have hE1 := Tm.leafE_ok hS (by omega)
      have hV := And.intro hE1 (Tm.leafV_ok hE1)
      obtain ⟨l1, hl1⟩ : ∃ zz : List DThing, zz = v ++ [DThing.mk text value blind ((-1)) ((-1))] := ⟨_, rfl⟩
      refine W.regV (rLeaf_ct_r48_6 w0 v vv text value blind H b1 b2 b3 n1 p4 l1) [3, 7, 8] [0, 1, 2, 4, 5, 6] (fun G => [.pointer (some ⟨b1, 0, none⟩), .int .i64 n1, .int .i64 0]) (by kernel_rfl) mo_ra (by kernel_rfl) (fun _ _ => by kernel_rfl) ⟨?_, ?_, ?_, ?_, ?_, ?_, trivial⟩ (by kernel_rfl) ?_
      · exact One.loadE (t := 24) (r := 0) (off := 0) (b := fun G => b1) (vs := fun G => [vv]) (arr := fun G => #[vv]) (T := 24) (fr := (0, 0)) (fun G => ⟨by kernel_rfl⟩) (fun G => by kernel_rfl)
      · exact One.loadE (t := 44) (r := 2) (off := 0) (b := fun G => b3) (vs := fun G => [.string text, .int .i64 value, .int .i64 blind, .int .i64 ((-1)), .int .i64 ((-1))]) (arr := fun G => #[.string text, .int .i64 value, .int .i64 blind, .int .i64 ((-1)), .int .i64 ((-1))]) (T := 44) (fr := (0, 0)) (fun G => ⟨by kernel_rfl⟩) (fun G => by kernel_rfl)
      · exact One.callM (f := 72) (args := fun G => #[.agg #[vv], .agg #[.string text, .int .i64 value, .int .i64 blind, .int .i64 ((-1)), .int .i64 ((-1))]]) (H := fun G => H) (V := fun G g => .agg #[g.v]) (F := fun G J g => RSl J l1 g.v) (fun G g w => ⟨by kernel_rfl, by kernel_rfl⟩) (fun G w hs => by
          rw [hl1]
          exact put_ct v vv text value blind ((-1)) ((-1)) w H (hs.read 0 rfl) (hv) (by omega))
      · exact One.loadE (t := 22) (r := 0) (off := 0) (b := fun G => b1) (vs := fun G => [vv]) (arr := fun G => #[vv]) (T := 24) (fr := (0, 0)) (fun G => ⟨by kernel_rfl⟩) (fun G => by kernel_rfl)
      · exact One.len (t := 22) (n := n1) (v := fun G => vv) (fun _ => ⟨by kernel_rfl⟩) (fun G w hs => ⟨_, (hv).isSl, hn1⟩)
      · exact One.storeX (t := 24) (r := 1) (off := 0) (T := 24) (b := fun G => b2) (u := fun G => .agg #[(G 2).v]) (vs := fun G => [(G 2).v]) (arr := fun G => #[.slice none 0 0]) (fun G => ⟨by kernel_rfl⟩) (fun G w hs => by
          have ho2 : (RSl (hun (G 2).H H) l1 (G 2).v) ∧ New w0 (G 2).H := hs.get 2 (by kernel_rfl) (p := true) (by kernel_rfl) rfl (by kernel_rfl)
          exact ⟨rfl, (all_cons1 (ho2.1).cell1 rfl)⟩)
      intro G7 xa xw hDn
      have hf2_1 : (RSl (hun (G7 2).H H) l1 (G7 2).v) ∧ New w0 (G7 2).H := hDn.get 2 (by kernel_rfl) (by kernel_rfl) (by kernel_rfl)
      refine hDn.to [8, 9, 10] [2] (by kernel_rfl) ?_
      clear hDn
      refine Pre.conv (sl := [(8, .pointer (some ⟨b2, 0, none⟩)), (9, .int .i64 n1), (10, .int .i64 0)]) (A := [(G7 2).H, H]) (L := [some (b1, .cells #[vv] 24 (0, 0)), some (b2, .cells #[(G7 2).v] 24 (0, 0)), some (b3, .cells #[.string text, .int .i64 value, .int .i64 blind, .int .i64 ((-1)), .int .i64 ((-1))] 44 (0, 0))]) ?_ (by kernel_rfl) (by kernel_rfl) (by kernel_rfl)
      generalize (G7 2).v = v1 at hf2_1 ⊢
      generalize (G7 2).H = N1 at hf2_1 ⊢
      clear G7
      refine Pre.merge (Ns := [N1]) hE (by simp only [List.mem_cons, List.not_mem_nil, or_false, forall_eq_or_imp, forall_eq]; exact hf2_1.2) (fun K1 hk1 hk2 hE1 => ?_)
      have hr1 := (hv).mono hk1
      have hr1n := hr1.lim
      have hr2 := (hf2_1.1).mono (hun_sub (hk2 _ (by simp)) hk1)
      have hr2n := hr2.lim
      refine At.then ?_
      refine W.ret (by kernel_rfl) ?_
      refine At.results (Or.inl rfl) (.tuple #[.agg #[v1], .int .i64 n1, .int .i64 0]) (fun xa xw hs hw => results_many (rs := [.cell 8 24, .tmp 9, .tmp 10]) (vs := [.agg #[v1], .int .i64 n1, .int .i64 0]) (by kernel_rfl) (by simp) ⟨res_cell (ty := 24) (r := 1) (b := b2) (off := 0) (arr := #[v1]) (T := 24) (vs := [v1]) hs hw (by kernel_rfl), res_tmp (t := 9) (by kernel_rfl) hs, res_tmp (t := 10) (by kernel_rfl) hs, trivial⟩) (fun w' hw => ?_)
      have e0 : l1 = (Tm.leafV v text value blind) := by
        rw [hl1, hV.2.1]; rfl
      have e1 : n1 = (Tm.leafI v text value blind) := by
        rw [hV.2.2]
        omega
      have e2 : 0 = (Tm.leafE v text value blind) := by
        rw [hV.1]
      exact Makes.ret v1 undef undef hA hE1 hw (fun N => cong2 (fun (x1 : Int) (x2 : Int) => (.tuple #[.agg #[v1], .int .i64 x1, .int .i64 x2] : Value)) e1 e2) (fun N J hJ => (e0 ▸ (hr2).mono hJ))

noncomputable def rPair_ct_r49_0 (vv : Value) (left right : Int) (H : Heaplet) : RC := { ops := opsAt Try.f49 0, B := [0, 0, 0, 4], sl := [(0, .agg #[vv]), (1, .int .i64 left), (2, .int .i64 right)], A := [H], L := [none, none, none, none, none], cs := [{ val := fun G => .pointer (some ⟨(G 0).b, 0, none⟩), ups := [(0, fun G => some ((G 0).b, .cells #[vv] 24 (0, 0)))] }, { val := fun G => .pointer (some ⟨(G 1).b, 0, none⟩), ups := [(1, fun G => some ((G 1).b, .cells #[.slice none 0 0] 24 (0, 0)))] }, { val := fun _ => .int .i64 0 }, { val := fun _ => .int .i64 0 }] }
noncomputable def rPair_ct_r49_1 (vv : Value) (left right : Int) (H : Heaplet) (b1 b2 : Nat) (p1 : Bool) : RC := { ops := opsAt Try.f49 1, B := [0, 1, 3], sl := [(1, .int .i64 left), (2, .int .i64 right), (3, .pointer (some ⟨b1, 0, none⟩)), (6, .pointer (some ⟨b2, 0, none⟩))], A := [H], L := [some (b1, .cells #[vv] 24 (0, 0)), some (b2, .cells #[.slice none 0 0] 24 (0, 0)), none, none, none], cs := [{ val := fun _ => .agg #[vv], rds := [0] }, { val := fun _ => .bool p1 }, { val := fun _ => .bool (!p1) }] }
noncomputable def rPair_ct_r49_2 (vv : Value) (left right : Int) (H : Heaplet) (b1 b2 : Nat) (p1 : Bool) : RC := { ops := opsAt Try.f49 2, B := [0, 1, 3, 7], sl := [(1, .int .i64 left), (2, .int .i64 right), (3, .pointer (some ⟨b1, 0, none⟩)), (6, .pointer (some ⟨b2, 0, none⟩)), (14, .bool (!p1))], A := [H], L := [some (b1, .cells #[vv] 24 (0, 0)), some (b2, .cells #[.slice none 0 0] 24 (0, 0)), none, none, none], cs := [{ val := fun _ => .agg #[.slice none 0 0] }, { val := fun _ => undef, ups := [(1, fun _ => some (b2, .cells #[.slice none 0 0] 24 (0, 0)))] }, { val := fun _ => .int .i64 ((-1)) }, { val := fun _ => .int .i64 1 }] }
noncomputable def rPair_ct_r49_3 (vv : Value) (left right : Int) (H : Heaplet) (b1 b2 : Nat) (p1 : Bool) (n1 n2 : Int) (p2 p3 p4 : Bool) : RC := { ops := opsAt Try.f49 3, B := [0, 0, 2, 6, 14, 31, 63, 127, 255, 255, 767, 1791, 3839, 8191, 16383, 32767], sl := [(1, .int .i64 left), (2, .int .i64 right), (3, .pointer (some ⟨b1, 0, none⟩)), (6, .pointer (some ⟨b2, 0, none⟩)), (14, .bool (!p1))], A := [H], L := [some (b1, .cells #[vv] 24 (0, 0)), some (b2, .cells #[.slice none 0 0] 24 (0, 0)), none, none, none], cs := [{ val := fun _ => .int .i64 left }, { val := fun _ => .pointer (some ⟨b1, 0, none⟩) }, { val := fun _ => vv, rds := [0] }, { val := fun _ => .int .i64 n1 }, { val := fun _ => .int .i64 n2 }, { val := fun _ => .bool p2 }, { val := fun _ => .bool (!p2) }, { val := fun _ => .bool (!p2) }, { val := fun _ => .int .i64 right }, { val := fun _ => .pointer (some ⟨b1, 0, none⟩) }, { val := fun _ => vv, rds := [0] }, { val := fun _ => .int .i64 n1 }, { val := fun _ => .int .i64 n2 }, { val := fun _ => .bool p3 }, { val := fun _ => .bool (!p3) }, { val := fun _ => .bool p4 }] }
noncomputable def rPair_ct_r49_4 (vv : Value) (left right : Int) (H : Heaplet) (b1 b2 : Nat) (p4 : Bool) : RC := { ops := opsAt Try.f49 4, B := [0, 1, 3, 7], sl := [(1, .int .i64 left), (2, .int .i64 right), (3, .pointer (some ⟨b1, 0, none⟩)), (6, .pointer (some ⟨b2, 0, none⟩)), (31, .bool p4)], A := [H], L := [some (b1, .cells #[vv] 24 (0, 0)), some (b2, .cells #[.slice none 0 0] 24 (0, 0)), none, none, none], cs := [{ val := fun _ => .agg #[.slice none 0 0] }, { val := fun _ => undef, ups := [(1, fun _ => some (b2, .cells #[.slice none 0 0] 24 (0, 0)))] }, { val := fun _ => .int .i64 ((-1)) }, { val := fun _ => .int .i64 4 }] }
noncomputable def rPair_ct_r49_5 (vv : Value) (left right : Int) (H : Heaplet) (b1 b2 : Nat) (n1 : Int) (p4 p5 : Bool) : RC := { ops := opsAt Try.f49 5, B := [0, 1, 3, 7], sl := [(1, .int .i64 left), (2, .int .i64 right), (3, .pointer (some ⟨b1, 0, none⟩)), (6, .pointer (some ⟨b2, 0, none⟩)), (31, .bool p4)], A := [H], L := [some (b1, .cells #[vv] 24 (0, 0)), some (b2, .cells #[.slice none 0 0] 24 (0, 0)), none, none, none], cs := [{ val := fun _ => .pointer (some ⟨b1, 0, none⟩) }, { val := fun _ => vv, rds := [0] }, { val := fun _ => .int .i64 n1 }, { val := fun _ => .bool p5 }] }
noncomputable def rPair_ct_r49_6 (vv : Value) (left right : Int) (H : Heaplet) (b1 b2 : Nat) (p5 : Bool) : RC := { ops := opsAt Try.f49 6, B := [0, 1, 3, 7], sl := [(1, .int .i64 left), (2, .int .i64 right), (3, .pointer (some ⟨b1, 0, none⟩)), (6, .pointer (some ⟨b2, 0, none⟩)), (36, .bool p5)], A := [H], L := [some (b1, .cells #[vv] 24 (0, 0)), some (b2, .cells #[.slice none 0 0] 24 (0, 0)), none, none, none], cs := [{ val := fun _ => .agg #[.slice none 0 0] }, { val := fun _ => undef, ups := [(1, fun _ => some (b2, .cells #[.slice none 0 0] 24 (0, 0)))] }, { val := fun _ => .int .i64 ((-1)) }, { val := fun _ => .int .i64 6 }] }
noncomputable def rPair_ct_r49_7 (vv : Value) (left right : Int) (H : Heaplet) (b1 b2 : Nat) (p5 : Bool) (x1 : DThing) : RC := { ops := opsAt Try.f49 7, B := [0, 1, 0, 7, 15, 0, 63], sl := [(1, .int .i64 left), (2, .int .i64 right), (3, .pointer (some ⟨b1, 0, none⟩)), (6, .pointer (some ⟨b2, 0, none⟩)), (36, .bool p5)], A := [H], L := [some (b1, .cells #[vv] 24 (0, 0)), some (b2, .cells #[.slice none 0 0] 24 (0, 0)), none, none, none], cs := [{ val := fun _ => .pointer (some ⟨b1, 0, none⟩) }, { val := fun _ => vv, rds := [0] }, { val := fun _ => .int .i64 left }, { val := fun _ => .pointer (some (elemAddr vv (left.toNat * 5))) }, { val := fun _ => .agg #[.string x1.Text, .int .i64 x1.Value, .int .i64 x1.Blind, .int .i64 x1.Left, .int .i64 x1.Right] }, { val := fun G => .pointer (some ⟨(G 5).b, 0, none⟩), ups := [(2, fun G => some ((G 5).b, .cells #[.string ByteArray.empty, .int .i64 0, .int .i64 0, .int .i64 0, .int .i64 0] 44 (0, 0)))] }, { val := fun _ => undef, ups := [(2, fun G => some ((G 5).b, .cells #[.string x1.Text, .int .i64 x1.Value, .int .i64 x1.Blind, .int .i64 x1.Left, .int .i64 x1.Right] 44 (0, 0)))] }] }
noncomputable def rPair_ct_r49_8 (vv : Value) (left right : Int) (H : Heaplet) (b1 b2 : Nat) (x1 : DThing) (b3 : Nat) (x2 : DThing) : RC := { ops := opsAt Try.f49 8, B := [0, 1, 0, 7, 15, 0, 63], sl := [(1, .int .i64 left), (2, .int .i64 right), (3, .pointer (some ⟨b1, 0, none⟩)), (6, .pointer (some ⟨b2, 0, none⟩)), (9, .pointer (some ⟨b3, 0, none⟩))], A := [H], L := [some (b1, .cells #[vv] 24 (0, 0)), some (b2, .cells #[.slice none 0 0] 24 (0, 0)), some (b3, .cells #[.string x1.Text, .int .i64 x1.Value, .int .i64 x1.Blind, .int .i64 x1.Left, .int .i64 x1.Right] 44 (0, 0)), none, none], cs := [{ val := fun _ => .pointer (some ⟨b1, 0, none⟩) }, { val := fun _ => vv, rds := [0] }, { val := fun _ => .int .i64 right }, { val := fun _ => .pointer (some (elemAddr vv (right.toNat * 5))) }, { val := fun _ => .agg #[.string x2.Text, .int .i64 x2.Value, .int .i64 x2.Blind, .int .i64 x2.Left, .int .i64 x2.Right] }, { val := fun G => .pointer (some ⟨(G 5).b, 0, none⟩), ups := [(3, fun G => some ((G 5).b, .cells #[.string ByteArray.empty, .int .i64 0, .int .i64 0, .int .i64 0, .int .i64 0] 44 (0, 0)))] }, { val := fun _ => undef, ups := [(3, fun G => some ((G 5).b, .cells #[.string x2.Text, .int .i64 x2.Value, .int .i64 x2.Blind, .int .i64 x2.Left, .int .i64 x2.Right] 44 (0, 0)))] }] }
noncomputable def rPair_ct_r49_9 (vv : Value) (left right : Int) (H : Heaplet) (b1 b2 : Nat) (x1 : DThing) (b3 : Nat) (x2 : DThing) (b4 : Nat) (n3 n4 : Int) : RC := { ops := opsAt Try.f49 9, B := [0, 1, 0, 4, 15, 0, 32, 0, 128, 480, 0, 0, 4095, 0, 16383], sl := [(1, .int .i64 left), (2, .int .i64 right), (3, .pointer (some ⟨b1, 0, none⟩)), (6, .pointer (some ⟨b2, 0, none⟩)), (9, .pointer (some ⟨b3, 0, none⟩)), (10, .pointer (some ⟨b4, 0, none⟩))], A := [H], L := [some (b1, .cells #[vv] 24 (0, 0)), some (b2, .cells #[.slice none 0 0] 24 (0, 0)), some (b3, .cells #[.string x1.Text, .int .i64 x1.Value, .int .i64 x1.Blind, .int .i64 x1.Left, .int .i64 x1.Right] 44 (0, 0)), some (b4, .cells #[.string x2.Text, .int .i64 x2.Value, .int .i64 x2.Blind, .int .i64 x2.Left, .int .i64 x2.Right] 44 (0, 0)), none], cs := [{ val := fun _ => .pointer (some ⟨b3, 1, none⟩) }, { val := fun _ => .int .i64 x1.Value, rds := [2] }, { val := fun _ => .pointer (some ⟨b4, 1, none⟩) }, { val := fun _ => .int .i64 x2.Value, rds := [3] }, { val := fun _ => .int .i64 n3 }, { val := fun _ => .pointer (some ⟨b3, 2, none⟩) }, { val := fun _ => .int .i64 x1.Blind, rds := [2] }, { val := fun _ => .pointer (some ⟨b4, 2, none⟩) }, { val := fun _ => .int .i64 x2.Blind, rds := [3] }, { val := fun _ => .int .i64 n4 }, { val := fun _ => .int .i64 left }, { val := fun _ => .int .i64 right }, { val := fun _ => .agg #[.string ByteArray.empty, .int .i64 n3, .int .i64 n4, .int .i64 left, .int .i64 right] }, { val := fun G => .pointer (some ⟨(G 13).b, 0, none⟩), ups := [(4, fun G => some ((G 13).b, .cells #[.string ByteArray.empty, .int .i64 0, .int .i64 0, .int .i64 0, .int .i64 0] 44 (0, 0)))] }, { val := fun _ => undef, ups := [(4, fun G => some ((G 13).b, .cells #[.string ByteArray.empty, .int .i64 n3, .int .i64 n4, .int .i64 left, .int .i64 right] 44 (0, 0)))] }] }
noncomputable def rPair_ct_r49_10 (vv : Value) (left right : Int) (H : Heaplet) (b1 b2 : Nat) (x1 : DThing) (b3 : Nat) (x2 : DThing) (b4 : Nat) (n3 n4 : Int) (b5 : Nat) (p6 p7 p8 : Bool) : RC := { ops := opsAt Try.f49 10, B := [0, 1, 3, 7, 15, 31, 63, 127], sl := [(3, .pointer (some ⟨b1, 0, none⟩)), (6, .pointer (some ⟨b2, 0, none⟩)), (11, .pointer (some ⟨b5, 0, none⟩))], A := [H], L := [some (b1, .cells #[vv] 24 (0, 0)), some (b2, .cells #[.slice none 0 0] 24 (0, 0)), some (b3, .cells #[.string x1.Text, .int .i64 x1.Value, .int .i64 x1.Blind, .int .i64 x1.Left, .int .i64 x1.Right] 44 (0, 0)), some (b4, .cells #[.string x2.Text, .int .i64 x2.Value, .int .i64 x2.Blind, .int .i64 x2.Left, .int .i64 x2.Right] 44 (0, 0)), some (b5, .cells #[.string ByteArray.empty, .int .i64 n3, .int .i64 n4, .int .i64 left, .int .i64 right] 44 (0, 0))], cs := [{ val := fun _ => .pointer (some ⟨b5, 1, none⟩) }, { val := fun _ => .int .i64 n3, rds := [4] }, { val := fun _ => .bool p6 }, { val := fun _ => .bool p6 }, { val := fun _ => .pointer (some ⟨b5, 2, none⟩) }, { val := fun _ => .int .i64 n4, rds := [4] }, { val := fun _ => .bool p7 }, { val := fun _ => .bool p8 }] }
noncomputable def rPair_ct_r49_11 (vv : Value) (left right : Int) (H : Heaplet) (b1 b2 : Nat) (x1 : DThing) (b3 : Nat) (x2 : DThing) (b4 : Nat) (n3 n4 : Int) (b5 : Nat) (p8 : Bool) : RC := { ops := opsAt Try.f49 11, B := [0, 1, 3, 7], sl := [(3, .pointer (some ⟨b1, 0, none⟩)), (6, .pointer (some ⟨b2, 0, none⟩)), (11, .pointer (some ⟨b5, 0, none⟩)), (68, .bool p8)], A := [H], L := [some (b1, .cells #[vv] 24 (0, 0)), some (b2, .cells #[.slice none 0 0] 24 (0, 0)), some (b3, .cells #[.string x1.Text, .int .i64 x1.Value, .int .i64 x1.Blind, .int .i64 x1.Left, .int .i64 x1.Right] 44 (0, 0)), some (b4, .cells #[.string x2.Text, .int .i64 x2.Value, .int .i64 x2.Blind, .int .i64 x2.Left, .int .i64 x2.Right] 44 (0, 0)), some (b5, .cells #[.string ByteArray.empty, .int .i64 n3, .int .i64 n4, .int .i64 left, .int .i64 right] 44 (0, 0))], cs := [{ val := fun _ => .agg #[.slice none 0 0] }, { val := fun _ => undef, ups := [(1, fun _ => some (b2, .cells #[.slice none 0 0] 24 (0, 0)))] }, { val := fun _ => .int .i64 ((-1)) }, { val := fun _ => .int .i64 3 }] }
noncomputable def rPair_ct_r49_12 (w0 : World) (v : List DThing) (vv : Value) (left right : Int) (H : Heaplet) (b1 b2 : Nat) (n1 : Int) (x1 : DThing) (b3 : Nat) (x2 : DThing) (b4 : Nat) (n3 n4 : Int) (b5 : Nat) (p8 : Bool) (l1 : List DThing) : RC := { ops := opsAt Try.f49 12, B := [0, 0, 3, 0, 8, 24, 7, 127, 255], sl := [(3, .pointer (some ⟨b1, 0, none⟩)), (6, .pointer (some ⟨b2, 0, none⟩)), (11, .pointer (some ⟨b5, 0, none⟩)), (68, .bool p8)], A := [H], L := [some (b1, .cells #[vv] 24 (0, 0)), some (b2, .cells #[.slice none 0 0] 24 (0, 0)), some (b3, .cells #[.string x1.Text, .int .i64 x1.Value, .int .i64 x1.Blind, .int .i64 x1.Left, .int .i64 x1.Right] 44 (0, 0)), some (b4, .cells #[.string x2.Text, .int .i64 x2.Value, .int .i64 x2.Blind, .int .i64 x2.Left, .int .i64 x2.Right] 44 (0, 0)), some (b5, .cells #[.string ByteArray.empty, .int .i64 n3, .int .i64 n4, .int .i64 left, .int .i64 right] 44 (0, 0))], cs := [{ val := fun _ => .agg #[vv], rds := [0] }, { val := fun _ => .agg #[.string ByteArray.empty, .int .i64 n3, .int .i64 n4, .int .i64 left, .int .i64 right], rds := [4] }, { val := fun G => .agg #[(G 2).v], fact := fun G => (RSl (hun (G 2).H H) l1 (G 2).v) ∧ New w0 (G 2).H }, { val := fun _ => .pointer (some ⟨b1, 0, none⟩) }, { val := fun _ => vv, rds := [0] }, { val := fun _ => .int .i64 n1 }, { val := fun _ => undef, ups := [(1, fun G => some (b2, .cells #[(G 2).v] 24 (0, 0)))] }, { val := fun _ => .int .i64 n1 }, { val := fun _ => .int .i64 0 }] }
set_option maxRecDepth 10000 in
theorem rPair_ct (v : List DThing) (vv : Value) (left right : Int) (w0 : World) (H : Heaplet) (hA : Agrees w0 H) (hv : RSl H v vv) :
    Calls Try.prog 49 #[.agg #[vv], .int .i64 left, .int .i64 right] w0 (Makes H (fun g => .tuple #[.agg #[g.v], .int .i64 ((Tm.pairI v left right)), .int .i64 ((Tm.pairRE v left right))]) (fun J g => RSl J ((Tm.pairV v left right)) g.v) w0) := by
  have hE : Ext w0 H H := Ext.refl w0 H
  have hvn := hv.lim
  refine calls_of_W (sl := [(0, .agg #[vv]), (1, .int .i64 left), (2, .int .i64 right)]) (A := [H]) (L := [none, none, none, none, none]) Try.func49 (by kernel_rfl) 76 (by kernel_rfl) (by kernel_rfl) (fun J hJ => by simp at hJ; subst hJ; exact hA) (by simp) ?_
  refine W.seq (by kernel_rfl) ?_
  refine W.regV (rPair_ct_r49_0 vv left right H) [2, 3] [0, 1] (fun G => [.int .i64 0, .int .i64 0]) (by kernel_rfl) mo_ra (by kernel_rfl) (fun _ _ => by kernel_rfl) ⟨?_, ?_, trivial⟩ (by kernel_rfl) ?_
  · exact One.new (r := 0) (T := 24) (fun b => .pointer (some ⟨b, 0, none⟩)) (arr := fun G => #[vv]) (fun G w => by kernel_rfl) (fun G b => by kernel_rfl)
  · exact One.new (r := 1) (T := 24) (fun b => .pointer (some ⟨b, 0, none⟩)) (arr := fun G => #[.slice none 0 0]) (fun G w => by kernel_rfl) (fun G b => by kernel_rfl)
  intro G1 xa xw hDn
  refine hDn.to [1, 2, 3, 6] [] (by kernel_rfl) ?_
  clear hDn
  refine Pre.conv (sl := [(1, .int .i64 left), (2, .int .i64 right), (3, .pointer (some ⟨(G1 0).b, 0, none⟩)), (6, .pointer (some ⟨(G1 1).b, 0, none⟩))]) (A := [H]) (L := [some ((G1 0).b, .cells #[vv] 24 (0, 0)), some ((G1 1).b, .cells #[.slice none 0 0] 24 (0, 0)), none, none, none]) ?_ (by kernel_rfl) (by kernel_rfl) (by kernel_rfl)
  generalize (G1 0).b = b1 at ⊢
  generalize (G1 1).b = b2 at ⊢
  clear G1
  refine At.then ?_
  refine W.seq (by kernel_rfl) ?_
  refine W.seq (by kernel_rfl) ?_
  obtain ⟨p1, hp1⟩ : ∃ zz : Bool, zz = (decide (Tm.Sound v)) := ⟨_, rfl⟩
  refine W.regV (rPair_ct_r49_1 vv left right H b1 b2 p1) [2] [0, 1] (fun G => [.bool (!p1)]) (by kernel_rfl) mo_ra (by kernel_rfl) (fun _ _ => by kernel_rfl) ⟨?_, ?_, trivial⟩ (by kernel_rfl) ?_
  · exact One.loadE (t := 24) (r := 0) (off := 0) (b := fun G => b1) (vs := fun G => [vv]) (arr := fun G => #[vv]) (T := 24) (fr := (0, 0)) (fun G => ⟨by kernel_rfl⟩) (fun G => by kernel_rfl)
  · exact One.callP (v := fun G => .bool p1) (f := 47) (args := fun G => #[.agg #[vv]]) (fun _ _ => by kernel_rfl) (fun G w hs => by
      rw [hp1]
      exact rsound_ct v vv w H (hs.read 0 rfl) (hv) )
  intro G2 xa xw hDn
  refine hDn.to [1, 2, 3, 6, 14] [] (by kernel_rfl) ?_
  clear hDn
  refine Pre.conv (sl := [(1, .int .i64 left), (2, .int .i64 right), (3, .pointer (some ⟨b1, 0, none⟩)), (6, .pointer (some ⟨b2, 0, none⟩)), (14, .bool (!p1))]) (A := [H]) (L := [some (b1, .cells #[vv] 24 (0, 0)), some (b2, .cells #[.slice none 0 0] 24 (0, 0)), none, none, none]) ?_ (by kernel_rfl) (by kernel_rfl) (by kernel_rfl)
  clear G2
  refine At.then ?_
  refine W.cond (!p1) (by kernel_rfl) (fun xa hs => cnd_of (t := 14) (by kernel_rfl) (by kernel_rfl) hs) (fun hq => ?_) (fun hq => ?_)
  · skip
    have hq1 := hq
    replace hq1 := (iNT (iN hp1 iDF)).1 hq1
    refine W.seq (by kernel_rfl) ?_
    have hE1 := Tm.pairRE_1 (a := left) (b := right) hq1
    have hV := And.intro hE1 (Tm.pairV_no hE1 (by decide))
    refine W.regV (rPair_ct_r49_2 vv left right H b1 b2 p1) [0, 2, 3] [1] (fun G => [.agg #[.slice none 0 0], .int .i64 ((-1)), .int .i64 1]) (by kernel_rfl) mo_ra (by kernel_rfl) (fun _ _ => by kernel_rfl) ⟨?_, trivial⟩ (by kernel_rfl) ?_
    · exact One.store (t := 24) (r := 1) (off := 0) (T := 24) (b := fun G => b2) (u := fun G => .agg #[.slice none 0 0]) (vs := fun G => [.slice none 0 0]) (arr := fun G => #[.slice none 0 0]) (fun G => ⟨by kernel_rfl⟩) (fun G => by kernel_rfl)
    intro G3 xa xw hDn
    refine hDn.to [6, 7, 8] [] (by kernel_rfl) ?_
    clear hDn
    refine Pre.conv (sl := [(6, .pointer (some ⟨b2, 0, none⟩)), (7, .int .i64 ((-1))), (8, .int .i64 1)]) (A := [H]) (L := [some (b1, .cells #[vv] 24 (0, 0)), some (b2, .cells #[.slice none 0 0] 24 (0, 0)), none, none, none]) ?_ (by kernel_rfl) (by kernel_rfl) (by kernel_rfl)
    clear G3
    refine At.then ?_
    refine W.ret (by kernel_rfl) ?_
    refine At.thenRet ?_
    refine At.results (Or.inl rfl) (.tuple #[.agg #[.slice none 0 0], .int .i64 ((-1)), .int .i64 1]) (fun xa xw hs hw => results_many (rs := [.cell 6 24, .tmp 7, .tmp 8]) (vs := [.agg #[.slice none 0 0], .int .i64 ((-1)), .int .i64 1]) (by kernel_rfl) (by simp) ⟨res_cell (ty := 24) (r := 1) (b := b2) (off := 0) (arr := #[.slice none 0 0]) (T := 24) (vs := [.slice none 0 0]) hs hw (by kernel_rfl), res_tmp (t := 7) (by kernel_rfl) hs, res_tmp (t := 8) (by kernel_rfl) hs, trivial⟩) (fun w' hw => ?_)
    have e0 : ([] : List DThing) = (Tm.pairV v left right) := by
      rw [hV.2.1]
    have e1 : (-1) = (Tm.pairI v left right) := by
      rw [hV.2.2]
    have e2 : 1 = (Tm.pairRE v left right) := by
      rw [hV.1]
    exact Makes.ret (.slice none 0 0) undef undef hA hE hw (fun N => cong2 (fun (x1 : Int) (x2 : Int) => (.tuple #[.agg #[.slice none 0 0], .int .i64 x1, .int .i64 x2] : Value)) e1 e2) (fun N J hJ => (e0 ▸ RSl.nil))
  · skip
    have hq2 := hq
    replace hq2 := (iNF (iN hp1 iDT)).1 hq2
    refine W.skip (by kernel_rfl) ?_
    refine At.then ?_
    refine W.seq (by kernel_rfl) ?_
    refine W.seq (by kernel_rfl) ?_
    have hS : Tm.Sound v := by first | exact hq2 | exact Decidable.not_not.1 hq2
    have hS1 := hS.1
    obtain ⟨n1, hn1⟩ : ∃ zz : Int, zz = (v.length : Int) := ⟨_, rfl⟩
    obtain ⟨n2, hn2⟩ : ∃ zz : Int, zz = n1 - 1 := ⟨_, rfl⟩
    obtain ⟨p2, hp2⟩ : ∃ zz : Bool, zz = (decide (0 ≤ left ∧ left ≤ n2)) := ⟨_, rfl⟩
    obtain ⟨p3, hp3⟩ : ∃ zz : Bool, zz = (decide (0 ≤ right ∧ right ≤ n2)) := ⟨_, rfl⟩
    obtain ⟨p4, hp4⟩ : ∃ zz : Bool, zz = (!p2 || !p3) := ⟨_, rfl⟩
    refine W.regV (rPair_ct_r49_3 vv left right H b1 b2 p1 n1 n2 p2 p3 p4) [0, 1, 6, 7, 8, 9, 14] [2, 3, 4, 5, 10, 11, 12, 13, 15] (fun G => [.int .i64 left, .pointer (some ⟨b1, 0, none⟩), .bool (!p2), .bool (!p2), .int .i64 right, .pointer (some ⟨b1, 0, none⟩), .bool (!p3)]) (by kernel_rfl) mo_ra (by kernel_rfl) (fun _ _ => by kernel_rfl) ⟨?_, ?_, ?_, ?_, ?_, ?_, ?_, ?_, ?_, trivial⟩ (by kernel_rfl) ?_
    · exact One.loadE (t := 22) (r := 0) (off := 0) (b := fun G => b1) (vs := fun G => [vv]) (arr := fun G => #[vv]) (T := 24) (fr := (0, 0)) (fun G => ⟨by kernel_rfl⟩) (fun G => by kernel_rfl)
    · exact One.len (t := 22) (n := n1) (v := fun G => vv) (fun _ => ⟨by kernel_rfl⟩) (fun G w hs => ⟨_, (hv).isSl, hn1⟩)
    · exact One.ar hn2 (fun _ _ => by kernel_rfl) (fun G w hs => by omega)
    · exact One.callP (v := fun G => .bool p2) (f := 71) (args := fun G => #[.int .i64 left, .int .i64 0, .int .i64 n2]) (fun _ _ => by kernel_rfl) (fun G w hs => by
        rw [hp2]
        exact rin_ct left 0 n2 w )
    · exact One.loadE (t := 22) (r := 0) (off := 0) (b := fun G => b1) (vs := fun G => [vv]) (arr := fun G => #[vv]) (T := 24) (fr := (0, 0)) (fun G => ⟨by kernel_rfl⟩) (fun G => by kernel_rfl)
    · exact One.len (t := 22) (n := n1) (v := fun G => vv) (fun _ => ⟨by kernel_rfl⟩) (fun G w hs => by
        have hg := gd_of hs (p := (true && ((!p2) == false))) (by kernel_rfl)
        have hg0 := (iNF (iN hp2 iDT)).1 (eqF (andR hg))
        exact ⟨_, (hv).isSl, hn1⟩)
    · exact One.ar hn2 (fun _ _ => by kernel_rfl) (fun G w hs => by
        have hg := gd_of hs (p := (true && ((!p2) == false))) (by kernel_rfl)
        have hg0 := (iNF (iN hp2 iDT)).1 (eqF (andR hg))
        exact by omega)
    · exact One.callP (v := fun G => .bool p3) (f := 71) (args := fun G => #[.int .i64 right, .int .i64 0, .int .i64 n2]) (fun _ _ => by kernel_rfl) (fun G w hs => by
        have hg := gd_of hs (p := (true && ((!p2) == false))) (by kernel_rfl)
        have hg0 := (iNF (iN hp2 iDT)).1 (eqF (andR hg))
        rw [hp3]
        exact rin_ct right 0 n2 w )
    · subst hp4
      cases p2 <;> exact One.under fun _ _ _ => by kernel_rfl
    intro G4 xa xw hDn
    refine hDn.to [1, 2, 3, 6, 31] [] (by kernel_rfl) ?_
    clear hDn
    refine Pre.conv (sl := [(1, .int .i64 left), (2, .int .i64 right), (3, .pointer (some ⟨b1, 0, none⟩)), (6, .pointer (some ⟨b2, 0, none⟩)), (31, .bool p4)]) (A := [H]) (L := [some (b1, .cells #[vv] 24 (0, 0)), some (b2, .cells #[.slice none 0 0] 24 (0, 0)), none, none, none]) ?_ (by kernel_rfl) (by kernel_rfl) (by kernel_rfl)
    clear G4
    refine At.then ?_
    refine W.cond p4 (by kernel_rfl) (fun xa hs => cnd_of (t := 31) (by kernel_rfl) (by kernel_rfl) hs) (fun hq => ?_) (fun hq => ?_)
    · skip
      have hq3 := hq
      replace hq3 := (iN hp4 (iOT (iNT (iN hp2 iDF)) (iNT (iN hp3 iDF)))).1 hq3
      refine W.seq (by kernel_rfl) ?_
      have hE1 := Tm.pairRE_4 (a := left) (b := right) hS (by unfold Tm.has; omega)
      have hV := And.intro hE1 (Tm.pairV_no hE1 (by decide))
      refine W.regV (rPair_ct_r49_4 vv left right H b1 b2 p4) [0, 2, 3] [1] (fun G => [.agg #[.slice none 0 0], .int .i64 ((-1)), .int .i64 4]) (by kernel_rfl) mo_ra (by kernel_rfl) (fun _ _ => by kernel_rfl) ⟨?_, trivial⟩ (by kernel_rfl) ?_
      · exact One.store (t := 24) (r := 1) (off := 0) (T := 24) (b := fun G => b2) (u := fun G => .agg #[.slice none 0 0]) (vs := fun G => [.slice none 0 0]) (arr := fun G => #[.slice none 0 0]) (fun G => ⟨by kernel_rfl⟩) (fun G => by kernel_rfl)
      intro G5 xa xw hDn
      refine hDn.to [6, 7, 8] [] (by kernel_rfl) ?_
      clear hDn
      refine Pre.conv (sl := [(6, .pointer (some ⟨b2, 0, none⟩)), (7, .int .i64 ((-1))), (8, .int .i64 4)]) (A := [H]) (L := [some (b1, .cells #[vv] 24 (0, 0)), some (b2, .cells #[.slice none 0 0] 24 (0, 0)), none, none, none]) ?_ (by kernel_rfl) (by kernel_rfl) (by kernel_rfl)
      clear G5
      refine At.then ?_
      refine W.ret (by kernel_rfl) ?_
      refine At.thenRet ?_
      refine At.results (Or.inl rfl) (.tuple #[.agg #[.slice none 0 0], .int .i64 ((-1)), .int .i64 4]) (fun xa xw hs hw => results_many (rs := [.cell 6 24, .tmp 7, .tmp 8]) (vs := [.agg #[.slice none 0 0], .int .i64 ((-1)), .int .i64 4]) (by kernel_rfl) (by simp) ⟨res_cell (ty := 24) (r := 1) (b := b2) (off := 0) (arr := #[.slice none 0 0]) (T := 24) (vs := [.slice none 0 0]) hs hw (by kernel_rfl), res_tmp (t := 7) (by kernel_rfl) hs, res_tmp (t := 8) (by kernel_rfl) hs, trivial⟩) (fun w' hw => ?_)
      have e0 : ([] : List DThing) = (Tm.pairV v left right) := by
        rw [hV.2.1]
      have e1 : (-1) = (Tm.pairI v left right) := by
        rw [hV.2.2]
      have e2 : 4 = (Tm.pairRE v left right) := by
        rw [hV.1]
      exact Makes.ret (.slice none 0 0) undef undef hA hE hw (fun N => cong2 (fun (x1 : Int) (x2 : Int) => (.tuple #[.agg #[.slice none 0 0], .int .i64 x1, .int .i64 x2] : Value)) e1 e2) (fun N J hJ => (e0 ▸ RSl.nil))
    · skip
      have hq4 := hq
      replace hq4 := (iN hp4 (iOF (iNF (iN hp2 iDT)) (iNF (iN hp3 iDT)))).1 hq4
      refine W.skip (by kernel_rfl) ?_
      refine At.then ?_
      refine W.seq (by kernel_rfl) ?_
      refine W.seq (by kernel_rfl) ?_
      have hh : Tm.has v left ∧ Tm.has v right := by unfold Tm.has; omega
      obtain ⟨p5, hp5⟩ : ∃ zz : Bool, zz = decide (2000 ≤ n1) := ⟨_, rfl⟩
      refine W.regV (rPair_ct_r49_5 vv left right H b1 b2 n1 p4 p5) [0] [1, 2, 3] (fun G => [.pointer (some ⟨b1, 0, none⟩)]) (by kernel_rfl) mo_ra (by kernel_rfl) (fun _ _ => by kernel_rfl) ⟨?_, ?_, ?_, trivial⟩ (by kernel_rfl) ?_
      · exact One.loadE (t := 22) (r := 0) (off := 0) (b := fun G => b1) (vs := fun G => [vv]) (arr := fun G => #[vv]) (T := 24) (fr := (0, 0)) (fun G => ⟨by kernel_rfl⟩) (fun G => by kernel_rfl)
      · exact One.len (t := 22) (n := n1) (v := fun G => vv) (fun _ => ⟨by kernel_rfl⟩) (fun G w hs => ⟨_, (hv).isSl, hn1⟩)
      · exact One.bo hp5 (fun _ _ => by kernel_rfl)
      intro G6 xa xw hDn
      refine hDn.to [1, 2, 3, 6, 36] [] (by kernel_rfl) ?_
      clear hDn
      refine Pre.conv (sl := [(1, .int .i64 left), (2, .int .i64 right), (3, .pointer (some ⟨b1, 0, none⟩)), (6, .pointer (some ⟨b2, 0, none⟩)), (36, .bool p5)]) (A := [H]) (L := [some (b1, .cells #[vv] 24 (0, 0)), some (b2, .cells #[.slice none 0 0] 24 (0, 0)), none, none, none]) ?_ (by kernel_rfl) (by kernel_rfl) (by kernel_rfl)
      clear G6
      refine At.then ?_
      refine W.cond p5 (by kernel_rfl) (fun xa hs => cnd_of (t := 36) (by kernel_rfl) (by kernel_rfl) hs) (fun hq => ?_) (fun hq => ?_)
      · skip
        have hq5 := hq
        replace hq5 := (iN hp5 iDT).1 hq5
        refine W.seq (by kernel_rfl) ?_
        have hE1 := Tm.pairRE_6 hS hh (by omega)
        have hV := And.intro hE1 (Tm.pairV_no hE1 (by decide))
        refine W.regV (rPair_ct_r49_6 vv left right H b1 b2 p5) [0, 2, 3] [1] (fun G => [.agg #[.slice none 0 0], .int .i64 ((-1)), .int .i64 6]) (by kernel_rfl) mo_ra (by kernel_rfl) (fun _ _ => by kernel_rfl) ⟨?_, trivial⟩ (by kernel_rfl) ?_
        · exact One.store (t := 24) (r := 1) (off := 0) (T := 24) (b := fun G => b2) (u := fun G => .agg #[.slice none 0 0]) (vs := fun G => [.slice none 0 0]) (arr := fun G => #[.slice none 0 0]) (fun G => ⟨by kernel_rfl⟩) (fun G => by kernel_rfl)
        intro G7 xa xw hDn
        refine hDn.to [6, 7, 8] [] (by kernel_rfl) ?_
        clear hDn
        refine Pre.conv (sl := [(6, .pointer (some ⟨b2, 0, none⟩)), (7, .int .i64 ((-1))), (8, .int .i64 6)]) (A := [H]) (L := [some (b1, .cells #[vv] 24 (0, 0)), some (b2, .cells #[.slice none 0 0] 24 (0, 0)), none, none, none]) ?_ (by kernel_rfl) (by kernel_rfl) (by kernel_rfl)
        clear G7
        refine At.then ?_
        refine W.ret (by kernel_rfl) ?_
        refine At.thenRet ?_
        refine At.results (Or.inl rfl) (.tuple #[.agg #[.slice none 0 0], .int .i64 ((-1)), .int .i64 6]) (fun xa xw hs hw => results_many (rs := [.cell 6 24, .tmp 7, .tmp 8]) (vs := [.agg #[.slice none 0 0], .int .i64 ((-1)), .int .i64 6]) (by kernel_rfl) (by simp) ⟨res_cell (ty := 24) (r := 1) (b := b2) (off := 0) (arr := #[.slice none 0 0]) (T := 24) (vs := [.slice none 0 0]) hs hw (by kernel_rfl), res_tmp (t := 7) (by kernel_rfl) hs, res_tmp (t := 8) (by kernel_rfl) hs, trivial⟩) (fun w' hw => ?_)
        have e0 : ([] : List DThing) = (Tm.pairV v left right) := by
          rw [hV.2.1]
        have e1 : (-1) = (Tm.pairI v left right) := by
          rw [hV.2.2]
        have e2 : 6 = (Tm.pairRE v left right) := by
          rw [hV.1]
        exact Makes.ret (.slice none 0 0) undef undef hA hE hw (fun N => cong2 (fun (x1 : Int) (x2 : Int) => (.tuple #[.agg #[.slice none 0 0], .int .i64 x1, .int .i64 x2] : Value)) e1 e2) (fun N J hJ => (e0 ▸ RSl.nil))
      · skip
        have hq6 := hq
        replace hq6 := (iN hp5 iDF).1 hq6
        refine W.skip (by kernel_rfl) ?_
        refine At.then ?_
        refine W.seq (by kernel_rfl) ?_
        obtain ⟨x1, hx1⟩ : ∃ zz : DThing, zz = v.getD left.toNat default := ⟨_, rfl⟩
        refine W.regV (rPair_ct_r49_7 vv left right H b1 b2 p5 x1) [0, 2] [1, 3, 4, 5, 6] (fun G => [.pointer (some ⟨b1, 0, none⟩), .int .i64 left]) (by kernel_rfl) mo_ra (by kernel_rfl) (fun _ _ => by kernel_rfl) ⟨?_, ?_, ?_, ?_, ?_, trivial⟩ (by kernel_rfl) ?_
        · exact One.loadE (t := 22) (r := 0) (off := 0) (b := fun G => b1) (vs := fun G => [vv]) (arr := fun G => #[vv]) (T := 24) (fr := (0, 0)) (fun G => ⟨by kernel_rfl⟩) (fun G => by kernel_rfl)
        · exact One.index (t := 22) (e := 44) (size := 5) (v := fun G => vv) (k := .i64) (n := left) (fun _ => ⟨by kernel_rfl⟩) (fun G w hs => ⟨_, (hv).isSl, by first | omega | (simp only [List.length_append, List.length_cons, List.length_nil, List.length_replicate, List.length_set, List.length_take, List.length_drop, List.length_map, List.length_reverse, List.length_range]; omega), by first | omega | (simp only [List.length_append, List.length_cons, List.length_nil, List.length_replicate, List.length_set, List.length_take, List.length_drop, List.length_map, List.length_reverse, List.length_range]; omega)⟩)
        · exact One.loadD (α := DThing) (t := 44) (size := 5) (off := 0) (k := left) (l := fun G => v) (x := fun G => x1) (vs := fun G => [.string x1.Text, .int .i64 x1.Value, .int .i64 x1.Blind, .int .i64 x1.Left, .int .i64 x1.Right]) (v := fun G => vv) (H := fun G => H) (p := fun G => elemAddr vv (left.toNat * 5)) (fun G => ⟨by kernel_rfl⟩) rfl (fun G => by kernel_rfl) (fun G w hs => ⟨(hs.read 0 rfl), hv, (add_zero' _).symm, by omega, by first | omega | (simp only [List.length_append, List.length_cons, List.length_nil, List.length_replicate, List.length_set, List.length_take, List.length_drop, List.length_map, List.length_reverse, List.length_range]; omega), hx1⟩)
        · exact One.new (r := 2) (T := 44) (fun b => .pointer (some ⟨b, 0, none⟩)) (arr := fun G => #[.string ByteArray.empty, .int .i64 0, .int .i64 0, .int .i64 0, .int .i64 0]) (fun G w => by kernel_rfl) (fun G b => by kernel_rfl)
        · exact One.store (t := 44) (r := 2) (off := 0) (T := 44) (b := fun G => (G 5).b) (u := fun G => .agg #[.string x1.Text, .int .i64 x1.Value, .int .i64 x1.Blind, .int .i64 x1.Left, .int .i64 x1.Right]) (vs := fun G => [.string x1.Text, .int .i64 x1.Value, .int .i64 x1.Blind, .int .i64 x1.Left, .int .i64 x1.Right]) (arr := fun G => #[.string ByteArray.empty, .int .i64 0, .int .i64 0, .int .i64 0, .int .i64 0]) (fun G => ⟨by kernel_rfl⟩) (fun G => by kernel_rfl)
        intro G8 xa xw hDn
        refine hDn.to [1, 2, 3, 6, 9] [] (by kernel_rfl) ?_
        clear hDn
        refine Pre.conv (sl := [(1, .int .i64 left), (2, .int .i64 right), (3, .pointer (some ⟨b1, 0, none⟩)), (6, .pointer (some ⟨b2, 0, none⟩)), (9, .pointer (some ⟨(G8 5).b, 0, none⟩))]) (A := [H]) (L := [some (b1, .cells #[vv] 24 (0, 0)), some (b2, .cells #[.slice none 0 0] 24 (0, 0)), some ((G8 5).b, .cells #[.string x1.Text, .int .i64 x1.Value, .int .i64 x1.Blind, .int .i64 x1.Left, .int .i64 x1.Right] 44 (0, 0)), none, none]) ?_ (by kernel_rfl) (by kernel_rfl) (by kernel_rfl)
        generalize (G8 5).b = b3 at ⊢
        clear G8
        refine At.then ?_
        refine W.seq (by kernel_rfl) ?_
        obtain ⟨x2, hx2⟩ : ∃ zz : DThing, zz = v.getD right.toNat default := ⟨_, rfl⟩
        refine W.regV (rPair_ct_r49_8 vv left right H b1 b2 x1 b3 x2) [0, 2] [1, 3, 4, 5, 6] (fun G => [.pointer (some ⟨b1, 0, none⟩), .int .i64 right]) (by kernel_rfl) mo_ra (by kernel_rfl) (fun _ _ => by kernel_rfl) ⟨?_, ?_, ?_, ?_, ?_, trivial⟩ (by kernel_rfl) ?_
        · exact One.loadE (t := 22) (r := 0) (off := 0) (b := fun G => b1) (vs := fun G => [vv]) (arr := fun G => #[vv]) (T := 24) (fr := (0, 0)) (fun G => ⟨by kernel_rfl⟩) (fun G => by kernel_rfl)
        · exact One.index (t := 22) (e := 44) (size := 5) (v := fun G => vv) (k := .i64) (n := right) (fun _ => ⟨by kernel_rfl⟩) (fun G w hs => ⟨_, (hv).isSl, by first | omega | (simp only [List.length_append, List.length_cons, List.length_nil, List.length_replicate, List.length_set, List.length_take, List.length_drop, List.length_map, List.length_reverse, List.length_range]; omega), by first | omega | (simp only [List.length_append, List.length_cons, List.length_nil, List.length_replicate, List.length_set, List.length_take, List.length_drop, List.length_map, List.length_reverse, List.length_range]; omega)⟩)
        · exact One.loadD (α := DThing) (t := 44) (size := 5) (off := 0) (k := right) (l := fun G => v) (x := fun G => x2) (vs := fun G => [.string x2.Text, .int .i64 x2.Value, .int .i64 x2.Blind, .int .i64 x2.Left, .int .i64 x2.Right]) (v := fun G => vv) (H := fun G => H) (p := fun G => elemAddr vv (right.toNat * 5)) (fun G => ⟨by kernel_rfl⟩) rfl (fun G => by kernel_rfl) (fun G w hs => ⟨(hs.read 0 rfl), hv, (add_zero' _).symm, by omega, by first | omega | (simp only [List.length_append, List.length_cons, List.length_nil, List.length_replicate, List.length_set, List.length_take, List.length_drop, List.length_map, List.length_reverse, List.length_range]; omega), hx2⟩)
        · exact One.new (r := 3) (T := 44) (fun b => .pointer (some ⟨b, 0, none⟩)) (arr := fun G => #[.string ByteArray.empty, .int .i64 0, .int .i64 0, .int .i64 0, .int .i64 0]) (fun G w => by kernel_rfl) (fun G b => by kernel_rfl)
        · exact One.store (t := 44) (r := 3) (off := 0) (T := 44) (b := fun G => (G 5).b) (u := fun G => .agg #[.string x2.Text, .int .i64 x2.Value, .int .i64 x2.Blind, .int .i64 x2.Left, .int .i64 x2.Right]) (vs := fun G => [.string x2.Text, .int .i64 x2.Value, .int .i64 x2.Blind, .int .i64 x2.Left, .int .i64 x2.Right]) (arr := fun G => #[.string ByteArray.empty, .int .i64 0, .int .i64 0, .int .i64 0, .int .i64 0]) (fun G => ⟨by kernel_rfl⟩) (fun G => by kernel_rfl)
        intro G9 xa xw hDn
        refine hDn.to [1, 2, 3, 6, 9, 10] [] (by kernel_rfl) ?_
        clear hDn
        refine Pre.conv (sl := [(1, .int .i64 left), (2, .int .i64 right), (3, .pointer (some ⟨b1, 0, none⟩)), (6, .pointer (some ⟨b2, 0, none⟩)), (9, .pointer (some ⟨b3, 0, none⟩)), (10, .pointer (some ⟨(G9 5).b, 0, none⟩))]) (A := [H]) (L := [some (b1, .cells #[vv] 24 (0, 0)), some (b2, .cells #[.slice none 0 0] 24 (0, 0)), some (b3, .cells #[.string x1.Text, .int .i64 x1.Value, .int .i64 x1.Blind, .int .i64 x1.Left, .int .i64 x1.Right] 44 (0, 0)), some ((G9 5).b, .cells #[.string x2.Text, .int .i64 x2.Value, .int .i64 x2.Blind, .int .i64 x2.Left, .int .i64 x2.Right] 44 (0, 0)), none]) ?_ (by kernel_rfl) (by kernel_rfl) (by kernel_rfl)
        generalize (G9 5).b = b4 at ⊢
        clear G9
        refine At.then ?_
        refine W.seq (by kernel_rfl) ?_
        have hba := Tm.bd_sound hS x1 (getD_mem (by omega) hx1)
        have hbb := Tm.bd_sound hS x2 (getD_mem (by omega) hx2)
        unfold Tm.Bd at hba hbb
        obtain ⟨n3, hn3⟩ : ∃ zz : Int, zz = x1.Value + x2.Value := ⟨_, rfl⟩
        obtain ⟨n4, hn4⟩ : ∃ zz : Int, zz = x1.Blind + x2.Blind := ⟨_, rfl⟩
        refine W.regV (rPair_ct_r49_9 vv left right H b1 b2 x1 b3 x2 b4 n3 n4) [0, 2, 5, 7, 10, 11, 12] [1, 3, 4, 6, 8, 9, 13, 14] (fun G => [.pointer (some ⟨b3, 1, none⟩), .pointer (some ⟨b4, 1, none⟩), .pointer (some ⟨b3, 2, none⟩), .pointer (some ⟨b4, 2, none⟩), .int .i64 left, .int .i64 right, .agg #[.string ByteArray.empty, .int .i64 n3, .int .i64 n4, .int .i64 left, .int .i64 right]]) (by kernel_rfl) mo_ra (by kernel_rfl) (fun _ _ => by kernel_rfl) ⟨?_, ?_, ?_, ?_, ?_, ?_, ?_, ?_, trivial⟩ (by kernel_rfl) ?_
        · exact One.loadE (t := 3) (r := 2) (off := 1) (b := fun G => b3) (vs := fun G => [.int .i64 x1.Value]) (arr := fun G => #[.string x1.Text, .int .i64 x1.Value, .int .i64 x1.Blind, .int .i64 x1.Left, .int .i64 x1.Right]) (T := 44) (fr := (0, 0)) (fun G => ⟨by kernel_rfl⟩) (fun G => by kernel_rfl)
        · exact One.loadE (t := 3) (r := 3) (off := 1) (b := fun G => b4) (vs := fun G => [.int .i64 x2.Value]) (arr := fun G => #[.string x2.Text, .int .i64 x2.Value, .int .i64 x2.Blind, .int .i64 x2.Left, .int .i64 x2.Right]) (T := 44) (fr := (0, 0)) (fun G => ⟨by kernel_rfl⟩) (fun G => by kernel_rfl)
        · exact One.ar hn3 (fun _ _ => by kernel_rfl) (fun G w hs => by omega)
        · exact One.loadE (t := 3) (r := 2) (off := 2) (b := fun G => b3) (vs := fun G => [.int .i64 x1.Blind]) (arr := fun G => #[.string x1.Text, .int .i64 x1.Value, .int .i64 x1.Blind, .int .i64 x1.Left, .int .i64 x1.Right]) (T := 44) (fr := (0, 0)) (fun G => ⟨by kernel_rfl⟩) (fun G => by kernel_rfl)
        · exact One.loadE (t := 3) (r := 3) (off := 2) (b := fun G => b4) (vs := fun G => [.int .i64 x2.Blind]) (arr := fun G => #[.string x2.Text, .int .i64 x2.Value, .int .i64 x2.Blind, .int .i64 x2.Left, .int .i64 x2.Right]) (T := 44) (fr := (0, 0)) (fun G => ⟨by kernel_rfl⟩) (fun G => by kernel_rfl)
        · exact One.ar hn4 (fun _ _ => by kernel_rfl) (fun G w hs => by omega)
        · exact One.new (r := 4) (T := 44) (fun b => .pointer (some ⟨b, 0, none⟩)) (arr := fun G => #[.string ByteArray.empty, .int .i64 0, .int .i64 0, .int .i64 0, .int .i64 0]) (fun G w => by kernel_rfl) (fun G b => by kernel_rfl)
        · exact One.store (t := 44) (r := 4) (off := 0) (T := 44) (b := fun G => (G 13).b) (u := fun G => .agg #[.string ByteArray.empty, .int .i64 n3, .int .i64 n4, .int .i64 left, .int .i64 right]) (vs := fun G => [.string ByteArray.empty, .int .i64 n3, .int .i64 n4, .int .i64 left, .int .i64 right]) (arr := fun G => #[.string ByteArray.empty, .int .i64 0, .int .i64 0, .int .i64 0, .int .i64 0]) (fun G => ⟨by kernel_rfl⟩) (fun G => by kernel_rfl)
        intro G10 xa xw hDn
        refine hDn.to [3, 6, 11] [] (by kernel_rfl) ?_
        clear hDn
        refine Pre.conv (sl := [(3, .pointer (some ⟨b1, 0, none⟩)), (6, .pointer (some ⟨b2, 0, none⟩)), (11, .pointer (some ⟨(G10 13).b, 0, none⟩))]) (A := [H]) (L := [some (b1, .cells #[vv] 24 (0, 0)), some (b2, .cells #[.slice none 0 0] 24 (0, 0)), some (b3, .cells #[.string x1.Text, .int .i64 x1.Value, .int .i64 x1.Blind, .int .i64 x1.Left, .int .i64 x1.Right] 44 (0, 0)), some (b4, .cells #[.string x2.Text, .int .i64 x2.Value, .int .i64 x2.Blind, .int .i64 x2.Left, .int .i64 x2.Right] 44 (0, 0)), some ((G10 13).b, .cells #[.string ByteArray.empty, .int .i64 n3, .int .i64 n4, .int .i64 left, .int .i64 right] 44 (0, 0))]) ?_ (by kernel_rfl) (by kernel_rfl) (by kernel_rfl)
        generalize (G10 13).b = b5 at ⊢
        clear G10
        refine At.then ?_
        refine W.seq (by kernel_rfl) ?_
        refine W.seq (by kernel_rfl) ?_
        obtain ⟨p6, hp6⟩ : ∃ zz : Bool, zz = decide (1125899906842624 < n3) := ⟨_, rfl⟩
        obtain ⟨p7, hp7⟩ : ∃ zz : Bool, zz = decide (1125899906842624 < n4) := ⟨_, rfl⟩
        obtain ⟨p8, hp8⟩ : ∃ zz : Bool, zz = (p6 || p7) := ⟨_, rfl⟩
        refine W.regV (rPair_ct_r49_10 vv left right H b1 b2 x1 b3 x2 b4 n3 n4 b5 p6 p7 p8) [0, 3, 4] [1, 2, 5, 6, 7] (fun G => [.pointer (some ⟨b5, 1, none⟩), .bool p6, .pointer (some ⟨b5, 2, none⟩)]) (by kernel_rfl) mo_ra (by kernel_rfl) (fun _ _ => by kernel_rfl) ⟨?_, ?_, ?_, ?_, ?_, trivial⟩ (by kernel_rfl) ?_
        · exact One.loadE (t := 3) (r := 4) (off := 1) (b := fun G => b5) (vs := fun G => [.int .i64 n3]) (arr := fun G => #[.string ByteArray.empty, .int .i64 n3, .int .i64 n4, .int .i64 left, .int .i64 right]) (T := 44) (fr := (0, 0)) (fun G => ⟨by kernel_rfl⟩) (fun G => by kernel_rfl)
        · exact One.bo hp6 (fun _ _ => by kernel_rfl)
        · exact One.loadE (t := 3) (r := 4) (off := 2) (b := fun G => b5) (vs := fun G => [.int .i64 n4]) (arr := fun G => #[.string ByteArray.empty, .int .i64 n3, .int .i64 n4, .int .i64 left, .int .i64 right]) (T := 44) (fr := (0, 0)) (fun G => ⟨by kernel_rfl⟩) (fun G => by kernel_rfl)
        · exact One.bo hp7 (fun _ _ => by kernel_rfl)
        · subst hp8
          cases p6 <;> exact One.under fun _ _ _ => by kernel_rfl
        intro G11 xa xw hDn
        refine hDn.to [3, 6, 11, 68] [] (by kernel_rfl) ?_
        clear hDn
        refine Pre.conv (sl := [(3, .pointer (some ⟨b1, 0, none⟩)), (6, .pointer (some ⟨b2, 0, none⟩)), (11, .pointer (some ⟨b5, 0, none⟩)), (68, .bool p8)]) (A := [H]) (L := [some (b1, .cells #[vv] 24 (0, 0)), some (b2, .cells #[.slice none 0 0] 24 (0, 0)), some (b3, .cells #[.string x1.Text, .int .i64 x1.Value, .int .i64 x1.Blind, .int .i64 x1.Left, .int .i64 x1.Right] 44 (0, 0)), some (b4, .cells #[.string x2.Text, .int .i64 x2.Value, .int .i64 x2.Blind, .int .i64 x2.Left, .int .i64 x2.Right] 44 (0, 0)), some (b5, .cells #[.string ByteArray.empty, .int .i64 n3, .int .i64 n4, .int .i64 left, .int .i64 right] 44 (0, 0))]) ?_ (by kernel_rfl) (by kernel_rfl) (by kernel_rfl)
        clear G11
        refine At.then ?_
        refine W.cond p8 (by kernel_rfl) (fun xa hs => cnd_of (t := 68) (by kernel_rfl) (by kernel_rfl) hs) (fun hq => ?_) (fun hq => ?_)
        · skip
          have hq7 := hq
          replace hq7 := (iN hp8 (iOT (iN hp6 iDT) (iN hp7 iDT))).1 hq7
          refine W.seq (by kernel_rfl) ?_
          have hE1 := Tm.pairRE_3 hx1 hx2 hS hh (by omega) (by omega)
          have hV := And.intro hE1 (Tm.pairV_no hE1 (by decide))
          refine W.regV (rPair_ct_r49_11 vv left right H b1 b2 x1 b3 x2 b4 n3 n4 b5 p8) [0, 2, 3] [1] (fun G => [.agg #[.slice none 0 0], .int .i64 ((-1)), .int .i64 3]) (by kernel_rfl) mo_ra (by kernel_rfl) (fun _ _ => by kernel_rfl) ⟨?_, trivial⟩ (by kernel_rfl) ?_
          · exact One.store (t := 24) (r := 1) (off := 0) (T := 24) (b := fun G => b2) (u := fun G => .agg #[.slice none 0 0]) (vs := fun G => [.slice none 0 0]) (arr := fun G => #[.slice none 0 0]) (fun G => ⟨by kernel_rfl⟩) (fun G => by kernel_rfl)
          intro G12 xa xw hDn
          refine hDn.to [6, 7, 8] [] (by kernel_rfl) ?_
          clear hDn
          refine Pre.conv (sl := [(6, .pointer (some ⟨b2, 0, none⟩)), (7, .int .i64 ((-1))), (8, .int .i64 3)]) (A := [H]) (L := [some (b1, .cells #[vv] 24 (0, 0)), some (b2, .cells #[.slice none 0 0] 24 (0, 0)), some (b3, .cells #[.string x1.Text, .int .i64 x1.Value, .int .i64 x1.Blind, .int .i64 x1.Left, .int .i64 x1.Right] 44 (0, 0)), some (b4, .cells #[.string x2.Text, .int .i64 x2.Value, .int .i64 x2.Blind, .int .i64 x2.Left, .int .i64 x2.Right] 44 (0, 0)), some (b5, .cells #[.string ByteArray.empty, .int .i64 n3, .int .i64 n4, .int .i64 left, .int .i64 right] 44 (0, 0))]) ?_ (by kernel_rfl) (by kernel_rfl) (by kernel_rfl)
          clear G12
          refine At.then ?_
          refine W.ret (by kernel_rfl) ?_
          refine At.thenRet ?_
          refine At.results (Or.inl rfl) (.tuple #[.agg #[.slice none 0 0], .int .i64 ((-1)), .int .i64 3]) (fun xa xw hs hw => results_many (rs := [.cell 6 24, .tmp 7, .tmp 8]) (vs := [.agg #[.slice none 0 0], .int .i64 ((-1)), .int .i64 3]) (by kernel_rfl) (by simp) ⟨res_cell (ty := 24) (r := 1) (b := b2) (off := 0) (arr := #[.slice none 0 0]) (T := 24) (vs := [.slice none 0 0]) hs hw (by kernel_rfl), res_tmp (t := 7) (by kernel_rfl) hs, res_tmp (t := 8) (by kernel_rfl) hs, trivial⟩) (fun w' hw => ?_)
          have e0 : ([] : List DThing) = (Tm.pairV v left right) := by
            rw [hV.2.1]
          have e1 : (-1) = (Tm.pairI v left right) := by
            rw [hV.2.2]
          have e2 : 3 = (Tm.pairRE v left right) := by
            rw [hV.1]
          exact Makes.ret (.slice none 0 0) undef undef hA hE hw (fun N => cong2 (fun (x1 : Int) (x2 : Int) => (.tuple #[.agg #[.slice none 0 0], .int .i64 x1, .int .i64 x2] : Value)) e1 e2) (fun N J hJ => (e0 ▸ RSl.nil))
        · skip
          have hq8 := hq
          replace hq8 := (iN hp8 (iOF (iN hp6 iDF) (iN hp7 iDF))).1 hq8
          refine W.skip (by kernel_rfl) ?_
          refine At.then ?_
          refine W.seq (by kernel_rfl) ?_
          have hE1 := Tm.pairRE_0 hx1 hx2 hS hh (by omega) (by omega)
          have hV := And.intro hE1 (Tm.pairV_ok hE1)
          obtain ⟨l1, hl1⟩ : ∃ zz : List DThing, zz = v ++ [DThing.mk ByteArray.empty n3 n4 left right] := ⟨_, rfl⟩
          refine W.regV (rPair_ct_r49_12 w0 v vv left right H b1 b2 n1 x1 b3 x2 b4 n3 n4 b5 p8 l1) [3, 7, 8] [0, 1, 2, 4, 5, 6] (fun G => [.pointer (some ⟨b1, 0, none⟩), .int .i64 n1, .int .i64 0]) (by kernel_rfl) mo_ra (by kernel_rfl) (fun _ _ => by kernel_rfl) ⟨?_, ?_, ?_, ?_, ?_, ?_, trivial⟩ (by kernel_rfl) ?_
          · exact One.loadE (t := 24) (r := 0) (off := 0) (b := fun G => b1) (vs := fun G => [vv]) (arr := fun G => #[vv]) (T := 24) (fr := (0, 0)) (fun G => ⟨by kernel_rfl⟩) (fun G => by kernel_rfl)
          · exact One.loadE (t := 44) (r := 4) (off := 0) (b := fun G => b5) (vs := fun G => [.string ByteArray.empty, .int .i64 n3, .int .i64 n4, .int .i64 left, .int .i64 right]) (arr := fun G => #[.string ByteArray.empty, .int .i64 n3, .int .i64 n4, .int .i64 left, .int .i64 right]) (T := 44) (fr := (0, 0)) (fun G => ⟨by kernel_rfl⟩) (fun G => by kernel_rfl)
          · exact One.callM (f := 72) (args := fun G => #[.agg #[vv], .agg #[.string ByteArray.empty, .int .i64 n3, .int .i64 n4, .int .i64 left, .int .i64 right]]) (H := fun G => H) (V := fun G g => .agg #[g.v]) (F := fun G J g => RSl J l1 g.v) (fun G g w => ⟨by kernel_rfl, by kernel_rfl⟩) (fun G w hs => by
              rw [hl1]
              exact put_ct v vv ByteArray.empty n3 n4 left right w H (hs.read 0 rfl) (hv) (by omega))
          · exact One.loadE (t := 22) (r := 0) (off := 0) (b := fun G => b1) (vs := fun G => [vv]) (arr := fun G => #[vv]) (T := 24) (fr := (0, 0)) (fun G => ⟨by kernel_rfl⟩) (fun G => by kernel_rfl)
          · exact One.len (t := 22) (n := n1) (v := fun G => vv) (fun _ => ⟨by kernel_rfl⟩) (fun G w hs => ⟨_, (hv).isSl, hn1⟩)
          · exact One.storeX (t := 24) (r := 1) (off := 0) (T := 24) (b := fun G => b2) (u := fun G => .agg #[(G 2).v]) (vs := fun G => [(G 2).v]) (arr := fun G => #[.slice none 0 0]) (fun G => ⟨by kernel_rfl⟩) (fun G w hs => by
              have ho2 : (RSl (hun (G 2).H H) l1 (G 2).v) ∧ New w0 (G 2).H := hs.get 2 (by kernel_rfl) (p := true) (by kernel_rfl) rfl (by kernel_rfl)
              exact ⟨rfl, (all_cons1 (ho2.1).cell1 rfl)⟩)
          intro G13 xa xw hDn
          have hf2_1 : (RSl (hun (G13 2).H H) l1 (G13 2).v) ∧ New w0 (G13 2).H := hDn.get 2 (by kernel_rfl) (by kernel_rfl) (by kernel_rfl)
          refine hDn.to [6, 7, 8] [2] (by kernel_rfl) ?_
          clear hDn
          refine Pre.conv (sl := [(6, .pointer (some ⟨b2, 0, none⟩)), (7, .int .i64 n1), (8, .int .i64 0)]) (A := [(G13 2).H, H]) (L := [some (b1, .cells #[vv] 24 (0, 0)), some (b2, .cells #[(G13 2).v] 24 (0, 0)), some (b3, .cells #[.string x1.Text, .int .i64 x1.Value, .int .i64 x1.Blind, .int .i64 x1.Left, .int .i64 x1.Right] 44 (0, 0)), some (b4, .cells #[.string x2.Text, .int .i64 x2.Value, .int .i64 x2.Blind, .int .i64 x2.Left, .int .i64 x2.Right] 44 (0, 0)), some (b5, .cells #[.string ByteArray.empty, .int .i64 n3, .int .i64 n4, .int .i64 left, .int .i64 right] 44 (0, 0))]) ?_ (by kernel_rfl) (by kernel_rfl) (by kernel_rfl)
          generalize (G13 2).v = v1 at hf2_1 ⊢
          generalize (G13 2).H = N1 at hf2_1 ⊢
          clear G13
          refine Pre.merge (Ns := [N1]) hE (by simp only [List.mem_cons, List.not_mem_nil, or_false, forall_eq_or_imp, forall_eq]; exact hf2_1.2) (fun K1 hk1 hk2 hE1 => ?_)
          have hr1 := (hv).mono hk1
          have hr1n := hr1.lim
          have hr2 := (hf2_1.1).mono (hun_sub (hk2 _ (by simp)) hk1)
          have hr2n := hr2.lim
          refine At.then ?_
          refine W.ret (by kernel_rfl) ?_
          refine At.results (Or.inl rfl) (.tuple #[.agg #[v1], .int .i64 n1, .int .i64 0]) (fun xa xw hs hw => results_many (rs := [.cell 6 24, .tmp 7, .tmp 8]) (vs := [.agg #[v1], .int .i64 n1, .int .i64 0]) (by kernel_rfl) (by simp) ⟨res_cell (ty := 24) (r := 1) (b := b2) (off := 0) (arr := #[v1]) (T := 24) (vs := [v1]) hs hw (by kernel_rfl), res_tmp (t := 7) (by kernel_rfl) hs, res_tmp (t := 8) (by kernel_rfl) hs, trivial⟩) (fun w' hw => ?_)
          have e0 : l1 = (Tm.pairV v left right) := by
            rw [hl1, hV.2.1, Tm.pairX_mk hx1 hx2 (by assumption) (by assumption)]
          have e1 : n1 = (Tm.pairI v left right) := by
            rw [hV.2.2]
            omega
          have e2 : 0 = (Tm.pairRE v left right) := by
            rw [hV.1]
          exact Makes.ret v1 undef undef hA hE1 hw (fun N => cong2 (fun (x1 : Int) (x2 : Int) => (.tuple #[.agg #[v1], .int .i64 x1, .int .i64 x2] : Value)) e1 e2) (fun N J hJ => (e0 ▸ (hr2).mono hJ))

noncomputable def rOpens_ct_r57_0 (vv : Value) (i : Int) (text : ByteArray) (value blind : Int) (H : Heaplet) : RC := { ops := opsAt Try.f57 0, B := [0, 0], sl := [(0, .agg #[vv]), (1, .int .i64 i), (2, .string text), (3, .int .i64 value), (4, .int .i64 blind)], A := [H], L := [none, none], cs := [{ val := fun G => .pointer (some ⟨(G 0).b, 0, none⟩), ups := [(0, fun G => some ((G 0).b, .cells #[vv] 24 (0, 0)))] }, { val := fun _ => .bool false }] }
noncomputable def rOpens_ct_r57_1 (vv : Value) (i : Int) (text : ByteArray) (value blind : Int) (H : Heaplet) (b1 : Nat) (p1 : Bool) (n1 n2 : Int) (p2 p3 : Bool) : RC := { ops := opsAt Try.f57 1, B := [0, 1, 3, 7, 15, 15, 47, 111, 239, 511, 1023, 2047], sl := [(1, .int .i64 i), (2, .string text), (3, .int .i64 value), (4, .int .i64 blind), (5, .pointer (some ⟨b1, 0, none⟩))], A := [H], L := [some (b1, .cells #[vv] 24 (0, 0)), none], cs := [{ val := fun _ => .agg #[vv], rds := [0] }, { val := fun _ => .bool p1 }, { val := fun _ => .bool (!p1) }, { val := fun _ => .bool (!p1) }, { val := fun _ => .int .i64 i }, { val := fun _ => .pointer (some ⟨b1, 0, none⟩) }, { val := fun _ => vv, rds := [0] }, { val := fun _ => .int .i64 n1 }, { val := fun _ => .int .i64 n2 }, { val := fun _ => .bool p2 }, { val := fun _ => .bool (!p2) }, { val := fun _ => .bool p3 }] }
noncomputable def rOpens_ct_r57_2 (vv : Value) (i : Int) (text : ByteArray) (value blind : Int) (H : Heaplet) (b1 : Nat) (p3 : Bool) : RC := { ops := opsAt Try.f57 2, B := [0], sl := [(1, .int .i64 i), (2, .string text), (3, .int .i64 value), (4, .int .i64 blind), (5, .pointer (some ⟨b1, 0, none⟩)), (23, .bool p3)], A := [H], L := [some (b1, .cells #[vv] 24 (0, 0)), none], cs := [{ val := fun _ => .bool false }] }
noncomputable def rOpens_ct_r57_3 (vv : Value) (i : Int) (text : ByteArray) (value blind : Int) (H : Heaplet) (b1 : Nat) (p3 : Bool) (x1 : DThing) : RC := { ops := opsAt Try.f57 3, B := [0, 1, 0, 7, 15, 0, 63], sl := [(1, .int .i64 i), (2, .string text), (3, .int .i64 value), (4, .int .i64 blind), (5, .pointer (some ⟨b1, 0, none⟩)), (23, .bool p3)], A := [H], L := [some (b1, .cells #[vv] 24 (0, 0)), none], cs := [{ val := fun _ => .pointer (some ⟨b1, 0, none⟩) }, { val := fun _ => vv, rds := [0] }, { val := fun _ => .int .i64 i }, { val := fun _ => .pointer (some (elemAddr vv (i.toNat * 5))) }, { val := fun _ => .agg #[.string x1.Text, .int .i64 x1.Value, .int .i64 x1.Blind, .int .i64 x1.Left, .int .i64 x1.Right] }, { val := fun G => .pointer (some ⟨(G 5).b, 0, none⟩), ups := [(1, fun G => some ((G 5).b, .cells #[.string ByteArray.empty, .int .i64 0, .int .i64 0, .int .i64 0, .int .i64 0] 44 (0, 0)))] }, { val := fun _ => undef, ups := [(1, fun G => some ((G 5).b, .cells #[.string x1.Text, .int .i64 x1.Value, .int .i64 x1.Blind, .int .i64 x1.Left, .int .i64 x1.Right] 44 (0, 0)))] }] }
noncomputable def rOpens_ct_r57_4 (vv : Value) (text : ByteArray) (value blind : Int) (H : Heaplet) (b1 : Nat) (x1 : DThing) (b2 : Nat) (p4 p5 p6 p7 p8 : Bool) : RC := { ops := opsAt Try.f57 4, B := [0, 1, 0, 7, 15, 31, 63, 31, 255, 511, 1023, 2047, 4095, 2047, 16383, 32767, 65535], sl := [(2, .string text), (3, .int .i64 value), (4, .int .i64 blind), (11, .pointer (some ⟨b2, 0, none⟩))], A := [H], L := [some (b1, .cells #[vv] 24 (0, 0)), some (b2, .cells #[.string x1.Text, .int .i64 x1.Value, .int .i64 x1.Blind, .int .i64 x1.Left, .int .i64 x1.Right] 44 (0, 0))], cs := [{ val := fun _ => .pointer (some ⟨b2, 0, none⟩) }, { val := fun _ => .string x1.Text, rds := [1] }, { val := fun _ => .string text }, { val := fun _ => .bool p4 }, { val := fun _ => .bool p4 }, { val := fun _ => .pointer (some ⟨b2, 1, none⟩) }, { val := fun _ => .int .i64 x1.Value, rds := [1] }, { val := fun _ => .int .i64 value }, { val := fun _ => .bool p5 }, { val := fun _ => .bool p6 }, { val := fun _ => .bool p6 }, { val := fun _ => .pointer (some ⟨b2, 2, none⟩) }, { val := fun _ => .int .i64 x1.Blind, rds := [1] }, { val := fun _ => .int .i64 blind }, { val := fun _ => .bool p7 }, { val := fun _ => .bool p8 }, { val := fun _ => .bool p8 }] }
set_option maxRecDepth 10000 in
theorem rOpens_ct (v : List DThing) (vv : Value) (i : Int) (text : ByteArray) (value blind : Int) (w0 : World) (H : Heaplet) (hA : Agrees w0 H) (hv : RSl H v vv) :
    Calls Try.prog 57 #[.agg #[vv], .int .i64 i, .string text, .int .i64 value, .int .i64 blind] w0 (fun e w' => e = .returned (.bool ((decide (Tm.opensP v i text value blind)))) ∧ Base [] w0 w') := by
  have hE : Ext w0 H H := Ext.refl w0 H
  have hvn := hv.lim
  refine calls_of_W (sl := [(0, .agg #[vv]), (1, .int .i64 i), (2, .string text), (3, .int .i64 value), (4, .int .i64 blind)]) (A := [H]) (L := [none, none]) Try.func57 (by kernel_rfl) 45 (by kernel_rfl) (by kernel_rfl) (fun J hJ => by simp at hJ; subst hJ; exact hA) (by simp) ?_
  refine W.seq (by kernel_rfl) ?_
  refine W.regV (rOpens_ct_r57_0 vv i text value blind H) [1] [0] (fun G => [.bool false]) (by kernel_rfl) mo_ra (by kernel_rfl) (fun _ _ => by kernel_rfl) ⟨?_, trivial⟩ (by kernel_rfl) ?_
  · exact One.new (r := 0) (T := 24) (fun b => .pointer (some ⟨b, 0, none⟩)) (arr := fun G => #[vv]) (fun G w => by kernel_rfl) (fun G b => by kernel_rfl)
  intro G1 xa xw hDn
  refine hDn.to [1, 2, 3, 4, 5] [] (by kernel_rfl) ?_
  clear hDn
  refine Pre.conv (sl := [(1, .int .i64 i), (2, .string text), (3, .int .i64 value), (4, .int .i64 blind), (5, .pointer (some ⟨(G1 0).b, 0, none⟩))]) (A := [H]) (L := [some ((G1 0).b, .cells #[vv] 24 (0, 0)), none]) ?_ (by kernel_rfl) (by kernel_rfl) (by kernel_rfl)
  generalize (G1 0).b = b1 at ⊢
  clear G1
  refine At.then ?_
  refine W.seq (by kernel_rfl) ?_
  refine W.seq (by kernel_rfl) ?_
  obtain ⟨p1, hp1⟩ : ∃ zz : Bool, zz = (decide (Tm.Sound v)) := ⟨_, rfl⟩
  obtain ⟨n1, hn1⟩ : ∃ zz : Int, zz = (v.length : Int) := ⟨_, rfl⟩
  obtain ⟨n2, hn2⟩ : ∃ zz : Int, zz = n1 - 1 := ⟨_, rfl⟩
  obtain ⟨p2, hp2⟩ : ∃ zz : Bool, zz = (decide (0 ≤ i ∧ i ≤ n2)) := ⟨_, rfl⟩
  obtain ⟨p3, hp3⟩ : ∃ zz : Bool, zz = (!p1 || !p2) := ⟨_, rfl⟩
  refine W.regV (rOpens_ct_r57_1 vv i text value blind H b1 p1 n1 n2 p2 p3) [2, 3, 4, 5, 10] [0, 1, 6, 7, 8, 9, 11] (fun G => [.bool (!p1), .bool (!p1), .int .i64 i, .pointer (some ⟨b1, 0, none⟩), .bool (!p2)]) (by kernel_rfl) mo_ra (by kernel_rfl) (fun _ _ => by kernel_rfl) ⟨?_, ?_, ?_, ?_, ?_, ?_, ?_, trivial⟩ (by kernel_rfl) ?_
  · exact One.loadE (t := 24) (r := 0) (off := 0) (b := fun G => b1) (vs := fun G => [vv]) (arr := fun G => #[vv]) (T := 24) (fr := (0, 0)) (fun G => ⟨by kernel_rfl⟩) (fun G => by kernel_rfl)
  · exact One.callP (v := fun G => .bool p1) (f := 47) (args := fun G => #[.agg #[vv]]) (fun _ _ => by kernel_rfl) (fun G w hs => by
      rw [hp1]
      exact rsound_ct v vv w H (hs.read 0 rfl) (hv) )
  · exact One.loadE (t := 22) (r := 0) (off := 0) (b := fun G => b1) (vs := fun G => [vv]) (arr := fun G => #[vv]) (T := 24) (fr := (0, 0)) (fun G => ⟨by kernel_rfl⟩) (fun G => by kernel_rfl)
  · exact One.len (t := 22) (n := n1) (v := fun G => vv) (fun _ => ⟨by kernel_rfl⟩) (fun G w hs => by
      have hg := gd_of hs (p := (true && ((!p1) == false))) (by kernel_rfl)
      have hg0 := (iNF (iN hp1 iDT)).1 (eqF (andR hg))
      exact ⟨_, (hv).isSl, hn1⟩)
  · exact One.ar hn2 (fun _ _ => by kernel_rfl) (fun G w hs => by
      have hg := gd_of hs (p := (true && ((!p1) == false))) (by kernel_rfl)
      have hg0 := (iNF (iN hp1 iDT)).1 (eqF (andR hg))
      exact by omega)
  · exact One.callP (v := fun G => .bool p2) (f := 71) (args := fun G => #[.int .i64 i, .int .i64 0, .int .i64 n2]) (fun _ _ => by kernel_rfl) (fun G w hs => by
      have hg := gd_of hs (p := (true && ((!p1) == false))) (by kernel_rfl)
      have hg0 := (iNF (iN hp1 iDT)).1 (eqF (andR hg))
      rw [hp2]
      exact rin_ct i 0 n2 w )
  · subst hp3
    cases p1 <;> exact One.under fun _ _ _ => by kernel_rfl
  intro G2 xa xw hDn
  refine hDn.to [1, 2, 3, 4, 5, 23] [] (by kernel_rfl) ?_
  clear hDn
  refine Pre.conv (sl := [(1, .int .i64 i), (2, .string text), (3, .int .i64 value), (4, .int .i64 blind), (5, .pointer (some ⟨b1, 0, none⟩)), (23, .bool p3)]) (A := [H]) (L := [some (b1, .cells #[vv] 24 (0, 0)), none]) ?_ (by kernel_rfl) (by kernel_rfl) (by kernel_rfl)
  clear G2
  refine At.then ?_
  refine W.cond p3 (by kernel_rfl) (fun xa hs => cnd_of (t := 23) (by kernel_rfl) (by kernel_rfl) hs) (fun hq => ?_) (fun hq => ?_)
  · skip
    have hq1 := hq
    replace hq1 := (iN hp3 (iOT (iNT (iN hp1 iDF)) (iNT (iN hp2 iDF)))).1 hq1
    refine W.seq (by kernel_rfl) ?_
    refine W.regV (rOpens_ct_r57_2 vv i text value blind H b1 p3) [0] [] (fun G => [.bool false]) (by kernel_rfl) mo_ra (by kernel_rfl) (fun _ _ => by kernel_rfl) trivial (by kernel_rfl) ?_
    intro G3 xa xw hDn
    refine hDn.to [10] [] (by kernel_rfl) ?_
    clear hDn
    refine Pre.conv (sl := [(10, .bool false)]) (A := [H]) (L := [some (b1, .cells #[vv] 24 (0, 0)), none]) ?_ (by kernel_rfl) (by kernel_rfl) (by kernel_rfl)
    clear G3
    refine At.then ?_
    refine W.ret (by kernel_rfl) ?_
    refine At.thenRet ?_
    refine At.results (Or.inl rfl) (.bool false) (fun xa xw hs hw => results_one (r := .tmp 10) (by kernel_rfl) (res_tmp (t := 10) (by kernel_rfl) hs)) (fun w' hw => ?_)
    have e0 : false = (decide (Tm.opensP v i text value blind)) := by
      symm; rw [decide_eq_false_iff_not]; rintro ⟨h1, h2, _⟩; simp only [Tm.has] at h2; rcases hq1 with h | h
      · exact h h1
      · omega
    exact ⟨congrArg Ending.returned (cong1 (fun (x0 : Bool) => (.bool x0 : Value)) e0), hw.base⟩
  · skip
    have hq2 := hq
    replace hq2 := (iN hp3 (iOF (iNF (iN hp1 iDT)) (iNF (iN hp2 iDT)))).1 hq2
    refine W.skip (by kernel_rfl) ?_
    refine At.then ?_
    refine W.seq (by kernel_rfl) ?_
    obtain ⟨x1, hx1⟩ : ∃ zz : DThing, zz = v.getD i.toNat default := ⟨_, rfl⟩
    refine W.regV (rOpens_ct_r57_3 vv i text value blind H b1 p3 x1) [0, 2] [1, 3, 4, 5, 6] (fun G => [.pointer (some ⟨b1, 0, none⟩), .int .i64 i]) (by kernel_rfl) mo_ra (by kernel_rfl) (fun _ _ => by kernel_rfl) ⟨?_, ?_, ?_, ?_, ?_, trivial⟩ (by kernel_rfl) ?_
    · exact One.loadE (t := 22) (r := 0) (off := 0) (b := fun G => b1) (vs := fun G => [vv]) (arr := fun G => #[vv]) (T := 24) (fr := (0, 0)) (fun G => ⟨by kernel_rfl⟩) (fun G => by kernel_rfl)
    · exact One.index (t := 22) (e := 44) (size := 5) (v := fun G => vv) (k := .i64) (n := i) (fun _ => ⟨by kernel_rfl⟩) (fun G w hs => ⟨_, (hv).isSl, by first | omega | (simp only [List.length_append, List.length_cons, List.length_nil, List.length_replicate, List.length_set, List.length_take, List.length_drop, List.length_map, List.length_reverse, List.length_range]; omega), by first | omega | (simp only [List.length_append, List.length_cons, List.length_nil, List.length_replicate, List.length_set, List.length_take, List.length_drop, List.length_map, List.length_reverse, List.length_range]; omega)⟩)
    · exact One.loadD (α := DThing) (t := 44) (size := 5) (off := 0) (k := i) (l := fun G => v) (x := fun G => x1) (vs := fun G => [.string x1.Text, .int .i64 x1.Value, .int .i64 x1.Blind, .int .i64 x1.Left, .int .i64 x1.Right]) (v := fun G => vv) (H := fun G => H) (p := fun G => elemAddr vv (i.toNat * 5)) (fun G => ⟨by kernel_rfl⟩) rfl (fun G => by kernel_rfl) (fun G w hs => ⟨(hs.read 0 rfl), hv, (add_zero' _).symm, by omega, by first | omega | (simp only [List.length_append, List.length_cons, List.length_nil, List.length_replicate, List.length_set, List.length_take, List.length_drop, List.length_map, List.length_reverse, List.length_range]; omega), hx1⟩)
    · exact One.new (r := 1) (T := 44) (fun b => .pointer (some ⟨b, 0, none⟩)) (arr := fun G => #[.string ByteArray.empty, .int .i64 0, .int .i64 0, .int .i64 0, .int .i64 0]) (fun G w => by kernel_rfl) (fun G b => by kernel_rfl)
    · exact One.store (t := 44) (r := 1) (off := 0) (T := 44) (b := fun G => (G 5).b) (u := fun G => .agg #[.string x1.Text, .int .i64 x1.Value, .int .i64 x1.Blind, .int .i64 x1.Left, .int .i64 x1.Right]) (vs := fun G => [.string x1.Text, .int .i64 x1.Value, .int .i64 x1.Blind, .int .i64 x1.Left, .int .i64 x1.Right]) (arr := fun G => #[.string ByteArray.empty, .int .i64 0, .int .i64 0, .int .i64 0, .int .i64 0]) (fun G => ⟨by kernel_rfl⟩) (fun G => by kernel_rfl)
    intro G4 xa xw hDn
    refine hDn.to [2, 3, 4, 11] [] (by kernel_rfl) ?_
    clear hDn
    refine Pre.conv (sl := [(2, .string text), (3, .int .i64 value), (4, .int .i64 blind), (11, .pointer (some ⟨(G4 5).b, 0, none⟩))]) (A := [H]) (L := [some (b1, .cells #[vv] 24 (0, 0)), some ((G4 5).b, .cells #[.string x1.Text, .int .i64 x1.Value, .int .i64 x1.Blind, .int .i64 x1.Left, .int .i64 x1.Right] 44 (0, 0))]) ?_ (by kernel_rfl) (by kernel_rfl) (by kernel_rfl)
    generalize (G4 5).b = b2 at ⊢
    clear G4
    refine At.then ?_
    refine W.seq (by kernel_rfl) ?_
    obtain ⟨p4, hp4⟩ : ∃ zz : Bool, zz = decide (x1.Text = text) := ⟨_, rfl⟩
    obtain ⟨p5, hp5⟩ : ∃ zz : Bool, zz = decide (x1.Value = value) := ⟨_, rfl⟩
    obtain ⟨p6, hp6⟩ : ∃ zz : Bool, zz = (p4 && p5) := ⟨_, rfl⟩
    obtain ⟨p7, hp7⟩ : ∃ zz : Bool, zz = decide (x1.Blind = blind) := ⟨_, rfl⟩
    obtain ⟨p8, hp8⟩ : ∃ zz : Bool, zz = (p6 && p7) := ⟨_, rfl⟩
    refine W.regV (rOpens_ct_r57_4 vv text value blind H b1 x1 b2 p4 p5 p6 p7 p8) [0, 2, 4, 5, 7, 10, 11, 13, 16] [1, 3, 6, 8, 9, 12, 14, 15] (fun G => [.pointer (some ⟨b2, 0, none⟩), .string text, .bool p4, .pointer (some ⟨b2, 1, none⟩), .int .i64 value, .bool p6, .pointer (some ⟨b2, 2, none⟩), .int .i64 blind, .bool p8]) (by kernel_rfl) mo_ra (by kernel_rfl) (fun _ _ => by kernel_rfl) ⟨?_, ?_, ?_, ?_, ?_, ?_, ?_, ?_, trivial⟩ (by kernel_rfl) ?_
    · exact One.loadE (t := 9) (r := 1) (off := 0) (b := fun G => b2) (vs := fun G => [.string x1.Text]) (arr := fun G => #[.string x1.Text, .int .i64 x1.Value, .int .i64 x1.Blind, .int .i64 x1.Left, .int .i64 x1.Right]) (T := 44) (fr := (0, 0)) (fun G => ⟨by kernel_rfl⟩) (fun G => by kernel_rfl)
    · exact One.eq (congrArg Value.bool ((toList_bytes _ _).trans hp4.symm)) (fun _ _ => by kernel_rfl)
    · exact One.loadE (t := 3) (r := 1) (off := 1) (b := fun G => b2) (vs := fun G => [.int .i64 x1.Value]) (arr := fun G => #[.string x1.Text, .int .i64 x1.Value, .int .i64 x1.Blind, .int .i64 x1.Left, .int .i64 x1.Right]) (T := 44) (fr := (0, 0)) (fun G => ⟨by kernel_rfl⟩) (fun G => by kernel_rfl)
    · exact One.bo hp5 (fun _ _ => by kernel_rfl)
    · subst hp6
      cases p4 <;> exact One.under fun _ _ _ => by kernel_rfl
    · exact One.loadE (t := 3) (r := 1) (off := 2) (b := fun G => b2) (vs := fun G => [.int .i64 x1.Blind]) (arr := fun G => #[.string x1.Text, .int .i64 x1.Value, .int .i64 x1.Blind, .int .i64 x1.Left, .int .i64 x1.Right]) (T := 44) (fr := (0, 0)) (fun G => ⟨by kernel_rfl⟩) (fun G => by kernel_rfl)
    · exact One.bo hp7 (fun _ _ => by kernel_rfl)
    · subst hp8
      cases p6 <;> exact One.under fun _ _ _ => by kernel_rfl
    intro G5 xa xw hDn
    refine hDn.to [10] [] (by kernel_rfl) ?_
    clear hDn
    refine Pre.conv (sl := [(10, .bool p8)]) (A := [H]) (L := [some (b1, .cells #[vv] 24 (0, 0)), some (b2, .cells #[.string x1.Text, .int .i64 x1.Value, .int .i64 x1.Blind, .int .i64 x1.Left, .int .i64 x1.Right] 44 (0, 0))]) ?_ (by kernel_rfl) (by kernel_rfl) (by kernel_rfl)
    clear G5
    refine At.then ?_
    refine W.ret (by kernel_rfl) ?_
    refine At.results (Or.inl rfl) (.bool p8) (fun xa xw hs hw => results_one (r := .tmp 10) (by kernel_rfl) (res_tmp (t := 10) (by kernel_rfl) hs)) (fun w' hw => ?_)
    have e0 : p8 = (decide (Tm.opensP v i text value blind)) := by
      rw [Bool.eq_iff_iff, (iN hp8 (iAT (iN hp6 (iAT (iN hp4 iDT) (iN hp5 iDT))) (iN hp7 iDT))), decide_eq_true_iff]
      unfold Tm.opensP Tm.has Tm.el; rw [← hx1]
      have hS : Tm.Sound v := by rcases hq2 with ⟨h, _⟩; first | exact h | exact Decidable.not_not.1 h
      constructor
      · intro h; exact ⟨hS, by omega, h.1.1, h.1.2, h.2⟩
      · rintro ⟨_, _, h1, h2, h3⟩; exact ⟨⟨h1, h2⟩, h3⟩
    exact ⟨congrArg Ending.returned (cong1 (fun (x0 : Bool) => (.bool x0 : Value)) e0), hw.base⟩

noncomputable def fewv_ct_r14_0 (vv : Value) (most : Int) (H : Heaplet) : RC := { ops := opsAt Try.f14 0, B := [0, 0], sl := [(0, .agg #[vv]), (1, .int .i64 most)], A := [H], L := [none], cs := [{ val := fun G => .pointer (some ⟨(G 0).b, 0, none⟩), ups := [(0, fun G => some ((G 0).b, .cells #[vv] 24 (0, 0)))] }, { val := fun _ => .bool false }] }
noncomputable def fewv_ct_r14_1 (vv : Value) (most : Int) (H : Heaplet) (b1 : Nat) : RC := { ops := opsAt Try.f14 1, B := [0], sl := [(1, .int .i64 most), (2, .pointer (some ⟨b1, 0, none⟩))], A := [H], L := [some (b1, .cells #[vv] 24 (0, 0))], cs := [{ val := fun _ => .int .i64 0 }] }
noncomputable def fewv_ct_r14_2 (vv : Value) (most : Int) (H : Heaplet) (b1 : Nat) (i n1 : Int) (p1 p2 p3 : Bool) : RC := { ops := opsAt Try.f14 2, B := [0, 0, 2, 6, 15, 31, 63, 63, 255, 511], sl := [(1, .int .i64 most), (2, .pointer (some ⟨b1, 0, none⟩)), (5, .int .i64 i)], A := [H], L := [some (b1, .cells #[vv] 24 (0, 0))], cs := [{ val := fun _ => .int .i64 i }, { val := fun _ => .pointer (some ⟨b1, 0, none⟩) }, { val := fun _ => vv, rds := [0] }, { val := fun _ => .int .i64 n1 }, { val := fun _ => .bool p1 }, { val := fun _ => .bool p1 }, { val := fun _ => .int .i64 i }, { val := fun _ => .int .i64 most }, { val := fun _ => .bool p2 }, { val := fun _ => .bool p3 }] }
noncomputable def fewv_ct_r14_3 (vv : Value) (most : Int) (H : Heaplet) (b1 : Nat) (i : Int) (p3 : Bool) (x1 : DThing) (n2 : Int) (p4 : Bool) : RC := { ops := opsAt Try.f14 4, B := [0, 1, 0, 7, 15, 31, 63, 127], sl := [(1, .int .i64 most), (2, .pointer (some ⟨b1, 0, none⟩)), (5, .int .i64 i), (15, .bool p3)], A := [H], L := [some (b1, .cells #[vv] 24 (0, 0))], cs := [{ val := fun _ => .pointer (some ⟨b1, 0, none⟩) }, { val := fun _ => vv, rds := [0] }, { val := fun _ => .int .i64 i }, { val := fun _ => .pointer (some (elemAddr vv (i.toNat * 5))) }, { val := fun _ => .pointer (some ((elemAddr vv (i.toNat * 5)).add 0)) }, { val := fun _ => .string x1.Text }, { val := fun _ => .int .i64 n2 }, { val := fun _ => .bool p4 }] }
noncomputable def fewv_ct_r14_4 (vv : Value) (most : Int) (H : Heaplet) (b1 : Nat) (i : Int) (p4 : Bool) : RC := { ops := opsAt Try.f14 5, B := [0], sl := [(1, .int .i64 most), (2, .pointer (some ⟨b1, 0, none⟩)), (5, .int .i64 i), (25, .bool p4)], A := [H], L := [some (b1, .cells #[vv] 24 (0, 0))], cs := [{ val := fun _ => .bool false }] }
noncomputable def fewv_ct_r14_5 (vv : Value) (most : Int) (H : Heaplet) (b1 : Nat) (i : Int) (p4 : Bool) (n3 : Int) : RC := { ops := opsAt Try.f14 3, B := [0, 1, 3], sl := [(1, .int .i64 most), (2, .pointer (some ⟨b1, 0, none⟩)), (5, .int .i64 i), (25, .bool p4)], A := [H], L := [some (b1, .cells #[vv] 24 (0, 0))], cs := [{ val := fun _ => .int .i64 i }, { val := fun _ => .int .i64 n3 }, { val := fun _ => .int .i64 n3 }] }
noncomputable def fewv_ct_r14_6 (vv : Value) (most : Int) (H : Heaplet) (b1 : Nat) (i n1 : Int) (p3 p5 : Bool) : RC := { ops := opsAt Try.f14 6, B := [0, 1, 3, 0, 15, 31], sl := [(1, .int .i64 most), (2, .pointer (some ⟨b1, 0, none⟩)), (5, .int .i64 i), (15, .bool p3)], A := [H], L := [some (b1, .cells #[vv] 24 (0, 0))], cs := [{ val := fun _ => .pointer (some ⟨b1, 0, none⟩) }, { val := fun _ => vv, rds := [0] }, { val := fun _ => .int .i64 n1 }, { val := fun _ => .int .i64 most }, { val := fun _ => .bool p5 }, { val := fun _ => .bool p5 }] }
set_option maxRecDepth 10000 in
theorem fewv_ct (v : List DThing) (vv : Value) (most : Int) (w0 : World) (H : Heaplet) (hA : Agrees w0 H) (hv : RSl H v vv) :
    Calls Try.prog 14 #[.agg #[vv], .int .i64 most] w0 (fun e w' => e = .returned (.bool ((decide (Tm.fewP v most)))) ∧ Base [] w0 w') := by
  have hE : Ext w0 H H := Ext.refl w0 H
  have hvn := hv.lim
  refine calls_of_W (sl := [(0, .agg #[vv]), (1, .int .i64 most)]) (A := [H]) (L := [none]) Try.func14 (by kernel_rfl) 31 (by kernel_rfl) (by kernel_rfl) (fun J hJ => by simp at hJ; subst hJ; exact hA) (by simp) ?_
  refine W.seq (by kernel_rfl) ?_
  refine W.regV (fewv_ct_r14_0 vv most H) [1] [0] (fun G => [.bool false]) (by kernel_rfl) mo_ra (by kernel_rfl) (fun _ _ => by kernel_rfl) ⟨?_, trivial⟩ (by kernel_rfl) ?_
  · exact One.new (r := 0) (T := 24) (fun b => .pointer (some ⟨b, 0, none⟩)) (arr := fun G => #[vv]) (fun G w => by kernel_rfl) (fun G b => by kernel_rfl)
  intro G1 xa xw hDn
  refine hDn.to [1, 2] [] (by kernel_rfl) ?_
  clear hDn
  refine Pre.conv (sl := [(1, .int .i64 most), (2, .pointer (some ⟨(G1 0).b, 0, none⟩))]) (A := [H]) (L := [some ((G1 0).b, .cells #[vv] 24 (0, 0))]) ?_ (by kernel_rfl) (by kernel_rfl) (by kernel_rfl)
  generalize (G1 0).b = b1 at ⊢
  clear G1
  refine At.then ?_
  refine W.seq (by kernel_rfl) ?_
  refine W.seq (by kernel_rfl) ?_
  refine W.regV (fewv_ct_r14_1 vv most H b1) [0] [] (fun G => [.int .i64 0]) (by kernel_rfl) mo_ra (by kernel_rfl) (fun _ _ => by kernel_rfl) trivial (by kernel_rfl) ?_
  intro G2 xa xw hDn
  refine hDn.to [1, 2, 5] [] (by kernel_rfl) ?_
  clear hDn
  refine Pre.conv (sl := [(1, .int .i64 most), (2, .pointer (some ⟨b1, 0, none⟩)), (5, .int .i64 0)]) (A := [H]) (L := [some (b1, .cells #[vv] 24 (0, 0))]) ?_ (by kernel_rfl) (by kernel_rfl) (by kernel_rfl)
  clear G2
  refine At.then ?_
  refine W.block 0 (by kernel_rfl) ?_
  refine W.loopS (γ := Int) (fun i => [(1, .int .i64 most), (2, .pointer (some ⟨b1, 0, none⟩)), (5, .int .i64 i)]) (fun i => [H]) (fun i => [some (b1, .cells #[vv] 24 (0, 0))]) (fun i => (0 ≤ i) ∧ (∀ j, j < i.toNat → (v.getD j default).Text.size ≤ 100)) (fun i => ((v.length : Int) - i).toNat) 0 (by kernel_rfl) ?_ ?_
  · intro xa xw hs hw
    refine ⟨hs.sub (by kernel_rfl), hw.mask [true] (by kernel_rfl), ?_⟩
    refine ⟨?_, ?_⟩
    · show 0 ≤ (0 : Int)
      first | omega | rfl | (simp; done) | (subst_vars; simp; done)
    · show ∀ j, j < (0 : Int).toNat → (v.getD j default).Text.size ≤ 100
      intro j hj; simp at hj
  · rintro i hF
    have hF : (0 ≤ i) ∧ (∀ j, j < i.toNat → (v.getD j default).Text.size ≤ 100) := hF
    obtain ⟨hf1, hf2⟩ := hF
    show W Try.prog 31 w0 [] (Code.l (Code.l (Code.r (Code.l (Code.r (body Try.f14)))))) _ [(1, .int .i64 most), (2, .pointer (some ⟨b1, 0, none⟩)), (5, .int .i64 i)] [H] [some (b1, .cells #[vv] 24 (0, 0))]
    refine W.seq (by kernel_rfl) ?_
    refine W.seq (by kernel_rfl) ?_
    obtain ⟨n1, hn1⟩ : ∃ zz : Int, zz = (v.length : Int) := ⟨_, rfl⟩
    obtain ⟨p1, hp1⟩ : ∃ zz : Bool, zz = decide (i < n1) := ⟨_, rfl⟩
    obtain ⟨p2, hp2⟩ : ∃ zz : Bool, zz = decide (i < most) := ⟨_, rfl⟩
    obtain ⟨p3, hp3⟩ : ∃ zz : Bool, zz = (p1 && p2) := ⟨_, rfl⟩
    refine W.regV (fewv_ct_r14_2 vv most H b1 i n1 p1 p2 p3) [0, 1, 5, 6, 7] [2, 3, 4, 8, 9] (fun G => [.int .i64 i, .pointer (some ⟨b1, 0, none⟩), .bool p1, .int .i64 i, .int .i64 most]) (by kernel_rfl) mo_ra (by kernel_rfl) (fun _ _ => by kernel_rfl) ⟨?_, ?_, ?_, ?_, ?_, trivial⟩ (by kernel_rfl) ?_
    · exact One.loadE (t := 22) (r := 0) (off := 0) (b := fun G => b1) (vs := fun G => [vv]) (arr := fun G => #[vv]) (T := 24) (fr := (0, 0)) (fun G => ⟨by kernel_rfl⟩) (fun G => by kernel_rfl)
    · exact One.len (t := 22) (n := n1) (v := fun G => vv) (fun _ => ⟨by kernel_rfl⟩) (fun G w hs => ⟨_, (hv).isSl, hn1⟩)
    · exact One.bo hp1 (fun _ _ => by kernel_rfl)
    · exact One.bo hp2 (fun _ _ => by kernel_rfl)
    · subst hp3
      cases p1 <;> exact One.under fun _ _ _ => by kernel_rfl
    intro G3 xa xw hDn
    refine hDn.to [1, 2, 5, 15] [] (by kernel_rfl) ?_
    clear hDn
    refine Pre.conv (sl := [(1, .int .i64 most), (2, .pointer (some ⟨b1, 0, none⟩)), (5, .int .i64 i), (15, .bool p3)]) (A := [H]) (L := [some (b1, .cells #[vv] 24 (0, 0))]) ?_ (by kernel_rfl) (by kernel_rfl) (by kernel_rfl)
    clear G3
    refine At.then ?_
    refine W.cond p3 (by kernel_rfl) (fun xa hs => cnd_of (t := 15) (by kernel_rfl) (by kernel_rfl) hs) (fun hq => ?_) (fun hq => ?_)
    · skip
      have hq1 := hq
      replace hq1 := (iN hp3 (iAT (iN hp1 iDT) (iN hp2 iDT))).1 hq1
      refine W.skip (by kernel_rfl) ?_
      refine At.then ?_
      refine W.seq (by kernel_rfl) ?_
      refine W.block 1 (by kernel_rfl) ?_
      refine W.seq (by kernel_rfl) ?_
      obtain ⟨x1, hx1⟩ : ∃ zz : DThing, zz = v.getD i.toNat default := ⟨_, rfl⟩
      obtain ⟨n2, hn2⟩ : ∃ zz : Int, zz = (x1.Text.size : Int) := ⟨_, rfl⟩
      obtain ⟨p4, hp4⟩ : ∃ zz : Bool, zz = decide (100 < n2) := ⟨_, rfl⟩
      refine W.regV (fewv_ct_r14_3 vv most H b1 i p3 x1 n2 p4) [0, 2, 4] [1, 3, 5, 6, 7] (fun G => [.pointer (some ⟨b1, 0, none⟩), .int .i64 i, .pointer (some ((elemAddr vv (i.toNat * 5)).add 0))]) (by kernel_rfl) mo_ra (by kernel_rfl) (fun _ _ => by kernel_rfl) ⟨?_, ?_, ?_, ?_, ?_, trivial⟩ (by kernel_rfl) ?_
      · exact One.loadE (t := 22) (r := 0) (off := 0) (b := fun G => b1) (vs := fun G => [vv]) (arr := fun G => #[vv]) (T := 24) (fr := (0, 0)) (fun G => ⟨by kernel_rfl⟩) (fun G => by kernel_rfl)
      · exact One.index (t := 22) (e := 44) (size := 5) (v := fun G => vv) (k := .i64) (n := i) (fun _ => ⟨by kernel_rfl⟩) (fun G w hs => ⟨_, (hv).isSl, by first | omega | (simp only [List.length_append, List.length_cons, List.length_nil, List.length_replicate, List.length_set, List.length_take, List.length_drop, List.length_map, List.length_reverse, List.length_range]; omega), by first | omega | (simp only [List.length_append, List.length_cons, List.length_nil, List.length_replicate, List.length_set, List.length_take, List.length_drop, List.length_map, List.length_reverse, List.length_range]; omega)⟩)
      · exact One.loadD (α := DThing) (t := 9) (size := 5) (off := 0) (k := i) (l := fun G => v) (x := fun G => x1) (vs := fun G => [.string x1.Text]) (v := fun G => vv) (H := fun G => H) (p := fun G => (elemAddr vv (i.toNat * 5)).add 0) (fun G => ⟨by kernel_rfl⟩) rfl (fun G => by kernel_rfl) (fun G w hs => ⟨(hs.read 0 rfl), hv, rfl, by omega, by first | omega | (simp only [List.length_append, List.length_cons, List.length_nil, List.length_replicate, List.length_set, List.length_take, List.length_drop, List.length_map, List.length_reverse, List.length_range]; omega), hx1⟩)
      · exact One.eq (congrArg (Value.int .i64) hn2.symm) (fun _ _ => by kernel_rfl)
      · exact One.bo hp4 (fun _ _ => by kernel_rfl)
      intro G4 xa xw hDn
      refine hDn.to [1, 2, 5, 25] [] (by kernel_rfl) ?_
      clear hDn
      refine Pre.conv (sl := [(1, .int .i64 most), (2, .pointer (some ⟨b1, 0, none⟩)), (5, .int .i64 i), (25, .bool p4)]) (A := [H]) (L := [some (b1, .cells #[vv] 24 (0, 0))]) ?_ (by kernel_rfl) (by kernel_rfl) (by kernel_rfl)
      clear G4
      refine At.then ?_
      refine W.cond p4 (by kernel_rfl) (fun xa hs => cnd_of (t := 25) (by kernel_rfl) (by kernel_rfl) hs) (fun hq => ?_) (fun hq => ?_)
      · skip
        have hq2 := hq
        replace hq2 := (iN hp4 iDT).1 hq2
        refine W.seq (by kernel_rfl) ?_
        refine W.regV (fewv_ct_r14_4 vv most H b1 i p4) [0] [] (fun G => [.bool false]) (by kernel_rfl) mo_ra (by kernel_rfl) (fun _ _ => by kernel_rfl) trivial (by kernel_rfl) ?_
        intro G5 xa xw hDn
        refine hDn.to [4] [] (by kernel_rfl) ?_
        clear hDn
        refine Pre.conv (sl := [(4, .bool false)]) (A := [H]) (L := [some (b1, .cells #[vv] 24 (0, 0))]) ?_ (by kernel_rfl) (by kernel_rfl) (by kernel_rfl)
        clear G5
        refine At.then ?_
        refine W.ret (by kernel_rfl) ?_
        refine At.blockRet ?_
        refine At.thenRet ?_
        refine At.thenRet ?_
        refine At.blockRet ?_
        refine At.thenRet ?_
        refine At.results (Or.inl rfl) (.bool false) (fun xa xw hs hw => results_one (r := .tmp 4) (by kernel_rfl) (res_tmp (t := 4) (by kernel_rfl) hs)) (fun w' hw => ?_)
        have e0 : false = (decide (Tm.fewP v most)) := by
          exact Tm.few_no (k := i) (by omega) (by omega) (by omega) (by assumption) (by assumption) (by omega)
        exact ⟨congrArg Ending.returned (cong1 (fun (x0 : Bool) => (.bool x0 : Value)) e0), hw.base⟩
      · skip
        have hq3 := hq
        replace hq3 := (iN hp4 iDF).1 hq3
        refine W.skip (by kernel_rfl) ?_
        refine At.blockNormal ?_
        refine At.then ?_
        obtain ⟨n3, hn3⟩ : ∃ zz : Int, zz = i + 1 := ⟨_, rfl⟩
        refine W.regV (fewv_ct_r14_5 vv most H b1 i p4 n3) [0, 2] [1] (fun G => [.int .i64 i, .int .i64 n3]) (by kernel_rfl) mo_ra (by kernel_rfl) (fun _ _ => by kernel_rfl) ⟨?_, trivial⟩ (by kernel_rfl) ?_
        · exact One.ar hn3 (fun _ _ => by kernel_rfl) (fun G w hs => by omega)
        intro G6 xa xw hDn
        refine hDn.to [1, 2, 5] [] (by kernel_rfl) ?_
        clear hDn
        refine Pre.conv (sl := [(1, .int .i64 most), (2, .pointer (some ⟨b1, 0, none⟩)), (5, .int .i64 n3)]) (A := [H]) (L := [some (b1, .cells #[vv] 24 (0, 0))]) ?_ (by kernel_rfl) (by kernel_rfl) (by kernel_rfl)
        clear G6
        intro xa xw hs hw
        refine ⟨n3, ⟨hs.sub (by kernel_rfl), hw.mask [true] (by kernel_rfl), ?_⟩, ?_⟩
        · skip
          refine ⟨?_, ?_⟩
          · show 0 ≤ n3
            omega
          · show ∀ j, j < n3.toNat → (v.getD j default).Text.size ≤ 100
            exact Tm.few_step hf2 (by omega) (by assumption) (by assumption) (by assumption) (by omega)
        · show ((v.length : Int) - n3).toNat < ((v.length : Int) - i).toNat
          omega
    · skip
      have hq4 := hq
      replace hq4 := (iN hp3 (iAF (iN hp1 iDF) (iN hp2 iDF))).1 hq4
      refine W.exit 0 (by kernel_rfl) ?_
      refine At.thenExit ?_
      refine At.thenExit ?_
      refine At.blockHit ?_
      refine At.then ?_
      refine W.seq (by kernel_rfl) ?_
      obtain ⟨p5, hp5⟩ : ∃ zz : Bool, zz = decide (n1 ≤ most) := ⟨_, rfl⟩
      refine W.regV (fewv_ct_r14_6 vv most H b1 i n1 p3 p5) [0, 3, 5] [1, 2, 4] (fun G => [.pointer (some ⟨b1, 0, none⟩), .int .i64 most, .bool p5]) (by kernel_rfl) mo_ra (by kernel_rfl) (fun _ _ => by kernel_rfl) ⟨?_, ?_, ?_, trivial⟩ (by kernel_rfl) ?_
      · exact One.loadE (t := 22) (r := 0) (off := 0) (b := fun G => b1) (vs := fun G => [vv]) (arr := fun G => #[vv]) (T := 24) (fr := (0, 0)) (fun G => ⟨by kernel_rfl⟩) (fun G => by kernel_rfl)
      · exact One.len (t := 22) (n := n1) (v := fun G => vv) (fun _ => ⟨by kernel_rfl⟩) (fun G w hs => ⟨_, (hv).isSl, hn1⟩)
      · exact One.bo hp5 (fun _ _ => by kernel_rfl)
      intro G7 xa xw hDn
      refine hDn.to [4] [] (by kernel_rfl) ?_
      clear hDn
      refine Pre.conv (sl := [(4, .bool p5)]) (A := [H]) (L := [some (b1, .cells #[vv] 24 (0, 0))]) ?_ (by kernel_rfl) (by kernel_rfl) (by kernel_rfl)
      clear G7
      refine At.then ?_
      refine W.ret (by kernel_rfl) ?_
      refine At.results (Or.inl rfl) (.bool p5) (fun xa xw hs hw => results_one (r := .tmp 4) (by kernel_rfl) (res_tmp (t := 4) (by kernel_rfl) hs)) (fun w' hw => ?_)
      have e0 : p5 = (decide (Tm.fewP v most)) := by
        exact Tm.few_end (k := i) (n := n1) hf2 (by omega) (by omega) (by assumption) (by assumption)
      exact ⟨congrArg Ending.returned (cong1 (fun (x0 : Bool) => (.bool x0 : Value)) e0), hw.base⟩

noncomputable def rin36_ct_r52_0 (vv : Value) (i : Int) (H : Heaplet) : RC := { ops := opsAt Try.f52 0, B := [0, 0], sl := [(0, .agg #[vv]), (1, .int .i64 i)], A := [H], L := [none], cs := [{ val := fun G => .pointer (some ⟨(G 0).b, 0, none⟩), ups := [(0, fun G => some ((G 0).b, .cells #[vv] 24 (0, 0)))] }, { val := fun _ => .bool false }] }
noncomputable def rin36_ct_r52_1 (vv : Value) (i : Int) (H : Heaplet) (b1 : Nat) (p1 : Bool) (n1 : Int) (p2 p3 : Bool) : RC := { ops := opsAt Try.f52 1, B := [0, 1, 3, 7, 7, 23, 55, 127, 255, 511], sl := [(1, .int .i64 i), (2, .pointer (some ⟨b1, 0, none⟩))], A := [H], L := [some (b1, .cells #[vv] 24 (0, 0))], cs := [{ val := fun _ => .int .i64 i }, { val := fun _ => .bool p1 }, { val := fun _ => .bool p1 }, { val := fun _ => .int .i64 i }, { val := fun _ => .pointer (some ⟨b1, 0, none⟩) }, { val := fun _ => vv, rds := [0] }, { val := fun _ => .int .i64 n1 }, { val := fun _ => .bool p2 }, { val := fun _ => .bool p3 }, { val := fun _ => .bool p3 }] }
set_option maxRecDepth 10000 in
theorem rin36_ct (v : List DThing) (vv : Value) (i : Int) (w0 : World) (H : Heaplet) (hA : Agrees w0 H) (hv : RSl H v vv) :
    Calls Try.prog 52 #[.agg #[vv], .int .i64 i] w0 (fun e w' => e = .returned (.bool ((decide (0 ≤ i ∧ i < (v.length : Int))))) ∧ Base [] w0 w') := by
  have hE : Ext w0 H H := Ext.refl w0 H
  have hvn := hv.lim
  refine calls_of_W (sl := [(0, .agg #[vv]), (1, .int .i64 i)]) (A := [H]) (L := [none]) Try.func52 (by kernel_rfl) 14 (by kernel_rfl) (by kernel_rfl) (fun J hJ => by simp at hJ; subst hJ; exact hA) (by simp) ?_
  refine W.seq (by kernel_rfl) ?_
  refine W.regV (rin36_ct_r52_0 vv i H) [1] [0] (fun G => [.bool false]) (by kernel_rfl) mo_ra (by kernel_rfl) (fun _ _ => by kernel_rfl) ⟨?_, trivial⟩ (by kernel_rfl) ?_
  · exact One.new (r := 0) (T := 24) (fun b => .pointer (some ⟨b, 0, none⟩)) (arr := fun G => #[vv]) (fun G w => by kernel_rfl) (fun G b => by kernel_rfl)
  intro G1 xa xw hDn
  refine hDn.to [1, 2] [] (by kernel_rfl) ?_
  clear hDn
  refine Pre.conv (sl := [(1, .int .i64 i), (2, .pointer (some ⟨(G1 0).b, 0, none⟩))]) (A := [H]) (L := [some ((G1 0).b, .cells #[vv] 24 (0, 0))]) ?_ (by kernel_rfl) (by kernel_rfl) (by kernel_rfl)
  generalize (G1 0).b = b1 at ⊢
  clear G1
  refine At.then ?_
  refine W.seq (by kernel_rfl) ?_
  obtain ⟨p1, hp1⟩ : ∃ zz : Bool, zz = decide (0 ≤ i) := ⟨_, rfl⟩
  obtain ⟨n1, hn1⟩ : ∃ zz : Int, zz = (v.length : Int) := ⟨_, rfl⟩
  obtain ⟨p2, hp2⟩ : ∃ zz : Bool, zz = decide (i < n1) := ⟨_, rfl⟩
  obtain ⟨p3, hp3⟩ : ∃ zz : Bool, zz = (p1 && p2) := ⟨_, rfl⟩
  refine W.regV (rin36_ct_r52_1 vv i H b1 p1 n1 p2 p3) [0, 2, 3, 4, 9] [1, 5, 6, 7, 8] (fun G => [.int .i64 i, .bool p1, .int .i64 i, .pointer (some ⟨b1, 0, none⟩), .bool p3]) (by kernel_rfl) mo_ra (by kernel_rfl) (fun _ _ => by kernel_rfl) ⟨?_, ?_, ?_, ?_, ?_, trivial⟩ (by kernel_rfl) ?_
  · exact One.bo hp1 (fun _ _ => by kernel_rfl)
  · exact One.loadE (t := 22) (r := 0) (off := 0) (b := fun G => b1) (vs := fun G => [vv]) (arr := fun G => #[vv]) (T := 24) (fr := (0, 0)) (fun G => ⟨by kernel_rfl⟩) (fun G => by kernel_rfl)
  · exact One.len (t := 22) (n := n1) (v := fun G => vv) (fun _ => ⟨by kernel_rfl⟩) (fun G w hs => by
      have hg := gd_of hs (p := (true && (p1 == true))) (by kernel_rfl)
      have hg0 := (iN hp1 iDT).1 (eqT (andR hg))
      exact ⟨_, (hv).isSl, hn1⟩)
  · exact One.bo hp2 (fun _ _ => by kernel_rfl)
  · subst hp3
    cases p1 <;> exact One.under fun _ _ _ => by kernel_rfl
  intro G2 xa xw hDn
  refine hDn.to [4] [] (by kernel_rfl) ?_
  clear hDn
  refine Pre.conv (sl := [(4, .bool p3)]) (A := [H]) (L := [some (b1, .cells #[vv] 24 (0, 0))]) ?_ (by kernel_rfl) (by kernel_rfl) (by kernel_rfl)
  clear G2
  refine At.then ?_
  refine W.ret (by kernel_rfl) ?_
  refine At.results (Or.inl rfl) (.bool p3) (fun xa xw hs hw => results_one (r := .tmp 4) (by kernel_rfl) (res_tmp (t := 4) (by kernel_rfl) hs)) (fun w' hw => ?_)
  have e0 : p3 = (decide (0 ≤ i ∧ i < (v.length : Int))) := by
    rw [Bool.eq_iff_iff, (iN hp3 (iAT (iN hp1 iDT) (iN hp2 iDT))), decide_eq_true_iff]
    omega
  exact ⟨congrArg Ending.returned (cong1 (fun (x0 : Bool) => (.bool x0 : Value)) e0), hw.base⟩

noncomputable def same_ct_r18_0 (av bv : Value) (H : Heaplet) : RC := { ops := opsAt Try.f18 0, B := [0], sl := [(0, av), (1, bv)], A := [H], L := [], cs := [{ val := fun _ => .bool false }] }
noncomputable def same_ct_r18_1 (av bv : Value) (H : Heaplet) (n1 n2 : Int) (p1 : Bool) : RC := { ops := opsAt Try.f18 1, B := [0, 1, 0, 4, 15], sl := [(0, av), (1, bv)], A := [H], L := [], cs := [{ val := fun _ => av }, { val := fun _ => .int .i64 n1 }, { val := fun _ => bv }, { val := fun _ => .int .i64 n2 }, { val := fun _ => .bool p1 }] }
noncomputable def same_ct_r18_2 (av bv : Value) (H : Heaplet) (p1 : Bool) : RC := { ops := opsAt Try.f18 2, B := [0], sl := [(0, av), (1, bv), (10, .bool p1)], A := [H], L := [], cs := [{ val := fun _ => .bool false }] }
noncomputable def same_ct_r18_3 (av bv : Value) (H : Heaplet) (p1 : Bool) : RC := { ops := opsAt Try.f18 3, B := [0], sl := [(0, av), (1, bv), (10, .bool p1)], A := [H], L := [], cs := [{ val := fun _ => .int .i64 0 }] }
noncomputable def same_ct_r18_4 (av bv : Value) (H : Heaplet) (n1 i : Int) (p2 : Bool) : RC := { ops := opsAt Try.f18 4, B := [0, 0, 2, 7], sl := [(0, av), (1, bv), (5, .int .i64 i)], A := [H], L := [], cs := [{ val := fun _ => .int .i64 i }, { val := fun _ => av }, { val := fun _ => .int .i64 n1 }, { val := fun _ => .bool p2 }] }
noncomputable def same_ct_r18_5 (av bv : Value) (H : Heaplet) (i : Int) (p2 : Bool) (x1 x2 : DThing) (p3 : Bool) : RC := { ops := opsAt Try.f18 6, B := [0, 0, 3, 7, 0, 0, 48, 112, 255], sl := [(0, av), (1, bv), (5, .int .i64 i), (14, .bool p2)], A := [H], L := [], cs := [{ val := fun _ => av }, { val := fun _ => .int .i64 i }, { val := fun _ => .pointer (some (elemAddr av (i.toNat * 5))) }, { val := fun _ => .agg #[.string x1.Text, .int .i64 x1.Value, .int .i64 x1.Blind, .int .i64 x1.Left, .int .i64 x1.Right] }, { val := fun _ => bv }, { val := fun _ => .int .i64 i }, { val := fun _ => .pointer (some (elemAddr bv (i.toNat * 5))) }, { val := fun _ => .agg #[.string x2.Text, .int .i64 x2.Value, .int .i64 x2.Blind, .int .i64 x2.Left, .int .i64 x2.Right] }, { val := fun _ => .bool p3 }] }
noncomputable def same_ct_r18_6 (av bv : Value) (H : Heaplet) (i : Int) (p3 : Bool) : RC := { ops := opsAt Try.f18 7, B := [0], sl := [(0, av), (1, bv), (5, .int .i64 i), (25, .bool p3)], A := [H], L := [], cs := [{ val := fun _ => .bool false }] }
noncomputable def same_ct_r18_7 (av bv : Value) (H : Heaplet) (i : Int) (p3 : Bool) (n3 : Int) : RC := { ops := opsAt Try.f18 5, B := [0, 1, 3], sl := [(0, av), (1, bv), (5, .int .i64 i), (25, .bool p3)], A := [H], L := [], cs := [{ val := fun _ => .int .i64 i }, { val := fun _ => .int .i64 n3 }, { val := fun _ => .int .i64 n3 }] }
noncomputable def same_ct_r18_8 (av bv : Value) (H : Heaplet) (i : Int) (p2 : Bool) : RC := { ops := opsAt Try.f18 8, B := [0], sl := [(0, av), (1, bv), (5, .int .i64 i), (14, .bool p2)], A := [H], L := [], cs := [{ val := fun _ => .bool true }] }
set_option maxRecDepth 10000 in
theorem same_ct (a : List DThing) (av : Value) (b : List DThing) (bv : Value) (w0 : World) (H : Heaplet) (hA : Agrees w0 H) (ha : RSl H a av) (hb : RSl H b bv) :
    Calls Try.prog 18 #[av, bv] w0 (fun e w' => e = .returned (.bool ((decide (a = b)))) ∧ Base [] w0 w') := by
  have hE : Ext w0 H H := Ext.refl w0 H
  have han := ha.lim
  have hbn := hb.lim
  refine calls_of_W (sl := [(0, av), (1, bv)]) (A := [H]) (L := []) Try.func18 (by kernel_rfl) 26 (by kernel_rfl) (by kernel_rfl) (fun J hJ => by simp at hJ; subst hJ; exact hA) (by simp) ?_
  refine W.seq (by kernel_rfl) ?_
  refine W.regV (same_ct_r18_0 av bv H) [0] [] (fun G => [.bool false]) (by kernel_rfl) mo_ra (by kernel_rfl) (fun _ _ => by kernel_rfl) trivial (by kernel_rfl) ?_
  intro G1 xa xw hDn
  refine hDn.to [0, 1] [] (by kernel_rfl) ?_
  clear hDn
  refine Pre.conv (sl := [(0, av), (1, bv)]) (A := [H]) (L := []) ?_ (by kernel_rfl) (by kernel_rfl) (by kernel_rfl)
  clear G1
  refine At.then ?_
  refine W.seq (by kernel_rfl) ?_
  refine W.seq (by kernel_rfl) ?_
  obtain ⟨n1, hn1⟩ : ∃ zz : Int, zz = (a.length : Int) := ⟨_, rfl⟩
  obtain ⟨n2, hn2⟩ : ∃ zz : Int, zz = (b.length : Int) := ⟨_, rfl⟩
  obtain ⟨p1, hp1⟩ : ∃ zz : Bool, zz = !(decide (n1 = n2)) := ⟨_, rfl⟩
  refine W.regV (same_ct_r18_1 av bv H n1 n2 p1) [0, 2] [1, 3, 4] (fun G => [av, bv]) (by kernel_rfl) mo_ra (by kernel_rfl) (fun _ _ => by kernel_rfl) ⟨?_, ?_, ?_, trivial⟩ (by kernel_rfl) ?_
  · exact One.len (t := 22) (n := n1) (v := fun G => av) (fun _ => ⟨by kernel_rfl⟩) (fun G w hs => ⟨_, (ha).isSl, hn1⟩)
  · exact One.len (t := 22) (n := n2) (v := fun G => bv) (fun _ => ⟨by kernel_rfl⟩) (fun G w hs => ⟨_, (hb).isSl, hn2⟩)
  · exact One.bo hp1 (fun _ _ => by kernel_rfl)
  intro G2 xa xw hDn
  refine hDn.to [0, 1, 10] [] (by kernel_rfl) ?_
  clear hDn
  refine Pre.conv (sl := [(0, av), (1, bv), (10, .bool p1)]) (A := [H]) (L := []) ?_ (by kernel_rfl) (by kernel_rfl) (by kernel_rfl)
  clear G2
  refine At.then ?_
  refine W.cond p1 (by kernel_rfl) (fun xa hs => cnd_of (t := 10) (by kernel_rfl) (by kernel_rfl) hs) (fun hq => ?_) (fun hq => ?_)
  · skip
    have hq1 := hq
    replace hq1 := (iN hp1 (iNT iDF)).1 hq1
    refine W.seq (by kernel_rfl) ?_
    refine W.regV (same_ct_r18_2 av bv H p1) [0] [] (fun G => [.bool false]) (by kernel_rfl) mo_ra (by kernel_rfl) (fun _ _ => by kernel_rfl) trivial (by kernel_rfl) ?_
    intro G3 xa xw hDn
    refine hDn.to [4] [] (by kernel_rfl) ?_
    clear hDn
    refine Pre.conv (sl := [(4, .bool false)]) (A := [H]) (L := []) ?_ (by kernel_rfl) (by kernel_rfl) (by kernel_rfl)
    clear G3
    refine At.then ?_
    refine W.ret (by kernel_rfl) ?_
    refine At.thenRet ?_
    refine At.results (Or.inl rfl) (.bool false) (fun xa xw hs hw => results_one (r := .tmp 4) (by kernel_rfl) (res_tmp (t := 4) (by kernel_rfl) hs)) (fun w' hw => ?_)
    have e0 : false = (decide (a = b)) := by
      exact Tm.same_no_len (by assumption) (by assumption) hq1
    exact ⟨congrArg Ending.returned (cong1 (fun (x0 : Bool) => (.bool x0 : Value)) e0), hw.base⟩
  · skip
    have hq2 := hq
    replace hq2 := (iN hp1 (iNF iDT)).1 hq2
    refine W.skip (by kernel_rfl) ?_
    refine At.then ?_
    refine W.seq (by kernel_rfl) ?_
    refine W.seq (by kernel_rfl) ?_
    refine W.regV (same_ct_r18_3 av bv H p1) [0] [] (fun G => [.int .i64 0]) (by kernel_rfl) mo_ra (by kernel_rfl) (fun _ _ => by kernel_rfl) trivial (by kernel_rfl) ?_
    intro G4 xa xw hDn
    refine hDn.to [0, 1, 5] [] (by kernel_rfl) ?_
    clear hDn
    refine Pre.conv (sl := [(0, av), (1, bv), (5, .int .i64 0)]) (A := [H]) (L := []) ?_ (by kernel_rfl) (by kernel_rfl) (by kernel_rfl)
    clear G4
    refine At.then ?_
    refine W.block 0 (by kernel_rfl) ?_
    refine W.loopS (γ := Int) (fun i => [(0, av), (1, bv), (5, .int .i64 i)]) (fun i => [H]) (fun i => []) (fun i => (0 ≤ i) ∧ (i ≤ (a.length : Int)) ∧ (∀ j, j < i.toNat → a.getD j default = b.getD j default)) (fun i => ((a.length : Int) - i).toNat) 0 (by kernel_rfl) ?_ ?_
    · intro xa xw hs hw
      refine ⟨hs.sub (by kernel_rfl), hw.mask [] (by kernel_rfl), ?_⟩
      refine ⟨?_, ?_, ?_⟩
      · show 0 ≤ (0 : Int)
        first | omega | rfl | (simp; done) | (subst_vars; simp; done)
      · show (0 : Int) ≤ (a.length : Int)
        first | omega | rfl | (simp; done) | (subst_vars; simp; done)
      · show ∀ j, j < (0 : Int).toNat → a.getD j default = b.getD j default
        intro j hj; simp at hj
    · rintro i hF
      have hF : (0 ≤ i) ∧ (i ≤ (a.length : Int)) ∧ (∀ j, j < i.toNat → a.getD j default = b.getD j default) := hF
      obtain ⟨hf1, hf2, hf3⟩ := hF
      show W Try.prog 26 w0 [] (Code.l (Code.l (Code.r (Code.l (Code.r (Code.r (body Try.f18))))))) _ [(0, av), (1, bv), (5, .int .i64 i)] [H] []
      refine W.seq (by kernel_rfl) ?_
      refine W.seq (by kernel_rfl) ?_
      obtain ⟨p2, hp2⟩ : ∃ zz : Bool, zz = decide (i < n1) := ⟨_, rfl⟩
      refine W.regV (same_ct_r18_4 av bv H n1 i p2) [0, 1] [2, 3] (fun G => [.int .i64 i, av]) (by kernel_rfl) mo_ra (by kernel_rfl) (fun _ _ => by kernel_rfl) ⟨?_, ?_, trivial⟩ (by kernel_rfl) ?_
      · exact One.len (t := 22) (n := n1) (v := fun G => av) (fun _ => ⟨by kernel_rfl⟩) (fun G w hs => ⟨_, (ha).isSl, hn1⟩)
      · exact One.bo hp2 (fun _ _ => by kernel_rfl)
      intro G5 xa xw hDn
      refine hDn.to [0, 1, 5, 14] [] (by kernel_rfl) ?_
      clear hDn
      refine Pre.conv (sl := [(0, av), (1, bv), (5, .int .i64 i), (14, .bool p2)]) (A := [H]) (L := []) ?_ (by kernel_rfl) (by kernel_rfl) (by kernel_rfl)
      clear G5
      refine At.then ?_
      refine W.cond p2 (by kernel_rfl) (fun xa hs => cnd_of (t := 14) (by kernel_rfl) (by kernel_rfl) hs) (fun hq => ?_) (fun hq => ?_)
      · skip
        have hq3 := hq
        replace hq3 := (iN hp2 iDT).1 hq3
        refine W.skip (by kernel_rfl) ?_
        refine At.then ?_
        refine W.seq (by kernel_rfl) ?_
        refine W.block 1 (by kernel_rfl) ?_
        refine W.seq (by kernel_rfl) ?_
        obtain ⟨x1, hx1⟩ : ∃ zz : DThing, zz = a.getD i.toNat default := ⟨_, rfl⟩
        obtain ⟨x2, hx2⟩ : ∃ zz : DThing, zz = b.getD i.toNat default := ⟨_, rfl⟩
        obtain ⟨p3, hp3⟩ : ∃ zz : Bool, zz = !(decide (x1.Text = x2.Text ∧ x1.Value = x2.Value ∧ x1.Blind = x2.Blind ∧ x1.Left = x2.Left ∧ x1.Right = x2.Right)) := ⟨_, rfl⟩
        refine W.regV (same_ct_r18_5 av bv H i p2 x1 x2 p3) [0, 1, 4, 5] [2, 3, 6, 7, 8] (fun G => [av, .int .i64 i, bv, .int .i64 i]) (by kernel_rfl) mo_ra (by kernel_rfl) (fun _ _ => by kernel_rfl) ⟨?_, ?_, ?_, ?_, ?_, trivial⟩ (by kernel_rfl) ?_
        · exact One.index (t := 22) (e := 44) (size := 5) (v := fun G => av) (k := .i64) (n := i) (fun _ => ⟨by kernel_rfl⟩) (fun G w hs => ⟨_, (ha).isSl, by first | omega | (simp only [List.length_append, List.length_cons, List.length_nil, List.length_replicate, List.length_set, List.length_take, List.length_drop, List.length_map, List.length_reverse, List.length_range]; omega), by first | omega | (simp only [List.length_append, List.length_cons, List.length_nil, List.length_replicate, List.length_set, List.length_take, List.length_drop, List.length_map, List.length_reverse, List.length_range]; omega)⟩)
        · exact One.loadD (α := DThing) (t := 44) (size := 5) (off := 0) (k := i) (l := fun G => a) (x := fun G => x1) (vs := fun G => [.string x1.Text, .int .i64 x1.Value, .int .i64 x1.Blind, .int .i64 x1.Left, .int .i64 x1.Right]) (v := fun G => av) (H := fun G => H) (p := fun G => elemAddr av (i.toNat * 5)) (fun G => ⟨by kernel_rfl⟩) rfl (fun G => by kernel_rfl) (fun G w hs => ⟨(hs.read 0 rfl), ha, (add_zero' _).symm, by omega, by first | omega | (simp only [List.length_append, List.length_cons, List.length_nil, List.length_replicate, List.length_set, List.length_take, List.length_drop, List.length_map, List.length_reverse, List.length_range]; omega), hx1⟩)
        · exact One.index (t := 22) (e := 44) (size := 5) (v := fun G => bv) (k := .i64) (n := i) (fun _ => ⟨by kernel_rfl⟩) (fun G w hs => ⟨_, (hb).isSl, by first | omega | (simp only [List.length_append, List.length_cons, List.length_nil, List.length_replicate, List.length_set, List.length_take, List.length_drop, List.length_map, List.length_reverse, List.length_range]; omega), by first | omega | (simp only [List.length_append, List.length_cons, List.length_nil, List.length_replicate, List.length_set, List.length_take, List.length_drop, List.length_map, List.length_reverse, List.length_range]; omega)⟩)
        · exact One.loadD (α := DThing) (t := 44) (size := 5) (off := 0) (k := i) (l := fun G => b) (x := fun G => x2) (vs := fun G => [.string x2.Text, .int .i64 x2.Value, .int .i64 x2.Blind, .int .i64 x2.Left, .int .i64 x2.Right]) (v := fun G => bv) (H := fun G => H) (p := fun G => elemAddr bv (i.toNat * 5)) (fun G => ⟨by kernel_rfl⟩) rfl (fun G => by kernel_rfl) (fun G w hs => ⟨(hs.read 0 rfl), hb, (add_zero' _).symm, by omega, by first | omega | (simp only [List.length_append, List.length_cons, List.length_nil, List.length_replicate, List.length_set, List.length_take, List.length_drop, List.length_map, List.length_reverse, List.length_range]; omega), hx2⟩)
        · exact One.aggEq (neq := true) (t := 44) (xs := #[.string x1.Text, .int .i64 x1.Value, .int .i64 x1.Blind, .int .i64 x1.Left, .int .i64 x1.Right]) (ys := #[.string x2.Text, .int .i64 x2.Value, .int .i64 x2.Blind, .int .i64 x2.Left, .int .i64 x2.Right]) (p := p3) (fun _ => ⟨by kernel_rfl⟩) (by rw [hp3]; first | rfl | simp) (fun w => thing_equal w x1.Text x1.Value x1.Blind x1.Left x1.Right x2.Text x2.Value x2.Blind x2.Left x2.Right)
        intro G6 xa xw hDn
        refine hDn.to [0, 1, 5, 25] [] (by kernel_rfl) ?_
        clear hDn
        refine Pre.conv (sl := [(0, av), (1, bv), (5, .int .i64 i), (25, .bool p3)]) (A := [H]) (L := []) ?_ (by kernel_rfl) (by kernel_rfl) (by kernel_rfl)
        clear G6
        refine At.then ?_
        refine W.cond p3 (by kernel_rfl) (fun xa hs => cnd_of (t := 25) (by kernel_rfl) (by kernel_rfl) hs) (fun hq => ?_) (fun hq => ?_)
        · skip
          have hq4 := hq
          replace hq4 := (iN hp3 (iNT iDF)).1 hq4
          refine W.seq (by kernel_rfl) ?_
          refine W.regV (same_ct_r18_6 av bv H i p3) [0] [] (fun G => [.bool false]) (by kernel_rfl) mo_ra (by kernel_rfl) (fun _ _ => by kernel_rfl) trivial (by kernel_rfl) ?_
          intro G7 xa xw hDn
          refine hDn.to [4] [] (by kernel_rfl) ?_
          clear hDn
          refine Pre.conv (sl := [(4, .bool false)]) (A := [H]) (L := []) ?_ (by kernel_rfl) (by kernel_rfl) (by kernel_rfl)
          clear G7
          refine At.then ?_
          refine W.ret (by kernel_rfl) ?_
          refine At.blockRet ?_
          refine At.thenRet ?_
          refine At.thenRet ?_
          refine At.blockRet ?_
          refine At.thenRet ?_
          refine At.results (Or.inl rfl) (.bool false) (fun xa xw hs hw => results_one (r := .tmp 4) (by kernel_rfl) (res_tmp (t := 4) (by kernel_rfl) hs)) (fun w' hw => ?_)
          have e0 : false = (decide (a = b)) := by
            exact Tm.same_no (k := i) hx1 hx2 (fun e => hq4 ((Tm.thing_ext _ _).1 e))
          exact ⟨congrArg Ending.returned (cong1 (fun (x0 : Bool) => (.bool x0 : Value)) e0), hw.base⟩
        · skip
          have hq5 := hq
          replace hq5 := (iN hp3 (iNF iDT)).1 hq5
          refine W.skip (by kernel_rfl) ?_
          refine At.blockNormal ?_
          refine At.then ?_
          obtain ⟨n3, hn3⟩ : ∃ zz : Int, zz = i + 1 := ⟨_, rfl⟩
          refine W.regV (same_ct_r18_7 av bv H i p3 n3) [0, 2] [1] (fun G => [.int .i64 i, .int .i64 n3]) (by kernel_rfl) mo_ra (by kernel_rfl) (fun _ _ => by kernel_rfl) ⟨?_, trivial⟩ (by kernel_rfl) ?_
          · exact One.ar hn3 (fun _ _ => by kernel_rfl) (fun G w hs => by omega)
          intro G8 xa xw hDn
          refine hDn.to [0, 1, 5] [] (by kernel_rfl) ?_
          clear hDn
          refine Pre.conv (sl := [(0, av), (1, bv), (5, .int .i64 n3)]) (A := [H]) (L := []) ?_ (by kernel_rfl) (by kernel_rfl) (by kernel_rfl)
          clear G8
          intro xa xw hs hw
          refine ⟨n3, ⟨hs.sub (by kernel_rfl), hw.mask [] (by kernel_rfl), ?_⟩, ?_⟩
          · skip
            refine ⟨?_, ?_, ?_⟩
            · show 0 ≤ n3
              first | omega | rfl | (simp; done) | (subst_vars; simp; done)
            · show n3 ≤ (a.length : Int)
              first | omega | rfl | (simp; done) | (subst_vars; simp; done)
            · show ∀ j, j < n3.toNat → a.getD j default = b.getD j default
              exact Tm.same_step hf3 (by omega) (by assumption) hx1 hx2 ((Tm.thing_ext _ _).2 hq5)
          · show ((a.length : Int) - n3).toNat < ((a.length : Int) - i).toNat
            omega
      · skip
        have hq6 := hq
        replace hq6 := (iN hp2 iDF).1 hq6
        refine W.exit 0 (by kernel_rfl) ?_
        refine At.thenExit ?_
        refine At.thenExit ?_
        refine At.blockHit ?_
        refine At.then ?_
        refine W.seq (by kernel_rfl) ?_
        refine W.regV (same_ct_r18_8 av bv H i p2) [0] [] (fun G => [.bool true]) (by kernel_rfl) mo_ra (by kernel_rfl) (fun _ _ => by kernel_rfl) trivial (by kernel_rfl) ?_
        intro G9 xa xw hDn
        refine hDn.to [4] [] (by kernel_rfl) ?_
        clear hDn
        refine Pre.conv (sl := [(4, .bool true)]) (A := [H]) (L := []) ?_ (by kernel_rfl) (by kernel_rfl) (by kernel_rfl)
        clear G9
        refine At.then ?_
        refine W.ret (by kernel_rfl) ?_
        refine At.results (Or.inl rfl) (.bool true) (fun xa xw hs hw => results_one (r := .tmp 4) (by kernel_rfl) (res_tmp (t := 4) (by kernel_rfl) hs)) (fun w' hw => ?_)
        have e0 : true = (decide (a = b)) := by
          exact Tm.same_yes (k := i) hf3 (by omega) (by omega)
        exact ⟨congrArg Ending.returned (cong1 (fun (x0 : Bool) => (.bool x0 : Value)) e0), hw.base⟩

noncomputable def samei_ct_r19_0 (av bv : Value) (H : Heaplet) : RC := { ops := opsAt Try.f19 0, B := [0], sl := [(0, av), (1, bv)], A := [H], L := [], cs := [{ val := fun _ => .bool false }] }
noncomputable def samei_ct_r19_1 (av bv : Value) (H : Heaplet) (n1 n2 : Int) (p1 : Bool) : RC := { ops := opsAt Try.f19 1, B := [0, 1, 0, 4, 15], sl := [(0, av), (1, bv)], A := [H], L := [], cs := [{ val := fun _ => av }, { val := fun _ => .int .i64 n1 }, { val := fun _ => bv }, { val := fun _ => .int .i64 n2 }, { val := fun _ => .bool p1 }] }
noncomputable def samei_ct_r19_2 (av bv : Value) (H : Heaplet) (p1 : Bool) : RC := { ops := opsAt Try.f19 2, B := [0], sl := [(0, av), (1, bv), (10, .bool p1)], A := [H], L := [], cs := [{ val := fun _ => .bool false }] }
noncomputable def samei_ct_r19_3 (av bv : Value) (H : Heaplet) (p1 : Bool) : RC := { ops := opsAt Try.f19 3, B := [0], sl := [(0, av), (1, bv), (10, .bool p1)], A := [H], L := [], cs := [{ val := fun _ => .int .i64 0 }] }
noncomputable def samei_ct_r19_4 (av bv : Value) (H : Heaplet) (n1 i : Int) (p2 : Bool) : RC := { ops := opsAt Try.f19 4, B := [0, 0, 2, 7], sl := [(0, av), (1, bv), (5, .int .i64 i)], A := [H], L := [], cs := [{ val := fun _ => .int .i64 i }, { val := fun _ => av }, { val := fun _ => .int .i64 n1 }, { val := fun _ => .bool p2 }] }
noncomputable def samei_ct_r19_5 (av bv : Value) (H : Heaplet) (i : Int) (p2 : Bool) (n3 n4 : Int) (p3 : Bool) : RC := { ops := opsAt Try.f19 6, B := [0, 0, 3, 7, 0, 0, 48, 112, 255], sl := [(0, av), (1, bv), (5, .int .i64 i), (14, .bool p2)], A := [H], L := [], cs := [{ val := fun _ => av }, { val := fun _ => .int .i64 i }, { val := fun _ => .pointer (some (elemAddr av (i.toNat * 1))) }, { val := fun _ => .int .i64 n3 }, { val := fun _ => bv }, { val := fun _ => .int .i64 i }, { val := fun _ => .pointer (some (elemAddr bv (i.toNat * 1))) }, { val := fun _ => .int .i64 n4 }, { val := fun _ => .bool p3 }] }
noncomputable def samei_ct_r19_6 (av bv : Value) (H : Heaplet) (i : Int) (p3 : Bool) : RC := { ops := opsAt Try.f19 7, B := [0], sl := [(0, av), (1, bv), (5, .int .i64 i), (25, .bool p3)], A := [H], L := [], cs := [{ val := fun _ => .bool false }] }
noncomputable def samei_ct_r19_7 (av bv : Value) (H : Heaplet) (i : Int) (p3 : Bool) (n5 : Int) : RC := { ops := opsAt Try.f19 5, B := [0, 1, 3], sl := [(0, av), (1, bv), (5, .int .i64 i), (25, .bool p3)], A := [H], L := [], cs := [{ val := fun _ => .int .i64 i }, { val := fun _ => .int .i64 n5 }, { val := fun _ => .int .i64 n5 }] }
noncomputable def samei_ct_r19_8 (av bv : Value) (H : Heaplet) (i : Int) (p2 : Bool) : RC := { ops := opsAt Try.f19 8, B := [0], sl := [(0, av), (1, bv), (5, .int .i64 i), (14, .bool p2)], A := [H], L := [], cs := [{ val := fun _ => .bool true }] }
set_option maxRecDepth 10000 in
theorem samei_ct (a : List Int) (av : Value) (b : List Int) (bv : Value) (w0 : World) (H : Heaplet) (hA : Agrees w0 H) (ha : RSl H a av) (hb : RSl H b bv) :
    Calls Try.prog 19 #[av, bv] w0 (fun e w' => e = .returned (.bool ((decide (a = b)))) ∧ Base [] w0 w') := by
  have hE : Ext w0 H H := Ext.refl w0 H
  have han := ha.lim
  have hbn := hb.lim
  refine calls_of_W (sl := [(0, av), (1, bv)]) (A := [H]) (L := []) Try.func19 (by kernel_rfl) 26 (by kernel_rfl) (by kernel_rfl) (fun J hJ => by simp at hJ; subst hJ; exact hA) (by simp) ?_
  refine W.seq (by kernel_rfl) ?_
  refine W.regV (samei_ct_r19_0 av bv H) [0] [] (fun G => [.bool false]) (by kernel_rfl) mo_ra (by kernel_rfl) (fun _ _ => by kernel_rfl) trivial (by kernel_rfl) ?_
  intro G1 xa xw hDn
  refine hDn.to [0, 1] [] (by kernel_rfl) ?_
  clear hDn
  refine Pre.conv (sl := [(0, av), (1, bv)]) (A := [H]) (L := []) ?_ (by kernel_rfl) (by kernel_rfl) (by kernel_rfl)
  clear G1
  refine At.then ?_
  refine W.seq (by kernel_rfl) ?_
  refine W.seq (by kernel_rfl) ?_
  obtain ⟨n1, hn1⟩ : ∃ zz : Int, zz = (a.length : Int) := ⟨_, rfl⟩
  obtain ⟨n2, hn2⟩ : ∃ zz : Int, zz = (b.length : Int) := ⟨_, rfl⟩
  obtain ⟨p1, hp1⟩ : ∃ zz : Bool, zz = !(decide (n1 = n2)) := ⟨_, rfl⟩
  refine W.regV (samei_ct_r19_1 av bv H n1 n2 p1) [0, 2] [1, 3, 4] (fun G => [av, bv]) (by kernel_rfl) mo_ra (by kernel_rfl) (fun _ _ => by kernel_rfl) ⟨?_, ?_, ?_, trivial⟩ (by kernel_rfl) ?_
  · exact One.len (t := 26) (n := n1) (v := fun G => av) (fun _ => ⟨by kernel_rfl⟩) (fun G w hs => ⟨_, (ha).isSl, hn1⟩)
  · exact One.len (t := 26) (n := n2) (v := fun G => bv) (fun _ => ⟨by kernel_rfl⟩) (fun G w hs => ⟨_, (hb).isSl, hn2⟩)
  · exact One.bo hp1 (fun _ _ => by kernel_rfl)
  intro G2 xa xw hDn
  refine hDn.to [0, 1, 10] [] (by kernel_rfl) ?_
  clear hDn
  refine Pre.conv (sl := [(0, av), (1, bv), (10, .bool p1)]) (A := [H]) (L := []) ?_ (by kernel_rfl) (by kernel_rfl) (by kernel_rfl)
  clear G2
  refine At.then ?_
  refine W.cond p1 (by kernel_rfl) (fun xa hs => cnd_of (t := 10) (by kernel_rfl) (by kernel_rfl) hs) (fun hq => ?_) (fun hq => ?_)
  · skip
    have hq1 := hq
    replace hq1 := (iN hp1 (iNT iDF)).1 hq1
    refine W.seq (by kernel_rfl) ?_
    refine W.regV (samei_ct_r19_2 av bv H p1) [0] [] (fun G => [.bool false]) (by kernel_rfl) mo_ra (by kernel_rfl) (fun _ _ => by kernel_rfl) trivial (by kernel_rfl) ?_
    intro G3 xa xw hDn
    refine hDn.to [4] [] (by kernel_rfl) ?_
    clear hDn
    refine Pre.conv (sl := [(4, .bool false)]) (A := [H]) (L := []) ?_ (by kernel_rfl) (by kernel_rfl) (by kernel_rfl)
    clear G3
    refine At.then ?_
    refine W.ret (by kernel_rfl) ?_
    refine At.thenRet ?_
    refine At.results (Or.inl rfl) (.bool false) (fun xa xw hs hw => results_one (r := .tmp 4) (by kernel_rfl) (res_tmp (t := 4) (by kernel_rfl) hs)) (fun w' hw => ?_)
    have e0 : false = (decide (a = b)) := by
      exact Tm.same_no_len (by assumption) (by assumption) hq1
    exact ⟨congrArg Ending.returned (cong1 (fun (x0 : Bool) => (.bool x0 : Value)) e0), hw.base⟩
  · skip
    have hq2 := hq
    replace hq2 := (iN hp1 (iNF iDT)).1 hq2
    refine W.skip (by kernel_rfl) ?_
    refine At.then ?_
    refine W.seq (by kernel_rfl) ?_
    refine W.seq (by kernel_rfl) ?_
    refine W.regV (samei_ct_r19_3 av bv H p1) [0] [] (fun G => [.int .i64 0]) (by kernel_rfl) mo_ra (by kernel_rfl) (fun _ _ => by kernel_rfl) trivial (by kernel_rfl) ?_
    intro G4 xa xw hDn
    refine hDn.to [0, 1, 5] [] (by kernel_rfl) ?_
    clear hDn
    refine Pre.conv (sl := [(0, av), (1, bv), (5, .int .i64 0)]) (A := [H]) (L := []) ?_ (by kernel_rfl) (by kernel_rfl) (by kernel_rfl)
    clear G4
    refine At.then ?_
    refine W.block 0 (by kernel_rfl) ?_
    refine W.loopS (γ := Int) (fun i => [(0, av), (1, bv), (5, .int .i64 i)]) (fun i => [H]) (fun i => []) (fun i => (0 ≤ i) ∧ (i ≤ (a.length : Int)) ∧ (∀ j, j < i.toNat → a.getD j default = b.getD j default)) (fun i => ((a.length : Int) - i).toNat) 0 (by kernel_rfl) ?_ ?_
    · intro xa xw hs hw
      refine ⟨hs.sub (by kernel_rfl), hw.mask [] (by kernel_rfl), ?_⟩
      refine ⟨?_, ?_, ?_⟩
      · show 0 ≤ (0 : Int)
        first | omega | rfl | (simp; done) | (subst_vars; simp; done)
      · show (0 : Int) ≤ (a.length : Int)
        first | omega | rfl | (simp; done) | (subst_vars; simp; done)
      · show ∀ j, j < (0 : Int).toNat → a.getD j default = b.getD j default
        intro j hj; simp at hj
    · rintro i hF
      have hF : (0 ≤ i) ∧ (i ≤ (a.length : Int)) ∧ (∀ j, j < i.toNat → a.getD j default = b.getD j default) := hF
      obtain ⟨hf1, hf2, hf3⟩ := hF
      show W Try.prog 26 w0 [] (Code.l (Code.l (Code.r (Code.l (Code.r (Code.r (body Try.f19))))))) _ [(0, av), (1, bv), (5, .int .i64 i)] [H] []
      refine W.seq (by kernel_rfl) ?_
      refine W.seq (by kernel_rfl) ?_
      obtain ⟨p2, hp2⟩ : ∃ zz : Bool, zz = decide (i < n1) := ⟨_, rfl⟩
      refine W.regV (samei_ct_r19_4 av bv H n1 i p2) [0, 1] [2, 3] (fun G => [.int .i64 i, av]) (by kernel_rfl) mo_ra (by kernel_rfl) (fun _ _ => by kernel_rfl) ⟨?_, ?_, trivial⟩ (by kernel_rfl) ?_
      · exact One.len (t := 26) (n := n1) (v := fun G => av) (fun _ => ⟨by kernel_rfl⟩) (fun G w hs => ⟨_, (ha).isSl, hn1⟩)
      · exact One.bo hp2 (fun _ _ => by kernel_rfl)
      intro G5 xa xw hDn
      refine hDn.to [0, 1, 5, 14] [] (by kernel_rfl) ?_
      clear hDn
      refine Pre.conv (sl := [(0, av), (1, bv), (5, .int .i64 i), (14, .bool p2)]) (A := [H]) (L := []) ?_ (by kernel_rfl) (by kernel_rfl) (by kernel_rfl)
      clear G5
      refine At.then ?_
      refine W.cond p2 (by kernel_rfl) (fun xa hs => cnd_of (t := 14) (by kernel_rfl) (by kernel_rfl) hs) (fun hq => ?_) (fun hq => ?_)
      · skip
        have hq3 := hq
        replace hq3 := (iN hp2 iDT).1 hq3
        refine W.skip (by kernel_rfl) ?_
        refine At.then ?_
        refine W.seq (by kernel_rfl) ?_
        refine W.block 1 (by kernel_rfl) ?_
        refine W.seq (by kernel_rfl) ?_
        obtain ⟨n3, hn3⟩ : ∃ zz : Int, zz = a.getD i.toNat default := ⟨_, rfl⟩
        obtain ⟨n4, hn4⟩ : ∃ zz : Int, zz = b.getD i.toNat default := ⟨_, rfl⟩
        obtain ⟨p3, hp3⟩ : ∃ zz : Bool, zz = !(decide (n3 = n4)) := ⟨_, rfl⟩
        refine W.regV (samei_ct_r19_5 av bv H i p2 n3 n4 p3) [0, 1, 4, 5] [2, 3, 6, 7, 8] (fun G => [av, .int .i64 i, bv, .int .i64 i]) (by kernel_rfl) mo_ra (by kernel_rfl) (fun _ _ => by kernel_rfl) ⟨?_, ?_, ?_, ?_, ?_, trivial⟩ (by kernel_rfl) ?_
        · exact One.index (t := 26) (e := 3) (size := 1) (v := fun G => av) (k := .i64) (n := i) (fun _ => ⟨by kernel_rfl⟩) (fun G w hs => ⟨_, (ha).isSl, by first | omega | (simp only [List.length_append, List.length_cons, List.length_nil, List.length_replicate, List.length_set, List.length_take, List.length_drop, List.length_map, List.length_reverse, List.length_range]; omega), by first | omega | (simp only [List.length_append, List.length_cons, List.length_nil, List.length_replicate, List.length_set, List.length_take, List.length_drop, List.length_map, List.length_reverse, List.length_range]; omega)⟩)
        · exact One.loadD (α := Int) (t := 3) (size := 1) (off := 0) (k := i) (l := fun G => a) (x := fun G => n3) (vs := fun G => [.int .i64 n3]) (v := fun G => av) (H := fun G => H) (p := fun G => elemAddr av (i.toNat * 1)) (fun G => ⟨by kernel_rfl⟩) rfl (fun G => by kernel_rfl) (fun G w hs => ⟨(hs.read 0 rfl), ha, (add_zero' _).symm, by omega, by first | omega | (simp only [List.length_append, List.length_cons, List.length_nil, List.length_replicate, List.length_set, List.length_take, List.length_drop, List.length_map, List.length_reverse, List.length_range]; omega), hn3⟩)
        · exact One.index (t := 26) (e := 3) (size := 1) (v := fun G => bv) (k := .i64) (n := i) (fun _ => ⟨by kernel_rfl⟩) (fun G w hs => ⟨_, (hb).isSl, by first | omega | (simp only [List.length_append, List.length_cons, List.length_nil, List.length_replicate, List.length_set, List.length_take, List.length_drop, List.length_map, List.length_reverse, List.length_range]; omega), by first | omega | (simp only [List.length_append, List.length_cons, List.length_nil, List.length_replicate, List.length_set, List.length_take, List.length_drop, List.length_map, List.length_reverse, List.length_range]; omega)⟩)
        · exact One.loadD (α := Int) (t := 3) (size := 1) (off := 0) (k := i) (l := fun G => b) (x := fun G => n4) (vs := fun G => [.int .i64 n4]) (v := fun G => bv) (H := fun G => H) (p := fun G => elemAddr bv (i.toNat * 1)) (fun G => ⟨by kernel_rfl⟩) rfl (fun G => by kernel_rfl) (fun G w hs => ⟨(hs.read 0 rfl), hb, (add_zero' _).symm, by omega, by first | omega | (simp only [List.length_append, List.length_cons, List.length_nil, List.length_replicate, List.length_set, List.length_take, List.length_drop, List.length_map, List.length_reverse, List.length_range]; omega), hn4⟩)
        · exact One.bo hp3 (fun _ _ => by kernel_rfl)
        intro G6 xa xw hDn
        refine hDn.to [0, 1, 5, 25] [] (by kernel_rfl) ?_
        clear hDn
        refine Pre.conv (sl := [(0, av), (1, bv), (5, .int .i64 i), (25, .bool p3)]) (A := [H]) (L := []) ?_ (by kernel_rfl) (by kernel_rfl) (by kernel_rfl)
        clear G6
        refine At.then ?_
        refine W.cond p3 (by kernel_rfl) (fun xa hs => cnd_of (t := 25) (by kernel_rfl) (by kernel_rfl) hs) (fun hq => ?_) (fun hq => ?_)
        · skip
          have hq4 := hq
          replace hq4 := (iN hp3 (iNT iDF)).1 hq4
          refine W.seq (by kernel_rfl) ?_
          refine W.regV (samei_ct_r19_6 av bv H i p3) [0] [] (fun G => [.bool false]) (by kernel_rfl) mo_ra (by kernel_rfl) (fun _ _ => by kernel_rfl) trivial (by kernel_rfl) ?_
          intro G7 xa xw hDn
          refine hDn.to [4] [] (by kernel_rfl) ?_
          clear hDn
          refine Pre.conv (sl := [(4, .bool false)]) (A := [H]) (L := []) ?_ (by kernel_rfl) (by kernel_rfl) (by kernel_rfl)
          clear G7
          refine At.then ?_
          refine W.ret (by kernel_rfl) ?_
          refine At.blockRet ?_
          refine At.thenRet ?_
          refine At.thenRet ?_
          refine At.blockRet ?_
          refine At.thenRet ?_
          refine At.results (Or.inl rfl) (.bool false) (fun xa xw hs hw => results_one (r := .tmp 4) (by kernel_rfl) (res_tmp (t := 4) (by kernel_rfl) hs)) (fun w' hw => ?_)
          have e0 : false = (decide (a = b)) := by
            exact Tm.same_no (k := i) hn3 hn4 hq4
          exact ⟨congrArg Ending.returned (cong1 (fun (x0 : Bool) => (.bool x0 : Value)) e0), hw.base⟩
        · skip
          have hq5 := hq
          replace hq5 := (iN hp3 (iNF iDT)).1 hq5
          refine W.skip (by kernel_rfl) ?_
          refine At.blockNormal ?_
          refine At.then ?_
          obtain ⟨n5, hn5⟩ : ∃ zz : Int, zz = i + 1 := ⟨_, rfl⟩
          refine W.regV (samei_ct_r19_7 av bv H i p3 n5) [0, 2] [1] (fun G => [.int .i64 i, .int .i64 n5]) (by kernel_rfl) mo_ra (by kernel_rfl) (fun _ _ => by kernel_rfl) ⟨?_, trivial⟩ (by kernel_rfl) ?_
          · exact One.ar hn5 (fun _ _ => by kernel_rfl) (fun G w hs => by omega)
          intro G8 xa xw hDn
          refine hDn.to [0, 1, 5] [] (by kernel_rfl) ?_
          clear hDn
          refine Pre.conv (sl := [(0, av), (1, bv), (5, .int .i64 n5)]) (A := [H]) (L := []) ?_ (by kernel_rfl) (by kernel_rfl) (by kernel_rfl)
          clear G8
          intro xa xw hs hw
          refine ⟨n5, ⟨hs.sub (by kernel_rfl), hw.mask [] (by kernel_rfl), ?_⟩, ?_⟩
          · skip
            refine ⟨?_, ?_, ?_⟩
            · show 0 ≤ n5
              first | omega | rfl | (simp; done) | (subst_vars; simp; done)
            · show n5 ≤ (a.length : Int)
              first | omega | rfl | (simp; done) | (subst_vars; simp; done)
            · show ∀ j, j < n5.toNat → a.getD j default = b.getD j default
              exact Tm.same_step hf3 (by omega) (by assumption) hn3 hn4 hq5
          · show ((a.length : Int) - n5).toNat < ((a.length : Int) - i).toNat
            omega
      · skip
        have hq6 := hq
        replace hq6 := (iN hp2 iDF).1 hq6
        refine W.exit 0 (by kernel_rfl) ?_
        refine At.thenExit ?_
        refine At.thenExit ?_
        refine At.blockHit ?_
        refine At.then ?_
        refine W.seq (by kernel_rfl) ?_
        refine W.regV (samei_ct_r19_8 av bv H i p2) [0] [] (fun G => [.bool true]) (by kernel_rfl) mo_ra (by kernel_rfl) (fun _ _ => by kernel_rfl) trivial (by kernel_rfl) ?_
        intro G9 xa xw hDn
        refine hDn.to [4] [] (by kernel_rfl) ?_
        clear hDn
        refine Pre.conv (sl := [(4, .bool true)]) (A := [H]) (L := []) ?_ (by kernel_rfl) (by kernel_rfl) (by kernel_rfl)
        clear G9
        refine At.then ?_
        refine W.ret (by kernel_rfl) ?_
        refine At.results (Or.inl rfl) (.bool true) (fun xa xw hs hw => results_one (r := .tmp 4) (by kernel_rfl) (res_tmp (t := 4) (by kernel_rfl) hs)) (fun w' hw => ?_)
        have e0 : true = (decide (a = b)) := by
          exact Tm.same_yes (k := i) hf3 (by omega) (by omega)
        exact ⟨congrArg Ending.returned (cong1 (fun (x0 : Bool) => (.bool x0 : Value)) e0), hw.base⟩

noncomputable def fews_ct_r15_0 (textsv : Value) (most : Int) (H : Heaplet) : RC := { ops := opsAt Try.f15 0, B := [0], sl := [(0, textsv), (1, .int .i64 most)], A := [H], L := [], cs := [{ val := fun _ => .bool false }] }
noncomputable def fews_ct_r15_1 (textsv : Value) (most : Int) (H : Heaplet) : RC := { ops := opsAt Try.f15 1, B := [0], sl := [(0, textsv), (1, .int .i64 most)], A := [H], L := [], cs := [{ val := fun _ => .int .i64 0 }] }
noncomputable def fews_ct_r15_2 (textsv : Value) (most : Int) (H : Heaplet) (i n1 : Int) (p1 p2 p3 : Bool) : RC := { ops := opsAt Try.f15 2, B := [0, 0, 2, 7, 15, 31, 31, 127, 255], sl := [(0, textsv), (1, .int .i64 most), (5, .int .i64 i)], A := [H], L := [], cs := [{ val := fun _ => .int .i64 i }, { val := fun _ => textsv }, { val := fun _ => .int .i64 n1 }, { val := fun _ => .bool p1 }, { val := fun _ => .bool p1 }, { val := fun _ => .int .i64 i }, { val := fun _ => .int .i64 most }, { val := fun _ => .bool p2 }, { val := fun _ => .bool p3 }] }
noncomputable def fews_ct_r15_3 (textsv : Value) (most : Int) (H : Heaplet) (i : Int) (p3 : Bool) (s1 : ByteArray) (n2 : Int) (p4 p5 p6 p7 p8 : Bool) : RC := { ops := opsAt Try.f15 4, B := [0, 0, 3, 7, 15, 31, 63, 127, 127, 511, 1023, 2047, 4095, 8191, 16383, 16383, 65535, 131071, 262143, 524287, 1048575, 2097151], sl := [(0, textsv), (1, .int .i64 most), (5, .int .i64 i), (14, .bool p3)], A := [H], L := [], cs := [{ val := fun _ => textsv }, { val := fun _ => .int .i64 i }, { val := fun _ => .pointer (some (elemAddr textsv (i.toNat * 1))) }, { val := fun _ => .string s1 }, { val := fun _ => .int .i64 n2 }, { val := fun _ => .bool p4 }, { val := fun _ => .bool p4 }, { val := fun _ => textsv }, { val := fun _ => .int .i64 i }, { val := fun _ => .pointer (some (elemAddr textsv (i.toNat * 1))) }, { val := fun _ => .string s1 }, { val := fun _ => .int .i64 n2 }, { val := fun _ => .bool p5 }, { val := fun _ => .bool p5 }, { val := fun _ => textsv }, { val := fun _ => .int .i64 i }, { val := fun _ => .pointer (some (elemAddr textsv (i.toNat * 1))) }, { val := fun _ => .string s1 }, { val := fun _ => .int .i64 n2 }, { val := fun _ => .bool p6 }, { val := fun _ => .bool p7 }, { val := fun _ => .bool p8 }] }
noncomputable def fews_ct_r15_4 (textsv : Value) (most : Int) (H : Heaplet) (i : Int) (p8 : Bool) : RC := { ops := opsAt Try.f15 5, B := [0], sl := [(0, textsv), (1, .int .i64 most), (5, .int .i64 i), (38, .bool p8)], A := [H], L := [], cs := [{ val := fun _ => .bool false }] }
noncomputable def fews_ct_r15_5 (textsv : Value) (most : Int) (H : Heaplet) (i : Int) (p8 : Bool) (n3 : Int) : RC := { ops := opsAt Try.f15 3, B := [0, 1, 3], sl := [(0, textsv), (1, .int .i64 most), (5, .int .i64 i), (38, .bool p8)], A := [H], L := [], cs := [{ val := fun _ => .int .i64 i }, { val := fun _ => .int .i64 n3 }, { val := fun _ => .int .i64 n3 }] }
noncomputable def fews_ct_r15_6 (textsv : Value) (most : Int) (H : Heaplet) (i n1 : Int) (p3 p9 : Bool) : RC := { ops := opsAt Try.f15 6, B := [0, 1, 0, 7, 15], sl := [(0, textsv), (1, .int .i64 most), (5, .int .i64 i), (14, .bool p3)], A := [H], L := [], cs := [{ val := fun _ => textsv }, { val := fun _ => .int .i64 n1 }, { val := fun _ => .int .i64 most }, { val := fun _ => .bool p9 }, { val := fun _ => .bool p9 }] }
set_option maxRecDepth 10000 in
theorem fews_ct (texts : List ByteArray) (textsv : Value) (most : Int) (w0 : World) (H : Heaplet) (hA : Agrees w0 H) (htexts : RSl H texts textsv) :
    Calls Try.prog 15 #[textsv, .int .i64 most] w0 (fun e w' => e = .returned (.bool ((decide (Tm.fewS texts most)))) ∧ Base [] w0 w') := by
  have hE : Ext w0 H H := Ext.refl w0 H
  have htextsn := htexts.lim
  refine calls_of_W (sl := [(0, textsv), (1, .int .i64 most)]) (A := [H]) (L := []) Try.func15 (by kernel_rfl) 43 (by kernel_rfl) (by kernel_rfl) (fun J hJ => by simp at hJ; subst hJ; exact hA) (by simp) ?_
  refine W.seq (by kernel_rfl) ?_
  refine W.regV (fews_ct_r15_0 textsv most H) [0] [] (fun G => [.bool false]) (by kernel_rfl) mo_ra (by kernel_rfl) (fun _ _ => by kernel_rfl) trivial (by kernel_rfl) ?_
  intro G1 xa xw hDn
  refine hDn.to [0, 1] [] (by kernel_rfl) ?_
  clear hDn
  refine Pre.conv (sl := [(0, textsv), (1, .int .i64 most)]) (A := [H]) (L := []) ?_ (by kernel_rfl) (by kernel_rfl) (by kernel_rfl)
  clear G1
  refine At.then ?_
  refine W.seq (by kernel_rfl) ?_
  refine W.seq (by kernel_rfl) ?_
  refine W.regV (fews_ct_r15_1 textsv most H) [0] [] (fun G => [.int .i64 0]) (by kernel_rfl) mo_ra (by kernel_rfl) (fun _ _ => by kernel_rfl) trivial (by kernel_rfl) ?_
  intro G2 xa xw hDn
  refine hDn.to [0, 1, 5] [] (by kernel_rfl) ?_
  clear hDn
  refine Pre.conv (sl := [(0, textsv), (1, .int .i64 most), (5, .int .i64 0)]) (A := [H]) (L := []) ?_ (by kernel_rfl) (by kernel_rfl) (by kernel_rfl)
  clear G2
  refine At.then ?_
  refine W.block 0 (by kernel_rfl) ?_
  refine W.loopS (γ := Int) (fun i => [(0, textsv), (1, .int .i64 most), (5, .int .i64 i)]) (fun i => [H]) (fun i => []) (fun i => (0 ≤ i) ∧ (∀ j, j < i.toNat → ¬ Tm.longT (texts.getD j default).size)) (fun i => ((texts.length : Int) - i).toNat) 0 (by kernel_rfl) ?_ ?_
  · intro xa xw hs hw
    refine ⟨hs.sub (by kernel_rfl), hw.mask [] (by kernel_rfl), ?_⟩
    refine ⟨?_, ?_⟩
    · show 0 ≤ (0 : Int)
      first | omega | rfl | (simp; done) | (subst_vars; simp; done)
    · show ∀ j, j < (0 : Int).toNat → ¬ Tm.longT (texts.getD j default).size
      intro j hj; simp at hj
  · rintro i hF
    have hF : (0 ≤ i) ∧ (∀ j, j < i.toNat → ¬ Tm.longT (texts.getD j default).size) := hF
    obtain ⟨hf1, hf2⟩ := hF
    show W Try.prog 43 w0 [] (Code.l (Code.l (Code.r (Code.l (Code.r (body Try.f15)))))) _ [(0, textsv), (1, .int .i64 most), (5, .int .i64 i)] [H] []
    refine W.seq (by kernel_rfl) ?_
    refine W.seq (by kernel_rfl) ?_
    obtain ⟨n1, hn1⟩ : ∃ zz : Int, zz = (texts.length : Int) := ⟨_, rfl⟩
    obtain ⟨p1, hp1⟩ : ∃ zz : Bool, zz = decide (i < n1) := ⟨_, rfl⟩
    obtain ⟨p2, hp2⟩ : ∃ zz : Bool, zz = decide (i ≤ most) := ⟨_, rfl⟩
    obtain ⟨p3, hp3⟩ : ∃ zz : Bool, zz = (p1 && p2) := ⟨_, rfl⟩
    refine W.regV (fews_ct_r15_2 textsv most H i n1 p1 p2 p3) [0, 1, 4, 5, 6] [2, 3, 7, 8] (fun G => [.int .i64 i, textsv, .bool p1, .int .i64 i, .int .i64 most]) (by kernel_rfl) mo_ra (by kernel_rfl) (fun _ _ => by kernel_rfl) ⟨?_, ?_, ?_, ?_, trivial⟩ (by kernel_rfl) ?_
    · exact One.len (t := 25) (n := n1) (v := fun G => textsv) (fun _ => ⟨by kernel_rfl⟩) (fun G w hs => ⟨_, (htexts).isSl, hn1⟩)
    · exact One.bo hp1 (fun _ _ => by kernel_rfl)
    · exact One.bo hp2 (fun _ _ => by kernel_rfl)
    · subst hp3
      cases p1 <;> exact One.under fun _ _ _ => by kernel_rfl
    intro G3 xa xw hDn
    refine hDn.to [0, 1, 5, 14] [] (by kernel_rfl) ?_
    clear hDn
    refine Pre.conv (sl := [(0, textsv), (1, .int .i64 most), (5, .int .i64 i), (14, .bool p3)]) (A := [H]) (L := []) ?_ (by kernel_rfl) (by kernel_rfl) (by kernel_rfl)
    clear G3
    refine At.then ?_
    refine W.cond p3 (by kernel_rfl) (fun xa hs => cnd_of (t := 14) (by kernel_rfl) (by kernel_rfl) hs) (fun hq => ?_) (fun hq => ?_)
    · skip
      have hq1 := hq
      replace hq1 := (iN hp3 (iAT (iN hp1 iDT) (iN hp2 iDT))).1 hq1
      refine W.skip (by kernel_rfl) ?_
      refine At.then ?_
      refine W.seq (by kernel_rfl) ?_
      refine W.block 1 (by kernel_rfl) ?_
      refine W.seq (by kernel_rfl) ?_
      obtain ⟨s1, hs1⟩ : ∃ zz : ByteArray, zz = texts.getD i.toNat default := ⟨_, rfl⟩
      obtain ⟨n2, hn2⟩ : ∃ zz : Int, zz = (s1.size : Int) := ⟨_, rfl⟩
      obtain ⟨p4, hp4⟩ : ∃ zz : Bool, zz = decide (100 < n2) := ⟨_, rfl⟩
      obtain ⟨p5, hp5⟩ : ∃ zz : Bool, zz = decide (n2 ≤ 8000) := ⟨_, rfl⟩
      obtain ⟨p6, hp6⟩ : ∃ zz : Bool, zz = decide (8100 < n2) := ⟨_, rfl⟩
      obtain ⟨p7, hp7⟩ : ∃ zz : Bool, zz = (p5 || p6) := ⟨_, rfl⟩
      obtain ⟨p8, hp8⟩ : ∃ zz : Bool, zz = (p4 && p7) := ⟨_, rfl⟩
      refine W.regV (fews_ct_r15_3 textsv most H i p3 s1 n2 p4 p5 p6 p7 p8) [0, 1, 6, 7, 8, 13, 14, 15] [2, 3, 4, 5, 9, 10, 11, 12, 16, 17, 18, 19, 20, 21] (fun G => [textsv, .int .i64 i, .bool p4, textsv, .int .i64 i, .bool p5, textsv, .int .i64 i]) (by kernel_rfl) mo_ra (by kernel_rfl) (fun _ _ => by kernel_rfl) ⟨?_, ?_, ?_, ?_, ?_, ?_, ?_, ?_, ?_, ?_, ?_, ?_, ?_, ?_, trivial⟩ (by kernel_rfl) ?_
      · exact One.index (t := 25) (e := 9) (size := 1) (v := fun G => textsv) (k := .i64) (n := i) (fun _ => ⟨by kernel_rfl⟩) (fun G w hs => ⟨_, (htexts).isSl, by first | omega | (simp only [List.length_append, List.length_cons, List.length_nil, List.length_replicate, List.length_set, List.length_take, List.length_drop, List.length_map, List.length_reverse, List.length_range]; omega), by first | omega | (simp only [List.length_append, List.length_cons, List.length_nil, List.length_replicate, List.length_set, List.length_take, List.length_drop, List.length_map, List.length_reverse, List.length_range]; omega)⟩)
      · exact One.loadD (α := ByteArray) (t := 9) (size := 1) (off := 0) (k := i) (l := fun G => texts) (x := fun G => s1) (vs := fun G => [.string s1]) (v := fun G => textsv) (H := fun G => H) (p := fun G => elemAddr textsv (i.toNat * 1)) (fun G => ⟨by kernel_rfl⟩) rfl (fun G => by kernel_rfl) (fun G w hs => ⟨(hs.read 0 rfl), htexts, (add_zero' _).symm, by omega, by first | omega | (simp only [List.length_append, List.length_cons, List.length_nil, List.length_replicate, List.length_set, List.length_take, List.length_drop, List.length_map, List.length_reverse, List.length_range]; omega), hs1⟩)
      · exact One.eq (congrArg (Value.int .i64) hn2.symm) (fun _ _ => by kernel_rfl)
      · exact One.bo hp4 (fun _ _ => by kernel_rfl)
      · exact One.index (t := 25) (e := 9) (size := 1) (v := fun G => textsv) (k := .i64) (n := i) (fun _ => ⟨by kernel_rfl⟩) (fun G w hs => by
          have hg := gd_of hs (p := (true && (p4 == true))) (by kernel_rfl)
          have hg0 := (iN hp4 iDT).1 (eqT (andR hg))
          exact ⟨_, (htexts).isSl, by first | omega | (simp only [List.length_append, List.length_cons, List.length_nil, List.length_replicate, List.length_set, List.length_take, List.length_drop, List.length_map, List.length_reverse, List.length_range]; omega), by first | omega | (simp only [List.length_append, List.length_cons, List.length_nil, List.length_replicate, List.length_set, List.length_take, List.length_drop, List.length_map, List.length_reverse, List.length_range]; omega)⟩)
      · exact One.loadD (α := ByteArray) (t := 9) (size := 1) (off := 0) (k := i) (l := fun G => texts) (x := fun G => s1) (vs := fun G => [.string s1]) (v := fun G => textsv) (H := fun G => H) (p := fun G => elemAddr textsv (i.toNat * 1)) (fun G => ⟨by kernel_rfl⟩) rfl (fun G => by kernel_rfl) (fun G w hs => by
          have hg := gd_of hs (p := (true && (p4 == true))) (by kernel_rfl)
          have hg0 := (iN hp4 iDT).1 (eqT (andR hg))
          exact ⟨(hs.read 0 rfl), htexts, (add_zero' _).symm, by omega, by first | omega | (simp only [List.length_append, List.length_cons, List.length_nil, List.length_replicate, List.length_set, List.length_take, List.length_drop, List.length_map, List.length_reverse, List.length_range]; omega), hs1⟩)
      · exact One.eq (congrArg (Value.int .i64) hn2.symm) (fun _ _ => by kernel_rfl)
      · exact One.bo hp5 (fun _ _ => by kernel_rfl)
      · exact One.index (t := 25) (e := 9) (size := 1) (v := fun G => textsv) (k := .i64) (n := i) (fun _ => ⟨by kernel_rfl⟩) (fun G w hs => by
          have hg := gd_of hs (p := ((true && (p4 == true)) && (p5 == false))) (by kernel_rfl)
          have hg0 := (iN hp5 iDF).1 (eqF (andR hg))
          have hg1 := (iN hp4 iDT).1 (eqT (andR (andL hg)))
          exact ⟨_, (htexts).isSl, by first | omega | (simp only [List.length_append, List.length_cons, List.length_nil, List.length_replicate, List.length_set, List.length_take, List.length_drop, List.length_map, List.length_reverse, List.length_range]; omega), by first | omega | (simp only [List.length_append, List.length_cons, List.length_nil, List.length_replicate, List.length_set, List.length_take, List.length_drop, List.length_map, List.length_reverse, List.length_range]; omega)⟩)
      · exact One.loadD (α := ByteArray) (t := 9) (size := 1) (off := 0) (k := i) (l := fun G => texts) (x := fun G => s1) (vs := fun G => [.string s1]) (v := fun G => textsv) (H := fun G => H) (p := fun G => elemAddr textsv (i.toNat * 1)) (fun G => ⟨by kernel_rfl⟩) rfl (fun G => by kernel_rfl) (fun G w hs => by
          have hg := gd_of hs (p := ((true && (p4 == true)) && (p5 == false))) (by kernel_rfl)
          have hg0 := (iN hp5 iDF).1 (eqF (andR hg))
          have hg1 := (iN hp4 iDT).1 (eqT (andR (andL hg)))
          exact ⟨(hs.read 0 rfl), htexts, (add_zero' _).symm, by omega, by first | omega | (simp only [List.length_append, List.length_cons, List.length_nil, List.length_replicate, List.length_set, List.length_take, List.length_drop, List.length_map, List.length_reverse, List.length_range]; omega), hs1⟩)
      · exact One.eq (congrArg (Value.int .i64) hn2.symm) (fun _ _ => by kernel_rfl)
      · exact One.bo hp6 (fun _ _ => by kernel_rfl)
      · subst hp7
        refine One.under fun G w hs => ?_
        revert hs
        cases p5
        · cases p4
          · intro hs; exact absurd hs.gd (by rw [show RC.gd _ _ 20 = false from by kernel_rfl]; decide)
          · intro _; kernel_rfl
        · cases p4
          · intro hs; exact absurd hs.gd (by rw [show RC.gd _ _ 20 = false from by kernel_rfl]; decide)
          · intro _; kernel_rfl
      · subst hp8
        cases p4 <;> exact One.under fun _ _ _ => by kernel_rfl
      intro G4 xa xw hDn
      refine hDn.to [0, 1, 5, 38] [] (by kernel_rfl) ?_
      clear hDn
      refine Pre.conv (sl := [(0, textsv), (1, .int .i64 most), (5, .int .i64 i), (38, .bool p8)]) (A := [H]) (L := []) ?_ (by kernel_rfl) (by kernel_rfl) (by kernel_rfl)
      clear G4
      refine At.then ?_
      refine W.cond p8 (by kernel_rfl) (fun xa hs => cnd_of (t := 38) (by kernel_rfl) (by kernel_rfl) hs) (fun hq => ?_) (fun hq => ?_)
      · skip
        have hq2 := hq
        replace hq2 := (iN hp8 (iAT (iN hp4 iDT) (iN hp7 (iOT (iN hp5 iDT) (iN hp6 iDT))))).1 hq2
        refine W.seq (by kernel_rfl) ?_
        refine W.regV (fews_ct_r15_4 textsv most H i p8) [0] [] (fun G => [.bool false]) (by kernel_rfl) mo_ra (by kernel_rfl) (fun _ _ => by kernel_rfl) trivial (by kernel_rfl) ?_
        intro G5 xa xw hDn
        refine hDn.to [4] [] (by kernel_rfl) ?_
        clear hDn
        refine Pre.conv (sl := [(4, .bool false)]) (A := [H]) (L := []) ?_ (by kernel_rfl) (by kernel_rfl) (by kernel_rfl)
        clear G5
        refine At.then ?_
        refine W.ret (by kernel_rfl) ?_
        refine At.blockRet ?_
        refine At.thenRet ?_
        refine At.thenRet ?_
        refine At.blockRet ?_
        refine At.thenRet ?_
        refine At.results (Or.inl rfl) (.bool false) (fun xa xw hs hw => results_one (r := .tmp 4) (by kernel_rfl) (res_tmp (t := 4) (by kernel_rfl) hs)) (fun w' hw => ?_)
        have e0 : false = (decide (Tm.fewS texts most)) := by
          exact Tm.fewS_no (k := i) (by omega) (by omega) (by omega) (by assumption) (by assumption) (by omega)
        exact ⟨congrArg Ending.returned (cong1 (fun (x0 : Bool) => (.bool x0 : Value)) e0), hw.base⟩
      · skip
        have hq3 := hq
        replace hq3 := (iN hp8 (iAF (iN hp4 iDF) (iN hp7 (iOF (iN hp5 iDF) (iN hp6 iDF))))).1 hq3
        refine W.skip (by kernel_rfl) ?_
        refine At.blockNormal ?_
        refine At.then ?_
        obtain ⟨n3, hn3⟩ : ∃ zz : Int, zz = i + 1 := ⟨_, rfl⟩
        refine W.regV (fews_ct_r15_5 textsv most H i p8 n3) [0, 2] [1] (fun G => [.int .i64 i, .int .i64 n3]) (by kernel_rfl) mo_ra (by kernel_rfl) (fun _ _ => by kernel_rfl) ⟨?_, trivial⟩ (by kernel_rfl) ?_
        · exact One.ar hn3 (fun _ _ => by kernel_rfl) (fun G w hs => by omega)
        intro G6 xa xw hDn
        refine hDn.to [0, 1, 5] [] (by kernel_rfl) ?_
        clear hDn
        refine Pre.conv (sl := [(0, textsv), (1, .int .i64 most), (5, .int .i64 n3)]) (A := [H]) (L := []) ?_ (by kernel_rfl) (by kernel_rfl) (by kernel_rfl)
        clear G6
        intro xa xw hs hw
        refine ⟨n3, ⟨hs.sub (by kernel_rfl), hw.mask [] (by kernel_rfl), ?_⟩, ?_⟩
        · skip
          refine ⟨?_, ?_⟩
          · show 0 ≤ n3
            omega
          · show ∀ j, j < n3.toNat → ¬ Tm.longT (texts.getD j default).size
            exact Tm.fewS_step hf2 (by omega) (by assumption) (by assumption) (by assumption) (by omega)
        · show ((texts.length : Int) - n3).toNat < ((texts.length : Int) - i).toNat
          omega
    · skip
      have hq4 := hq
      replace hq4 := (iN hp3 (iAF (iN hp1 iDF) (iN hp2 iDF))).1 hq4
      refine W.exit 0 (by kernel_rfl) ?_
      refine At.thenExit ?_
      refine At.thenExit ?_
      refine At.blockHit ?_
      refine At.then ?_
      refine W.seq (by kernel_rfl) ?_
      obtain ⟨p9, hp9⟩ : ∃ zz : Bool, zz = decide (n1 ≤ most) := ⟨_, rfl⟩
      refine W.regV (fews_ct_r15_6 textsv most H i n1 p3 p9) [0, 2, 4] [1, 3] (fun G => [textsv, .int .i64 most, .bool p9]) (by kernel_rfl) mo_ra (by kernel_rfl) (fun _ _ => by kernel_rfl) ⟨?_, ?_, trivial⟩ (by kernel_rfl) ?_
      · exact One.len (t := 25) (n := n1) (v := fun G => textsv) (fun _ => ⟨by kernel_rfl⟩) (fun G w hs => ⟨_, (htexts).isSl, hn1⟩)
      · exact One.bo hp9 (fun _ _ => by kernel_rfl)
      intro G7 xa xw hDn
      refine hDn.to [4] [] (by kernel_rfl) ?_
      clear hDn
      refine Pre.conv (sl := [(4, .bool p9)]) (A := [H]) (L := []) ?_ (by kernel_rfl) (by kernel_rfl) (by kernel_rfl)
      clear G7
      refine At.then ?_
      refine W.ret (by kernel_rfl) ?_
      refine At.results (Or.inl rfl) (.bool p9) (fun xa xw hs hw => results_one (r := .tmp 4) (by kernel_rfl) (res_tmp (t := 4) (by kernel_rfl) hs)) (fun w' hw => ?_)
      have e0 : p9 = (decide (Tm.fewS texts most)) := by
        exact Tm.fewS_end (k := i) (n := n1) hf2 (by omega) (by omega) (by assumption) (by assumption)
      exact ⟨congrArg Ending.returned (cong1 (fun (x0 : Bool) => (.bool x0 : Value)) e0), hw.base⟩

end Kb
