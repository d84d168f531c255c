/- The contracts of the vault. -/
import Derived.Test.YtaolgnmpgnamnaaTn
import Derived.Test.YtaolgnmpgnamnaaKg
import Derived.Test.YtaolgnmpgnamnaaKg1
set_option linter.unusedVariables false
set_option linter.unusedSimpArgs false
namespace Kb
open Go Go.Proofs
theorem mo_va : Try.prog.follows .mixedOrders = true := by kernel_rfl
noncomputable def within_ct_r60_0 (n high : Int) : RC := { ops := opsAt Try.f60 0, B := [0], sl := [(0, .int .i64 n), (1, .int .i64 high)], A := [], L := [], cs := [{ val := fun _ => .bool false }] }
noncomputable def within_ct_r60_1 (n high : Int) (p1 p2 p3 : Bool) : RC := { ops := opsAt Try.f60 1, B := [0, 1, 3, 7, 7, 31, 63, 127], sl := [(0, .int .i64 n), (1, .int .i64 high)], A := [], L := [], cs := [{ val := fun _ => .int .i64 n }, { val := fun _ => .bool p1 }, { val := fun _ => .bool p1 }, { val := fun _ => .int .i64 n }, { val := fun _ => .int .i64 high }, { val := fun _ => .bool p2 }, { val := fun _ => .bool p3 }, { val := fun _ => .bool p3 }] }
set_option maxRecDepth 10000 in
theorem within_ct (n high : Int) (w0 : World) :
    Calls Try.prog 60 #[.int .i64 n, .int .i64 high] w0 (fun e w' => e = .returned (.bool ((decide (0 ≤ n ∧ n ≤ high)))) ∧ Base [] w0 w') := by
  refine calls_of_W (sl := [(0, .int .i64 n), (1, .int .i64 high)]) (A := []) (L := []) Try.func60 (by kernel_rfl) 12 (by kernel_rfl) (by kernel_rfl) (fun _ h => by cases h) (by simp) ?_
  refine W.seq (by kernel_rfl) ?_
  refine W.regV (within_ct_r60_0 n high) [0] [] (fun G => [.bool false]) (by kernel_rfl) mo_va (by kernel_rfl) (fun _ _ => by kernel_rfl) trivial (by kernel_rfl) ?_
  intro G1 xa xw hDn
  refine hDn.to [0, 1] [] (by kernel_rfl) ?_
  clear hDn
  refine Pre.conv (sl := [(0, .int .i64 n), (1, .int .i64 high)]) (A := []) (L := []) ?_ (by kernel_rfl) (by kernel_rfl) (by kernel_rfl)
  clear G1
  refine At.then ?_
  refine W.seq (by kernel_rfl) ?_
  obtain ⟨p1, hp1⟩ : ∃ zz : Bool, zz = decide (0 ≤ n) := ⟨_, rfl⟩
  obtain ⟨p2, hp2⟩ : ∃ zz : Bool, zz = decide (n ≤ high) := ⟨_, rfl⟩
  obtain ⟨p3, hp3⟩ : ∃ zz : Bool, zz = (p1 && p2) := ⟨_, rfl⟩
  refine W.regV (within_ct_r60_1 n high p1 p2 p3) [0, 2, 3, 4, 7] [1, 5, 6] (fun G => [.int .i64 n, .bool p1, .int .i64 n, .int .i64 high, .bool p3]) (by kernel_rfl) mo_va (by kernel_rfl) (fun _ _ => by kernel_rfl) ⟨?_, ?_, ?_, trivial⟩ (by kernel_rfl) ?_
  · exact One.bo hp1 (fun _ _ => by kernel_rfl)
  · exact One.bo hp2 (fun _ _ => by kernel_rfl)
  · subst hp3
    cases p1 <;> exact One.under fun _ _ _ => by kernel_rfl
  intro G2 xa xw hDn
  refine hDn.to [4] [] (by kernel_rfl) ?_
  clear hDn
  refine Pre.conv (sl := [(4, .bool p3)]) (A := []) (L := []) ?_ (by kernel_rfl) (by kernel_rfl) (by kernel_rfl)
  clear G2
  refine At.then ?_
  refine W.ret (by kernel_rfl) ?_
  refine At.results (Or.inl rfl) (.bool p3) (fun xa xw hs hw => results_one (r := .tmp 4) (by kernel_rfl) (res_tmp (t := 4) (by kernel_rfl) hs)) (fun w' hw => ?_)
  have e0 : p3 = (decide (0 ≤ n ∧ n ≤ high)) := by
    rw [Bool.eq_iff_iff, (iN hp3 (iAT (iN hp1 iDT) (iN hp2 iDT))), decide_eq_true_iff]
  exact ⟨congrArg Ending.returned (cong1 (fun (x0 : Bool) => (.bool x0 : Value)) e0), hw.base⟩

noncomputable def leaf_ct_r58_0 (x_Text : ByteArray) (x_Value x_Blind x_Left x_Right : Int) : RC := { ops := opsAt Try.f58 0, B := [0, 0], sl := [(0, .agg #[.string x_Text, .int .i64 x_Value, .int .i64 x_Blind, .int .i64 x_Left, .int .i64 x_Right])], A := [], L := [none], cs := [{ val := fun G => .pointer (some ⟨(G 0).b, 0, none⟩), ups := [(0, fun G => some ((G 0).b, .cells #[.string x_Text, .int .i64 x_Value, .int .i64 x_Blind, .int .i64 x_Left, .int .i64 x_Right] 44 (0, 0)))] }, { val := fun _ => .bool false }] }
noncomputable def leaf_ct_r58_1 (x_Text : ByteArray) (x_Value x_Blind x_Left x_Right : Int) (b1 : Nat) (p1 p2 p3 : Bool) : RC := { ops := opsAt Try.f58 1, B := [0, 1, 3, 7, 15, 31, 63, 127, 255], sl := [(1, .pointer (some ⟨b1, 0, none⟩))], A := [], L := [some (b1, .cells #[.string x_Text, .int .i64 x_Value, .int .i64 x_Blind, .int .i64 x_Left, .int .i64 x_Right] 44 (0, 0))], cs := [{ val := fun _ => .pointer (some ⟨b1, 3, none⟩) }, { val := fun _ => .int .i64 x_Left, rds := [0] }, { val := fun _ => .bool p1 }, { val := fun _ => .bool p1 }, { val := fun _ => .pointer (some ⟨b1, 4, none⟩) }, { val := fun _ => .int .i64 x_Right, rds := [0] }, { val := fun _ => .bool p2 }, { val := fun _ => .bool p3 }, { val := fun _ => .bool p3 }] }
noncomputable def leaf_ct_r58_2 (x_Text : ByteArray) (x_Value x_Blind x_Left x_Right : Int) (b1 : Nat) (p3 : Bool) (n1 : Int) (p4 p5 p6 p7 p8 p9 : Bool) : RC := { ops := opsAt Try.f58 2, B := [0, 1, 3, 7, 15, 31, 63, 127, 255, 511, 1023, 2047, 4095, 8191, 16383, 32767, 65535, 131071], sl := [(1, .pointer (some ⟨b1, 0, none⟩)), (3, .bool p3)], A := [], L := [some (b1, .cells #[.string x_Text, .int .i64 x_Value, .int .i64 x_Blind, .int .i64 x_Left, .int .i64 x_Right] 44 (0, 0))], cs := [{ val := fun _ => .bool p3 }, { val := fun _ => .bool p3 }, { val := fun _ => .pointer (some ⟨b1, 0, none⟩) }, { val := fun _ => .string x_Text, rds := [0] }, { val := fun _ => .int .i64 n1 }, { val := fun _ => .bool p4 }, { val := fun _ => .bool p5 }, { val := fun _ => .bool p5 }, { val := fun _ => .pointer (some ⟨b1, 1, none⟩) }, { val := fun _ => .int .i64 x_Value, rds := [0] }, { val := fun _ => .bool p6 }, { val := fun _ => .bool p7 }, { val := fun _ => .bool p7 }, { val := fun _ => .pointer (some ⟨b1, 2, none⟩) }, { val := fun _ => .int .i64 x_Blind, rds := [0] }, { val := fun _ => .bool p8 }, { val := fun _ => .bool p9 }, { val := fun _ => .bool p9 }] }
set_option maxRecDepth 10000 in
theorem leaf_ct (x_Text : ByteArray) (x_Value x_Blind x_Left x_Right : Int) (w0 : World) :
    Calls Try.prog 58 #[.agg #[.string x_Text, .int .i64 x_Value, .int .i64 x_Blind, .int .i64 x_Left, .int .i64 x_Right]] w0 (fun e w' => e = .returned (.bool ((decide (Tm.isLeaf ⟨x_Text, x_Value, x_Blind, x_Left, x_Right⟩)))) ∧ Base [] w0 w') := by
  refine calls_of_W (sl := [(0, .agg #[.string x_Text, .int .i64 x_Value, .int .i64 x_Blind, .int .i64 x_Left, .int .i64 x_Right])]) (A := []) (L := [none]) Try.func58 (by kernel_rfl) 29 (by kernel_rfl) (by kernel_rfl) (fun _ h => by cases h) (by simp) ?_
  refine W.seq (by kernel_rfl) ?_
  refine W.regV (leaf_ct_r58_0 x_Text x_Value x_Blind x_Left x_Right) [1] [0] (fun G => [.bool false]) (by kernel_rfl) mo_va (by kernel_rfl) (fun _ _ => by kernel_rfl) ⟨?_, trivial⟩ (by kernel_rfl) ?_
  · exact One.new (r := 0) (T := 44) (fun b => .pointer (some ⟨b, 0, none⟩)) (arr := fun G => #[.string x_Text, .int .i64 x_Value, .int .i64 x_Blind, .int .i64 x_Left, .int .i64 x_Right]) (fun G w => by kernel_rfl) (fun G b => by kernel_rfl)
  intro G1 xa xw hDn
  refine hDn.to [1] [] (by kernel_rfl) ?_
  clear hDn
  refine Pre.conv (sl := [(1, .pointer (some ⟨(G1 0).b, 0, none⟩))]) (A := []) (L := [some ((G1 0).b, .cells #[.string x_Text, .int .i64 x_Value, .int .i64 x_Blind, .int .i64 x_Left, .int .i64 x_Right] 44 (0, 0))]) ?_ (by kernel_rfl) (by kernel_rfl) (by kernel_rfl)
  generalize (G1 0).b = b1 at ⊢
  clear G1
  refine At.then ?_
  refine W.seq (by kernel_rfl) ?_
  obtain ⟨p1, hp1⟩ : ∃ zz : Bool, zz = decide (x_Left = (-1)) := ⟨_, rfl⟩
  obtain ⟨p2, hp2⟩ : ∃ zz : Bool, zz = decide (x_Right = (-1)) := ⟨_, rfl⟩
  obtain ⟨p3, hp3⟩ : ∃ zz : Bool, zz = (p1 && p2) := ⟨_, rfl⟩
  refine W.regV (leaf_ct_r58_1 x_Text x_Value x_Blind x_Left x_Right b1 p1 p2 p3) [0, 3, 4, 8] [1, 2, 5, 6, 7] (fun G => [.pointer (some ⟨b1, 3, none⟩), .bool p1, .pointer (some ⟨b1, 4, none⟩), .bool p3]) (by kernel_rfl) mo_va (by kernel_rfl) (fun _ _ => by kernel_rfl) ⟨?_, ?_, ?_, ?_, ?_, trivial⟩ (by kernel_rfl) ?_
  · exact One.loadE (t := 3) (r := 0) (off := 3) (b := fun G => b1) (vs := fun G => [.int .i64 x_Left]) (arr := fun G => #[.string x_Text, .int .i64 x_Value, .int .i64 x_Blind, .int .i64 x_Left, .int .i64 x_Right]) (T := 44) (fr := (0, 0)) (fun G => ⟨by kernel_rfl⟩) (fun G => by kernel_rfl)
  · exact One.bo hp1 (fun _ _ => by kernel_rfl)
  · exact One.loadE (t := 3) (r := 0) (off := 4) (b := fun G => b1) (vs := fun G => [.int .i64 x_Right]) (arr := fun G => #[.string x_Text, .int .i64 x_Value, .int .i64 x_Blind, .int .i64 x_Left, .int .i64 x_Right]) (T := 44) (fr := (0, 0)) (fun G => ⟨by kernel_rfl⟩) (fun G => by kernel_rfl)
  · exact One.bo hp2 (fun _ _ => by kernel_rfl)
  · subst hp3
    cases p1 <;> exact One.under fun _ _ _ => by kernel_rfl
  intro G2 xa xw hDn
  refine hDn.to [1, 3] [] (by kernel_rfl) ?_
  clear hDn
  refine Pre.conv (sl := [(1, .pointer (some ⟨b1, 0, none⟩)), (3, .bool p3)]) (A := []) (L := [some (b1, .cells #[.string x_Text, .int .i64 x_Value, .int .i64 x_Blind, .int .i64 x_Left, .int .i64 x_Right] 44 (0, 0))]) ?_ (by kernel_rfl) (by kernel_rfl) (by kernel_rfl)
  clear G2
  refine At.then ?_
  refine W.seq (by kernel_rfl) ?_
  obtain ⟨n1, hn1⟩ : ∃ zz : Int, zz = (x_Text.size : Int) := ⟨_, rfl⟩
  obtain ⟨p4, hp4⟩ : ∃ zz : Bool, zz = decide (n1 ≤ 8000) := ⟨_, rfl⟩
  obtain ⟨p5, hp5⟩ : ∃ zz : Bool, zz = (p3 && p4) := ⟨_, rfl⟩
  obtain ⟨p6, hp6⟩ : ∃ zz : Bool, zz = (decide (0 ≤ x_Value ∧ x_Value ≤ 1099511627776)) := ⟨_, rfl⟩
  obtain ⟨p7, hp7⟩ : ∃ zz : Bool, zz = (p5 && p6) := ⟨_, rfl⟩
  obtain ⟨p8, hp8⟩ : ∃ zz : Bool, zz = (decide (0 ≤ x_Blind ∧ x_Blind ≤ 1099511627776)) := ⟨_, rfl⟩
  obtain ⟨p9, hp9⟩ : ∃ zz : Bool, zz = (p7 && p8) := ⟨_, rfl⟩
  refine W.regV (leaf_ct_r58_2 x_Text x_Value x_Blind x_Left x_Right b1 p3 n1 p4 p5 p6 p7 p8 p9) [0, 1, 2, 7, 8, 12, 13, 17] [3, 4, 5, 6, 9, 10, 11, 14, 15, 16] (fun G => [.bool p3, .bool p3, .pointer (some ⟨b1, 0, none⟩), .bool p5, .pointer (some ⟨b1, 1, none⟩), .bool p7, .pointer (some ⟨b1, 2, none⟩), .bool p9]) (by kernel_rfl) mo_va (by kernel_rfl) (fun _ _ => by kernel_rfl) ⟨?_, ?_, ?_, ?_, ?_, ?_, ?_, ?_, ?_, ?_, trivial⟩ (by kernel_rfl) ?_
  · exact One.loadE (t := 9) (r := 0) (off := 0) (b := fun G => b1) (vs := fun G => [.string x_Text]) (arr := fun G => #[.string x_Text, .int .i64 x_Value, .int .i64 x_Blind, .int .i64 x_Left, .int .i64 x_Right]) (T := 44) (fr := (0, 0)) (fun G => ⟨by kernel_rfl⟩) (fun G => by kernel_rfl)
  · exact One.eq (congrArg (Value.int .i64) hn1.symm) (fun _ _ => by kernel_rfl)
  · exact One.bo hp4 (fun _ _ => by kernel_rfl)
  · subst hp5
    cases p3 <;> exact One.under fun _ _ _ => by kernel_rfl
  · exact One.loadE (t := 3) (r := 0) (off := 1) (b := fun G => b1) (vs := fun G => [.int .i64 x_Value]) (arr := fun G => #[.string x_Text, .int .i64 x_Value, .int .i64 x_Blind, .int .i64 x_Left, .int .i64 x_Right]) (T := 44) (fr := (0, 0)) (fun G => ⟨by kernel_rfl⟩) (fun G => by kernel_rfl)
  · exact One.callP (v := fun G => .bool p6) (f := 60) (args := fun G => #[.int .i64 x_Value, .int .i64 1099511627776]) (fun _ _ => by kernel_rfl) (fun G w hs => by
      have hg := gd_of hs (p := (true && (p5 == true))) (by kernel_rfl)
      have hg0 := (iN hp5 (iAT (iN hp3 (iAT (iN hp1 iDT) (iN hp2 iDT))) (iN hp4 iDT))).1 (eqT (andR hg))
      rw [hp6]
      exact within_ct x_Value 1099511627776 w )
  · subst hp7
    cases p5 <;> exact One.under fun _ _ _ => by kernel_rfl
  · exact One.loadE (t := 3) (r := 0) (off := 2) (b := fun G => b1) (vs := fun G => [.int .i64 x_Blind]) (arr := fun G => #[.string x_Text, .int .i64 x_Value, .int .i64 x_Blind, .int .i64 x_Left, .int .i64 x_Right]) (T := 44) (fr := (0, 0)) (fun G => ⟨by kernel_rfl⟩) (fun G => by kernel_rfl)
  · exact One.callP (v := fun G => .bool p8) (f := 60) (args := fun G => #[.int .i64 x_Blind, .int .i64 1099511627776]) (fun _ _ => by kernel_rfl) (fun G w hs => by
      have hg := gd_of hs (p := (true && (p7 == true))) (by kernel_rfl)
      have hg0 := (iN hp7 (iAT (iN hp5 (iAT (iN hp3 (iAT (iN hp1 iDT) (iN hp2 iDT))) (iN hp4 iDT))) (iN hp6 iDT))).1 (eqT (andR hg))
      rw [hp8]
      exact within_ct x_Blind 1099511627776 w )
  · subst hp9
    cases p7 <;> exact One.under fun _ _ _ => by kernel_rfl
  intro G3 xa xw hDn
  refine hDn.to [2] [] (by kernel_rfl) ?_
  clear hDn
  refine Pre.conv (sl := [(2, .bool p9)]) (A := []) (L := [some (b1, .cells #[.string x_Text, .int .i64 x_Value, .int .i64 x_Blind, .int .i64 x_Left, .int .i64 x_Right] 44 (0, 0))]) ?_ (by kernel_rfl) (by kernel_rfl) (by kernel_rfl)
  clear G3
  refine At.then ?_
  refine W.ret (by kernel_rfl) ?_
  refine At.results (Or.inl rfl) (.bool p9) (fun xa xw hs hw => results_one (r := .tmp 2) (by kernel_rfl) (res_tmp (t := 2) (by kernel_rfl) hs)) (fun w' hw => ?_)
  have e0 : p9 = (decide (Tm.isLeaf ⟨x_Text, x_Value, x_Blind, x_Left, x_Right⟩)) := by
    rw [Bool.eq_iff_iff, (iN hp9 (iAT (iN hp7 (iAT (iN hp5 (iAT (iN hp3 (iAT (iN hp1 iDT) (iN hp2 iDT))) (iN hp4 iDT))) (iN hp6 iDT))) (iN hp8 iDT))), decide_eq_true_iff]
    simp only [Tm.isLeaf]
    omega
  exact ⟨congrArg Ending.returned (cong1 (fun (x0 : Bool) => (.bool x0 : Value)) e0), hw.base⟩

noncomputable def pair_ct_r59_0 (lv : Value) (left right : Int) (H : Heaplet) : RC := { ops := opsAt Try.f59 0, B := [0, 0], sl := [(0, lv), (1, .int .i64 left), (2, .int .i64 right)], A := [H], L := [none, none, none, none], cs := [{ val := fun G => .pointer (some ⟨(G 0).b, 0, none⟩), ups := [(0, fun G => some ((G 0).b, .cells #[.string ByteArray.empty, .int .i64 0, .int .i64 0, .int .i64 0, .int .i64 0] 44 (0, 0)))] }, { val := fun _ => .int .i64 0 }] }
noncomputable def pair_ct_r59_1 (lv : Value) (left right : Int) (H : Heaplet) (b1 : Nat) (n1 n2 : Int) (p1 p2 p3 : Bool) : RC := { ops := opsAt Try.f59 1, B := [0, 0, 2, 6, 15, 31, 63, 127, 127, 383, 895, 2047, 4095, 8191], sl := [(0, lv), (1, .int .i64 left), (2, .int .i64 right), (6, .pointer (some ⟨b1, 0, none⟩))], A := [H], L := [some (b1, .cells #[.string ByteArray.empty, .int .i64 0, .int .i64 0, .int .i64 0, .int .i64 0] 44 (0, 0)), none, none, none], cs := [{ val := fun _ => .int .i64 left }, { val := fun _ => lv }, { val := fun _ => .int .i64 n1 }, { val := fun _ => .int .i64 n2 }, { val := fun _ => .bool p1 }, { val := fun _ => .bool (!p1) }, { val := fun _ => .bool (!p1) }, { val := fun _ => .int .i64 right }, { val := fun _ => lv }, { val := fun _ => .int .i64 n1 }, { val := fun _ => .int .i64 n2 }, { val := fun _ => .bool p2 }, { val := fun _ => .bool (!p2) }, { val := fun _ => .bool p3 }] }
noncomputable def pair_ct_r59_2 (lv : Value) (left right : Int) (H : Heaplet) (b1 : Nat) (p3 : Bool) : RC := { ops := opsAt Try.f59 2, B := [0, 1, 3], sl := [(0, lv), (1, .int .i64 left), (2, .int .i64 right), (6, .pointer (some ⟨b1, 0, none⟩)), (24, .bool p3)], A := [H], L := [some (b1, .cells #[.string ByteArray.empty, .int .i64 0, .int .i64 0, .int .i64 0, .int .i64 0] 44 (0, 0)), none, none, none], cs := [{ val := fun _ => .agg #[.string ByteArray.empty, .int .i64 0, .int .i64 0, .int .i64 0, .int .i64 0] }, { val := fun _ => undef, ups := [(0, fun _ => some (b1, .cells #[.string ByteArray.empty, .int .i64 0, .int .i64 0, .int .i64 0, .int .i64 0] 44 (0, 0)))] }, { val := fun _ => .int .i64 4 }] }
noncomputable def pair_ct_r59_3 (lv : Value) (left right : Int) (H : Heaplet) (b1 : Nat) (p3 : Bool) (x1 x2 : DThing) : RC := { ops := opsAt Try.f59 3, B := [0, 0, 3, 7, 0, 0, 48, 112, 0, 0, 783, 2047], sl := [(0, lv), (1, .int .i64 left), (2, .int .i64 right), (6, .pointer (some ⟨b1, 0, none⟩)), (24, .bool p3)], A := [H], L := [some (b1, .cells #[.string ByteArray.empty, .int .i64 0, .int .i64 0, .int .i64 0, .int .i64 0] 44 (0, 0)), none, none, none], cs := [{ val := fun _ => lv }, { val := fun _ => .int .i64 left }, { val := fun _ => .pointer (some (elemAddr lv (left.toNat * 5))) }, { val := fun _ => .agg #[.string x1.Text, .int .i64 x1.Value, .int .i64 x1.Blind, .int .i64 x1.Left, .int .i64 x1.Right] }, { val := fun _ => lv }, { val := fun _ => .int .i64 right }, { val := fun _ => .pointer (some (elemAddr lv (right.toNat * 5))) }, { val := fun _ => .agg #[.string x2.Text, .int .i64 x2.Value, .int .i64 x2.Blind, .int .i64 x2.Left, .int .i64 x2.Right] }, { val := fun G => .pointer (some ⟨(G 8).b, 0, none⟩), ups := [(1, fun G => some ((G 8).b, .cells #[.string ByteArray.empty, .int .i64 0, .int .i64 0, .int .i64 0, .int .i64 0] 44 (0, 0)))] }, { val := fun G => .pointer (some ⟨(G 9).b, 0, none⟩), ups := [(2, fun G => some ((G 9).b, .cells #[.string ByteArray.empty, .int .i64 0, .int .i64 0, .int .i64 0, .int .i64 0] 44 (0, 0)))] }, { val := fun _ => undef, ups := [(1, fun G => some ((G 8).b, .cells #[.string x1.Text, .int .i64 x1.Value, .int .i64 x1.Blind, .int .i64 x1.Left, .int .i64 x1.Right] 44 (0, 0)))] }, { val := fun _ => undef, ups := [(2, fun G => some ((G 9).b, .cells #[.string x2.Text, .int .i64 x2.Value, .int .i64 x2.Blind, .int .i64 x2.Left, .int .i64 x2.Right] 44 (0, 0)))] }] }
noncomputable def pair_ct_r59_4 (left right : Int) (H : Heaplet) (b1 : Nat) (x1 x2 : DThing) (b2 b3 : Nat) (n3 n4 : Int) : RC := { ops := opsAt Try.f59 4, B := [0, 1, 0, 4, 15, 0, 32, 0, 128, 480, 0, 0, 4095, 0, 16383], sl := [(1, .int .i64 left), (2, .int .i64 right), (6, .pointer (some ⟨b1, 0, none⟩)), (8, .pointer (some ⟨b2, 0, none⟩)), (9, .pointer (some ⟨b3, 0, none⟩))], A := [H], L := [some (b1, .cells #[.string ByteArray.empty, .int .i64 0, .int .i64 0, .int .i64 0, .int .i64 0] 44 (0, 0)), some (b2, .cells #[.string x1.Text, .int .i64 x1.Value, .int .i64 x1.Blind, .int .i64 x1.Left, .int .i64 x1.Right] 44 (0, 0)), some (b3, .cells #[.string x2.Text, .int .i64 x2.Value, .int .i64 x2.Blind, .int .i64 x2.Left, .int .i64 x2.Right] 44 (0, 0)), none], cs := [{ val := fun _ => .pointer (some ⟨b2, 1, none⟩) }, { val := fun _ => .int .i64 x1.Value, rds := [1] }, { val := fun _ => .pointer (some ⟨b3, 1, none⟩) }, { val := fun _ => .int .i64 x2.Value, rds := [2] }, { val := fun _ => .int .i64 n3 }, { val := fun _ => .pointer (some ⟨b2, 2, none⟩) }, { val := fun _ => .int .i64 x1.Blind, rds := [1] }, { val := fun _ => .pointer (some ⟨b3, 2, none⟩) }, { val := fun _ => .int .i64 x2.Blind, rds := [2] }, { val := fun _ => .int .i64 n4 }, { val := fun _ => .int .i64 left }, { val := fun _ => .int .i64 right }, { val := fun _ => .agg #[.string ByteArray.empty, .int .i64 n3, .int .i64 n4, .int .i64 left, .int .i64 right] }, { val := fun G => .pointer (some ⟨(G 13).b, 0, none⟩), ups := [(3, fun G => some ((G 13).b, .cells #[.string ByteArray.empty, .int .i64 0, .int .i64 0, .int .i64 0, .int .i64 0] 44 (0, 0)))] }, { val := fun _ => undef, ups := [(3, fun G => some ((G 13).b, .cells #[.string ByteArray.empty, .int .i64 n3, .int .i64 n4, .int .i64 left, .int .i64 right] 44 (0, 0)))] }] }
noncomputable def pair_ct_r59_5 (left right : Int) (H : Heaplet) (b1 : Nat) (x1 x2 : DThing) (b2 b3 : Nat) (n3 n4 : Int) (b4 : Nat) (p4 p5 p6 : Bool) : RC := { ops := opsAt Try.f59 5, B := [0, 1, 3, 7, 15, 31, 63, 127], sl := [(6, .pointer (some ⟨b1, 0, none⟩)), (10, .pointer (some ⟨b4, 0, none⟩))], A := [H], L := [some (b1, .cells #[.string ByteArray.empty, .int .i64 0, .int .i64 0, .int .i64 0, .int .i64 0] 44 (0, 0)), some (b2, .cells #[.string x1.Text, .int .i64 x1.Value, .int .i64 x1.Blind, .int .i64 x1.Left, .int .i64 x1.Right] 44 (0, 0)), some (b3, .cells #[.string x2.Text, .int .i64 x2.Value, .int .i64 x2.Blind, .int .i64 x2.Left, .int .i64 x2.Right] 44 (0, 0)), some (b4, .cells #[.string ByteArray.empty, .int .i64 n3, .int .i64 n4, .int .i64 left, .int .i64 right] 44 (0, 0))], cs := [{ val := fun _ => .pointer (some ⟨b4, 1, none⟩) }, { val := fun _ => .int .i64 n3, rds := [3] }, { val := fun _ => .bool p4 }, { val := fun _ => .bool p4 }, { val := fun _ => .pointer (some ⟨b4, 2, none⟩) }, { val := fun _ => .int .i64 n4, rds := [3] }, { val := fun _ => .bool p5 }, { val := fun _ => .bool p6 }] }
noncomputable def pair_ct_r59_6 (left right : Int) (H : Heaplet) (b1 : Nat) (x1 x2 : DThing) (b2 b3 : Nat) (n3 n4 : Int) (b4 : Nat) (p6 : Bool) : RC := { ops := opsAt Try.f59 6, B := [0, 1, 3], sl := [(6, .pointer (some ⟨b1, 0, none⟩)), (10, .pointer (some ⟨b4, 0, none⟩)), (54, .bool p6)], A := [H], L := [some (b1, .cells #[.string ByteArray.empty, .int .i64 0, .int .i64 0, .int .i64 0, .int .i64 0] 44 (0, 0)), some (b2, .cells #[.string x1.Text, .int .i64 x1.Value, .int .i64 x1.Blind, .int .i64 x1.Left, .int .i64 x1.Right] 44 (0, 0)), some (b3, .cells #[.string x2.Text, .int .i64 x2.Value, .int .i64 x2.Blind, .int .i64 x2.Left, .int .i64 x2.Right] 44 (0, 0)), some (b4, .cells #[.string ByteArray.empty, .int .i64 n3, .int .i64 n4, .int .i64 left, .int .i64 right] 44 (0, 0))], cs := [{ val := fun _ => .agg #[.string ByteArray.empty, .int .i64 0, .int .i64 0, .int .i64 0, .int .i64 0] }, { val := fun _ => undef, ups := [(0, fun _ => some (b1, .cells #[.string ByteArray.empty, .int .i64 0, .int .i64 0, .int .i64 0, .int .i64 0] 44 (0, 0)))] }, { val := fun _ => .int .i64 3 }] }
noncomputable def pair_ct_r59_7 (left right : Int) (H : Heaplet) (b1 : Nat) (x1 x2 : DThing) (b2 b3 : Nat) (n3 n4 : Int) (b4 : Nat) (p6 : Bool) : RC := { ops := opsAt Try.f59 7, B := [0, 1, 3], sl := [(6, .pointer (some ⟨b1, 0, none⟩)), (10, .pointer (some ⟨b4, 0, none⟩)), (54, .bool p6)], A := [H], L := [some (b1, .cells #[.string ByteArray.empty, .int .i64 0, .int .i64 0, .int .i64 0, .int .i64 0] 44 (0, 0)), some (b2, .cells #[.string x1.Text, .int .i64 x1.Value, .int .i64 x1.Blind, .int .i64 x1.Left, .int .i64 x1.Right] 44 (0, 0)), some (b3, .cells #[.string x2.Text, .int .i64 x2.Value, .int .i64 x2.Blind, .int .i64 x2.Left, .int .i64 x2.Right] 44 (0, 0)), some (b4, .cells #[.string ByteArray.empty, .int .i64 n3, .int .i64 n4, .int .i64 left, .int .i64 right] 44 (0, 0))], cs := [{ val := fun _ => .agg #[.string ByteArray.empty, .int .i64 n3, .int .i64 n4, .int .i64 left, .int .i64 right], rds := [3] }, { val := fun _ => undef, ups := [(0, fun _ => some (b1, .cells #[.string ByteArray.empty, .int .i64 n3, .int .i64 n4, .int .i64 left, .int .i64 right] 44 (0, 0)))] }, { val := fun _ => .int .i64 0 }] }
set_option maxRecDepth 10000 in
theorem pair_ct (l : List DThing) (lv : Value) (left right : Int) (w0 : World) (H : Heaplet) (hA : Agrees w0 H) (hl_ : RSl H l lv) (hbd : ∀ x ∈ l, Tm.Bd x) :
    Calls Try.prog 59 #[lv, .int .i64 left, .int .i64 right] w0 (fun e w' => e = .returned (.tuple #[.agg #[.string ((Tm.pairT l left right).Text), .int .i64 ((Tm.pairT l left right).Value), .int .i64 ((Tm.pairT l left right).Blind), .int .i64 ((Tm.pairT l left right).Left), .int .i64 ((Tm.pairT l left right).Right)], .int .i64 ((Tm.pairE l left right))]) ∧ Base [] w0 w') := by
  have hE : Ext w0 H H := Ext.refl w0 H
  have hl_n := hl_.lim
  refine calls_of_W (sl := [(0, lv), (1, .int .i64 left), (2, .int .i64 right)]) (A := [H]) (L := [none, none, none, none]) Try.func59 (by kernel_rfl) 57 (by kernel_rfl) (by kernel_rfl) (fun J hJ => by simp at hJ; subst hJ; exact hA) (by simp) ?_
  refine W.seq (by kernel_rfl) ?_
  refine W.regV (pair_ct_r59_0 lv left right H) [1] [0] (fun G => [.int .i64 0]) (by kernel_rfl) mo_va (by kernel_rfl) (fun _ _ => by kernel_rfl) ⟨?_, trivial⟩ (by kernel_rfl) ?_
  · exact One.new (r := 0) (T := 44) (fun b => .pointer (some ⟨b, 0, none⟩)) (arr := fun G => #[.string ByteArray.empty, .int .i64 0, .int .i64 0, .int .i64 0, .int .i64 0]) (fun G w => by kernel_rfl) (fun G b => by kernel_rfl)
  intro G1 xa xw hDn
  refine hDn.to [0, 1, 2, 6] [] (by kernel_rfl) ?_
  clear hDn
  refine Pre.conv (sl := [(0, lv), (1, .int .i64 left), (2, .int .i64 right), (6, .pointer (some ⟨(G1 0).b, 0, none⟩))]) (A := [H]) (L := [some ((G1 0).b, .cells #[.string ByteArray.empty, .int .i64 0, .int .i64 0, .int .i64 0, .int .i64 0] 44 (0, 0)), none, none, none]) ?_ (by kernel_rfl) (by kernel_rfl) (by kernel_rfl)
  generalize (G1 0).b = b1 at ⊢
  clear G1
  refine At.then ?_
  refine W.seq (by kernel_rfl) ?_
  refine W.seq (by kernel_rfl) ?_
  obtain ⟨n1, hn1⟩ : ∃ zz : Int, zz = (l.length : Int) := ⟨_, rfl⟩
  obtain ⟨n2, hn2⟩ : ∃ zz : Int, zz = n1 - 1 := ⟨_, rfl⟩
  obtain ⟨p1, hp1⟩ : ∃ zz : Bool, zz = (decide (0 ≤ left ∧ left ≤ n2)) := ⟨_, rfl⟩
  obtain ⟨p2, hp2⟩ : ∃ zz : Bool, zz = (decide (0 ≤ right ∧ right ≤ n2)) := ⟨_, rfl⟩
  obtain ⟨p3, hp3⟩ : ∃ zz : Bool, zz = (!p1 || !p2) := ⟨_, rfl⟩
  refine W.regV (pair_ct_r59_1 lv left right H b1 n1 n2 p1 p2 p3) [0, 1, 5, 6, 7, 8, 12] [2, 3, 4, 9, 10, 11, 13] (fun G => [.int .i64 left, lv, .bool (!p1), .bool (!p1), .int .i64 right, lv, .bool (!p2)]) (by kernel_rfl) mo_va (by kernel_rfl) (fun _ _ => by kernel_rfl) ⟨?_, ?_, ?_, ?_, ?_, ?_, ?_, trivial⟩ (by kernel_rfl) ?_
  · exact One.len (t := 22) (n := n1) (v := fun G => lv) (fun _ => ⟨by kernel_rfl⟩) (fun G w hs => ⟨_, (hl_).isSl, hn1⟩)
  · exact One.ar hn2 (fun _ _ => by kernel_rfl) (fun G w hs => by omega)
  · exact One.callP (v := fun G => .bool p1) (f := 60) (args := fun G => #[.int .i64 left, .int .i64 n2]) (fun _ _ => by kernel_rfl) (fun G w hs => by
      rw [hp1]
      exact within_ct left n2 w )
  · exact One.len (t := 22) (n := n1) (v := fun G => lv) (fun _ => ⟨by kernel_rfl⟩) (fun G w hs => by
      have hg := gd_of hs (p := (true && ((!p1) == false))) (by kernel_rfl)
      have hg0 := (iNF (iN hp1 iDT)).1 (eqF (andR hg))
      exact ⟨_, (hl_).isSl, hn1⟩)
  · exact One.ar hn2 (fun _ _ => by kernel_rfl) (fun G w hs => by
      have hg := gd_of hs (p := (true && ((!p1) == false))) (by kernel_rfl)
      have hg0 := (iNF (iN hp1 iDT)).1 (eqF (andR hg))
      exact by omega)
  · exact One.callP (v := fun G => .bool p2) (f := 60) (args := fun G => #[.int .i64 right, .int .i64 n2]) (fun _ _ => by kernel_rfl) (fun G w hs => by
      have hg := gd_of hs (p := (true && ((!p1) == false))) (by kernel_rfl)
      have hg0 := (iNF (iN hp1 iDT)).1 (eqF (andR hg))
      rw [hp2]
      exact within_ct right n2 w )
  · subst hp3
    cases p1 <;> exact One.under fun _ _ _ => by kernel_rfl
  intro G2 xa xw hDn
  refine hDn.to [0, 1, 2, 6, 24] [] (by kernel_rfl) ?_
  clear hDn
  refine Pre.conv (sl := [(0, lv), (1, .int .i64 left), (2, .int .i64 right), (6, .pointer (some ⟨b1, 0, none⟩)), (24, .bool p3)]) (A := [H]) (L := [some (b1, .cells #[.string ByteArray.empty, .int .i64 0, .int .i64 0, .int .i64 0, .int .i64 0] 44 (0, 0)), none, none, none]) ?_ (by kernel_rfl) (by kernel_rfl) (by kernel_rfl)
  clear G2
  refine At.then ?_
  refine W.cond p3 (by kernel_rfl) (fun xa hs => cnd_of (t := 24) (by kernel_rfl) (by kernel_rfl) hs) (fun hq => ?_) (fun hq => ?_)
  · skip
    have hq1 := hq
    replace hq1 := (iN hp3 (iOT (iNT (iN hp1 iDF)) (iNT (iN hp2 iDF)))).1 hq1
    refine W.seq (by kernel_rfl) ?_
    refine W.regV (pair_ct_r59_2 lv left right H b1 p3) [0, 2] [1] (fun G => [.agg #[.string ByteArray.empty, .int .i64 0, .int .i64 0, .int .i64 0, .int .i64 0], .int .i64 4]) (by kernel_rfl) mo_va (by kernel_rfl) (fun _ _ => by kernel_rfl) ⟨?_, trivial⟩ (by kernel_rfl) ?_
    · exact One.store (t := 44) (r := 0) (off := 0) (T := 44) (b := fun G => b1) (u := fun G => .agg #[.string ByteArray.empty, .int .i64 0, .int .i64 0, .int .i64 0, .int .i64 0]) (vs := fun G => [.string ByteArray.empty, .int .i64 0, .int .i64 0, .int .i64 0, .int .i64 0]) (arr := fun G => #[.string ByteArray.empty, .int .i64 0, .int .i64 0, .int .i64 0, .int .i64 0]) (fun G => ⟨by kernel_rfl⟩) (fun G => by kernel_rfl)
    intro G3 xa xw hDn
    refine hDn.to [6, 7] [] (by kernel_rfl) ?_
    clear hDn
    refine Pre.conv (sl := [(6, .pointer (some ⟨b1, 0, none⟩)), (7, .int .i64 4)]) (A := [H]) (L := [some (b1, .cells #[.string ByteArray.empty, .int .i64 0, .int .i64 0, .int .i64 0, .int .i64 0] 44 (0, 0)), none, none, none]) ?_ (by kernel_rfl) (by kernel_rfl) (by kernel_rfl)
    clear G3
    refine At.then ?_
    refine W.ret (by kernel_rfl) ?_
    refine At.thenRet ?_
    have hp := Tm.pairE_no (l := l) (a := left) (b := right) (by unfold Tm.has; omega)
    have hT := Tm.pairT_no (l := l) (a := left) (b := right) (by omega)
    refine At.results (Or.inl rfl) (.tuple #[.agg #[.string ByteArray.empty, .int .i64 0, .int .i64 0, .int .i64 0, .int .i64 0], .int .i64 4]) (fun xa xw hs hw => results_many (rs := [.cell 6 44, .tmp 7]) (vs := [.agg #[.string ByteArray.empty, .int .i64 0, .int .i64 0, .int .i64 0, .int .i64 0], .int .i64 4]) (by kernel_rfl) (by simp) ⟨res_cell (ty := 44) (r := 0) (b := b1) (off := 0) (arr := #[.string ByteArray.empty, .int .i64 0, .int .i64 0, .int .i64 0, .int .i64 0]) (T := 44) (vs := [.string ByteArray.empty, .int .i64 0, .int .i64 0, .int .i64 0, .int .i64 0]) hs hw (by kernel_rfl), res_tmp (t := 7) (by kernel_rfl) hs, trivial⟩) (fun w' hw => ?_)
    have e0 : ByteArray.empty = (Tm.pairT l left right).Text := by
      first | rw [hT] | exact hp.symm
    have e1 : 0 = (Tm.pairT l left right).Value := by
      first | rw [hT] | exact hp.symm
    have e2 : 0 = (Tm.pairT l left right).Blind := by
      first | rw [hT] | exact hp.symm
    have e3 : 0 = (Tm.pairT l left right).Left := by
      first | rw [hT] | exact hp.symm
    have e4 : 0 = (Tm.pairT l left right).Right := by
      first | rw [hT] | exact hp.symm
    have e5 : 4 = (Tm.pairE l left right) := by
      first | rw [hT] | exact hp.symm
    exact ⟨congrArg Ending.returned (cong6 (fun (x0 : ByteArray) (x1 : Int) (x2 : Int) (x3 : Int) (x4 : Int) (x5 : Int) => (.tuple #[.agg #[.string x0, .int .i64 x1, .int .i64 x2, .int .i64 x3, .int .i64 x4], .int .i64 x5] : Value)) e0 e1 e2 e3 e4 e5), hw.base⟩
  · skip
    have hq2 := hq
    replace hq2 := (iN hp3 (iOF (iNF (iN hp1 iDT)) (iNF (iN hp2 iDT)))).1 hq2
    refine W.skip (by kernel_rfl) ?_
    refine At.then ?_
    refine W.seq (by kernel_rfl) ?_
    obtain ⟨x1, hx1⟩ : ∃ zz : DThing, zz = l.getD left.toNat default := ⟨_, rfl⟩
    obtain ⟨x2, hx2⟩ : ∃ zz : DThing, zz = l.getD right.toNat default := ⟨_, rfl⟩
    refine W.regV (pair_ct_r59_3 lv left right H b1 p3 x1 x2) [0, 1, 4, 5] [2, 3, 6, 7, 8, 9, 10, 11] (fun G => [lv, .int .i64 left, lv, .int .i64 right]) (by kernel_rfl) mo_va (by kernel_rfl) (fun _ _ => by kernel_rfl) ⟨?_, ?_, ?_, ?_, ?_, ?_, ?_, ?_, trivial⟩ (by kernel_rfl) ?_
    · exact One.index (t := 22) (e := 44) (size := 5) (v := fun G => lv) (k := .i64) (n := left) (fun _ => ⟨by kernel_rfl⟩) (fun G w hs => ⟨_, (hl_).isSl, by first | omega | (simp only [List.length_append, List.length_cons, List.length_nil, List.length_replicate, List.length_set, List.length_take, List.length_drop, List.length_map, List.length_reverse, List.length_range]; omega), by first | omega | (simp only [List.length_append, List.length_cons, List.length_nil, List.length_replicate, List.length_set, List.length_take, List.length_drop, List.length_map, List.length_reverse, List.length_range]; omega)⟩)
    · exact One.loadD (α := DThing) (t := 44) (size := 5) (off := 0) (k := left) (l := fun G => l) (x := fun G => x1) (vs := fun G => [.string x1.Text, .int .i64 x1.Value, .int .i64 x1.Blind, .int .i64 x1.Left, .int .i64 x1.Right]) (v := fun G => lv) (H := fun G => H) (p := fun G => elemAddr lv (left.toNat * 5)) (fun G => ⟨by kernel_rfl⟩) rfl (fun G => by kernel_rfl) (fun G w hs => ⟨(hs.read 0 rfl), hl_, (add_zero' _).symm, by omega, by first | omega | (simp only [List.length_append, List.length_cons, List.length_nil, List.length_replicate, List.length_set, List.length_take, List.length_drop, List.length_map, List.length_reverse, List.length_range]; omega), hx1⟩)
    · exact One.index (t := 22) (e := 44) (size := 5) (v := fun G => lv) (k := .i64) (n := right) (fun _ => ⟨by kernel_rfl⟩) (fun G w hs => ⟨_, (hl_).isSl, by first | omega | (simp only [List.length_append, List.length_cons, List.length_nil, List.length_replicate, List.length_set, List.length_take, List.length_drop, List.length_map, List.length_reverse, List.length_range]; omega), by first | omega | (simp only [List.length_append, List.length_cons, List.length_nil, List.length_replicate, List.length_set, List.length_take, List.length_drop, List.length_map, List.length_reverse, List.length_range]; omega)⟩)
    · exact One.loadD (α := DThing) (t := 44) (size := 5) (off := 0) (k := right) (l := fun G => l) (x := fun G => x2) (vs := fun G => [.string x2.Text, .int .i64 x2.Value, .int .i64 x2.Blind, .int .i64 x2.Left, .int .i64 x2.Right]) (v := fun G => lv) (H := fun G => H) (p := fun G => elemAddr lv (right.toNat * 5)) (fun G => ⟨by kernel_rfl⟩) rfl (fun G => by kernel_rfl) (fun G w hs => ⟨(hs.read 0 rfl), hl_, (add_zero' _).symm, by omega, by first | omega | (simp only [List.length_append, List.length_cons, List.length_nil, List.length_replicate, List.length_set, List.length_take, List.length_drop, List.length_map, List.length_reverse, List.length_range]; omega), hx2⟩)
    · exact One.new (r := 1) (T := 44) (fun b => .pointer (some ⟨b, 0, none⟩)) (arr := fun G => #[.string ByteArray.empty, .int .i64 0, .int .i64 0, .int .i64 0, .int .i64 0]) (fun G w => by kernel_rfl) (fun G b => by kernel_rfl)
    · exact One.new (r := 2) (T := 44) (fun b => .pointer (some ⟨b, 0, none⟩)) (arr := fun G => #[.string ByteArray.empty, .int .i64 0, .int .i64 0, .int .i64 0, .int .i64 0]) (fun G w => by kernel_rfl) (fun G b => by kernel_rfl)
    · exact One.store (t := 44) (r := 1) (off := 0) (T := 44) (b := fun G => (G 8).b) (u := fun G => .agg #[.string x1.Text, .int .i64 x1.Value, .int .i64 x1.Blind, .int .i64 x1.Left, .int .i64 x1.Right]) (vs := fun G => [.string x1.Text, .int .i64 x1.Value, .int .i64 x1.Blind, .int .i64 x1.Left, .int .i64 x1.Right]) (arr := fun G => #[.string ByteArray.empty, .int .i64 0, .int .i64 0, .int .i64 0, .int .i64 0]) (fun G => ⟨by kernel_rfl⟩) (fun G => by kernel_rfl)
    · exact One.store (t := 44) (r := 2) (off := 0) (T := 44) (b := fun G => (G 9).b) (u := fun G => .agg #[.string x2.Text, .int .i64 x2.Value, .int .i64 x2.Blind, .int .i64 x2.Left, .int .i64 x2.Right]) (vs := fun G => [.string x2.Text, .int .i64 x2.Value, .int .i64 x2.Blind, .int .i64 x2.Left, .int .i64 x2.Right]) (arr := fun G => #[.string ByteArray.empty, .int .i64 0, .int .i64 0, .int .i64 0, .int .i64 0]) (fun G => ⟨by kernel_rfl⟩) (fun G => by kernel_rfl)
    intro G4 xa xw hDn
    refine hDn.to [1, 2, 6, 8, 9] [] (by kernel_rfl) ?_
    clear hDn
    refine Pre.conv (sl := [(1, .int .i64 left), (2, .int .i64 right), (6, .pointer (some ⟨b1, 0, none⟩)), (8, .pointer (some ⟨(G4 8).b, 0, none⟩)), (9, .pointer (some ⟨(G4 9).b, 0, none⟩))]) (A := [H]) (L := [some (b1, .cells #[.string ByteArray.empty, .int .i64 0, .int .i64 0, .int .i64 0, .int .i64 0] 44 (0, 0)), some ((G4 8).b, .cells #[.string x1.Text, .int .i64 x1.Value, .int .i64 x1.Blind, .int .i64 x1.Left, .int .i64 x1.Right] 44 (0, 0)), some ((G4 9).b, .cells #[.string x2.Text, .int .i64 x2.Value, .int .i64 x2.Blind, .int .i64 x2.Left, .int .i64 x2.Right] 44 (0, 0)), none]) ?_ (by kernel_rfl) (by kernel_rfl) (by kernel_rfl)
    generalize (G4 8).b = b2 at ⊢
    generalize (G4 9).b = b3 at ⊢
    clear G4
    refine At.then ?_
    refine W.seq (by kernel_rfl) ?_
    have hba := hbd x1 (getD_mem (l := l) (k := left.toNat) (by omega) hx1)
    have hbb := hbd x2 (getD_mem (l := l) (k := right.toNat) (by omega) hx2)
    unfold Tm.Bd at hba hbb
    obtain ⟨n3, hn3⟩ : ∃ zz : Int, zz = x1.Value + x2.Value := ⟨_, rfl⟩
    obtain ⟨n4, hn4⟩ : ∃ zz : Int, zz = x1.Blind + x2.Blind := ⟨_, rfl⟩
    refine W.regV (pair_ct_r59_4 left right H b1 x1 x2 b2 b3 n3 n4) [0, 2, 5, 7, 10, 11, 12] [1, 3, 4, 6, 8, 9, 13, 14] (fun G => [.pointer (some ⟨b2, 1, none⟩), .pointer (some ⟨b3, 1, none⟩), .pointer (some ⟨b2, 2, none⟩), .pointer (some ⟨b3, 2, none⟩), .int .i64 left, .int .i64 right, .agg #[.string ByteArray.empty, .int .i64 n3, .int .i64 n4, .int .i64 left, .int .i64 right]]) (by kernel_rfl) mo_va (by kernel_rfl) (fun _ _ => by kernel_rfl) ⟨?_, ?_, ?_, ?_, ?_, ?_, ?_, ?_, trivial⟩ (by kernel_rfl) ?_
    · exact One.loadE (t := 3) (r := 1) (off := 1) (b := fun G => b2) (vs := fun G => [.int .i64 x1.Value]) (arr := fun G => #[.string x1.Text, .int .i64 x1.Value, .int .i64 x1.Blind, .int .i64 x1.Left, .int .i64 x1.Right]) (T := 44) (fr := (0, 0)) (fun G => ⟨by kernel_rfl⟩) (fun G => by kernel_rfl)
    · exact One.loadE (t := 3) (r := 2) (off := 1) (b := fun G => b3) (vs := fun G => [.int .i64 x2.Value]) (arr := fun G => #[.string x2.Text, .int .i64 x2.Value, .int .i64 x2.Blind, .int .i64 x2.Left, .int .i64 x2.Right]) (T := 44) (fr := (0, 0)) (fun G => ⟨by kernel_rfl⟩) (fun G => by kernel_rfl)
    · exact One.ar hn3 (fun _ _ => by kernel_rfl) (fun G w hs => by omega)
    · exact One.loadE (t := 3) (r := 1) (off := 2) (b := fun G => b2) (vs := fun G => [.int .i64 x1.Blind]) (arr := fun G => #[.string x1.Text, .int .i64 x1.Value, .int .i64 x1.Blind, .int .i64 x1.Left, .int .i64 x1.Right]) (T := 44) (fr := (0, 0)) (fun G => ⟨by kernel_rfl⟩) (fun G => by kernel_rfl)
    · exact One.loadE (t := 3) (r := 2) (off := 2) (b := fun G => b3) (vs := fun G => [.int .i64 x2.Blind]) (arr := fun G => #[.string x2.Text, .int .i64 x2.Value, .int .i64 x2.Blind, .int .i64 x2.Left, .int .i64 x2.Right]) (T := 44) (fr := (0, 0)) (fun G => ⟨by kernel_rfl⟩) (fun G => by kernel_rfl)
    · exact One.ar hn4 (fun _ _ => by kernel_rfl) (fun G w hs => by omega)
    · exact One.new (r := 3) (T := 44) (fun b => .pointer (some ⟨b, 0, none⟩)) (arr := fun G => #[.string ByteArray.empty, .int .i64 0, .int .i64 0, .int .i64 0, .int .i64 0]) (fun G w => by kernel_rfl) (fun G b => by kernel_rfl)
    · exact One.store (t := 44) (r := 3) (off := 0) (T := 44) (b := fun G => (G 13).b) (u := fun G => .agg #[.string ByteArray.empty, .int .i64 n3, .int .i64 n4, .int .i64 left, .int .i64 right]) (vs := fun G => [.string ByteArray.empty, .int .i64 n3, .int .i64 n4, .int .i64 left, .int .i64 right]) (arr := fun G => #[.string ByteArray.empty, .int .i64 0, .int .i64 0, .int .i64 0, .int .i64 0]) (fun G => ⟨by kernel_rfl⟩) (fun G => by kernel_rfl)
    intro G5 xa xw hDn
    refine hDn.to [6, 10] [] (by kernel_rfl) ?_
    clear hDn
    refine Pre.conv (sl := [(6, .pointer (some ⟨b1, 0, none⟩)), (10, .pointer (some ⟨(G5 13).b, 0, none⟩))]) (A := [H]) (L := [some (b1, .cells #[.string ByteArray.empty, .int .i64 0, .int .i64 0, .int .i64 0, .int .i64 0] 44 (0, 0)), some (b2, .cells #[.string x1.Text, .int .i64 x1.Value, .int .i64 x1.Blind, .int .i64 x1.Left, .int .i64 x1.Right] 44 (0, 0)), some (b3, .cells #[.string x2.Text, .int .i64 x2.Value, .int .i64 x2.Blind, .int .i64 x2.Left, .int .i64 x2.Right] 44 (0, 0)), some ((G5 13).b, .cells #[.string ByteArray.empty, .int .i64 n3, .int .i64 n4, .int .i64 left, .int .i64 right] 44 (0, 0))]) ?_ (by kernel_rfl) (by kernel_rfl) (by kernel_rfl)
    generalize (G5 13).b = b4 at ⊢
    clear G5
    refine At.then ?_
    refine W.seq (by kernel_rfl) ?_
    refine W.seq (by kernel_rfl) ?_
    obtain ⟨p4, hp4⟩ : ∃ zz : Bool, zz = decide (1125899906842624 < n3) := ⟨_, rfl⟩
    obtain ⟨p5, hp5⟩ : ∃ zz : Bool, zz = decide (1125899906842624 < n4) := ⟨_, rfl⟩
    obtain ⟨p6, hp6⟩ : ∃ zz : Bool, zz = (p4 || p5) := ⟨_, rfl⟩
    refine W.regV (pair_ct_r59_5 left right H b1 x1 x2 b2 b3 n3 n4 b4 p4 p5 p6) [0, 3, 4] [1, 2, 5, 6, 7] (fun G => [.pointer (some ⟨b4, 1, none⟩), .bool p4, .pointer (some ⟨b4, 2, none⟩)]) (by kernel_rfl) mo_va (by kernel_rfl) (fun _ _ => by kernel_rfl) ⟨?_, ?_, ?_, ?_, ?_, trivial⟩ (by kernel_rfl) ?_
    · exact One.loadE (t := 3) (r := 3) (off := 1) (b := fun G => b4) (vs := fun G => [.int .i64 n3]) (arr := fun G => #[.string ByteArray.empty, .int .i64 n3, .int .i64 n4, .int .i64 left, .int .i64 right]) (T := 44) (fr := (0, 0)) (fun G => ⟨by kernel_rfl⟩) (fun G => by kernel_rfl)
    · exact One.bo hp4 (fun _ _ => by kernel_rfl)
    · exact One.loadE (t := 3) (r := 3) (off := 2) (b := fun G => b4) (vs := fun G => [.int .i64 n4]) (arr := fun G => #[.string ByteArray.empty, .int .i64 n3, .int .i64 n4, .int .i64 left, .int .i64 right]) (T := 44) (fr := (0, 0)) (fun G => ⟨by kernel_rfl⟩) (fun G => by kernel_rfl)
    · exact One.bo hp5 (fun _ _ => by kernel_rfl)
    · subst hp6
      cases p4 <;> exact One.under fun _ _ _ => by kernel_rfl
    intro G6 xa xw hDn
    refine hDn.to [6, 10, 54] [] (by kernel_rfl) ?_
    clear hDn
    refine Pre.conv (sl := [(6, .pointer (some ⟨b1, 0, none⟩)), (10, .pointer (some ⟨b4, 0, none⟩)), (54, .bool p6)]) (A := [H]) (L := [some (b1, .cells #[.string ByteArray.empty, .int .i64 0, .int .i64 0, .int .i64 0, .int .i64 0] 44 (0, 0)), some (b2, .cells #[.string x1.Text, .int .i64 x1.Value, .int .i64 x1.Blind, .int .i64 x1.Left, .int .i64 x1.Right] 44 (0, 0)), some (b3, .cells #[.string x2.Text, .int .i64 x2.Value, .int .i64 x2.Blind, .int .i64 x2.Left, .int .i64 x2.Right] 44 (0, 0)), some (b4, .cells #[.string ByteArray.empty, .int .i64 n3, .int .i64 n4, .int .i64 left, .int .i64 right] 44 (0, 0))]) ?_ (by kernel_rfl) (by kernel_rfl) (by kernel_rfl)
    clear G6
    refine At.then ?_
    refine W.cond p6 (by kernel_rfl) (fun xa hs => cnd_of (t := 54) (by kernel_rfl) (by kernel_rfl) hs) (fun hq => ?_) (fun hq => ?_)
    · skip
      have hq3 := hq
      replace hq3 := (iN hp6 (iOT (iN hp4 iDT) (iN hp5 iDT))).1 hq3
      refine W.seq (by kernel_rfl) ?_
      refine W.regV (pair_ct_r59_6 left right H b1 x1 x2 b2 b3 n3 n4 b4 p6) [0, 2] [1] (fun G => [.agg #[.string ByteArray.empty, .int .i64 0, .int .i64 0, .int .i64 0, .int .i64 0], .int .i64 3]) (by kernel_rfl) mo_va (by kernel_rfl) (fun _ _ => by kernel_rfl) ⟨?_, trivial⟩ (by kernel_rfl) ?_
      · exact One.store (t := 44) (r := 0) (off := 0) (T := 44) (b := fun G => b1) (u := fun G => .agg #[.string ByteArray.empty, .int .i64 0, .int .i64 0, .int .i64 0, .int .i64 0]) (vs := fun G => [.string ByteArray.empty, .int .i64 0, .int .i64 0, .int .i64 0, .int .i64 0]) (arr := fun G => #[.string ByteArray.empty, .int .i64 0, .int .i64 0, .int .i64 0, .int .i64 0]) (fun G => ⟨by kernel_rfl⟩) (fun G => by kernel_rfl)
      intro G7 xa xw hDn
      refine hDn.to [6, 7] [] (by kernel_rfl) ?_
      clear hDn
      refine Pre.conv (sl := [(6, .pointer (some ⟨b1, 0, none⟩)), (7, .int .i64 3)]) (A := [H]) (L := [some (b1, .cells #[.string ByteArray.empty, .int .i64 0, .int .i64 0, .int .i64 0, .int .i64 0] 44 (0, 0)), some (b2, .cells #[.string x1.Text, .int .i64 x1.Value, .int .i64 x1.Blind, .int .i64 x1.Left, .int .i64 x1.Right] 44 (0, 0)), some (b3, .cells #[.string x2.Text, .int .i64 x2.Value, .int .i64 x2.Blind, .int .i64 x2.Left, .int .i64 x2.Right] 44 (0, 0)), some (b4, .cells #[.string ByteArray.empty, .int .i64 n3, .int .i64 n4, .int .i64 left, .int .i64 right] 44 (0, 0))]) ?_ (by kernel_rfl) (by kernel_rfl) (by kernel_rfl)
      clear G7
      refine At.then ?_
      refine W.ret (by kernel_rfl) ?_
      refine At.thenRet ?_
      have hh : Tm.has l left ∧ Tm.has l right := by unfold Tm.has; omega
      have hp := Tm.pairE_big hx1 hx2 hh (by omega)
      have hT := Tm.pairT_no (l := l) (a := left) (b := right) (by omega)
      refine At.results (Or.inl rfl) (.tuple #[.agg #[.string ByteArray.empty, .int .i64 0, .int .i64 0, .int .i64 0, .int .i64 0], .int .i64 3]) (fun xa xw hs hw => results_many (rs := [.cell 6 44, .tmp 7]) (vs := [.agg #[.string ByteArray.empty, .int .i64 0, .int .i64 0, .int .i64 0, .int .i64 0], .int .i64 3]) (by kernel_rfl) (by simp) ⟨res_cell (ty := 44) (r := 0) (b := b1) (off := 0) (arr := #[.string ByteArray.empty, .int .i64 0, .int .i64 0, .int .i64 0, .int .i64 0]) (T := 44) (vs := [.string ByteArray.empty, .int .i64 0, .int .i64 0, .int .i64 0, .int .i64 0]) hs hw (by kernel_rfl), res_tmp (t := 7) (by kernel_rfl) hs, trivial⟩) (fun w' hw => ?_)
      have e0 : ByteArray.empty = (Tm.pairT l left right).Text := by
        first | rw [hT] | exact hp.symm
      have e1 : 0 = (Tm.pairT l left right).Value := by
        first | rw [hT] | exact hp.symm
      have e2 : 0 = (Tm.pairT l left right).Blind := by
        first | rw [hT] | exact hp.symm
      have e3 : 0 = (Tm.pairT l left right).Left := by
        first | rw [hT] | exact hp.symm
      have e4 : 0 = (Tm.pairT l left right).Right := by
        first | rw [hT] | exact hp.symm
      have e5 : 3 = (Tm.pairE l left right) := by
        first | rw [hT] | exact hp.symm
      exact ⟨congrArg Ending.returned (cong6 (fun (x0 : ByteArray) (x1 : Int) (x2 : Int) (x3 : Int) (x4 : Int) (x5 : Int) => (.tuple #[.agg #[.string x0, .int .i64 x1, .int .i64 x2, .int .i64 x3, .int .i64 x4], .int .i64 x5] : Value)) e0 e1 e2 e3 e4 e5), hw.base⟩
    · skip
      have hq4 := hq
      replace hq4 := (iN hp6 (iOF (iN hp4 iDF) (iN hp5 iDF))).1 hq4
      refine W.skip (by kernel_rfl) ?_
      refine At.then ?_
      refine W.seq (by kernel_rfl) ?_
      refine W.regV (pair_ct_r59_7 left right H b1 x1 x2 b2 b3 n3 n4 b4 p6) [2] [0, 1] (fun G => [.int .i64 0]) (by kernel_rfl) mo_va (by kernel_rfl) (fun _ _ => by kernel_rfl) ⟨?_, ?_, trivial⟩ (by kernel_rfl) ?_
      · exact One.loadE (t := 44) (r := 3) (off := 0) (b := fun G => b4) (vs := fun G => [.string ByteArray.empty, .int .i64 n3, .int .i64 n4, .int .i64 left, .int .i64 right]) (arr := fun G => #[.string ByteArray.empty, .int .i64 n3, .int .i64 n4, .int .i64 left, .int .i64 right]) (T := 44) (fr := (0, 0)) (fun G => ⟨by kernel_rfl⟩) (fun G => by kernel_rfl)
      · exact One.store (t := 44) (r := 0) (off := 0) (T := 44) (b := fun G => b1) (u := fun G => .agg #[.string ByteArray.empty, .int .i64 n3, .int .i64 n4, .int .i64 left, .int .i64 right]) (vs := fun G => [.string ByteArray.empty, .int .i64 n3, .int .i64 n4, .int .i64 left, .int .i64 right]) (arr := fun G => #[.string ByteArray.empty, .int .i64 0, .int .i64 0, .int .i64 0, .int .i64 0]) (fun G => ⟨by kernel_rfl⟩) (fun G => by kernel_rfl)
      intro G8 xa xw hDn
      refine hDn.to [6, 7] [] (by kernel_rfl) ?_
      clear hDn
      refine Pre.conv (sl := [(6, .pointer (some ⟨b1, 0, none⟩)), (7, .int .i64 0)]) (A := [H]) (L := [some (b1, .cells #[.string ByteArray.empty, .int .i64 n3, .int .i64 n4, .int .i64 left, .int .i64 right] 44 (0, 0)), some (b2, .cells #[.string x1.Text, .int .i64 x1.Value, .int .i64 x1.Blind, .int .i64 x1.Left, .int .i64 x1.Right] 44 (0, 0)), some (b3, .cells #[.string x2.Text, .int .i64 x2.Value, .int .i64 x2.Blind, .int .i64 x2.Left, .int .i64 x2.Right] 44 (0, 0)), some (b4, .cells #[.string ByteArray.empty, .int .i64 n3, .int .i64 n4, .int .i64 left, .int .i64 right] 44 (0, 0))]) ?_ (by kernel_rfl) (by kernel_rfl) (by kernel_rfl)
      clear G8
      refine At.then ?_
      refine W.ret (by kernel_rfl) ?_
      have hh : Tm.has l left ∧ Tm.has l right := by unfold Tm.has; omega
      have hp := Tm.pairE_ok hx1 hx2 hh (by omega)
      have hT := Tm.pairT_ok hx1 hx2 hp (v := n3) (w := n4) (by omega) (by omega)
      refine At.results (Or.inl rfl) (.tuple #[.agg #[.string ByteArray.empty, .int .i64 n3, .int .i64 n4, .int .i64 left, .int .i64 right], .int .i64 0]) (fun xa xw hs hw => results_many (rs := [.cell 6 44, .tmp 7]) (vs := [.agg #[.string ByteArray.empty, .int .i64 n3, .int .i64 n4, .int .i64 left, .int .i64 right], .int .i64 0]) (by kernel_rfl) (by simp) ⟨res_cell (ty := 44) (r := 0) (b := b1) (off := 0) (arr := #[.string ByteArray.empty, .int .i64 n3, .int .i64 n4, .int .i64 left, .int .i64 right]) (T := 44) (vs := [.string ByteArray.empty, .int .i64 n3, .int .i64 n4, .int .i64 left, .int .i64 right]) hs hw (by kernel_rfl), res_tmp (t := 7) (by kernel_rfl) hs, trivial⟩) (fun w' hw => ?_)
      have e0 : ByteArray.empty = (Tm.pairT l left right).Text := by
        first | rw [hT] | exact hp.symm
      have e1 : n3 = (Tm.pairT l left right).Value := by
        first | rw [hT] | exact hp.symm
      have e2 : n4 = (Tm.pairT l left right).Blind := by
        first | rw [hT] | exact hp.symm
      have e3 : left = (Tm.pairT l left right).Left := by
        first | rw [hT] | exact hp.symm
      have e4 : right = (Tm.pairT l left right).Right := by
        first | rw [hT] | exact hp.symm
      have e5 : 0 = (Tm.pairE l left right) := by
        first | rw [hT] | exact hp.symm
      exact ⟨congrArg Ending.returned (cong6 (fun (x0 : ByteArray) (x1 : Int) (x2 : Int) (x3 : Int) (x4 : Int) (x5 : Int) => (.tuple #[.agg #[.string x0, .int .i64 x1, .int .i64 x2, .int .i64 x3, .int .i64 x4], .int .i64 x5] : Value)) e0 e1 e2 e3 e4 e5), hw.base⟩

noncomputable def sound_ct_r26_0 (vv : Value) (H : Heaplet) : RC := { ops := opsAt Try.f26 0, B := [0, 0], sl := [(0, .agg #[vv])], A := [H], L := [none, none, none], cs := [{ val := fun G => .pointer (some ⟨(G 0).b, 0, none⟩), ups := [(0, fun G => some ((G 0).b, .cells #[vv] 24 (0, 0)))] }, { val := fun _ => .bool false }] }
noncomputable def sound_ct_r26_1 (vv : Value) (H : Heaplet) (b1 : Nat) (n1 : Int) (p1 : Bool) : RC := { ops := opsAt Try.f26 1, B := [0, 1, 3, 7], sl := [(1, .pointer (some ⟨b1, 0, none⟩))], A := [H], L := [some (b1, .cells #[vv] 24 (0, 0)), none, none], cs := [{ val := fun _ => .pointer (some ⟨b1, 0, none⟩) }, { val := fun _ => vv, rds := [0] }, { val := fun _ => .int .i64 n1 }, { val := fun _ => .bool p1 }] }
noncomputable def sound_ct_r26_2 (vv : Value) (H : Heaplet) (b1 : Nat) (p1 : Bool) : RC := { ops := opsAt Try.f26 2, B := [0], sl := [(1, .pointer (some ⟨b1, 0, none⟩)), (10, .bool p1)], A := [H], L := [some (b1, .cells #[vv] 24 (0, 0)), none, none], cs := [{ val := fun _ => .bool false }] }
noncomputable def sound_ct_r26_3 (vv : Value) (H : Heaplet) (b1 : Nat) (n1 : Int) (p1 : Bool) : RC := { ops := opsAt Try.f26 3, B := [0, 1, 3, 0], sl := [(1, .pointer (some ⟨b1, 0, none⟩)), (10, .bool p1)], A := [H], L := [some (b1, .cells #[vv] 24 (0, 0)), none, none], cs := [{ val := fun _ => .pointer (some ⟨b1, 0, none⟩) }, { val := fun _ => vv, rds := [0] }, { val := fun _ => .int .i64 n1 }, { val := fun _ => .int .i64 0 }] }
noncomputable def sound_ct_r26_4 (vv : Value) (H : Heaplet) (b1 : Nat) (n1 k0 : Int) (p2 : Bool) : RC := { ops := opsAt Try.f26 4, B := [0], sl := [(1, .pointer (some ⟨b1, 0, none⟩)), (12, vv), (13, .int .i64 n1), (14, .int .i64 k0)], A := [H], L := [some (b1, .cells #[vv] 24 (0, 0)), none, none], cs := [{ val := fun _ => .bool p2 }] }
noncomputable def sound_ct_r26_5 (vv : Value) (H : Heaplet) (b1 : Nat) (n1 k0 : Int) (p2 : Bool) (x1 : DThing) : RC := { ops := opsAt Try.f26 5, B := [0, 0, 2, 0, 15, 31], sl := [(1, .pointer (some ⟨b1, 0, none⟩)), (12, vv), (13, .int .i64 n1), (14, .int .i64 k0), (15, .bool p2)], A := [H], L := [some (b1, .cells #[vv] 24 (0, 0)), none, none], cs := [{ val := fun _ => .int .i64 k0 }, { val := fun _ => .pointer (some (elemAddr vv (k0.toNat * 5))) }, { val := fun _ => .agg #[.string x1.Text, .int .i64 x1.Value, .int .i64 x1.Blind, .int .i64 x1.Left, .int .i64 x1.Right] }, { val := fun G => .pointer (some ⟨(G 3).b, 0, none⟩), ups := [(1, fun G => some ((G 3).b, .cells #[.string ByteArray.empty, .int .i64 0, .int .i64 0, .int .i64 0, .int .i64 0] 44 (0, 0)))] }, { val := fun _ => .int .i64 k0 }, { val := fun _ => undef, ups := [(1, fun G => some ((G 3).b, .cells #[.string x1.Text, .int .i64 x1.Value, .int .i64 x1.Blind, .int .i64 x1.Left, .int .i64 x1.Right] 44 (0, 0)))] }] }
noncomputable def sound_ct_r26_6 (vv : Value) (H : Heaplet) (b1 : Nat) (n1 k0 : Int) (x1 : DThing) (b2 : Nat) (p3 : Bool) : RC := { ops := opsAt Try.f26 6, B := [0, 1], sl := [(1, .pointer (some ⟨b1, 0, none⟩)), (3, .int .i64 k0), (4, .pointer (some ⟨b2, 0, none⟩)), (12, vv), (13, .int .i64 n1), (14, .int .i64 k0)], A := [H], L := [some (b1, .cells #[vv] 24 (0, 0)), some (b2, .cells #[.string x1.Text, .int .i64 x1.Value, .int .i64 x1.Blind, .int .i64 x1.Left, .int .i64 x1.Right] 44 (0, 0)), none], cs := [{ val := fun _ => .agg #[.string x1.Text, .int .i64 x1.Value, .int .i64 x1.Blind, .int .i64 x1.Left, .int .i64 x1.Right], rds := [1] }, { val := fun _ => .bool p3 }] }
noncomputable def sound_ct_r26_7 (vv : Value) (H : Heaplet) (b1 : Nat) (n1 k0 : Int) (x1 : DThing) (b2 : Nat) (p3 : Bool) (n2 : Int) : RC := { ops := opsAt Try.f26 10, B := [0, 1], sl := [(1, .pointer (some ⟨b1, 0, none⟩)), (3, .int .i64 k0), (4, .pointer (some ⟨b2, 0, none⟩)), (12, vv), (13, .int .i64 n1), (14, .int .i64 k0), (20, .bool p3)], A := [H], L := [some (b1, .cells #[vv] 24 (0, 0)), some (b2, .cells #[.string x1.Text, .int .i64 x1.Value, .int .i64 x1.Blind, .int .i64 x1.Left, .int .i64 x1.Right] 44 (0, 0)), none], cs := [{ val := fun _ => .int .i64 n2 }, { val := fun _ => .int .i64 n2 }] }
noncomputable def sound_ct_r26_8 (vv : Value) (H : Heaplet) (b1 : Nat) (n1 k0 : Int) (x1 : DThing) (b2 : Nat) (p3 : Bool) (s1 : ByteArray) (n3 n4 n5 n6 n7 : Int) : RC := { ops := opsAt Try.f26 7, B := [0, 1, 0, 7, 0, 16, 0, 64, 255, 511, 1023, 1023, 0, 6143, 16383], sl := [(1, .pointer (some ⟨b1, 0, none⟩)), (3, .int .i64 k0), (4, .pointer (some ⟨b2, 0, none⟩)), (12, vv), (13, .int .i64 n1), (14, .int .i64 k0), (20, .bool p3)], A := [H], L := [some (b1, .cells #[vv] 24 (0, 0)), some (b2, .cells #[.string x1.Text, .int .i64 x1.Value, .int .i64 x1.Blind, .int .i64 x1.Left, .int .i64 x1.Right] 44 (0, 0)), none], cs := [{ val := fun _ => .pointer (some ⟨b1, 0, none⟩) }, { val := fun _ => vv, rds := [0] }, { val := fun _ => .int .i64 k0 }, { val := fun _ => (subV vv 5 (Int.toNat 0) (Int.toNat k0)) }, { val := fun _ => .pointer (some ⟨b2, 3, none⟩) }, { val := fun _ => .int .i64 x1.Left, rds := [1] }, { val := fun _ => .pointer (some ⟨b2, 4, none⟩) }, { val := fun _ => .int .i64 x1.Right, rds := [1] }, { val := fun _ => .tuple #[.agg #[.string s1, .int .i64 n3, .int .i64 n4, .int .i64 n5, .int .i64 n6], .int .i64 n7] }, { val := fun _ => .tuple #[.agg #[.string s1, .int .i64 n3, .int .i64 n4, .int .i64 n5, .int .i64 n6], .int .i64 n7] }, { val := fun _ => .agg #[.string s1, .int .i64 n3, .int .i64 n4, .int .i64 n5, .int .i64 n6] }, { val := fun _ => .int .i64 n7 }, { val := fun G => .pointer (some ⟨(G 12).b, 0, none⟩), ups := [(2, fun G => some ((G 12).b, .cells #[.string ByteArray.empty, .int .i64 0, .int .i64 0, .int .i64 0, .int .i64 0] 44 (0, 0)))] }, { val := fun _ => undef, ups := [(2, fun G => some ((G 12).b, .cells #[.string s1, .int .i64 n3, .int .i64 n4, .int .i64 n5, .int .i64 n6] 44 (0, 0)))] }, { val := fun _ => .int .i64 n7 }] }
noncomputable def sound_ct_r26_9 (vv : Value) (H : Heaplet) (b1 : Nat) (n1 k0 : Int) (x1 : DThing) (b2 : Nat) (s1 : ByteArray) (n3 n4 n5 n6 n7 : Int) (b3 : Nat) (p4 p5 p6 : Bool) : RC := { ops := opsAt Try.f26 8, B := [0, 1, 3, 7, 7, 31, 63], sl := [(1, .pointer (some ⟨b1, 0, none⟩)), (4, .pointer (some ⟨b2, 0, none⟩)), (5, .pointer (some ⟨b3, 0, none⟩)), (6, .int .i64 n7), (12, vv), (13, .int .i64 n1), (14, .int .i64 k0)], A := [H], L := [some (b1, .cells #[vv] 24 (0, 0)), some (b2, .cells #[.string x1.Text, .int .i64 x1.Value, .int .i64 x1.Blind, .int .i64 x1.Left, .int .i64 x1.Right] 44 (0, 0)), some (b3, .cells #[.string s1, .int .i64 n3, .int .i64 n4, .int .i64 n5, .int .i64 n6] 44 (0, 0))], cs := [{ val := fun _ => .int .i64 n7 }, { val := fun _ => .bool p4 }, { val := fun _ => .bool p4 }, { val := fun _ => .agg #[.string x1.Text, .int .i64 x1.Value, .int .i64 x1.Blind, .int .i64 x1.Left, .int .i64 x1.Right], rds := [1] }, { val := fun _ => .agg #[.string s1, .int .i64 n3, .int .i64 n4, .int .i64 n5, .int .i64 n6], rds := [2] }, { val := fun _ => .bool p5 }, { val := fun _ => .bool p6 }] }
noncomputable def sound_ct_r26_10 (vv : Value) (H : Heaplet) (b1 : Nat) (n1 k0 : Int) (x1 : DThing) (b2 : Nat) (s1 : ByteArray) (n3 n4 n5 n6 : Int) (b3 : Nat) (p6 : Bool) : RC := { ops := opsAt Try.f26 9, B := [0], sl := [(1, .pointer (some ⟨b1, 0, none⟩)), (12, vv), (13, .int .i64 n1), (14, .int .i64 k0), (39, .bool p6)], A := [H], L := [some (b1, .cells #[vv] 24 (0, 0)), some (b2, .cells #[.string x1.Text, .int .i64 x1.Value, .int .i64 x1.Blind, .int .i64 x1.Left, .int .i64 x1.Right] 44 (0, 0)), some (b3, .cells #[.string s1, .int .i64 n3, .int .i64 n4, .int .i64 n5, .int .i64 n6] 44 (0, 0))], cs := [{ val := fun _ => .bool false }] }
noncomputable def sound_ct_r26_11 (vv : Value) (H : Heaplet) (b1 : Nat) (n1 k0 : Int) (x1 : DThing) (b2 : Nat) (s1 : ByteArray) (n3 n4 n5 n6 : Int) (b3 : Nat) (p6 : Bool) (n8 : Int) : RC := { ops := opsAt Try.f26 10, B := [0, 1], sl := [(1, .pointer (some ⟨b1, 0, none⟩)), (12, vv), (13, .int .i64 n1), (14, .int .i64 k0), (39, .bool p6)], A := [H], L := [some (b1, .cells #[vv] 24 (0, 0)), some (b2, .cells #[.string x1.Text, .int .i64 x1.Value, .int .i64 x1.Blind, .int .i64 x1.Left, .int .i64 x1.Right] 44 (0, 0)), some (b3, .cells #[.string s1, .int .i64 n3, .int .i64 n4, .int .i64 n5, .int .i64 n6] 44 (0, 0))], cs := [{ val := fun _ => .int .i64 n8 }, { val := fun _ => .int .i64 n8 }] }
noncomputable def sound_ct_r26_12 (vv : Value) (H : Heaplet) (b1 : Nat) (n1 k0 : Int) (p2 : Bool) : RC := { ops := opsAt Try.f26 11, B := [0], sl := [(1, .pointer (some ⟨b1, 0, none⟩)), (12, vv), (13, .int .i64 n1), (14, .int .i64 k0), (15, .bool p2)], A := [H], L := [some (b1, .cells #[vv] 24 (0, 0)), none, none], cs := [{ val := fun _ => .bool true }] }
set_option maxRecDepth 10000 in
theorem sound_ct (v : List DThing) (vv : Value) (w0 : World) (H : Heaplet) (hA : Agrees w0 H) (hv : RSl H v vv) :
    Calls Try.prog 26 #[.agg #[vv]] w0 (fun e w' => e = .returned (.bool ((decide (Tm.Sound v)))) ∧ Base [] w0 w') := by
  have hE : Ext w0 H H := Ext.refl w0 H
  have hvn := hv.lim
  refine calls_of_W (sl := [(0, .agg #[vv])]) (A := [H]) (L := [none, none, none]) Try.func26 (by kernel_rfl) 41 (by kernel_rfl) (by kernel_rfl) (fun J hJ => by simp at hJ; subst hJ; exact hA) (by simp) ?_
  refine W.seq (by kernel_rfl) ?_
  refine W.regV (sound_ct_r26_0 vv H) [1] [0] (fun G => [.bool false]) (by kernel_rfl) mo_va (by kernel_rfl) (fun _ _ => by kernel_rfl) ⟨?_, trivial⟩ (by kernel_rfl) ?_
  · exact One.new (r := 0) (T := 24) (fun b => .pointer (some ⟨b, 0, none⟩)) (arr := fun G => #[vv]) (fun G w => by kernel_rfl) (fun G b => by kernel_rfl)
  intro G1 xa xw hDn
  refine hDn.to [1] [] (by kernel_rfl) ?_
  clear hDn
  refine Pre.conv (sl := [(1, .pointer (some ⟨(G1 0).b, 0, none⟩))]) (A := [H]) (L := [some ((G1 0).b, .cells #[vv] 24 (0, 0)), none, none]) ?_ (by kernel_rfl) (by kernel_rfl) (by kernel_rfl)
  generalize (G1 0).b = b1 at ⊢
  clear G1
  refine At.then ?_
  refine W.seq (by kernel_rfl) ?_
  refine W.seq (by kernel_rfl) ?_
  obtain ⟨n1, hn1⟩ : ∃ zz : Int, zz = (v.length : Int) := ⟨_, rfl⟩
  obtain ⟨p1, hp1⟩ : ∃ zz : Bool, zz = decide (2000 < n1) := ⟨_, rfl⟩
  refine W.regV (sound_ct_r26_1 vv H b1 n1 p1) [0] [1, 2, 3] (fun G => [.pointer (some ⟨b1, 0, none⟩)]) (by kernel_rfl) mo_va (by kernel_rfl) (fun _ _ => by kernel_rfl) ⟨?_, ?_, ?_, trivial⟩ (by kernel_rfl) ?_
  · exact One.loadE (t := 22) (r := 0) (off := 0) (b := fun G => b1) (vs := fun G => [vv]) (arr := fun G => #[vv]) (T := 24) (fr := (0, 0)) (fun G => ⟨by kernel_rfl⟩) (fun G => by kernel_rfl)
  · exact One.len (t := 22) (n := n1) (v := fun G => vv) (fun _ => ⟨by kernel_rfl⟩) (fun G w hs => ⟨_, (hv).isSl, hn1⟩)
  · exact One.bo hp1 (fun _ _ => by kernel_rfl)
  intro G2 xa xw hDn
  refine hDn.to [1, 10] [] (by kernel_rfl) ?_
  clear hDn
  refine Pre.conv (sl := [(1, .pointer (some ⟨b1, 0, none⟩)), (10, .bool p1)]) (A := [H]) (L := [some (b1, .cells #[vv] 24 (0, 0)), none, none]) ?_ (by kernel_rfl) (by kernel_rfl) (by kernel_rfl)
  clear G2
  refine At.then ?_
  refine W.cond p1 (by kernel_rfl) (fun xa hs => cnd_of (t := 10) (by kernel_rfl) (by kernel_rfl) hs) (fun hq => ?_) (fun hq => ?_)
  · skip
    have hq1 := hq
    replace hq1 := (iN hp1 iDT).1 hq1
    refine W.seq (by kernel_rfl) ?_
    refine W.regV (sound_ct_r26_2 vv H b1 p1) [0] [] (fun G => [.bool false]) (by kernel_rfl) mo_va (by kernel_rfl) (fun _ _ => by kernel_rfl) trivial (by kernel_rfl) ?_
    intro G3 xa xw hDn
    refine hDn.to [2] [] (by kernel_rfl) ?_
    clear hDn
    refine Pre.conv (sl := [(2, .bool false)]) (A := [H]) (L := [some (b1, .cells #[vv] 24 (0, 0)), none, none]) ?_ (by kernel_rfl) (by kernel_rfl) (by kernel_rfl)
    clear G3
    refine At.then ?_
    refine W.ret (by kernel_rfl) ?_
    refine At.thenRet ?_
    refine At.results (Or.inl rfl) (.bool false) (fun xa xw hs hw => results_one (r := .tmp 2) (by kernel_rfl) (res_tmp (t := 2) (by kernel_rfl) hs)) (fun w' hw => ?_)
    have e0 : false = (decide (Tm.Sound v)) := by
      exact Tm.sound_len (by omega)
    exact ⟨congrArg Ending.returned (cong1 (fun (x0 : Bool) => (.bool x0 : Value)) e0), hw.base⟩
  · skip
    have hq2 := hq
    replace hq2 := (iN hp1 iDF).1 hq2
    refine W.skip (by kernel_rfl) ?_
    refine At.then ?_
    refine W.seq (by kernel_rfl) ?_
    refine W.seq (by kernel_rfl) ?_
    refine W.regV (sound_ct_r26_3 vv H b1 n1 p1) [0, 3] [1, 2] (fun G => [.pointer (some ⟨b1, 0, none⟩), .int .i64 0]) (by kernel_rfl) mo_va (by kernel_rfl) (fun _ _ => by kernel_rfl) ⟨?_, ?_, trivial⟩ (by kernel_rfl) ?_
    · exact One.loadE (t := 22) (r := 0) (off := 0) (b := fun G => b1) (vs := fun G => [vv]) (arr := fun G => #[vv]) (T := 24) (fr := (0, 0)) (fun G => ⟨by kernel_rfl⟩) (fun G => by kernel_rfl)
    · exact One.len (t := 22) (n := n1) (v := fun G => vv) (fun _ => ⟨by kernel_rfl⟩) (fun G w hs => ⟨_, (hv).isSl, hn1⟩)
    intro G4 xa xw hDn
    refine hDn.to [1, 12, 13, 14] [] (by kernel_rfl) ?_
    clear hDn
    refine Pre.conv (sl := [(1, .pointer (some ⟨b1, 0, none⟩)), (12, vv), (13, .int .i64 n1), (14, .int .i64 0)]) (A := [H]) (L := [some (b1, .cells #[vv] 24 (0, 0)), none, none]) ?_ (by kernel_rfl) (by kernel_rfl) (by kernel_rfl)
    clear G4
    refine At.then ?_
    refine W.block 0 (by kernel_rfl) ?_
    refine W.loopS (γ := Int) (fun k0 => [(1, .pointer (some ⟨b1, 0, none⟩)), (12, vv), (13, .int .i64 n1), (14, .int .i64 k0)]) (fun k0 => [H]) (fun k0 => [some (b1, .cells #[vv] 24 (0, 0)), none, none]) (fun k0 => (0 ≤ k0) ∧ (k0 ≤ n1) ∧ (Tm.okTo v k0.toNat)) (fun k0 => (n1 - k0).toNat) 0 (by kernel_rfl) ?_ ?_
    · intro xa xw hs hw
      refine ⟨hs.sub (by kernel_rfl), hw.mask [true, false, false] (by kernel_rfl), ?_⟩
      refine ⟨?_, ?_, ?_⟩
      · show 0 ≤ (0 : Int)
        first | omega | rfl | (simp; done) | (subst_vars; simp; done)
      · show (0 : Int) ≤ n1
        first | omega | rfl | (simp; done) | (subst_vars; simp; done)
      · show Tm.okTo v (0 : Int).toNat
        intro i hi; simp at hi
    · rintro k0 hF
      have hF : (0 ≤ k0) ∧ (k0 ≤ n1) ∧ (Tm.okTo v k0.toNat) := hF
      obtain ⟨hf1, hf2, hf3⟩ := hF
      show W Try.prog 41 w0 [] (Code.l (Code.l (Code.r (Code.l (Code.r (Code.r (body Try.f26))))))) _ [(1, .pointer (some ⟨b1, 0, none⟩)), (12, vv), (13, .int .i64 n1), (14, .int .i64 k0)] [H] [some (b1, .cells #[vv] 24 (0, 0)), none, none]
      refine W.seq (by kernel_rfl) ?_
      obtain ⟨p2, hp2⟩ : ∃ zz : Bool, zz = decide (k0 < n1) := ⟨_, rfl⟩
      refine W.regV (sound_ct_r26_4 vv H b1 n1 k0 p2) [] [0] (fun G => []) (by kernel_rfl) mo_va (by kernel_rfl) (fun _ _ => by kernel_rfl) ⟨?_, trivial⟩ (by kernel_rfl) ?_
      · exact One.bo hp2 (fun _ _ => by kernel_rfl)
      intro G5 xa xw hDn
      refine hDn.to [1, 12, 13, 14, 15] [] (by kernel_rfl) ?_
      clear hDn
      refine Pre.conv (sl := [(1, .pointer (some ⟨b1, 0, none⟩)), (12, vv), (13, .int .i64 n1), (14, .int .i64 k0), (15, .bool p2)]) (A := [H]) (L := [some (b1, .cells #[vv] 24 (0, 0)), none, none]) ?_ (by kernel_rfl) (by kernel_rfl) (by kernel_rfl)
      clear G5
      refine At.then ?_
      refine W.seq (by kernel_rfl) ?_
      refine W.cond p2 (by kernel_rfl) (fun xa hs => cnd_of (t := 15) (by kernel_rfl) (by kernel_rfl) hs) (fun hq => ?_) (fun hq => ?_)
      · skip
        have hq3 := hq
        replace hq3 := (iN hp2 iDT).1 hq3
        refine W.skip (by kernel_rfl) ?_
        refine At.then ?_
        refine W.seq (by kernel_rfl) ?_
        refine W.block 1 (by kernel_rfl) ?_
        refine W.seq (by kernel_rfl) ?_
        obtain ⟨x1, hx1⟩ : ∃ zz : DThing, zz = v.getD k0.toNat default := ⟨_, rfl⟩
        refine W.regV (sound_ct_r26_5 vv H b1 n1 k0 p2 x1) [0, 4] [1, 2, 3, 5] (fun G => [.int .i64 k0, .int .i64 k0]) (by kernel_rfl) mo_va (by kernel_rfl) (fun _ _ => by kernel_rfl) ⟨?_, ?_, ?_, ?_, trivial⟩ (by kernel_rfl) ?_
        · exact One.index (t := 22) (e := 44) (size := 5) (v := fun G => vv) (k := .i64) (n := k0) (fun _ => ⟨by kernel_rfl⟩) (fun G w hs => ⟨_, (hv).isSl, by first | omega | (simp only [List.length_append, List.length_cons, List.length_nil, List.length_replicate, List.length_set, List.length_take, List.length_drop, List.length_map, List.length_reverse, List.length_range]; omega), by first | omega | (simp only [List.length_append, List.length_cons, List.length_nil, List.length_replicate, List.length_set, List.length_take, List.length_drop, List.length_map, List.length_reverse, List.length_range]; omega)⟩)
        · exact One.loadD (α := DThing) (t := 44) (size := 5) (off := 0) (k := k0) (l := fun G => v) (x := fun G => x1) (vs := fun G => [.string x1.Text, .int .i64 x1.Value, .int .i64 x1.Blind, .int .i64 x1.Left, .int .i64 x1.Right]) (v := fun G => vv) (H := fun G => H) (p := fun G => elemAddr vv (k0.toNat * 5)) (fun G => ⟨by kernel_rfl⟩) rfl (fun G => by kernel_rfl) (fun G w hs => ⟨(hs.read 0 rfl), hv, (add_zero' _).symm, by omega, by first | omega | (simp only [List.length_append, List.length_cons, List.length_nil, List.length_replicate, List.length_set, List.length_take, List.length_drop, List.length_map, List.length_reverse, List.length_range]; omega), hx1⟩)
        · exact One.new (r := 1) (T := 44) (fun b => .pointer (some ⟨b, 0, none⟩)) (arr := fun G => #[.string ByteArray.empty, .int .i64 0, .int .i64 0, .int .i64 0, .int .i64 0]) (fun G w => by kernel_rfl) (fun G b => by kernel_rfl)
        · exact One.store (t := 44) (r := 1) (off := 0) (T := 44) (b := fun G => (G 3).b) (u := fun G => .agg #[.string x1.Text, .int .i64 x1.Value, .int .i64 x1.Blind, .int .i64 x1.Left, .int .i64 x1.Right]) (vs := fun G => [.string x1.Text, .int .i64 x1.Value, .int .i64 x1.Blind, .int .i64 x1.Left, .int .i64 x1.Right]) (arr := fun G => #[.string ByteArray.empty, .int .i64 0, .int .i64 0, .int .i64 0, .int .i64 0]) (fun G => ⟨by kernel_rfl⟩) (fun G => by kernel_rfl)
        intro G6 xa xw hDn
        refine hDn.to [1, 3, 4, 12, 13, 14] [] (by kernel_rfl) ?_
        clear hDn
        refine Pre.conv (sl := [(1, .pointer (some ⟨b1, 0, none⟩)), (3, .int .i64 k0), (4, .pointer (some ⟨(G6 3).b, 0, none⟩)), (12, vv), (13, .int .i64 n1), (14, .int .i64 k0)]) (A := [H]) (L := [some (b1, .cells #[vv] 24 (0, 0)), some ((G6 3).b, .cells #[.string x1.Text, .int .i64 x1.Value, .int .i64 x1.Blind, .int .i64 x1.Left, .int .i64 x1.Right] 44 (0, 0)), none]) ?_ (by kernel_rfl) (by kernel_rfl) (by kernel_rfl)
        generalize (G6 3).b = b2 at ⊢
        clear G6
        refine At.then ?_
        refine W.seq (by kernel_rfl) ?_
        refine W.seq (by kernel_rfl) ?_
        obtain ⟨p3, hp3⟩ : ∃ zz : Bool, zz = (decide (Tm.isLeaf ⟨x1.Text, x1.Value, x1.Blind, x1.Left, x1.Right⟩)) := ⟨_, rfl⟩
        refine W.regV (sound_ct_r26_6 vv H b1 n1 k0 x1 b2 p3) [] [0, 1] (fun G => []) (by kernel_rfl) mo_va (by kernel_rfl) (fun _ _ => by kernel_rfl) ⟨?_, ?_, trivial⟩ (by kernel_rfl) ?_
        · exact One.loadE (t := 44) (r := 1) (off := 0) (b := fun G => b2) (vs := fun G => [.string x1.Text, .int .i64 x1.Value, .int .i64 x1.Blind, .int .i64 x1.Left, .int .i64 x1.Right]) (arr := fun G => #[.string x1.Text, .int .i64 x1.Value, .int .i64 x1.Blind, .int .i64 x1.Left, .int .i64 x1.Right]) (T := 44) (fr := (0, 0)) (fun G => ⟨by kernel_rfl⟩) (fun G => by kernel_rfl)
        · exact One.callP (v := fun G => .bool p3) (f := 58) (args := fun G => #[.agg #[.string x1.Text, .int .i64 x1.Value, .int .i64 x1.Blind, .int .i64 x1.Left, .int .i64 x1.Right]]) (fun _ _ => by kernel_rfl) (fun G w hs => by
            rw [hp3]
            exact leaf_ct x1.Text x1.Value x1.Blind x1.Left x1.Right w )
        intro G7 xa xw hDn
        refine hDn.to [1, 3, 4, 12, 13, 14, 20] [] (by kernel_rfl) ?_
        clear hDn
        refine Pre.conv (sl := [(1, .pointer (some ⟨b1, 0, none⟩)), (3, .int .i64 k0), (4, .pointer (some ⟨b2, 0, none⟩)), (12, vv), (13, .int .i64 n1), (14, .int .i64 k0), (20, .bool p3)]) (A := [H]) (L := [some (b1, .cells #[vv] 24 (0, 0)), some (b2, .cells #[.string x1.Text, .int .i64 x1.Value, .int .i64 x1.Blind, .int .i64 x1.Left, .int .i64 x1.Right] 44 (0, 0)), none]) ?_ (by kernel_rfl) (by kernel_rfl) (by kernel_rfl)
        clear G7
        refine At.then ?_
        refine W.cond p3 (by kernel_rfl) (fun xa hs => cnd_of (t := 20) (by kernel_rfl) (by kernel_rfl) hs) (fun hq => ?_) (fun hq => ?_)
        · skip
          have hq4 := hq
          replace hq4 := (iN hp3 iDT).1 hq4
          refine W.exit 1 (by kernel_rfl) ?_
          refine At.thenExit ?_
          refine At.blockHit ?_
          refine At.then ?_
          obtain ⟨n2, hn2⟩ : ∃ zz : Int, zz = k0 + 1 := ⟨_, rfl⟩
          refine W.regV (sound_ct_r26_7 vv H b1 n1 k0 x1 b2 p3 n2) [1] [0] (fun G => [.int .i64 n2]) (by kernel_rfl) mo_va (by kernel_rfl) (fun _ _ => by kernel_rfl) ⟨?_, trivial⟩ (by kernel_rfl) ?_
          · exact One.ar hn2 (fun _ _ => by kernel_rfl) (fun G w hs => by omega)
          intro G8 xa xw hDn
          refine hDn.to [1, 12, 13, 14] [] (by kernel_rfl) ?_
          clear hDn
          refine Pre.conv (sl := [(1, .pointer (some ⟨b1, 0, none⟩)), (12, vv), (13, .int .i64 n1), (14, .int .i64 n2)]) (A := [H]) (L := [some (b1, .cells #[vv] 24 (0, 0)), some (b2, .cells #[.string x1.Text, .int .i64 x1.Value, .int .i64 x1.Blind, .int .i64 x1.Left, .int .i64 x1.Right] 44 (0, 0)), none]) ?_ (by kernel_rfl) (by kernel_rfl) (by kernel_rfl)
          clear G8
          intro xa xw hs hw
          refine ⟨n2, ⟨hs.sub (by kernel_rfl), hw.mask [true, false, false] (by kernel_rfl), ?_⟩, ?_⟩
          · skip
            refine ⟨?_, ?_, ?_⟩
            · show 0 ≤ n2
              first | omega | rfl | (simp; done) | (subst_vars; simp; done)
            · show n2 ≤ n1
              first | omega | rfl | (simp; done) | (subst_vars; simp; done)
            · show Tm.okTo v n2.toNat
              refine Tm.sound_step (by assumption) (by assumption) (by assumption) (by assumption) (Tm.okT_iff.2 ?_)
              exact .inl (by assumption)
          · show (n1 - n2).toNat < (n1 - k0).toNat
            omega
        · skip
          have hq5 := hq
          replace hq5 := (iN hp3 iDF).1 hq5
          refine W.skip (by kernel_rfl) ?_
          refine At.then ?_
          refine W.seq (by kernel_rfl) ?_
          obtain ⟨s1, hs1⟩ : ∃ zz : ByteArray, zz = (Tm.pairT ((v.take (Int.toNat k0))) x1.Left x1.Right).Text := ⟨_, rfl⟩
          obtain ⟨n3, hn3⟩ : ∃ zz : Int, zz = (Tm.pairT ((v.take (Int.toNat k0))) x1.Left x1.Right).Value := ⟨_, rfl⟩
          obtain ⟨n4, hn4⟩ : ∃ zz : Int, zz = (Tm.pairT ((v.take (Int.toNat k0))) x1.Left x1.Right).Blind := ⟨_, rfl⟩
          obtain ⟨n5, hn5⟩ : ∃ zz : Int, zz = (Tm.pairT ((v.take (Int.toNat k0))) x1.Left x1.Right).Left := ⟨_, rfl⟩
          obtain ⟨n6, hn6⟩ : ∃ zz : Int, zz = (Tm.pairT ((v.take (Int.toNat k0))) x1.Left x1.Right).Right := ⟨_, rfl⟩
          obtain ⟨n7, hn7⟩ : ∃ zz : Int, zz = (Tm.pairE ((v.take (Int.toNat k0))) x1.Left x1.Right) := ⟨_, rfl⟩
          refine W.regV (sound_ct_r26_8 vv H b1 n1 k0 x1 b2 p3 s1 n3 n4 n5 n6 n7) [0, 2, 4, 6, 9, 10, 11, 14] [1, 3, 5, 7, 8, 12, 13] (fun G => [.pointer (some ⟨b1, 0, none⟩), .int .i64 k0, .pointer (some ⟨b2, 3, none⟩), .pointer (some ⟨b2, 4, none⟩), .tuple #[.agg #[.string s1, .int .i64 n3, .int .i64 n4, .int .i64 n5, .int .i64 n6], .int .i64 n7], .agg #[.string s1, .int .i64 n3, .int .i64 n4, .int .i64 n5, .int .i64 n6], .int .i64 n7, .int .i64 n7]) (by kernel_rfl) mo_va (by kernel_rfl) (fun _ _ => by kernel_rfl) ⟨?_, ?_, ?_, ?_, ?_, ?_, ?_, trivial⟩ (by kernel_rfl) ?_
          · exact One.loadE (t := 22) (r := 0) (off := 0) (b := fun G => b1) (vs := fun G => [vv]) (arr := fun G => #[vv]) (T := 24) (fr := (0, 0)) (fun G => ⟨by kernel_rfl⟩) (fun G => by kernel_rfl)
          · exact One.slice (t := 22) (E := 44) (size := 5) (v := fun G => vv) (lo := none) (hi := some k0) (l := 0) (h := k0) (fun _ => ⟨by kernel_rfl⟩) (.inr ⟨rfl, rfl⟩) (fun G w hs => ⟨_, (hv).isSl, .inl rfl, by first | omega | (simp only [List.length_append, List.length_cons, List.length_nil, List.length_replicate, List.length_set, List.length_take, List.length_drop, List.length_map, List.length_reverse, List.length_range]; omega), by first | omega | (simp only [List.length_append, List.length_cons, List.length_nil, List.length_replicate, List.length_set, List.length_take, List.length_drop, List.length_map, List.length_reverse, List.length_range]; omega), by first | omega | (simp only [List.length_append, List.length_cons, List.length_nil, List.length_replicate, List.length_set, List.length_take, List.length_drop, List.length_map, List.length_reverse, List.length_range]; omega)⟩)
          · exact One.loadE (t := 3) (r := 1) (off := 3) (b := fun G => b2) (vs := fun G => [.int .i64 x1.Left]) (arr := fun G => #[.string x1.Text, .int .i64 x1.Value, .int .i64 x1.Blind, .int .i64 x1.Left, .int .i64 x1.Right]) (T := 44) (fr := (0, 0)) (fun G => ⟨by kernel_rfl⟩) (fun G => by kernel_rfl)
          · exact One.loadE (t := 3) (r := 1) (off := 4) (b := fun G => b2) (vs := fun G => [.int .i64 x1.Right]) (arr := fun G => #[.string x1.Text, .int .i64 x1.Value, .int .i64 x1.Blind, .int .i64 x1.Left, .int .i64 x1.Right]) (T := 44) (fr := (0, 0)) (fun G => ⟨by kernel_rfl⟩) (fun G => by kernel_rfl)
          · exact One.callP (v := fun G => .tuple #[.agg #[.string s1, .int .i64 n3, .int .i64 n4, .int .i64 n5, .int .i64 n6], .int .i64 n7]) (f := 59) (args := fun G => #[(subV vv 5 (Int.toNat 0) (Int.toNat k0)), .int .i64 x1.Left, .int .i64 x1.Right]) (fun _ _ => by kernel_rfl) (fun G w hs => by
              rw [hs1, hn3, hn4, hn5, hn6, hn7]
              exact pair_ct ((v.take (Int.toNat k0))) ((subV vv 5 (Int.toNat 0) (Int.toNat k0))) x1.Left x1.Right w H (hs.read 0 rfl) ((show RSl H (v.take (Int.toNat k0)) (subV vv 5 (Int.toNat 0) (Int.toNat k0)) from (by have h0 := (hv).sub (lo := Int.toNat 0) (hi := Int.toNat k0) (by first | omega | (simp only [List.length_append, List.length_cons, List.length_nil, List.length_replicate, List.length_set, List.length_take, List.length_drop, List.length_map, List.length_reverse, List.length_range]; omega)) (by first | omega | (simp only [List.length_append, List.length_cons, List.length_nil, List.length_replicate, List.length_set, List.length_take, List.length_drop, List.length_map, List.length_reverse, List.length_range]; omega)); first | exact h0 | (simpa using h0)))) (Tm.bd_take (by assumption) (by omega)))
          · exact One.new (r := 2) (T := 44) (fun b => .pointer (some ⟨b, 0, none⟩)) (arr := fun G => #[.string ByteArray.empty, .int .i64 0, .int .i64 0, .int .i64 0, .int .i64 0]) (fun G w => by kernel_rfl) (fun G b => by kernel_rfl)
          · exact One.store (t := 44) (r := 2) (off := 0) (T := 44) (b := fun G => (G 12).b) (u := fun G => .agg #[.string s1, .int .i64 n3, .int .i64 n4, .int .i64 n5, .int .i64 n6]) (vs := fun G => [.string s1, .int .i64 n3, .int .i64 n4, .int .i64 n5, .int .i64 n6]) (arr := fun G => #[.string ByteArray.empty, .int .i64 0, .int .i64 0, .int .i64 0, .int .i64 0]) (fun G => ⟨by kernel_rfl⟩) (fun G => by kernel_rfl)
          intro G9 xa xw hDn
          refine hDn.to [1, 4, 5, 6, 12, 13, 14] [] (by kernel_rfl) ?_
          clear hDn
          refine Pre.conv (sl := [(1, .pointer (some ⟨b1, 0, none⟩)), (4, .pointer (some ⟨b2, 0, none⟩)), (5, .pointer (some ⟨(G9 12).b, 0, none⟩)), (6, .int .i64 n7), (12, vv), (13, .int .i64 n1), (14, .int .i64 k0)]) (A := [H]) (L := [some (b1, .cells #[vv] 24 (0, 0)), some (b2, .cells #[.string x1.Text, .int .i64 x1.Value, .int .i64 x1.Blind, .int .i64 x1.Left, .int .i64 x1.Right] 44 (0, 0)), some ((G9 12).b, .cells #[.string s1, .int .i64 n3, .int .i64 n4, .int .i64 n5, .int .i64 n6] 44 (0, 0))]) ?_ (by kernel_rfl) (by kernel_rfl) (by kernel_rfl)
          generalize (G9 12).b = b3 at ⊢
          clear G9
          refine At.then ?_
          refine W.seq (by kernel_rfl) ?_
          obtain ⟨p4, hp4⟩ : ∃ zz : Bool, zz = !(decide (n7 = 0)) := ⟨_, rfl⟩
          obtain ⟨p5, hp5⟩ : ∃ zz : Bool, zz = !(decide (x1.Text = s1 ∧ x1.Value = n3 ∧ x1.Blind = n4 ∧ x1.Left = n5 ∧ x1.Right = n6)) := ⟨_, rfl⟩
          obtain ⟨p6, hp6⟩ : ∃ zz : Bool, zz = (p4 || p5) := ⟨_, rfl⟩
          refine W.regV (sound_ct_r26_9 vv H b1 n1 k0 x1 b2 s1 n3 n4 n5 n6 n7 b3 p4 p5 p6) [0, 2] [1, 3, 4, 5, 6] (fun G => [.int .i64 n7, .bool p4]) (by kernel_rfl) mo_va (by kernel_rfl) (fun _ _ => by kernel_rfl) ⟨?_, ?_, ?_, ?_, ?_, trivial⟩ (by kernel_rfl) ?_
          · exact One.bo hp4 (fun _ _ => by kernel_rfl)
          · exact One.loadE (t := 44) (r := 1) (off := 0) (b := fun G => b2) (vs := fun G => [.string x1.Text, .int .i64 x1.Value, .int .i64 x1.Blind, .int .i64 x1.Left, .int .i64 x1.Right]) (arr := fun G => #[.string x1.Text, .int .i64 x1.Value, .int .i64 x1.Blind, .int .i64 x1.Left, .int .i64 x1.Right]) (T := 44) (fr := (0, 0)) (fun G => ⟨by kernel_rfl⟩) (fun G => by kernel_rfl)
          · exact One.loadE (t := 44) (r := 2) (off := 0) (b := fun G => b3) (vs := fun G => [.string s1, .int .i64 n3, .int .i64 n4, .int .i64 n5, .int .i64 n6]) (arr := fun G => #[.string s1, .int .i64 n3, .int .i64 n4, .int .i64 n5, .int .i64 n6]) (T := 44) (fr := (0, 0)) (fun G => ⟨by kernel_rfl⟩) (fun G => by kernel_rfl)
          · exact One.aggEq (neq := true) (t := 44) (xs := #[.string x1.Text, .int .i64 x1.Value, .int .i64 x1.Blind, .int .i64 x1.Left, .int .i64 x1.Right]) (ys := #[.string s1, .int .i64 n3, .int .i64 n4, .int .i64 n5, .int .i64 n6]) (p := p5) (fun _ => ⟨by kernel_rfl⟩) (by rw [hp5]; first | rfl | simp) (fun w => thing_equal w x1.Text x1.Value x1.Blind x1.Left x1.Right s1 n3 n4 n5 n6)
          · subst hp6
            cases p4 <;> exact One.under fun _ _ _ => by kernel_rfl
          intro G10 xa xw hDn
          refine hDn.to [1, 12, 13, 14, 39] [] (by kernel_rfl) ?_
          clear hDn
          refine Pre.conv (sl := [(1, .pointer (some ⟨b1, 0, none⟩)), (12, vv), (13, .int .i64 n1), (14, .int .i64 k0), (39, .bool p6)]) (A := [H]) (L := [some (b1, .cells #[vv] 24 (0, 0)), some (b2, .cells #[.string x1.Text, .int .i64 x1.Value, .int .i64 x1.Blind, .int .i64 x1.Left, .int .i64 x1.Right] 44 (0, 0)), some (b3, .cells #[.string s1, .int .i64 n3, .int .i64 n4, .int .i64 n5, .int .i64 n6] 44 (0, 0))]) ?_ (by kernel_rfl) (by kernel_rfl) (by kernel_rfl)
          clear G10
          refine At.then ?_
          refine W.cond p6 (by kernel_rfl) (fun xa hs => cnd_of (t := 39) (by kernel_rfl) (by kernel_rfl) hs) (fun hq => ?_) (fun hq => ?_)
          · skip
            have hq6 := hq
            replace hq6 := (iN hp6 (iOT (iN hp4 (iNT iDF)) (iN hp5 (iNT iDF)))).1 hq6
            refine W.seq (by kernel_rfl) ?_
            refine W.regV (sound_ct_r26_10 vv H b1 n1 k0 x1 b2 s1 n3 n4 n5 n6 b3 p6) [0] [] (fun G => [.bool false]) (by kernel_rfl) mo_va (by kernel_rfl) (fun _ _ => by kernel_rfl) trivial (by kernel_rfl) ?_
            intro G11 xa xw hDn
            refine hDn.to [2] [] (by kernel_rfl) ?_
            clear hDn
            refine Pre.conv (sl := [(2, .bool false)]) (A := [H]) (L := [some (b1, .cells #[vv] 24 (0, 0)), some (b2, .cells #[.string x1.Text, .int .i64 x1.Value, .int .i64 x1.Blind, .int .i64 x1.Left, .int .i64 x1.Right] 44 (0, 0)), some (b3, .cells #[.string s1, .int .i64 n3, .int .i64 n4, .int .i64 n5, .int .i64 n6] 44 (0, 0))]) ?_ (by kernel_rfl) (by kernel_rfl) (by kernel_rfl)
            clear G11
            refine At.then ?_
            refine W.ret (by kernel_rfl) ?_
            refine At.blockRet ?_
            refine At.thenRet ?_
            refine At.thenRet ?_
            refine At.blockRet ?_
            refine At.thenRet ?_
            refine At.results (Or.inl rfl) (.bool false) (fun xa xw hs hw => results_one (r := .tmp 2) (by kernel_rfl) (res_tmp (t := 2) (by kernel_rfl) hs)) (fun w' hw => ?_)
            have e0 : false = (decide (Tm.Sound v)) := by
              rw [hs1, hn3, hn4, hn5, hn6, hn7] at hq6
              exact Tm.sound_no (k := k0) (by assumption) (by omega) (by assumption) (by assumption) (by assumption)
            exact ⟨congrArg Ending.returned (cong1 (fun (x0 : Bool) => (.bool x0 : Value)) e0), hw.base⟩
          · skip
            have hq7 := hq
            replace hq7 := (iN hp6 (iOF (iN hp4 (iNF iDT)) (iN hp5 (iNF iDT)))).1 hq7
            refine W.skip (by kernel_rfl) ?_
            refine At.blockNormal ?_
            refine At.then ?_
            obtain ⟨n8, hn8⟩ : ∃ zz : Int, zz = k0 + 1 := ⟨_, rfl⟩
            refine W.regV (sound_ct_r26_11 vv H b1 n1 k0 x1 b2 s1 n3 n4 n5 n6 b3 p6 n8) [1] [0] (fun G => [.int .i64 n8]) (by kernel_rfl) mo_va (by kernel_rfl) (fun _ _ => by kernel_rfl) ⟨?_, trivial⟩ (by kernel_rfl) ?_
            · exact One.ar hn8 (fun _ _ => by kernel_rfl) (fun G w hs => by omega)
            intro G12 xa xw hDn
            refine hDn.to [1, 12, 13, 14] [] (by kernel_rfl) ?_
            clear hDn
            refine Pre.conv (sl := [(1, .pointer (some ⟨b1, 0, none⟩)), (12, vv), (13, .int .i64 n1), (14, .int .i64 n8)]) (A := [H]) (L := [some (b1, .cells #[vv] 24 (0, 0)), some (b2, .cells #[.string x1.Text, .int .i64 x1.Value, .int .i64 x1.Blind, .int .i64 x1.Left, .int .i64 x1.Right] 44 (0, 0)), some (b3, .cells #[.string s1, .int .i64 n3, .int .i64 n4, .int .i64 n5, .int .i64 n6] 44 (0, 0))]) ?_ (by kernel_rfl) (by kernel_rfl) (by kernel_rfl)
            clear G12
            intro xa xw hs hw
            refine ⟨n8, ⟨hs.sub (by kernel_rfl), hw.mask [true, false, false] (by kernel_rfl), ?_⟩, ?_⟩
            · skip
              refine ⟨?_, ?_, ?_⟩
              · show 0 ≤ n8
                first | omega | rfl | (simp; done) | (subst_vars; simp; done)
              · show n8 ≤ n1
                first | omega | rfl | (simp; done) | (subst_vars; simp; done)
              · show Tm.okTo v n8.toNat
                refine Tm.sound_step (by assumption) (by assumption) (by assumption) (by assumption) (Tm.okT_iff.2 ?_)
                rw [hs1, hn3, hn4, hn5, hn6, hn7] at hq7
                exact .inr (by assumption)
            · show (n1 - n8).toNat < (n1 - k0).toNat
              omega
      · skip
        have hq8 := hq
        replace hq8 := (iN hp2 iDF).1 hq8
        refine W.exit 0 (by kernel_rfl) ?_
        refine At.thenExit ?_
        refine At.thenExit ?_
        refine At.blockHit ?_
        refine At.then ?_
        refine W.seq (by kernel_rfl) ?_
        refine W.regV (sound_ct_r26_12 vv H b1 n1 k0 p2) [0] [] (fun G => [.bool true]) (by kernel_rfl) mo_va (by kernel_rfl) (fun _ _ => by kernel_rfl) trivial (by kernel_rfl) ?_
        intro G13 xa xw hDn
        refine hDn.to [2] [] (by kernel_rfl) ?_
        clear hDn
        refine Pre.conv (sl := [(2, .bool true)]) (A := [H]) (L := [some (b1, .cells #[vv] 24 (0, 0)), none, none]) ?_ (by kernel_rfl) (by kernel_rfl) (by kernel_rfl)
        clear G13
        refine At.then ?_
        refine W.ret (by kernel_rfl) ?_
        refine At.results (Or.inl rfl) (.bool true) (fun xa xw hs hw => results_one (r := .tmp 2) (by kernel_rfl) (res_tmp (t := 2) (by kernel_rfl) hs)) (fun w' hw => ?_)
        have e0 : true = (decide (Tm.Sound v)) := by
          exact Tm.sound_yes (by assumption) (by assumption) (by assumption) (by assumption) (by assumption) (by assumption)
        exact ⟨congrArg Ending.returned (cong1 (fun (x0 : Bool) => (.bool x0 : Value)) e0), hw.base⟩

noncomputable def opens_ct_r27_0 (vv : Value) (i : Int) (text : ByteArray) (value blind : Int) (H : Heaplet) : RC := { ops := opsAt Try.f27 0, B := [0, 0], sl := [(0, .agg #[vv]), (1, .int .i64 i), (2, .string text), (3, .int .i64 value), (4, .int .i64 blind)], A := [H], L := [none, none], cs := [{ val := fun G => .pointer (some ⟨(G 0).b, 0, none⟩), ups := [(0, fun G => some ((G 0).b, .cells #[vv] 24 (0, 0)))] }, { val := fun _ => .bool false }] }
noncomputable def opens_ct_r27_1 (vv : Value) (i : Int) (text : ByteArray) (value blind : Int) (H : Heaplet) (b1 : Nat) (p1 : Bool) (n1 n2 : Int) (p2 p3 : Bool) : RC := { ops := opsAt Try.f27 1, B := [0, 1, 3, 7, 15, 15, 47, 111, 239, 511, 1023, 2047], sl := [(1, .int .i64 i), (2, .string text), (3, .int .i64 value), (4, .int .i64 blind), (5, .pointer (some ⟨b1, 0, none⟩))], A := [H], L := [some (b1, .cells #[vv] 24 (0, 0)), none], cs := [{ val := fun _ => .agg #[vv], rds := [0] }, { val := fun _ => .bool p1 }, { val := fun _ => .bool (!p1) }, { val := fun _ => .bool (!p1) }, { val := fun _ => .int .i64 i }, { val := fun _ => .pointer (some ⟨b1, 0, none⟩) }, { val := fun _ => vv, rds := [0] }, { val := fun _ => .int .i64 n1 }, { val := fun _ => .int .i64 n2 }, { val := fun _ => .bool p2 }, { val := fun _ => .bool (!p2) }, { val := fun _ => .bool p3 }] }
noncomputable def opens_ct_r27_2 (vv : Value) (i : Int) (text : ByteArray) (value blind : Int) (H : Heaplet) (b1 : Nat) (p3 : Bool) : RC := { ops := opsAt Try.f27 2, B := [0], sl := [(1, .int .i64 i), (2, .string text), (3, .int .i64 value), (4, .int .i64 blind), (5, .pointer (some ⟨b1, 0, none⟩)), (23, .bool p3)], A := [H], L := [some (b1, .cells #[vv] 24 (0, 0)), none], cs := [{ val := fun _ => .bool false }] }
noncomputable def opens_ct_r27_3 (vv : Value) (i : Int) (text : ByteArray) (value blind : Int) (H : Heaplet) (b1 : Nat) (p3 : Bool) (x1 : DThing) : RC := { ops := opsAt Try.f27 3, B := [0, 1, 0, 7, 15, 0, 63], sl := [(1, .int .i64 i), (2, .string text), (3, .int .i64 value), (4, .int .i64 blind), (5, .pointer (some ⟨b1, 0, none⟩)), (23, .bool p3)], A := [H], L := [some (b1, .cells #[vv] 24 (0, 0)), none], cs := [{ val := fun _ => .pointer (some ⟨b1, 0, none⟩) }, { val := fun _ => vv, rds := [0] }, { val := fun _ => .int .i64 i }, { val := fun _ => .pointer (some (elemAddr vv (i.toNat * 5))) }, { val := fun _ => .agg #[.string x1.Text, .int .i64 x1.Value, .int .i64 x1.Blind, .int .i64 x1.Left, .int .i64 x1.Right] }, { val := fun G => .pointer (some ⟨(G 5).b, 0, none⟩), ups := [(1, fun G => some ((G 5).b, .cells #[.string ByteArray.empty, .int .i64 0, .int .i64 0, .int .i64 0, .int .i64 0] 44 (0, 0)))] }, { val := fun _ => undef, ups := [(1, fun G => some ((G 5).b, .cells #[.string x1.Text, .int .i64 x1.Value, .int .i64 x1.Blind, .int .i64 x1.Left, .int .i64 x1.Right] 44 (0, 0)))] }] }
noncomputable def opens_ct_r27_4 (vv : Value) (text : ByteArray) (value blind : Int) (H : Heaplet) (b1 : Nat) (x1 : DThing) (b2 : Nat) (p4 p5 p6 p7 p8 : Bool) : RC := { ops := opsAt Try.f27 4, B := [0, 1, 0, 7, 15, 31, 63, 31, 255, 511, 1023, 2047, 4095, 2047, 16383, 32767, 65535], sl := [(2, .string text), (3, .int .i64 value), (4, .int .i64 blind), (11, .pointer (some ⟨b2, 0, none⟩))], A := [H], L := [some (b1, .cells #[vv] 24 (0, 0)), some (b2, .cells #[.string x1.Text, .int .i64 x1.Value, .int .i64 x1.Blind, .int .i64 x1.Left, .int .i64 x1.Right] 44 (0, 0))], cs := [{ val := fun _ => .pointer (some ⟨b2, 0, none⟩) }, { val := fun _ => .string x1.Text, rds := [1] }, { val := fun _ => .string text }, { val := fun _ => .bool p4 }, { val := fun _ => .bool p4 }, { val := fun _ => .pointer (some ⟨b2, 1, none⟩) }, { val := fun _ => .int .i64 x1.Value, rds := [1] }, { val := fun _ => .int .i64 value }, { val := fun _ => .bool p5 }, { val := fun _ => .bool p6 }, { val := fun _ => .bool p6 }, { val := fun _ => .pointer (some ⟨b2, 2, none⟩) }, { val := fun _ => .int .i64 x1.Blind, rds := [1] }, { val := fun _ => .int .i64 blind }, { val := fun _ => .bool p7 }, { val := fun _ => .bool p8 }, { val := fun _ => .bool p8 }] }
set_option maxRecDepth 10000 in
theorem opens_ct (v : List DThing) (vv : Value) (i : Int) (text : ByteArray) (value blind : Int) (w0 : World) (H : Heaplet) (hA : Agrees w0 H) (hv : RSl H v vv) :
    Calls Try.prog 27 #[.agg #[vv], .int .i64 i, .string text, .int .i64 value, .int .i64 blind] w0 (fun e w' => e = .returned (.bool ((decide (Tm.opensP v i text value blind)))) ∧ Base [] w0 w') := by
  have hE : Ext w0 H H := Ext.refl w0 H
  have hvn := hv.lim
  refine calls_of_W (sl := [(0, .agg #[vv]), (1, .int .i64 i), (2, .string text), (3, .int .i64 value), (4, .int .i64 blind)]) (A := [H]) (L := [none, none]) Try.func27 (by kernel_rfl) 45 (by kernel_rfl) (by kernel_rfl) (fun J hJ => by simp at hJ; subst hJ; exact hA) (by simp) ?_
  refine W.seq (by kernel_rfl) ?_
  refine W.regV (opens_ct_r27_0 vv i text value blind H) [1] [0] (fun G => [.bool false]) (by kernel_rfl) mo_va (by kernel_rfl) (fun _ _ => by kernel_rfl) ⟨?_, trivial⟩ (by kernel_rfl) ?_
  · exact One.new (r := 0) (T := 24) (fun b => .pointer (some ⟨b, 0, none⟩)) (arr := fun G => #[vv]) (fun G w => by kernel_rfl) (fun G b => by kernel_rfl)
  intro G1 xa xw hDn
  refine hDn.to [1, 2, 3, 4, 5] [] (by kernel_rfl) ?_
  clear hDn
  refine Pre.conv (sl := [(1, .int .i64 i), (2, .string text), (3, .int .i64 value), (4, .int .i64 blind), (5, .pointer (some ⟨(G1 0).b, 0, none⟩))]) (A := [H]) (L := [some ((G1 0).b, .cells #[vv] 24 (0, 0)), none]) ?_ (by kernel_rfl) (by kernel_rfl) (by kernel_rfl)
  generalize (G1 0).b = b1 at ⊢
  clear G1
  refine At.then ?_
  refine W.seq (by kernel_rfl) ?_
  refine W.seq (by kernel_rfl) ?_
  obtain ⟨p1, hp1⟩ : ∃ zz : Bool, zz = (decide (Tm.Sound v)) := ⟨_, rfl⟩
  obtain ⟨n1, hn1⟩ : ∃ zz : Int, zz = (v.length : Int) := ⟨_, rfl⟩
  obtain ⟨n2, hn2⟩ : ∃ zz : Int, zz = n1 - 1 := ⟨_, rfl⟩
  obtain ⟨p2, hp2⟩ : ∃ zz : Bool, zz = (decide (0 ≤ i ∧ i ≤ n2)) := ⟨_, rfl⟩
  obtain ⟨p3, hp3⟩ : ∃ zz : Bool, zz = (!p1 || !p2) := ⟨_, rfl⟩
  refine W.regV (opens_ct_r27_1 vv i text value blind H b1 p1 n1 n2 p2 p3) [2, 3, 4, 5, 10] [0, 1, 6, 7, 8, 9, 11] (fun G => [.bool (!p1), .bool (!p1), .int .i64 i, .pointer (some ⟨b1, 0, none⟩), .bool (!p2)]) (by kernel_rfl) mo_va (by kernel_rfl) (fun _ _ => by kernel_rfl) ⟨?_, ?_, ?_, ?_, ?_, ?_, ?_, trivial⟩ (by kernel_rfl) ?_
  · exact One.loadE (t := 24) (r := 0) (off := 0) (b := fun G => b1) (vs := fun G => [vv]) (arr := fun G => #[vv]) (T := 24) (fr := (0, 0)) (fun G => ⟨by kernel_rfl⟩) (fun G => by kernel_rfl)
  · exact One.callP (v := fun G => .bool p1) (f := 26) (args := fun G => #[.agg #[vv]]) (fun _ _ => by kernel_rfl) (fun G w hs => by
      rw [hp1]
      exact sound_ct v vv w H (hs.read 0 rfl) (hv) )
  · exact One.loadE (t := 22) (r := 0) (off := 0) (b := fun G => b1) (vs := fun G => [vv]) (arr := fun G => #[vv]) (T := 24) (fr := (0, 0)) (fun G => ⟨by kernel_rfl⟩) (fun G => by kernel_rfl)
  · exact One.len (t := 22) (n := n1) (v := fun G => vv) (fun _ => ⟨by kernel_rfl⟩) (fun G w hs => by
      have hg := gd_of hs (p := (true && ((!p1) == false))) (by kernel_rfl)
      have hg0 := (iNF (iN hp1 iDT)).1 (eqF (andR hg))
      exact ⟨_, (hv).isSl, hn1⟩)
  · exact One.ar hn2 (fun _ _ => by kernel_rfl) (fun G w hs => by
      have hg := gd_of hs (p := (true && ((!p1) == false))) (by kernel_rfl)
      have hg0 := (iNF (iN hp1 iDT)).1 (eqF (andR hg))
      exact by omega)
  · exact One.callP (v := fun G => .bool p2) (f := 60) (args := fun G => #[.int .i64 i, .int .i64 n2]) (fun _ _ => by kernel_rfl) (fun G w hs => by
      have hg := gd_of hs (p := (true && ((!p1) == false))) (by kernel_rfl)
      have hg0 := (iNF (iN hp1 iDT)).1 (eqF (andR hg))
      rw [hp2]
      exact within_ct i n2 w )
  · subst hp3
    cases p1 <;> exact One.under fun _ _ _ => by kernel_rfl
  intro G2 xa xw hDn
  refine hDn.to [1, 2, 3, 4, 5, 23] [] (by kernel_rfl) ?_
  clear hDn
  refine Pre.conv (sl := [(1, .int .i64 i), (2, .string text), (3, .int .i64 value), (4, .int .i64 blind), (5, .pointer (some ⟨b1, 0, none⟩)), (23, .bool p3)]) (A := [H]) (L := [some (b1, .cells #[vv] 24 (0, 0)), none]) ?_ (by kernel_rfl) (by kernel_rfl) (by kernel_rfl)
  clear G2
  refine At.then ?_
  refine W.cond p3 (by kernel_rfl) (fun xa hs => cnd_of (t := 23) (by kernel_rfl) (by kernel_rfl) hs) (fun hq => ?_) (fun hq => ?_)
  · skip
    have hq1 := hq
    replace hq1 := (iN hp3 (iOT (iNT (iN hp1 iDF)) (iNT (iN hp2 iDF)))).1 hq1
    refine W.seq (by kernel_rfl) ?_
    refine W.regV (opens_ct_r27_2 vv i text value blind H b1 p3) [0] [] (fun G => [.bool false]) (by kernel_rfl) mo_va (by kernel_rfl) (fun _ _ => by kernel_rfl) trivial (by kernel_rfl) ?_
    intro G3 xa xw hDn
    refine hDn.to [10] [] (by kernel_rfl) ?_
    clear hDn
    refine Pre.conv (sl := [(10, .bool false)]) (A := [H]) (L := [some (b1, .cells #[vv] 24 (0, 0)), none]) ?_ (by kernel_rfl) (by kernel_rfl) (by kernel_rfl)
    clear G3
    refine At.then ?_
    refine W.ret (by kernel_rfl) ?_
    refine At.thenRet ?_
    refine At.results (Or.inl rfl) (.bool false) (fun xa xw hs hw => results_one (r := .tmp 10) (by kernel_rfl) (res_tmp (t := 10) (by kernel_rfl) hs)) (fun w' hw => ?_)
    have e0 : false = (decide (Tm.opensP v i text value blind)) := by
      symm; rw [decide_eq_false_iff_not]; rintro ⟨h1, h2, _⟩; simp only [Tm.has] at h2; rcases hq1 with h | h
      · exact h h1
      · omega
    exact ⟨congrArg Ending.returned (cong1 (fun (x0 : Bool) => (.bool x0 : Value)) e0), hw.base⟩
  · skip
    have hq2 := hq
    replace hq2 := (iN hp3 (iOF (iNF (iN hp1 iDT)) (iNF (iN hp2 iDT)))).1 hq2
    refine W.skip (by kernel_rfl) ?_
    refine At.then ?_
    refine W.seq (by kernel_rfl) ?_
    obtain ⟨x1, hx1⟩ : ∃ zz : DThing, zz = v.getD i.toNat default := ⟨_, rfl⟩
    refine W.regV (opens_ct_r27_3 vv i text value blind H b1 p3 x1) [0, 2] [1, 3, 4, 5, 6] (fun G => [.pointer (some ⟨b1, 0, none⟩), .int .i64 i]) (by kernel_rfl) mo_va (by kernel_rfl) (fun _ _ => by kernel_rfl) ⟨?_, ?_, ?_, ?_, ?_, trivial⟩ (by kernel_rfl) ?_
    · exact One.loadE (t := 22) (r := 0) (off := 0) (b := fun G => b1) (vs := fun G => [vv]) (arr := fun G => #[vv]) (T := 24) (fr := (0, 0)) (fun G => ⟨by kernel_rfl⟩) (fun G => by kernel_rfl)
    · exact One.index (t := 22) (e := 44) (size := 5) (v := fun G => vv) (k := .i64) (n := i) (fun _ => ⟨by kernel_rfl⟩) (fun G w hs => ⟨_, (hv).isSl, by first | omega | (simp only [List.length_append, List.length_cons, List.length_nil, List.length_replicate, List.length_set, List.length_take, List.length_drop, List.length_map, List.length_reverse, List.length_range]; omega), by first | omega | (simp only [List.length_append, List.length_cons, List.length_nil, List.length_replicate, List.length_set, List.length_take, List.length_drop, List.length_map, List.length_reverse, List.length_range]; omega)⟩)
    · exact One.loadD (α := DThing) (t := 44) (size := 5) (off := 0) (k := i) (l := fun G => v) (x := fun G => x1) (vs := fun G => [.string x1.Text, .int .i64 x1.Value, .int .i64 x1.Blind, .int .i64 x1.Left, .int .i64 x1.Right]) (v := fun G => vv) (H := fun G => H) (p := fun G => elemAddr vv (i.toNat * 5)) (fun G => ⟨by kernel_rfl⟩) rfl (fun G => by kernel_rfl) (fun G w hs => ⟨(hs.read 0 rfl), hv, (add_zero' _).symm, by omega, by first | omega | (simp only [List.length_append, List.length_cons, List.length_nil, List.length_replicate, List.length_set, List.length_take, List.length_drop, List.length_map, List.length_reverse, List.length_range]; omega), hx1⟩)
    · exact One.new (r := 1) (T := 44) (fun b => .pointer (some ⟨b, 0, none⟩)) (arr := fun G => #[.string ByteArray.empty, .int .i64 0, .int .i64 0, .int .i64 0, .int .i64 0]) (fun G w => by kernel_rfl) (fun G b => by kernel_rfl)
    · exact One.store (t := 44) (r := 1) (off := 0) (T := 44) (b := fun G => (G 5).b) (u := fun G => .agg #[.string x1.Text, .int .i64 x1.Value, .int .i64 x1.Blind, .int .i64 x1.Left, .int .i64 x1.Right]) (vs := fun G => [.string x1.Text, .int .i64 x1.Value, .int .i64 x1.Blind, .int .i64 x1.Left, .int .i64 x1.Right]) (arr := fun G => #[.string ByteArray.empty, .int .i64 0, .int .i64 0, .int .i64 0, .int .i64 0]) (fun G => ⟨by kernel_rfl⟩) (fun G => by kernel_rfl)
    intro G4 xa xw hDn
    refine hDn.to [2, 3, 4, 11] [] (by kernel_rfl) ?_
    clear hDn
    refine Pre.conv (sl := [(2, .string text), (3, .int .i64 value), (4, .int .i64 blind), (11, .pointer (some ⟨(G4 5).b, 0, none⟩))]) (A := [H]) (L := [some (b1, .cells #[vv] 24 (0, 0)), some ((G4 5).b, .cells #[.string x1.Text, .int .i64 x1.Value, .int .i64 x1.Blind, .int .i64 x1.Left, .int .i64 x1.Right] 44 (0, 0))]) ?_ (by kernel_rfl) (by kernel_rfl) (by kernel_rfl)
    generalize (G4 5).b = b2 at ⊢
    clear G4
    refine At.then ?_
    refine W.seq (by kernel_rfl) ?_
    obtain ⟨p4, hp4⟩ : ∃ zz : Bool, zz = decide (x1.Text = text) := ⟨_, rfl⟩
    obtain ⟨p5, hp5⟩ : ∃ zz : Bool, zz = decide (x1.Value = value) := ⟨_, rfl⟩
    obtain ⟨p6, hp6⟩ : ∃ zz : Bool, zz = (p4 && p5) := ⟨_, rfl⟩
    obtain ⟨p7, hp7⟩ : ∃ zz : Bool, zz = decide (x1.Blind = blind) := ⟨_, rfl⟩
    obtain ⟨p8, hp8⟩ : ∃ zz : Bool, zz = (p6 && p7) := ⟨_, rfl⟩
    refine W.regV (opens_ct_r27_4 vv text value blind H b1 x1 b2 p4 p5 p6 p7 p8) [0, 2, 4, 5, 7, 10, 11, 13, 16] [1, 3, 6, 8, 9, 12, 14, 15] (fun G => [.pointer (some ⟨b2, 0, none⟩), .string text, .bool p4, .pointer (some ⟨b2, 1, none⟩), .int .i64 value, .bool p6, .pointer (some ⟨b2, 2, none⟩), .int .i64 blind, .bool p8]) (by kernel_rfl) mo_va (by kernel_rfl) (fun _ _ => by kernel_rfl) ⟨?_, ?_, ?_, ?_, ?_, ?_, ?_, ?_, trivial⟩ (by kernel_rfl) ?_
    · exact One.loadE (t := 9) (r := 1) (off := 0) (b := fun G => b2) (vs := fun G => [.string x1.Text]) (arr := fun G => #[.string x1.Text, .int .i64 x1.Value, .int .i64 x1.Blind, .int .i64 x1.Left, .int .i64 x1.Right]) (T := 44) (fr := (0, 0)) (fun G => ⟨by kernel_rfl⟩) (fun G => by kernel_rfl)
    · exact One.eq (congrArg Value.bool ((toList_bytes _ _).trans hp4.symm)) (fun _ _ => by kernel_rfl)
    · exact One.loadE (t := 3) (r := 1) (off := 1) (b := fun G => b2) (vs := fun G => [.int .i64 x1.Value]) (arr := fun G => #[.string x1.Text, .int .i64 x1.Value, .int .i64 x1.Blind, .int .i64 x1.Left, .int .i64 x1.Right]) (T := 44) (fr := (0, 0)) (fun G => ⟨by kernel_rfl⟩) (fun G => by kernel_rfl)
    · exact One.bo hp5 (fun _ _ => by kernel_rfl)
    · subst hp6
      cases p4 <;> exact One.under fun _ _ _ => by kernel_rfl
    · exact One.loadE (t := 3) (r := 1) (off := 2) (b := fun G => b2) (vs := fun G => [.int .i64 x1.Blind]) (arr := fun G => #[.string x1.Text, .int .i64 x1.Value, .int .i64 x1.Blind, .int .i64 x1.Left, .int .i64 x1.Right]) (T := 44) (fr := (0, 0)) (fun G => ⟨by kernel_rfl⟩) (fun G => by kernel_rfl)
    · exact One.bo hp7 (fun _ _ => by kernel_rfl)
    · subst hp8
      cases p6 <;> exact One.under fun _ _ _ => by kernel_rfl
    intro G5 xa xw hDn
    refine hDn.to [10] [] (by kernel_rfl) ?_
    clear hDn
    refine Pre.conv (sl := [(10, .bool p8)]) (A := [H]) (L := [some (b1, .cells #[vv] 24 (0, 0)), some (b2, .cells #[.string x1.Text, .int .i64 x1.Value, .int .i64 x1.Blind, .int .i64 x1.Left, .int .i64 x1.Right] 44 (0, 0))]) ?_ (by kernel_rfl) (by kernel_rfl) (by kernel_rfl)
    clear G5
    refine At.then ?_
    refine W.ret (by kernel_rfl) ?_
    refine At.results (Or.inl rfl) (.bool p8) (fun xa xw hs hw => results_one (r := .tmp 10) (by kernel_rfl) (res_tmp (t := 10) (by kernel_rfl) hs)) (fun w' hw => ?_)
    have e0 : p8 = (decide (Tm.opensP v i text value blind)) := by
      rw [Bool.eq_iff_iff, (iN hp8 (iAT (iN hp6 (iAT (iN hp4 iDT) (iN hp5 iDT))) (iN hp7 iDT))), decide_eq_true_iff]
      unfold Tm.opensP Tm.has Tm.el; rw [← hx1]
      have hS : Tm.Sound v := by rcases hq2 with ⟨h, _⟩; first | exact h | exact Decidable.not_not.1 h
      constructor
      · intro h; exact ⟨hS, by omega, h.1.1, h.1.2, h.2⟩
      · rintro ⟨_, _, h1, h2, h3⟩; exact ⟨⟨h1, h2⟩, h3⟩
    exact ⟨congrArg Ending.returned (cong1 (fun (x0 : Bool) => (.bool x0 : Value)) e0), hw.base⟩

end Kb
