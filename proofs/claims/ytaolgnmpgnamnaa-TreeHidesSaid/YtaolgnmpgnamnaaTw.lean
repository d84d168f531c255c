/- The contracts of the tree: paths. -/
import Derived.Test.YtaolgnmpgnamnaaVa
set_option linter.unusedVariables false
set_option linter.unusedSimpArgs false
namespace Kb
open Go Go.Proofs
theorem mo_tw : Try.prog.follows .mixedOrders = true := by kernel_rfl
noncomputable def isLeaf_ct_r56_0 (x_Text : ByteArray) (x_Value x_Blind x_Left x_Right : Int) : RC := { ops := opsAt Try.f56 0, B := [0, 0], sl := [(0, .agg #[.string x_Text, .int .i64 x_Value, .int .i64 x_Blind, .int .i64 x_Left, .int .i64 x_Right])], A := [], L := [none], cs := [{ val := fun G => .pointer (some ⟨(G 0).b, 0, none⟩), ups := [(0, fun G => some ((G 0).b, .cells #[.string x_Text, .int .i64 x_Value, .int .i64 x_Blind, .int .i64 x_Left, .int .i64 x_Right] 44 (0, 0)))] }, { val := fun _ => .bool false }] }
noncomputable def isLeaf_ct_r56_1 (x_Text : ByteArray) (x_Value x_Blind x_Left x_Right : Int) (b1 : Nat) (p1 : Bool) : RC := { ops := opsAt Try.f56 1, B := [0, 1, 3, 7], sl := [(1, .pointer (some ⟨b1, 0, none⟩))], A := [], L := [some (b1, .cells #[.string x_Text, .int .i64 x_Value, .int .i64 x_Blind, .int .i64 x_Left, .int .i64 x_Right] 44 (0, 0))], cs := [{ val := fun _ => .pointer (some ⟨b1, 3, none⟩) }, { val := fun _ => .int .i64 x_Left, rds := [0] }, { val := fun _ => .bool p1 }, { val := fun _ => .bool p1 }] }
set_option maxRecDepth 10000 in
theorem isLeaf_ct (x_Text : ByteArray) (x_Value x_Blind x_Left x_Right : Int) (w0 : World) :
    Calls Try.prog 56 #[.agg #[.string x_Text, .int .i64 x_Value, .int .i64 x_Blind, .int .i64 x_Left, .int .i64 x_Right]] w0 (fun e w' => e = .returned (.bool ((decide (x_Left = -1)))) ∧ Base [] w0 w') := by
  refine calls_of_W (sl := [(0, .agg #[.string x_Text, .int .i64 x_Value, .int .i64 x_Blind, .int .i64 x_Left, .int .i64 x_Right])]) (A := []) (L := [none]) Try.func56 (by kernel_rfl) 6 (by kernel_rfl) (by kernel_rfl) (fun _ h => by cases h) (by simp) ?_
  refine W.seq (by kernel_rfl) ?_
  refine W.regV (isLeaf_ct_r56_0 x_Text x_Value x_Blind x_Left x_Right) [1] [0] (fun G => [.bool false]) (by kernel_rfl) mo_tw (by kernel_rfl) (fun _ _ => by kernel_rfl) ⟨?_, trivial⟩ (by kernel_rfl) ?_
  · exact One.new (r := 0) (T := 44) (fun b => .pointer (some ⟨b, 0, none⟩)) (arr := fun G => #[.string x_Text, .int .i64 x_Value, .int .i64 x_Blind, .int .i64 x_Left, .int .i64 x_Right]) (fun G w => by kernel_rfl) (fun G b => by kernel_rfl)
  intro G1 xa xw hDn
  refine hDn.to [1] [] (by kernel_rfl) ?_
  clear hDn
  refine Pre.conv (sl := [(1, .pointer (some ⟨(G1 0).b, 0, none⟩))]) (A := []) (L := [some ((G1 0).b, .cells #[.string x_Text, .int .i64 x_Value, .int .i64 x_Blind, .int .i64 x_Left, .int .i64 x_Right] 44 (0, 0))]) ?_ (by kernel_rfl) (by kernel_rfl) (by kernel_rfl)
  generalize (G1 0).b = b1 at ⊢
  clear G1
  refine At.then ?_
  refine W.seq (by kernel_rfl) ?_
  obtain ⟨p1, hp1⟩ : ∃ zz : Bool, zz = decide (x_Left = (-1)) := ⟨_, rfl⟩
  refine W.regV (isLeaf_ct_r56_1 x_Text x_Value x_Blind x_Left x_Right b1 p1) [0, 3] [1, 2] (fun G => [.pointer (some ⟨b1, 3, none⟩), .bool p1]) (by kernel_rfl) mo_tw (by kernel_rfl) (fun _ _ => by kernel_rfl) ⟨?_, ?_, trivial⟩ (by kernel_rfl) ?_
  · exact One.loadE (t := 3) (r := 0) (off := 3) (b := fun G => b1) (vs := fun G => [.int .i64 x_Left]) (arr := fun G => #[.string x_Text, .int .i64 x_Value, .int .i64 x_Blind, .int .i64 x_Left, .int .i64 x_Right]) (T := 44) (fr := (0, 0)) (fun G => ⟨by kernel_rfl⟩) (fun G => by kernel_rfl)
  · exact One.bo hp1 (fun _ _ => by kernel_rfl)
  intro G2 xa xw hDn
  refine hDn.to [2] [] (by kernel_rfl) ?_
  clear hDn
  refine Pre.conv (sl := [(2, .bool p1)]) (A := []) (L := [some (b1, .cells #[.string x_Text, .int .i64 x_Value, .int .i64 x_Blind, .int .i64 x_Left, .int .i64 x_Right] 44 (0, 0))]) ?_ (by kernel_rfl) (by kernel_rfl) (by kernel_rfl)
  clear G2
  refine At.then ?_
  refine W.ret (by kernel_rfl) ?_
  refine At.results (Or.inl rfl) (.bool p1) (fun xa xw hs hw => results_one (r := .tmp 2) (by kernel_rfl) (res_tmp (t := 2) (by kernel_rfl) hs)) (fun w' hw => ?_)
  have e0 : p1 = (decide (x_Left = -1)) := by
    rw [Bool.eq_iff_iff, (iN hp1 iDT), decide_eq_true_iff]
  exact ⟨congrArg Ending.returned (cong1 (fun (x0 : Bool) => (.bool x0 : Value)) e0), hw.base⟩

noncomputable def has_ct_r50_0 (vv : Value) (i : Int) (H : Heaplet) : RC := { ops := opsAt Try.f50 0, B := [0, 0], sl := [(0, .agg #[vv]), (1, .int .i64 i)], A := [H], L := [none], cs := [{ val := fun G => .pointer (some ⟨(G 0).b, 0, none⟩), ups := [(0, fun G => some ((G 0).b, .cells #[vv] 24 (0, 0)))] }, { val := fun _ => .bool false }] }
noncomputable def has_ct_r50_1 (vv : Value) (i : Int) (H : Heaplet) (b1 : Nat) (p1 : Bool) (n1 : Int) (p2 p3 : Bool) : RC := { ops := opsAt Try.f50 1, B := [0, 1, 3, 7, 7, 23, 55, 127, 255, 511], sl := [(1, .int .i64 i), (2, .pointer (some ⟨b1, 0, none⟩))], A := [H], L := [some (b1, .cells #[vv] 24 (0, 0))], cs := [{ val := fun _ => .int .i64 i }, { val := fun _ => .bool p1 }, { val := fun _ => .bool p1 }, { val := fun _ => .int .i64 i }, { val := fun _ => .pointer (some ⟨b1, 0, none⟩) }, { val := fun _ => vv, rds := [0] }, { val := fun _ => .int .i64 n1 }, { val := fun _ => .bool p2 }, { val := fun _ => .bool p3 }, { val := fun _ => .bool p3 }] }
set_option maxRecDepth 10000 in
theorem has_ct (v : List DThing) (vv : Value) (i : Int) (w0 : World) (H : Heaplet) (hA : Agrees w0 H) (hv : RSl H v vv) :
    Calls Try.prog 50 #[.agg #[vv], .int .i64 i] w0 (fun e w' => e = .returned (.bool ((decide (0 ≤ i ∧ i < (v.length : Int))))) ∧ Base [] w0 w') := by
  have hE : Ext w0 H H := Ext.refl w0 H
  have hvn := hv.lim
  refine calls_of_W (sl := [(0, .agg #[vv]), (1, .int .i64 i)]) (A := [H]) (L := [none]) Try.func50 (by kernel_rfl) 14 (by kernel_rfl) (by kernel_rfl) (fun J hJ => by simp at hJ; subst hJ; exact hA) (by simp) ?_
  refine W.seq (by kernel_rfl) ?_
  refine W.regV (has_ct_r50_0 vv i H) [1] [0] (fun G => [.bool false]) (by kernel_rfl) mo_tw (by kernel_rfl) (fun _ _ => by kernel_rfl) ⟨?_, trivial⟩ (by kernel_rfl) ?_
  · exact One.new (r := 0) (T := 24) (fun b => .pointer (some ⟨b, 0, none⟩)) (arr := fun G => #[vv]) (fun G w => by kernel_rfl) (fun G b => by kernel_rfl)
  intro G1 xa xw hDn
  refine hDn.to [1, 2] [] (by kernel_rfl) ?_
  clear hDn
  refine Pre.conv (sl := [(1, .int .i64 i), (2, .pointer (some ⟨(G1 0).b, 0, none⟩))]) (A := [H]) (L := [some ((G1 0).b, .cells #[vv] 24 (0, 0))]) ?_ (by kernel_rfl) (by kernel_rfl) (by kernel_rfl)
  generalize (G1 0).b = b1 at ⊢
  clear G1
  refine At.then ?_
  refine W.seq (by kernel_rfl) ?_
  obtain ⟨p1, hp1⟩ : ∃ zz : Bool, zz = decide (0 ≤ i) := ⟨_, rfl⟩
  obtain ⟨n1, hn1⟩ : ∃ zz : Int, zz = (v.length : Int) := ⟨_, rfl⟩
  obtain ⟨p2, hp2⟩ : ∃ zz : Bool, zz = decide (i < n1) := ⟨_, rfl⟩
  obtain ⟨p3, hp3⟩ : ∃ zz : Bool, zz = (p1 && p2) := ⟨_, rfl⟩
  refine W.regV (has_ct_r50_1 vv i H b1 p1 n1 p2 p3) [0, 2, 3, 4, 9] [1, 5, 6, 7, 8] (fun G => [.int .i64 i, .bool p1, .int .i64 i, .pointer (some ⟨b1, 0, none⟩), .bool p3]) (by kernel_rfl) mo_tw (by kernel_rfl) (fun _ _ => by kernel_rfl) ⟨?_, ?_, ?_, ?_, ?_, trivial⟩ (by kernel_rfl) ?_
  · exact One.bo hp1 (fun _ _ => by kernel_rfl)
  · exact One.loadE (t := 22) (r := 0) (off := 0) (b := fun G => b1) (vs := fun G => [vv]) (arr := fun G => #[vv]) (T := 24) (fr := (0, 0)) (fun G => ⟨by kernel_rfl⟩) (fun G => by kernel_rfl)
  · exact One.len (t := 22) (n := n1) (v := fun G => vv) (fun _ => ⟨by kernel_rfl⟩) (fun G w hs => by
      have hg := gd_of hs (p := (true && (p1 == true))) (by kernel_rfl)
      have hg0 := (iN hp1 iDT).1 (eqT (andR hg))
      exact ⟨_, (hv).isSl, hn1⟩)
  · exact One.bo hp2 (fun _ _ => by kernel_rfl)
  · subst hp3
    cases p1 <;> exact One.under fun _ _ _ => by kernel_rfl
  intro G2 xa xw hDn
  refine hDn.to [4] [] (by kernel_rfl) ?_
  clear hDn
  refine Pre.conv (sl := [(4, .bool p3)]) (A := [H]) (L := [some (b1, .cells #[vv] 24 (0, 0))]) ?_ (by kernel_rfl) (by kernel_rfl) (by kernel_rfl)
  clear G2
  refine At.then ?_
  refine W.ret (by kernel_rfl) ?_
  refine At.results (Or.inl rfl) (.bool p3) (fun xa xw hs hw => results_one (r := .tmp 4) (by kernel_rfl) (res_tmp (t := 4) (by kernel_rfl) hs)) (fun w' hw => ?_)
  have e0 : p3 = (decide (0 ≤ i ∧ i < (v.length : Int))) := by
    rw [Bool.eq_iff_iff, (iN hp3 (iAT (iN hp1 iDT) (iN hp2 iDT))), decide_eq_true_iff]
    omega
  exact ⟨congrArg Ending.returned (cong1 (fun (x0 : Bool) => (.bool x0 : Value)) e0), hw.base⟩

noncomputable def tleaf_ct_r42_0 (text : ByteArray) (value blind : Int) : RC := { ops := opsAt Try.f42 0, B := [0], sl := [(0, .string text), (1, .int .i64 value), (2, .int .i64 blind)], A := [], L := [none], cs := [{ val := fun G => .pointer (some ⟨(G 0).b, 0, none⟩), ups := [(0, fun G => some ((G 0).b, .cells #[.string ByteArray.empty, .int .i64 0, .int .i64 0, .int .i64 0, .int .i64 0] 44 (0, 0)))] }] }
noncomputable def tleaf_ct_r42_1 (text : ByteArray) (value blind : Int) (b1 : Nat) : RC := { ops := opsAt Try.f42 1, B := [0, 0, 0, 7, 15], sl := [(0, .string text), (1, .int .i64 value), (2, .int .i64 blind), (6, .pointer (some ⟨b1, 0, none⟩))], A := [], L := [some (b1, .cells #[.string ByteArray.empty, .int .i64 0, .int .i64 0, .int .i64 0, .int .i64 0] 44 (0, 0))], cs := [{ val := fun _ => .string text }, { val := fun _ => .int .i64 value }, { val := fun _ => .int .i64 blind }, { val := fun _ => .agg #[.string text, .int .i64 value, .int .i64 blind, .int .i64 ((-1)), .int .i64 ((-1))] }, { val := fun _ => undef, ups := [(0, fun _ => some (b1, .cells #[.string text, .int .i64 value, .int .i64 blind, .int .i64 ((-1)), .int .i64 ((-1))] 44 (0, 0)))] }] }
set_option maxRecDepth 10000 in
theorem tleaf_ct (text : ByteArray) (value blind : Int) (w0 : World) :
    Calls Try.prog 42 #[.string text, .int .i64 value, .int .i64 blind] w0 (fun e w' => e = .returned (.agg #[.string text, .int .i64 value, .int .i64 blind, .int .i64 ((-1)), .int .i64 ((-1))]) ∧ Base [] w0 w') := by
  refine calls_of_W (sl := [(0, .string text), (1, .int .i64 value), (2, .int .i64 blind)]) (A := []) (L := [none]) Try.func42 (by kernel_rfl) 11 (by kernel_rfl) (by kernel_rfl) (fun _ h => by cases h) (by simp) ?_
  refine W.seq (by kernel_rfl) ?_
  refine W.regV (tleaf_ct_r42_0 text value blind) [] [0] (fun G => []) (by kernel_rfl) mo_tw (by kernel_rfl) (fun _ _ => by kernel_rfl) ⟨?_, trivial⟩ (by kernel_rfl) ?_
  · exact One.new (r := 0) (T := 44) (fun b => .pointer (some ⟨b, 0, none⟩)) (arr := fun G => #[.string ByteArray.empty, .int .i64 0, .int .i64 0, .int .i64 0, .int .i64 0]) (fun G w => by kernel_rfl) (fun G b => by kernel_rfl)
  intro G1 xa xw hDn
  refine hDn.to [0, 1, 2, 6] [] (by kernel_rfl) ?_
  clear hDn
  refine Pre.conv (sl := [(0, .string text), (1, .int .i64 value), (2, .int .i64 blind), (6, .pointer (some ⟨(G1 0).b, 0, none⟩))]) (A := []) (L := [some ((G1 0).b, .cells #[.string ByteArray.empty, .int .i64 0, .int .i64 0, .int .i64 0, .int .i64 0] 44 (0, 0))]) ?_ (by kernel_rfl) (by kernel_rfl) (by kernel_rfl)
  generalize (G1 0).b = b1 at ⊢
  clear G1
  refine At.then ?_
  refine W.seq (by kernel_rfl) ?_
  refine W.regV (tleaf_ct_r42_1 text value blind b1) [0, 1, 2, 3] [4] (fun G => [.string text, .int .i64 value, .int .i64 blind, .agg #[.string text, .int .i64 value, .int .i64 blind, .int .i64 ((-1)), .int .i64 ((-1))]]) (by kernel_rfl) mo_tw (by kernel_rfl) (fun _ _ => by kernel_rfl) ⟨?_, trivial⟩ (by kernel_rfl) ?_
  · exact One.store (t := 44) (r := 0) (off := 0) (T := 44) (b := fun G => b1) (u := fun G => .agg #[.string text, .int .i64 value, .int .i64 blind, .int .i64 ((-1)), .int .i64 ((-1))]) (vs := fun G => [.string text, .int .i64 value, .int .i64 blind, .int .i64 ((-1)), .int .i64 ((-1))]) (arr := fun G => #[.string ByteArray.empty, .int .i64 0, .int .i64 0, .int .i64 0, .int .i64 0]) (fun G => ⟨by kernel_rfl⟩) (fun G => by kernel_rfl)
  intro G2 xa xw hDn
  refine hDn.to [6] [] (by kernel_rfl) ?_
  clear hDn
  refine Pre.conv (sl := [(6, .pointer (some ⟨b1, 0, none⟩))]) (A := []) (L := [some (b1, .cells #[.string text, .int .i64 value, .int .i64 blind, .int .i64 ((-1)), .int .i64 ((-1))] 44 (0, 0))]) ?_ (by kernel_rfl) (by kernel_rfl) (by kernel_rfl)
  clear G2
  refine At.then ?_
  refine W.ret (by kernel_rfl) ?_
  refine At.results (Or.inl rfl) (.agg #[.string text, .int .i64 value, .int .i64 blind, .int .i64 ((-1)), .int .i64 ((-1))]) (fun xa xw hs hw => results_one (r := .cell 6 44) (by kernel_rfl) (res_cell (ty := 44) (r := 0) (b := b1) (off := 0) (arr := #[.string text, .int .i64 value, .int .i64 blind, .int .i64 ((-1)), .int .i64 ((-1))]) (T := 44) (vs := [.string text, .int .i64 value, .int .i64 blind, .int .i64 ((-1)), .int .i64 ((-1))]) hs hw (by kernel_rfl))) (fun w' hw => ?_)
  exact ⟨congrArg Ending.returned (rfl), hw.base⟩

noncomputable def walks_ct_r54_0 (vv pathv : Value) (H : Heaplet) : RC := { ops := opsAt Try.f54 0, B := [0, 0], sl := [(0, .agg #[vv]), (1, pathv)], A := [H], L := [none, none], cs := [{ val := fun G => .pointer (some ⟨(G 0).b, 0, none⟩), ups := [(0, fun G => some ((G 0).b, .cells #[vv] 24 (0, 0)))] }, { val := fun _ => .bool false }] }
noncomputable def walks_ct_r54_1 (vv pathv : Value) (H : Heaplet) (b1 : Nat) (p1 : Bool) (n1 : Int) (p2 p3 : Bool) : RC := { ops := opsAt Try.f54 1, B := [0, 1, 3, 7, 15, 31, 63, 127], sl := [(1, pathv), (2, .pointer (some ⟨b1, 0, none⟩))], A := [H], L := [some (b1, .cells #[vv] 24 (0, 0)), none], cs := [{ val := fun _ => .agg #[vv], rds := [0] }, { val := fun _ => .bool p1 }, { val := fun _ => .bool (!p1) }, { val := fun _ => .bool (!p1) }, { val := fun _ => pathv }, { val := fun _ => .int .i64 n1 }, { val := fun _ => .bool p2 }, { val := fun _ => .bool p3 }] }
noncomputable def walks_ct_r54_2 (vv pathv : Value) (H : Heaplet) (b1 : Nat) (p3 : Bool) : RC := { ops := opsAt Try.f54 2, B := [0], sl := [(1, pathv), (2, .pointer (some ⟨b1, 0, none⟩)), (15, .bool p3)], A := [H], L := [some (b1, .cells #[vv] 24 (0, 0)), none], cs := [{ val := fun _ => .bool false }] }
noncomputable def walks_ct_r54_3 (vv pathv : Value) (H : Heaplet) (b1 : Nat) (n1 : Int) (p3 : Bool) : RC := { ops := opsAt Try.f54 3, B := [0, 1, 0], sl := [(1, pathv), (2, .pointer (some ⟨b1, 0, none⟩)), (15, .bool p3)], A := [H], L := [some (b1, .cells #[vv] 24 (0, 0)), none], cs := [{ val := fun _ => pathv }, { val := fun _ => .int .i64 n1 }, { val := fun _ => .int .i64 0 }] }
noncomputable def walks_ct_r54_4 (vv pathv : Value) (H : Heaplet) (b1 : Nat) (n1 k0 : Int) (p4 : Bool) : RC := { ops := opsAt Try.f54 4, B := [0], sl := [(1, pathv), (2, .pointer (some ⟨b1, 0, none⟩)), (16, pathv), (17, .int .i64 n1), (18, .int .i64 k0)], A := [H], L := [some (b1, .cells #[vv] 24 (0, 0)), none], cs := [{ val := fun _ => .bool p4 }] }
noncomputable def walks_ct_r54_5 (vv pathv : Value) (H : Heaplet) (b1 : Nat) (n1 k0 : Int) (p4 : Bool) (n2 : Int) : RC := { ops := opsAt Try.f54 5, B := [0, 0, 2, 7, 15], sl := [(1, pathv), (2, .pointer (some ⟨b1, 0, none⟩)), (16, pathv), (17, .int .i64 n1), (18, .int .i64 k0), (19, .bool p4)], A := [H], L := [some (b1, .cells #[vv] 24 (0, 0)), none], cs := [{ val := fun _ => .int .i64 k0 }, { val := fun _ => .pointer (some (elemAddr pathv (k0.toNat * 1))) }, { val := fun _ => .int .i64 n2 }, { val := fun _ => .int .i64 k0 }, { val := fun _ => .int .i64 n2 }] }
noncomputable def walks_ct_r54_6 (vv pathv : Value) (H : Heaplet) (b1 : Nat) (n1 k0 n2 : Int) (p5 : Bool) : RC := { ops := opsAt Try.f54 6, B := [0, 0, 3, 7], sl := [(1, pathv), (2, .pointer (some ⟨b1, 0, none⟩)), (5, .int .i64 k0), (6, .int .i64 n2), (16, pathv), (17, .int .i64 n1), (18, .int .i64 k0)], A := [H], L := [some (b1, .cells #[vv] 24 (0, 0)), none], cs := [{ val := fun _ => .agg #[vv], rds := [0] }, { val := fun _ => .int .i64 n2 }, { val := fun _ => .bool p5 }, { val := fun _ => .bool (!p5) }] }
noncomputable def walks_ct_r54_7 (vv pathv : Value) (H : Heaplet) (b1 : Nat) (n1 k0 n2 : Int) (p5 : Bool) : RC := { ops := opsAt Try.f54 7, B := [0], sl := [(1, pathv), (2, .pointer (some ⟨b1, 0, none⟩)), (5, .int .i64 k0), (6, .int .i64 n2), (16, pathv), (17, .int .i64 n1), (18, .int .i64 k0), (26, .bool (!p5))], A := [H], L := [some (b1, .cells #[vv] 24 (0, 0)), none], cs := [{ val := fun _ => .bool false }] }
noncomputable def walks_ct_r54_8 (vv pathv : Value) (H : Heaplet) (b1 : Nat) (n1 k0 n2 : Int) (p5 p6 : Bool) : RC := { ops := opsAt Try.f54 8, B := [0, 1], sl := [(1, pathv), (2, .pointer (some ⟨b1, 0, none⟩)), (5, .int .i64 k0), (6, .int .i64 n2), (16, pathv), (17, .int .i64 n1), (18, .int .i64 k0), (26, .bool (!p5))], A := [H], L := [some (b1, .cells #[vv] 24 (0, 0)), none], cs := [{ val := fun _ => .int .i64 k0 }, { val := fun _ => .bool p6 }] }
noncomputable def walks_ct_r54_9 (vv pathv : Value) (H : Heaplet) (b1 : Nat) (n1 k0 n2 : Int) (p6 : Bool) (n3 n4 : Int) (x1 : DThing) : RC := { ops := opsAt Try.f54 9, B := [0, 1, 0, 0, 8, 28, 60, 127, 255, 0, 1023], sl := [(1, pathv), (2, .pointer (some ⟨b1, 0, none⟩)), (5, .int .i64 k0), (6, .int .i64 n2), (16, pathv), (17, .int .i64 n1), (18, .int .i64 k0), (28, .bool p6)], A := [H], L := [some (b1, .cells #[vv] 24 (0, 0)), none], cs := [{ val := fun _ => .pointer (some ⟨b1, 0, none⟩) }, { val := fun _ => vv, rds := [0] }, { val := fun _ => pathv }, { val := fun _ => .int .i64 k0 }, { val := fun _ => .int .i64 n3 }, { val := fun _ => .pointer (some (elemAddr pathv (n3.toNat * 1))) }, { val := fun _ => .int .i64 n4 }, { val := fun _ => .pointer (some (elemAddr vv (n4.toNat * 5))) }, { val := fun _ => .agg #[.string x1.Text, .int .i64 x1.Value, .int .i64 x1.Blind, .int .i64 x1.Left, .int .i64 x1.Right] }, { val := fun G => .pointer (some ⟨(G 9).b, 0, none⟩), ups := [(1, fun G => some ((G 9).b, .cells #[.string ByteArray.empty, .int .i64 0, .int .i64 0, .int .i64 0, .int .i64 0] 44 (0, 0)))] }, { val := fun _ => undef, ups := [(1, fun G => some ((G 9).b, .cells #[.string x1.Text, .int .i64 x1.Value, .int .i64 x1.Blind, .int .i64 x1.Left, .int .i64 x1.Right] 44 (0, 0)))] }] }
noncomputable def walks_ct_r54_10 (vv pathv : Value) (H : Heaplet) (b1 : Nat) (n1 k0 n2 : Int) (x1 : DThing) (b2 : Nat) (p7 p8 p9 : Bool) : RC := { ops := opsAt Try.f54 10, B := [0, 1, 0, 7, 15, 31, 63, 31, 255, 511], sl := [(1, pathv), (2, .pointer (some ⟨b1, 0, none⟩)), (6, .int .i64 n2), (7, .pointer (some ⟨b2, 0, none⟩)), (16, pathv), (17, .int .i64 n1), (18, .int .i64 k0)], A := [H], L := [some (b1, .cells #[vv] 24 (0, 0)), some (b2, .cells #[.string x1.Text, .int .i64 x1.Value, .int .i64 x1.Blind, .int .i64 x1.Left, .int .i64 x1.Right] 44 (0, 0))], cs := [{ val := fun _ => .pointer (some ⟨b2, 3, none⟩) }, { val := fun _ => .int .i64 x1.Left, rds := [1] }, { val := fun _ => .int .i64 n2 }, { val := fun _ => .bool p7 }, { val := fun _ => .bool p7 }, { val := fun _ => .pointer (some ⟨b2, 4, none⟩) }, { val := fun _ => .int .i64 x1.Right, rds := [1] }, { val := fun _ => .int .i64 n2 }, { val := fun _ => .bool p8 }, { val := fun _ => .bool p9 }] }
noncomputable def walks_ct_r54_11 (vv pathv : Value) (H : Heaplet) (b1 : Nat) (n1 k0 : Int) (x1 : DThing) (b2 : Nat) (p9 : Bool) : RC := { ops := opsAt Try.f54 11, B := [0], sl := [(1, pathv), (2, .pointer (some ⟨b1, 0, none⟩)), (16, pathv), (17, .int .i64 n1), (18, .int .i64 k0), (47, .bool p9)], A := [H], L := [some (b1, .cells #[vv] 24 (0, 0)), some (b2, .cells #[.string x1.Text, .int .i64 x1.Value, .int .i64 x1.Blind, .int .i64 x1.Left, .int .i64 x1.Right] 44 (0, 0))], cs := [{ val := fun _ => .bool false }] }
noncomputable def walks_ct_r54_12 (vv pathv : Value) (H : Heaplet) (b1 : Nat) (n1 k0 : Int) (x1 : DThing) (b2 : Nat) (p9 : Bool) (n5 : Int) : RC := { ops := opsAt Try.f54 12, B := [0, 1], sl := [(1, pathv), (2, .pointer (some ⟨b1, 0, none⟩)), (16, pathv), (17, .int .i64 n1), (18, .int .i64 k0), (47, .bool p9)], A := [H], L := [some (b1, .cells #[vv] 24 (0, 0)), some (b2, .cells #[.string x1.Text, .int .i64 x1.Value, .int .i64 x1.Blind, .int .i64 x1.Left, .int .i64 x1.Right] 44 (0, 0))], cs := [{ val := fun _ => .int .i64 n5 }, { val := fun _ => .int .i64 n5 }] }
noncomputable def walks_ct_r54_13 (vv pathv : Value) (H : Heaplet) (b1 : Nat) (n1 k0 n2 : Int) (p6 : Bool) (n6 : Int) : RC := { ops := opsAt Try.f54 12, B := [0, 1], sl := [(1, pathv), (2, .pointer (some ⟨b1, 0, none⟩)), (5, .int .i64 k0), (6, .int .i64 n2), (16, pathv), (17, .int .i64 n1), (18, .int .i64 k0), (28, .bool p6)], A := [H], L := [some (b1, .cells #[vv] 24 (0, 0)), none], cs := [{ val := fun _ => .int .i64 n6 }, { val := fun _ => .int .i64 n6 }] }
noncomputable def walks_ct_r54_14 (vv pathv : Value) (H : Heaplet) (b1 : Nat) (n1 k0 : Int) (p4 : Bool) : RC := { ops := opsAt Try.f54 13, B := [0], sl := [(1, pathv), (2, .pointer (some ⟨b1, 0, none⟩)), (16, pathv), (17, .int .i64 n1), (18, .int .i64 k0), (19, .bool p4)], A := [H], L := [some (b1, .cells #[vv] 24 (0, 0)), none], cs := [{ val := fun _ => .bool true }] }
set_option maxRecDepth 10000 in
theorem walks_ct (v : List DThing) (vv : Value) (path : List Int) (pathv : Value) (w0 : World) (H : Heaplet) (hA : Agrees w0 H) (hv : RSl H v vv) (hpath : RSl H path pathv) :
    Calls Try.prog 54 #[.agg #[vv], pathv] w0 (fun e w' => e = .returned (.bool ((decide (Tm.Walks v path)))) ∧ Base [] w0 w') := by
  have hE : Ext w0 H H := Ext.refl w0 H
  have hvn := hv.lim
  have hpathn := hpath.lim
  refine calls_of_W (sl := [(0, .agg #[vv]), (1, pathv)]) (A := [H]) (L := [none, none]) Try.func54 (by kernel_rfl) 49 (by kernel_rfl) (by kernel_rfl) (fun J hJ => by simp at hJ; subst hJ; exact hA) (by simp) ?_
  refine W.seq (by kernel_rfl) ?_
  refine W.regV (walks_ct_r54_0 vv pathv H) [1] [0] (fun G => [.bool false]) (by kernel_rfl) mo_tw (by kernel_rfl) (fun _ _ => by kernel_rfl) ⟨?_, trivial⟩ (by kernel_rfl) ?_
  · exact One.new (r := 0) (T := 24) (fun b => .pointer (some ⟨b, 0, none⟩)) (arr := fun G => #[vv]) (fun G w => by kernel_rfl) (fun G b => by kernel_rfl)
  intro G1 xa xw hDn
  refine hDn.to [1, 2] [] (by kernel_rfl) ?_
  clear hDn
  refine Pre.conv (sl := [(1, pathv), (2, .pointer (some ⟨(G1 0).b, 0, none⟩))]) (A := [H]) (L := [some ((G1 0).b, .cells #[vv] 24 (0, 0)), none]) ?_ (by kernel_rfl) (by kernel_rfl) (by kernel_rfl)
  generalize (G1 0).b = b1 at ⊢
  clear G1
  refine At.then ?_
  refine W.seq (by kernel_rfl) ?_
  refine W.seq (by kernel_rfl) ?_
  obtain ⟨p1, hp1⟩ : ∃ zz : Bool, zz = (decide (Tm.Sound v)) := ⟨_, rfl⟩
  obtain ⟨n1, hn1⟩ : ∃ zz : Int, zz = (path.length : Int) := ⟨_, rfl⟩
  obtain ⟨p2, hp2⟩ : ∃ zz : Bool, zz = decide (n1 = 0) := ⟨_, rfl⟩
  obtain ⟨p3, hp3⟩ : ∃ zz : Bool, zz = (!p1 || p2) := ⟨_, rfl⟩
  refine W.regV (walks_ct_r54_1 vv pathv H b1 p1 n1 p2 p3) [2, 3, 4] [0, 1, 5, 6, 7] (fun G => [.bool (!p1), .bool (!p1), pathv]) (by kernel_rfl) mo_tw (by kernel_rfl) (fun _ _ => by kernel_rfl) ⟨?_, ?_, ?_, ?_, ?_, trivial⟩ (by kernel_rfl) ?_
  · exact One.loadE (t := 24) (r := 0) (off := 0) (b := fun G => b1) (vs := fun G => [vv]) (arr := fun G => #[vv]) (T := 24) (fr := (0, 0)) (fun G => ⟨by kernel_rfl⟩) (fun G => by kernel_rfl)
  · exact One.callP (v := fun G => .bool p1) (f := 26) (args := fun G => #[.agg #[vv]]) (fun _ _ => by kernel_rfl) (fun G w hs => by
      rw [hp1]
      exact sound_ct v vv w H (hs.read 0 rfl) (hv) )
  · exact One.len (t := 26) (n := n1) (v := fun G => pathv) (fun _ => ⟨by kernel_rfl⟩) (fun G w hs => by
      have hg := gd_of hs (p := (true && ((!p1) == false))) (by kernel_rfl)
      have hg0 := (iNF (iN hp1 iDT)).1 (eqF (andR hg))
      exact ⟨_, (hpath).isSl, hn1⟩)
  · exact One.bo hp2 (fun _ _ => by kernel_rfl)
  · subst hp3
    cases p1 <;> exact One.under fun _ _ _ => by kernel_rfl
  intro G2 xa xw hDn
  refine hDn.to [1, 2, 15] [] (by kernel_rfl) ?_
  clear hDn
  refine Pre.conv (sl := [(1, pathv), (2, .pointer (some ⟨b1, 0, none⟩)), (15, .bool p3)]) (A := [H]) (L := [some (b1, .cells #[vv] 24 (0, 0)), none]) ?_ (by kernel_rfl) (by kernel_rfl) (by kernel_rfl)
  clear G2
  refine At.then ?_
  refine W.cond p3 (by kernel_rfl) (fun xa hs => cnd_of (t := 15) (by kernel_rfl) (by kernel_rfl) hs) (fun hq => ?_) (fun hq => ?_)
  · skip
    have hq1 := hq
    replace hq1 := (iN hp3 (iOT (iNT (iN hp1 iDF)) (iN hp2 iDT))).1 hq1
    refine W.seq (by kernel_rfl) ?_
    refine W.regV (walks_ct_r54_2 vv pathv H b1 p3) [0] [] (fun G => [.bool false]) (by kernel_rfl) mo_tw (by kernel_rfl) (fun _ _ => by kernel_rfl) trivial (by kernel_rfl) ?_
    intro G3 xa xw hDn
    refine hDn.to [4] [] (by kernel_rfl) ?_
    clear hDn
    refine Pre.conv (sl := [(4, .bool false)]) (A := [H]) (L := [some (b1, .cells #[vv] 24 (0, 0)), none]) ?_ (by kernel_rfl) (by kernel_rfl) (by kernel_rfl)
    clear G3
    refine At.then ?_
    refine W.ret (by kernel_rfl) ?_
    refine At.thenRet ?_
    refine At.results (Or.inl rfl) (.bool false) (fun xa xw hs hw => results_one (r := .tmp 4) (by kernel_rfl) (res_tmp (t := 4) (by kernel_rfl) hs)) (fun w' hw => ?_)
    have e0 : false = (decide (Tm.Walks v path)) := by
      symm; rw [decide_eq_false_iff_not]; rintro ⟨h1, h2, _⟩; rcases hq1 with h | h
      · exact h h1
      · omega
    exact ⟨congrArg Ending.returned (cong1 (fun (x0 : Bool) => (.bool x0 : Value)) e0), hw.base⟩
  · skip
    have hq2 := hq
    replace hq2 := (iN hp3 (iOF (iNF (iN hp1 iDT)) (iN hp2 iDF))).1 hq2
    refine W.skip (by kernel_rfl) ?_
    refine At.then ?_
    refine W.seq (by kernel_rfl) ?_
    refine W.seq (by kernel_rfl) ?_
    refine W.regV (walks_ct_r54_3 vv pathv H b1 n1 p3) [0, 2] [1] (fun G => [pathv, .int .i64 0]) (by kernel_rfl) mo_tw (by kernel_rfl) (fun _ _ => by kernel_rfl) ⟨?_, trivial⟩ (by kernel_rfl) ?_
    · exact One.len (t := 26) (n := n1) (v := fun G => pathv) (fun _ => ⟨by kernel_rfl⟩) (fun G w hs => ⟨_, (hpath).isSl, hn1⟩)
    intro G4 xa xw hDn
    refine hDn.to [1, 2, 16, 17, 18] [] (by kernel_rfl) ?_
    clear hDn
    refine Pre.conv (sl := [(1, pathv), (2, .pointer (some ⟨b1, 0, none⟩)), (16, pathv), (17, .int .i64 n1), (18, .int .i64 0)]) (A := [H]) (L := [some (b1, .cells #[vv] 24 (0, 0)), none]) ?_ (by kernel_rfl) (by kernel_rfl) (by kernel_rfl)
    clear G4
    refine At.then ?_
    refine W.block 0 (by kernel_rfl) ?_
    refine W.loopS (γ := Int) (fun k0 => [(1, pathv), (2, .pointer (some ⟨b1, 0, none⟩)), (16, pathv), (17, .int .i64 n1), (18, .int .i64 k0)]) (fun k0 => [H]) (fun k0 => [some (b1, .cells #[vv] 24 (0, 0)), none]) (fun k0 => (0 ≤ k0) ∧ (k0 ≤ n1) ∧ (Tm.walksTo v path k0.toNat)) (fun k0 => (n1 - k0).toNat) 0 (by kernel_rfl) ?_ ?_
    · intro xa xw hs hw
      refine ⟨hs.sub (by kernel_rfl), hw.mask [true, false] (by kernel_rfl), ?_⟩
      refine ⟨?_, ?_, ?_⟩
      · show 0 ≤ (0 : Int)
        first | omega | rfl | (simp; done) | (subst_vars; simp; done)
      · show (0 : Int) ≤ n1
        first | omega | rfl | (simp; done) | (subst_vars; simp; done)
      · show Tm.walksTo v path (0 : Int).toNat
        intro i hi; simp at hi
    · rintro k0 hF
      have hF : (0 ≤ k0) ∧ (k0 ≤ n1) ∧ (Tm.walksTo v path k0.toNat) := hF
      obtain ⟨hf1, hf2, hf3⟩ := hF
      show W Try.prog 49 w0 [] (Code.l (Code.l (Code.r (Code.l (Code.r (Code.r (body Try.f54))))))) _ [(1, pathv), (2, .pointer (some ⟨b1, 0, none⟩)), (16, pathv), (17, .int .i64 n1), (18, .int .i64 k0)] [H] [some (b1, .cells #[vv] 24 (0, 0)), none]
      refine W.seq (by kernel_rfl) ?_
      obtain ⟨p4, hp4⟩ : ∃ zz : Bool, zz = decide (k0 < n1) := ⟨_, rfl⟩
      refine W.regV (walks_ct_r54_4 vv pathv H b1 n1 k0 p4) [] [0] (fun G => []) (by kernel_rfl) mo_tw (by kernel_rfl) (fun _ _ => by kernel_rfl) ⟨?_, trivial⟩ (by kernel_rfl) ?_
      · exact One.bo hp4 (fun _ _ => by kernel_rfl)
      intro G5 xa xw hDn
      refine hDn.to [1, 2, 16, 17, 18, 19] [] (by kernel_rfl) ?_
      clear hDn
      refine Pre.conv (sl := [(1, pathv), (2, .pointer (some ⟨b1, 0, none⟩)), (16, pathv), (17, .int .i64 n1), (18, .int .i64 k0), (19, .bool p4)]) (A := [H]) (L := [some (b1, .cells #[vv] 24 (0, 0)), none]) ?_ (by kernel_rfl) (by kernel_rfl) (by kernel_rfl)
      clear G5
      refine At.then ?_
      refine W.seq (by kernel_rfl) ?_
      refine W.cond p4 (by kernel_rfl) (fun xa hs => cnd_of (t := 19) (by kernel_rfl) (by kernel_rfl) hs) (fun hq => ?_) (fun hq => ?_)
      · skip
        have hq3 := hq
        replace hq3 := (iN hp4 iDT).1 hq3
        refine W.skip (by kernel_rfl) ?_
        refine At.then ?_
        refine W.seq (by kernel_rfl) ?_
        refine W.block 1 (by kernel_rfl) ?_
        refine W.seq (by kernel_rfl) ?_
        obtain ⟨n2, hn2⟩ : ∃ zz : Int, zz = path.getD k0.toNat default := ⟨_, rfl⟩
        refine W.regV (walks_ct_r54_5 vv pathv H b1 n1 k0 p4 n2) [0, 3, 4] [1, 2] (fun G => [.int .i64 k0, .int .i64 k0, .int .i64 n2]) (by kernel_rfl) mo_tw (by kernel_rfl) (fun _ _ => by kernel_rfl) ⟨?_, ?_, trivial⟩ (by kernel_rfl) ?_
        · exact One.index (t := 26) (e := 3) (size := 1) (v := fun G => pathv) (k := .i64) (n := k0) (fun _ => ⟨by kernel_rfl⟩) (fun G w hs => ⟨_, (hpath).isSl, by first | omega | (simp only [List.length_append, List.length_cons, List.length_nil, List.length_replicate, List.length_set, List.length_take, List.length_drop, List.length_map, List.length_reverse, List.length_range]; omega), by first | omega | (simp only [List.length_append, List.length_cons, List.length_nil, List.length_replicate, List.length_set, List.length_take, List.length_drop, List.length_map, List.length_reverse, List.length_range]; omega)⟩)
        · exact One.loadD (α := Int) (t := 3) (size := 1) (off := 0) (k := k0) (l := fun G => path) (x := fun G => n2) (vs := fun G => [.int .i64 n2]) (v := fun G => pathv) (H := fun G => H) (p := fun G => elemAddr pathv (k0.toNat * 1)) (fun G => ⟨by kernel_rfl⟩) rfl (fun G => by kernel_rfl) (fun G w hs => ⟨(hs.read 0 rfl), hpath, (add_zero' _).symm, by omega, by first | omega | (simp only [List.length_append, List.length_cons, List.length_nil, List.length_replicate, List.length_set, List.length_take, List.length_drop, List.length_map, List.length_reverse, List.length_range]; omega), hn2⟩)
        intro G6 xa xw hDn
        refine hDn.to [1, 2, 5, 6, 16, 17, 18] [] (by kernel_rfl) ?_
        clear hDn
        refine Pre.conv (sl := [(1, pathv), (2, .pointer (some ⟨b1, 0, none⟩)), (5, .int .i64 k0), (6, .int .i64 n2), (16, pathv), (17, .int .i64 n1), (18, .int .i64 k0)]) (A := [H]) (L := [some (b1, .cells #[vv] 24 (0, 0)), none]) ?_ (by kernel_rfl) (by kernel_rfl) (by kernel_rfl)
        clear G6
        refine At.then ?_
        refine W.seq (by kernel_rfl) ?_
        refine W.seq (by kernel_rfl) ?_
        obtain ⟨p5, hp5⟩ : ∃ zz : Bool, zz = (decide (0 ≤ n2 ∧ n2 < (v.length : Int))) := ⟨_, rfl⟩
        refine W.regV (walks_ct_r54_6 vv pathv H b1 n1 k0 n2 p5) [1, 3] [0, 2] (fun G => [.int .i64 n2, .bool (!p5)]) (by kernel_rfl) mo_tw (by kernel_rfl) (fun _ _ => by kernel_rfl) ⟨?_, ?_, trivial⟩ (by kernel_rfl) ?_
        · exact One.loadE (t := 24) (r := 0) (off := 0) (b := fun G => b1) (vs := fun G => [vv]) (arr := fun G => #[vv]) (T := 24) (fr := (0, 0)) (fun G => ⟨by kernel_rfl⟩) (fun G => by kernel_rfl)
        · exact One.callP (v := fun G => .bool p5) (f := 50) (args := fun G => #[.agg #[vv], .int .i64 n2]) (fun _ _ => by kernel_rfl) (fun G w hs => by
            rw [hp5]
            exact has_ct v vv n2 w H (hs.read 0 rfl) (hv) )
        intro G7 xa xw hDn
        refine hDn.to [1, 2, 5, 6, 16, 17, 18, 26] [] (by kernel_rfl) ?_
        clear hDn
        refine Pre.conv (sl := [(1, pathv), (2, .pointer (some ⟨b1, 0, none⟩)), (5, .int .i64 k0), (6, .int .i64 n2), (16, pathv), (17, .int .i64 n1), (18, .int .i64 k0), (26, .bool (!p5))]) (A := [H]) (L := [some (b1, .cells #[vv] 24 (0, 0)), none]) ?_ (by kernel_rfl) (by kernel_rfl) (by kernel_rfl)
        clear G7
        refine At.then ?_
        refine W.cond (!p5) (by kernel_rfl) (fun xa hs => cnd_of (t := 26) (by kernel_rfl) (by kernel_rfl) hs) (fun hq => ?_) (fun hq => ?_)
        · skip
          have hq4 := hq
          replace hq4 := (iNT (iN hp5 iDF)).1 hq4
          refine W.seq (by kernel_rfl) ?_
          refine W.regV (walks_ct_r54_7 vv pathv H b1 n1 k0 n2 p5) [0] [] (fun G => [.bool false]) (by kernel_rfl) mo_tw (by kernel_rfl) (fun _ _ => by kernel_rfl) trivial (by kernel_rfl) ?_
          intro G8 xa xw hDn
          refine hDn.to [4] [] (by kernel_rfl) ?_
          clear hDn
          refine Pre.conv (sl := [(4, .bool false)]) (A := [H]) (L := [some (b1, .cells #[vv] 24 (0, 0)), none]) ?_ (by kernel_rfl) (by kernel_rfl) (by kernel_rfl)
          clear G8
          refine At.then ?_
          refine W.ret (by kernel_rfl) ?_
          refine At.thenRet ?_
          refine At.blockRet ?_
          refine At.thenRet ?_
          refine At.thenRet ?_
          refine At.blockRet ?_
          refine At.thenRet ?_
          refine At.results (Or.inl rfl) (.bool false) (fun xa xw hs hw => results_one (r := .tmp 4) (by kernel_rfl) (res_tmp (t := 4) (by kernel_rfl) hs)) (fun w' hw => ?_)
          have e0 : false = (decide (Tm.Walks v path)) := by
            exact Tm.walks_no_has (k := k0) (by omega) (by omega) (by assumption) hq4
          exact ⟨congrArg Ending.returned (cong1 (fun (x0 : Bool) => (.bool x0 : Value)) e0), hw.base⟩
        · skip
          have hq5 := hq
          replace hq5 := (iNF (iN hp5 iDT)).1 hq5
          refine W.skip (by kernel_rfl) ?_
          refine At.then ?_
          refine W.seq (by kernel_rfl) ?_
          obtain ⟨p6, hp6⟩ : ∃ zz : Bool, zz = decide (0 < k0) := ⟨_, rfl⟩
          refine W.regV (walks_ct_r54_8 vv pathv H b1 n1 k0 n2 p5 p6) [0] [1] (fun G => [.int .i64 k0]) (by kernel_rfl) mo_tw (by kernel_rfl) (fun _ _ => by kernel_rfl) ⟨?_, trivial⟩ (by kernel_rfl) ?_
          · exact One.bo hp6 (fun _ _ => by kernel_rfl)
          intro G9 xa xw hDn
          refine hDn.to [1, 2, 5, 6, 16, 17, 18, 28] [] (by kernel_rfl) ?_
          clear hDn
          refine Pre.conv (sl := [(1, pathv), (2, .pointer (some ⟨b1, 0, none⟩)), (5, .int .i64 k0), (6, .int .i64 n2), (16, pathv), (17, .int .i64 n1), (18, .int .i64 k0), (28, .bool p6)]) (A := [H]) (L := [some (b1, .cells #[vv] 24 (0, 0)), none]) ?_ (by kernel_rfl) (by kernel_rfl) (by kernel_rfl)
          clear G9
          refine At.then ?_
          refine W.cond p6 (by kernel_rfl) (fun xa hs => cnd_of (t := 28) (by kernel_rfl) (by kernel_rfl) hs) (fun hq => ?_) (fun hq => ?_)
          · skip
            have hq6 := hq
            replace hq6 := (iN hp6 iDT).1 hq6
            refine W.seq (by kernel_rfl) ?_
            obtain ⟨n3, hn3⟩ : ∃ zz : Int, zz = k0 - 1 := ⟨_, rfl⟩
            obtain ⟨n4, hn4⟩ : ∃ zz : Int, zz = path.getD n3.toNat default := ⟨_, rfl⟩
            obtain ⟨x1, hx1⟩ : ∃ zz : DThing, zz = v.getD n4.toNat default := ⟨_, rfl⟩
            have hpv := Tm.walks_prev (k := k0) (by assumption) (by omega) (by assumption) (by assumption)
            refine W.regV (walks_ct_r54_9 vv pathv H b1 n1 k0 n2 p6 n3 n4 x1) [0, 2, 3] [1, 4, 5, 6, 7, 8, 9, 10] (fun G => [.pointer (some ⟨b1, 0, none⟩), pathv, .int .i64 k0]) (by kernel_rfl) mo_tw (by kernel_rfl) (fun _ _ => by kernel_rfl) ⟨?_, ?_, ?_, ?_, ?_, ?_, ?_, ?_, trivial⟩ (by kernel_rfl) ?_
            · exact One.loadE (t := 22) (r := 0) (off := 0) (b := fun G => b1) (vs := fun G => [vv]) (arr := fun G => #[vv]) (T := 24) (fr := (0, 0)) (fun G => ⟨by kernel_rfl⟩) (fun G => by kernel_rfl)
            · exact One.ar hn3 (fun _ _ => by kernel_rfl) (fun G w hs => by omega)
            · exact One.index (t := 26) (e := 3) (size := 1) (v := fun G => pathv) (k := .i64) (n := n3) (fun _ => ⟨by kernel_rfl⟩) (fun G w hs => ⟨_, (hpath).isSl, by first | omega | (simp only [List.length_append, List.length_cons, List.length_nil, List.length_replicate, List.length_set, List.length_take, List.length_drop, List.length_map, List.length_reverse, List.length_range]; omega), by first | omega | (simp only [List.length_append, List.length_cons, List.length_nil, List.length_replicate, List.length_set, List.length_take, List.length_drop, List.length_map, List.length_reverse, List.length_range]; omega)⟩)
            · exact One.loadD (α := Int) (t := 3) (size := 1) (off := 0) (k := n3) (l := fun G => path) (x := fun G => n4) (vs := fun G => [.int .i64 n4]) (v := fun G => pathv) (H := fun G => H) (p := fun G => elemAddr pathv (n3.toNat * 1)) (fun G => ⟨by kernel_rfl⟩) rfl (fun G => by kernel_rfl) (fun G w hs => ⟨(hs.read 0 rfl), hpath, (add_zero' _).symm, by omega, by first | omega | (simp only [List.length_append, List.length_cons, List.length_nil, List.length_replicate, List.length_set, List.length_take, List.length_drop, List.length_map, List.length_reverse, List.length_range]; omega), hn4⟩)
            · exact One.index (t := 22) (e := 44) (size := 5) (v := fun G => vv) (k := .i64) (n := n4) (fun _ => ⟨by kernel_rfl⟩) (fun G w hs => ⟨_, (hv).isSl, by first | omega | (simp only [List.length_append, List.length_cons, List.length_nil, List.length_replicate, List.length_set, List.length_take, List.length_drop, List.length_map, List.length_reverse, List.length_range]; omega), by first | omega | (simp only [List.length_append, List.length_cons, List.length_nil, List.length_replicate, List.length_set, List.length_take, List.length_drop, List.length_map, List.length_reverse, List.length_range]; omega)⟩)
            · exact One.loadD (α := DThing) (t := 44) (size := 5) (off := 0) (k := n4) (l := fun G => v) (x := fun G => x1) (vs := fun G => [.string x1.Text, .int .i64 x1.Value, .int .i64 x1.Blind, .int .i64 x1.Left, .int .i64 x1.Right]) (v := fun G => vv) (H := fun G => H) (p := fun G => elemAddr vv (n4.toNat * 5)) (fun G => ⟨by kernel_rfl⟩) rfl (fun G => by kernel_rfl) (fun G w hs => ⟨(hs.read 0 rfl), hv, (add_zero' _).symm, by omega, by first | omega | (simp only [List.length_append, List.length_cons, List.length_nil, List.length_replicate, List.length_set, List.length_take, List.length_drop, List.length_map, List.length_reverse, List.length_range]; omega), hx1⟩)
            · exact One.new (r := 1) (T := 44) (fun b => .pointer (some ⟨b, 0, none⟩)) (arr := fun G => #[.string ByteArray.empty, .int .i64 0, .int .i64 0, .int .i64 0, .int .i64 0]) (fun G w => by kernel_rfl) (fun G b => by kernel_rfl)
            · exact One.store (t := 44) (r := 1) (off := 0) (T := 44) (b := fun G => (G 9).b) (u := fun G => .agg #[.string x1.Text, .int .i64 x1.Value, .int .i64 x1.Blind, .int .i64 x1.Left, .int .i64 x1.Right]) (vs := fun G => [.string x1.Text, .int .i64 x1.Value, .int .i64 x1.Blind, .int .i64 x1.Left, .int .i64 x1.Right]) (arr := fun G => #[.string ByteArray.empty, .int .i64 0, .int .i64 0, .int .i64 0, .int .i64 0]) (fun G => ⟨by kernel_rfl⟩) (fun G => by kernel_rfl)
            intro G10 xa xw hDn
            refine hDn.to [1, 2, 6, 7, 16, 17, 18] [] (by kernel_rfl) ?_
            clear hDn
            refine Pre.conv (sl := [(1, pathv), (2, .pointer (some ⟨b1, 0, none⟩)), (6, .int .i64 n2), (7, .pointer (some ⟨(G10 9).b, 0, none⟩)), (16, pathv), (17, .int .i64 n1), (18, .int .i64 k0)]) (A := [H]) (L := [some (b1, .cells #[vv] 24 (0, 0)), some ((G10 9).b, .cells #[.string x1.Text, .int .i64 x1.Value, .int .i64 x1.Blind, .int .i64 x1.Left, .int .i64 x1.Right] 44 (0, 0))]) ?_ (by kernel_rfl) (by kernel_rfl) (by kernel_rfl)
            generalize (G10 9).b = b2 at ⊢
            clear G10
            refine At.then ?_
            refine W.seq (by kernel_rfl) ?_
            obtain ⟨p7, hp7⟩ : ∃ zz : Bool, zz = !(decide (x1.Left = n2)) := ⟨_, rfl⟩
            obtain ⟨p8, hp8⟩ : ∃ zz : Bool, zz = !(decide (x1.Right = n2)) := ⟨_, rfl⟩
            obtain ⟨p9, hp9⟩ : ∃ zz : Bool, zz = (p7 && p8) := ⟨_, rfl⟩
            refine W.regV (walks_ct_r54_10 vv pathv H b1 n1 k0 n2 x1 b2 p7 p8 p9) [0, 2, 4, 5, 7] [1, 3, 6, 8, 9] (fun G => [.pointer (some ⟨b2, 3, none⟩), .int .i64 n2, .bool p7, .pointer (some ⟨b2, 4, none⟩), .int .i64 n2]) (by kernel_rfl) mo_tw (by kernel_rfl) (fun _ _ => by kernel_rfl) ⟨?_, ?_, ?_, ?_, ?_, trivial⟩ (by kernel_rfl) ?_
            · exact One.loadE (t := 3) (r := 1) (off := 3) (b := fun G => b2) (vs := fun G => [.int .i64 x1.Left]) (arr := fun G => #[.string x1.Text, .int .i64 x1.Value, .int .i64 x1.Blind, .int .i64 x1.Left, .int .i64 x1.Right]) (T := 44) (fr := (0, 0)) (fun G => ⟨by kernel_rfl⟩) (fun G => by kernel_rfl)
            · exact One.bo hp7 (fun _ _ => by kernel_rfl)
            · exact One.loadE (t := 3) (r := 1) (off := 4) (b := fun G => b2) (vs := fun G => [.int .i64 x1.Right]) (arr := fun G => #[.string x1.Text, .int .i64 x1.Value, .int .i64 x1.Blind, .int .i64 x1.Left, .int .i64 x1.Right]) (T := 44) (fr := (0, 0)) (fun G => ⟨by kernel_rfl⟩) (fun G => by kernel_rfl)
            · exact One.bo hp8 (fun _ _ => by kernel_rfl)
            · subst hp9
              cases p7 <;> exact One.under fun _ _ _ => by kernel_rfl
            intro G11 xa xw hDn
            refine hDn.to [1, 2, 16, 17, 18, 47] [] (by kernel_rfl) ?_
            clear hDn
            refine Pre.conv (sl := [(1, pathv), (2, .pointer (some ⟨b1, 0, none⟩)), (16, pathv), (17, .int .i64 n1), (18, .int .i64 k0), (47, .bool p9)]) (A := [H]) (L := [some (b1, .cells #[vv] 24 (0, 0)), some (b2, .cells #[.string x1.Text, .int .i64 x1.Value, .int .i64 x1.Blind, .int .i64 x1.Left, .int .i64 x1.Right] 44 (0, 0))]) ?_ (by kernel_rfl) (by kernel_rfl) (by kernel_rfl)
            clear G11
            refine At.then ?_
            refine W.cond p9 (by kernel_rfl) (fun xa hs => cnd_of (t := 47) (by kernel_rfl) (by kernel_rfl) hs) (fun hq => ?_) (fun hq => ?_)
            · skip
              have hq7 := hq
              replace hq7 := (iN hp9 (iAT (iN hp7 (iNT iDF)) (iN hp8 (iNT iDF)))).1 hq7
              refine W.seq (by kernel_rfl) ?_
              refine W.regV (walks_ct_r54_11 vv pathv H b1 n1 k0 x1 b2 p9) [0] [] (fun G => [.bool false]) (by kernel_rfl) mo_tw (by kernel_rfl) (fun _ _ => by kernel_rfl) trivial (by kernel_rfl) ?_
              intro G12 xa xw hDn
              refine hDn.to [4] [] (by kernel_rfl) ?_
              clear hDn
              refine Pre.conv (sl := [(4, .bool false)]) (A := [H]) (L := [some (b1, .cells #[vv] 24 (0, 0)), some (b2, .cells #[.string x1.Text, .int .i64 x1.Value, .int .i64 x1.Blind, .int .i64 x1.Left, .int .i64 x1.Right] 44 (0, 0))]) ?_ (by kernel_rfl) (by kernel_rfl) (by kernel_rfl)
              clear G12
              refine At.then ?_
              refine W.ret (by kernel_rfl) ?_
              refine At.blockRet ?_
              refine At.thenRet ?_
              refine At.thenRet ?_
              refine At.blockRet ?_
              refine At.thenRet ?_
              refine At.results (Or.inl rfl) (.bool false) (fun xa xw hs hw => results_one (r := .tmp 4) (by kernel_rfl) (res_tmp (t := 4) (by kernel_rfl) hs)) (fun w' hw => ?_)
              have e0 : false = (decide (Tm.Walks v path)) := by
                exact Tm.walks_no_step (k := k0) (by omega) (by omega) (by assumption) (by assumption) (by assumption) (by assumption) hq7
              exact ⟨congrArg Ending.returned (cong1 (fun (x0 : Bool) => (.bool x0 : Value)) e0), hw.base⟩
            · skip
              have hq8 := hq
              replace hq8 := (iN hp9 (iAF (iN hp7 (iNF iDT)) (iN hp8 (iNF iDT)))).1 hq8
              refine W.skip (by kernel_rfl) ?_
              refine At.blockNormal ?_
              refine At.then ?_
              obtain ⟨n5, hn5⟩ : ∃ zz : Int, zz = k0 + 1 := ⟨_, rfl⟩
              refine W.regV (walks_ct_r54_12 vv pathv H b1 n1 k0 x1 b2 p9 n5) [1] [0] (fun G => [.int .i64 n5]) (by kernel_rfl) mo_tw (by kernel_rfl) (fun _ _ => by kernel_rfl) ⟨?_, trivial⟩ (by kernel_rfl) ?_
              · exact One.ar hn5 (fun _ _ => by kernel_rfl) (fun G w hs => by omega)
              intro G13 xa xw hDn
              refine hDn.to [1, 2, 16, 17, 18] [] (by kernel_rfl) ?_
              clear hDn
              refine Pre.conv (sl := [(1, pathv), (2, .pointer (some ⟨b1, 0, none⟩)), (16, pathv), (17, .int .i64 n1), (18, .int .i64 n5)]) (A := [H]) (L := [some (b1, .cells #[vv] 24 (0, 0)), some (b2, .cells #[.string x1.Text, .int .i64 x1.Value, .int .i64 x1.Blind, .int .i64 x1.Left, .int .i64 x1.Right] 44 (0, 0))]) ?_ (by kernel_rfl) (by kernel_rfl) (by kernel_rfl)
              clear G13
              intro xa xw hs hw
              refine ⟨n5, ⟨hs.sub (by kernel_rfl), hw.mask [true, false] (by kernel_rfl), ?_⟩, ?_⟩
              · skip
                refine ⟨?_, ?_, ?_⟩
                · show 0 ≤ n5
                  first | omega | rfl | (simp; done) | (subst_vars; simp; done)
                · show n5 ≤ n1
                  first | omega | rfl | (simp; done) | (subst_vars; simp; done)
                · show Tm.walksTo v path n5.toNat
                  refine Tm.walks_step (by assumption) (by assumption) (by assumption) (by assumption) (by assumption) ?_
                  intro h; exact ⟨_, _, _, by assumption, by assumption, by assumption, by omega⟩
              · show (n1 - n5).toNat < (n1 - k0).toNat
                omega
          · skip
            have hq9 := hq
            replace hq9 := (iN hp6 iDF).1 hq9
            refine W.skip (by kernel_rfl) ?_
            refine At.blockNormal ?_
            refine At.then ?_
            obtain ⟨n6, hn6⟩ : ∃ zz : Int, zz = k0 + 1 := ⟨_, rfl⟩
            refine W.regV (walks_ct_r54_13 vv pathv H b1 n1 k0 n2 p6 n6) [1] [0] (fun G => [.int .i64 n6]) (by kernel_rfl) mo_tw (by kernel_rfl) (fun _ _ => by kernel_rfl) ⟨?_, trivial⟩ (by kernel_rfl) ?_
            · exact One.ar hn6 (fun _ _ => by kernel_rfl) (fun G w hs => by omega)
            intro G14 xa xw hDn
            refine hDn.to [1, 2, 16, 17, 18] [] (by kernel_rfl) ?_
            clear hDn
            refine Pre.conv (sl := [(1, pathv), (2, .pointer (some ⟨b1, 0, none⟩)), (16, pathv), (17, .int .i64 n1), (18, .int .i64 n6)]) (A := [H]) (L := [some (b1, .cells #[vv] 24 (0, 0)), none]) ?_ (by kernel_rfl) (by kernel_rfl) (by kernel_rfl)
            clear G14
            intro xa xw hs hw
            refine ⟨n6, ⟨hs.sub (by kernel_rfl), hw.mask [true, false] (by kernel_rfl), ?_⟩, ?_⟩
            · skip
              refine ⟨?_, ?_, ?_⟩
              · show 0 ≤ n6
                first | omega | rfl | (simp; done) | (subst_vars; simp; done)
              · show n6 ≤ n1
                first | omega | rfl | (simp; done) | (subst_vars; simp; done)
              · show Tm.walksTo v path n6.toNat
                refine Tm.walks_step (by assumption) (by assumption) (by assumption) (by assumption) (by assumption) ?_
                intro h; omega
            · show (n1 - n6).toNat < (n1 - k0).toNat
              omega
      · skip
        have hq10 := hq
        replace hq10 := (iN hp4 iDF).1 hq10
        refine W.exit 0 (by kernel_rfl) ?_
        refine At.thenExit ?_
        refine At.thenExit ?_
        refine At.blockHit ?_
        refine At.then ?_
        refine W.seq (by kernel_rfl) ?_
        refine W.regV (walks_ct_r54_14 vv pathv H b1 n1 k0 p4) [0] [] (fun G => [.bool true]) (by kernel_rfl) mo_tw (by kernel_rfl) (fun _ _ => by kernel_rfl) trivial (by kernel_rfl) ?_
        intro G15 xa xw hDn
        refine hDn.to [4] [] (by kernel_rfl) ?_
        clear hDn
        refine Pre.conv (sl := [(4, .bool true)]) (A := [H]) (L := [some (b1, .cells #[vv] 24 (0, 0)), none]) ?_ (by kernel_rfl) (by kernel_rfl) (by kernel_rfl)
        clear G15
        refine At.then ?_
        refine W.ret (by kernel_rfl) ?_
        refine At.results (Or.inl rfl) (.bool true) (fun xa xw hs hw => results_one (r := .tmp 4) (by kernel_rfl) (res_tmp (t := 4) (by kernel_rfl) hs)) (fun w' hw => ?_)
        have e0 : true = (decide (Tm.Walks v path)) := by
          symm; rw [decide_eq_true_iff]
          refine ⟨by rcases hq2 with ⟨h, _⟩; first | exact h | exact Decidable.not_not.1 h, by omega, ?_⟩
          rwa [show path.length = k0.toNat by omega]
        exact ⟨congrArg Ending.returned (cong1 (fun (x0 : Bool) => (.bool x0 : Value)) e0), hw.base⟩

noncomputable def reach_ct_r51_0 (vv : Value) (leaf : Int) (H : Heaplet) : RC := { ops := opsAt Try.f51 0, B := [0, 0], sl := [(0, .agg #[vv]), (1, .int .i64 leaf)], A := [H], L := [none, none, none], cs := [{ val := fun G => .pointer (some ⟨(G 0).b, 0, none⟩), ups := [(0, fun G => some ((G 0).b, .cells #[vv] 24 (0, 0)))] }, { val := fun _ => .slice none 0 0 }] }
noncomputable def reach_ct_r51_1 (v : List DThing) (vv : Value) (leaf : Int) (H : Heaplet) (b1 : Nat) (n1 : Int) (l1 : List Bool) : RC := { ops := opsAt Try.f51 1, B := [0, 1, 3, 7, 15], sl := [(1, .int .i64 leaf), (2, .pointer (some ⟨b1, 0, none⟩))], A := [H], L := [some (b1, .cells #[vv] 24 (0, 0)), none, none], cs := [{ val := fun _ => .pointer (some ⟨b1, 0, none⟩) }, { val := fun _ => vv, rds := [0] }, { val := fun _ => .int .i64 n1 }, { val := fun G => (G 3).v, fact := fun G => OSl 4 H l1 (G 3).v (G 3).e, ups := [(1, fun G => (G 3).e)] }, { val := fun G => (G 3).v }] }
noncomputable def reach_ct_r51_2 (vv : Value) (leaf : Int) (H : Heaplet) (b1 : Nat) (v1 : Value) (e1 : Ent) (l2 : List Bool) : RC := { ops := opsAt Try.f51 2, B := [0, 0, 3, 7], sl := [(1, .int .i64 leaf), (2, .pointer (some ⟨b1, 0, none⟩)), (5, v1)], A := [H], L := [some (b1, .cells #[vv] 24 (0, 0)), e1, none], cs := [{ val := fun _ => v1 }, { val := fun _ => .int .i64 leaf }, { val := fun _ => .pointer (some (elemAddr v1 (leaf.toNat * 1))) }, { val := fun _ => undef, fact := fun G => OSl 4 H l2 v1 (G 3).e, ups := [(1, fun G => (G 3).e)], rds := [1] }] }
noncomputable def reach_ct_r51_3 (vv : Value) (leaf : Int) (H : Heaplet) (b1 : Nat) (v1 : Value) (e2 : Ent) (n2 : Int) : RC := { ops := opsAt Try.f51 3, B := [0, 1, 3], sl := [(1, .int .i64 leaf), (2, .pointer (some ⟨b1, 0, none⟩)), (5, v1)], A := [H], L := [some (b1, .cells #[vv] 24 (0, 0)), e2, none], cs := [{ val := fun _ => .int .i64 leaf }, { val := fun _ => .int .i64 n2 }, { val := fun _ => .int .i64 n2 }] }
noncomputable def reach_ct_r51_4 (vv : Value) (H : Heaplet) (b1 : Nat) (v1 : Value) (oute : Ent) (i n3 : Int) (p2 : Bool) : RC := { ops := opsAt Try.f51 4, B := [0, 0, 2, 7], sl := [(2, .pointer (some ⟨b1, 0, none⟩)), (5, v1), (6, .int .i64 i)], A := [H], L := [some (b1, .cells #[vv] 24 (0, 0)), oute, none], cs := [{ val := fun _ => .int .i64 i }, { val := fun _ => v1 }, { val := fun _ => .int .i64 n3 }, { val := fun _ => .bool p2 }] }
noncomputable def reach_ct_r51_5 (vv : Value) (H : Heaplet) (b1 : Nat) (v1 : Value) (oute : Ent) (i : Int) (p2 : Bool) (x1 : DThing) : RC := { ops := opsAt Try.f51 6, B := [0, 1, 0, 7, 15, 0, 63], sl := [(2, .pointer (some ⟨b1, 0, none⟩)), (5, v1), (6, .int .i64 i), (20, .bool p2)], A := [H], L := [some (b1, .cells #[vv] 24 (0, 0)), oute, none], cs := [{ val := fun _ => .pointer (some ⟨b1, 0, none⟩) }, { val := fun _ => vv, rds := [0] }, { val := fun _ => .int .i64 i }, { val := fun _ => .pointer (some (elemAddr vv (i.toNat * 5))) }, { val := fun _ => .agg #[.string x1.Text, .int .i64 x1.Value, .int .i64 x1.Blind, .int .i64 x1.Left, .int .i64 x1.Right] }, { val := fun G => .pointer (some ⟨(G 5).b, 0, none⟩), ups := [(2, fun G => some ((G 5).b, .cells #[.string ByteArray.empty, .int .i64 0, .int .i64 0, .int .i64 0, .int .i64 0] 44 (0, 0)))] }, { val := fun _ => undef, ups := [(2, fun G => some ((G 5).b, .cells #[.string x1.Text, .int .i64 x1.Value, .int .i64 x1.Blind, .int .i64 x1.Left, .int .i64 x1.Right] 44 (0, 0)))] }] }
noncomputable def reach_ct_r51_6 (vv : Value) (H : Heaplet) (b1 : Nat) (v1 : Value) (oute : Ent) (i : Int) (x1 : DThing) (b2 : Nat) (p3 p4 p5 p6 p7 : Bool) (l3 : List Bool) : RC := { ops := opsAt Try.f51 7, B := [0, 0, 0, 4, 12, 28, 60, 60, 188, 508, 1020, 2044, 4092, 4092, 12284, 32764, 65532, 131068, 262140, 524287, 1048575], sl := [(2, .pointer (some ⟨b1, 0, none⟩)), (5, v1), (6, .int .i64 i), (7, .pointer (some ⟨b2, 0, none⟩))], A := [H], L := [some (b1, .cells #[vv] 24 (0, 0)), oute, some (b2, .cells #[.string x1.Text, .int .i64 x1.Value, .int .i64 x1.Blind, .int .i64 x1.Left, .int .i64 x1.Right] 44 (0, 0))], cs := [{ val := fun _ => v1 }, { val := fun _ => .int .i64 i }, { val := fun _ => .agg #[.string x1.Text, .int .i64 x1.Value, .int .i64 x1.Blind, .int .i64 x1.Left, .int .i64 x1.Right], rds := [2] }, { val := fun _ => .bool p3 }, { val := fun _ => .bool (!p3) }, { val := fun _ => .bool (!p3) }, { val := fun _ => v1 }, { val := fun _ => .pointer (some ⟨b2, 3, none⟩) }, { val := fun _ => .int .i64 x1.Left, rds := [2] }, { val := fun _ => .pointer (some (elemAddr v1 (x1.Left.toNat * 1))) }, { val := fun _ => .bool p4, rds := [1] }, { val := fun _ => .bool p4 }, { val := fun _ => v1 }, { val := fun _ => .pointer (some ⟨b2, 4, none⟩) }, { val := fun _ => .int .i64 x1.Right, rds := [2] }, { val := fun _ => .pointer (some (elemAddr v1 (x1.Right.toNat * 1))) }, { val := fun _ => .bool p5, rds := [1] }, { val := fun _ => .bool p6 }, { val := fun _ => .bool p7 }, { val := fun _ => .pointer (some (elemAddr v1 (i.toNat * 1))) }, { val := fun _ => undef, fact := fun G => OSl 4 H l3 v1 (G 20).e, ups := [(1, fun G => (G 20).e)], rds := [1] }] }
noncomputable def reach_ct_r51_7 (vv : Value) (H : Heaplet) (b1 : Nat) (v1 : Value) (i : Int) (x1 : DThing) (b2 : Nat) (e3 : Ent) (n4 : Int) : RC := { ops := opsAt Try.f51 5, B := [0, 1, 3], sl := [(2, .pointer (some ⟨b1, 0, none⟩)), (5, v1), (6, .int .i64 i)], A := [H], L := [some (b1, .cells #[vv] 24 (0, 0)), e3, some (b2, .cells #[.string x1.Text, .int .i64 x1.Value, .int .i64 x1.Blind, .int .i64 x1.Left, .int .i64 x1.Right] 44 (0, 0))], cs := [{ val := fun _ => .int .i64 i }, { val := fun _ => .int .i64 n4 }, { val := fun _ => .int .i64 n4 }] }
noncomputable def reach_ct_r51_8 (vv : Value) (H : Heaplet) (b1 : Nat) (v1 : Value) (oute : Ent) (i : Int) (p2 : Bool) : RC := { ops := opsAt Try.f51 8, B := [0, 1], sl := [(2, .pointer (some ⟨b1, 0, none⟩)), (5, v1), (6, .int .i64 i), (20, .bool p2)], A := [H], L := [some (b1, .cells #[vv] 24 (0, 0)), oute, none], cs := [{ val := fun _ => v1 }, { val := fun _ => v1 }] }
set_option maxRecDepth 10000 in
theorem reach_ct (v : List DThing) (vv : Value) (leaf : Int) (w0 : World) (H : Heaplet) (hA : Agrees w0 H) (hv : RSl H v vv) (hS : Tm.Sound v) (hh : 0 ≤ leaf ∧ leaf < (v.length : Int)) :
    Calls Try.prog 51 #[.agg #[vv], .int .i64 leaf] w0 (Makes H (fun g => g.v) (fun J g => RSl J ((Tm.reachF v leaf)) g.v) w0) := by
  have hE : Ext w0 H H := Ext.refl w0 H
  have hvn := hv.lim
  have hS1 := hS.1
  refine calls_of_W (sl := [(0, .agg #[vv]), (1, .int .i64 leaf)]) (A := [H]) (L := [none, none, none]) Try.func51 (by kernel_rfl) 49 (by kernel_rfl) (by kernel_rfl) (fun J hJ => by simp at hJ; subst hJ; exact hA) (by simp) ?_
  refine W.seq (by kernel_rfl) ?_
  refine W.regV (reach_ct_r51_0 vv leaf H) [1] [0] (fun G => [.slice none 0 0]) (by kernel_rfl) mo_tw (by kernel_rfl) (fun _ _ => by kernel_rfl) ⟨?_, trivial⟩ (by kernel_rfl) ?_
  · exact One.new (r := 0) (T := 24) (fun b => .pointer (some ⟨b, 0, none⟩)) (arr := fun G => #[vv]) (fun G w => by kernel_rfl) (fun G b => by kernel_rfl)
  intro G1 xa xw hDn
  refine hDn.to [1, 2] [] (by kernel_rfl) ?_
  clear hDn
  refine Pre.conv (sl := [(1, .int .i64 leaf), (2, .pointer (some ⟨(G1 0).b, 0, none⟩))]) (A := [H]) (L := [some ((G1 0).b, .cells #[vv] 24 (0, 0)), none, none]) ?_ (by kernel_rfl) (by kernel_rfl) (by kernel_rfl)
  generalize (G1 0).b = b1 at ⊢
  clear G1
  refine At.then ?_
  refine W.seq (by kernel_rfl) ?_
  obtain ⟨n1, hn1⟩ : ∃ zz : Int, zz = (v.length : Int) := ⟨_, rfl⟩
  obtain ⟨l1, hl1⟩ : ∃ zz : List Bool, zz = List.replicate n1.toNat false := ⟨_, rfl⟩
  have hl1n := congrArg List.length hl1; try simp only [List.length_append, List.length_cons, List.length_nil, List.length_replicate, List.length_set, List.length_take, List.length_drop, List.length_map, List.length_reverse, List.length_range] at hl1n
  refine W.regV (reach_ct_r51_1 v vv leaf H b1 n1 l1) [0, 4] [1, 2, 3] (fun G => [.pointer (some ⟨b1, 0, none⟩), (G 3).v]) (by kernel_rfl) mo_tw (by kernel_rfl) (fun _ _ => by kernel_rfl) ⟨?_, ?_, ?_, trivial⟩ (by kernel_rfl) ?_
  · exact One.loadE (t := 22) (r := 0) (off := 0) (b := fun G => b1) (vs := fun G => [vv]) (arr := fun G => #[vv]) (T := 24) (fr := (0, 0)) (fun G => ⟨by kernel_rfl⟩) (fun G => by kernel_rfl)
  · exact One.len (t := 22) (n := n1) (v := fun G => vv) (fun _ => ⟨by kernel_rfl⟩) (fun G w hs => ⟨_, (hv).isSl, hn1⟩)
  · exact One.makeD (α := Bool) (t := 75) (E := 4) (size := 1) (bytes := 1) (r := 1) (n := n1) (row := [.bool false]) (H := fun G => H) (l := fun G => l1) (fun G g => ⟨by kernel_rfl, by kernel_rfl⟩) rfl rfl (fun G w hs => ⟨⟨by omega, by omega, by omega⟩, hl1⟩)
  intro G2 xa xw hDn
  have hf3_1 : OSl 4 H l1 (G2 3).v (G2 3).e := hDn.get 3 (by kernel_rfl) (by kernel_rfl) (by kernel_rfl)
  refine hDn.to [1, 2, 5] [] (by kernel_rfl) ?_
  clear hDn
  refine Pre.conv (sl := [(1, .int .i64 leaf), (2, .pointer (some ⟨b1, 0, none⟩)), (5, (G2 3).v)]) (A := [H]) (L := [some (b1, .cells #[vv] 24 (0, 0)), (G2 3).e, none]) ?_ (by kernel_rfl) (by kernel_rfl) (by kernel_rfl)
  generalize (G2 3).v = v1 at hf3_1 ⊢
  generalize (G2 3).e = e1 at hf3_1 ⊢
  clear G2
  refine At.then ?_
  refine W.seq (by kernel_rfl) ?_
  obtain ⟨p1, hp1⟩ : ∃ zz : Bool, zz = l1.getD leaf.toNat default := ⟨_, rfl⟩
  obtain ⟨l2, hl2⟩ : ∃ zz : List Bool, zz = (l1.set leaf.toNat true) := ⟨_, rfl⟩
  have hl2n := congrArg List.length hl2; try simp only [List.length_append, List.length_cons, List.length_nil, List.length_replicate, List.length_set, List.length_take, List.length_drop, List.length_map, List.length_reverse, List.length_range] at hl2n
  refine W.regV (reach_ct_r51_2 vv leaf H b1 v1 e1 l2) [0, 1] [2, 3] (fun G => [v1, .int .i64 leaf]) (by kernel_rfl) mo_tw (by kernel_rfl) (fun _ _ => by kernel_rfl) ⟨?_, ?_, trivial⟩ (by kernel_rfl) ?_
  · exact One.index (t := 75) (e := 4) (size := 1) (v := fun G => v1) (k := .i64) (n := leaf) (fun _ => ⟨by kernel_rfl⟩) (fun G w hs => ⟨_, (hf3_1).isSl, by first | omega | (simp only [List.length_append, List.length_cons, List.length_nil, List.length_replicate, List.length_set, List.length_take, List.length_drop, List.length_map, List.length_reverse, List.length_range]; omega), by first | omega | (simp only [List.length_append, List.length_cons, List.length_nil, List.length_replicate, List.length_set, List.length_take, List.length_drop, List.length_map, List.length_reverse, List.length_range]; omega)⟩)
  · exact One.storeD (α := Bool) (t := 4) (r := 1) (E := 4) (size := 1) (off := 0) (k := leaf) (l := fun G => l1) (l' := fun G => l2) (x := fun G => p1) (x' := fun G => true) (u := fun G => .bool true) (vs := fun G => [.bool true]) (v := fun G => v1) (e := fun G => e1) (p := fun G => elemAddr v1 (leaf.toNat * 1)) (H := fun G => H) (fun G g => ⟨by kernel_rfl, by kernel_rfl⟩) rfl (fun G => by kernel_rfl) (fun G w hs => ⟨hf3_1, (add_zero' _).symm, by omega, by first | omega | (simp only [List.length_append, List.length_cons, List.length_nil, List.length_replicate, List.length_set, List.length_take, List.length_drop, List.length_map, List.length_reverse, List.length_range]; omega), hp1, hl2, rfl, (all_cons1 rfl rfl), trivial⟩)
  intro G3 xa xw hDn
  have hf3_2 : OSl 4 H l2 v1 (G3 3).e := hDn.get 3 (by kernel_rfl) (by kernel_rfl) (by kernel_rfl)
  refine hDn.to [1, 2, 5] [] (by kernel_rfl) ?_
  clear hDn
  refine Pre.conv (sl := [(1, .int .i64 leaf), (2, .pointer (some ⟨b1, 0, none⟩)), (5, v1)]) (A := [H]) (L := [some (b1, .cells #[vv] 24 (0, 0)), (G3 3).e, none]) ?_ (by kernel_rfl) (by kernel_rfl) (by kernel_rfl)
  generalize (G3 3).e = e2 at hf3_2 ⊢
  clear G3
  refine At.then ?_
  refine W.seq (by kernel_rfl) ?_
  refine W.seq (by kernel_rfl) ?_
  obtain ⟨n2, hn2⟩ : ∃ zz : Int, zz = leaf + 1 := ⟨_, rfl⟩
  refine W.regV (reach_ct_r51_3 vv leaf H b1 v1 e2 n2) [0, 2] [1] (fun G => [.int .i64 leaf, .int .i64 n2]) (by kernel_rfl) mo_tw (by kernel_rfl) (fun _ _ => by kernel_rfl) ⟨?_, trivial⟩ (by kernel_rfl) ?_
  · exact One.ar hn2 (fun _ _ => by kernel_rfl) (fun G w hs => by omega)
  intro G4 xa xw hDn
  refine hDn.to [2, 5, 6] [] (by kernel_rfl) ?_
  clear hDn
  refine Pre.conv (sl := [(2, .pointer (some ⟨b1, 0, none⟩)), (5, v1), (6, .int .i64 n2)]) (A := [H]) (L := [some (b1, .cells #[vv] 24 (0, 0)), e2, none]) ?_ (by kernel_rfl) (by kernel_rfl) (by kernel_rfl)
  clear G4
  refine At.then ?_
  refine W.block 0 (by kernel_rfl) ?_
  refine W.loopS (γ := List Bool × Ent × Int) (fun ⟨out, oute, i⟩ => [(2, .pointer (some ⟨b1, 0, none⟩)), (5, v1), (6, .int .i64 i)]) (fun ⟨out, oute, i⟩ => [H]) (fun ⟨out, oute, i⟩ => [some (b1, .cells #[vv] 24 (0, 0)), oute, none]) (fun ⟨out, oute, i⟩ => (OSl 4 H out v1 oute) ∧ (leaf < i) ∧ (i ≤ (v.length : Int)) ∧ (out = Tm.reachW v leaf i.toNat)) (fun ⟨out, oute, i⟩ => ((v.length : Int) - i).toNat) (l2, e2, n2) (by kernel_rfl) ?_ ?_
  · intro xa xw hs hw
    refine ⟨hs.sub (by kernel_rfl), hw.mask [true, true, false] (by kernel_rfl), ?_⟩
    refine ⟨hf3_2, ?_, ?_, ?_⟩
    · show leaf < n2
      first | omega | rfl | (simp; done) | (subst_vars; simp; done)
    · show n2 ≤ (v.length : Int)
      first | omega | rfl | (simp; done) | (subst_vars; simp; done)
    · show l2 = Tm.reachW v leaf n2.toNat
      rw [hl2, hl1]
      rw [show n2.toNat = (leaf + 1).toNat by omega, ← Tm.reachW_start hh.1 hh.2]
      subst_vars
      simp
  · rintro ⟨out, oute, i⟩ hF
    have hF : (OSl 4 H out v1 oute) ∧ (leaf < i) ∧ (i ≤ (v.length : Int)) ∧ (out = Tm.reachW v leaf i.toNat) := hF
    obtain ⟨hr1, hf3, hf4, hf5⟩ := hF
    show W Try.prog 49 w0 [] (Code.l (Code.l (Code.r (Code.l (Code.r (Code.r (Code.r (body Try.f51)))))))) _ [(2, .pointer (some ⟨b1, 0, none⟩)), (5, v1), (6, .int .i64 i)] [H] [some (b1, .cells #[vv] 24 (0, 0)), oute, none]
    have hr1n := hr1.lim
    have hol : out.length = v.length := by rw [hf5]; exact Tm.reachW_length (by omega)
    refine W.seq (by kernel_rfl) ?_
    refine W.seq (by kernel_rfl) ?_
    obtain ⟨n3, hn3⟩ : ∃ zz : Int, zz = (out.length : Int) := ⟨_, rfl⟩
    obtain ⟨p2, hp2⟩ : ∃ zz : Bool, zz = decide (i < n3) := ⟨_, rfl⟩
    refine W.regV (reach_ct_r51_4 vv H b1 v1 oute i n3 p2) [0, 1] [2, 3] (fun G => [.int .i64 i, v1]) (by kernel_rfl) mo_tw (by kernel_rfl) (fun _ _ => by kernel_rfl) ⟨?_, ?_, trivial⟩ (by kernel_rfl) ?_
    · exact One.len (t := 75) (n := n3) (v := fun G => v1) (fun _ => ⟨by kernel_rfl⟩) (fun G w hs => ⟨_, (hr1).isSl, hn3⟩)
    · exact One.bo hp2 (fun _ _ => by kernel_rfl)
    intro G5 xa xw hDn
    refine hDn.to [2, 5, 6, 20] [] (by kernel_rfl) ?_
    clear hDn
    refine Pre.conv (sl := [(2, .pointer (some ⟨b1, 0, none⟩)), (5, v1), (6, .int .i64 i), (20, .bool p2)]) (A := [H]) (L := [some (b1, .cells #[vv] 24 (0, 0)), oute, none]) ?_ (by kernel_rfl) (by kernel_rfl) (by kernel_rfl)
    clear G5
    refine At.then ?_
    refine W.cond p2 (by kernel_rfl) (fun xa hs => cnd_of (t := 20) (by kernel_rfl) (by kernel_rfl) hs) (fun hq => ?_) (fun hq => ?_)
    · skip
      have hq1 := hq
      replace hq1 := (iN hp2 iDT).1 hq1
      refine W.skip (by kernel_rfl) ?_
      refine At.then ?_
      refine W.seq (by kernel_rfl) ?_
      refine W.block 1 (by kernel_rfl) ?_
      refine W.seq (by kernel_rfl) ?_
      obtain ⟨x1, hx1⟩ : ∃ zz : DThing, zz = v.getD i.toNat default := ⟨_, rfl⟩
      refine W.regV (reach_ct_r51_5 vv H b1 v1 oute i p2 x1) [0, 2] [1, 3, 4, 5, 6] (fun G => [.pointer (some ⟨b1, 0, none⟩), .int .i64 i]) (by kernel_rfl) mo_tw (by kernel_rfl) (fun _ _ => by kernel_rfl) ⟨?_, ?_, ?_, ?_, ?_, trivial⟩ (by kernel_rfl) ?_
      · exact One.loadE (t := 22) (r := 0) (off := 0) (b := fun G => b1) (vs := fun G => [vv]) (arr := fun G => #[vv]) (T := 24) (fr := (0, 0)) (fun G => ⟨by kernel_rfl⟩) (fun G => by kernel_rfl)
      · exact One.index (t := 22) (e := 44) (size := 5) (v := fun G => vv) (k := .i64) (n := i) (fun _ => ⟨by kernel_rfl⟩) (fun G w hs => ⟨_, (hv).isSl, by first | omega | (simp only [List.length_append, List.length_cons, List.length_nil, List.length_replicate, List.length_set, List.length_take, List.length_drop, List.length_map, List.length_reverse, List.length_range]; omega), by first | omega | (simp only [List.length_append, List.length_cons, List.length_nil, List.length_replicate, List.length_set, List.length_take, List.length_drop, List.length_map, List.length_reverse, List.length_range]; omega)⟩)
      · exact One.loadD (α := DThing) (t := 44) (size := 5) (off := 0) (k := i) (l := fun G => v) (x := fun G => x1) (vs := fun G => [.string x1.Text, .int .i64 x1.Value, .int .i64 x1.Blind, .int .i64 x1.Left, .int .i64 x1.Right]) (v := fun G => vv) (H := fun G => H) (p := fun G => elemAddr vv (i.toNat * 5)) (fun G => ⟨by kernel_rfl⟩) rfl (fun G => by kernel_rfl) (fun G w hs => ⟨(hs.read 0 rfl), hv, (add_zero' _).symm, by omega, by first | omega | (simp only [List.length_append, List.length_cons, List.length_nil, List.length_replicate, List.length_set, List.length_take, List.length_drop, List.length_map, List.length_reverse, List.length_range]; omega), hx1⟩)
      · exact One.new (r := 2) (T := 44) (fun b => .pointer (some ⟨b, 0, none⟩)) (arr := fun G => #[.string ByteArray.empty, .int .i64 0, .int .i64 0, .int .i64 0, .int .i64 0]) (fun G w => by kernel_rfl) (fun G b => by kernel_rfl)
      · exact One.store (t := 44) (r := 2) (off := 0) (T := 44) (b := fun G => (G 5).b) (u := fun G => .agg #[.string x1.Text, .int .i64 x1.Value, .int .i64 x1.Blind, .int .i64 x1.Left, .int .i64 x1.Right]) (vs := fun G => [.string x1.Text, .int .i64 x1.Value, .int .i64 x1.Blind, .int .i64 x1.Left, .int .i64 x1.Right]) (arr := fun G => #[.string ByteArray.empty, .int .i64 0, .int .i64 0, .int .i64 0, .int .i64 0]) (fun G => ⟨by kernel_rfl⟩) (fun G => by kernel_rfl)
      intro G6 xa xw hDn
      refine hDn.to [2, 5, 6, 7] [] (by kernel_rfl) ?_
      clear hDn
      refine Pre.conv (sl := [(2, .pointer (some ⟨b1, 0, none⟩)), (5, v1), (6, .int .i64 i), (7, .pointer (some ⟨(G6 5).b, 0, none⟩))]) (A := [H]) (L := [some (b1, .cells #[vv] 24 (0, 0)), oute, some ((G6 5).b, .cells #[.string x1.Text, .int .i64 x1.Value, .int .i64 x1.Blind, .int .i64 x1.Left, .int .i64 x1.Right] 44 (0, 0))]) ?_ (by kernel_rfl) (by kernel_rfl) (by kernel_rfl)
      generalize (G6 5).b = b2 at ⊢
      clear G6
      refine At.then ?_
      obtain ⟨p3, hp3⟩ : ∃ zz : Bool, zz = (decide (x1.Left = -1)) := ⟨_, rfl⟩
      obtain ⟨p4, hp4⟩ : ∃ zz : Bool, zz = out.getD x1.Left.toNat default := ⟨_, rfl⟩
      obtain ⟨p5, hp5⟩ : ∃ zz : Bool, zz = out.getD x1.Right.toNat default := ⟨_, rfl⟩
      obtain ⟨p6, hp6⟩ : ∃ zz : Bool, zz = (p4 || p5) := ⟨_, rfl⟩
      obtain ⟨p7, hp7⟩ : ∃ zz : Bool, zz = (!p3 && p6) := ⟨_, rfl⟩
      obtain ⟨p8, hp8⟩ : ∃ zz : Bool, zz = out.getD i.toNat default := ⟨_, rfl⟩
      obtain ⟨l3, hl3⟩ : ∃ zz : List Bool, zz = (out.set i.toNat p7) := ⟨_, rfl⟩
      have hl3n := congrArg List.length hl3; try simp only [List.length_append, List.length_cons, List.length_nil, List.length_replicate, List.length_set, List.length_take, List.length_drop, List.length_map, List.length_reverse, List.length_range] at hl3n
      refine W.regV (reach_ct_r51_6 vv H b1 v1 oute i x1 b2 p3 p4 p5 p6 p7 l3) [0, 1, 4, 5, 6, 7, 11, 12, 13] [2, 3, 8, 9, 10, 14, 15, 16, 17, 18, 19, 20] (fun G => [v1, .int .i64 i, .bool (!p3), .bool (!p3), v1, .pointer (some ⟨b2, 3, none⟩), .bool p4, v1, .pointer (some ⟨b2, 4, none⟩)]) (by kernel_rfl) mo_tw (by kernel_rfl) (fun _ _ => by kernel_rfl) ⟨?_, ?_, ?_, ?_, ?_, ?_, ?_, ?_, ?_, ?_, ?_, ?_, trivial⟩ (by kernel_rfl) ?_
      · exact One.loadE (t := 44) (r := 2) (off := 0) (b := fun G => b2) (vs := fun G => [.string x1.Text, .int .i64 x1.Value, .int .i64 x1.Blind, .int .i64 x1.Left, .int .i64 x1.Right]) (arr := fun G => #[.string x1.Text, .int .i64 x1.Value, .int .i64 x1.Blind, .int .i64 x1.Left, .int .i64 x1.Right]) (T := 44) (fr := (0, 0)) (fun G => ⟨by kernel_rfl⟩) (fun G => by kernel_rfl)
      · exact One.callP (v := fun G => .bool p3) (f := 56) (args := fun G => #[.agg #[.string x1.Text, .int .i64 x1.Value, .int .i64 x1.Blind, .int .i64 x1.Left, .int .i64 x1.Right]]) (fun _ _ => by kernel_rfl) (fun G w hs => by
          rw [hp3]
          exact isLeaf_ct x1.Text x1.Value x1.Blind x1.Left x1.Right w )
      · exact One.loadE (t := 3) (r := 2) (off := 3) (b := fun G => b2) (vs := fun G => [.int .i64 x1.Left]) (arr := fun G => #[.string x1.Text, .int .i64 x1.Value, .int .i64 x1.Blind, .int .i64 x1.Left, .int .i64 x1.Right]) (T := 44) (fr := (0, 0)) (fun G => ⟨by kernel_rfl⟩) (fun G => by kernel_rfl)
      · exact One.index (t := 75) (e := 4) (size := 1) (v := fun G => v1) (k := .i64) (n := x1.Left) (fun _ => ⟨by kernel_rfl⟩) (fun G w hs => by
          have hg := gd_of hs (p := (true && ((!p3) == true))) (by kernel_rfl)
          have hg0 := (iNT (iN hp3 iDF)).1 (eqT (andR hg))
          have hsp := Tm.sound_pair hS (k := i) (by omega) (by omega) (by assumption) (by first | exact hg0 | exact hg1)
          exact ⟨_, (hr1).isSl, by first | omega | (simp only [List.length_append, List.length_cons, List.length_nil, List.length_replicate, List.length_set, List.length_take, List.length_drop, List.length_map, List.length_reverse, List.length_range]; omega), by first | omega | (simp only [List.length_append, List.length_cons, List.length_nil, List.length_replicate, List.length_set, List.length_take, List.length_drop, List.length_map, List.length_reverse, List.length_range]; omega)⟩)
      · exact One.loadD (α := Bool) (t := 4) (size := 1) (off := 0) (k := x1.Left) (l := fun G => out) (x := fun G => p4) (vs := fun G => [.bool p4]) (v := fun G => v1) (H := fun G => (hun (entH oute) H)) (p := fun G => elemAddr v1 (x1.Left.toNat * 1)) (fun G => ⟨by kernel_rfl⟩) rfl (fun G => by kernel_rfl) (fun G w hs => by
          have hg := gd_of hs (p := (true && ((!p3) == true))) (by kernel_rfl)
          have hg0 := (iNT (iN hp3 iDF)).1 (eqT (andR hg))
          have hsp := Tm.sound_pair hS (k := i) (by omega) (by omega) (by assumption) (by first | exact hg0 | exact hg1)
          exact ⟨(hun_agrees (entH_agrees (hs.own (r := 1) (e := oute) (by kernel_rfl))) (hs.read 0 rfl)), ((hr1).read (hs.own (r := 1) (e := oute) (by kernel_rfl)) (hs.read 0 rfl)), (add_zero' _).symm, by omega, by first | omega | (simp only [List.length_append, List.length_cons, List.length_nil, List.length_replicate, List.length_set, List.length_take, List.length_drop, List.length_map, List.length_reverse, List.length_range]; omega), hp4⟩)
      · exact One.loadE (t := 3) (r := 2) (off := 4) (b := fun G => b2) (vs := fun G => [.int .i64 x1.Right]) (arr := fun G => #[.string x1.Text, .int .i64 x1.Value, .int .i64 x1.Blind, .int .i64 x1.Left, .int .i64 x1.Right]) (T := 44) (fr := (0, 0)) (fun G => ⟨by kernel_rfl⟩) (fun G => by kernel_rfl)
      · exact One.index (t := 75) (e := 4) (size := 1) (v := fun G => v1) (k := .i64) (n := x1.Right) (fun _ => ⟨by kernel_rfl⟩) (fun G w hs => by
          have hg := gd_of hs (p := ((true && ((!p3) == true)) && (p4 == false))) (by kernel_rfl)
          have hg0 := (iN hp4 Iff.rfl).1 (eqF (andR hg))
          have hg1 := (iNT (iN hp3 iDF)).1 (eqT (andR (andL hg)))
          have hsp := Tm.sound_pair hS (k := i) (by omega) (by omega) (by assumption) (by first | exact hg0 | exact hg1)
          exact ⟨_, (hr1).isSl, by first | omega | (simp only [List.length_append, List.length_cons, List.length_nil, List.length_replicate, List.length_set, List.length_take, List.length_drop, List.length_map, List.length_reverse, List.length_range]; omega), by first | omega | (simp only [List.length_append, List.length_cons, List.length_nil, List.length_replicate, List.length_set, List.length_take, List.length_drop, List.length_map, List.length_reverse, List.length_range]; omega)⟩)
      · exact One.loadD (α := Bool) (t := 4) (size := 1) (off := 0) (k := x1.Right) (l := fun G => out) (x := fun G => p5) (vs := fun G => [.bool p5]) (v := fun G => v1) (H := fun G => (hun (entH oute) H)) (p := fun G => elemAddr v1 (x1.Right.toNat * 1)) (fun G => ⟨by kernel_rfl⟩) rfl (fun G => by kernel_rfl) (fun G w hs => by
          have hg := gd_of hs (p := ((true && ((!p3) == true)) && (p4 == false))) (by kernel_rfl)
          have hg0 := (iN hp4 Iff.rfl).1 (eqF (andR hg))
          have hg1 := (iNT (iN hp3 iDF)).1 (eqT (andR (andL hg)))
          have hsp := Tm.sound_pair hS (k := i) (by omega) (by omega) (by assumption) (by first | exact hg0 | exact hg1)
          exact ⟨(hun_agrees (entH_agrees (hs.own (r := 1) (e := oute) (by kernel_rfl))) (hs.read 0 rfl)), ((hr1).read (hs.own (r := 1) (e := oute) (by kernel_rfl)) (hs.read 0 rfl)), (add_zero' _).symm, by omega, by first | omega | (simp only [List.length_append, List.length_cons, List.length_nil, List.length_replicate, List.length_set, List.length_take, List.length_drop, List.length_map, List.length_reverse, List.length_range]; omega), hp5⟩)
      · subst hp6
        refine One.under fun G w hs => ?_
        revert hs
        cases p4
        · cases p3
          · intro _; kernel_rfl
          · intro hs; exact absurd hs.gd (by rw [show RC.gd _ _ 17 = false from by kernel_rfl]; decide)
        · cases p3
          · intro _; kernel_rfl
          · intro hs; exact absurd hs.gd (by rw [show RC.gd _ _ 17 = false from by kernel_rfl]; decide)
      · subst hp7
        cases p3 <;> exact One.under fun _ _ _ => by kernel_rfl
      · exact One.index (t := 75) (e := 4) (size := 1) (v := fun G => v1) (k := .i64) (n := i) (fun _ => ⟨by kernel_rfl⟩) (fun G w hs => ⟨_, (hr1).isSl, by first | omega | (simp only [List.length_append, List.length_cons, List.length_nil, List.length_replicate, List.length_set, List.length_take, List.length_drop, List.length_map, List.length_reverse, List.length_range]; omega), by first | omega | (simp only [List.length_append, List.length_cons, List.length_nil, List.length_replicate, List.length_set, List.length_take, List.length_drop, List.length_map, List.length_reverse, List.length_range]; omega)⟩)
      · exact One.storeD (α := Bool) (t := 4) (r := 1) (E := 4) (size := 1) (off := 0) (k := i) (l := fun G => out) (l' := fun G => l3) (x := fun G => p8) (x' := fun G => p7) (u := fun G => .bool p7) (vs := fun G => [.bool p7]) (v := fun G => v1) (e := fun G => oute) (p := fun G => elemAddr v1 (i.toNat * 1)) (H := fun G => H) (fun G g => ⟨by kernel_rfl, by kernel_rfl⟩) rfl (fun G => by kernel_rfl) (fun G w hs => ⟨hr1, (add_zero' _).symm, by omega, by first | omega | (simp only [List.length_append, List.length_cons, List.length_nil, List.length_replicate, List.length_set, List.length_take, List.length_drop, List.length_map, List.length_reverse, List.length_range]; omega), hp8, hl3, rfl, (all_cons1 rfl rfl), trivial⟩)
      intro G7 xa xw hDn
      have hf20_6 : OSl 4 H l3 v1 (G7 20).e := hDn.get 20 (by kernel_rfl) (by kernel_rfl) (by kernel_rfl)
      refine hDn.to [2, 5, 6] [] (by kernel_rfl) ?_
      clear hDn
      refine Pre.conv (sl := [(2, .pointer (some ⟨b1, 0, none⟩)), (5, v1), (6, .int .i64 i)]) (A := [H]) (L := [some (b1, .cells #[vv] 24 (0, 0)), (G7 20).e, some (b2, .cells #[.string x1.Text, .int .i64 x1.Value, .int .i64 x1.Blind, .int .i64 x1.Left, .int .i64 x1.Right] 44 (0, 0))]) ?_ (by kernel_rfl) (by kernel_rfl) (by kernel_rfl)
      generalize (G7 20).e = e3 at hf20_6 ⊢
      clear G7
      refine At.blockNormal ?_
      refine At.then ?_
      obtain ⟨n4, hn4⟩ : ∃ zz : Int, zz = i + 1 := ⟨_, rfl⟩
      refine W.regV (reach_ct_r51_7 vv H b1 v1 i x1 b2 e3 n4) [0, 2] [1] (fun G => [.int .i64 i, .int .i64 n4]) (by kernel_rfl) mo_tw (by kernel_rfl) (fun _ _ => by kernel_rfl) ⟨?_, trivial⟩ (by kernel_rfl) ?_
      · exact One.ar hn4 (fun _ _ => by kernel_rfl) (fun G w hs => by omega)
      intro G8 xa xw hDn
      refine hDn.to [2, 5, 6] [] (by kernel_rfl) ?_
      clear hDn
      refine Pre.conv (sl := [(2, .pointer (some ⟨b1, 0, none⟩)), (5, v1), (6, .int .i64 n4)]) (A := [H]) (L := [some (b1, .cells #[vv] 24 (0, 0)), e3, some (b2, .cells #[.string x1.Text, .int .i64 x1.Value, .int .i64 x1.Blind, .int .i64 x1.Left, .int .i64 x1.Right] 44 (0, 0))]) ?_ (by kernel_rfl) (by kernel_rfl) (by kernel_rfl)
      clear G8
      intro xa xw hs hw
      refine ⟨(l3, e3, n4), ⟨hs.sub (by kernel_rfl), hw.mask [true, true, false] (by kernel_rfl), ?_⟩, ?_⟩
      · skip
        refine ⟨hf20_6, ?_, ?_, ?_⟩
        · show leaf < n4
          first | omega | rfl | (simp; done) | (subst_vars; simp; done)
        · show n4 ≤ (v.length : Int)
          first | omega | rfl | (simp; done) | (subst_vars; simp; done)
        · show l3 = Tm.reachW v leaf n4.toNat
          rw [hl3]
          exact Tm.reach_round hS hh.1 (by omega) (by omega) (by assumption) hf5 (by rw [hp7, hp3, hp6, hp4, hp5]; try rfl) (by assumption)
      · show ((v.length : Int) - n4).toNat < ((v.length : Int) - i).toNat
        omega
    · skip
      have hq2 := hq
      replace hq2 := (iN hp2 iDF).1 hq2
      refine W.exit 0 (by kernel_rfl) ?_
      refine At.thenExit ?_
      refine At.thenExit ?_
      refine At.blockHit ?_
      refine At.then ?_
      refine W.seq (by kernel_rfl) ?_
      refine W.regV (reach_ct_r51_8 vv H b1 v1 oute i p2) [0, 1] [] (fun G => [v1, v1]) (by kernel_rfl) mo_tw (by kernel_rfl) (fun _ _ => by kernel_rfl) trivial (by kernel_rfl) ?_
      intro G9 xa xw hDn
      refine hDn.to [4] [] (by kernel_rfl) ?_
      clear hDn
      refine Pre.conv (sl := [(4, v1)]) (A := [H]) (L := [some (b1, .cells #[vv] 24 (0, 0)), oute, none]) ?_ (by kernel_rfl) (by kernel_rfl) (by kernel_rfl)
      clear G9
      refine At.then ?_
      refine W.ret (by kernel_rfl) ?_
      refine Pre.freeze 1 (e := oute) (by kernel_rfl) hE (fun K1 hk1 hk2 hE1 => ?_)
      have hr2 := (hr1).frozen hk1 hk2
      have hr3 := (hv).mono hk1
      refine Pre.conv (L := [some (b1, .cells #[vv] 24 (0, 0)), none, none]) ?_ rfl rfl (by kernel_rfl)
      refine At.results (Or.inl rfl) (v1) (fun xa xw hs hw => results_one (r := .tmp 4) (by kernel_rfl) (res_tmp (t := 4) (by kernel_rfl) hs)) (fun w' hw => ?_)
      have e0 : out = (Tm.reachF v leaf) := by
        rw [hf5]
        exact Tm.reachW_end (by omega)
      exact Makes.ret v1 undef undef hA hE1 hw (fun N => rfl) (fun N J hJ => (e0 ▸ (hr2).mono hJ))

noncomputable def path_ct_r20_0 (vv : Value) (root leaf : Int) (H : Heaplet) : RC := { ops := opsAt Try.f20 0, B := [0, 0], sl := [(0, .agg #[vv]), (1, .int .i64 root), (2, .int .i64 leaf)], A := [H], L := [none, none, none, none], cs := [{ val := fun G => .pointer (some ⟨(G 0).b, 0, none⟩), ups := [(0, fun G => some ((G 0).b, .cells #[vv] 24 (0, 0)))] }, { val := fun _ => .slice none 0 0 }] }
noncomputable def path_ct_r20_1 (vv : Value) (root leaf : Int) (H : Heaplet) (b1 : Nat) (p1 p2 p3 p4 p5 : Bool) : RC := { ops := opsAt Try.f20 1, B := [0, 1, 3, 7, 15, 15, 63, 127, 255, 511, 1023, 1023, 4095, 8191, 16383], sl := [(1, .int .i64 root), (2, .int .i64 leaf), (3, .pointer (some ⟨b1, 0, none⟩))], A := [H], L := [some (b1, .cells #[vv] 24 (0, 0)), none, none, none], cs := [{ val := fun _ => .agg #[vv], rds := [0] }, { val := fun _ => .bool p1 }, { val := fun _ => .bool (!p1) }, { val := fun _ => .bool (!p1) }, { val := fun _ => .agg #[vv], rds := [0] }, { val := fun _ => .int .i64 root }, { val := fun _ => .bool p2 }, { val := fun _ => .bool (!p2) }, { val := fun _ => .bool p3 }, { val := fun _ => .bool p3 }, { val := fun _ => .agg #[vv], rds := [0] }, { val := fun _ => .int .i64 leaf }, { val := fun _ => .bool p4 }, { val := fun _ => .bool (!p4) }, { val := fun _ => .bool p5 }] }
noncomputable def path_ct_r20_2 (vv : Value) (root leaf : Int) (H : Heaplet) (b1 : Nat) (p5 : Bool) : RC := { ops := opsAt Try.f20 2, B := [0], sl := [(1, .int .i64 root), (2, .int .i64 leaf), (3, .pointer (some ⟨b1, 0, none⟩)), (27, .bool p5)], A := [H], L := [some (b1, .cells #[vv] 24 (0, 0)), none, none, none], cs := [{ val := fun _ => .slice none 0 0 }] }
noncomputable def path_ct_r20_3 (w0 : World) (v : List DThing) (vv : Value) (root leaf : Int) (H : Heaplet) (b1 : Nat) (p5 : Bool) (l1 : List Bool) : RC := { ops := opsAt Try.f20 3, B := [0, 0, 3, 7], sl := [(1, .int .i64 root), (2, .int .i64 leaf), (3, .pointer (some ⟨b1, 0, none⟩)), (27, .bool p5)], A := [H], L := [some (b1, .cells #[vv] 24 (0, 0)), none, none, none], cs := [{ val := fun _ => .agg #[vv], rds := [0] }, { val := fun _ => .int .i64 leaf }, { val := fun G => (G 2).v, fact := fun G => (RSl (hun (G 2).H H) l1 (G 2).v) ∧ New w0 (G 2).H }, { val := fun G => (G 2).v }] }
noncomputable def path_ct_r20_4 (vv : Value) (root leaf : Int) (b1 : Nat) (v1 : Value) (K1 : Heaplet) (p6 : Bool) : RC := { ops := opsAt Try.f20 4, B := [0, 0, 3, 7, 15], sl := [(1, .int .i64 root), (2, .int .i64 leaf), (3, .pointer (some ⟨b1, 0, none⟩)), (7, v1)], A := [K1], L := [some (b1, .cells #[vv] 24 (0, 0)), none, none, none], cs := [{ val := fun _ => v1 }, { val := fun _ => .int .i64 root }, { val := fun _ => .pointer (some (elemAddr v1 (root.toNat * 1))) }, { val := fun _ => .bool p6 }, { val := fun _ => .bool (!p6) }] }
noncomputable def path_ct_r20_5 (vv : Value) (root leaf : Int) (b1 : Nat) (v1 : Value) (K1 : Heaplet) (p6 : Bool) : RC := { ops := opsAt Try.f20 5, B := [0], sl := [(1, .int .i64 root), (2, .int .i64 leaf), (3, .pointer (some ⟨b1, 0, none⟩)), (7, v1), (35, .bool (!p6))], A := [K1], L := [some (b1, .cells #[vv] 24 (0, 0)), none, none, none], cs := [{ val := fun _ => .slice none 0 0 }] }
noncomputable def path_ct_r20_6 (vv : Value) (root leaf : Int) (b1 : Nat) (v1 : Value) (K1 : Heaplet) (p6 : Bool) : RC := { ops := opsAt Try.f20 6, B := [0, 1, 3], sl := [(1, .int .i64 root), (2, .int .i64 leaf), (3, .pointer (some ⟨b1, 0, none⟩)), (7, v1), (35, .bool (!p6))], A := [K1], L := [some (b1, .cells #[vv] 24 (0, 0)), none, none, none], cs := [{ val := fun _ => .int .i64 root }, { val := fun G => .slice (some ⟨(G 1).b, 0, none⟩) 1 1, ups := [(1, fun G => (some ((G 1).b, .cells #[.int .i64 root] 3 (0, 0))))] }, { val := fun G => .slice (some ⟨(G 1).b, 0, none⟩) 1 1 }] }
noncomputable def path_ct_r20_7 (vv : Value) (root leaf : Int) (b1 : Nat) (v1 : Value) (K1 : Heaplet) (b2 : Nat) : RC := { ops := opsAt Try.f20 7, B := [0, 1], sl := [(1, .int .i64 root), (2, .int .i64 leaf), (3, .pointer (some ⟨b1, 0, none⟩)), (7, v1), (8, .slice (some ⟨b2, 0, none⟩) 1 1)], A := [K1], L := [some (b1, .cells #[vv] 24 (0, 0)), (some (b2, .cells #[.int .i64 root] 3 (0, 0))), none, none], cs := [{ val := fun _ => .int .i64 root }, { val := fun _ => .int .i64 root }] }
noncomputable def path_ct_r20_8 (vv : Value) (leaf : Int) (b1 : Nat) (v1 : Value) (K1 : Heaplet) (pathv : Value) (pathe : Ent) (cur : Int) (p7 : Bool) : RC := { ops := opsAt Try.f20 8, B := [0, 0, 3], sl := [(2, .int .i64 leaf), (3, .pointer (some ⟨b1, 0, none⟩)), (7, v1), (8, pathv), (9, .int .i64 cur)], A := [K1], L := [some (b1, .cells #[vv] 24 (0, 0)), pathe, none, none], cs := [{ val := fun _ => .int .i64 cur }, { val := fun _ => .int .i64 leaf }, { val := fun _ => .bool p7 }] }
noncomputable def path_ct_r20_9 (vv : Value) (leaf : Int) (b1 : Nat) (v1 : Value) (K1 : Heaplet) (pathv : Value) (pathe : Ent) (cur : Int) (p7 : Bool) (x1 : DThing) : RC := { ops := opsAt Try.f20 9, B := [0, 1, 0, 7, 15, 0, 63], sl := [(2, .int .i64 leaf), (3, .pointer (some ⟨b1, 0, none⟩)), (7, v1), (8, pathv), (9, .int .i64 cur), (41, .bool p7)], A := [K1], L := [some (b1, .cells #[vv] 24 (0, 0)), pathe, none, none], cs := [{ val := fun _ => .pointer (some ⟨b1, 0, none⟩) }, { val := fun _ => vv, rds := [0] }, { val := fun _ => .int .i64 cur }, { val := fun _ => .pointer (some (elemAddr vv (cur.toNat * 5))) }, { val := fun _ => .agg #[.string x1.Text, .int .i64 x1.Value, .int .i64 x1.Blind, .int .i64 x1.Left, .int .i64 x1.Right] }, { val := fun G => .pointer (some ⟨(G 5).b, 0, none⟩), ups := [(2, fun G => some ((G 5).b, .cells #[.string ByteArray.empty, .int .i64 0, .int .i64 0, .int .i64 0, .int .i64 0] 44 (0, 0)))] }, { val := fun _ => undef, ups := [(2, fun G => some ((G 5).b, .cells #[.string x1.Text, .int .i64 x1.Value, .int .i64 x1.Blind, .int .i64 x1.Left, .int .i64 x1.Right] 44 (0, 0)))] }] }
noncomputable def path_ct_r20_10 (vv : Value) (leaf : Int) (b1 : Nat) (v1 : Value) (K1 : Heaplet) (pathv : Value) (pathe : Ent) (x1 : DThing) (b3 : Nat) (n1 n2 : Int) : RC := { ops := opsAt Try.f20 10, B := [0, 1, 0, 4, 15, 0, 32, 0, 128, 480, 31, 2047], sl := [(2, .int .i64 leaf), (3, .pointer (some ⟨b1, 0, none⟩)), (7, v1), (8, pathv), (10, .pointer (some ⟨b3, 0, none⟩))], A := [K1], L := [some (b1, .cells #[vv] 24 (0, 0)), pathe, some (b3, .cells #[.string x1.Text, .int .i64 x1.Value, .int .i64 x1.Blind, .int .i64 x1.Left, .int .i64 x1.Right] 44 (0, 0)), none], cs := [{ val := fun _ => .pointer (some ⟨b3, 3, none⟩) }, { val := fun _ => .int .i64 x1.Left, rds := [2] }, { val := fun _ => .pointer (some ⟨b3, 4, none⟩) }, { val := fun _ => .int .i64 x1.Right, rds := [2] }, { val := fun _ => .int .i64 n1 }, { val := fun _ => .pointer (some ⟨b3, 3, none⟩) }, { val := fun _ => .int .i64 x1.Left, rds := [2] }, { val := fun _ => .pointer (some ⟨b3, 4, none⟩) }, { val := fun _ => .int .i64 x1.Right, rds := [2] }, { val := fun _ => .int .i64 n2 }, { val := fun _ => .int .i64 n1 }, { val := fun _ => .int .i64 n2 }] }
noncomputable def path_ct_r20_11 (vv : Value) (leaf : Int) (b1 : Nat) (v1 : Value) (K1 : Heaplet) (pathv : Value) (pathe : Ent) (x1 : DThing) (b3 : Nat) (n1 n2 : Int) : RC := { ops := opsAt Try.f20 11, B := [0, 1], sl := [(2, .int .i64 leaf), (3, .pointer (some ⟨b1, 0, none⟩)), (7, v1), (8, pathv), (11, .int .i64 n1), (12, .int .i64 n2)], A := [K1], L := [some (b1, .cells #[vv] 24 (0, 0)), pathe, some (b3, .cells #[.string x1.Text, .int .i64 x1.Value, .int .i64 x1.Blind, .int .i64 x1.Left, .int .i64 x1.Right] 44 (0, 0)), none], cs := [{ val := fun _ => .int .i64 n1 }, { val := fun _ => .int .i64 n1 }] }
noncomputable def path_ct_r20_12 (vv : Value) (leaf : Int) (b1 : Nat) (v1 : Value) (K1 : Heaplet) (pathv : Value) (pathe : Ent) (x1 : DThing) (b3 : Nat) (n1 n2 : Int) (p8 : Bool) : RC := { ops := opsAt Try.f20 12, B := [0, 0, 3, 7, 15], sl := [(2, .int .i64 leaf), (3, .pointer (some ⟨b1, 0, none⟩)), (7, v1), (8, pathv), (9, .int .i64 n1), (11, .int .i64 n1), (12, .int .i64 n2)], A := [K1], L := [some (b1, .cells #[vv] 24 (0, 0)), pathe, some (b3, .cells #[.string x1.Text, .int .i64 x1.Value, .int .i64 x1.Blind, .int .i64 x1.Left, .int .i64 x1.Right] 44 (0, 0)), none], cs := [{ val := fun _ => v1 }, { val := fun _ => .int .i64 n1 }, { val := fun _ => .pointer (some (elemAddr v1 (n1.toNat * 1))) }, { val := fun _ => .bool p8 }, { val := fun _ => .bool (!p8) }] }
noncomputable def path_ct_r20_13 (vv : Value) (leaf : Int) (b1 : Nat) (v1 : Value) (K1 : Heaplet) (pathv : Value) (pathe : Ent) (x1 : DThing) (b3 : Nat) (n1 n2 : Int) (p8 : Bool) : RC := { ops := opsAt Try.f20 13, B := [0, 1], sl := [(2, .int .i64 leaf), (3, .pointer (some ⟨b1, 0, none⟩)), (7, v1), (8, pathv), (9, .int .i64 n1), (12, .int .i64 n2), (62, .bool (!p8))], A := [K1], L := [some (b1, .cells #[vv] 24 (0, 0)), pathe, some (b3, .cells #[.string x1.Text, .int .i64 x1.Value, .int .i64 x1.Blind, .int .i64 x1.Left, .int .i64 x1.Right] 44 (0, 0)), none], cs := [{ val := fun _ => .int .i64 n2 }, { val := fun _ => .int .i64 n2 }] }
noncomputable def path_ct_r20_14 (v : List DThing) (vv : Value) (leaf : Int) (b1 : Nat) (v1 : Value) (K1 : Heaplet) (pathv : Value) (pathe : Ent) (x1 : DThing) (b3 : Nat) (n2 : Int) (l2 : List Int) : RC := { ops := opsAt Try.f20 14, B := [0, 0, 2, 7, 15], sl := [(2, .int .i64 leaf), (3, .pointer (some ⟨b1, 0, none⟩)), (7, v1), (8, pathv), (9, .int .i64 n2)], A := [K1], L := [some (b1, .cells #[vv] 24 (0, 0)), pathe, some (b3, .cells #[.string x1.Text, .int .i64 x1.Value, .int .i64 x1.Blind, .int .i64 x1.Left, .int .i64 x1.Right] 44 (0, 0)), none], cs := [{ val := fun _ => pathv }, { val := fun _ => .int .i64 n2 }, { val := fun G => .slice (some ⟨(G 2).b, 0, none⟩) 1 1, ups := [(3, fun G => (some ((G 2).b, .cells #[.int .i64 n2] 3 (0, 0))))] }, { val := fun G => (G 3).v, fact := fun G => OSl 3 K1 l2 (G 3).v (G 3).e, ups := [(1, fun G => (G 3).e)], rds := [3] }, { val := fun G => (G 3).v }] }
noncomputable def path_ct_r20_15 (v : List DThing) (vv : Value) (leaf : Int) (b1 : Nat) (v1 : Value) (K1 : Heaplet) (pathv : Value) (pathe : Ent) (x1 : DThing) (b3 : Nat) (n1 n2 : Int) (p8 : Bool) (l3 : List Int) : RC := { ops := opsAt Try.f20 14, B := [0, 0, 2, 7, 15], sl := [(2, .int .i64 leaf), (3, .pointer (some ⟨b1, 0, none⟩)), (7, v1), (8, pathv), (9, .int .i64 n1), (12, .int .i64 n2), (62, .bool (!p8))], A := [K1], L := [some (b1, .cells #[vv] 24 (0, 0)), pathe, some (b3, .cells #[.string x1.Text, .int .i64 x1.Value, .int .i64 x1.Blind, .int .i64 x1.Left, .int .i64 x1.Right] 44 (0, 0)), none], cs := [{ val := fun _ => pathv }, { val := fun _ => .int .i64 n1 }, { val := fun G => .slice (some ⟨(G 2).b, 0, none⟩) 1 1, ups := [(3, fun G => (some ((G 2).b, .cells #[.int .i64 n1] 3 (0, 0))))] }, { val := fun G => (G 3).v, fact := fun G => OSl 3 K1 l3 (G 3).v (G 3).e, ups := [(1, fun G => (G 3).e)], rds := [3] }, { val := fun G => (G 3).v }] }
noncomputable def path_ct_r20_16 (vv : Value) (leaf : Int) (b1 : Nat) (v1 : Value) (K1 : Heaplet) (pathv : Value) (pathe : Ent) (cur : Int) (p7 : Bool) : RC := { ops := opsAt Try.f20 15, B := [0, 1], sl := [(2, .int .i64 leaf), (3, .pointer (some ⟨b1, 0, none⟩)), (7, v1), (8, pathv), (9, .int .i64 cur), (41, .bool p7)], A := [K1], L := [some (b1, .cells #[vv] 24 (0, 0)), pathe, none, none], cs := [{ val := fun _ => pathv }, { val := fun _ => pathv }] }
set_option maxRecDepth 10000 in
theorem path_ct (v : List DThing) (vv : Value) (root leaf : Int) (w0 : World) (H : Heaplet) (hA : Agrees w0 H) (hv : RSl H v vv) :
    Calls Try.prog 20 #[.agg #[vv], .int .i64 root, .int .i64 leaf] w0 (Makes H (fun g => g.v) (fun J g => RSl J ((Tm.pathF v root leaf)) g.v) w0) := by
  have hE : Ext w0 H H := Ext.refl w0 H
  have hvn := hv.lim
  refine calls_of_W (sl := [(0, .agg #[vv]), (1, .int .i64 root), (2, .int .i64 leaf)]) (A := [H]) (L := [none, none, none, none]) Try.func20 (by kernel_rfl) 69 (by kernel_rfl) (by kernel_rfl) (fun J hJ => by simp at hJ; subst hJ; exact hA) (by simp) ?_
  refine W.seq (by kernel_rfl) ?_
  refine W.regV (path_ct_r20_0 vv root leaf H) [1] [0] (fun G => [.slice none 0 0]) (by kernel_rfl) mo_tw (by kernel_rfl) (fun _ _ => by kernel_rfl) ⟨?_, trivial⟩ (by kernel_rfl) ?_
  · exact One.new (r := 0) (T := 24) (fun b => .pointer (some ⟨b, 0, none⟩)) (arr := fun G => #[vv]) (fun G w => by kernel_rfl) (fun G b => by kernel_rfl)
  intro G1 xa xw hDn
  refine hDn.to [1, 2, 3] [] (by kernel_rfl) ?_
  clear hDn
  refine Pre.conv (sl := [(1, .int .i64 root), (2, .int .i64 leaf), (3, .pointer (some ⟨(G1 0).b, 0, none⟩))]) (A := [H]) (L := [some ((G1 0).b, .cells #[vv] 24 (0, 0)), none, none, none]) ?_ (by kernel_rfl) (by kernel_rfl) (by kernel_rfl)
  generalize (G1 0).b = b1 at ⊢
  clear G1
  refine At.then ?_
  refine W.seq (by kernel_rfl) ?_
  refine W.seq (by kernel_rfl) ?_
  obtain ⟨p1, hp1⟩ : ∃ zz : Bool, zz = (decide (Tm.Sound v)) := ⟨_, rfl⟩
  obtain ⟨p2, hp2⟩ : ∃ zz : Bool, zz = (decide (0 ≤ root ∧ root < (v.length : Int))) := ⟨_, rfl⟩
  obtain ⟨p3, hp3⟩ : ∃ zz : Bool, zz = (!p1 || !p2) := ⟨_, rfl⟩
  obtain ⟨p4, hp4⟩ : ∃ zz : Bool, zz = (decide (0 ≤ leaf ∧ leaf < (v.length : Int))) := ⟨_, rfl⟩
  obtain ⟨p5, hp5⟩ : ∃ zz : Bool, zz = (p3 || !p4) := ⟨_, rfl⟩
  refine W.regV (path_ct_r20_1 vv root leaf H b1 p1 p2 p3 p4 p5) [2, 3, 5, 7, 9, 11, 13] [0, 1, 4, 6, 8, 10, 12, 14] (fun G => [.bool (!p1), .bool (!p1), .int .i64 root, .bool (!p2), .bool p3, .int .i64 leaf, .bool (!p4)]) (by kernel_rfl) mo_tw (by kernel_rfl) (fun _ _ => by kernel_rfl) ⟨?_, ?_, ?_, ?_, ?_, ?_, ?_, ?_, trivial⟩ (by kernel_rfl) ?_
  · exact One.loadE (t := 24) (r := 0) (off := 0) (b := fun G => b1) (vs := fun G => [vv]) (arr := fun G => #[vv]) (T := 24) (fr := (0, 0)) (fun G => ⟨by kernel_rfl⟩) (fun G => by kernel_rfl)
  · exact One.callP (v := fun G => .bool p1) (f := 26) (args := fun G => #[.agg #[vv]]) (fun _ _ => by kernel_rfl) (fun G w hs => by
      rw [hp1]
      exact sound_ct v vv w H (hs.read 0 rfl) (hv) )
  · exact One.loadE (t := 24) (r := 0) (off := 0) (b := fun G => b1) (vs := fun G => [vv]) (arr := fun G => #[vv]) (T := 24) (fr := (0, 0)) (fun G => ⟨by kernel_rfl⟩) (fun G => by kernel_rfl)
  · exact One.callP (v := fun G => .bool p2) (f := 50) (args := fun G => #[.agg #[vv], .int .i64 root]) (fun _ _ => by kernel_rfl) (fun G w hs => by
      have hg := gd_of hs (p := (true && ((!p1) == false))) (by kernel_rfl)
      have hg0 := (iNF (iN hp1 iDT)).1 (eqF (andR hg))
      rw [hp2]
      exact has_ct v vv root w H (hs.read 0 rfl) (hv) )
  · subst hp3
    cases p1 <;> exact One.under fun _ _ _ => by kernel_rfl
  · exact One.loadE (t := 24) (r := 0) (off := 0) (b := fun G => b1) (vs := fun G => [vv]) (arr := fun G => #[vv]) (T := 24) (fr := (0, 0)) (fun G => ⟨by kernel_rfl⟩) (fun G => by kernel_rfl)
  · exact One.callP (v := fun G => .bool p4) (f := 50) (args := fun G => #[.agg #[vv], .int .i64 leaf]) (fun _ _ => by kernel_rfl) (fun G w hs => by
      have hg := gd_of hs (p := (true && (p3 == false))) (by kernel_rfl)
      have hg0 := (iN hp3 (iOF (iNF (iN hp1 iDT)) (iNF (iN hp2 iDT)))).1 (eqF (andR hg))
      rw [hp4]
      exact has_ct v vv leaf w H (hs.read 0 rfl) (hv) )
  · subst hp5
    cases p3 <;> exact One.under fun _ _ _ => by kernel_rfl
  intro G2 xa xw hDn
  refine hDn.to [1, 2, 3, 27] [] (by kernel_rfl) ?_
  clear hDn
  refine Pre.conv (sl := [(1, .int .i64 root), (2, .int .i64 leaf), (3, .pointer (some ⟨b1, 0, none⟩)), (27, .bool p5)]) (A := [H]) (L := [some (b1, .cells #[vv] 24 (0, 0)), none, none, none]) ?_ (by kernel_rfl) (by kernel_rfl) (by kernel_rfl)
  clear G2
  refine At.then ?_
  refine W.cond p5 (by kernel_rfl) (fun xa hs => cnd_of (t := 27) (by kernel_rfl) (by kernel_rfl) hs) (fun hq => ?_) (fun hq => ?_)
  · skip
    have hq1 := hq
    replace hq1 := (iN hp5 (iOT (iN hp3 (iOT (iNT (iN hp1 iDF)) (iNT (iN hp2 iDF)))) (iNT (iN hp4 iDF)))).1 hq1
    refine W.seq (by kernel_rfl) ?_
    refine W.regV (path_ct_r20_2 vv root leaf H b1 p5) [0] [] (fun G => [.slice none 0 0]) (by kernel_rfl) mo_tw (by kernel_rfl) (fun _ _ => by kernel_rfl) trivial (by kernel_rfl) ?_
    intro G3 xa xw hDn
    refine hDn.to [6] [] (by kernel_rfl) ?_
    clear hDn
    refine Pre.conv (sl := [(6, .slice none 0 0)]) (A := [H]) (L := [some (b1, .cells #[vv] 24 (0, 0)), none, none, none]) ?_ (by kernel_rfl) (by kernel_rfl) (by kernel_rfl)
    clear G3
    refine At.then ?_
    refine W.ret (by kernel_rfl) ?_
    refine At.thenRet ?_
    refine At.results (Or.inl rfl) (.slice none 0 0) (fun xa xw hs hw => results_one (r := .tmp 6) (by kernel_rfl) (res_tmp (t := 6) (by kernel_rfl) hs)) (fun w' hw => ?_)
    have e0 : ([] : List Int) = (Tm.pathF v root leaf) := by
      symm; refine Tm.pathF_no ?_; rintro ⟨h1, h2, h3, _⟩; unfold Tm.has at h2 h3; rcases hq1 with (h | h) | h
      · exact h h1
      · omega
      · omega
    exact Makes.ret (.slice none 0 0) undef undef hA hE hw (fun N => rfl) (fun N J hJ => (e0 ▸ RSl.nil))
  · skip
    have hq2 := hq
    replace hq2 := (iN hp5 (iOF (iN hp3 (iOF (iNF (iN hp1 iDT)) (iNF (iN hp2 iDT)))) (iNF (iN hp4 iDT)))).1 hq2
    refine W.skip (by kernel_rfl) ?_
    refine At.then ?_
    refine W.seq (by kernel_rfl) ?_
    have hS : Tm.Sound v := by rcases hq2 with ⟨⟨h, _⟩, _⟩; first | exact h | exact Decidable.not_not.1 h
    have hS1 := hS.1
    obtain ⟨l1, hl1⟩ : ∃ zz : List Bool, zz = (Tm.reachF v leaf) := ⟨_, rfl⟩
    refine W.regV (path_ct_r20_3 w0 v vv root leaf H b1 p5 l1) [1, 3] [0, 2] (fun G => [.int .i64 leaf, (G 2).v]) (by kernel_rfl) mo_tw (by kernel_rfl) (fun _ _ => by kernel_rfl) ⟨?_, ?_, trivial⟩ (by kernel_rfl) ?_
    · exact One.loadE (t := 24) (r := 0) (off := 0) (b := fun G => b1) (vs := fun G => [vv]) (arr := fun G => #[vv]) (T := 24) (fr := (0, 0)) (fun G => ⟨by kernel_rfl⟩) (fun G => by kernel_rfl)
    · exact One.callM (f := 51) (args := fun G => #[.agg #[vv], .int .i64 leaf]) (H := fun G => H) (V := fun G g => g.v) (F := fun G J g => RSl J l1 g.v) (fun G g w => ⟨by kernel_rfl, by kernel_rfl⟩) (fun G w hs => by
        rw [hl1]
        exact reach_ct v vv leaf w H (hs.read 0 rfl) (hv) hS (by omega))
    intro G4 xa xw hDn
    have hf2_1 : (RSl (hun (G4 2).H H) l1 (G4 2).v) ∧ New w0 (G4 2).H := hDn.get 2 (by kernel_rfl) (by kernel_rfl) (by kernel_rfl)
    refine hDn.to [1, 2, 3, 7] [2] (by kernel_rfl) ?_
    clear hDn
    refine Pre.conv (sl := [(1, .int .i64 root), (2, .int .i64 leaf), (3, .pointer (some ⟨b1, 0, none⟩)), (7, (G4 2).v)]) (A := [(G4 2).H, H]) (L := [some (b1, .cells #[vv] 24 (0, 0)), none, none, none]) ?_ (by kernel_rfl) (by kernel_rfl) (by kernel_rfl)
    generalize (G4 2).v = v1 at hf2_1 ⊢
    generalize (G4 2).H = N1 at hf2_1 ⊢
    clear G4
    refine Pre.merge (Ns := [N1]) hE (by simp only [List.mem_cons, List.not_mem_nil, or_false, forall_eq_or_imp, forall_eq]; exact hf2_1.2) (fun K1 hk1 hk2 hE1 => ?_)
    have hr1 := (hf2_1.1).mono (hun_sub (hk2 _ (by simp)) hk1)
    have hr1n := hr1.lim
    have hr2 := (hv).mono hk1
    have hr2n := hr2.lim
    skip
    have hnear : l1.length = v.length := by rw [hl1]; exact Tm.reachF_length _ _
    refine At.then ?_
    refine W.seq (by kernel_rfl) ?_
    refine W.seq (by kernel_rfl) ?_
    obtain ⟨p6, hp6⟩ : ∃ zz : Bool, zz = l1.getD root.toNat default := ⟨_, rfl⟩
    refine W.regV (path_ct_r20_4 vv root leaf b1 v1 K1 p6) [0, 1, 4] [2, 3] (fun G => [v1, .int .i64 root, .bool (!p6)]) (by kernel_rfl) mo_tw (by kernel_rfl) (fun _ _ => by kernel_rfl) ⟨?_, ?_, trivial⟩ (by kernel_rfl) ?_
    · exact One.index (t := 75) (e := 4) (size := 1) (v := fun G => v1) (k := .i64) (n := root) (fun _ => ⟨by kernel_rfl⟩) (fun G w hs => ⟨_, (hr1).isSl, by first | omega | (simp only [List.length_append, List.length_cons, List.length_nil, List.length_replicate, List.length_set, List.length_take, List.length_drop, List.length_map, List.length_reverse, List.length_range]; omega), by first | omega | (simp only [List.length_append, List.length_cons, List.length_nil, List.length_replicate, List.length_set, List.length_take, List.length_drop, List.length_map, List.length_reverse, List.length_range]; omega)⟩)
    · exact One.loadD (α := Bool) (t := 4) (size := 1) (off := 0) (k := root) (l := fun G => l1) (x := fun G => p6) (vs := fun G => [.bool p6]) (v := fun G => v1) (H := fun G => K1) (p := fun G => elemAddr v1 (root.toNat * 1)) (fun G => ⟨by kernel_rfl⟩) rfl (fun G => by kernel_rfl) (fun G w hs => ⟨(hs.read 0 rfl), hr1, (add_zero' _).symm, by omega, by first | omega | (simp only [List.length_append, List.length_cons, List.length_nil, List.length_replicate, List.length_set, List.length_take, List.length_drop, List.length_map, List.length_reverse, List.length_range]; omega), hp6⟩)
    intro G5 xa xw hDn
    refine hDn.to [1, 2, 3, 7, 35] [] (by kernel_rfl) ?_
    clear hDn
    refine Pre.conv (sl := [(1, .int .i64 root), (2, .int .i64 leaf), (3, .pointer (some ⟨b1, 0, none⟩)), (7, v1), (35, .bool (!p6))]) (A := [K1]) (L := [some (b1, .cells #[vv] 24 (0, 0)), none, none, none]) ?_ (by kernel_rfl) (by kernel_rfl) (by kernel_rfl)
    clear G5
    refine At.then ?_
    refine W.cond (!p6) (by kernel_rfl) (fun xa hs => cnd_of (t := 35) (by kernel_rfl) (by kernel_rfl) hs) (fun hq => ?_) (fun hq => ?_)
    · skip
      have hq3 := hq
      replace hq3 := (iNT (iN hp6 Iff.rfl)).1 hq3
      refine W.seq (by kernel_rfl) ?_
      refine W.regV (path_ct_r20_5 vv root leaf b1 v1 K1 p6) [0] [] (fun G => [.slice none 0 0]) (by kernel_rfl) mo_tw (by kernel_rfl) (fun _ _ => by kernel_rfl) trivial (by kernel_rfl) ?_
      intro G6 xa xw hDn
      refine hDn.to [6] [] (by kernel_rfl) ?_
      clear hDn
      refine Pre.conv (sl := [(6, .slice none 0 0)]) (A := [K1]) (L := [some (b1, .cells #[vv] 24 (0, 0)), none, none, none]) ?_ (by kernel_rfl) (by kernel_rfl) (by kernel_rfl)
      clear G6
      refine At.then ?_
      refine W.ret (by kernel_rfl) ?_
      refine At.thenRet ?_
      refine At.results (Or.inl rfl) (.slice none 0 0) (fun xa xw hs hw => results_one (r := .tmp 6) (by kernel_rfl) (res_tmp (t := 6) (by kernel_rfl) hs)) (fun w' hw => ?_)
      have e0 : ([] : List Int) = (Tm.pathF v root leaf) := by
        symm; refine Tm.pathF_no ?_; rintro ⟨_, _, _, h4⟩; rw [Tm.reachF_at hl1, h4] at hq3; cases hq3
      exact Makes.ret (.slice none 0 0) undef undef hA hE1 hw (fun N => rfl) (fun N J hJ => (e0 ▸ RSl.nil))
    · skip
      have hq4 := hq
      replace hq4 := (iNF (iN hp6 Iff.rfl)).1 hq4
      refine W.skip (by kernel_rfl) ?_
      refine At.then ?_
      refine W.seq (by kernel_rfl) ?_
      have hroot : Tm.near v leaf root = true := by rw [← Tm.reachF_at hl1]; exact hq4
      refine W.regV (path_ct_r20_6 vv root leaf b1 v1 K1 p6) [0, 2] [1] (fun G => [.int .i64 root, .slice (some ⟨(G 1).b, 0, none⟩) 1 1]) (by kernel_rfl) mo_tw (by kernel_rfl) (fun _ _ => by kernel_rfl) ⟨?_, trivial⟩ (by kernel_rfl) ?_
      · exact One.new (r := 1) (T := 3) (fun b => .slice (some ⟨b, 0, none⟩) 1 1) (arr := fun G => #[.int .i64 root]) (fun G w => by kernel_rfl) (fun G b => by kernel_rfl)
      intro G7 xa xw hDn
      refine hDn.to [1, 2, 3, 7, 8] [] (by kernel_rfl) ?_
      clear hDn
      refine Pre.conv (sl := [(1, .int .i64 root), (2, .int .i64 leaf), (3, .pointer (some ⟨b1, 0, none⟩)), (7, v1), (8, .slice (some ⟨(G7 1).b, 0, none⟩) 1 1)]) (A := [K1]) (L := [some (b1, .cells #[vv] 24 (0, 0)), (some ((G7 1).b, .cells #[.int .i64 root] 3 (0, 0))), none, none]) ?_ (by kernel_rfl) (by kernel_rfl) (by kernel_rfl)
      generalize (G7 1).b = b2 at ⊢
      clear G7
      have hr3 : OSl 3 K1 ([root]) (.slice (some ⟨b2, 0, none⟩) 1 1) ((some (b2, .cells #[.int .i64 root] 3 (0, 0)))) := (OSl.lit (α := Int) (E := 3) (n := 1) (H := K1) (l := [root]) (g := b2) (arr := #[.int .i64 root]) (fun _ _ => trivial) (by kernel_rfl))
      have hr3n := hr3.lim
      refine At.then ?_
      refine W.seq (by kernel_rfl) ?_
      refine W.seq (by kernel_rfl) ?_
      refine W.regV (path_ct_r20_7 vv root leaf b1 v1 K1 b2) [0, 1] [] (fun G => [.int .i64 root, .int .i64 root]) (by kernel_rfl) mo_tw (by kernel_rfl) (fun _ _ => by kernel_rfl) trivial (by kernel_rfl) ?_
      intro G8 xa xw hDn
      refine hDn.to [2, 3, 7, 8, 9] [] (by kernel_rfl) ?_
      clear hDn
      refine Pre.conv (sl := [(2, .int .i64 leaf), (3, .pointer (some ⟨b1, 0, none⟩)), (7, v1), (8, .slice (some ⟨b2, 0, none⟩) 1 1), (9, .int .i64 root)]) (A := [K1]) (L := [some (b1, .cells #[vv] 24 (0, 0)), (some (b2, .cells #[.int .i64 root] 3 (0, 0))), none, none]) ?_ (by kernel_rfl) (by kernel_rfl) (by kernel_rfl)
      clear G8
      refine At.then ?_
      refine W.block 0 (by kernel_rfl) ?_
      refine W.loopS (γ := List Int × Value × Ent × Int) (fun ⟨path, pathv, pathe, cur⟩ => [(2, .int .i64 leaf), (3, .pointer (some ⟨b1, 0, none⟩)), (7, v1), (8, pathv), (9, .int .i64 cur)]) (fun ⟨path, pathv, pathe, cur⟩ => [K1]) (fun ⟨path, pathv, pathe, cur⟩ => [some (b1, .cells #[vv] 24 (0, 0)), pathe, none, none]) (fun ⟨path, pathv, pathe, cur⟩ => (OSl 3 K1 path pathv pathe) ∧ (0 ≤ cur) ∧ (cur < (v.length : Int)) ∧ (Tm.near v leaf cur = true) ∧ (leaf ≤ cur) ∧ ((path.length : Int) + cur ≤ root + 1) ∧ (∃ pre, path = pre ++ [cur] ∧ Tm.rest v leaf root = pre ++ Tm.rest v leaf cur)) (fun ⟨path, pathv, pathe, cur⟩ => cur.toNat) ([root], .slice (some ⟨b2, 0, none⟩) 1 1, (some (b2, .cells #[.int .i64 root] 3 (0, 0))), root) (by kernel_rfl) ?_ ?_
      · intro xa xw hs hw
        refine ⟨hs.sub (by kernel_rfl), hw.mask [true, true, false, false] (by kernel_rfl), ?_⟩
        refine ⟨hr3, ?_, ?_, ?_, ?_, ?_, ?_⟩
        · show 0 ≤ root
          first | omega | rfl | (simp; done) | (subst_vars; simp; done)
        · show root < (v.length : Int)
          first | omega | rfl | (simp; done) | (subst_vars; simp; done)
        · show Tm.near v leaf root = true
          exact hroot
        · show leaf ≤ root
          exact Tm.near_ge (by omega) (by omega) hroot
        · show (([root]).length : Int) + root ≤ root + 1
          simp <;> omega
        · show ∃ pre, ([root]) = pre ++ [root] ∧ Tm.rest v leaf root = pre ++ Tm.rest v leaf root
          exact ⟨[], rfl, rfl⟩
      · rintro ⟨path, pathv, pathe, cur⟩ hF
        have hF : (OSl 3 K1 path pathv pathe) ∧ (0 ≤ cur) ∧ (cur < (v.length : Int)) ∧ (Tm.near v leaf cur = true) ∧ (leaf ≤ cur) ∧ ((path.length : Int) + cur ≤ root + 1) ∧ (∃ pre, path = pre ++ [cur] ∧ Tm.rest v leaf root = pre ++ Tm.rest v leaf cur) := hF
        obtain ⟨hr4, hf2, hf3, hf4, hf5, hf6, hf7⟩ := hF
        show W Try.prog 69 w0 [] (Code.l (Code.l (Code.r (Code.l (Code.r (Code.r (Code.r (Code.r (Code.r (body Try.f20)))))))))) _ [(2, .int .i64 leaf), (3, .pointer (some ⟨b1, 0, none⟩)), (7, v1), (8, pathv), (9, .int .i64 cur)] [K1] [some (b1, .cells #[vv] 24 (0, 0)), pathe, none, none]
        have hr4n := hr4.lim
        refine W.seq (by kernel_rfl) ?_
        refine W.seq (by kernel_rfl) ?_
        obtain ⟨p7, hp7⟩ : ∃ zz : Bool, zz = !(decide (cur = leaf)) := ⟨_, rfl⟩
        refine W.regV (path_ct_r20_8 vv leaf b1 v1 K1 pathv pathe cur p7) [0, 1] [2] (fun G => [.int .i64 cur, .int .i64 leaf]) (by kernel_rfl) mo_tw (by kernel_rfl) (fun _ _ => by kernel_rfl) ⟨?_, trivial⟩ (by kernel_rfl) ?_
        · exact One.bo hp7 (fun _ _ => by kernel_rfl)
        intro G9 xa xw hDn
        refine hDn.to [2, 3, 7, 8, 9, 41] [] (by kernel_rfl) ?_
        clear hDn
        refine Pre.conv (sl := [(2, .int .i64 leaf), (3, .pointer (some ⟨b1, 0, none⟩)), (7, v1), (8, pathv), (9, .int .i64 cur), (41, .bool p7)]) (A := [K1]) (L := [some (b1, .cells #[vv] 24 (0, 0)), pathe, none, none]) ?_ (by kernel_rfl) (by kernel_rfl) (by kernel_rfl)
        clear G9
        refine At.then ?_
        refine W.cond p7 (by kernel_rfl) (fun xa hs => cnd_of (t := 41) (by kernel_rfl) (by kernel_rfl) hs) (fun hq => ?_) (fun hq => ?_)
        · skip
          have hq5 := hq
          replace hq5 := (iN hp7 (iNT iDF)).1 hq5
          refine W.skip (by kernel_rfl) ?_
          refine At.then ?_
          refine W.block 1 (by kernel_rfl) ?_
          refine W.seq (by kernel_rfl) ?_
          obtain ⟨x1, hx1⟩ : ∃ zz : DThing, zz = v.getD cur.toNat default := ⟨_, rfl⟩
          refine W.regV (path_ct_r20_9 vv leaf b1 v1 K1 pathv pathe cur p7 x1) [0, 2] [1, 3, 4, 5, 6] (fun G => [.pointer (some ⟨b1, 0, none⟩), .int .i64 cur]) (by kernel_rfl) mo_tw (by kernel_rfl) (fun _ _ => by kernel_rfl) ⟨?_, ?_, ?_, ?_, ?_, trivial⟩ (by kernel_rfl) ?_
          · exact One.loadE (t := 22) (r := 0) (off := 0) (b := fun G => b1) (vs := fun G => [vv]) (arr := fun G => #[vv]) (T := 24) (fr := (0, 0)) (fun G => ⟨by kernel_rfl⟩) (fun G => by kernel_rfl)
          · exact One.index (t := 22) (e := 44) (size := 5) (v := fun G => vv) (k := .i64) (n := cur) (fun _ => ⟨by kernel_rfl⟩) (fun G w hs => ⟨_, (hr2).isSl, by first | omega | (simp only [List.length_append, List.length_cons, List.length_nil, List.length_replicate, List.length_set, List.length_take, List.length_drop, List.length_map, List.length_reverse, List.length_range]; omega), by first | omega | (simp only [List.length_append, List.length_cons, List.length_nil, List.length_replicate, List.length_set, List.length_take, List.length_drop, List.length_map, List.length_reverse, List.length_range]; omega)⟩)
          · exact One.loadD (α := DThing) (t := 44) (size := 5) (off := 0) (k := cur) (l := fun G => v) (x := fun G => x1) (vs := fun G => [.string x1.Text, .int .i64 x1.Value, .int .i64 x1.Blind, .int .i64 x1.Left, .int .i64 x1.Right]) (v := fun G => vv) (H := fun G => K1) (p := fun G => elemAddr vv (cur.toNat * 5)) (fun G => ⟨by kernel_rfl⟩) rfl (fun G => by kernel_rfl) (fun G w hs => ⟨(hs.read 0 rfl), hr2, (add_zero' _).symm, by omega, by first | omega | (simp only [List.length_append, List.length_cons, List.length_nil, List.length_replicate, List.length_set, List.length_take, List.length_drop, List.length_map, List.length_reverse, List.length_range]; omega), hx1⟩)
          · exact One.new (r := 2) (T := 44) (fun b => .pointer (some ⟨b, 0, none⟩)) (arr := fun G => #[.string ByteArray.empty, .int .i64 0, .int .i64 0, .int .i64 0, .int .i64 0]) (fun G w => by kernel_rfl) (fun G b => by kernel_rfl)
          · exact One.store (t := 44) (r := 2) (off := 0) (T := 44) (b := fun G => (G 5).b) (u := fun G => .agg #[.string x1.Text, .int .i64 x1.Value, .int .i64 x1.Blind, .int .i64 x1.Left, .int .i64 x1.Right]) (vs := fun G => [.string x1.Text, .int .i64 x1.Value, .int .i64 x1.Blind, .int .i64 x1.Left, .int .i64 x1.Right]) (arr := fun G => #[.string ByteArray.empty, .int .i64 0, .int .i64 0, .int .i64 0, .int .i64 0]) (fun G => ⟨by kernel_rfl⟩) (fun G => by kernel_rfl)
          intro G10 xa xw hDn
          refine hDn.to [2, 3, 7, 8, 10] [] (by kernel_rfl) ?_
          clear hDn
          refine Pre.conv (sl := [(2, .int .i64 leaf), (3, .pointer (some ⟨b1, 0, none⟩)), (7, v1), (8, pathv), (10, .pointer (some ⟨(G10 5).b, 0, none⟩))]) (A := [K1]) (L := [some (b1, .cells #[vv] 24 (0, 0)), pathe, some ((G10 5).b, .cells #[.string x1.Text, .int .i64 x1.Value, .int .i64 x1.Blind, .int .i64 x1.Left, .int .i64 x1.Right] 44 (0, 0)), none]) ?_ (by kernel_rfl) (by kernel_rfl) (by kernel_rfl)
          generalize (G10 5).b = b3 at ⊢
          clear G10
          refine At.then ?_
          refine W.seq (by kernel_rfl) ?_
          obtain ⟨n1, hn1⟩ : ∃ zz : Int, zz = min x1.Left x1.Right := ⟨_, rfl⟩
          obtain ⟨n2, hn2⟩ : ∃ zz : Int, zz = max x1.Left x1.Right := ⟨_, rfl⟩
          refine W.regV (path_ct_r20_10 vv leaf b1 v1 K1 pathv pathe x1 b3 n1 n2) [0, 2, 5, 7, 10, 11] [1, 3, 4, 6, 8, 9] (fun G => [.pointer (some ⟨b3, 3, none⟩), .pointer (some ⟨b3, 4, none⟩), .pointer (some ⟨b3, 3, none⟩), .pointer (some ⟨b3, 4, none⟩), .int .i64 n1, .int .i64 n2]) (by kernel_rfl) mo_tw (by kernel_rfl) (fun _ _ => by kernel_rfl) ⟨?_, ?_, ?_, ?_, ?_, ?_, trivial⟩ (by kernel_rfl) ?_
          · exact One.loadE (t := 3) (r := 2) (off := 3) (b := fun G => b3) (vs := fun G => [.int .i64 x1.Left]) (arr := fun G => #[.string x1.Text, .int .i64 x1.Value, .int .i64 x1.Blind, .int .i64 x1.Left, .int .i64 x1.Right]) (T := 44) (fr := (0, 0)) (fun G => ⟨by kernel_rfl⟩) (fun G => by kernel_rfl)
          · exact One.loadE (t := 3) (r := 2) (off := 4) (b := fun G => b3) (vs := fun G => [.int .i64 x1.Right]) (arr := fun G => #[.string x1.Text, .int .i64 x1.Value, .int .i64 x1.Blind, .int .i64 x1.Left, .int .i64 x1.Right]) (T := 44) (fr := (0, 0)) (fun G => ⟨by kernel_rfl⟩) (fun G => by kernel_rfl)
          · exact One.eq (congrArg (Value.int .i64) ((min_if _ _).trans hn1.symm)) (fun _ _ => by kernel_rfl)
          · exact One.loadE (t := 3) (r := 2) (off := 3) (b := fun G => b3) (vs := fun G => [.int .i64 x1.Left]) (arr := fun G => #[.string x1.Text, .int .i64 x1.Value, .int .i64 x1.Blind, .int .i64 x1.Left, .int .i64 x1.Right]) (T := 44) (fr := (0, 0)) (fun G => ⟨by kernel_rfl⟩) (fun G => by kernel_rfl)
          · exact One.loadE (t := 3) (r := 2) (off := 4) (b := fun G => b3) (vs := fun G => [.int .i64 x1.Right]) (arr := fun G => #[.string x1.Text, .int .i64 x1.Value, .int .i64 x1.Blind, .int .i64 x1.Left, .int .i64 x1.Right]) (T := 44) (fr := (0, 0)) (fun G => ⟨by kernel_rfl⟩) (fun G => by kernel_rfl)
          · exact One.eq (congrArg (Value.int .i64) ((max_if _ _).trans hn2.symm)) (fun _ _ => by kernel_rfl)
          intro G11 xa xw hDn
          refine hDn.to [2, 3, 7, 8, 11, 12] [] (by kernel_rfl) ?_
          clear hDn
          refine Pre.conv (sl := [(2, .int .i64 leaf), (3, .pointer (some ⟨b1, 0, none⟩)), (7, v1), (8, pathv), (11, .int .i64 n1), (12, .int .i64 n2)]) (A := [K1]) (L := [some (b1, .cells #[vv] 24 (0, 0)), pathe, some (b3, .cells #[.string x1.Text, .int .i64 x1.Value, .int .i64 x1.Blind, .int .i64 x1.Left, .int .i64 x1.Right] 44 (0, 0)), none]) ?_ (by kernel_rfl) (by kernel_rfl) (by kernel_rfl)
          clear G11
          have hdn := Tm.down hS (i := cur) (leaf := leaf) (by omega) (by assumption) (by assumption) (by assumption) hq5 (by assumption) (by assumption) (by assumption)
          refine At.then ?_
          refine W.seq (by kernel_rfl) ?_
          refine W.regV (path_ct_r20_11 vv leaf b1 v1 K1 pathv pathe x1 b3 n1 n2) [0, 1] [] (fun G => [.int .i64 n1, .int .i64 n1]) (by kernel_rfl) mo_tw (by kernel_rfl) (fun _ _ => by kernel_rfl) trivial (by kernel_rfl) ?_
          intro G12 xa xw hDn
          refine hDn.to [2, 3, 7, 8, 9, 11, 12] [] (by kernel_rfl) ?_
          clear hDn
          refine Pre.conv (sl := [(2, .int .i64 leaf), (3, .pointer (some ⟨b1, 0, none⟩)), (7, v1), (8, pathv), (9, .int .i64 n1), (11, .int .i64 n1), (12, .int .i64 n2)]) (A := [K1]) (L := [some (b1, .cells #[vv] 24 (0, 0)), pathe, some (b3, .cells #[.string x1.Text, .int .i64 x1.Value, .int .i64 x1.Blind, .int .i64 x1.Left, .int .i64 x1.Right] 44 (0, 0)), none]) ?_ (by kernel_rfl) (by kernel_rfl) (by kernel_rfl)
          clear G12
          refine At.then ?_
          refine W.seq (by kernel_rfl) ?_
          refine W.seq (by kernel_rfl) ?_
          obtain ⟨p8, hp8⟩ : ∃ zz : Bool, zz = l1.getD n1.toNat default := ⟨_, rfl⟩
          refine W.regV (path_ct_r20_12 vv leaf b1 v1 K1 pathv pathe x1 b3 n1 n2 p8) [0, 1, 4] [2, 3] (fun G => [v1, .int .i64 n1, .bool (!p8)]) (by kernel_rfl) mo_tw (by kernel_rfl) (fun _ _ => by kernel_rfl) ⟨?_, ?_, trivial⟩ (by kernel_rfl) ?_
          · exact One.index (t := 75) (e := 4) (size := 1) (v := fun G => v1) (k := .i64) (n := n1) (fun _ => ⟨by kernel_rfl⟩) (fun G w hs => ⟨_, (hr1).isSl, by first | omega | (simp only [List.length_append, List.length_cons, List.length_nil, List.length_replicate, List.length_set, List.length_take, List.length_drop, List.length_map, List.length_reverse, List.length_range]; omega), by first | omega | (simp only [List.length_append, List.length_cons, List.length_nil, List.length_replicate, List.length_set, List.length_take, List.length_drop, List.length_map, List.length_reverse, List.length_range]; omega)⟩)
          · exact One.loadD (α := Bool) (t := 4) (size := 1) (off := 0) (k := n1) (l := fun G => l1) (x := fun G => p8) (vs := fun G => [.bool p8]) (v := fun G => v1) (H := fun G => K1) (p := fun G => elemAddr v1 (n1.toNat * 1)) (fun G => ⟨by kernel_rfl⟩) rfl (fun G => by kernel_rfl) (fun G w hs => ⟨(hs.read 0 rfl), hr1, (add_zero' _).symm, by omega, by first | omega | (simp only [List.length_append, List.length_cons, List.length_nil, List.length_replicate, List.length_set, List.length_take, List.length_drop, List.length_map, List.length_reverse, List.length_range]; omega), hp8⟩)
          intro G13 xa xw hDn
          refine hDn.to [2, 3, 7, 8, 9, 12, 62] [] (by kernel_rfl) ?_
          clear hDn
          refine Pre.conv (sl := [(2, .int .i64 leaf), (3, .pointer (some ⟨b1, 0, none⟩)), (7, v1), (8, pathv), (9, .int .i64 n1), (12, .int .i64 n2), (62, .bool (!p8))]) (A := [K1]) (L := [some (b1, .cells #[vv] 24 (0, 0)), pathe, some (b3, .cells #[.string x1.Text, .int .i64 x1.Value, .int .i64 x1.Blind, .int .i64 x1.Left, .int .i64 x1.Right] 44 (0, 0)), none]) ?_ (by kernel_rfl) (by kernel_rfl) (by kernel_rfl)
          clear G13
          refine At.then ?_
          refine W.cond (!p8) (by kernel_rfl) (fun xa hs => cnd_of (t := 62) (by kernel_rfl) (by kernel_rfl) hs) (fun hq => ?_) (fun hq => ?_)
          · skip
            have hq6 := hq
            replace hq6 := (iNT (iN hp8 Iff.rfl)).1 hq6
            rw [Tm.reachF_at hl1] at hq6
            have hnx := hdn.2.2.2.2.1; rw [hq6] at hnx; simp only [Bool.false_eq_true, if_false] at hnx
            refine W.regV (path_ct_r20_13 vv leaf b1 v1 K1 pathv pathe x1 b3 n1 n2 p8) [0, 1] [] (fun G => [.int .i64 n2, .int .i64 n2]) (by kernel_rfl) mo_tw (by kernel_rfl) (fun _ _ => by kernel_rfl) trivial (by kernel_rfl) ?_
            intro G14 xa xw hDn
            refine hDn.to [2, 3, 7, 8, 9] [] (by kernel_rfl) ?_
            clear hDn
            refine Pre.conv (sl := [(2, .int .i64 leaf), (3, .pointer (some ⟨b1, 0, none⟩)), (7, v1), (8, pathv), (9, .int .i64 n2)]) (A := [K1]) (L := [some (b1, .cells #[vv] 24 (0, 0)), pathe, some (b3, .cells #[.string x1.Text, .int .i64 x1.Value, .int .i64 x1.Blind, .int .i64 x1.Left, .int .i64 x1.Right] 44 (0, 0)), none]) ?_ (by kernel_rfl) (by kernel_rfl) (by kernel_rfl)
            clear G14
            refine At.then ?_
            obtain ⟨l2, hl2⟩ : ∃ zz : List Int, zz = path ++ [n2] := ⟨_, rfl⟩
            have hl2n := congrArg List.length hl2; try simp only [List.length_append, List.length_cons, List.length_nil, List.length_replicate, List.length_set, List.length_take, List.length_drop, List.length_map, List.length_reverse, List.length_range] at hl2n
            refine W.regV (path_ct_r20_14 v vv leaf b1 v1 K1 pathv pathe x1 b3 n2 l2) [0, 1, 4] [2, 3] (fun G => [pathv, .int .i64 n2, (G 3).v]) (by kernel_rfl) mo_tw (by kernel_rfl) (fun _ _ => by kernel_rfl) ⟨?_, ?_, trivial⟩ (by kernel_rfl) ?_
            · exact One.new (r := 3) (T := 3) (fun b => .slice (some ⟨b, 0, none⟩) 1 1) (arr := fun G => #[.int .i64 n2]) (fun G w => by kernel_rfl) (fun G b => by kernel_rfl)
            · exact One.appendD (α := Int) (t := 26) (E := 3) (size := 1) (bytes := 8) (r := 1) (l := fun G => path) (m := fun G => [n2]) (lm := fun G => l2) (v := fun G => pathv) (x := fun G => .slice (some ⟨(G 2).b, 0, none⟩) 1 1) (e := fun G => pathe) (H := fun G => K1) (J := fun G => (hun (entH ((some ((G 2).b, .cells #[.int .i64 n2] 3 (0, 0))))) K1)) (fun G g => ⟨by kernel_rfl, by kernel_rfl⟩) rfl (fun G w hs => ⟨hr4, (hun_agrees (entH_agrees (hs.own (r := 3) (e := (some ((G 2).b, .cells #[.int .i64 n2] 3 (0, 0)))) (by kernel_rfl))) (hs.read 0 rfl)), (((OSl.lit (α := Int) (E := 3) (n := 1) (H := K1) (l := [n2]) (g := (G 2).b) (arr := #[.int .i64 n2]) (fun _ _ => trivial) (by kernel_rfl))).read (hs.own (r := 3) (e := (some ((G 2).b, .cells #[.int .i64 n2] 3 (0, 0)))) (by kernel_rfl)) (hs.read 0 rfl)), (fun _ _ => trivial), hl2, by (try simp only [List.length_append, List.length_cons, List.length_nil, List.length_replicate, List.length_set, List.length_take, List.length_drop, List.length_map, List.length_reverse, List.length_range]); omega⟩)
            intro G15 xa xw hDn
            have hf3_8 : OSl 3 K1 l2 (G15 3).v (G15 3).e := hDn.get 3 (by kernel_rfl) (by kernel_rfl) (by kernel_rfl)
            refine hDn.to [2, 3, 7, 8, 9] [] (by kernel_rfl) ?_
            clear hDn
            refine Pre.conv (sl := [(2, .int .i64 leaf), (3, .pointer (some ⟨b1, 0, none⟩)), (7, v1), (8, (G15 3).v), (9, .int .i64 n2)]) (A := [K1]) (L := [some (b1, .cells #[vv] 24 (0, 0)), (G15 3).e, some (b3, .cells #[.string x1.Text, .int .i64 x1.Value, .int .i64 x1.Blind, .int .i64 x1.Left, .int .i64 x1.Right] 44 (0, 0)), (some ((G15 2).b, .cells #[.int .i64 n2] 3 (0, 0)))]) ?_ (by kernel_rfl) (by kernel_rfl) (by kernel_rfl)
            generalize (G15 3).v = v2 at hf3_8 ⊢
            generalize (G15 3).e = e1 at hf3_8 ⊢
            generalize (G15 2).b = b4 at hf3_8 ⊢
            clear G15
            refine At.blockNormal ?_
            intro xa xw hs hw
            refine ⟨(l2, v2, e1, n2), ⟨hs.sub (by kernel_rfl), hw.mask [true, true, false, false] (by kernel_rfl), ?_⟩, ?_⟩
            · skip
              refine ⟨hf3_8, ?_, ?_, ?_, ?_, ?_, ?_⟩
              · show 0 ≤ n2
                omega
              · show n2 < (v.length : Int)
                omega
              · show Tm.near v leaf n2 = true
                rw [← hnx]; exact hdn.2.2.2.2.2.1
              · show leaf ≤ n2
                rw [← hnx]; exact hdn.2.2.2.2.2.2.1
              · show (l2.length : Int) + n2 ≤ root + 1
                omega
              · show ∃ pre, l2 = pre ++ [n2] ∧ Tm.rest v leaf root = pre ++ Tm.rest v leaf n2
                obtain ⟨pre, hp1, hp2⟩ := hf7
                exact ⟨pre ++ [cur], by rw [hl2, hp1], by rw [hp2, hdn.2.2.2.2.2.2.2, hnx]; simp⟩
            · show n2.toNat < cur.toNat
              omega
          · skip
            have hq7 := hq
            replace hq7 := (iNF (iN hp8 Iff.rfl)).1 hq7
            rw [Tm.reachF_at hl1] at hq7
            have hnx := hdn.2.2.2.2.1; rw [hq7] at hnx; simp only [if_true] at hnx
            refine W.skip (by kernel_rfl) ?_
            refine At.then ?_
            obtain ⟨l3, hl3⟩ : ∃ zz : List Int, zz = path ++ [n1] := ⟨_, rfl⟩
            have hl3n := congrArg List.length hl3; try simp only [List.length_append, List.length_cons, List.length_nil, List.length_replicate, List.length_set, List.length_take, List.length_drop, List.length_map, List.length_reverse, List.length_range] at hl3n
            refine W.regV (path_ct_r20_15 v vv leaf b1 v1 K1 pathv pathe x1 b3 n1 n2 p8 l3) [0, 1, 4] [2, 3] (fun G => [pathv, .int .i64 n1, (G 3).v]) (by kernel_rfl) mo_tw (by kernel_rfl) (fun _ _ => by kernel_rfl) ⟨?_, ?_, trivial⟩ (by kernel_rfl) ?_
            · exact One.new (r := 3) (T := 3) (fun b => .slice (some ⟨b, 0, none⟩) 1 1) (arr := fun G => #[.int .i64 n1]) (fun G w => by kernel_rfl) (fun G b => by kernel_rfl)
            · exact One.appendD (α := Int) (t := 26) (E := 3) (size := 1) (bytes := 8) (r := 1) (l := fun G => path) (m := fun G => [n1]) (lm := fun G => l3) (v := fun G => pathv) (x := fun G => .slice (some ⟨(G 2).b, 0, none⟩) 1 1) (e := fun G => pathe) (H := fun G => K1) (J := fun G => (hun (entH ((some ((G 2).b, .cells #[.int .i64 n1] 3 (0, 0))))) K1)) (fun G g => ⟨by kernel_rfl, by kernel_rfl⟩) rfl (fun G w hs => ⟨hr4, (hun_agrees (entH_agrees (hs.own (r := 3) (e := (some ((G 2).b, .cells #[.int .i64 n1] 3 (0, 0)))) (by kernel_rfl))) (hs.read 0 rfl)), (((OSl.lit (α := Int) (E := 3) (n := 1) (H := K1) (l := [n1]) (g := (G 2).b) (arr := #[.int .i64 n1]) (fun _ _ => trivial) (by kernel_rfl))).read (hs.own (r := 3) (e := (some ((G 2).b, .cells #[.int .i64 n1] 3 (0, 0)))) (by kernel_rfl)) (hs.read 0 rfl)), (fun _ _ => trivial), hl3, by (try simp only [List.length_append, List.length_cons, List.length_nil, List.length_replicate, List.length_set, List.length_take, List.length_drop, List.length_map, List.length_reverse, List.length_range]); omega⟩)
            intro G16 xa xw hDn
            have hf3_9 : OSl 3 K1 l3 (G16 3).v (G16 3).e := hDn.get 3 (by kernel_rfl) (by kernel_rfl) (by kernel_rfl)
            refine hDn.to [2, 3, 7, 8, 9] [] (by kernel_rfl) ?_
            clear hDn
            refine Pre.conv (sl := [(2, .int .i64 leaf), (3, .pointer (some ⟨b1, 0, none⟩)), (7, v1), (8, (G16 3).v), (9, .int .i64 n1)]) (A := [K1]) (L := [some (b1, .cells #[vv] 24 (0, 0)), (G16 3).e, some (b3, .cells #[.string x1.Text, .int .i64 x1.Value, .int .i64 x1.Blind, .int .i64 x1.Left, .int .i64 x1.Right] 44 (0, 0)), (some ((G16 2).b, .cells #[.int .i64 n1] 3 (0, 0)))]) ?_ (by kernel_rfl) (by kernel_rfl) (by kernel_rfl)
            generalize (G16 3).v = v3 at hf3_9 ⊢
            generalize (G16 3).e = e2 at hf3_9 ⊢
            generalize (G16 2).b = b5 at hf3_9 ⊢
            clear G16
            refine At.blockNormal ?_
            intro xa xw hs hw
            refine ⟨(l3, v3, e2, n1), ⟨hs.sub (by kernel_rfl), hw.mask [true, true, false, false] (by kernel_rfl), ?_⟩, ?_⟩
            · skip
              refine ⟨hf3_9, ?_, ?_, ?_, ?_, ?_, ?_⟩
              · show 0 ≤ n1
                omega
              · show n1 < (v.length : Int)
                omega
              · show Tm.near v leaf n1 = true
                rw [← hnx]; exact hdn.2.2.2.2.2.1
              · show leaf ≤ n1
                rw [← hnx]; exact hdn.2.2.2.2.2.2.1
              · show (l3.length : Int) + n1 ≤ root + 1
                omega
              · show ∃ pre, l3 = pre ++ [n1] ∧ Tm.rest v leaf root = pre ++ Tm.rest v leaf n1
                obtain ⟨pre, hp1, hp2⟩ := hf7
                exact ⟨pre ++ [cur], by rw [hl3, hp1], by rw [hp2, hdn.2.2.2.2.2.2.2, hnx]; simp⟩
            · show n1.toNat < cur.toNat
              omega
        · skip
          have hq8 := hq
          replace hq8 := (iN hp7 (iNF iDT)).1 hq8
          refine W.exit 0 (by kernel_rfl) ?_
          refine At.thenExit ?_
          refine At.thenExit ?_
          refine At.blockHit ?_
          refine At.then ?_
          refine W.seq (by kernel_rfl) ?_
          refine W.regV (path_ct_r20_16 vv leaf b1 v1 K1 pathv pathe cur p7) [0, 1] [] (fun G => [pathv, pathv]) (by kernel_rfl) mo_tw (by kernel_rfl) (fun _ _ => by kernel_rfl) trivial (by kernel_rfl) ?_
          intro G17 xa xw hDn
          refine hDn.to [6] [] (by kernel_rfl) ?_
          clear hDn
          refine Pre.conv (sl := [(6, pathv)]) (A := [K1]) (L := [some (b1, .cells #[vv] 24 (0, 0)), pathe, none, none]) ?_ (by kernel_rfl) (by kernel_rfl) (by kernel_rfl)
          clear G17
          refine At.then ?_
          refine W.ret (by kernel_rfl) ?_
          refine Pre.freeze 1 (e := pathe) (by kernel_rfl) hE1 (fun K2 hk3 hk4 hE2 => ?_)
          have hr5 := (hr4).frozen hk3 hk4
          have hr6 := (hr2).mono hk3
          refine Pre.conv (L := [some (b1, .cells #[vv] 24 (0, 0)), none, none, none]) ?_ rfl rfl (by kernel_rfl)
          refine At.results (Or.inl rfl) (pathv) (fun xa xw hs hw => results_one (r := .tmp 6) (by kernel_rfl) (res_tmp (t := 6) (by kernel_rfl) hs)) (fun w' hw => ?_)
          have e0 : path = (Tm.pathF v root leaf) := by
            obtain ⟨pre, hp1, hp2⟩ := hf7
            rw [Tm.pathF_yes hS (by unfold Tm.has; omega) (by unfold Tm.has; omega) hroot, hp2, hp1, show cur = leaf by omega, Tm.rest_self]
          exact Makes.ret pathv undef undef hA hE2 hw (fun N => rfl) (fun N J hJ => (e0 ▸ (hr5).mono hJ))

noncomputable def view_ct_r22_0 (vv pathv : Value) (H : Heaplet) : RC := { ops := opsAt Try.f22 0, B := [0, 0], sl := [(0, .agg #[vv]), (1, pathv)], A := [H], L := [none, none], cs := [{ val := fun G => .pointer (some ⟨(G 0).b, 0, none⟩), ups := [(0, fun G => some ((G 0).b, .cells #[vv] 24 (0, 0)))] }, { val := fun _ => .slice none 0 0 }] }
noncomputable def view_ct_r22_1 (vv pathv : Value) (H : Heaplet) (b1 : Nat) (p1 : Bool) : RC := { ops := opsAt Try.f22 1, B := [0, 0, 3, 7], sl := [(1, pathv), (2, .pointer (some ⟨b1, 0, none⟩))], A := [H], L := [some (b1, .cells #[vv] 24 (0, 0)), none], cs := [{ val := fun _ => .agg #[vv], rds := [0] }, { val := fun _ => pathv }, { val := fun _ => .bool p1 }, { val := fun _ => .bool (!p1) }] }
noncomputable def view_ct_r22_2 (vv pathv : Value) (H : Heaplet) (b1 : Nat) (p1 : Bool) : RC := { ops := opsAt Try.f22 2, B := [0], sl := [(1, pathv), (2, .pointer (some ⟨b1, 0, none⟩)), (11, .bool (!p1))], A := [H], L := [some (b1, .cells #[vv] 24 (0, 0)), none], cs := [{ val := fun _ => .slice none 0 0 }] }
noncomputable def view_ct_r22_3 (v : List DThing) (vv pathv : Value) (H : Heaplet) (b1 : Nat) (p1 : Bool) (n1 : Int) (l1 : List DThing) : RC := { ops := opsAt Try.f22 3, B := [0, 1, 3, 7], sl := [(1, pathv), (2, .pointer (some ⟨b1, 0, none⟩)), (11, .bool (!p1))], A := [H], L := [some (b1, .cells #[vv] 24 (0, 0)), none], cs := [{ val := fun _ => pathv }, { val := fun _ => .int .i64 n1 }, { val := fun G => (G 2).v, fact := fun G => OSl 44 H l1 (G 2).v (G 2).e, ups := [(1, fun G => (G 2).e)] }, { val := fun G => (G 2).v }] }
noncomputable def view_ct_r22_4 (vv pathv : Value) (H : Heaplet) (b1 : Nat) (n1 : Int) (v1 : Value) (e1 : Ent) : RC := { ops := opsAt Try.f22 4, B := [0, 1, 0], sl := [(1, pathv), (2, .pointer (some ⟨b1, 0, none⟩)), (5, v1)], A := [H], L := [some (b1, .cells #[vv] 24 (0, 0)), e1], cs := [{ val := fun _ => pathv }, { val := fun _ => .int .i64 n1 }, { val := fun _ => .int .i64 0 }] }
noncomputable def view_ct_r22_5 (vv pathv : Value) (H : Heaplet) (b1 : Nat) (n1 : Int) (v1 : Value) (oute : Ent) (k0 : Int) (p2 : Bool) : RC := { ops := opsAt Try.f22 5, B := [0], sl := [(1, pathv), (2, .pointer (some ⟨b1, 0, none⟩)), (5, v1), (15, pathv), (16, .int .i64 n1), (17, .int .i64 k0)], A := [H], L := [some (b1, .cells #[vv] 24 (0, 0)), oute], cs := [{ val := fun _ => .bool p2 }] }
noncomputable def view_ct_r22_6 (vv pathv : Value) (H : Heaplet) (b1 : Nat) (n1 : Int) (v1 : Value) (oute : Ent) (k0 : Int) (p2 : Bool) (n2 : Int) : RC := { ops := opsAt Try.f22 6, B := [0, 0, 2, 7, 15], sl := [(1, pathv), (2, .pointer (some ⟨b1, 0, none⟩)), (5, v1), (15, pathv), (16, .int .i64 n1), (17, .int .i64 k0), (18, .bool p2)], A := [H], L := [some (b1, .cells #[vv] 24 (0, 0)), oute], cs := [{ val := fun _ => .int .i64 k0 }, { val := fun _ => .pointer (some (elemAddr pathv (k0.toNat * 1))) }, { val := fun _ => .int .i64 n2 }, { val := fun _ => .int .i64 k0 }, { val := fun _ => .int .i64 n2 }] }
noncomputable def view_ct_r22_7 (vv pathv : Value) (H : Heaplet) (b1 : Nat) (n1 : Int) (v1 : Value) (oute : Ent) (k0 n2 : Int) (x1 : DThing) (l2 : List DThing) : RC := { ops := opsAt Try.f22 7, B := [0, 0, 0, 4, 0, 28, 60, 127, 255], sl := [(1, pathv), (2, .pointer (some ⟨b1, 0, none⟩)), (5, v1), (6, .int .i64 k0), (7, .int .i64 n2), (15, pathv), (16, .int .i64 n1), (17, .int .i64 k0)], A := [H], L := [some (b1, .cells #[vv] 24 (0, 0)), oute], cs := [{ val := fun _ => v1 }, { val := fun _ => .int .i64 k0 }, { val := fun _ => .pointer (some ⟨b1, 0, none⟩) }, { val := fun _ => vv, rds := [0] }, { val := fun _ => .int .i64 n2 }, { val := fun _ => .pointer (some (elemAddr vv (n2.toNat * 5))) }, { val := fun _ => .agg #[.string x1.Text, .int .i64 x1.Value, .int .i64 x1.Blind, .int .i64 x1.Left, .int .i64 x1.Right] }, { val := fun _ => .pointer (some (elemAddr v1 (k0.toNat * 5))) }, { val := fun _ => undef, fact := fun G => OSl 44 H l2 v1 (G 8).e, ups := [(1, fun G => (G 8).e)], rds := [1] }] }
noncomputable def view_ct_r22_8 (vv pathv : Value) (H : Heaplet) (b1 : Nat) (n1 : Int) (v1 : Value) (k0 : Int) (e2 : Ent) (p3 : Bool) (n3 : Int) (p4 p5 : Bool) : RC := { ops := opsAt Try.f22 8, B := [0, 1, 3, 7, 7, 23, 55, 127, 255], sl := [(1, pathv), (2, .pointer (some ⟨b1, 0, none⟩)), (5, v1), (6, .int .i64 k0), (15, pathv), (16, .int .i64 n1), (17, .int .i64 k0)], A := [H], L := [some (b1, .cells #[vv] 24 (0, 0)), e2], cs := [{ val := fun _ => .int .i64 k0 }, { val := fun _ => .bool p3 }, { val := fun _ => .bool p3 }, { val := fun _ => .int .i64 k0 }, { val := fun _ => pathv }, { val := fun _ => .int .i64 n1 }, { val := fun _ => .int .i64 n3 }, { val := fun _ => .bool p4 }, { val := fun _ => .bool p5 }] }
noncomputable def view_ct_r22_9 (vv pathv : Value) (H : Heaplet) (b1 : Nat) (n1 : Int) (v1 : Value) (k0 : Int) (e2 : Ent) (p5 : Bool) (l3 l4 : List DThing) : RC := { ops := opsAt Try.f22 9, B := [0, 0, 0, 0, 3, 19, 51, 127, 255, 511], sl := [(1, pathv), (2, .pointer (some ⟨b1, 0, none⟩)), (5, v1), (6, .int .i64 k0), (15, pathv), (16, .int .i64 n1), (17, .int .i64 k0), (38, .bool p5)], A := [H], L := [some (b1, .cells #[vv] 24 (0, 0)), e2], cs := [{ val := fun _ => v1 }, { val := fun _ => .int .i64 k0 }, { val := fun _ => v1 }, { val := fun _ => .int .i64 k0 }, { val := fun _ => .pointer (some (elemAddr v1 (k0.toNat * 5))) }, { val := fun _ => .pointer (some ((elemAddr v1 (k0.toNat * 5)).add 1)) }, { val := fun _ => undef, fact := fun G => OSl 44 H l3 v1 (G 6).e, ups := [(1, fun G => (G 6).e)], rds := [1] }, { val := fun _ => .pointer (some (elemAddr v1 (k0.toNat * 5))) }, { val := fun _ => .pointer (some ((elemAddr v1 (k0.toNat * 5)).add 2)) }, { val := fun _ => undef, fact := fun G => OSl 44 H l4 v1 (G 9).e, ups := [(1, fun G => (G 9).e)], rds := [1] }] }
noncomputable def view_ct_r22_10 (vv pathv : Value) (H : Heaplet) (b1 : Nat) (n1 : Int) (v1 : Value) (k0 : Int) (e3 : Ent) (n4 : Int) : RC := { ops := opsAt Try.f22 10, B := [0, 1], sl := [(1, pathv), (2, .pointer (some ⟨b1, 0, none⟩)), (5, v1), (15, pathv), (16, .int .i64 n1), (17, .int .i64 k0)], A := [H], L := [some (b1, .cells #[vv] 24 (0, 0)), e3], cs := [{ val := fun _ => .int .i64 n4 }, { val := fun _ => .int .i64 n4 }] }
noncomputable def view_ct_r22_11 (vv pathv : Value) (H : Heaplet) (b1 : Nat) (n1 : Int) (v1 : Value) (k0 : Int) (e2 : Ent) (p5 : Bool) (n5 : Int) : RC := { ops := opsAt Try.f22 10, B := [0, 1], sl := [(1, pathv), (2, .pointer (some ⟨b1, 0, none⟩)), (5, v1), (6, .int .i64 k0), (15, pathv), (16, .int .i64 n1), (17, .int .i64 k0), (38, .bool p5)], A := [H], L := [some (b1, .cells #[vv] 24 (0, 0)), e2], cs := [{ val := fun _ => .int .i64 n5 }, { val := fun _ => .int .i64 n5 }] }
noncomputable def view_ct_r22_12 (vv pathv : Value) (H : Heaplet) (b1 : Nat) (n1 : Int) (v1 : Value) (oute : Ent) (k0 : Int) (p2 : Bool) : RC := { ops := opsAt Try.f22 11, B := [0, 1], sl := [(1, pathv), (2, .pointer (some ⟨b1, 0, none⟩)), (5, v1), (15, pathv), (16, .int .i64 n1), (17, .int .i64 k0), (18, .bool p2)], A := [H], L := [some (b1, .cells #[vv] 24 (0, 0)), oute], cs := [{ val := fun _ => v1 }, { val := fun _ => v1 }] }
set_option maxRecDepth 10000 in
theorem view_ct (v : List DThing) (vv : Value) (path : List Int) (pathv : Value) (w0 : World) (H : Heaplet) (hA : Agrees w0 H) (hv : RSl H v vv) (hpath : RSl H path pathv) (hp : path.length ≤ 5000000000000) :
    Calls Try.prog 22 #[.agg #[vv], pathv] w0 (Makes H (fun g => g.v) (fun J g => RSl J ((Tm.viewF v path)) g.v) w0) := by
  have hE : Ext w0 H H := Ext.refl w0 H
  have hvn := hv.lim
  have hpathn := hpath.lim
  refine calls_of_W (sl := [(0, .agg #[vv]), (1, pathv)]) (A := [H]) (L := [none, none]) Try.func22 (by kernel_rfl) 49 (by kernel_rfl) (by kernel_rfl) (fun J hJ => by simp at hJ; subst hJ; exact hA) (by simp) ?_
  refine W.seq (by kernel_rfl) ?_
  refine W.regV (view_ct_r22_0 vv pathv H) [1] [0] (fun G => [.slice none 0 0]) (by kernel_rfl) mo_tw (by kernel_rfl) (fun _ _ => by kernel_rfl) ⟨?_, trivial⟩ (by kernel_rfl) ?_
  · exact One.new (r := 0) (T := 24) (fun b => .pointer (some ⟨b, 0, none⟩)) (arr := fun G => #[vv]) (fun G w => by kernel_rfl) (fun G b => by kernel_rfl)
  intro G1 xa xw hDn
  refine hDn.to [1, 2] [] (by kernel_rfl) ?_
  clear hDn
  refine Pre.conv (sl := [(1, pathv), (2, .pointer (some ⟨(G1 0).b, 0, none⟩))]) (A := [H]) (L := [some ((G1 0).b, .cells #[vv] 24 (0, 0)), none]) ?_ (by kernel_rfl) (by kernel_rfl) (by kernel_rfl)
  generalize (G1 0).b = b1 at ⊢
  clear G1
  refine At.then ?_
  refine W.seq (by kernel_rfl) ?_
  refine W.seq (by kernel_rfl) ?_
  obtain ⟨p1, hp1⟩ : ∃ zz : Bool, zz = (decide (Tm.Walks v path)) := ⟨_, rfl⟩
  refine W.regV (view_ct_r22_1 vv pathv H b1 p1) [1, 3] [0, 2] (fun G => [pathv, .bool (!p1)]) (by kernel_rfl) mo_tw (by kernel_rfl) (fun _ _ => by kernel_rfl) ⟨?_, ?_, trivial⟩ (by kernel_rfl) ?_
  · exact One.loadE (t := 24) (r := 0) (off := 0) (b := fun G => b1) (vs := fun G => [vv]) (arr := fun G => #[vv]) (T := 24) (fr := (0, 0)) (fun G => ⟨by kernel_rfl⟩) (fun G => by kernel_rfl)
  · exact One.callP (v := fun G => .bool p1) (f := 54) (args := fun G => #[.agg #[vv], pathv]) (fun _ _ => by kernel_rfl) (fun G w hs => by
      rw [hp1]
      exact walks_ct v vv path pathv w H (hs.read 0 rfl) (hv) (hpath) )
  intro G2 xa xw hDn
  refine hDn.to [1, 2, 11] [] (by kernel_rfl) ?_
  clear hDn
  refine Pre.conv (sl := [(1, pathv), (2, .pointer (some ⟨b1, 0, none⟩)), (11, .bool (!p1))]) (A := [H]) (L := [some (b1, .cells #[vv] 24 (0, 0)), none]) ?_ (by kernel_rfl) (by kernel_rfl) (by kernel_rfl)
  clear G2
  refine At.then ?_
  refine W.cond (!p1) (by kernel_rfl) (fun xa hs => cnd_of (t := 11) (by kernel_rfl) (by kernel_rfl) hs) (fun hq => ?_) (fun hq => ?_)
  · skip
    have hq1 := hq
    replace hq1 := (iNT (iN hp1 iDF)).1 hq1
    refine W.seq (by kernel_rfl) ?_
    refine W.regV (view_ct_r22_2 vv pathv H b1 p1) [0] [] (fun G => [.slice none 0 0]) (by kernel_rfl) mo_tw (by kernel_rfl) (fun _ _ => by kernel_rfl) trivial (by kernel_rfl) ?_
    intro G3 xa xw hDn
    refine hDn.to [4] [] (by kernel_rfl) ?_
    clear hDn
    refine Pre.conv (sl := [(4, .slice none 0 0)]) (A := [H]) (L := [some (b1, .cells #[vv] 24 (0, 0)), none]) ?_ (by kernel_rfl) (by kernel_rfl) (by kernel_rfl)
    clear G3
    refine At.then ?_
    refine W.ret (by kernel_rfl) ?_
    refine At.thenRet ?_
    refine At.results (Or.inl rfl) (.slice none 0 0) (fun xa xw hs hw => results_one (r := .tmp 4) (by kernel_rfl) (res_tmp (t := 4) (by kernel_rfl) hs)) (fun w' hw => ?_)
    have e0 : ([] : List DThing) = (Tm.viewF v path) := by
      exact (Tm.viewF_no hq1).symm
    exact Makes.ret (.slice none 0 0) undef undef hA hE hw (fun N => rfl) (fun N J hJ => (e0 ▸ RSl.nil))
  · skip
    have hq2 := hq
    replace hq2 := (iNF (iN hp1 iDT)).1 hq2
    refine W.skip (by kernel_rfl) ?_
    refine At.then ?_
    refine W.seq (by kernel_rfl) ?_
    have hW := hq2
    obtain ⟨n1, hn1⟩ : ∃ zz : Int, zz = (path.length : Int) := ⟨_, rfl⟩
    obtain ⟨l1, hl1⟩ : ∃ zz : List DThing, zz = List.replicate n1.toNat (default : DThing) := ⟨_, rfl⟩
    have hl1n := congrArg List.length hl1; try simp only [List.length_append, List.length_cons, List.length_nil, List.length_replicate, List.length_set, List.length_take, List.length_drop, List.length_map, List.length_reverse, List.length_range] at hl1n
    refine W.regV (view_ct_r22_3 v vv pathv H b1 p1 n1 l1) [0, 3] [1, 2] (fun G => [pathv, (G 2).v]) (by kernel_rfl) mo_tw (by kernel_rfl) (fun _ _ => by kernel_rfl) ⟨?_, ?_, trivial⟩ (by kernel_rfl) ?_
    · exact One.len (t := 26) (n := n1) (v := fun G => pathv) (fun _ => ⟨by kernel_rfl⟩) (fun G w hs => ⟨_, (hpath).isSl, hn1⟩)
    · exact One.makeD (α := DThing) (t := 22) (E := 44) (size := 5) (bytes := 48) (r := 1) (n := n1) (row := [.string ByteArray.empty, .int .i64 0, .int .i64 0, .int .i64 0, .int .i64 0]) (H := fun G => H) (l := fun G => l1) (fun G g => ⟨by kernel_rfl, by kernel_rfl⟩) rfl rfl (fun G w hs => ⟨⟨by omega, by omega, by omega⟩, hl1⟩)
    intro G4 xa xw hDn
    have hf2_1 : OSl 44 H l1 (G4 2).v (G4 2).e := hDn.get 2 (by kernel_rfl) (by kernel_rfl) (by kernel_rfl)
    refine hDn.to [1, 2, 5] [] (by kernel_rfl) ?_
    clear hDn
    refine Pre.conv (sl := [(1, pathv), (2, .pointer (some ⟨b1, 0, none⟩)), (5, (G4 2).v)]) (A := [H]) (L := [some (b1, .cells #[vv] 24 (0, 0)), (G4 2).e]) ?_ (by kernel_rfl) (by kernel_rfl) (by kernel_rfl)
    generalize (G4 2).v = v1 at hf2_1 ⊢
    generalize (G4 2).e = e1 at hf2_1 ⊢
    clear G4
    refine At.then ?_
    refine W.seq (by kernel_rfl) ?_
    refine W.seq (by kernel_rfl) ?_
    refine W.regV (view_ct_r22_4 vv pathv H b1 n1 v1 e1) [0, 2] [1] (fun G => [pathv, .int .i64 0]) (by kernel_rfl) mo_tw (by kernel_rfl) (fun _ _ => by kernel_rfl) ⟨?_, trivial⟩ (by kernel_rfl) ?_
    · exact One.len (t := 26) (n := n1) (v := fun G => pathv) (fun _ => ⟨by kernel_rfl⟩) (fun G w hs => ⟨_, (hpath).isSl, hn1⟩)
    intro G5 xa xw hDn
    refine hDn.to [1, 2, 5, 15, 16, 17] [] (by kernel_rfl) ?_
    clear hDn
    refine Pre.conv (sl := [(1, pathv), (2, .pointer (some ⟨b1, 0, none⟩)), (5, v1), (15, pathv), (16, .int .i64 n1), (17, .int .i64 0)]) (A := [H]) (L := [some (b1, .cells #[vv] 24 (0, 0)), e1]) ?_ (by kernel_rfl) (by kernel_rfl) (by kernel_rfl)
    clear G5
    refine At.then ?_
    refine W.block 0 (by kernel_rfl) ?_
    refine W.loopS (γ := List DThing × Ent × Int) (fun ⟨out, oute, k0⟩ => [(1, pathv), (2, .pointer (some ⟨b1, 0, none⟩)), (5, v1), (15, pathv), (16, .int .i64 n1), (17, .int .i64 k0)]) (fun ⟨out, oute, k0⟩ => [H]) (fun ⟨out, oute, k0⟩ => [some (b1, .cells #[vv] 24 (0, 0)), oute]) (fun ⟨out, oute, k0⟩ => (OSl 44 H out v1 oute) ∧ (0 ≤ k0) ∧ (k0 ≤ n1) ∧ (out = Tm.viewW v path k0.toNat)) (fun ⟨out, oute, k0⟩ => (n1 - k0).toNat) (l1, e1, 0) (by kernel_rfl) ?_ ?_
    · intro xa xw hs hw
      refine ⟨hs.sub (by kernel_rfl), hw.mask [true, true] (by kernel_rfl), ?_⟩
      refine ⟨hf2_1, ?_, ?_, ?_⟩
      · show 0 ≤ (0 : Int)
        first | omega | rfl | (simp; done) | (subst_vars; simp; done)
      · show (0 : Int) ≤ n1
        first | omega | rfl | (simp; done) | (subst_vars; simp; done)
      · show l1 = Tm.viewW v path (0 : Int).toNat
        rw [hl1]
        subst_vars
        exact (Tm.viewW_zero v path).symm
    · rintro ⟨out, oute, k0⟩ hF
      have hF : (OSl 44 H out v1 oute) ∧ (0 ≤ k0) ∧ (k0 ≤ n1) ∧ (out = Tm.viewW v path k0.toNat) := hF
      obtain ⟨hr1, hf2, hf3, hf4⟩ := hF
      show W Try.prog 49 w0 [] (Code.l (Code.l (Code.r (Code.l (Code.r (Code.r (Code.r (body Try.f22)))))))) _ [(1, pathv), (2, .pointer (some ⟨b1, 0, none⟩)), (5, v1), (15, pathv), (16, .int .i64 n1), (17, .int .i64 k0)] [H] [some (b1, .cells #[vv] 24 (0, 0)), oute]
      have hr1n := hr1.lim
      have hol : out.length = path.length := by rw [hf4]; exact Tm.viewW_length (by omega)
      refine W.seq (by kernel_rfl) ?_
      obtain ⟨p2, hp2⟩ : ∃ zz : Bool, zz = decide (k0 < n1) := ⟨_, rfl⟩
      refine W.regV (view_ct_r22_5 vv pathv H b1 n1 v1 oute k0 p2) [] [0] (fun G => []) (by kernel_rfl) mo_tw (by kernel_rfl) (fun _ _ => by kernel_rfl) ⟨?_, trivial⟩ (by kernel_rfl) ?_
      · exact One.bo hp2 (fun _ _ => by kernel_rfl)
      intro G6 xa xw hDn
      refine hDn.to [1, 2, 5, 15, 16, 17, 18] [] (by kernel_rfl) ?_
      clear hDn
      refine Pre.conv (sl := [(1, pathv), (2, .pointer (some ⟨b1, 0, none⟩)), (5, v1), (15, pathv), (16, .int .i64 n1), (17, .int .i64 k0), (18, .bool p2)]) (A := [H]) (L := [some (b1, .cells #[vv] 24 (0, 0)), oute]) ?_ (by kernel_rfl) (by kernel_rfl) (by kernel_rfl)
      clear G6
      refine At.then ?_
      refine W.seq (by kernel_rfl) ?_
      refine W.cond p2 (by kernel_rfl) (fun xa hs => cnd_of (t := 18) (by kernel_rfl) (by kernel_rfl) hs) (fun hq => ?_) (fun hq => ?_)
      · skip
        have hq3 := hq
        replace hq3 := (iN hp2 iDT).1 hq3
        refine W.skip (by kernel_rfl) ?_
        refine At.then ?_
        refine W.seq (by kernel_rfl) ?_
        refine W.block 1 (by kernel_rfl) ?_
        refine W.seq (by kernel_rfl) ?_
        obtain ⟨n2, hn2⟩ : ∃ zz : Int, zz = path.getD k0.toNat default := ⟨_, rfl⟩
        refine W.regV (view_ct_r22_6 vv pathv H b1 n1 v1 oute k0 p2 n2) [0, 3, 4] [1, 2] (fun G => [.int .i64 k0, .int .i64 k0, .int .i64 n2]) (by kernel_rfl) mo_tw (by kernel_rfl) (fun _ _ => by kernel_rfl) ⟨?_, ?_, trivial⟩ (by kernel_rfl) ?_
        · exact One.index (t := 26) (e := 3) (size := 1) (v := fun G => pathv) (k := .i64) (n := k0) (fun _ => ⟨by kernel_rfl⟩) (fun G w hs => ⟨_, (hpath).isSl, by first | omega | (simp only [List.length_append, List.length_cons, List.length_nil, List.length_replicate, List.length_set, List.length_take, List.length_drop, List.length_map, List.length_reverse, List.length_range]; omega), by first | omega | (simp only [List.length_append, List.length_cons, List.length_nil, List.length_replicate, List.length_set, List.length_take, List.length_drop, List.length_map, List.length_reverse, List.length_range]; omega)⟩)
        · exact One.loadD (α := Int) (t := 3) (size := 1) (off := 0) (k := k0) (l := fun G => path) (x := fun G => n2) (vs := fun G => [.int .i64 n2]) (v := fun G => pathv) (H := fun G => H) (p := fun G => elemAddr pathv (k0.toNat * 1)) (fun G => ⟨by kernel_rfl⟩) rfl (fun G => by kernel_rfl) (fun G w hs => ⟨(hs.read 0 rfl), hpath, (add_zero' _).symm, by omega, by first | omega | (simp only [List.length_append, List.length_cons, List.length_nil, List.length_replicate, List.length_set, List.length_take, List.length_drop, List.length_map, List.length_reverse, List.length_range]; omega), hn2⟩)
        intro G7 xa xw hDn
        refine hDn.to [1, 2, 5, 6, 7, 15, 16, 17] [] (by kernel_rfl) ?_
        clear hDn
        refine Pre.conv (sl := [(1, pathv), (2, .pointer (some ⟨b1, 0, none⟩)), (5, v1), (6, .int .i64 k0), (7, .int .i64 n2), (15, pathv), (16, .int .i64 n1), (17, .int .i64 k0)]) (A := [H]) (L := [some (b1, .cells #[vv] 24 (0, 0)), oute]) ?_ (by kernel_rfl) (by kernel_rfl) (by kernel_rfl)
        clear G7
        refine At.then ?_
        refine W.seq (by kernel_rfl) ?_
        obtain ⟨x1, hx1⟩ : ∃ zz : DThing, zz = v.getD n2.toNat default := ⟨_, rfl⟩
        obtain ⟨x2, hx2⟩ : ∃ zz : DThing, zz = out.getD k0.toNat default := ⟨_, rfl⟩
        obtain ⟨l2, hl2⟩ : ∃ zz : List DThing, zz = (out.set k0.toNat x1) := ⟨_, rfl⟩
        have hl2n := congrArg List.length hl2; try simp only [List.length_append, List.length_cons, List.length_nil, List.length_replicate, List.length_set, List.length_take, List.length_drop, List.length_map, List.length_reverse, List.length_range] at hl2n
        have hwh := Tm.walks_has hW (k := k0) (by omega) (by omega) (by assumption)
        refine W.regV (view_ct_r22_7 vv pathv H b1 n1 v1 oute k0 n2 x1 l2) [0, 1, 2, 4] [3, 5, 6, 7, 8] (fun G => [v1, .int .i64 k0, .pointer (some ⟨b1, 0, none⟩), .int .i64 n2]) (by kernel_rfl) mo_tw (by kernel_rfl) (fun _ _ => by kernel_rfl) ⟨?_, ?_, ?_, ?_, ?_, trivial⟩ (by kernel_rfl) ?_
        · exact One.loadE (t := 22) (r := 0) (off := 0) (b := fun G => b1) (vs := fun G => [vv]) (arr := fun G => #[vv]) (T := 24) (fr := (0, 0)) (fun G => ⟨by kernel_rfl⟩) (fun G => by kernel_rfl)
        · exact One.index (t := 22) (e := 44) (size := 5) (v := fun G => vv) (k := .i64) (n := n2) (fun _ => ⟨by kernel_rfl⟩) (fun G w hs => ⟨_, (hv).isSl, by first | omega | (simp only [List.length_append, List.length_cons, List.length_nil, List.length_replicate, List.length_set, List.length_take, List.length_drop, List.length_map, List.length_reverse, List.length_range]; omega), by first | omega | (simp only [List.length_append, List.length_cons, List.length_nil, List.length_replicate, List.length_set, List.length_take, List.length_drop, List.length_map, List.length_reverse, List.length_range]; omega)⟩)
        · exact One.loadD (α := DThing) (t := 44) (size := 5) (off := 0) (k := n2) (l := fun G => v) (x := fun G => x1) (vs := fun G => [.string x1.Text, .int .i64 x1.Value, .int .i64 x1.Blind, .int .i64 x1.Left, .int .i64 x1.Right]) (v := fun G => vv) (H := fun G => H) (p := fun G => elemAddr vv (n2.toNat * 5)) (fun G => ⟨by kernel_rfl⟩) rfl (fun G => by kernel_rfl) (fun G w hs => ⟨(hs.read 0 rfl), hv, (add_zero' _).symm, by omega, by first | omega | (simp only [List.length_append, List.length_cons, List.length_nil, List.length_replicate, List.length_set, List.length_take, List.length_drop, List.length_map, List.length_reverse, List.length_range]; omega), hx1⟩)
        · exact One.index (t := 22) (e := 44) (size := 5) (v := fun G => v1) (k := .i64) (n := k0) (fun _ => ⟨by kernel_rfl⟩) (fun G w hs => ⟨_, (hr1).isSl, by first | omega | (simp only [List.length_append, List.length_cons, List.length_nil, List.length_replicate, List.length_set, List.length_take, List.length_drop, List.length_map, List.length_reverse, List.length_range]; omega), by first | omega | (simp only [List.length_append, List.length_cons, List.length_nil, List.length_replicate, List.length_set, List.length_take, List.length_drop, List.length_map, List.length_reverse, List.length_range]; omega)⟩)
        · exact One.storeD (α := DThing) (t := 44) (r := 1) (E := 44) (size := 5) (off := 0) (k := k0) (l := fun G => out) (l' := fun G => l2) (x := fun G => x2) (x' := fun G => x1) (u := fun G => .agg #[.string x1.Text, .int .i64 x1.Value, .int .i64 x1.Blind, .int .i64 x1.Left, .int .i64 x1.Right]) (vs := fun G => [.string x1.Text, .int .i64 x1.Value, .int .i64 x1.Blind, .int .i64 x1.Left, .int .i64 x1.Right]) (v := fun G => v1) (e := fun G => oute) (p := fun G => elemAddr v1 (k0.toNat * 5)) (H := fun G => H) (fun G g => ⟨by kernel_rfl, by kernel_rfl⟩) rfl (fun G => by kernel_rfl) (fun G w hs => ⟨hr1, (add_zero' _).symm, by omega, by first | omega | (simp only [List.length_append, List.length_cons, List.length_nil, List.length_replicate, List.length_set, List.length_take, List.length_drop, List.length_map, List.length_reverse, List.length_range]; omega), hx2, hl2, rfl, (all_cons1 rfl (all_cons1 rfl (all_cons1 rfl (all_cons1 rfl (all_cons1 rfl rfl))))), trivial⟩)
        intro G8 xa xw hDn
        have hf8_5 : OSl 44 H l2 v1 (G8 8).e := hDn.get 8 (by kernel_rfl) (by kernel_rfl) (by kernel_rfl)
        refine hDn.to [1, 2, 5, 6, 15, 16, 17] [] (by kernel_rfl) ?_
        clear hDn
        refine Pre.conv (sl := [(1, pathv), (2, .pointer (some ⟨b1, 0, none⟩)), (5, v1), (6, .int .i64 k0), (15, pathv), (16, .int .i64 n1), (17, .int .i64 k0)]) (A := [H]) (L := [some (b1, .cells #[vv] 24 (0, 0)), (G8 8).e]) ?_ (by kernel_rfl) (by kernel_rfl) (by kernel_rfl)
        generalize (G8 8).e = e2 at hf8_5 ⊢
        clear G8
        refine At.then ?_
        refine W.seq (by kernel_rfl) ?_
        obtain ⟨p3, hp3⟩ : ∃ zz : Bool, zz = decide (0 < k0) := ⟨_, rfl⟩
        obtain ⟨n3, hn3⟩ : ∃ zz : Int, zz = n1 - 1 := ⟨_, rfl⟩
        obtain ⟨p4, hp4⟩ : ∃ zz : Bool, zz = decide (k0 < n3) := ⟨_, rfl⟩
        obtain ⟨p5, hp5⟩ : ∃ zz : Bool, zz = (p3 && p4) := ⟨_, rfl⟩
        refine W.regV (view_ct_r22_8 vv pathv H b1 n1 v1 k0 e2 p3 n3 p4 p5) [0, 2, 3, 4] [1, 5, 6, 7, 8] (fun G => [.int .i64 k0, .bool p3, .int .i64 k0, pathv]) (by kernel_rfl) mo_tw (by kernel_rfl) (fun _ _ => by kernel_rfl) ⟨?_, ?_, ?_, ?_, ?_, trivial⟩ (by kernel_rfl) ?_
        · exact One.bo hp3 (fun _ _ => by kernel_rfl)
        · exact One.len (t := 26) (n := n1) (v := fun G => pathv) (fun _ => ⟨by kernel_rfl⟩) (fun G w hs => by
            have hg := gd_of hs (p := (true && (p3 == true))) (by kernel_rfl)
            have hg0 := (iN hp3 iDT).1 (eqT (andR hg))
            exact ⟨_, (hpath).isSl, hn1⟩)
        · exact One.ar hn3 (fun _ _ => by kernel_rfl) (fun G w hs => by
            have hg := gd_of hs (p := (true && (p3 == true))) (by kernel_rfl)
            have hg0 := (iN hp3 iDT).1 (eqT (andR hg))
            exact by omega)
        · exact One.bo hp4 (fun _ _ => by kernel_rfl)
        · subst hp5
          cases p3 <;> exact One.under fun _ _ _ => by kernel_rfl
        intro G9 xa xw hDn
        refine hDn.to [1, 2, 5, 6, 15, 16, 17, 38] [] (by kernel_rfl) ?_
        clear hDn
        refine Pre.conv (sl := [(1, pathv), (2, .pointer (some ⟨b1, 0, none⟩)), (5, v1), (6, .int .i64 k0), (15, pathv), (16, .int .i64 n1), (17, .int .i64 k0), (38, .bool p5)]) (A := [H]) (L := [some (b1, .cells #[vv] 24 (0, 0)), e2]) ?_ (by kernel_rfl) (by kernel_rfl) (by kernel_rfl)
        clear G9
        refine At.then ?_
        refine W.cond p5 (by kernel_rfl) (fun xa hs => cnd_of (t := 38) (by kernel_rfl) (by kernel_rfl) hs) (fun hq => ?_) (fun hq => ?_)
        · skip
          have hq4 := hq
          replace hq4 := (iN hp5 (iAT (iN hp3 iDT) (iN hp4 iDT))).1 hq4
          obtain ⟨x3, hx3⟩ : ∃ zz : DThing, zz = l2.getD k0.toNat default := ⟨_, rfl⟩
          obtain ⟨l3, hl3⟩ : ∃ zz : List DThing, zz = (l2.set k0.toNat ((DThing.mk x3.Text ((-1)) x3.Blind x3.Left x3.Right))) := ⟨_, rfl⟩
          have hl3n := congrArg List.length hl3; try simp only [List.length_append, List.length_cons, List.length_nil, List.length_replicate, List.length_set, List.length_take, List.length_drop, List.length_map, List.length_reverse, List.length_range] at hl3n
          obtain ⟨x4, hx4⟩ : ∃ zz : DThing, zz = l3.getD k0.toNat default := ⟨_, rfl⟩
          obtain ⟨l4, hl4⟩ : ∃ zz : List DThing, zz = (l3.set k0.toNat ((DThing.mk x4.Text x4.Value ((-1)) x4.Left x4.Right))) := ⟨_, rfl⟩
          have hl4n := congrArg List.length hl4; try simp only [List.length_append, List.length_cons, List.length_nil, List.length_replicate, List.length_set, List.length_take, List.length_drop, List.length_map, List.length_reverse, List.length_range] at hl4n
          refine W.regV (view_ct_r22_9 vv pathv H b1 n1 v1 k0 e2 p5 l3 l4) [0, 1, 2, 3, 5, 8] [4, 6, 7, 9] (fun G => [v1, .int .i64 k0, v1, .int .i64 k0, .pointer (some ((elemAddr v1 (k0.toNat * 5)).add 1)), .pointer (some ((elemAddr v1 (k0.toNat * 5)).add 2))]) (by kernel_rfl) mo_tw (by kernel_rfl) (fun _ _ => by kernel_rfl) ⟨?_, ?_, ?_, ?_, trivial⟩ (by kernel_rfl) ?_
          · exact One.index (t := 22) (e := 44) (size := 5) (v := fun G => v1) (k := .i64) (n := k0) (fun _ => ⟨by kernel_rfl⟩) (fun G w hs => ⟨_, (hf8_5).isSl, by first | omega | (simp only [List.length_append, List.length_cons, List.length_nil, List.length_replicate, List.length_set, List.length_take, List.length_drop, List.length_map, List.length_reverse, List.length_range]; omega), by first | omega | (simp only [List.length_append, List.length_cons, List.length_nil, List.length_replicate, List.length_set, List.length_take, List.length_drop, List.length_map, List.length_reverse, List.length_range]; omega)⟩)
          · exact One.storeD (α := DThing) (t := 3) (r := 1) (E := 44) (size := 5) (off := 1) (k := k0) (l := fun G => l2) (l' := fun G => l3) (x := fun G => x3) (x' := fun G => (DThing.mk x3.Text ((-1)) x3.Blind x3.Left x3.Right)) (u := fun G => .int .i64 ((-1))) (vs := fun G => [.int .i64 ((-1))]) (v := fun G => v1) (e := fun G => e2) (p := fun G => (elemAddr v1 (k0.toNat * 5)).add 1) (H := fun G => H) (fun G g => ⟨by kernel_rfl, by kernel_rfl⟩) rfl (fun G => by kernel_rfl) (fun G w hs => ⟨hf8_5, rfl, by omega, by first | omega | (simp only [List.length_append, List.length_cons, List.length_nil, List.length_replicate, List.length_set, List.length_take, List.length_drop, List.length_map, List.length_reverse, List.length_range]; omega), hx3, hl3, rfl, (all_cons1 rfl rfl), trivial⟩)
          · exact One.index (t := 22) (e := 44) (size := 5) (v := fun G => v1) (k := .i64) (n := k0) (fun _ => ⟨by kernel_rfl⟩) (fun G w hs => by
              have ho6 : OSl 44 H l3 v1 (G 6).e := hs.get 6 (by kernel_rfl) (p := true) (by kernel_rfl) rfl (by kernel_rfl)
              exact ⟨_, (ho6).isSl, by first | omega | (simp only [List.length_append, List.length_cons, List.length_nil, List.length_replicate, List.length_set, List.length_take, List.length_drop, List.length_map, List.length_reverse, List.length_range]; omega), by first | omega | (simp only [List.length_append, List.length_cons, List.length_nil, List.length_replicate, List.length_set, List.length_take, List.length_drop, List.length_map, List.length_reverse, List.length_range]; omega)⟩)
          · exact One.storeD (α := DThing) (t := 3) (r := 1) (E := 44) (size := 5) (off := 2) (k := k0) (l := fun G => l3) (l' := fun G => l4) (x := fun G => x4) (x' := fun G => (DThing.mk x4.Text x4.Value ((-1)) x4.Left x4.Right)) (u := fun G => .int .i64 ((-1))) (vs := fun G => [.int .i64 ((-1))]) (v := fun G => v1) (e := fun G => (G 6).e) (p := fun G => (elemAddr v1 (k0.toNat * 5)).add 2) (H := fun G => H) (fun G g => ⟨by kernel_rfl, by kernel_rfl⟩) rfl (fun G => by kernel_rfl) (fun G w hs => by
              have ho6 : OSl 44 H l3 v1 (G 6).e := hs.get 6 (by kernel_rfl) (p := true) (by kernel_rfl) rfl (by kernel_rfl)
              exact ⟨ho6, rfl, by omega, by first | omega | (simp only [List.length_append, List.length_cons, List.length_nil, List.length_replicate, List.length_set, List.length_take, List.length_drop, List.length_map, List.length_reverse, List.length_range]; omega), hx4, hl4, rfl, (all_cons1 rfl rfl), trivial⟩)
          intro G10 xa xw hDn
          have hf9_6 : OSl 44 H l4 v1 (G10 9).e := hDn.get 9 (by kernel_rfl) (by kernel_rfl) (by kernel_rfl)
          refine hDn.to [1, 2, 5, 15, 16, 17] [] (by kernel_rfl) ?_
          clear hDn
          refine Pre.conv (sl := [(1, pathv), (2, .pointer (some ⟨b1, 0, none⟩)), (5, v1), (15, pathv), (16, .int .i64 n1), (17, .int .i64 k0)]) (A := [H]) (L := [some (b1, .cells #[vv] 24 (0, 0)), (G10 9).e]) ?_ (by kernel_rfl) (by kernel_rfl) (by kernel_rfl)
          generalize (G10 9).e = e3 at hf9_6 ⊢
          clear G10
          refine At.blockNormal ?_
          refine At.then ?_
          obtain ⟨n4, hn4⟩ : ∃ zz : Int, zz = k0 + 1 := ⟨_, rfl⟩
          refine W.regV (view_ct_r22_10 vv pathv H b1 n1 v1 k0 e3 n4) [1] [0] (fun G => [.int .i64 n4]) (by kernel_rfl) mo_tw (by kernel_rfl) (fun _ _ => by kernel_rfl) ⟨?_, trivial⟩ (by kernel_rfl) ?_
          · exact One.ar hn4 (fun _ _ => by kernel_rfl) (fun G w hs => by omega)
          intro G11 xa xw hDn
          refine hDn.to [1, 2, 5, 15, 16, 17] [] (by kernel_rfl) ?_
          clear hDn
          refine Pre.conv (sl := [(1, pathv), (2, .pointer (some ⟨b1, 0, none⟩)), (5, v1), (15, pathv), (16, .int .i64 n1), (17, .int .i64 n4)]) (A := [H]) (L := [some (b1, .cells #[vv] 24 (0, 0)), e3]) ?_ (by kernel_rfl) (by kernel_rfl) (by kernel_rfl)
          clear G11
          intro xa xw hs hw
          refine ⟨(l4, e3, n4), ⟨hs.sub (by kernel_rfl), hw.mask [true, true] (by kernel_rfl), ?_⟩, ?_⟩
          · skip
            refine ⟨hf9_6, ?_, ?_, ?_⟩
            · show 0 ≤ n4
              first | omega | rfl | (simp; done) | (subst_vars; simp; done)
            · show n4 ≤ n1
              first | omega | rfl | (simp; done) | (subst_vars; simp; done)
            · show l4 = Tm.viewW v path n4.toNat
              exact Tm.view_mid (k := k0) (by omega) (by omega) (by assumption) (by assumption) hf4 (by assumption) (by assumption) (by assumption) (by assumption) (by assumption) (by assumption) (by omega)
          · show (n1 - n4).toNat < (n1 - k0).toNat
            omega
        · skip
          have hq5 := hq
          replace hq5 := (iN hp5 (iAF (iN hp3 iDF) (iN hp4 iDF))).1 hq5
          refine W.skip (by kernel_rfl) ?_
          refine At.blockNormal ?_
          refine At.then ?_
          obtain ⟨n5, hn5⟩ : ∃ zz : Int, zz = k0 + 1 := ⟨_, rfl⟩
          refine W.regV (view_ct_r22_11 vv pathv H b1 n1 v1 k0 e2 p5 n5) [1] [0] (fun G => [.int .i64 n5]) (by kernel_rfl) mo_tw (by kernel_rfl) (fun _ _ => by kernel_rfl) ⟨?_, trivial⟩ (by kernel_rfl) ?_
          · exact One.ar hn5 (fun _ _ => by kernel_rfl) (fun G w hs => by omega)
          intro G12 xa xw hDn
          refine hDn.to [1, 2, 5, 15, 16, 17] [] (by kernel_rfl) ?_
          clear hDn
          refine Pre.conv (sl := [(1, pathv), (2, .pointer (some ⟨b1, 0, none⟩)), (5, v1), (15, pathv), (16, .int .i64 n1), (17, .int .i64 n5)]) (A := [H]) (L := [some (b1, .cells #[vv] 24 (0, 0)), e2]) ?_ (by kernel_rfl) (by kernel_rfl) (by kernel_rfl)
          clear G12
          intro xa xw hs hw
          refine ⟨(l2, e2, n5), ⟨hs.sub (by kernel_rfl), hw.mask [true, true] (by kernel_rfl), ?_⟩, ?_⟩
          · skip
            refine ⟨hf8_5, ?_, ?_, ?_⟩
            · show 0 ≤ n5
              first | omega | rfl | (simp; done) | (subst_vars; simp; done)
            · show n5 ≤ n1
              first | omega | rfl | (simp; done) | (subst_vars; simp; done)
            · show l2 = Tm.viewW v path n5.toNat
              exact Tm.view_end (k := k0) (by omega) (by omega) (by assumption) (by assumption) hf4 (by assumption) (by assumption) (by omega)
          · show (n1 - n5).toNat < (n1 - k0).toNat
            omega
      · skip
        have hq6 := hq
        replace hq6 := (iN hp2 iDF).1 hq6
        refine W.exit 0 (by kernel_rfl) ?_
        refine At.thenExit ?_
        refine At.thenExit ?_
        refine At.blockHit ?_
        refine At.then ?_
        refine W.seq (by kernel_rfl) ?_
        refine W.regV (view_ct_r22_12 vv pathv H b1 n1 v1 oute k0 p2) [0, 1] [] (fun G => [v1, v1]) (by kernel_rfl) mo_tw (by kernel_rfl) (fun _ _ => by kernel_rfl) trivial (by kernel_rfl) ?_
        intro G13 xa xw hDn
        refine hDn.to [4] [] (by kernel_rfl) ?_
        clear hDn
        refine Pre.conv (sl := [(4, v1)]) (A := [H]) (L := [some (b1, .cells #[vv] 24 (0, 0)), oute]) ?_ (by kernel_rfl) (by kernel_rfl) (by kernel_rfl)
        clear G13
        refine At.then ?_
        refine W.ret (by kernel_rfl) ?_
        refine Pre.freeze 1 (e := oute) (by kernel_rfl) hE (fun K1 hk1 hk2 hE1 => ?_)
        have hr2 := (hr1).frozen hk1 hk2
        have hr3 := (hv).mono hk1
        refine Pre.conv (L := [some (b1, .cells #[vv] 24 (0, 0)), none]) ?_ rfl rfl (by kernel_rfl)
        refine At.results (Or.inl rfl) (v1) (fun xa xw hs hw => results_one (r := .tmp 4) (by kernel_rfl) (res_tmp (t := 4) (by kernel_rfl) hs)) (fun w' hw => ?_)
        have e0 : out = (Tm.viewF v path) := by
          exact Tm.viewF_yes hW hf4 (by omega)
        exact Makes.ret v1 undef undef hA hE1 hw (fun N => rfl) (fun N J hJ => (e0 ▸ (hr2).mono hJ))

noncomputable def check_ct_r24_0 (vv pathv : Value) (total blind : Int) (text : ByteArray) (value own : Int) (H : Heaplet) : RC := { ops := opsAt Try.f24 0, B := [0, 0], sl := [(0, .agg #[vv]), (1, pathv), (2, .int .i64 total), (3, .int .i64 blind), (4, .string text), (5, .int .i64 value), (6, .int .i64 own)], A := [H], L := [none, none], cs := [{ val := fun G => .pointer (some ⟨(G 0).b, 0, none⟩), ups := [(0, fun G => some ((G 0).b, .cells #[vv] 24 (0, 0)))] }, { val := fun _ => .bool false }] }
noncomputable def check_ct_r24_1 (vv pathv : Value) (total blind : Int) (text : ByteArray) (value own : Int) (H : Heaplet) (b1 : Nat) (p1 : Bool) : RC := { ops := opsAt Try.f24 1, B := [0, 0, 3, 7], sl := [(1, pathv), (2, .int .i64 total), (3, .int .i64 blind), (4, .string text), (5, .int .i64 value), (6, .int .i64 own), (7, .pointer (some ⟨b1, 0, none⟩))], A := [H], L := [some (b1, .cells #[vv] 24 (0, 0)), none], cs := [{ val := fun _ => .agg #[vv], rds := [0] }, { val := fun _ => pathv }, { val := fun _ => .bool p1 }, { val := fun _ => .bool (!p1) }] }
noncomputable def check_ct_r24_2 (vv pathv : Value) (total blind : Int) (text : ByteArray) (value own : Int) (H : Heaplet) (b1 : Nat) (p1 : Bool) : RC := { ops := opsAt Try.f24 2, B := [0], sl := [(1, pathv), (2, .int .i64 total), (3, .int .i64 blind), (4, .string text), (5, .int .i64 value), (6, .int .i64 own), (7, .pointer (some ⟨b1, 0, none⟩)), (20, .bool (!p1))], A := [H], L := [some (b1, .cells #[vv] 24 (0, 0)), none], cs := [{ val := fun _ => .bool false }] }
noncomputable def check_ct_r24_3 (vv pathv : Value) (total blind : Int) (text : ByteArray) (value own : Int) (H : Heaplet) (b1 : Nat) (p1 : Bool) (n1 : Int) (x1 : DThing) (n2 n3 n4 : Int) : RC := { ops := opsAt Try.f24 3, B := [0, 1, 0, 4, 12, 31, 63, 0, 0, 256, 768, 1920, 3968, 0, 8319, 32767], sl := [(1, pathv), (2, .int .i64 total), (3, .int .i64 blind), (4, .string text), (5, .int .i64 value), (6, .int .i64 own), (7, .pointer (some ⟨b1, 0, none⟩)), (20, .bool (!p1))], A := [H], L := [some (b1, .cells #[vv] 24 (0, 0)), none], cs := [{ val := fun _ => .pointer (some ⟨b1, 0, none⟩) }, { val := fun _ => vv, rds := [0] }, { val := fun _ => pathv }, { val := fun _ => .pointer (some (elemAddr pathv ((0 : Int).toNat * 1))) }, { val := fun _ => .int .i64 n1 }, { val := fun _ => .pointer (some (elemAddr vv (n1.toNat * 5))) }, { val := fun _ => .agg #[.string x1.Text, .int .i64 x1.Value, .int .i64 x1.Blind, .int .i64 x1.Left, .int .i64 x1.Right] }, { val := fun _ => pathv }, { val := fun _ => pathv }, { val := fun _ => .int .i64 n2 }, { val := fun _ => .int .i64 n3 }, { val := fun _ => .pointer (some (elemAddr pathv (n3.toNat * 1))) }, { val := fun _ => .int .i64 n4 }, { val := fun G => .pointer (some ⟨(G 13).b, 0, none⟩), ups := [(1, fun G => some ((G 13).b, .cells #[.string ByteArray.empty, .int .i64 0, .int .i64 0, .int .i64 0, .int .i64 0] 44 (0, 0)))] }, { val := fun _ => undef, ups := [(1, fun G => some ((G 13).b, .cells #[.string x1.Text, .int .i64 x1.Value, .int .i64 x1.Blind, .int .i64 x1.Left, .int .i64 x1.Right] 44 (0, 0)))] }, { val := fun _ => .int .i64 n4 }] }
noncomputable def check_ct_r24_4 (vv : Value) (total blind : Int) (text : ByteArray) (value own : Int) (H : Heaplet) (b1 : Nat) (x1 : DThing) (n4 : Int) (b2 : Nat) (p2 p3 p4 : Bool) (x2 : DThing) (p5 p6 p7 p8 : Bool) : RC := { ops := opsAt Try.f24 4, B := [0, 1, 0, 7, 15, 31, 63, 31, 255, 511, 1023, 2047, 4095, 2047, 16383, 32767, 65535, 131071, 262143, 524287, 524287, 524287, 524287, 524287, 16777215, 33554431, 67108863], sl := [(2, .int .i64 total), (3, .int .i64 blind), (4, .string text), (5, .int .i64 value), (6, .int .i64 own), (7, .pointer (some ⟨b1, 0, none⟩)), (15, .pointer (some ⟨b2, 0, none⟩)), (16, .int .i64 n4)], A := [H], L := [some (b1, .cells #[vv] 24 (0, 0)), some (b2, .cells #[.string x1.Text, .int .i64 x1.Value, .int .i64 x1.Blind, .int .i64 x1.Left, .int .i64 x1.Right] 44 (0, 0))], cs := [{ val := fun _ => .pointer (some ⟨b2, 1, none⟩) }, { val := fun _ => .int .i64 x1.Value, rds := [1] }, { val := fun _ => .int .i64 total }, { val := fun _ => .bool p2 }, { val := fun _ => .bool p2 }, { val := fun _ => .pointer (some ⟨b2, 2, none⟩) }, { val := fun _ => .int .i64 x1.Blind, rds := [1] }, { val := fun _ => .int .i64 blind }, { val := fun _ => .bool p3 }, { val := fun _ => .bool p4 }, { val := fun _ => .bool p4 }, { val := fun _ => .pointer (some ⟨b1, 0, none⟩) }, { val := fun _ => vv, rds := [0] }, { val := fun _ => .int .i64 n4 }, { val := fun _ => .pointer (some (elemAddr vv (n4.toNat * 5))) }, { val := fun _ => .agg #[.string x2.Text, .int .i64 x2.Value, .int .i64 x2.Blind, .int .i64 x2.Left, .int .i64 x2.Right] }, { val := fun _ => .bool p5 }, { val := fun _ => .bool p6 }, { val := fun _ => .bool p6 }, { val := fun _ => .agg #[vv], rds := [0] }, { val := fun _ => .int .i64 n4 }, { val := fun _ => .string text }, { val := fun _ => .int .i64 value }, { val := fun _ => .int .i64 own }, { val := fun _ => .bool p7 }, { val := fun _ => .bool p8 }, { val := fun _ => .bool p8 }] }
set_option maxRecDepth 10000 in
theorem check_ct (v : List DThing) (vv : Value) (path : List Int) (pathv : Value) (total blind : Int) (text : ByteArray) (value own : Int) (w0 : World) (H : Heaplet) (hA : Agrees w0 H) (hv : RSl H v vv) (hpath : RSl H path pathv) :
    Calls Try.prog 24 #[.agg #[vv], pathv, .int .i64 total, .int .i64 blind, .string text, .int .i64 value, .int .i64 own] w0 (fun e w' => e = .returned (.bool ((decide (Tm.checkP v path total blind text value own)))) ∧ Base [] w0 w') := by
  have hE : Ext w0 H H := Ext.refl w0 H
  have hvn := hv.lim
  have hpathn := hpath.lim
  refine calls_of_W (sl := [(0, .agg #[vv]), (1, pathv), (2, .int .i64 total), (3, .int .i64 blind), (4, .string text), (5, .int .i64 value), (6, .int .i64 own)]) (A := [H]) (L := [none, none]) Try.func24 (by kernel_rfl) 60 (by kernel_rfl) (by kernel_rfl) (fun J hJ => by simp at hJ; subst hJ; exact hA) (by simp) ?_
  refine W.seq (by kernel_rfl) ?_
  refine W.regV (check_ct_r24_0 vv pathv total blind text value own H) [1] [0] (fun G => [.bool false]) (by kernel_rfl) mo_tw (by kernel_rfl) (fun _ _ => by kernel_rfl) ⟨?_, trivial⟩ (by kernel_rfl) ?_
  · exact One.new (r := 0) (T := 24) (fun b => .pointer (some ⟨b, 0, none⟩)) (arr := fun G => #[vv]) (fun G w => by kernel_rfl) (fun G b => by kernel_rfl)
  intro G1 xa xw hDn
  refine hDn.to [1, 2, 3, 4, 5, 6, 7] [] (by kernel_rfl) ?_
  clear hDn
  refine Pre.conv (sl := [(1, pathv), (2, .int .i64 total), (3, .int .i64 blind), (4, .string text), (5, .int .i64 value), (6, .int .i64 own), (7, .pointer (some ⟨(G1 0).b, 0, none⟩))]) (A := [H]) (L := [some ((G1 0).b, .cells #[vv] 24 (0, 0)), none]) ?_ (by kernel_rfl) (by kernel_rfl) (by kernel_rfl)
  generalize (G1 0).b = b1 at ⊢
  clear G1
  refine At.then ?_
  refine W.seq (by kernel_rfl) ?_
  refine W.seq (by kernel_rfl) ?_
  obtain ⟨p1, hp1⟩ : ∃ zz : Bool, zz = (decide (Tm.Walks v path)) := ⟨_, rfl⟩
  refine W.regV (check_ct_r24_1 vv pathv total blind text value own H b1 p1) [1, 3] [0, 2] (fun G => [pathv, .bool (!p1)]) (by kernel_rfl) mo_tw (by kernel_rfl) (fun _ _ => by kernel_rfl) ⟨?_, ?_, trivial⟩ (by kernel_rfl) ?_
  · exact One.loadE (t := 24) (r := 0) (off := 0) (b := fun G => b1) (vs := fun G => [vv]) (arr := fun G => #[vv]) (T := 24) (fr := (0, 0)) (fun G => ⟨by kernel_rfl⟩) (fun G => by kernel_rfl)
  · exact One.callP (v := fun G => .bool p1) (f := 54) (args := fun G => #[.agg #[vv], pathv]) (fun _ _ => by kernel_rfl) (fun G w hs => by
      rw [hp1]
      exact walks_ct v vv path pathv w H (hs.read 0 rfl) (hv) (hpath) )
  intro G2 xa xw hDn
  refine hDn.to [1, 2, 3, 4, 5, 6, 7, 20] [] (by kernel_rfl) ?_
  clear hDn
  refine Pre.conv (sl := [(1, pathv), (2, .int .i64 total), (3, .int .i64 blind), (4, .string text), (5, .int .i64 value), (6, .int .i64 own), (7, .pointer (some ⟨b1, 0, none⟩)), (20, .bool (!p1))]) (A := [H]) (L := [some (b1, .cells #[vv] 24 (0, 0)), none]) ?_ (by kernel_rfl) (by kernel_rfl) (by kernel_rfl)
  clear G2
  refine At.then ?_
  refine W.cond (!p1) (by kernel_rfl) (fun xa hs => cnd_of (t := 20) (by kernel_rfl) (by kernel_rfl) hs) (fun hq => ?_) (fun hq => ?_)
  · skip
    have hq1 := hq
    replace hq1 := (iNT (iN hp1 iDF)).1 hq1
    refine W.seq (by kernel_rfl) ?_
    refine W.regV (check_ct_r24_2 vv pathv total blind text value own H b1 p1) [0] [] (fun G => [.bool false]) (by kernel_rfl) mo_tw (by kernel_rfl) (fun _ _ => by kernel_rfl) trivial (by kernel_rfl) ?_
    intro G3 xa xw hDn
    refine hDn.to [14] [] (by kernel_rfl) ?_
    clear hDn
    refine Pre.conv (sl := [(14, .bool false)]) (A := [H]) (L := [some (b1, .cells #[vv] 24 (0, 0)), none]) ?_ (by kernel_rfl) (by kernel_rfl) (by kernel_rfl)
    clear G3
    refine At.then ?_
    refine W.ret (by kernel_rfl) ?_
    refine At.thenRet ?_
    refine At.results (Or.inl rfl) (.bool false) (fun xa xw hs hw => results_one (r := .tmp 14) (by kernel_rfl) (res_tmp (t := 14) (by kernel_rfl) hs)) (fun w' hw => ?_)
    have e0 : false = (decide (Tm.checkP v path total blind text value own)) := by
      symm; rw [decide_eq_false_iff_not]; rintro ⟨h, _⟩; exact hq1 h
    exact ⟨congrArg Ending.returned (cong1 (fun (x0 : Bool) => (.bool x0 : Value)) e0), hw.base⟩
  · skip
    have hq2 := hq
    replace hq2 := (iNF (iN hp1 iDT)).1 hq2
    refine W.skip (by kernel_rfl) ?_
    refine At.then ?_
    refine W.seq (by kernel_rfl) ?_
    have hW := hq2
    have hne := hW.2.1
    obtain ⟨n1, hn1⟩ : ∃ zz : Int, zz = path.getD (0 : Int).toNat default := ⟨_, rfl⟩
    obtain ⟨x1, hx1⟩ : ∃ zz : DThing, zz = v.getD n1.toNat default := ⟨_, rfl⟩
    obtain ⟨n2, hn2⟩ : ∃ zz : Int, zz = (path.length : Int) := ⟨_, rfl⟩
    obtain ⟨n3, hn3⟩ : ∃ zz : Int, zz = n2 - 1 := ⟨_, rfl⟩
    obtain ⟨n4, hn4⟩ : ∃ zz : Int, zz = path.getD n3.toNat default := ⟨_, rfl⟩
    have hh0 := Tm.walks_has hW (k := (0 : Int)) (by omega) (by omega) (by assumption)
    have hh1 := Tm.walks_has hW (k := n3) (by omega) (by omega) hn4
    refine W.regV (check_ct_r24_3 vv pathv total blind text value own H b1 p1 n1 x1 n2 n3 n4) [0, 2, 7, 8, 15] [1, 3, 4, 5, 6, 9, 10, 11, 12, 13, 14] (fun G => [.pointer (some ⟨b1, 0, none⟩), pathv, pathv, pathv, .int .i64 n4]) (by kernel_rfl) mo_tw (by kernel_rfl) (fun _ _ => by kernel_rfl) ⟨?_, ?_, ?_, ?_, ?_, ?_, ?_, ?_, ?_, ?_, ?_, trivial⟩ (by kernel_rfl) ?_
    · exact One.loadE (t := 22) (r := 0) (off := 0) (b := fun G => b1) (vs := fun G => [vv]) (arr := fun G => #[vv]) (T := 24) (fr := (0, 0)) (fun G => ⟨by kernel_rfl⟩) (fun G => by kernel_rfl)
    · exact One.index (t := 26) (e := 3) (size := 1) (v := fun G => pathv) (k := .i64) (n := 0) (fun _ => ⟨by kernel_rfl⟩) (fun G w hs => ⟨_, (hpath).isSl, by first | omega | (simp only [List.length_append, List.length_cons, List.length_nil, List.length_replicate, List.length_set, List.length_take, List.length_drop, List.length_map, List.length_reverse, List.length_range]; omega), by first | omega | (simp only [List.length_append, List.length_cons, List.length_nil, List.length_replicate, List.length_set, List.length_take, List.length_drop, List.length_map, List.length_reverse, List.length_range]; omega)⟩)
    · exact One.loadD (α := Int) (t := 3) (size := 1) (off := 0) (k := 0) (l := fun G => path) (x := fun G => n1) (vs := fun G => [.int .i64 n1]) (v := fun G => pathv) (H := fun G => H) (p := fun G => elemAddr pathv ((0 : Int).toNat * 1)) (fun G => ⟨by kernel_rfl⟩) rfl (fun G => by kernel_rfl) (fun G w hs => ⟨(hs.read 0 rfl), hpath, (add_zero' _).symm, by omega, by first | omega | (simp only [List.length_append, List.length_cons, List.length_nil, List.length_replicate, List.length_set, List.length_take, List.length_drop, List.length_map, List.length_reverse, List.length_range]; omega), hn1⟩)
    · exact One.index (t := 22) (e := 44) (size := 5) (v := fun G => vv) (k := .i64) (n := n1) (fun _ => ⟨by kernel_rfl⟩) (fun G w hs => ⟨_, (hv).isSl, by first | omega | (simp only [List.length_append, List.length_cons, List.length_nil, List.length_replicate, List.length_set, List.length_take, List.length_drop, List.length_map, List.length_reverse, List.length_range]; omega), by first | omega | (simp only [List.length_append, List.length_cons, List.length_nil, List.length_replicate, List.length_set, List.length_take, List.length_drop, List.length_map, List.length_reverse, List.length_range]; omega)⟩)
    · exact One.loadD (α := DThing) (t := 44) (size := 5) (off := 0) (k := n1) (l := fun G => v) (x := fun G => x1) (vs := fun G => [.string x1.Text, .int .i64 x1.Value, .int .i64 x1.Blind, .int .i64 x1.Left, .int .i64 x1.Right]) (v := fun G => vv) (H := fun G => H) (p := fun G => elemAddr vv (n1.toNat * 5)) (fun G => ⟨by kernel_rfl⟩) rfl (fun G => by kernel_rfl) (fun G w hs => ⟨(hs.read 0 rfl), hv, (add_zero' _).symm, by omega, by first | omega | (simp only [List.length_append, List.length_cons, List.length_nil, List.length_replicate, List.length_set, List.length_take, List.length_drop, List.length_map, List.length_reverse, List.length_range]; omega), hx1⟩)
    · exact One.len (t := 26) (n := n2) (v := fun G => pathv) (fun _ => ⟨by kernel_rfl⟩) (fun G w hs => ⟨_, (hpath).isSl, hn2⟩)
    · exact One.ar hn3 (fun _ _ => by kernel_rfl) (fun G w hs => by omega)
    · exact One.index (t := 26) (e := 3) (size := 1) (v := fun G => pathv) (k := .i64) (n := n3) (fun _ => ⟨by kernel_rfl⟩) (fun G w hs => ⟨_, (hpath).isSl, by first | omega | (simp only [List.length_append, List.length_cons, List.length_nil, List.length_replicate, List.length_set, List.length_take, List.length_drop, List.length_map, List.length_reverse, List.length_range]; omega), by first | omega | (simp only [List.length_append, List.length_cons, List.length_nil, List.length_replicate, List.length_set, List.length_take, List.length_drop, List.length_map, List.length_reverse, List.length_range]; omega)⟩)
    · exact One.loadD (α := Int) (t := 3) (size := 1) (off := 0) (k := n3) (l := fun G => path) (x := fun G => n4) (vs := fun G => [.int .i64 n4]) (v := fun G => pathv) (H := fun G => H) (p := fun G => elemAddr pathv (n3.toNat * 1)) (fun G => ⟨by kernel_rfl⟩) rfl (fun G => by kernel_rfl) (fun G w hs => ⟨(hs.read 0 rfl), hpath, (add_zero' _).symm, by omega, by first | omega | (simp only [List.length_append, List.length_cons, List.length_nil, List.length_replicate, List.length_set, List.length_take, List.length_drop, List.length_map, List.length_reverse, List.length_range]; omega), hn4⟩)
    · exact One.new (r := 1) (T := 44) (fun b => .pointer (some ⟨b, 0, none⟩)) (arr := fun G => #[.string ByteArray.empty, .int .i64 0, .int .i64 0, .int .i64 0, .int .i64 0]) (fun G w => by kernel_rfl) (fun G b => by kernel_rfl)
    · exact One.store (t := 44) (r := 1) (off := 0) (T := 44) (b := fun G => (G 13).b) (u := fun G => .agg #[.string x1.Text, .int .i64 x1.Value, .int .i64 x1.Blind, .int .i64 x1.Left, .int .i64 x1.Right]) (vs := fun G => [.string x1.Text, .int .i64 x1.Value, .int .i64 x1.Blind, .int .i64 x1.Left, .int .i64 x1.Right]) (arr := fun G => #[.string ByteArray.empty, .int .i64 0, .int .i64 0, .int .i64 0, .int .i64 0]) (fun G => ⟨by kernel_rfl⟩) (fun G => by kernel_rfl)
    intro G4 xa xw hDn
    refine hDn.to [2, 3, 4, 5, 6, 7, 15, 16] [] (by kernel_rfl) ?_
    clear hDn
    refine Pre.conv (sl := [(2, .int .i64 total), (3, .int .i64 blind), (4, .string text), (5, .int .i64 value), (6, .int .i64 own), (7, .pointer (some ⟨b1, 0, none⟩)), (15, .pointer (some ⟨(G4 13).b, 0, none⟩)), (16, .int .i64 n4)]) (A := [H]) (L := [some (b1, .cells #[vv] 24 (0, 0)), some ((G4 13).b, .cells #[.string x1.Text, .int .i64 x1.Value, .int .i64 x1.Blind, .int .i64 x1.Left, .int .i64 x1.Right] 44 (0, 0))]) ?_ (by kernel_rfl) (by kernel_rfl) (by kernel_rfl)
    generalize (G4 13).b = b2 at ⊢
    clear G4
    refine At.then ?_
    refine W.seq (by kernel_rfl) ?_
    obtain ⟨p2, hp2⟩ : ∃ zz : Bool, zz = decide (x1.Value = total) := ⟨_, rfl⟩
    obtain ⟨p3, hp3⟩ : ∃ zz : Bool, zz = decide (x1.Blind = blind) := ⟨_, rfl⟩
    obtain ⟨p4, hp4⟩ : ∃ zz : Bool, zz = (p2 && p3) := ⟨_, rfl⟩
    obtain ⟨x2, hx2⟩ : ∃ zz : DThing, zz = v.getD n4.toNat default := ⟨_, rfl⟩
    obtain ⟨p5, hp5⟩ : ∃ zz : Bool, zz = (decide (x2.Left = -1)) := ⟨_, rfl⟩
    obtain ⟨p6, hp6⟩ : ∃ zz : Bool, zz = (p4 && p5) := ⟨_, rfl⟩
    obtain ⟨p7, hp7⟩ : ∃ zz : Bool, zz = (decide (Tm.opensP v n4 text value own)) := ⟨_, rfl⟩
    obtain ⟨p8, hp8⟩ : ∃ zz : Bool, zz = (p6 && p7) := ⟨_, rfl⟩
    refine W.regV (check_ct_r24_4 vv total blind text value own H b1 x1 n4 b2 p2 p3 p4 x2 p5 p6 p7 p8) [0, 2, 4, 5, 7, 10, 11, 13, 18, 20, 21, 22, 23, 26] [1, 3, 6, 8, 9, 12, 14, 15, 16, 17, 19, 24, 25] (fun G => [.pointer (some ⟨b2, 1, none⟩), .int .i64 total, .bool p2, .pointer (some ⟨b2, 2, none⟩), .int .i64 blind, .bool p4, .pointer (some ⟨b1, 0, none⟩), .int .i64 n4, .bool p6, .int .i64 n4, .string text, .int .i64 value, .int .i64 own, .bool p8]) (by kernel_rfl) mo_tw (by kernel_rfl) (fun _ _ => by kernel_rfl) ⟨?_, ?_, ?_, ?_, ?_, ?_, ?_, ?_, ?_, ?_, ?_, ?_, ?_, trivial⟩ (by kernel_rfl) ?_
    · exact One.loadE (t := 3) (r := 1) (off := 1) (b := fun G => b2) (vs := fun G => [.int .i64 x1.Value]) (arr := fun G => #[.string x1.Text, .int .i64 x1.Value, .int .i64 x1.Blind, .int .i64 x1.Left, .int .i64 x1.Right]) (T := 44) (fr := (0, 0)) (fun G => ⟨by kernel_rfl⟩) (fun G => by kernel_rfl)
    · exact One.bo hp2 (fun _ _ => by kernel_rfl)
    · exact One.loadE (t := 3) (r := 1) (off := 2) (b := fun G => b2) (vs := fun G => [.int .i64 x1.Blind]) (arr := fun G => #[.string x1.Text, .int .i64 x1.Value, .int .i64 x1.Blind, .int .i64 x1.Left, .int .i64 x1.Right]) (T := 44) (fr := (0, 0)) (fun G => ⟨by kernel_rfl⟩) (fun G => by kernel_rfl)
    · exact One.bo hp3 (fun _ _ => by kernel_rfl)
    · subst hp4
      cases p2 <;> exact One.under fun _ _ _ => by kernel_rfl
    · exact One.loadE (t := 22) (r := 0) (off := 0) (b := fun G => b1) (vs := fun G => [vv]) (arr := fun G => #[vv]) (T := 24) (fr := (0, 0)) (fun G => ⟨by kernel_rfl⟩) (fun G => by kernel_rfl)
    · exact One.index (t := 22) (e := 44) (size := 5) (v := fun G => vv) (k := .i64) (n := n4) (fun _ => ⟨by kernel_rfl⟩) (fun G w hs => by
        have hg := gd_of hs (p := (true && (p4 == true))) (by kernel_rfl)
        have hg0 := (iN hp4 (iAT (iN hp2 iDT) (iN hp3 iDT))).1 (eqT (andR hg))
        exact ⟨_, (hv).isSl, by first | omega | (simp only [List.length_append, List.length_cons, List.length_nil, List.length_replicate, List.length_set, List.length_take, List.length_drop, List.length_map, List.length_reverse, List.length_range]; omega), by first | omega | (simp only [List.length_append, List.length_cons, List.length_nil, List.length_replicate, List.length_set, List.length_take, List.length_drop, List.length_map, List.length_reverse, List.length_range]; omega)⟩)
    · exact One.loadD (α := DThing) (t := 44) (size := 5) (off := 0) (k := n4) (l := fun G => v) (x := fun G => x2) (vs := fun G => [.string x2.Text, .int .i64 x2.Value, .int .i64 x2.Blind, .int .i64 x2.Left, .int .i64 x2.Right]) (v := fun G => vv) (H := fun G => H) (p := fun G => elemAddr vv (n4.toNat * 5)) (fun G => ⟨by kernel_rfl⟩) rfl (fun G => by kernel_rfl) (fun G w hs => by
        have hg := gd_of hs (p := (true && (p4 == true))) (by kernel_rfl)
        have hg0 := (iN hp4 (iAT (iN hp2 iDT) (iN hp3 iDT))).1 (eqT (andR hg))
        exact ⟨(hs.read 0 rfl), hv, (add_zero' _).symm, by omega, by first | omega | (simp only [List.length_append, List.length_cons, List.length_nil, List.length_replicate, List.length_set, List.length_take, List.length_drop, List.length_map, List.length_reverse, List.length_range]; omega), hx2⟩)
    · exact One.callP (v := fun G => .bool p5) (f := 56) (args := fun G => #[.agg #[.string x2.Text, .int .i64 x2.Value, .int .i64 x2.Blind, .int .i64 x2.Left, .int .i64 x2.Right]]) (fun _ _ => by kernel_rfl) (fun G w hs => by
        have hg := gd_of hs (p := (true && (p4 == true))) (by kernel_rfl)
        have hg0 := (iN hp4 (iAT (iN hp2 iDT) (iN hp3 iDT))).1 (eqT (andR hg))
        rw [hp5]
        exact isLeaf_ct x2.Text x2.Value x2.Blind x2.Left x2.Right w )
    · subst hp6
      cases p4 <;> exact One.under fun _ _ _ => by kernel_rfl
    · exact One.loadE (t := 24) (r := 0) (off := 0) (b := fun G => b1) (vs := fun G => [vv]) (arr := fun G => #[vv]) (T := 24) (fr := (0, 0)) (fun G => ⟨by kernel_rfl⟩) (fun G => by kernel_rfl)
    · exact One.callP (v := fun G => .bool p7) (f := 27) (args := fun G => #[.agg #[vv], .int .i64 n4, .string text, .int .i64 value, .int .i64 own]) (fun _ _ => by kernel_rfl) (fun G w hs => by
        have hg := gd_of hs (p := (true && (p6 == true))) (by kernel_rfl)
        have hg0 := (iN hp6 (iAT (iN hp4 (iAT (iN hp2 iDT) (iN hp3 iDT))) (iN hp5 iDT))).1 (eqT (andR hg))
        rw [hp7]
        exact opens_ct v vv n4 text value own w H (hs.read 0 rfl) (hv) )
    · subst hp8
      cases p6 <;> exact One.under fun _ _ _ => by kernel_rfl
    intro G5 xa xw hDn
    refine hDn.to [14] [] (by kernel_rfl) ?_
    clear hDn
    refine Pre.conv (sl := [(14, .bool p8)]) (A := [H]) (L := [some (b1, .cells #[vv] 24 (0, 0)), some (b2, .cells #[.string x1.Text, .int .i64 x1.Value, .int .i64 x1.Blind, .int .i64 x1.Left, .int .i64 x1.Right] 44 (0, 0))]) ?_ (by kernel_rfl) (by kernel_rfl) (by kernel_rfl)
    clear G5
    refine At.then ?_
    refine W.ret (by kernel_rfl) ?_
    refine At.results (Or.inl rfl) (.bool p8) (fun xa xw hs hw => results_one (r := .tmp 14) (by kernel_rfl) (res_tmp (t := 14) (by kernel_rfl) hs)) (fun w' hw => ?_)
    have e0 : p8 = (decide (Tm.checkP v path total blind text value own)) := by
      rw [Bool.eq_iff_iff, (iN hp8 (iAT (iN hp6 (iAT (iN hp4 (iAT (iN hp2 iDT) (iN hp3 iDT))) (iN hp5 iDT))) (iN hp7 iDT))), decide_eq_true_iff]
      exact (Tm.check_iff (k := n3) hW (by assumption) (by assumption) (by omega) (by assumption) (by assumption)).symm
    exact ⟨congrArg Ending.returned (cong1 (fun (x0 : Bool) => (.bool x0 : Value)) e0), hw.base⟩

end Kb
