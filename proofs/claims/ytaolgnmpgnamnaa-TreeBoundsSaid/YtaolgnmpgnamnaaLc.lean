/- Law: bounds. -/
import Derived.Test.YtaolgnmpgnamnaaLa
import Derived.Test.YtaolgnmpgnamnaaTq
set_option linter.unusedVariables false
set_option linter.unusedSimpArgs false
namespace Kb
open Go Go.Proofs
theorem mo_lc : Try.prog.follows .mixedOrders = true := by kernel_rfl
noncomputable def bounds_ct_r5_0 (vv av : Value) (b : List Int) (bv : Value) (total blind : Int) (text : ByteArray) (x y own other : Int) (H : Heaplet) : RC := { ops := opsAt Try.f5 0, B := [0, 0], sl := [(0, .agg #[vv]), (1, av), (2, bv), (3, .int .i64 total), (4, .int .i64 blind), (5, .string text), (6, .int .i64 x), (7, .int .i64 y), (8, .int .i64 own), (9, .int .i64 other)], A := [H], L := [none], cs := [{ val := fun G => .pointer (some ⟨(G 0).b, 0, none⟩), ups := [(0, fun G => some ((G 0).b, .cells #[vv] 24 (0, 0)))] }, { val := fun _ => .bool false }] }
noncomputable def bounds_ct_r5_1 (vv av bv : Value) (total blind : Int) (text : ByteArray) (x y own other : Int) (H : Heaplet) (b1 : Nat) : RC := { ops := opsAt Try.f5 1, B := [0, 1], sl := [(1, av), (2, bv), (3, .int .i64 total), (4, .int .i64 blind), (5, .string text), (6, .int .i64 x), (7, .int .i64 y), (8, .int .i64 own), (9, .int .i64 other), (10, .pointer (some ⟨b1, 0, none⟩))], A := [H], L := [some (b1, .cells #[vv] 24 (0, 0))], cs := [{ val := fun _ => .bool true }, { val := fun _ => .bool true }] }
noncomputable def bounds_ct_r5_2 (vv av bv : Value) (total blind : Int) (text : ByteArray) (x y own other : Int) (H : Heaplet) (b1 : Nat) (p1 : Bool) (n1 : Int) (p2 p3 : Bool) (n2 : Int) (p4 p5 : Bool) (n3 : Int) (p6 p7 : Bool) : RC := { ops := opsAt Try.f5 2, B := [0, 1, 3, 7, 15, 31, 63, 127, 255, 511, 1023, 2047, 4095, 8191, 16383, 32767, 65535, 131071], sl := [(1, av), (2, bv), (3, .int .i64 total), (4, .int .i64 blind), (5, .string text), (6, .int .i64 x), (7, .int .i64 y), (8, .int .i64 own), (9, .int .i64 other), (10, .pointer (some ⟨b1, 0, none⟩)), (21, .bool true)], A := [H], L := [some (b1, .cells #[vv] 24 (0, 0))], cs := [{ val := fun _ => .agg #[vv], rds := [0] }, { val := fun _ => .bool p1 }, { val := fun _ => .bool (!p1) }, { val := fun _ => .bool (!p1) }, { val := fun _ => av }, { val := fun _ => .int .i64 n1 }, { val := fun _ => .bool p2 }, { val := fun _ => .bool p3 }, { val := fun _ => .bool p3 }, { val := fun _ => bv }, { val := fun _ => .int .i64 n2 }, { val := fun _ => .bool p4 }, { val := fun _ => .bool p5 }, { val := fun _ => .bool p5 }, { val := fun _ => .string text }, { val := fun _ => .int .i64 n3 }, { val := fun _ => .bool p6 }, { val := fun _ => .bool p7 }] }
noncomputable def bounds_ct_r5_3 (vv av bv : Value) (total blind : Int) (text : ByteArray) (x y own other : Int) (H : Heaplet) (b1 : Nat) (p7 : Bool) : RC := { ops := opsAt Try.f5 3, B := [0, 1], sl := [(1, av), (2, bv), (3, .int .i64 total), (4, .int .i64 blind), (5, .string text), (6, .int .i64 x), (7, .int .i64 y), (8, .int .i64 own), (9, .int .i64 other), (10, .pointer (some ⟨b1, 0, none⟩)), (21, .bool true), (42, .bool p7)], A := [H], L := [some (b1, .cells #[vv] 24 (0, 0))], cs := [{ val := fun _ => .bool true }, { val := fun _ => .bool true }] }
noncomputable def bounds_ct_r5_4 (vv av bv : Value) (total blind : Int) (text : ByteArray) (x y own other : Int) (H : Heaplet) (b1 : Nat) (p7 p8 : Bool) : RC := { ops := opsAt Try.f5 4, B := [0, 0, 0, 0, 0, 0, 0, 127, 255], sl := [(1, av), (2, bv), (3, .int .i64 total), (4, .int .i64 blind), (5, .string text), (6, .int .i64 x), (7, .int .i64 y), (8, .int .i64 own), (9, .int .i64 other), (10, .pointer (some ⟨b1, 0, none⟩)), (21, .bool true), (42, .bool p7)], A := [H], L := [some (b1, .cells #[vv] 24 (0, 0))], cs := [{ val := fun _ => .agg #[vv], rds := [0] }, { val := fun _ => av }, { val := fun _ => .int .i64 total }, { val := fun _ => .int .i64 blind }, { val := fun _ => .string text }, { val := fun _ => .int .i64 x }, { val := fun _ => .int .i64 own }, { val := fun _ => .bool p8 }, { val := fun _ => .bool p8 }] }
noncomputable def bounds_ct_r5_5 (vv av bv : Value) (total blind : Int) (text : ByteArray) (x y other : Int) (H : Heaplet) (b1 : Nat) (p8 p9 : Bool) : RC := { ops := opsAt Try.f5 5, B := [0, 0, 0, 0, 0, 0, 0, 127, 255], sl := [(1, av), (2, bv), (3, .int .i64 total), (4, .int .i64 blind), (5, .string text), (6, .int .i64 x), (7, .int .i64 y), (9, .int .i64 other), (10, .pointer (some ⟨b1, 0, none⟩)), (21, .bool true), (22, .bool p8)], A := [H], L := [some (b1, .cells #[vv] 24 (0, 0))], cs := [{ val := fun _ => .agg #[vv], rds := [0] }, { val := fun _ => bv }, { val := fun _ => .int .i64 total }, { val := fun _ => .int .i64 blind }, { val := fun _ => .string text }, { val := fun _ => .int .i64 y }, { val := fun _ => .int .i64 other }, { val := fun _ => .bool p9 }, { val := fun _ => .bool p9 }] }
noncomputable def bounds_ct_r5_6 (vv av bv : Value) (total x y : Int) (H : Heaplet) (b1 : Nat) (n1 n2 : Int) (p8 p9 p10 p11 p12 p13 p14 p15 p16 p17 p18 : Bool) : RC := { ops := opsAt Try.f5 6, B := [0, 1, 3, 3, 15, 31, 63, 127, 255, 511, 1023, 2047, 4095, 8191, 16383, 32767, 65535, 131071, 262143, 524287, 1048575, 2097151, 4194303, 8388607], sl := [(1, av), (2, bv), (3, .int .i64 total), (6, .int .i64 x), (7, .int .i64 y), (10, .pointer (some ⟨b1, 0, none⟩)), (21, .bool true), (22, .bool p8), (23, .bool p9)], A := [H], L := [some (b1, .cells #[vv] 24 (0, 0))], cs := [{ val := fun _ => .bool p8 }, { val := fun _ => .bool p8 }, { val := fun _ => .int .i64 x }, { val := fun _ => .int .i64 total }, { val := fun _ => .bool p10 }, { val := fun _ => .bool p10 }, { val := fun _ => av }, { val := fun _ => .int .i64 n1 }, { val := fun _ => .bool p11 }, { val := fun _ => .bool p12 }, { val := fun _ => .bool p12 }, { val := fun _ => .agg #[vv], rds := [0] }, { val := fun _ => .bool p13 }, { val := fun _ => .bool (!p13) }, { val := fun _ => .bool p14 }, { val := fun _ => .bool p15 }, { val := fun _ => .bool p15 }, { val := fun _ => .bool p9 }, { val := fun _ => .bool p9 }, { val := fun _ => bv }, { val := fun _ => .int .i64 n2 }, { val := fun _ => .bool p16 }, { val := fun _ => .bool p17 }, { val := fun _ => .bool p18 }] }
noncomputable def bounds_ct_r5_7 (vv av bv : Value) (total x y : Int) (H : Heaplet) (b1 : Nat) (n1 n2 : Int) (p8 p9 p18 p19 : Bool) (n4 n5 : Int) (p20 p21 : Bool) (n6 n7 n8 n9 : Int) (p22 p23 : Bool) : RC := { ops := opsAt Try.f5 8, B := [0, 1, 3, 7, 15, 31, 63, 127, 255, 511, 127, 1151, 3199, 8191, 16383, 32767, 65535, 65535, 196607, 458751, 1048575, 2097151, 65535, 65535, 8454143, 25231359, 62980095, 130088959, 268435455, 536870911], sl := [(1, av), (2, bv), (3, .int .i64 total), (6, .int .i64 x), (7, .int .i64 y), (21, .bool true), (22, .bool p8), (23, .bool p9), (83, .bool p18)], A := [H], L := [some (b1, .cells #[vv] 24 (0, 0))], cs := [{ val := fun _ => .bool p8 }, { val := fun _ => .bool (!p8) }, { val := fun _ => .bool (!p8) }, { val := fun _ => .bool p9 }, { val := fun _ => .bool (!p9) }, { val := fun _ => .bool p19 }, { val := fun _ => .bool p19 }, { val := fun _ => av }, { val := fun _ => .pointer (some (elemAddr av ((0 : Int).toNat * 1))) }, { val := fun _ => .int .i64 n4 }, { val := fun _ => bv }, { val := fun _ => .pointer (some (elemAddr bv ((0 : Int).toNat * 1))) }, { val := fun _ => .int .i64 n5 }, { val := fun _ => .bool p20 }, { val := fun _ => .bool p21 }, { val := fun _ => .bool p21 }, { val := fun _ => av }, { val := fun _ => av }, { val := fun _ => .int .i64 n1 }, { val := fun _ => .int .i64 n6 }, { val := fun _ => .pointer (some (elemAddr av (n6.toNat * 1))) }, { val := fun _ => .int .i64 n7 }, { val := fun _ => bv }, { val := fun _ => bv }, { val := fun _ => .int .i64 n2 }, { val := fun _ => .int .i64 n8 }, { val := fun _ => .pointer (some (elemAddr bv (n8.toNat * 1))) }, { val := fun _ => .int .i64 n9 }, { val := fun _ => .bool p22 }, { val := fun _ => .bool p23 }] }
noncomputable def bounds_ct_r5_8 (vv : Value) (total x y : Int) (H : Heaplet) (b1 : Nat) (p23 : Bool) : RC := { ops := opsAt Try.f5 9, B := [0, 1], sl := [(3, .int .i64 total), (6, .int .i64 x), (7, .int .i64 y), (21, .bool true), (113, .bool p23)], A := [H], L := [some (b1, .cells #[vv] 24 (0, 0))], cs := [{ val := fun _ => .bool true }, { val := fun _ => .bool true }] }
noncomputable def bounds_ct_r5_9 (vv : Value) (total x y : Int) (H : Heaplet) (b1 : Nat) (p23 : Bool) (n10 : Int) (p24 : Bool) : RC := { ops := opsAt Try.f5 10, B := [0, 1, 3, 3, 15, 3, 63, 127, 255], sl := [(3, .int .i64 total), (6, .int .i64 x), (7, .int .i64 y), (21, .bool true), (113, .bool p23)], A := [H], L := [some (b1, .cells #[vv] 24 (0, 0))], cs := [{ val := fun _ => .bool true }, { val := fun _ => .bool true }, { val := fun _ => .int .i64 x }, { val := fun _ => .int .i64 y }, { val := fun _ => .int .i64 n10 }, { val := fun _ => .int .i64 total }, { val := fun _ => .bool p24 }, { val := fun _ => .bool p24 }, { val := fun _ => .bool p24 }] }
set_option maxRecDepth 10000 in
theorem bounds_ct (v : List DThing) (vv : Value) (a : List Int) (av : Value) (b : List Int) (bv : Value) (total blind : Int) (text : ByteArray) (x y own other : Int) (w0 : World) (H : Heaplet) (hA : Agrees w0 H) (hv : RSl H v vv) (ha : RSl H a av) (hb : RSl H b bv) :
    Calls Try.prog 5 #[.agg #[vv], av, bv, .int .i64 total, .int .i64 blind, .string text, .int .i64 x, .int .i64 y, .int .i64 own, .int .i64 other] w0 (fun e w' => e = .returned (.bool true) ∧ Base [] w0 w') := by
  have hE : Ext w0 H H := Ext.refl w0 H
  have hvn := hv.lim
  have han := ha.lim
  have hbn := hb.lim
  refine calls_of_W (sl := [(0, .agg #[vv]), (1, av), (2, bv), (3, .int .i64 total), (4, .int .i64 blind), (5, .string text), (6, .int .i64 x), (7, .int .i64 y), (8, .int .i64 own), (9, .int .i64 other)]) (A := [H]) (L := [none]) Try.func5 (by kernel_rfl) 123 (by kernel_rfl) (by kernel_rfl) (fun J hJ => by simp at hJ; subst hJ; exact hA) (by simp) ?_
  refine W.seq (by kernel_rfl) ?_
  refine W.regV (bounds_ct_r5_0 vv av b bv total blind text x y own other H) [1] [0] (fun G => [.bool false]) (by kernel_rfl) mo_lc (by kernel_rfl) (fun _ _ => by kernel_rfl) ⟨?_, trivial⟩ (by kernel_rfl) ?_
  · exact One.new (r := 0) (T := 24) (fun b => .pointer (some ⟨b, 0, none⟩)) (arr := fun G => #[vv]) (fun G w => by kernel_rfl) (fun G b => by kernel_rfl)
  intro G1 xa xw hDn
  refine hDn.to [1, 2, 3, 4, 5, 6, 7, 8, 9, 10] [] (by kernel_rfl) ?_
  clear hDn
  refine Pre.conv (sl := [(1, av), (2, bv), (3, .int .i64 total), (4, .int .i64 blind), (5, .string text), (6, .int .i64 x), (7, .int .i64 y), (8, .int .i64 own), (9, .int .i64 other), (10, .pointer (some ⟨(G1 0).b, 0, none⟩))]) (A := [H]) (L := [some ((G1 0).b, .cells #[vv] 24 (0, 0))]) ?_ (by kernel_rfl) (by kernel_rfl) (by kernel_rfl)
  generalize (G1 0).b = b1 at ⊢
  clear G1
  refine At.then ?_
  refine W.seq (by kernel_rfl) ?_
  refine W.regV (bounds_ct_r5_1 vv av bv total blind text x y own other H b1) [1] [0] (fun G => [.bool true]) (by kernel_rfl) mo_lc (by kernel_rfl) (fun _ _ => by kernel_rfl) ⟨?_, trivial⟩ (by kernel_rfl) ?_
  · exact One.callP (v := fun G => .bool true) (f := 13) (args := fun G => #[]) (fun _ _ => by kernel_rfl) (fun G w hs => sane_ct  w H (hs.read 0 rfl)  )
  intro G2 xa xw hDn
  refine hDn.to [1, 2, 3, 4, 5, 6, 7, 8, 9, 10, 21] [] (by kernel_rfl) ?_
  clear hDn
  refine Pre.conv (sl := [(1, av), (2, bv), (3, .int .i64 total), (4, .int .i64 blind), (5, .string text), (6, .int .i64 x), (7, .int .i64 y), (8, .int .i64 own), (9, .int .i64 other), (10, .pointer (some ⟨b1, 0, none⟩)), (21, .bool true)]) (A := [H]) (L := [some (b1, .cells #[vv] 24 (0, 0))]) ?_ (by kernel_rfl) (by kernel_rfl) (by kernel_rfl)
  clear G2
  refine At.then ?_
  refine W.seq (by kernel_rfl) ?_
  refine W.seq (by kernel_rfl) ?_
  obtain ⟨p1, hp1⟩ : ∃ zz : Bool, zz = (decide (Tm.fewP v 60)) := ⟨_, rfl⟩
  obtain ⟨n1, hn1⟩ : ∃ zz : Int, zz = (a.length : Int) := ⟨_, rfl⟩
  obtain ⟨p2, hp2⟩ : ∃ zz : Bool, zz = decide (10 < n1) := ⟨_, rfl⟩
  obtain ⟨p3, hp3⟩ : ∃ zz : Bool, zz = (!p1 || p2) := ⟨_, rfl⟩
  obtain ⟨n2, hn2⟩ : ∃ zz : Int, zz = (b.length : Int) := ⟨_, rfl⟩
  obtain ⟨p4, hp4⟩ : ∃ zz : Bool, zz = decide (10 < n2) := ⟨_, rfl⟩
  obtain ⟨p5, hp5⟩ : ∃ zz : Bool, zz = (p3 || p4) := ⟨_, rfl⟩
  obtain ⟨n3, hn3⟩ : ∃ zz : Int, zz = (text.size : Int) := ⟨_, rfl⟩
  obtain ⟨p6, hp6⟩ : ∃ zz : Bool, zz = decide (100 < n3) := ⟨_, rfl⟩
  obtain ⟨p7, hp7⟩ : ∃ zz : Bool, zz = (p5 || p6) := ⟨_, rfl⟩
  refine W.regV (bounds_ct_r5_2 vv av bv total blind text x y own other H b1 p1 n1 p2 p3 n2 p4 p5 n3 p6 p7) [2, 3, 4, 8, 9, 13, 14] [0, 1, 5, 6, 7, 10, 11, 12, 15, 16, 17] (fun G => [.bool (!p1), .bool (!p1), av, .bool p3, bv, .bool p5, .string text]) (by kernel_rfl) mo_lc (by kernel_rfl) (fun _ _ => by kernel_rfl) ⟨?_, ?_, ?_, ?_, ?_, ?_, ?_, ?_, ?_, ?_, ?_, trivial⟩ (by kernel_rfl) ?_
  · exact One.loadE (t := 24) (r := 0) (off := 0) (b := fun G => b1) (vs := fun G => [vv]) (arr := fun G => #[vv]) (T := 24) (fr := (0, 0)) (fun G => ⟨by kernel_rfl⟩) (fun G => by kernel_rfl)
  · exact One.callP (v := fun G => .bool p1) (f := 14) (args := fun G => #[.agg #[vv], .int .i64 60]) (fun _ _ => by kernel_rfl) (fun G w hs => by
      rw [hp1]
      exact fewv_ct v vv 60 w H (hs.read 0 rfl) (hv) )
  · exact One.len (t := 26) (n := n1) (v := fun G => av) (fun _ => ⟨by kernel_rfl⟩) (fun G w hs => by
      have hg := gd_of hs (p := (true && ((!p1) == false))) (by kernel_rfl)
      have hg0 := (iNF (iN hp1 iDT)).1 (eqF (andR hg))
      exact ⟨_, (ha).isSl, hn1⟩)
  · exact One.bo hp2 (fun _ _ => by kernel_rfl)
  · subst hp3
    cases p1 <;> exact One.under fun _ _ _ => by kernel_rfl
  · exact One.len (t := 26) (n := n2) (v := fun G => bv) (fun _ => ⟨by kernel_rfl⟩) (fun G w hs => by
      have hg := gd_of hs (p := (true && (p3 == false))) (by kernel_rfl)
      have hg0 := (iN hp3 (iOF (iNF (iN hp1 iDT)) (iN hp2 iDF))).1 (eqF (andR hg))
      exact ⟨_, (hb).isSl, hn2⟩)
  · exact One.bo hp4 (fun _ _ => by kernel_rfl)
  · subst hp5
    cases p3 <;> exact One.under fun _ _ _ => by kernel_rfl
  · exact One.eq (congrArg (Value.int .i64) hn3.symm) (fun _ _ => by kernel_rfl)
  · exact One.bo hp6 (fun _ _ => by kernel_rfl)
  · subst hp7
    cases p5 <;> exact One.under fun _ _ _ => by kernel_rfl
  intro G3 xa xw hDn
  refine hDn.to [1, 2, 3, 4, 5, 6, 7, 8, 9, 10, 21, 42] [] (by kernel_rfl) ?_
  clear hDn
  refine Pre.conv (sl := [(1, av), (2, bv), (3, .int .i64 total), (4, .int .i64 blind), (5, .string text), (6, .int .i64 x), (7, .int .i64 y), (8, .int .i64 own), (9, .int .i64 other), (10, .pointer (some ⟨b1, 0, none⟩)), (21, .bool true), (42, .bool p7)]) (A := [H]) (L := [some (b1, .cells #[vv] 24 (0, 0))]) ?_ (by kernel_rfl) (by kernel_rfl) (by kernel_rfl)
  clear G3
  refine At.then ?_
  refine W.cond p7 (by kernel_rfl) (fun xa hs => cnd_of (t := 42) (by kernel_rfl) (by kernel_rfl) hs) (fun hq => ?_) (fun hq => ?_)
  · skip
    have hq1 := hq
    replace hq1 := (iN hp7 (iOT (iN hp5 (iOT (iN hp3 (iOT (iNT (iN hp1 iDF)) (iN hp2 iDT))) (iN hp4 iDT))) (iN hp6 iDT))).1 hq1
    refine W.seq (by kernel_rfl) ?_
    refine W.regV (bounds_ct_r5_3 vv av bv total blind text x y own other H b1 p7) [0, 1] [] (fun G => [.bool true, .bool true]) (by kernel_rfl) mo_lc (by kernel_rfl) (fun _ _ => by kernel_rfl) trivial (by kernel_rfl) ?_
    intro G4 xa xw hDn
    refine hDn.to [20] [] (by kernel_rfl) ?_
    clear hDn
    refine Pre.conv (sl := [(20, .bool true)]) (A := [H]) (L := [some (b1, .cells #[vv] 24 (0, 0))]) ?_ (by kernel_rfl) (by kernel_rfl) (by kernel_rfl)
    clear G4
    refine At.then ?_
    refine W.ret (by kernel_rfl) ?_
    refine At.thenRet ?_
    refine At.results (Or.inl rfl) (.bool true) (fun xa xw hs hw => results_one (r := .tmp 20) (by kernel_rfl) (res_tmp (t := 20) (by kernel_rfl) hs)) (fun w' hw => ?_)
    exact ⟨congrArg Ending.returned (rfl), hw.base⟩
  · skip
    have hq2 := hq
    replace hq2 := (iN hp7 (iOF (iN hp5 (iOF (iN hp3 (iOF (iNF (iN hp1 iDT)) (iN hp2 iDF))) (iN hp4 iDF))) (iN hp6 iDF))).1 hq2
    refine W.skip (by kernel_rfl) ?_
    refine At.then ?_
    refine W.seq (by kernel_rfl) ?_
    obtain ⟨p8, hp8⟩ : ∃ zz : Bool, zz = (decide (Tm.checkP v a total blind text x own)) := ⟨_, rfl⟩
    refine W.regV (bounds_ct_r5_4 vv av bv total blind text x y own other H b1 p7 p8) [1, 2, 3, 4, 5, 6, 8] [0, 7] (fun G => [av, .int .i64 total, .int .i64 blind, .string text, .int .i64 x, .int .i64 own, .bool p8]) (by kernel_rfl) mo_lc (by kernel_rfl) (fun _ _ => by kernel_rfl) ⟨?_, ?_, trivial⟩ (by kernel_rfl) ?_
    · exact One.loadE (t := 24) (r := 0) (off := 0) (b := fun G => b1) (vs := fun G => [vv]) (arr := fun G => #[vv]) (T := 24) (fr := (0, 0)) (fun G => ⟨by kernel_rfl⟩) (fun G => by kernel_rfl)
    · exact One.callP (v := fun G => .bool p8) (f := 24) (args := fun G => #[.agg #[vv], av, .int .i64 total, .int .i64 blind, .string text, .int .i64 x, .int .i64 own]) (fun _ _ => by kernel_rfl) (fun G w hs => by
        rw [hp8]
        exact check_ct v vv a av total blind text x own w H (hs.read 0 rfl) (hv) (ha) )
    intro G5 xa xw hDn
    refine hDn.to [1, 2, 3, 4, 5, 6, 7, 9, 10, 21, 22] [] (by kernel_rfl) ?_
    clear hDn
    refine Pre.conv (sl := [(1, av), (2, bv), (3, .int .i64 total), (4, .int .i64 blind), (5, .string text), (6, .int .i64 x), (7, .int .i64 y), (9, .int .i64 other), (10, .pointer (some ⟨b1, 0, none⟩)), (21, .bool true), (22, .bool p8)]) (A := [H]) (L := [some (b1, .cells #[vv] 24 (0, 0))]) ?_ (by kernel_rfl) (by kernel_rfl) (by kernel_rfl)
    clear G5
    refine At.then ?_
    refine W.seq (by kernel_rfl) ?_
    obtain ⟨p9, hp9⟩ : ∃ zz : Bool, zz = (decide (Tm.checkP v b total blind text y other)) := ⟨_, rfl⟩
    refine W.regV (bounds_ct_r5_5 vv av bv total blind text x y other H b1 p8 p9) [1, 2, 3, 4, 5, 6, 8] [0, 7] (fun G => [bv, .int .i64 total, .int .i64 blind, .string text, .int .i64 y, .int .i64 other, .bool p9]) (by kernel_rfl) mo_lc (by kernel_rfl) (fun _ _ => by kernel_rfl) ⟨?_, ?_, trivial⟩ (by kernel_rfl) ?_
    · exact One.loadE (t := 24) (r := 0) (off := 0) (b := fun G => b1) (vs := fun G => [vv]) (arr := fun G => #[vv]) (T := 24) (fr := (0, 0)) (fun G => ⟨by kernel_rfl⟩) (fun G => by kernel_rfl)
    · exact One.callP (v := fun G => .bool p9) (f := 24) (args := fun G => #[.agg #[vv], bv, .int .i64 total, .int .i64 blind, .string text, .int .i64 y, .int .i64 other]) (fun _ _ => by kernel_rfl) (fun G w hs => by
        rw [hp9]
        exact check_ct v vv b bv total blind text y other w H (hs.read 0 rfl) (hv) (hb) )
    intro G6 xa xw hDn
    refine hDn.to [1, 2, 3, 6, 7, 10, 21, 22, 23] [] (by kernel_rfl) ?_
    clear hDn
    refine Pre.conv (sl := [(1, av), (2, bv), (3, .int .i64 total), (6, .int .i64 x), (7, .int .i64 y), (10, .pointer (some ⟨b1, 0, none⟩)), (21, .bool true), (22, .bool p8), (23, .bool p9)]) (A := [H]) (L := [some (b1, .cells #[vv] 24 (0, 0))]) ?_ (by kernel_rfl) (by kernel_rfl) (by kernel_rfl)
    clear G6
    refine At.then ?_
    refine W.seq (by kernel_rfl) ?_
    refine W.seq (by kernel_rfl) ?_
    obtain ⟨p10, hp10⟩ : ∃ zz : Bool, zz = decide (total < x) := ⟨_, rfl⟩
    obtain ⟨p11, hp11⟩ : ∃ zz : Bool, zz = decide (n1 = 0) := ⟨_, rfl⟩
    obtain ⟨p12, hp12⟩ : ∃ zz : Bool, zz = (p10 || p11) := ⟨_, rfl⟩
    obtain ⟨p13, hp13⟩ : ∃ zz : Bool, zz = (decide (Tm.Sound v)) := ⟨_, rfl⟩
    obtain ⟨p14, hp14⟩ : ∃ zz : Bool, zz = (p12 || !p13) := ⟨_, rfl⟩
    obtain ⟨p15, hp15⟩ : ∃ zz : Bool, zz = (p8 && p14) := ⟨_, rfl⟩
    obtain ⟨p16, hp16⟩ : ∃ zz : Bool, zz = decide (n2 = 0) := ⟨_, rfl⟩
    obtain ⟨p17, hp17⟩ : ∃ zz : Bool, zz = (p9 && p16) := ⟨_, rfl⟩
    obtain ⟨p18, hp18⟩ : ∃ zz : Bool, zz = (p15 || p17) := ⟨_, rfl⟩
    refine W.regV (bounds_ct_r5_6 vv av bv total x y H b1 n1 n2 p8 p9 p10 p11 p12 p13 p14 p15 p16 p17 p18) [0, 1, 2, 3, 5, 6, 10, 13, 16, 17, 18, 19] [4, 7, 8, 9, 11, 12, 14, 15, 20, 21, 22, 23] (fun G => [.bool p8, .bool p8, .int .i64 x, .int .i64 total, .bool p10, av, .bool p12, .bool (!p13), .bool p15, .bool p9, .bool p9, bv]) (by kernel_rfl) mo_lc (by kernel_rfl) (fun _ _ => by kernel_rfl) ⟨?_, ?_, ?_, ?_, ?_, ?_, ?_, ?_, ?_, ?_, ?_, ?_, trivial⟩ (by kernel_rfl) ?_
    · exact One.bo hp10 (fun _ _ => by kernel_rfl)
    · exact One.len (t := 26) (n := n1) (v := fun G => av) (fun _ => ⟨by kernel_rfl⟩) (fun G w hs => by
        have hg := gd_of hs (p := ((true && (p8 == true)) && (p10 == false))) (by kernel_rfl)
        have hg0 := (iN hp10 iDF).1 (eqF (andR hg))
        have hg1 := (iN hp8 iDT).1 (eqT (andR (andL hg)))
        exact ⟨_, (ha).isSl, hn1⟩)
    · exact One.bo hp11 (fun _ _ => by kernel_rfl)
    · subst hp12
      refine One.under fun G w hs => ?_
      revert hs
      cases p10
      · cases p8
        · intro hs; exact absurd hs.gd (by rw [show RC.gd _ _ 9 = false from by kernel_rfl]; decide)
        · intro _; kernel_rfl
      · cases p8
        · intro hs; exact absurd hs.gd (by rw [show RC.gd _ _ 9 = false from by kernel_rfl]; decide)
        · intro _; kernel_rfl
    · exact One.loadE (t := 24) (r := 0) (off := 0) (b := fun G => b1) (vs := fun G => [vv]) (arr := fun G => #[vv]) (T := 24) (fr := (0, 0)) (fun G => ⟨by kernel_rfl⟩) (fun G => by kernel_rfl)
    · exact One.callP (v := fun G => .bool p13) (f := 26) (args := fun G => #[.agg #[vv]]) (fun _ _ => by kernel_rfl) (fun G w hs => by
        have hg := gd_of hs (p := ((true && (p8 == true)) && (p12 == false))) (by kernel_rfl)
        have hg0 := (iN hp12 (iOF (iN hp10 iDF) (iN hp11 iDF))).1 (eqF (andR hg))
        have hg1 := (iN hp8 iDT).1 (eqT (andR (andL hg)))
        rw [hp13]
        exact sound_ct v vv w H (hs.read 0 rfl) (hv) )
    · subst hp14
      refine One.under fun G w hs => ?_
      revert hs
      cases p12
      · cases p8
        · intro hs; exact absurd hs.gd (by rw [show RC.gd _ _ 14 = false from by kernel_rfl]; decide)
        · intro _; kernel_rfl
      · cases p8
        · intro hs; exact absurd hs.gd (by rw [show RC.gd _ _ 14 = false from by kernel_rfl]; decide)
        · intro _; kernel_rfl
    · subst hp15
      cases p8 <;> exact One.under fun _ _ _ => by kernel_rfl
    · exact One.len (t := 26) (n := n2) (v := fun G => bv) (fun _ => ⟨by kernel_rfl⟩) (fun G w hs => by
        have hg := gd_of hs (p := ((true && (p15 == false)) && (p9 == true))) (by kernel_rfl)
        have hg0 := (iN hp9 iDT).1 (eqT (andR hg))
        have hg1 := (iN hp15 (iAF (iN hp8 iDF) (iN hp14 (iOF (iN hp12 (iOF (iN hp10 iDF) (iN hp11 iDF))) (iNF (iN hp13 iDT)))))).1 (eqF (andR (andL hg)))
        exact ⟨_, (hb).isSl, hn2⟩)
    · exact One.bo hp16 (fun _ _ => by kernel_rfl)
    · subst hp17
      refine One.under fun G w hs => ?_
      revert hs
      cases p9
      · cases p15
        · intro _; kernel_rfl
        · intro hs; exact absurd hs.gd (by rw [show RC.gd _ _ 22 = false from by kernel_rfl]; decide)
      · cases p15
        · intro _; kernel_rfl
        · intro hs; exact absurd hs.gd (by rw [show RC.gd _ _ 22 = false from by kernel_rfl]; decide)
    · subst hp18
      cases p15 <;> exact One.under fun _ _ _ => by kernel_rfl
    intro G7 xa xw hDn
    refine hDn.to [1, 2, 3, 6, 7, 21, 22, 23, 83] [] (by kernel_rfl) ?_
    clear hDn
    refine Pre.conv (sl := [(1, av), (2, bv), (3, .int .i64 total), (6, .int .i64 x), (7, .int .i64 y), (21, .bool true), (22, .bool p8), (23, .bool p9), (83, .bool p18)]) (A := [H]) (L := [some (b1, .cells #[vv] 24 (0, 0))]) ?_ (by kernel_rfl) (by kernel_rfl) (by kernel_rfl)
    clear G7
    refine At.then ?_
    refine W.cond p18 (by kernel_rfl) (fun xa hs => cnd_of (t := 83) (by kernel_rfl) (by kernel_rfl) hs) (fun hq => ?_) (fun hq => ?_)
    · skip
      have hq3 := hq
      replace hq3 := (iN hp18 (iOT (iN hp15 (iAT (iN hp8 iDT) (iN hp14 (iOT (iN hp12 (iOT (iN hp10 iDT) (iN hp11 iDT))) (iNT (iN hp13 iDF)))))) (iN hp17 (iAT (iN hp9 iDT) (iN hp16 iDT))))).1 hq3
      rcases hq3 with ⟨h, (h2 | h2) | h2⟩ | ⟨h, h2⟩ <;> have hgA := Tm.check_le h <;> first | omega | exact (h2 hgA.2.2.2.2).elim
    · skip
      have hq4 := hq
      replace hq4 := (iN hp18 (iOF (iN hp15 (iAF (iN hp8 iDF) (iN hp14 (iOF (iN hp12 (iOF (iN hp10 iDF) (iN hp11 iDF))) (iNF (iN hp13 iDT)))))) (iN hp17 (iAF (iN hp9 iDF) (iN hp16 iDF))))).1 hq4
      refine W.skip (by kernel_rfl) ?_
      refine At.then ?_
      refine W.seq (by kernel_rfl) ?_
      refine W.seq (by kernel_rfl) ?_
      obtain ⟨p19, hp19⟩ : ∃ zz : Bool, zz = (!p8 || !p9) := ⟨_, rfl⟩
      obtain ⟨n4, hn4⟩ : ∃ zz : Int, zz = a.getD (0 : Int).toNat default := ⟨_, rfl⟩
      obtain ⟨n5, hn5⟩ : ∃ zz : Int, zz = b.getD (0 : Int).toNat default := ⟨_, rfl⟩
      obtain ⟨p20, hp20⟩ : ∃ zz : Bool, zz = !(decide (n4 = n5)) := ⟨_, rfl⟩
      obtain ⟨p21, hp21⟩ : ∃ zz : Bool, zz = (p19 || p20) := ⟨_, rfl⟩
      obtain ⟨n6, hn6⟩ : ∃ zz : Int, zz = n1 - 1 := ⟨_, rfl⟩
      obtain ⟨n7, hn7⟩ : ∃ zz : Int, zz = a.getD n6.toNat default := ⟨_, rfl⟩
      obtain ⟨n8, hn8⟩ : ∃ zz : Int, zz = n2 - 1 := ⟨_, rfl⟩
      obtain ⟨n9, hn9⟩ : ∃ zz : Int, zz = b.getD n8.toNat default := ⟨_, rfl⟩
      obtain ⟨p22, hp22⟩ : ∃ zz : Bool, zz = decide (n7 = n9) := ⟨_, rfl⟩
      obtain ⟨p23, hp23⟩ : ∃ zz : Bool, zz = (p21 || p22) := ⟨_, rfl⟩
      refine W.regV (bounds_ct_r5_7 vv av bv total x y H b1 n1 n2 p8 p9 p18 p19 n4 n5 p20 p21 n6 n7 n8 n9 p22 p23) [0, 1, 2, 3, 4, 6, 7, 10, 15, 16, 17, 22, 23] [5, 8, 9, 11, 12, 13, 14, 18, 19, 20, 21, 24, 25, 26, 27, 28, 29] (fun G => [.bool p8, .bool (!p8), .bool (!p8), .bool p9, .bool (!p9), .bool p19, av, bv, .bool p21, av, av, bv, bv]) (by kernel_rfl) mo_lc (by kernel_rfl) (fun _ _ => by kernel_rfl) ⟨?_, ?_, ?_, ?_, ?_, ?_, ?_, ?_, ?_, ?_, ?_, ?_, ?_, ?_, ?_, ?_, ?_, trivial⟩ (by kernel_rfl) ?_
      · subst hp19
        cases p8 <;> exact One.under fun _ _ _ => by kernel_rfl
      · exact One.index (t := 26) (e := 3) (size := 1) (v := fun G => av) (k := .i64) (n := 0) (fun _ => ⟨by kernel_rfl⟩) (fun G w hs => by
          have hg := gd_of hs (p := (true && (p19 == false))) (by kernel_rfl)
          have hg0 := (iN hp19 (iOF (iNF (iN hp8 iDT)) (iNF (iN hp9 iDT)))).1 (eqF (andR hg))
          have hgA := Tm.check_le hg0.1
          exact ⟨_, (ha).isSl, by first | omega | (simp only [List.length_append, List.length_cons, List.length_nil, List.length_replicate, List.length_set, List.length_take, List.length_drop, List.length_map, List.length_reverse, List.length_range]; omega), by first | omega | (simp only [List.length_append, List.length_cons, List.length_nil, List.length_replicate, List.length_set, List.length_take, List.length_drop, List.length_map, List.length_reverse, List.length_range]; omega)⟩)
      · exact One.loadD (α := Int) (t := 3) (size := 1) (off := 0) (k := 0) (l := fun G => a) (x := fun G => n4) (vs := fun G => [.int .i64 n4]) (v := fun G => av) (H := fun G => H) (p := fun G => elemAddr av ((0 : Int).toNat * 1)) (fun G => ⟨by kernel_rfl⟩) rfl (fun G => by kernel_rfl) (fun G w hs => by
          have hg := gd_of hs (p := (true && (p19 == false))) (by kernel_rfl)
          have hg0 := (iN hp19 (iOF (iNF (iN hp8 iDT)) (iNF (iN hp9 iDT)))).1 (eqF (andR hg))
          have hgA := Tm.check_le hg0.1
          exact ⟨(hs.read 0 rfl), ha, (add_zero' _).symm, by omega, by first | omega | (simp only [List.length_append, List.length_cons, List.length_nil, List.length_replicate, List.length_set, List.length_take, List.length_drop, List.length_map, List.length_reverse, List.length_range]; omega), hn4⟩)
      · exact One.index (t := 26) (e := 3) (size := 1) (v := fun G => bv) (k := .i64) (n := 0) (fun _ => ⟨by kernel_rfl⟩) (fun G w hs => by
          have hg := gd_of hs (p := (true && (p19 == false))) (by kernel_rfl)
          have hg0 := (iN hp19 (iOF (iNF (iN hp8 iDT)) (iNF (iN hp9 iDT)))).1 (eqF (andR hg))
          have hgA := Tm.check_le hg0.2
          exact ⟨_, (hb).isSl, by first | omega | (simp only [List.length_append, List.length_cons, List.length_nil, List.length_replicate, List.length_set, List.length_take, List.length_drop, List.length_map, List.length_reverse, List.length_range]; omega), by first | omega | (simp only [List.length_append, List.length_cons, List.length_nil, List.length_replicate, List.length_set, List.length_take, List.length_drop, List.length_map, List.length_reverse, List.length_range]; omega)⟩)
      · exact One.loadD (α := Int) (t := 3) (size := 1) (off := 0) (k := 0) (l := fun G => b) (x := fun G => n5) (vs := fun G => [.int .i64 n5]) (v := fun G => bv) (H := fun G => H) (p := fun G => elemAddr bv ((0 : Int).toNat * 1)) (fun G => ⟨by kernel_rfl⟩) rfl (fun G => by kernel_rfl) (fun G w hs => by
          have hg := gd_of hs (p := (true && (p19 == false))) (by kernel_rfl)
          have hg0 := (iN hp19 (iOF (iNF (iN hp8 iDT)) (iNF (iN hp9 iDT)))).1 (eqF (andR hg))
          have hgA := Tm.check_le hg0.2
          exact ⟨(hs.read 0 rfl), hb, (add_zero' _).symm, by omega, by first | omega | (simp only [List.length_append, List.length_cons, List.length_nil, List.length_replicate, List.length_set, List.length_take, List.length_drop, List.length_map, List.length_reverse, List.length_range]; omega), hn5⟩)
      · exact One.bo hp20 (fun _ _ => by kernel_rfl)
      · subst hp21
        cases p19 <;> exact One.under fun _ _ _ => by kernel_rfl
      · exact One.len (t := 26) (n := n1) (v := fun G => av) (fun _ => ⟨by kernel_rfl⟩) (fun G w hs => by
          have hg := gd_of hs (p := (true && (p21 == false))) (by kernel_rfl)
          have hg0 := (iN hp21 (iOF (iN hp19 (iOF (iNF (iN hp8 iDT)) (iNF (iN hp9 iDT)))) (iN hp20 (iNF iDT)))).1 (eqF (andR hg))
          exact ⟨_, (ha).isSl, hn1⟩)
      · exact One.ar hn6 (fun _ _ => by kernel_rfl) (fun G w hs => by
          have hg := gd_of hs (p := (true && (p21 == false))) (by kernel_rfl)
          have hg0 := (iN hp21 (iOF (iN hp19 (iOF (iNF (iN hp8 iDT)) (iNF (iN hp9 iDT)))) (iN hp20 (iNF iDT)))).1 (eqF (andR hg))
          have hgA := Tm.check_le hg0.1.1
          exact by omega)
      · exact One.index (t := 26) (e := 3) (size := 1) (v := fun G => av) (k := .i64) (n := n6) (fun _ => ⟨by kernel_rfl⟩) (fun G w hs => by
          have hg := gd_of hs (p := (true && (p21 == false))) (by kernel_rfl)
          have hg0 := (iN hp21 (iOF (iN hp19 (iOF (iNF (iN hp8 iDT)) (iNF (iN hp9 iDT)))) (iN hp20 (iNF iDT)))).1 (eqF (andR hg))
          have hgA := Tm.check_le hg0.1.1
          exact ⟨_, (ha).isSl, by first | omega | (simp only [List.length_append, List.length_cons, List.length_nil, List.length_replicate, List.length_set, List.length_take, List.length_drop, List.length_map, List.length_reverse, List.length_range]; omega), by first | omega | (simp only [List.length_append, List.length_cons, List.length_nil, List.length_replicate, List.length_set, List.length_take, List.length_drop, List.length_map, List.length_reverse, List.length_range]; omega)⟩)
      · exact One.loadD (α := Int) (t := 3) (size := 1) (off := 0) (k := n6) (l := fun G => a) (x := fun G => n7) (vs := fun G => [.int .i64 n7]) (v := fun G => av) (H := fun G => H) (p := fun G => elemAddr av (n6.toNat * 1)) (fun G => ⟨by kernel_rfl⟩) rfl (fun G => by kernel_rfl) (fun G w hs => by
          have hg := gd_of hs (p := (true && (p21 == false))) (by kernel_rfl)
          have hg0 := (iN hp21 (iOF (iN hp19 (iOF (iNF (iN hp8 iDT)) (iNF (iN hp9 iDT)))) (iN hp20 (iNF iDT)))).1 (eqF (andR hg))
          have hgA := Tm.check_le hg0.1.1
          exact ⟨(hs.read 0 rfl), ha, (add_zero' _).symm, by omega, by first | omega | (simp only [List.length_append, List.length_cons, List.length_nil, List.length_replicate, List.length_set, List.length_take, List.length_drop, List.length_map, List.length_reverse, List.length_range]; omega), hn7⟩)
      · exact One.len (t := 26) (n := n2) (v := fun G => bv) (fun _ => ⟨by kernel_rfl⟩) (fun G w hs => by
          have hg := gd_of hs (p := (true && (p21 == false))) (by kernel_rfl)
          have hg0 := (iN hp21 (iOF (iN hp19 (iOF (iNF (iN hp8 iDT)) (iNF (iN hp9 iDT)))) (iN hp20 (iNF iDT)))).1 (eqF (andR hg))
          exact ⟨_, (hb).isSl, hn2⟩)
      · exact One.ar hn8 (fun _ _ => by kernel_rfl) (fun G w hs => by
          have hg := gd_of hs (p := (true && (p21 == false))) (by kernel_rfl)
          have hg0 := (iN hp21 (iOF (iN hp19 (iOF (iNF (iN hp8 iDT)) (iNF (iN hp9 iDT)))) (iN hp20 (iNF iDT)))).1 (eqF (andR hg))
          have hgA := Tm.check_le hg0.1.2
          exact by omega)
      · exact One.index (t := 26) (e := 3) (size := 1) (v := fun G => bv) (k := .i64) (n := n8) (fun _ => ⟨by kernel_rfl⟩) (fun G w hs => by
          have hg := gd_of hs (p := (true && (p21 == false))) (by kernel_rfl)
          have hg0 := (iN hp21 (iOF (iN hp19 (iOF (iNF (iN hp8 iDT)) (iNF (iN hp9 iDT)))) (iN hp20 (iNF iDT)))).1 (eqF (andR hg))
          have hgA := Tm.check_le hg0.1.2
          exact ⟨_, (hb).isSl, by first | omega | (simp only [List.length_append, List.length_cons, List.length_nil, List.length_replicate, List.length_set, List.length_take, List.length_drop, List.length_map, List.length_reverse, List.length_range]; omega), by first | omega | (simp only [List.length_append, List.length_cons, List.length_nil, List.length_replicate, List.length_set, List.length_take, List.length_drop, List.length_map, List.length_reverse, List.length_range]; omega)⟩)
      · exact One.loadD (α := Int) (t := 3) (size := 1) (off := 0) (k := n8) (l := fun G => b) (x := fun G => n9) (vs := fun G => [.int .i64 n9]) (v := fun G => bv) (H := fun G => H) (p := fun G => elemAddr bv (n8.toNat * 1)) (fun G => ⟨by kernel_rfl⟩) rfl (fun G => by kernel_rfl) (fun G w hs => by
          have hg := gd_of hs (p := (true && (p21 == false))) (by kernel_rfl)
          have hg0 := (iN hp21 (iOF (iN hp19 (iOF (iNF (iN hp8 iDT)) (iNF (iN hp9 iDT)))) (iN hp20 (iNF iDT)))).1 (eqF (andR hg))
          have hgA := Tm.check_le hg0.1.2
          exact ⟨(hs.read 0 rfl), hb, (add_zero' _).symm, by omega, by first | omega | (simp only [List.length_append, List.length_cons, List.length_nil, List.length_replicate, List.length_set, List.length_take, List.length_drop, List.length_map, List.length_reverse, List.length_range]; omega), hn9⟩)
      · exact One.bo hp22 (fun _ _ => by kernel_rfl)
      · subst hp23
        cases p21 <;> exact One.under fun _ _ _ => by kernel_rfl
      intro G8 xa xw hDn
      refine hDn.to [3, 6, 7, 21, 113] [] (by kernel_rfl) ?_
      clear hDn
      refine Pre.conv (sl := [(3, .int .i64 total), (6, .int .i64 x), (7, .int .i64 y), (21, .bool true), (113, .bool p23)]) (A := [H]) (L := [some (b1, .cells #[vv] 24 (0, 0))]) ?_ (by kernel_rfl) (by kernel_rfl) (by kernel_rfl)
      clear G8
      refine At.then ?_
      refine W.cond p23 (by kernel_rfl) (fun xa hs => cnd_of (t := 113) (by kernel_rfl) (by kernel_rfl) hs) (fun hq => ?_) (fun hq => ?_)
      · skip
        have hq5 := hq
        replace hq5 := (iN hp23 (iOT (iN hp21 (iOT (iN hp19 (iOT (iNT (iN hp8 iDF)) (iNT (iN hp9 iDF)))) (iN hp20 (iNT iDF)))) (iN hp22 iDT))).1 hq5
        refine W.seq (by kernel_rfl) ?_
        refine W.regV (bounds_ct_r5_8 vv total x y H b1 p23) [0, 1] [] (fun G => [.bool true, .bool true]) (by kernel_rfl) mo_lc (by kernel_rfl) (fun _ _ => by kernel_rfl) trivial (by kernel_rfl) ?_
        intro G9 xa xw hDn
        refine hDn.to [20] [] (by kernel_rfl) ?_
        clear hDn
        refine Pre.conv (sl := [(20, .bool true)]) (A := [H]) (L := [some (b1, .cells #[vv] 24 (0, 0))]) ?_ (by kernel_rfl) (by kernel_rfl) (by kernel_rfl)
        clear G9
        refine At.then ?_
        refine W.ret (by kernel_rfl) ?_
        refine At.thenRet ?_
        refine At.results (Or.inl rfl) (.bool true) (fun xa xw hs hw => results_one (r := .tmp 20) (by kernel_rfl) (res_tmp (t := 20) (by kernel_rfl) hs)) (fun w' hw => ?_)
        exact ⟨congrArg Ending.returned (rfl), hw.base⟩
      · skip
        have hq6 := hq
        replace hq6 := (iN hp23 (iOF (iN hp21 (iOF (iN hp19 (iOF (iNF (iN hp8 iDT)) (iNF (iN hp9 iDT)))) (iN hp20 (iNF iDT)))) (iN hp22 iDF))).1 hq6
        refine W.skip (by kernel_rfl) ?_
        refine At.then ?_
        refine W.seq (by kernel_rfl) ?_
        have hTq := hq6
        have hA := Tm.check_le hTq.1.1.1
        have hB := Tm.check_le hTq.1.1.2
        have hTW := Tm.check_two hTq.1.1.1 hTq.1.1.2 (hn4.symm.trans (hTq.1.2.trans hn5)) (by rw [Tm.last_of hn1 hn6 hA.2.2.2.1 hn7, Tm.last_of hn2 hn8 hB.2.2.2.1 hn9]; exact hTq.2)
        obtain ⟨n10, hn10⟩ : ∃ zz : Int, zz = x + y := ⟨_, rfl⟩
        obtain ⟨p24, hp24⟩ : ∃ zz : Bool, zz = decide (n10 ≤ total) := ⟨_, rfl⟩
        refine W.regV (bounds_ct_r5_9 vv total x y H b1 p23 n10 p24) [0, 1, 2, 3, 5, 7, 8] [4, 6] (fun G => [.bool true, .bool true, .int .i64 x, .int .i64 y, .int .i64 total, .bool p24, .bool p24]) (by kernel_rfl) mo_lc (by kernel_rfl) (fun _ _ => by kernel_rfl) ⟨?_, ?_, trivial⟩ (by kernel_rfl) ?_
        · exact One.ar hn10 (fun _ _ => by kernel_rfl) (fun G w hs => by
            have hg := gd_of hs (p := (true && (true == true))) (by kernel_rfl)
            exact by omega)
        · exact One.bo hp24 (fun _ _ => by kernel_rfl)
        intro G10 xa xw hDn
        refine hDn.to [20] [] (by kernel_rfl) ?_
        clear hDn
        refine Pre.conv (sl := [(20, .bool p24)]) (A := [H]) (L := [some (b1, .cells #[vv] 24 (0, 0))]) ?_ (by kernel_rfl) (by kernel_rfl) (by kernel_rfl)
        clear G10
        refine At.then ?_
        refine W.ret (by kernel_rfl) ?_
        refine At.results (Or.inl rfl) (.bool p24) (fun xa xw hs hw => results_one (r := .tmp 20) (by kernel_rfl) (res_tmp (t := 20) (by kernel_rfl) hs)) (fun w' hw => ?_)
        have e0 : p24 = true := by
          rw [(iN hp24 iDT)]
          omega
        exact ⟨congrArg Ending.returned (cong1 (fun (x0 : Bool) => (.bool x0 : Value)) e0), hw.base⟩

end Kb
