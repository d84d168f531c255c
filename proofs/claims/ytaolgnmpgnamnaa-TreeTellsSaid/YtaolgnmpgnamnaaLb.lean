/- Law: tells. -/
import Derived.Test.YtaolgnmpgnamnaaLa
set_option linter.unusedVariables false
set_option linter.unusedSimpArgs false
namespace Kb
open Go Go.Proofs
theorem mo_lb : Try.prog.follows .mixedOrders = true := by kernel_rfl
noncomputable def tells_ct_r3_0 (vv textsv valuesv blindsv pathv : Value) (a b : Int) (text : ByteArray) (value own : Int) (H : Heaplet) : RC := { ops := opsAt Try.f3 0, B := [0, 0], sl := [(0, .agg #[vv]), (1, textsv), (2, valuesv), (3, blindsv), (4, pathv), (5, .int .i64 a), (6, .int .i64 b), (7, .string text), (8, .int .i64 value), (9, .int .i64 own)], A := [H], L := [none, none, none], cs := [{ val := fun G => .pointer (some ⟨(G 0).b, 0, none⟩), ups := [(0, fun G => some ((G 0).b, .cells #[vv] 24 (0, 0)))] }, { val := fun _ => .bool false }] }
noncomputable def tells_ct_r3_1 (vv textsv valuesv blindsv pathv : Value) (a b : Int) (text : ByteArray) (value own : Int) (H : Heaplet) (b1 : Nat) : RC := { ops := opsAt Try.f3 1, B := [0, 1], sl := [(1, textsv), (2, valuesv), (3, blindsv), (4, pathv), (5, .int .i64 a), (6, .int .i64 b), (7, .string text), (8, .int .i64 value), (9, .int .i64 own), (10, .pointer (some ⟨b1, 0, none⟩))], A := [H], L := [some (b1, .cells #[vv] 24 (0, 0)), none, none], cs := [{ val := fun _ => .bool true }, { val := fun _ => .bool true }] }
noncomputable def tells_ct_r3_2 (vv textsv valuesv blindsv pathv : Value) (a b : Int) (text : ByteArray) (value own : Int) (H : Heaplet) (b1 : Nat) (p1 p2 p3 : Bool) (n1 : Int) (p4 p5 : Bool) (n2 : Int) (p6 p7 : Bool) (n3 : Int) (p8 p9 : Bool) (n4 : Int) (p10 p11 : Bool) : RC := { ops := opsAt Try.f3 2, B := [0, 1, 3, 7, 15, 31, 63, 127, 255, 511, 1023, 2047, 4095, 8191, 16383, 32767, 65535, 131071, 262143, 524287, 1048575, 2097151, 4194303, 8388607, 16777215, 33554431, 67108863, 134217727], sl := [(1, textsv), (2, valuesv), (3, blindsv), (4, pathv), (5, .int .i64 a), (6, .int .i64 b), (7, .string text), (8, .int .i64 value), (9, .int .i64 own), (10, .pointer (some ⟨b1, 0, none⟩)), (21, .bool true)], A := [H], L := [some (b1, .cells #[vv] 24 (0, 0)), none, none], cs := [{ val := fun _ => .agg #[vv], rds := [0] }, { val := fun _ => .bool p1 }, { val := fun _ => .bool (!p1) }, { val := fun _ => .bool (!p1) }, { val := fun _ => textsv }, { val := fun _ => .bool p2 }, { val := fun _ => .bool (!p2) }, { val := fun _ => .bool p3 }, { val := fun _ => .bool p3 }, { val := fun _ => valuesv }, { val := fun _ => .int .i64 n1 }, { val := fun _ => .bool p4 }, { val := fun _ => .bool p5 }, { val := fun _ => .bool p5 }, { val := fun _ => blindsv }, { val := fun _ => .int .i64 n2 }, { val := fun _ => .bool p6 }, { val := fun _ => .bool p7 }, { val := fun _ => .bool p7 }, { val := fun _ => pathv }, { val := fun _ => .int .i64 n3 }, { val := fun _ => .bool p8 }, { val := fun _ => .bool p9 }, { val := fun _ => .bool p9 }, { val := fun _ => .string text }, { val := fun _ => .int .i64 n4 }, { val := fun _ => .bool p10 }, { val := fun _ => .bool p11 }] }
noncomputable def tells_ct_r3_3 (vv textsv valuesv blindsv pathv : Value) (a b : Int) (text : ByteArray) (value own : Int) (H : Heaplet) (b1 : Nat) (p11 : Bool) : RC := { ops := opsAt Try.f3 3, B := [0, 1], sl := [(1, textsv), (2, valuesv), (3, blindsv), (4, pathv), (5, .int .i64 a), (6, .int .i64 b), (7, .string text), (8, .int .i64 value), (9, .int .i64 own), (10, .pointer (some ⟨b1, 0, none⟩)), (21, .bool true), (59, .bool p11)], A := [H], L := [some (b1, .cells #[vv] 24 (0, 0)), none, none], cs := [{ val := fun _ => .bool true }, { val := fun _ => .bool true }] }
noncomputable def tells_ct_r3_4 (w0 : World) (v : List DThing) (vv textsv valuesv blindsv pathv : Value) (a b : Int) (text : ByteArray) (value own : Int) (H : Heaplet) (b1 : Nat) (p11 : Bool) (l1 : List DThing) (n5 : Int) (l2 : List Int) (n6 : Int) : RC := { ops := opsAt Try.f3 4, B := [0, 0, 0, 0, 15, 31, 63, 63, 63, 63, 0, 1151, 3327, 7679, 16383], sl := [(1, textsv), (2, valuesv), (3, blindsv), (4, pathv), (5, .int .i64 a), (6, .int .i64 b), (7, .string text), (8, .int .i64 value), (9, .int .i64 own), (10, .pointer (some ⟨b1, 0, none⟩)), (21, .bool true), (59, .bool p11)], A := [H], L := [some (b1, .cells #[vv] 24 (0, 0)), none, none], cs := [{ val := fun _ => .agg #[vv], rds := [0] }, { val := fun _ => textsv }, { val := fun _ => valuesv }, { val := fun _ => blindsv }, { val := fun G => .tuple #[.agg #[(G 4).v], .int .i64 n5, (G 4).v2, .int .i64 n6], fact := fun G => (RSl (hun (G 4).H H) l1 (G 4).v ∧ RSl (hun (G 4).H H) l2 (G 4).v2) ∧ New w0 (G 4).H }, { val := fun G => .tuple #[.agg #[(G 4).v], .int .i64 n5, (G 4).v2, .int .i64 n6] }, { val := fun G => .agg #[(G 4).v] }, { val := fun _ => .int .i64 n5 }, { val := fun G => (G 4).v2 }, { val := fun _ => .int .i64 n6 }, { val := fun G => .pointer (some ⟨(G 10).b, 0, none⟩), ups := [(1, fun G => some ((G 10).b, .cells #[.slice none 0 0] 24 (0, 0)))] }, { val := fun _ => undef, ups := [(1, fun G => some ((G 10).b, .cells #[(G 4).v] 24 (0, 0)))] }, { val := fun _ => .int .i64 n5 }, { val := fun G => (G 4).v2 }, { val := fun _ => .int .i64 n6 }] }
noncomputable def tells_ct_r3_5 (w0 : World) (v : List DThing) (vv textsv valuesv blindsv pathv : Value) (a b : Int) (text : ByteArray) (value own : Int) (H : Heaplet) (b1 : Nat) (l1 : List DThing) (n5 : Int) (l2 : List Int) (n6 : Int) (b2 : Nat) (v1 v2 : Value) (K1 : Heaplet) : RC := { ops := opsAt Try.f3 5, B := [0, 0, 0, 0, 15, 31, 63, 63, 63, 63, 0, 1151, 3327, 7679, 16383], sl := [(1, textsv), (2, valuesv), (3, blindsv), (4, pathv), (5, .int .i64 a), (6, .int .i64 b), (7, .string text), (8, .int .i64 value), (9, .int .i64 own), (10, .pointer (some ⟨b1, 0, none⟩)), (21, .bool true), (22, .pointer (some ⟨b2, 0, none⟩)), (23, .int .i64 n5), (24, v1), (25, .int .i64 n6)], A := [K1], L := [some (b1, .cells #[vv] 24 (0, 0)), some (b2, .cells #[v2] 24 (0, 0)), none], cs := [{ val := fun _ => .agg #[vv], rds := [0] }, { val := fun _ => textsv }, { val := fun _ => valuesv }, { val := fun _ => blindsv }, { val := fun G => .tuple #[.agg #[(G 4).v], .int .i64 n5, (G 4).v2, .int .i64 n6], fact := fun G => (RSl (hun (G 4).H K1) l1 (G 4).v ∧ RSl (hun (G 4).H K1) l2 (G 4).v2) ∧ New w0 (G 4).H }, { val := fun G => .tuple #[.agg #[(G 4).v], .int .i64 n5, (G 4).v2, .int .i64 n6] }, { val := fun G => .agg #[(G 4).v] }, { val := fun _ => .int .i64 n5 }, { val := fun G => (G 4).v2 }, { val := fun _ => .int .i64 n6 }, { val := fun G => .pointer (some ⟨(G 10).b, 0, none⟩), ups := [(2, fun G => some ((G 10).b, .cells #[.slice none 0 0] 24 (0, 0)))] }, { val := fun _ => undef, ups := [(2, fun G => some ((G 10).b, .cells #[(G 4).v] 24 (0, 0)))] }, { val := fun _ => .int .i64 n5 }, { val := fun G => (G 4).v2 }, { val := fun _ => .int .i64 n6 }] }
noncomputable def tells_ct_r3_6 (vv pathv : Value) (a b : Int) (text : ByteArray) (value own : Int) (b1 : Nat) (n5 n6 : Int) (b2 : Nat) (v1 v2 : Value) (b3 : Nat) (v3 v4 : Value) (K2 : Heaplet) (p12 p13 p14 p15 p16 p17 p18 : Bool) : RC := { ops := opsAt Try.f3 6, B := [0, 0, 3, 7, 15, 15, 63, 127, 255, 511, 1023, 511, 2559, 8191, 16383, 32767, 65535, 131071, 131071, 524287, 1048575, 2097151], sl := [(4, pathv), (5, .int .i64 a), (6, .int .i64 b), (7, .string text), (8, .int .i64 value), (9, .int .i64 own), (10, .pointer (some ⟨b1, 0, none⟩)), (21, .bool true), (22, .pointer (some ⟨b2, 0, none⟩)), (23, .int .i64 n5), (24, v1), (25, .int .i64 n6), (26, .pointer (some ⟨b3, 0, none⟩)), (27, .int .i64 n5), (28, v3), (29, .int .i64 n6)], A := [K2], L := [some (b1, .cells #[vv] 24 (0, 0)), some (b2, .cells #[v2] 24 (0, 0)), some (b3, .cells #[v4] 24 (0, 0))], cs := [{ val := fun _ => .int .i64 n5 }, { val := fun _ => .int .i64 n5 }, { val := fun _ => .bool p12 }, { val := fun _ => .bool p12 }, { val := fun _ => .int .i64 n6 }, { val := fun _ => .int .i64 n6 }, { val := fun _ => .bool p13 }, { val := fun _ => .bool p14 }, { val := fun _ => .bool p14 }, { val := fun _ => .pointer (some ⟨b2, 0, none⟩) }, { val := fun _ => v2, rds := [1] }, { val := fun _ => .pointer (some ⟨b3, 0, none⟩) }, { val := fun _ => v4, rds := [2] }, { val := fun _ => .bool p15 }, { val := fun _ => .bool (!p15) }, { val := fun _ => .bool p16 }, { val := fun _ => .bool p16 }, { val := fun _ => v1 }, { val := fun _ => v3 }, { val := fun _ => .bool p17 }, { val := fun _ => .bool (!p17) }, { val := fun _ => .bool p18 }] }
noncomputable def tells_ct_r3_7 (w0 : World) (v : List DThing) (vv pathv : Value) (a b : Int) (text : ByteArray) (value own : Int) (H : Heaplet) (b1 b2 : Nat) (v2 : Value) (b3 : Nat) (v4 : Value) (K2 : Heaplet) (p18 : Bool) (l3 : List Int) (p19 : Bool) (l4 : List DThing) (p20 p21 : Bool) : RC := { ops := opsAt Try.f3 8, B := [0, 0, 0, 7, 0, 0, 0, 127, 255, 511, 1023, 1023, 4095, 1023, 1023, 32767, 65535, 131071, 262143], sl := [(4, pathv), (5, .int .i64 a), (6, .int .i64 b), (7, .string text), (8, .int .i64 value), (9, .int .i64 own), (10, .pointer (some ⟨b1, 0, none⟩)), (21, .bool true), (102, .bool p18)], A := [K2], L := [some (b1, .cells #[vv] 24 (0, 0)), some (b2, .cells #[v2] 24 (0, 0)), some (b3, .cells #[v4] 24 (0, 0))], cs := [{ val := fun _ => .agg #[vv], rds := [0] }, { val := fun _ => .int .i64 a }, { val := fun _ => .int .i64 b }, { val := fun G => (G 3).v, fact := fun G => (RSl (hun (G 3).H K2) l3 (G 3).v) ∧ New w0 (G 3).H }, { val := fun _ => .agg #[vv], rds := [0] }, { val := fun _ => .int .i64 a }, { val := fun _ => .int .i64 b }, { val := fun G => (G 7).v, fact := fun G => (RSl (hun (G 7).H K2) l3 (G 7).v) ∧ New w0 (G 7).H }, { val := fun _ => .bool p19 }, { val := fun _ => .bool p19 }, { val := fun _ => .agg #[vv], rds := [0] }, { val := fun _ => pathv }, { val := fun G => (G 12).v, fact := fun G => (RSl (hun (G 12).H K2) l4 (G 12).v) ∧ New w0 (G 12).H }, { val := fun _ => .agg #[vv], rds := [0] }, { val := fun _ => pathv }, { val := fun G => (G 15).v, fact := fun G => (RSl (hun (G 15).H K2) l4 (G 15).v) ∧ New w0 (G 15).H }, { val := fun _ => .bool p20 }, { val := fun _ => .bool p21 }, { val := fun _ => .bool p21 }] }
noncomputable def tells_ct_r3_8 (vv pathv : Value) (a b : Int) (text : ByteArray) (value own : Int) (b1 b2 : Nat) (v2 : Value) (b3 : Nat) (v4 : Value) (K2 : Heaplet) (p21 p22 p23 p24 : Bool) : RC := { ops := opsAt Try.f3 9, B := [0, 1, 3, 7, 15, 31, 31, 31, 31, 31, 31, 31, 4095, 31, 31, 31, 31, 31, 31, 31, 1048575, 2097151, 4194303, 8388607], sl := [(4, pathv), (5, .int .i64 a), (6, .int .i64 b), (7, .string text), (8, .int .i64 value), (9, .int .i64 own), (10, .pointer (some ⟨b1, 0, none⟩)), (21, .bool true), (30, .bool p21)], A := [K2], L := [some (b1, .cells #[vv] 24 (0, 0)), some (b2, .cells #[v2] 24 (0, 0)), some (b3, .cells #[v4] 24 (0, 0))], cs := [{ val := fun _ => .bool true }, { val := fun _ => .bool true }, { val := fun _ => .bool p21 }, { val := fun _ => .bool p21 }, { val := fun _ => .bool p21 }, { val := fun _ => .agg #[vv], rds := [0] }, { val := fun _ => pathv }, { val := fun _ => .int .i64 a }, { val := fun _ => .int .i64 b }, { val := fun _ => .string text }, { val := fun _ => .int .i64 value }, { val := fun _ => .int .i64 own }, { val := fun _ => .bool p22 }, { val := fun _ => .agg #[vv], rds := [0] }, { val := fun _ => pathv }, { val := fun _ => .int .i64 a }, { val := fun _ => .int .i64 b }, { val := fun _ => .string text }, { val := fun _ => .int .i64 value }, { val := fun _ => .int .i64 own }, { val := fun _ => .bool p22 }, { val := fun _ => .bool p23 }, { val := fun _ => .bool p24 }, { val := fun _ => .bool p24 }] }
set_option maxRecDepth 10000 in
theorem tells_ct (v : List DThing) (vv : Value) (texts : List ByteArray) (textsv : Value) (values : List Int) (valuesv : Value) (blinds : List Int) (blindsv : Value) (path : List Int) (pathv : Value) (a b : Int) (text : ByteArray) (value own : Int) (w0 : World) (H : Heaplet) (hA : Agrees w0 H) (hv : RSl H v vv) (htexts : RSl H texts textsv) (hvalues : RSl H values valuesv) (hblinds : RSl H blinds blindsv) (hpath : RSl H path pathv) :
    Calls Try.prog 3 #[.agg #[vv], textsv, valuesv, blindsv, pathv, .int .i64 a, .int .i64 b, .string text, .int .i64 value, .int .i64 own] w0 (fun e w' => e = .returned (.bool true) ∧ Base [] w0 w') := by
  have hE : Ext w0 H H := Ext.refl w0 H
  have hvn := hv.lim
  have htextsn := htexts.lim
  have hvaluesn := hvalues.lim
  have hblindsn := hblinds.lim
  have hpathn := hpath.lim
  refine calls_of_W (sl := [(0, .agg #[vv]), (1, textsv), (2, valuesv), (3, blindsv), (4, pathv), (5, .int .i64 a), (6, .int .i64 b), (7, .string text), (8, .int .i64 value), (9, .int .i64 own)]) (A := [H]) (L := [none, none, none]) Try.func3 (by kernel_rfl) 144 (by kernel_rfl) (by kernel_rfl) (fun J hJ => by simp at hJ; subst hJ; exact hA) (by simp) ?_
  refine W.seq (by kernel_rfl) ?_
  refine W.regV (tells_ct_r3_0 vv textsv valuesv blindsv pathv a b text value own H) [1] [0] (fun G => [.bool false]) (by kernel_rfl) mo_lb (by kernel_rfl) (fun _ _ => by kernel_rfl) ⟨?_, trivial⟩ (by kernel_rfl) ?_
  · exact One.new (r := 0) (T := 24) (fun b => .pointer (some ⟨b, 0, none⟩)) (arr := fun G => #[vv]) (fun G w => by kernel_rfl) (fun G b => by kernel_rfl)
  intro G1 xa xw hDn
  refine hDn.to [1, 2, 3, 4, 5, 6, 7, 8, 9, 10] [] (by kernel_rfl) ?_
  clear hDn
  refine Pre.conv (sl := [(1, textsv), (2, valuesv), (3, blindsv), (4, pathv), (5, .int .i64 a), (6, .int .i64 b), (7, .string text), (8, .int .i64 value), (9, .int .i64 own), (10, .pointer (some ⟨(G1 0).b, 0, none⟩))]) (A := [H]) (L := [some ((G1 0).b, .cells #[vv] 24 (0, 0)), none, none]) ?_ (by kernel_rfl) (by kernel_rfl) (by kernel_rfl)
  generalize (G1 0).b = b1 at ⊢
  clear G1
  refine At.then ?_
  refine W.seq (by kernel_rfl) ?_
  refine W.regV (tells_ct_r3_1 vv textsv valuesv blindsv pathv a b text value own H b1) [1] [0] (fun G => [.bool true]) (by kernel_rfl) mo_lb (by kernel_rfl) (fun _ _ => by kernel_rfl) ⟨?_, trivial⟩ (by kernel_rfl) ?_
  · exact One.callP (v := fun G => .bool true) (f := 13) (args := fun G => #[]) (fun _ _ => by kernel_rfl) (fun G w hs => sane_ct  w H (hs.read 0 rfl)  )
  intro G2 xa xw hDn
  refine hDn.to [1, 2, 3, 4, 5, 6, 7, 8, 9, 10, 21] [] (by kernel_rfl) ?_
  clear hDn
  refine Pre.conv (sl := [(1, textsv), (2, valuesv), (3, blindsv), (4, pathv), (5, .int .i64 a), (6, .int .i64 b), (7, .string text), (8, .int .i64 value), (9, .int .i64 own), (10, .pointer (some ⟨b1, 0, none⟩)), (21, .bool true)]) (A := [H]) (L := [some (b1, .cells #[vv] 24 (0, 0)), none, none]) ?_ (by kernel_rfl) (by kernel_rfl) (by kernel_rfl)
  clear G2
  refine At.then ?_
  refine W.seq (by kernel_rfl) ?_
  refine W.seq (by kernel_rfl) ?_
  obtain ⟨p1, hp1⟩ : ∃ zz : Bool, zz = (decide (Tm.fewP v 60)) := ⟨_, rfl⟩
  obtain ⟨p2, hp2⟩ : ∃ zz : Bool, zz = (decide (Tm.fewS texts 70)) := ⟨_, rfl⟩
  obtain ⟨p3, hp3⟩ : ∃ zz : Bool, zz = (!p1 || !p2) := ⟨_, rfl⟩
  obtain ⟨n1, hn1⟩ : ∃ zz : Int, zz = (values.length : Int) := ⟨_, rfl⟩
  obtain ⟨p4, hp4⟩ : ∃ zz : Bool, zz = decide (70 < n1) := ⟨_, rfl⟩
  obtain ⟨p5, hp5⟩ : ∃ zz : Bool, zz = (p3 || p4) := ⟨_, rfl⟩
  obtain ⟨n2, hn2⟩ : ∃ zz : Int, zz = (blinds.length : Int) := ⟨_, rfl⟩
  obtain ⟨p6, hp6⟩ : ∃ zz : Bool, zz = decide (70 < n2) := ⟨_, rfl⟩
  obtain ⟨p7, hp7⟩ : ∃ zz : Bool, zz = (p5 || p6) := ⟨_, rfl⟩
  obtain ⟨n3, hn3⟩ : ∃ zz : Int, zz = (path.length : Int) := ⟨_, rfl⟩
  obtain ⟨p8, hp8⟩ : ∃ zz : Bool, zz = decide (10 < n3) := ⟨_, rfl⟩
  obtain ⟨p9, hp9⟩ : ∃ zz : Bool, zz = (p7 || p8) := ⟨_, rfl⟩
  obtain ⟨n4, hn4⟩ : ∃ zz : Int, zz = (text.size : Int) := ⟨_, rfl⟩
  obtain ⟨p10, hp10⟩ : ∃ zz : Bool, zz = decide (100 < n4) := ⟨_, rfl⟩
  obtain ⟨p11, hp11⟩ : ∃ zz : Bool, zz = (p9 || p10) := ⟨_, rfl⟩
  refine W.regV (tells_ct_r3_2 vv textsv valuesv blindsv pathv a b text value own H b1 p1 p2 p3 n1 p4 p5 n2 p6 p7 n3 p8 p9 n4 p10 p11) [2, 3, 4, 6, 8, 9, 13, 14, 18, 19, 23, 24] [0, 1, 5, 7, 10, 11, 12, 15, 16, 17, 20, 21, 22, 25, 26, 27] (fun G => [.bool (!p1), .bool (!p1), textsv, .bool (!p2), .bool p3, valuesv, .bool p5, blindsv, .bool p7, pathv, .bool p9, .string text]) (by kernel_rfl) mo_lb (by kernel_rfl) (fun _ _ => by kernel_rfl) ⟨?_, ?_, ?_, ?_, ?_, ?_, ?_, ?_, ?_, ?_, ?_, ?_, ?_, ?_, ?_, ?_, trivial⟩ (by kernel_rfl) ?_
  · exact One.loadE (t := 24) (r := 0) (off := 0) (b := fun G => b1) (vs := fun G => [vv]) (arr := fun G => #[vv]) (T := 24) (fr := (0, 0)) (fun G => ⟨by kernel_rfl⟩) (fun G => by kernel_rfl)
  · exact One.callP (v := fun G => .bool p1) (f := 14) (args := fun G => #[.agg #[vv], .int .i64 60]) (fun _ _ => by kernel_rfl) (fun G w hs => by
      rw [hp1]
      exact fewv_ct v vv 60 w H (hs.read 0 rfl) (hv) )
  · exact One.callP (v := fun G => .bool p2) (f := 15) (args := fun G => #[textsv, .int .i64 70]) (fun _ _ => by kernel_rfl) (fun G w hs => by
      have hg := gd_of hs (p := (true && ((!p1) == false))) (by kernel_rfl)
      have hg0 := (iNF (iN hp1 iDT)).1 (eqF (andR hg))
      rw [hp2]
      exact fews_ct texts textsv 70 w H (hs.read 0 rfl) (htexts) )
  · subst hp3
    cases p1 <;> exact One.under fun _ _ _ => by kernel_rfl
  · exact One.len (t := 26) (n := n1) (v := fun G => valuesv) (fun _ => ⟨by kernel_rfl⟩) (fun G w hs => by
      have hg := gd_of hs (p := (true && (p3 == false))) (by kernel_rfl)
      have hg0 := (iN hp3 (iOF (iNF (iN hp1 iDT)) (iNF (iN hp2 iDT)))).1 (eqF (andR hg))
      exact ⟨_, (hvalues).isSl, hn1⟩)
  · exact One.bo hp4 (fun _ _ => by kernel_rfl)
  · subst hp5
    cases p3 <;> exact One.under fun _ _ _ => by kernel_rfl
  · exact One.len (t := 26) (n := n2) (v := fun G => blindsv) (fun _ => ⟨by kernel_rfl⟩) (fun G w hs => by
      have hg := gd_of hs (p := (true && (p5 == false))) (by kernel_rfl)
      have hg0 := (iN hp5 (iOF (iN hp3 (iOF (iNF (iN hp1 iDT)) (iNF (iN hp2 iDT)))) (iN hp4 iDF))).1 (eqF (andR hg))
      exact ⟨_, (hblinds).isSl, hn2⟩)
  · exact One.bo hp6 (fun _ _ => by kernel_rfl)
  · subst hp7
    cases p5 <;> exact One.under fun _ _ _ => by kernel_rfl
  · exact One.len (t := 26) (n := n3) (v := fun G => pathv) (fun _ => ⟨by kernel_rfl⟩) (fun G w hs => by
      have hg := gd_of hs (p := (true && (p7 == false))) (by kernel_rfl)
      have hg0 := (iN hp7 (iOF (iN hp5 (iOF (iN hp3 (iOF (iNF (iN hp1 iDT)) (iNF (iN hp2 iDT)))) (iN hp4 iDF))) (iN hp6 iDF))).1 (eqF (andR hg))
      exact ⟨_, (hpath).isSl, hn3⟩)
  · exact One.bo hp8 (fun _ _ => by kernel_rfl)
  · subst hp9
    cases p7 <;> exact One.under fun _ _ _ => by kernel_rfl
  · exact One.eq (congrArg (Value.int .i64) hn4.symm) (fun _ _ => by kernel_rfl)
  · exact One.bo hp10 (fun _ _ => by kernel_rfl)
  · subst hp11
    cases p9 <;> exact One.under fun _ _ _ => by kernel_rfl
  intro G3 xa xw hDn
  refine hDn.to [1, 2, 3, 4, 5, 6, 7, 8, 9, 10, 21, 59] [] (by kernel_rfl) ?_
  clear hDn
  refine Pre.conv (sl := [(1, textsv), (2, valuesv), (3, blindsv), (4, pathv), (5, .int .i64 a), (6, .int .i64 b), (7, .string text), (8, .int .i64 value), (9, .int .i64 own), (10, .pointer (some ⟨b1, 0, none⟩)), (21, .bool true), (59, .bool p11)]) (A := [H]) (L := [some (b1, .cells #[vv] 24 (0, 0)), none, none]) ?_ (by kernel_rfl) (by kernel_rfl) (by kernel_rfl)
  clear G3
  refine At.then ?_
  refine W.cond p11 (by kernel_rfl) (fun xa hs => cnd_of (t := 59) (by kernel_rfl) (by kernel_rfl) hs) (fun hq => ?_) (fun hq => ?_)
  · skip
    have hq1 := hq
    replace hq1 := (iN hp11 (iOT (iN hp9 (iOT (iN hp7 (iOT (iN hp5 (iOT (iN hp3 (iOT (iNT (iN hp1 iDF)) (iNT (iN hp2 iDF)))) (iN hp4 iDT))) (iN hp6 iDT))) (iN hp8 iDT))) (iN hp10 iDT))).1 hq1
    refine W.seq (by kernel_rfl) ?_
    refine W.regV (tells_ct_r3_3 vv textsv valuesv blindsv pathv a b text value own H b1 p11) [0, 1] [] (fun G => [.bool true, .bool true]) (by kernel_rfl) mo_lb (by kernel_rfl) (fun _ _ => by kernel_rfl) trivial (by kernel_rfl) ?_
    intro G4 xa xw hDn
    refine hDn.to [20] [] (by kernel_rfl) ?_
    clear hDn
    refine Pre.conv (sl := [(20, .bool true)]) (A := [H]) (L := [some (b1, .cells #[vv] 24 (0, 0)), none, none]) ?_ (by kernel_rfl) (by kernel_rfl) (by kernel_rfl)
    clear G4
    refine At.then ?_
    refine W.ret (by kernel_rfl) ?_
    refine At.thenRet ?_
    refine At.results (Or.inl rfl) (.bool true) (fun xa xw hs hw => results_one (r := .tmp 20) (by kernel_rfl) (res_tmp (t := 20) (by kernel_rfl) hs)) (fun w' hw => ?_)
    exact ⟨congrArg Ending.returned (rfl), hw.base⟩
  · skip
    have hq2 := hq
    replace hq2 := (iN hp11 (iOF (iN hp9 (iOF (iN hp7 (iOF (iN hp5 (iOF (iN hp3 (iOF (iNF (iN hp1 iDT)) (iNF (iN hp2 iDT)))) (iN hp4 iDF))) (iN hp6 iDF))) (iN hp8 iDF))) (iN hp10 iDF))).1 hq2
    refine W.skip (by kernel_rfl) ?_
    refine At.then ?_
    refine W.seq (by kernel_rfl) ?_
    obtain ⟨l1, hl1⟩ : ∃ zz : List DThing, zz = (Tm.buildT v texts values blinds) := ⟨_, rfl⟩
    obtain ⟨n5, hn5⟩ : ∃ zz : Int, zz = (Tm.buildR v texts values blinds) := ⟨_, rfl⟩
    obtain ⟨l2, hl2⟩ : ∃ zz : List Int, zz = (Tm.buildL v texts values blinds) := ⟨_, rfl⟩
    obtain ⟨n6, hn6⟩ : ∃ zz : Int, zz = (Tm.buildE v texts values blinds) := ⟨_, rfl⟩
    refine W.regV (tells_ct_r3_4 w0 v vv textsv valuesv blindsv pathv a b text value own H b1 p11 l1 n5 l2 n6) [1, 2, 3, 5, 6, 7, 8, 9, 12, 13, 14] [0, 4, 10, 11] (fun G => [textsv, valuesv, blindsv, .tuple #[.agg #[(G 4).v], .int .i64 n5, (G 4).v2, .int .i64 n6], .agg #[(G 4).v], .int .i64 n5, (G 4).v2, .int .i64 n6, .int .i64 n5, (G 4).v2, .int .i64 n6]) (by kernel_rfl) mo_lb (by kernel_rfl) (fun _ _ => by kernel_rfl) ⟨?_, ?_, ?_, ?_, trivial⟩ (by kernel_rfl) ?_
    · exact One.loadE (t := 24) (r := 0) (off := 0) (b := fun G => b1) (vs := fun G => [vv]) (arr := fun G => #[vv]) (T := 24) (fr := (0, 0)) (fun G => ⟨by kernel_rfl⟩) (fun G => by kernel_rfl)
    · exact One.callM (f := 16) (args := fun G => #[.agg #[vv], textsv, valuesv, blindsv]) (H := fun G => H) (V := fun G g => .tuple #[.agg #[g.v], .int .i64 n5, g.v2, .int .i64 n6]) (F := fun G J g => RSl J l1 g.v ∧ RSl J l2 g.v2) (fun G g w => ⟨by kernel_rfl, by kernel_rfl⟩) (fun G w hs => by
        rw [hl1, hn5, hl2, hn6]
        exact build_ct v vv texts textsv values valuesv blinds blindsv w H (hs.read 0 rfl) (hv) (htexts) (hvalues) (hblinds) )
    · exact One.new (r := 1) (T := 24) (fun b => .pointer (some ⟨b, 0, none⟩)) (arr := fun G => #[.slice none 0 0]) (fun G w => by kernel_rfl) (fun G b => by kernel_rfl)
    · exact One.storeX (t := 24) (r := 1) (off := 0) (T := 24) (b := fun G => (G 10).b) (u := fun G => .agg #[(G 4).v]) (vs := fun G => [(G 4).v]) (arr := fun G => #[.slice none 0 0]) (fun G => ⟨by kernel_rfl⟩) (fun G w hs => by
        have ho4 : (RSl (hun (G 4).H H) l1 (G 4).v ∧ RSl (hun (G 4).H H) l2 (G 4).v2) ∧ New w0 (G 4).H := hs.get 4 (by kernel_rfl) (p := true) (by kernel_rfl) rfl (by kernel_rfl)
        exact ⟨rfl, (all_cons1 (ho4.1.1).cell1 rfl)⟩)
    intro G5 xa xw hDn
    have hf4_1 : (RSl (hun (G5 4).H H) l1 (G5 4).v ∧ RSl (hun (G5 4).H H) l2 (G5 4).v2) ∧ New w0 (G5 4).H := hDn.get 4 (by kernel_rfl) (by kernel_rfl) (by kernel_rfl)
    refine hDn.to [1, 2, 3, 4, 5, 6, 7, 8, 9, 10, 21, 22, 23, 24, 25] [4] (by kernel_rfl) ?_
    clear hDn
    refine Pre.conv (sl := [(1, textsv), (2, valuesv), (3, blindsv), (4, pathv), (5, .int .i64 a), (6, .int .i64 b), (7, .string text), (8, .int .i64 value), (9, .int .i64 own), (10, .pointer (some ⟨b1, 0, none⟩)), (21, .bool true), (22, .pointer (some ⟨(G5 10).b, 0, none⟩)), (23, .int .i64 n5), (24, (G5 4).v2), (25, .int .i64 n6)]) (A := [(G5 4).H, H]) (L := [some (b1, .cells #[vv] 24 (0, 0)), some ((G5 10).b, .cells #[(G5 4).v] 24 (0, 0)), none]) ?_ (by kernel_rfl) (by kernel_rfl) (by kernel_rfl)
    generalize (G5 10).b = b2 at hf4_1 ⊢
    generalize (G5 4).v2 = v1 at hf4_1 ⊢
    generalize (G5 4).v = v2 at hf4_1 ⊢
    generalize (G5 4).H = N1 at hf4_1 ⊢
    clear G5
    refine Pre.merge (Ns := [N1]) hE (by simp only [List.mem_cons, List.not_mem_nil, or_false, forall_eq_or_imp, forall_eq]; exact hf4_1.2) (fun K1 hk1 hk2 hE1 => ?_)
    have hr1 := (htexts).mono hk1
    have hr1n := hr1.lim
    have hr2 := (hvalues).mono hk1
    have hr2n := hr2.lim
    have hr3 := (hblinds).mono hk1
    have hr3n := hr3.lim
    have hr4 := (hpath).mono hk1
    have hr4n := hr4.lim
    have hr5 := (hf4_1.1.2).mono (hun_sub (hk2 _ (by simp)) hk1)
    have hr5n := hr5.lim
    have hr6 := (hv).mono hk1
    have hr6n := hr6.lim
    have hr7 := (hf4_1.1.1).mono (hun_sub (hk2 _ (by simp)) hk1)
    have hr7n := hr7.lim
    refine At.then ?_
    refine W.seq (by kernel_rfl) ?_
    refine W.regV (tells_ct_r3_5 w0 v vv textsv valuesv blindsv pathv a b text value own H b1 l1 n5 l2 n6 b2 v1 v2 K1) [1, 2, 3, 5, 6, 7, 8, 9, 12, 13, 14] [0, 4, 10, 11] (fun G => [textsv, valuesv, blindsv, .tuple #[.agg #[(G 4).v], .int .i64 n5, (G 4).v2, .int .i64 n6], .agg #[(G 4).v], .int .i64 n5, (G 4).v2, .int .i64 n6, .int .i64 n5, (G 4).v2, .int .i64 n6]) (by kernel_rfl) mo_lb (by kernel_rfl) (fun _ _ => by kernel_rfl) ⟨?_, ?_, ?_, ?_, trivial⟩ (by kernel_rfl) ?_
    · exact One.loadE (t := 24) (r := 0) (off := 0) (b := fun G => b1) (vs := fun G => [vv]) (arr := fun G => #[vv]) (T := 24) (fr := (0, 0)) (fun G => ⟨by kernel_rfl⟩) (fun G => by kernel_rfl)
    · exact One.callM (f := 17) (args := fun G => #[.agg #[vv], textsv, valuesv, blindsv]) (H := fun G => K1) (V := fun G g => .tuple #[.agg #[g.v], .int .i64 n5, g.v2, .int .i64 n6]) (F := fun G J g => RSl J l1 g.v ∧ RSl J l2 g.v2) (fun G g w => ⟨by kernel_rfl, by kernel_rfl⟩) (fun G w hs => by
        rw [hl1, hn5, hl2, hn6]
        exact rbuild_ct v vv texts textsv values valuesv blinds blindsv w K1 (hs.read 0 rfl) (hr6) (hr1) (hr2) (hr3) )
    · exact One.new (r := 2) (T := 24) (fun b => .pointer (some ⟨b, 0, none⟩)) (arr := fun G => #[.slice none 0 0]) (fun G w => by kernel_rfl) (fun G b => by kernel_rfl)
    · exact One.storeX (t := 24) (r := 2) (off := 0) (T := 24) (b := fun G => (G 10).b) (u := fun G => .agg #[(G 4).v]) (vs := fun G => [(G 4).v]) (arr := fun G => #[.slice none 0 0]) (fun G => ⟨by kernel_rfl⟩) (fun G w hs => by
        have ho4 : (RSl (hun (G 4).H K1) l1 (G 4).v ∧ RSl (hun (G 4).H K1) l2 (G 4).v2) ∧ New w0 (G 4).H := hs.get 4 (by kernel_rfl) (p := true) (by kernel_rfl) rfl (by kernel_rfl)
        exact ⟨rfl, (all_cons1 (ho4.1.1).cell1 rfl)⟩)
    intro G6 xa xw hDn
    have hf4_2 : (RSl (hun (G6 4).H K1) l1 (G6 4).v ∧ RSl (hun (G6 4).H K1) l2 (G6 4).v2) ∧ New w0 (G6 4).H := hDn.get 4 (by kernel_rfl) (by kernel_rfl) (by kernel_rfl)
    refine hDn.to [4, 5, 6, 7, 8, 9, 10, 21, 22, 23, 24, 25, 26, 27, 28, 29] [4] (by kernel_rfl) ?_
    clear hDn
    refine Pre.conv (sl := [(4, pathv), (5, .int .i64 a), (6, .int .i64 b), (7, .string text), (8, .int .i64 value), (9, .int .i64 own), (10, .pointer (some ⟨b1, 0, none⟩)), (21, .bool true), (22, .pointer (some ⟨b2, 0, none⟩)), (23, .int .i64 n5), (24, v1), (25, .int .i64 n6), (26, .pointer (some ⟨(G6 10).b, 0, none⟩)), (27, .int .i64 n5), (28, (G6 4).v2), (29, .int .i64 n6)]) (A := [(G6 4).H, K1]) (L := [some (b1, .cells #[vv] 24 (0, 0)), some (b2, .cells #[v2] 24 (0, 0)), some ((G6 10).b, .cells #[(G6 4).v] 24 (0, 0))]) ?_ (by kernel_rfl) (by kernel_rfl) (by kernel_rfl)
    generalize (G6 10).b = b3 at hf4_2 ⊢
    generalize (G6 4).v2 = v3 at hf4_2 ⊢
    generalize (G6 4).v = v4 at hf4_2 ⊢
    generalize (G6 4).H = N2 at hf4_2 ⊢
    clear G6
    refine Pre.merge (Ns := [N2]) hE1 (by simp only [List.mem_cons, List.not_mem_nil, or_false, forall_eq_or_imp, forall_eq]; exact hf4_2.2) (fun K2 hk3 hk4 hE2 => ?_)
    have hr8 := (hr4).mono hk3
    have hr8n := hr8.lim
    have hr9 := (hr5).mono hk3
    have hr9n := hr9.lim
    have hr10 := (hf4_2.1.2).mono (hun_sub (hk4 _ (by simp)) hk3)
    have hr10n := hr10.lim
    have hr11 := (hr6).mono hk3
    have hr11n := hr11.lim
    have hr12 := (hr7).mono hk3
    have hr12n := hr12.lim
    have hr13 := (hf4_2.1.1).mono (hun_sub (hk4 _ (by simp)) hk3)
    have hr13n := hr13.lim
    refine At.then ?_
    refine W.seq (by kernel_rfl) ?_
    refine W.seq (by kernel_rfl) ?_
    obtain ⟨p12, hp12⟩ : ∃ zz : Bool, zz = !(decide (n5 = n5)) := ⟨_, rfl⟩
    obtain ⟨p13, hp13⟩ : ∃ zz : Bool, zz = !(decide (n6 = n6)) := ⟨_, rfl⟩
    obtain ⟨p14, hp14⟩ : ∃ zz : Bool, zz = (p12 || p13) := ⟨_, rfl⟩
    obtain ⟨p15, hp15⟩ : ∃ zz : Bool, zz = (decide (l1 = l1)) := ⟨_, rfl⟩
    obtain ⟨p16, hp16⟩ : ∃ zz : Bool, zz = (p14 || !p15) := ⟨_, rfl⟩
    obtain ⟨p17, hp17⟩ : ∃ zz : Bool, zz = (decide (l2 = l2)) := ⟨_, rfl⟩
    obtain ⟨p18, hp18⟩ : ∃ zz : Bool, zz = (p16 || !p17) := ⟨_, rfl⟩
    refine W.regV (tells_ct_r3_6 vv pathv a b text value own b1 n5 n6 b2 v1 v2 b3 v3 v4 K2 p12 p13 p14 p15 p16 p17 p18) [0, 1, 3, 4, 5, 8, 9, 11, 14, 16, 17, 18, 20] [2, 6, 7, 10, 12, 13, 15, 19, 21] (fun G => [.int .i64 n5, .int .i64 n5, .bool p12, .int .i64 n6, .int .i64 n6, .bool p14, .pointer (some ⟨b2, 0, none⟩), .pointer (some ⟨b3, 0, none⟩), .bool (!p15), .bool p16, v1, v3, .bool (!p17)]) (by kernel_rfl) mo_lb (by kernel_rfl) (fun _ _ => by kernel_rfl) ⟨?_, ?_, ?_, ?_, ?_, ?_, ?_, ?_, ?_, trivial⟩ (by kernel_rfl) ?_
    · exact One.bo hp12 (fun _ _ => by kernel_rfl)
    · exact One.bo hp13 (fun _ _ => by kernel_rfl)
    · subst hp14
      cases p12 <;> exact One.under fun _ _ _ => by kernel_rfl
    · exact One.loadE (t := 22) (r := 1) (off := 0) (b := fun G => b2) (vs := fun G => [v2]) (arr := fun G => #[v2]) (T := 24) (fr := (0, 0)) (fun G => ⟨by kernel_rfl⟩) (fun G => by kernel_rfl)
    · exact One.loadE (t := 22) (r := 2) (off := 0) (b := fun G => b3) (vs := fun G => [v4]) (arr := fun G => #[v4]) (T := 24) (fr := (0, 0)) (fun G => ⟨by kernel_rfl⟩) (fun G => by kernel_rfl)
    · exact One.callP (v := fun G => .bool p15) (f := 18) (args := fun G => #[v2, v4]) (fun _ _ => by kernel_rfl) (fun G w hs => by
        have hg := gd_of hs (p := (true && (p14 == false))) (by kernel_rfl)
        have hg0 := (iN hp14 (iOF (iN hp12 (iNF iDT)) (iN hp13 (iNF iDT)))).1 (eqF (andR hg))
        rw [hp15]
        exact same_ct l1 v2 l1 v4 w K2 (hs.read 0 rfl) (hr12) (hr13) )
    · subst hp16
      cases p14 <;> exact One.under fun _ _ _ => by kernel_rfl
    · exact One.callP (v := fun G => .bool p17) (f := 19) (args := fun G => #[v1, v3]) (fun _ _ => by kernel_rfl) (fun G w hs => by
        have hg := gd_of hs (p := (true && (p16 == false))) (by kernel_rfl)
        have hg0 := (iN hp16 (iOF (iN hp14 (iOF (iN hp12 (iNF iDT)) (iN hp13 (iNF iDT)))) (iNF (iN hp15 iDT)))).1 (eqF (andR hg))
        rw [hp17]
        exact samei_ct l2 v1 l2 v3 w K2 (hs.read 0 rfl) (hr9) (hr10) )
    · subst hp18
      cases p16 <;> exact One.under fun _ _ _ => by kernel_rfl
    intro G7 xa xw hDn
    refine hDn.to [4, 5, 6, 7, 8, 9, 10, 21, 102] [] (by kernel_rfl) ?_
    clear hDn
    refine Pre.conv (sl := [(4, pathv), (5, .int .i64 a), (6, .int .i64 b), (7, .string text), (8, .int .i64 value), (9, .int .i64 own), (10, .pointer (some ⟨b1, 0, none⟩)), (21, .bool true), (102, .bool p18)]) (A := [K2]) (L := [some (b1, .cells #[vv] 24 (0, 0)), some (b2, .cells #[v2] 24 (0, 0)), some (b3, .cells #[v4] 24 (0, 0))]) ?_ (by kernel_rfl) (by kernel_rfl) (by kernel_rfl)
    clear G7
    refine At.then ?_
    refine W.cond p18 (by kernel_rfl) (fun xa hs => cnd_of (t := 102) (by kernel_rfl) (by kernel_rfl) hs) (fun hq => ?_) (fun hq => ?_)
    · skip
      have hq3 := hq
      replace hq3 := (iN hp18 (iOT (iN hp16 (iOT (iN hp14 (iOT (iN hp12 (iNT iDF)) (iN hp13 (iNT iDF)))) (iNT (iN hp15 iDF)))) (iNT (iN hp17 iDF)))).1 hq3
      rcases hq3 with ((h | h) | h) | h <;> (subst_vars; exact (h rfl).elim)
    · skip
      have hq4 := hq
      replace hq4 := (iN hp18 (iOF (iN hp16 (iOF (iN hp14 (iOF (iN hp12 (iNF iDT)) (iN hp13 (iNF iDT)))) (iNF (iN hp15 iDT)))) (iNF (iN hp17 iDT)))).1 hq4
      refine W.skip (by kernel_rfl) ?_
      refine At.then ?_
      refine W.seq (by kernel_rfl) ?_
      obtain ⟨l3, hl3⟩ : ∃ zz : List Int, zz = (Tm.pathF v a b) := ⟨_, rfl⟩
      obtain ⟨p19, hp19⟩ : ∃ zz : Bool, zz = (decide (l3 = l3)) := ⟨_, rfl⟩
      obtain ⟨l4, hl4⟩ : ∃ zz : List DThing, zz = (Tm.viewF v path) := ⟨_, rfl⟩
      obtain ⟨p20, hp20⟩ : ∃ zz : Bool, zz = (decide (l4 = l4)) := ⟨_, rfl⟩
      obtain ⟨p21, hp21⟩ : ∃ zz : Bool, zz = (p19 && p20) := ⟨_, rfl⟩
      refine W.regV (tells_ct_r3_7 w0 v vv pathv a b text value own H b1 b2 v2 b3 v4 K2 p18 l3 p19 l4 p20 p21) [1, 2, 5, 6, 9, 11, 14, 18] [0, 3, 4, 7, 8, 10, 12, 13, 15, 16, 17] (fun G => [.int .i64 a, .int .i64 b, .int .i64 a, .int .i64 b, .bool p19, pathv, pathv, .bool p21]) (by kernel_rfl) mo_lb (by kernel_rfl) (fun _ _ => by kernel_rfl) ⟨?_, ?_, ?_, ?_, ?_, ?_, ?_, ?_, ?_, ?_, ?_, trivial⟩ (by kernel_rfl) ?_
      · exact One.loadE (t := 24) (r := 0) (off := 0) (b := fun G => b1) (vs := fun G => [vv]) (arr := fun G => #[vv]) (T := 24) (fr := (0, 0)) (fun G => ⟨by kernel_rfl⟩) (fun G => by kernel_rfl)
      · exact One.callM (f := 20) (args := fun G => #[.agg #[vv], .int .i64 a, .int .i64 b]) (H := fun G => K2) (V := fun G g => g.v) (F := fun G J g => RSl J l3 g.v) (fun G g w => ⟨by kernel_rfl, by kernel_rfl⟩) (fun G w hs => by
          rw [hl3]
          exact path_ct v vv a b w K2 (hs.read 0 rfl) (hr11) )
      · exact One.loadE (t := 24) (r := 0) (off := 0) (b := fun G => b1) (vs := fun G => [vv]) (arr := fun G => #[vv]) (T := 24) (fr := (0, 0)) (fun G => ⟨by kernel_rfl⟩) (fun G => by kernel_rfl)
      · exact One.callM (f := 21) (args := fun G => #[.agg #[vv], .int .i64 a, .int .i64 b]) (H := fun G => K2) (V := fun G g => g.v) (F := fun G J g => RSl J l3 g.v) (fun G g w => ⟨by kernel_rfl, by kernel_rfl⟩) (fun G w hs => by
          rw [hl3]
          exact rpath_ct v vv a b w K2 (hs.read 0 rfl) (hr11) )
      · exact One.callP (v := fun G => .bool p19) (f := 19) (args := fun G => #[(G 3).v, (G 7).v]) (fun _ _ => by kernel_rfl) (fun G w hs => by
          have ho3 : (RSl (hun (G 3).H K2) l3 (G 3).v) ∧ New w0 (G 3).H := hs.get 3 (by kernel_rfl) (p := true) (by kernel_rfl) rfl (by kernel_rfl)
          have ho7 : (RSl (hun (G 7).H K2) l3 (G 7).v) ∧ New w0 (G 7).H := hs.get 7 (by kernel_rfl) (p := true) (by kernel_rfl) rfl (by kernel_rfl)
          rw [hp19]
          exact samei_ct l3 ((G 3).v) l3 ((G 7).v) w ((hun (hun (G 3).H K2) (hun (G 7).H K2))) (hun_agrees (hun_agrees (hs.heap 3 (by kernel_rfl)) (hs.read 0 rfl)) (hun_agrees (hs.heap 7 (by kernel_rfl)) (hs.read 0 rfl))) (((ho3.1).mono hun_left)) (((ho7.1).mono (hun_right (hun_agrees (hs.heap 3 (by kernel_rfl)) (hs.read 0 rfl)) (hun_agrees (hs.heap 7 (by kernel_rfl)) (hs.read 0 rfl))))) )
      · exact One.loadE (t := 24) (r := 0) (off := 0) (b := fun G => b1) (vs := fun G => [vv]) (arr := fun G => #[vv]) (T := 24) (fr := (0, 0)) (fun G => ⟨by kernel_rfl⟩) (fun G => by kernel_rfl)
      · exact One.callM (f := 22) (args := fun G => #[.agg #[vv], pathv]) (H := fun G => K2) (V := fun G g => g.v) (F := fun G J g => RSl J l4 g.v) (fun G g w => ⟨by kernel_rfl, by kernel_rfl⟩) (fun G w hs => by
          have hg := gd_of hs (p := (true && (p19 == true))) (by kernel_rfl)
          have hg0 := (iN hp19 iDT).1 (eqT (andR hg))
          rw [hl4]
          exact view_ct v vv path pathv w K2 (hs.read 0 rfl) (hr11) (hr8) (by omega))
      · exact One.loadE (t := 24) (r := 0) (off := 0) (b := fun G => b1) (vs := fun G => [vv]) (arr := fun G => #[vv]) (T := 24) (fr := (0, 0)) (fun G => ⟨by kernel_rfl⟩) (fun G => by kernel_rfl)
      · exact One.callM (f := 23) (args := fun G => #[.agg #[vv], pathv]) (H := fun G => K2) (V := fun G g => g.v) (F := fun G J g => RSl J l4 g.v) (fun G g w => ⟨by kernel_rfl, by kernel_rfl⟩) (fun G w hs => by
          have hg := gd_of hs (p := (true && (p19 == true))) (by kernel_rfl)
          have hg0 := (iN hp19 iDT).1 (eqT (andR hg))
          rw [hl4]
          exact rview_ct v vv path pathv w K2 (hs.read 0 rfl) (hr11) (hr8) (by omega))
      · exact One.callP (v := fun G => .bool p20) (f := 18) (args := fun G => #[(G 12).v, (G 15).v]) (fun _ _ => by kernel_rfl) (fun G w hs => by
          have hg := gd_of hs (p := (true && (p19 == true))) (by kernel_rfl)
          have hg0 := (iN hp19 iDT).1 (eqT (andR hg))
          have ho12 : (RSl (hun (G 12).H K2) l4 (G 12).v) ∧ New w0 (G 12).H := hs.get 12 (by kernel_rfl) (p := (true && (p19 == true))) (by kernel_rfl) hg (by kernel_rfl)
          have ho15 : (RSl (hun (G 15).H K2) l4 (G 15).v) ∧ New w0 (G 15).H := hs.get 15 (by kernel_rfl) (p := (true && (p19 == true))) (by kernel_rfl) hg (by kernel_rfl)
          rw [hp20]
          exact same_ct l4 ((G 12).v) l4 ((G 15).v) w ((hun (hun (G 12).H K2) (hun (G 15).H K2))) (hun_agrees (hun_agrees (hs.heap 12 (by kernel_rfl)) (hs.read 0 rfl)) (hun_agrees (hs.heap 15 (by kernel_rfl)) (hs.read 0 rfl))) (((ho12.1).mono hun_left)) (((ho15.1).mono (hun_right (hun_agrees (hs.heap 12 (by kernel_rfl)) (hs.read 0 rfl)) (hun_agrees (hs.heap 15 (by kernel_rfl)) (hs.read 0 rfl))))) )
      · subst hp21
        cases p19 <;> exact One.under fun _ _ _ => by kernel_rfl
      intro G8 xa xw hDn
      refine hDn.to [4, 5, 6, 7, 8, 9, 10, 21, 30] [] (by kernel_rfl) ?_
      clear hDn
      refine Pre.conv (sl := [(4, pathv), (5, .int .i64 a), (6, .int .i64 b), (7, .string text), (8, .int .i64 value), (9, .int .i64 own), (10, .pointer (some ⟨b1, 0, none⟩)), (21, .bool true), (30, .bool p21)]) (A := [K2]) (L := [some (b1, .cells #[vv] 24 (0, 0)), some (b2, .cells #[v2] 24 (0, 0)), some (b3, .cells #[v4] 24 (0, 0))]) ?_ (by kernel_rfl) (by kernel_rfl) (by kernel_rfl)
      clear G8
      refine At.then ?_
      refine W.seq (by kernel_rfl) ?_
      obtain ⟨p22, hp22⟩ : ∃ zz : Bool, zz = (decide (Tm.checkP v path a b text value own)) := ⟨_, rfl⟩
      obtain ⟨p23, hp23⟩ : ∃ zz : Bool, zz = decide (p22 = true ↔ p22 = true) := ⟨_, rfl⟩
      obtain ⟨p24, hp24⟩ : ∃ zz : Bool, zz = (p21 && p23) := ⟨_, rfl⟩
      refine W.regV (tells_ct_r3_8 vv pathv a b text value own b1 b2 v2 b3 v4 K2 p21 p22 p23 p24) [0, 1, 2, 3, 4, 6, 7, 8, 9, 10, 11, 14, 15, 16, 17, 18, 19, 23] [5, 12, 13, 20, 21, 22] (fun G => [.bool true, .bool true, .bool p21, .bool p21, .bool p21, pathv, .int .i64 a, .int .i64 b, .string text, .int .i64 value, .int .i64 own, pathv, .int .i64 a, .int .i64 b, .string text, .int .i64 value, .int .i64 own, .bool p24]) (by kernel_rfl) mo_lb (by kernel_rfl) (fun _ _ => by kernel_rfl) ⟨?_, ?_, ?_, ?_, ?_, ?_, trivial⟩ (by kernel_rfl) ?_
      · exact One.loadE (t := 24) (r := 0) (off := 0) (b := fun G => b1) (vs := fun G => [vv]) (arr := fun G => #[vv]) (T := 24) (fr := (0, 0)) (fun G => ⟨by kernel_rfl⟩) (fun G => by kernel_rfl)
      · exact One.callP (v := fun G => .bool p22) (f := 24) (args := fun G => #[.agg #[vv], pathv, .int .i64 a, .int .i64 b, .string text, .int .i64 value, .int .i64 own]) (fun _ _ => by kernel_rfl) (fun G w hs => by
          have hg := gd_of hs (p := (true && (p21 == true))) (by kernel_rfl)
          have hg0 := (iN hp21 (iAT (iN hp19 iDT) (iN hp20 iDT))).1 (eqT (andR hg))
          rw [hp22]
          exact check_ct v vv path pathv a b text value own w K2 (hs.read 0 rfl) (hr11) (hr8) )
      · exact One.loadE (t := 24) (r := 0) (off := 0) (b := fun G => b1) (vs := fun G => [vv]) (arr := fun G => #[vv]) (T := 24) (fr := (0, 0)) (fun G => ⟨by kernel_rfl⟩) (fun G => by kernel_rfl)
      · exact One.callP (v := fun G => .bool p22) (f := 25) (args := fun G => #[.agg #[vv], pathv, .int .i64 a, .int .i64 b, .string text, .int .i64 value, .int .i64 own]) (fun _ _ => by kernel_rfl) (fun G w hs => by
          have hg := gd_of hs (p := (true && (p21 == true))) (by kernel_rfl)
          have hg0 := (iN hp21 (iAT (iN hp19 iDT) (iN hp20 iDT))).1 (eqT (andR hg))
          rw [hp22]
          exact rcheck_ct v vv path pathv a b text value own w K2 (hs.read 0 rfl) (hr11) (hr8) )
      · exact One.eq (congrArg Value.bool ((beqB p22 p22).trans hp23.symm)) (fun _ _ => by kernel_rfl)
      · subst hp24
        cases p21 <;> exact One.under fun _ _ _ => by kernel_rfl
      intro G9 xa xw hDn
      refine hDn.to [20] [] (by kernel_rfl) ?_
      clear hDn
      refine Pre.conv (sl := [(20, .bool p24)]) (A := [K2]) (L := [some (b1, .cells #[vv] 24 (0, 0)), some (b2, .cells #[v2] 24 (0, 0)), some (b3, .cells #[v4] 24 (0, 0))]) ?_ (by kernel_rfl) (by kernel_rfl) (by kernel_rfl)
      clear G9
      refine At.then ?_
      refine W.ret (by kernel_rfl) ?_
      refine At.results (Or.inl rfl) (.bool p24) (fun xa xw hs hw => results_one (r := .tmp 20) (by kernel_rfl) (res_tmp (t := 20) (by kernel_rfl) hs)) (fun w' hw => ?_)
      have e0 : p24 = true := by
        rw [(iN hp24 (iAT (iN hp21 (iAT (iN hp19 iDT) (iN hp20 iDT))) (iN hp23 (iET (iN hp22 iDT) (iN hp22 iDT)))))]; exact ⟨⟨rfl, rfl⟩, Iff.rfl⟩
      exact ⟨congrArg Ending.returned (cong1 (fun (x0 : Bool) => (.bool x0 : Value)) e0), hw.base⟩

end Kb
