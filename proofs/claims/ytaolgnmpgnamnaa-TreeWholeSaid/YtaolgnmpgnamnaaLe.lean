/- Law: whole. -/
import Derived.Test.YtaolgnmpgnamnaaLa
import Derived.Test.YtaolgnmpgnamnaaTs
set_option linter.unusedVariables false
set_option linter.unusedSimpArgs false
namespace Kb
open Go Go.Proofs
theorem mo_le : Try.prog.follows .mixedOrders = true := by kernel_rfl
noncomputable def whole_ct_r4_0 (vv textsv valuesv blindsv : Value) (text : ByteArray) (n : Int) (H : Heaplet) : RC := { ops := opsAt Try.f4 0, B := [0, 0], sl := [(0, .agg #[vv]), (1, textsv), (2, valuesv), (3, blindsv), (4, .string text), (5, .int .i64 n)], A := [H], L := [none, none], cs := [{ val := fun G => .pointer (some ⟨(G 0).b, 0, none⟩), ups := [(0, fun G => some ((G 0).b, .cells #[vv] 24 (0, 0)))] }, { val := fun _ => .bool false }] }
noncomputable def whole_ct_r4_1 (vv textsv valuesv blindsv : Value) (text : ByteArray) (n : Int) (H : Heaplet) (b1 : Nat) : RC := { ops := opsAt Try.f4 1, B := [0, 1], sl := [(1, textsv), (2, valuesv), (3, blindsv), (4, .string text), (5, .int .i64 n), (6, .pointer (some ⟨b1, 0, none⟩))], A := [H], L := [some (b1, .cells #[vv] 24 (0, 0)), none], cs := [{ val := fun _ => .bool true }, { val := fun _ => .bool true }] }
noncomputable def whole_ct_r4_2 (vv textsv valuesv blindsv : Value) (text : ByteArray) (n : Int) (H : Heaplet) (b1 : Nat) (p1 p2 p3 : Bool) (n1 : Int) (p4 p5 : Bool) (n2 : Int) (p6 p7 : Bool) (n3 : Int) (p8 p9 : Bool) : RC := { ops := opsAt Try.f4 2, B := [0, 1, 3, 7, 15, 31, 63, 127, 255, 511, 1023, 2047, 4095, 8191, 16383, 32767, 65535, 131071, 262143, 524287, 1048575, 2097151, 4194303], sl := [(1, textsv), (2, valuesv), (3, blindsv), (4, .string text), (5, .int .i64 n), (6, .pointer (some ⟨b1, 0, none⟩)), (13, .bool true)], A := [H], L := [some (b1, .cells #[vv] 24 (0, 0)), none], cs := [{ val := fun _ => .agg #[vv], rds := [0] }, { val := fun _ => .bool p1 }, { val := fun _ => .bool (!p1) }, { val := fun _ => .bool (!p1) }, { val := fun _ => textsv }, { val := fun _ => .bool p2 }, { val := fun _ => .bool (!p2) }, { val := fun _ => .bool p3 }, { val := fun _ => .bool p3 }, { val := fun _ => valuesv }, { val := fun _ => .int .i64 n1 }, { val := fun _ => .bool p4 }, { val := fun _ => .bool p5 }, { val := fun _ => .bool p5 }, { val := fun _ => blindsv }, { val := fun _ => .int .i64 n2 }, { val := fun _ => .bool p6 }, { val := fun _ => .bool p7 }, { val := fun _ => .bool p7 }, { val := fun _ => .string text }, { val := fun _ => .int .i64 n3 }, { val := fun _ => .bool p8 }, { val := fun _ => .bool p9 }] }
noncomputable def whole_ct_r4_3 (vv textsv valuesv blindsv : Value) (text : ByteArray) (n : Int) (H : Heaplet) (b1 : Nat) (p9 : Bool) : RC := { ops := opsAt Try.f4 3, B := [0, 1], sl := [(1, textsv), (2, valuesv), (3, blindsv), (4, .string text), (5, .int .i64 n), (6, .pointer (some ⟨b1, 0, none⟩)), (13, .bool true), (46, .bool p9)], A := [H], L := [some (b1, .cells #[vv] 24 (0, 0)), none], cs := [{ val := fun _ => .bool true }, { val := fun _ => .bool true }] }
noncomputable def whole_ct_r4_4 (w0 : World) (v : List DThing) (vv textsv valuesv blindsv : Value) (text : ByteArray) (n : Int) (H : Heaplet) (b1 : Nat) (p9 : Bool) (l1 : List DThing) (n4 : Int) (l2 : List Int) (n5 : Int) : RC := { ops := opsAt Try.f4 4, B := [0, 0, 0, 0, 15, 31, 63, 63, 63, 63, 0, 1151, 3327, 7679, 16383], sl := [(1, textsv), (2, valuesv), (3, blindsv), (4, .string text), (5, .int .i64 n), (6, .pointer (some ⟨b1, 0, none⟩)), (13, .bool true), (46, .bool p9)], A := [H], L := [some (b1, .cells #[vv] 24 (0, 0)), none], cs := [{ val := fun _ => .agg #[vv], rds := [0] }, { val := fun _ => textsv }, { val := fun _ => valuesv }, { val := fun _ => blindsv }, { val := fun G => .tuple #[.agg #[(G 4).v], .int .i64 n4, (G 4).v2, .int .i64 n5], fact := fun G => (RSl (hun (G 4).H H) l1 (G 4).v ∧ RSl (hun (G 4).H H) l2 (G 4).v2) ∧ New w0 (G 4).H }, { val := fun G => .tuple #[.agg #[(G 4).v], .int .i64 n4, (G 4).v2, .int .i64 n5] }, { val := fun G => .agg #[(G 4).v] }, { val := fun _ => .int .i64 n4 }, { val := fun G => (G 4).v2 }, { val := fun _ => .int .i64 n5 }, { val := fun G => .pointer (some ⟨(G 10).b, 0, none⟩), ups := [(1, fun G => some ((G 10).b, .cells #[.slice none 0 0] 24 (0, 0)))] }, { val := fun _ => undef, ups := [(1, fun G => some ((G 10).b, .cells #[(G 4).v] 24 (0, 0)))] }, { val := fun _ => .int .i64 n4 }, { val := fun G => (G 4).v2 }, { val := fun _ => .int .i64 n5 }] }
noncomputable def whole_ct_r4_5 (vv textsv valuesv blindsv : Value) (text : ByteArray) (n : Int) (b1 : Nat) (n4 n5 : Int) (b2 : Nat) (v1 v2 : Value) (K1 : Heaplet) (p10 : Bool) : RC := { ops := opsAt Try.f4 5, B := [0, 1], sl := [(1, textsv), (2, valuesv), (3, blindsv), (4, .string text), (5, .int .i64 n), (6, .pointer (some ⟨b1, 0, none⟩)), (13, .bool true), (14, .pointer (some ⟨b2, 0, none⟩)), (15, .int .i64 n4), (16, v1), (17, .int .i64 n5)], A := [K1], L := [some (b1, .cells #[vv] 24 (0, 0)), some (b2, .cells #[v2] 24 (0, 0))], cs := [{ val := fun _ => .int .i64 n5 }, { val := fun _ => .bool p10 }] }
noncomputable def whole_ct_r4_6 (vv textsv valuesv blindsv : Value) (text : ByteArray) (n : Int) (b1 : Nat) (n4 : Int) (b2 : Nat) (v1 v2 : Value) (K1 : Heaplet) (p10 p11 : Bool) (n6 : Int) (p12 p13 : Bool) (n7 : Int) (p14 p15 : Bool) : RC := { ops := opsAt Try.f4 6, B := [0, 1, 3, 7, 15, 31, 63, 127, 255, 511, 1023, 2047, 4095, 8191, 16383, 32767, 65535], sl := [(1, textsv), (2, valuesv), (3, blindsv), (4, .string text), (5, .int .i64 n), (6, .pointer (some ⟨b1, 0, none⟩)), (13, .bool true), (14, .pointer (some ⟨b2, 0, none⟩)), (15, .int .i64 n4), (16, v1), (59, .bool p10)], A := [K1], L := [some (b1, .cells #[vv] 24 (0, 0)), some (b2, .cells #[v2] 24 (0, 0))], cs := [{ val := fun _ => .bool true }, { val := fun _ => .bool true }, { val := fun _ => .int .i64 n4 }, { val := fun _ => .bool p11 }, { val := fun _ => .bool p11 }, { val := fun _ => .bool p11 }, { val := fun _ => v1 }, { val := fun _ => .int .i64 n6 }, { val := fun _ => .bool p12 }, { val := fun _ => .bool p13 }, { val := fun _ => .bool p13 }, { val := fun _ => .pointer (some ⟨b2, 0, none⟩) }, { val := fun _ => v2, rds := [1] }, { val := fun _ => .int .i64 n7 }, { val := fun _ => .bool p14 }, { val := fun _ => .bool p15 }, { val := fun _ => .bool p15 }] }
noncomputable def whole_ct_r4_7 (vv textsv valuesv blindsv : Value) (text : ByteArray) (n : Int) (b1 : Nat) (n4 : Int) (b2 : Nat) (v1 v2 : Value) (K1 : Heaplet) (p10 : Bool) : RC := { ops := opsAt Try.f4 7, B := [0], sl := [(1, textsv), (2, valuesv), (3, blindsv), (4, .string text), (5, .int .i64 n), (6, .pointer (some ⟨b1, 0, none⟩)), (13, .bool true), (14, .pointer (some ⟨b2, 0, none⟩)), (15, .int .i64 n4), (16, v1), (59, .bool p10)], A := [K1], L := [some (b1, .cells #[vv] 24 (0, 0)), some (b2, .cells #[v2] 24 (0, 0))], cs := [{ val := fun _ => .int .i64 0 }] }
noncomputable def whole_ct_r4_8 (vv textsv valuesv blindsv : Value) (text : ByteArray) (n : Int) (b1 : Nat) (n4 : Int) (b2 : Nat) (v1 v2 : Value) (K1 : Heaplet) : RC := { ops := opsAt Try.f4 8, B := [0], sl := [(1, textsv), (2, valuesv), (3, blindsv), (4, .string text), (5, .int .i64 n), (6, .pointer (some ⟨b1, 0, none⟩)), (13, .bool true), (14, .pointer (some ⟨b2, 0, none⟩)), (15, .int .i64 n4), (16, v1), (18, .int .i64 0)], A := [K1], L := [some (b1, .cells #[vv] 24 (0, 0)), some (b2, .cells #[v2] 24 (0, 0))], cs := [{ val := fun _ => .int .i64 0 }] }
noncomputable def whole_ct_r4_9 (vv textsv valuesv blindsv : Value) (text : ByteArray) (n : Int) (b1 : Nat) (n4 : Int) (b2 : Nat) (v1 v2 : Value) (K1 : Heaplet) : RC := { ops := opsAt Try.f4 9, B := [0], sl := [(1, textsv), (2, valuesv), (3, blindsv), (4, .string text), (5, .int .i64 n), (6, .pointer (some ⟨b1, 0, none⟩)), (13, .bool true), (14, .pointer (some ⟨b2, 0, none⟩)), (15, .int .i64 n4), (16, v1), (18, .int .i64 0), (19, .int .i64 0)], A := [K1], L := [some (b1, .cells #[vv] 24 (0, 0)), some (b2, .cells #[v2] 24 (0, 0))], cs := [{ val := fun _ => .int .i64 0 }] }
noncomputable def whole_ct_r4_10 (vv textsv valuesv blindsv : Value) (text : ByteArray) (n : Int) (b1 : Nat) (n1 n2 n4 : Int) (b2 : Nat) (v1 v2 : Value) (K1 : Heaplet) (sum all i : Int) (p16 p17 p18 : Bool) : RC := { ops := opsAt Try.f4 10, B := [0, 0, 2, 7, 15, 31, 31, 95, 255, 511], sl := [(1, textsv), (2, valuesv), (3, blindsv), (4, .string text), (5, .int .i64 n), (6, .pointer (some ⟨b1, 0, none⟩)), (13, .bool true), (14, .pointer (some ⟨b2, 0, none⟩)), (15, .int .i64 n4), (16, v1), (18, .int .i64 sum), (19, .int .i64 all), (20, .int .i64 i)], A := [K1], L := [some (b1, .cells #[vv] 24 (0, 0)), some (b2, .cells #[v2] 24 (0, 0))], cs := [{ val := fun _ => .int .i64 i }, { val := fun _ => valuesv }, { val := fun _ => .int .i64 n1 }, { val := fun _ => .bool p16 }, { val := fun _ => .bool p16 }, { val := fun _ => .int .i64 i }, { val := fun _ => blindsv }, { val := fun _ => .int .i64 n2 }, { val := fun _ => .bool p17 }, { val := fun _ => .bool p18 }] }
noncomputable def whole_ct_r4_11 (vv textsv valuesv blindsv : Value) (text : ByteArray) (n : Int) (b1 : Nat) (n4 : Int) (b2 : Nat) (v1 v2 : Value) (K1 : Heaplet) (sum all i : Int) (p18 : Bool) (n8 n9 : Int) : RC := { ops := opsAt Try.f4 12, B := [0, 0, 0, 6, 14, 31, 63], sl := [(1, textsv), (2, valuesv), (3, blindsv), (4, .string text), (5, .int .i64 n), (6, .pointer (some ⟨b1, 0, none⟩)), (13, .bool true), (14, .pointer (some ⟨b2, 0, none⟩)), (15, .int .i64 n4), (16, v1), (18, .int .i64 sum), (19, .int .i64 all), (20, .int .i64 i), (85, .bool p18)], A := [K1], L := [some (b1, .cells #[vv] 24 (0, 0)), some (b2, .cells #[v2] 24 (0, 0))], cs := [{ val := fun _ => .int .i64 sum }, { val := fun _ => valuesv }, { val := fun _ => .int .i64 i }, { val := fun _ => .pointer (some (elemAddr valuesv (i.toNat * 1))) }, { val := fun _ => .int .i64 n8 }, { val := fun _ => .int .i64 n9 }, { val := fun _ => .int .i64 n9 }] }
noncomputable def whole_ct_r4_12 (vv textsv valuesv blindsv : Value) (text : ByteArray) (n : Int) (b1 : Nat) (n4 : Int) (b2 : Nat) (v1 v2 : Value) (K1 : Heaplet) (all i n9 n10 n11 : Int) : RC := { ops := opsAt Try.f4 13, B := [0, 0, 0, 6, 14, 31, 63], sl := [(1, textsv), (2, valuesv), (3, blindsv), (4, .string text), (5, .int .i64 n), (6, .pointer (some ⟨b1, 0, none⟩)), (13, .bool true), (14, .pointer (some ⟨b2, 0, none⟩)), (15, .int .i64 n4), (16, v1), (18, .int .i64 n9), (19, .int .i64 all), (20, .int .i64 i)], A := [K1], L := [some (b1, .cells #[vv] 24 (0, 0)), some (b2, .cells #[v2] 24 (0, 0))], cs := [{ val := fun _ => .int .i64 all }, { val := fun _ => blindsv }, { val := fun _ => .int .i64 i }, { val := fun _ => .pointer (some (elemAddr blindsv (i.toNat * 1))) }, { val := fun _ => .int .i64 n10 }, { val := fun _ => .int .i64 n11 }, { val := fun _ => .int .i64 n11 }] }
noncomputable def whole_ct_r4_13 (vv textsv valuesv blindsv : Value) (text : ByteArray) (n : Int) (b1 : Nat) (n4 : Int) (b2 : Nat) (v1 v2 : Value) (K1 : Heaplet) (i n9 n11 n12 : Int) : RC := { ops := opsAt Try.f4 11, B := [0, 1, 3], sl := [(1, textsv), (2, valuesv), (3, blindsv), (4, .string text), (5, .int .i64 n), (6, .pointer (some ⟨b1, 0, none⟩)), (13, .bool true), (14, .pointer (some ⟨b2, 0, none⟩)), (15, .int .i64 n4), (16, v1), (18, .int .i64 n9), (19, .int .i64 n11), (20, .int .i64 i)], A := [K1], L := [some (b1, .cells #[vv] 24 (0, 0)), some (b2, .cells #[v2] 24 (0, 0))], cs := [{ val := fun _ => .int .i64 i }, { val := fun _ => .int .i64 n12 }, { val := fun _ => .int .i64 n12 }] }
noncomputable def whole_ct_r4_14 (vv textsv valuesv blindsv : Value) (text : ByteArray) (n : Int) (b1 : Nat) (n1 n2 n4 : Int) (b2 : Nat) (v1 v2 : Value) (K1 : Heaplet) (sum all i : Int) (p18 p19 : Bool) (n13 : Int) (p20 p21 p22 p23 : Bool) (n14 : Int) (p24 p25 : Bool) (n15 n16 n17 n18 n19 : Int) (p26 p27 : Bool) : RC := { ops := opsAt Try.f4 14, B := [0, 1, 3, 7, 15, 31, 15, 79, 255, 511, 1023, 2047, 4095, 2047, 10239, 32767, 65535, 131071, 262143, 524287, 262143, 1310719, 4194303, 8388607, 16777215, 33554431, 67108863, 134217727, 33554431, 301989887, 838860799, 33554431, 2181038079, 6476005375, 16944988159, 34124857343, 68719476735, 137438953471], sl := [(1, textsv), (2, valuesv), (3, blindsv), (4, .string text), (5, .int .i64 n), (6, .pointer (some ⟨b1, 0, none⟩)), (13, .bool true), (14, .pointer (some ⟨b2, 0, none⟩)), (15, .int .i64 n4), (16, v1), (18, .int .i64 sum), (19, .int .i64 all), (20, .int .i64 i), (85, .bool p18)], A := [K1], L := [some (b1, .cells #[vv] 24 (0, 0)), some (b2, .cells #[v2] 24 (0, 0))], cs := [{ val := fun _ => .agg #[v2], rds := [1] }, { val := fun _ => .bool p19 }, { val := fun _ => .bool (!p19) }, { val := fun _ => .bool (!p19) }, { val := fun _ => valuesv }, { val := fun _ => .int .i64 n1 }, { val := fun _ => textsv }, { val := fun _ => .int .i64 n13 }, { val := fun _ => .bool p20 }, { val := fun _ => .bool p21 }, { val := fun _ => .bool p21 }, { val := fun _ => blindsv }, { val := fun _ => .int .i64 n2 }, { val := fun _ => textsv }, { val := fun _ => .int .i64 n13 }, { val := fun _ => .bool p22 }, { val := fun _ => .bool p23 }, { val := fun _ => .bool p23 }, { val := fun _ => v1 }, { val := fun _ => .int .i64 n14 }, { val := fun _ => textsv }, { val := fun _ => .int .i64 n13 }, { val := fun _ => .bool p24 }, { val := fun _ => .bool p25 }, { val := fun _ => .bool p25 }, { val := fun _ => .pointer (some ⟨b2, 0, none⟩) }, { val := fun _ => v2, rds := [1] }, { val := fun _ => .int .i64 n15 }, { val := fun _ => .pointer (some ⟨b1, 0, none⟩) }, { val := fun _ => vv, rds := [0] }, { val := fun _ => .int .i64 n16 }, { val := fun _ => textsv }, { val := fun _ => .int .i64 n13 }, { val := fun _ => .int .i64 n17 }, { val := fun _ => .int .i64 n18 }, { val := fun _ => .int .i64 n19 }, { val := fun _ => .bool p26 }, { val := fun _ => .bool p27 }] }
noncomputable def whole_ct_r4_15 (vv textsv valuesv blindsv : Value) (text : ByteArray) (n : Int) (b1 : Nat) (n4 : Int) (b2 : Nat) (v1 v2 : Value) (K1 : Heaplet) (sum all n16 : Int) (p27 p28 : Bool) : RC := { ops := opsAt Try.f4 16, B := [0, 1, 0, 4, 12, 31, 0, 64, 255, 511], sl := [(1, textsv), (2, valuesv), (3, blindsv), (4, .string text), (5, .int .i64 n), (6, .pointer (some ⟨b1, 0, none⟩)), (13, .bool true), (14, .pointer (some ⟨b2, 0, none⟩)), (15, .int .i64 n4), (16, v1), (18, .int .i64 sum), (19, .int .i64 all), (137, .bool p27)], A := [K1], L := [some (b1, .cells #[vv] 24 (0, 0)), some (b2, .cells #[v2] 24 (0, 0))], cs := [{ val := fun _ => .pointer (some ⟨b2, 0, none⟩) }, { val := fun _ => v2, rds := [1] }, { val := fun _ => .pointer (some ⟨b1, 0, none⟩) }, { val := fun _ => vv, rds := [0] }, { val := fun _ => .int .i64 n16 }, { val := fun _ => (subV v2 5 (Int.toNat 0) (Int.toNat n16)) }, { val := fun _ => .pointer (some ⟨b1, 0, none⟩) }, { val := fun _ => vv, rds := [0] }, { val := fun _ => .bool p28 }, { val := fun _ => .bool (!p28) }] }
noncomputable def whole_ct_r4_16 (vv textsv valuesv blindsv : Value) (text : ByteArray) (n : Int) (b1 : Nat) (n4 : Int) (b2 : Nat) (v1 v2 : Value) (K1 : Heaplet) (sum all : Int) (p28 : Bool) : RC := { ops := opsAt Try.f4 18, B := [0], sl := [(1, textsv), (2, valuesv), (3, blindsv), (4, .string text), (5, .int .i64 n), (13, .bool true), (14, .pointer (some ⟨b2, 0, none⟩)), (15, .int .i64 n4), (16, v1), (18, .int .i64 sum), (19, .int .i64 all), (147, .bool (!p28))], A := [K1], L := [some (b1, .cells #[vv] 24 (0, 0)), some (b2, .cells #[v2] 24 (0, 0))], cs := [{ val := fun _ => .int .i64 0 }] }
noncomputable def whole_ct_r4_17 (vv textsv valuesv blindsv : Value) (text : ByteArray) (n : Int) (b1 : Nat) (n4 : Int) (b2 : Nat) (v1 v2 : Value) (sum all n13 : Int) (K2 : Heaplet) (i_1 : Int) (p29 : Bool) : RC := { ops := opsAt Try.f4 19, B := [0, 0, 2, 7], sl := [(1, textsv), (2, valuesv), (3, blindsv), (4, .string text), (5, .int .i64 n), (13, .bool true), (14, .pointer (some ⟨b2, 0, none⟩)), (15, .int .i64 n4), (16, v1), (18, .int .i64 sum), (19, .int .i64 all), (21, .int .i64 i_1)], A := [K2], L := [some (b1, .cells #[vv] 24 (0, 0)), some (b2, .cells #[v2] 24 (0, 0))], cs := [{ val := fun _ => .int .i64 i_1 }, { val := fun _ => textsv }, { val := fun _ => .int .i64 n13 }, { val := fun _ => .bool p29 }] }
noncomputable def whole_ct_r4_18 (w0 : World) (v : List DThing) (vv textsv valuesv blindsv : Value) (text : ByteArray) (n : Int) (H : Heaplet) (b1 : Nat) (n4 : Int) (b2 : Nat) (v1 v2 : Value) (sum all : Int) (K2 : Heaplet) (i_1 : Int) (p29 : Bool) (n20 : Int) (l3 : List Int) : RC := { ops := opsAt Try.f4 21, B := [0, 0, 0, 0, 12, 28, 63, 127], sl := [(1, textsv), (2, valuesv), (3, blindsv), (4, .string text), (5, .int .i64 n), (13, .bool true), (14, .pointer (some ⟨b2, 0, none⟩)), (15, .int .i64 n4), (16, v1), (18, .int .i64 sum), (19, .int .i64 all), (21, .int .i64 i_1), (151, .bool p29)], A := [K2], L := [some (b1, .cells #[vv] 24 (0, 0)), some (b2, .cells #[v2] 24 (0, 0))], cs := [{ val := fun _ => .agg #[v2], rds := [1] }, { val := fun _ => .int .i64 n4 }, { val := fun _ => v1 }, { val := fun _ => .int .i64 i_1 }, { val := fun _ => .pointer (some (elemAddr v1 (i_1.toNat * 1))) }, { val := fun _ => .int .i64 n20 }, { val := fun G => (G 6).v, fact := fun G => (RSl (hun (G 6).H K2) l3 (G 6).v) ∧ New w0 (G 6).H }, { val := fun G => (G 6).v }] }
noncomputable def whole_ct_r4_19 (vv textsv valuesv blindsv : Value) (text : ByteArray) (n : Int) (b1 : Nat) (n4 : Int) (b2 : Nat) (v1 v2 : Value) (sum all i_1 n20 : Int) (v3 : Value) (K3 : Heaplet) (s1 : ByteArray) (n21 n22 : Int) (p30 p31 p32 : Bool) : RC := { ops := opsAt Try.f4 22, B := [0, 0, 0, 0, 0, 0, 48, 112, 0, 0, 768, 1792, 0, 0, 12288, 28672, 65535, 131071, 262143, 524287, 524287, 524287, 3670015, 7864319, 524287, 524287, 50855935, 117964799, 524287, 524287, 805830655, 1879572479, 524287, 524287, 12885426175, 30065295359, 68719476735, 137438953471, 274877906943], sl := [(1, textsv), (2, valuesv), (3, blindsv), (4, .string text), (5, .int .i64 n), (13, .bool true), (14, .pointer (some ⟨b2, 0, none⟩)), (15, .int .i64 n4), (16, v1), (18, .int .i64 sum), (19, .int .i64 all), (21, .int .i64 i_1), (22, v3)], A := [K3], L := [some (b1, .cells #[vv] 24 (0, 0)), some (b2, .cells #[v2] 24 (0, 0))], cs := [{ val := fun _ => .agg #[v2], rds := [1] }, { val := fun _ => v3 }, { val := fun _ => .int .i64 sum }, { val := fun _ => .int .i64 all }, { val := fun _ => textsv }, { val := fun _ => .int .i64 i_1 }, { val := fun _ => .pointer (some (elemAddr textsv (i_1.toNat * 1))) }, { val := fun _ => .string s1 }, { val := fun _ => valuesv }, { val := fun _ => .int .i64 i_1 }, { val := fun _ => .pointer (some (elemAddr valuesv (i_1.toNat * 1))) }, { val := fun _ => .int .i64 n21 }, { val := fun _ => blindsv }, { val := fun _ => .int .i64 i_1 }, { val := fun _ => .pointer (some (elemAddr blindsv (i_1.toNat * 1))) }, { val := fun _ => .int .i64 n22 }, { val := fun _ => .bool p30 }, { val := fun _ => .bool (!p30) }, { val := fun _ => .bool (!p30) }, { val := fun _ => .agg #[v2], rds := [1] }, { val := fun _ => v1 }, { val := fun _ => .int .i64 i_1 }, { val := fun _ => .pointer (some (elemAddr v1 (i_1.toNat * 1))) }, { val := fun _ => .int .i64 n20 }, { val := fun _ => textsv }, { val := fun _ => .int .i64 i_1 }, { val := fun _ => .pointer (some (elemAddr textsv (i_1.toNat * 1))) }, { val := fun _ => .string s1 }, { val := fun _ => valuesv }, { val := fun _ => .int .i64 i_1 }, { val := fun _ => .pointer (some (elemAddr valuesv (i_1.toNat * 1))) }, { val := fun _ => .int .i64 n21 }, { val := fun _ => blindsv }, { val := fun _ => .int .i64 i_1 }, { val := fun _ => .pointer (some (elemAddr blindsv (i_1.toNat * 1))) }, { val := fun _ => .int .i64 n22 }, { val := fun _ => .bool p31 }, { val := fun _ => .bool (!p31) }, { val := fun _ => .bool p32 }] }
noncomputable def whole_ct_r4_20 (vv textsv valuesv blindsv : Value) (text : ByteArray) (n : Int) (b1 : Nat) (n4 : Int) (b2 : Nat) (v1 v2 : Value) (sum all i_1 : Int) (v3 : Value) (K3 : Heaplet) (s1 : ByteArray) (n21 n22 : Int) (p32 p33 p34 p35 p36 p37 p38 p39 p40 p41 p42 p43 : Bool) : RC := { ops := opsAt Try.f4 24, B := [0, 0, 0, 6, 14, 31, 63, 127, 127, 127, 127, 127, 127, 127, 12415, 28799, 127, 127, 196735, 458879, 1048575, 2097151, 4194303, 8388607, 8388607, 8388607, 58720255, 125829119, 268435455, 536870911, 1073741823, 1073741823, 1073741823, 1073741823, 1073741823, 1073741823, 52613349375, 121332826111, 1073741823, 1073741823, 1073741823, 1650341183487, 3849364439039, 8796093022207, 17592186044415, 35184372088831, 70368744177663, 140737488355327, 140737488355327, 140737488355327, 985162418487295, 2111062325329919, 4503599627370495, 9007199254740991, 18014398509481983, 18014398509481983, 18014398509481983, 18014398509481983, 18014398509481983, 18014398509481983, 882705526964617215, 2035627031571464191, 18014398509481983, 18014398509481983, 13853072453791645695, 32299816527501197311, 18014398509481983, 147573952589676412927, 295147905179352825855, 590295810358705651711], sl := [(1, textsv), (2, valuesv), (3, blindsv), (4, .string text), (5, .int .i64 n), (13, .bool true), (14, .pointer (some ⟨b2, 0, none⟩)), (15, .int .i64 n4), (16, v1), (18, .int .i64 sum), (19, .int .i64 all), (21, .int .i64 i_1), (22, v3), (199, .bool p32)], A := [K3], L := [some (b1, .cells #[vv] 24 (0, 0)), some (b2, .cells #[v2] 24 (0, 0))], cs := [{ val := fun _ => .string text }, { val := fun _ => textsv }, { val := fun _ => .int .i64 i_1 }, { val := fun _ => .pointer (some (elemAddr textsv (i_1.toNat * 1))) }, { val := fun _ => .string s1 }, { val := fun _ => .bool p33 }, { val := fun _ => .bool p33 }, { val := fun _ => .agg #[v2], rds := [1] }, { val := fun _ => v3 }, { val := fun _ => .int .i64 sum }, { val := fun _ => .int .i64 all }, { val := fun _ => .string text }, { val := fun _ => valuesv }, { val := fun _ => .int .i64 i_1 }, { val := fun _ => .pointer (some (elemAddr valuesv (i_1.toNat * 1))) }, { val := fun _ => .int .i64 n21 }, { val := fun _ => blindsv }, { val := fun _ => .int .i64 i_1 }, { val := fun _ => .pointer (some (elemAddr blindsv (i_1.toNat * 1))) }, { val := fun _ => .int .i64 n22 }, { val := fun _ => .bool p34 }, { val := fun _ => .bool p35 }, { val := fun _ => .bool p35 }, { val := fun _ => .int .i64 n }, { val := fun _ => valuesv }, { val := fun _ => .int .i64 i_1 }, { val := fun _ => .pointer (some (elemAddr valuesv (i_1.toNat * 1))) }, { val := fun _ => .int .i64 n21 }, { val := fun _ => .bool p36 }, { val := fun _ => .bool p36 }, { val := fun _ => .agg #[v2], rds := [1] }, { val := fun _ => v3 }, { val := fun _ => .int .i64 sum }, { val := fun _ => .int .i64 all }, { val := fun _ => textsv }, { val := fun _ => .int .i64 i_1 }, { val := fun _ => .pointer (some (elemAddr textsv (i_1.toNat * 1))) }, { val := fun _ => .string s1 }, { val := fun _ => .int .i64 n }, { val := fun _ => blindsv }, { val := fun _ => .int .i64 i_1 }, { val := fun _ => .pointer (some (elemAddr blindsv (i_1.toNat * 1))) }, { val := fun _ => .int .i64 n22 }, { val := fun _ => .bool p37 }, { val := fun _ => .bool p38 }, { val := fun _ => .bool p39 }, { val := fun _ => .bool p39 }, { val := fun _ => .int .i64 n }, { val := fun _ => blindsv }, { val := fun _ => .int .i64 i_1 }, { val := fun _ => .pointer (some (elemAddr blindsv (i_1.toNat * 1))) }, { val := fun _ => .int .i64 n22 }, { val := fun _ => .bool p40 }, { val := fun _ => .bool p40 }, { val := fun _ => .agg #[v2], rds := [1] }, { val := fun _ => v3 }, { val := fun _ => .int .i64 sum }, { val := fun _ => .int .i64 all }, { val := fun _ => textsv }, { val := fun _ => .int .i64 i_1 }, { val := fun _ => .pointer (some (elemAddr textsv (i_1.toNat * 1))) }, { val := fun _ => .string s1 }, { val := fun _ => valuesv }, { val := fun _ => .int .i64 i_1 }, { val := fun _ => .pointer (some (elemAddr valuesv (i_1.toNat * 1))) }, { val := fun _ => .int .i64 n21 }, { val := fun _ => .int .i64 n }, { val := fun _ => .bool p41 }, { val := fun _ => .bool p42 }, { val := fun _ => .bool p43 }] }
noncomputable def whole_ct_r4_21 (vv textsv valuesv blindsv : Value) (text : ByteArray) (n : Int) (b1 : Nat) (n4 : Int) (b2 : Nat) (v1 v2 : Value) (sum all i_1 : Int) (v3 : Value) (K3 : Heaplet) (s1 : ByteArray) (n21 n22 : Int) (p43 p44 p45 p46 p47 p48 p49 p50 : Bool) : RC := { ops := opsAt Try.f4 26, B := [0, 0, 3, 7, 15, 15, 15, 15, 15, 15, 783, 1807, 15, 15, 12303, 28687, 15, 15, 196623, 458767, 1048575, 2097151, 4194303, 8388607, 8388607, 33554431, 67108863, 134217727, 134217727, 134217727, 134217727, 134217727, 134217727, 6576668671, 15166603263, 134217727, 134217727, 103213432831, 240652386303, 134217727, 134217727, 1649401659391, 3848424914943, 8796093022207, 17592186044415, 35184372088831], sl := [(1, textsv), (2, valuesv), (3, blindsv), (4, .string text), (5, .int .i64 n), (13, .bool true), (14, .pointer (some ⟨b2, 0, none⟩)), (15, .int .i64 n4), (16, v1), (18, .int .i64 sum), (19, .int .i64 all), (21, .int .i64 i_1), (22, v3), (269, .bool p43)], A := [K3], L := [some (b1, .cells #[vv] 24 (0, 0)), some (b2, .cells #[v2] 24 (0, 0))], cs := [{ val := fun _ => .int .i64 n }, { val := fun _ => .int .i64 sum }, { val := fun _ => .bool p44 }, { val := fun _ => .bool p44 }, { val := fun _ => .agg #[v2], rds := [1] }, { val := fun _ => v3 }, { val := fun _ => .int .i64 n }, { val := fun _ => .int .i64 all }, { val := fun _ => textsv }, { val := fun _ => .int .i64 i_1 }, { val := fun _ => .pointer (some (elemAddr textsv (i_1.toNat * 1))) }, { val := fun _ => .string s1 }, { val := fun _ => valuesv }, { val := fun _ => .int .i64 i_1 }, { val := fun _ => .pointer (some (elemAddr valuesv (i_1.toNat * 1))) }, { val := fun _ => .int .i64 n21 }, { val := fun _ => blindsv }, { val := fun _ => .int .i64 i_1 }, { val := fun _ => .pointer (some (elemAddr blindsv (i_1.toNat * 1))) }, { val := fun _ => .int .i64 n22 }, { val := fun _ => .bool p45 }, { val := fun _ => .bool p46 }, { val := fun _ => .bool p46 }, { val := fun _ => .int .i64 n }, { val := fun _ => .int .i64 all }, { val := fun _ => .bool p47 }, { val := fun _ => .bool p47 }, { val := fun _ => .agg #[v2], rds := [1] }, { val := fun _ => v3 }, { val := fun _ => .int .i64 sum }, { val := fun _ => .int .i64 n }, { val := fun _ => textsv }, { val := fun _ => .int .i64 i_1 }, { val := fun _ => .pointer (some (elemAddr textsv (i_1.toNat * 1))) }, { val := fun _ => .string s1 }, { val := fun _ => valuesv }, { val := fun _ => .int .i64 i_1 }, { val := fun _ => .pointer (some (elemAddr valuesv (i_1.toNat * 1))) }, { val := fun _ => .int .i64 n21 }, { val := fun _ => blindsv }, { val := fun _ => .int .i64 i_1 }, { val := fun _ => .pointer (some (elemAddr blindsv (i_1.toNat * 1))) }, { val := fun _ => .int .i64 n22 }, { val := fun _ => .bool p48 }, { val := fun _ => .bool p49 }, { val := fun _ => .bool p50 }] }
noncomputable def whole_ct_r4_22 (vv textsv valuesv blindsv : Value) (text : ByteArray) (n : Int) (b1 : Nat) (n4 : Int) (b2 : Nat) (v1 v2 : Value) (sum all i_1 : Int) (K3 : Heaplet) (p50 : Bool) (n23 : Int) : RC := { ops := opsAt Try.f4 20, B := [0, 1, 3], sl := [(1, textsv), (2, valuesv), (3, blindsv), (4, .string text), (5, .int .i64 n), (13, .bool true), (14, .pointer (some ⟨b2, 0, none⟩)), (15, .int .i64 n4), (16, v1), (18, .int .i64 sum), (19, .int .i64 all), (21, .int .i64 i_1), (315, .bool p50)], A := [K3], L := [some (b1, .cells #[vv] 24 (0, 0)), some (b2, .cells #[v2] 24 (0, 0))], cs := [{ val := fun _ => .int .i64 i_1 }, { val := fun _ => .int .i64 n23 }, { val := fun _ => .int .i64 n23 }] }
noncomputable def whole_ct_r4_23 (vv textsv valuesv blindsv : Value) (text : ByteArray) (n : Int) (b1 : Nat) (n4 : Int) (b2 : Nat) (v1 v2 : Value) (sum all : Int) (K2 : Heaplet) (i_1 : Int) (p29 : Bool) : RC := { ops := opsAt Try.f4 28, B := [0, 1], sl := [(1, textsv), (2, valuesv), (3, blindsv), (4, .string text), (5, .int .i64 n), (13, .bool true), (14, .pointer (some ⟨b2, 0, none⟩)), (15, .int .i64 n4), (16, v1), (18, .int .i64 sum), (19, .int .i64 all), (21, .int .i64 i_1), (151, .bool p29)], A := [K2], L := [some (b1, .cells #[vv] 24 (0, 0)), some (b2, .cells #[v2] 24 (0, 0))], cs := [{ val := fun _ => .bool true }, { val := fun _ => .bool true }] }
set_option maxRecDepth 10000 in
set_option maxHeartbeats 1000000 in
theorem whole_ct (v : List DThing) (vv : Value) (texts : List ByteArray) (textsv : Value) (values : List Int) (valuesv : Value) (blinds : List Int) (blindsv : Value) (text : ByteArray) (n : Int) (w0 : World) (H : Heaplet) (hA : Agrees w0 H) (hv : RSl H v vv) (htexts : RSl H texts textsv) (hvalues : RSl H values valuesv) (hblinds : RSl H blinds blindsv) :
    Calls Try.prog 4 #[.agg #[vv], textsv, valuesv, blindsv, .string text, .int .i64 n] w0 (fun e w' => e = .returned (.bool true) ∧ Base [] w0 w') := by
  have hE : Ext w0 H H := Ext.refl w0 H
  have hvn := hv.lim
  have htextsn := htexts.lim
  have hvaluesn := hvalues.lim
  have hblindsn := hblinds.lim
  refine calls_of_W (sl := [(0, .agg #[vv]), (1, textsv), (2, valuesv), (3, blindsv), (4, .string text), (5, .int .i64 n)]) (A := [H]) (L := [none, none]) Try.func4 (by kernel_rfl) 317 (by kernel_rfl) (by kernel_rfl) (fun J hJ => by simp at hJ; subst hJ; exact hA) (by simp) ?_
  refine W.seq (by kernel_rfl) ?_
  refine W.regV (whole_ct_r4_0 vv textsv valuesv blindsv text n H) [1] [0] (fun G => [.bool false]) (by kernel_rfl) mo_le (by kernel_rfl) (fun _ _ => by kernel_rfl) ⟨?_, trivial⟩ (by kernel_rfl) ?_
  · exact One.new (r := 0) (T := 24) (fun b => .pointer (some ⟨b, 0, none⟩)) (arr := fun G => #[vv]) (fun G w => by kernel_rfl) (fun G b => by kernel_rfl)
  intro G1 xa xw hDn
  refine hDn.to [1, 2, 3, 4, 5, 6] [] (by kernel_rfl) ?_
  clear hDn
  refine Pre.conv (sl := [(1, textsv), (2, valuesv), (3, blindsv), (4, .string text), (5, .int .i64 n), (6, .pointer (some ⟨(G1 0).b, 0, none⟩))]) (A := [H]) (L := [some ((G1 0).b, .cells #[vv] 24 (0, 0)), none]) ?_ (by kernel_rfl) (by kernel_rfl) (by kernel_rfl)
  generalize (G1 0).b = b1 at ⊢
  clear G1
  refine At.then ?_
  refine W.seq (by kernel_rfl) ?_
  refine W.regV (whole_ct_r4_1 vv textsv valuesv blindsv text n H b1) [1] [0] (fun G => [.bool true]) (by kernel_rfl) mo_le (by kernel_rfl) (fun _ _ => by kernel_rfl) ⟨?_, trivial⟩ (by kernel_rfl) ?_
  · exact One.callP (v := fun G => .bool true) (f := 13) (args := fun G => #[]) (fun _ _ => by kernel_rfl) (fun G w hs => sane_ct  w H (hs.read 0 rfl)  )
  intro G2 xa xw hDn
  refine hDn.to [1, 2, 3, 4, 5, 6, 13] [] (by kernel_rfl) ?_
  clear hDn
  refine Pre.conv (sl := [(1, textsv), (2, valuesv), (3, blindsv), (4, .string text), (5, .int .i64 n), (6, .pointer (some ⟨b1, 0, none⟩)), (13, .bool true)]) (A := [H]) (L := [some (b1, .cells #[vv] 24 (0, 0)), none]) ?_ (by kernel_rfl) (by kernel_rfl) (by kernel_rfl)
  clear G2
  refine At.then ?_
  refine W.seq (by kernel_rfl) ?_
  refine W.seq (by kernel_rfl) ?_
  obtain ⟨p1, hp1⟩ : ∃ zz : Bool, zz = (decide (Tm.fewP v 100)) := ⟨_, rfl⟩
  obtain ⟨p2, hp2⟩ : ∃ zz : Bool, zz = (decide (Tm.fewS texts 64)) := ⟨_, rfl⟩
  obtain ⟨p3, hp3⟩ : ∃ zz : Bool, zz = (!p1 || !p2) := ⟨_, rfl⟩
  obtain ⟨n1, hn1⟩ : ∃ zz : Int, zz = (values.length : Int) := ⟨_, rfl⟩
  obtain ⟨p4, hp4⟩ : ∃ zz : Bool, zz = decide (70 < n1) := ⟨_, rfl⟩
  obtain ⟨p5, hp5⟩ : ∃ zz : Bool, zz = (p3 || p4) := ⟨_, rfl⟩
  obtain ⟨n2, hn2⟩ : ∃ zz : Int, zz = (blinds.length : Int) := ⟨_, rfl⟩
  obtain ⟨p6, hp6⟩ : ∃ zz : Bool, zz = decide (70 < n2) := ⟨_, rfl⟩
  obtain ⟨p7, hp7⟩ : ∃ zz : Bool, zz = (p5 || p6) := ⟨_, rfl⟩
  obtain ⟨n3, hn3⟩ : ∃ zz : Int, zz = (text.size : Int) := ⟨_, rfl⟩
  obtain ⟨p8, hp8⟩ : ∃ zz : Bool, zz = decide (100 < n3) := ⟨_, rfl⟩
  obtain ⟨p9, hp9⟩ : ∃ zz : Bool, zz = (p7 || p8) := ⟨_, rfl⟩
  refine W.regV (whole_ct_r4_2 vv textsv valuesv blindsv text n H b1 p1 p2 p3 n1 p4 p5 n2 p6 p7 n3 p8 p9) [2, 3, 4, 6, 8, 9, 13, 14, 18, 19] [0, 1, 5, 7, 10, 11, 12, 15, 16, 17, 20, 21, 22] (fun G => [.bool (!p1), .bool (!p1), textsv, .bool (!p2), .bool p3, valuesv, .bool p5, blindsv, .bool p7, .string text]) (by kernel_rfl) mo_le (by kernel_rfl) (fun _ _ => by kernel_rfl) ⟨?_, ?_, ?_, ?_, ?_, ?_, ?_, ?_, ?_, ?_, ?_, ?_, ?_, trivial⟩ (by kernel_rfl) ?_
  · exact One.loadE (t := 24) (r := 0) (off := 0) (b := fun G => b1) (vs := fun G => [vv]) (arr := fun G => #[vv]) (T := 24) (fr := (0, 0)) (fun G => ⟨by kernel_rfl⟩) (fun G => by kernel_rfl)
  · exact One.callP (v := fun G => .bool p1) (f := 14) (args := fun G => #[.agg #[vv], .int .i64 100]) (fun _ _ => by kernel_rfl) (fun G w hs => by
      rw [hp1]
      exact fewv_ct v vv 100 w H (hs.read 0 rfl) (hv) )
  · exact One.callP (v := fun G => .bool p2) (f := 15) (args := fun G => #[textsv, .int .i64 64]) (fun _ _ => by kernel_rfl) (fun G w hs => by
      have hg := gd_of hs (p := (true && ((!p1) == false))) (by kernel_rfl)
      have hg0 := (iNF (iN hp1 iDT)).1 (eqF (andR hg))
      rw [hp2]
      exact fews_ct texts textsv 64 w H (hs.read 0 rfl) (htexts) )
  · subst hp3
    cases p1 <;> exact One.under fun _ _ _ => by kernel_rfl
  · exact One.len (t := 26) (n := n1) (v := fun G => valuesv) (fun _ => ⟨by kernel_rfl⟩) (fun G w hs => by
      have hg := gd_of hs (p := (true && (p3 == false))) (by kernel_rfl)
      have hg0 := (iN hp3 (iOF (iNF (iN hp1 iDT)) (iNF (iN hp2 iDT)))).1 (eqF (andR hg))
      exact ⟨_, (hvalues).isSl, hn1⟩)
  · exact One.bo hp4 (fun _ _ => by kernel_rfl)
  · subst hp5
    cases p3 <;> exact One.under fun _ _ _ => by kernel_rfl
  · exact One.len (t := 26) (n := n2) (v := fun G => blindsv) (fun _ => ⟨by kernel_rfl⟩) (fun G w hs => by
      have hg := gd_of hs (p := (true && (p5 == false))) (by kernel_rfl)
      have hg0 := (iN hp5 (iOF (iN hp3 (iOF (iNF (iN hp1 iDT)) (iNF (iN hp2 iDT)))) (iN hp4 iDF))).1 (eqF (andR hg))
      exact ⟨_, (hblinds).isSl, hn2⟩)
  · exact One.bo hp6 (fun _ _ => by kernel_rfl)
  · subst hp7
    cases p5 <;> exact One.under fun _ _ _ => by kernel_rfl
  · exact One.eq (congrArg (Value.int .i64) hn3.symm) (fun _ _ => by kernel_rfl)
  · exact One.bo hp8 (fun _ _ => by kernel_rfl)
  · subst hp9
    cases p7 <;> exact One.under fun _ _ _ => by kernel_rfl
  intro G3 xa xw hDn
  refine hDn.to [1, 2, 3, 4, 5, 6, 13, 46] [] (by kernel_rfl) ?_
  clear hDn
  refine Pre.conv (sl := [(1, textsv), (2, valuesv), (3, blindsv), (4, .string text), (5, .int .i64 n), (6, .pointer (some ⟨b1, 0, none⟩)), (13, .bool true), (46, .bool p9)]) (A := [H]) (L := [some (b1, .cells #[vv] 24 (0, 0)), none]) ?_ (by kernel_rfl) (by kernel_rfl) (by kernel_rfl)
  clear G3
  refine At.then ?_
  refine W.cond p9 (by kernel_rfl) (fun xa hs => cnd_of (t := 46) (by kernel_rfl) (by kernel_rfl) hs) (fun hq => ?_) (fun hq => ?_)
  · skip
    have hq1 := hq
    replace hq1 := (iN hp9 (iOT (iN hp7 (iOT (iN hp5 (iOT (iN hp3 (iOT (iNT (iN hp1 iDF)) (iNT (iN hp2 iDF)))) (iN hp4 iDT))) (iN hp6 iDT))) (iN hp8 iDT))).1 hq1
    refine W.seq (by kernel_rfl) ?_
    refine W.regV (whole_ct_r4_3 vv textsv valuesv blindsv text n H b1 p9) [0, 1] [] (fun G => [.bool true, .bool true]) (by kernel_rfl) mo_le (by kernel_rfl) (fun _ _ => by kernel_rfl) trivial (by kernel_rfl) ?_
    intro G4 xa xw hDn
    refine hDn.to [12] [] (by kernel_rfl) ?_
    clear hDn
    refine Pre.conv (sl := [(12, .bool true)]) (A := [H]) (L := [some (b1, .cells #[vv] 24 (0, 0)), none]) ?_ (by kernel_rfl) (by kernel_rfl) (by kernel_rfl)
    clear G4
    refine At.then ?_
    refine W.ret (by kernel_rfl) ?_
    refine At.thenRet ?_
    refine At.results (Or.inl rfl) (.bool true) (fun xa xw hs hw => results_one (r := .tmp 12) (by kernel_rfl) (res_tmp (t := 12) (by kernel_rfl) hs)) (fun w' hw => ?_)
    exact ⟨congrArg Ending.returned (rfl), hw.base⟩
  · skip
    have hq2 := hq
    replace hq2 := (iN hp9 (iOF (iN hp7 (iOF (iN hp5 (iOF (iN hp3 (iOF (iNF (iN hp1 iDT)) (iNF (iN hp2 iDT)))) (iN hp4 iDF))) (iN hp6 iDF))) (iN hp8 iDF))).1 hq2
    refine W.skip (by kernel_rfl) ?_
    refine At.then ?_
    refine W.seq (by kernel_rfl) ?_
    obtain ⟨l1, hl1⟩ : ∃ zz : List DThing, zz = (Tm.buildT v texts values blinds) := ⟨_, rfl⟩
    obtain ⟨n4, hn4⟩ : ∃ zz : Int, zz = (Tm.buildR v texts values blinds) := ⟨_, rfl⟩
    obtain ⟨l2, hl2⟩ : ∃ zz : List Int, zz = (Tm.buildL v texts values blinds) := ⟨_, rfl⟩
    obtain ⟨n5, hn5⟩ : ∃ zz : Int, zz = (Tm.buildE v texts values blinds) := ⟨_, rfl⟩
    refine W.regV (whole_ct_r4_4 w0 v vv textsv valuesv blindsv text n H b1 p9 l1 n4 l2 n5) [1, 2, 3, 5, 6, 7, 8, 9, 12, 13, 14] [0, 4, 10, 11] (fun G => [textsv, valuesv, blindsv, .tuple #[.agg #[(G 4).v], .int .i64 n4, (G 4).v2, .int .i64 n5], .agg #[(G 4).v], .int .i64 n4, (G 4).v2, .int .i64 n5, .int .i64 n4, (G 4).v2, .int .i64 n5]) (by kernel_rfl) mo_le (by kernel_rfl) (fun _ _ => by kernel_rfl) ⟨?_, ?_, ?_, ?_, trivial⟩ (by kernel_rfl) ?_
    · exact One.loadE (t := 24) (r := 0) (off := 0) (b := fun G => b1) (vs := fun G => [vv]) (arr := fun G => #[vv]) (T := 24) (fr := (0, 0)) (fun G => ⟨by kernel_rfl⟩) (fun G => by kernel_rfl)
    · exact One.callM (f := 16) (args := fun G => #[.agg #[vv], textsv, valuesv, blindsv]) (H := fun G => H) (V := fun G g => .tuple #[.agg #[g.v], .int .i64 n4, g.v2, .int .i64 n5]) (F := fun G J g => RSl J l1 g.v ∧ RSl J l2 g.v2) (fun G g w => ⟨by kernel_rfl, by kernel_rfl⟩) (fun G w hs => by
        rw [hl1, hn4, hl2, hn5]
        exact build_ct v vv texts textsv values valuesv blinds blindsv w H (hs.read 0 rfl) (hv) (htexts) (hvalues) (hblinds) )
    · exact One.new (r := 1) (T := 24) (fun b => .pointer (some ⟨b, 0, none⟩)) (arr := fun G => #[.slice none 0 0]) (fun G w => by kernel_rfl) (fun G b => by kernel_rfl)
    · exact One.storeX (t := 24) (r := 1) (off := 0) (T := 24) (b := fun G => (G 10).b) (u := fun G => .agg #[(G 4).v]) (vs := fun G => [(G 4).v]) (arr := fun G => #[.slice none 0 0]) (fun G => ⟨by kernel_rfl⟩) (fun G w hs => by
        have ho4 : (RSl (hun (G 4).H H) l1 (G 4).v ∧ RSl (hun (G 4).H H) l2 (G 4).v2) ∧ New w0 (G 4).H := hs.get 4 (by kernel_rfl) (p := true) (by kernel_rfl) rfl (by kernel_rfl)
        exact ⟨rfl, (all_cons1 (ho4.1.1).cell1 rfl)⟩)
    intro G5 xa xw hDn
    have hf4_1 : (RSl (hun (G5 4).H H) l1 (G5 4).v ∧ RSl (hun (G5 4).H H) l2 (G5 4).v2) ∧ New w0 (G5 4).H := hDn.get 4 (by kernel_rfl) (by kernel_rfl) (by kernel_rfl)
    refine hDn.to [1, 2, 3, 4, 5, 6, 13, 14, 15, 16, 17] [4] (by kernel_rfl) ?_
    clear hDn
    refine Pre.conv (sl := [(1, textsv), (2, valuesv), (3, blindsv), (4, .string text), (5, .int .i64 n), (6, .pointer (some ⟨b1, 0, none⟩)), (13, .bool true), (14, .pointer (some ⟨(G5 10).b, 0, none⟩)), (15, .int .i64 n4), (16, (G5 4).v2), (17, .int .i64 n5)]) (A := [(G5 4).H, H]) (L := [some (b1, .cells #[vv] 24 (0, 0)), some ((G5 10).b, .cells #[(G5 4).v] 24 (0, 0))]) ?_ (by kernel_rfl) (by kernel_rfl) (by kernel_rfl)
    generalize (G5 10).b = b2 at hf4_1 ⊢
    generalize (G5 4).v2 = v1 at hf4_1 ⊢
    generalize (G5 4).v = v2 at hf4_1 ⊢
    generalize (G5 4).H = N1 at hf4_1 ⊢
    clear G5
    refine Pre.merge (Ns := [N1]) hE (by simp only [List.mem_cons, List.not_mem_nil, or_false, forall_eq_or_imp, forall_eq]; exact hf4_1.2) (fun K1 hk1 hk2 hE1 => ?_)
    have hr1 := (htexts).mono hk1
    have hr1n := hr1.lim
    have hr2 := (hvalues).mono hk1
    have hr2n := hr2.lim
    have hr3 := (hblinds).mono hk1
    have hr3n := hr3.lim
    have hr4 := (hf4_1.1.2).mono (hun_sub (hk2 _ (by simp)) hk1)
    have hr4n := hr4.lim
    have hr5 := (hv).mono hk1
    have hr5n := hr5.lim
    have hr6 := (hf4_1.1.1).mono (hun_sub (hk2 _ (by simp)) hk1)
    have hr6n := hr6.lim
    refine At.then ?_
    refine W.seq (by kernel_rfl) ?_
    refine W.seq (by kernel_rfl) ?_
    obtain ⟨p10, hp10⟩ : ∃ zz : Bool, zz = !(decide (n5 = 0)) := ⟨_, rfl⟩
    refine W.regV (whole_ct_r4_5 vv textsv valuesv blindsv text n b1 n4 n5 b2 v1 v2 K1 p10) [0] [1] (fun G => [.int .i64 n5]) (by kernel_rfl) mo_le (by kernel_rfl) (fun _ _ => by kernel_rfl) ⟨?_, trivial⟩ (by kernel_rfl) ?_
    · exact One.bo hp10 (fun _ _ => by kernel_rfl)
    intro G6 xa xw hDn
    refine hDn.to [1, 2, 3, 4, 5, 6, 13, 14, 15, 16, 59] [] (by kernel_rfl) ?_
    clear hDn
    refine Pre.conv (sl := [(1, textsv), (2, valuesv), (3, blindsv), (4, .string text), (5, .int .i64 n), (6, .pointer (some ⟨b1, 0, none⟩)), (13, .bool true), (14, .pointer (some ⟨b2, 0, none⟩)), (15, .int .i64 n4), (16, v1), (59, .bool p10)]) (A := [K1]) (L := [some (b1, .cells #[vv] 24 (0, 0)), some (b2, .cells #[v2] 24 (0, 0))]) ?_ (by kernel_rfl) (by kernel_rfl) (by kernel_rfl)
    clear G6
    refine At.then ?_
    refine W.cond p10 (by kernel_rfl) (fun xa hs => cnd_of (t := 59) (by kernel_rfl) (by kernel_rfl) hs) (fun hq => ?_) (fun hq => ?_)
    · skip
      have hq3 := hq
      replace hq3 := (iN hp10 (iNT iDF)).1 hq3
      refine W.seq (by kernel_rfl) ?_
      obtain ⟨p11, hp11⟩ : ∃ zz : Bool, zz = decide (n4 = (-1)) := ⟨_, rfl⟩
      obtain ⟨n6, hn6⟩ : ∃ zz : Int, zz = (l2.length : Int) := ⟨_, rfl⟩
      obtain ⟨p12, hp12⟩ : ∃ zz : Bool, zz = decide (n6 = 0) := ⟨_, rfl⟩
      obtain ⟨p13, hp13⟩ : ∃ zz : Bool, zz = (p11 && p12) := ⟨_, rfl⟩
      obtain ⟨n7, hn7⟩ : ∃ zz : Int, zz = (l1.length : Int) := ⟨_, rfl⟩
      obtain ⟨p14, hp14⟩ : ∃ zz : Bool, zz = decide (n7 = 0) := ⟨_, rfl⟩
      obtain ⟨p15, hp15⟩ : ∃ zz : Bool, zz = (p13 && p14) := ⟨_, rfl⟩
      refine W.regV (whole_ct_r4_6 vv textsv valuesv blindsv text n b1 n4 b2 v1 v2 K1 p10 p11 n6 p12 p13 n7 p14 p15) [0, 1, 2, 4, 5, 6, 10, 11, 16] [3, 7, 8, 9, 12, 13, 14, 15] (fun G => [.bool true, .bool true, .int .i64 n4, .bool p11, .bool p11, v1, .bool p13, .pointer (some ⟨b2, 0, none⟩), .bool p15]) (by kernel_rfl) mo_le (by kernel_rfl) (fun _ _ => by kernel_rfl) ⟨?_, ?_, ?_, ?_, ?_, ?_, ?_, ?_, trivial⟩ (by kernel_rfl) ?_
      · exact One.bo hp11 (fun _ _ => by kernel_rfl)
      · exact One.len (t := 26) (n := n6) (v := fun G => v1) (fun _ => ⟨by kernel_rfl⟩) (fun G w hs => by
          have hg := gd_of hs (p := (true && (p11 == true))) (by kernel_rfl)
          have hg0 := (iN hp11 iDT).1 (eqT (andR hg))
          exact ⟨_, (hr4).isSl, hn6⟩)
      · exact One.bo hp12 (fun _ _ => by kernel_rfl)
      · subst hp13
        cases p11 <;> exact One.under fun _ _ _ => by kernel_rfl
      · exact One.loadE (t := 22) (r := 1) (off := 0) (b := fun G => b2) (vs := fun G => [v2]) (arr := fun G => #[v2]) (T := 24) (fr := (0, 0)) (fun G => ⟨by kernel_rfl⟩) (fun G => by kernel_rfl)
      · exact One.len (t := 22) (n := n7) (v := fun G => v2) (fun _ => ⟨by kernel_rfl⟩) (fun G w hs => by
          have hg := gd_of hs (p := (true && (p13 == true))) (by kernel_rfl)
          have hg0 := (iN hp13 (iAT (iN hp11 iDT) (iN hp12 iDT))).1 (eqT (andR hg))
          exact ⟨_, (hr6).isSl, hn7⟩)
      · exact One.bo hp14 (fun _ _ => by kernel_rfl)
      · subst hp15
        cases p13 <;> exact One.under fun _ _ _ => by kernel_rfl
      intro G7 xa xw hDn
      refine hDn.to [12] [] (by kernel_rfl) ?_
      clear hDn
      refine Pre.conv (sl := [(12, .bool p15)]) (A := [K1]) (L := [some (b1, .cells #[vv] 24 (0, 0)), some (b2, .cells #[v2] 24 (0, 0))]) ?_ (by kernel_rfl) (by kernel_rfl) (by kernel_rfl)
      clear G7
      refine At.then ?_
      refine W.ret (by kernel_rfl) ?_
      refine At.thenRet ?_
      refine At.results (Or.inl rfl) (.bool p15) (fun xa xw hs hw => results_one (r := .tmp 12) (by kernel_rfl) (res_tmp (t := 12) (by kernel_rfl) hs)) (fun w' hw => ?_)
      have e0 : p15 = true := by
        rw [(iN hp15 (iAT (iN hp13 (iAT (iN hp11 iDT) (iN hp12 iDT))) (iN hp14 iDT)))]
        have hbn := Tm.build_no (fun e => hq3 (hn5.trans e))
        have e1 := hl1.trans hbn.1
        have e2 := hl2.trans hbn.2.2
        have e3 := hn4.trans hbn.2.1
        have f1 := congrArg List.length e1
        have f2 := congrArg List.length e2
        simp only [List.length_nil] at f1 f2
        refine ⟨⟨?_, ?_⟩, ?_⟩ <;> omega
      exact ⟨congrArg Ending.returned (cong1 (fun (x0 : Bool) => (.bool x0 : Value)) e0), hw.base⟩
    · skip
      have hq4 := hq
      replace hq4 := (iN hp10 (iNF iDT)).1 hq4
      refine W.skip (by kernel_rfl) ?_
      refine At.then ?_
      refine W.seq (by kernel_rfl) ?_
      have he := hn5.symm.trans hq4
      have hBI := Tm.built_is he
      rw [← hl1, ← hn4, ← hl2] at hBI
      obtain ⟨hOK, h64, hSd, hlen, htk, hrt, hrv, hrb, hLl, hel⟩ := hBI
      have hLV := Tm.leaf_vals hOK
      have hvl := hOK.2.2.1
      have hbl := hOK.2.2.2.1
      have hSd1 := hSd.1
      have hne := hOK.2.1
      have hll : l2.length = texts.length := by rw [hLl]; simp [Tm.idsN]
      refine W.regV (whole_ct_r4_7 vv textsv valuesv blindsv text n b1 n4 b2 v1 v2 K1 p10) [0] [] (fun G => [.int .i64 0]) (by kernel_rfl) mo_le (by kernel_rfl) (fun _ _ => by kernel_rfl) trivial (by kernel_rfl) ?_
      intro G8 xa xw hDn
      refine hDn.to [1, 2, 3, 4, 5, 6, 13, 14, 15, 16, 18] [] (by kernel_rfl) ?_
      clear hDn
      refine Pre.conv (sl := [(1, textsv), (2, valuesv), (3, blindsv), (4, .string text), (5, .int .i64 n), (6, .pointer (some ⟨b1, 0, none⟩)), (13, .bool true), (14, .pointer (some ⟨b2, 0, none⟩)), (15, .int .i64 n4), (16, v1), (18, .int .i64 0)]) (A := [K1]) (L := [some (b1, .cells #[vv] 24 (0, 0)), some (b2, .cells #[v2] 24 (0, 0))]) ?_ (by kernel_rfl) (by kernel_rfl) (by kernel_rfl)
      clear G8
      refine At.then ?_
      refine W.seq (by kernel_rfl) ?_
      refine W.regV (whole_ct_r4_8 vv textsv valuesv blindsv text n b1 n4 b2 v1 v2 K1) [0] [] (fun G => [.int .i64 0]) (by kernel_rfl) mo_le (by kernel_rfl) (fun _ _ => by kernel_rfl) trivial (by kernel_rfl) ?_
      intro G9 xa xw hDn
      refine hDn.to [1, 2, 3, 4, 5, 6, 13, 14, 15, 16, 18, 19] [] (by kernel_rfl) ?_
      clear hDn
      refine Pre.conv (sl := [(1, textsv), (2, valuesv), (3, blindsv), (4, .string text), (5, .int .i64 n), (6, .pointer (some ⟨b1, 0, none⟩)), (13, .bool true), (14, .pointer (some ⟨b2, 0, none⟩)), (15, .int .i64 n4), (16, v1), (18, .int .i64 0), (19, .int .i64 0)]) (A := [K1]) (L := [some (b1, .cells #[vv] 24 (0, 0)), some (b2, .cells #[v2] 24 (0, 0))]) ?_ (by kernel_rfl) (by kernel_rfl) (by kernel_rfl)
      clear G9
      refine At.then ?_
      refine W.seq (by kernel_rfl) ?_
      refine W.seq (by kernel_rfl) ?_
      refine W.regV (whole_ct_r4_9 vv textsv valuesv blindsv text n b1 n4 b2 v1 v2 K1) [0] [] (fun G => [.int .i64 0]) (by kernel_rfl) mo_le (by kernel_rfl) (fun _ _ => by kernel_rfl) trivial (by kernel_rfl) ?_
      intro G10 xa xw hDn
      refine hDn.to [1, 2, 3, 4, 5, 6, 13, 14, 15, 16, 18, 19, 20] [] (by kernel_rfl) ?_
      clear hDn
      refine Pre.conv (sl := [(1, textsv), (2, valuesv), (3, blindsv), (4, .string text), (5, .int .i64 n), (6, .pointer (some ⟨b1, 0, none⟩)), (13, .bool true), (14, .pointer (some ⟨b2, 0, none⟩)), (15, .int .i64 n4), (16, v1), (18, .int .i64 0), (19, .int .i64 0), (20, .int .i64 0)]) (A := [K1]) (L := [some (b1, .cells #[vv] 24 (0, 0)), some (b2, .cells #[v2] 24 (0, 0))]) ?_ (by kernel_rfl) (by kernel_rfl) (by kernel_rfl)
      clear G10
      refine At.then ?_
      refine W.block 0 (by kernel_rfl) ?_
      refine W.loopS (γ := Int × Int × Int) (fun ⟨sum, all, i⟩ => [(1, textsv), (2, valuesv), (3, blindsv), (4, .string text), (5, .int .i64 n), (6, .pointer (some ⟨b1, 0, none⟩)), (13, .bool true), (14, .pointer (some ⟨b2, 0, none⟩)), (15, .int .i64 n4), (16, v1), (18, .int .i64 sum), (19, .int .i64 all), (20, .int .i64 i)]) (fun ⟨sum, all, i⟩ => [K1]) (fun ⟨sum, all, i⟩ => [some (b1, .cells #[vv] 24 (0, 0)), some (b2, .cells #[v2] 24 (0, 0))]) (fun ⟨sum, all, i⟩ => (sum = Tm.totV values i.toNat) ∧ (all = Tm.totV blinds i.toNat) ∧ (0 ≤ i) ∧ (i ≤ values.length)) (fun ⟨sum, all, i⟩ => ((values.length : Int) - i).toNat) (0, 0, 0) (by kernel_rfl) ?_ ?_
      · intro xa xw hs hw
        refine ⟨hs.sub (by kernel_rfl), hw.mask [true, true] (by kernel_rfl), ?_⟩
        refine ⟨?_, ?_, ?_, ?_⟩
        · show (0 : Int) = Tm.totV values (0 : Int).toNat
          rfl
        · show (0 : Int) = Tm.totV blinds (0 : Int).toNat
          rfl
        · show 0 ≤ (0 : Int)
          omega
        · show (0 : Int) ≤ values.length
          omega
      · rintro ⟨sum, all, i⟩ hF
        have hF : (sum = Tm.totV values i.toNat) ∧ (all = Tm.totV blinds i.toNat) ∧ (0 ≤ i) ∧ (i ≤ values.length) := hF
        obtain ⟨hf2, hf3, hf4, hf5⟩ := hF
        show W Try.prog 317 w0 [] (Code.l (Code.l (Code.r (Code.l (Code.r (Code.r (Code.r (Code.r (Code.r (Code.r (Code.r (body Try.f4)))))))))))) _ [(1, textsv), (2, valuesv), (3, blindsv), (4, .string text), (5, .int .i64 n), (6, .pointer (some ⟨b1, 0, none⟩)), (13, .bool true), (14, .pointer (some ⟨b2, 0, none⟩)), (15, .int .i64 n4), (16, v1), (18, .int .i64 sum), (19, .int .i64 all), (20, .int .i64 i)] [K1] [some (b1, .cells #[vv] 24 (0, 0)), some (b2, .cells #[v2] 24 (0, 0))]
        refine W.seq (by kernel_rfl) ?_
        refine W.seq (by kernel_rfl) ?_
        obtain ⟨p16, hp16⟩ : ∃ zz : Bool, zz = decide (i < n1) := ⟨_, rfl⟩
        obtain ⟨p17, hp17⟩ : ∃ zz : Bool, zz = decide (i < n2) := ⟨_, rfl⟩
        obtain ⟨p18, hp18⟩ : ∃ zz : Bool, zz = (p16 && p17) := ⟨_, rfl⟩
        refine W.regV (whole_ct_r4_10 vv textsv valuesv blindsv text n b1 n1 n2 n4 b2 v1 v2 K1 sum all i p16 p17 p18) [0, 1, 4, 5, 6] [2, 3, 7, 8, 9] (fun G => [.int .i64 i, valuesv, .bool p16, .int .i64 i, blindsv]) (by kernel_rfl) mo_le (by kernel_rfl) (fun _ _ => by kernel_rfl) ⟨?_, ?_, ?_, ?_, ?_, trivial⟩ (by kernel_rfl) ?_
        · exact One.len (t := 26) (n := n1) (v := fun G => valuesv) (fun _ => ⟨by kernel_rfl⟩) (fun G w hs => ⟨_, (hr2).isSl, hn1⟩)
        · exact One.bo hp16 (fun _ _ => by kernel_rfl)
        · exact One.len (t := 26) (n := n2) (v := fun G => blindsv) (fun _ => ⟨by kernel_rfl⟩) (fun G w hs => by
            have hg := gd_of hs (p := (true && (p16 == true))) (by kernel_rfl)
            have hg0 := (iN hp16 iDT).1 (eqT (andR hg))
            exact ⟨_, (hr3).isSl, hn2⟩)
        · exact One.bo hp17 (fun _ _ => by kernel_rfl)
        · subst hp18
          cases p16 <;> exact One.under fun _ _ _ => by kernel_rfl
        intro G11 xa xw hDn
        refine hDn.to [1, 2, 3, 4, 5, 6, 13, 14, 15, 16, 18, 19, 20, 85] [] (by kernel_rfl) ?_
        clear hDn
        refine Pre.conv (sl := [(1, textsv), (2, valuesv), (3, blindsv), (4, .string text), (5, .int .i64 n), (6, .pointer (some ⟨b1, 0, none⟩)), (13, .bool true), (14, .pointer (some ⟨b2, 0, none⟩)), (15, .int .i64 n4), (16, v1), (18, .int .i64 sum), (19, .int .i64 all), (20, .int .i64 i), (85, .bool p18)]) (A := [K1]) (L := [some (b1, .cells #[vv] 24 (0, 0)), some (b2, .cells #[v2] 24 (0, 0))]) ?_ (by kernel_rfl) (by kernel_rfl) (by kernel_rfl)
        clear G11
        refine At.then ?_
        refine W.cond p18 (by kernel_rfl) (fun xa hs => cnd_of (t := 85) (by kernel_rfl) (by kernel_rfl) hs) (fun hq => ?_) (fun hq => ?_)
        · skip
          have hq5 := hq
          replace hq5 := (iN hp18 (iAT (iN hp16 iDT) (iN hp17 iDT))).1 hq5
          refine W.skip (by kernel_rfl) ?_
          refine At.then ?_
          refine W.seq (by kernel_rfl) ?_
          refine W.block 1 (by kernel_rfl) ?_
          refine W.seq (by kernel_rfl) ?_
          obtain ⟨n8, hn8⟩ : ∃ zz : Int, zz = values.getD i.toNat default := ⟨_, rfl⟩
          obtain ⟨n9, hn9⟩ : ∃ zz : Int, zz = sum + n8 := ⟨_, rfl⟩
          have htS12 := Tm.tot_step h64 hLV.1 (by omega) (by omega) hf2 hn8
          refine W.regV (whole_ct_r4_11 vv textsv valuesv blindsv text n b1 n4 b2 v1 v2 K1 sum all i p18 n8 n9) [0, 1, 2, 6] [3, 4, 5] (fun G => [.int .i64 sum, valuesv, .int .i64 i, .int .i64 n9]) (by kernel_rfl) mo_le (by kernel_rfl) (fun _ _ => by kernel_rfl) ⟨?_, ?_, ?_, trivial⟩ (by kernel_rfl) ?_
          · exact One.index (t := 26) (e := 3) (size := 1) (v := fun G => valuesv) (k := .i64) (n := i) (fun _ => ⟨by kernel_rfl⟩) (fun G w hs => ⟨_, (hr2).isSl, by first | omega | (simp only [List.length_append, List.length_cons, List.length_nil, List.length_replicate, List.length_set, List.length_take, List.length_drop, List.length_map, List.length_reverse, List.length_range]; omega), by first | omega | (simp only [List.length_append, List.length_cons, List.length_nil, List.length_replicate, List.length_set, List.length_take, List.length_drop, List.length_map, List.length_reverse, List.length_range]; omega)⟩)
          · exact One.loadD (α := Int) (t := 3) (size := 1) (off := 0) (k := i) (l := fun G => values) (x := fun G => n8) (vs := fun G => [.int .i64 n8]) (v := fun G => valuesv) (H := fun G => K1) (p := fun G => elemAddr valuesv (i.toNat * 1)) (fun G => ⟨by kernel_rfl⟩) rfl (fun G => by kernel_rfl) (fun G w hs => ⟨(hs.read 0 rfl), hr2, (add_zero' _).symm, by omega, by first | omega | (simp only [List.length_append, List.length_cons, List.length_nil, List.length_replicate, List.length_set, List.length_take, List.length_drop, List.length_map, List.length_reverse, List.length_range]; omega), hn8⟩)
          · exact One.ar hn9 (fun _ _ => by kernel_rfl) (fun G w hs => by omega)
          intro G12 xa xw hDn
          refine hDn.to [1, 2, 3, 4, 5, 6, 13, 14, 15, 16, 18, 19, 20] [] (by kernel_rfl) ?_
          clear hDn
          refine Pre.conv (sl := [(1, textsv), (2, valuesv), (3, blindsv), (4, .string text), (5, .int .i64 n), (6, .pointer (some ⟨b1, 0, none⟩)), (13, .bool true), (14, .pointer (some ⟨b2, 0, none⟩)), (15, .int .i64 n4), (16, v1), (18, .int .i64 n9), (19, .int .i64 all), (20, .int .i64 i)]) (A := [K1]) (L := [some (b1, .cells #[vv] 24 (0, 0)), some (b2, .cells #[v2] 24 (0, 0))]) ?_ (by kernel_rfl) (by kernel_rfl) (by kernel_rfl)
          clear G12
          refine At.then ?_
          obtain ⟨n10, hn10⟩ : ∃ zz : Int, zz = blinds.getD i.toNat default := ⟨_, rfl⟩
          obtain ⟨n11, hn11⟩ : ∃ zz : Int, zz = all + n10 := ⟨_, rfl⟩
          have htS13 := Tm.tot_step h64 hLV.2 (by omega) (by omega) hf3 hn10
          refine W.regV (whole_ct_r4_12 vv textsv valuesv blindsv text n b1 n4 b2 v1 v2 K1 all i n9 n10 n11) [0, 1, 2, 6] [3, 4, 5] (fun G => [.int .i64 all, blindsv, .int .i64 i, .int .i64 n11]) (by kernel_rfl) mo_le (by kernel_rfl) (fun _ _ => by kernel_rfl) ⟨?_, ?_, ?_, trivial⟩ (by kernel_rfl) ?_
          · exact One.index (t := 26) (e := 3) (size := 1) (v := fun G => blindsv) (k := .i64) (n := i) (fun _ => ⟨by kernel_rfl⟩) (fun G w hs => ⟨_, (hr3).isSl, by first | omega | (simp only [List.length_append, List.length_cons, List.length_nil, List.length_replicate, List.length_set, List.length_take, List.length_drop, List.length_map, List.length_reverse, List.length_range]; omega), by first | omega | (simp only [List.length_append, List.length_cons, List.length_nil, List.length_replicate, List.length_set, List.length_take, List.length_drop, List.length_map, List.length_reverse, List.length_range]; omega)⟩)
          · exact One.loadD (α := Int) (t := 3) (size := 1) (off := 0) (k := i) (l := fun G => blinds) (x := fun G => n10) (vs := fun G => [.int .i64 n10]) (v := fun G => blindsv) (H := fun G => K1) (p := fun G => elemAddr blindsv (i.toNat * 1)) (fun G => ⟨by kernel_rfl⟩) rfl (fun G => by kernel_rfl) (fun G w hs => ⟨(hs.read 0 rfl), hr3, (add_zero' _).symm, by omega, by first | omega | (simp only [List.length_append, List.length_cons, List.length_nil, List.length_replicate, List.length_set, List.length_take, List.length_drop, List.length_map, List.length_reverse, List.length_range]; omega), hn10⟩)
          · exact One.ar hn11 (fun _ _ => by kernel_rfl) (fun G w hs => by omega)
          intro G13 xa xw hDn
          refine hDn.to [1, 2, 3, 4, 5, 6, 13, 14, 15, 16, 18, 19, 20] [] (by kernel_rfl) ?_
          clear hDn
          refine Pre.conv (sl := [(1, textsv), (2, valuesv), (3, blindsv), (4, .string text), (5, .int .i64 n), (6, .pointer (some ⟨b1, 0, none⟩)), (13, .bool true), (14, .pointer (some ⟨b2, 0, none⟩)), (15, .int .i64 n4), (16, v1), (18, .int .i64 n9), (19, .int .i64 n11), (20, .int .i64 i)]) (A := [K1]) (L := [some (b1, .cells #[vv] 24 (0, 0)), some (b2, .cells #[v2] 24 (0, 0))]) ?_ (by kernel_rfl) (by kernel_rfl) (by kernel_rfl)
          clear G13
          refine At.blockNormal ?_
          refine At.then ?_
          obtain ⟨n12, hn12⟩ : ∃ zz : Int, zz = i + 1 := ⟨_, rfl⟩
          refine W.regV (whole_ct_r4_13 vv textsv valuesv blindsv text n b1 n4 b2 v1 v2 K1 i n9 n11 n12) [0, 2] [1] (fun G => [.int .i64 i, .int .i64 n12]) (by kernel_rfl) mo_le (by kernel_rfl) (fun _ _ => by kernel_rfl) ⟨?_, trivial⟩ (by kernel_rfl) ?_
          · exact One.ar hn12 (fun _ _ => by kernel_rfl) (fun G w hs => by omega)
          intro G14 xa xw hDn
          refine hDn.to [1, 2, 3, 4, 5, 6, 13, 14, 15, 16, 18, 19, 20] [] (by kernel_rfl) ?_
          clear hDn
          refine Pre.conv (sl := [(1, textsv), (2, valuesv), (3, blindsv), (4, .string text), (5, .int .i64 n), (6, .pointer (some ⟨b1, 0, none⟩)), (13, .bool true), (14, .pointer (some ⟨b2, 0, none⟩)), (15, .int .i64 n4), (16, v1), (18, .int .i64 n9), (19, .int .i64 n11), (20, .int .i64 n12)]) (A := [K1]) (L := [some (b1, .cells #[vv] 24 (0, 0)), some (b2, .cells #[v2] 24 (0, 0))]) ?_ (by kernel_rfl) (by kernel_rfl) (by kernel_rfl)
          clear G14
          intro xa xw hs hw
          refine ⟨(n9, n11, n12), ⟨hs.sub (by kernel_rfl), hw.mask [true, true] (by kernel_rfl), ?_⟩, ?_⟩
          · skip
            refine ⟨?_, ?_, ?_, ?_⟩
            · show n9 = Tm.totV values n12.toNat
              have e := htS12.2.2.2.2; rw [show n12.toNat = (i + 1).toNat by omega]; omega
            · show n11 = Tm.totV blinds n12.toNat
              have e := htS13.2.2.2.2; rw [show n12.toNat = (i + 1).toNat by omega]; omega
            · show 0 ≤ n12
              omega
            · show n12 ≤ values.length
              omega
          · show ((values.length : Int) - n12).toNat < ((values.length : Int) - i).toNat
            omega
        · skip
          have hq6 := hq
          replace hq6 := (iN hp18 (iAF (iN hp16 iDF) (iN hp17 iDF))).1 hq6
          refine W.exit 0 (by kernel_rfl) ?_
          refine At.thenExit ?_
          refine At.thenExit ?_
          refine At.blockHit ?_
          refine At.then ?_
          refine W.seq (by kernel_rfl) ?_
          refine W.seq (by kernel_rfl) ?_
          have hin : i.toNat = texts.length := by omega
          have hsum := hf2
          have hall := hf3
          rw [hin] at hsum hall
          obtain ⟨p19, hp19⟩ : ∃ zz : Bool, zz = (decide (Tm.Sound l1)) := ⟨_, rfl⟩
          obtain ⟨n13, hn13⟩ : ∃ zz : Int, zz = (texts.length : Int) := ⟨_, rfl⟩
          obtain ⟨p20, hp20⟩ : ∃ zz : Bool, zz = !(decide (n1 = n13)) := ⟨_, rfl⟩
          obtain ⟨p21, hp21⟩ : ∃ zz : Bool, zz = (!p19 || p20) := ⟨_, rfl⟩
          obtain ⟨p22, hp22⟩ : ∃ zz : Bool, zz = !(decide (n2 = n13)) := ⟨_, rfl⟩
          obtain ⟨p23, hp23⟩ : ∃ zz : Bool, zz = (p21 || p22) := ⟨_, rfl⟩
          obtain ⟨n14, hn14⟩ : ∃ zz : Int, zz = (l2.length : Int) := ⟨_, rfl⟩
          obtain ⟨p24, hp24⟩ : ∃ zz : Bool, zz = !(decide (n14 = n13)) := ⟨_, rfl⟩
          obtain ⟨p25, hp25⟩ : ∃ zz : Bool, zz = (p23 || p24) := ⟨_, rfl⟩
          obtain ⟨n15, hn15⟩ : ∃ zz : Int, zz = (l1.length : Int) := ⟨_, rfl⟩
          obtain ⟨n16, hn16⟩ : ∃ zz : Int, zz = (v.length : Int) := ⟨_, rfl⟩
          obtain ⟨n17, hn17⟩ : ∃ zz : Int, zz = 2 * n13 := ⟨_, rfl⟩
          obtain ⟨n18, hn18⟩ : ∃ zz : Int, zz = n16 + n17 := ⟨_, rfl⟩
          obtain ⟨n19, hn19⟩ : ∃ zz : Int, zz = n18 - 1 := ⟨_, rfl⟩
          obtain ⟨p26, hp26⟩ : ∃ zz : Bool, zz = !(decide (n15 = n19)) := ⟨_, rfl⟩
          obtain ⟨p27, hp27⟩ : ∃ zz : Bool, zz = (p25 || p26) := ⟨_, rfl⟩
          refine W.regV (whole_ct_r4_14 vv textsv valuesv blindsv text n b1 n1 n2 n4 b2 v1 v2 K1 sum all i p18 p19 n13 p20 p21 p22 p23 n14 p24 p25 n15 n16 n17 n18 n19 p26 p27) [2, 3, 4, 6, 10, 11, 13, 17, 18, 20, 24, 25, 28, 31] [0, 1, 5, 7, 8, 9, 12, 14, 15, 16, 19, 21, 22, 23, 26, 27, 29, 30, 32, 33, 34, 35, 36, 37] (fun G => [.bool (!p19), .bool (!p19), valuesv, textsv, .bool p21, blindsv, textsv, .bool p23, v1, textsv, .bool p25, .pointer (some ⟨b2, 0, none⟩), .pointer (some ⟨b1, 0, none⟩), textsv]) (by kernel_rfl) mo_le (by kernel_rfl) (fun _ _ => by kernel_rfl) ⟨?_, ?_, ?_, ?_, ?_, ?_, ?_, ?_, ?_, ?_, ?_, ?_, ?_, ?_, ?_, ?_, ?_, ?_, ?_, ?_, ?_, ?_, ?_, ?_, trivial⟩ (by kernel_rfl) ?_
          · exact One.loadE (t := 24) (r := 1) (off := 0) (b := fun G => b2) (vs := fun G => [v2]) (arr := fun G => #[v2]) (T := 24) (fr := (0, 0)) (fun G => ⟨by kernel_rfl⟩) (fun G => by kernel_rfl)
          · exact One.callP (v := fun G => .bool p19) (f := 26) (args := fun G => #[.agg #[v2]]) (fun _ _ => by kernel_rfl) (fun G w hs => by
              rw [hp19]
              exact sound_ct l1 v2 w K1 (hs.read 0 rfl) (hr6) )
          · exact One.len (t := 26) (n := n1) (v := fun G => valuesv) (fun _ => ⟨by kernel_rfl⟩) (fun G w hs => by
              have hg := gd_of hs (p := (true && ((!p19) == false))) (by kernel_rfl)
              have hg0 := (iNF (iN hp19 iDT)).1 (eqF (andR hg))
              exact ⟨_, (hr2).isSl, hn1⟩)
          · exact One.len (t := 25) (n := n13) (v := fun G => textsv) (fun _ => ⟨by kernel_rfl⟩) (fun G w hs => by
              have hg := gd_of hs (p := (true && ((!p19) == false))) (by kernel_rfl)
              have hg0 := (iNF (iN hp19 iDT)).1 (eqF (andR hg))
              exact ⟨_, (hr1).isSl, hn13⟩)
          · exact One.bo hp20 (fun _ _ => by kernel_rfl)
          · subst hp21
            cases p19 <;> exact One.under fun _ _ _ => by kernel_rfl
          · exact One.len (t := 26) (n := n2) (v := fun G => blindsv) (fun _ => ⟨by kernel_rfl⟩) (fun G w hs => by
              have hg := gd_of hs (p := (true && (p21 == false))) (by kernel_rfl)
              have hg0 := (iN hp21 (iOF (iNF (iN hp19 iDT)) (iN hp20 (iNF iDT)))).1 (eqF (andR hg))
              exact ⟨_, (hr3).isSl, hn2⟩)
          · exact One.len (t := 25) (n := n13) (v := fun G => textsv) (fun _ => ⟨by kernel_rfl⟩) (fun G w hs => by
              have hg := gd_of hs (p := (true && (p21 == false))) (by kernel_rfl)
              have hg0 := (iN hp21 (iOF (iNF (iN hp19 iDT)) (iN hp20 (iNF iDT)))).1 (eqF (andR hg))
              exact ⟨_, (hr1).isSl, hn13⟩)
          · exact One.bo hp22 (fun _ _ => by kernel_rfl)
          · subst hp23
            cases p21 <;> exact One.under fun _ _ _ => by kernel_rfl
          · exact One.len (t := 26) (n := n14) (v := fun G => v1) (fun _ => ⟨by kernel_rfl⟩) (fun G w hs => by
              have hg := gd_of hs (p := (true && (p23 == false))) (by kernel_rfl)
              have hg0 := (iN hp23 (iOF (iN hp21 (iOF (iNF (iN hp19 iDT)) (iN hp20 (iNF iDT)))) (iN hp22 (iNF iDT)))).1 (eqF (andR hg))
              exact ⟨_, (hr4).isSl, hn14⟩)
          · exact One.len (t := 25) (n := n13) (v := fun G => textsv) (fun _ => ⟨by kernel_rfl⟩) (fun G w hs => by
              have hg := gd_of hs (p := (true && (p23 == false))) (by kernel_rfl)
              have hg0 := (iN hp23 (iOF (iN hp21 (iOF (iNF (iN hp19 iDT)) (iN hp20 (iNF iDT)))) (iN hp22 (iNF iDT)))).1 (eqF (andR hg))
              exact ⟨_, (hr1).isSl, hn13⟩)
          · exact One.bo hp24 (fun _ _ => by kernel_rfl)
          · subst hp25
            cases p23 <;> exact One.under fun _ _ _ => by kernel_rfl
          · exact One.loadE (t := 22) (r := 1) (off := 0) (b := fun G => b2) (vs := fun G => [v2]) (arr := fun G => #[v2]) (T := 24) (fr := (0, 0)) (fun G => ⟨by kernel_rfl⟩) (fun G => by kernel_rfl)
          · exact One.len (t := 22) (n := n15) (v := fun G => v2) (fun _ => ⟨by kernel_rfl⟩) (fun G w hs => by
              have hg := gd_of hs (p := (true && (p25 == false))) (by kernel_rfl)
              have hg0 := (iN hp25 (iOF (iN hp23 (iOF (iN hp21 (iOF (iNF (iN hp19 iDT)) (iN hp20 (iNF iDT)))) (iN hp22 (iNF iDT)))) (iN hp24 (iNF iDT)))).1 (eqF (andR hg))
              exact ⟨_, (hr6).isSl, hn15⟩)
          · exact One.loadE (t := 22) (r := 0) (off := 0) (b := fun G => b1) (vs := fun G => [vv]) (arr := fun G => #[vv]) (T := 24) (fr := (0, 0)) (fun G => ⟨by kernel_rfl⟩) (fun G => by kernel_rfl)
          · exact One.len (t := 22) (n := n16) (v := fun G => vv) (fun _ => ⟨by kernel_rfl⟩) (fun G w hs => by
              have hg := gd_of hs (p := (true && (p25 == false))) (by kernel_rfl)
              have hg0 := (iN hp25 (iOF (iN hp23 (iOF (iN hp21 (iOF (iNF (iN hp19 iDT)) (iN hp20 (iNF iDT)))) (iN hp22 (iNF iDT)))) (iN hp24 (iNF iDT)))).1 (eqF (andR hg))
              exact ⟨_, (hr5).isSl, hn16⟩)
          · exact One.len (t := 25) (n := n13) (v := fun G => textsv) (fun _ => ⟨by kernel_rfl⟩) (fun G w hs => by
              have hg := gd_of hs (p := (true && (p25 == false))) (by kernel_rfl)
              have hg0 := (iN hp25 (iOF (iN hp23 (iOF (iN hp21 (iOF (iNF (iN hp19 iDT)) (iN hp20 (iNF iDT)))) (iN hp22 (iNF iDT)))) (iN hp24 (iNF iDT)))).1 (eqF (andR hg))
              exact ⟨_, (hr1).isSl, hn13⟩)
          · exact One.ar hn17 (fun _ _ => by kernel_rfl) (fun G w hs => by
              have hg := gd_of hs (p := (true && (p25 == false))) (by kernel_rfl)
              have hg0 := (iN hp25 (iOF (iN hp23 (iOF (iN hp21 (iOF (iNF (iN hp19 iDT)) (iN hp20 (iNF iDT)))) (iN hp22 (iNF iDT)))) (iN hp24 (iNF iDT)))).1 (eqF (andR hg))
              exact by omega)
          · exact One.ar hn18 (fun _ _ => by kernel_rfl) (fun G w hs => by
              have hg := gd_of hs (p := (true && (p25 == false))) (by kernel_rfl)
              have hg0 := (iN hp25 (iOF (iN hp23 (iOF (iN hp21 (iOF (iNF (iN hp19 iDT)) (iN hp20 (iNF iDT)))) (iN hp22 (iNF iDT)))) (iN hp24 (iNF iDT)))).1 (eqF (andR hg))
              exact by omega)
          · exact One.ar hn19 (fun _ _ => by kernel_rfl) (fun G w hs => by
              have hg := gd_of hs (p := (true && (p25 == false))) (by kernel_rfl)
              have hg0 := (iN hp25 (iOF (iN hp23 (iOF (iN hp21 (iOF (iNF (iN hp19 iDT)) (iN hp20 (iNF iDT)))) (iN hp22 (iNF iDT)))) (iN hp24 (iNF iDT)))).1 (eqF (andR hg))
              exact by omega)
          · exact One.bo hp26 (fun _ _ => by kernel_rfl)
          · subst hp27
            cases p25 <;> exact One.under fun _ _ _ => by kernel_rfl
          intro G15 xa xw hDn
          refine hDn.to [1, 2, 3, 4, 5, 6, 13, 14, 15, 16, 18, 19, 137] [] (by kernel_rfl) ?_
          clear hDn
          refine Pre.conv (sl := [(1, textsv), (2, valuesv), (3, blindsv), (4, .string text), (5, .int .i64 n), (6, .pointer (some ⟨b1, 0, none⟩)), (13, .bool true), (14, .pointer (some ⟨b2, 0, none⟩)), (15, .int .i64 n4), (16, v1), (18, .int .i64 sum), (19, .int .i64 all), (137, .bool p27)]) (A := [K1]) (L := [some (b1, .cells #[vv] 24 (0, 0)), some (b2, .cells #[v2] 24 (0, 0))]) ?_ (by kernel_rfl) (by kernel_rfl) (by kernel_rfl)
          clear G15
          refine At.then ?_
          refine W.cond p27 (by kernel_rfl) (fun xa hs => cnd_of (t := 137) (by kernel_rfl) (by kernel_rfl) hs) (fun hq => ?_) (fun hq => ?_)
          · skip
            have hq7 := hq
            replace hq7 := (iN hp27 (iOT (iN hp25 (iOT (iN hp23 (iOT (iN hp21 (iOT (iNT (iN hp19 iDF)) (iN hp20 (iNT iDF)))) (iN hp22 (iNT iDF)))) (iN hp24 (iNT iDF)))) (iN hp26 (iNT iDF)))).1 hq7
            rcases hq7 with (((h | h) | h) | h) | h <;> first | exact (h hSd).elim | omega
          · skip
            have hq8 := hq
            replace hq8 := (iN hp27 (iOF (iN hp25 (iOF (iN hp23 (iOF (iN hp21 (iOF (iNF (iN hp19 iDT)) (iN hp20 (iNF iDT)))) (iN hp22 (iNF iDT)))) (iN hp24 (iNF iDT)))) (iN hp26 (iNF iDT)))).1 hq8
            refine W.skip (by kernel_rfl) ?_
            refine At.then ?_
            refine W.seq (by kernel_rfl) ?_
            refine W.seq (by kernel_rfl) ?_
            obtain ⟨p28, hp28⟩ : ∃ zz : Bool, zz = (decide (((l1.take (Int.toNat n16))) = v)) := ⟨_, rfl⟩
            refine W.regV (whole_ct_r4_15 vv textsv valuesv blindsv text n b1 n4 b2 v1 v2 K1 sum all n16 p27 p28) [0, 2, 6, 9] [1, 3, 4, 5, 7, 8] (fun G => [.pointer (some ⟨b2, 0, none⟩), .pointer (some ⟨b1, 0, none⟩), .pointer (some ⟨b1, 0, none⟩), .bool (!p28)]) (by kernel_rfl) mo_le (by kernel_rfl) (fun _ _ => by kernel_rfl) ⟨?_, ?_, ?_, ?_, ?_, ?_, trivial⟩ (by kernel_rfl) ?_
            · exact One.loadE (t := 22) (r := 1) (off := 0) (b := fun G => b2) (vs := fun G => [v2]) (arr := fun G => #[v2]) (T := 24) (fr := (0, 0)) (fun G => ⟨by kernel_rfl⟩) (fun G => by kernel_rfl)
            · exact One.loadE (t := 22) (r := 0) (off := 0) (b := fun G => b1) (vs := fun G => [vv]) (arr := fun G => #[vv]) (T := 24) (fr := (0, 0)) (fun G => ⟨by kernel_rfl⟩) (fun G => by kernel_rfl)
            · exact One.len (t := 22) (n := n16) (v := fun G => vv) (fun _ => ⟨by kernel_rfl⟩) (fun G w hs => ⟨_, (hr5).isSl, hn16⟩)
            · exact One.slice (t := 22) (E := 44) (size := 5) (v := fun G => v2) (lo := none) (hi := some n16) (l := 0) (h := n16) (fun _ => ⟨by kernel_rfl⟩) (.inr ⟨rfl, rfl⟩) (fun G w hs => ⟨_, (hr6).isSl, .inl rfl, by first | omega | (simp only [List.length_append, List.length_cons, List.length_nil, List.length_replicate, List.length_set, List.length_take, List.length_drop, List.length_map, List.length_reverse, List.length_range]; omega), by first | omega | (simp only [List.length_append, List.length_cons, List.length_nil, List.length_replicate, List.length_set, List.length_take, List.length_drop, List.length_map, List.length_reverse, List.length_range]; omega), by first | omega | (simp only [List.length_append, List.length_cons, List.length_nil, List.length_replicate, List.length_set, List.length_take, List.length_drop, List.length_map, List.length_reverse, List.length_range]; omega)⟩)
            · exact One.loadE (t := 22) (r := 0) (off := 0) (b := fun G => b1) (vs := fun G => [vv]) (arr := fun G => #[vv]) (T := 24) (fr := (0, 0)) (fun G => ⟨by kernel_rfl⟩) (fun G => by kernel_rfl)
            · exact One.callP (v := fun G => .bool p28) (f := 18) (args := fun G => #[(subV v2 5 (Int.toNat 0) (Int.toNat n16)), vv]) (fun _ _ => by kernel_rfl) (fun G w hs => by
                rw [hp28]
                exact same_ct ((l1.take (Int.toNat n16))) ((subV v2 5 (Int.toNat 0) (Int.toNat n16))) v vv w K1 (hs.read 0 rfl) ((show RSl K1 (l1.take (Int.toNat n16)) (subV v2 5 (Int.toNat 0) (Int.toNat n16)) from (by have h0 := (hr6).sub (lo := Int.toNat 0) (hi := Int.toNat n16) (by first | omega | (simp only [List.length_append, List.length_cons, List.length_nil, List.length_replicate, List.length_set, List.length_take, List.length_drop, List.length_map, List.length_reverse, List.length_range]; omega)) (by first | omega | (simp only [List.length_append, List.length_cons, List.length_nil, List.length_replicate, List.length_set, List.length_take, List.length_drop, List.length_map, List.length_reverse, List.length_range]; omega)); first | exact h0 | (simpa using h0)))) (hr5) )
            intro G16 xa xw hDn
            refine hDn.to [1, 2, 3, 4, 5, 13, 14, 15, 16, 18, 19, 147] [] (by kernel_rfl) ?_
            clear hDn
            refine Pre.conv (sl := [(1, textsv), (2, valuesv), (3, blindsv), (4, .string text), (5, .int .i64 n), (13, .bool true), (14, .pointer (some ⟨b2, 0, none⟩)), (15, .int .i64 n4), (16, v1), (18, .int .i64 sum), (19, .int .i64 all), (147, .bool (!p28))]) (A := [K1]) (L := [some (b1, .cells #[vv] 24 (0, 0)), some (b2, .cells #[v2] 24 (0, 0))]) ?_ (by kernel_rfl) (by kernel_rfl) (by kernel_rfl)
            clear G16
            refine At.then ?_
            refine W.cond (!p28) (by kernel_rfl) (fun xa hs => cnd_of (t := 147) (by kernel_rfl) (by kernel_rfl) hs) (fun hq => ?_) (fun hq => ?_)
            · skip
              have hq9 := hq
              replace hq9 := (iNT (iN hp28 iDF)).1 hq9
              exact (hq9 (by rw [show n16.toNat = v.length by omega]; exact htk)).elim
            · skip
              have hq10 := hq
              replace hq10 := (iNF (iN hp28 iDT)).1 hq10
              refine W.skip (by kernel_rfl) ?_
              refine At.then ?_
              refine W.seq (by kernel_rfl) ?_
              refine W.seq (by kernel_rfl) ?_
              refine W.regV (whole_ct_r4_16 vv textsv valuesv blindsv text n b1 n4 b2 v1 v2 K1 sum all p28) [0] [] (fun G => [.int .i64 0]) (by kernel_rfl) mo_le (by kernel_rfl) (fun _ _ => by kernel_rfl) trivial (by kernel_rfl) ?_
              intro G17 xa xw hDn
              refine hDn.to [1, 2, 3, 4, 5, 13, 14, 15, 16, 18, 19, 21] [] (by kernel_rfl) ?_
              clear hDn
              refine Pre.conv (sl := [(1, textsv), (2, valuesv), (3, blindsv), (4, .string text), (5, .int .i64 n), (13, .bool true), (14, .pointer (some ⟨b2, 0, none⟩)), (15, .int .i64 n4), (16, v1), (18, .int .i64 sum), (19, .int .i64 all), (21, .int .i64 0)]) (A := [K1]) (L := [some (b1, .cells #[vv] 24 (0, 0)), some (b2, .cells #[v2] 24 (0, 0))]) ?_ (by kernel_rfl) (by kernel_rfl) (by kernel_rfl)
              clear G17
              refine At.then ?_
              refine W.block 2 (by kernel_rfl) ?_
              refine W.loopS (γ := Heaplet × Int) (fun ⟨K2, i_1⟩ => [(1, textsv), (2, valuesv), (3, blindsv), (4, .string text), (5, .int .i64 n), (13, .bool true), (14, .pointer (some ⟨b2, 0, none⟩)), (15, .int .i64 n4), (16, v1), (18, .int .i64 sum), (19, .int .i64 all), (21, .int .i64 i_1)]) (fun ⟨K2, i_1⟩ => [K2]) (fun ⟨K2, i_1⟩ => [some (b1, .cells #[vv] 24 (0, 0)), some (b2, .cells #[v2] 24 (0, 0))]) (fun ⟨K2, i_1⟩ => (Sub K1 K2) ∧ (Ext w0 H K2) ∧ (0 ≤ i_1) ∧ (i_1 ≤ (texts.length : Int))) (fun ⟨K2, i_1⟩ => ((texts.length : Int) - i_1).toNat) (K1, 0) (by kernel_rfl) ?_ ?_
              · intro xa xw hs hw
                refine ⟨hs.sub (by kernel_rfl), hw.mask [true, true] (by kernel_rfl), ?_⟩
                refine ⟨Sub.refl _, hE1, ?_, ?_⟩
                · show 0 ≤ (0 : Int)
                  first | omega | rfl | (simp; done) | (subst_vars; simp; done)
                · show (0 : Int) ≤ (texts.length : Int)
                  first | omega | rfl | (simp; done) | (subst_vars; simp; done)
              · rintro ⟨K2, i_1⟩ hF
                have hF : (Sub K1 K2) ∧ (Ext w0 H K2) ∧ (0 ≤ i_1) ∧ (i_1 ≤ (texts.length : Int)) := hF
                obtain ⟨hk3, hE2, hf6, hf7⟩ := hF
                show W Try.prog 317 w0 [] (Code.l (Code.l (Code.r (Code.l (Code.r (Code.r (Code.r (Code.r (Code.r (Code.r (Code.r (Code.r (Code.r (Code.r (body Try.f4))))))))))))))) _ [(1, textsv), (2, valuesv), (3, blindsv), (4, .string text), (5, .int .i64 n), (13, .bool true), (14, .pointer (some ⟨b2, 0, none⟩)), (15, .int .i64 n4), (16, v1), (18, .int .i64 sum), (19, .int .i64 all), (21, .int .i64 i_1)] [K2] [some (b1, .cells #[vv] 24 (0, 0)), some (b2, .cells #[v2] 24 (0, 0))]
                have hr7 := (hr1).mono hk3
                have hr8 := (hr2).mono hk3
                have hr9 := (hr3).mono hk3
                have hr10 := (hr4).mono hk3
                have hr11 := (hr5).mono hk3
                have hr12 := (hr6).mono hk3
                refine W.seq (by kernel_rfl) ?_
                refine W.seq (by kernel_rfl) ?_
                obtain ⟨p29, hp29⟩ : ∃ zz : Bool, zz = decide (i_1 < n13) := ⟨_, rfl⟩
                refine W.regV (whole_ct_r4_17 vv textsv valuesv blindsv text n b1 n4 b2 v1 v2 sum all n13 K2 i_1 p29) [0, 1] [2, 3] (fun G => [.int .i64 i_1, textsv]) (by kernel_rfl) mo_le (by kernel_rfl) (fun _ _ => by kernel_rfl) ⟨?_, ?_, trivial⟩ (by kernel_rfl) ?_
                · exact One.len (t := 25) (n := n13) (v := fun G => textsv) (fun _ => ⟨by kernel_rfl⟩) (fun G w hs => ⟨_, (hr7).isSl, hn13⟩)
                · exact One.bo hp29 (fun _ _ => by kernel_rfl)
                intro G18 xa xw hDn
                refine hDn.to [1, 2, 3, 4, 5, 13, 14, 15, 16, 18, 19, 21, 151] [] (by kernel_rfl) ?_
                clear hDn
                refine Pre.conv (sl := [(1, textsv), (2, valuesv), (3, blindsv), (4, .string text), (5, .int .i64 n), (13, .bool true), (14, .pointer (some ⟨b2, 0, none⟩)), (15, .int .i64 n4), (16, v1), (18, .int .i64 sum), (19, .int .i64 all), (21, .int .i64 i_1), (151, .bool p29)]) (A := [K2]) (L := [some (b1, .cells #[vv] 24 (0, 0)), some (b2, .cells #[v2] 24 (0, 0))]) ?_ (by kernel_rfl) (by kernel_rfl) (by kernel_rfl)
                clear G18
                refine At.then ?_
                refine W.cond p29 (by kernel_rfl) (fun xa hs => cnd_of (t := 151) (by kernel_rfl) (by kernel_rfl) hs) (fun hq => ?_) (fun hq => ?_)
                · skip
                  have hq11 := hq
                  replace hq11 := (iN hp29 iDT).1 hq11
                  refine W.skip (by kernel_rfl) ?_
                  refine At.then ?_
                  refine W.seq (by kernel_rfl) ?_
                  refine W.block 3 (by kernel_rfl) ?_
                  refine W.seq (by kernel_rfl) ?_
                  obtain ⟨n20, hn20⟩ : ∃ zz : Int, zz = l2.getD i_1.toNat default := ⟨_, rfl⟩
                  obtain ⟨l3, hl3⟩ : ∃ zz : List Int, zz = (Tm.pathF l1 n4 n20) := ⟨_, rfl⟩
                  refine W.regV (whole_ct_r4_18 w0 v vv textsv valuesv blindsv text n H b1 n4 b2 v1 v2 sum all K2 i_1 p29 n20 l3) [1, 2, 3, 7] [0, 4, 5, 6] (fun G => [.int .i64 n4, v1, .int .i64 i_1, (G 6).v]) (by kernel_rfl) mo_le (by kernel_rfl) (fun _ _ => by kernel_rfl) ⟨?_, ?_, ?_, ?_, trivial⟩ (by kernel_rfl) ?_
                  · exact One.loadE (t := 24) (r := 1) (off := 0) (b := fun G => b2) (vs := fun G => [v2]) (arr := fun G => #[v2]) (T := 24) (fr := (0, 0)) (fun G => ⟨by kernel_rfl⟩) (fun G => by kernel_rfl)
                  · exact One.index (t := 26) (e := 3) (size := 1) (v := fun G => v1) (k := .i64) (n := i_1) (fun _ => ⟨by kernel_rfl⟩) (fun G w hs => ⟨_, (hr10).isSl, by first | omega | (simp only [List.length_append, List.length_cons, List.length_nil, List.length_replicate, List.length_set, List.length_take, List.length_drop, List.length_map, List.length_reverse, List.length_range]; omega), by first | omega | (simp only [List.length_append, List.length_cons, List.length_nil, List.length_replicate, List.length_set, List.length_take, List.length_drop, List.length_map, List.length_reverse, List.length_range]; omega)⟩)
                  · exact One.loadD (α := Int) (t := 3) (size := 1) (off := 0) (k := i_1) (l := fun G => l2) (x := fun G => n20) (vs := fun G => [.int .i64 n20]) (v := fun G => v1) (H := fun G => K2) (p := fun G => elemAddr v1 (i_1.toNat * 1)) (fun G => ⟨by kernel_rfl⟩) rfl (fun G => by kernel_rfl) (fun G w hs => ⟨(hs.read 0 rfl), hr10, (add_zero' _).symm, by omega, by first | omega | (simp only [List.length_append, List.length_cons, List.length_nil, List.length_replicate, List.length_set, List.length_take, List.length_drop, List.length_map, List.length_reverse, List.length_range]; omega), hn20⟩)
                  · exact One.callM (f := 20) (args := fun G => #[.agg #[v2], .int .i64 n4, .int .i64 n20]) (H := fun G => K2) (V := fun G g => g.v) (F := fun G J g => RSl J l3 g.v) (fun G g w => ⟨by kernel_rfl, by kernel_rfl⟩) (fun G w hs => by
                      rw [hl3]
                      exact path_ct l1 v2 n4 n20 w K2 (hs.read 0 rfl) (hr12) )
                  intro G19 xa xw hDn
                  have hf6_8 : (RSl (hun (G19 6).H K2) l3 (G19 6).v) ∧ New w0 (G19 6).H := hDn.get 6 (by kernel_rfl) (by kernel_rfl) (by kernel_rfl)
                  refine hDn.to [1, 2, 3, 4, 5, 13, 14, 15, 16, 18, 19, 21, 22] [6] (by kernel_rfl) ?_
                  clear hDn
                  refine Pre.conv (sl := [(1, textsv), (2, valuesv), (3, blindsv), (4, .string text), (5, .int .i64 n), (13, .bool true), (14, .pointer (some ⟨b2, 0, none⟩)), (15, .int .i64 n4), (16, v1), (18, .int .i64 sum), (19, .int .i64 all), (21, .int .i64 i_1), (22, (G19 6).v)]) (A := [(G19 6).H, K2]) (L := [some (b1, .cells #[vv] 24 (0, 0)), some (b2, .cells #[v2] 24 (0, 0))]) ?_ (by kernel_rfl) (by kernel_rfl) (by kernel_rfl)
                  generalize (G19 6).v = v3 at hf6_8 ⊢
                  generalize (G19 6).H = N2 at hf6_8 ⊢
                  clear G19
                  refine Pre.merge (Ns := [N2]) hE2 (by simp only [List.mem_cons, List.not_mem_nil, or_false, forall_eq_or_imp, forall_eq]; exact hf6_8.2) (fun K3 hk4 hk5 hE3 => ?_)
                  have hr13 := (hr7).mono hk4
                  have hr13n := hr13.lim
                  have hr14 := (hr8).mono hk4
                  have hr14n := hr14.lim
                  have hr15 := (hr9).mono hk4
                  have hr15n := hr15.lim
                  have hr16 := (hr10).mono hk4
                  have hr16n := hr16.lim
                  have hr17 := (hf6_8.1).mono (hun_sub (hk5 _ (by simp)) hk4)
                  have hr17n := hr17.lim
                  have hr18 := (hr11).mono hk4
                  have hr18n := hr18.lim
                  have hr19 := (hr12).mono hk4
                  have hr19n := hr19.lim
                  have hix := Tm.ids_get hLl (by omega) (by omega) hn20
                  have hel1 := hel i_1.toNat (by omega)
                  refine At.then ?_
                  refine W.seq (by kernel_rfl) ?_
                  refine W.seq (by kernel_rfl) ?_
                  obtain ⟨s1, hs1⟩ : ∃ zz : ByteArray, zz = texts.getD i_1.toNat default := ⟨_, rfl⟩
                  obtain ⟨n21, hn21⟩ : ∃ zz : Int, zz = values.getD i_1.toNat default := ⟨_, rfl⟩
                  obtain ⟨n22, hn22⟩ : ∃ zz : Int, zz = blinds.getD i_1.toNat default := ⟨_, rfl⟩
                  obtain ⟨p30, hp30⟩ : ∃ zz : Bool, zz = (decide (Tm.checkP l1 l3 sum all s1 n21 n22)) := ⟨_, rfl⟩
                  obtain ⟨p31, hp31⟩ : ∃ zz : Bool, zz = (decide (Tm.opensP l1 n20 s1 n21 n22)) := ⟨_, rfl⟩
                  obtain ⟨p32, hp32⟩ : ∃ zz : Bool, zz = (!p30 || !p31) := ⟨_, rfl⟩
                  have hck : ∀ (t b x o : Int) (z : ByteArray), Tm.checkP l1 l3 t b z x o ↔ t = sum ∧ b = all ∧ z = s1 ∧ x = n21 ∧ o = n22 := by
                    intro t b x o z
                    rw [hl1, Tm.whole_check he (by omega : i_1.toNat < texts.length) (by rw [hl3, hl1, hn4, hix]), hsum, hall, hs1, hn21, hn22]
                  have hop : Tm.opensP l1 n20 s1 n21 n22 := by
                    rw [hix]
                    refine ⟨hSd, hel1.1.has2, ?_, ?_, ?_⟩ <;> rw [hel1.2]
                    · exact hs1.symm
                    · exact hn21.symm
                    · exact hn22.symm
                  refine W.regV (whole_ct_r4_19 vv textsv valuesv blindsv text n b1 n4 b2 v1 v2 sum all i_1 n20 v3 K3 s1 n21 n22 p30 p31 p32) [1, 2, 3, 4, 5, 8, 9, 12, 13, 17, 18, 20, 21, 24, 25, 28, 29, 32, 33, 37] [0, 6, 7, 10, 11, 14, 15, 16, 19, 22, 23, 26, 27, 30, 31, 34, 35, 36, 38] (fun G => [v3, .int .i64 sum, .int .i64 all, textsv, .int .i64 i_1, valuesv, .int .i64 i_1, blindsv, .int .i64 i_1, .bool (!p30), .bool (!p30), v1, .int .i64 i_1, textsv, .int .i64 i_1, valuesv, .int .i64 i_1, blindsv, .int .i64 i_1, .bool (!p31)]) (by kernel_rfl) mo_le (by kernel_rfl) (fun _ _ => by kernel_rfl) ⟨?_, ?_, ?_, ?_, ?_, ?_, ?_, ?_, ?_, ?_, ?_, ?_, ?_, ?_, ?_, ?_, ?_, ?_, ?_, trivial⟩ (by kernel_rfl) ?_
                  · exact One.loadE (t := 24) (r := 1) (off := 0) (b := fun G => b2) (vs := fun G => [v2]) (arr := fun G => #[v2]) (T := 24) (fr := (0, 0)) (fun G => ⟨by kernel_rfl⟩) (fun G => by kernel_rfl)
                  · exact One.index (t := 25) (e := 9) (size := 1) (v := fun G => textsv) (k := .i64) (n := i_1) (fun _ => ⟨by kernel_rfl⟩) (fun G w hs => ⟨_, (hr13).isSl, by first | omega | (simp only [List.length_append, List.length_cons, List.length_nil, List.length_replicate, List.length_set, List.length_take, List.length_drop, List.length_map, List.length_reverse, List.length_range]; omega), by first | omega | (simp only [List.length_append, List.length_cons, List.length_nil, List.length_replicate, List.length_set, List.length_take, List.length_drop, List.length_map, List.length_reverse, List.length_range]; omega)⟩)
                  · exact One.loadD (α := ByteArray) (t := 9) (size := 1) (off := 0) (k := i_1) (l := fun G => texts) (x := fun G => s1) (vs := fun G => [.string s1]) (v := fun G => textsv) (H := fun G => K3) (p := fun G => elemAddr textsv (i_1.toNat * 1)) (fun G => ⟨by kernel_rfl⟩) rfl (fun G => by kernel_rfl) (fun G w hs => ⟨(hs.read 0 rfl), hr13, (add_zero' _).symm, by omega, by first | omega | (simp only [List.length_append, List.length_cons, List.length_nil, List.length_replicate, List.length_set, List.length_take, List.length_drop, List.length_map, List.length_reverse, List.length_range]; omega), hs1⟩)
                  · exact One.index (t := 26) (e := 3) (size := 1) (v := fun G => valuesv) (k := .i64) (n := i_1) (fun _ => ⟨by kernel_rfl⟩) (fun G w hs => ⟨_, (hr14).isSl, by first | omega | (simp only [List.length_append, List.length_cons, List.length_nil, List.length_replicate, List.length_set, List.length_take, List.length_drop, List.length_map, List.length_reverse, List.length_range]; omega), by first | omega | (simp only [List.length_append, List.length_cons, List.length_nil, List.length_replicate, List.length_set, List.length_take, List.length_drop, List.length_map, List.length_reverse, List.length_range]; omega)⟩)
                  · exact One.loadD (α := Int) (t := 3) (size := 1) (off := 0) (k := i_1) (l := fun G => values) (x := fun G => n21) (vs := fun G => [.int .i64 n21]) (v := fun G => valuesv) (H := fun G => K3) (p := fun G => elemAddr valuesv (i_1.toNat * 1)) (fun G => ⟨by kernel_rfl⟩) rfl (fun G => by kernel_rfl) (fun G w hs => ⟨(hs.read 0 rfl), hr14, (add_zero' _).symm, by omega, by first | omega | (simp only [List.length_append, List.length_cons, List.length_nil, List.length_replicate, List.length_set, List.length_take, List.length_drop, List.length_map, List.length_reverse, List.length_range]; omega), hn21⟩)
                  · exact One.index (t := 26) (e := 3) (size := 1) (v := fun G => blindsv) (k := .i64) (n := i_1) (fun _ => ⟨by kernel_rfl⟩) (fun G w hs => ⟨_, (hr15).isSl, by first | omega | (simp only [List.length_append, List.length_cons, List.length_nil, List.length_replicate, List.length_set, List.length_take, List.length_drop, List.length_map, List.length_reverse, List.length_range]; omega), by first | omega | (simp only [List.length_append, List.length_cons, List.length_nil, List.length_replicate, List.length_set, List.length_take, List.length_drop, List.length_map, List.length_reverse, List.length_range]; omega)⟩)
                  · exact One.loadD (α := Int) (t := 3) (size := 1) (off := 0) (k := i_1) (l := fun G => blinds) (x := fun G => n22) (vs := fun G => [.int .i64 n22]) (v := fun G => blindsv) (H := fun G => K3) (p := fun G => elemAddr blindsv (i_1.toNat * 1)) (fun G => ⟨by kernel_rfl⟩) rfl (fun G => by kernel_rfl) (fun G w hs => ⟨(hs.read 0 rfl), hr15, (add_zero' _).symm, by omega, by first | omega | (simp only [List.length_append, List.length_cons, List.length_nil, List.length_replicate, List.length_set, List.length_take, List.length_drop, List.length_map, List.length_reverse, List.length_range]; omega), hn22⟩)
                  · exact One.callP (v := fun G => .bool p30) (f := 24) (args := fun G => #[.agg #[v2], v3, .int .i64 sum, .int .i64 all, .string s1, .int .i64 n21, .int .i64 n22]) (fun _ _ => by kernel_rfl) (fun G w hs => by
                      rw [hp30]
                      exact check_ct l1 v2 l3 v3 sum all s1 n21 n22 w K3 (hs.read 0 rfl) (hr19) (hr17) )
                  · exact One.loadE (t := 24) (r := 1) (off := 0) (b := fun G => b2) (vs := fun G => [v2]) (arr := fun G => #[v2]) (T := 24) (fr := (0, 0)) (fun G => ⟨by kernel_rfl⟩) (fun G => by kernel_rfl)
                  · exact One.index (t := 26) (e := 3) (size := 1) (v := fun G => v1) (k := .i64) (n := i_1) (fun _ => ⟨by kernel_rfl⟩) (fun G w hs => by
                      have hg := gd_of hs (p := (true && ((!p30) == false))) (by kernel_rfl)
                      have hg0 := (iNF (iN hp30 iDT)).1 (eqF (andR hg))
                      exact ⟨_, (hr16).isSl, by first | omega | (simp only [List.length_append, List.length_cons, List.length_nil, List.length_replicate, List.length_set, List.length_take, List.length_drop, List.length_map, List.length_reverse, List.length_range]; omega), by first | omega | (simp only [List.length_append, List.length_cons, List.length_nil, List.length_replicate, List.length_set, List.length_take, List.length_drop, List.length_map, List.length_reverse, List.length_range]; omega)⟩)
                  · exact One.loadD (α := Int) (t := 3) (size := 1) (off := 0) (k := i_1) (l := fun G => l2) (x := fun G => n20) (vs := fun G => [.int .i64 n20]) (v := fun G => v1) (H := fun G => K3) (p := fun G => elemAddr v1 (i_1.toNat * 1)) (fun G => ⟨by kernel_rfl⟩) rfl (fun G => by kernel_rfl) (fun G w hs => by
                      have hg := gd_of hs (p := (true && ((!p30) == false))) (by kernel_rfl)
                      have hg0 := (iNF (iN hp30 iDT)).1 (eqF (andR hg))
                      exact ⟨(hs.read 0 rfl), hr16, (add_zero' _).symm, by omega, by first | omega | (simp only [List.length_append, List.length_cons, List.length_nil, List.length_replicate, List.length_set, List.length_take, List.length_drop, List.length_map, List.length_reverse, List.length_range]; omega), hn20⟩)
                  · exact One.index (t := 25) (e := 9) (size := 1) (v := fun G => textsv) (k := .i64) (n := i_1) (fun _ => ⟨by kernel_rfl⟩) (fun G w hs => by
                      have hg := gd_of hs (p := (true && ((!p30) == false))) (by kernel_rfl)
                      have hg0 := (iNF (iN hp30 iDT)).1 (eqF (andR hg))
                      exact ⟨_, (hr13).isSl, by first | omega | (simp only [List.length_append, List.length_cons, List.length_nil, List.length_replicate, List.length_set, List.length_take, List.length_drop, List.length_map, List.length_reverse, List.length_range]; omega), by first | omega | (simp only [List.length_append, List.length_cons, List.length_nil, List.length_replicate, List.length_set, List.length_take, List.length_drop, List.length_map, List.length_reverse, List.length_range]; omega)⟩)
                  · exact One.loadD (α := ByteArray) (t := 9) (size := 1) (off := 0) (k := i_1) (l := fun G => texts) (x := fun G => s1) (vs := fun G => [.string s1]) (v := fun G => textsv) (H := fun G => K3) (p := fun G => elemAddr textsv (i_1.toNat * 1)) (fun G => ⟨by kernel_rfl⟩) rfl (fun G => by kernel_rfl) (fun G w hs => by
                      have hg := gd_of hs (p := (true && ((!p30) == false))) (by kernel_rfl)
                      have hg0 := (iNF (iN hp30 iDT)).1 (eqF (andR hg))
                      exact ⟨(hs.read 0 rfl), hr13, (add_zero' _).symm, by omega, by first | omega | (simp only [List.length_append, List.length_cons, List.length_nil, List.length_replicate, List.length_set, List.length_take, List.length_drop, List.length_map, List.length_reverse, List.length_range]; omega), hs1⟩)
                  · exact One.index (t := 26) (e := 3) (size := 1) (v := fun G => valuesv) (k := .i64) (n := i_1) (fun _ => ⟨by kernel_rfl⟩) (fun G w hs => by
                      have hg := gd_of hs (p := (true && ((!p30) == false))) (by kernel_rfl)
                      have hg0 := (iNF (iN hp30 iDT)).1 (eqF (andR hg))
                      exact ⟨_, (hr14).isSl, by first | omega | (simp only [List.length_append, List.length_cons, List.length_nil, List.length_replicate, List.length_set, List.length_take, List.length_drop, List.length_map, List.length_reverse, List.length_range]; omega), by first | omega | (simp only [List.length_append, List.length_cons, List.length_nil, List.length_replicate, List.length_set, List.length_take, List.length_drop, List.length_map, List.length_reverse, List.length_range]; omega)⟩)
                  · exact One.loadD (α := Int) (t := 3) (size := 1) (off := 0) (k := i_1) (l := fun G => values) (x := fun G => n21) (vs := fun G => [.int .i64 n21]) (v := fun G => valuesv) (H := fun G => K3) (p := fun G => elemAddr valuesv (i_1.toNat * 1)) (fun G => ⟨by kernel_rfl⟩) rfl (fun G => by kernel_rfl) (fun G w hs => by
                      have hg := gd_of hs (p := (true && ((!p30) == false))) (by kernel_rfl)
                      have hg0 := (iNF (iN hp30 iDT)).1 (eqF (andR hg))
                      exact ⟨(hs.read 0 rfl), hr14, (add_zero' _).symm, by omega, by first | omega | (simp only [List.length_append, List.length_cons, List.length_nil, List.length_replicate, List.length_set, List.length_take, List.length_drop, List.length_map, List.length_reverse, List.length_range]; omega), hn21⟩)
                  · exact One.index (t := 26) (e := 3) (size := 1) (v := fun G => blindsv) (k := .i64) (n := i_1) (fun _ => ⟨by kernel_rfl⟩) (fun G w hs => by
                      have hg := gd_of hs (p := (true && ((!p30) == false))) (by kernel_rfl)
                      have hg0 := (iNF (iN hp30 iDT)).1 (eqF (andR hg))
                      exact ⟨_, (hr15).isSl, by first | omega | (simp only [List.length_append, List.length_cons, List.length_nil, List.length_replicate, List.length_set, List.length_take, List.length_drop, List.length_map, List.length_reverse, List.length_range]; omega), by first | omega | (simp only [List.length_append, List.length_cons, List.length_nil, List.length_replicate, List.length_set, List.length_take, List.length_drop, List.length_map, List.length_reverse, List.length_range]; omega)⟩)
                  · exact One.loadD (α := Int) (t := 3) (size := 1) (off := 0) (k := i_1) (l := fun G => blinds) (x := fun G => n22) (vs := fun G => [.int .i64 n22]) (v := fun G => blindsv) (H := fun G => K3) (p := fun G => elemAddr blindsv (i_1.toNat * 1)) (fun G => ⟨by kernel_rfl⟩) rfl (fun G => by kernel_rfl) (fun G w hs => by
                      have hg := gd_of hs (p := (true && ((!p30) == false))) (by kernel_rfl)
                      have hg0 := (iNF (iN hp30 iDT)).1 (eqF (andR hg))
                      exact ⟨(hs.read 0 rfl), hr15, (add_zero' _).symm, by omega, by first | omega | (simp only [List.length_append, List.length_cons, List.length_nil, List.length_replicate, List.length_set, List.length_take, List.length_drop, List.length_map, List.length_reverse, List.length_range]; omega), hn22⟩)
                  · exact One.callP (v := fun G => .bool p31) (f := 27) (args := fun G => #[.agg #[v2], .int .i64 n20, .string s1, .int .i64 n21, .int .i64 n22]) (fun _ _ => by kernel_rfl) (fun G w hs => by
                      have hg := gd_of hs (p := (true && ((!p30) == false))) (by kernel_rfl)
                      have hg0 := (iNF (iN hp30 iDT)).1 (eqF (andR hg))
                      rw [hp31]
                      exact opens_ct l1 v2 n20 s1 n21 n22 w K3 (hs.read 0 rfl) (hr19) )
                  · subst hp32
                    cases p30 <;> exact One.under fun _ _ _ => by kernel_rfl
                  intro G20 xa xw hDn
                  refine hDn.to [1, 2, 3, 4, 5, 13, 14, 15, 16, 18, 19, 21, 22, 199] [] (by kernel_rfl) ?_
                  clear hDn
                  refine Pre.conv (sl := [(1, textsv), (2, valuesv), (3, blindsv), (4, .string text), (5, .int .i64 n), (13, .bool true), (14, .pointer (some ⟨b2, 0, none⟩)), (15, .int .i64 n4), (16, v1), (18, .int .i64 sum), (19, .int .i64 all), (21, .int .i64 i_1), (22, v3), (199, .bool p32)]) (A := [K3]) (L := [some (b1, .cells #[vv] 24 (0, 0)), some (b2, .cells #[v2] 24 (0, 0))]) ?_ (by kernel_rfl) (by kernel_rfl) (by kernel_rfl)
                  clear G20
                  refine At.then ?_
                  refine W.cond p32 (by kernel_rfl) (fun xa hs => cnd_of (t := 199) (by kernel_rfl) (by kernel_rfl) hs) (fun hq => ?_) (fun hq => ?_)
                  · skip
                    have hq12 := hq
                    replace hq12 := (iN hp32 (iOT (iNT (iN hp30 iDF)) (iNT (iN hp31 iDF)))).1 hq12
                    rcases hq12 with h | h <;> first | exact (h ((hck _ _ _ _ _).2 ⟨rfl, rfl, rfl, rfl, rfl⟩)).elim | exact (h hop).elim
                  · skip
                    have hq13 := hq
                    replace hq13 := (iN hp32 (iOF (iNF (iN hp30 iDT)) (iNF (iN hp31 iDT)))).1 hq13
                    refine W.skip (by kernel_rfl) ?_
                    refine At.then ?_
                    refine W.seq (by kernel_rfl) ?_
                    refine W.seq (by kernel_rfl) ?_
                    obtain ⟨p33, hp33⟩ : ∃ zz : Bool, zz = !(decide (text = s1)) := ⟨_, rfl⟩
                    obtain ⟨p34, hp34⟩ : ∃ zz : Bool, zz = (decide (Tm.checkP l1 l3 sum all text n21 n22)) := ⟨_, rfl⟩
                    obtain ⟨p35, hp35⟩ : ∃ zz : Bool, zz = (p33 && p34) := ⟨_, rfl⟩
                    obtain ⟨p36, hp36⟩ : ∃ zz : Bool, zz = !(decide (n = n21)) := ⟨_, rfl⟩
                    obtain ⟨p37, hp37⟩ : ∃ zz : Bool, zz = (decide (Tm.checkP l1 l3 sum all s1 n n22)) := ⟨_, rfl⟩
                    obtain ⟨p38, hp38⟩ : ∃ zz : Bool, zz = (p36 && p37) := ⟨_, rfl⟩
                    obtain ⟨p39, hp39⟩ : ∃ zz : Bool, zz = (p35 || p38) := ⟨_, rfl⟩
                    obtain ⟨p40, hp40⟩ : ∃ zz : Bool, zz = !(decide (n = n22)) := ⟨_, rfl⟩
                    obtain ⟨p41, hp41⟩ : ∃ zz : Bool, zz = (decide (Tm.checkP l1 l3 sum all s1 n21 n)) := ⟨_, rfl⟩
                    obtain ⟨p42, hp42⟩ : ∃ zz : Bool, zz = (p40 && p41) := ⟨_, rfl⟩
                    obtain ⟨p43, hp43⟩ : ∃ zz : Bool, zz = (p39 || p42) := ⟨_, rfl⟩
                    refine W.regV (whole_ct_r4_20 vv textsv valuesv blindsv text n b1 n4 b2 v1 v2 sum all i_1 v3 K3 s1 n21 n22 p32 p33 p34 p35 p36 p37 p38 p39 p40 p41 p42 p43) [0, 1, 2, 6, 8, 9, 10, 11, 12, 13, 16, 17, 22, 23, 24, 25, 29, 31, 32, 33, 34, 35, 38, 39, 40, 46, 47, 48, 49, 53, 55, 56, 57, 58, 59, 62, 63, 66] [3, 4, 5, 7, 14, 15, 18, 19, 20, 21, 26, 27, 28, 30, 36, 37, 41, 42, 43, 44, 45, 50, 51, 52, 54, 60, 61, 64, 65, 67, 68, 69] (fun G => [.string text, textsv, .int .i64 i_1, .bool p33, v3, .int .i64 sum, .int .i64 all, .string text, valuesv, .int .i64 i_1, blindsv, .int .i64 i_1, .bool p35, .int .i64 n, valuesv, .int .i64 i_1, .bool p36, v3, .int .i64 sum, .int .i64 all, textsv, .int .i64 i_1, .int .i64 n, blindsv, .int .i64 i_1, .bool p39, .int .i64 n, blindsv, .int .i64 i_1, .bool p40, v3, .int .i64 sum, .int .i64 all, textsv, .int .i64 i_1, valuesv, .int .i64 i_1, .int .i64 n]) (by kernel_rfl) mo_le (by kernel_rfl) (fun _ _ => by kernel_rfl) ⟨?_, ?_, ?_, ?_, ?_, ?_, ?_, ?_, ?_, ?_, ?_, ?_, ?_, ?_, ?_, ?_, ?_, ?_, ?_, ?_, ?_, ?_, ?_, ?_, ?_, ?_, ?_, ?_, ?_, ?_, ?_, ?_, trivial⟩ (by kernel_rfl) ?_
                    · exact One.index (t := 25) (e := 9) (size := 1) (v := fun G => textsv) (k := .i64) (n := i_1) (fun _ => ⟨by kernel_rfl⟩) (fun G w hs => ⟨_, (hr13).isSl, by first | omega | (simp only [List.length_append, List.length_cons, List.length_nil, List.length_replicate, List.length_set, List.length_take, List.length_drop, List.length_map, List.length_reverse, List.length_range]; omega), by first | omega | (simp only [List.length_append, List.length_cons, List.length_nil, List.length_replicate, List.length_set, List.length_take, List.length_drop, List.length_map, List.length_reverse, List.length_range]; omega)⟩)
                    · exact One.loadD (α := ByteArray) (t := 9) (size := 1) (off := 0) (k := i_1) (l := fun G => texts) (x := fun G => s1) (vs := fun G => [.string s1]) (v := fun G => textsv) (H := fun G => K3) (p := fun G => elemAddr textsv (i_1.toNat * 1)) (fun G => ⟨by kernel_rfl⟩) rfl (fun G => by kernel_rfl) (fun G w hs => ⟨(hs.read 0 rfl), hr13, (add_zero' _).symm, by omega, by first | omega | (simp only [List.length_append, List.length_cons, List.length_nil, List.length_replicate, List.length_set, List.length_take, List.length_drop, List.length_map, List.length_reverse, List.length_range]; omega), hs1⟩)
                    · exact One.eq (congrArg Value.bool ((congrArg not (toList_bytes _ _)).trans hp33.symm)) (fun _ _ => by kernel_rfl)
                    · exact One.loadE (t := 24) (r := 1) (off := 0) (b := fun G => b2) (vs := fun G => [v2]) (arr := fun G => #[v2]) (T := 24) (fr := (0, 0)) (fun G => ⟨by kernel_rfl⟩) (fun G => by kernel_rfl)
                    · exact One.index (t := 26) (e := 3) (size := 1) (v := fun G => valuesv) (k := .i64) (n := i_1) (fun _ => ⟨by kernel_rfl⟩) (fun G w hs => by
                        have hg := gd_of hs (p := (true && (p33 == true))) (by kernel_rfl)
                        have hg0 := (iN hp33 (iNT iDF)).1 (eqT (andR hg))
                        exact ⟨_, (hr14).isSl, by first | omega | (simp only [List.length_append, List.length_cons, List.length_nil, List.length_replicate, List.length_set, List.length_take, List.length_drop, List.length_map, List.length_reverse, List.length_range]; omega), by first | omega | (simp only [List.length_append, List.length_cons, List.length_nil, List.length_replicate, List.length_set, List.length_take, List.length_drop, List.length_map, List.length_reverse, List.length_range]; omega)⟩)
                    · exact One.loadD (α := Int) (t := 3) (size := 1) (off := 0) (k := i_1) (l := fun G => values) (x := fun G => n21) (vs := fun G => [.int .i64 n21]) (v := fun G => valuesv) (H := fun G => K3) (p := fun G => elemAddr valuesv (i_1.toNat * 1)) (fun G => ⟨by kernel_rfl⟩) rfl (fun G => by kernel_rfl) (fun G w hs => by
                        have hg := gd_of hs (p := (true && (p33 == true))) (by kernel_rfl)
                        have hg0 := (iN hp33 (iNT iDF)).1 (eqT (andR hg))
                        exact ⟨(hs.read 0 rfl), hr14, (add_zero' _).symm, by omega, by first | omega | (simp only [List.length_append, List.length_cons, List.length_nil, List.length_replicate, List.length_set, List.length_take, List.length_drop, List.length_map, List.length_reverse, List.length_range]; omega), hn21⟩)
                    · exact One.index (t := 26) (e := 3) (size := 1) (v := fun G => blindsv) (k := .i64) (n := i_1) (fun _ => ⟨by kernel_rfl⟩) (fun G w hs => by
                        have hg := gd_of hs (p := (true && (p33 == true))) (by kernel_rfl)
                        have hg0 := (iN hp33 (iNT iDF)).1 (eqT (andR hg))
                        exact ⟨_, (hr15).isSl, by first | omega | (simp only [List.length_append, List.length_cons, List.length_nil, List.length_replicate, List.length_set, List.length_take, List.length_drop, List.length_map, List.length_reverse, List.length_range]; omega), by first | omega | (simp only [List.length_append, List.length_cons, List.length_nil, List.length_replicate, List.length_set, List.length_take, List.length_drop, List.length_map, List.length_reverse, List.length_range]; omega)⟩)
                    · exact One.loadD (α := Int) (t := 3) (size := 1) (off := 0) (k := i_1) (l := fun G => blinds) (x := fun G => n22) (vs := fun G => [.int .i64 n22]) (v := fun G => blindsv) (H := fun G => K3) (p := fun G => elemAddr blindsv (i_1.toNat * 1)) (fun G => ⟨by kernel_rfl⟩) rfl (fun G => by kernel_rfl) (fun G w hs => by
                        have hg := gd_of hs (p := (true && (p33 == true))) (by kernel_rfl)
                        have hg0 := (iN hp33 (iNT iDF)).1 (eqT (andR hg))
                        exact ⟨(hs.read 0 rfl), hr15, (add_zero' _).symm, by omega, by first | omega | (simp only [List.length_append, List.length_cons, List.length_nil, List.length_replicate, List.length_set, List.length_take, List.length_drop, List.length_map, List.length_reverse, List.length_range]; omega), hn22⟩)
                    · exact One.callP (v := fun G => .bool p34) (f := 24) (args := fun G => #[.agg #[v2], v3, .int .i64 sum, .int .i64 all, .string text, .int .i64 n21, .int .i64 n22]) (fun _ _ => by kernel_rfl) (fun G w hs => by
                        have hg := gd_of hs (p := (true && (p33 == true))) (by kernel_rfl)
                        have hg0 := (iN hp33 (iNT iDF)).1 (eqT (andR hg))
                        rw [hp34]
                        exact check_ct l1 v2 l3 v3 sum all text n21 n22 w K3 (hs.read 0 rfl) (hr19) (hr17) )
                    · subst hp35
                      cases p33 <;> exact One.under fun _ _ _ => by kernel_rfl
                    · exact One.index (t := 26) (e := 3) (size := 1) (v := fun G => valuesv) (k := .i64) (n := i_1) (fun _ => ⟨by kernel_rfl⟩) (fun G w hs => by
                        have hg := gd_of hs (p := (true && (p35 == false))) (by kernel_rfl)
                        have hg0 := (iN hp35 (iAF (iN hp33 (iNF iDT)) (iN hp34 iDF))).1 (eqF (andR hg))
                        exact ⟨_, (hr14).isSl, by first | omega | (simp only [List.length_append, List.length_cons, List.length_nil, List.length_replicate, List.length_set, List.length_take, List.length_drop, List.length_map, List.length_reverse, List.length_range]; omega), by first | omega | (simp only [List.length_append, List.length_cons, List.length_nil, List.length_replicate, List.length_set, List.length_take, List.length_drop, List.length_map, List.length_reverse, List.length_range]; omega)⟩)
                    · exact One.loadD (α := Int) (t := 3) (size := 1) (off := 0) (k := i_1) (l := fun G => values) (x := fun G => n21) (vs := fun G => [.int .i64 n21]) (v := fun G => valuesv) (H := fun G => K3) (p := fun G => elemAddr valuesv (i_1.toNat * 1)) (fun G => ⟨by kernel_rfl⟩) rfl (fun G => by kernel_rfl) (fun G w hs => by
                        have hg := gd_of hs (p := (true && (p35 == false))) (by kernel_rfl)
                        have hg0 := (iN hp35 (iAF (iN hp33 (iNF iDT)) (iN hp34 iDF))).1 (eqF (andR hg))
                        exact ⟨(hs.read 0 rfl), hr14, (add_zero' _).symm, by omega, by first | omega | (simp only [List.length_append, List.length_cons, List.length_nil, List.length_replicate, List.length_set, List.length_take, List.length_drop, List.length_map, List.length_reverse, List.length_range]; omega), hn21⟩)
                    · exact One.bo hp36 (fun _ _ => by kernel_rfl)
                    · exact One.loadE (t := 24) (r := 1) (off := 0) (b := fun G => b2) (vs := fun G => [v2]) (arr := fun G => #[v2]) (T := 24) (fr := (0, 0)) (fun G => ⟨by kernel_rfl⟩) (fun G => by kernel_rfl)
                    · exact One.index (t := 25) (e := 9) (size := 1) (v := fun G => textsv) (k := .i64) (n := i_1) (fun _ => ⟨by kernel_rfl⟩) (fun G w hs => by
                        have hg := gd_of hs (p := ((true && (p35 == false)) && (p36 == true))) (by kernel_rfl)
                        have hg0 := (iN hp36 (iNT iDF)).1 (eqT (andR hg))
                        have hg1 := (iN hp35 (iAF (iN hp33 (iNF iDT)) (iN hp34 iDF))).1 (eqF (andR (andL hg)))
                        exact ⟨_, (hr13).isSl, by first | omega | (simp only [List.length_append, List.length_cons, List.length_nil, List.length_replicate, List.length_set, List.length_take, List.length_drop, List.length_map, List.length_reverse, List.length_range]; omega), by first | omega | (simp only [List.length_append, List.length_cons, List.length_nil, List.length_replicate, List.length_set, List.length_take, List.length_drop, List.length_map, List.length_reverse, List.length_range]; omega)⟩)
                    · exact One.loadD (α := ByteArray) (t := 9) (size := 1) (off := 0) (k := i_1) (l := fun G => texts) (x := fun G => s1) (vs := fun G => [.string s1]) (v := fun G => textsv) (H := fun G => K3) (p := fun G => elemAddr textsv (i_1.toNat * 1)) (fun G => ⟨by kernel_rfl⟩) rfl (fun G => by kernel_rfl) (fun G w hs => by
                        have hg := gd_of hs (p := ((true && (p35 == false)) && (p36 == true))) (by kernel_rfl)
                        have hg0 := (iN hp36 (iNT iDF)).1 (eqT (andR hg))
                        have hg1 := (iN hp35 (iAF (iN hp33 (iNF iDT)) (iN hp34 iDF))).1 (eqF (andR (andL hg)))
                        exact ⟨(hs.read 0 rfl), hr13, (add_zero' _).symm, by omega, by first | omega | (simp only [List.length_append, List.length_cons, List.length_nil, List.length_replicate, List.length_set, List.length_take, List.length_drop, List.length_map, List.length_reverse, List.length_range]; omega), hs1⟩)
                    · exact One.index (t := 26) (e := 3) (size := 1) (v := fun G => blindsv) (k := .i64) (n := i_1) (fun _ => ⟨by kernel_rfl⟩) (fun G w hs => by
                        have hg := gd_of hs (p := ((true && (p35 == false)) && (p36 == true))) (by kernel_rfl)
                        have hg0 := (iN hp36 (iNT iDF)).1 (eqT (andR hg))
                        have hg1 := (iN hp35 (iAF (iN hp33 (iNF iDT)) (iN hp34 iDF))).1 (eqF (andR (andL hg)))
                        exact ⟨_, (hr15).isSl, by first | omega | (simp only [List.length_append, List.length_cons, List.length_nil, List.length_replicate, List.length_set, List.length_take, List.length_drop, List.length_map, List.length_reverse, List.length_range]; omega), by first | omega | (simp only [List.length_append, List.length_cons, List.length_nil, List.length_replicate, List.length_set, List.length_take, List.length_drop, List.length_map, List.length_reverse, List.length_range]; omega)⟩)
                    · exact One.loadD (α := Int) (t := 3) (size := 1) (off := 0) (k := i_1) (l := fun G => blinds) (x := fun G => n22) (vs := fun G => [.int .i64 n22]) (v := fun G => blindsv) (H := fun G => K3) (p := fun G => elemAddr blindsv (i_1.toNat * 1)) (fun G => ⟨by kernel_rfl⟩) rfl (fun G => by kernel_rfl) (fun G w hs => by
                        have hg := gd_of hs (p := ((true && (p35 == false)) && (p36 == true))) (by kernel_rfl)
                        have hg0 := (iN hp36 (iNT iDF)).1 (eqT (andR hg))
                        have hg1 := (iN hp35 (iAF (iN hp33 (iNF iDT)) (iN hp34 iDF))).1 (eqF (andR (andL hg)))
                        exact ⟨(hs.read 0 rfl), hr15, (add_zero' _).symm, by omega, by first | omega | (simp only [List.length_append, List.length_cons, List.length_nil, List.length_replicate, List.length_set, List.length_take, List.length_drop, List.length_map, List.length_reverse, List.length_range]; omega), hn22⟩)
                    · exact One.callP (v := fun G => .bool p37) (f := 24) (args := fun G => #[.agg #[v2], v3, .int .i64 sum, .int .i64 all, .string s1, .int .i64 n, .int .i64 n22]) (fun _ _ => by kernel_rfl) (fun G w hs => by
                        have hg := gd_of hs (p := ((true && (p35 == false)) && (p36 == true))) (by kernel_rfl)
                        have hg0 := (iN hp36 (iNT iDF)).1 (eqT (andR hg))
                        have hg1 := (iN hp35 (iAF (iN hp33 (iNF iDT)) (iN hp34 iDF))).1 (eqF (andR (andL hg)))
                        rw [hp37]
                        exact check_ct l1 v2 l3 v3 sum all s1 n n22 w K3 (hs.read 0 rfl) (hr19) (hr17) )
                    · subst hp38
                      refine One.under fun G w hs => ?_
                      revert hs
                      cases p36
                      · cases p35
                        · intro _; kernel_rfl
                        · intro hs; exact absurd hs.gd (by rw [show RC.gd _ _ 44 = false from by kernel_rfl]; decide)
                      · cases p35
                        · intro _; kernel_rfl
                        · intro hs; exact absurd hs.gd (by rw [show RC.gd _ _ 44 = false from by kernel_rfl]; decide)
                    · subst hp39
                      cases p35 <;> exact One.under fun _ _ _ => by kernel_rfl
                    · exact One.index (t := 26) (e := 3) (size := 1) (v := fun G => blindsv) (k := .i64) (n := i_1) (fun _ => ⟨by kernel_rfl⟩) (fun G w hs => by
                        have hg := gd_of hs (p := (true && (p39 == false))) (by kernel_rfl)
                        have hg0 := (iN hp39 (iOF (iN hp35 (iAF (iN hp33 (iNF iDT)) (iN hp34 iDF))) (iN hp38 (iAF (iN hp36 (iNF iDT)) (iN hp37 iDF))))).1 (eqF (andR hg))
                        exact ⟨_, (hr15).isSl, by first | omega | (simp only [List.length_append, List.length_cons, List.length_nil, List.length_replicate, List.length_set, List.length_take, List.length_drop, List.length_map, List.length_reverse, List.length_range]; omega), by first | omega | (simp only [List.length_append, List.length_cons, List.length_nil, List.length_replicate, List.length_set, List.length_take, List.length_drop, List.length_map, List.length_reverse, List.length_range]; omega)⟩)
                    · exact One.loadD (α := Int) (t := 3) (size := 1) (off := 0) (k := i_1) (l := fun G => blinds) (x := fun G => n22) (vs := fun G => [.int .i64 n22]) (v := fun G => blindsv) (H := fun G => K3) (p := fun G => elemAddr blindsv (i_1.toNat * 1)) (fun G => ⟨by kernel_rfl⟩) rfl (fun G => by kernel_rfl) (fun G w hs => by
                        have hg := gd_of hs (p := (true && (p39 == false))) (by kernel_rfl)
                        have hg0 := (iN hp39 (iOF (iN hp35 (iAF (iN hp33 (iNF iDT)) (iN hp34 iDF))) (iN hp38 (iAF (iN hp36 (iNF iDT)) (iN hp37 iDF))))).1 (eqF (andR hg))
                        exact ⟨(hs.read 0 rfl), hr15, (add_zero' _).symm, by omega, by first | omega | (simp only [List.length_append, List.length_cons, List.length_nil, List.length_replicate, List.length_set, List.length_take, List.length_drop, List.length_map, List.length_reverse, List.length_range]; omega), hn22⟩)
                    · exact One.bo hp40 (fun _ _ => by kernel_rfl)
                    · exact One.loadE (t := 24) (r := 1) (off := 0) (b := fun G => b2) (vs := fun G => [v2]) (arr := fun G => #[v2]) (T := 24) (fr := (0, 0)) (fun G => ⟨by kernel_rfl⟩) (fun G => by kernel_rfl)
                    · exact One.index (t := 25) (e := 9) (size := 1) (v := fun G => textsv) (k := .i64) (n := i_1) (fun _ => ⟨by kernel_rfl⟩) (fun G w hs => by
                        have hg := gd_of hs (p := ((true && (p39 == false)) && (p40 == true))) (by kernel_rfl)
                        have hg0 := (iN hp40 (iNT iDF)).1 (eqT (andR hg))
                        have hg1 := (iN hp39 (iOF (iN hp35 (iAF (iN hp33 (iNF iDT)) (iN hp34 iDF))) (iN hp38 (iAF (iN hp36 (iNF iDT)) (iN hp37 iDF))))).1 (eqF (andR (andL hg)))
                        exact ⟨_, (hr13).isSl, by first | omega | (simp only [List.length_append, List.length_cons, List.length_nil, List.length_replicate, List.length_set, List.length_take, List.length_drop, List.length_map, List.length_reverse, List.length_range]; omega), by first | omega | (simp only [List.length_append, List.length_cons, List.length_nil, List.length_replicate, List.length_set, List.length_take, List.length_drop, List.length_map, List.length_reverse, List.length_range]; omega)⟩)
                    · exact One.loadD (α := ByteArray) (t := 9) (size := 1) (off := 0) (k := i_1) (l := fun G => texts) (x := fun G => s1) (vs := fun G => [.string s1]) (v := fun G => textsv) (H := fun G => K3) (p := fun G => elemAddr textsv (i_1.toNat * 1)) (fun G => ⟨by kernel_rfl⟩) rfl (fun G => by kernel_rfl) (fun G w hs => by
                        have hg := gd_of hs (p := ((true && (p39 == false)) && (p40 == true))) (by kernel_rfl)
                        have hg0 := (iN hp40 (iNT iDF)).1 (eqT (andR hg))
                        have hg1 := (iN hp39 (iOF (iN hp35 (iAF (iN hp33 (iNF iDT)) (iN hp34 iDF))) (iN hp38 (iAF (iN hp36 (iNF iDT)) (iN hp37 iDF))))).1 (eqF (andR (andL hg)))
                        exact ⟨(hs.read 0 rfl), hr13, (add_zero' _).symm, by omega, by first | omega | (simp only [List.length_append, List.length_cons, List.length_nil, List.length_replicate, List.length_set, List.length_take, List.length_drop, List.length_map, List.length_reverse, List.length_range]; omega), hs1⟩)
                    · exact One.index (t := 26) (e := 3) (size := 1) (v := fun G => valuesv) (k := .i64) (n := i_1) (fun _ => ⟨by kernel_rfl⟩) (fun G w hs => by
                        have hg := gd_of hs (p := ((true && (p39 == false)) && (p40 == true))) (by kernel_rfl)
                        have hg0 := (iN hp40 (iNT iDF)).1 (eqT (andR hg))
                        have hg1 := (iN hp39 (iOF (iN hp35 (iAF (iN hp33 (iNF iDT)) (iN hp34 iDF))) (iN hp38 (iAF (iN hp36 (iNF iDT)) (iN hp37 iDF))))).1 (eqF (andR (andL hg)))
                        exact ⟨_, (hr14).isSl, by first | omega | (simp only [List.length_append, List.length_cons, List.length_nil, List.length_replicate, List.length_set, List.length_take, List.length_drop, List.length_map, List.length_reverse, List.length_range]; omega), by first | omega | (simp only [List.length_append, List.length_cons, List.length_nil, List.length_replicate, List.length_set, List.length_take, List.length_drop, List.length_map, List.length_reverse, List.length_range]; omega)⟩)
                    · exact One.loadD (α := Int) (t := 3) (size := 1) (off := 0) (k := i_1) (l := fun G => values) (x := fun G => n21) (vs := fun G => [.int .i64 n21]) (v := fun G => valuesv) (H := fun G => K3) (p := fun G => elemAddr valuesv (i_1.toNat * 1)) (fun G => ⟨by kernel_rfl⟩) rfl (fun G => by kernel_rfl) (fun G w hs => by
                        have hg := gd_of hs (p := ((true && (p39 == false)) && (p40 == true))) (by kernel_rfl)
                        have hg0 := (iN hp40 (iNT iDF)).1 (eqT (andR hg))
                        have hg1 := (iN hp39 (iOF (iN hp35 (iAF (iN hp33 (iNF iDT)) (iN hp34 iDF))) (iN hp38 (iAF (iN hp36 (iNF iDT)) (iN hp37 iDF))))).1 (eqF (andR (andL hg)))
                        exact ⟨(hs.read 0 rfl), hr14, (add_zero' _).symm, by omega, by first | omega | (simp only [List.length_append, List.length_cons, List.length_nil, List.length_replicate, List.length_set, List.length_take, List.length_drop, List.length_map, List.length_reverse, List.length_range]; omega), hn21⟩)
                    · exact One.callP (v := fun G => .bool p41) (f := 24) (args := fun G => #[.agg #[v2], v3, .int .i64 sum, .int .i64 all, .string s1, .int .i64 n21, .int .i64 n]) (fun _ _ => by kernel_rfl) (fun G w hs => by
                        have hg := gd_of hs (p := ((true && (p39 == false)) && (p40 == true))) (by kernel_rfl)
                        have hg0 := (iN hp40 (iNT iDF)).1 (eqT (andR hg))
                        have hg1 := (iN hp39 (iOF (iN hp35 (iAF (iN hp33 (iNF iDT)) (iN hp34 iDF))) (iN hp38 (iAF (iN hp36 (iNF iDT)) (iN hp37 iDF))))).1 (eqF (andR (andL hg)))
                        rw [hp41]
                        exact check_ct l1 v2 l3 v3 sum all s1 n21 n w K3 (hs.read 0 rfl) (hr19) (hr17) )
                    · subst hp42
                      refine One.under fun G w hs => ?_
                      revert hs
                      cases p40
                      · cases p39
                        · intro _; kernel_rfl
                        · intro hs; exact absurd hs.gd (by rw [show RC.gd _ _ 68 = false from by kernel_rfl]; decide)
                      · cases p39
                        · intro _; kernel_rfl
                        · intro hs; exact absurd hs.gd (by rw [show RC.gd _ _ 68 = false from by kernel_rfl]; decide)
                    · subst hp43
                      cases p39 <;> exact One.under fun _ _ _ => by kernel_rfl
                    intro G21 xa xw hDn
                    refine hDn.to [1, 2, 3, 4, 5, 13, 14, 15, 16, 18, 19, 21, 22, 269] [] (by kernel_rfl) ?_
                    clear hDn
                    refine Pre.conv (sl := [(1, textsv), (2, valuesv), (3, blindsv), (4, .string text), (5, .int .i64 n), (13, .bool true), (14, .pointer (some ⟨b2, 0, none⟩)), (15, .int .i64 n4), (16, v1), (18, .int .i64 sum), (19, .int .i64 all), (21, .int .i64 i_1), (22, v3), (269, .bool p43)]) (A := [K3]) (L := [some (b1, .cells #[vv] 24 (0, 0)), some (b2, .cells #[v2] 24 (0, 0))]) ?_ (by kernel_rfl) (by kernel_rfl) (by kernel_rfl)
                    clear G21
                    refine At.then ?_
                    refine W.cond p43 (by kernel_rfl) (fun xa hs => cnd_of (t := 269) (by kernel_rfl) (by kernel_rfl) hs) (fun hq => ?_) (fun hq => ?_)
                    · skip
                      have hq14 := hq
                      replace hq14 := (iN hp43 (iOT (iN hp39 (iOT (iN hp35 (iAT (iN hp33 (iNT iDF)) (iN hp34 iDT))) (iN hp38 (iAT (iN hp36 (iNT iDF)) (iN hp37 iDT))))) (iN hp42 (iAT (iN hp40 (iNT iDF)) (iN hp41 iDT))))).1 hq14
                      simp only [hck] at hq14
                      rcases hq14 with (h | h) | h <;> first | exact (h.1 h.2.2.2.1).elim | exact (h.1 h.2.2.2.2.1).elim | exact (h.1 h.2.2.2.2.2).elim
                    · skip
                      have hq15 := hq
                      replace hq15 := (iN hp43 (iOF (iN hp39 (iOF (iN hp35 (iAF (iN hp33 (iNF iDT)) (iN hp34 iDF))) (iN hp38 (iAF (iN hp36 (iNF iDT)) (iN hp37 iDF))))) (iN hp42 (iAF (iN hp40 (iNF iDT)) (iN hp41 iDF))))).1 hq15
                      refine W.skip (by kernel_rfl) ?_
                      refine At.then ?_
                      refine W.seq (by kernel_rfl) ?_
                      obtain ⟨p44, hp44⟩ : ∃ zz : Bool, zz = !(decide (n = sum)) := ⟨_, rfl⟩
                      obtain ⟨p45, hp45⟩ : ∃ zz : Bool, zz = (decide (Tm.checkP l1 l3 n all s1 n21 n22)) := ⟨_, rfl⟩
                      obtain ⟨p46, hp46⟩ : ∃ zz : Bool, zz = (p44 && p45) := ⟨_, rfl⟩
                      obtain ⟨p47, hp47⟩ : ∃ zz : Bool, zz = !(decide (n = all)) := ⟨_, rfl⟩
                      obtain ⟨p48, hp48⟩ : ∃ zz : Bool, zz = (decide (Tm.checkP l1 l3 sum n s1 n21 n22)) := ⟨_, rfl⟩
                      obtain ⟨p49, hp49⟩ : ∃ zz : Bool, zz = (p47 && p48) := ⟨_, rfl⟩
                      obtain ⟨p50, hp50⟩ : ∃ zz : Bool, zz = (p46 || p49) := ⟨_, rfl⟩
                      refine W.regV (whole_ct_r4_21 vv textsv valuesv blindsv text n b1 n4 b2 v1 v2 sum all i_1 v3 K3 s1 n21 n22 p43 p44 p45 p46 p47 p48 p49 p50) [0, 1, 3, 5, 6, 7, 8, 9, 12, 13, 16, 17, 22, 23, 24, 26, 28, 29, 30, 31, 32, 35, 36, 39, 40] [2, 4, 10, 11, 14, 15, 18, 19, 20, 21, 25, 27, 33, 34, 37, 38, 41, 42, 43, 44, 45] (fun G => [.int .i64 n, .int .i64 sum, .bool p44, v3, .int .i64 n, .int .i64 all, textsv, .int .i64 i_1, valuesv, .int .i64 i_1, blindsv, .int .i64 i_1, .bool p46, .int .i64 n, .int .i64 all, .bool p47, v3, .int .i64 sum, .int .i64 n, textsv, .int .i64 i_1, valuesv, .int .i64 i_1, blindsv, .int .i64 i_1]) (by kernel_rfl) mo_le (by kernel_rfl) (fun _ _ => by kernel_rfl) ⟨?_, ?_, ?_, ?_, ?_, ?_, ?_, ?_, ?_, ?_, ?_, ?_, ?_, ?_, ?_, ?_, ?_, ?_, ?_, ?_, ?_, trivial⟩ (by kernel_rfl) ?_
                      · exact One.bo hp44 (fun _ _ => by kernel_rfl)
                      · exact One.loadE (t := 24) (r := 1) (off := 0) (b := fun G => b2) (vs := fun G => [v2]) (arr := fun G => #[v2]) (T := 24) (fr := (0, 0)) (fun G => ⟨by kernel_rfl⟩) (fun G => by kernel_rfl)
                      · exact One.index (t := 25) (e := 9) (size := 1) (v := fun G => textsv) (k := .i64) (n := i_1) (fun _ => ⟨by kernel_rfl⟩) (fun G w hs => by
                          have hg := gd_of hs (p := (true && (p44 == true))) (by kernel_rfl)
                          have hg0 := (iN hp44 (iNT iDF)).1 (eqT (andR hg))
                          exact ⟨_, (hr13).isSl, by first | omega | (simp only [List.length_append, List.length_cons, List.length_nil, List.length_replicate, List.length_set, List.length_take, List.length_drop, List.length_map, List.length_reverse, List.length_range]; omega), by first | omega | (simp only [List.length_append, List.length_cons, List.length_nil, List.length_replicate, List.length_set, List.length_take, List.length_drop, List.length_map, List.length_reverse, List.length_range]; omega)⟩)
                      · exact One.loadD (α := ByteArray) (t := 9) (size := 1) (off := 0) (k := i_1) (l := fun G => texts) (x := fun G => s1) (vs := fun G => [.string s1]) (v := fun G => textsv) (H := fun G => K3) (p := fun G => elemAddr textsv (i_1.toNat * 1)) (fun G => ⟨by kernel_rfl⟩) rfl (fun G => by kernel_rfl) (fun G w hs => by
                          have hg := gd_of hs (p := (true && (p44 == true))) (by kernel_rfl)
                          have hg0 := (iN hp44 (iNT iDF)).1 (eqT (andR hg))
                          exact ⟨(hs.read 0 rfl), hr13, (add_zero' _).symm, by omega, by first | omega | (simp only [List.length_append, List.length_cons, List.length_nil, List.length_replicate, List.length_set, List.length_take, List.length_drop, List.length_map, List.length_reverse, List.length_range]; omega), hs1⟩)
                      · exact One.index (t := 26) (e := 3) (size := 1) (v := fun G => valuesv) (k := .i64) (n := i_1) (fun _ => ⟨by kernel_rfl⟩) (fun G w hs => by
                          have hg := gd_of hs (p := (true && (p44 == true))) (by kernel_rfl)
                          have hg0 := (iN hp44 (iNT iDF)).1 (eqT (andR hg))
                          exact ⟨_, (hr14).isSl, by first | omega | (simp only [List.length_append, List.length_cons, List.length_nil, List.length_replicate, List.length_set, List.length_take, List.length_drop, List.length_map, List.length_reverse, List.length_range]; omega), by first | omega | (simp only [List.length_append, List.length_cons, List.length_nil, List.length_replicate, List.length_set, List.length_take, List.length_drop, List.length_map, List.length_reverse, List.length_range]; omega)⟩)
                      · exact One.loadD (α := Int) (t := 3) (size := 1) (off := 0) (k := i_1) (l := fun G => values) (x := fun G => n21) (vs := fun G => [.int .i64 n21]) (v := fun G => valuesv) (H := fun G => K3) (p := fun G => elemAddr valuesv (i_1.toNat * 1)) (fun G => ⟨by kernel_rfl⟩) rfl (fun G => by kernel_rfl) (fun G w hs => by
                          have hg := gd_of hs (p := (true && (p44 == true))) (by kernel_rfl)
                          have hg0 := (iN hp44 (iNT iDF)).1 (eqT (andR hg))
                          exact ⟨(hs.read 0 rfl), hr14, (add_zero' _).symm, by omega, by first | omega | (simp only [List.length_append, List.length_cons, List.length_nil, List.length_replicate, List.length_set, List.length_take, List.length_drop, List.length_map, List.length_reverse, List.length_range]; omega), hn21⟩)
                      · exact One.index (t := 26) (e := 3) (size := 1) (v := fun G => blindsv) (k := .i64) (n := i_1) (fun _ => ⟨by kernel_rfl⟩) (fun G w hs => by
                          have hg := gd_of hs (p := (true && (p44 == true))) (by kernel_rfl)
                          have hg0 := (iN hp44 (iNT iDF)).1 (eqT (andR hg))
                          exact ⟨_, (hr15).isSl, by first | omega | (simp only [List.length_append, List.length_cons, List.length_nil, List.length_replicate, List.length_set, List.length_take, List.length_drop, List.length_map, List.length_reverse, List.length_range]; omega), by first | omega | (simp only [List.length_append, List.length_cons, List.length_nil, List.length_replicate, List.length_set, List.length_take, List.length_drop, List.length_map, List.length_reverse, List.length_range]; omega)⟩)
                      · exact One.loadD (α := Int) (t := 3) (size := 1) (off := 0) (k := i_1) (l := fun G => blinds) (x := fun G => n22) (vs := fun G => [.int .i64 n22]) (v := fun G => blindsv) (H := fun G => K3) (p := fun G => elemAddr blindsv (i_1.toNat * 1)) (fun G => ⟨by kernel_rfl⟩) rfl (fun G => by kernel_rfl) (fun G w hs => by
                          have hg := gd_of hs (p := (true && (p44 == true))) (by kernel_rfl)
                          have hg0 := (iN hp44 (iNT iDF)).1 (eqT (andR hg))
                          exact ⟨(hs.read 0 rfl), hr15, (add_zero' _).symm, by omega, by first | omega | (simp only [List.length_append, List.length_cons, List.length_nil, List.length_replicate, List.length_set, List.length_take, List.length_drop, List.length_map, List.length_reverse, List.length_range]; omega), hn22⟩)
                      · exact One.callP (v := fun G => .bool p45) (f := 24) (args := fun G => #[.agg #[v2], v3, .int .i64 n, .int .i64 all, .string s1, .int .i64 n21, .int .i64 n22]) (fun _ _ => by kernel_rfl) (fun G w hs => by
                          have hg := gd_of hs (p := (true && (p44 == true))) (by kernel_rfl)
                          have hg0 := (iN hp44 (iNT iDF)).1 (eqT (andR hg))
                          rw [hp45]
                          exact check_ct l1 v2 l3 v3 n all s1 n21 n22 w K3 (hs.read 0 rfl) (hr19) (hr17) )
                      · subst hp46
                        cases p44 <;> exact One.under fun _ _ _ => by kernel_rfl
                      · exact One.bo hp47 (fun _ _ => by kernel_rfl)
                      · exact One.loadE (t := 24) (r := 1) (off := 0) (b := fun G => b2) (vs := fun G => [v2]) (arr := fun G => #[v2]) (T := 24) (fr := (0, 0)) (fun G => ⟨by kernel_rfl⟩) (fun G => by kernel_rfl)
                      · exact One.index (t := 25) (e := 9) (size := 1) (v := fun G => textsv) (k := .i64) (n := i_1) (fun _ => ⟨by kernel_rfl⟩) (fun G w hs => by
                          have hg := gd_of hs (p := ((true && (p46 == false)) && (p47 == true))) (by kernel_rfl)
                          have hg0 := (iN hp47 (iNT iDF)).1 (eqT (andR hg))
                          have hg1 := (iN hp46 (iAF (iN hp44 (iNF iDT)) (iN hp45 iDF))).1 (eqF (andR (andL hg)))
                          exact ⟨_, (hr13).isSl, by first | omega | (simp only [List.length_append, List.length_cons, List.length_nil, List.length_replicate, List.length_set, List.length_take, List.length_drop, List.length_map, List.length_reverse, List.length_range]; omega), by first | omega | (simp only [List.length_append, List.length_cons, List.length_nil, List.length_replicate, List.length_set, List.length_take, List.length_drop, List.length_map, List.length_reverse, List.length_range]; omega)⟩)
                      · exact One.loadD (α := ByteArray) (t := 9) (size := 1) (off := 0) (k := i_1) (l := fun G => texts) (x := fun G => s1) (vs := fun G => [.string s1]) (v := fun G => textsv) (H := fun G => K3) (p := fun G => elemAddr textsv (i_1.toNat * 1)) (fun G => ⟨by kernel_rfl⟩) rfl (fun G => by kernel_rfl) (fun G w hs => by
                          have hg := gd_of hs (p := ((true && (p46 == false)) && (p47 == true))) (by kernel_rfl)
                          have hg0 := (iN hp47 (iNT iDF)).1 (eqT (andR hg))
                          have hg1 := (iN hp46 (iAF (iN hp44 (iNF iDT)) (iN hp45 iDF))).1 (eqF (andR (andL hg)))
                          exact ⟨(hs.read 0 rfl), hr13, (add_zero' _).symm, by omega, by first | omega | (simp only [List.length_append, List.length_cons, List.length_nil, List.length_replicate, List.length_set, List.length_take, List.length_drop, List.length_map, List.length_reverse, List.length_range]; omega), hs1⟩)
                      · exact One.index (t := 26) (e := 3) (size := 1) (v := fun G => valuesv) (k := .i64) (n := i_1) (fun _ => ⟨by kernel_rfl⟩) (fun G w hs => by
                          have hg := gd_of hs (p := ((true && (p46 == false)) && (p47 == true))) (by kernel_rfl)
                          have hg0 := (iN hp47 (iNT iDF)).1 (eqT (andR hg))
                          have hg1 := (iN hp46 (iAF (iN hp44 (iNF iDT)) (iN hp45 iDF))).1 (eqF (andR (andL hg)))
                          exact ⟨_, (hr14).isSl, by first | omega | (simp only [List.length_append, List.length_cons, List.length_nil, List.length_replicate, List.length_set, List.length_take, List.length_drop, List.length_map, List.length_reverse, List.length_range]; omega), by first | omega | (simp only [List.length_append, List.length_cons, List.length_nil, List.length_replicate, List.length_set, List.length_take, List.length_drop, List.length_map, List.length_reverse, List.length_range]; omega)⟩)
                      · exact One.loadD (α := Int) (t := 3) (size := 1) (off := 0) (k := i_1) (l := fun G => values) (x := fun G => n21) (vs := fun G => [.int .i64 n21]) (v := fun G => valuesv) (H := fun G => K3) (p := fun G => elemAddr valuesv (i_1.toNat * 1)) (fun G => ⟨by kernel_rfl⟩) rfl (fun G => by kernel_rfl) (fun G w hs => by
                          have hg := gd_of hs (p := ((true && (p46 == false)) && (p47 == true))) (by kernel_rfl)
                          have hg0 := (iN hp47 (iNT iDF)).1 (eqT (andR hg))
                          have hg1 := (iN hp46 (iAF (iN hp44 (iNF iDT)) (iN hp45 iDF))).1 (eqF (andR (andL hg)))
                          exact ⟨(hs.read 0 rfl), hr14, (add_zero' _).symm, by omega, by first | omega | (simp only [List.length_append, List.length_cons, List.length_nil, List.length_replicate, List.length_set, List.length_take, List.length_drop, List.length_map, List.length_reverse, List.length_range]; omega), hn21⟩)
                      · exact One.index (t := 26) (e := 3) (size := 1) (v := fun G => blindsv) (k := .i64) (n := i_1) (fun _ => ⟨by kernel_rfl⟩) (fun G w hs => by
                          have hg := gd_of hs (p := ((true && (p46 == false)) && (p47 == true))) (by kernel_rfl)
                          have hg0 := (iN hp47 (iNT iDF)).1 (eqT (andR hg))
                          have hg1 := (iN hp46 (iAF (iN hp44 (iNF iDT)) (iN hp45 iDF))).1 (eqF (andR (andL hg)))
                          exact ⟨_, (hr15).isSl, by first | omega | (simp only [List.length_append, List.length_cons, List.length_nil, List.length_replicate, List.length_set, List.length_take, List.length_drop, List.length_map, List.length_reverse, List.length_range]; omega), by first | omega | (simp only [List.length_append, List.length_cons, List.length_nil, List.length_replicate, List.length_set, List.length_take, List.length_drop, List.length_map, List.length_reverse, List.length_range]; omega)⟩)
                      · exact One.loadD (α := Int) (t := 3) (size := 1) (off := 0) (k := i_1) (l := fun G => blinds) (x := fun G => n22) (vs := fun G => [.int .i64 n22]) (v := fun G => blindsv) (H := fun G => K3) (p := fun G => elemAddr blindsv (i_1.toNat * 1)) (fun G => ⟨by kernel_rfl⟩) rfl (fun G => by kernel_rfl) (fun G w hs => by
                          have hg := gd_of hs (p := ((true && (p46 == false)) && (p47 == true))) (by kernel_rfl)
                          have hg0 := (iN hp47 (iNT iDF)).1 (eqT (andR hg))
                          have hg1 := (iN hp46 (iAF (iN hp44 (iNF iDT)) (iN hp45 iDF))).1 (eqF (andR (andL hg)))
                          exact ⟨(hs.read 0 rfl), hr15, (add_zero' _).symm, by omega, by first | omega | (simp only [List.length_append, List.length_cons, List.length_nil, List.length_replicate, List.length_set, List.length_take, List.length_drop, List.length_map, List.length_reverse, List.length_range]; omega), hn22⟩)
                      · exact One.callP (v := fun G => .bool p48) (f := 24) (args := fun G => #[.agg #[v2], v3, .int .i64 sum, .int .i64 n, .string s1, .int .i64 n21, .int .i64 n22]) (fun _ _ => by kernel_rfl) (fun G w hs => by
                          have hg := gd_of hs (p := ((true && (p46 == false)) && (p47 == true))) (by kernel_rfl)
                          have hg0 := (iN hp47 (iNT iDF)).1 (eqT (andR hg))
                          have hg1 := (iN hp46 (iAF (iN hp44 (iNF iDT)) (iN hp45 iDF))).1 (eqF (andR (andL hg)))
                          rw [hp48]
                          exact check_ct l1 v2 l3 v3 sum n s1 n21 n22 w K3 (hs.read 0 rfl) (hr19) (hr17) )
                      · subst hp49
                        refine One.under fun G w hs => ?_
                        revert hs
                        cases p47
                        · cases p46
                          · intro _; kernel_rfl
                          · intro hs; exact absurd hs.gd (by rw [show RC.gd _ _ 44 = false from by kernel_rfl]; decide)
                        · cases p46
                          · intro _; kernel_rfl
                          · intro hs; exact absurd hs.gd (by rw [show RC.gd _ _ 44 = false from by kernel_rfl]; decide)
                      · subst hp50
                        cases p46 <;> exact One.under fun _ _ _ => by kernel_rfl
                      intro G22 xa xw hDn
                      refine hDn.to [1, 2, 3, 4, 5, 13, 14, 15, 16, 18, 19, 21, 315] [] (by kernel_rfl) ?_
                      clear hDn
                      refine Pre.conv (sl := [(1, textsv), (2, valuesv), (3, blindsv), (4, .string text), (5, .int .i64 n), (13, .bool true), (14, .pointer (some ⟨b2, 0, none⟩)), (15, .int .i64 n4), (16, v1), (18, .int .i64 sum), (19, .int .i64 all), (21, .int .i64 i_1), (315, .bool p50)]) (A := [K3]) (L := [some (b1, .cells #[vv] 24 (0, 0)), some (b2, .cells #[v2] 24 (0, 0))]) ?_ (by kernel_rfl) (by kernel_rfl) (by kernel_rfl)
                      clear G22
                      refine At.then ?_
                      refine W.cond p50 (by kernel_rfl) (fun xa hs => cnd_of (t := 315) (by kernel_rfl) (by kernel_rfl) hs) (fun hq => ?_) (fun hq => ?_)
                      · skip
                        have hq16 := hq
                        replace hq16 := (iN hp50 (iOT (iN hp46 (iAT (iN hp44 (iNT iDF)) (iN hp45 iDT))) (iN hp49 (iAT (iN hp47 (iNT iDF)) (iN hp48 iDT))))).1 hq16
                        simp only [hck] at hq16
                        rcases hq16 with h | h <;> first | exact (h.1 h.2.1).elim | exact (h.1 h.2.2.1).elim
                      · skip
                        have hq17 := hq
                        replace hq17 := (iN hp50 (iOF (iN hp46 (iAF (iN hp44 (iNF iDT)) (iN hp45 iDF))) (iN hp49 (iAF (iN hp47 (iNF iDT)) (iN hp48 iDF))))).1 hq17
                        refine W.skip (by kernel_rfl) ?_
                        refine At.blockNormal ?_
                        refine At.then ?_
                        obtain ⟨n23, hn23⟩ : ∃ zz : Int, zz = i_1 + 1 := ⟨_, rfl⟩
                        refine W.regV (whole_ct_r4_22 vv textsv valuesv blindsv text n b1 n4 b2 v1 v2 sum all i_1 K3 p50 n23) [0, 2] [1] (fun G => [.int .i64 i_1, .int .i64 n23]) (by kernel_rfl) mo_le (by kernel_rfl) (fun _ _ => by kernel_rfl) ⟨?_, trivial⟩ (by kernel_rfl) ?_
                        · exact One.ar hn23 (fun _ _ => by kernel_rfl) (fun G w hs => by omega)
                        intro G23 xa xw hDn
                        refine hDn.to [1, 2, 3, 4, 5, 13, 14, 15, 16, 18, 19, 21] [] (by kernel_rfl) ?_
                        clear hDn
                        refine Pre.conv (sl := [(1, textsv), (2, valuesv), (3, blindsv), (4, .string text), (5, .int .i64 n), (13, .bool true), (14, .pointer (some ⟨b2, 0, none⟩)), (15, .int .i64 n4), (16, v1), (18, .int .i64 sum), (19, .int .i64 all), (21, .int .i64 n23)]) (A := [K3]) (L := [some (b1, .cells #[vv] 24 (0, 0)), some (b2, .cells #[v2] 24 (0, 0))]) ?_ (by kernel_rfl) (by kernel_rfl) (by kernel_rfl)
                        clear G23
                        intro xa xw hs hw
                        refine ⟨(K3, n23), ⟨hs.sub (by kernel_rfl), hw.mask [true, true] (by kernel_rfl), ?_⟩, ?_⟩
                        · skip
                          refine ⟨(hk3).trans ((((Sub.refl _)).trans hk4)), hE3, ?_, ?_⟩
                          · show 0 ≤ n23
                            first | omega | rfl | (simp; done) | (subst_vars; simp; done)
                          · show n23 ≤ (texts.length : Int)
                            first | omega | rfl | (simp; done) | (subst_vars; simp; done)
                        · show ((texts.length : Int) - n23).toNat < ((texts.length : Int) - i_1).toNat
                          omega
                · skip
                  have hq18 := hq
                  replace hq18 := (iN hp29 iDF).1 hq18
                  refine W.exit 2 (by kernel_rfl) ?_
                  refine At.thenExit ?_
                  refine At.thenExit ?_
                  refine At.blockHit ?_
                  refine At.then ?_
                  refine W.seq (by kernel_rfl) ?_
                  refine W.regV (whole_ct_r4_23 vv textsv valuesv blindsv text n b1 n4 b2 v1 v2 sum all K2 i_1 p29) [0, 1] [] (fun G => [.bool true, .bool true]) (by kernel_rfl) mo_le (by kernel_rfl) (fun _ _ => by kernel_rfl) trivial (by kernel_rfl) ?_
                  intro G24 xa xw hDn
                  refine hDn.to [12] [] (by kernel_rfl) ?_
                  clear hDn
                  refine Pre.conv (sl := [(12, .bool true)]) (A := [K2]) (L := [some (b1, .cells #[vv] 24 (0, 0)), some (b2, .cells #[v2] 24 (0, 0))]) ?_ (by kernel_rfl) (by kernel_rfl) (by kernel_rfl)
                  clear G24
                  refine At.then ?_
                  refine W.ret (by kernel_rfl) ?_
                  refine At.results (Or.inl rfl) (.bool true) (fun xa xw hs hw => results_one (r := .tmp 12) (by kernel_rfl) (res_tmp (t := 12) (by kernel_rfl) hs)) (fun w' hw => ?_)
                  exact ⟨congrArg Ending.returned (rfl), hw.base⟩

end Kb
