/- The contracts of the references: building. -/
import Derived.Test.YtaolgnmpgnamnaaRb
set_option linter.unusedVariables false
set_option linter.unusedSimpArgs false
namespace Kb
open Go Go.Proofs
theorem mo_rc : Try.prog.follows .mixedOrders = true := by kernel_rfl
noncomputable def rbuild_ct_r17_0 (vv textsv valuesv blindsv : Value) (H : Heaplet) : RC := { ops := opsAt Try.f17 0, B := [0, 0, 0, 4, 12], sl := [(0, .agg #[vv]), (1, textsv), (2, valuesv), (3, blindsv)], A := [H], L := [none, none, none, none, none, none, none], cs := [{ val := fun G => .pointer (some ⟨(G 0).b, 0, none⟩), ups := [(0, fun G => some ((G 0).b, .cells #[vv] 24 (0, 0)))] }, { val := fun G => .pointer (some ⟨(G 1).b, 0, none⟩), ups := [(1, fun G => some ((G 1).b, .cells #[.slice none 0 0] 24 (0, 0)))] }, { val := fun _ => .int .i64 0 }, { val := fun _ => .slice none 0 0 }, { val := fun _ => .int .i64 0 }] }
noncomputable def rbuild_ct_r17_1 (vv textsv valuesv blindsv : Value) (H : Heaplet) (b1 b2 : Nat) (n1 : Int) : RC := { ops := opsAt Try.f17 1, B := [0, 1, 3], sl := [(1, textsv), (2, valuesv), (3, blindsv), (4, .pointer (some ⟨b1, 0, none⟩)), (8, .pointer (some ⟨b2, 0, none⟩))], A := [H], L := [some (b1, .cells #[vv] 24 (0, 0)), some (b2, .cells #[.slice none 0 0] 24 (0, 0)), none, none, none, none, none], cs := [{ val := fun _ => textsv }, { val := fun _ => .int .i64 n1 }, { val := fun _ => .int .i64 n1 }] }
noncomputable def rbuild_ct_r17_2 (vv textsv valuesv blindsv : Value) (H : Heaplet) (b1 b2 : Nat) (n1 : Int) (p1 p2 p3 : Bool) (n2 : Int) (p4 p5 : Bool) (n3 : Int) (p6 p7 : Bool) : RC := { ops := opsAt Try.f17 2, B := [0, 1, 3, 7, 15, 31, 63, 127, 255, 511, 255, 2047, 4095, 8191, 16383, 32767, 16383, 131071, 262143], sl := [(1, textsv), (2, valuesv), (3, blindsv), (4, .pointer (some ⟨b1, 0, none⟩)), (8, .pointer (some ⟨b2, 0, none⟩)), (12, .int .i64 n1)], A := [H], L := [some (b1, .cells #[vv] 24 (0, 0)), some (b2, .cells #[.slice none 0 0] 24 (0, 0)), none, none, none, none, none], cs := [{ val := fun _ => .agg #[vv], rds := [0] }, { val := fun _ => .bool p1 }, { val := fun _ => .bool (!p1) }, { val := fun _ => .bool (!p1) }, { val := fun _ => .int .i64 n1 }, { val := fun _ => .bool p2 }, { val := fun _ => .bool p3 }, { val := fun _ => .bool p3 }, { val := fun _ => valuesv }, { val := fun _ => .int .i64 n2 }, { val := fun _ => .int .i64 n1 }, { val := fun _ => .bool p4 }, { val := fun _ => .bool p5 }, { val := fun _ => .bool p5 }, { val := fun _ => blindsv }, { val := fun _ => .int .i64 n3 }, { val := fun _ => .int .i64 n1 }, { val := fun _ => .bool p6 }, { val := fun _ => .bool p7 }] }
noncomputable def rbuild_ct_r17_3 (vv textsv valuesv blindsv : Value) (H : Heaplet) (b1 b2 : Nat) (n1 : Int) (p7 : Bool) : RC := { ops := opsAt Try.f17 3, B := [0, 1, 3, 7, 15], sl := [(1, textsv), (2, valuesv), (3, blindsv), (4, .pointer (some ⟨b1, 0, none⟩)), (8, .pointer (some ⟨b2, 0, none⟩)), (12, .int .i64 n1), (44, .bool p7)], A := [H], L := [some (b1, .cells #[vv] 24 (0, 0)), some (b2, .cells #[.slice none 0 0] 24 (0, 0)), none, none, none, none, none], cs := [{ val := fun _ => .agg #[.slice none 0 0] }, { val := fun _ => undef, ups := [(1, fun _ => some (b2, .cells #[.slice none 0 0] 24 (0, 0)))] }, { val := fun _ => .int .i64 ((-1)) }, { val := fun _ => .slice none 0 0 }, { val := fun _ => .int .i64 1 }] }
noncomputable def rbuild_ct_r17_4 (vv textsv valuesv blindsv : Value) (H : Heaplet) (b1 b2 : Nat) (n1 : Int) (p7 : Bool) : RC := { ops := opsAt Try.f17 4, B := [0], sl := [(1, textsv), (2, valuesv), (3, blindsv), (4, .pointer (some ⟨b1, 0, none⟩)), (8, .pointer (some ⟨b2, 0, none⟩)), (12, .int .i64 n1), (44, .bool p7)], A := [H], L := [some (b1, .cells #[vv] 24 (0, 0)), some (b2, .cells #[.slice none 0 0] 24 (0, 0)), none, none, none, none, none], cs := [{ val := fun _ => .int .i64 0 }] }
noncomputable def rbuild_ct_r17_5 (vv textsv valuesv blindsv : Value) (b1 b2 : Nat) (n1 : Int) (K1 : Heaplet) (i : Int) (p8 : Bool) : RC := { ops := opsAt Try.f17 5, B := [0, 0, 3], sl := [(1, textsv), (2, valuesv), (3, blindsv), (4, .pointer (some ⟨b1, 0, none⟩)), (8, .pointer (some ⟨b2, 0, none⟩)), (12, .int .i64 n1), (13, .int .i64 i)], A := [K1], L := [some (b1, .cells #[vv] 24 (0, 0)), some (b2, .cells #[.slice none 0 0] 24 (0, 0)), none, none, none, none, none], cs := [{ val := fun _ => .int .i64 i }, { val := fun _ => .int .i64 n1 }, { val := fun _ => .bool p8 }] }
noncomputable def rbuild_ct_r17_6 (w0 : World) (v : List DThing) (vv textsv valuesv blindsv : Value) (H : Heaplet) (b1 b2 : Nat) (n1 : Int) (K1 : Heaplet) (i : Int) (p8 : Bool) (s1 : ByteArray) (n4 n5 : Int) (l1 : List DThing) (n6 n7 : Int) : RC := { ops := opsAt Try.f17 7, B := [0, 0, 0, 6, 14, 0, 0, 96, 224, 0, 0, 1536, 3584, 8191, 16383, 32767, 32767, 32767, 0, 327679, 917503, 2097151], sl := [(1, textsv), (2, valuesv), (3, blindsv), (4, .pointer (some ⟨b1, 0, none⟩)), (8, .pointer (some ⟨b2, 0, none⟩)), (12, .int .i64 n1), (13, .int .i64 i), (48, .bool p8)], A := [K1], L := [some (b1, .cells #[vv] 24 (0, 0)), some (b2, .cells #[.slice none 0 0] 24 (0, 0)), none, none, none, none, none], cs := [{ val := fun _ => .agg #[.slice none 0 0] }, { val := fun _ => textsv }, { val := fun _ => .int .i64 i }, { val := fun _ => .pointer (some (elemAddr textsv (i.toNat * 1))) }, { val := fun _ => .string s1 }, { val := fun _ => valuesv }, { val := fun _ => .int .i64 i }, { val := fun _ => .pointer (some (elemAddr valuesv (i.toNat * 1))) }, { val := fun _ => .int .i64 n4 }, { val := fun _ => blindsv }, { val := fun _ => .int .i64 i }, { val := fun _ => .pointer (some (elemAddr blindsv (i.toNat * 1))) }, { val := fun _ => .int .i64 n5 }, { val := fun G => .tuple #[.agg #[(G 13).v], .int .i64 n6, .int .i64 n7], fact := fun G => (RSl (hun (G 13).H K1) l1 (G 13).v) ∧ New w0 (G 13).H }, { val := fun G => .tuple #[.agg #[(G 13).v], .int .i64 n6, .int .i64 n7] }, { val := fun G => .agg #[(G 13).v] }, { val := fun _ => .int .i64 n6 }, { val := fun _ => .int .i64 n7 }, { val := fun G => .pointer (some ⟨(G 18).b, 0, none⟩), ups := [(2, fun G => some ((G 18).b, .cells #[.slice none 0 0] 24 (0, 0)))] }, { val := fun _ => undef, ups := [(2, fun G => some ((G 18).b, .cells #[(G 13).v] 24 (0, 0)))] }, { val := fun _ => .int .i64 n6 }, { val := fun _ => .int .i64 n7 }] }
noncomputable def rbuild_ct_r17_7 (vv textsv valuesv blindsv : Value) (b1 b2 : Nat) (n1 i n7 : Int) (b3 : Nat) (v1 : Value) (K2 : Heaplet) (p9 : Bool) : RC := { ops := opsAt Try.f17 8, B := [0, 1], sl := [(1, textsv), (2, valuesv), (3, blindsv), (4, .pointer (some ⟨b1, 0, none⟩)), (8, .pointer (some ⟨b2, 0, none⟩)), (12, .int .i64 n1), (13, .int .i64 i), (16, .int .i64 n7)], A := [K2], L := [some (b1, .cells #[vv] 24 (0, 0)), some (b2, .cells #[.slice none 0 0] 24 (0, 0)), some (b3, .cells #[v1] 24 (0, 0)), none, none, none, none], cs := [{ val := fun _ => .int .i64 n7 }, { val := fun _ => .bool p9 }] }
noncomputable def rbuild_ct_r17_8 (vv textsv valuesv blindsv : Value) (b1 b2 : Nat) (n1 i : Int) (b3 : Nat) (v1 : Value) (K2 : Heaplet) (p9 : Bool) : RC := { ops := opsAt Try.f17 9, B := [0, 1, 3, 7, 15], sl := [(1, textsv), (2, valuesv), (3, blindsv), (4, .pointer (some ⟨b1, 0, none⟩)), (8, .pointer (some ⟨b2, 0, none⟩)), (12, .int .i64 n1), (13, .int .i64 i), (70, .bool p9)], A := [K2], L := [some (b1, .cells #[vv] 24 (0, 0)), some (b2, .cells #[.slice none 0 0] 24 (0, 0)), some (b3, .cells #[v1] 24 (0, 0)), none, none, none, none], cs := [{ val := fun _ => .agg #[.slice none 0 0] }, { val := fun _ => undef, ups := [(1, fun _ => some (b2, .cells #[.slice none 0 0] 24 (0, 0)))] }, { val := fun _ => .int .i64 ((-1)) }, { val := fun _ => .slice none 0 0 }, { val := fun _ => .int .i64 1 }] }
noncomputable def rbuild_ct_r17_9 (vv textsv valuesv blindsv : Value) (b1 b2 : Nat) (n1 i : Int) (b3 : Nat) (v1 : Value) (K2 : Heaplet) (p9 : Bool) (n8 : Int) : RC := { ops := opsAt Try.f17 6, B := [0, 1, 3], sl := [(1, textsv), (2, valuesv), (3, blindsv), (4, .pointer (some ⟨b1, 0, none⟩)), (8, .pointer (some ⟨b2, 0, none⟩)), (12, .int .i64 n1), (13, .int .i64 i), (70, .bool p9)], A := [K2], L := [some (b1, .cells #[vv] 24 (0, 0)), some (b2, .cells #[.slice none 0 0] 24 (0, 0)), some (b3, .cells #[v1] 24 (0, 0)), none, none, none, none], cs := [{ val := fun _ => .int .i64 i }, { val := fun _ => .int .i64 n8 }, { val := fun _ => .int .i64 n8 }] }
noncomputable def rbuild_ct_r17_10 (vv textsv valuesv blindsv : Value) (b1 b2 : Nat) (n1 : Int) (K1 : Heaplet) (i : Int) (p8 p10 : Bool) (n9 n10 n11 n12 : Int) (p11 p12 : Bool) : RC := { ops := opsAt Try.f17 10, B := [0, 1, 3, 7, 15, 31, 7, 71, 255, 511, 1023, 2047], sl := [(1, textsv), (2, valuesv), (3, blindsv), (4, .pointer (some ⟨b1, 0, none⟩)), (8, .pointer (some ⟨b2, 0, none⟩)), (12, .int .i64 n1), (13, .int .i64 i), (48, .bool p8)], A := [K1], L := [some (b1, .cells #[vv] 24 (0, 0)), some (b2, .cells #[.slice none 0 0] 24 (0, 0)), none, none, none, none, none], cs := [{ val := fun _ => .int .i64 n1 }, { val := fun _ => .bool p10 }, { val := fun _ => .bool p10 }, { val := fun _ => .pointer (some ⟨b1, 0, none⟩) }, { val := fun _ => vv, rds := [0] }, { val := fun _ => .int .i64 n9 }, { val := fun _ => .int .i64 n1 }, { val := fun _ => .int .i64 n10 }, { val := fun _ => .int .i64 n11 }, { val := fun _ => .int .i64 n12 }, { val := fun _ => .bool p11 }, { val := fun _ => .bool p12 }] }
noncomputable def rbuild_ct_r17_11 (vv textsv valuesv blindsv : Value) (b1 b2 : Nat) (n1 : Int) (K1 : Heaplet) (p12 : Bool) : RC := { ops := opsAt Try.f17 11, B := [0, 1, 3, 7, 15], sl := [(1, textsv), (2, valuesv), (3, blindsv), (4, .pointer (some ⟨b1, 0, none⟩)), (8, .pointer (some ⟨b2, 0, none⟩)), (12, .int .i64 n1), (83, .bool p12)], A := [K1], L := [some (b1, .cells #[vv] 24 (0, 0)), some (b2, .cells #[.slice none 0 0] 24 (0, 0)), none, none, none, none, none], cs := [{ val := fun _ => .agg #[.slice none 0 0] }, { val := fun _ => undef, ups := [(1, fun _ => some (b2, .cells #[.slice none 0 0] 24 (0, 0)))] }, { val := fun _ => .int .i64 ((-1)) }, { val := fun _ => .slice none 0 0 }, { val := fun _ => .int .i64 6 }] }
noncomputable def rbuild_ct_r17_12 (vv textsv valuesv blindsv : Value) (b1 b2 : Nat) (n1 : Int) (K1 : Heaplet) (p12 : Bool) : RC := { ops := opsAt Try.f17 12, B := [0], sl := [(1, textsv), (2, valuesv), (3, blindsv), (4, .pointer (some ⟨b1, 0, none⟩)), (8, .pointer (some ⟨b2, 0, none⟩)), (12, .int .i64 n1), (83, .bool p12)], A := [K1], L := [some (b1, .cells #[vv] 24 (0, 0)), some (b2, .cells #[.slice none 0 0] 24 (0, 0)), none, none, none, none, none], cs := [{ val := fun _ => .slice none 0 0 }] }
noncomputable def rbuild_ct_r17_13 (vv textsv valuesv blindsv : Value) (b1 b2 : Nat) (n1 : Int) (K1 : Heaplet) : RC := { ops := opsAt Try.f17 13, B := [0], sl := [(1, textsv), (2, valuesv), (3, blindsv), (4, .pointer (some ⟨b1, 0, none⟩)), (8, .pointer (some ⟨b2, 0, none⟩)), (12, .int .i64 n1), (17, .slice none 0 0)], A := [K1], L := [some (b1, .cells #[vv] 24 (0, 0)), some (b2, .cells #[.slice none 0 0] 24 (0, 0)), none, none, none, none, none], cs := [{ val := fun _ => .int .i64 0 }] }
noncomputable def rbuild_ct_r17_14 (textsv valuesv blindsv : Value) (b1 b2 : Nat) (n1 : Int) (K3 : Heaplet) (leavesv : Value) (leavese : Ent) (i_1 : Int) (bv : Value) (p13 : Bool) : RC := { ops := opsAt Try.f17 14, B := [0, 0, 3], sl := [(1, textsv), (2, valuesv), (3, blindsv), (4, .pointer (some ⟨b1, 0, none⟩)), (8, .pointer (some ⟨b2, 0, none⟩)), (12, .int .i64 n1), (17, leavesv), (18, .int .i64 i_1)], A := [K3], L := [some (b1, .cells #[bv] 24 (0, 0)), some (b2, .cells #[.slice none 0 0] 24 (0, 0)), none, none, leavese, none, none], cs := [{ val := fun _ => .int .i64 i_1 }, { val := fun _ => .int .i64 n1 }, { val := fun _ => .bool p13 }] }
noncomputable def rbuild_ct_r17_15 (textsv valuesv blindsv : Value) (b1 b2 : Nat) (n1 : Int) (K3 : Heaplet) (leavesv : Value) (leavese : Ent) (i_1 : Int) (bv : Value) (p13 : Bool) : RC := { ops := opsAt Try.f17 16, B := [0], sl := [(1, textsv), (2, valuesv), (3, blindsv), (4, .pointer (some ⟨b1, 0, none⟩)), (8, .pointer (some ⟨b2, 0, none⟩)), (12, .int .i64 n1), (17, leavesv), (18, .int .i64 i_1), (87, .bool p13)], A := [K3], L := [some (b1, .cells #[bv] 24 (0, 0)), some (b2, .cells #[.slice none 0 0] 24 (0, 0)), none, none, leavese, none, none], cs := [{ val := fun _ => .int .i64 0 }] }
noncomputable def rbuild_ct_r17_16 (w0 : World) (v : List DThing) (textsv valuesv blindsv : Value) (H : Heaplet) (b1 b2 : Nat) (n1 : Int) (K3 : Heaplet) (leavesv : Value) (leavese : Ent) (i_1 : Int) (bv : Value) (s2 : ByteArray) (n13 n14 : Int) (l2 : List DThing) (n15 n16 : Int) : RC := { ops := opsAt Try.f17 17, B := [0, 0, 0, 6, 14, 0, 0, 96, 224, 0, 0, 1536, 3584, 8191, 16383, 32767, 32767, 32767, 65535, 393215], sl := [(1, textsv), (2, valuesv), (3, blindsv), (4, .pointer (some ⟨b1, 0, none⟩)), (8, .pointer (some ⟨b2, 0, none⟩)), (12, .int .i64 n1), (17, leavesv), (18, .int .i64 i_1)], A := [K3], L := [some (b1, .cells #[bv] 24 (0, 0)), some (b2, .cells #[.slice none 0 0] 24 (0, 0)), none, none, leavese, none, none], cs := [{ val := fun _ => .agg #[bv], rds := [0] }, { val := fun _ => textsv }, { val := fun _ => .int .i64 i_1 }, { val := fun _ => .pointer (some (elemAddr textsv (i_1.toNat * 1))) }, { val := fun _ => .string s2 }, { val := fun _ => valuesv }, { val := fun _ => .int .i64 i_1 }, { val := fun _ => .pointer (some (elemAddr valuesv (i_1.toNat * 1))) }, { val := fun _ => .int .i64 n13 }, { val := fun _ => blindsv }, { val := fun _ => .int .i64 i_1 }, { val := fun _ => .pointer (some (elemAddr blindsv (i_1.toNat * 1))) }, { val := fun _ => .int .i64 n14 }, { val := fun G => .tuple #[.agg #[(G 13).v], .int .i64 n15, .int .i64 n16], fact := fun G => (RSl (hun (G 13).H K3) l2 (G 13).v) ∧ New w0 (G 13).H }, { val := fun G => .tuple #[.agg #[(G 13).v], .int .i64 n15, .int .i64 n16] }, { val := fun G => .agg #[(G 13).v] }, { val := fun _ => .int .i64 n15 }, { val := fun _ => .int .i64 n16 }, { val := fun _ => undef, ups := [(0, fun G => some (b1, .cells #[(G 13).v] 24 (0, 0)))] }, { val := fun _ => .int .i64 n15 }] }
noncomputable def rbuild_ct_r17_17 (v : List DThing) (textsv valuesv blindsv : Value) (b1 b2 : Nat) (n1 : Int) (leavesv : Value) (leavese : Ent) (i_1 : Int) (b : List DThing) (n15 : Int) (v2 : Value) (K4 : Heaplet) (l3 : List Int) : RC := { ops := opsAt Try.f17 18, B := [0, 0, 2, 7, 15], sl := [(1, textsv), (2, valuesv), (3, blindsv), (4, .pointer (some ⟨b1, 0, none⟩)), (8, .pointer (some ⟨b2, 0, none⟩)), (12, .int .i64 n1), (17, leavesv), (18, .int .i64 i_1), (19, .int .i64 n15)], A := [K4], L := [some (b1, .cells #[v2] 24 (0, 0)), some (b2, .cells #[.slice none 0 0] 24 (0, 0)), none, none, leavese, none, none], cs := [{ val := fun _ => leavesv }, { val := fun _ => .int .i64 n15 }, { val := fun G => .slice (some ⟨(G 2).b, 0, none⟩) 1 1, ups := [(3, fun G => (some ((G 2).b, .cells #[.int .i64 n15] 3 (0, 0))))] }, { val := fun G => (G 3).v, fact := fun G => OSl 3 K4 l3 (G 3).v (G 3).e, ups := [(4, fun G => (G 3).e)], rds := [3] }, { val := fun G => (G 3).v }] }
noncomputable def rbuild_ct_r17_18 (textsv valuesv blindsv : Value) (b1 b2 : Nat) (n1 i_1 n15 : Int) (v2 : Value) (K4 : Heaplet) (v3 : Value) (b4 : Nat) (e1 : Ent) (n17 : Int) : RC := { ops := opsAt Try.f17 15, B := [0, 1, 3], sl := [(1, textsv), (2, valuesv), (3, blindsv), (4, .pointer (some ⟨b1, 0, none⟩)), (8, .pointer (some ⟨b2, 0, none⟩)), (12, .int .i64 n1), (17, v3), (18, .int .i64 i_1)], A := [K4], L := [some (b1, .cells #[v2] 24 (0, 0)), some (b2, .cells #[.slice none 0 0] 24 (0, 0)), none, (some (b4, .cells #[.int .i64 n15] 3 (0, 0))), e1, none, none], cs := [{ val := fun _ => .int .i64 i_1 }, { val := fun _ => .int .i64 n17 }, { val := fun _ => .int .i64 n17 }] }
noncomputable def rbuild_ct_r17_19 (textsv valuesv blindsv : Value) (b1 b2 : Nat) (n1 : Int) (K3 : Heaplet) (leavesv : Value) (leavese : Ent) (i_1 : Int) (bv : Value) (p13 : Bool) : RC := { ops := opsAt Try.f17 19, B := [0, 1], sl := [(1, textsv), (2, valuesv), (3, blindsv), (4, .pointer (some ⟨b1, 0, none⟩)), (8, .pointer (some ⟨b2, 0, none⟩)), (12, .int .i64 n1), (17, leavesv), (18, .int .i64 i_1), (87, .bool p13)], A := [K3], L := [some (b1, .cells #[bv] 24 (0, 0)), some (b2, .cells #[.slice none 0 0] 24 (0, 0)), none, none, leavese, none, none], cs := [{ val := fun _ => leavesv }, { val := fun _ => leavesv }] }
noncomputable def rbuild_ct_r17_20 (b1 b2 : Nat) (leavesv : Value) (K6 : Heaplet) (levelv b_1v : Value) (n18 : Int) (p14 : Bool) : RC := { ops := opsAt Try.f17 20, B := [0, 1, 3], sl := [(4, .pointer (some ⟨b1, 0, none⟩)), (8, .pointer (some ⟨b2, 0, none⟩)), (17, leavesv), (20, levelv)], A := [K6], L := [some (b1, .cells #[b_1v] 24 (0, 0)), some (b2, .cells #[.slice none 0 0] 24 (0, 0)), none, none, none, none, none], cs := [{ val := fun _ => levelv }, { val := fun _ => .int .i64 n18 }, { val := fun _ => .bool p14 }] }
noncomputable def rbuild_ct_r17_21 (b1 b2 : Nat) (leavesv : Value) (K6 : Heaplet) (levelv b_1v : Value) (p14 : Bool) : RC := { ops := opsAt Try.f17 21, B := [0], sl := [(4, .pointer (some ⟨b1, 0, none⟩)), (8, .pointer (some ⟨b2, 0, none⟩)), (17, leavesv), (20, levelv), (115, .bool p14)], A := [K6], L := [some (b1, .cells #[b_1v] 24 (0, 0)), some (b2, .cells #[.slice none 0 0] 24 (0, 0)), none, none, none, none, none], cs := [{ val := fun _ => .slice none 0 0 }] }
noncomputable def rbuild_ct_r17_22 (b1 b2 : Nat) (leavesv : Value) (K6 : Heaplet) (levelv b_1v : Value) : RC := { ops := opsAt Try.f17 22, B := [0], sl := [(4, .pointer (some ⟨b1, 0, none⟩)), (8, .pointer (some ⟨b2, 0, none⟩)), (17, leavesv), (20, levelv), (21, .slice none 0 0)], A := [K6], L := [some (b1, .cells #[b_1v] 24 (0, 0)), some (b2, .cells #[.slice none 0 0] 24 (0, 0)), none, none, none, none, none], cs := [{ val := fun _ => .int .i64 0 }] }
noncomputable def rbuild_ct_r17_23 (b1 b2 : Nat) (leavesv levelv : Value) (n18 : Int) (K7 : Heaplet) (nextv : Value) (nexte : Ent) (i_2 : Int) (b_2v : Value) (p15 : Bool) : RC := { ops := opsAt Try.f17 23, B := [0, 0, 2, 7], sl := [(4, .pointer (some ⟨b1, 0, none⟩)), (8, .pointer (some ⟨b2, 0, none⟩)), (17, leavesv), (20, levelv), (21, nextv), (22, .int .i64 i_2)], A := [K7], L := [some (b1, .cells #[b_2v] 24 (0, 0)), some (b2, .cells #[.slice none 0 0] 24 (0, 0)), none, none, none, none, nexte], cs := [{ val := fun _ => .int .i64 i_2 }, { val := fun _ => levelv }, { val := fun _ => .int .i64 n18 }, { val := fun _ => .bool p15 }] }
noncomputable def rbuild_ct_r17_24 (b1 b2 : Nat) (leavesv levelv : Value) (K7 : Heaplet) (nextv : Value) (nexte : Ent) (i_2 : Int) (b_2v : Value) (p15 : Bool) (n19 : Int) : RC := { ops := opsAt Try.f17 25, B := [0, 0, 3, 7, 15], sl := [(4, .pointer (some ⟨b1, 0, none⟩)), (8, .pointer (some ⟨b2, 0, none⟩)), (17, leavesv), (20, levelv), (21, nextv), (22, .int .i64 i_2), (119, .bool p15)], A := [K7], L := [some (b1, .cells #[b_2v] 24 (0, 0)), some (b2, .cells #[.slice none 0 0] 24 (0, 0)), none, none, none, none, nexte], cs := [{ val := fun _ => levelv }, { val := fun _ => .int .i64 i_2 }, { val := fun _ => .pointer (some (elemAddr levelv (i_2.toNat * 1))) }, { val := fun _ => .int .i64 n19 }, { val := fun _ => .int .i64 n19 }] }
noncomputable def rbuild_ct_r17_25 (b1 b2 : Nat) (leavesv levelv : Value) (n18 : Int) (K7 : Heaplet) (nextv : Value) (nexte : Ent) (i_2 : Int) (b_2v : Value) (n19 n20 : Int) (p16 : Bool) : RC := { ops := opsAt Try.f17 26, B := [0, 1, 0, 4, 15], sl := [(4, .pointer (some ⟨b1, 0, none⟩)), (8, .pointer (some ⟨b2, 0, none⟩)), (17, leavesv), (20, levelv), (21, nextv), (22, .int .i64 i_2), (23, .int .i64 n19)], A := [K7], L := [some (b1, .cells #[b_2v] 24 (0, 0)), some (b2, .cells #[.slice none 0 0] 24 (0, 0)), none, none, none, none, nexte], cs := [{ val := fun _ => .int .i64 i_2 }, { val := fun _ => .int .i64 n20 }, { val := fun _ => levelv }, { val := fun _ => .int .i64 n18 }, { val := fun _ => .bool p16 }] }
noncomputable def rbuild_ct_r17_26 (w0 : World) (v : List DThing) (H : Heaplet) (b1 b2 : Nat) (leavesv levelv : Value) (K7 : Heaplet) (nextv : Value) (nexte : Ent) (i_2 : Int) (b_2v : Value) (n19 n20 : Int) (p16 : Bool) (n21 : Int) (l4 : List DThing) (n22 n23 : Int) : RC := { ops := opsAt Try.f17 27, B := [0, 0, 0, 6, 14, 0, 0, 64, 224, 480, 1023, 2047, 4095, 4095, 4095, 8191, 49151], sl := [(4, .pointer (some ⟨b1, 0, none⟩)), (8, .pointer (some ⟨b2, 0, none⟩)), (17, leavesv), (20, levelv), (21, nextv), (22, .int .i64 i_2), (23, .int .i64 n19), (130, .bool p16)], A := [K7], L := [some (b1, .cells #[b_2v] 24 (0, 0)), some (b2, .cells #[.slice none 0 0] 24 (0, 0)), none, none, none, none, nexte], cs := [{ val := fun _ => .agg #[b_2v], rds := [0] }, { val := fun _ => levelv }, { val := fun _ => .int .i64 i_2 }, { val := fun _ => .pointer (some (elemAddr levelv (i_2.toNat * 1))) }, { val := fun _ => .int .i64 n19 }, { val := fun _ => levelv }, { val := fun _ => .int .i64 i_2 }, { val := fun _ => .int .i64 n20 }, { val := fun _ => .pointer (some (elemAddr levelv (n20.toNat * 1))) }, { val := fun _ => .int .i64 n21 }, { val := fun G => .tuple #[.agg #[(G 10).v], .int .i64 n22, .int .i64 n23], fact := fun G => (RSl (hun (G 10).H K7) l4 (G 10).v) ∧ New w0 (G 10).H }, { val := fun G => .tuple #[.agg #[(G 10).v], .int .i64 n22, .int .i64 n23] }, { val := fun G => .agg #[(G 10).v] }, { val := fun _ => .int .i64 n22 }, { val := fun _ => .int .i64 n23 }, { val := fun _ => undef, ups := [(0, fun G => some (b1, .cells #[(G 10).v] 24 (0, 0)))] }, { val := fun _ => .int .i64 n22 }] }
noncomputable def rbuild_ct_r17_27 (v : List DThing) (b1 b2 : Nat) (leavesv : Value) (b : List DThing) (levelv nextv : Value) (nexte : Ent) (i_2 n22 : Int) (v4 : Value) (K8 : Heaplet) (l5 : List Int) : RC := { ops := opsAt Try.f17 28, B := [0, 0, 2, 7, 15], sl := [(4, .pointer (some ⟨b1, 0, none⟩)), (8, .pointer (some ⟨b2, 0, none⟩)), (17, leavesv), (20, levelv), (21, nextv), (22, .int .i64 i_2), (23, .int .i64 n22)], A := [K8], L := [some (b1, .cells #[v4] 24 (0, 0)), some (b2, .cells #[.slice none 0 0] 24 (0, 0)), none, none, none, none, nexte], cs := [{ val := fun _ => nextv }, { val := fun _ => .int .i64 n22 }, { val := fun G => .slice (some ⟨(G 2).b, 0, none⟩) 1 1, ups := [(5, fun G => (some ((G 2).b, .cells #[.int .i64 n22] 3 (0, 0))))] }, { val := fun G => (G 3).v, fact := fun G => OSl 3 K8 l5 (G 3).v (G 3).e, ups := [(6, fun G => (G 3).e)], rds := [5] }, { val := fun G => (G 3).v }] }
noncomputable def rbuild_ct_r17_28 (b1 b2 : Nat) (leavesv levelv : Value) (i_2 n22 : Int) (v4 : Value) (K8 : Heaplet) (v5 : Value) (b5 : Nat) (e2 : Ent) (n24 : Int) : RC := { ops := opsAt Try.f17 24, B := [0, 1, 3], sl := [(4, .pointer (some ⟨b1, 0, none⟩)), (8, .pointer (some ⟨b2, 0, none⟩)), (17, leavesv), (20, levelv), (21, v5), (22, .int .i64 i_2)], A := [K8], L := [some (b1, .cells #[v4] 24 (0, 0)), some (b2, .cells #[.slice none 0 0] 24 (0, 0)), none, none, none, (some (b5, .cells #[.int .i64 n22] 3 (0, 0))), e2], cs := [{ val := fun _ => .int .i64 i_2 }, { val := fun _ => .int .i64 n24 }, { val := fun _ => .int .i64 n24 }] }
noncomputable def rbuild_ct_r17_29 (v : List DThing) (b1 b2 : Nat) (leavesv : Value) (b : List DThing) (levelv : Value) (K7 : Heaplet) (nextv : Value) (nexte : Ent) (i_2 : Int) (b_2v : Value) (n19 : Int) (p16 : Bool) (l6 : List Int) : RC := { ops := opsAt Try.f17 28, B := [0, 0, 2, 7, 15], sl := [(4, .pointer (some ⟨b1, 0, none⟩)), (8, .pointer (some ⟨b2, 0, none⟩)), (17, leavesv), (20, levelv), (21, nextv), (22, .int .i64 i_2), (23, .int .i64 n19), (130, .bool p16)], A := [K7], L := [some (b1, .cells #[b_2v] 24 (0, 0)), some (b2, .cells #[.slice none 0 0] 24 (0, 0)), none, none, none, none, nexte], cs := [{ val := fun _ => nextv }, { val := fun _ => .int .i64 n19 }, { val := fun G => .slice (some ⟨(G 2).b, 0, none⟩) 1 1, ups := [(5, fun G => (some ((G 2).b, .cells #[.int .i64 n19] 3 (0, 0))))] }, { val := fun G => (G 3).v, fact := fun G => OSl 3 K7 l6 (G 3).v (G 3).e, ups := [(6, fun G => (G 3).e)], rds := [5] }, { val := fun G => (G 3).v }] }
noncomputable def rbuild_ct_r17_30 (b1 b2 : Nat) (leavesv levelv : Value) (K7 : Heaplet) (i_2 : Int) (b_2v : Value) (n19 : Int) (v6 : Value) (b6 : Nat) (e3 : Ent) (n25 : Int) : RC := { ops := opsAt Try.f17 24, B := [0, 1, 3], sl := [(4, .pointer (some ⟨b1, 0, none⟩)), (8, .pointer (some ⟨b2, 0, none⟩)), (17, leavesv), (20, levelv), (21, v6), (22, .int .i64 i_2)], A := [K7], L := [some (b1, .cells #[b_2v] 24 (0, 0)), some (b2, .cells #[.slice none 0 0] 24 (0, 0)), none, none, none, (some (b6, .cells #[.int .i64 n19] 3 (0, 0))), e3], cs := [{ val := fun _ => .int .i64 i_2 }, { val := fun _ => .int .i64 n25 }, { val := fun _ => .int .i64 n25 }] }
noncomputable def rbuild_ct_r17_31 (b1 b2 : Nat) (leavesv levelv : Value) (K7 : Heaplet) (nextv : Value) (nexte : Ent) (i_2 : Int) (b_2v : Value) (p15 : Bool) : RC := { ops := opsAt Try.f17 29, B := [0, 1], sl := [(4, .pointer (some ⟨b1, 0, none⟩)), (8, .pointer (some ⟨b2, 0, none⟩)), (17, leavesv), (20, levelv), (21, nextv), (22, .int .i64 i_2), (119, .bool p15)], A := [K7], L := [some (b1, .cells #[b_2v] 24 (0, 0)), some (b2, .cells #[.slice none 0 0] 24 (0, 0)), none, none, none, none, nexte], cs := [{ val := fun _ => nextv }, { val := fun _ => nextv }] }
noncomputable def rbuild_ct_r17_32 (b1 b2 : Nat) (leavesv : Value) (K6 : Heaplet) (levelv b_1v : Value) (p14 : Bool) (n26 : Int) : RC := { ops := opsAt Try.f17 30, B := [0, 0, 2, 6, 0, 1, 47, 127, 255], sl := [(4, .pointer (some ⟨b1, 0, none⟩)), (8, .pointer (some ⟨b2, 0, none⟩)), (17, leavesv), (20, levelv), (115, .bool p14)], A := [K6], L := [some (b1, .cells #[b_1v] 24 (0, 0)), some (b2, .cells #[.slice none 0 0] 24 (0, 0)), none, none, none, none, none], cs := [{ val := fun _ => .agg #[b_1v], rds := [0] }, { val := fun _ => levelv }, { val := fun _ => .pointer (some (elemAddr levelv ((0 : Int).toNat * 1))) }, { val := fun _ => .int .i64 n26 }, { val := fun _ => leavesv }, { val := fun _ => undef, ups := [(1, fun _ => some (b2, .cells #[b_1v] 24 (0, 0)))] }, { val := fun _ => .int .i64 n26 }, { val := fun _ => leavesv }, { val := fun _ => .int .i64 0 }] }
set_option maxRecDepth 10000 in
set_option maxHeartbeats 1000000 in
theorem rbuild_ct (v : List DThing) (vv : Value) (texts : List ByteArray) (textsv : Value) (values : List Int) (valuesv : Value) (blinds : List Int) (blindsv : Value) (w0 : World) (H : Heaplet) (hA : Agrees w0 H) (hv : RSl H v vv) (htexts : RSl H texts textsv) (hvalues : RSl H values valuesv) (hblinds : RSl H blinds blindsv) :
    Calls Try.prog 17 #[.agg #[vv], textsv, valuesv, blindsv] w0 (Makes H (fun g => .tuple #[.agg #[g.v], .int .i64 ((Tm.buildR v texts values blinds)), g.v2, .int .i64 ((Tm.buildE v texts values blinds))]) (fun J g => RSl J ((Tm.buildT v texts values blinds)) g.v ∧ RSl J ((Tm.buildL v texts values blinds)) g.v2) w0) := by
  have hE : Ext w0 H H := Ext.refl w0 H
  have hvn := hv.lim
  have htextsn := htexts.lim
  have hvaluesn := hvalues.lim
  have hblindsn := hblinds.lim
  refine calls_of_W (sl := [(0, .agg #[vv]), (1, textsv), (2, valuesv), (3, blindsv)]) (A := [H]) (L := [none, none, none, none, none, none, none]) Try.func17 (by kernel_rfl) 156 (by kernel_rfl) (by kernel_rfl) (fun J hJ => by simp at hJ; subst hJ; exact hA) (by simp) ?_
  refine W.seq (by kernel_rfl) ?_
  refine W.regV (rbuild_ct_r17_0 vv textsv valuesv blindsv H) [2, 3, 4] [0, 1] (fun G => [.int .i64 0, .slice none 0 0, .int .i64 0]) (by kernel_rfl) mo_rc (by kernel_rfl) (fun _ _ => by kernel_rfl) ⟨?_, ?_, trivial⟩ (by kernel_rfl) ?_
  · exact One.new (r := 0) (T := 24) (fun b => .pointer (some ⟨b, 0, none⟩)) (arr := fun G => #[vv]) (fun G w => by kernel_rfl) (fun G b => by kernel_rfl)
  · exact One.new (r := 1) (T := 24) (fun b => .pointer (some ⟨b, 0, none⟩)) (arr := fun G => #[.slice none 0 0]) (fun G w => by kernel_rfl) (fun G b => by kernel_rfl)
  intro G1 xa xw hDn
  refine hDn.to [1, 2, 3, 4, 8] [] (by kernel_rfl) ?_
  clear hDn
  refine Pre.conv (sl := [(1, textsv), (2, valuesv), (3, blindsv), (4, .pointer (some ⟨(G1 0).b, 0, none⟩)), (8, .pointer (some ⟨(G1 1).b, 0, none⟩))]) (A := [H]) (L := [some ((G1 0).b, .cells #[vv] 24 (0, 0)), some ((G1 1).b, .cells #[.slice none 0 0] 24 (0, 0)), none, none, none, none, none]) ?_ (by kernel_rfl) (by kernel_rfl) (by kernel_rfl)
  generalize (G1 0).b = b1 at ⊢
  generalize (G1 1).b = b2 at ⊢
  clear G1
  refine At.then ?_
  refine W.seq (by kernel_rfl) ?_
  obtain ⟨n1, hn1⟩ : ∃ zz : Int, zz = (texts.length : Int) := ⟨_, rfl⟩
  refine W.regV (rbuild_ct_r17_1 vv textsv valuesv blindsv H b1 b2 n1) [0, 2] [1] (fun G => [textsv, .int .i64 n1]) (by kernel_rfl) mo_rc (by kernel_rfl) (fun _ _ => by kernel_rfl) ⟨?_, trivial⟩ (by kernel_rfl) ?_
  · exact One.len (t := 25) (n := n1) (v := fun G => textsv) (fun _ => ⟨by kernel_rfl⟩) (fun G w hs => ⟨_, (htexts).isSl, hn1⟩)
  intro G2 xa xw hDn
  refine hDn.to [1, 2, 3, 4, 8, 12] [] (by kernel_rfl) ?_
  clear hDn
  refine Pre.conv (sl := [(1, textsv), (2, valuesv), (3, blindsv), (4, .pointer (some ⟨b1, 0, none⟩)), (8, .pointer (some ⟨b2, 0, none⟩)), (12, .int .i64 n1)]) (A := [H]) (L := [some (b1, .cells #[vv] 24 (0, 0)), some (b2, .cells #[.slice none 0 0] 24 (0, 0)), none, none, none, none, none]) ?_ (by kernel_rfl) (by kernel_rfl) (by kernel_rfl)
  clear G2
  refine At.then ?_
  refine W.seq (by kernel_rfl) ?_
  refine W.seq (by kernel_rfl) ?_
  obtain ⟨p1, hp1⟩ : ∃ zz : Bool, zz = (decide (Tm.Sound v)) := ⟨_, rfl⟩
  obtain ⟨p2, hp2⟩ : ∃ zz : Bool, zz = decide (n1 = 0) := ⟨_, rfl⟩
  obtain ⟨p3, hp3⟩ : ∃ zz : Bool, zz = (!p1 || p2) := ⟨_, rfl⟩
  obtain ⟨n2, hn2⟩ : ∃ zz : Int, zz = (values.length : Int) := ⟨_, rfl⟩
  obtain ⟨p4, hp4⟩ : ∃ zz : Bool, zz = !(decide (n2 = n1)) := ⟨_, rfl⟩
  obtain ⟨p5, hp5⟩ : ∃ zz : Bool, zz = (p3 || p4) := ⟨_, rfl⟩
  obtain ⟨n3, hn3⟩ : ∃ zz : Int, zz = (blinds.length : Int) := ⟨_, rfl⟩
  obtain ⟨p6, hp6⟩ : ∃ zz : Bool, zz = !(decide (n3 = n1)) := ⟨_, rfl⟩
  obtain ⟨p7, hp7⟩ : ∃ zz : Bool, zz = (p5 || p6) := ⟨_, rfl⟩
  refine W.regV (rbuild_ct_r17_2 vv textsv valuesv blindsv H b1 b2 n1 p1 p2 p3 n2 p4 p5 n3 p6 p7) [2, 3, 4, 7, 8, 10, 13, 14, 16] [0, 1, 5, 6, 9, 11, 12, 15, 17, 18] (fun G => [.bool (!p1), .bool (!p1), .int .i64 n1, .bool p3, valuesv, .int .i64 n1, .bool p5, blindsv, .int .i64 n1]) (by kernel_rfl) mo_rc (by kernel_rfl) (fun _ _ => by kernel_rfl) ⟨?_, ?_, ?_, ?_, ?_, ?_, ?_, ?_, ?_, ?_, trivial⟩ (by kernel_rfl) ?_
  · exact One.loadE (t := 24) (r := 0) (off := 0) (b := fun G => b1) (vs := fun G => [vv]) (arr := fun G => #[vv]) (T := 24) (fr := (0, 0)) (fun G => ⟨by kernel_rfl⟩) (fun G => by kernel_rfl)
  · exact One.callP (v := fun G => .bool p1) (f := 47) (args := fun G => #[.agg #[vv]]) (fun _ _ => by kernel_rfl) (fun G w hs => by
      rw [hp1]
      exact rsound_ct v vv w H (hs.read 0 rfl) (hv) )
  · exact One.bo hp2 (fun _ _ => by kernel_rfl)
  · subst hp3
    cases p1 <;> exact One.under fun _ _ _ => by kernel_rfl
  · exact One.len (t := 26) (n := n2) (v := fun G => valuesv) (fun _ => ⟨by kernel_rfl⟩) (fun G w hs => by
      have hg := gd_of hs (p := (true && (p3 == false))) (by kernel_rfl)
      have hg0 := (iN hp3 (iOF (iNF (iN hp1 iDT)) (iN hp2 iDF))).1 (eqF (andR hg))
      exact ⟨_, (hvalues).isSl, hn2⟩)
  · exact One.bo hp4 (fun _ _ => by kernel_rfl)
  · subst hp5
    cases p3 <;> exact One.under fun _ _ _ => by kernel_rfl
  · exact One.len (t := 26) (n := n3) (v := fun G => blindsv) (fun _ => ⟨by kernel_rfl⟩) (fun G w hs => by
      have hg := gd_of hs (p := (true && (p5 == false))) (by kernel_rfl)
      have hg0 := (iN hp5 (iOF (iN hp3 (iOF (iNF (iN hp1 iDT)) (iN hp2 iDF))) (iN hp4 (iNF iDT)))).1 (eqF (andR hg))
      exact ⟨_, (hblinds).isSl, hn3⟩)
  · exact One.bo hp6 (fun _ _ => by kernel_rfl)
  · subst hp7
    cases p5 <;> exact One.under fun _ _ _ => by kernel_rfl
  intro G3 xa xw hDn
  refine hDn.to [1, 2, 3, 4, 8, 12, 44] [] (by kernel_rfl) ?_
  clear hDn
  refine Pre.conv (sl := [(1, textsv), (2, valuesv), (3, blindsv), (4, .pointer (some ⟨b1, 0, none⟩)), (8, .pointer (some ⟨b2, 0, none⟩)), (12, .int .i64 n1), (44, .bool p7)]) (A := [H]) (L := [some (b1, .cells #[vv] 24 (0, 0)), some (b2, .cells #[.slice none 0 0] 24 (0, 0)), none, none, none, none, none]) ?_ (by kernel_rfl) (by kernel_rfl) (by kernel_rfl)
  clear G3
  refine At.then ?_
  refine W.cond p7 (by kernel_rfl) (fun xa hs => cnd_of (t := 44) (by kernel_rfl) (by kernel_rfl) hs) (fun hq => ?_) (fun hq => ?_)
  · skip
    have hq1 := hq
    replace hq1 := (iN hp7 (iOT (iN hp5 (iOT (iN hp3 (iOT (iNT (iN hp1 iDF)) (iN hp2 iDT))) (iN hp4 (iNT iDF)))) (iN hp6 (iNT iDF)))).1 hq1
    refine W.seq (by kernel_rfl) ?_
    have hB := Tm.build_arg (v := v) (texts := texts) (values := values) (blinds := blinds) (by rintro ⟨a1, a2, a3, a4, _⟩; rcases hq1 with ((h | h) | h) | h <;> first | exact h a1 | omega)
    refine W.regV (rbuild_ct_r17_3 vv textsv valuesv blindsv H b1 b2 n1 p7) [0, 2, 3, 4] [1] (fun G => [.agg #[.slice none 0 0], .int .i64 ((-1)), .slice none 0 0, .int .i64 1]) (by kernel_rfl) mo_rc (by kernel_rfl) (fun _ _ => by kernel_rfl) ⟨?_, trivial⟩ (by kernel_rfl) ?_
    · exact One.store (t := 24) (r := 1) (off := 0) (T := 24) (b := fun G => b2) (u := fun G => .agg #[.slice none 0 0]) (vs := fun G => [.slice none 0 0]) (arr := fun G => #[.slice none 0 0]) (fun G => ⟨by kernel_rfl⟩) (fun G => by kernel_rfl)
    intro G4 xa xw hDn
    refine hDn.to [8, 9, 10, 11] [] (by kernel_rfl) ?_
    clear hDn
    refine Pre.conv (sl := [(8, .pointer (some ⟨b2, 0, none⟩)), (9, .int .i64 ((-1))), (10, .slice none 0 0), (11, .int .i64 1)]) (A := [H]) (L := [some (b1, .cells #[vv] 24 (0, 0)), some (b2, .cells #[.slice none 0 0] 24 (0, 0)), none, none, none, none, none]) ?_ (by kernel_rfl) (by kernel_rfl) (by kernel_rfl)
    clear G4
    refine At.then ?_
    refine W.ret (by kernel_rfl) ?_
    refine At.thenRet ?_
    refine At.results (Or.inl rfl) (.tuple #[.agg #[.slice none 0 0], .int .i64 ((-1)), .slice none 0 0, .int .i64 1]) (fun xa xw hs hw => results_many (rs := [.cell 8 24, .tmp 9, .tmp 10, .tmp 11]) (vs := [.agg #[.slice none 0 0], .int .i64 ((-1)), .slice none 0 0, .int .i64 1]) (by kernel_rfl) (by simp) ⟨res_cell (ty := 24) (r := 1) (b := b2) (off := 0) (arr := #[.slice none 0 0]) (T := 24) (vs := [.slice none 0 0]) hs hw (by kernel_rfl), res_tmp (t := 9) (by kernel_rfl) hs, res_tmp (t := 10) (by kernel_rfl) hs, res_tmp (t := 11) (by kernel_rfl) hs, trivial⟩) (fun w' hw => ?_)
    have e0 : ([] : List DThing) = (Tm.buildT v texts values blinds) := by
      rw [hB.2.1]
    have e1 : (-1) = (Tm.buildR v texts values blinds) := by
      rw [hB.2.2.1]
    have e2 : ([] : List Int) = (Tm.buildL v texts values blinds) := by
      rw [hB.2.2.2]
    have e3 : 1 = (Tm.buildE v texts values blinds) := by
      rw [hB.1]
    exact Makes.ret (.slice none 0 0) (.slice none 0 0) undef hA hE hw (fun N => cong2 (fun (x1 : Int) (x3 : Int) => (.tuple #[.agg #[.slice none 0 0], .int .i64 x1, .slice none 0 0, .int .i64 x3] : Value)) e1 e3) (fun N J hJ => ⟨(e0 ▸ RSl.nil), (e2 ▸ RSl.nil)⟩)
  · skip
    have hq2 := hq
    replace hq2 := (iN hp7 (iOF (iN hp5 (iOF (iN hp3 (iOF (iNF (iN hp1 iDT)) (iN hp2 iDF))) (iN hp4 (iNF iDT)))) (iN hp6 (iNF iDT)))).1 hq2
    refine W.skip (by kernel_rfl) ?_
    refine At.then ?_
    refine W.seq (by kernel_rfl) ?_
    refine W.seq (by kernel_rfl) ?_
    have hS : Tm.Sound v := by rcases hq2 with ⟨⟨⟨h, _⟩, _⟩, _⟩; first | exact h | exact Decidable.not_not.1 h
    have hS1 := hS.1
    have hn : texts.length ≠ 0 ∧ values.length = texts.length ∧ blinds.length = texts.length := by omega
    refine W.regV (rbuild_ct_r17_4 vv textsv valuesv blindsv H b1 b2 n1 p7) [0] [] (fun G => [.int .i64 0]) (by kernel_rfl) mo_rc (by kernel_rfl) (fun _ _ => by kernel_rfl) trivial (by kernel_rfl) ?_
    intro G5 xa xw hDn
    refine hDn.to [1, 2, 3, 4, 8, 12, 13] [] (by kernel_rfl) ?_
    clear hDn
    refine Pre.conv (sl := [(1, textsv), (2, valuesv), (3, blindsv), (4, .pointer (some ⟨b1, 0, none⟩)), (8, .pointer (some ⟨b2, 0, none⟩)), (12, .int .i64 n1), (13, .int .i64 0)]) (A := [H]) (L := [some (b1, .cells #[vv] 24 (0, 0)), some (b2, .cells #[.slice none 0 0] 24 (0, 0)), none, none, none, none, none]) ?_ (by kernel_rfl) (by kernel_rfl) (by kernel_rfl)
    clear G5
    refine At.then ?_
    refine W.block 0 (by kernel_rfl) ?_
    refine W.loopS (γ := Heaplet × Int) (fun ⟨K1, i⟩ => [(1, textsv), (2, valuesv), (3, blindsv), (4, .pointer (some ⟨b1, 0, none⟩)), (8, .pointer (some ⟨b2, 0, none⟩)), (12, .int .i64 n1), (13, .int .i64 i)]) (fun ⟨K1, i⟩ => [K1]) (fun ⟨K1, i⟩ => [some (b1, .cells #[vv] 24 (0, 0)), some (b2, .cells #[.slice none 0 0] 24 (0, 0)), none, none, none, none, none]) (fun ⟨K1, i⟩ => (Sub H K1) ∧ (Ext w0 H K1) ∧ (0 ≤ i) ∧ (i ≤ n1) ∧ (∀ j, j < i.toNat → Tm.isLeaf (Tm.leafAt texts values blinds j))) (fun ⟨K1, i⟩ => (n1 - i).toNat) (H, 0) (by kernel_rfl) ?_ ?_
    · intro xa xw hs hw
      refine ⟨hs.sub (by kernel_rfl), hw.mask [true, true, false, false, false, false, false] (by kernel_rfl), ?_⟩
      refine ⟨Sub.refl _, hE, ?_, ?_, ?_⟩
      · show 0 ≤ (0 : Int)
        first | omega | rfl | (simp; done) | (subst_vars; simp; done)
      · show (0 : Int) ≤ n1
        first | omega | rfl | (simp; done) | (subst_vars; simp; done)
      · show ∀ j, j < (0 : Int).toNat → Tm.isLeaf (Tm.leafAt texts values blinds j)
        intro j hj; simp at hj
    · rintro ⟨K1, i⟩ hF
      have hF : (Sub H K1) ∧ (Ext w0 H K1) ∧ (0 ≤ i) ∧ (i ≤ n1) ∧ (∀ j, j < i.toNat → Tm.isLeaf (Tm.leafAt texts values blinds j)) := hF
      obtain ⟨hk1, hE1, hf1, hf2, hf3⟩ := hF
      show W Try.prog 156 w0 [] (Code.l (Code.l (Code.r (Code.l (Code.r (Code.r (Code.r (body Try.f17)))))))) _ [(1, textsv), (2, valuesv), (3, blindsv), (4, .pointer (some ⟨b1, 0, none⟩)), (8, .pointer (some ⟨b2, 0, none⟩)), (12, .int .i64 n1), (13, .int .i64 i)] [K1] [some (b1, .cells #[vv] 24 (0, 0)), some (b2, .cells #[.slice none 0 0] 24 (0, 0)), none, none, none, none, none]
      have hr1 := (htexts).mono hk1
      have hr2 := (hvalues).mono hk1
      have hr3 := (hblinds).mono hk1
      have hr4 := (hv).mono hk1
      refine W.seq (by kernel_rfl) ?_
      refine W.seq (by kernel_rfl) ?_
      obtain ⟨p8, hp8⟩ : ∃ zz : Bool, zz = decide (i < n1) := ⟨_, rfl⟩
      refine W.regV (rbuild_ct_r17_5 vv textsv valuesv blindsv b1 b2 n1 K1 i p8) [0, 1] [2] (fun G => [.int .i64 i, .int .i64 n1]) (by kernel_rfl) mo_rc (by kernel_rfl) (fun _ _ => by kernel_rfl) ⟨?_, trivial⟩ (by kernel_rfl) ?_
      · exact One.bo hp8 (fun _ _ => by kernel_rfl)
      intro G6 xa xw hDn
      refine hDn.to [1, 2, 3, 4, 8, 12, 13, 48] [] (by kernel_rfl) ?_
      clear hDn
      refine Pre.conv (sl := [(1, textsv), (2, valuesv), (3, blindsv), (4, .pointer (some ⟨b1, 0, none⟩)), (8, .pointer (some ⟨b2, 0, none⟩)), (12, .int .i64 n1), (13, .int .i64 i), (48, .bool p8)]) (A := [K1]) (L := [some (b1, .cells #[vv] 24 (0, 0)), some (b2, .cells #[.slice none 0 0] 24 (0, 0)), none, none, none, none, none]) ?_ (by kernel_rfl) (by kernel_rfl) (by kernel_rfl)
      clear G6
      refine At.then ?_
      refine W.cond p8 (by kernel_rfl) (fun xa hs => cnd_of (t := 48) (by kernel_rfl) (by kernel_rfl) hs) (fun hq => ?_) (fun hq => ?_)
      · skip
        have hq3 := hq
        replace hq3 := (iN hp8 iDT).1 hq3
        refine W.skip (by kernel_rfl) ?_
        refine At.then ?_
        refine W.seq (by kernel_rfl) ?_
        refine W.block 1 (by kernel_rfl) ?_
        refine W.seq (by kernel_rfl) ?_
        obtain ⟨s1, hs1⟩ : ∃ zz : ByteArray, zz = texts.getD i.toNat default := ⟨_, rfl⟩
        obtain ⟨n4, hn4⟩ : ∃ zz : Int, zz = values.getD i.toNat default := ⟨_, rfl⟩
        obtain ⟨n5, hn5⟩ : ∃ zz : Int, zz = blinds.getD i.toNat default := ⟨_, rfl⟩
        obtain ⟨l1, hl1⟩ : ∃ zz : List DThing, zz = (Tm.leafV (([] : List DThing)) s1 n4 n5) := ⟨_, rfl⟩
        obtain ⟨n6, hn6⟩ : ∃ zz : Int, zz = (Tm.leafI (([] : List DThing)) s1 n4 n5) := ⟨_, rfl⟩
        obtain ⟨n7, hn7⟩ : ∃ zz : Int, zz = (Tm.leafE (([] : List DThing)) s1 n4 n5) := ⟨_, rfl⟩
        refine W.regV (rbuild_ct_r17_6 w0 v vv textsv valuesv blindsv H b1 b2 n1 K1 i p8 s1 n4 n5 l1 n6 n7) [0, 1, 2, 5, 6, 9, 10, 14, 15, 16, 17, 20, 21] [3, 4, 7, 8, 11, 12, 13, 18, 19] (fun G => [.agg #[.slice none 0 0], textsv, .int .i64 i, valuesv, .int .i64 i, blindsv, .int .i64 i, .tuple #[.agg #[(G 13).v], .int .i64 n6, .int .i64 n7], .agg #[(G 13).v], .int .i64 n6, .int .i64 n7, .int .i64 n6, .int .i64 n7]) (by kernel_rfl) mo_rc (by kernel_rfl) (fun _ _ => by kernel_rfl) ⟨?_, ?_, ?_, ?_, ?_, ?_, ?_, ?_, ?_, trivial⟩ (by kernel_rfl) ?_
        · exact One.index (t := 25) (e := 9) (size := 1) (v := fun G => textsv) (k := .i64) (n := i) (fun _ => ⟨by kernel_rfl⟩) (fun G w hs => ⟨_, (hr1).isSl, by first | omega | (simp only [List.length_append, List.length_cons, List.length_nil, List.length_replicate, List.length_set, List.length_take, List.length_drop, List.length_map, List.length_reverse, List.length_range]; omega), by first | omega | (simp only [List.length_append, List.length_cons, List.length_nil, List.length_replicate, List.length_set, List.length_take, List.length_drop, List.length_map, List.length_reverse, List.length_range]; omega)⟩)
        · exact One.loadD (α := ByteArray) (t := 9) (size := 1) (off := 0) (k := i) (l := fun G => texts) (x := fun G => s1) (vs := fun G => [.string s1]) (v := fun G => textsv) (H := fun G => K1) (p := fun G => elemAddr textsv (i.toNat * 1)) (fun G => ⟨by kernel_rfl⟩) rfl (fun G => by kernel_rfl) (fun G w hs => ⟨(hs.read 0 rfl), hr1, (add_zero' _).symm, by omega, by first | omega | (simp only [List.length_append, List.length_cons, List.length_nil, List.length_replicate, List.length_set, List.length_take, List.length_drop, List.length_map, List.length_reverse, List.length_range]; omega), hs1⟩)
        · exact One.index (t := 26) (e := 3) (size := 1) (v := fun G => valuesv) (k := .i64) (n := i) (fun _ => ⟨by kernel_rfl⟩) (fun G w hs => ⟨_, (hr2).isSl, by first | omega | (simp only [List.length_append, List.length_cons, List.length_nil, List.length_replicate, List.length_set, List.length_take, List.length_drop, List.length_map, List.length_reverse, List.length_range]; omega), by first | omega | (simp only [List.length_append, List.length_cons, List.length_nil, List.length_replicate, List.length_set, List.length_take, List.length_drop, List.length_map, List.length_reverse, List.length_range]; omega)⟩)
        · exact One.loadD (α := Int) (t := 3) (size := 1) (off := 0) (k := i) (l := fun G => values) (x := fun G => n4) (vs := fun G => [.int .i64 n4]) (v := fun G => valuesv) (H := fun G => K1) (p := fun G => elemAddr valuesv (i.toNat * 1)) (fun G => ⟨by kernel_rfl⟩) rfl (fun G => by kernel_rfl) (fun G w hs => ⟨(hs.read 0 rfl), hr2, (add_zero' _).symm, by omega, by first | omega | (simp only [List.length_append, List.length_cons, List.length_nil, List.length_replicate, List.length_set, List.length_take, List.length_drop, List.length_map, List.length_reverse, List.length_range]; omega), hn4⟩)
        · exact One.index (t := 26) (e := 3) (size := 1) (v := fun G => blindsv) (k := .i64) (n := i) (fun _ => ⟨by kernel_rfl⟩) (fun G w hs => ⟨_, (hr3).isSl, by first | omega | (simp only [List.length_append, List.length_cons, List.length_nil, List.length_replicate, List.length_set, List.length_take, List.length_drop, List.length_map, List.length_reverse, List.length_range]; omega), by first | omega | (simp only [List.length_append, List.length_cons, List.length_nil, List.length_replicate, List.length_set, List.length_take, List.length_drop, List.length_map, List.length_reverse, List.length_range]; omega)⟩)
        · exact One.loadD (α := Int) (t := 3) (size := 1) (off := 0) (k := i) (l := fun G => blinds) (x := fun G => n5) (vs := fun G => [.int .i64 n5]) (v := fun G => blindsv) (H := fun G => K1) (p := fun G => elemAddr blindsv (i.toNat * 1)) (fun G => ⟨by kernel_rfl⟩) rfl (fun G => by kernel_rfl) (fun G w hs => ⟨(hs.read 0 rfl), hr3, (add_zero' _).symm, by omega, by first | omega | (simp only [List.length_append, List.length_cons, List.length_nil, List.length_replicate, List.length_set, List.length_take, List.length_drop, List.length_map, List.length_reverse, List.length_range]; omega), hn5⟩)
        · exact One.callM (f := 48) (args := fun G => #[.agg #[.slice none 0 0], .string s1, .int .i64 n4, .int .i64 n5]) (H := fun G => K1) (V := fun G g => .tuple #[.agg #[g.v], .int .i64 n6, .int .i64 n7]) (F := fun G J g => RSl J l1 g.v) (fun G g w => ⟨by kernel_rfl, by kernel_rfl⟩) (fun G w hs => by
            rw [hl1, hn6, hn7]
            exact rLeaf_ct (([] : List DThing)) (.slice none 0 0) s1 n4 n5 w K1 (hs.read 0 rfl) (RSl.nil) )
        · exact One.new (r := 2) (T := 24) (fun b => .pointer (some ⟨b, 0, none⟩)) (arr := fun G => #[.slice none 0 0]) (fun G w => by kernel_rfl) (fun G b => by kernel_rfl)
        · exact One.storeX (t := 24) (r := 2) (off := 0) (T := 24) (b := fun G => (G 18).b) (u := fun G => .agg #[(G 13).v]) (vs := fun G => [(G 13).v]) (arr := fun G => #[.slice none 0 0]) (fun G => ⟨by kernel_rfl⟩) (fun G w hs => by
            have ho13 : (RSl (hun (G 13).H K1) l1 (G 13).v) ∧ New w0 (G 13).H := hs.get 13 (by kernel_rfl) (p := true) (by kernel_rfl) rfl (by kernel_rfl)
            exact ⟨rfl, (all_cons1 (ho13.1).cell1 rfl)⟩)
        intro G7 xa xw hDn
        have hf13_4 : (RSl (hun (G7 13).H K1) l1 (G7 13).v) ∧ New w0 (G7 13).H := hDn.get 13 (by kernel_rfl) (by kernel_rfl) (by kernel_rfl)
        refine hDn.to [1, 2, 3, 4, 8, 12, 13, 16] [13] (by kernel_rfl) ?_
        clear hDn
        refine Pre.conv (sl := [(1, textsv), (2, valuesv), (3, blindsv), (4, .pointer (some ⟨b1, 0, none⟩)), (8, .pointer (some ⟨b2, 0, none⟩)), (12, .int .i64 n1), (13, .int .i64 i), (16, .int .i64 n7)]) (A := [(G7 13).H, K1]) (L := [some (b1, .cells #[vv] 24 (0, 0)), some (b2, .cells #[.slice none 0 0] 24 (0, 0)), some ((G7 18).b, .cells #[(G7 13).v] 24 (0, 0)), none, none, none, none]) ?_ (by kernel_rfl) (by kernel_rfl) (by kernel_rfl)
        generalize (G7 18).b = b3 at hf13_4 ⊢
        generalize (G7 13).v = v1 at hf13_4 ⊢
        generalize (G7 13).H = N1 at hf13_4 ⊢
        clear G7
        refine Pre.merge (Ns := [N1]) hE1 (by simp only [List.mem_cons, List.not_mem_nil, or_false, forall_eq_or_imp, forall_eq]; exact hf13_4.2) (fun K2 hk2 hk3 hE2 => ?_)
        have hr5 := (hr1).mono hk2
        have hr5n := hr5.lim
        have hr6 := (hr2).mono hk2
        have hr6n := hr6.lim
        have hr7 := (hr3).mono hk2
        have hr7n := hr7.lim
        have hr8 := (hr4).mono hk2
        have hr8n := hr8.lim
        have hr9 := (hf13_4.1).mono (hun_sub (hk3 _ (by simp)) hk2)
        have hr9n := hr9.lim
        refine At.then ?_
        refine W.seq (by kernel_rfl) ?_
        obtain ⟨p9, hp9⟩ : ∃ zz : Bool, zz = !(decide (n7 = 0)) := ⟨_, rfl⟩
        refine W.regV (rbuild_ct_r17_7 vv textsv valuesv blindsv b1 b2 n1 i n7 b3 v1 K2 p9) [0] [1] (fun G => [.int .i64 n7]) (by kernel_rfl) mo_rc (by kernel_rfl) (fun _ _ => by kernel_rfl) ⟨?_, trivial⟩ (by kernel_rfl) ?_
        · exact One.bo hp9 (fun _ _ => by kernel_rfl)
        intro G8 xa xw hDn
        refine hDn.to [1, 2, 3, 4, 8, 12, 13, 70] [] (by kernel_rfl) ?_
        clear hDn
        refine Pre.conv (sl := [(1, textsv), (2, valuesv), (3, blindsv), (4, .pointer (some ⟨b1, 0, none⟩)), (8, .pointer (some ⟨b2, 0, none⟩)), (12, .int .i64 n1), (13, .int .i64 i), (70, .bool p9)]) (A := [K2]) (L := [some (b1, .cells #[vv] 24 (0, 0)), some (b2, .cells #[.slice none 0 0] 24 (0, 0)), some (b3, .cells #[v1] 24 (0, 0)), none, none, none, none]) ?_ (by kernel_rfl) (by kernel_rfl) (by kernel_rfl)
        clear G8
        refine At.then ?_
        refine W.cond p9 (by kernel_rfl) (fun xa hs => cnd_of (t := 70) (by kernel_rfl) (by kernel_rfl) hs) (fun hq => ?_) (fun hq => ?_)
        · skip
          have hq4 := hq
          replace hq4 := (iN hp9 (iNT iDF)).1 hq4
          refine W.seq (by kernel_rfl) ?_
          have hB := Tm.build_arg (Tm.leaf_no (v := v) (texts := texts) (values := values) (blinds := blinds) (k := i) (by omega) (by omega) (by assumption) (by assumption) (by assumption) (fun h => by rw [Tm.sound_one] at h; have := Tm.leafE_ok (v := []) ⟨by decide, h⟩ (by simp); omega))
          refine W.regV (rbuild_ct_r17_8 vv textsv valuesv blindsv b1 b2 n1 i b3 v1 K2 p9) [0, 2, 3, 4] [1] (fun G => [.agg #[.slice none 0 0], .int .i64 ((-1)), .slice none 0 0, .int .i64 1]) (by kernel_rfl) mo_rc (by kernel_rfl) (fun _ _ => by kernel_rfl) ⟨?_, trivial⟩ (by kernel_rfl) ?_
          · exact One.store (t := 24) (r := 1) (off := 0) (T := 24) (b := fun G => b2) (u := fun G => .agg #[.slice none 0 0]) (vs := fun G => [.slice none 0 0]) (arr := fun G => #[.slice none 0 0]) (fun G => ⟨by kernel_rfl⟩) (fun G => by kernel_rfl)
          intro G9 xa xw hDn
          refine hDn.to [8, 9, 10, 11] [] (by kernel_rfl) ?_
          clear hDn
          refine Pre.conv (sl := [(8, .pointer (some ⟨b2, 0, none⟩)), (9, .int .i64 ((-1))), (10, .slice none 0 0), (11, .int .i64 1)]) (A := [K2]) (L := [some (b1, .cells #[vv] 24 (0, 0)), some (b2, .cells #[.slice none 0 0] 24 (0, 0)), some (b3, .cells #[v1] 24 (0, 0)), none, none, none, none]) ?_ (by kernel_rfl) (by kernel_rfl) (by kernel_rfl)
          clear G9
          refine At.then ?_
          refine W.ret (by kernel_rfl) ?_
          refine At.blockRet ?_
          refine At.thenRet ?_
          refine At.thenRet ?_
          refine At.blockRet ?_
          refine At.thenRet ?_
          refine At.results (Or.inl rfl) (.tuple #[.agg #[.slice none 0 0], .int .i64 ((-1)), .slice none 0 0, .int .i64 1]) (fun xa xw hs hw => results_many (rs := [.cell 8 24, .tmp 9, .tmp 10, .tmp 11]) (vs := [.agg #[.slice none 0 0], .int .i64 ((-1)), .slice none 0 0, .int .i64 1]) (by kernel_rfl) (by simp) ⟨res_cell (ty := 24) (r := 1) (b := b2) (off := 0) (arr := #[.slice none 0 0]) (T := 24) (vs := [.slice none 0 0]) hs hw (by kernel_rfl), res_tmp (t := 9) (by kernel_rfl) hs, res_tmp (t := 10) (by kernel_rfl) hs, res_tmp (t := 11) (by kernel_rfl) hs, trivial⟩) (fun w' hw => ?_)
          have e0 : ([] : List DThing) = (Tm.buildT v texts values blinds) := by
            rw [hB.2.1]
          have e1 : (-1) = (Tm.buildR v texts values blinds) := by
            rw [hB.2.2.1]
          have e2 : ([] : List Int) = (Tm.buildL v texts values blinds) := by
            rw [hB.2.2.2]
          have e3 : 1 = (Tm.buildE v texts values blinds) := by
            rw [hB.1]
          exact Makes.ret (.slice none 0 0) (.slice none 0 0) undef hA hE2 hw (fun N => cong2 (fun (x1 : Int) (x3 : Int) => (.tuple #[.agg #[.slice none 0 0], .int .i64 x1, .slice none 0 0, .int .i64 x3] : Value)) e1 e3) (fun N J hJ => ⟨(e0 ▸ RSl.nil), (e2 ▸ RSl.nil)⟩)
        · skip
          have hq5 := hq
          replace hq5 := (iN hp9 (iNF iDT)).1 hq5
          refine W.skip (by kernel_rfl) ?_
          refine At.blockNormal ?_
          refine At.then ?_
          obtain ⟨n8, hn8⟩ : ∃ zz : Int, zz = i + 1 := ⟨_, rfl⟩
          refine W.regV (rbuild_ct_r17_9 vv textsv valuesv blindsv b1 b2 n1 i b3 v1 K2 p9 n8) [0, 2] [1] (fun G => [.int .i64 i, .int .i64 n8]) (by kernel_rfl) mo_rc (by kernel_rfl) (fun _ _ => by kernel_rfl) ⟨?_, trivial⟩ (by kernel_rfl) ?_
          · exact One.ar hn8 (fun _ _ => by kernel_rfl) (fun G w hs => by omega)
          intro G10 xa xw hDn
          refine hDn.to [1, 2, 3, 4, 8, 12, 13] [] (by kernel_rfl) ?_
          clear hDn
          refine Pre.conv (sl := [(1, textsv), (2, valuesv), (3, blindsv), (4, .pointer (some ⟨b1, 0, none⟩)), (8, .pointer (some ⟨b2, 0, none⟩)), (12, .int .i64 n1), (13, .int .i64 n8)]) (A := [K2]) (L := [some (b1, .cells #[vv] 24 (0, 0)), some (b2, .cells #[.slice none 0 0] 24 (0, 0)), some (b3, .cells #[v1] 24 (0, 0)), none, none, none, none]) ?_ (by kernel_rfl) (by kernel_rfl) (by kernel_rfl)
          clear G10
          intro xa xw hs hw
          refine ⟨(K2, n8), ⟨hs.sub (by kernel_rfl), hw.mask [true, true, false, false, false, false, false] (by kernel_rfl), ?_⟩, ?_⟩
          · skip
            refine ⟨(hk1).trans ((((Sub.refl _)).trans hk2)), hE2, ?_, ?_, ?_⟩
            · show 0 ≤ n8
              first | omega | rfl | (simp; done) | (subst_vars; simp; done)
            · show n8 ≤ n1
              first | omega | rfl | (simp; done) | (subst_vars; simp; done)
            · show ∀ j, j < n8.toNat → Tm.isLeaf (Tm.leafAt texts values blinds j)
              exact Tm.leaf_step hf3 (by omega) (by assumption) (by assumption) (by assumption) (by assumption) (by rw [Tm.sound_one]; exact Decidable.byContradiction fun hc => by have := Tm.leafE_bad (v := []) (fun h => hc h.2); omega)
          · show (n1 - n8).toNat < (n1 - i).toNat
            omega
      · skip
        have hq6 := hq
        replace hq6 := (iN hp8 iDF).1 hq6
        refine W.exit 0 (by kernel_rfl) ?_
        refine At.thenExit ?_
        refine At.thenExit ?_
        refine At.blockHit ?_
        refine At.then ?_
        refine W.seq (by kernel_rfl) ?_
        refine W.seq (by kernel_rfl) ?_
        have hOK : Tm.argsOK v texts values blinds := ⟨hS, hn.1, hn.2.1, hn.2.2, fun j hj => hf3 j (by omega)⟩
        have hTB := Tm.tot_bound hOK
        obtain ⟨p10, hp10⟩ : ∃ zz : Bool, zz = decide (64 < n1) := ⟨_, rfl⟩
        obtain ⟨n9, hn9⟩ : ∃ zz : Int, zz = (v.length : Int) := ⟨_, rfl⟩
        obtain ⟨n10, hn10⟩ : ∃ zz : Int, zz = 2 * n1 := ⟨_, rfl⟩
        obtain ⟨n11, hn11⟩ : ∃ zz : Int, zz = n9 + n10 := ⟨_, rfl⟩
        obtain ⟨n12, hn12⟩ : ∃ zz : Int, zz = n11 - 1 := ⟨_, rfl⟩
        obtain ⟨p11, hp11⟩ : ∃ zz : Bool, zz = decide (2000 < n12) := ⟨_, rfl⟩
        obtain ⟨p12, hp12⟩ : ∃ zz : Bool, zz = (p10 || p11) := ⟨_, rfl⟩
        refine W.regV (rbuild_ct_r17_10 vv textsv valuesv blindsv b1 b2 n1 K1 i p8 p10 n9 n10 n11 n12 p11 p12) [0, 2, 3, 6] [1, 4, 5, 7, 8, 9, 10, 11] (fun G => [.int .i64 n1, .bool p10, .pointer (some ⟨b1, 0, none⟩), .int .i64 n1]) (by kernel_rfl) mo_rc (by kernel_rfl) (fun _ _ => by kernel_rfl) ⟨?_, ?_, ?_, ?_, ?_, ?_, ?_, ?_, trivial⟩ (by kernel_rfl) ?_
        · exact One.bo hp10 (fun _ _ => by kernel_rfl)
        · exact One.loadE (t := 22) (r := 0) (off := 0) (b := fun G => b1) (vs := fun G => [vv]) (arr := fun G => #[vv]) (T := 24) (fr := (0, 0)) (fun G => ⟨by kernel_rfl⟩) (fun G => by kernel_rfl)
        · exact One.len (t := 22) (n := n9) (v := fun G => vv) (fun _ => ⟨by kernel_rfl⟩) (fun G w hs => by
            have hg := gd_of hs (p := (true && (p10 == false))) (by kernel_rfl)
            have hg0 := (iN hp10 iDF).1 (eqF (andR hg))
            exact ⟨_, (hr4).isSl, hn9⟩)
        · exact One.ar hn10 (fun _ _ => by kernel_rfl) (fun G w hs => by
            have hg := gd_of hs (p := (true && (p10 == false))) (by kernel_rfl)
            have hg0 := (iN hp10 iDF).1 (eqF (andR hg))
            exact by omega)
        · exact One.ar hn11 (fun _ _ => by kernel_rfl) (fun G w hs => by
            have hg := gd_of hs (p := (true && (p10 == false))) (by kernel_rfl)
            have hg0 := (iN hp10 iDF).1 (eqF (andR hg))
            exact by omega)
        · exact One.ar hn12 (fun _ _ => by kernel_rfl) (fun G w hs => by
            have hg := gd_of hs (p := (true && (p10 == false))) (by kernel_rfl)
            have hg0 := (iN hp10 iDF).1 (eqF (andR hg))
            exact by omega)
        · exact One.bo hp11 (fun _ _ => by kernel_rfl)
        · subst hp12
          cases p10 <;> exact One.under fun _ _ _ => by kernel_rfl
        intro G11 xa xw hDn
        refine hDn.to [1, 2, 3, 4, 8, 12, 83] [] (by kernel_rfl) ?_
        clear hDn
        refine Pre.conv (sl := [(1, textsv), (2, valuesv), (3, blindsv), (4, .pointer (some ⟨b1, 0, none⟩)), (8, .pointer (some ⟨b2, 0, none⟩)), (12, .int .i64 n1), (83, .bool p12)]) (A := [K1]) (L := [some (b1, .cells #[vv] 24 (0, 0)), some (b2, .cells #[.slice none 0 0] 24 (0, 0)), none, none, none, none, none]) ?_ (by kernel_rfl) (by kernel_rfl) (by kernel_rfl)
        clear G11
        refine At.then ?_
        refine W.cond p12 (by kernel_rfl) (fun xa hs => cnd_of (t := 83) (by kernel_rfl) (by kernel_rfl) hs) (fun hq => ?_) (fun hq => ?_)
        · skip
          have hq7 := hq
          replace hq7 := (iN hp12 (iOT (iN hp10 iDT) (iN hp11 iDT))).1 hq7
          refine W.seq (by kernel_rfl) ?_
          have hB := Tm.build_full hOK (by omega)
          refine W.regV (rbuild_ct_r17_11 vv textsv valuesv blindsv b1 b2 n1 K1 p12) [0, 2, 3, 4] [1] (fun G => [.agg #[.slice none 0 0], .int .i64 ((-1)), .slice none 0 0, .int .i64 6]) (by kernel_rfl) mo_rc (by kernel_rfl) (fun _ _ => by kernel_rfl) ⟨?_, trivial⟩ (by kernel_rfl) ?_
          · exact One.store (t := 24) (r := 1) (off := 0) (T := 24) (b := fun G => b2) (u := fun G => .agg #[.slice none 0 0]) (vs := fun G => [.slice none 0 0]) (arr := fun G => #[.slice none 0 0]) (fun G => ⟨by kernel_rfl⟩) (fun G => by kernel_rfl)
          intro G12 xa xw hDn
          refine hDn.to [8, 9, 10, 11] [] (by kernel_rfl) ?_
          clear hDn
          refine Pre.conv (sl := [(8, .pointer (some ⟨b2, 0, none⟩)), (9, .int .i64 ((-1))), (10, .slice none 0 0), (11, .int .i64 6)]) (A := [K1]) (L := [some (b1, .cells #[vv] 24 (0, 0)), some (b2, .cells #[.slice none 0 0] 24 (0, 0)), none, none, none, none, none]) ?_ (by kernel_rfl) (by kernel_rfl) (by kernel_rfl)
          clear G12
          refine At.then ?_
          refine W.ret (by kernel_rfl) ?_
          refine At.thenRet ?_
          refine At.results (Or.inl rfl) (.tuple #[.agg #[.slice none 0 0], .int .i64 ((-1)), .slice none 0 0, .int .i64 6]) (fun xa xw hs hw => results_many (rs := [.cell 8 24, .tmp 9, .tmp 10, .tmp 11]) (vs := [.agg #[.slice none 0 0], .int .i64 ((-1)), .slice none 0 0, .int .i64 6]) (by kernel_rfl) (by simp) ⟨res_cell (ty := 24) (r := 1) (b := b2) (off := 0) (arr := #[.slice none 0 0]) (T := 24) (vs := [.slice none 0 0]) hs hw (by kernel_rfl), res_tmp (t := 9) (by kernel_rfl) hs, res_tmp (t := 10) (by kernel_rfl) hs, res_tmp (t := 11) (by kernel_rfl) hs, trivial⟩) (fun w' hw => ?_)
          have e0 : ([] : List DThing) = (Tm.buildT v texts values blinds) := by
            rw [hB.2.1]
          have e1 : (-1) = (Tm.buildR v texts values blinds) := by
            rw [hB.2.2.1]
          have e2 : ([] : List Int) = (Tm.buildL v texts values blinds) := by
            rw [hB.2.2.2]
          have e3 : 6 = (Tm.buildE v texts values blinds) := by
            rw [hB.1]
          exact Makes.ret (.slice none 0 0) (.slice none 0 0) undef hA hE1 hw (fun N => cong2 (fun (x1 : Int) (x3 : Int) => (.tuple #[.agg #[.slice none 0 0], .int .i64 x1, .slice none 0 0, .int .i64 x3] : Value)) e1 e3) (fun N J hJ => ⟨(e0 ▸ RSl.nil), (e2 ▸ RSl.nil)⟩)
        · skip
          have hq8 := hq
          replace hq8 := (iN hp12 (iOF (iN hp10 iDF) (iN hp11 iDF))).1 hq8
          refine W.skip (by kernel_rfl) ?_
          refine At.then ?_
          refine W.seq (by kernel_rfl) ?_
          have hB := Tm.build_ok hOK (by omega)
          refine W.regV (rbuild_ct_r17_12 vv textsv valuesv blindsv b1 b2 n1 K1 p12) [0] [] (fun G => [.slice none 0 0]) (by kernel_rfl) mo_rc (by kernel_rfl) (fun _ _ => by kernel_rfl) trivial (by kernel_rfl) ?_
          intro G13 xa xw hDn
          refine hDn.to [1, 2, 3, 4, 8, 12, 17] [] (by kernel_rfl) ?_
          clear hDn
          refine Pre.conv (sl := [(1, textsv), (2, valuesv), (3, blindsv), (4, .pointer (some ⟨b1, 0, none⟩)), (8, .pointer (some ⟨b2, 0, none⟩)), (12, .int .i64 n1), (17, .slice none 0 0)]) (A := [K1]) (L := [some (b1, .cells #[vv] 24 (0, 0)), some (b2, .cells #[.slice none 0 0] 24 (0, 0)), none, none, none, none, none]) ?_ (by kernel_rfl) (by kernel_rfl) (by kernel_rfl)
          clear G13
          refine At.then ?_
          refine W.seq (by kernel_rfl) ?_
          refine W.seq (by kernel_rfl) ?_
          refine W.regV (rbuild_ct_r17_13 vv textsv valuesv blindsv b1 b2 n1 K1) [0] [] (fun G => [.int .i64 0]) (by kernel_rfl) mo_rc (by kernel_rfl) (fun _ _ => by kernel_rfl) trivial (by kernel_rfl) ?_
          intro G14 xa xw hDn
          refine hDn.to [1, 2, 3, 4, 8, 12, 17, 18] [] (by kernel_rfl) ?_
          clear hDn
          refine Pre.conv (sl := [(1, textsv), (2, valuesv), (3, blindsv), (4, .pointer (some ⟨b1, 0, none⟩)), (8, .pointer (some ⟨b2, 0, none⟩)), (12, .int .i64 n1), (17, .slice none 0 0), (18, .int .i64 0)]) (A := [K1]) (L := [some (b1, .cells #[vv] 24 (0, 0)), some (b2, .cells #[.slice none 0 0] 24 (0, 0)), none, none, none, none, none]) ?_ (by kernel_rfl) (by kernel_rfl) (by kernel_rfl)
          clear G14
          refine At.then ?_
          refine W.block 2 (by kernel_rfl) ?_
          refine W.loopS (γ := Heaplet × List Int × Value × Ent × Int × List DThing × Value) (fun ⟨K3, leaves, leavesv, leavese, i_1, b, bv⟩ => [(1, textsv), (2, valuesv), (3, blindsv), (4, .pointer (some ⟨b1, 0, none⟩)), (8, .pointer (some ⟨b2, 0, none⟩)), (12, .int .i64 n1), (17, leavesv), (18, .int .i64 i_1)]) (fun ⟨K3, leaves, leavesv, leavese, i_1, b, bv⟩ => [K3]) (fun ⟨K3, leaves, leavesv, leavese, i_1, b, bv⟩ => [some (b1, .cells #[bv] 24 (0, 0)), some (b2, .cells #[.slice none 0 0] 24 (0, 0)), none, none, leavese, none, none]) (fun ⟨K3, leaves, leavesv, leavese, i_1, b, bv⟩ => (Sub K1 K3) ∧ (Ext w0 H K3) ∧ (OSl 3 K3 leaves leavesv leavese) ∧ (RSl K3 b bv) ∧ (0 ≤ i_1) ∧ (i_1 ≤ n1) ∧ (leaves = Tm.idsN v.length i_1.toNat) ∧ (b = v ++ Tm.leavesN texts values blinds i_1.toNat) ∧ (Tm.Sound b)) (fun ⟨K3, leaves, leavesv, leavese, i_1, b, bv⟩ => (n1 - i_1).toNat) (K1, ([] : List Int), .slice none 0 0, none, 0, v, vv) (by kernel_rfl) ?_ ?_
          · intro xa xw hs hw
            refine ⟨hs.sub (by kernel_rfl), hw.mask [true, true, false, false, true, false, false] (by kernel_rfl), ?_⟩
            refine ⟨Sub.refl _, hE1, OSl.nil, hr4, ?_, ?_, ?_, ?_, ?_⟩
            · show 0 ≤ (0 : Int)
              first | omega | rfl | (simp; done) | (subst_vars; simp; done)
            · show (0 : Int) ≤ n1
              first | omega | rfl | (simp; done) | (subst_vars; simp; done)
            · show (([] : List Int)) = Tm.idsN v.length (0 : Int).toNat
              rfl
            · show v = v ++ Tm.leavesN texts values blinds (0 : Int).toNat
              simp [Tm.leavesN]
            · show Tm.Sound v
              exact hS
          · rintro ⟨K3, leaves, leavesv, leavese, i_1, b, bv⟩ hF
            have hF : (Sub K1 K3) ∧ (Ext w0 H K3) ∧ (OSl 3 K3 leaves leavesv leavese) ∧ (RSl K3 b bv) ∧ (0 ≤ i_1) ∧ (i_1 ≤ n1) ∧ (leaves = Tm.idsN v.length i_1.toNat) ∧ (b = v ++ Tm.leavesN texts values blinds i_1.toNat) ∧ (Tm.Sound b) := hF
            obtain ⟨hk4, hE3, hr10, hr11, hf5, hf6, hf7, hf8, hf9⟩ := hF
            show W Try.prog 156 w0 [] (Code.l (Code.l (Code.r (Code.l (Code.r (Code.r (Code.r (Code.r (Code.r (Code.r (body Try.f17))))))))))) _ [(1, textsv), (2, valuesv), (3, blindsv), (4, .pointer (some ⟨b1, 0, none⟩)), (8, .pointer (some ⟨b2, 0, none⟩)), (12, .int .i64 n1), (17, leavesv), (18, .int .i64 i_1)] [K3] [some (b1, .cells #[bv] 24 (0, 0)), some (b2, .cells #[.slice none 0 0] 24 (0, 0)), none, none, leavese, none, none]
            have hr10n := hr10.lim
            have hr11n := hr11.lim
            have hr12 := (hr1).mono hk4
            have hr13 := (hr2).mono hk4
            have hr14 := (hr3).mono hk4
            have hlv : leaves.length = i_1.toNat := by rw [hf7]; simp
            have hbl : b.length = v.length + i_1.toNat := by rw [hf8]; simp
            refine W.seq (by kernel_rfl) ?_
            refine W.seq (by kernel_rfl) ?_
            obtain ⟨p13, hp13⟩ : ∃ zz : Bool, zz = decide (i_1 < n1) := ⟨_, rfl⟩
            refine W.regV (rbuild_ct_r17_14 textsv valuesv blindsv b1 b2 n1 K3 leavesv leavese i_1 bv p13) [0, 1] [2] (fun G => [.int .i64 i_1, .int .i64 n1]) (by kernel_rfl) mo_rc (by kernel_rfl) (fun _ _ => by kernel_rfl) ⟨?_, trivial⟩ (by kernel_rfl) ?_
            · exact One.bo hp13 (fun _ _ => by kernel_rfl)
            intro G15 xa xw hDn
            refine hDn.to [1, 2, 3, 4, 8, 12, 17, 18, 87] [] (by kernel_rfl) ?_
            clear hDn
            refine Pre.conv (sl := [(1, textsv), (2, valuesv), (3, blindsv), (4, .pointer (some ⟨b1, 0, none⟩)), (8, .pointer (some ⟨b2, 0, none⟩)), (12, .int .i64 n1), (17, leavesv), (18, .int .i64 i_1), (87, .bool p13)]) (A := [K3]) (L := [some (b1, .cells #[bv] 24 (0, 0)), some (b2, .cells #[.slice none 0 0] 24 (0, 0)), none, none, leavese, none, none]) ?_ (by kernel_rfl) (by kernel_rfl) (by kernel_rfl)
            clear G15
            refine At.then ?_
            refine W.cond p13 (by kernel_rfl) (fun xa hs => cnd_of (t := 87) (by kernel_rfl) (by kernel_rfl) hs) (fun hq => ?_) (fun hq => ?_)
            · skip
              have hq9 := hq
              replace hq9 := (iN hp13 iDT).1 hq9
              refine W.skip (by kernel_rfl) ?_
              refine At.then ?_
              refine W.seq (by kernel_rfl) ?_
              refine W.block 3 (by kernel_rfl) ?_
              refine W.seq (by kernel_rfl) ?_
              refine W.regV (rbuild_ct_r17_15 textsv valuesv blindsv b1 b2 n1 K3 leavesv leavese i_1 bv p13) [0] [] (fun G => [.int .i64 0]) (by kernel_rfl) mo_rc (by kernel_rfl) (fun _ _ => by kernel_rfl) trivial (by kernel_rfl) ?_
              intro G16 xa xw hDn
              refine hDn.to [1, 2, 3, 4, 8, 12, 17, 18] [] (by kernel_rfl) ?_
              clear hDn
              refine Pre.conv (sl := [(1, textsv), (2, valuesv), (3, blindsv), (4, .pointer (some ⟨b1, 0, none⟩)), (8, .pointer (some ⟨b2, 0, none⟩)), (12, .int .i64 n1), (17, leavesv), (18, .int .i64 i_1)]) (A := [K3]) (L := [some (b1, .cells #[bv] 24 (0, 0)), some (b2, .cells #[.slice none 0 0] 24 (0, 0)), none, none, leavese, none, none]) ?_ (by kernel_rfl) (by kernel_rfl) (by kernel_rfl)
              clear G16
              refine At.then ?_
              refine W.seq (by kernel_rfl) ?_
              obtain ⟨s2, hs2⟩ : ∃ zz : ByteArray, zz = texts.getD i_1.toNat default := ⟨_, rfl⟩
              obtain ⟨n13, hn13⟩ : ∃ zz : Int, zz = values.getD i_1.toNat default := ⟨_, rfl⟩
              obtain ⟨n14, hn14⟩ : ∃ zz : Int, zz = blinds.getD i_1.toNat default := ⟨_, rfl⟩
              obtain ⟨l2, hl2⟩ : ∃ zz : List DThing, zz = (Tm.leafV b s2 n13 n14) := ⟨_, rfl⟩
              obtain ⟨n15, hn15⟩ : ∃ zz : Int, zz = (Tm.leafI b s2 n13 n14) := ⟨_, rfl⟩
              obtain ⟨n16, hn16⟩ : ∃ zz : Int, zz = (Tm.leafE b s2 n13 n14) := ⟨_, rfl⟩
              refine W.regV (rbuild_ct_r17_16 w0 v textsv valuesv blindsv H b1 b2 n1 K3 leavesv leavese i_1 bv s2 n13 n14 l2 n15 n16) [1, 2, 5, 6, 9, 10, 14, 15, 16, 17, 19] [0, 3, 4, 7, 8, 11, 12, 13, 18] (fun G => [textsv, .int .i64 i_1, valuesv, .int .i64 i_1, blindsv, .int .i64 i_1, .tuple #[.agg #[(G 13).v], .int .i64 n15, .int .i64 n16], .agg #[(G 13).v], .int .i64 n15, .int .i64 n16, .int .i64 n15]) (by kernel_rfl) mo_rc (by kernel_rfl) (fun _ _ => by kernel_rfl) ⟨?_, ?_, ?_, ?_, ?_, ?_, ?_, ?_, ?_, trivial⟩ (by kernel_rfl) ?_
              · exact One.loadE (t := 24) (r := 0) (off := 0) (b := fun G => b1) (vs := fun G => [bv]) (arr := fun G => #[bv]) (T := 24) (fr := (0, 0)) (fun G => ⟨by kernel_rfl⟩) (fun G => by kernel_rfl)
              · exact One.index (t := 25) (e := 9) (size := 1) (v := fun G => textsv) (k := .i64) (n := i_1) (fun _ => ⟨by kernel_rfl⟩) (fun G w hs => ⟨_, (hr12).isSl, by first | omega | (simp only [List.length_append, List.length_cons, List.length_nil, List.length_replicate, List.length_set, List.length_take, List.length_drop, List.length_map, List.length_reverse, List.length_range]; omega), by first | omega | (simp only [List.length_append, List.length_cons, List.length_nil, List.length_replicate, List.length_set, List.length_take, List.length_drop, List.length_map, List.length_reverse, List.length_range]; omega)⟩)
              · exact One.loadD (α := ByteArray) (t := 9) (size := 1) (off := 0) (k := i_1) (l := fun G => texts) (x := fun G => s2) (vs := fun G => [.string s2]) (v := fun G => textsv) (H := fun G => K3) (p := fun G => elemAddr textsv (i_1.toNat * 1)) (fun G => ⟨by kernel_rfl⟩) rfl (fun G => by kernel_rfl) (fun G w hs => ⟨(hs.read 0 rfl), hr12, (add_zero' _).symm, by omega, by first | omega | (simp only [List.length_append, List.length_cons, List.length_nil, List.length_replicate, List.length_set, List.length_take, List.length_drop, List.length_map, List.length_reverse, List.length_range]; omega), hs2⟩)
              · exact One.index (t := 26) (e := 3) (size := 1) (v := fun G => valuesv) (k := .i64) (n := i_1) (fun _ => ⟨by kernel_rfl⟩) (fun G w hs => ⟨_, (hr13).isSl, by first | omega | (simp only [List.length_append, List.length_cons, List.length_nil, List.length_replicate, List.length_set, List.length_take, List.length_drop, List.length_map, List.length_reverse, List.length_range]; omega), by first | omega | (simp only [List.length_append, List.length_cons, List.length_nil, List.length_replicate, List.length_set, List.length_take, List.length_drop, List.length_map, List.length_reverse, List.length_range]; omega)⟩)
              · exact One.loadD (α := Int) (t := 3) (size := 1) (off := 0) (k := i_1) (l := fun G => values) (x := fun G => n13) (vs := fun G => [.int .i64 n13]) (v := fun G => valuesv) (H := fun G => K3) (p := fun G => elemAddr valuesv (i_1.toNat * 1)) (fun G => ⟨by kernel_rfl⟩) rfl (fun G => by kernel_rfl) (fun G w hs => ⟨(hs.read 0 rfl), hr13, (add_zero' _).symm, by omega, by first | omega | (simp only [List.length_append, List.length_cons, List.length_nil, List.length_replicate, List.length_set, List.length_take, List.length_drop, List.length_map, List.length_reverse, List.length_range]; omega), hn13⟩)
              · exact One.index (t := 26) (e := 3) (size := 1) (v := fun G => blindsv) (k := .i64) (n := i_1) (fun _ => ⟨by kernel_rfl⟩) (fun G w hs => ⟨_, (hr14).isSl, by first | omega | (simp only [List.length_append, List.length_cons, List.length_nil, List.length_replicate, List.length_set, List.length_take, List.length_drop, List.length_map, List.length_reverse, List.length_range]; omega), by first | omega | (simp only [List.length_append, List.length_cons, List.length_nil, List.length_replicate, List.length_set, List.length_take, List.length_drop, List.length_map, List.length_reverse, List.length_range]; omega)⟩)
              · exact One.loadD (α := Int) (t := 3) (size := 1) (off := 0) (k := i_1) (l := fun G => blinds) (x := fun G => n14) (vs := fun G => [.int .i64 n14]) (v := fun G => blindsv) (H := fun G => K3) (p := fun G => elemAddr blindsv (i_1.toNat * 1)) (fun G => ⟨by kernel_rfl⟩) rfl (fun G => by kernel_rfl) (fun G w hs => ⟨(hs.read 0 rfl), hr14, (add_zero' _).symm, by omega, by first | omega | (simp only [List.length_append, List.length_cons, List.length_nil, List.length_replicate, List.length_set, List.length_take, List.length_drop, List.length_map, List.length_reverse, List.length_range]; omega), hn14⟩)
              · exact One.callM (f := 48) (args := fun G => #[.agg #[bv], .string s2, .int .i64 n13, .int .i64 n14]) (H := fun G => K3) (V := fun G g => .tuple #[.agg #[g.v], .int .i64 n15, .int .i64 n16]) (F := fun G J g => RSl J l2 g.v) (fun G g w => ⟨by kernel_rfl, by kernel_rfl⟩) (fun G w hs => by
                  rw [hl2, hn15, hn16]
                  exact rLeaf_ct b bv s2 n13 n14 w K3 (hs.read 0 rfl) (hr11) )
              · exact One.storeX (t := 24) (r := 0) (off := 0) (T := 24) (b := fun G => b1) (u := fun G => .agg #[(G 13).v]) (vs := fun G => [(G 13).v]) (arr := fun G => #[bv]) (fun G => ⟨by kernel_rfl⟩) (fun G w hs => by
                  have ho13 : (RSl (hun (G 13).H K3) l2 (G 13).v) ∧ New w0 (G 13).H := hs.get 13 (by kernel_rfl) (p := true) (by kernel_rfl) rfl (by kernel_rfl)
                  exact ⟨rfl, (all_cons1 (ho13.1).cell1 rfl)⟩)
              intro G17 xa xw hDn
              have hf13_10 : (RSl (hun (G17 13).H K3) l2 (G17 13).v) ∧ New w0 (G17 13).H := hDn.get 13 (by kernel_rfl) (by kernel_rfl) (by kernel_rfl)
              refine hDn.to [1, 2, 3, 4, 8, 12, 17, 18, 19] [13] (by kernel_rfl) ?_
              clear hDn
              refine Pre.conv (sl := [(1, textsv), (2, valuesv), (3, blindsv), (4, .pointer (some ⟨b1, 0, none⟩)), (8, .pointer (some ⟨b2, 0, none⟩)), (12, .int .i64 n1), (17, leavesv), (18, .int .i64 i_1), (19, .int .i64 n15)]) (A := [(G17 13).H, K3]) (L := [some (b1, .cells #[(G17 13).v] 24 (0, 0)), some (b2, .cells #[.slice none 0 0] 24 (0, 0)), none, none, leavese, none, none]) ?_ (by kernel_rfl) (by kernel_rfl) (by kernel_rfl)
              generalize (G17 13).v = v2 at hf13_10 ⊢
              generalize (G17 13).H = N2 at hf13_10 ⊢
              clear G17
              refine Pre.merge (Ns := [N2]) hE3 (by simp only [List.mem_cons, List.not_mem_nil, or_false, forall_eq_or_imp, forall_eq]; exact hf13_10.2) (fun K4 hk5 hk6 hE4 => ?_)
              have hr15 := (hr12).mono hk5
              have hr15n := hr15.lim
              have hr16 := (hr13).mono hk5
              have hr16n := hr16.lim
              have hr17 := (hr14).mono hk5
              have hr17n := hr17.lim
              have hr18 := (hr10).mono hk5
              have hr18n := hr18.lim
              have hr19 := (hf13_10.1).mono (hun_sub (hk6 _ (by simp)) hk5)
              have hr19n := hr19.lim
              have hone1 := Tm.leaf_one hf8 hf9 (by omega) (by omega) rfl (by assumption) (by assumption) (by assumption) (hOK.2.2.2.2 _ (by omega)) hl2
              have hlb1 : l2.length = v.length + (i_1 + 1).toNat := by rw [hone1.2.2.1]; simp
              refine At.then ?_
              obtain ⟨l3, hl3⟩ : ∃ zz : List Int, zz = leaves ++ [n15] := ⟨_, rfl⟩
              have hl3n := congrArg List.length hl3; try simp only [List.length_append, List.length_cons, List.length_nil, List.length_replicate, List.length_set, List.length_take, List.length_drop, List.length_map, List.length_reverse, List.length_range] at hl3n
              refine W.regV (rbuild_ct_r17_17 v textsv valuesv blindsv b1 b2 n1 leavesv leavese i_1 b n15 v2 K4 l3) [0, 1, 4] [2, 3] (fun G => [leavesv, .int .i64 n15, (G 3).v]) (by kernel_rfl) mo_rc (by kernel_rfl) (fun _ _ => by kernel_rfl) ⟨?_, ?_, trivial⟩ (by kernel_rfl) ?_
              · exact One.new (r := 3) (T := 3) (fun b => .slice (some ⟨b, 0, none⟩) 1 1) (arr := fun G => #[.int .i64 n15]) (fun G w => by kernel_rfl) (fun G b => by kernel_rfl)
              · exact One.appendD (α := Int) (t := 26) (E := 3) (size := 1) (bytes := 8) (r := 4) (l := fun G => leaves) (m := fun G => [n15]) (lm := fun G => l3) (v := fun G => leavesv) (x := fun G => .slice (some ⟨(G 2).b, 0, none⟩) 1 1) (e := fun G => leavese) (H := fun G => K4) (J := fun G => (hun (entH ((some ((G 2).b, .cells #[.int .i64 n15] 3 (0, 0))))) K4)) (fun G g => ⟨by kernel_rfl, by kernel_rfl⟩) rfl (fun G w hs => ⟨hr18, (hun_agrees (entH_agrees (hs.own (r := 3) (e := (some ((G 2).b, .cells #[.int .i64 n15] 3 (0, 0)))) (by kernel_rfl))) (hs.read 0 rfl)), (((OSl.lit (α := Int) (E := 3) (n := 1) (H := K4) (l := [n15]) (g := (G 2).b) (arr := #[.int .i64 n15]) (fun _ _ => trivial) (by kernel_rfl))).read (hs.own (r := 3) (e := (some ((G 2).b, .cells #[.int .i64 n15] 3 (0, 0)))) (by kernel_rfl)) (hs.read 0 rfl)), (fun _ _ => trivial), hl3, by (try simp only [List.length_append, List.length_cons, List.length_nil, List.length_replicate, List.length_set, List.length_take, List.length_drop, List.length_map, List.length_reverse, List.length_range]); omega⟩)
              intro G18 xa xw hDn
              have hf3_11 : OSl 3 K4 l3 (G18 3).v (G18 3).e := hDn.get 3 (by kernel_rfl) (by kernel_rfl) (by kernel_rfl)
              refine hDn.to [1, 2, 3, 4, 8, 12, 17, 18] [] (by kernel_rfl) ?_
              clear hDn
              refine Pre.conv (sl := [(1, textsv), (2, valuesv), (3, blindsv), (4, .pointer (some ⟨b1, 0, none⟩)), (8, .pointer (some ⟨b2, 0, none⟩)), (12, .int .i64 n1), (17, (G18 3).v), (18, .int .i64 i_1)]) (A := [K4]) (L := [some (b1, .cells #[v2] 24 (0, 0)), some (b2, .cells #[.slice none 0 0] 24 (0, 0)), none, (some ((G18 2).b, .cells #[.int .i64 n15] 3 (0, 0))), (G18 3).e, none, none]) ?_ (by kernel_rfl) (by kernel_rfl) (by kernel_rfl)
              generalize (G18 3).v = v3 at hf3_11 ⊢
              generalize (G18 2).b = b4 at hf3_11 ⊢
              generalize (G18 3).e = e1 at hf3_11 ⊢
              clear G18
              refine At.blockNormal ?_
              refine At.then ?_
              obtain ⟨n17, hn17⟩ : ∃ zz : Int, zz = i_1 + 1 := ⟨_, rfl⟩
              refine W.regV (rbuild_ct_r17_18 textsv valuesv blindsv b1 b2 n1 i_1 n15 v2 K4 v3 b4 e1 n17) [0, 2] [1] (fun G => [.int .i64 i_1, .int .i64 n17]) (by kernel_rfl) mo_rc (by kernel_rfl) (fun _ _ => by kernel_rfl) ⟨?_, trivial⟩ (by kernel_rfl) ?_
              · exact One.ar hn17 (fun _ _ => by kernel_rfl) (fun G w hs => by omega)
              intro G19 xa xw hDn
              refine hDn.to [1, 2, 3, 4, 8, 12, 17, 18] [] (by kernel_rfl) ?_
              clear hDn
              refine Pre.conv (sl := [(1, textsv), (2, valuesv), (3, blindsv), (4, .pointer (some ⟨b1, 0, none⟩)), (8, .pointer (some ⟨b2, 0, none⟩)), (12, .int .i64 n1), (17, v3), (18, .int .i64 n17)]) (A := [K4]) (L := [some (b1, .cells #[v2] 24 (0, 0)), some (b2, .cells #[.slice none 0 0] 24 (0, 0)), none, (some (b4, .cells #[.int .i64 n15] 3 (0, 0))), e1, none, none]) ?_ (by kernel_rfl) (by kernel_rfl) (by kernel_rfl)
              clear G19
              intro xa xw hs hw
              refine ⟨(K4, l3, v3, e1, n17, l2, v2), ⟨hs.sub (by kernel_rfl), hw.mask [true, true, false, false, true, false, false] (by kernel_rfl), ?_⟩, ?_⟩
              · skip
                refine ⟨(hk4).trans ((((Sub.refl _)).trans hk5)), hE4, hf3_11, hr19, ?_, ?_, ?_, ?_, ?_⟩
                · show 0 ≤ n17
                  first | omega | rfl | (simp; done) | (subst_vars; simp; done)
                · show n17 ≤ n1
                  first | omega | rfl | (simp; done) | (subst_vars; simp; done)
                · show l3 = Tm.idsN v.length n17.toNat
                  exact Tm.ids_step hf7 (by omega) (by assumption) hl3 (by omega)
                · show l2 = v ++ Tm.leavesN texts values blinds n17.toNat
                  rw [hone1.2.2.1]; congr 2; omega
                · show Tm.Sound l2
                  exact hone1.2.2.2
              · show (n1 - n17).toNat < (n1 - i_1).toNat
                omega
            · skip
              have hq10 := hq
              replace hq10 := (iN hp13 iDF).1 hq10
              refine W.exit 2 (by kernel_rfl) ?_
              refine At.thenExit ?_
              refine At.thenExit ?_
              refine At.blockHit ?_
              refine At.then ?_
              refine W.seq (by kernel_rfl) ?_
              have hk1 : i_1.toNat = texts.length := by omega
              rw [hk1] at hf7 hf8
              have hbl2 : b.length = v.length + texts.length := by rw [hf8]; simp
              have hll2 : leaves.length = texts.length := by rw [hf7]; simp
              refine W.regV (rbuild_ct_r17_19 textsv valuesv blindsv b1 b2 n1 K3 leavesv leavese i_1 bv p13) [0, 1] [] (fun G => [leavesv, leavesv]) (by kernel_rfl) mo_rc (by kernel_rfl) (fun _ _ => by kernel_rfl) trivial (by kernel_rfl) ?_
              intro G20 xa xw hDn
              refine hDn.to [4, 8, 17, 20] [] (by kernel_rfl) ?_
              clear hDn
              refine Pre.conv (sl := [(4, .pointer (some ⟨b1, 0, none⟩)), (8, .pointer (some ⟨b2, 0, none⟩)), (17, leavesv), (20, leavesv)]) (A := [K3]) (L := [some (b1, .cells #[bv] 24 (0, 0)), some (b2, .cells #[.slice none 0 0] 24 (0, 0)), none, none, leavese, none, none]) ?_ (by kernel_rfl) (by kernel_rfl) (by kernel_rfl)
              clear G20
              refine At.then ?_
              refine W.seq (by kernel_rfl) ?_
              refine W.block 4 (by kernel_rfl) ?_
              refine Pre.freeze 4 (e := leavese) (by kernel_rfl) hE3 (fun K5 hk7 hk8 hE5 => ?_)
              have hr20 := (hr10).frozen hk7 hk8
              have hr21 := (hr11).mono hk7
              refine Pre.conv (L := [some (b1, .cells #[bv] 24 (0, 0)), some (b2, .cells #[.slice none 0 0] 24 (0, 0)), none, none, none, none, none]) ?_ rfl rfl (by kernel_rfl)
              refine W.loopS (γ := Heaplet × List Int × Value × List DThing × Value) (fun ⟨K6, level, levelv, b_1, b_1v⟩ => [(4, .pointer (some ⟨b1, 0, none⟩)), (8, .pointer (some ⟨b2, 0, none⟩)), (17, leavesv), (20, levelv)]) (fun ⟨K6, level, levelv, b_1, b_1v⟩ => [K6]) (fun ⟨K6, level, levelv, b_1, b_1v⟩ => [some (b1, .cells #[b_1v] 24 (0, 0)), some (b2, .cells #[.slice none 0 0] 24 (0, 0)), none, none, none, none, none]) (fun ⟨K6, level, levelv, b_1, b_1v⟩ => (Sub K5 K6) ∧ (Ext w0 H K6) ∧ (RSl K6 level levelv) ∧ (RSl K6 b_1 b_1v) ∧ (Tm.Lev b_1 level (Tm.totV values texts.length) (Tm.totV blinds texts.length)) ∧ (Tm.up texts.length (v ++ Tm.leavesN texts values blinds texts.length) (Tm.idsN v.length texts.length) = Tm.up level.length b_1 level) ∧ (Tm.Sound b_1) ∧ (b_1.length + level.length = v.length + 2 * texts.length) ∧ (1 ≤ level.length) ∧ (level.length ≤ texts.length)) (fun ⟨K6, level, levelv, b_1, b_1v⟩ => level.length) (K5, leaves, leavesv, b, bv) (by kernel_rfl) ?_ ?_
              · intro xa xw hs hw
                refine ⟨hs.sub (by kernel_rfl), hw.mask [true, true, false, false, false, false, false] (by kernel_rfl), ?_⟩
                refine ⟨Sub.refl _, hE5, hr20, hr21, ?_, ?_, ?_, ?_, ?_, ?_⟩
                · show Tm.Lev b leaves (Tm.totV values texts.length) (Tm.totV blinds texts.length)
                  rw [hf7, hf8]; exact Tm.lev_start hOK
                · show Tm.up texts.length (v ++ Tm.leavesN texts values blinds texts.length) (Tm.idsN v.length texts.length) = Tm.up leaves.length b leaves
                  rw [hll2, hf7, hf8]
                · show Tm.Sound b
                  exact hf9
                · show b.length + leaves.length = v.length + 2 * texts.length
                  first | omega | rfl | (simp; done) | (subst_vars; simp; done)
                · show 1 ≤ leaves.length
                  first | omega | rfl | (simp; done) | (subst_vars; simp; done)
                · show leaves.length ≤ texts.length
                  first | omega | rfl | (simp; done) | (subst_vars; simp; done)
              · rintro ⟨K6, level, levelv, b_1, b_1v⟩ hF
                have hF : (Sub K5 K6) ∧ (Ext w0 H K6) ∧ (RSl K6 level levelv) ∧ (RSl K6 b_1 b_1v) ∧ (Tm.Lev b_1 level (Tm.totV values texts.length) (Tm.totV blinds texts.length)) ∧ (Tm.up texts.length (v ++ Tm.leavesN texts values blinds texts.length) (Tm.idsN v.length texts.length) = Tm.up level.length b_1 level) ∧ (Tm.Sound b_1) ∧ (b_1.length + level.length = v.length + 2 * texts.length) ∧ (1 ≤ level.length) ∧ (level.length ≤ texts.length) := hF
                obtain ⟨hk9, hE6, hr22, hr23, hf12, hf13, hf14, hf15, hf16, hf17⟩ := hF
                show W Try.prog 156 w0 [] (Code.l (Code.l (Code.l (Code.r (Code.r (Code.r (Code.r (Code.r (Code.r (Code.r (Code.r (body Try.f17)))))))))))) _ [(4, .pointer (some ⟨b1, 0, none⟩)), (8, .pointer (some ⟨b2, 0, none⟩)), (17, leavesv), (20, levelv)] [K6] [some (b1, .cells #[b_1v] 24 (0, 0)), some (b2, .cells #[.slice none 0 0] 24 (0, 0)), none, none, none, none, none]
                have hr22n := hr22.lim
                have hr23n := hr23.lim
                have hr24 := (hr20).mono hk9
                refine W.seq (by kernel_rfl) ?_
                refine W.seq (by kernel_rfl) ?_
                obtain ⟨n18, hn18⟩ : ∃ zz : Int, zz = (level.length : Int) := ⟨_, rfl⟩
                obtain ⟨p14, hp14⟩ : ∃ zz : Bool, zz = decide (1 < n18) := ⟨_, rfl⟩
                refine W.regV (rbuild_ct_r17_20 b1 b2 leavesv K6 levelv b_1v n18 p14) [0] [1, 2] (fun G => [levelv]) (by kernel_rfl) mo_rc (by kernel_rfl) (fun _ _ => by kernel_rfl) ⟨?_, ?_, trivial⟩ (by kernel_rfl) ?_
                · exact One.len (t := 26) (n := n18) (v := fun G => levelv) (fun _ => ⟨by kernel_rfl⟩) (fun G w hs => ⟨_, (hr22).isSl, hn18⟩)
                · exact One.bo hp14 (fun _ _ => by kernel_rfl)
                intro G21 xa xw hDn
                refine hDn.to [4, 8, 17, 20, 115] [] (by kernel_rfl) ?_
                clear hDn
                refine Pre.conv (sl := [(4, .pointer (some ⟨b1, 0, none⟩)), (8, .pointer (some ⟨b2, 0, none⟩)), (17, leavesv), (20, levelv), (115, .bool p14)]) (A := [K6]) (L := [some (b1, .cells #[b_1v] 24 (0, 0)), some (b2, .cells #[.slice none 0 0] 24 (0, 0)), none, none, none, none, none]) ?_ (by kernel_rfl) (by kernel_rfl) (by kernel_rfl)
                clear G21
                refine At.then ?_
                refine W.cond p14 (by kernel_rfl) (fun xa hs => cnd_of (t := 115) (by kernel_rfl) (by kernel_rfl) hs) (fun hq => ?_) (fun hq => ?_)
                · skip
                  have hq11 := hq
                  replace hq11 := (iN hp14 iDT).1 hq11
                  refine W.skip (by kernel_rfl) ?_
                  refine At.then ?_
                  refine W.block 5 (by kernel_rfl) ?_
                  refine W.seq (by kernel_rfl) ?_
                  refine W.regV (rbuild_ct_r17_21 b1 b2 leavesv K6 levelv b_1v p14) [0] [] (fun G => [.slice none 0 0]) (by kernel_rfl) mo_rc (by kernel_rfl) (fun _ _ => by kernel_rfl) trivial (by kernel_rfl) ?_
                  intro G22 xa xw hDn
                  refine hDn.to [4, 8, 17, 20, 21] [] (by kernel_rfl) ?_
                  clear hDn
                  refine Pre.conv (sl := [(4, .pointer (some ⟨b1, 0, none⟩)), (8, .pointer (some ⟨b2, 0, none⟩)), (17, leavesv), (20, levelv), (21, .slice none 0 0)]) (A := [K6]) (L := [some (b1, .cells #[b_1v] 24 (0, 0)), some (b2, .cells #[.slice none 0 0] 24 (0, 0)), none, none, none, none, none]) ?_ (by kernel_rfl) (by kernel_rfl) (by kernel_rfl)
                  clear G22
                  refine At.then ?_
                  refine W.seq (by kernel_rfl) ?_
                  refine W.seq (by kernel_rfl) ?_
                  refine W.regV (rbuild_ct_r17_22 b1 b2 leavesv K6 levelv b_1v) [0] [] (fun G => [.int .i64 0]) (by kernel_rfl) mo_rc (by kernel_rfl) (fun _ _ => by kernel_rfl) trivial (by kernel_rfl) ?_
                  intro G23 xa xw hDn
                  refine hDn.to [4, 8, 17, 20, 21, 22] [] (by kernel_rfl) ?_
                  clear hDn
                  refine Pre.conv (sl := [(4, .pointer (some ⟨b1, 0, none⟩)), (8, .pointer (some ⟨b2, 0, none⟩)), (17, leavesv), (20, levelv), (21, .slice none 0 0), (22, .int .i64 0)]) (A := [K6]) (L := [some (b1, .cells #[b_1v] 24 (0, 0)), some (b2, .cells #[.slice none 0 0] 24 (0, 0)), none, none, none, none, none]) ?_ (by kernel_rfl) (by kernel_rfl) (by kernel_rfl)
                  clear G23
                  refine At.then ?_
                  refine W.block 6 (by kernel_rfl) ?_
                  refine W.loopS (γ := Heaplet × List Int × Value × Ent × Int × List DThing × Value) (fun ⟨K7, next, nextv, nexte, i_2, b_2, b_2v⟩ => [(4, .pointer (some ⟨b1, 0, none⟩)), (8, .pointer (some ⟨b2, 0, none⟩)), (17, leavesv), (20, levelv), (21, nextv), (22, .int .i64 i_2)]) (fun ⟨K7, next, nextv, nexte, i_2, b_2, b_2v⟩ => [K7]) (fun ⟨K7, next, nextv, nexte, i_2, b_2, b_2v⟩ => [some (b1, .cells #[b_2v] 24 (0, 0)), some (b2, .cells #[.slice none 0 0] 24 (0, 0)), none, none, none, none, nexte]) (fun ⟨K7, next, nextv, nexte, i_2, b_2, b_2v⟩ => (Sub K6 K7) ∧ (Ext w0 H K7) ∧ (OSl 3 K7 next nextv nexte) ∧ (RSl K7 b_2 b_2v) ∧ (Tm.Lev b_2 (next ++ level.drop i_2.toNat) (Tm.totV values texts.length) (Tm.totV blinds texts.length)) ∧ (Tm.pairUp b_1 level = ((Tm.pairUp b_2 (level.drop i_2.toNat)).1, next ++ (Tm.pairUp b_2 (level.drop i_2.toNat)).2)) ∧ (Tm.Sound b_2) ∧ (0 ≤ i_2) ∧ (i_2 ≤ level.length + 1) ∧ ((b_2.length : Int) + next.length = b_1.length + min i_2 level.length) ∧ (next.length ≤ i_2) ∧ (b_2.length + (next ++ level.drop i_2.toNat).length = b_1.length + level.length)) (fun ⟨K7, next, nextv, nexte, i_2, b_2, b_2v⟩ => ((level.length : Int) - i_2).toNat) (K6, ([] : List Int), .slice none 0 0, none, 0, b_1, b_1v) (by kernel_rfl) ?_ ?_
                  · intro xa xw hs hw
                    refine ⟨hs.sub (by kernel_rfl), hw.mask [true, true, false, false, false, false, true] (by kernel_rfl), ?_⟩
                    refine ⟨Sub.refl _, hE6, OSl.nil, hr23, ?_, ?_, ?_, ?_, ?_, ?_, ?_, ?_⟩
                    · show Tm.Lev b_1 ((([] : List Int)) ++ level.drop (0 : Int).toNat) (Tm.totV values texts.length) (Tm.totV blinds texts.length)
                      simpa using hf12
                    · show Tm.pairUp b_1 level = ((Tm.pairUp b_1 (level.drop (0 : Int).toNat)).1, (([] : List Int)) ++ (Tm.pairUp b_1 (level.drop (0 : Int).toNat)).2)
                      simp
                    · show Tm.Sound b_1
                      exact hf14
                    · show 0 ≤ (0 : Int)
                      first | omega | (simp; done) | (simp <;> omega)
                    · show (0 : Int) ≤ level.length + 1
                      first | omega | (simp; done) | (simp <;> omega)
                    · show (b_1.length : Int) + (([] : List Int)).length = b_1.length + min (0 : Int) level.length
                      first | omega | (simp; done) | (simp <;> omega)
                    · show (([] : List Int)).length ≤ (0 : Int)
                      first | omega | (simp; done) | (simp <;> omega)
                    · show b_1.length + ((([] : List Int)) ++ level.drop (0 : Int).toNat).length = b_1.length + level.length
                      first | omega | (simp; done) | (simp <;> omega)
                  · rintro ⟨K7, next, nextv, nexte, i_2, b_2, b_2v⟩ hF
                    have hF : (Sub K6 K7) ∧ (Ext w0 H K7) ∧ (OSl 3 K7 next nextv nexte) ∧ (RSl K7 b_2 b_2v) ∧ (Tm.Lev b_2 (next ++ level.drop i_2.toNat) (Tm.totV values texts.length) (Tm.totV blinds texts.length)) ∧ (Tm.pairUp b_1 level = ((Tm.pairUp b_2 (level.drop i_2.toNat)).1, next ++ (Tm.pairUp b_2 (level.drop i_2.toNat)).2)) ∧ (Tm.Sound b_2) ∧ (0 ≤ i_2) ∧ (i_2 ≤ level.length + 1) ∧ ((b_2.length : Int) + next.length = b_1.length + min i_2 level.length) ∧ (next.length ≤ i_2) ∧ (b_2.length + (next ++ level.drop i_2.toNat).length = b_1.length + level.length) := hF
                    obtain ⟨hk10, hE7, hr25, hr26, hf18, hf19, hf20, hf21, hf22, hf23, hf24, hf25⟩ := hF
                    show W Try.prog 156 w0 [] (Code.l (Code.l (Code.r (Code.l (Code.r (Code.l (Code.r (Code.l (Code.l (Code.l (Code.r (Code.r (Code.r (Code.r (Code.r (Code.r (Code.r (Code.r (body Try.f17))))))))))))))))))) _ [(4, .pointer (some ⟨b1, 0, none⟩)), (8, .pointer (some ⟨b2, 0, none⟩)), (17, leavesv), (20, levelv), (21, nextv), (22, .int .i64 i_2)] [K7] [some (b1, .cells #[b_2v] 24 (0, 0)), some (b2, .cells #[.slice none 0 0] 24 (0, 0)), none, none, none, none, nexte]
                    have hr25n := hr25.lim
                    have hr26n := hr26.lim
                    have hr27 := (hr24).mono hk10
                    have hr28 := (hr22).mono hk10
                    refine W.seq (by kernel_rfl) ?_
                    refine W.seq (by kernel_rfl) ?_
                    obtain ⟨p15, hp15⟩ : ∃ zz : Bool, zz = decide (i_2 < n18) := ⟨_, rfl⟩
                    refine W.regV (rbuild_ct_r17_23 b1 b2 leavesv levelv n18 K7 nextv nexte i_2 b_2v p15) [0, 1] [2, 3] (fun G => [.int .i64 i_2, levelv]) (by kernel_rfl) mo_rc (by kernel_rfl) (fun _ _ => by kernel_rfl) ⟨?_, ?_, trivial⟩ (by kernel_rfl) ?_
                    · exact One.len (t := 26) (n := n18) (v := fun G => levelv) (fun _ => ⟨by kernel_rfl⟩) (fun G w hs => ⟨_, (hr28).isSl, hn18⟩)
                    · exact One.bo hp15 (fun _ _ => by kernel_rfl)
                    intro G24 xa xw hDn
                    refine hDn.to [4, 8, 17, 20, 21, 22, 119] [] (by kernel_rfl) ?_
                    clear hDn
                    refine Pre.conv (sl := [(4, .pointer (some ⟨b1, 0, none⟩)), (8, .pointer (some ⟨b2, 0, none⟩)), (17, leavesv), (20, levelv), (21, nextv), (22, .int .i64 i_2), (119, .bool p15)]) (A := [K7]) (L := [some (b1, .cells #[b_2v] 24 (0, 0)), some (b2, .cells #[.slice none 0 0] 24 (0, 0)), none, none, none, none, nexte]) ?_ (by kernel_rfl) (by kernel_rfl) (by kernel_rfl)
                    clear G24
                    refine At.then ?_
                    refine W.cond p15 (by kernel_rfl) (fun xa hs => cnd_of (t := 119) (by kernel_rfl) (by kernel_rfl) hs) (fun hq => ?_) (fun hq => ?_)
                    · skip
                      have hq12 := hq
                      replace hq12 := (iN hp15 iDT).1 hq12
                      refine W.skip (by kernel_rfl) ?_
                      refine At.then ?_
                      refine W.seq (by kernel_rfl) ?_
                      refine W.block 7 (by kernel_rfl) ?_
                      refine W.seq (by kernel_rfl) ?_
                      obtain ⟨n19, hn19⟩ : ∃ zz : Int, zz = level.getD i_2.toNat default := ⟨_, rfl⟩
                      refine W.regV (rbuild_ct_r17_24 b1 b2 leavesv levelv K7 nextv nexte i_2 b_2v p15 n19) [0, 1, 4] [2, 3] (fun G => [levelv, .int .i64 i_2, .int .i64 n19]) (by kernel_rfl) mo_rc (by kernel_rfl) (fun _ _ => by kernel_rfl) ⟨?_, ?_, trivial⟩ (by kernel_rfl) ?_
                      · exact One.index (t := 26) (e := 3) (size := 1) (v := fun G => levelv) (k := .i64) (n := i_2) (fun _ => ⟨by kernel_rfl⟩) (fun G w hs => ⟨_, (hr28).isSl, by first | omega | (simp only [List.length_append, List.length_cons, List.length_nil, List.length_replicate, List.length_set, List.length_take, List.length_drop, List.length_map, List.length_reverse, List.length_range]; omega), by first | omega | (simp only [List.length_append, List.length_cons, List.length_nil, List.length_replicate, List.length_set, List.length_take, List.length_drop, List.length_map, List.length_reverse, List.length_range]; omega)⟩)
                      · exact One.loadD (α := Int) (t := 3) (size := 1) (off := 0) (k := i_2) (l := fun G => level) (x := fun G => n19) (vs := fun G => [.int .i64 n19]) (v := fun G => levelv) (H := fun G => K7) (p := fun G => elemAddr levelv (i_2.toNat * 1)) (fun G => ⟨by kernel_rfl⟩) rfl (fun G => by kernel_rfl) (fun G w hs => ⟨(hs.read 0 rfl), hr28, (add_zero' _).symm, by omega, by first | omega | (simp only [List.length_append, List.length_cons, List.length_nil, List.length_replicate, List.length_set, List.length_take, List.length_drop, List.length_map, List.length_reverse, List.length_range]; omega), hn19⟩)
                      intro G25 xa xw hDn
                      refine hDn.to [4, 8, 17, 20, 21, 22, 23] [] (by kernel_rfl) ?_
                      clear hDn
                      refine Pre.conv (sl := [(4, .pointer (some ⟨b1, 0, none⟩)), (8, .pointer (some ⟨b2, 0, none⟩)), (17, leavesv), (20, levelv), (21, nextv), (22, .int .i64 i_2), (23, .int .i64 n19)]) (A := [K7]) (L := [some (b1, .cells #[b_2v] 24 (0, 0)), some (b2, .cells #[.slice none 0 0] 24 (0, 0)), none, none, none, none, nexte]) ?_ (by kernel_rfl) (by kernel_rfl) (by kernel_rfl)
                      clear G25
                      refine At.then ?_
                      refine W.seq (by kernel_rfl) ?_
                      refine W.seq (by kernel_rfl) ?_
                      obtain ⟨n20, hn20⟩ : ∃ zz : Int, zz = i_2 + 1 := ⟨_, rfl⟩
                      obtain ⟨p16, hp16⟩ : ∃ zz : Bool, zz = decide (n20 < n18) := ⟨_, rfl⟩
                      refine W.regV (rbuild_ct_r17_25 b1 b2 leavesv levelv n18 K7 nextv nexte i_2 b_2v n19 n20 p16) [0, 2] [1, 3, 4] (fun G => [.int .i64 i_2, levelv]) (by kernel_rfl) mo_rc (by kernel_rfl) (fun _ _ => by kernel_rfl) ⟨?_, ?_, ?_, trivial⟩ (by kernel_rfl) ?_
                      · exact One.ar hn20 (fun _ _ => by kernel_rfl) (fun G w hs => by omega)
                      · exact One.len (t := 26) (n := n18) (v := fun G => levelv) (fun _ => ⟨by kernel_rfl⟩) (fun G w hs => ⟨_, (hr28).isSl, hn18⟩)
                      · exact One.bo hp16 (fun _ _ => by kernel_rfl)
                      intro G26 xa xw hDn
                      refine hDn.to [4, 8, 17, 20, 21, 22, 23, 130] [] (by kernel_rfl) ?_
                      clear hDn
                      refine Pre.conv (sl := [(4, .pointer (some ⟨b1, 0, none⟩)), (8, .pointer (some ⟨b2, 0, none⟩)), (17, leavesv), (20, levelv), (21, nextv), (22, .int .i64 i_2), (23, .int .i64 n19), (130, .bool p16)]) (A := [K7]) (L := [some (b1, .cells #[b_2v] 24 (0, 0)), some (b2, .cells #[.slice none 0 0] 24 (0, 0)), none, none, none, none, nexte]) ?_ (by kernel_rfl) (by kernel_rfl) (by kernel_rfl)
                      clear G26
                      refine At.then ?_
                      refine W.cond p16 (by kernel_rfl) (fun xa hs => cnd_of (t := 130) (by kernel_rfl) (by kernel_rfl) hs) (fun hq => ?_) (fun hq => ?_)
                      · skip
                        have hq13 := hq
                        replace hq13 := (iN hp16 iDT).1 hq13
                        obtain ⟨n21, hn21⟩ : ∃ zz : Int, zz = level.getD n20.toNat default := ⟨_, rfl⟩
                        obtain ⟨l4, hl4⟩ : ∃ zz : List DThing, zz = (Tm.pairV b_2 n19 n21) := ⟨_, rfl⟩
                        obtain ⟨n22, hn22⟩ : ∃ zz : Int, zz = (Tm.pairI b_2 n19 n21) := ⟨_, rfl⟩
                        obtain ⟨n23, hn23⟩ : ∃ zz : Int, zz = (Tm.pairRE b_2 n19 n21) := ⟨_, rfl⟩
                        have hd2 := Tm.drop2 (i := i_2) (by omega) hn20 (by omega) hn19 hn21
                        have h2 := Tm.Lev.two hf18 hd2 (by omega) (by omega)
                        have h3 := Tm.Lev.two_le hf18 hd2
                        refine W.regV (rbuild_ct_r17_26 w0 v H b1 b2 leavesv levelv K7 nextv nexte i_2 b_2v n19 n20 p16 n21 l4 n22 n23) [1, 2, 5, 6, 11, 12, 13, 14, 16] [0, 3, 4, 7, 8, 9, 10, 15] (fun G => [levelv, .int .i64 i_2, levelv, .int .i64 i_2, .tuple #[.agg #[(G 10).v], .int .i64 n22, .int .i64 n23], .agg #[(G 10).v], .int .i64 n22, .int .i64 n23, .int .i64 n22]) (by kernel_rfl) mo_rc (by kernel_rfl) (fun _ _ => by kernel_rfl) ⟨?_, ?_, ?_, ?_, ?_, ?_, ?_, ?_, trivial⟩ (by kernel_rfl) ?_
                        · exact One.loadE (t := 24) (r := 0) (off := 0) (b := fun G => b1) (vs := fun G => [b_2v]) (arr := fun G => #[b_2v]) (T := 24) (fr := (0, 0)) (fun G => ⟨by kernel_rfl⟩) (fun G => by kernel_rfl)
                        · exact One.index (t := 26) (e := 3) (size := 1) (v := fun G => levelv) (k := .i64) (n := i_2) (fun _ => ⟨by kernel_rfl⟩) (fun G w hs => ⟨_, (hr28).isSl, by first | omega | (simp only [List.length_append, List.length_cons, List.length_nil, List.length_replicate, List.length_set, List.length_take, List.length_drop, List.length_map, List.length_reverse, List.length_range]; omega), by first | omega | (simp only [List.length_append, List.length_cons, List.length_nil, List.length_replicate, List.length_set, List.length_take, List.length_drop, List.length_map, List.length_reverse, List.length_range]; omega)⟩)
                        · exact One.loadD (α := Int) (t := 3) (size := 1) (off := 0) (k := i_2) (l := fun G => level) (x := fun G => n19) (vs := fun G => [.int .i64 n19]) (v := fun G => levelv) (H := fun G => K7) (p := fun G => elemAddr levelv (i_2.toNat * 1)) (fun G => ⟨by kernel_rfl⟩) rfl (fun G => by kernel_rfl) (fun G w hs => ⟨(hs.read 0 rfl), hr28, (add_zero' _).symm, by omega, by first | omega | (simp only [List.length_append, List.length_cons, List.length_nil, List.length_replicate, List.length_set, List.length_take, List.length_drop, List.length_map, List.length_reverse, List.length_range]; omega), hn19⟩)
                        · exact One.ar hn20 (fun _ _ => by kernel_rfl) (fun G w hs => by omega)
                        · exact One.index (t := 26) (e := 3) (size := 1) (v := fun G => levelv) (k := .i64) (n := n20) (fun _ => ⟨by kernel_rfl⟩) (fun G w hs => ⟨_, (hr28).isSl, by first | omega | (simp only [List.length_append, List.length_cons, List.length_nil, List.length_replicate, List.length_set, List.length_take, List.length_drop, List.length_map, List.length_reverse, List.length_range]; omega), by first | omega | (simp only [List.length_append, List.length_cons, List.length_nil, List.length_replicate, List.length_set, List.length_take, List.length_drop, List.length_map, List.length_reverse, List.length_range]; omega)⟩)
                        · exact One.loadD (α := Int) (t := 3) (size := 1) (off := 0) (k := n20) (l := fun G => level) (x := fun G => n21) (vs := fun G => [.int .i64 n21]) (v := fun G => levelv) (H := fun G => K7) (p := fun G => elemAddr levelv (n20.toNat * 1)) (fun G => ⟨by kernel_rfl⟩) rfl (fun G => by kernel_rfl) (fun G w hs => ⟨(hs.read 0 rfl), hr28, (add_zero' _).symm, by omega, by first | omega | (simp only [List.length_append, List.length_cons, List.length_nil, List.length_replicate, List.length_set, List.length_take, List.length_drop, List.length_map, List.length_reverse, List.length_range]; omega), hn21⟩)
                        · exact One.callM (f := 49) (args := fun G => #[.agg #[b_2v], .int .i64 n19, .int .i64 n21]) (H := fun G => K7) (V := fun G g => .tuple #[.agg #[g.v], .int .i64 n22, .int .i64 n23]) (F := fun G J g => RSl J l4 g.v) (fun G g w => ⟨by kernel_rfl, by kernel_rfl⟩) (fun G w hs => by
                            rw [hl4, hn22, hn23]
                            exact rPair_ct b_2 b_2v n19 n21 w K7 (hs.read 0 rfl) (hr26) )
                        · exact One.storeX (t := 24) (r := 0) (off := 0) (T := 24) (b := fun G => b1) (u := fun G => .agg #[(G 10).v]) (vs := fun G => [(G 10).v]) (arr := fun G => #[b_2v]) (fun G => ⟨by kernel_rfl⟩) (fun G w hs => by
                            have ho10 : (RSl (hun (G 10).H K7) l4 (G 10).v) ∧ New w0 (G 10).H := hs.get 10 (by kernel_rfl) (p := true) (by kernel_rfl) rfl (by kernel_rfl)
                            exact ⟨rfl, (all_cons1 (ho10.1).cell1 rfl)⟩)
                        intro G27 xa xw hDn
                        have hf10_26 : (RSl (hun (G27 10).H K7) l4 (G27 10).v) ∧ New w0 (G27 10).H := hDn.get 10 (by kernel_rfl) (by kernel_rfl) (by kernel_rfl)
                        refine hDn.to [4, 8, 17, 20, 21, 22, 23] [10] (by kernel_rfl) ?_
                        clear hDn
                        refine Pre.conv (sl := [(4, .pointer (some ⟨b1, 0, none⟩)), (8, .pointer (some ⟨b2, 0, none⟩)), (17, leavesv), (20, levelv), (21, nextv), (22, .int .i64 i_2), (23, .int .i64 n22)]) (A := [(G27 10).H, K7]) (L := [some (b1, .cells #[(G27 10).v] 24 (0, 0)), some (b2, .cells #[.slice none 0 0] 24 (0, 0)), none, none, none, none, nexte]) ?_ (by kernel_rfl) (by kernel_rfl) (by kernel_rfl)
                        generalize (G27 10).v = v4 at hf10_26 ⊢
                        generalize (G27 10).H = N3 at hf10_26 ⊢
                        clear G27
                        refine Pre.merge (Ns := [N3]) hE7 (by simp only [List.mem_cons, List.not_mem_nil, or_false, forall_eq_or_imp, forall_eq]; exact hf10_26.2) (fun K8 hk11 hk12 hE8 => ?_)
                        have hr29 := (hr27).mono hk11
                        have hr29n := hr29.lim
                        have hr30 := (hr28).mono hk11
                        have hr30n := hr30.lim
                        have hr31 := (hr25).mono hk11
                        have hr31n := hr31.lim
                        have hr32 := (hf10_26.1).mono (hun_sub (hk12 _ (by simp)) hk11)
                        have hr32n := hr32.lim
                        have hone := Tm.pair_one hf20 (by omega) ⟨h2.1, h2.2.1⟩ (by omega) (by omega) hl4
                        have hlb : l4.length = b_2.length + 1 := by rw [hone.2.2.1]; simp
                        refine At.then ?_
                        obtain ⟨l5, hl5⟩ : ∃ zz : List Int, zz = next ++ [n22] := ⟨_, rfl⟩
                        have hl5n := congrArg List.length hl5; try simp only [List.length_append, List.length_cons, List.length_nil, List.length_replicate, List.length_set, List.length_take, List.length_drop, List.length_map, List.length_reverse, List.length_range] at hl5n
                        refine W.regV (rbuild_ct_r17_27 v b1 b2 leavesv b levelv nextv nexte i_2 n22 v4 K8 l5) [0, 1, 4] [2, 3] (fun G => [nextv, .int .i64 n22, (G 3).v]) (by kernel_rfl) mo_rc (by kernel_rfl) (fun _ _ => by kernel_rfl) ⟨?_, ?_, trivial⟩ (by kernel_rfl) ?_
                        · exact One.new (r := 5) (T := 3) (fun b => .slice (some ⟨b, 0, none⟩) 1 1) (arr := fun G => #[.int .i64 n22]) (fun G w => by kernel_rfl) (fun G b => by kernel_rfl)
                        · exact One.appendD (α := Int) (t := 26) (E := 3) (size := 1) (bytes := 8) (r := 6) (l := fun G => next) (m := fun G => [n22]) (lm := fun G => l5) (v := fun G => nextv) (x := fun G => .slice (some ⟨(G 2).b, 0, none⟩) 1 1) (e := fun G => nexte) (H := fun G => K8) (J := fun G => (hun (entH ((some ((G 2).b, .cells #[.int .i64 n22] 3 (0, 0))))) K8)) (fun G g => ⟨by kernel_rfl, by kernel_rfl⟩) rfl (fun G w hs => ⟨hr31, (hun_agrees (entH_agrees (hs.own (r := 5) (e := (some ((G 2).b, .cells #[.int .i64 n22] 3 (0, 0)))) (by kernel_rfl))) (hs.read 0 rfl)), (((OSl.lit (α := Int) (E := 3) (n := 1) (H := K8) (l := [n22]) (g := (G 2).b) (arr := #[.int .i64 n22]) (fun _ _ => trivial) (by kernel_rfl))).read (hs.own (r := 5) (e := (some ((G 2).b, .cells #[.int .i64 n22] 3 (0, 0)))) (by kernel_rfl)) (hs.read 0 rfl)), (fun _ _ => trivial), hl5, by (try simp only [List.length_append, List.length_cons, List.length_nil, List.length_replicate, List.length_set, List.length_take, List.length_drop, List.length_map, List.length_reverse, List.length_range]); omega⟩)
                        intro G28 xa xw hDn
                        have hf3_27 : OSl 3 K8 l5 (G28 3).v (G28 3).e := hDn.get 3 (by kernel_rfl) (by kernel_rfl) (by kernel_rfl)
                        refine hDn.to [4, 8, 17, 20, 21, 22] [] (by kernel_rfl) ?_
                        clear hDn
                        refine Pre.conv (sl := [(4, .pointer (some ⟨b1, 0, none⟩)), (8, .pointer (some ⟨b2, 0, none⟩)), (17, leavesv), (20, levelv), (21, (G28 3).v), (22, .int .i64 i_2)]) (A := [K8]) (L := [some (b1, .cells #[v4] 24 (0, 0)), some (b2, .cells #[.slice none 0 0] 24 (0, 0)), none, none, none, (some ((G28 2).b, .cells #[.int .i64 n22] 3 (0, 0))), (G28 3).e]) ?_ (by kernel_rfl) (by kernel_rfl) (by kernel_rfl)
                        generalize (G28 3).v = v5 at hf3_27 ⊢
                        generalize (G28 2).b = b5 at hf3_27 ⊢
                        generalize (G28 3).e = e2 at hf3_27 ⊢
                        clear G28
                        refine At.blockNormal ?_
                        refine At.then ?_
                        obtain ⟨n24, hn24⟩ : ∃ zz : Int, zz = i_2 + 2 := ⟨_, rfl⟩
                        refine W.regV (rbuild_ct_r17_28 b1 b2 leavesv levelv i_2 n22 v4 K8 v5 b5 e2 n24) [0, 2] [1] (fun G => [.int .i64 i_2, .int .i64 n24]) (by kernel_rfl) mo_rc (by kernel_rfl) (fun _ _ => by kernel_rfl) ⟨?_, trivial⟩ (by kernel_rfl) ?_
                        · exact One.ar hn24 (fun _ _ => by kernel_rfl) (fun G w hs => by omega)
                        intro G29 xa xw hDn
                        refine hDn.to [4, 8, 17, 20, 21, 22] [] (by kernel_rfl) ?_
                        clear hDn
                        refine Pre.conv (sl := [(4, .pointer (some ⟨b1, 0, none⟩)), (8, .pointer (some ⟨b2, 0, none⟩)), (17, leavesv), (20, levelv), (21, v5), (22, .int .i64 n24)]) (A := [K8]) (L := [some (b1, .cells #[v4] 24 (0, 0)), some (b2, .cells #[.slice none 0 0] 24 (0, 0)), none, none, none, (some (b5, .cells #[.int .i64 n22] 3 (0, 0))), e2]) ?_ (by kernel_rfl) (by kernel_rfl) (by kernel_rfl)
                        clear G29
                        have hps := Tm.pair_step (i := i_2) (j := n20) hf18 hf19 (by omega) hn20 (by omega) hn19 hn21 hn24 hone.2.2.1 (by omega) hl5
                        have hsn := hone.2.2.2
                        intro xa xw hs hw
                        refine ⟨(K8, l5, v5, e2, n24, l4, v4), ⟨hs.sub (by kernel_rfl), hw.mask [true, true, false, false, false, false, true] (by kernel_rfl), ?_⟩, ?_⟩
                        · skip
                          refine ⟨(hk10).trans ((((Sub.refl _)).trans hk11)), hE8, hf3_27, hr32, ?_, ?_, ?_, ?_, ?_, ?_, ?_, ?_⟩
                          · show Tm.Lev l4 (l5 ++ level.drop n24.toNat) (Tm.totV values texts.length) (Tm.totV blinds texts.length)
                            exact hps.1
                          · show Tm.pairUp b_1 level = ((Tm.pairUp l4 (level.drop n24.toNat)).1, l5 ++ (Tm.pairUp l4 (level.drop n24.toNat)).2)
                            exact hps.2
                          · show Tm.Sound l4
                            exact hsn
                          · show 0 ≤ n24
                            omega
                          · show n24 ≤ level.length + 1
                            omega
                          · show (l4.length : Int) + l5.length = b_1.length + min n24 level.length
                            omega
                          · show l5.length ≤ n24
                            omega
                          · show l4.length + (l5 ++ level.drop n24.toNat).length = b_1.length + level.length
                            have hl7 := hf25
                            simp only [List.length_append, List.length_drop] at hl7 ⊢; omega
                        · show ((level.length : Int) - n24).toNat < ((level.length : Int) - i_2).toNat
                          omega
                      · skip
                        have hq14 := hq
                        replace hq14 := (iN hp16 iDF).1 hq14
                        refine W.skip (by kernel_rfl) ?_
                        refine At.then ?_
                        obtain ⟨l6, hl6⟩ : ∃ zz : List Int, zz = next ++ [n19] := ⟨_, rfl⟩
                        have hl6n := congrArg List.length hl6; try simp only [List.length_append, List.length_cons, List.length_nil, List.length_replicate, List.length_set, List.length_take, List.length_drop, List.length_map, List.length_reverse, List.length_range] at hl6n
                        refine W.regV (rbuild_ct_r17_29 v b1 b2 leavesv b levelv K7 nextv nexte i_2 b_2v n19 p16 l6) [0, 1, 4] [2, 3] (fun G => [nextv, .int .i64 n19, (G 3).v]) (by kernel_rfl) mo_rc (by kernel_rfl) (fun _ _ => by kernel_rfl) ⟨?_, ?_, trivial⟩ (by kernel_rfl) ?_
                        · exact One.new (r := 5) (T := 3) (fun b => .slice (some ⟨b, 0, none⟩) 1 1) (arr := fun G => #[.int .i64 n19]) (fun G w => by kernel_rfl) (fun G b => by kernel_rfl)
                        · exact One.appendD (α := Int) (t := 26) (E := 3) (size := 1) (bytes := 8) (r := 6) (l := fun G => next) (m := fun G => [n19]) (lm := fun G => l6) (v := fun G => nextv) (x := fun G => .slice (some ⟨(G 2).b, 0, none⟩) 1 1) (e := fun G => nexte) (H := fun G => K7) (J := fun G => (hun (entH ((some ((G 2).b, .cells #[.int .i64 n19] 3 (0, 0))))) K7)) (fun G g => ⟨by kernel_rfl, by kernel_rfl⟩) rfl (fun G w hs => ⟨hr25, (hun_agrees (entH_agrees (hs.own (r := 5) (e := (some ((G 2).b, .cells #[.int .i64 n19] 3 (0, 0)))) (by kernel_rfl))) (hs.read 0 rfl)), (((OSl.lit (α := Int) (E := 3) (n := 1) (H := K7) (l := [n19]) (g := (G 2).b) (arr := #[.int .i64 n19]) (fun _ _ => trivial) (by kernel_rfl))).read (hs.own (r := 5) (e := (some ((G 2).b, .cells #[.int .i64 n19] 3 (0, 0)))) (by kernel_rfl)) (hs.read 0 rfl)), (fun _ _ => trivial), hl6, by (try simp only [List.length_append, List.length_cons, List.length_nil, List.length_replicate, List.length_set, List.length_take, List.length_drop, List.length_map, List.length_reverse, List.length_range]); omega⟩)
                        intro G30 xa xw hDn
                        have hf3_28 : OSl 3 K7 l6 (G30 3).v (G30 3).e := hDn.get 3 (by kernel_rfl) (by kernel_rfl) (by kernel_rfl)
                        refine hDn.to [4, 8, 17, 20, 21, 22] [] (by kernel_rfl) ?_
                        clear hDn
                        refine Pre.conv (sl := [(4, .pointer (some ⟨b1, 0, none⟩)), (8, .pointer (some ⟨b2, 0, none⟩)), (17, leavesv), (20, levelv), (21, (G30 3).v), (22, .int .i64 i_2)]) (A := [K7]) (L := [some (b1, .cells #[b_2v] 24 (0, 0)), some (b2, .cells #[.slice none 0 0] 24 (0, 0)), none, none, none, (some ((G30 2).b, .cells #[.int .i64 n19] 3 (0, 0))), (G30 3).e]) ?_ (by kernel_rfl) (by kernel_rfl) (by kernel_rfl)
                        generalize (G30 3).v = v6 at hf3_28 ⊢
                        generalize (G30 2).b = b6 at hf3_28 ⊢
                        generalize (G30 3).e = e3 at hf3_28 ⊢
                        clear G30
                        refine At.blockNormal ?_
                        refine At.then ?_
                        obtain ⟨n25, hn25⟩ : ∃ zz : Int, zz = i_2 + 2 := ⟨_, rfl⟩
                        refine W.regV (rbuild_ct_r17_30 b1 b2 leavesv levelv K7 i_2 b_2v n19 v6 b6 e3 n25) [0, 2] [1] (fun G => [.int .i64 i_2, .int .i64 n25]) (by kernel_rfl) mo_rc (by kernel_rfl) (fun _ _ => by kernel_rfl) ⟨?_, trivial⟩ (by kernel_rfl) ?_
                        · exact One.ar hn25 (fun _ _ => by kernel_rfl) (fun G w hs => by omega)
                        intro G31 xa xw hDn
                        refine hDn.to [4, 8, 17, 20, 21, 22] [] (by kernel_rfl) ?_
                        clear hDn
                        refine Pre.conv (sl := [(4, .pointer (some ⟨b1, 0, none⟩)), (8, .pointer (some ⟨b2, 0, none⟩)), (17, leavesv), (20, levelv), (21, v6), (22, .int .i64 n25)]) (A := [K7]) (L := [some (b1, .cells #[b_2v] 24 (0, 0)), some (b2, .cells #[.slice none 0 0] 24 (0, 0)), none, none, none, (some (b6, .cells #[.int .i64 n19] 3 (0, 0))), e3]) ?_ (by kernel_rfl) (by kernel_rfl) (by kernel_rfl)
                        clear G31
                        have hps := Tm.pair_last hf18 hf19 (by omega) (by omega) hn19 hn25 hl6
                        have hsn := hf20
                        intro xa xw hs hw
                        refine ⟨(K7, l6, v6, e3, n25, b_2, b_2v), ⟨hs.sub (by kernel_rfl), hw.mask [true, true, false, false, false, false, true] (by kernel_rfl), ?_⟩, ?_⟩
                        · skip
                          refine ⟨(hk10).trans ((Sub.refl _)), hE7, hf3_28, hr26, ?_, ?_, ?_, ?_, ?_, ?_, ?_, ?_⟩
                          · show Tm.Lev b_2 (l6 ++ level.drop n25.toNat) (Tm.totV values texts.length) (Tm.totV blinds texts.length)
                            exact hps.1
                          · show Tm.pairUp b_1 level = ((Tm.pairUp b_2 (level.drop n25.toNat)).1, l6 ++ (Tm.pairUp b_2 (level.drop n25.toNat)).2)
                            exact hps.2
                          · show Tm.Sound b_2
                            exact hsn
                          · show 0 ≤ n25
                            omega
                          · show n25 ≤ level.length + 1
                            omega
                          · show (b_2.length : Int) + l6.length = b_1.length + min n25 level.length
                            omega
                          · show l6.length ≤ n25
                            omega
                          · show b_2.length + (l6 ++ level.drop n25.toNat).length = b_1.length + level.length
                            have hl7 := hf25
                            simp only [List.length_append, List.length_drop] at hl7 ⊢; omega
                        · show ((level.length : Int) - n25).toNat < ((level.length : Int) - i_2).toNat
                          omega
                    · skip
                      have hq15 := hq
                      replace hq15 := (iN hp15 iDF).1 hq15
                      refine W.exit 6 (by kernel_rfl) ?_
                      refine At.thenExit ?_
                      refine At.thenExit ?_
                      refine At.blockHit ?_
                      refine At.then ?_
                      have hpe := Tm.pair_over hf18 hf19 (by omega)
                      refine W.regV (rbuild_ct_r17_31 b1 b2 leavesv levelv K7 nextv nexte i_2 b_2v p15) [0, 1] [] (fun G => [nextv, nextv]) (by kernel_rfl) mo_rc (by kernel_rfl) (fun _ _ => by kernel_rfl) trivial (by kernel_rfl) ?_
                      intro G32 xa xw hDn
                      refine hDn.to [4, 8, 17, 20] [] (by kernel_rfl) ?_
                      clear hDn
                      refine Pre.conv (sl := [(4, .pointer (some ⟨b1, 0, none⟩)), (8, .pointer (some ⟨b2, 0, none⟩)), (17, leavesv), (20, nextv)]) (A := [K7]) (L := [some (b1, .cells #[b_2v] 24 (0, 0)), some (b2, .cells #[.slice none 0 0] 24 (0, 0)), none, none, none, none, nexte]) ?_ (by kernel_rfl) (by kernel_rfl) (by kernel_rfl)
                      clear G32
                      refine At.blockNormal ?_
                      refine Pre.freeze 6 (e := nexte) (by kernel_rfl) hE7 (fun K9 hk13 hk14 hE9 => ?_)
                      have hr33 := (hr27).mono hk13
                      have hr34 := (hr25).frozen hk13 hk14
                      have hr35 := (hr26).mono hk13
                      refine Pre.conv (L := [some (b1, .cells #[b_2v] 24 (0, 0)), some (b2, .cells #[.slice none 0 0] 24 (0, 0)), none, none, none, none, none]) ?_ rfl rfl (by kernel_rfl)
                      intro xa xw hs hw
                      refine ⟨(K9, next, nextv, b_2, b_2v), ⟨hs.sub (by kernel_rfl), hw.mask [true, true, false, false, false, false, false] (by kernel_rfl), ?_⟩, ?_⟩
                      · skip
                        refine ⟨(hk9).trans (((hk10).trans hk13)), hE9, hr34, hr35, ?_, ?_, ?_, ?_, ?_, ?_⟩
                        · show Tm.Lev b_2 next (Tm.totV values texts.length) (Tm.totV blinds texts.length)
                          exact hpe.2.1
                        · show Tm.up texts.length (v ++ Tm.leavesN texts values blinds texts.length) (Tm.idsN v.length texts.length) = Tm.up next.length b_2 next
                          rw [hf13]; exact Tm.up_step (by omega) hpe.1
                        · show Tm.Sound b_2
                          exact hf20
                        · show b_2.length + next.length = v.length + 2 * texts.length
                          omega
                        · show 1 ≤ next.length
                          omega
                        · show next.length ≤ texts.length
                          omega
                      · show next.length < level.length
                        omega
                · skip
                  have hq16 := hq
                  replace hq16 := (iN hp14 iDF).1 hq16
                  refine W.exit 4 (by kernel_rfl) ?_
                  refine At.thenExit ?_
                  refine At.thenExit ?_
                  refine At.blockHit ?_
                  refine At.then ?_
                  refine W.seq (by kernel_rfl) ?_
                  obtain ⟨n26, hn26⟩ : ∃ zz : Int, zz = level.getD (0 : Int).toNat default := ⟨_, rfl⟩
                  refine W.regV (rbuild_ct_r17_32 b1 b2 leavesv K6 levelv b_1v p14 n26) [1, 4, 6, 7, 8] [0, 2, 3, 5] (fun G => [levelv, leavesv, .int .i64 n26, leavesv, .int .i64 0]) (by kernel_rfl) mo_rc (by kernel_rfl) (fun _ _ => by kernel_rfl) ⟨?_, ?_, ?_, ?_, trivial⟩ (by kernel_rfl) ?_
                  · exact One.loadE (t := 24) (r := 0) (off := 0) (b := fun G => b1) (vs := fun G => [b_1v]) (arr := fun G => #[b_1v]) (T := 24) (fr := (0, 0)) (fun G => ⟨by kernel_rfl⟩) (fun G => by kernel_rfl)
                  · exact One.index (t := 26) (e := 3) (size := 1) (v := fun G => levelv) (k := .i64) (n := 0) (fun _ => ⟨by kernel_rfl⟩) (fun G w hs => ⟨_, (hr22).isSl, by first | omega | (simp only [List.length_append, List.length_cons, List.length_nil, List.length_replicate, List.length_set, List.length_take, List.length_drop, List.length_map, List.length_reverse, List.length_range]; omega), by first | omega | (simp only [List.length_append, List.length_cons, List.length_nil, List.length_replicate, List.length_set, List.length_take, List.length_drop, List.length_map, List.length_reverse, List.length_range]; omega)⟩)
                  · exact One.loadD (α := Int) (t := 3) (size := 1) (off := 0) (k := 0) (l := fun G => level) (x := fun G => n26) (vs := fun G => [.int .i64 n26]) (v := fun G => levelv) (H := fun G => K6) (p := fun G => elemAddr levelv ((0 : Int).toNat * 1)) (fun G => ⟨by kernel_rfl⟩) rfl (fun G => by kernel_rfl) (fun G w hs => ⟨(hs.read 0 rfl), hr22, (add_zero' _).symm, by omega, by first | omega | (simp only [List.length_append, List.length_cons, List.length_nil, List.length_replicate, List.length_set, List.length_take, List.length_drop, List.length_map, List.length_reverse, List.length_range]; omega), hn26⟩)
                  · exact One.storeX (t := 24) (r := 1) (off := 0) (T := 24) (b := fun G => b2) (u := fun G => .agg #[b_1v]) (vs := fun G => [b_1v]) (arr := fun G => #[.slice none 0 0]) (fun G => ⟨by kernel_rfl⟩) (fun G w hs => ⟨rfl, (all_cons1 (hr23).cell1 rfl)⟩)
                  intro G33 xa xw hDn
                  refine hDn.to [8, 9, 10, 11] [] (by kernel_rfl) ?_
                  clear hDn
                  refine Pre.conv (sl := [(8, .pointer (some ⟨b2, 0, none⟩)), (9, .int .i64 n26), (10, leavesv), (11, .int .i64 0)]) (A := [K6]) (L := [some (b1, .cells #[b_1v] 24 (0, 0)), some (b2, .cells #[b_1v] 24 (0, 0)), none, none, none, none, none]) ?_ (by kernel_rfl) (by kernel_rfl) (by kernel_rfl)
                  clear G33
                  refine At.then ?_
                  refine W.ret (by kernel_rfl) ?_
                  refine At.results (Or.inl rfl) (.tuple #[.agg #[b_1v], .int .i64 n26, leavesv, .int .i64 0]) (fun xa xw hs hw => results_many (rs := [.cell 8 24, .tmp 9, .tmp 10, .tmp 11]) (vs := [.agg #[b_1v], .int .i64 n26, leavesv, .int .i64 0]) (by kernel_rfl) (by simp) ⟨res_cell (ty := 24) (r := 1) (b := b2) (off := 0) (arr := #[b_1v]) (T := 24) (vs := [b_1v]) hs hw (by kernel_rfl), res_tmp (t := 9) (by kernel_rfl) hs, res_tmp (t := 10) (by kernel_rfl) hs, res_tmp (t := 11) (by kernel_rfl) hs, trivial⟩) (fun w' hw => ?_)
                  have e0 : b_1 = (Tm.buildT v texts values blinds) := by
                    rw [hB.2.1]
                    unfold Tm.built; rw [hf13, Tm.up_one (by omega)]
                  have e1 : n26 = (Tm.buildR v texts values blinds) := by
                    rw [hB.2.2.1]
                    unfold Tm.built; rw [hf13, Tm.up_one (by omega)]; assumption
                  have e2 : leaves = (Tm.buildL v texts values blinds) := by
                    rw [hB.2.2.2]
                    rw [hf7]
                  have e3 : 0 = (Tm.buildE v texts values blinds) := by
                    rw [hB.1]
                  exact Makes.ret b_1v leavesv undef hA hE6 hw (fun N => cong2 (fun (x1 : Int) (x3 : Int) => (.tuple #[.agg #[b_1v], .int .i64 x1, leavesv, .int .i64 x3] : Value)) e1 e3) (fun N J hJ => ⟨(e0 ▸ (hr23).mono hJ), (e2 ▸ (hr24).mono hJ)⟩)

end Kb
