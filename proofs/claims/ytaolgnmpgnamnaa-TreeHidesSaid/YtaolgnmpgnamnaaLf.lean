/- Law: hides. -/
import Derived.Test.YtaolgnmpgnamnaaLa
import Derived.Test.YtaolgnmpgnamnaaTt
set_option linter.unusedVariables false
set_option linter.unusedSimpArgs false
namespace Kb
open Go Go.Proofs
theorem mo_lf : Try.prog.follows .mixedOrders = true := by kernel_rfl
noncomputable def hides_ct_r7_0 (vv textsv valuesv blindsv othersv numbersv ownsv : Value) (at_ : Int) (H : Heaplet) : RC := { ops := opsAt Try.f7 0, B := [0, 0], sl := [(0, .agg #[vv]), (1, textsv), (2, valuesv), (3, blindsv), (4, othersv), (5, numbersv), (6, ownsv), (7, .int .i64 at_)], A := [H], L := [none, none, none], cs := [{ val := fun G => .pointer (some ⟨(G 0).b, 0, none⟩), ups := [(0, fun G => some ((G 0).b, .cells #[vv] 24 (0, 0)))] }, { val := fun _ => .bool false }] }
noncomputable def hides_ct_r7_1 (vv textsv valuesv blindsv othersv numbersv ownsv : Value) (at_ : Int) (H : Heaplet) (b1 : Nat) : RC := { ops := opsAt Try.f7 1, B := [0, 1], sl := [(1, textsv), (2, valuesv), (3, blindsv), (4, othersv), (5, numbersv), (6, ownsv), (7, .int .i64 at_), (8, .pointer (some ⟨b1, 0, none⟩))], A := [H], L := [some (b1, .cells #[vv] 24 (0, 0)), none, none], cs := [{ val := fun _ => .bool true }, { val := fun _ => .bool true }] }
noncomputable def hides_ct_r7_2 (vv textsv valuesv blindsv othersv numbersv ownsv : Value) (at_ : Int) (H : Heaplet) (b1 : Nat) (p1 p2 p3 p4 p5 : Bool) (n1 n2 : Int) (p6 p7 p8 p9 p10 p11 : Bool) (n3 : Int) (p12 p13 : Bool) (n4 : Int) (p14 p15 : Bool) (n5 : Int) (p16 p17 : Bool) (n6 : Int) (p18 p19 : Bool) : RC := { ops := opsAt Try.f7 2, B := [0, 1, 3, 7, 15, 31, 63, 127, 255, 511, 1023, 2047, 4095, 8191, 16383, 32767, 16383, 81919, 262143, 524287, 1048575, 2097151, 4194303, 8388607, 16777215, 33554431, 33554431, 100663295, 268435455, 536870911, 1073741823, 2147483647, 4294967295, 8589934591, 17179869183, 34359738367, 68719476735, 137438953471, 274877906943, 549755813887, 1099511627775, 2199023255551, 4398046511103, 8796093022207, 17592186044415, 35184372088831, 70368744177663, 140737488355327, 281474976710655, 562949953421311], sl := [(1, textsv), (2, valuesv), (3, blindsv), (4, othersv), (5, numbersv), (6, ownsv), (7, .int .i64 at_), (8, .pointer (some ⟨b1, 0, none⟩)), (17, .bool true)], A := [H], L := [some (b1, .cells #[vv] 24 (0, 0)), none, none], cs := [{ val := fun _ => .agg #[vv], rds := [0] }, { val := fun _ => .bool p1 }, { val := fun _ => .bool (!p1) }, { val := fun _ => .bool (!p1) }, { val := fun _ => textsv }, { val := fun _ => .bool p2 }, { val := fun _ => .bool (!p2) }, { val := fun _ => .bool p3 }, { val := fun _ => .bool p3 }, { val := fun _ => othersv }, { val := fun _ => .bool p4 }, { val := fun _ => .bool (!p4) }, { val := fun _ => .bool p5 }, { val := fun _ => .bool p5 }, { val := fun _ => textsv }, { val := fun _ => .int .i64 n1 }, { val := fun _ => othersv }, { val := fun _ => .int .i64 n2 }, { val := fun _ => .bool p6 }, { val := fun _ => .bool p7 }, { val := fun _ => .bool p7 }, { val := fun _ => .int .i64 at_ }, { val := fun _ => .bool p8 }, { val := fun _ => .bool p9 }, { val := fun _ => .bool p9 }, { val := fun _ => .int .i64 at_ }, { val := fun _ => textsv }, { val := fun _ => .int .i64 n1 }, { val := fun _ => .bool p10 }, { val := fun _ => .bool p11 }, { val := fun _ => .bool p11 }, { val := fun _ => valuesv }, { val := fun _ => .int .i64 n3 }, { val := fun _ => .bool p12 }, { val := fun _ => .bool p13 }, { val := fun _ => .bool p13 }, { val := fun _ => numbersv }, { val := fun _ => .int .i64 n4 }, { val := fun _ => .bool p14 }, { val := fun _ => .bool p15 }, { val := fun _ => .bool p15 }, { val := fun _ => blindsv }, { val := fun _ => .int .i64 n5 }, { val := fun _ => .bool p16 }, { val := fun _ => .bool p17 }, { val := fun _ => .bool p17 }, { val := fun _ => ownsv }, { val := fun _ => .int .i64 n6 }, { val := fun _ => .bool p18 }, { val := fun _ => .bool p19 }] }
noncomputable def hides_ct_r7_3 (vv textsv valuesv blindsv othersv numbersv ownsv : Value) (at_ : Int) (H : Heaplet) (b1 : Nat) (p19 : Bool) : RC := { ops := opsAt Try.f7 3, B := [0, 1], sl := [(1, textsv), (2, valuesv), (3, blindsv), (4, othersv), (5, numbersv), (6, ownsv), (7, .int .i64 at_), (8, .pointer (some ⟨b1, 0, none⟩)), (17, .bool true), (80, .bool p19)], A := [H], L := [some (b1, .cells #[vv] 24 (0, 0)), none, none], cs := [{ val := fun _ => .bool true }, { val := fun _ => .bool true }] }
noncomputable def hides_ct_r7_4 (w0 : World) (v : List DThing) (vv textsv valuesv blindsv othersv numbersv ownsv : Value) (at_ : Int) (H : Heaplet) (b1 : Nat) (p19 : Bool) (l1 : List DThing) (n7 : Int) (l2 : List Int) (n8 : Int) : RC := { ops := opsAt Try.f7 4, B := [0, 0, 0, 0, 15, 31, 63, 63, 63, 63, 0, 1151, 3327, 7679, 16383], sl := [(1, textsv), (2, valuesv), (3, blindsv), (4, othersv), (5, numbersv), (6, ownsv), (7, .int .i64 at_), (8, .pointer (some ⟨b1, 0, none⟩)), (17, .bool true), (80, .bool p19)], A := [H], L := [some (b1, .cells #[vv] 24 (0, 0)), none, none], cs := [{ val := fun _ => .agg #[vv], rds := [0] }, { val := fun _ => textsv }, { val := fun _ => valuesv }, { val := fun _ => blindsv }, { val := fun G => .tuple #[.agg #[(G 4).v], .int .i64 n7, (G 4).v2, .int .i64 n8], fact := fun G => (RSl (hun (G 4).H H) l1 (G 4).v ∧ RSl (hun (G 4).H H) l2 (G 4).v2) ∧ New w0 (G 4).H }, { val := fun G => .tuple #[.agg #[(G 4).v], .int .i64 n7, (G 4).v2, .int .i64 n8] }, { val := fun G => .agg #[(G 4).v] }, { val := fun _ => .int .i64 n7 }, { val := fun G => (G 4).v2 }, { val := fun _ => .int .i64 n8 }, { val := fun G => .pointer (some ⟨(G 10).b, 0, none⟩), ups := [(1, fun G => some ((G 10).b, .cells #[.slice none 0 0] 24 (0, 0)))] }, { val := fun _ => undef, ups := [(1, fun G => some ((G 10).b, .cells #[(G 4).v] 24 (0, 0)))] }, { val := fun _ => .int .i64 n7 }, { val := fun G => (G 4).v2 }, { val := fun _ => .int .i64 n8 }] }
noncomputable def hides_ct_r7_5 (w0 : World) (v : List DThing) (vv textsv valuesv blindsv othersv numbersv ownsv : Value) (at_ : Int) (H : Heaplet) (b1 : Nat) (n7 n8 : Int) (b2 : Nat) (v1 v2 : Value) (K1 : Heaplet) (l3 : List DThing) (n9 : Int) (l4 : List Int) (n10 : Int) : RC := { ops := opsAt Try.f7 5, B := [0, 0, 0, 0, 15, 31, 63, 63, 63, 63, 0, 1151, 3327, 7679, 16383], sl := [(1, textsv), (2, valuesv), (3, blindsv), (4, othersv), (5, numbersv), (6, ownsv), (7, .int .i64 at_), (8, .pointer (some ⟨b1, 0, none⟩)), (17, .bool true), (18, .pointer (some ⟨b2, 0, none⟩)), (19, .int .i64 n7), (20, v1), (21, .int .i64 n8)], A := [K1], L := [some (b1, .cells #[vv] 24 (0, 0)), some (b2, .cells #[v2] 24 (0, 0)), none], cs := [{ val := fun _ => .agg #[vv], rds := [0] }, { val := fun _ => othersv }, { val := fun _ => numbersv }, { val := fun _ => ownsv }, { val := fun G => .tuple #[.agg #[(G 4).v], .int .i64 n9, (G 4).v2, .int .i64 n10], fact := fun G => (RSl (hun (G 4).H K1) l3 (G 4).v ∧ RSl (hun (G 4).H K1) l4 (G 4).v2) ∧ New w0 (G 4).H }, { val := fun G => .tuple #[.agg #[(G 4).v], .int .i64 n9, (G 4).v2, .int .i64 n10] }, { val := fun G => .agg #[(G 4).v] }, { val := fun _ => .int .i64 n9 }, { val := fun G => (G 4).v2 }, { val := fun _ => .int .i64 n10 }, { val := fun G => .pointer (some ⟨(G 10).b, 0, none⟩), ups := [(2, fun G => some ((G 10).b, .cells #[.slice none 0 0] 24 (0, 0)))] }, { val := fun _ => undef, ups := [(2, fun G => some ((G 10).b, .cells #[(G 4).v] 24 (0, 0)))] }, { val := fun _ => .int .i64 n9 }, { val := fun G => (G 4).v2 }, { val := fun _ => .int .i64 n10 }] }
noncomputable def hides_ct_r7_6 (vv textsv valuesv blindsv othersv numbersv ownsv : Value) (at_ : Int) (b1 : Nat) (n7 n8 : Int) (b2 : Nat) (v1 v2 : Value) (n9 n10 : Int) (b3 : Nat) (v3 v4 : Value) (K2 : Heaplet) (p20 p21 p22 : Bool) : RC := { ops := opsAt Try.f7 6, B := [0, 1, 3, 7, 15, 31], sl := [(1, textsv), (2, valuesv), (3, blindsv), (4, othersv), (5, numbersv), (6, ownsv), (7, .int .i64 at_), (17, .bool true), (18, .pointer (some ⟨b2, 0, none⟩)), (19, .int .i64 n7), (20, v1), (21, .int .i64 n8), (22, .pointer (some ⟨b3, 0, none⟩)), (23, .int .i64 n9), (24, v3), (25, .int .i64 n10)], A := [K2], L := [some (b1, .cells #[vv] 24 (0, 0)), some (b2, .cells #[v2] 24 (0, 0)), some (b3, .cells #[v4] 24 (0, 0))], cs := [{ val := fun _ => .int .i64 n8 }, { val := fun _ => .bool p20 }, { val := fun _ => .bool p20 }, { val := fun _ => .int .i64 n10 }, { val := fun _ => .bool p21 }, { val := fun _ => .bool p22 }] }
noncomputable def hides_ct_r7_7 (vv textsv valuesv blindsv othersv numbersv ownsv : Value) (at_ : Int) (b1 : Nat) (n7 : Int) (b2 : Nat) (v1 v2 : Value) (n9 : Int) (b3 : Nat) (v3 v4 : Value) (K2 : Heaplet) (p22 : Bool) : RC := { ops := opsAt Try.f7 7, B := [0, 1], sl := [(1, textsv), (2, valuesv), (3, blindsv), (4, othersv), (5, numbersv), (6, ownsv), (7, .int .i64 at_), (17, .bool true), (18, .pointer (some ⟨b2, 0, none⟩)), (19, .int .i64 n7), (20, v1), (22, .pointer (some ⟨b3, 0, none⟩)), (23, .int .i64 n9), (24, v3), (107, .bool p22)], A := [K2], L := [some (b1, .cells #[vv] 24 (0, 0)), some (b2, .cells #[v2] 24 (0, 0)), some (b3, .cells #[v4] 24 (0, 0))], cs := [{ val := fun _ => .bool true }, { val := fun _ => .bool true }] }
noncomputable def hides_ct_r7_8 (vv textsv valuesv blindsv othersv numbersv ownsv : Value) (at_ : Int) (b1 : Nat) (n1 n3 n4 n5 n6 n7 : Int) (b2 : Nat) (v1 v2 : Value) (n9 : Int) (b3 : Nat) (v3 v4 : Value) (K2 : Heaplet) (p22 p23 p24 p25 p26 p27 p28 p29 : Bool) (n11 : Int) (p30 p31 : Bool) (n12 : Int) (p32 p33 p34 p35 : Bool) (n13 n14 : Int) (p36 p37 : Bool) : RC := { ops := opsAt Try.f7 8, B := [0, 1, 0, 4, 15, 31, 63, 127, 63, 319, 1023, 2047, 4095, 8191, 16383, 8191, 40959, 131071, 262143, 524287, 1048575, 2097151, 1048575, 5242879, 16777215, 33554431, 67108863, 134217727, 268435455, 134217727, 671088639, 2147483647, 4294967295, 8589934591, 17179869183, 34359738367, 17179869183, 85899345919, 274877906943, 549755813887, 1099511627775, 2199023255551, 2199023255551, 8796093022207, 17592186044415, 35184372088831, 70368744177663, 70368744177663, 281474976710655, 562949953421311, 70368744177663, 70368744177663, 3448068464705535, 7951668092076031, 18014398509481983, 36028797018963967], sl := [(1, textsv), (2, valuesv), (3, blindsv), (4, othersv), (5, numbersv), (6, ownsv), (7, .int .i64 at_), (17, .bool true), (18, .pointer (some ⟨b2, 0, none⟩)), (19, .int .i64 n7), (20, v1), (22, .pointer (some ⟨b3, 0, none⟩)), (23, .int .i64 n9), (24, v3), (107, .bool p22)], A := [K2], L := [some (b1, .cells #[vv] 24 (0, 0)), some (b2, .cells #[v2] 24 (0, 0)), some (b3, .cells #[v4] 24 (0, 0))], cs := [{ val := fun _ => valuesv }, { val := fun _ => .int .i64 n3 }, { val := fun _ => textsv }, { val := fun _ => .int .i64 n1 }, { val := fun _ => .bool p23 }, { val := fun _ => .bool p23 }, { val := fun _ => numbersv }, { val := fun _ => .int .i64 n4 }, { val := fun _ => textsv }, { val := fun _ => .int .i64 n1 }, { val := fun _ => .bool p24 }, { val := fun _ => .bool p25 }, { val := fun _ => .bool p25 }, { val := fun _ => blindsv }, { val := fun _ => .int .i64 n5 }, { val := fun _ => textsv }, { val := fun _ => .int .i64 n1 }, { val := fun _ => .bool p26 }, { val := fun _ => .bool p27 }, { val := fun _ => .bool p27 }, { val := fun _ => ownsv }, { val := fun _ => .int .i64 n6 }, { val := fun _ => textsv }, { val := fun _ => .int .i64 n1 }, { val := fun _ => .bool p28 }, { val := fun _ => .bool p29 }, { val := fun _ => .bool p29 }, { val := fun _ => v1 }, { val := fun _ => .int .i64 n11 }, { val := fun _ => textsv }, { val := fun _ => .int .i64 n1 }, { val := fun _ => .bool p30 }, { val := fun _ => .bool p31 }, { val := fun _ => .bool p31 }, { val := fun _ => v3 }, { val := fun _ => .int .i64 n12 }, { val := fun _ => textsv }, { val := fun _ => .int .i64 n1 }, { val := fun _ => .bool p32 }, { val := fun _ => .bool p33 }, { val := fun _ => .bool p33 }, { val := fun _ => .int .i64 n7 }, { val := fun _ => .int .i64 n9 }, { val := fun _ => .bool p34 }, { val := fun _ => .bool p35 }, { val := fun _ => .bool p35 }, { val := fun _ => v1 }, { val := fun _ => .int .i64 at_ }, { val := fun _ => .pointer (some (elemAddr v1 (at_.toNat * 1))) }, { val := fun _ => .int .i64 n13 }, { val := fun _ => v3 }, { val := fun _ => .int .i64 at_ }, { val := fun _ => .pointer (some (elemAddr v3 (at_.toNat * 1))) }, { val := fun _ => .int .i64 n14 }, { val := fun _ => .bool p36 }, { val := fun _ => .bool p37 }] }
noncomputable def hides_ct_r7_9 (vv textsv valuesv blindsv othersv numbersv ownsv : Value) (at_ : Int) (b1 : Nat) (n7 : Int) (b2 : Nat) (v1 v2 : Value) (b3 : Nat) (v4 : Value) (K2 : Heaplet) (p37 : Bool) : RC := { ops := opsAt Try.f7 10, B := [0], sl := [(1, textsv), (2, valuesv), (3, blindsv), (4, othersv), (5, numbersv), (6, ownsv), (7, .int .i64 at_), (17, .bool true), (18, .pointer (some ⟨b2, 0, none⟩)), (19, .int .i64 n7), (20, v1), (22, .pointer (some ⟨b3, 0, none⟩)), (164, .bool p37)], A := [K2], L := [some (b1, .cells #[vv] 24 (0, 0)), some (b2, .cells #[v2] 24 (0, 0)), some (b3, .cells #[v4] 24 (0, 0))], cs := [{ val := fun _ => .int .i64 0 }] }
noncomputable def hides_ct_r7_10 (vv textsv valuesv blindsv othersv numbersv ownsv : Value) (at_ : Int) (b1 : Nat) (n7 : Int) (b2 : Nat) (v1 v2 : Value) (b3 : Nat) (v4 : Value) (K2 : Heaplet) : RC := { ops := opsAt Try.f7 11, B := [0], sl := [(1, textsv), (2, valuesv), (3, blindsv), (4, othersv), (5, numbersv), (6, ownsv), (7, .int .i64 at_), (17, .bool true), (18, .pointer (some ⟨b2, 0, none⟩)), (19, .int .i64 n7), (20, v1), (22, .pointer (some ⟨b3, 0, none⟩)), (26, .int .i64 0)], A := [K2], L := [some (b1, .cells #[vv] 24 (0, 0)), some (b2, .cells #[v2] 24 (0, 0)), some (b3, .cells #[v4] 24 (0, 0))], cs := [{ val := fun _ => .int .i64 0 }] }
noncomputable def hides_ct_r7_11 (vv textsv valuesv blindsv othersv numbersv ownsv : Value) (at_ : Int) (b1 : Nat) (n7 : Int) (b2 : Nat) (v1 v2 : Value) (b3 : Nat) (v4 : Value) (K2 : Heaplet) : RC := { ops := opsAt Try.f7 12, B := [0], sl := [(1, textsv), (2, valuesv), (3, blindsv), (4, othersv), (5, numbersv), (6, ownsv), (7, .int .i64 at_), (17, .bool true), (18, .pointer (some ⟨b2, 0, none⟩)), (19, .int .i64 n7), (20, v1), (22, .pointer (some ⟨b3, 0, none⟩)), (26, .int .i64 0), (27, .int .i64 0)], A := [K2], L := [some (b1, .cells #[vv] 24 (0, 0)), some (b2, .cells #[v2] 24 (0, 0)), some (b3, .cells #[v4] 24 (0, 0))], cs := [{ val := fun _ => .int .i64 0 }] }
noncomputable def hides_ct_r7_12 (vv textsv valuesv blindsv othersv numbersv ownsv : Value) (at_ : Int) (b1 : Nat) (n3 n7 : Int) (b2 : Nat) (v1 v2 : Value) (b3 : Nat) (v4 : Value) (K2 : Heaplet) (sum all i : Int) (p38 : Bool) : RC := { ops := opsAt Try.f7 13, B := [0, 0, 2, 7], sl := [(1, textsv), (2, valuesv), (3, blindsv), (4, othersv), (5, numbersv), (6, ownsv), (7, .int .i64 at_), (17, .bool true), (18, .pointer (some ⟨b2, 0, none⟩)), (19, .int .i64 n7), (20, v1), (22, .pointer (some ⟨b3, 0, none⟩)), (26, .int .i64 sum), (27, .int .i64 all), (28, .int .i64 i)], A := [K2], L := [some (b1, .cells #[vv] 24 (0, 0)), some (b2, .cells #[v2] 24 (0, 0)), some (b3, .cells #[v4] 24 (0, 0))], cs := [{ val := fun _ => .int .i64 i }, { val := fun _ => valuesv }, { val := fun _ => .int .i64 n3 }, { val := fun _ => .bool p38 }] }
noncomputable def hides_ct_r7_13 (vv textsv valuesv blindsv othersv numbersv ownsv : Value) (at_ : Int) (b1 : Nat) (n7 : Int) (b2 : Nat) (v1 v2 : Value) (b3 : Nat) (v4 : Value) (K2 : Heaplet) (sum all i : Int) (p38 : Bool) (n15 n16 n17 n18 : Int) : RC := { ops := opsAt Try.f7 15, B := [0, 0, 0, 6, 14, 31, 0, 0, 192, 448, 1023, 2047], sl := [(1, textsv), (2, valuesv), (3, blindsv), (4, othersv), (5, numbersv), (6, ownsv), (7, .int .i64 at_), (17, .bool true), (18, .pointer (some ⟨b2, 0, none⟩)), (19, .int .i64 n7), (20, v1), (22, .pointer (some ⟨b3, 0, none⟩)), (26, .int .i64 sum), (27, .int .i64 all), (28, .int .i64 i), (168, .bool p38)], A := [K2], L := [some (b1, .cells #[vv] 24 (0, 0)), some (b2, .cells #[v2] 24 (0, 0)), some (b3, .cells #[v4] 24 (0, 0))], cs := [{ val := fun _ => .int .i64 sum }, { val := fun _ => valuesv }, { val := fun _ => .int .i64 i }, { val := fun _ => .pointer (some (elemAddr valuesv (i.toNat * 1))) }, { val := fun _ => .int .i64 n15 }, { val := fun _ => .int .i64 n16 }, { val := fun _ => numbersv }, { val := fun _ => .int .i64 i }, { val := fun _ => .pointer (some (elemAddr numbersv (i.toNat * 1))) }, { val := fun _ => .int .i64 n17 }, { val := fun _ => .int .i64 n18 }, { val := fun _ => .int .i64 n18 }] }
noncomputable def hides_ct_r7_14 (vv textsv valuesv blindsv othersv numbersv ownsv : Value) (at_ : Int) (b1 : Nat) (n7 : Int) (b2 : Nat) (v1 v2 : Value) (b3 : Nat) (v4 : Value) (K2 : Heaplet) (all i n18 n19 n20 n21 n22 : Int) : RC := { ops := opsAt Try.f7 16, B := [0, 0, 0, 6, 14, 31, 0, 0, 192, 448, 1023, 2047], sl := [(1, textsv), (2, valuesv), (3, blindsv), (4, othersv), (5, numbersv), (6, ownsv), (7, .int .i64 at_), (17, .bool true), (18, .pointer (some ⟨b2, 0, none⟩)), (19, .int .i64 n7), (20, v1), (22, .pointer (some ⟨b3, 0, none⟩)), (26, .int .i64 n18), (27, .int .i64 all), (28, .int .i64 i)], A := [K2], L := [some (b1, .cells #[vv] 24 (0, 0)), some (b2, .cells #[v2] 24 (0, 0)), some (b3, .cells #[v4] 24 (0, 0))], cs := [{ val := fun _ => .int .i64 all }, { val := fun _ => blindsv }, { val := fun _ => .int .i64 i }, { val := fun _ => .pointer (some (elemAddr blindsv (i.toNat * 1))) }, { val := fun _ => .int .i64 n19 }, { val := fun _ => .int .i64 n20 }, { val := fun _ => ownsv }, { val := fun _ => .int .i64 i }, { val := fun _ => .pointer (some (elemAddr ownsv (i.toNat * 1))) }, { val := fun _ => .int .i64 n21 }, { val := fun _ => .int .i64 n22 }, { val := fun _ => .int .i64 n22 }] }
noncomputable def hides_ct_r7_15 (vv textsv valuesv blindsv othersv numbersv ownsv : Value) (at_ : Int) (b1 : Nat) (n7 : Int) (b2 : Nat) (v1 v2 : Value) (b3 : Nat) (v4 : Value) (K2 : Heaplet) (i n18 n22 n23 : Int) : RC := { ops := opsAt Try.f7 14, B := [0, 1, 3], sl := [(1, textsv), (2, valuesv), (3, blindsv), (4, othersv), (5, numbersv), (6, ownsv), (7, .int .i64 at_), (17, .bool true), (18, .pointer (some ⟨b2, 0, none⟩)), (19, .int .i64 n7), (20, v1), (22, .pointer (some ⟨b3, 0, none⟩)), (26, .int .i64 n18), (27, .int .i64 n22), (28, .int .i64 i)], A := [K2], L := [some (b1, .cells #[vv] 24 (0, 0)), some (b2, .cells #[v2] 24 (0, 0)), some (b3, .cells #[v4] 24 (0, 0))], cs := [{ val := fun _ => .int .i64 i }, { val := fun _ => .int .i64 n23 }, { val := fun _ => .int .i64 n23 }] }
noncomputable def hides_ct_r7_16 (vv textsv valuesv blindsv othersv numbersv ownsv : Value) (at_ : Int) (b1 : Nat) (n7 : Int) (b2 : Nat) (v1 v2 : Value) (b3 : Nat) (v4 : Value) (K2 : Heaplet) (sum all i : Int) (p38 p39 p40 p41 : Bool) (s1 s2 : ByteArray) (p42 p43 : Bool) (n24 n25 : Int) (p44 p45 : Bool) (n26 n27 : Int) (p46 p47 : Bool) : RC := { ops := opsAt Try.f7 17, B := [0, 1, 3, 7, 15, 31, 63, 127, 127, 511, 1023, 127, 127, 6271, 14463, 32767, 65535, 131071, 262143, 262143, 1048575, 2097151, 262143, 262143, 12845055, 29622271, 67108863, 134217727, 268435455, 536870911, 536870911, 2147483647, 4294967295, 536870911, 536870911, 26306674687, 60666413055, 137438953471, 274877906943], sl := [(1, textsv), (2, valuesv), (3, blindsv), (4, othersv), (5, numbersv), (6, ownsv), (7, .int .i64 at_), (17, .bool true), (18, .pointer (some ⟨b2, 0, none⟩)), (19, .int .i64 n7), (20, v1), (22, .pointer (some ⟨b3, 0, none⟩)), (26, .int .i64 sum), (27, .int .i64 all), (28, .int .i64 i), (168, .bool p38)], A := [K2], L := [some (b1, .cells #[vv] 24 (0, 0)), some (b2, .cells #[v2] 24 (0, 0)), some (b3, .cells #[v4] 24 (0, 0))], cs := [{ val := fun _ => .int .i64 sum }, { val := fun _ => .bool p39 }, { val := fun _ => .bool p39 }, { val := fun _ => .int .i64 all }, { val := fun _ => .bool p40 }, { val := fun _ => .bool p41 }, { val := fun _ => .bool p41 }, { val := fun _ => textsv }, { val := fun _ => .int .i64 at_ }, { val := fun _ => .pointer (some (elemAddr textsv (at_.toNat * 1))) }, { val := fun _ => .string s1 }, { val := fun _ => othersv }, { val := fun _ => .int .i64 at_ }, { val := fun _ => .pointer (some (elemAddr othersv (at_.toNat * 1))) }, { val := fun _ => .string s2 }, { val := fun _ => .bool p42 }, { val := fun _ => .bool p43 }, { val := fun _ => .bool p43 }, { val := fun _ => valuesv }, { val := fun _ => .int .i64 at_ }, { val := fun _ => .pointer (some (elemAddr valuesv (at_.toNat * 1))) }, { val := fun _ => .int .i64 n24 }, { val := fun _ => numbersv }, { val := fun _ => .int .i64 at_ }, { val := fun _ => .pointer (some (elemAddr numbersv (at_.toNat * 1))) }, { val := fun _ => .int .i64 n25 }, { val := fun _ => .bool p44 }, { val := fun _ => .bool p45 }, { val := fun _ => .bool p45 }, { val := fun _ => blindsv }, { val := fun _ => .int .i64 at_ }, { val := fun _ => .pointer (some (elemAddr blindsv (at_.toNat * 1))) }, { val := fun _ => .int .i64 n26 }, { val := fun _ => ownsv }, { val := fun _ => .int .i64 at_ }, { val := fun _ => .pointer (some (elemAddr ownsv (at_.toNat * 1))) }, { val := fun _ => .int .i64 n27 }, { val := fun _ => .bool p46 }, { val := fun _ => .bool p47 }] }
noncomputable def hides_ct_r7_17 (vv : Value) (at_ : Int) (b1 : Nat) (n7 : Int) (b2 : Nat) (v1 v2 : Value) (b3 : Nat) (v4 : Value) (K2 : Heaplet) (p47 : Bool) : RC := { ops := opsAt Try.f7 18, B := [0, 1], sl := [(7, .int .i64 at_), (17, .bool true), (18, .pointer (some ⟨b2, 0, none⟩)), (19, .int .i64 n7), (20, v1), (22, .pointer (some ⟨b3, 0, none⟩)), (231, .bool p47)], A := [K2], L := [some (b1, .cells #[vv] 24 (0, 0)), some (b2, .cells #[v2] 24 (0, 0)), some (b3, .cells #[v4] 24 (0, 0))], cs := [{ val := fun _ => .bool true }, { val := fun _ => .bool true }] }
noncomputable def hides_ct_r7_18 (w0 : World) (v : List DThing) (vv : Value) (at_ : Int) (H : Heaplet) (b1 : Nat) (n7 : Int) (b2 : Nat) (v1 v2 : Value) (b3 : Nat) (v4 : Value) (K2 : Heaplet) (n13 : Int) (p47 : Bool) (l5 : List Int) : RC := { ops := opsAt Try.f7 19, B := [0, 0, 0, 0, 12, 28, 63, 127], sl := [(7, .int .i64 at_), (17, .bool true), (18, .pointer (some ⟨b2, 0, none⟩)), (19, .int .i64 n7), (20, v1), (22, .pointer (some ⟨b3, 0, none⟩)), (231, .bool p47)], A := [K2], L := [some (b1, .cells #[vv] 24 (0, 0)), some (b2, .cells #[v2] 24 (0, 0)), some (b3, .cells #[v4] 24 (0, 0))], cs := [{ val := fun _ => .agg #[v2], rds := [1] }, { val := fun _ => .int .i64 n7 }, { val := fun _ => v1 }, { val := fun _ => .int .i64 at_ }, { val := fun _ => .pointer (some (elemAddr v1 (at_.toNat * 1))) }, { val := fun _ => .int .i64 n13 }, { val := fun G => (G 6).v, fact := fun G => (RSl (hun (G 6).H K2) l5 (G 6).v) ∧ New w0 (G 6).H }, { val := fun G => (G 6).v }] }
noncomputable def hides_ct_r7_19 (w0 : World) (v : List DThing) (vv : Value) (at_ : Int) (H : Heaplet) (b1 : Nat) (n7 : Int) (b2 : Nat) (v1 v2 : Value) (b3 : Nat) (v4 : Value) (n13 : Int) (v5 : Value) (K3 : Heaplet) (n28 : Int) (p48 : Bool) (l6 l7 : List DThing) (p49 p50 : Bool) (l8 : List Int) (p51 p52 : Bool) : RC := { ops := opsAt Try.f7 20, B := [0, 1, 3, 7, 15, 31, 63, 127, 127, 511, 127, 127, 4095, 8191, 16383, 32767, 65535, 65535, 65535, 65535, 65535, 1638399, 3735551, 8323071, 16777215, 33554431, 67108863], sl := [(7, .int .i64 at_), (17, .bool true), (18, .pointer (some ⟨b2, 0, none⟩)), (19, .int .i64 n7), (20, v1), (22, .pointer (some ⟨b3, 0, none⟩)), (29, v5)], A := [K3], L := [some (b1, .cells #[vv] 24 (0, 0)), some (b2, .cells #[v2] 24 (0, 0)), some (b3, .cells #[v4] 24 (0, 0))], cs := [{ val := fun _ => .bool true }, { val := fun _ => .bool true }, { val := fun _ => v5 }, { val := fun _ => .int .i64 n28 }, { val := fun _ => .bool p48 }, { val := fun _ => .bool p48 }, { val := fun _ => .bool p48 }, { val := fun _ => .agg #[v2], rds := [1] }, { val := fun _ => v5 }, { val := fun G => (G 9).v, fact := fun G => (RSl (hun (G 9).H K3) l6 (G 9).v) ∧ New w0 (G 9).H }, { val := fun _ => .agg #[v4], rds := [2] }, { val := fun _ => v5 }, { val := fun G => (G 12).v, fact := fun G => (RSl (hun (G 12).H K3) l7 (G 12).v) ∧ New w0 (G 12).H }, { val := fun _ => .bool p49 }, { val := fun _ => .bool p50 }, { val := fun _ => .bool p50 }, { val := fun _ => v5 }, { val := fun _ => .agg #[v4], rds := [2] }, { val := fun _ => .int .i64 n7 }, { val := fun _ => v1 }, { val := fun _ => .int .i64 at_ }, { val := fun _ => .pointer (some (elemAddr v1 (at_.toNat * 1))) }, { val := fun _ => .int .i64 n13 }, { val := fun G => (G 23).v, fact := fun G => (RSl (hun (G 23).H K3) l8 (G 23).v) ∧ New w0 (G 23).H }, { val := fun _ => .bool p51 }, { val := fun _ => .bool p52 }, { val := fun _ => .bool p52 }] }
set_option maxRecDepth 10000 in
set_option maxHeartbeats 1000000 in
theorem hides_ct (v : List DThing) (vv : Value) (texts : List ByteArray) (textsv : Value) (values : List Int) (valuesv : Value) (blinds : List Int) (blindsv : Value) (others : List ByteArray) (othersv : Value) (numbers : List Int) (numbersv : Value) (owns : List Int) (ownsv : Value) (at_ : Int) (w0 : World) (H : Heaplet) (hA : Agrees w0 H) (hv : RSl H v vv) (htexts : RSl H texts textsv) (hvalues : RSl H values valuesv) (hblinds : RSl H blinds blindsv) (hothers : RSl H others othersv) (hnumbers : RSl H numbers numbersv) (howns : RSl H owns ownsv) :
    Calls Try.prog 7 #[.agg #[vv], textsv, valuesv, blindsv, othersv, numbersv, ownsv, .int .i64 at_] w0 (fun e w' => e = .returned (.bool true) ∧ Base [] w0 w') := by
  have hE : Ext w0 H H := Ext.refl w0 H
  have hvn := hv.lim
  have htextsn := htexts.lim
  have hvaluesn := hvalues.lim
  have hblindsn := hblinds.lim
  have hothersn := hothers.lim
  have hnumbersn := hnumbers.lim
  have hownsn := howns.lim
  refine calls_of_W (sl := [(0, .agg #[vv]), (1, textsv), (2, valuesv), (3, blindsv), (4, othersv), (5, numbersv), (6, ownsv), (7, .int .i64 at_)]) (A := [H]) (L := [none, none, none]) Try.func7 (by kernel_rfl) 266 (by kernel_rfl) (by kernel_rfl) (fun J hJ => by simp at hJ; subst hJ; exact hA) (by simp) ?_
  refine W.seq (by kernel_rfl) ?_
  refine W.regV (hides_ct_r7_0 vv textsv valuesv blindsv othersv numbersv ownsv at_ H) [1] [0] (fun G => [.bool false]) (by kernel_rfl) mo_lf (by kernel_rfl) (fun _ _ => by kernel_rfl) ⟨?_, trivial⟩ (by kernel_rfl) ?_
  · exact One.new (r := 0) (T := 24) (fun b => .pointer (some ⟨b, 0, none⟩)) (arr := fun G => #[vv]) (fun G w => by kernel_rfl) (fun G b => by kernel_rfl)
  intro G1 xa xw hDn
  refine hDn.to [1, 2, 3, 4, 5, 6, 7, 8] [] (by kernel_rfl) ?_
  clear hDn
  refine Pre.conv (sl := [(1, textsv), (2, valuesv), (3, blindsv), (4, othersv), (5, numbersv), (6, ownsv), (7, .int .i64 at_), (8, .pointer (some ⟨(G1 0).b, 0, none⟩))]) (A := [H]) (L := [some ((G1 0).b, .cells #[vv] 24 (0, 0)), none, none]) ?_ (by kernel_rfl) (by kernel_rfl) (by kernel_rfl)
  generalize (G1 0).b = b1 at ⊢
  clear G1
  refine At.then ?_
  refine W.seq (by kernel_rfl) ?_
  refine W.regV (hides_ct_r7_1 vv textsv valuesv blindsv othersv numbersv ownsv at_ H b1) [1] [0] (fun G => [.bool true]) (by kernel_rfl) mo_lf (by kernel_rfl) (fun _ _ => by kernel_rfl) ⟨?_, trivial⟩ (by kernel_rfl) ?_
  · exact One.callP (v := fun G => .bool true) (f := 13) (args := fun G => #[]) (fun _ _ => by kernel_rfl) (fun G w hs => sane_ct  w H (hs.read 0 rfl)  )
  intro G2 xa xw hDn
  refine hDn.to [1, 2, 3, 4, 5, 6, 7, 8, 17] [] (by kernel_rfl) ?_
  clear hDn
  refine Pre.conv (sl := [(1, textsv), (2, valuesv), (3, blindsv), (4, othersv), (5, numbersv), (6, ownsv), (7, .int .i64 at_), (8, .pointer (some ⟨b1, 0, none⟩)), (17, .bool true)]) (A := [H]) (L := [some (b1, .cells #[vv] 24 (0, 0)), none, none]) ?_ (by kernel_rfl) (by kernel_rfl) (by kernel_rfl)
  clear G2
  refine At.then ?_
  refine W.seq (by kernel_rfl) ?_
  refine W.seq (by kernel_rfl) ?_
  obtain ⟨p1, hp1⟩ : ∃ zz : Bool, zz = (decide (Tm.fewP v 60)) := ⟨_, rfl⟩
  obtain ⟨p2, hp2⟩ : ∃ zz : Bool, zz = (decide (Tm.fewS texts 20)) := ⟨_, rfl⟩
  obtain ⟨p3, hp3⟩ : ∃ zz : Bool, zz = (!p1 || !p2) := ⟨_, rfl⟩
  obtain ⟨p4, hp4⟩ : ∃ zz : Bool, zz = (decide (Tm.fewS others 20)) := ⟨_, rfl⟩
  obtain ⟨p5, hp5⟩ : ∃ zz : Bool, zz = (p3 || !p4) := ⟨_, rfl⟩
  obtain ⟨n1, hn1⟩ : ∃ zz : Int, zz = (texts.length : Int) := ⟨_, rfl⟩
  obtain ⟨n2, hn2⟩ : ∃ zz : Int, zz = (others.length : Int) := ⟨_, rfl⟩
  obtain ⟨p6, hp6⟩ : ∃ zz : Bool, zz = !(decide (n1 = n2)) := ⟨_, rfl⟩
  obtain ⟨p7, hp7⟩ : ∃ zz : Bool, zz = (p5 || p6) := ⟨_, rfl⟩
  obtain ⟨p8, hp8⟩ : ∃ zz : Bool, zz = decide (at_ < 0) := ⟨_, rfl⟩
  obtain ⟨p9, hp9⟩ : ∃ zz : Bool, zz = (p7 || p8) := ⟨_, rfl⟩
  obtain ⟨p10, hp10⟩ : ∃ zz : Bool, zz = decide (n1 ≤ at_) := ⟨_, rfl⟩
  obtain ⟨p11, hp11⟩ : ∃ zz : Bool, zz = (p9 || p10) := ⟨_, rfl⟩
  obtain ⟨n3, hn3⟩ : ∃ zz : Int, zz = (values.length : Int) := ⟨_, rfl⟩
  obtain ⟨p12, hp12⟩ : ∃ zz : Bool, zz = decide (20 < n3) := ⟨_, rfl⟩
  obtain ⟨p13, hp13⟩ : ∃ zz : Bool, zz = (p11 || p12) := ⟨_, rfl⟩
  obtain ⟨n4, hn4⟩ : ∃ zz : Int, zz = (numbers.length : Int) := ⟨_, rfl⟩
  obtain ⟨p14, hp14⟩ : ∃ zz : Bool, zz = decide (20 < n4) := ⟨_, rfl⟩
  obtain ⟨p15, hp15⟩ : ∃ zz : Bool, zz = (p13 || p14) := ⟨_, rfl⟩
  obtain ⟨n5, hn5⟩ : ∃ zz : Int, zz = (blinds.length : Int) := ⟨_, rfl⟩
  obtain ⟨p16, hp16⟩ : ∃ zz : Bool, zz = decide (20 < n5) := ⟨_, rfl⟩
  obtain ⟨p17, hp17⟩ : ∃ zz : Bool, zz = (p15 || p16) := ⟨_, rfl⟩
  obtain ⟨n6, hn6⟩ : ∃ zz : Int, zz = (owns.length : Int) := ⟨_, rfl⟩
  obtain ⟨p18, hp18⟩ : ∃ zz : Bool, zz = decide (20 < n6) := ⟨_, rfl⟩
  obtain ⟨p19, hp19⟩ : ∃ zz : Bool, zz = (p17 || p18) := ⟨_, rfl⟩
  refine W.regV (hides_ct_r7_2 vv textsv valuesv blindsv othersv numbersv ownsv at_ H b1 p1 p2 p3 p4 p5 n1 n2 p6 p7 p8 p9 p10 p11 n3 p12 p13 n4 p14 p15 n5 p16 p17 n6 p18 p19) [2, 3, 4, 6, 8, 9, 11, 13, 14, 16, 20, 21, 24, 25, 26, 30, 31, 35, 36, 40, 41, 45, 46] [0, 1, 5, 7, 10, 12, 15, 17, 18, 19, 22, 23, 27, 28, 29, 32, 33, 34, 37, 38, 39, 42, 43, 44, 47, 48, 49] (fun G => [.bool (!p1), .bool (!p1), textsv, .bool (!p2), .bool p3, othersv, .bool (!p4), .bool p5, textsv, othersv, .bool p7, .int .i64 at_, .bool p9, .int .i64 at_, textsv, .bool p11, valuesv, .bool p13, numbersv, .bool p15, blindsv, .bool p17, ownsv]) (by kernel_rfl) mo_lf (by kernel_rfl) (fun _ _ => by kernel_rfl) ⟨?_, ?_, ?_, ?_, ?_, ?_, ?_, ?_, ?_, ?_, ?_, ?_, ?_, ?_, ?_, ?_, ?_, ?_, ?_, ?_, ?_, ?_, ?_, ?_, ?_, ?_, ?_, trivial⟩ (by kernel_rfl) ?_
  · exact One.loadE (t := 24) (r := 0) (off := 0) (b := fun G => b1) (vs := fun G => [vv]) (arr := fun G => #[vv]) (T := 24) (fr := (0, 0)) (fun G => ⟨by kernel_rfl⟩) (fun G => by kernel_rfl)
  · exact One.callP (v := fun G => .bool p1) (f := 14) (args := fun G => #[.agg #[vv], .int .i64 60]) (fun _ _ => by kernel_rfl) (fun G w hs => by
      rw [hp1]
      exact fewv_ct v vv 60 w H (hs.read 0 rfl) (hv) )
  · exact One.callP (v := fun G => .bool p2) (f := 15) (args := fun G => #[textsv, .int .i64 20]) (fun _ _ => by kernel_rfl) (fun G w hs => by
      have hg := gd_of hs (p := (true && ((!p1) == false))) (by kernel_rfl)
      have hg0 := (iNF (iN hp1 iDT)).1 (eqF (andR hg))
      rw [hp2]
      exact fews_ct texts textsv 20 w H (hs.read 0 rfl) (htexts) )
  · subst hp3
    cases p1 <;> exact One.under fun _ _ _ => by kernel_rfl
  · exact One.callP (v := fun G => .bool p4) (f := 15) (args := fun G => #[othersv, .int .i64 20]) (fun _ _ => by kernel_rfl) (fun G w hs => by
      have hg := gd_of hs (p := (true && (p3 == false))) (by kernel_rfl)
      have hg0 := (iN hp3 (iOF (iNF (iN hp1 iDT)) (iNF (iN hp2 iDT)))).1 (eqF (andR hg))
      rw [hp4]
      exact fews_ct others othersv 20 w H (hs.read 0 rfl) (hothers) )
  · subst hp5
    cases p3 <;> exact One.under fun _ _ _ => by kernel_rfl
  · exact One.len (t := 25) (n := n1) (v := fun G => textsv) (fun _ => ⟨by kernel_rfl⟩) (fun G w hs => by
      have hg := gd_of hs (p := (true && (p5 == false))) (by kernel_rfl)
      have hg0 := (iN hp5 (iOF (iN hp3 (iOF (iNF (iN hp1 iDT)) (iNF (iN hp2 iDT)))) (iNF (iN hp4 iDT)))).1 (eqF (andR hg))
      exact ⟨_, (htexts).isSl, hn1⟩)
  · exact One.len (t := 25) (n := n2) (v := fun G => othersv) (fun _ => ⟨by kernel_rfl⟩) (fun G w hs => by
      have hg := gd_of hs (p := (true && (p5 == false))) (by kernel_rfl)
      have hg0 := (iN hp5 (iOF (iN hp3 (iOF (iNF (iN hp1 iDT)) (iNF (iN hp2 iDT)))) (iNF (iN hp4 iDT)))).1 (eqF (andR hg))
      exact ⟨_, (hothers).isSl, hn2⟩)
  · exact One.bo hp6 (fun _ _ => by kernel_rfl)
  · subst hp7
    cases p5 <;> exact One.under fun _ _ _ => by kernel_rfl
  · exact One.bo hp8 (fun _ _ => by kernel_rfl)
  · subst hp9
    cases p7 <;> exact One.under fun _ _ _ => by kernel_rfl
  · exact One.len (t := 25) (n := n1) (v := fun G => textsv) (fun _ => ⟨by kernel_rfl⟩) (fun G w hs => by
      have hg := gd_of hs (p := (true && (p9 == false))) (by kernel_rfl)
      have hg0 := (iN hp9 (iOF (iN hp7 (iOF (iN hp5 (iOF (iN hp3 (iOF (iNF (iN hp1 iDT)) (iNF (iN hp2 iDT)))) (iNF (iN hp4 iDT)))) (iN hp6 (iNF iDT)))) (iN hp8 iDF))).1 (eqF (andR hg))
      exact ⟨_, (htexts).isSl, hn1⟩)
  · exact One.bo hp10 (fun _ _ => by kernel_rfl)
  · subst hp11
    cases p9 <;> exact One.under fun _ _ _ => by kernel_rfl
  · exact One.len (t := 26) (n := n3) (v := fun G => valuesv) (fun _ => ⟨by kernel_rfl⟩) (fun G w hs => by
      have hg := gd_of hs (p := (true && (p11 == false))) (by kernel_rfl)
      have hg0 := (iN hp11 (iOF (iN hp9 (iOF (iN hp7 (iOF (iN hp5 (iOF (iN hp3 (iOF (iNF (iN hp1 iDT)) (iNF (iN hp2 iDT)))) (iNF (iN hp4 iDT)))) (iN hp6 (iNF iDT)))) (iN hp8 iDF))) (iN hp10 iDF))).1 (eqF (andR hg))
      exact ⟨_, (hvalues).isSl, hn3⟩)
  · exact One.bo hp12 (fun _ _ => by kernel_rfl)
  · subst hp13
    cases p11 <;> exact One.under fun _ _ _ => by kernel_rfl
  · exact One.len (t := 26) (n := n4) (v := fun G => numbersv) (fun _ => ⟨by kernel_rfl⟩) (fun G w hs => by
      have hg := gd_of hs (p := (true && (p13 == false))) (by kernel_rfl)
      have hg0 := (iN hp13 (iOF (iN hp11 (iOF (iN hp9 (iOF (iN hp7 (iOF (iN hp5 (iOF (iN hp3 (iOF (iNF (iN hp1 iDT)) (iNF (iN hp2 iDT)))) (iNF (iN hp4 iDT)))) (iN hp6 (iNF iDT)))) (iN hp8 iDF))) (iN hp10 iDF))) (iN hp12 iDF))).1 (eqF (andR hg))
      exact ⟨_, (hnumbers).isSl, hn4⟩)
  · exact One.bo hp14 (fun _ _ => by kernel_rfl)
  · subst hp15
    cases p13 <;> exact One.under fun _ _ _ => by kernel_rfl
  · exact One.len (t := 26) (n := n5) (v := fun G => blindsv) (fun _ => ⟨by kernel_rfl⟩) (fun G w hs => by
      have hg := gd_of hs (p := (true && (p15 == false))) (by kernel_rfl)
      have hg0 := (iN hp15 (iOF (iN hp13 (iOF (iN hp11 (iOF (iN hp9 (iOF (iN hp7 (iOF (iN hp5 (iOF (iN hp3 (iOF (iNF (iN hp1 iDT)) (iNF (iN hp2 iDT)))) (iNF (iN hp4 iDT)))) (iN hp6 (iNF iDT)))) (iN hp8 iDF))) (iN hp10 iDF))) (iN hp12 iDF))) (iN hp14 iDF))).1 (eqF (andR hg))
      exact ⟨_, (hblinds).isSl, hn5⟩)
  · exact One.bo hp16 (fun _ _ => by kernel_rfl)
  · subst hp17
    cases p15 <;> exact One.under fun _ _ _ => by kernel_rfl
  · exact One.len (t := 26) (n := n6) (v := fun G => ownsv) (fun _ => ⟨by kernel_rfl⟩) (fun G w hs => by
      have hg := gd_of hs (p := (true && (p17 == false))) (by kernel_rfl)
      have hg0 := (iN hp17 (iOF (iN hp15 (iOF (iN hp13 (iOF (iN hp11 (iOF (iN hp9 (iOF (iN hp7 (iOF (iN hp5 (iOF (iN hp3 (iOF (iNF (iN hp1 iDT)) (iNF (iN hp2 iDT)))) (iNF (iN hp4 iDT)))) (iN hp6 (iNF iDT)))) (iN hp8 iDF))) (iN hp10 iDF))) (iN hp12 iDF))) (iN hp14 iDF))) (iN hp16 iDF))).1 (eqF (andR hg))
      exact ⟨_, (howns).isSl, hn6⟩)
  · exact One.bo hp18 (fun _ _ => by kernel_rfl)
  · subst hp19
    cases p17 <;> exact One.under fun _ _ _ => by kernel_rfl
  intro G3 xa xw hDn
  refine hDn.to [1, 2, 3, 4, 5, 6, 7, 8, 17, 80] [] (by kernel_rfl) ?_
  clear hDn
  refine Pre.conv (sl := [(1, textsv), (2, valuesv), (3, blindsv), (4, othersv), (5, numbersv), (6, ownsv), (7, .int .i64 at_), (8, .pointer (some ⟨b1, 0, none⟩)), (17, .bool true), (80, .bool p19)]) (A := [H]) (L := [some (b1, .cells #[vv] 24 (0, 0)), none, none]) ?_ (by kernel_rfl) (by kernel_rfl) (by kernel_rfl)
  clear G3
  refine At.then ?_
  refine W.cond p19 (by kernel_rfl) (fun xa hs => cnd_of (t := 80) (by kernel_rfl) (by kernel_rfl) hs) (fun hq => ?_) (fun hq => ?_)
  · skip
    have hq1 := hq
    replace hq1 := (iN hp19 (iOT (iN hp17 (iOT (iN hp15 (iOT (iN hp13 (iOT (iN hp11 (iOT (iN hp9 (iOT (iN hp7 (iOT (iN hp5 (iOT (iN hp3 (iOT (iNT (iN hp1 iDF)) (iNT (iN hp2 iDF)))) (iNT (iN hp4 iDF)))) (iN hp6 (iNT iDF)))) (iN hp8 iDT))) (iN hp10 iDT))) (iN hp12 iDT))) (iN hp14 iDT))) (iN hp16 iDT))) (iN hp18 iDT))).1 hq1
    refine W.seq (by kernel_rfl) ?_
    refine W.regV (hides_ct_r7_3 vv textsv valuesv blindsv othersv numbersv ownsv at_ H b1 p19) [0, 1] [] (fun G => [.bool true, .bool true]) (by kernel_rfl) mo_lf (by kernel_rfl) (fun _ _ => by kernel_rfl) trivial (by kernel_rfl) ?_
    intro G4 xa xw hDn
    refine hDn.to [16] [] (by kernel_rfl) ?_
    clear hDn
    refine Pre.conv (sl := [(16, .bool true)]) (A := [H]) (L := [some (b1, .cells #[vv] 24 (0, 0)), none, none]) ?_ (by kernel_rfl) (by kernel_rfl) (by kernel_rfl)
    clear G4
    refine At.then ?_
    refine W.ret (by kernel_rfl) ?_
    refine At.thenRet ?_
    refine At.results (Or.inl rfl) (.bool true) (fun xa xw hs hw => results_one (r := .tmp 16) (by kernel_rfl) (res_tmp (t := 16) (by kernel_rfl) hs)) (fun w' hw => ?_)
    exact ⟨congrArg Ending.returned (rfl), hw.base⟩
  · skip
    have hq2 := hq
    replace hq2 := (iN hp19 (iOF (iN hp17 (iOF (iN hp15 (iOF (iN hp13 (iOF (iN hp11 (iOF (iN hp9 (iOF (iN hp7 (iOF (iN hp5 (iOF (iN hp3 (iOF (iNF (iN hp1 iDT)) (iNF (iN hp2 iDT)))) (iNF (iN hp4 iDT)))) (iN hp6 (iNF iDT)))) (iN hp8 iDF))) (iN hp10 iDF))) (iN hp12 iDF))) (iN hp14 iDF))) (iN hp16 iDF))) (iN hp18 iDF))).1 hq2
    refine W.skip (by kernel_rfl) ?_
    refine At.then ?_
    refine W.seq (by kernel_rfl) ?_
    obtain ⟨l1, hl1⟩ : ∃ zz : List DThing, zz = (Tm.buildT v texts values blinds) := ⟨_, rfl⟩
    obtain ⟨n7, hn7⟩ : ∃ zz : Int, zz = (Tm.buildR v texts values blinds) := ⟨_, rfl⟩
    obtain ⟨l2, hl2⟩ : ∃ zz : List Int, zz = (Tm.buildL v texts values blinds) := ⟨_, rfl⟩
    obtain ⟨n8, hn8⟩ : ∃ zz : Int, zz = (Tm.buildE v texts values blinds) := ⟨_, rfl⟩
    refine W.regV (hides_ct_r7_4 w0 v vv textsv valuesv blindsv othersv numbersv ownsv at_ H b1 p19 l1 n7 l2 n8) [1, 2, 3, 5, 6, 7, 8, 9, 12, 13, 14] [0, 4, 10, 11] (fun G => [textsv, valuesv, blindsv, .tuple #[.agg #[(G 4).v], .int .i64 n7, (G 4).v2, .int .i64 n8], .agg #[(G 4).v], .int .i64 n7, (G 4).v2, .int .i64 n8, .int .i64 n7, (G 4).v2, .int .i64 n8]) (by kernel_rfl) mo_lf (by kernel_rfl) (fun _ _ => by kernel_rfl) ⟨?_, ?_, ?_, ?_, trivial⟩ (by kernel_rfl) ?_
    · exact One.loadE (t := 24) (r := 0) (off := 0) (b := fun G => b1) (vs := fun G => [vv]) (arr := fun G => #[vv]) (T := 24) (fr := (0, 0)) (fun G => ⟨by kernel_rfl⟩) (fun G => by kernel_rfl)
    · exact One.callM (f := 16) (args := fun G => #[.agg #[vv], textsv, valuesv, blindsv]) (H := fun G => H) (V := fun G g => .tuple #[.agg #[g.v], .int .i64 n7, g.v2, .int .i64 n8]) (F := fun G J g => RSl J l1 g.v ∧ RSl J l2 g.v2) (fun G g w => ⟨by kernel_rfl, by kernel_rfl⟩) (fun G w hs => by
        rw [hl1, hn7, hl2, hn8]
        exact build_ct v vv texts textsv values valuesv blinds blindsv w H (hs.read 0 rfl) (hv) (htexts) (hvalues) (hblinds) )
    · exact One.new (r := 1) (T := 24) (fun b => .pointer (some ⟨b, 0, none⟩)) (arr := fun G => #[.slice none 0 0]) (fun G w => by kernel_rfl) (fun G b => by kernel_rfl)
    · exact One.storeX (t := 24) (r := 1) (off := 0) (T := 24) (b := fun G => (G 10).b) (u := fun G => .agg #[(G 4).v]) (vs := fun G => [(G 4).v]) (arr := fun G => #[.slice none 0 0]) (fun G => ⟨by kernel_rfl⟩) (fun G w hs => by
        have ho4 : (RSl (hun (G 4).H H) l1 (G 4).v ∧ RSl (hun (G 4).H H) l2 (G 4).v2) ∧ New w0 (G 4).H := hs.get 4 (by kernel_rfl) (p := true) (by kernel_rfl) rfl (by kernel_rfl)
        exact ⟨rfl, (all_cons1 (ho4.1.1).cell1 rfl)⟩)
    intro G5 xa xw hDn
    have hf4_1 : (RSl (hun (G5 4).H H) l1 (G5 4).v ∧ RSl (hun (G5 4).H H) l2 (G5 4).v2) ∧ New w0 (G5 4).H := hDn.get 4 (by kernel_rfl) (by kernel_rfl) (by kernel_rfl)
    refine hDn.to [1, 2, 3, 4, 5, 6, 7, 8, 17, 18, 19, 20, 21] [4] (by kernel_rfl) ?_
    clear hDn
    refine Pre.conv (sl := [(1, textsv), (2, valuesv), (3, blindsv), (4, othersv), (5, numbersv), (6, ownsv), (7, .int .i64 at_), (8, .pointer (some ⟨b1, 0, none⟩)), (17, .bool true), (18, .pointer (some ⟨(G5 10).b, 0, none⟩)), (19, .int .i64 n7), (20, (G5 4).v2), (21, .int .i64 n8)]) (A := [(G5 4).H, H]) (L := [some (b1, .cells #[vv] 24 (0, 0)), some ((G5 10).b, .cells #[(G5 4).v] 24 (0, 0)), none]) ?_ (by kernel_rfl) (by kernel_rfl) (by kernel_rfl)
    generalize (G5 10).b = b2 at hf4_1 ⊢
    generalize (G5 4).v2 = v1 at hf4_1 ⊢
    generalize (G5 4).v = v2 at hf4_1 ⊢
    generalize (G5 4).H = N1 at hf4_1 ⊢
    clear G5
    refine Pre.merge (Ns := [N1]) hE (by simp only [List.mem_cons, List.not_mem_nil, or_false, forall_eq_or_imp, forall_eq]; exact hf4_1.2) (fun K1 hk1 hk2 hE1 => ?_)
    have hr1 := (htexts).mono hk1
    have hr1n := hr1.lim
    have hr2 := (hvalues).mono hk1
    have hr2n := hr2.lim
    have hr3 := (hblinds).mono hk1
    have hr3n := hr3.lim
    have hr4 := (hothers).mono hk1
    have hr4n := hr4.lim
    have hr5 := (hnumbers).mono hk1
    have hr5n := hr5.lim
    have hr6 := (howns).mono hk1
    have hr6n := hr6.lim
    have hr7 := (hf4_1.1.2).mono (hun_sub (hk2 _ (by simp)) hk1)
    have hr7n := hr7.lim
    have hr8 := (hv).mono hk1
    have hr8n := hr8.lim
    have hr9 := (hf4_1.1.1).mono (hun_sub (hk2 _ (by simp)) hk1)
    have hr9n := hr9.lim
    refine At.then ?_
    refine W.seq (by kernel_rfl) ?_
    obtain ⟨l3, hl3⟩ : ∃ zz : List DThing, zz = (Tm.buildT v others numbers owns) := ⟨_, rfl⟩
    obtain ⟨n9, hn9⟩ : ∃ zz : Int, zz = (Tm.buildR v others numbers owns) := ⟨_, rfl⟩
    obtain ⟨l4, hl4⟩ : ∃ zz : List Int, zz = (Tm.buildL v others numbers owns) := ⟨_, rfl⟩
    obtain ⟨n10, hn10⟩ : ∃ zz : Int, zz = (Tm.buildE v others numbers owns) := ⟨_, rfl⟩
    refine W.regV (hides_ct_r7_5 w0 v vv textsv valuesv blindsv othersv numbersv ownsv at_ H b1 n7 n8 b2 v1 v2 K1 l3 n9 l4 n10) [1, 2, 3, 5, 6, 7, 8, 9, 12, 13, 14] [0, 4, 10, 11] (fun G => [othersv, numbersv, ownsv, .tuple #[.agg #[(G 4).v], .int .i64 n9, (G 4).v2, .int .i64 n10], .agg #[(G 4).v], .int .i64 n9, (G 4).v2, .int .i64 n10, .int .i64 n9, (G 4).v2, .int .i64 n10]) (by kernel_rfl) mo_lf (by kernel_rfl) (fun _ _ => by kernel_rfl) ⟨?_, ?_, ?_, ?_, trivial⟩ (by kernel_rfl) ?_
    · exact One.loadE (t := 24) (r := 0) (off := 0) (b := fun G => b1) (vs := fun G => [vv]) (arr := fun G => #[vv]) (T := 24) (fr := (0, 0)) (fun G => ⟨by kernel_rfl⟩) (fun G => by kernel_rfl)
    · exact One.callM (f := 16) (args := fun G => #[.agg #[vv], othersv, numbersv, ownsv]) (H := fun G => K1) (V := fun G g => .tuple #[.agg #[g.v], .int .i64 n9, g.v2, .int .i64 n10]) (F := fun G J g => RSl J l3 g.v ∧ RSl J l4 g.v2) (fun G g w => ⟨by kernel_rfl, by kernel_rfl⟩) (fun G w hs => by
        rw [hl3, hn9, hl4, hn10]
        exact build_ct v vv others othersv numbers numbersv owns ownsv w K1 (hs.read 0 rfl) (hr8) (hr4) (hr5) (hr6) )
    · exact One.new (r := 2) (T := 24) (fun b => .pointer (some ⟨b, 0, none⟩)) (arr := fun G => #[.slice none 0 0]) (fun G w => by kernel_rfl) (fun G b => by kernel_rfl)
    · exact One.storeX (t := 24) (r := 2) (off := 0) (T := 24) (b := fun G => (G 10).b) (u := fun G => .agg #[(G 4).v]) (vs := fun G => [(G 4).v]) (arr := fun G => #[.slice none 0 0]) (fun G => ⟨by kernel_rfl⟩) (fun G w hs => by
        have ho4 : (RSl (hun (G 4).H K1) l3 (G 4).v ∧ RSl (hun (G 4).H K1) l4 (G 4).v2) ∧ New w0 (G 4).H := hs.get 4 (by kernel_rfl) (p := true) (by kernel_rfl) rfl (by kernel_rfl)
        exact ⟨rfl, (all_cons1 (ho4.1.1).cell1 rfl)⟩)
    intro G6 xa xw hDn
    have hf4_2 : (RSl (hun (G6 4).H K1) l3 (G6 4).v ∧ RSl (hun (G6 4).H K1) l4 (G6 4).v2) ∧ New w0 (G6 4).H := hDn.get 4 (by kernel_rfl) (by kernel_rfl) (by kernel_rfl)
    refine hDn.to [1, 2, 3, 4, 5, 6, 7, 17, 18, 19, 20, 21, 22, 23, 24, 25] [4] (by kernel_rfl) ?_
    clear hDn
    refine Pre.conv (sl := [(1, textsv), (2, valuesv), (3, blindsv), (4, othersv), (5, numbersv), (6, ownsv), (7, .int .i64 at_), (17, .bool true), (18, .pointer (some ⟨b2, 0, none⟩)), (19, .int .i64 n7), (20, v1), (21, .int .i64 n8), (22, .pointer (some ⟨(G6 10).b, 0, none⟩)), (23, .int .i64 n9), (24, (G6 4).v2), (25, .int .i64 n10)]) (A := [(G6 4).H, K1]) (L := [some (b1, .cells #[vv] 24 (0, 0)), some (b2, .cells #[v2] 24 (0, 0)), some ((G6 10).b, .cells #[(G6 4).v] 24 (0, 0))]) ?_ (by kernel_rfl) (by kernel_rfl) (by kernel_rfl)
    generalize (G6 10).b = b3 at hf4_2 ⊢
    generalize (G6 4).v2 = v3 at hf4_2 ⊢
    generalize (G6 4).v = v4 at hf4_2 ⊢
    generalize (G6 4).H = N2 at hf4_2 ⊢
    clear G6
    refine Pre.merge (Ns := [N2]) hE1 (by simp only [List.mem_cons, List.not_mem_nil, or_false, forall_eq_or_imp, forall_eq]; exact hf4_2.2) (fun K2 hk3 hk4 hE2 => ?_)
    have hr10 := (hr1).mono hk3
    have hr10n := hr10.lim
    have hr11 := (hr2).mono hk3
    have hr11n := hr11.lim
    have hr12 := (hr3).mono hk3
    have hr12n := hr12.lim
    have hr13 := (hr4).mono hk3
    have hr13n := hr13.lim
    have hr14 := (hr5).mono hk3
    have hr14n := hr14.lim
    have hr15 := (hr6).mono hk3
    have hr15n := hr15.lim
    have hr16 := (hr7).mono hk3
    have hr16n := hr16.lim
    have hr17 := (hf4_2.1.2).mono (hun_sub (hk4 _ (by simp)) hk3)
    have hr17n := hr17.lim
    have hr18 := (hr8).mono hk3
    have hr18n := hr18.lim
    have hr19 := (hr9).mono hk3
    have hr19n := hr19.lim
    have hr20 := (hf4_2.1.1).mono (hun_sub (hk4 _ (by simp)) hk3)
    have hr20n := hr20.lim
    refine At.then ?_
    refine W.seq (by kernel_rfl) ?_
    refine W.seq (by kernel_rfl) ?_
    obtain ⟨p20, hp20⟩ : ∃ zz : Bool, zz = !(decide (n8 = 0)) := ⟨_, rfl⟩
    obtain ⟨p21, hp21⟩ : ∃ zz : Bool, zz = !(decide (n10 = 0)) := ⟨_, rfl⟩
    obtain ⟨p22, hp22⟩ : ∃ zz : Bool, zz = (p20 || p21) := ⟨_, rfl⟩
    refine W.regV (hides_ct_r7_6 vv textsv valuesv blindsv othersv numbersv ownsv at_ b1 n7 n8 b2 v1 v2 n9 n10 b3 v3 v4 K2 p20 p21 p22) [0, 2, 3] [1, 4, 5] (fun G => [.int .i64 n8, .bool p20, .int .i64 n10]) (by kernel_rfl) mo_lf (by kernel_rfl) (fun _ _ => by kernel_rfl) ⟨?_, ?_, ?_, trivial⟩ (by kernel_rfl) ?_
    · exact One.bo hp20 (fun _ _ => by kernel_rfl)
    · exact One.bo hp21 (fun _ _ => by kernel_rfl)
    · subst hp22
      cases p20 <;> exact One.under fun _ _ _ => by kernel_rfl
    intro G7 xa xw hDn
    refine hDn.to [1, 2, 3, 4, 5, 6, 7, 17, 18, 19, 20, 22, 23, 24, 107] [] (by kernel_rfl) ?_
    clear hDn
    refine Pre.conv (sl := [(1, textsv), (2, valuesv), (3, blindsv), (4, othersv), (5, numbersv), (6, ownsv), (7, .int .i64 at_), (17, .bool true), (18, .pointer (some ⟨b2, 0, none⟩)), (19, .int .i64 n7), (20, v1), (22, .pointer (some ⟨b3, 0, none⟩)), (23, .int .i64 n9), (24, v3), (107, .bool p22)]) (A := [K2]) (L := [some (b1, .cells #[vv] 24 (0, 0)), some (b2, .cells #[v2] 24 (0, 0)), some (b3, .cells #[v4] 24 (0, 0))]) ?_ (by kernel_rfl) (by kernel_rfl) (by kernel_rfl)
    clear G7
    refine At.then ?_
    refine W.cond p22 (by kernel_rfl) (fun xa hs => cnd_of (t := 107) (by kernel_rfl) (by kernel_rfl) hs) (fun hq => ?_) (fun hq => ?_)
    · skip
      have hq3 := hq
      replace hq3 := (iN hp22 (iOT (iN hp20 (iNT iDF)) (iN hp21 (iNT iDF)))).1 hq3
      refine W.seq (by kernel_rfl) ?_
      refine W.regV (hides_ct_r7_7 vv textsv valuesv blindsv othersv numbersv ownsv at_ b1 n7 b2 v1 v2 n9 b3 v3 v4 K2 p22) [0, 1] [] (fun G => [.bool true, .bool true]) (by kernel_rfl) mo_lf (by kernel_rfl) (fun _ _ => by kernel_rfl) trivial (by kernel_rfl) ?_
      intro G8 xa xw hDn
      refine hDn.to [16] [] (by kernel_rfl) ?_
      clear hDn
      refine Pre.conv (sl := [(16, .bool true)]) (A := [K2]) (L := [some (b1, .cells #[vv] 24 (0, 0)), some (b2, .cells #[v2] 24 (0, 0)), some (b3, .cells #[v4] 24 (0, 0))]) ?_ (by kernel_rfl) (by kernel_rfl) (by kernel_rfl)
      clear G8
      refine At.then ?_
      refine W.ret (by kernel_rfl) ?_
      refine At.thenRet ?_
      refine At.results (Or.inl rfl) (.bool true) (fun xa xw hs hw => results_one (r := .tmp 16) (by kernel_rfl) (res_tmp (t := 16) (by kernel_rfl) hs)) (fun w' hw => ?_)
      exact ⟨congrArg Ending.returned (rfl), hw.base⟩
    · skip
      have hq4 := hq
      replace hq4 := (iN hp22 (iOF (iN hp20 (iNF iDT)) (iN hp21 (iNF iDT)))).1 hq4
      refine W.skip (by kernel_rfl) ?_
      refine At.then ?_
      refine W.seq (by kernel_rfl) ?_
      refine W.seq (by kernel_rfl) ?_
      have he := hn8.symm.trans hq4.1
      have he2 := hn10.symm.trans hq4.2
      have hto : texts.length = others.length := by omega
      have hBI := Tm.built_is he
      have hBJ := Tm.built_is he2
      have hal := Tm.built_alike hto he he2
      rw [← hl1, ← hn7, ← hl2] at hBI
      rw [← hl3, ← hn9, ← hl4] at hBJ
      rw [← hl1, ← hl3, ← hn7, ← hn9, ← hl2, ← hl4] at hal
      obtain ⟨hOK, h64, _, _, _, _, _, _, hLl, _⟩ := hBI
      obtain ⟨hOK2, h642, _, _, _, _, _, _, hLl2, _⟩ := hBJ
      have hLV := Tm.leaf_vals hOK
      have hLV2 := Tm.leaf_vals hOK2
      have hvl := hOK.2.2.1
      have hbl := hOK.2.2.2.1
      have hvl2 := hOK2.2.2.1
      have hbl2 := hOK2.2.2.2.1
      have hne := hOK.2.1
      have hrr := hal.2.1
      have hLL := hal.2.2
      have hll : l2.length = texts.length := by rw [hLl]; simp [Tm.idsN]
      have hll2 : l4.length = texts.length := by rw [← hLL]; exact hll
      obtain ⟨p23, hp23⟩ : ∃ zz : Bool, zz = !(decide (n3 = n1)) := ⟨_, rfl⟩
      obtain ⟨p24, hp24⟩ : ∃ zz : Bool, zz = !(decide (n4 = n1)) := ⟨_, rfl⟩
      obtain ⟨p25, hp25⟩ : ∃ zz : Bool, zz = (p23 || p24) := ⟨_, rfl⟩
      obtain ⟨p26, hp26⟩ : ∃ zz : Bool, zz = !(decide (n5 = n1)) := ⟨_, rfl⟩
      obtain ⟨p27, hp27⟩ : ∃ zz : Bool, zz = (p25 || p26) := ⟨_, rfl⟩
      obtain ⟨p28, hp28⟩ : ∃ zz : Bool, zz = !(decide (n6 = n1)) := ⟨_, rfl⟩
      obtain ⟨p29, hp29⟩ : ∃ zz : Bool, zz = (p27 || p28) := ⟨_, rfl⟩
      obtain ⟨n11, hn11⟩ : ∃ zz : Int, zz = (l2.length : Int) := ⟨_, rfl⟩
      obtain ⟨p30, hp30⟩ : ∃ zz : Bool, zz = !(decide (n11 = n1)) := ⟨_, rfl⟩
      obtain ⟨p31, hp31⟩ : ∃ zz : Bool, zz = (p29 || p30) := ⟨_, rfl⟩
      obtain ⟨n12, hn12⟩ : ∃ zz : Int, zz = (l4.length : Int) := ⟨_, rfl⟩
      obtain ⟨p32, hp32⟩ : ∃ zz : Bool, zz = !(decide (n12 = n1)) := ⟨_, rfl⟩
      obtain ⟨p33, hp33⟩ : ∃ zz : Bool, zz = (p31 || p32) := ⟨_, rfl⟩
      obtain ⟨p34, hp34⟩ : ∃ zz : Bool, zz = !(decide (n7 = n9)) := ⟨_, rfl⟩
      obtain ⟨p35, hp35⟩ : ∃ zz : Bool, zz = (p33 || p34) := ⟨_, rfl⟩
      obtain ⟨n13, hn13⟩ : ∃ zz : Int, zz = l2.getD at_.toNat default := ⟨_, rfl⟩
      obtain ⟨n14, hn14⟩ : ∃ zz : Int, zz = l4.getD at_.toNat default := ⟨_, rfl⟩
      obtain ⟨p36, hp36⟩ : ∃ zz : Bool, zz = !(decide (n13 = n14)) := ⟨_, rfl⟩
      obtain ⟨p37, hp37⟩ : ∃ zz : Bool, zz = (p35 || p36) := ⟨_, rfl⟩
      have hab : n13 = n14 := by rw [hn13, hn14, hLL]
      refine W.regV (hides_ct_r7_8 vv textsv valuesv blindsv othersv numbersv ownsv at_ b1 n1 n3 n4 n5 n6 n7 b2 v1 v2 n9 b3 v3 v4 K2 p22 p23 p24 p25 p26 p27 p28 p29 n11 p30 p31 n12 p32 p33 p34 p35 n13 n14 p36 p37) [0, 2, 5, 6, 8, 12, 13, 15, 19, 20, 22, 26, 27, 29, 33, 34, 36, 40, 41, 42, 45, 46, 47, 50, 51] [1, 3, 4, 7, 9, 10, 11, 14, 16, 17, 18, 21, 23, 24, 25, 28, 30, 31, 32, 35, 37, 38, 39, 43, 44, 48, 49, 52, 53, 54, 55] (fun G => [valuesv, textsv, .bool p23, numbersv, textsv, .bool p25, blindsv, textsv, .bool p27, ownsv, textsv, .bool p29, v1, textsv, .bool p31, v3, textsv, .bool p33, .int .i64 n7, .int .i64 n9, .bool p35, v1, .int .i64 at_, v3, .int .i64 at_]) (by kernel_rfl) mo_lf (by kernel_rfl) (fun _ _ => by kernel_rfl) ⟨?_, ?_, ?_, ?_, ?_, ?_, ?_, ?_, ?_, ?_, ?_, ?_, ?_, ?_, ?_, ?_, ?_, ?_, ?_, ?_, ?_, ?_, ?_, ?_, ?_, ?_, ?_, ?_, ?_, ?_, ?_, trivial⟩ (by kernel_rfl) ?_
      · exact One.len (t := 26) (n := n3) (v := fun G => valuesv) (fun _ => ⟨by kernel_rfl⟩) (fun G w hs => ⟨_, (hr11).isSl, hn3⟩)
      · exact One.len (t := 25) (n := n1) (v := fun G => textsv) (fun _ => ⟨by kernel_rfl⟩) (fun G w hs => ⟨_, (hr10).isSl, hn1⟩)
      · exact One.bo hp23 (fun _ _ => by kernel_rfl)
      · exact One.len (t := 26) (n := n4) (v := fun G => numbersv) (fun _ => ⟨by kernel_rfl⟩) (fun G w hs => by
          have hg := gd_of hs (p := (true && (p23 == false))) (by kernel_rfl)
          have hg0 := (iN hp23 (iNF iDT)).1 (eqF (andR hg))
          exact ⟨_, (hr14).isSl, hn4⟩)
      · exact One.len (t := 25) (n := n1) (v := fun G => textsv) (fun _ => ⟨by kernel_rfl⟩) (fun G w hs => by
          have hg := gd_of hs (p := (true && (p23 == false))) (by kernel_rfl)
          have hg0 := (iN hp23 (iNF iDT)).1 (eqF (andR hg))
          exact ⟨_, (hr10).isSl, hn1⟩)
      · exact One.bo hp24 (fun _ _ => by kernel_rfl)
      · subst hp25
        cases p23 <;> exact One.under fun _ _ _ => by kernel_rfl
      · exact One.len (t := 26) (n := n5) (v := fun G => blindsv) (fun _ => ⟨by kernel_rfl⟩) (fun G w hs => by
          have hg := gd_of hs (p := (true && (p25 == false))) (by kernel_rfl)
          have hg0 := (iN hp25 (iOF (iN hp23 (iNF iDT)) (iN hp24 (iNF iDT)))).1 (eqF (andR hg))
          exact ⟨_, (hr12).isSl, hn5⟩)
      · exact One.len (t := 25) (n := n1) (v := fun G => textsv) (fun _ => ⟨by kernel_rfl⟩) (fun G w hs => by
          have hg := gd_of hs (p := (true && (p25 == false))) (by kernel_rfl)
          have hg0 := (iN hp25 (iOF (iN hp23 (iNF iDT)) (iN hp24 (iNF iDT)))).1 (eqF (andR hg))
          exact ⟨_, (hr10).isSl, hn1⟩)
      · exact One.bo hp26 (fun _ _ => by kernel_rfl)
      · subst hp27
        cases p25 <;> exact One.under fun _ _ _ => by kernel_rfl
      · exact One.len (t := 26) (n := n6) (v := fun G => ownsv) (fun _ => ⟨by kernel_rfl⟩) (fun G w hs => by
          have hg := gd_of hs (p := (true && (p27 == false))) (by kernel_rfl)
          have hg0 := (iN hp27 (iOF (iN hp25 (iOF (iN hp23 (iNF iDT)) (iN hp24 (iNF iDT)))) (iN hp26 (iNF iDT)))).1 (eqF (andR hg))
          exact ⟨_, (hr15).isSl, hn6⟩)
      · exact One.len (t := 25) (n := n1) (v := fun G => textsv) (fun _ => ⟨by kernel_rfl⟩) (fun G w hs => by
          have hg := gd_of hs (p := (true && (p27 == false))) (by kernel_rfl)
          have hg0 := (iN hp27 (iOF (iN hp25 (iOF (iN hp23 (iNF iDT)) (iN hp24 (iNF iDT)))) (iN hp26 (iNF iDT)))).1 (eqF (andR hg))
          exact ⟨_, (hr10).isSl, hn1⟩)
      · exact One.bo hp28 (fun _ _ => by kernel_rfl)
      · subst hp29
        cases p27 <;> exact One.under fun _ _ _ => by kernel_rfl
      · exact One.len (t := 26) (n := n11) (v := fun G => v1) (fun _ => ⟨by kernel_rfl⟩) (fun G w hs => by
          have hg := gd_of hs (p := (true && (p29 == false))) (by kernel_rfl)
          have hg0 := (iN hp29 (iOF (iN hp27 (iOF (iN hp25 (iOF (iN hp23 (iNF iDT)) (iN hp24 (iNF iDT)))) (iN hp26 (iNF iDT)))) (iN hp28 (iNF iDT)))).1 (eqF (andR hg))
          exact ⟨_, (hr16).isSl, hn11⟩)
      · exact One.len (t := 25) (n := n1) (v := fun G => textsv) (fun _ => ⟨by kernel_rfl⟩) (fun G w hs => by
          have hg := gd_of hs (p := (true && (p29 == false))) (by kernel_rfl)
          have hg0 := (iN hp29 (iOF (iN hp27 (iOF (iN hp25 (iOF (iN hp23 (iNF iDT)) (iN hp24 (iNF iDT)))) (iN hp26 (iNF iDT)))) (iN hp28 (iNF iDT)))).1 (eqF (andR hg))
          exact ⟨_, (hr10).isSl, hn1⟩)
      · exact One.bo hp30 (fun _ _ => by kernel_rfl)
      · subst hp31
        cases p29 <;> exact One.under fun _ _ _ => by kernel_rfl
      · exact One.len (t := 26) (n := n12) (v := fun G => v3) (fun _ => ⟨by kernel_rfl⟩) (fun G w hs => by
          have hg := gd_of hs (p := (true && (p31 == false))) (by kernel_rfl)
          have hg0 := (iN hp31 (iOF (iN hp29 (iOF (iN hp27 (iOF (iN hp25 (iOF (iN hp23 (iNF iDT)) (iN hp24 (iNF iDT)))) (iN hp26 (iNF iDT)))) (iN hp28 (iNF iDT)))) (iN hp30 (iNF iDT)))).1 (eqF (andR hg))
          exact ⟨_, (hr17).isSl, hn12⟩)
      · exact One.len (t := 25) (n := n1) (v := fun G => textsv) (fun _ => ⟨by kernel_rfl⟩) (fun G w hs => by
          have hg := gd_of hs (p := (true && (p31 == false))) (by kernel_rfl)
          have hg0 := (iN hp31 (iOF (iN hp29 (iOF (iN hp27 (iOF (iN hp25 (iOF (iN hp23 (iNF iDT)) (iN hp24 (iNF iDT)))) (iN hp26 (iNF iDT)))) (iN hp28 (iNF iDT)))) (iN hp30 (iNF iDT)))).1 (eqF (andR hg))
          exact ⟨_, (hr10).isSl, hn1⟩)
      · exact One.bo hp32 (fun _ _ => by kernel_rfl)
      · subst hp33
        cases p31 <;> exact One.under fun _ _ _ => by kernel_rfl
      · exact One.bo hp34 (fun _ _ => by kernel_rfl)
      · subst hp35
        cases p33 <;> exact One.under fun _ _ _ => by kernel_rfl
      · exact One.index (t := 26) (e := 3) (size := 1) (v := fun G => v1) (k := .i64) (n := at_) (fun _ => ⟨by kernel_rfl⟩) (fun G w hs => by
          have hg := gd_of hs (p := (true && (p35 == false))) (by kernel_rfl)
          have hg0 := (iN hp35 (iOF (iN hp33 (iOF (iN hp31 (iOF (iN hp29 (iOF (iN hp27 (iOF (iN hp25 (iOF (iN hp23 (iNF iDT)) (iN hp24 (iNF iDT)))) (iN hp26 (iNF iDT)))) (iN hp28 (iNF iDT)))) (iN hp30 (iNF iDT)))) (iN hp32 (iNF iDT)))) (iN hp34 (iNF iDT)))).1 (eqF (andR hg))
          exact ⟨_, (hr16).isSl, by first | omega | (simp only [List.length_append, List.length_cons, List.length_nil, List.length_replicate, List.length_set, List.length_take, List.length_drop, List.length_map, List.length_reverse, List.length_range]; omega), by first | omega | (simp only [List.length_append, List.length_cons, List.length_nil, List.length_replicate, List.length_set, List.length_take, List.length_drop, List.length_map, List.length_reverse, List.length_range]; omega)⟩)
      · exact One.loadD (α := Int) (t := 3) (size := 1) (off := 0) (k := at_) (l := fun G => l2) (x := fun G => n13) (vs := fun G => [.int .i64 n13]) (v := fun G => v1) (H := fun G => K2) (p := fun G => elemAddr v1 (at_.toNat * 1)) (fun G => ⟨by kernel_rfl⟩) rfl (fun G => by kernel_rfl) (fun G w hs => by
          have hg := gd_of hs (p := (true && (p35 == false))) (by kernel_rfl)
          have hg0 := (iN hp35 (iOF (iN hp33 (iOF (iN hp31 (iOF (iN hp29 (iOF (iN hp27 (iOF (iN hp25 (iOF (iN hp23 (iNF iDT)) (iN hp24 (iNF iDT)))) (iN hp26 (iNF iDT)))) (iN hp28 (iNF iDT)))) (iN hp30 (iNF iDT)))) (iN hp32 (iNF iDT)))) (iN hp34 (iNF iDT)))).1 (eqF (andR hg))
          exact ⟨(hs.read 0 rfl), hr16, (add_zero' _).symm, by omega, by first | omega | (simp only [List.length_append, List.length_cons, List.length_nil, List.length_replicate, List.length_set, List.length_take, List.length_drop, List.length_map, List.length_reverse, List.length_range]; omega), hn13⟩)
      · exact One.index (t := 26) (e := 3) (size := 1) (v := fun G => v3) (k := .i64) (n := at_) (fun _ => ⟨by kernel_rfl⟩) (fun G w hs => by
          have hg := gd_of hs (p := (true && (p35 == false))) (by kernel_rfl)
          have hg0 := (iN hp35 (iOF (iN hp33 (iOF (iN hp31 (iOF (iN hp29 (iOF (iN hp27 (iOF (iN hp25 (iOF (iN hp23 (iNF iDT)) (iN hp24 (iNF iDT)))) (iN hp26 (iNF iDT)))) (iN hp28 (iNF iDT)))) (iN hp30 (iNF iDT)))) (iN hp32 (iNF iDT)))) (iN hp34 (iNF iDT)))).1 (eqF (andR hg))
          exact ⟨_, (hr17).isSl, by first | omega | (simp only [List.length_append, List.length_cons, List.length_nil, List.length_replicate, List.length_set, List.length_take, List.length_drop, List.length_map, List.length_reverse, List.length_range]; omega), by first | omega | (simp only [List.length_append, List.length_cons, List.length_nil, List.length_replicate, List.length_set, List.length_take, List.length_drop, List.length_map, List.length_reverse, List.length_range]; omega)⟩)
      · exact One.loadD (α := Int) (t := 3) (size := 1) (off := 0) (k := at_) (l := fun G => l4) (x := fun G => n14) (vs := fun G => [.int .i64 n14]) (v := fun G => v3) (H := fun G => K2) (p := fun G => elemAddr v3 (at_.toNat * 1)) (fun G => ⟨by kernel_rfl⟩) rfl (fun G => by kernel_rfl) (fun G w hs => by
          have hg := gd_of hs (p := (true && (p35 == false))) (by kernel_rfl)
          have hg0 := (iN hp35 (iOF (iN hp33 (iOF (iN hp31 (iOF (iN hp29 (iOF (iN hp27 (iOF (iN hp25 (iOF (iN hp23 (iNF iDT)) (iN hp24 (iNF iDT)))) (iN hp26 (iNF iDT)))) (iN hp28 (iNF iDT)))) (iN hp30 (iNF iDT)))) (iN hp32 (iNF iDT)))) (iN hp34 (iNF iDT)))).1 (eqF (andR hg))
          exact ⟨(hs.read 0 rfl), hr17, (add_zero' _).symm, by omega, by first | omega | (simp only [List.length_append, List.length_cons, List.length_nil, List.length_replicate, List.length_set, List.length_take, List.length_drop, List.length_map, List.length_reverse, List.length_range]; omega), hn14⟩)
      · exact One.bo hp36 (fun _ _ => by kernel_rfl)
      · subst hp37
        cases p35 <;> exact One.under fun _ _ _ => by kernel_rfl
      intro G9 xa xw hDn
      refine hDn.to [1, 2, 3, 4, 5, 6, 7, 17, 18, 19, 20, 22, 164] [] (by kernel_rfl) ?_
      clear hDn
      refine Pre.conv (sl := [(1, textsv), (2, valuesv), (3, blindsv), (4, othersv), (5, numbersv), (6, ownsv), (7, .int .i64 at_), (17, .bool true), (18, .pointer (some ⟨b2, 0, none⟩)), (19, .int .i64 n7), (20, v1), (22, .pointer (some ⟨b3, 0, none⟩)), (164, .bool p37)]) (A := [K2]) (L := [some (b1, .cells #[vv] 24 (0, 0)), some (b2, .cells #[v2] 24 (0, 0)), some (b3, .cells #[v4] 24 (0, 0))]) ?_ (by kernel_rfl) (by kernel_rfl) (by kernel_rfl)
      clear G9
      refine At.then ?_
      refine W.cond p37 (by kernel_rfl) (fun xa hs => cnd_of (t := 164) (by kernel_rfl) (by kernel_rfl) hs) (fun hq => ?_) (fun hq => ?_)
      · skip
        have hq5 := hq
        replace hq5 := (iN hp37 (iOT (iN hp35 (iOT (iN hp33 (iOT (iN hp31 (iOT (iN hp29 (iOT (iN hp27 (iOT (iN hp25 (iOT (iN hp23 (iNT iDF)) (iN hp24 (iNT iDF)))) (iN hp26 (iNT iDF)))) (iN hp28 (iNT iDF)))) (iN hp30 (iNT iDF)))) (iN hp32 (iNT iDF)))) (iN hp34 (iNT iDF)))) (iN hp36 (iNT iDF)))).1 hq5
        rcases hq5 with ((((((h | h) | h) | h) | h) | h) | h) | h <;> omega
      · skip
        have hq6 := hq
        replace hq6 := (iN hp37 (iOF (iN hp35 (iOF (iN hp33 (iOF (iN hp31 (iOF (iN hp29 (iOF (iN hp27 (iOF (iN hp25 (iOF (iN hp23 (iNF iDT)) (iN hp24 (iNF iDT)))) (iN hp26 (iNF iDT)))) (iN hp28 (iNF iDT)))) (iN hp30 (iNF iDT)))) (iN hp32 (iNF iDT)))) (iN hp34 (iNF iDT)))) (iN hp36 (iNF iDT)))).1 hq6
        refine W.skip (by kernel_rfl) ?_
        refine At.then ?_
        refine W.seq (by kernel_rfl) ?_
        refine W.regV (hides_ct_r7_9 vv textsv valuesv blindsv othersv numbersv ownsv at_ b1 n7 b2 v1 v2 b3 v4 K2 p37) [0] [] (fun G => [.int .i64 0]) (by kernel_rfl) mo_lf (by kernel_rfl) (fun _ _ => by kernel_rfl) trivial (by kernel_rfl) ?_
        intro G10 xa xw hDn
        refine hDn.to [1, 2, 3, 4, 5, 6, 7, 17, 18, 19, 20, 22, 26] [] (by kernel_rfl) ?_
        clear hDn
        refine Pre.conv (sl := [(1, textsv), (2, valuesv), (3, blindsv), (4, othersv), (5, numbersv), (6, ownsv), (7, .int .i64 at_), (17, .bool true), (18, .pointer (some ⟨b2, 0, none⟩)), (19, .int .i64 n7), (20, v1), (22, .pointer (some ⟨b3, 0, none⟩)), (26, .int .i64 0)]) (A := [K2]) (L := [some (b1, .cells #[vv] 24 (0, 0)), some (b2, .cells #[v2] 24 (0, 0)), some (b3, .cells #[v4] 24 (0, 0))]) ?_ (by kernel_rfl) (by kernel_rfl) (by kernel_rfl)
        clear G10
        refine At.then ?_
        refine W.seq (by kernel_rfl) ?_
        refine W.regV (hides_ct_r7_10 vv textsv valuesv blindsv othersv numbersv ownsv at_ b1 n7 b2 v1 v2 b3 v4 K2) [0] [] (fun G => [.int .i64 0]) (by kernel_rfl) mo_lf (by kernel_rfl) (fun _ _ => by kernel_rfl) trivial (by kernel_rfl) ?_
        intro G11 xa xw hDn
        refine hDn.to [1, 2, 3, 4, 5, 6, 7, 17, 18, 19, 20, 22, 26, 27] [] (by kernel_rfl) ?_
        clear hDn
        refine Pre.conv (sl := [(1, textsv), (2, valuesv), (3, blindsv), (4, othersv), (5, numbersv), (6, ownsv), (7, .int .i64 at_), (17, .bool true), (18, .pointer (some ⟨b2, 0, none⟩)), (19, .int .i64 n7), (20, v1), (22, .pointer (some ⟨b3, 0, none⟩)), (26, .int .i64 0), (27, .int .i64 0)]) (A := [K2]) (L := [some (b1, .cells #[vv] 24 (0, 0)), some (b2, .cells #[v2] 24 (0, 0)), some (b3, .cells #[v4] 24 (0, 0))]) ?_ (by kernel_rfl) (by kernel_rfl) (by kernel_rfl)
        clear G11
        refine At.then ?_
        refine W.seq (by kernel_rfl) ?_
        refine W.seq (by kernel_rfl) ?_
        refine W.regV (hides_ct_r7_11 vv textsv valuesv blindsv othersv numbersv ownsv at_ b1 n7 b2 v1 v2 b3 v4 K2) [0] [] (fun G => [.int .i64 0]) (by kernel_rfl) mo_lf (by kernel_rfl) (fun _ _ => by kernel_rfl) trivial (by kernel_rfl) ?_
        intro G12 xa xw hDn
        refine hDn.to [1, 2, 3, 4, 5, 6, 7, 17, 18, 19, 20, 22, 26, 27, 28] [] (by kernel_rfl) ?_
        clear hDn
        refine Pre.conv (sl := [(1, textsv), (2, valuesv), (3, blindsv), (4, othersv), (5, numbersv), (6, ownsv), (7, .int .i64 at_), (17, .bool true), (18, .pointer (some ⟨b2, 0, none⟩)), (19, .int .i64 n7), (20, v1), (22, .pointer (some ⟨b3, 0, none⟩)), (26, .int .i64 0), (27, .int .i64 0), (28, .int .i64 0)]) (A := [K2]) (L := [some (b1, .cells #[vv] 24 (0, 0)), some (b2, .cells #[v2] 24 (0, 0)), some (b3, .cells #[v4] 24 (0, 0))]) ?_ (by kernel_rfl) (by kernel_rfl) (by kernel_rfl)
        clear G12
        refine At.then ?_
        refine W.block 0 (by kernel_rfl) ?_
        refine W.loopS (γ := Int × Int × Int) (fun ⟨sum, all, i⟩ => [(1, textsv), (2, valuesv), (3, blindsv), (4, othersv), (5, numbersv), (6, ownsv), (7, .int .i64 at_), (17, .bool true), (18, .pointer (some ⟨b2, 0, none⟩)), (19, .int .i64 n7), (20, v1), (22, .pointer (some ⟨b3, 0, none⟩)), (26, .int .i64 sum), (27, .int .i64 all), (28, .int .i64 i)]) (fun ⟨sum, all, i⟩ => [K2]) (fun ⟨sum, all, i⟩ => [some (b1, .cells #[vv] 24 (0, 0)), some (b2, .cells #[v2] 24 (0, 0)), some (b3, .cells #[v4] 24 (0, 0))]) (fun ⟨sum, all, i⟩ => (0 ≤ i) ∧ (i ≤ (values.length : Int)) ∧ (sum = Tm.totV values i.toNat - Tm.totV numbers i.toNat) ∧ (all = Tm.totV blinds i.toNat - Tm.totV owns i.toNat) ∧ (0 ≤ i) ∧ (i ≤ values.length)) (fun ⟨sum, all, i⟩ => ((values.length : Int) - i).toNat) (0, 0, 0) (by kernel_rfl) ?_ ?_
        · intro xa xw hs hw
          refine ⟨hs.sub (by kernel_rfl), hw.mask [true, true, true] (by kernel_rfl), ?_⟩
          refine ⟨?_, ?_, ?_, ?_, ?_, ?_⟩
          · show 0 ≤ (0 : Int)
            omega
          · show (0 : Int) ≤ (values.length : Int)
            omega
          · show (0 : Int) = Tm.totV values (0 : Int).toNat - Tm.totV numbers (0 : Int).toNat
            rfl
          · show (0 : Int) = Tm.totV blinds (0 : Int).toNat - Tm.totV owns (0 : Int).toNat
            rfl
          · show 0 ≤ (0 : Int)
            omega
          · show (0 : Int) ≤ values.length
            omega
        · rintro ⟨sum, all, i⟩ hF
          have hF : (0 ≤ i) ∧ (i ≤ (values.length : Int)) ∧ (sum = Tm.totV values i.toNat - Tm.totV numbers i.toNat) ∧ (all = Tm.totV blinds i.toNat - Tm.totV owns i.toNat) ∧ (0 ≤ i) ∧ (i ≤ values.length) := hF
          obtain ⟨hf3, hf4, hf5, hf6, hf7, hf8⟩ := hF
          show W Try.prog 266 w0 [] (Code.l (Code.l (Code.r (Code.l (Code.r (Code.r (Code.r (Code.r (Code.r (Code.r (Code.r (Code.r (Code.r (body Try.f7)))))))))))))) _ [(1, textsv), (2, valuesv), (3, blindsv), (4, othersv), (5, numbersv), (6, ownsv), (7, .int .i64 at_), (17, .bool true), (18, .pointer (some ⟨b2, 0, none⟩)), (19, .int .i64 n7), (20, v1), (22, .pointer (some ⟨b3, 0, none⟩)), (26, .int .i64 sum), (27, .int .i64 all), (28, .int .i64 i)] [K2] [some (b1, .cells #[vv] 24 (0, 0)), some (b2, .cells #[v2] 24 (0, 0)), some (b3, .cells #[v4] 24 (0, 0))]
          refine W.seq (by kernel_rfl) ?_
          refine W.seq (by kernel_rfl) ?_
          obtain ⟨p38, hp38⟩ : ∃ zz : Bool, zz = decide (i < n3) := ⟨_, rfl⟩
          refine W.regV (hides_ct_r7_12 vv textsv valuesv blindsv othersv numbersv ownsv at_ b1 n3 n7 b2 v1 v2 b3 v4 K2 sum all i p38) [0, 1] [2, 3] (fun G => [.int .i64 i, valuesv]) (by kernel_rfl) mo_lf (by kernel_rfl) (fun _ _ => by kernel_rfl) ⟨?_, ?_, trivial⟩ (by kernel_rfl) ?_
          · exact One.len (t := 26) (n := n3) (v := fun G => valuesv) (fun _ => ⟨by kernel_rfl⟩) (fun G w hs => ⟨_, (hr11).isSl, hn3⟩)
          · exact One.bo hp38 (fun _ _ => by kernel_rfl)
          intro G13 xa xw hDn
          refine hDn.to [1, 2, 3, 4, 5, 6, 7, 17, 18, 19, 20, 22, 26, 27, 28, 168] [] (by kernel_rfl) ?_
          clear hDn
          refine Pre.conv (sl := [(1, textsv), (2, valuesv), (3, blindsv), (4, othersv), (5, numbersv), (6, ownsv), (7, .int .i64 at_), (17, .bool true), (18, .pointer (some ⟨b2, 0, none⟩)), (19, .int .i64 n7), (20, v1), (22, .pointer (some ⟨b3, 0, none⟩)), (26, .int .i64 sum), (27, .int .i64 all), (28, .int .i64 i), (168, .bool p38)]) (A := [K2]) (L := [some (b1, .cells #[vv] 24 (0, 0)), some (b2, .cells #[v2] 24 (0, 0)), some (b3, .cells #[v4] 24 (0, 0))]) ?_ (by kernel_rfl) (by kernel_rfl) (by kernel_rfl)
          clear G13
          refine At.then ?_
          refine W.cond p38 (by kernel_rfl) (fun xa hs => cnd_of (t := 168) (by kernel_rfl) (by kernel_rfl) hs) (fun hq => ?_) (fun hq => ?_)
          · skip
            have hq7 := hq
            replace hq7 := (iN hp38 iDT).1 hq7
            refine W.skip (by kernel_rfl) ?_
            refine At.then ?_
            refine W.seq (by kernel_rfl) ?_
            refine W.block 1 (by kernel_rfl) ?_
            refine W.seq (by kernel_rfl) ?_
            obtain ⟨n15, hn15⟩ : ∃ zz : Int, zz = values.getD i.toNat default := ⟨_, rfl⟩
            obtain ⟨n16, hn16⟩ : ∃ zz : Int, zz = sum + n15 := ⟨_, rfl⟩
            obtain ⟨n17, hn17⟩ : ∃ zz : Int, zz = numbers.getD i.toNat default := ⟨_, rfl⟩
            obtain ⟨n18, hn18⟩ : ∃ zz : Int, zz = n16 - n17 := ⟨_, rfl⟩
            have hu15 := Tm.tot_step h64 hLV.1 (i := i) (by omega) (by omega) rfl hn15
            have hw15 := Tm.tot_step h642 hLV2.1 (i := i) (by omega) (by omega) rfl hn17
            refine W.regV (hides_ct_r7_13 vv textsv valuesv blindsv othersv numbersv ownsv at_ b1 n7 b2 v1 v2 b3 v4 K2 sum all i p38 n15 n16 n17 n18) [0, 1, 2, 6, 7, 11] [3, 4, 5, 8, 9, 10] (fun G => [.int .i64 sum, valuesv, .int .i64 i, numbersv, .int .i64 i, .int .i64 n18]) (by kernel_rfl) mo_lf (by kernel_rfl) (fun _ _ => by kernel_rfl) ⟨?_, ?_, ?_, ?_, ?_, ?_, trivial⟩ (by kernel_rfl) ?_
            · exact One.index (t := 26) (e := 3) (size := 1) (v := fun G => valuesv) (k := .i64) (n := i) (fun _ => ⟨by kernel_rfl⟩) (fun G w hs => ⟨_, (hr11).isSl, by first | omega | (simp only [List.length_append, List.length_cons, List.length_nil, List.length_replicate, List.length_set, List.length_take, List.length_drop, List.length_map, List.length_reverse, List.length_range]; omega), by first | omega | (simp only [List.length_append, List.length_cons, List.length_nil, List.length_replicate, List.length_set, List.length_take, List.length_drop, List.length_map, List.length_reverse, List.length_range]; omega)⟩)
            · exact One.loadD (α := Int) (t := 3) (size := 1) (off := 0) (k := i) (l := fun G => values) (x := fun G => n15) (vs := fun G => [.int .i64 n15]) (v := fun G => valuesv) (H := fun G => K2) (p := fun G => elemAddr valuesv (i.toNat * 1)) (fun G => ⟨by kernel_rfl⟩) rfl (fun G => by kernel_rfl) (fun G w hs => ⟨(hs.read 0 rfl), hr11, (add_zero' _).symm, by omega, by first | omega | (simp only [List.length_append, List.length_cons, List.length_nil, List.length_replicate, List.length_set, List.length_take, List.length_drop, List.length_map, List.length_reverse, List.length_range]; omega), hn15⟩)
            · exact One.ar hn16 (fun _ _ => by kernel_rfl) (fun G w hs => by omega)
            · exact One.index (t := 26) (e := 3) (size := 1) (v := fun G => numbersv) (k := .i64) (n := i) (fun _ => ⟨by kernel_rfl⟩) (fun G w hs => ⟨_, (hr14).isSl, by first | omega | (simp only [List.length_append, List.length_cons, List.length_nil, List.length_replicate, List.length_set, List.length_take, List.length_drop, List.length_map, List.length_reverse, List.length_range]; omega), by first | omega | (simp only [List.length_append, List.length_cons, List.length_nil, List.length_replicate, List.length_set, List.length_take, List.length_drop, List.length_map, List.length_reverse, List.length_range]; omega)⟩)
            · exact One.loadD (α := Int) (t := 3) (size := 1) (off := 0) (k := i) (l := fun G => numbers) (x := fun G => n17) (vs := fun G => [.int .i64 n17]) (v := fun G => numbersv) (H := fun G => K2) (p := fun G => elemAddr numbersv (i.toNat * 1)) (fun G => ⟨by kernel_rfl⟩) rfl (fun G => by kernel_rfl) (fun G w hs => ⟨(hs.read 0 rfl), hr14, (add_zero' _).symm, by omega, by first | omega | (simp only [List.length_append, List.length_cons, List.length_nil, List.length_replicate, List.length_set, List.length_take, List.length_drop, List.length_map, List.length_reverse, List.length_range]; omega), hn17⟩)
            · exact One.ar hn18 (fun _ _ => by kernel_rfl) (fun G w hs => by omega)
            intro G14 xa xw hDn
            refine hDn.to [1, 2, 3, 4, 5, 6, 7, 17, 18, 19, 20, 22, 26, 27, 28] [] (by kernel_rfl) ?_
            clear hDn
            refine Pre.conv (sl := [(1, textsv), (2, valuesv), (3, blindsv), (4, othersv), (5, numbersv), (6, ownsv), (7, .int .i64 at_), (17, .bool true), (18, .pointer (some ⟨b2, 0, none⟩)), (19, .int .i64 n7), (20, v1), (22, .pointer (some ⟨b3, 0, none⟩)), (26, .int .i64 n18), (27, .int .i64 all), (28, .int .i64 i)]) (A := [K2]) (L := [some (b1, .cells #[vv] 24 (0, 0)), some (b2, .cells #[v2] 24 (0, 0)), some (b3, .cells #[v4] 24 (0, 0))]) ?_ (by kernel_rfl) (by kernel_rfl) (by kernel_rfl)
            clear G14
            refine At.then ?_
            obtain ⟨n19, hn19⟩ : ∃ zz : Int, zz = blinds.getD i.toNat default := ⟨_, rfl⟩
            obtain ⟨n20, hn20⟩ : ∃ zz : Int, zz = all + n19 := ⟨_, rfl⟩
            obtain ⟨n21, hn21⟩ : ∃ zz : Int, zz = owns.getD i.toNat default := ⟨_, rfl⟩
            obtain ⟨n22, hn22⟩ : ∃ zz : Int, zz = n20 - n21 := ⟨_, rfl⟩
            have hu16 := Tm.tot_step h64 hLV.2 (i := i) (by omega) (by omega) rfl hn19
            have hw16 := Tm.tot_step h642 hLV2.2 (i := i) (by omega) (by omega) rfl hn21
            refine W.regV (hides_ct_r7_14 vv textsv valuesv blindsv othersv numbersv ownsv at_ b1 n7 b2 v1 v2 b3 v4 K2 all i n18 n19 n20 n21 n22) [0, 1, 2, 6, 7, 11] [3, 4, 5, 8, 9, 10] (fun G => [.int .i64 all, blindsv, .int .i64 i, ownsv, .int .i64 i, .int .i64 n22]) (by kernel_rfl) mo_lf (by kernel_rfl) (fun _ _ => by kernel_rfl) ⟨?_, ?_, ?_, ?_, ?_, ?_, trivial⟩ (by kernel_rfl) ?_
            · exact One.index (t := 26) (e := 3) (size := 1) (v := fun G => blindsv) (k := .i64) (n := i) (fun _ => ⟨by kernel_rfl⟩) (fun G w hs => ⟨_, (hr12).isSl, by first | omega | (simp only [List.length_append, List.length_cons, List.length_nil, List.length_replicate, List.length_set, List.length_take, List.length_drop, List.length_map, List.length_reverse, List.length_range]; omega), by first | omega | (simp only [List.length_append, List.length_cons, List.length_nil, List.length_replicate, List.length_set, List.length_take, List.length_drop, List.length_map, List.length_reverse, List.length_range]; omega)⟩)
            · exact One.loadD (α := Int) (t := 3) (size := 1) (off := 0) (k := i) (l := fun G => blinds) (x := fun G => n19) (vs := fun G => [.int .i64 n19]) (v := fun G => blindsv) (H := fun G => K2) (p := fun G => elemAddr blindsv (i.toNat * 1)) (fun G => ⟨by kernel_rfl⟩) rfl (fun G => by kernel_rfl) (fun G w hs => ⟨(hs.read 0 rfl), hr12, (add_zero' _).symm, by omega, by first | omega | (simp only [List.length_append, List.length_cons, List.length_nil, List.length_replicate, List.length_set, List.length_take, List.length_drop, List.length_map, List.length_reverse, List.length_range]; omega), hn19⟩)
            · exact One.ar hn20 (fun _ _ => by kernel_rfl) (fun G w hs => by omega)
            · exact One.index (t := 26) (e := 3) (size := 1) (v := fun G => ownsv) (k := .i64) (n := i) (fun _ => ⟨by kernel_rfl⟩) (fun G w hs => ⟨_, (hr15).isSl, by first | omega | (simp only [List.length_append, List.length_cons, List.length_nil, List.length_replicate, List.length_set, List.length_take, List.length_drop, List.length_map, List.length_reverse, List.length_range]; omega), by first | omega | (simp only [List.length_append, List.length_cons, List.length_nil, List.length_replicate, List.length_set, List.length_take, List.length_drop, List.length_map, List.length_reverse, List.length_range]; omega)⟩)
            · exact One.loadD (α := Int) (t := 3) (size := 1) (off := 0) (k := i) (l := fun G => owns) (x := fun G => n21) (vs := fun G => [.int .i64 n21]) (v := fun G => ownsv) (H := fun G => K2) (p := fun G => elemAddr ownsv (i.toNat * 1)) (fun G => ⟨by kernel_rfl⟩) rfl (fun G => by kernel_rfl) (fun G w hs => ⟨(hs.read 0 rfl), hr15, (add_zero' _).symm, by omega, by first | omega | (simp only [List.length_append, List.length_cons, List.length_nil, List.length_replicate, List.length_set, List.length_take, List.length_drop, List.length_map, List.length_reverse, List.length_range]; omega), hn21⟩)
            · exact One.ar hn22 (fun _ _ => by kernel_rfl) (fun G w hs => by omega)
            intro G15 xa xw hDn
            refine hDn.to [1, 2, 3, 4, 5, 6, 7, 17, 18, 19, 20, 22, 26, 27, 28] [] (by kernel_rfl) ?_
            clear hDn
            refine Pre.conv (sl := [(1, textsv), (2, valuesv), (3, blindsv), (4, othersv), (5, numbersv), (6, ownsv), (7, .int .i64 at_), (17, .bool true), (18, .pointer (some ⟨b2, 0, none⟩)), (19, .int .i64 n7), (20, v1), (22, .pointer (some ⟨b3, 0, none⟩)), (26, .int .i64 n18), (27, .int .i64 n22), (28, .int .i64 i)]) (A := [K2]) (L := [some (b1, .cells #[vv] 24 (0, 0)), some (b2, .cells #[v2] 24 (0, 0)), some (b3, .cells #[v4] 24 (0, 0))]) ?_ (by kernel_rfl) (by kernel_rfl) (by kernel_rfl)
            clear G15
            refine At.blockNormal ?_
            refine At.then ?_
            obtain ⟨n23, hn23⟩ : ∃ zz : Int, zz = i + 1 := ⟨_, rfl⟩
            refine W.regV (hides_ct_r7_15 vv textsv valuesv blindsv othersv numbersv ownsv at_ b1 n7 b2 v1 v2 b3 v4 K2 i n18 n22 n23) [0, 2] [1] (fun G => [.int .i64 i, .int .i64 n23]) (by kernel_rfl) mo_lf (by kernel_rfl) (fun _ _ => by kernel_rfl) ⟨?_, trivial⟩ (by kernel_rfl) ?_
            · exact One.ar hn23 (fun _ _ => by kernel_rfl) (fun G w hs => by omega)
            intro G16 xa xw hDn
            refine hDn.to [1, 2, 3, 4, 5, 6, 7, 17, 18, 19, 20, 22, 26, 27, 28] [] (by kernel_rfl) ?_
            clear hDn
            refine Pre.conv (sl := [(1, textsv), (2, valuesv), (3, blindsv), (4, othersv), (5, numbersv), (6, ownsv), (7, .int .i64 at_), (17, .bool true), (18, .pointer (some ⟨b2, 0, none⟩)), (19, .int .i64 n7), (20, v1), (22, .pointer (some ⟨b3, 0, none⟩)), (26, .int .i64 n18), (27, .int .i64 n22), (28, .int .i64 n23)]) (A := [K2]) (L := [some (b1, .cells #[vv] 24 (0, 0)), some (b2, .cells #[v2] 24 (0, 0)), some (b3, .cells #[v4] 24 (0, 0))]) ?_ (by kernel_rfl) (by kernel_rfl) (by kernel_rfl)
            clear G16
            intro xa xw hs hw
            refine ⟨(n18, n22, n23), ⟨hs.sub (by kernel_rfl), hw.mask [true, true, true] (by kernel_rfl), ?_⟩, ?_⟩
            · skip
              refine ⟨?_, ?_, ?_, ?_, ?_, ?_⟩
              · show 0 ≤ n23
                omega
              · show n23 ≤ (values.length : Int)
                omega
              · show n18 = Tm.totV values n23.toNat - Tm.totV numbers n23.toNat
                have e := hu15.2.2.2.2; have e2 := hw15.2.2.2.2; rw [show n23.toNat = (i + 1).toNat by omega]; omega
              · show n22 = Tm.totV blinds n23.toNat - Tm.totV owns n23.toNat
                have e := hu16.2.2.2.2; have e2 := hw16.2.2.2.2; rw [show n23.toNat = (i + 1).toNat by omega]; omega
              · show 0 ≤ n23
                omega
              · show n23 ≤ values.length
                omega
            · show ((values.length : Int) - n23).toNat < ((values.length : Int) - i).toNat
              omega
          · skip
            have hq8 := hq
            replace hq8 := (iN hp38 iDF).1 hq8
            refine W.exit 0 (by kernel_rfl) ?_
            refine At.thenExit ?_
            refine At.thenExit ?_
            refine At.blockHit ?_
            refine At.then ?_
            refine W.seq (by kernel_rfl) ?_
            refine W.seq (by kernel_rfl) ?_
            have hin : i.toNat = texts.length := by omega
            have hsum := hf5
            have hall := hf6
            rw [hin] at hsum hall
            obtain ⟨p39, hp39⟩ : ∃ zz : Bool, zz = !(decide (sum = 0)) := ⟨_, rfl⟩
            obtain ⟨p40, hp40⟩ : ∃ zz : Bool, zz = !(decide (all = 0)) := ⟨_, rfl⟩
            obtain ⟨p41, hp41⟩ : ∃ zz : Bool, zz = (p39 || p40) := ⟨_, rfl⟩
            obtain ⟨s1, hs1⟩ : ∃ zz : ByteArray, zz = texts.getD at_.toNat default := ⟨_, rfl⟩
            obtain ⟨s2, hs2⟩ : ∃ zz : ByteArray, zz = others.getD at_.toNat default := ⟨_, rfl⟩
            obtain ⟨p42, hp42⟩ : ∃ zz : Bool, zz = !(decide (s1 = s2)) := ⟨_, rfl⟩
            obtain ⟨p43, hp43⟩ : ∃ zz : Bool, zz = (p41 || p42) := ⟨_, rfl⟩
            obtain ⟨n24, hn24⟩ : ∃ zz : Int, zz = values.getD at_.toNat default := ⟨_, rfl⟩
            obtain ⟨n25, hn25⟩ : ∃ zz : Int, zz = numbers.getD at_.toNat default := ⟨_, rfl⟩
            obtain ⟨p44, hp44⟩ : ∃ zz : Bool, zz = !(decide (n24 = n25)) := ⟨_, rfl⟩
            obtain ⟨p45, hp45⟩ : ∃ zz : Bool, zz = (p43 || p44) := ⟨_, rfl⟩
            obtain ⟨n26, hn26⟩ : ∃ zz : Int, zz = blinds.getD at_.toNat default := ⟨_, rfl⟩
            obtain ⟨n27, hn27⟩ : ∃ zz : Int, zz = owns.getD at_.toNat default := ⟨_, rfl⟩
            obtain ⟨p46, hp46⟩ : ∃ zz : Bool, zz = !(decide (n26 = n27)) := ⟨_, rfl⟩
            obtain ⟨p47, hp47⟩ : ∃ zz : Bool, zz = (p45 || p46) := ⟨_, rfl⟩
            refine W.regV (hides_ct_r7_16 vv textsv valuesv blindsv othersv numbersv ownsv at_ b1 n7 b2 v1 v2 b3 v4 K2 sum all i p38 p39 p40 p41 s1 s2 p42 p43 n24 n25 p44 p45 n26 n27 p46 p47) [0, 2, 3, 6, 7, 8, 11, 12, 17, 18, 19, 22, 23, 28, 29, 30, 33, 34] [1, 4, 5, 9, 10, 13, 14, 15, 16, 20, 21, 24, 25, 26, 27, 31, 32, 35, 36, 37, 38] (fun G => [.int .i64 sum, .bool p39, .int .i64 all, .bool p41, textsv, .int .i64 at_, othersv, .int .i64 at_, .bool p43, valuesv, .int .i64 at_, numbersv, .int .i64 at_, .bool p45, blindsv, .int .i64 at_, ownsv, .int .i64 at_]) (by kernel_rfl) mo_lf (by kernel_rfl) (fun _ _ => by kernel_rfl) ⟨?_, ?_, ?_, ?_, ?_, ?_, ?_, ?_, ?_, ?_, ?_, ?_, ?_, ?_, ?_, ?_, ?_, ?_, ?_, ?_, ?_, trivial⟩ (by kernel_rfl) ?_
            · exact One.bo hp39 (fun _ _ => by kernel_rfl)
            · exact One.bo hp40 (fun _ _ => by kernel_rfl)
            · subst hp41
              cases p39 <;> exact One.under fun _ _ _ => by kernel_rfl
            · exact One.index (t := 25) (e := 9) (size := 1) (v := fun G => textsv) (k := .i64) (n := at_) (fun _ => ⟨by kernel_rfl⟩) (fun G w hs => by
                have hg := gd_of hs (p := (true && (p41 == false))) (by kernel_rfl)
                have hg0 := (iN hp41 (iOF (iN hp39 (iNF iDT)) (iN hp40 (iNF iDT)))).1 (eqF (andR hg))
                exact ⟨_, (hr10).isSl, by first | omega | (simp only [List.length_append, List.length_cons, List.length_nil, List.length_replicate, List.length_set, List.length_take, List.length_drop, List.length_map, List.length_reverse, List.length_range]; omega), by first | omega | (simp only [List.length_append, List.length_cons, List.length_nil, List.length_replicate, List.length_set, List.length_take, List.length_drop, List.length_map, List.length_reverse, List.length_range]; omega)⟩)
            · exact One.loadD (α := ByteArray) (t := 9) (size := 1) (off := 0) (k := at_) (l := fun G => texts) (x := fun G => s1) (vs := fun G => [.string s1]) (v := fun G => textsv) (H := fun G => K2) (p := fun G => elemAddr textsv (at_.toNat * 1)) (fun G => ⟨by kernel_rfl⟩) rfl (fun G => by kernel_rfl) (fun G w hs => by
                have hg := gd_of hs (p := (true && (p41 == false))) (by kernel_rfl)
                have hg0 := (iN hp41 (iOF (iN hp39 (iNF iDT)) (iN hp40 (iNF iDT)))).1 (eqF (andR hg))
                exact ⟨(hs.read 0 rfl), hr10, (add_zero' _).symm, by omega, by first | omega | (simp only [List.length_append, List.length_cons, List.length_nil, List.length_replicate, List.length_set, List.length_take, List.length_drop, List.length_map, List.length_reverse, List.length_range]; omega), hs1⟩)
            · exact One.index (t := 25) (e := 9) (size := 1) (v := fun G => othersv) (k := .i64) (n := at_) (fun _ => ⟨by kernel_rfl⟩) (fun G w hs => by
                have hg := gd_of hs (p := (true && (p41 == false))) (by kernel_rfl)
                have hg0 := (iN hp41 (iOF (iN hp39 (iNF iDT)) (iN hp40 (iNF iDT)))).1 (eqF (andR hg))
                exact ⟨_, (hr13).isSl, by first | omega | (simp only [List.length_append, List.length_cons, List.length_nil, List.length_replicate, List.length_set, List.length_take, List.length_drop, List.length_map, List.length_reverse, List.length_range]; omega), by first | omega | (simp only [List.length_append, List.length_cons, List.length_nil, List.length_replicate, List.length_set, List.length_take, List.length_drop, List.length_map, List.length_reverse, List.length_range]; omega)⟩)
            · exact One.loadD (α := ByteArray) (t := 9) (size := 1) (off := 0) (k := at_) (l := fun G => others) (x := fun G => s2) (vs := fun G => [.string s2]) (v := fun G => othersv) (H := fun G => K2) (p := fun G => elemAddr othersv (at_.toNat * 1)) (fun G => ⟨by kernel_rfl⟩) rfl (fun G => by kernel_rfl) (fun G w hs => by
                have hg := gd_of hs (p := (true && (p41 == false))) (by kernel_rfl)
                have hg0 := (iN hp41 (iOF (iN hp39 (iNF iDT)) (iN hp40 (iNF iDT)))).1 (eqF (andR hg))
                exact ⟨(hs.read 0 rfl), hr13, (add_zero' _).symm, by omega, by first | omega | (simp only [List.length_append, List.length_cons, List.length_nil, List.length_replicate, List.length_set, List.length_take, List.length_drop, List.length_map, List.length_reverse, List.length_range]; omega), hs2⟩)
            · exact One.eq (congrArg Value.bool ((congrArg not (toList_bytes _ _)).trans hp42.symm)) (fun _ _ => by kernel_rfl)
            · subst hp43
              cases p41 <;> exact One.under fun _ _ _ => by kernel_rfl
            · exact One.index (t := 26) (e := 3) (size := 1) (v := fun G => valuesv) (k := .i64) (n := at_) (fun _ => ⟨by kernel_rfl⟩) (fun G w hs => by
                have hg := gd_of hs (p := (true && (p43 == false))) (by kernel_rfl)
                have hg0 := (iN hp43 (iOF (iN hp41 (iOF (iN hp39 (iNF iDT)) (iN hp40 (iNF iDT)))) (iN hp42 (iNF iDT)))).1 (eqF (andR hg))
                exact ⟨_, (hr11).isSl, by first | omega | (simp only [List.length_append, List.length_cons, List.length_nil, List.length_replicate, List.length_set, List.length_take, List.length_drop, List.length_map, List.length_reverse, List.length_range]; omega), by first | omega | (simp only [List.length_append, List.length_cons, List.length_nil, List.length_replicate, List.length_set, List.length_take, List.length_drop, List.length_map, List.length_reverse, List.length_range]; omega)⟩)
            · exact One.loadD (α := Int) (t := 3) (size := 1) (off := 0) (k := at_) (l := fun G => values) (x := fun G => n24) (vs := fun G => [.int .i64 n24]) (v := fun G => valuesv) (H := fun G => K2) (p := fun G => elemAddr valuesv (at_.toNat * 1)) (fun G => ⟨by kernel_rfl⟩) rfl (fun G => by kernel_rfl) (fun G w hs => by
                have hg := gd_of hs (p := (true && (p43 == false))) (by kernel_rfl)
                have hg0 := (iN hp43 (iOF (iN hp41 (iOF (iN hp39 (iNF iDT)) (iN hp40 (iNF iDT)))) (iN hp42 (iNF iDT)))).1 (eqF (andR hg))
                exact ⟨(hs.read 0 rfl), hr11, (add_zero' _).symm, by omega, by first | omega | (simp only [List.length_append, List.length_cons, List.length_nil, List.length_replicate, List.length_set, List.length_take, List.length_drop, List.length_map, List.length_reverse, List.length_range]; omega), hn24⟩)
            · exact One.index (t := 26) (e := 3) (size := 1) (v := fun G => numbersv) (k := .i64) (n := at_) (fun _ => ⟨by kernel_rfl⟩) (fun G w hs => by
                have hg := gd_of hs (p := (true && (p43 == false))) (by kernel_rfl)
                have hg0 := (iN hp43 (iOF (iN hp41 (iOF (iN hp39 (iNF iDT)) (iN hp40 (iNF iDT)))) (iN hp42 (iNF iDT)))).1 (eqF (andR hg))
                exact ⟨_, (hr14).isSl, by first | omega | (simp only [List.length_append, List.length_cons, List.length_nil, List.length_replicate, List.length_set, List.length_take, List.length_drop, List.length_map, List.length_reverse, List.length_range]; omega), by first | omega | (simp only [List.length_append, List.length_cons, List.length_nil, List.length_replicate, List.length_set, List.length_take, List.length_drop, List.length_map, List.length_reverse, List.length_range]; omega)⟩)
            · exact One.loadD (α := Int) (t := 3) (size := 1) (off := 0) (k := at_) (l := fun G => numbers) (x := fun G => n25) (vs := fun G => [.int .i64 n25]) (v := fun G => numbersv) (H := fun G => K2) (p := fun G => elemAddr numbersv (at_.toNat * 1)) (fun G => ⟨by kernel_rfl⟩) rfl (fun G => by kernel_rfl) (fun G w hs => by
                have hg := gd_of hs (p := (true && (p43 == false))) (by kernel_rfl)
                have hg0 := (iN hp43 (iOF (iN hp41 (iOF (iN hp39 (iNF iDT)) (iN hp40 (iNF iDT)))) (iN hp42 (iNF iDT)))).1 (eqF (andR hg))
                exact ⟨(hs.read 0 rfl), hr14, (add_zero' _).symm, by omega, by first | omega | (simp only [List.length_append, List.length_cons, List.length_nil, List.length_replicate, List.length_set, List.length_take, List.length_drop, List.length_map, List.length_reverse, List.length_range]; omega), hn25⟩)
            · exact One.bo hp44 (fun _ _ => by kernel_rfl)
            · subst hp45
              cases p43 <;> exact One.under fun _ _ _ => by kernel_rfl
            · exact One.index (t := 26) (e := 3) (size := 1) (v := fun G => blindsv) (k := .i64) (n := at_) (fun _ => ⟨by kernel_rfl⟩) (fun G w hs => by
                have hg := gd_of hs (p := (true && (p45 == false))) (by kernel_rfl)
                have hg0 := (iN hp45 (iOF (iN hp43 (iOF (iN hp41 (iOF (iN hp39 (iNF iDT)) (iN hp40 (iNF iDT)))) (iN hp42 (iNF iDT)))) (iN hp44 (iNF iDT)))).1 (eqF (andR hg))
                exact ⟨_, (hr12).isSl, by first | omega | (simp only [List.length_append, List.length_cons, List.length_nil, List.length_replicate, List.length_set, List.length_take, List.length_drop, List.length_map, List.length_reverse, List.length_range]; omega), by first | omega | (simp only [List.length_append, List.length_cons, List.length_nil, List.length_replicate, List.length_set, List.length_take, List.length_drop, List.length_map, List.length_reverse, List.length_range]; omega)⟩)
            · exact One.loadD (α := Int) (t := 3) (size := 1) (off := 0) (k := at_) (l := fun G => blinds) (x := fun G => n26) (vs := fun G => [.int .i64 n26]) (v := fun G => blindsv) (H := fun G => K2) (p := fun G => elemAddr blindsv (at_.toNat * 1)) (fun G => ⟨by kernel_rfl⟩) rfl (fun G => by kernel_rfl) (fun G w hs => by
                have hg := gd_of hs (p := (true && (p45 == false))) (by kernel_rfl)
                have hg0 := (iN hp45 (iOF (iN hp43 (iOF (iN hp41 (iOF (iN hp39 (iNF iDT)) (iN hp40 (iNF iDT)))) (iN hp42 (iNF iDT)))) (iN hp44 (iNF iDT)))).1 (eqF (andR hg))
                exact ⟨(hs.read 0 rfl), hr12, (add_zero' _).symm, by omega, by first | omega | (simp only [List.length_append, List.length_cons, List.length_nil, List.length_replicate, List.length_set, List.length_take, List.length_drop, List.length_map, List.length_reverse, List.length_range]; omega), hn26⟩)
            · exact One.index (t := 26) (e := 3) (size := 1) (v := fun G => ownsv) (k := .i64) (n := at_) (fun _ => ⟨by kernel_rfl⟩) (fun G w hs => by
                have hg := gd_of hs (p := (true && (p45 == false))) (by kernel_rfl)
                have hg0 := (iN hp45 (iOF (iN hp43 (iOF (iN hp41 (iOF (iN hp39 (iNF iDT)) (iN hp40 (iNF iDT)))) (iN hp42 (iNF iDT)))) (iN hp44 (iNF iDT)))).1 (eqF (andR hg))
                exact ⟨_, (hr15).isSl, by first | omega | (simp only [List.length_append, List.length_cons, List.length_nil, List.length_replicate, List.length_set, List.length_take, List.length_drop, List.length_map, List.length_reverse, List.length_range]; omega), by first | omega | (simp only [List.length_append, List.length_cons, List.length_nil, List.length_replicate, List.length_set, List.length_take, List.length_drop, List.length_map, List.length_reverse, List.length_range]; omega)⟩)
            · exact One.loadD (α := Int) (t := 3) (size := 1) (off := 0) (k := at_) (l := fun G => owns) (x := fun G => n27) (vs := fun G => [.int .i64 n27]) (v := fun G => ownsv) (H := fun G => K2) (p := fun G => elemAddr ownsv (at_.toNat * 1)) (fun G => ⟨by kernel_rfl⟩) rfl (fun G => by kernel_rfl) (fun G w hs => by
                have hg := gd_of hs (p := (true && (p45 == false))) (by kernel_rfl)
                have hg0 := (iN hp45 (iOF (iN hp43 (iOF (iN hp41 (iOF (iN hp39 (iNF iDT)) (iN hp40 (iNF iDT)))) (iN hp42 (iNF iDT)))) (iN hp44 (iNF iDT)))).1 (eqF (andR hg))
                exact ⟨(hs.read 0 rfl), hr15, (add_zero' _).symm, by omega, by first | omega | (simp only [List.length_append, List.length_cons, List.length_nil, List.length_replicate, List.length_set, List.length_take, List.length_drop, List.length_map, List.length_reverse, List.length_range]; omega), hn27⟩)
            · exact One.bo hp46 (fun _ _ => by kernel_rfl)
            · subst hp47
              cases p45 <;> exact One.under fun _ _ _ => by kernel_rfl
            intro G17 xa xw hDn
            refine hDn.to [7, 17, 18, 19, 20, 22, 231] [] (by kernel_rfl) ?_
            clear hDn
            refine Pre.conv (sl := [(7, .int .i64 at_), (17, .bool true), (18, .pointer (some ⟨b2, 0, none⟩)), (19, .int .i64 n7), (20, v1), (22, .pointer (some ⟨b3, 0, none⟩)), (231, .bool p47)]) (A := [K2]) (L := [some (b1, .cells #[vv] 24 (0, 0)), some (b2, .cells #[v2] 24 (0, 0)), some (b3, .cells #[v4] 24 (0, 0))]) ?_ (by kernel_rfl) (by kernel_rfl) (by kernel_rfl)
            clear G17
            refine At.then ?_
            refine W.cond p47 (by kernel_rfl) (fun xa hs => cnd_of (t := 231) (by kernel_rfl) (by kernel_rfl) hs) (fun hq => ?_) (fun hq => ?_)
            · skip
              have hq9 := hq
              replace hq9 := (iN hp47 (iOT (iN hp45 (iOT (iN hp43 (iOT (iN hp41 (iOT (iN hp39 (iNT iDF)) (iN hp40 (iNT iDF)))) (iN hp42 (iNT iDF)))) (iN hp44 (iNT iDF)))) (iN hp46 (iNT iDF)))).1 hq9
              refine W.seq (by kernel_rfl) ?_
              refine W.regV (hides_ct_r7_17 vv at_ b1 n7 b2 v1 v2 b3 v4 K2 p47) [0, 1] [] (fun G => [.bool true, .bool true]) (by kernel_rfl) mo_lf (by kernel_rfl) (fun _ _ => by kernel_rfl) trivial (by kernel_rfl) ?_
              intro G18 xa xw hDn
              refine hDn.to [16] [] (by kernel_rfl) ?_
              clear hDn
              refine Pre.conv (sl := [(16, .bool true)]) (A := [K2]) (L := [some (b1, .cells #[vv] 24 (0, 0)), some (b2, .cells #[v2] 24 (0, 0)), some (b3, .cells #[v4] 24 (0, 0))]) ?_ (by kernel_rfl) (by kernel_rfl) (by kernel_rfl)
              clear G18
              refine At.then ?_
              refine W.ret (by kernel_rfl) ?_
              refine At.thenRet ?_
              refine At.results (Or.inl rfl) (.bool true) (fun xa xw hs hw => results_one (r := .tmp 16) (by kernel_rfl) (res_tmp (t := 16) (by kernel_rfl) hs)) (fun w' hw => ?_)
              exact ⟨congrArg Ending.returned (rfl), hw.base⟩
            · skip
              have hq10 := hq
              replace hq10 := (iN hp47 (iOF (iN hp45 (iOF (iN hp43 (iOF (iN hp41 (iOF (iN hp39 (iNF iDT)) (iN hp40 (iNF iDT)))) (iN hp42 (iNF iDT)))) (iN hp44 (iNF iDT)))) (iN hp46 (iNF iDT)))).1 hq10
              refine W.skip (by kernel_rfl) ?_
              refine At.then ?_
              refine W.seq (by kernel_rfl) ?_
              obtain ⟨l5, hl5⟩ : ∃ zz : List Int, zz = (Tm.pathF l1 n7 n13) := ⟨_, rfl⟩
              refine W.regV (hides_ct_r7_18 w0 v vv at_ H b1 n7 b2 v1 v2 b3 v4 K2 n13 p47 l5) [1, 2, 3, 7] [0, 4, 5, 6] (fun G => [.int .i64 n7, v1, .int .i64 at_, (G 6).v]) (by kernel_rfl) mo_lf (by kernel_rfl) (fun _ _ => by kernel_rfl) ⟨?_, ?_, ?_, ?_, trivial⟩ (by kernel_rfl) ?_
              · exact One.loadE (t := 24) (r := 1) (off := 0) (b := fun G => b2) (vs := fun G => [v2]) (arr := fun G => #[v2]) (T := 24) (fr := (0, 0)) (fun G => ⟨by kernel_rfl⟩) (fun G => by kernel_rfl)
              · exact One.index (t := 26) (e := 3) (size := 1) (v := fun G => v1) (k := .i64) (n := at_) (fun _ => ⟨by kernel_rfl⟩) (fun G w hs => ⟨_, (hr16).isSl, by first | omega | (simp only [List.length_append, List.length_cons, List.length_nil, List.length_replicate, List.length_set, List.length_take, List.length_drop, List.length_map, List.length_reverse, List.length_range]; omega), by first | omega | (simp only [List.length_append, List.length_cons, List.length_nil, List.length_replicate, List.length_set, List.length_take, List.length_drop, List.length_map, List.length_reverse, List.length_range]; omega)⟩)
              · exact One.loadD (α := Int) (t := 3) (size := 1) (off := 0) (k := at_) (l := fun G => l2) (x := fun G => n13) (vs := fun G => [.int .i64 n13]) (v := fun G => v1) (H := fun G => K2) (p := fun G => elemAddr v1 (at_.toNat * 1)) (fun G => ⟨by kernel_rfl⟩) rfl (fun G => by kernel_rfl) (fun G w hs => ⟨(hs.read 0 rfl), hr16, (add_zero' _).symm, by omega, by first | omega | (simp only [List.length_append, List.length_cons, List.length_nil, List.length_replicate, List.length_set, List.length_take, List.length_drop, List.length_map, List.length_reverse, List.length_range]; omega), hn13⟩)
              · exact One.callM (f := 20) (args := fun G => #[.agg #[v2], .int .i64 n7, .int .i64 n13]) (H := fun G => K2) (V := fun G g => g.v) (F := fun G J g => RSl J l5 g.v) (fun G g w => ⟨by kernel_rfl, by kernel_rfl⟩) (fun G w hs => by
                  rw [hl5]
                  exact path_ct l1 v2 n7 n13 w K2 (hs.read 0 rfl) (hr19) )
              intro G19 xa xw hDn
              have hf6_9 : (RSl (hun (G19 6).H K2) l5 (G19 6).v) ∧ New w0 (G19 6).H := hDn.get 6 (by kernel_rfl) (by kernel_rfl) (by kernel_rfl)
              refine hDn.to [7, 17, 18, 19, 20, 22, 29] [6] (by kernel_rfl) ?_
              clear hDn
              refine Pre.conv (sl := [(7, .int .i64 at_), (17, .bool true), (18, .pointer (some ⟨b2, 0, none⟩)), (19, .int .i64 n7), (20, v1), (22, .pointer (some ⟨b3, 0, none⟩)), (29, (G19 6).v)]) (A := [(G19 6).H, K2]) (L := [some (b1, .cells #[vv] 24 (0, 0)), some (b2, .cells #[v2] 24 (0, 0)), some (b3, .cells #[v4] 24 (0, 0))]) ?_ (by kernel_rfl) (by kernel_rfl) (by kernel_rfl)
              generalize (G19 6).v = v5 at hf6_9 ⊢
              generalize (G19 6).H = N3 at hf6_9 ⊢
              clear G19
              refine Pre.merge (Ns := [N3]) hE2 (by simp only [List.mem_cons, List.not_mem_nil, or_false, forall_eq_or_imp, forall_eq]; exact hf6_9.2) (fun K3 hk5 hk6 hE3 => ?_)
              have hr21 := (hr16).mono hk5
              have hr21n := hr21.lim
              have hr22 := (hf6_9.1).mono (hun_sub (hk6 _ (by simp)) hk5)
              have hr22n := hr22.lim
              have hr23 := (hr18).mono hk5
              have hr23n := hr23.lim
              have hr24 := (hr19).mono hk5
              have hr24n := hr24.lim
              have hr25 := (hr20).mono hk5
              have hr25n := hr25.lim
              have hix := Tm.ids_get hLl (by omega) (by omega) hn13
              have hpl := Tm.pathF_len l1 n7 n13
              rw [← hl5] at hpl
              have hhd := Tm.hides hto he he2 (i := at_.toNat) (by omega) (by omega) (by omega) (by rw [show texts.getD at_.toNat default = s1 from hs1.symm, show others.getD at_.toNat default = s2 from hs2.symm]; exact hq10.1.1.2) (by rw [show values.getD at_.toNat default = n24 from hn24.symm, show numbers.getD at_.toNat default = n25 from hn25.symm]; exact hq10.1.2) (by rw [show blinds.getD at_.toNat default = n26 from hn26.symm, show owns.getD at_.toNat default = n27 from hn27.symm]; exact hq10.2) l5 (by rw [hl5, hix, hl1, hn7])
              rw [← hl1, ← hl3, ← hix, ← hn7] at hhd
              refine At.then ?_
              refine W.seq (by kernel_rfl) ?_
              obtain ⟨n28, hn28⟩ : ∃ zz : Int, zz = (l5.length : Int) := ⟨_, rfl⟩
              obtain ⟨p48, hp48⟩ : ∃ zz : Bool, zz = decide (0 < n28) := ⟨_, rfl⟩
              obtain ⟨l6, hl6⟩ : ∃ zz : List DThing, zz = (Tm.viewF l1 l5) := ⟨_, rfl⟩
              obtain ⟨l7, hl7⟩ : ∃ zz : List DThing, zz = (Tm.viewF l3 l5) := ⟨_, rfl⟩
              obtain ⟨p49, hp49⟩ : ∃ zz : Bool, zz = (decide (l6 = l7)) := ⟨_, rfl⟩
              obtain ⟨p50, hp50⟩ : ∃ zz : Bool, zz = (p48 && p49) := ⟨_, rfl⟩
              obtain ⟨l8, hl8⟩ : ∃ zz : List Int, zz = (Tm.pathF l3 n7 n13) := ⟨_, rfl⟩
              obtain ⟨p51, hp51⟩ : ∃ zz : Bool, zz = (decide (l5 = l8)) := ⟨_, rfl⟩
              obtain ⟨p52, hp52⟩ : ∃ zz : Bool, zz = (p50 && p51) := ⟨_, rfl⟩
              refine W.regV (hides_ct_r7_19 w0 v vv at_ H b1 n7 b2 v1 v2 b3 v4 n13 v5 K3 n28 p48 l6 l7 p49 p50 l8 p51 p52) [0, 1, 2, 5, 6, 8, 11, 15, 16, 18, 19, 20, 26] [3, 4, 7, 9, 10, 12, 13, 14, 17, 21, 22, 23, 24, 25] (fun G => [.bool true, .bool true, v5, .bool p48, .bool p48, v5, v5, .bool p50, v5, .int .i64 n7, v1, .int .i64 at_, .bool p52]) (by kernel_rfl) mo_lf (by kernel_rfl) (fun _ _ => by kernel_rfl) ⟨?_, ?_, ?_, ?_, ?_, ?_, ?_, ?_, ?_, ?_, ?_, ?_, ?_, ?_, trivial⟩ (by kernel_rfl) ?_
              · exact One.len (t := 26) (n := n28) (v := fun G => v5) (fun _ => ⟨by kernel_rfl⟩) (fun G w hs => by
                  have hg := gd_of hs (p := (true && (true == true))) (by kernel_rfl)
                  exact ⟨_, (hr22).isSl, hn28⟩)
              · exact One.bo hp48 (fun _ _ => by kernel_rfl)
              · exact One.loadE (t := 24) (r := 1) (off := 0) (b := fun G => b2) (vs := fun G => [v2]) (arr := fun G => #[v2]) (T := 24) (fr := (0, 0)) (fun G => ⟨by kernel_rfl⟩) (fun G => by kernel_rfl)
              · exact One.callM (f := 22) (args := fun G => #[.agg #[v2], v5]) (H := fun G => K3) (V := fun G g => g.v) (F := fun G J g => RSl J l6 g.v) (fun G g w => ⟨by kernel_rfl, by kernel_rfl⟩) (fun G w hs => by
                  have hg := gd_of hs (p := (true && (p48 == true))) (by kernel_rfl)
                  have hg0 := (iN hp48 iDT).1 (eqT (andR hg))
                  rw [hl6]
                  exact view_ct l1 v2 l5 v5 w K3 (hs.read 0 rfl) (hr24) (hr22) (by omega))
              · exact One.loadE (t := 24) (r := 2) (off := 0) (b := fun G => b3) (vs := fun G => [v4]) (arr := fun G => #[v4]) (T := 24) (fr := (0, 0)) (fun G => ⟨by kernel_rfl⟩) (fun G => by kernel_rfl)
              · exact One.callM (f := 22) (args := fun G => #[.agg #[v4], v5]) (H := fun G => K3) (V := fun G g => g.v) (F := fun G J g => RSl J l7 g.v) (fun G g w => ⟨by kernel_rfl, by kernel_rfl⟩) (fun G w hs => by
                  have hg := gd_of hs (p := (true && (p48 == true))) (by kernel_rfl)
                  have hg0 := (iN hp48 iDT).1 (eqT (andR hg))
                  rw [hl7]
                  exact view_ct l3 v4 l5 v5 w K3 (hs.read 0 rfl) (hr25) (hr22) (by omega))
              · exact One.callP (v := fun G => .bool p49) (f := 18) (args := fun G => #[(G 9).v, (G 12).v]) (fun _ _ => by kernel_rfl) (fun G w hs => by
                  have hg := gd_of hs (p := (true && (p48 == true))) (by kernel_rfl)
                  have hg0 := (iN hp48 iDT).1 (eqT (andR hg))
                  have ho9 : (RSl (hun (G 9).H K3) l6 (G 9).v) ∧ New w0 (G 9).H := hs.get 9 (by kernel_rfl) (p := (true && (p48 == true))) (by kernel_rfl) hg (by kernel_rfl)
                  have ho12 : (RSl (hun (G 12).H K3) l7 (G 12).v) ∧ New w0 (G 12).H := hs.get 12 (by kernel_rfl) (p := (true && (p48 == true))) (by kernel_rfl) hg (by kernel_rfl)
                  rw [hp49]
                  exact same_ct l6 ((G 9).v) l7 ((G 12).v) w ((hun (hun (G 9).H K3) (hun (G 12).H K3))) (hun_agrees (hun_agrees (hs.heap 9 (by kernel_rfl)) (hs.read 0 rfl)) (hun_agrees (hs.heap 12 (by kernel_rfl)) (hs.read 0 rfl))) (((ho9.1).mono hun_left)) (((ho12.1).mono (hun_right (hun_agrees (hs.heap 9 (by kernel_rfl)) (hs.read 0 rfl)) (hun_agrees (hs.heap 12 (by kernel_rfl)) (hs.read 0 rfl))))) )
              · subst hp50
                cases p48 <;> exact One.under fun _ _ _ => by kernel_rfl
              · exact One.loadE (t := 24) (r := 2) (off := 0) (b := fun G => b3) (vs := fun G => [v4]) (arr := fun G => #[v4]) (T := 24) (fr := (0, 0)) (fun G => ⟨by kernel_rfl⟩) (fun G => by kernel_rfl)
              · exact One.index (t := 26) (e := 3) (size := 1) (v := fun G => v1) (k := .i64) (n := at_) (fun _ => ⟨by kernel_rfl⟩) (fun G w hs => by
                  have hg := gd_of hs (p := (true && (p50 == true))) (by kernel_rfl)
                  have hg0 := (iN hp50 (iAT (iN hp48 iDT) (iN hp49 iDT))).1 (eqT (andR hg))
                  exact ⟨_, (hr21).isSl, by first | omega | (simp only [List.length_append, List.length_cons, List.length_nil, List.length_replicate, List.length_set, List.length_take, List.length_drop, List.length_map, List.length_reverse, List.length_range]; omega), by first | omega | (simp only [List.length_append, List.length_cons, List.length_nil, List.length_replicate, List.length_set, List.length_take, List.length_drop, List.length_map, List.length_reverse, List.length_range]; omega)⟩)
              · exact One.loadD (α := Int) (t := 3) (size := 1) (off := 0) (k := at_) (l := fun G => l2) (x := fun G => n13) (vs := fun G => [.int .i64 n13]) (v := fun G => v1) (H := fun G => K3) (p := fun G => elemAddr v1 (at_.toNat * 1)) (fun G => ⟨by kernel_rfl⟩) rfl (fun G => by kernel_rfl) (fun G w hs => by
                  have hg := gd_of hs (p := (true && (p50 == true))) (by kernel_rfl)
                  have hg0 := (iN hp50 (iAT (iN hp48 iDT) (iN hp49 iDT))).1 (eqT (andR hg))
                  exact ⟨(hs.read 0 rfl), hr21, (add_zero' _).symm, by omega, by first | omega | (simp only [List.length_append, List.length_cons, List.length_nil, List.length_replicate, List.length_set, List.length_take, List.length_drop, List.length_map, List.length_reverse, List.length_range]; omega), hn13⟩)
              · exact One.callM (f := 20) (args := fun G => #[.agg #[v4], .int .i64 n7, .int .i64 n13]) (H := fun G => K3) (V := fun G g => g.v) (F := fun G J g => RSl J l8 g.v) (fun G g w => ⟨by kernel_rfl, by kernel_rfl⟩) (fun G w hs => by
                  have hg := gd_of hs (p := (true && (p50 == true))) (by kernel_rfl)
                  have hg0 := (iN hp50 (iAT (iN hp48 iDT) (iN hp49 iDT))).1 (eqT (andR hg))
                  rw [hl8]
                  exact path_ct l3 v4 n7 n13 w K3 (hs.read 0 rfl) (hr25) )
              · exact One.callP (v := fun G => .bool p51) (f := 19) (args := fun G => #[v5, (G 23).v]) (fun _ _ => by kernel_rfl) (fun G w hs => by
                  have hg := gd_of hs (p := (true && (p50 == true))) (by kernel_rfl)
                  have hg0 := (iN hp50 (iAT (iN hp48 iDT) (iN hp49 iDT))).1 (eqT (andR hg))
                  have ho23 : (RSl (hun (G 23).H K3) l8 (G 23).v) ∧ New w0 (G 23).H := hs.get 23 (by kernel_rfl) (p := (true && (p50 == true))) (by kernel_rfl) hg (by kernel_rfl)
                  rw [hp51]
                  exact samei_ct l5 v5 l8 ((G 23).v) w ((hun (G 23).H K3)) (hun_agrees (hs.heap 23 (by kernel_rfl)) (hs.read 0 rfl)) (((hr22).mono (hun_right (hs.heap 23 (by kernel_rfl)) (hs.read 0 rfl)))) (ho23.1) )
              · subst hp52
                cases p50 <;> exact One.under fun _ _ _ => by kernel_rfl
              intro G20 xa xw hDn
              refine hDn.to [16] [] (by kernel_rfl) ?_
              clear hDn
              refine Pre.conv (sl := [(16, .bool p52)]) (A := [K3]) (L := [some (b1, .cells #[vv] 24 (0, 0)), some (b2, .cells #[v2] 24 (0, 0)), some (b3, .cells #[v4] 24 (0, 0))]) ?_ (by kernel_rfl) (by kernel_rfl) (by kernel_rfl)
              clear G20
              refine At.then ?_
              refine W.ret (by kernel_rfl) ?_
              refine At.results (Or.inl rfl) (.bool p52) (fun xa xw hs hw => results_one (r := .tmp 16) (by kernel_rfl) (res_tmp (t := 16) (by kernel_rfl) hs)) (fun w' hw => ?_)
              have e0 : p52 = true := by
                rw [(iN hp52 (iAT (iN hp50 (iAT (iN hp48 iDT) (iN hp49 iDT))) (iN hp51 iDT)))]
                refine ⟨⟨?_, ?_⟩, ?_⟩
                · have := hhd.1; omega
                · rw [hl6, hl7]; exact hhd.2.2
                · rw [hl8]; exact hhd.2.1
              exact ⟨congrArg Ending.returned (cong1 (fun (x0 : Bool) => (.bool x0 : Value)) e0), hw.base⟩

end Kb
