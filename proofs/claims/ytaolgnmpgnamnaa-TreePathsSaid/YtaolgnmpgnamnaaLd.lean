/- Law: paths. -/
import Derived.Test.YtaolgnmpgnamnaaLa
import Derived.Test.YtaolgnmpgnamnaaTr
set_option linter.unusedVariables false
set_option linter.unusedSimpArgs false
namespace Kb
open Go Go.Proofs
theorem mo_ld : Try.prog.follows .mixedOrders = true := by kernel_rfl
noncomputable def paths_ct_r6_0 (vv : Value) (root leaf : Int) (H : Heaplet) : RC := { ops := opsAt Try.f6 0, B := [0, 0], sl := [(0, .agg #[vv]), (1, .int .i64 root), (2, .int .i64 leaf)], A := [H], L := [none, none], cs := [{ val := fun G => .pointer (some ⟨(G 0).b, 0, none⟩), ups := [(0, fun G => some ((G 0).b, .cells #[vv] 24 (0, 0)))] }, { val := fun _ => .bool false }] }
noncomputable def paths_ct_r6_1 (vv : Value) (root leaf : Int) (H : Heaplet) (b1 : Nat) : RC := { ops := opsAt Try.f6 1, B := [0, 1], sl := [(1, .int .i64 root), (2, .int .i64 leaf), (3, .pointer (some ⟨b1, 0, none⟩))], A := [H], L := [some (b1, .cells #[vv] 24 (0, 0)), none], cs := [{ val := fun _ => .bool true }, { val := fun _ => .bool true }] }
noncomputable def paths_ct_r6_2 (vv : Value) (root leaf : Int) (H : Heaplet) (b1 : Nat) (p1 : Bool) : RC := { ops := opsAt Try.f6 2, B := [0, 1, 3], sl := [(1, .int .i64 root), (2, .int .i64 leaf), (3, .pointer (some ⟨b1, 0, none⟩)), (7, .bool true)], A := [H], L := [some (b1, .cells #[vv] 24 (0, 0)), none], cs := [{ val := fun _ => .agg #[vv], rds := [0] }, { val := fun _ => .bool p1 }, { val := fun _ => .bool (!p1) }] }
noncomputable def paths_ct_r6_3 (vv : Value) (root leaf : Int) (H : Heaplet) (b1 : Nat) (p1 : Bool) : RC := { ops := opsAt Try.f6 3, B := [0, 1], sl := [(1, .int .i64 root), (2, .int .i64 leaf), (3, .pointer (some ⟨b1, 0, none⟩)), (7, .bool true), (15, .bool (!p1))], A := [H], L := [some (b1, .cells #[vv] 24 (0, 0)), none], cs := [{ val := fun _ => .bool true }, { val := fun _ => .bool true }] }
noncomputable def paths_ct_r6_4 (w0 : World) (v : List DThing) (vv : Value) (root leaf : Int) (H : Heaplet) (b1 : Nat) (p1 : Bool) (l1 : List Int) : RC := { ops := opsAt Try.f6 4, B := [0, 0, 0, 7, 15], sl := [(1, .int .i64 root), (2, .int .i64 leaf), (3, .pointer (some ⟨b1, 0, none⟩)), (7, .bool true), (15, .bool (!p1))], A := [H], L := [some (b1, .cells #[vv] 24 (0, 0)), none], cs := [{ val := fun _ => .agg #[vv], rds := [0] }, { val := fun _ => .int .i64 root }, { val := fun _ => .int .i64 leaf }, { val := fun G => (G 3).v, fact := fun G => (RSl (hun (G 3).H H) l1 (G 3).v) ∧ New w0 (G 3).H }, { val := fun G => (G 3).v }] }
noncomputable def paths_ct_r6_5 (w0 : World) (v : List DThing) (vv : Value) (root leaf : Int) (H : Heaplet) (b1 : Nat) (v1 : Value) (K1 : Heaplet) (l2 : List DThing) : RC := { ops := opsAt Try.f6 5, B := [0, 0, 3, 7], sl := [(1, .int .i64 root), (2, .int .i64 leaf), (3, .pointer (some ⟨b1, 0, none⟩)), (7, .bool true), (8, v1)], A := [K1], L := [some (b1, .cells #[vv] 24 (0, 0)), none], cs := [{ val := fun _ => .agg #[vv], rds := [0] }, { val := fun _ => v1 }, { val := fun G => (G 2).v, fact := fun G => (RSl (hun (G 2).H K1) l2 (G 2).v) ∧ New w0 (G 2).H }, { val := fun G => (G 2).v }] }
noncomputable def paths_ct_r6_6 (vv : Value) (root leaf : Int) (b1 : Nat) (v1 v2 : Value) (K2 : Heaplet) (p2 p3 p4 : Bool) (n1 : Int) (p5 p6 p7 p8 p9 p10 : Bool) : RC := { ops := opsAt Try.f6 6, B := [0, 1, 3, 7, 15, 31, 63, 127, 255, 255, 767, 1791, 4095, 8191, 16383, 32767, 65535, 131071, 262143, 524287, 524287, 1572863, 3670015, 8388607, 16777215], sl := [(1, .int .i64 root), (2, .int .i64 leaf), (3, .pointer (some ⟨b1, 0, none⟩)), (7, .bool true), (8, v1), (9, v2)], A := [K2], L := [some (b1, .cells #[vv] 24 (0, 0)), none], cs := [{ val := fun _ => .agg #[vv], rds := [0] }, { val := fun _ => .bool p2 }, { val := fun _ => .bool (!p2) }, { val := fun _ => .bool (!p2) }, { val := fun _ => .int .i64 root }, { val := fun _ => .bool p3 }, { val := fun _ => .bool p4 }, { val := fun _ => .bool p4 }, { val := fun _ => .int .i64 root }, { val := fun _ => .pointer (some ⟨b1, 0, none⟩) }, { val := fun _ => vv, rds := [0] }, { val := fun _ => .int .i64 n1 }, { val := fun _ => .bool p5 }, { val := fun _ => .bool p6 }, { val := fun _ => .bool p6 }, { val := fun _ => .int .i64 leaf }, { val := fun _ => .bool p7 }, { val := fun _ => .bool p8 }, { val := fun _ => .bool p8 }, { val := fun _ => .int .i64 leaf }, { val := fun _ => .pointer (some ⟨b1, 0, none⟩) }, { val := fun _ => vv, rds := [0] }, { val := fun _ => .int .i64 n1 }, { val := fun _ => .bool p9 }, { val := fun _ => .bool p10 }] }
noncomputable def paths_ct_r6_7 (vv : Value) (root leaf : Int) (b1 : Nat) (v1 v2 : Value) (K2 : Heaplet) (p10 : Bool) (n2 : Int) (p11 : Bool) (n3 : Int) (p12 p13 : Bool) : RC := { ops := opsAt Try.f6 7, B := [0, 1, 3, 7, 15, 31, 63, 127, 255, 511, 1023, 2047], sl := [(1, .int .i64 root), (2, .int .i64 leaf), (3, .pointer (some ⟨b1, 0, none⟩)), (7, .bool true), (8, v1), (9, v2), (48, .bool p10)], A := [K2], L := [some (b1, .cells #[vv] 24 (0, 0)), none], cs := [{ val := fun _ => .bool true }, { val := fun _ => .bool true }, { val := fun _ => v1 }, { val := fun _ => .int .i64 n2 }, { val := fun _ => .bool p11 }, { val := fun _ => .bool p11 }, { val := fun _ => .bool p11 }, { val := fun _ => v2 }, { val := fun _ => .int .i64 n3 }, { val := fun _ => .bool p12 }, { val := fun _ => .bool p13 }, { val := fun _ => .bool p13 }] }
noncomputable def paths_ct_r6_8 (vv : Value) (root leaf : Int) (b1 : Nat) (v1 v2 : Value) (K2 : Heaplet) (p10 : Bool) (x1 : DThing) : RC := { ops := opsAt Try.f6 8, B := [0, 1, 0, 7, 15, 0, 63], sl := [(1, .int .i64 root), (2, .int .i64 leaf), (3, .pointer (some ⟨b1, 0, none⟩)), (7, .bool true), (8, v1), (9, v2), (48, .bool p10)], A := [K2], L := [some (b1, .cells #[vv] 24 (0, 0)), none], cs := [{ val := fun _ => .pointer (some ⟨b1, 0, none⟩) }, { val := fun _ => vv, rds := [0] }, { val := fun _ => .int .i64 root }, { val := fun _ => .pointer (some (elemAddr vv (root.toNat * 5))) }, { val := fun _ => .agg #[.string x1.Text, .int .i64 x1.Value, .int .i64 x1.Blind, .int .i64 x1.Left, .int .i64 x1.Right] }, { val := fun G => .pointer (some ⟨(G 5).b, 0, none⟩), ups := [(1, fun G => some ((G 5).b, .cells #[.string ByteArray.empty, .int .i64 0, .int .i64 0, .int .i64 0, .int .i64 0] 44 (0, 0)))] }, { val := fun _ => undef, ups := [(1, fun G => some ((G 5).b, .cells #[.string x1.Text, .int .i64 x1.Value, .int .i64 x1.Blind, .int .i64 x1.Left, .int .i64 x1.Right] 44 (0, 0)))] }] }
noncomputable def paths_ct_r6_9 (vv : Value) (root leaf : Int) (b1 : Nat) (v1 v2 : Value) (K2 : Heaplet) (x1 : DThing) (b2 : Nat) (n4 : Int) (p14 : Bool) : RC := { ops := opsAt Try.f6 9, B := [0, 1, 3], sl := [(1, .int .i64 root), (2, .int .i64 leaf), (3, .pointer (some ⟨b1, 0, none⟩)), (7, .bool true), (8, v1), (9, v2), (10, .pointer (some ⟨b2, 0, none⟩))], A := [K2], L := [some (b1, .cells #[vv] 24 (0, 0)), some (b2, .cells #[.string x1.Text, .int .i64 x1.Value, .int .i64 x1.Blind, .int .i64 x1.Left, .int .i64 x1.Right] 44 (0, 0))], cs := [{ val := fun _ => v1 }, { val := fun _ => .int .i64 n4 }, { val := fun _ => .bool p14 }] }
noncomputable def paths_ct_r6_10 (w0 : World) (v : List DThing) (vv : Value) (root leaf : Int) (H : Heaplet) (b1 : Nat) (v1 v2 : Value) (K2 : Heaplet) (x1 : DThing) (b2 : Nat) (p14 p15 : Bool) (n5 : Int) (p16 p17 : Bool) (l3 : List Int) (n6 : Int) (p18 p19 : Bool) (l4 : List Int) (n7 : Int) (p20 p21 : Bool) : RC := { ops := opsAt Try.f6 10, B := [0, 1, 3, 3, 15, 31, 63, 127, 255, 511, 1023, 2047, 4095, 4095, 12287, 4095, 65535, 131071, 262143, 524287, 1048575, 2097151, 2097151, 6291455, 2097151, 33554431, 67108863, 134217727, 268435455, 536870911], sl := [(1, .int .i64 root), (2, .int .i64 leaf), (3, .pointer (some ⟨b1, 0, none⟩)), (7, .bool true), (8, v1), (9, v2), (10, .pointer (some ⟨b2, 0, none⟩)), (67, .bool p14)], A := [K2], L := [some (b1, .cells #[vv] 24 (0, 0)), some (b2, .cells #[.string x1.Text, .int .i64 x1.Value, .int .i64 x1.Blind, .int .i64 x1.Left, .int .i64 x1.Right] 44 (0, 0))], cs := [{ val := fun _ => .bool true }, { val := fun _ => .bool true }, { val := fun _ => .int .i64 root }, { val := fun _ => .int .i64 leaf }, { val := fun _ => .bool p15 }, { val := fun _ => .bool p15 }, { val := fun _ => .bool p15 }, { val := fun _ => v2 }, { val := fun _ => .int .i64 n5 }, { val := fun _ => .bool p16 }, { val := fun _ => .bool p17 }, { val := fun _ => .bool p17 }, { val := fun _ => .agg #[vv], rds := [0] }, { val := fun _ => .pointer (some ⟨b2, 3, none⟩) }, { val := fun _ => .int .i64 x1.Left, rds := [1] }, { val := fun _ => .int .i64 leaf }, { val := fun G => (G 16).v, fact := fun G => (RSl (hun (G 16).H K2) l3 (G 16).v) ∧ New w0 (G 16).H }, { val := fun _ => .int .i64 n6 }, { val := fun _ => .bool p18 }, { val := fun _ => .bool p19 }, { val := fun _ => .bool p19 }, { val := fun _ => .agg #[vv], rds := [0] }, { val := fun _ => .pointer (some ⟨b2, 4, none⟩) }, { val := fun _ => .int .i64 x1.Right, rds := [1] }, { val := fun _ => .int .i64 leaf }, { val := fun G => (G 25).v, fact := fun G => (RSl (hun (G 25).H K2) l4 (G 25).v) ∧ New w0 (G 25).H }, { val := fun _ => .int .i64 n7 }, { val := fun _ => .bool p20 }, { val := fun _ => .bool p21 }, { val := fun _ => .bool p21 }] }
noncomputable def paths_ct_r6_11 (vv : Value) (root leaf : Int) (b1 : Nat) (v1 v2 : Value) (K2 : Heaplet) (x1 : DThing) (b2 : Nat) (n4 : Int) (p14 : Bool) (n8 : Int) (p22 : Bool) (n9 n10 : Int) (p23 p24 : Bool) (n11 : Int) (p25 p26 : Bool) : RC := { ops := opsAt Try.f6 11, B := [0, 1, 3, 0, 15, 31, 63, 63, 191, 447, 1023, 2047, 63, 8191, 16383, 32767, 65535, 131071, 65535, 327679, 1048575, 2097151], sl := [(1, .int .i64 root), (2, .int .i64 leaf), (3, .pointer (some ⟨b1, 0, none⟩)), (7, .bool true), (8, v1), (9, v2), (10, .pointer (some ⟨b2, 0, none⟩)), (67, .bool p14)], A := [K2], L := [some (b1, .cells #[vv] 24 (0, 0)), some (b2, .cells #[.string x1.Text, .int .i64 x1.Value, .int .i64 x1.Blind, .int .i64 x1.Left, .int .i64 x1.Right] 44 (0, 0))], cs := [{ val := fun _ => v1 }, { val := fun _ => .pointer (some (elemAddr v1 ((0 : Int).toNat * 1))) }, { val := fun _ => .int .i64 n8 }, { val := fun _ => .int .i64 root }, { val := fun _ => .bool p22 }, { val := fun _ => .bool p22 }, { val := fun _ => v1 }, { val := fun _ => v1 }, { val := fun _ => .int .i64 n4 }, { val := fun _ => .int .i64 n9 }, { val := fun _ => .pointer (some (elemAddr v1 (n9.toNat * 1))) }, { val := fun _ => .int .i64 n10 }, { val := fun _ => .int .i64 leaf }, { val := fun _ => .bool p23 }, { val := fun _ => .bool p24 }, { val := fun _ => .bool p24 }, { val := fun _ => v2 }, { val := fun _ => .int .i64 n11 }, { val := fun _ => v1 }, { val := fun _ => .int .i64 n4 }, { val := fun _ => .bool p25 }, { val := fun _ => .bool p26 }] }
noncomputable def paths_ct_r6_12 (vv : Value) (root leaf : Int) (b1 : Nat) (v1 v2 : Value) (K2 : Heaplet) (x1 : DThing) (b2 : Nat) (p26 : Bool) : RC := { ops := opsAt Try.f6 13, B := [0], sl := [(1, .int .i64 root), (2, .int .i64 leaf), (3, .pointer (some ⟨b1, 0, none⟩)), (7, .bool true), (8, v1), (9, v2), (118, .bool p26)], A := [K2], L := [some (b1, .cells #[vv] 24 (0, 0)), some (b2, .cells #[.string x1.Text, .int .i64 x1.Value, .int .i64 x1.Blind, .int .i64 x1.Left, .int .i64 x1.Right] 44 (0, 0))], cs := [{ val := fun _ => .int .i64 0 }] }
noncomputable def paths_ct_r6_13 (vv : Value) (root leaf : Int) (b1 : Nat) (v1 v2 : Value) (K2 : Heaplet) (x1 : DThing) (b2 : Nat) (n4 i : Int) (p27 : Bool) : RC := { ops := opsAt Try.f6 14, B := [0, 0, 2, 7], sl := [(1, .int .i64 root), (2, .int .i64 leaf), (3, .pointer (some ⟨b1, 0, none⟩)), (7, .bool true), (8, v1), (9, v2), (11, .int .i64 i)], A := [K2], L := [some (b1, .cells #[vv] 24 (0, 0)), some (b2, .cells #[.string x1.Text, .int .i64 x1.Value, .int .i64 x1.Blind, .int .i64 x1.Left, .int .i64 x1.Right] 44 (0, 0))], cs := [{ val := fun _ => .int .i64 i }, { val := fun _ => v1 }, { val := fun _ => .int .i64 n4 }, { val := fun _ => .bool p27 }] }
noncomputable def paths_ct_r6_14 (vv : Value) (root leaf : Int) (b1 : Nat) (v1 v2 : Value) (K2 : Heaplet) (n1 : Int) (x1 : DThing) (b2 : Nat) (i : Int) (p27 : Bool) (n12 : Int) (p28 p29 p30 : Bool) : RC := { ops := opsAt Try.f6 16, B := [0, 0, 3, 7, 15, 31, 63, 63, 255, 511, 63, 1087, 3135, 8191, 16383], sl := [(1, .int .i64 root), (2, .int .i64 leaf), (3, .pointer (some ⟨b1, 0, none⟩)), (7, .bool true), (8, v1), (9, v2), (11, .int .i64 i), (122, .bool p27)], A := [K2], L := [some (b1, .cells #[vv] 24 (0, 0)), some (b2, .cells #[.string x1.Text, .int .i64 x1.Value, .int .i64 x1.Blind, .int .i64 x1.Left, .int .i64 x1.Right] 44 (0, 0))], cs := [{ val := fun _ => v1 }, { val := fun _ => .int .i64 i }, { val := fun _ => .pointer (some (elemAddr v1 (i.toNat * 1))) }, { val := fun _ => .int .i64 n12 }, { val := fun _ => .bool p28 }, { val := fun _ => .bool p28 }, { val := fun _ => v1 }, { val := fun _ => .int .i64 i }, { val := fun _ => .pointer (some (elemAddr v1 (i.toNat * 1))) }, { val := fun _ => .int .i64 n12 }, { val := fun _ => .pointer (some ⟨b1, 0, none⟩) }, { val := fun _ => vv, rds := [0] }, { val := fun _ => .int .i64 n1 }, { val := fun _ => .bool p29 }, { val := fun _ => .bool p30 }] }
noncomputable def paths_ct_r6_15 (vv : Value) (root leaf : Int) (b1 : Nat) (v1 v2 : Value) (K2 : Heaplet) (x1 : DThing) (b2 : Nat) (n4 n9 i n12 : Int) (p30 : Bool) (x2 x3 : DThing) (p31 p32 p33 p34 p35 p36 p37 p38 p39 : Bool) : RC := { ops := opsAt Try.f6 18, B := [0, 0, 3, 7, 15, 0, 32, 0, 0, 384, 896, 2016, 4064, 8160, 16383, 32767, 65535, 65535, 262143, 524287, 1048575, 65535, 2162687, 65535, 65535, 25231359, 58785791, 132186111, 266403839, 534839295, 1073741823, 2147483647, 4294967295, 8589934591, 17179869183, 34359738367, 68719476735, 68719476735, 206158430207, 481036337151, 1099511627775, 2199023255551, 4398046511103, 8796093022207, 8796093022207, 35184372088831, 70368744177663, 140737488355327, 281474976710655, 562949953421311, 1125899906842623], sl := [(1, .int .i64 root), (2, .int .i64 leaf), (3, .pointer (some ⟨b1, 0, none⟩)), (7, .bool true), (8, v1), (9, v2), (11, .int .i64 i), (139, .bool p30)], A := [K2], L := [some (b1, .cells #[vv] 24 (0, 0)), some (b2, .cells #[.string x1.Text, .int .i64 x1.Value, .int .i64 x1.Blind, .int .i64 x1.Left, .int .i64 x1.Right] 44 (0, 0))], cs := [{ val := fun _ => v2 }, { val := fun _ => .int .i64 i }, { val := fun _ => .pointer (some (elemAddr v2 (i.toNat * 5))) }, { val := fun _ => .pointer (some ((elemAddr v2 (i.toNat * 5)).add 3)) }, { val := fun _ => .int .i64 x2.Left }, { val := fun _ => .pointer (some ⟨b1, 0, none⟩) }, { val := fun _ => vv, rds := [0] }, { val := fun _ => v1 }, { val := fun _ => .int .i64 i }, { val := fun _ => .pointer (some (elemAddr v1 (i.toNat * 1))) }, { val := fun _ => .int .i64 n12 }, { val := fun _ => .pointer (some (elemAddr vv (n12.toNat * 5))) }, { val := fun _ => .pointer (some ((elemAddr vv (n12.toNat * 5)).add 3)) }, { val := fun _ => .int .i64 x3.Left }, { val := fun _ => .bool p31 }, { val := fun _ => .bool p31 }, { val := fun _ => v2 }, { val := fun _ => .int .i64 i }, { val := fun _ => .pointer (some (elemAddr v2 (i.toNat * 5))) }, { val := fun _ => .pointer (some ((elemAddr v2 (i.toNat * 5)).add 4)) }, { val := fun _ => .int .i64 x2.Right }, { val := fun _ => .pointer (some ⟨b1, 0, none⟩) }, { val := fun _ => vv, rds := [0] }, { val := fun _ => v1 }, { val := fun _ => .int .i64 i }, { val := fun _ => .pointer (some (elemAddr v1 (i.toNat * 1))) }, { val := fun _ => .int .i64 n12 }, { val := fun _ => .pointer (some (elemAddr vv (n12.toNat * 5))) }, { val := fun _ => .pointer (some ((elemAddr vv (n12.toNat * 5)).add 4)) }, { val := fun _ => .int .i64 x3.Right }, { val := fun _ => .bool p32 }, { val := fun _ => .bool p33 }, { val := fun _ => .bool p33 }, { val := fun _ => .int .i64 i }, { val := fun _ => .bool p34 }, { val := fun _ => .bool p34 }, { val := fun _ => .int .i64 i }, { val := fun _ => v1 }, { val := fun _ => .int .i64 n4 }, { val := fun _ => .int .i64 n9 }, { val := fun _ => .bool p35 }, { val := fun _ => .bool p36 }, { val := fun _ => .bool p36 }, { val := fun _ => v2 }, { val := fun _ => .int .i64 i }, { val := fun _ => .pointer (some (elemAddr v2 (i.toNat * 5))) }, { val := fun _ => .pointer (some ((elemAddr v2 (i.toNat * 5)).add 1)) }, { val := fun _ => .int .i64 x2.Value }, { val := fun _ => .bool p37 }, { val := fun _ => .bool p38 }, { val := fun _ => .bool p39 }] }
noncomputable def paths_ct_r6_16 (vv : Value) (root leaf : Int) (b1 : Nat) (v1 v2 : Value) (K2 : Heaplet) (x1 : DThing) (b2 : Nat) (i n12 : Int) (p34 p39 : Bool) (n13 n14 : Int) (x4 : DThing) (p40 p41 p42 p43 : Bool) : RC := { ops := opsAt Try.f6 20, B := [0, 1, 3, 7, 7, 23, 55, 127, 255, 511, 7, 7, 3079, 7175, 16383, 32767, 65535, 131071, 131071, 393215, 917503, 2097151, 4194303, 8388607, 131071, 131071, 50462719, 117571583, 268435455, 536870911], sl := [(1, .int .i64 root), (2, .int .i64 leaf), (3, .pointer (some ⟨b1, 0, none⟩)), (7, .bool true), (8, v1), (9, v2), (11, .int .i64 i), (190, .bool p39)], A := [K2], L := [some (b1, .cells #[vv] 24 (0, 0)), some (b2, .cells #[.string x1.Text, .int .i64 x1.Value, .int .i64 x1.Blind, .int .i64 x1.Left, .int .i64 x1.Right] 44 (0, 0))], cs := [{ val := fun _ => .int .i64 i }, { val := fun _ => .bool p34 }, { val := fun _ => .bool p34 }, { val := fun _ => v2 }, { val := fun _ => .int .i64 i }, { val := fun _ => .int .i64 n13 }, { val := fun _ => .int .i64 n14 }, { val := fun _ => .pointer (some (elemAddr v2 (n14.toNat * 5))) }, { val := fun _ => .pointer (some ((elemAddr v2 (n14.toNat * 5)).add 3)) }, { val := fun _ => .int .i64 x4.Left }, { val := fun _ => v1 }, { val := fun _ => .int .i64 i }, { val := fun _ => .pointer (some (elemAddr v1 (i.toNat * 1))) }, { val := fun _ => .int .i64 n12 }, { val := fun _ => .bool p40 }, { val := fun _ => .bool p41 }, { val := fun _ => .bool p41 }, { val := fun _ => v2 }, { val := fun _ => .int .i64 i }, { val := fun _ => .int .i64 n13 }, { val := fun _ => .int .i64 n14 }, { val := fun _ => .pointer (some (elemAddr v2 (n14.toNat * 5))) }, { val := fun _ => .pointer (some ((elemAddr v2 (n14.toNat * 5)).add 4)) }, { val := fun _ => .int .i64 x4.Right }, { val := fun _ => v1 }, { val := fun _ => .int .i64 i }, { val := fun _ => .pointer (some (elemAddr v1 (i.toNat * 1))) }, { val := fun _ => .int .i64 n12 }, { val := fun _ => .bool p42 }, { val := fun _ => .bool p43 }] }
noncomputable def paths_ct_r6_17 (vv : Value) (root leaf : Int) (b1 : Nat) (v1 v2 : Value) (K2 : Heaplet) (x1 : DThing) (b2 : Nat) (i : Int) (p43 : Bool) (n15 : Int) : RC := { ops := opsAt Try.f6 15, B := [0, 1, 3], sl := [(1, .int .i64 root), (2, .int .i64 leaf), (3, .pointer (some ⟨b1, 0, none⟩)), (7, .bool true), (8, v1), (9, v2), (11, .int .i64 i), (220, .bool p43)], A := [K2], L := [some (b1, .cells #[vv] 24 (0, 0)), some (b2, .cells #[.string x1.Text, .int .i64 x1.Value, .int .i64 x1.Blind, .int .i64 x1.Left, .int .i64 x1.Right] 44 (0, 0))], cs := [{ val := fun _ => .int .i64 i }, { val := fun _ => .int .i64 n15 }, { val := fun _ => .int .i64 n15 }] }
noncomputable def paths_ct_r6_18 (vv : Value) (root leaf : Int) (b1 : Nat) (v1 v2 : Value) (K2 : Heaplet) (x1 : DThing) (b2 : Nat) (n4 i : Int) (p27 p44 p45 p46 : Bool) : RC := { ops := opsAt Try.f6 22, B := [0, 1, 3, 3, 15, 31, 63, 127, 255, 511, 1023, 2047], sl := [(1, .int .i64 root), (2, .int .i64 leaf), (3, .pointer (some ⟨b1, 0, none⟩)), (7, .bool true), (8, v1), (9, v2), (11, .int .i64 i), (122, .bool p27)], A := [K2], L := [some (b1, .cells #[vv] 24 (0, 0)), some (b2, .cells #[.string x1.Text, .int .i64 x1.Value, .int .i64 x1.Blind, .int .i64 x1.Left, .int .i64 x1.Right] 44 (0, 0))], cs := [{ val := fun _ => .bool true }, { val := fun _ => .bool true }, { val := fun _ => .int .i64 root }, { val := fun _ => .int .i64 leaf }, { val := fun _ => .bool p44 }, { val := fun _ => .bool p44 }, { val := fun _ => v1 }, { val := fun _ => .int .i64 n4 }, { val := fun _ => .bool p45 }, { val := fun _ => .bool p46 }, { val := fun _ => .bool p46 }, { val := fun _ => .bool p46 }] }
set_option maxRecDepth 10000 in
theorem paths_ct (v : List DThing) (vv : Value) (root leaf : Int) (w0 : World) (H : Heaplet) (hA : Agrees w0 H) (hv : RSl H v vv) :
    Calls Try.prog 6 #[.agg #[vv], .int .i64 root, .int .i64 leaf] w0 (fun e w' => e = .returned (.bool true) ∧ Base [] w0 w') := by
  have hE : Ext w0 H H := Ext.refl w0 H
  have hvn := hv.lim
  refine calls_of_W (sl := [(0, .agg #[vv]), (1, .int .i64 root), (2, .int .i64 leaf)]) (A := [H]) (L := [none, none]) Try.func6 (by kernel_rfl) 232 (by kernel_rfl) (by kernel_rfl) (fun J hJ => by simp at hJ; subst hJ; exact hA) (by simp) ?_
  refine W.seq (by kernel_rfl) ?_
  refine W.regV (paths_ct_r6_0 vv root leaf H) [1] [0] (fun G => [.bool false]) (by kernel_rfl) mo_ld (by kernel_rfl) (fun _ _ => by kernel_rfl) ⟨?_, trivial⟩ (by kernel_rfl) ?_
  · exact One.new (r := 0) (T := 24) (fun b => .pointer (some ⟨b, 0, none⟩)) (arr := fun G => #[vv]) (fun G w => by kernel_rfl) (fun G b => by kernel_rfl)
  intro G1 xa xw hDn
  refine hDn.to [1, 2, 3] [] (by kernel_rfl) ?_
  clear hDn
  refine Pre.conv (sl := [(1, .int .i64 root), (2, .int .i64 leaf), (3, .pointer (some ⟨(G1 0).b, 0, none⟩))]) (A := [H]) (L := [some ((G1 0).b, .cells #[vv] 24 (0, 0)), none]) ?_ (by kernel_rfl) (by kernel_rfl) (by kernel_rfl)
  generalize (G1 0).b = b1 at ⊢
  clear G1
  refine At.then ?_
  refine W.seq (by kernel_rfl) ?_
  refine W.regV (paths_ct_r6_1 vv root leaf H b1) [1] [0] (fun G => [.bool true]) (by kernel_rfl) mo_ld (by kernel_rfl) (fun _ _ => by kernel_rfl) ⟨?_, trivial⟩ (by kernel_rfl) ?_
  · exact One.callP (v := fun G => .bool true) (f := 13) (args := fun G => #[]) (fun _ _ => by kernel_rfl) (fun G w hs => sane_ct  w H (hs.read 0 rfl)  )
  intro G2 xa xw hDn
  refine hDn.to [1, 2, 3, 7] [] (by kernel_rfl) ?_
  clear hDn
  refine Pre.conv (sl := [(1, .int .i64 root), (2, .int .i64 leaf), (3, .pointer (some ⟨b1, 0, none⟩)), (7, .bool true)]) (A := [H]) (L := [some (b1, .cells #[vv] 24 (0, 0)), none]) ?_ (by kernel_rfl) (by kernel_rfl) (by kernel_rfl)
  clear G2
  refine At.then ?_
  refine W.seq (by kernel_rfl) ?_
  refine W.seq (by kernel_rfl) ?_
  obtain ⟨p1, hp1⟩ : ∃ zz : Bool, zz = (decide (Tm.fewP v 60)) := ⟨_, rfl⟩
  refine W.regV (paths_ct_r6_2 vv root leaf H b1 p1) [2] [0, 1] (fun G => [.bool (!p1)]) (by kernel_rfl) mo_ld (by kernel_rfl) (fun _ _ => by kernel_rfl) ⟨?_, ?_, trivial⟩ (by kernel_rfl) ?_
  · exact One.loadE (t := 24) (r := 0) (off := 0) (b := fun G => b1) (vs := fun G => [vv]) (arr := fun G => #[vv]) (T := 24) (fr := (0, 0)) (fun G => ⟨by kernel_rfl⟩) (fun G => by kernel_rfl)
  · exact One.callP (v := fun G => .bool p1) (f := 14) (args := fun G => #[.agg #[vv], .int .i64 60]) (fun _ _ => by kernel_rfl) (fun G w hs => by
      rw [hp1]
      exact fewv_ct v vv 60 w H (hs.read 0 rfl) (hv) )
  intro G3 xa xw hDn
  refine hDn.to [1, 2, 3, 7, 15] [] (by kernel_rfl) ?_
  clear hDn
  refine Pre.conv (sl := [(1, .int .i64 root), (2, .int .i64 leaf), (3, .pointer (some ⟨b1, 0, none⟩)), (7, .bool true), (15, .bool (!p1))]) (A := [H]) (L := [some (b1, .cells #[vv] 24 (0, 0)), none]) ?_ (by kernel_rfl) (by kernel_rfl) (by kernel_rfl)
  clear G3
  refine At.then ?_
  refine W.cond (!p1) (by kernel_rfl) (fun xa hs => cnd_of (t := 15) (by kernel_rfl) (by kernel_rfl) hs) (fun hq => ?_) (fun hq => ?_)
  · skip
    have hq1 := hq
    replace hq1 := (iNT (iN hp1 iDF)).1 hq1
    refine W.seq (by kernel_rfl) ?_
    refine W.regV (paths_ct_r6_3 vv root leaf H b1 p1) [0, 1] [] (fun G => [.bool true, .bool true]) (by kernel_rfl) mo_ld (by kernel_rfl) (fun _ _ => by kernel_rfl) trivial (by kernel_rfl) ?_
    intro G4 xa xw hDn
    refine hDn.to [6] [] (by kernel_rfl) ?_
    clear hDn
    refine Pre.conv (sl := [(6, .bool true)]) (A := [H]) (L := [some (b1, .cells #[vv] 24 (0, 0)), none]) ?_ (by kernel_rfl) (by kernel_rfl) (by kernel_rfl)
    clear G4
    refine At.then ?_
    refine W.ret (by kernel_rfl) ?_
    refine At.thenRet ?_
    refine At.results (Or.inl rfl) (.bool true) (fun xa xw hs hw => results_one (r := .tmp 6) (by kernel_rfl) (res_tmp (t := 6) (by kernel_rfl) hs)) (fun w' hw => ?_)
    exact ⟨congrArg Ending.returned (rfl), hw.base⟩
  · skip
    have hq2 := hq
    replace hq2 := (iNF (iN hp1 iDT)).1 hq2
    refine W.skip (by kernel_rfl) ?_
    refine At.then ?_
    refine W.seq (by kernel_rfl) ?_
    obtain ⟨l1, hl1⟩ : ∃ zz : List Int, zz = (Tm.pathF v root leaf) := ⟨_, rfl⟩
    refine W.regV (paths_ct_r6_4 w0 v vv root leaf H b1 p1 l1) [1, 2, 4] [0, 3] (fun G => [.int .i64 root, .int .i64 leaf, (G 3).v]) (by kernel_rfl) mo_ld (by kernel_rfl) (fun _ _ => by kernel_rfl) ⟨?_, ?_, trivial⟩ (by kernel_rfl) ?_
    · exact One.loadE (t := 24) (r := 0) (off := 0) (b := fun G => b1) (vs := fun G => [vv]) (arr := fun G => #[vv]) (T := 24) (fr := (0, 0)) (fun G => ⟨by kernel_rfl⟩) (fun G => by kernel_rfl)
    · exact One.callM (f := 20) (args := fun G => #[.agg #[vv], .int .i64 root, .int .i64 leaf]) (H := fun G => H) (V := fun G g => g.v) (F := fun G J g => RSl J l1 g.v) (fun G g w => ⟨by kernel_rfl, by kernel_rfl⟩) (fun G w hs => by
        rw [hl1]
        exact path_ct v vv root leaf w H (hs.read 0 rfl) (hv) )
    intro G5 xa xw hDn
    have hf3_1 : (RSl (hun (G5 3).H H) l1 (G5 3).v) ∧ New w0 (G5 3).H := hDn.get 3 (by kernel_rfl) (by kernel_rfl) (by kernel_rfl)
    refine hDn.to [1, 2, 3, 7, 8] [3] (by kernel_rfl) ?_
    clear hDn
    refine Pre.conv (sl := [(1, .int .i64 root), (2, .int .i64 leaf), (3, .pointer (some ⟨b1, 0, none⟩)), (7, .bool true), (8, (G5 3).v)]) (A := [(G5 3).H, H]) (L := [some (b1, .cells #[vv] 24 (0, 0)), none]) ?_ (by kernel_rfl) (by kernel_rfl) (by kernel_rfl)
    generalize (G5 3).v = v1 at hf3_1 ⊢
    generalize (G5 3).H = N1 at hf3_1 ⊢
    clear G5
    refine Pre.merge (Ns := [N1]) hE (by simp only [List.mem_cons, List.not_mem_nil, or_false, forall_eq_or_imp, forall_eq]; exact hf3_1.2) (fun K1 hk1 hk2 hE1 => ?_)
    have hr1 := (hf3_1.1).mono (hun_sub (hk2 _ (by simp)) hk1)
    have hr1n := hr1.lim
    have hr2 := (hv).mono hk1
    have hr2n := hr2.lim
    refine At.then ?_
    refine W.seq (by kernel_rfl) ?_
    obtain ⟨l2, hl2⟩ : ∃ zz : List DThing, zz = (Tm.viewF v l1) := ⟨_, rfl⟩
    refine W.regV (paths_ct_r6_5 w0 v vv root leaf H b1 v1 K1 l2) [1, 3] [0, 2] (fun G => [v1, (G 2).v]) (by kernel_rfl) mo_ld (by kernel_rfl) (fun _ _ => by kernel_rfl) ⟨?_, ?_, trivial⟩ (by kernel_rfl) ?_
    · exact One.loadE (t := 24) (r := 0) (off := 0) (b := fun G => b1) (vs := fun G => [vv]) (arr := fun G => #[vv]) (T := 24) (fr := (0, 0)) (fun G => ⟨by kernel_rfl⟩) (fun G => by kernel_rfl)
    · exact One.callM (f := 22) (args := fun G => #[.agg #[vv], v1]) (H := fun G => K1) (V := fun G g => g.v) (F := fun G J g => RSl J l2 g.v) (fun G g w => ⟨by kernel_rfl, by kernel_rfl⟩) (fun G w hs => by
        rw [hl2]
        exact view_ct v vv l1 v1 w K1 (hs.read 0 rfl) (hr2) (hr1) (by have := Tm.pathF_len v root leaf; rw [hl1]; omega))
    intro G6 xa xw hDn
    have hf2_2 : (RSl (hun (G6 2).H K1) l2 (G6 2).v) ∧ New w0 (G6 2).H := hDn.get 2 (by kernel_rfl) (by kernel_rfl) (by kernel_rfl)
    refine hDn.to [1, 2, 3, 7, 8, 9] [2] (by kernel_rfl) ?_
    clear hDn
    refine Pre.conv (sl := [(1, .int .i64 root), (2, .int .i64 leaf), (3, .pointer (some ⟨b1, 0, none⟩)), (7, .bool true), (8, v1), (9, (G6 2).v)]) (A := [(G6 2).H, K1]) (L := [some (b1, .cells #[vv] 24 (0, 0)), none]) ?_ (by kernel_rfl) (by kernel_rfl) (by kernel_rfl)
    generalize (G6 2).v = v2 at hf2_2 ⊢
    generalize (G6 2).H = N2 at hf2_2 ⊢
    clear G6
    refine Pre.merge (Ns := [N2]) hE1 (by simp only [List.mem_cons, List.not_mem_nil, or_false, forall_eq_or_imp, forall_eq]; exact hf2_2.2) (fun K2 hk3 hk4 hE2 => ?_)
    have hr3 := (hr1).mono hk3
    have hr3n := hr3.lim
    have hr4 := (hf2_2.1).mono (hun_sub (hk4 _ (by simp)) hk3)
    have hr4n := hr4.lim
    have hr5 := (hr2).mono hk3
    have hr5n := hr5.lim
    refine At.then ?_
    refine W.seq (by kernel_rfl) ?_
    refine W.seq (by kernel_rfl) ?_
    obtain ⟨p2, hp2⟩ : ∃ zz : Bool, zz = (decide (Tm.Sound v)) := ⟨_, rfl⟩
    obtain ⟨p3, hp3⟩ : ∃ zz : Bool, zz = decide (root < 0) := ⟨_, rfl⟩
    obtain ⟨p4, hp4⟩ : ∃ zz : Bool, zz = (!p2 || p3) := ⟨_, rfl⟩
    obtain ⟨n1, hn1⟩ : ∃ zz : Int, zz = (v.length : Int) := ⟨_, rfl⟩
    obtain ⟨p5, hp5⟩ : ∃ zz : Bool, zz = decide (n1 ≤ root) := ⟨_, rfl⟩
    obtain ⟨p6, hp6⟩ : ∃ zz : Bool, zz = (p4 || p5) := ⟨_, rfl⟩
    obtain ⟨p7, hp7⟩ : ∃ zz : Bool, zz = decide (leaf < 0) := ⟨_, rfl⟩
    obtain ⟨p8, hp8⟩ : ∃ zz : Bool, zz = (p6 || p7) := ⟨_, rfl⟩
    obtain ⟨p9, hp9⟩ : ∃ zz : Bool, zz = decide (n1 ≤ leaf) := ⟨_, rfl⟩
    obtain ⟨p10, hp10⟩ : ∃ zz : Bool, zz = (p8 || p9) := ⟨_, rfl⟩
    refine W.regV (paths_ct_r6_6 vv root leaf b1 v1 v2 K2 p2 p3 p4 n1 p5 p6 p7 p8 p9 p10) [2, 3, 4, 7, 8, 9, 14, 15, 18, 19, 20] [0, 1, 5, 6, 10, 11, 12, 13, 16, 17, 21, 22, 23, 24] (fun G => [.bool (!p2), .bool (!p2), .int .i64 root, .bool p4, .int .i64 root, .pointer (some ⟨b1, 0, none⟩), .bool p6, .int .i64 leaf, .bool p8, .int .i64 leaf, .pointer (some ⟨b1, 0, none⟩)]) (by kernel_rfl) mo_ld (by kernel_rfl) (fun _ _ => by kernel_rfl) ⟨?_, ?_, ?_, ?_, ?_, ?_, ?_, ?_, ?_, ?_, ?_, ?_, ?_, ?_, trivial⟩ (by kernel_rfl) ?_
    · exact One.loadE (t := 24) (r := 0) (off := 0) (b := fun G => b1) (vs := fun G => [vv]) (arr := fun G => #[vv]) (T := 24) (fr := (0, 0)) (fun G => ⟨by kernel_rfl⟩) (fun G => by kernel_rfl)
    · exact One.callP (v := fun G => .bool p2) (f := 26) (args := fun G => #[.agg #[vv]]) (fun _ _ => by kernel_rfl) (fun G w hs => by
        rw [hp2]
        exact sound_ct v vv w K2 (hs.read 0 rfl) (hr5) )
    · exact One.bo hp3 (fun _ _ => by kernel_rfl)
    · subst hp4
      cases p2 <;> exact One.under fun _ _ _ => by kernel_rfl
    · exact One.loadE (t := 22) (r := 0) (off := 0) (b := fun G => b1) (vs := fun G => [vv]) (arr := fun G => #[vv]) (T := 24) (fr := (0, 0)) (fun G => ⟨by kernel_rfl⟩) (fun G => by kernel_rfl)
    · exact One.len (t := 22) (n := n1) (v := fun G => vv) (fun _ => ⟨by kernel_rfl⟩) (fun G w hs => by
        have hg := gd_of hs (p := (true && (p4 == false))) (by kernel_rfl)
        have hg0 := (iN hp4 (iOF (iNF (iN hp2 iDT)) (iN hp3 iDF))).1 (eqF (andR hg))
        exact ⟨_, (hr5).isSl, hn1⟩)
    · exact One.bo hp5 (fun _ _ => by kernel_rfl)
    · subst hp6
      cases p4 <;> exact One.under fun _ _ _ => by kernel_rfl
    · exact One.bo hp7 (fun _ _ => by kernel_rfl)
    · subst hp8
      cases p6 <;> exact One.under fun _ _ _ => by kernel_rfl
    · exact One.loadE (t := 22) (r := 0) (off := 0) (b := fun G => b1) (vs := fun G => [vv]) (arr := fun G => #[vv]) (T := 24) (fr := (0, 0)) (fun G => ⟨by kernel_rfl⟩) (fun G => by kernel_rfl)
    · exact One.len (t := 22) (n := n1) (v := fun G => vv) (fun _ => ⟨by kernel_rfl⟩) (fun G w hs => by
        have hg := gd_of hs (p := (true && (p8 == false))) (by kernel_rfl)
        have hg0 := (iN hp8 (iOF (iN hp6 (iOF (iN hp4 (iOF (iNF (iN hp2 iDT)) (iN hp3 iDF))) (iN hp5 iDF))) (iN hp7 iDF))).1 (eqF (andR hg))
        exact ⟨_, (hr5).isSl, hn1⟩)
    · exact One.bo hp9 (fun _ _ => by kernel_rfl)
    · subst hp10
      cases p8 <;> exact One.under fun _ _ _ => by kernel_rfl
    intro G7 xa xw hDn
    refine hDn.to [1, 2, 3, 7, 8, 9, 48] [] (by kernel_rfl) ?_
    clear hDn
    refine Pre.conv (sl := [(1, .int .i64 root), (2, .int .i64 leaf), (3, .pointer (some ⟨b1, 0, none⟩)), (7, .bool true), (8, v1), (9, v2), (48, .bool p10)]) (A := [K2]) (L := [some (b1, .cells #[vv] 24 (0, 0)), none]) ?_ (by kernel_rfl) (by kernel_rfl) (by kernel_rfl)
    clear G7
    refine At.then ?_
    refine W.cond p10 (by kernel_rfl) (fun xa hs => cnd_of (t := 48) (by kernel_rfl) (by kernel_rfl) hs) (fun hq => ?_) (fun hq => ?_)
    · skip
      have hq3 := hq
      replace hq3 := (iN hp10 (iOT (iN hp8 (iOT (iN hp6 (iOT (iN hp4 (iOT (iNT (iN hp2 iDF)) (iN hp3 iDT))) (iN hp5 iDT))) (iN hp7 iDT))) (iN hp9 iDT))).1 hq3
      refine W.seq (by kernel_rfl) ?_
      obtain ⟨n2, hn2⟩ : ∃ zz : Int, zz = (l1.length : Int) := ⟨_, rfl⟩
      obtain ⟨p11, hp11⟩ : ∃ zz : Bool, zz = decide (n2 = 0) := ⟨_, rfl⟩
      obtain ⟨n3, hn3⟩ : ∃ zz : Int, zz = (l2.length : Int) := ⟨_, rfl⟩
      obtain ⟨p12, hp12⟩ : ∃ zz : Bool, zz = decide (n3 = 0) := ⟨_, rfl⟩
      obtain ⟨p13, hp13⟩ : ∃ zz : Bool, zz = (p11 && p12) := ⟨_, rfl⟩
      refine W.regV (paths_ct_r6_7 vv root leaf b1 v1 v2 K2 p10 n2 p11 n3 p12 p13) [0, 1, 2, 5, 6, 7, 11] [3, 4, 8, 9, 10] (fun G => [.bool true, .bool true, v1, .bool p11, .bool p11, v2, .bool p13]) (by kernel_rfl) mo_ld (by kernel_rfl) (fun _ _ => by kernel_rfl) ⟨?_, ?_, ?_, ?_, ?_, trivial⟩ (by kernel_rfl) ?_
      · exact One.len (t := 26) (n := n2) (v := fun G => v1) (fun _ => ⟨by kernel_rfl⟩) (fun G w hs => by
          have hg := gd_of hs (p := (true && (true == true))) (by kernel_rfl)
          exact ⟨_, (hr3).isSl, hn2⟩)
      · exact One.bo hp11 (fun _ _ => by kernel_rfl)
      · exact One.len (t := 22) (n := n3) (v := fun G => v2) (fun _ => ⟨by kernel_rfl⟩) (fun G w hs => by
          have hg := gd_of hs (p := (true && (p11 == true))) (by kernel_rfl)
          have hg0 := (iN hp11 iDT).1 (eqT (andR hg))
          exact ⟨_, (hr4).isSl, hn3⟩)
      · exact One.bo hp12 (fun _ _ => by kernel_rfl)
      · subst hp13
        cases p11 <;> exact One.under fun _ _ _ => by kernel_rfl
      intro G8 xa xw hDn
      refine hDn.to [6] [] (by kernel_rfl) ?_
      clear hDn
      refine Pre.conv (sl := [(6, .bool p13)]) (A := [K2]) (L := [some (b1, .cells #[vv] 24 (0, 0)), none]) ?_ (by kernel_rfl) (by kernel_rfl) (by kernel_rfl)
      clear G8
      refine At.then ?_
      refine W.ret (by kernel_rfl) ?_
      refine At.thenRet ?_
      refine At.results (Or.inl rfl) (.bool p13) (fun xa xw hs hw => results_one (r := .tmp 6) (by kernel_rfl) (res_tmp (t := 6) (by kernel_rfl) hs)) (fun w' hw => ?_)
      have e0 : p13 = true := by
        rw [(iN hp13 (iAT (iN hp11 iDT) (iN hp12 iDT)))]
        have e1 : l1 = [] := hl1.trans (Tm.path_none (by rintro ⟨a, b, c⟩; unfold Tm.has at b c; rcases hq3 with (((h | h) | h) | h) | h <;> first | exact h a | omega))
        have e2 : l2 = [] := hl2.trans (Tm.viewF_nil (by rw [e1]; rfl))
        exact ⟨by rw [hn2, e1]; rfl, by rw [hn3, e2]; rfl⟩
      exact ⟨congrArg Ending.returned (cong1 (fun (x0 : Bool) => (.bool x0 : Value)) e0), hw.base⟩
    · skip
      have hq4 := hq
      replace hq4 := (iN hp10 (iOF (iN hp8 (iOF (iN hp6 (iOF (iN hp4 (iOF (iNF (iN hp2 iDT)) (iN hp3 iDF))) (iN hp5 iDF))) (iN hp7 iDF))) (iN hp9 iDF))).1 hq4
      refine W.skip (by kernel_rfl) ?_
      refine At.then ?_
      refine W.seq (by kernel_rfl) ?_
      obtain ⟨x1, hx1⟩ : ∃ zz : DThing, zz = v.getD root.toNat default := ⟨_, rfl⟩
      refine W.regV (paths_ct_r6_8 vv root leaf b1 v1 v2 K2 p10 x1) [0, 2] [1, 3, 4, 5, 6] (fun G => [.pointer (some ⟨b1, 0, none⟩), .int .i64 root]) (by kernel_rfl) mo_ld (by kernel_rfl) (fun _ _ => by kernel_rfl) ⟨?_, ?_, ?_, ?_, ?_, trivial⟩ (by kernel_rfl) ?_
      · exact One.loadE (t := 22) (r := 0) (off := 0) (b := fun G => b1) (vs := fun G => [vv]) (arr := fun G => #[vv]) (T := 24) (fr := (0, 0)) (fun G => ⟨by kernel_rfl⟩) (fun G => by kernel_rfl)
      · exact One.index (t := 22) (e := 44) (size := 5) (v := fun G => vv) (k := .i64) (n := root) (fun _ => ⟨by kernel_rfl⟩) (fun G w hs => ⟨_, (hr5).isSl, by first | omega | (simp only [List.length_append, List.length_cons, List.length_nil, List.length_replicate, List.length_set, List.length_take, List.length_drop, List.length_map, List.length_reverse, List.length_range]; omega), by first | omega | (simp only [List.length_append, List.length_cons, List.length_nil, List.length_replicate, List.length_set, List.length_take, List.length_drop, List.length_map, List.length_reverse, List.length_range]; omega)⟩)
      · exact One.loadD (α := DThing) (t := 44) (size := 5) (off := 0) (k := root) (l := fun G => v) (x := fun G => x1) (vs := fun G => [.string x1.Text, .int .i64 x1.Value, .int .i64 x1.Blind, .int .i64 x1.Left, .int .i64 x1.Right]) (v := fun G => vv) (H := fun G => K2) (p := fun G => elemAddr vv (root.toNat * 5)) (fun G => ⟨by kernel_rfl⟩) rfl (fun G => by kernel_rfl) (fun G w hs => ⟨(hs.read 0 rfl), hr5, (add_zero' _).symm, by omega, by first | omega | (simp only [List.length_append, List.length_cons, List.length_nil, List.length_replicate, List.length_set, List.length_take, List.length_drop, List.length_map, List.length_reverse, List.length_range]; omega), hx1⟩)
      · exact One.new (r := 1) (T := 44) (fun b => .pointer (some ⟨b, 0, none⟩)) (arr := fun G => #[.string ByteArray.empty, .int .i64 0, .int .i64 0, .int .i64 0, .int .i64 0]) (fun G w => by kernel_rfl) (fun G b => by kernel_rfl)
      · exact One.store (t := 44) (r := 1) (off := 0) (T := 44) (b := fun G => (G 5).b) (u := fun G => .agg #[.string x1.Text, .int .i64 x1.Value, .int .i64 x1.Blind, .int .i64 x1.Left, .int .i64 x1.Right]) (vs := fun G => [.string x1.Text, .int .i64 x1.Value, .int .i64 x1.Blind, .int .i64 x1.Left, .int .i64 x1.Right]) (arr := fun G => #[.string ByteArray.empty, .int .i64 0, .int .i64 0, .int .i64 0, .int .i64 0]) (fun G => ⟨by kernel_rfl⟩) (fun G => by kernel_rfl)
      intro G9 xa xw hDn
      refine hDn.to [1, 2, 3, 7, 8, 9, 10] [] (by kernel_rfl) ?_
      clear hDn
      refine Pre.conv (sl := [(1, .int .i64 root), (2, .int .i64 leaf), (3, .pointer (some ⟨b1, 0, none⟩)), (7, .bool true), (8, v1), (9, v2), (10, .pointer (some ⟨(G9 5).b, 0, none⟩))]) (A := [K2]) (L := [some (b1, .cells #[vv] 24 (0, 0)), some ((G9 5).b, .cells #[.string x1.Text, .int .i64 x1.Value, .int .i64 x1.Blind, .int .i64 x1.Left, .int .i64 x1.Right] 44 (0, 0))]) ?_ (by kernel_rfl) (by kernel_rfl) (by kernel_rfl)
      generalize (G9 5).b = b2 at ⊢
      clear G9
      refine At.then ?_
      refine W.seq (by kernel_rfl) ?_
      refine W.seq (by kernel_rfl) ?_
      obtain ⟨n4, hn4⟩ : ∃ zz : Int, zz = (l1.length : Int) := ⟨_, rfl⟩
      obtain ⟨p14, hp14⟩ : ∃ zz : Bool, zz = decide (n4 = 0) := ⟨_, rfl⟩
      refine W.regV (paths_ct_r6_9 vv root leaf b1 v1 v2 K2 x1 b2 n4 p14) [0] [1, 2] (fun G => [v1]) (by kernel_rfl) mo_ld (by kernel_rfl) (fun _ _ => by kernel_rfl) ⟨?_, ?_, trivial⟩ (by kernel_rfl) ?_
      · exact One.len (t := 26) (n := n4) (v := fun G => v1) (fun _ => ⟨by kernel_rfl⟩) (fun G w hs => ⟨_, (hr3).isSl, hn4⟩)
      · exact One.bo hp14 (fun _ _ => by kernel_rfl)
      intro G10 xa xw hDn
      refine hDn.to [1, 2, 3, 7, 8, 9, 10, 67] [] (by kernel_rfl) ?_
      clear hDn
      refine Pre.conv (sl := [(1, .int .i64 root), (2, .int .i64 leaf), (3, .pointer (some ⟨b1, 0, none⟩)), (7, .bool true), (8, v1), (9, v2), (10, .pointer (some ⟨b2, 0, none⟩)), (67, .bool p14)]) (A := [K2]) (L := [some (b1, .cells #[vv] 24 (0, 0)), some (b2, .cells #[.string x1.Text, .int .i64 x1.Value, .int .i64 x1.Blind, .int .i64 x1.Left, .int .i64 x1.Right] 44 (0, 0))]) ?_ (by kernel_rfl) (by kernel_rfl) (by kernel_rfl)
      clear G10
      refine At.then ?_
      refine W.cond p14 (by kernel_rfl) (fun xa hs => cnd_of (t := 67) (by kernel_rfl) (by kernel_rfl) hs) (fun hq => ?_) (fun hq => ?_)
      · skip
        have hq5 := hq
        replace hq5 := (iN hp14 iDT).1 hq5
        refine W.seq (by kernel_rfl) ?_
        obtain ⟨p15, hp15⟩ : ∃ zz : Bool, zz = !(decide (root = leaf)) := ⟨_, rfl⟩
        obtain ⟨n5, hn5⟩ : ∃ zz : Int, zz = (l2.length : Int) := ⟨_, rfl⟩
        obtain ⟨p16, hp16⟩ : ∃ zz : Bool, zz = decide (n5 = 0) := ⟨_, rfl⟩
        obtain ⟨p17, hp17⟩ : ∃ zz : Bool, zz = (p15 && p16) := ⟨_, rfl⟩
        obtain ⟨l3, hl3⟩ : ∃ zz : List Int, zz = (Tm.pathF v x1.Left leaf) := ⟨_, rfl⟩
        obtain ⟨n6, hn6⟩ : ∃ zz : Int, zz = (l3.length : Int) := ⟨_, rfl⟩
        obtain ⟨p18, hp18⟩ : ∃ zz : Bool, zz = decide (n6 = 0) := ⟨_, rfl⟩
        obtain ⟨p19, hp19⟩ : ∃ zz : Bool, zz = (p17 && p18) := ⟨_, rfl⟩
        obtain ⟨l4, hl4⟩ : ∃ zz : List Int, zz = (Tm.pathF v x1.Right leaf) := ⟨_, rfl⟩
        obtain ⟨n7, hn7⟩ : ∃ zz : Int, zz = (l4.length : Int) := ⟨_, rfl⟩
        obtain ⟨p20, hp20⟩ : ∃ zz : Bool, zz = decide (n7 = 0) := ⟨_, rfl⟩
        obtain ⟨p21, hp21⟩ : ∃ zz : Bool, zz = (p19 && p20) := ⟨_, rfl⟩
        refine W.regV (paths_ct_r6_10 w0 v vv root leaf H b1 v1 v2 K2 x1 b2 p14 p15 n5 p16 p17 l3 n6 p18 p19 l4 n7 p20 p21) [0, 1, 2, 3, 5, 6, 7, 11, 13, 15, 20, 22, 24, 29] [4, 8, 9, 10, 12, 14, 16, 17, 18, 19, 21, 23, 25, 26, 27, 28] (fun G => [.bool true, .bool true, .int .i64 root, .int .i64 leaf, .bool p15, .bool p15, v2, .bool p17, .pointer (some ⟨b2, 3, none⟩), .int .i64 leaf, .bool p19, .pointer (some ⟨b2, 4, none⟩), .int .i64 leaf, .bool p21]) (by kernel_rfl) mo_ld (by kernel_rfl) (fun _ _ => by kernel_rfl) ⟨?_, ?_, ?_, ?_, ?_, ?_, ?_, ?_, ?_, ?_, ?_, ?_, ?_, ?_, ?_, ?_, trivial⟩ (by kernel_rfl) ?_
        · exact One.bo hp15 (fun _ _ => by kernel_rfl)
        · exact One.len (t := 22) (n := n5) (v := fun G => v2) (fun _ => ⟨by kernel_rfl⟩) (fun G w hs => by
            have hg := gd_of hs (p := (true && (p15 == true))) (by kernel_rfl)
            have hg0 := (iN hp15 (iNT iDF)).1 (eqT (andR hg))
            exact ⟨_, (hr4).isSl, hn5⟩)
        · exact One.bo hp16 (fun _ _ => by kernel_rfl)
        · subst hp17
          cases p15 <;> exact One.under fun _ _ _ => by kernel_rfl
        · exact One.loadE (t := 24) (r := 0) (off := 0) (b := fun G => b1) (vs := fun G => [vv]) (arr := fun G => #[vv]) (T := 24) (fr := (0, 0)) (fun G => ⟨by kernel_rfl⟩) (fun G => by kernel_rfl)
        · exact One.loadE (t := 3) (r := 1) (off := 3) (b := fun G => b2) (vs := fun G => [.int .i64 x1.Left]) (arr := fun G => #[.string x1.Text, .int .i64 x1.Value, .int .i64 x1.Blind, .int .i64 x1.Left, .int .i64 x1.Right]) (T := 44) (fr := (0, 0)) (fun G => ⟨by kernel_rfl⟩) (fun G => by kernel_rfl)
        · exact One.callM (f := 20) (args := fun G => #[.agg #[vv], .int .i64 x1.Left, .int .i64 leaf]) (H := fun G => K2) (V := fun G g => g.v) (F := fun G J g => RSl J l3 g.v) (fun G g w => ⟨by kernel_rfl, by kernel_rfl⟩) (fun G w hs => by
            have hg := gd_of hs (p := (true && (p17 == true))) (by kernel_rfl)
            have hg0 := (iN hp17 (iAT (iN hp15 (iNT iDF)) (iN hp16 iDT))).1 (eqT (andR hg))
            rw [hl3]
            exact path_ct v vv x1.Left leaf w K2 (hs.read 0 rfl) (hr5) )
        · exact One.len (t := 26) (n := n6) (v := fun G => (G 16).v) (fun _ => ⟨by kernel_rfl⟩) (fun G w hs => by
            have hg := gd_of hs (p := (true && (p17 == true))) (by kernel_rfl)
            have hg0 := (iN hp17 (iAT (iN hp15 (iNT iDF)) (iN hp16 iDT))).1 (eqT (andR hg))
            have ho16 : (RSl (hun (G 16).H K2) l3 (G 16).v) ∧ New w0 (G 16).H := hs.get 16 (by kernel_rfl) (p := (true && (p17 == true))) (by kernel_rfl) hg (by kernel_rfl)
            exact ⟨_, (ho16.1).isSl, hn6⟩)
        · exact One.bo hp18 (fun _ _ => by kernel_rfl)
        · subst hp19
          cases p17 <;> exact One.under fun _ _ _ => by kernel_rfl
        · exact One.loadE (t := 24) (r := 0) (off := 0) (b := fun G => b1) (vs := fun G => [vv]) (arr := fun G => #[vv]) (T := 24) (fr := (0, 0)) (fun G => ⟨by kernel_rfl⟩) (fun G => by kernel_rfl)
        · exact One.loadE (t := 3) (r := 1) (off := 4) (b := fun G => b2) (vs := fun G => [.int .i64 x1.Right]) (arr := fun G => #[.string x1.Text, .int .i64 x1.Value, .int .i64 x1.Blind, .int .i64 x1.Left, .int .i64 x1.Right]) (T := 44) (fr := (0, 0)) (fun G => ⟨by kernel_rfl⟩) (fun G => by kernel_rfl)
        · exact One.callM (f := 20) (args := fun G => #[.agg #[vv], .int .i64 x1.Right, .int .i64 leaf]) (H := fun G => K2) (V := fun G g => g.v) (F := fun G J g => RSl J l4 g.v) (fun G g w => ⟨by kernel_rfl, by kernel_rfl⟩) (fun G w hs => by
            have hg := gd_of hs (p := (true && (p19 == true))) (by kernel_rfl)
            have hg0 := (iN hp19 (iAT (iN hp17 (iAT (iN hp15 (iNT iDF)) (iN hp16 iDT))) (iN hp18 iDT))).1 (eqT (andR hg))
            rw [hl4]
            exact path_ct v vv x1.Right leaf w K2 (hs.read 0 rfl) (hr5) )
        · exact One.len (t := 26) (n := n7) (v := fun G => (G 25).v) (fun _ => ⟨by kernel_rfl⟩) (fun G w hs => by
            have hg := gd_of hs (p := (true && (p19 == true))) (by kernel_rfl)
            have hg0 := (iN hp19 (iAT (iN hp17 (iAT (iN hp15 (iNT iDF)) (iN hp16 iDT))) (iN hp18 iDT))).1 (eqT (andR hg))
            have ho25 : (RSl (hun (G 25).H K2) l4 (G 25).v) ∧ New w0 (G 25).H := hs.get 25 (by kernel_rfl) (p := (true && (p19 == true))) (by kernel_rfl) hg (by kernel_rfl)
            exact ⟨_, (ho25.1).isSl, hn7⟩)
        · exact One.bo hp20 (fun _ _ => by kernel_rfl)
        · subst hp21
          cases p19 <;> exact One.under fun _ _ _ => by kernel_rfl
        intro G11 xa xw hDn
        refine hDn.to [6] [] (by kernel_rfl) ?_
        clear hDn
        refine Pre.conv (sl := [(6, .bool p21)]) (A := [K2]) (L := [some (b1, .cells #[vv] 24 (0, 0)), some (b2, .cells #[.string x1.Text, .int .i64 x1.Value, .int .i64 x1.Blind, .int .i64 x1.Left, .int .i64 x1.Right] 44 (0, 0))]) ?_ (by kernel_rfl) (by kernel_rfl) (by kernel_rfl)
        clear G11
        refine At.then ?_
        refine W.ret (by kernel_rfl) ?_
        refine At.thenRet ?_
        refine At.results (Or.inl rfl) (.bool p21) (fun xa xw hs hw => results_one (r := .tmp 6) (by kernel_rfl) (res_tmp (t := 6) (by kernel_rfl) hs)) (fun w' hw => ?_)
        have e0 : p21 = true := by
          rw [(iN hp21 (iAT (iN hp19 (iAT (iN hp17 (iAT (iN hp15 (iNT iDF)) (iN hp16 iDT))) (iN hp18 iDT))) (iN hp20 iDT)))]
          have hz := Tm.path_less hq4.1.1.1.1 (root := root) (leaf := leaf) (by unfold Tm.has; omega) (by unfold Tm.has; omega) hx1 (by rw [← hl1]; omega)
          have e2 : l2 = [] := hl2.trans (Tm.viewF_nil (by omega))
          rw [← hl3, ← hl4] at hz
          have e3 : l2.length = 0 := by rw [e2]; rfl
          refine ⟨⟨⟨hz.1, ?_⟩, ?_⟩, ?_⟩ <;> omega
        exact ⟨congrArg Ending.returned (cong1 (fun (x0 : Bool) => (.bool x0 : Value)) e0), hw.base⟩
      · skip
        have hq6 := hq
        replace hq6 := (iN hp14 iDF).1 hq6
        refine W.skip (by kernel_rfl) ?_
        refine At.then ?_
        refine W.seq (by kernel_rfl) ?_
        refine W.seq (by kernel_rfl) ?_
        have hP := Tm.path_is hl1 (by omega)
        have hV := Tm.view_len hl2 hP.1
        have hVl := hV.1
        have hW := hP.1
        obtain ⟨n8, hn8⟩ : ∃ zz : Int, zz = l1.getD (0 : Int).toNat default := ⟨_, rfl⟩
        obtain ⟨p22, hp22⟩ : ∃ zz : Bool, zz = !(decide (n8 = root)) := ⟨_, rfl⟩
        obtain ⟨n9, hn9⟩ : ∃ zz : Int, zz = n4 - 1 := ⟨_, rfl⟩
        obtain ⟨n10, hn10⟩ : ∃ zz : Int, zz = l1.getD n9.toNat default := ⟨_, rfl⟩
        obtain ⟨p23, hp23⟩ : ∃ zz : Bool, zz = !(decide (n10 = leaf)) := ⟨_, rfl⟩
        obtain ⟨p24, hp24⟩ : ∃ zz : Bool, zz = (p22 || p23) := ⟨_, rfl⟩
        obtain ⟨n11, hn11⟩ : ∃ zz : Int, zz = (l2.length : Int) := ⟨_, rfl⟩
        obtain ⟨p25, hp25⟩ : ∃ zz : Bool, zz = !(decide (n11 = n4)) := ⟨_, rfl⟩
        obtain ⟨p26, hp26⟩ : ∃ zz : Bool, zz = (p24 || p25) := ⟨_, rfl⟩
        refine W.regV (paths_ct_r6_11 vv root leaf b1 v1 v2 K2 x1 b2 n4 p14 n8 p22 n9 n10 p23 p24 n11 p25 p26) [0, 3, 5, 6, 7, 12, 15, 16, 18] [1, 2, 4, 8, 9, 10, 11, 13, 14, 17, 19, 20, 21] (fun G => [v1, .int .i64 root, .bool p22, v1, v1, .int .i64 leaf, .bool p24, v2, v1]) (by kernel_rfl) mo_ld (by kernel_rfl) (fun _ _ => by kernel_rfl) ⟨?_, ?_, ?_, ?_, ?_, ?_, ?_, ?_, ?_, ?_, ?_, ?_, ?_, trivial⟩ (by kernel_rfl) ?_
        · exact One.index (t := 26) (e := 3) (size := 1) (v := fun G => v1) (k := .i64) (n := 0) (fun _ => ⟨by kernel_rfl⟩) (fun G w hs => ⟨_, (hr3).isSl, by first | omega | (simp only [List.length_append, List.length_cons, List.length_nil, List.length_replicate, List.length_set, List.length_take, List.length_drop, List.length_map, List.length_reverse, List.length_range]; omega), by first | omega | (simp only [List.length_append, List.length_cons, List.length_nil, List.length_replicate, List.length_set, List.length_take, List.length_drop, List.length_map, List.length_reverse, List.length_range]; omega)⟩)
        · exact One.loadD (α := Int) (t := 3) (size := 1) (off := 0) (k := 0) (l := fun G => l1) (x := fun G => n8) (vs := fun G => [.int .i64 n8]) (v := fun G => v1) (H := fun G => K2) (p := fun G => elemAddr v1 ((0 : Int).toNat * 1)) (fun G => ⟨by kernel_rfl⟩) rfl (fun G => by kernel_rfl) (fun G w hs => ⟨(hs.read 0 rfl), hr3, (add_zero' _).symm, by omega, by first | omega | (simp only [List.length_append, List.length_cons, List.length_nil, List.length_replicate, List.length_set, List.length_take, List.length_drop, List.length_map, List.length_reverse, List.length_range]; omega), hn8⟩)
        · exact One.bo hp22 (fun _ _ => by kernel_rfl)
        · exact One.len (t := 26) (n := n4) (v := fun G => v1) (fun _ => ⟨by kernel_rfl⟩) (fun G w hs => by
            have hg := gd_of hs (p := (true && (p22 == false))) (by kernel_rfl)
            have hg0 := (iN hp22 (iNF iDT)).1 (eqF (andR hg))
            exact ⟨_, (hr3).isSl, hn4⟩)
        · exact One.ar hn9 (fun _ _ => by kernel_rfl) (fun G w hs => by
            have hg := gd_of hs (p := (true && (p22 == false))) (by kernel_rfl)
            have hg0 := (iN hp22 (iNF iDT)).1 (eqF (andR hg))
            exact by omega)
        · exact One.index (t := 26) (e := 3) (size := 1) (v := fun G => v1) (k := .i64) (n := n9) (fun _ => ⟨by kernel_rfl⟩) (fun G w hs => by
            have hg := gd_of hs (p := (true && (p22 == false))) (by kernel_rfl)
            have hg0 := (iN hp22 (iNF iDT)).1 (eqF (andR hg))
            exact ⟨_, (hr3).isSl, by first | omega | (simp only [List.length_append, List.length_cons, List.length_nil, List.length_replicate, List.length_set, List.length_take, List.length_drop, List.length_map, List.length_reverse, List.length_range]; omega), by first | omega | (simp only [List.length_append, List.length_cons, List.length_nil, List.length_replicate, List.length_set, List.length_take, List.length_drop, List.length_map, List.length_reverse, List.length_range]; omega)⟩)
        · exact One.loadD (α := Int) (t := 3) (size := 1) (off := 0) (k := n9) (l := fun G => l1) (x := fun G => n10) (vs := fun G => [.int .i64 n10]) (v := fun G => v1) (H := fun G => K2) (p := fun G => elemAddr v1 (n9.toNat * 1)) (fun G => ⟨by kernel_rfl⟩) rfl (fun G => by kernel_rfl) (fun G w hs => by
            have hg := gd_of hs (p := (true && (p22 == false))) (by kernel_rfl)
            have hg0 := (iN hp22 (iNF iDT)).1 (eqF (andR hg))
            exact ⟨(hs.read 0 rfl), hr3, (add_zero' _).symm, by omega, by first | omega | (simp only [List.length_append, List.length_cons, List.length_nil, List.length_replicate, List.length_set, List.length_take, List.length_drop, List.length_map, List.length_reverse, List.length_range]; omega), hn10⟩)
        · exact One.bo hp23 (fun _ _ => by kernel_rfl)
        · subst hp24
          cases p22 <;> exact One.under fun _ _ _ => by kernel_rfl
        · exact One.len (t := 22) (n := n11) (v := fun G => v2) (fun _ => ⟨by kernel_rfl⟩) (fun G w hs => by
            have hg := gd_of hs (p := (true && (p24 == false))) (by kernel_rfl)
            have hg0 := (iN hp24 (iOF (iN hp22 (iNF iDT)) (iN hp23 (iNF iDT)))).1 (eqF (andR hg))
            exact ⟨_, (hr4).isSl, hn11⟩)
        · exact One.len (t := 26) (n := n4) (v := fun G => v1) (fun _ => ⟨by kernel_rfl⟩) (fun G w hs => by
            have hg := gd_of hs (p := (true && (p24 == false))) (by kernel_rfl)
            have hg0 := (iN hp24 (iOF (iN hp22 (iNF iDT)) (iN hp23 (iNF iDT)))).1 (eqF (andR hg))
            exact ⟨_, (hr3).isSl, hn4⟩)
        · exact One.bo hp25 (fun _ _ => by kernel_rfl)
        · subst hp26
          cases p24 <;> exact One.under fun _ _ _ => by kernel_rfl
        intro G12 xa xw hDn
        refine hDn.to [1, 2, 3, 7, 8, 9, 118] [] (by kernel_rfl) ?_
        clear hDn
        refine Pre.conv (sl := [(1, .int .i64 root), (2, .int .i64 leaf), (3, .pointer (some ⟨b1, 0, none⟩)), (7, .bool true), (8, v1), (9, v2), (118, .bool p26)]) (A := [K2]) (L := [some (b1, .cells #[vv] 24 (0, 0)), some (b2, .cells #[.string x1.Text, .int .i64 x1.Value, .int .i64 x1.Blind, .int .i64 x1.Left, .int .i64 x1.Right] 44 (0, 0))]) ?_ (by kernel_rfl) (by kernel_rfl) (by kernel_rfl)
        clear G12
        refine At.then ?_
        refine W.cond p26 (by kernel_rfl) (fun xa hs => cnd_of (t := 118) (by kernel_rfl) (by kernel_rfl) hs) (fun hq => ?_) (fun hq => ?_)
        · skip
          have hq7 := hq
          replace hq7 := (iN hp26 (iOT (iN hp24 (iOT (iN hp22 (iNT iDF)) (iN hp23 (iNT iDF)))) (iN hp25 (iNT iDF)))).1 hq7
          have h1 : n8 = root := by rw [hn8]; exact hP.2.1
          have h2 : n10 = leaf := (Tm.last_of hn4 hn9 (by omega) hn10).symm.trans hP.2.2.1
          omega
        · skip
          have hq8 := hq
          replace hq8 := (iN hp26 (iOF (iN hp24 (iOF (iN hp22 (iNF iDT)) (iN hp23 (iNF iDT)))) (iN hp25 (iNF iDT)))).1 hq8
          refine W.skip (by kernel_rfl) ?_
          refine At.then ?_
          refine W.seq (by kernel_rfl) ?_
          refine W.seq (by kernel_rfl) ?_
          refine W.regV (paths_ct_r6_12 vv root leaf b1 v1 v2 K2 x1 b2 p26) [0] [] (fun G => [.int .i64 0]) (by kernel_rfl) mo_ld (by kernel_rfl) (fun _ _ => by kernel_rfl) trivial (by kernel_rfl) ?_
          intro G13 xa xw hDn
          refine hDn.to [1, 2, 3, 7, 8, 9, 11] [] (by kernel_rfl) ?_
          clear hDn
          refine Pre.conv (sl := [(1, .int .i64 root), (2, .int .i64 leaf), (3, .pointer (some ⟨b1, 0, none⟩)), (7, .bool true), (8, v1), (9, v2), (11, .int .i64 0)]) (A := [K2]) (L := [some (b1, .cells #[vv] 24 (0, 0)), some (b2, .cells #[.string x1.Text, .int .i64 x1.Value, .int .i64 x1.Blind, .int .i64 x1.Left, .int .i64 x1.Right] 44 (0, 0))]) ?_ (by kernel_rfl) (by kernel_rfl) (by kernel_rfl)
          clear G13
          refine At.then ?_
          refine W.block 0 (by kernel_rfl) ?_
          refine W.loopS (γ := Int) (fun i => [(1, .int .i64 root), (2, .int .i64 leaf), (3, .pointer (some ⟨b1, 0, none⟩)), (7, .bool true), (8, v1), (9, v2), (11, .int .i64 i)]) (fun i => [K2]) (fun i => [some (b1, .cells #[vv] 24 (0, 0)), some (b2, .cells #[.string x1.Text, .int .i64 x1.Value, .int .i64 x1.Blind, .int .i64 x1.Left, .int .i64 x1.Right] 44 (0, 0))]) (fun i => (0 ≤ i) ∧ (i ≤ (l1.length : Int))) (fun i => ((l1.length : Int) - i).toNat) 0 (by kernel_rfl) ?_ ?_
          · intro xa xw hs hw
            refine ⟨hs.sub (by kernel_rfl), hw.mask [true, true] (by kernel_rfl), ?_⟩
            refine ⟨?_, ?_⟩
            · show 0 ≤ (0 : Int)
              first | omega | rfl | (simp; done) | (subst_vars; simp; done)
            · show (0 : Int) ≤ (l1.length : Int)
              first | omega | rfl | (simp; done) | (subst_vars; simp; done)
          · rintro i hF
            have hF : (0 ≤ i) ∧ (i ≤ (l1.length : Int)) := hF
            obtain ⟨hf3, hf4⟩ := hF
            show W Try.prog 232 w0 [] (Code.l (Code.l (Code.r (Code.l (Code.r (Code.r (Code.r (Code.r (Code.r (Code.r (Code.r (Code.r (Code.r (body Try.f6)))))))))))))) _ [(1, .int .i64 root), (2, .int .i64 leaf), (3, .pointer (some ⟨b1, 0, none⟩)), (7, .bool true), (8, v1), (9, v2), (11, .int .i64 i)] [K2] [some (b1, .cells #[vv] 24 (0, 0)), some (b2, .cells #[.string x1.Text, .int .i64 x1.Value, .int .i64 x1.Blind, .int .i64 x1.Left, .int .i64 x1.Right] 44 (0, 0))]
            refine W.seq (by kernel_rfl) ?_
            refine W.seq (by kernel_rfl) ?_
            obtain ⟨p27, hp27⟩ : ∃ zz : Bool, zz = decide (i < n4) := ⟨_, rfl⟩
            refine W.regV (paths_ct_r6_13 vv root leaf b1 v1 v2 K2 x1 b2 n4 i p27) [0, 1] [2, 3] (fun G => [.int .i64 i, v1]) (by kernel_rfl) mo_ld (by kernel_rfl) (fun _ _ => by kernel_rfl) ⟨?_, ?_, trivial⟩ (by kernel_rfl) ?_
            · exact One.len (t := 26) (n := n4) (v := fun G => v1) (fun _ => ⟨by kernel_rfl⟩) (fun G w hs => ⟨_, (hr3).isSl, hn4⟩)
            · exact One.bo hp27 (fun _ _ => by kernel_rfl)
            intro G14 xa xw hDn
            refine hDn.to [1, 2, 3, 7, 8, 9, 11, 122] [] (by kernel_rfl) ?_
            clear hDn
            refine Pre.conv (sl := [(1, .int .i64 root), (2, .int .i64 leaf), (3, .pointer (some ⟨b1, 0, none⟩)), (7, .bool true), (8, v1), (9, v2), (11, .int .i64 i), (122, .bool p27)]) (A := [K2]) (L := [some (b1, .cells #[vv] 24 (0, 0)), some (b2, .cells #[.string x1.Text, .int .i64 x1.Value, .int .i64 x1.Blind, .int .i64 x1.Left, .int .i64 x1.Right] 44 (0, 0))]) ?_ (by kernel_rfl) (by kernel_rfl) (by kernel_rfl)
            clear G14
            refine At.then ?_
            refine W.cond p27 (by kernel_rfl) (fun xa hs => cnd_of (t := 122) (by kernel_rfl) (by kernel_rfl) hs) (fun hq => ?_) (fun hq => ?_)
            · skip
              have hq9 := hq
              replace hq9 := (iN hp27 iDT).1 hq9
              refine W.skip (by kernel_rfl) ?_
              refine At.then ?_
              refine W.seq (by kernel_rfl) ?_
              refine W.block 1 (by kernel_rfl) ?_
              refine W.seq (by kernel_rfl) ?_
              refine W.seq (by kernel_rfl) ?_
              obtain ⟨n12, hn12⟩ : ∃ zz : Int, zz = l1.getD i.toNat default := ⟨_, rfl⟩
              obtain ⟨p28, hp28⟩ : ∃ zz : Bool, zz = decide (n12 < 0) := ⟨_, rfl⟩
              obtain ⟨p29, hp29⟩ : ∃ zz : Bool, zz = decide (n1 ≤ n12) := ⟨_, rfl⟩
              obtain ⟨p30, hp30⟩ : ∃ zz : Bool, zz = (p28 || p29) := ⟨_, rfl⟩
              refine W.regV (paths_ct_r6_14 vv root leaf b1 v1 v2 K2 n1 x1 b2 i p27 n12 p28 p29 p30) [0, 1, 5, 6, 7, 10] [2, 3, 4, 8, 9, 11, 12, 13, 14] (fun G => [v1, .int .i64 i, .bool p28, v1, .int .i64 i, .pointer (some ⟨b1, 0, none⟩)]) (by kernel_rfl) mo_ld (by kernel_rfl) (fun _ _ => by kernel_rfl) ⟨?_, ?_, ?_, ?_, ?_, ?_, ?_, ?_, ?_, trivial⟩ (by kernel_rfl) ?_
              · exact One.index (t := 26) (e := 3) (size := 1) (v := fun G => v1) (k := .i64) (n := i) (fun _ => ⟨by kernel_rfl⟩) (fun G w hs => ⟨_, (hr3).isSl, by first | omega | (simp only [List.length_append, List.length_cons, List.length_nil, List.length_replicate, List.length_set, List.length_take, List.length_drop, List.length_map, List.length_reverse, List.length_range]; omega), by first | omega | (simp only [List.length_append, List.length_cons, List.length_nil, List.length_replicate, List.length_set, List.length_take, List.length_drop, List.length_map, List.length_reverse, List.length_range]; omega)⟩)
              · exact One.loadD (α := Int) (t := 3) (size := 1) (off := 0) (k := i) (l := fun G => l1) (x := fun G => n12) (vs := fun G => [.int .i64 n12]) (v := fun G => v1) (H := fun G => K2) (p := fun G => elemAddr v1 (i.toNat * 1)) (fun G => ⟨by kernel_rfl⟩) rfl (fun G => by kernel_rfl) (fun G w hs => ⟨(hs.read 0 rfl), hr3, (add_zero' _).symm, by omega, by first | omega | (simp only [List.length_append, List.length_cons, List.length_nil, List.length_replicate, List.length_set, List.length_take, List.length_drop, List.length_map, List.length_reverse, List.length_range]; omega), hn12⟩)
              · exact One.bo hp28 (fun _ _ => by kernel_rfl)
              · exact One.index (t := 26) (e := 3) (size := 1) (v := fun G => v1) (k := .i64) (n := i) (fun _ => ⟨by kernel_rfl⟩) (fun G w hs => by
                  have hg := gd_of hs (p := (true && (p28 == false))) (by kernel_rfl)
                  have hg0 := (iN hp28 iDF).1 (eqF (andR hg))
                  exact ⟨_, (hr3).isSl, by first | omega | (simp only [List.length_append, List.length_cons, List.length_nil, List.length_replicate, List.length_set, List.length_take, List.length_drop, List.length_map, List.length_reverse, List.length_range]; omega), by first | omega | (simp only [List.length_append, List.length_cons, List.length_nil, List.length_replicate, List.length_set, List.length_take, List.length_drop, List.length_map, List.length_reverse, List.length_range]; omega)⟩)
              · exact One.loadD (α := Int) (t := 3) (size := 1) (off := 0) (k := i) (l := fun G => l1) (x := fun G => n12) (vs := fun G => [.int .i64 n12]) (v := fun G => v1) (H := fun G => K2) (p := fun G => elemAddr v1 (i.toNat * 1)) (fun G => ⟨by kernel_rfl⟩) rfl (fun G => by kernel_rfl) (fun G w hs => by
                  have hg := gd_of hs (p := (true && (p28 == false))) (by kernel_rfl)
                  have hg0 := (iN hp28 iDF).1 (eqF (andR hg))
                  exact ⟨(hs.read 0 rfl), hr3, (add_zero' _).symm, by omega, by first | omega | (simp only [List.length_append, List.length_cons, List.length_nil, List.length_replicate, List.length_set, List.length_take, List.length_drop, List.length_map, List.length_reverse, List.length_range]; omega), hn12⟩)
              · exact One.loadE (t := 22) (r := 0) (off := 0) (b := fun G => b1) (vs := fun G => [vv]) (arr := fun G => #[vv]) (T := 24) (fr := (0, 0)) (fun G => ⟨by kernel_rfl⟩) (fun G => by kernel_rfl)
              · exact One.len (t := 22) (n := n1) (v := fun G => vv) (fun _ => ⟨by kernel_rfl⟩) (fun G w hs => by
                  have hg := gd_of hs (p := (true && (p28 == false))) (by kernel_rfl)
                  have hg0 := (iN hp28 iDF).1 (eqF (andR hg))
                  exact ⟨_, (hr5).isSl, hn1⟩)
              · exact One.bo hp29 (fun _ _ => by kernel_rfl)
              · subst hp30
                cases p28 <;> exact One.under fun _ _ _ => by kernel_rfl
              intro G15 xa xw hDn
              refine hDn.to [1, 2, 3, 7, 8, 9, 11, 139] [] (by kernel_rfl) ?_
              clear hDn
              refine Pre.conv (sl := [(1, .int .i64 root), (2, .int .i64 leaf), (3, .pointer (some ⟨b1, 0, none⟩)), (7, .bool true), (8, v1), (9, v2), (11, .int .i64 i), (139, .bool p30)]) (A := [K2]) (L := [some (b1, .cells #[vv] 24 (0, 0)), some (b2, .cells #[.string x1.Text, .int .i64 x1.Value, .int .i64 x1.Blind, .int .i64 x1.Left, .int .i64 x1.Right] 44 (0, 0))]) ?_ (by kernel_rfl) (by kernel_rfl) (by kernel_rfl)
              clear G15
              refine At.then ?_
              refine W.cond p30 (by kernel_rfl) (fun xa hs => cnd_of (t := 139) (by kernel_rfl) (by kernel_rfl) hs) (fun hq => ?_) (fun hq => ?_)
              · skip
                have hq10 := hq
                replace hq10 := (iN hp30 (iOT (iN hp28 iDT) (iN hp29 iDT))).1 hq10
                have := Tm.walks_has hW (by omega) (by omega) hn12; omega
              · skip
                have hq11 := hq
                replace hq11 := (iN hp30 (iOF (iN hp28 iDF) (iN hp29 iDF))).1 hq11
                refine W.skip (by kernel_rfl) ?_
                refine At.then ?_
                refine W.seq (by kernel_rfl) ?_
                refine W.seq (by kernel_rfl) ?_
                obtain ⟨x2, hx2⟩ : ∃ zz : DThing, zz = l2.getD i.toNat default := ⟨_, rfl⟩
                obtain ⟨x3, hx3⟩ : ∃ zz : DThing, zz = v.getD n12.toNat default := ⟨_, rfl⟩
                obtain ⟨p31, hp31⟩ : ∃ zz : Bool, zz = !(decide (x2.Left = x3.Left)) := ⟨_, rfl⟩
                obtain ⟨p32, hp32⟩ : ∃ zz : Bool, zz = !(decide (x2.Right = x3.Right)) := ⟨_, rfl⟩
                obtain ⟨p33, hp33⟩ : ∃ zz : Bool, zz = (p31 || p32) := ⟨_, rfl⟩
                obtain ⟨p34, hp34⟩ : ∃ zz : Bool, zz = decide (0 < i) := ⟨_, rfl⟩
                obtain ⟨p35, hp35⟩ : ∃ zz : Bool, zz = decide (i < n9) := ⟨_, rfl⟩
                obtain ⟨p36, hp36⟩ : ∃ zz : Bool, zz = (p34 && p35) := ⟨_, rfl⟩
                obtain ⟨p37, hp37⟩ : ∃ zz : Bool, zz = !(decide (x2.Value = (-1))) := ⟨_, rfl⟩
                obtain ⟨p38, hp38⟩ : ∃ zz : Bool, zz = (p36 && p37) := ⟨_, rfl⟩
                obtain ⟨p39, hp39⟩ : ∃ zz : Bool, zz = (p33 || p38) := ⟨_, rfl⟩
                refine W.regV (paths_ct_r6_15 vv root leaf b1 v1 v2 K2 x1 b2 n4 n9 i n12 p30 x2 x3 p31 p32 p33 p34 p35 p36 p37 p38 p39) [0, 1, 3, 5, 7, 8, 12, 15, 16, 17, 19, 21, 23, 24, 28, 32, 33, 35, 36, 37, 42, 43, 44, 46] [2, 4, 6, 9, 10, 11, 13, 14, 18, 20, 22, 25, 26, 27, 29, 30, 31, 34, 38, 39, 40, 41, 45, 47, 48, 49, 50] (fun G => [v2, .int .i64 i, .pointer (some ((elemAddr v2 (i.toNat * 5)).add 3)), .pointer (some ⟨b1, 0, none⟩), v1, .int .i64 i, .pointer (some ((elemAddr vv (n12.toNat * 5)).add 3)), .bool p31, v2, .int .i64 i, .pointer (some ((elemAddr v2 (i.toNat * 5)).add 4)), .pointer (some ⟨b1, 0, none⟩), v1, .int .i64 i, .pointer (some ((elemAddr vv (n12.toNat * 5)).add 4)), .bool p33, .int .i64 i, .bool p34, .int .i64 i, v1, .bool p36, v2, .int .i64 i, .pointer (some ((elemAddr v2 (i.toNat * 5)).add 1))]) (by kernel_rfl) mo_ld (by kernel_rfl) (fun _ _ => by kernel_rfl) ⟨?_, ?_, ?_, ?_, ?_, ?_, ?_, ?_, ?_, ?_, ?_, ?_, ?_, ?_, ?_, ?_, ?_, ?_, ?_, ?_, ?_, ?_, ?_, ?_, ?_, ?_, ?_, trivial⟩ (by kernel_rfl) ?_
                · exact One.index (t := 22) (e := 44) (size := 5) (v := fun G => v2) (k := .i64) (n := i) (fun _ => ⟨by kernel_rfl⟩) (fun G w hs => ⟨_, (hr4).isSl, by first | omega | (simp only [List.length_append, List.length_cons, List.length_nil, List.length_replicate, List.length_set, List.length_take, List.length_drop, List.length_map, List.length_reverse, List.length_range]; omega), by first | omega | (simp only [List.length_append, List.length_cons, List.length_nil, List.length_replicate, List.length_set, List.length_take, List.length_drop, List.length_map, List.length_reverse, List.length_range]; omega)⟩)
                · exact One.loadD (α := DThing) (t := 3) (size := 5) (off := 3) (k := i) (l := fun G => l2) (x := fun G => x2) (vs := fun G => [.int .i64 x2.Left]) (v := fun G => v2) (H := fun G => K2) (p := fun G => (elemAddr v2 (i.toNat * 5)).add 3) (fun G => ⟨by kernel_rfl⟩) rfl (fun G => by kernel_rfl) (fun G w hs => ⟨(hs.read 0 rfl), hr4, rfl, by omega, by first | omega | (simp only [List.length_append, List.length_cons, List.length_nil, List.length_replicate, List.length_set, List.length_take, List.length_drop, List.length_map, List.length_reverse, List.length_range]; omega), hx2⟩)
                · exact One.loadE (t := 22) (r := 0) (off := 0) (b := fun G => b1) (vs := fun G => [vv]) (arr := fun G => #[vv]) (T := 24) (fr := (0, 0)) (fun G => ⟨by kernel_rfl⟩) (fun G => by kernel_rfl)
                · exact One.index (t := 26) (e := 3) (size := 1) (v := fun G => v1) (k := .i64) (n := i) (fun _ => ⟨by kernel_rfl⟩) (fun G w hs => ⟨_, (hr3).isSl, by first | omega | (simp only [List.length_append, List.length_cons, List.length_nil, List.length_replicate, List.length_set, List.length_take, List.length_drop, List.length_map, List.length_reverse, List.length_range]; omega), by first | omega | (simp only [List.length_append, List.length_cons, List.length_nil, List.length_replicate, List.length_set, List.length_take, List.length_drop, List.length_map, List.length_reverse, List.length_range]; omega)⟩)
                · exact One.loadD (α := Int) (t := 3) (size := 1) (off := 0) (k := i) (l := fun G => l1) (x := fun G => n12) (vs := fun G => [.int .i64 n12]) (v := fun G => v1) (H := fun G => K2) (p := fun G => elemAddr v1 (i.toNat * 1)) (fun G => ⟨by kernel_rfl⟩) rfl (fun G => by kernel_rfl) (fun G w hs => ⟨(hs.read 0 rfl), hr3, (add_zero' _).symm, by omega, by first | omega | (simp only [List.length_append, List.length_cons, List.length_nil, List.length_replicate, List.length_set, List.length_take, List.length_drop, List.length_map, List.length_reverse, List.length_range]; omega), hn12⟩)
                · exact One.index (t := 22) (e := 44) (size := 5) (v := fun G => vv) (k := .i64) (n := n12) (fun _ => ⟨by kernel_rfl⟩) (fun G w hs => ⟨_, (hr5).isSl, by first | omega | (simp only [List.length_append, List.length_cons, List.length_nil, List.length_replicate, List.length_set, List.length_take, List.length_drop, List.length_map, List.length_reverse, List.length_range]; omega), by first | omega | (simp only [List.length_append, List.length_cons, List.length_nil, List.length_replicate, List.length_set, List.length_take, List.length_drop, List.length_map, List.length_reverse, List.length_range]; omega)⟩)
                · exact One.loadD (α := DThing) (t := 3) (size := 5) (off := 3) (k := n12) (l := fun G => v) (x := fun G => x3) (vs := fun G => [.int .i64 x3.Left]) (v := fun G => vv) (H := fun G => K2) (p := fun G => (elemAddr vv (n12.toNat * 5)).add 3) (fun G => ⟨by kernel_rfl⟩) rfl (fun G => by kernel_rfl) (fun G w hs => ⟨(hs.read 0 rfl), hr5, rfl, by omega, by first | omega | (simp only [List.length_append, List.length_cons, List.length_nil, List.length_replicate, List.length_set, List.length_take, List.length_drop, List.length_map, List.length_reverse, List.length_range]; omega), hx3⟩)
                · exact One.bo hp31 (fun _ _ => by kernel_rfl)
                · exact One.index (t := 22) (e := 44) (size := 5) (v := fun G => v2) (k := .i64) (n := i) (fun _ => ⟨by kernel_rfl⟩) (fun G w hs => by
                    have hg := gd_of hs (p := (true && (p31 == false))) (by kernel_rfl)
                    have hg0 := (iN hp31 (iNF iDT)).1 (eqF (andR hg))
                    exact ⟨_, (hr4).isSl, by first | omega | (simp only [List.length_append, List.length_cons, List.length_nil, List.length_replicate, List.length_set, List.length_take, List.length_drop, List.length_map, List.length_reverse, List.length_range]; omega), by first | omega | (simp only [List.length_append, List.length_cons, List.length_nil, List.length_replicate, List.length_set, List.length_take, List.length_drop, List.length_map, List.length_reverse, List.length_range]; omega)⟩)
                · exact One.loadD (α := DThing) (t := 3) (size := 5) (off := 4) (k := i) (l := fun G => l2) (x := fun G => x2) (vs := fun G => [.int .i64 x2.Right]) (v := fun G => v2) (H := fun G => K2) (p := fun G => (elemAddr v2 (i.toNat * 5)).add 4) (fun G => ⟨by kernel_rfl⟩) rfl (fun G => by kernel_rfl) (fun G w hs => by
                    have hg := gd_of hs (p := (true && (p31 == false))) (by kernel_rfl)
                    have hg0 := (iN hp31 (iNF iDT)).1 (eqF (andR hg))
                    exact ⟨(hs.read 0 rfl), hr4, rfl, by omega, by first | omega | (simp only [List.length_append, List.length_cons, List.length_nil, List.length_replicate, List.length_set, List.length_take, List.length_drop, List.length_map, List.length_reverse, List.length_range]; omega), hx2⟩)
                · exact One.loadE (t := 22) (r := 0) (off := 0) (b := fun G => b1) (vs := fun G => [vv]) (arr := fun G => #[vv]) (T := 24) (fr := (0, 0)) (fun G => ⟨by kernel_rfl⟩) (fun G => by kernel_rfl)
                · exact One.index (t := 26) (e := 3) (size := 1) (v := fun G => v1) (k := .i64) (n := i) (fun _ => ⟨by kernel_rfl⟩) (fun G w hs => by
                    have hg := gd_of hs (p := (true && (p31 == false))) (by kernel_rfl)
                    have hg0 := (iN hp31 (iNF iDT)).1 (eqF (andR hg))
                    exact ⟨_, (hr3).isSl, by first | omega | (simp only [List.length_append, List.length_cons, List.length_nil, List.length_replicate, List.length_set, List.length_take, List.length_drop, List.length_map, List.length_reverse, List.length_range]; omega), by first | omega | (simp only [List.length_append, List.length_cons, List.length_nil, List.length_replicate, List.length_set, List.length_take, List.length_drop, List.length_map, List.length_reverse, List.length_range]; omega)⟩)
                · exact One.loadD (α := Int) (t := 3) (size := 1) (off := 0) (k := i) (l := fun G => l1) (x := fun G => n12) (vs := fun G => [.int .i64 n12]) (v := fun G => v1) (H := fun G => K2) (p := fun G => elemAddr v1 (i.toNat * 1)) (fun G => ⟨by kernel_rfl⟩) rfl (fun G => by kernel_rfl) (fun G w hs => by
                    have hg := gd_of hs (p := (true && (p31 == false))) (by kernel_rfl)
                    have hg0 := (iN hp31 (iNF iDT)).1 (eqF (andR hg))
                    exact ⟨(hs.read 0 rfl), hr3, (add_zero' _).symm, by omega, by first | omega | (simp only [List.length_append, List.length_cons, List.length_nil, List.length_replicate, List.length_set, List.length_take, List.length_drop, List.length_map, List.length_reverse, List.length_range]; omega), hn12⟩)
                · exact One.index (t := 22) (e := 44) (size := 5) (v := fun G => vv) (k := .i64) (n := n12) (fun _ => ⟨by kernel_rfl⟩) (fun G w hs => by
                    have hg := gd_of hs (p := (true && (p31 == false))) (by kernel_rfl)
                    have hg0 := (iN hp31 (iNF iDT)).1 (eqF (andR hg))
                    exact ⟨_, (hr5).isSl, by first | omega | (simp only [List.length_append, List.length_cons, List.length_nil, List.length_replicate, List.length_set, List.length_take, List.length_drop, List.length_map, List.length_reverse, List.length_range]; omega), by first | omega | (simp only [List.length_append, List.length_cons, List.length_nil, List.length_replicate, List.length_set, List.length_take, List.length_drop, List.length_map, List.length_reverse, List.length_range]; omega)⟩)
                · exact One.loadD (α := DThing) (t := 3) (size := 5) (off := 4) (k := n12) (l := fun G => v) (x := fun G => x3) (vs := fun G => [.int .i64 x3.Right]) (v := fun G => vv) (H := fun G => K2) (p := fun G => (elemAddr vv (n12.toNat * 5)).add 4) (fun G => ⟨by kernel_rfl⟩) rfl (fun G => by kernel_rfl) (fun G w hs => by
                    have hg := gd_of hs (p := (true && (p31 == false))) (by kernel_rfl)
                    have hg0 := (iN hp31 (iNF iDT)).1 (eqF (andR hg))
                    exact ⟨(hs.read 0 rfl), hr5, rfl, by omega, by first | omega | (simp only [List.length_append, List.length_cons, List.length_nil, List.length_replicate, List.length_set, List.length_take, List.length_drop, List.length_map, List.length_reverse, List.length_range]; omega), hx3⟩)
                · exact One.bo hp32 (fun _ _ => by kernel_rfl)
                · subst hp33
                  cases p31 <;> exact One.under fun _ _ _ => by kernel_rfl
                · exact One.bo hp34 (fun _ _ => by kernel_rfl)
                · exact One.len (t := 26) (n := n4) (v := fun G => v1) (fun _ => ⟨by kernel_rfl⟩) (fun G w hs => by
                    have hg := gd_of hs (p := ((true && (p33 == false)) && (p34 == true))) (by kernel_rfl)
                    have hg0 := (iN hp34 iDT).1 (eqT (andR hg))
                    have hg1 := (iN hp33 (iOF (iN hp31 (iNF iDT)) (iN hp32 (iNF iDT)))).1 (eqF (andR (andL hg)))
                    exact ⟨_, (hr3).isSl, hn4⟩)
                · exact One.ar hn9 (fun _ _ => by kernel_rfl) (fun G w hs => by
                    have hg := gd_of hs (p := ((true && (p33 == false)) && (p34 == true))) (by kernel_rfl)
                    have hg0 := (iN hp34 iDT).1 (eqT (andR hg))
                    have hg1 := (iN hp33 (iOF (iN hp31 (iNF iDT)) (iN hp32 (iNF iDT)))).1 (eqF (andR (andL hg)))
                    exact by omega)
                · exact One.bo hp35 (fun _ _ => by kernel_rfl)
                · subst hp36
                  refine One.under fun G w hs => ?_
                  revert hs
                  cases p34
                  · cases p33
                    · intro _; kernel_rfl
                    · intro hs; exact absurd hs.gd (by rw [show RC.gd _ _ 41 = false from by kernel_rfl]; decide)
                  · cases p33
                    · intro _; kernel_rfl
                    · intro hs; exact absurd hs.gd (by rw [show RC.gd _ _ 41 = false from by kernel_rfl]; decide)
                · exact One.index (t := 22) (e := 44) (size := 5) (v := fun G => v2) (k := .i64) (n := i) (fun _ => ⟨by kernel_rfl⟩) (fun G w hs => by
                    have hg := gd_of hs (p := ((true && (p33 == false)) && (p36 == true))) (by kernel_rfl)
                    have hg0 := (iN hp36 (iAT (iN hp34 iDT) (iN hp35 iDT))).1 (eqT (andR hg))
                    have hg1 := (iN hp33 (iOF (iN hp31 (iNF iDT)) (iN hp32 (iNF iDT)))).1 (eqF (andR (andL hg)))
                    exact ⟨_, (hr4).isSl, by first | omega | (simp only [List.length_append, List.length_cons, List.length_nil, List.length_replicate, List.length_set, List.length_take, List.length_drop, List.length_map, List.length_reverse, List.length_range]; omega), by first | omega | (simp only [List.length_append, List.length_cons, List.length_nil, List.length_replicate, List.length_set, List.length_take, List.length_drop, List.length_map, List.length_reverse, List.length_range]; omega)⟩)
                · exact One.loadD (α := DThing) (t := 3) (size := 5) (off := 1) (k := i) (l := fun G => l2) (x := fun G => x2) (vs := fun G => [.int .i64 x2.Value]) (v := fun G => v2) (H := fun G => K2) (p := fun G => (elemAddr v2 (i.toNat * 5)).add 1) (fun G => ⟨by kernel_rfl⟩) rfl (fun G => by kernel_rfl) (fun G w hs => by
                    have hg := gd_of hs (p := ((true && (p33 == false)) && (p36 == true))) (by kernel_rfl)
                    have hg0 := (iN hp36 (iAT (iN hp34 iDT) (iN hp35 iDT))).1 (eqT (andR hg))
                    have hg1 := (iN hp33 (iOF (iN hp31 (iNF iDT)) (iN hp32 (iNF iDT)))).1 (eqF (andR (andL hg)))
                    exact ⟨(hs.read 0 rfl), hr4, rfl, by omega, by first | omega | (simp only [List.length_append, List.length_cons, List.length_nil, List.length_replicate, List.length_set, List.length_take, List.length_drop, List.length_map, List.length_reverse, List.length_range]; omega), hx2⟩)
                · exact One.bo hp37 (fun _ _ => by kernel_rfl)
                · subst hp38
                  refine One.under fun G w hs => ?_
                  revert hs
                  cases p36
                  · cases p33
                    · intro _; kernel_rfl
                    · intro hs; exact absurd hs.gd (by rw [show RC.gd _ _ 49 = false from by kernel_rfl]; decide)
                  · cases p33
                    · intro _; kernel_rfl
                    · intro hs; exact absurd hs.gd (by rw [show RC.gd _ _ 49 = false from by kernel_rfl]; decide)
                · subst hp39
                  cases p33 <;> exact One.under fun _ _ _ => by kernel_rfl
                intro G16 xa xw hDn
                refine hDn.to [1, 2, 3, 7, 8, 9, 11, 190] [] (by kernel_rfl) ?_
                clear hDn
                refine Pre.conv (sl := [(1, .int .i64 root), (2, .int .i64 leaf), (3, .pointer (some ⟨b1, 0, none⟩)), (7, .bool true), (8, v1), (9, v2), (11, .int .i64 i), (190, .bool p39)]) (A := [K2]) (L := [some (b1, .cells #[vv] 24 (0, 0)), some (b2, .cells #[.string x1.Text, .int .i64 x1.Value, .int .i64 x1.Blind, .int .i64 x1.Left, .int .i64 x1.Right] 44 (0, 0))]) ?_ (by kernel_rfl) (by kernel_rfl) (by kernel_rfl)
                clear G16
                refine At.then ?_
                refine W.cond p39 (by kernel_rfl) (fun xa hs => cnd_of (t := 190) (by kernel_rfl) (by kernel_rfl) hs) (fun hq => ?_) (fun hq => ?_)
                · skip
                  have hq12 := hq
                  replace hq12 := (iN hp39 (iOT (iN hp33 (iOT (iN hp31 (iNT iDF)) (iN hp32 (iNT iDF)))) (iN hp38 (iAT (iN hp36 (iAT (iN hp34 iDT) (iN hp35 iDT))) (iN hp37 (iNT iDF)))))).1 hq12
                  have hvw := Tm.view_at hl2 hW (by omega) (by omega) hx2 hn12 hx3
                  rcases hq12 with (h | h) | h <;> first | exact (h hvw.1).elim | exact (h hvw.2.1).elim | exact (h.2 (hvw.2.2 h.1.1 (by omega))).elim
                · skip
                  have hq13 := hq
                  replace hq13 := (iN hp39 (iOF (iN hp33 (iOF (iN hp31 (iNF iDT)) (iN hp32 (iNF iDT)))) (iN hp38 (iAF (iN hp36 (iAF (iN hp34 iDF) (iN hp35 iDF))) (iN hp37 (iNF iDT)))))).1 hq13
                  refine W.skip (by kernel_rfl) ?_
                  refine At.then ?_
                  refine W.seq (by kernel_rfl) ?_
                  obtain ⟨n13, hn13⟩ : ∃ zz : Int, zz = i - 1 := ⟨_, rfl⟩
                  obtain ⟨n14, hn14⟩ : ∃ zz : Int, zz = max n13 0 := ⟨_, rfl⟩
                  obtain ⟨x4, hx4⟩ : ∃ zz : DThing, zz = l2.getD n14.toNat default := ⟨_, rfl⟩
                  obtain ⟨p40, hp40⟩ : ∃ zz : Bool, zz = !(decide (x4.Left = n12)) := ⟨_, rfl⟩
                  obtain ⟨p41, hp41⟩ : ∃ zz : Bool, zz = (p34 && p40) := ⟨_, rfl⟩
                  obtain ⟨p42, hp42⟩ : ∃ zz : Bool, zz = !(decide (x4.Right = n12)) := ⟨_, rfl⟩
                  obtain ⟨p43, hp43⟩ : ∃ zz : Bool, zz = (p41 && p42) := ⟨_, rfl⟩
                  refine W.regV (paths_ct_r6_16 vv root leaf b1 v1 v2 K2 x1 b2 i n12 p34 p39 n13 n14 x4 p40 p41 p42 p43) [0, 2, 3, 4, 8, 10, 11, 16, 17, 18, 22, 24, 25] [1, 5, 6, 7, 9, 12, 13, 14, 15, 19, 20, 21, 23, 26, 27, 28, 29] (fun G => [.int .i64 i, .bool p34, v2, .int .i64 i, .pointer (some ((elemAddr v2 (n14.toNat * 5)).add 3)), v1, .int .i64 i, .bool p41, v2, .int .i64 i, .pointer (some ((elemAddr v2 (n14.toNat * 5)).add 4)), v1, .int .i64 i]) (by kernel_rfl) mo_ld (by kernel_rfl) (fun _ _ => by kernel_rfl) ⟨?_, ?_, ?_, ?_, ?_, ?_, ?_, ?_, ?_, ?_, ?_, ?_, ?_, ?_, ?_, ?_, ?_, trivial⟩ (by kernel_rfl) ?_
                  · exact One.bo hp34 (fun _ _ => by kernel_rfl)
                  · exact One.ar hn13 (fun _ _ => by kernel_rfl) (fun G w hs => by
                      have hg := gd_of hs (p := (true && (p34 == true))) (by kernel_rfl)
                      have hg0 := (iN hp34 iDT).1 (eqT (andR hg))
                      exact by omega)
                  · exact One.eq (congrArg (Value.int .i64) ((max_if _ _).trans hn14.symm)) (fun _ _ => by kernel_rfl)
                  · exact One.index (t := 22) (e := 44) (size := 5) (v := fun G => v2) (k := .i64) (n := n14) (fun _ => ⟨by kernel_rfl⟩) (fun G w hs => by
                      have hg := gd_of hs (p := (true && (p34 == true))) (by kernel_rfl)
                      have hg0 := (iN hp34 iDT).1 (eqT (andR hg))
                      exact ⟨_, (hr4).isSl, by first | omega | (simp only [List.length_append, List.length_cons, List.length_nil, List.length_replicate, List.length_set, List.length_take, List.length_drop, List.length_map, List.length_reverse, List.length_range]; omega), by first | omega | (simp only [List.length_append, List.length_cons, List.length_nil, List.length_replicate, List.length_set, List.length_take, List.length_drop, List.length_map, List.length_reverse, List.length_range]; omega)⟩)
                  · exact One.loadD (α := DThing) (t := 3) (size := 5) (off := 3) (k := n14) (l := fun G => l2) (x := fun G => x4) (vs := fun G => [.int .i64 x4.Left]) (v := fun G => v2) (H := fun G => K2) (p := fun G => (elemAddr v2 (n14.toNat * 5)).add 3) (fun G => ⟨by kernel_rfl⟩) rfl (fun G => by kernel_rfl) (fun G w hs => by
                      have hg := gd_of hs (p := (true && (p34 == true))) (by kernel_rfl)
                      have hg0 := (iN hp34 iDT).1 (eqT (andR hg))
                      exact ⟨(hs.read 0 rfl), hr4, rfl, by omega, by first | omega | (simp only [List.length_append, List.length_cons, List.length_nil, List.length_replicate, List.length_set, List.length_take, List.length_drop, List.length_map, List.length_reverse, List.length_range]; omega), hx4⟩)
                  · exact One.index (t := 26) (e := 3) (size := 1) (v := fun G => v1) (k := .i64) (n := i) (fun _ => ⟨by kernel_rfl⟩) (fun G w hs => by
                      have hg := gd_of hs (p := (true && (p34 == true))) (by kernel_rfl)
                      have hg0 := (iN hp34 iDT).1 (eqT (andR hg))
                      exact ⟨_, (hr3).isSl, by first | omega | (simp only [List.length_append, List.length_cons, List.length_nil, List.length_replicate, List.length_set, List.length_take, List.length_drop, List.length_map, List.length_reverse, List.length_range]; omega), by first | omega | (simp only [List.length_append, List.length_cons, List.length_nil, List.length_replicate, List.length_set, List.length_take, List.length_drop, List.length_map, List.length_reverse, List.length_range]; omega)⟩)
                  · exact One.loadD (α := Int) (t := 3) (size := 1) (off := 0) (k := i) (l := fun G => l1) (x := fun G => n12) (vs := fun G => [.int .i64 n12]) (v := fun G => v1) (H := fun G => K2) (p := fun G => elemAddr v1 (i.toNat * 1)) (fun G => ⟨by kernel_rfl⟩) rfl (fun G => by kernel_rfl) (fun G w hs => by
                      have hg := gd_of hs (p := (true && (p34 == true))) (by kernel_rfl)
                      have hg0 := (iN hp34 iDT).1 (eqT (andR hg))
                      exact ⟨(hs.read 0 rfl), hr3, (add_zero' _).symm, by omega, by first | omega | (simp only [List.length_append, List.length_cons, List.length_nil, List.length_replicate, List.length_set, List.length_take, List.length_drop, List.length_map, List.length_reverse, List.length_range]; omega), hn12⟩)
                  · exact One.bo hp40 (fun _ _ => by kernel_rfl)
                  · subst hp41
                    cases p34 <;> exact One.under fun _ _ _ => by kernel_rfl
                  · exact One.ar hn13 (fun _ _ => by kernel_rfl) (fun G w hs => by
                      have hg := gd_of hs (p := (true && (p41 == true))) (by kernel_rfl)
                      have hg0 := (iN hp41 (iAT (iN hp34 iDT) (iN hp40 (iNT iDF)))).1 (eqT (andR hg))
                      exact by omega)
                  · exact One.eq (congrArg (Value.int .i64) ((max_if _ _).trans hn14.symm)) (fun _ _ => by kernel_rfl)
                  · exact One.index (t := 22) (e := 44) (size := 5) (v := fun G => v2) (k := .i64) (n := n14) (fun _ => ⟨by kernel_rfl⟩) (fun G w hs => by
                      have hg := gd_of hs (p := (true && (p41 == true))) (by kernel_rfl)
                      have hg0 := (iN hp41 (iAT (iN hp34 iDT) (iN hp40 (iNT iDF)))).1 (eqT (andR hg))
                      exact ⟨_, (hr4).isSl, by first | omega | (simp only [List.length_append, List.length_cons, List.length_nil, List.length_replicate, List.length_set, List.length_take, List.length_drop, List.length_map, List.length_reverse, List.length_range]; omega), by first | omega | (simp only [List.length_append, List.length_cons, List.length_nil, List.length_replicate, List.length_set, List.length_take, List.length_drop, List.length_map, List.length_reverse, List.length_range]; omega)⟩)
                  · exact One.loadD (α := DThing) (t := 3) (size := 5) (off := 4) (k := n14) (l := fun G => l2) (x := fun G => x4) (vs := fun G => [.int .i64 x4.Right]) (v := fun G => v2) (H := fun G => K2) (p := fun G => (elemAddr v2 (n14.toNat * 5)).add 4) (fun G => ⟨by kernel_rfl⟩) rfl (fun G => by kernel_rfl) (fun G w hs => by
                      have hg := gd_of hs (p := (true && (p41 == true))) (by kernel_rfl)
                      have hg0 := (iN hp41 (iAT (iN hp34 iDT) (iN hp40 (iNT iDF)))).1 (eqT (andR hg))
                      exact ⟨(hs.read 0 rfl), hr4, rfl, by omega, by first | omega | (simp only [List.length_append, List.length_cons, List.length_nil, List.length_replicate, List.length_set, List.length_take, List.length_drop, List.length_map, List.length_reverse, List.length_range]; omega), hx4⟩)
                  · exact One.index (t := 26) (e := 3) (size := 1) (v := fun G => v1) (k := .i64) (n := i) (fun _ => ⟨by kernel_rfl⟩) (fun G w hs => by
                      have hg := gd_of hs (p := (true && (p41 == true))) (by kernel_rfl)
                      have hg0 := (iN hp41 (iAT (iN hp34 iDT) (iN hp40 (iNT iDF)))).1 (eqT (andR hg))
                      exact ⟨_, (hr3).isSl, by first | omega | (simp only [List.length_append, List.length_cons, List.length_nil, List.length_replicate, List.length_set, List.length_take, List.length_drop, List.length_map, List.length_reverse, List.length_range]; omega), by first | omega | (simp only [List.length_append, List.length_cons, List.length_nil, List.length_replicate, List.length_set, List.length_take, List.length_drop, List.length_map, List.length_reverse, List.length_range]; omega)⟩)
                  · exact One.loadD (α := Int) (t := 3) (size := 1) (off := 0) (k := i) (l := fun G => l1) (x := fun G => n12) (vs := fun G => [.int .i64 n12]) (v := fun G => v1) (H := fun G => K2) (p := fun G => elemAddr v1 (i.toNat * 1)) (fun G => ⟨by kernel_rfl⟩) rfl (fun G => by kernel_rfl) (fun G w hs => by
                      have hg := gd_of hs (p := (true && (p41 == true))) (by kernel_rfl)
                      have hg0 := (iN hp41 (iAT (iN hp34 iDT) (iN hp40 (iNT iDF)))).1 (eqT (andR hg))
                      exact ⟨(hs.read 0 rfl), hr3, (add_zero' _).symm, by omega, by first | omega | (simp only [List.length_append, List.length_cons, List.length_nil, List.length_replicate, List.length_set, List.length_take, List.length_drop, List.length_map, List.length_reverse, List.length_range]; omega), hn12⟩)
                  · exact One.bo hp42 (fun _ _ => by kernel_rfl)
                  · subst hp43
                    cases p41 <;> exact One.under fun _ _ _ => by kernel_rfl
                  intro G17 xa xw hDn
                  refine hDn.to [1, 2, 3, 7, 8, 9, 11, 220] [] (by kernel_rfl) ?_
                  clear hDn
                  refine Pre.conv (sl := [(1, .int .i64 root), (2, .int .i64 leaf), (3, .pointer (some ⟨b1, 0, none⟩)), (7, .bool true), (8, v1), (9, v2), (11, .int .i64 i), (220, .bool p43)]) (A := [K2]) (L := [some (b1, .cells #[vv] 24 (0, 0)), some (b2, .cells #[.string x1.Text, .int .i64 x1.Value, .int .i64 x1.Blind, .int .i64 x1.Left, .int .i64 x1.Right] 44 (0, 0))]) ?_ (by kernel_rfl) (by kernel_rfl) (by kernel_rfl)
                  clear G17
                  refine At.then ?_
                  refine W.cond p43 (by kernel_rfl) (fun xa hs => cnd_of (t := 220) (by kernel_rfl) (by kernel_rfl) hs) (fun hq => ?_) (fun hq => ?_)
                  · skip
                    have hq14 := hq
                    replace hq14 := (iN hp43 (iAT (iN hp41 (iAT (iN hp34 iDT) (iN hp40 (iNT iDF)))) (iN hp42 (iNT iDF)))).1 hq14
                    have hvp := Tm.view_prev hl2 hW hq14.1.1 (by omega) hn13 hn14 hx4 hn12; omega
                  · skip
                    have hq15 := hq
                    replace hq15 := (iN hp43 (iAF (iN hp41 (iAF (iN hp34 iDF) (iN hp40 (iNF iDT)))) (iN hp42 (iNF iDT)))).1 hq15
                    refine W.skip (by kernel_rfl) ?_
                    refine At.blockNormal ?_
                    refine At.then ?_
                    obtain ⟨n15, hn15⟩ : ∃ zz : Int, zz = i + 1 := ⟨_, rfl⟩
                    refine W.regV (paths_ct_r6_17 vv root leaf b1 v1 v2 K2 x1 b2 i p43 n15) [0, 2] [1] (fun G => [.int .i64 i, .int .i64 n15]) (by kernel_rfl) mo_ld (by kernel_rfl) (fun _ _ => by kernel_rfl) ⟨?_, trivial⟩ (by kernel_rfl) ?_
                    · exact One.ar hn15 (fun _ _ => by kernel_rfl) (fun G w hs => by omega)
                    intro G18 xa xw hDn
                    refine hDn.to [1, 2, 3, 7, 8, 9, 11] [] (by kernel_rfl) ?_
                    clear hDn
                    refine Pre.conv (sl := [(1, .int .i64 root), (2, .int .i64 leaf), (3, .pointer (some ⟨b1, 0, none⟩)), (7, .bool true), (8, v1), (9, v2), (11, .int .i64 n15)]) (A := [K2]) (L := [some (b1, .cells #[vv] 24 (0, 0)), some (b2, .cells #[.string x1.Text, .int .i64 x1.Value, .int .i64 x1.Blind, .int .i64 x1.Left, .int .i64 x1.Right] 44 (0, 0))]) ?_ (by kernel_rfl) (by kernel_rfl) (by kernel_rfl)
                    clear G18
                    intro xa xw hs hw
                    refine ⟨n15, ⟨hs.sub (by kernel_rfl), hw.mask [true, true] (by kernel_rfl), ?_⟩, ?_⟩
                    · skip
                      refine ⟨?_, ?_⟩
                      · show 0 ≤ n15
                        first | omega | rfl | (simp; done) | (subst_vars; simp; done)
                      · show n15 ≤ (l1.length : Int)
                        first | omega | rfl | (simp; done) | (subst_vars; simp; done)
                    · show ((l1.length : Int) - n15).toNat < ((l1.length : Int) - i).toNat
                      omega
            · skip
              have hq16 := hq
              replace hq16 := (iN hp27 iDF).1 hq16
              refine W.exit 0 (by kernel_rfl) ?_
              refine At.thenExit ?_
              refine At.thenExit ?_
              refine At.blockHit ?_
              refine At.then ?_
              refine W.seq (by kernel_rfl) ?_
              obtain ⟨p44, hp44⟩ : ∃ zz : Bool, zz = !(decide (root = leaf)) := ⟨_, rfl⟩
              obtain ⟨p45, hp45⟩ : ∃ zz : Bool, zz = decide (n4 = 1) := ⟨_, rfl⟩
              obtain ⟨p46, hp46⟩ : ∃ zz : Bool, zz = (p44 || p45) := ⟨_, rfl⟩
              refine W.regV (paths_ct_r6_18 vv root leaf b1 v1 v2 K2 x1 b2 n4 i p27 p44 p45 p46) [0, 1, 2, 3, 5, 6, 10, 11] [4, 7, 8, 9] (fun G => [.bool true, .bool true, .int .i64 root, .int .i64 leaf, .bool p44, v1, .bool p46, .bool p46]) (by kernel_rfl) mo_ld (by kernel_rfl) (fun _ _ => by kernel_rfl) ⟨?_, ?_, ?_, ?_, trivial⟩ (by kernel_rfl) ?_
              · exact One.bo hp44 (fun _ _ => by kernel_rfl)
              · exact One.len (t := 26) (n := n4) (v := fun G => v1) (fun _ => ⟨by kernel_rfl⟩) (fun G w hs => by
                  have hg := gd_of hs (p := ((true && (true == true)) && (p44 == false))) (by kernel_rfl)
                  have hg0 := (iN hp44 (iNF iDT)).1 (eqF (andR hg))
                  exact ⟨_, (hr3).isSl, hn4⟩)
              · exact One.bo hp45 (fun _ _ => by kernel_rfl)
              · subst hp46
                refine One.under fun G w hs => ?_
                revert hs
                cases p44
                · intro _; kernel_rfl
                · intro _; kernel_rfl
              intro G19 xa xw hDn
              refine hDn.to [6] [] (by kernel_rfl) ?_
              clear hDn
              refine Pre.conv (sl := [(6, .bool p46)]) (A := [K2]) (L := [some (b1, .cells #[vv] 24 (0, 0)), some (b2, .cells #[.string x1.Text, .int .i64 x1.Value, .int .i64 x1.Blind, .int .i64 x1.Left, .int .i64 x1.Right] 44 (0, 0))]) ?_ (by kernel_rfl) (by kernel_rfl) (by kernel_rfl)
              clear G19
              refine At.then ?_
              refine W.ret (by kernel_rfl) ?_
              refine At.results (Or.inl rfl) (.bool p46) (fun xa xw hs hw => results_one (r := .tmp 6) (by kernel_rfl) (res_tmp (t := 6) (by kernel_rfl) hs)) (fun w' hw => ?_)
              have e0 : p46 = true := by
                rw [(iN hp46 (iOT (iN hp44 (iNT iDF)) (iN hp45 iDT)))]
                by_cases e : root = leaf
                · right; have := hP.2.2.2 e; omega
                · left; exact e
              exact ⟨congrArg Ending.returned (cong1 (fun (x0 : Bool) => (.bool x0 : Value)) e0), hw.base⟩

end Kb
