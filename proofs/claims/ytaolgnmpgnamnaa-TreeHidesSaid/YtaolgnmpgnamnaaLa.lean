/- The examples of the law. -/
import Derived.Test.YtaolgnmpgnamnaaRs
set_option linter.unusedVariables false
set_option linter.unusedSimpArgs false
namespace Kb
open Go Go.Proofs
theorem mo_la : Try.prog.follows .mixedOrders = true := by kernel_rfl
noncomputable def things_ct_r41_0 (H : Heaplet) : RC := { ops := opsAt Try.f41 0, B := [0], sl := [], A := [H], L := [none], cs := [{ val := fun _ => .slice none 0 0 }] }
noncomputable def things_ct_r41_1 (H : Heaplet) : RC := { ops := opsAt Try.f41 1, B := [0], sl := [], A := [H], L := [none], cs := [{ val := fun _ => .int .i64 ((-1)) }] }
noncomputable def things_ct_r41_2 (H : Heaplet) : RC := { ops := opsAt Try.f41 2, B := [0, 0, 3, 0, 0, 24, 0, 0, 192, 0, 0, 2047, 4095], sl := [(1, .int .i64 ((-1)))], A := [H], L := [none], cs := [{ val := fun _ => .int .i64 ((-1)) }, { val := fun _ => .int .i64 ((-1)) }, { val := fun _ => .agg #[.string (⟨#[97]⟩), .int .i64 30, .int .i64 7, .int .i64 ((-1)), .int .i64 ((-1))] }, { val := fun _ => .int .i64 ((-1)) }, { val := fun _ => .int .i64 ((-1)) }, { val := fun _ => .agg #[.string (⟨#[98]⟩), .int .i64 20, .int .i64 8, .int .i64 ((-1)), .int .i64 ((-1))] }, { val := fun _ => .int .i64 ((-1)) }, { val := fun _ => .int .i64 ((-1)) }, { val := fun _ => .agg #[.string (⟨#[99]⟩), .int .i64 10, .int .i64 9, .int .i64 ((-1)), .int .i64 ((-1))] }, { val := fun _ => .agg #[.string ByteArray.empty, .int .i64 50, .int .i64 15, .int .i64 0, .int .i64 1] }, { val := fun _ => .agg #[.string ByteArray.empty, .int .i64 60, .int .i64 24, .int .i64 3, .int .i64 2] }, { val := fun G => .slice (some ⟨(G 11).b, 0, none⟩) 5 5, ups := [(0, fun G => (some ((G 11).b, .cells #[.string (⟨#[97]⟩), .int .i64 30, .int .i64 7, .int .i64 ((-1)), .int .i64 ((-1)), .string (⟨#[98]⟩), .int .i64 20, .int .i64 8, .int .i64 ((-1)), .int .i64 ((-1)), .string (⟨#[99]⟩), .int .i64 10, .int .i64 9, .int .i64 ((-1)), .int .i64 ((-1)), .string ByteArray.empty, .int .i64 50, .int .i64 15, .int .i64 0, .int .i64 1, .string ByteArray.empty, .int .i64 60, .int .i64 24, .int .i64 3, .int .i64 2] 44 (0, 0))))] }, { val := fun G => .slice (some ⟨(G 11).b, 0, none⟩) 5 5 }] }
set_option maxRecDepth 10000 in
theorem things_ct (w0 : World) (H : Heaplet) (hA : Agrees w0 H) :
    Calls Try.prog 41 #[] w0 (Makes H (fun g => g.v) (fun J g => RSl J Tm.exT g.v) w0) := by
  have hE : Ext w0 H H := Ext.refl w0 H
  refine calls_of_W (sl := []) (A := [H]) (L := [none]) Try.func41 (by kernel_rfl) 14 (by kernel_rfl) (by kernel_rfl) (fun J hJ => by simp at hJ; subst hJ; exact hA) (by simp) ?_
  refine W.seq (by kernel_rfl) ?_
  refine W.regV (things_ct_r41_0 H) [0] [] (fun G => [.slice none 0 0]) (by kernel_rfl) mo_la (by kernel_rfl) (fun _ _ => by kernel_rfl) trivial (by kernel_rfl) ?_
  intro G1 xa xw hDn
  refine hDn.to [] [] (by kernel_rfl) ?_
  clear hDn
  refine Pre.conv (sl := []) (A := [H]) (L := [none]) ?_ (by kernel_rfl) (by kernel_rfl) (by kernel_rfl)
  clear G1
  refine At.then ?_
  refine W.seq (by kernel_rfl) ?_
  refine W.regV (things_ct_r41_1 H) [0] [] (fun G => [.int .i64 ((-1))]) (by kernel_rfl) mo_la (by kernel_rfl) (fun _ _ => by kernel_rfl) trivial (by kernel_rfl) ?_
  intro G2 xa xw hDn
  refine hDn.to [1] [] (by kernel_rfl) ?_
  clear hDn
  refine Pre.conv (sl := [(1, .int .i64 ((-1)))]) (A := [H]) (L := [none]) ?_ (by kernel_rfl) (by kernel_rfl) (by kernel_rfl)
  clear G2
  refine At.then ?_
  refine W.seq (by kernel_rfl) ?_
  refine W.regV (things_ct_r41_2 H) [0, 1, 2, 3, 4, 5, 6, 7, 8, 9, 10, 12] [11] (fun G => [.int .i64 ((-1)), .int .i64 ((-1)), .agg #[.string (⟨#[97]⟩), .int .i64 30, .int .i64 7, .int .i64 ((-1)), .int .i64 ((-1))], .int .i64 ((-1)), .int .i64 ((-1)), .agg #[.string (⟨#[98]⟩), .int .i64 20, .int .i64 8, .int .i64 ((-1)), .int .i64 ((-1))], .int .i64 ((-1)), .int .i64 ((-1)), .agg #[.string (⟨#[99]⟩), .int .i64 10, .int .i64 9, .int .i64 ((-1)), .int .i64 ((-1))], .agg #[.string ByteArray.empty, .int .i64 50, .int .i64 15, .int .i64 0, .int .i64 1], .agg #[.string ByteArray.empty, .int .i64 60, .int .i64 24, .int .i64 3, .int .i64 2], .slice (some ⟨(G 11).b, 0, none⟩) 5 5]) (by kernel_rfl) mo_la (by kernel_rfl) (fun _ _ => by kernel_rfl) ⟨?_, trivial⟩ (by kernel_rfl) ?_
  · exact One.new (r := 0) (T := 44) (fun b => .slice (some ⟨b, 0, none⟩) 5 5) (arr := fun G => #[.string (⟨#[97]⟩), .int .i64 30, .int .i64 7, .int .i64 ((-1)), .int .i64 ((-1)), .string (⟨#[98]⟩), .int .i64 20, .int .i64 8, .int .i64 ((-1)), .int .i64 ((-1)), .string (⟨#[99]⟩), .int .i64 10, .int .i64 9, .int .i64 ((-1)), .int .i64 ((-1)), .string ByteArray.empty, .int .i64 50, .int .i64 15, .int .i64 0, .int .i64 1, .string ByteArray.empty, .int .i64 60, .int .i64 24, .int .i64 3, .int .i64 2]) (fun G w => by kernel_rfl) (fun G b => by kernel_rfl)
  intro G3 xa xw hDn
  refine hDn.to [0] [] (by kernel_rfl) ?_
  clear hDn
  refine Pre.conv (sl := [(0, .slice (some ⟨(G3 11).b, 0, none⟩) 5 5)]) (A := [H]) (L := [(some ((G3 11).b, .cells #[.string (⟨#[97]⟩), .int .i64 30, .int .i64 7, .int .i64 ((-1)), .int .i64 ((-1)), .string (⟨#[98]⟩), .int .i64 20, .int .i64 8, .int .i64 ((-1)), .int .i64 ((-1)), .string (⟨#[99]⟩), .int .i64 10, .int .i64 9, .int .i64 ((-1)), .int .i64 ((-1)), .string ByteArray.empty, .int .i64 50, .int .i64 15, .int .i64 0, .int .i64 1, .string ByteArray.empty, .int .i64 60, .int .i64 24, .int .i64 3, .int .i64 2] 44 (0, 0)))]) ?_ (by kernel_rfl) (by kernel_rfl) (by kernel_rfl)
  generalize (G3 11).b = b1 at ⊢
  clear G3
  have hr1 : OSl 44 H ([(DThing.mk (⟨#[97]⟩) 30 7 ((-1)) ((-1))), (DThing.mk (⟨#[98]⟩) 20 8 ((-1)) ((-1))), (DThing.mk (⟨#[99]⟩) 10 9 ((-1)) ((-1))), (DThing.mk ByteArray.empty 50 15 0 1), (DThing.mk ByteArray.empty 60 24 3 2)]) (.slice (some ⟨b1, 0, none⟩) 5 5) ((some (b1, .cells #[.string (⟨#[97]⟩), .int .i64 30, .int .i64 7, .int .i64 ((-1)), .int .i64 ((-1)), .string (⟨#[98]⟩), .int .i64 20, .int .i64 8, .int .i64 ((-1)), .int .i64 ((-1)), .string (⟨#[99]⟩), .int .i64 10, .int .i64 9, .int .i64 ((-1)), .int .i64 ((-1)), .string ByteArray.empty, .int .i64 50, .int .i64 15, .int .i64 0, .int .i64 1, .string ByteArray.empty, .int .i64 60, .int .i64 24, .int .i64 3, .int .i64 2] 44 (0, 0)))) := (OSl.lit (α := DThing) (E := 44) (n := 5) (H := H) (l := [(DThing.mk (⟨#[97]⟩) 30 7 ((-1)) ((-1))), (DThing.mk (⟨#[98]⟩) 20 8 ((-1)) ((-1))), (DThing.mk (⟨#[99]⟩) 10 9 ((-1)) ((-1))), (DThing.mk ByteArray.empty 50 15 0 1), (DThing.mk ByteArray.empty 60 24 3 2)]) (g := b1) (arr := #[.string (⟨#[97]⟩), .int .i64 30, .int .i64 7, .int .i64 ((-1)), .int .i64 ((-1)), .string (⟨#[98]⟩), .int .i64 20, .int .i64 8, .int .i64 ((-1)), .int .i64 ((-1)), .string (⟨#[99]⟩), .int .i64 10, .int .i64 9, .int .i64 ((-1)), .int .i64 ((-1)), .string ByteArray.empty, .int .i64 50, .int .i64 15, .int .i64 0, .int .i64 1, .string ByteArray.empty, .int .i64 60, .int .i64 24, .int .i64 3, .int .i64 2]) (fun _ _ => trivial) (by kernel_rfl))
  have hr1n := hr1.lim
  refine At.then ?_
  refine W.ret (by kernel_rfl) ?_
  refine Pre.freeze 0 (e := (some (b1, .cells #[.string (⟨#[97]⟩), .int .i64 30, .int .i64 7, .int .i64 ((-1)), .int .i64 ((-1)), .string (⟨#[98]⟩), .int .i64 20, .int .i64 8, .int .i64 ((-1)), .int .i64 ((-1)), .string (⟨#[99]⟩), .int .i64 10, .int .i64 9, .int .i64 ((-1)), .int .i64 ((-1)), .string ByteArray.empty, .int .i64 50, .int .i64 15, .int .i64 0, .int .i64 1, .string ByteArray.empty, .int .i64 60, .int .i64 24, .int .i64 3, .int .i64 2] 44 (0, 0)))) (by kernel_rfl) hE (fun K1 hk1 hk2 hE1 => ?_)
  have hr2 := (hr1).frozen hk1 hk2
  refine Pre.conv (L := [none]) ?_ rfl rfl (by kernel_rfl)
  refine At.results (Or.inl rfl) (.slice (some ⟨b1, 0, none⟩) 5 5) (fun xa xw hs hw => results_one (r := .tmp 0) (by kernel_rfl) (res_tmp (t := 0) (by kernel_rfl) hs)) (fun w' hw => ?_)
  have e0 : [(DThing.mk (⟨#[97]⟩) 30 7 ((-1)) ((-1))), (DThing.mk (⟨#[98]⟩) 20 8 ((-1)) ((-1))), (DThing.mk (⟨#[99]⟩) 10 9 ((-1)) ((-1))), (DThing.mk ByteArray.empty 50 15 0 1), (DThing.mk ByteArray.empty 60 24 3 2)] = Tm.exT := by
    rfl
  exact Makes.ret (.slice (some ⟨b1, 0, none⟩) 5 5) undef undef hA hE1 hw (fun N => rfl) (fun N J hJ => (e0 ▸ (hr2).mono hJ))

noncomputable def sane_ct_r13_0 (H : Heaplet) : RC := { ops := opsAt Try.f13 0, B := [0], sl := [], A := [H], L := [none, none, none, none, none, none], cs := [{ val := fun _ => .bool false }] }
noncomputable def sane_ct_r13_1 (w0 : World) (H : Heaplet) (l1 : List DThing) (n1 : Int) (l2 : List Int) (n2 : Int) : RC := { ops := opsAt Try.f13 1, B := [0, 0, 0, 0, 15, 31, 63, 63, 63, 63, 0, 1151, 3327, 7679, 16383], sl := [], A := [H], L := [none, none, none, none, none, none], cs := [{ val := fun _ => .agg #[.slice none 0 0] }, { val := fun G => .slice (some ⟨(G 1).b, 0, none⟩) 3 3, ups := [(0, fun G => (some ((G 1).b, .cells #[.string (⟨#[97]⟩), .string (⟨#[98]⟩), .string (⟨#[99]⟩)] 9 (0, 0))))] }, { val := fun G => .slice (some ⟨(G 2).b, 0, none⟩) 3 3, ups := [(1, fun G => (some ((G 2).b, .cells #[.int .i64 30, .int .i64 20, .int .i64 10] 3 (0, 0))))] }, { val := fun G => .slice (some ⟨(G 3).b, 0, none⟩) 3 3, ups := [(2, fun G => (some ((G 3).b, .cells #[.int .i64 7, .int .i64 8, .int .i64 9] 3 (0, 0))))] }, { val := fun G => .tuple #[.agg #[(G 4).v], .int .i64 n1, (G 4).v2, .int .i64 n2], fact := fun G => (RSl (hun (G 4).H ((hun (hun (entH ((some ((G 1).b, .cells #[.string (⟨#[97]⟩), .string (⟨#[98]⟩), .string (⟨#[99]⟩)] 9 (0, 0))))) H) (hun (hun (entH ((some ((G 2).b, .cells #[.int .i64 30, .int .i64 20, .int .i64 10] 3 (0, 0))))) H) (hun (entH ((some ((G 3).b, .cells #[.int .i64 7, .int .i64 8, .int .i64 9] 3 (0, 0))))) H))))) l1 (G 4).v ∧ RSl (hun (G 4).H ((hun (hun (entH ((some ((G 1).b, .cells #[.string (⟨#[97]⟩), .string (⟨#[98]⟩), .string (⟨#[99]⟩)] 9 (0, 0))))) H) (hun (hun (entH ((some ((G 2).b, .cells #[.int .i64 30, .int .i64 20, .int .i64 10] 3 (0, 0))))) H) (hun (entH ((some ((G 3).b, .cells #[.int .i64 7, .int .i64 8, .int .i64 9] 3 (0, 0))))) H))))) l2 (G 4).v2) ∧ New w0 (G 4).H, rds := [0, 1, 2] }, { val := fun G => .tuple #[.agg #[(G 4).v], .int .i64 n1, (G 4).v2, .int .i64 n2] }, { val := fun G => .agg #[(G 4).v] }, { val := fun _ => .int .i64 n1 }, { val := fun G => (G 4).v2 }, { val := fun _ => .int .i64 n2 }, { val := fun G => .pointer (some ⟨(G 10).b, 0, none⟩), ups := [(3, fun G => some ((G 10).b, .cells #[.slice none 0 0] 24 (0, 0)))] }, { val := fun _ => undef, ups := [(3, fun G => some ((G 10).b, .cells #[(G 4).v] 24 (0, 0)))] }, { val := fun _ => .int .i64 n1 }, { val := fun G => (G 4).v2 }, { val := fun _ => .int .i64 n2 }] }
noncomputable def sane_ct_r13_2 (w0 : World) (H : Heaplet) (n1 n2 : Int) (b1 : Nat) (v1 v2 : Value) (K4 : Heaplet) (p1 p2 p3 p4 p5 p6 p7 : Bool) : RC := { ops := opsAt Try.f13 2, B := [0, 1, 3, 7, 15, 31, 63, 127, 127, 511, 1023, 2047, 4095, 8191, 16383, 8191, 65535, 131071, 262143], sl := [(1, .pointer (some ⟨b1, 0, none⟩)), (2, .int .i64 n1), (3, v1), (4, .int .i64 n2)], A := [K4], L := [none, none, none, some (b1, .cells #[v2] 24 (0, 0)), none, none], cs := [{ val := fun _ => .int .i64 n2 }, { val := fun _ => .bool p1 }, { val := fun _ => .bool p1 }, { val := fun _ => .int .i64 n1 }, { val := fun _ => .bool p2 }, { val := fun _ => .bool p3 }, { val := fun _ => .bool p3 }, { val := fun _ => v1 }, { val := fun G => .slice (some ⟨(G 8).b, 0, none⟩) 3 3, fact := fun G => (G 8).H = entH (some ((G 8).b, .cells #[.int .i64 0, .int .i64 1, .int .i64 2] 3 (0, 0))) ∧ New w0 (G 8).H }, { val := fun _ => .bool p4 }, { val := fun _ => .bool (!p4) }, { val := fun _ => .bool p5 }, { val := fun _ => .bool p5 }, { val := fun _ => .pointer (some ⟨b1, 0, none⟩) }, { val := fun _ => v2, rds := [3] }, { val := fun G => (G 15).v, fact := fun G => (RSl (hun (G 15).H K4) Tm.exT (G 15).v) ∧ New w0 (G 15).H }, { val := fun _ => .bool p6 }, { val := fun _ => .bool (!p6) }, { val := fun _ => .bool p7 }] }
noncomputable def sane_ct_r13_3 (w0 : World) (H : Heaplet) (b1 : Nat) (v2 : Value) (K4 : Heaplet) (p7 : Bool) (l3 : List Int) : RC := { ops := opsAt Try.f13 4, B := [0, 1, 3], sl := [(1, .pointer (some ⟨b1, 0, none⟩)), (36, .bool p7)], A := [K4], L := [none, none, none, some (b1, .cells #[v2] 24 (0, 0)), none, none], cs := [{ val := fun _ => .agg #[v2], rds := [3] }, { val := fun G => (G 1).v, fact := fun G => (RSl (hun (G 1).H K4) l3 (G 1).v) ∧ New w0 (G 1).H }, { val := fun G => (G 1).v }] }
noncomputable def sane_ct_r13_4 (b1 : Nat) (v2 v3 : Value) (K5 : Heaplet) : RC := { ops := opsAt Try.f13 5, B := [0], sl := [(1, .pointer (some ⟨b1, 0, none⟩)), (5, v3)], A := [K5], L := [none, none, none, some (b1, .cells #[v2] 24 (0, 0)), none, none], cs := [{ val := fun _ => .int .i64 ((-1)) }] }
noncomputable def sane_ct_r13_5 (b1 : Nat) (v2 v3 : Value) (K5 : Heaplet) : RC := { ops := opsAt Try.f13 6, B := [0, 0, 0, 6, 0, 0, 48, 127, 255], sl := [(1, .pointer (some ⟨b1, 0, none⟩)), (5, v3), (6, .int .i64 ((-1)))], A := [K5], L := [none, none, none, some (b1, .cells #[v2] 24 (0, 0)), none, none], cs := [{ val := fun _ => .agg #[.string ByteArray.empty, .int .i64 60, .int .i64 24, .int .i64 3, .int .i64 2] }, { val := fun _ => .int .i64 ((-1)) }, { val := fun _ => .int .i64 ((-1)) }, { val := fun _ => .agg #[.string ByteArray.empty, .int .i64 ((-1)), .int .i64 ((-1)), .int .i64 0, .int .i64 1] }, { val := fun _ => .int .i64 ((-1)) }, { val := fun _ => .int .i64 ((-1)) }, { val := fun _ => .agg #[.string (⟨#[98]⟩), .int .i64 20, .int .i64 8, .int .i64 ((-1)), .int .i64 ((-1))] }, { val := fun G => .slice (some ⟨(G 7).b, 0, none⟩) 3 3, ups := [(4, fun G => (some ((G 7).b, .cells #[.string ByteArray.empty, .int .i64 60, .int .i64 24, .int .i64 3, .int .i64 2, .string ByteArray.empty, .int .i64 ((-1)), .int .i64 ((-1)), .int .i64 0, .int .i64 1, .string (⟨#[98]⟩), .int .i64 20, .int .i64 8, .int .i64 ((-1)), .int .i64 ((-1))] 44 (0, 0))))] }, { val := fun G => .slice (some ⟨(G 7).b, 0, none⟩) 3 3 }] }
noncomputable def sane_ct_r13_6 (w0 : World) (H : Heaplet) (b1 : Nat) (v2 v3 : Value) (K5 : Heaplet) (b5 : Nat) (p8 : Bool) (l4 : List Int) (p9 p10 : Bool) (l5 : List Int) (n3 : Int) (p11 p12 : Bool) (l6 : List DThing) (p13 p14 : Bool) : RC := { ops := opsAt Try.f13 7, B := [0, 0, 3, 7, 15, 31, 63, 31, 255, 511, 1023, 2047, 4095, 8191, 16383, 32767, 65535, 131071, 262143, 262143, 1048575, 262143, 4194303, 8388607, 16777215], sl := [(1, .pointer (some ⟨b1, 0, none⟩)), (5, v3), (7, .slice (some ⟨b5, 0, none⟩) 3 3)], A := [K5], L := [none, none, none, some (b1, .cells #[v2] 24 (0, 0)), (some (b5, .cells #[.string ByteArray.empty, .int .i64 60, .int .i64 24, .int .i64 3, .int .i64 2, .string ByteArray.empty, .int .i64 ((-1)), .int .i64 ((-1)), .int .i64 0, .int .i64 1, .string (⟨#[98]⟩), .int .i64 20, .int .i64 8, .int .i64 ((-1)), .int .i64 ((-1))] 44 (0, 0))), none], cs := [{ val := fun _ => v3 }, { val := fun G => .slice (some ⟨(G 1).b, 0, none⟩) 3 3, ups := [(5, fun G => (some ((G 1).b, .cells #[.int .i64 4, .int .i64 3, .int .i64 1] 3 (0, 0))))] }, { val := fun _ => .bool p8, rds := [5] }, { val := fun _ => .bool (!p8) }, { val := fun _ => .bool (!p8) }, { val := fun _ => .agg #[v2], rds := [3] }, { val := fun G => (G 6).v, fact := fun G => (RSl (hun (G 6).H K5) l4 (G 6).v) ∧ New w0 (G 6).H }, { val := fun G => .slice (some ⟨(G 7).b, 0, none⟩) 2 2, fact := fun G => (G 7).H = entH (some ((G 7).b, .cells #[.int .i64 4, .int .i64 2] 3 (0, 0))) ∧ New w0 (G 7).H }, { val := fun _ => .bool p9 }, { val := fun _ => .bool (!p9) }, { val := fun _ => .bool p10 }, { val := fun _ => .bool p10 }, { val := fun _ => .agg #[v2], rds := [3] }, { val := fun G => (G 13).v, fact := fun G => (RSl (hun (G 13).H K5) l5 (G 13).v) ∧ New w0 (G 13).H }, { val := fun _ => .int .i64 n3 }, { val := fun _ => .bool p11 }, { val := fun _ => .bool p12 }, { val := fun _ => .bool p12 }, { val := fun _ => .agg #[v2], rds := [3] }, { val := fun _ => v3 }, { val := fun G => (G 20).v, fact := fun G => (RSl (hun (G 20).H K5) l6 (G 20).v) ∧ New w0 (G 20).H }, { val := fun _ => .slice (some ⟨b5, 0, none⟩) 3 3 }, { val := fun _ => .bool p13, rds := [4] }, { val := fun _ => .bool (!p13) }, { val := fun _ => .bool p14 }] }
noncomputable def sane_ct_r13_7 (b1 : Nat) (v2 v3 : Value) (K5 : Heaplet) (b5 : Nat) (p14 : Bool) (b6 : Nat) (p15 p16 p17 : Bool) : RC := { ops := opsAt Try.f13 9, B := [0, 0, 3, 7, 15, 15, 63, 127, 255, 511], sl := [(1, .pointer (some ⟨b1, 0, none⟩)), (5, v3), (71, .bool p14)], A := [K5], L := [none, none, none, some (b1, .cells #[v2] 24 (0, 0)), (some (b5, .cells #[.string ByteArray.empty, .int .i64 60, .int .i64 24, .int .i64 3, .int .i64 2, .string ByteArray.empty, .int .i64 ((-1)), .int .i64 ((-1)), .int .i64 0, .int .i64 1, .string (⟨#[98]⟩), .int .i64 20, .int .i64 8, .int .i64 ((-1)), .int .i64 ((-1))] 44 (0, 0))), (some (b6, .cells #[.int .i64 4, .int .i64 3, .int .i64 1] 3 (0, 0)))], cs := [{ val := fun _ => .agg #[v2], rds := [3] }, { val := fun _ => v3 }, { val := fun _ => .bool p15 }, { val := fun _ => .bool p15 }, { val := fun _ => .agg #[v2], rds := [3] }, { val := fun _ => v3 }, { val := fun _ => .bool p16 }, { val := fun _ => .bool (!p16) }, { val := fun _ => .bool p17 }, { val := fun _ => .bool p17 }] }
set_option maxRecDepth 10000 in
theorem sane_ct (w0 : World) (H : Heaplet) (hA : Agrees w0 H) :
    Calls Try.prog 13 #[] w0 (fun e w' => e = .returned (.bool true) ∧ Base [] w0 w') := by
  have hE : Ext w0 H H := Ext.refl w0 H
  refine calls_of_W (sl := []) (A := [H]) (L := [none, none, none, none, none, none]) Try.func13 (by kernel_rfl) 81 (by kernel_rfl) (by kernel_rfl) (fun J hJ => by simp at hJ; subst hJ; exact hA) (by simp) ?_
  refine W.seq (by kernel_rfl) ?_
  refine W.regV (sane_ct_r13_0 H) [0] [] (fun G => [.bool false]) (by kernel_rfl) mo_la (by kernel_rfl) (fun _ _ => by kernel_rfl) trivial (by kernel_rfl) ?_
  intro G1 xa xw hDn
  refine hDn.to [] [] (by kernel_rfl) ?_
  clear hDn
  refine Pre.conv (sl := []) (A := [H]) (L := [none, none, none, none, none, none]) ?_ (by kernel_rfl) (by kernel_rfl) (by kernel_rfl)
  clear G1
  refine At.then ?_
  refine W.seq (by kernel_rfl) ?_
  obtain ⟨l1, hl1⟩ : ∃ zz : List DThing, zz = (Tm.buildT (([] : List DThing)) ([⟨#[97]⟩, ⟨#[98]⟩, ⟨#[99]⟩]) ([30, 20, 10]) ([7, 8, 9])) := ⟨_, rfl⟩
  obtain ⟨n1, hn1⟩ : ∃ zz : Int, zz = (Tm.buildR (([] : List DThing)) ([⟨#[97]⟩, ⟨#[98]⟩, ⟨#[99]⟩]) ([30, 20, 10]) ([7, 8, 9])) := ⟨_, rfl⟩
  obtain ⟨l2, hl2⟩ : ∃ zz : List Int, zz = (Tm.buildL (([] : List DThing)) ([⟨#[97]⟩, ⟨#[98]⟩, ⟨#[99]⟩]) ([30, 20, 10]) ([7, 8, 9])) := ⟨_, rfl⟩
  obtain ⟨n2, hn2⟩ : ∃ zz : Int, zz = (Tm.buildE (([] : List DThing)) ([⟨#[97]⟩, ⟨#[98]⟩, ⟨#[99]⟩]) ([30, 20, 10]) ([7, 8, 9])) := ⟨_, rfl⟩
  refine W.regV (sane_ct_r13_1 w0 H l1 n1 l2 n2) [0, 5, 6, 7, 8, 9, 12, 13, 14] [1, 2, 3, 4, 10, 11] (fun G => [.agg #[.slice none 0 0], .tuple #[.agg #[(G 4).v], .int .i64 n1, (G 4).v2, .int .i64 n2], .agg #[(G 4).v], .int .i64 n1, (G 4).v2, .int .i64 n2, .int .i64 n1, (G 4).v2, .int .i64 n2]) (by kernel_rfl) mo_la (by kernel_rfl) (fun _ _ => by kernel_rfl) ⟨?_, ?_, ?_, ?_, ?_, ?_, trivial⟩ (by kernel_rfl) ?_
  · exact One.new (r := 0) (T := 9) (fun b => .slice (some ⟨b, 0, none⟩) 3 3) (arr := fun G => #[.string (⟨#[97]⟩), .string (⟨#[98]⟩), .string (⟨#[99]⟩)]) (fun G w => by kernel_rfl) (fun G b => by kernel_rfl)
  · exact One.new (r := 1) (T := 3) (fun b => .slice (some ⟨b, 0, none⟩) 3 3) (arr := fun G => #[.int .i64 30, .int .i64 20, .int .i64 10]) (fun G w => by kernel_rfl) (fun G b => by kernel_rfl)
  · exact One.new (r := 2) (T := 3) (fun b => .slice (some ⟨b, 0, none⟩) 3 3) (arr := fun G => #[.int .i64 7, .int .i64 8, .int .i64 9]) (fun G w => by kernel_rfl) (fun G b => by kernel_rfl)
  · exact One.callM (f := 16) (args := fun G => #[.agg #[.slice none 0 0], .slice (some ⟨(G 1).b, 0, none⟩) 3 3, .slice (some ⟨(G 2).b, 0, none⟩) 3 3, .slice (some ⟨(G 3).b, 0, none⟩) 3 3]) (H := fun G => (hun (hun (entH ((some ((G 1).b, .cells #[.string (⟨#[97]⟩), .string (⟨#[98]⟩), .string (⟨#[99]⟩)] 9 (0, 0))))) H) (hun (hun (entH ((some ((G 2).b, .cells #[.int .i64 30, .int .i64 20, .int .i64 10] 3 (0, 0))))) H) (hun (entH ((some ((G 3).b, .cells #[.int .i64 7, .int .i64 8, .int .i64 9] 3 (0, 0))))) H)))) (V := fun G g => .tuple #[.agg #[g.v], .int .i64 n1, g.v2, .int .i64 n2]) (F := fun G J g => RSl J l1 g.v ∧ RSl J l2 g.v2) (fun G g w => ⟨by kernel_rfl, by kernel_rfl⟩) (fun G w hs => by
      rw [hl1, hn1, hl2, hn2]
      exact build_ct (([] : List DThing)) (.slice none 0 0) ([⟨#[97]⟩, ⟨#[98]⟩, ⟨#[99]⟩]) (.slice (some ⟨(G 1).b, 0, none⟩) 3 3) ([30, 20, 10]) (.slice (some ⟨(G 2).b, 0, none⟩) 3 3) ([7, 8, 9]) (.slice (some ⟨(G 3).b, 0, none⟩) 3 3) w ((hun (hun (entH ((some ((G 1).b, .cells #[.string (⟨#[97]⟩), .string (⟨#[98]⟩), .string (⟨#[99]⟩)] 9 (0, 0))))) H) (hun (hun (entH ((some ((G 2).b, .cells #[.int .i64 30, .int .i64 20, .int .i64 10] 3 (0, 0))))) H) (hun (entH ((some ((G 3).b, .cells #[.int .i64 7, .int .i64 8, .int .i64 9] 3 (0, 0))))) H)))) (hun_agrees (hun_agrees (entH_agrees (hs.own (r := 0) (e := (some ((G 1).b, .cells #[.string (⟨#[97]⟩), .string (⟨#[98]⟩), .string (⟨#[99]⟩)] 9 (0, 0)))) (by kernel_rfl))) (hs.read 0 rfl)) (hun_agrees (hun_agrees (entH_agrees (hs.own (r := 1) (e := (some ((G 2).b, .cells #[.int .i64 30, .int .i64 20, .int .i64 10] 3 (0, 0)))) (by kernel_rfl))) (hs.read 0 rfl)) (hun_agrees (entH_agrees (hs.own (r := 2) (e := (some ((G 3).b, .cells #[.int .i64 7, .int .i64 8, .int .i64 9] 3 (0, 0)))) (by kernel_rfl))) (hs.read 0 rfl)))) (RSl.nil) ((((((OSl.lit (α := ByteArray) (E := 9) (n := 3) (H := H) (l := [⟨#[97]⟩, ⟨#[98]⟩, ⟨#[99]⟩]) (g := (G 1).b) (arr := #[.string (⟨#[97]⟩), .string (⟨#[98]⟩), .string (⟨#[99]⟩)]) (fun _ _ => trivial) (by kernel_rfl))).read (hs.own (r := 0) (e := (some ((G 1).b, .cells #[.string (⟨#[97]⟩), .string (⟨#[98]⟩), .string (⟨#[99]⟩)] 9 (0, 0)))) (by kernel_rfl)) (hs.read 0 rfl))).mono hun_left)) ((((((OSl.lit (α := Int) (E := 3) (n := 3) (H := H) (l := [30, 20, 10]) (g := (G 2).b) (arr := #[.int .i64 30, .int .i64 20, .int .i64 10]) (fun _ _ => trivial) (by kernel_rfl))).read (hs.own (r := 1) (e := (some ((G 2).b, .cells #[.int .i64 30, .int .i64 20, .int .i64 10] 3 (0, 0)))) (by kernel_rfl)) (hs.read 0 rfl))).mono (hun_left.trans (hun_right (hun_agrees (entH_agrees (hs.own (r := 0) (e := (some ((G 1).b, .cells #[.string (⟨#[97]⟩), .string (⟨#[98]⟩), .string (⟨#[99]⟩)] 9 (0, 0)))) (by kernel_rfl))) (hs.read 0 rfl)) (hun_agrees (hun_agrees (entH_agrees (hs.own (r := 1) (e := (some ((G 2).b, .cells #[.int .i64 30, .int .i64 20, .int .i64 10] 3 (0, 0)))) (by kernel_rfl))) (hs.read 0 rfl)) (hun_agrees (entH_agrees (hs.own (r := 2) (e := (some ((G 3).b, .cells #[.int .i64 7, .int .i64 8, .int .i64 9] 3 (0, 0)))) (by kernel_rfl))) (hs.read 0 rfl))))))) ((((((OSl.lit (α := Int) (E := 3) (n := 3) (H := H) (l := [7, 8, 9]) (g := (G 3).b) (arr := #[.int .i64 7, .int .i64 8, .int .i64 9]) (fun _ _ => trivial) (by kernel_rfl))).read (hs.own (r := 2) (e := (some ((G 3).b, .cells #[.int .i64 7, .int .i64 8, .int .i64 9] 3 (0, 0)))) (by kernel_rfl)) (hs.read 0 rfl))).mono ((hun_right (hun_agrees (entH_agrees (hs.own (r := 1) (e := (some ((G 2).b, .cells #[.int .i64 30, .int .i64 20, .int .i64 10] 3 (0, 0)))) (by kernel_rfl))) (hs.read 0 rfl)) (hun_agrees (entH_agrees (hs.own (r := 2) (e := (some ((G 3).b, .cells #[.int .i64 7, .int .i64 8, .int .i64 9] 3 (0, 0)))) (by kernel_rfl))) (hs.read 0 rfl))).trans (hun_right (hun_agrees (entH_agrees (hs.own (r := 0) (e := (some ((G 1).b, .cells #[.string (⟨#[97]⟩), .string (⟨#[98]⟩), .string (⟨#[99]⟩)] 9 (0, 0)))) (by kernel_rfl))) (hs.read 0 rfl)) (hun_agrees (hun_agrees (entH_agrees (hs.own (r := 1) (e := (some ((G 2).b, .cells #[.int .i64 30, .int .i64 20, .int .i64 10] 3 (0, 0)))) (by kernel_rfl))) (hs.read 0 rfl)) (hun_agrees (entH_agrees (hs.own (r := 2) (e := (some ((G 3).b, .cells #[.int .i64 7, .int .i64 8, .int .i64 9] 3 (0, 0)))) (by kernel_rfl))) (hs.read 0 rfl))))))) )
  · exact One.new (r := 3) (T := 24) (fun b => .pointer (some ⟨b, 0, none⟩)) (arr := fun G => #[.slice none 0 0]) (fun G w => by kernel_rfl) (fun G b => by kernel_rfl)
  · exact One.storeX (t := 24) (r := 3) (off := 0) (T := 24) (b := fun G => (G 10).b) (u := fun G => .agg #[(G 4).v]) (vs := fun G => [(G 4).v]) (arr := fun G => #[.slice none 0 0]) (fun G => ⟨by kernel_rfl⟩) (fun G w hs => by
      have ho4 : (RSl (hun (G 4).H ((hun (hun (entH ((some ((G 1).b, .cells #[.string (⟨#[97]⟩), .string (⟨#[98]⟩), .string (⟨#[99]⟩)] 9 (0, 0))))) H) (hun (hun (entH ((some ((G 2).b, .cells #[.int .i64 30, .int .i64 20, .int .i64 10] 3 (0, 0))))) H) (hun (entH ((some ((G 3).b, .cells #[.int .i64 7, .int .i64 8, .int .i64 9] 3 (0, 0))))) H))))) l1 (G 4).v ∧ RSl (hun (G 4).H ((hun (hun (entH ((some ((G 1).b, .cells #[.string (⟨#[97]⟩), .string (⟨#[98]⟩), .string (⟨#[99]⟩)] 9 (0, 0))))) H) (hun (hun (entH ((some ((G 2).b, .cells #[.int .i64 30, .int .i64 20, .int .i64 10] 3 (0, 0))))) H) (hun (entH ((some ((G 3).b, .cells #[.int .i64 7, .int .i64 8, .int .i64 9] 3 (0, 0))))) H))))) l2 (G 4).v2) ∧ New w0 (G 4).H := hs.get 4 (by kernel_rfl) (p := true) (by kernel_rfl) rfl (by kernel_rfl)
      exact ⟨rfl, (all_cons1 (ho4.1.1).cell1 rfl)⟩)
  intro G2 xa xw hDn
  have hf4_1 : (RSl (hun (G2 4).H ((hun (hun (entH ((some ((G2 1).b, .cells #[.string (⟨#[97]⟩), .string (⟨#[98]⟩), .string (⟨#[99]⟩)] 9 (0, 0))))) H) (hun (hun (entH ((some ((G2 2).b, .cells #[.int .i64 30, .int .i64 20, .int .i64 10] 3 (0, 0))))) H) (hun (entH ((some ((G2 3).b, .cells #[.int .i64 7, .int .i64 8, .int .i64 9] 3 (0, 0))))) H))))) l1 (G2 4).v ∧ RSl (hun (G2 4).H ((hun (hun (entH ((some ((G2 1).b, .cells #[.string (⟨#[97]⟩), .string (⟨#[98]⟩), .string (⟨#[99]⟩)] 9 (0, 0))))) H) (hun (hun (entH ((some ((G2 2).b, .cells #[.int .i64 30, .int .i64 20, .int .i64 10] 3 (0, 0))))) H) (hun (entH ((some ((G2 3).b, .cells #[.int .i64 7, .int .i64 8, .int .i64 9] 3 (0, 0))))) H))))) l2 (G2 4).v2) ∧ New w0 (G2 4).H := hDn.get 4 (by kernel_rfl) (by kernel_rfl) (by kernel_rfl)
  refine hDn.to [1, 2, 3, 4] [4] (by kernel_rfl) ?_
  clear hDn
  refine Pre.conv (sl := [(1, .pointer (some ⟨(G2 10).b, 0, none⟩)), (2, .int .i64 n1), (3, (G2 4).v2), (4, .int .i64 n2)]) (A := [(G2 4).H, H]) (L := [(some ((G2 1).b, .cells #[.string (⟨#[97]⟩), .string (⟨#[98]⟩), .string (⟨#[99]⟩)] 9 (0, 0))), (some ((G2 2).b, .cells #[.int .i64 30, .int .i64 20, .int .i64 10] 3 (0, 0))), (some ((G2 3).b, .cells #[.int .i64 7, .int .i64 8, .int .i64 9] 3 (0, 0))), some ((G2 10).b, .cells #[(G2 4).v] 24 (0, 0)), none, none]) ?_ (by kernel_rfl) (by kernel_rfl) (by kernel_rfl)
  generalize (G2 10).b = b1 at hf4_1 ⊢
  generalize (G2 4).v2 = v1 at hf4_1 ⊢
  generalize (G2 1).b = b2 at hf4_1 ⊢
  generalize (G2 2).b = b3 at hf4_1 ⊢
  generalize (G2 3).b = b4 at hf4_1 ⊢
  generalize (G2 4).v = v2 at hf4_1 ⊢
  generalize (G2 4).H = N1 at hf4_1 ⊢
  clear G2
  refine Pre.merge (Ns := [N1]) hE (by simp only [List.mem_cons, List.not_mem_nil, or_false, forall_eq_or_imp, forall_eq]; exact hf4_1.2) (fun K1 hk1 hk2 hE1 => ?_)
  refine Pre.freeze 0 (e := (some (b2, .cells #[.string (⟨#[97]⟩), .string (⟨#[98]⟩), .string (⟨#[99]⟩)] 9 (0, 0)))) (by kernel_rfl) hE1 (fun K2 hk3 hk4 hE2 => ?_)
  refine Pre.freeze 1 (e := (some (b3, .cells #[.int .i64 30, .int .i64 20, .int .i64 10] 3 (0, 0)))) (by kernel_rfl) hE2 (fun K3 hk5 hk6 hE3 => ?_)
  refine Pre.freeze 2 (e := (some (b4, .cells #[.int .i64 7, .int .i64 8, .int .i64 9] 3 (0, 0)))) (by kernel_rfl) hE3 (fun K4 hk7 hk8 hE4 => ?_)
  refine Pre.conv (L := [none, none, none, some (b1, .cells #[v2] 24 (0, 0)), none, none]) ?_ rfl rfl (by kernel_rfl)
  have hr1 := (hf4_1.1.2).mono (hun_sub (((((((hk2 _ (by simp))).trans hk3)).trans hk5)).trans hk7) (hun_sub (hun_sub ((((hk4).trans hk5)).trans hk7) ((((((hk1).trans hk3)).trans hk5)).trans hk7)) (hun_sub (hun_sub ((hk6).trans hk7) ((((((hk1).trans hk3)).trans hk5)).trans hk7)) (hun_sub hk8 ((((((hk1).trans hk3)).trans hk5)).trans hk7)))))
  have hr1n := hr1.lim
  have hr2 := (hf4_1.1.1).mono (hun_sub (((((((hk2 _ (by simp))).trans hk3)).trans hk5)).trans hk7) (hun_sub (hun_sub ((((hk4).trans hk5)).trans hk7) ((((((hk1).trans hk3)).trans hk5)).trans hk7)) (hun_sub (hun_sub ((hk6).trans hk7) ((((((hk1).trans hk3)).trans hk5)).trans hk7)) (hun_sub hk8 ((((((hk1).trans hk3)).trans hk5)).trans hk7)))))
  have hr2n := hr2.lim
  have k1 : l1 = Tm.exT := by rw [hl1]; kernel_rfl
  have k2 : n1 = 4 := by rw [hn1]; kernel_rfl
  have k3 : l2 = [0, 1, 2] := by rw [hl2]; kernel_rfl
  have k4 : n2 = 0 := by rw [hn2]; kernel_rfl
  refine At.then ?_
  refine W.seq (by kernel_rfl) ?_
  refine W.seq (by kernel_rfl) ?_
  obtain ⟨p1, hp1⟩ : ∃ zz : Bool, zz = !(decide (n2 = 0)) := ⟨_, rfl⟩
  obtain ⟨p2, hp2⟩ : ∃ zz : Bool, zz = !(decide (n1 = 4)) := ⟨_, rfl⟩
  obtain ⟨p3, hp3⟩ : ∃ zz : Bool, zz = (p1 || p2) := ⟨_, rfl⟩
  obtain ⟨p4, hp4⟩ : ∃ zz : Bool, zz = (decide (l2 = ([0, 1, 2]))) := ⟨_, rfl⟩
  obtain ⟨p5, hp5⟩ : ∃ zz : Bool, zz = (p3 || !p4) := ⟨_, rfl⟩
  obtain ⟨p6, hp6⟩ : ∃ zz : Bool, zz = (decide (l1 = Tm.exT)) := ⟨_, rfl⟩
  obtain ⟨p7, hp7⟩ : ∃ zz : Bool, zz = (p5 || !p6) := ⟨_, rfl⟩
  refine W.regV (sane_ct_r13_2 w0 H n1 n2 b1 v1 v2 K4 p1 p2 p3 p4 p5 p6 p7) [0, 2, 3, 6, 7, 10, 12, 13, 17] [1, 4, 5, 8, 9, 11, 14, 15, 16, 18] (fun G => [.int .i64 n2, .bool p1, .int .i64 n1, .bool p3, v1, .bool (!p4), .bool p5, .pointer (some ⟨b1, 0, none⟩), .bool (!p6)]) (by kernel_rfl) mo_la (by kernel_rfl) (fun _ _ => by kernel_rfl) ⟨?_, ?_, ?_, ?_, ?_, ?_, ?_, ?_, ?_, ?_, trivial⟩ (by kernel_rfl) ?_
  · exact One.bo hp1 (fun _ _ => by kernel_rfl)
  · exact One.bo hp2 (fun _ _ => by kernel_rfl)
  · subst hp3
    cases p1 <;> exact One.under fun _ _ _ => by kernel_rfl
  · exact One.newM (T := 3) (fun b => .slice (some ⟨b, 0, none⟩) 3 3) (arr := fun G => #[.int .i64 0, .int .i64 1, .int .i64 2]) (fun _ _ => by kernel_rfl) (fun _ _ => ⟨by kernel_rfl, by kernel_rfl⟩)
  · exact One.callP (v := fun G => .bool p4) (f := 19) (args := fun G => #[v1, .slice (some ⟨(G 8).b, 0, none⟩) 3 3]) (fun _ _ => by kernel_rfl) (fun G w hs => by
      have hg := gd_of hs (p := (true && (p3 == false))) (by kernel_rfl)
      have hg0 := (iN hp3 (iOF (iN hp1 (iNF iDT)) (iN hp2 (iNF iDT)))).1 (eqF (andR hg))
      have ho8 : (G 8).H = entH (some ((G 8).b, .cells #[.int .i64 0, .int .i64 1, .int .i64 2] 3 (0, 0))) ∧ New w0 (G 8).H := hs.get 8 (by kernel_rfl) (p := (true && (p3 == false))) (by kernel_rfl) hg (by kernel_rfl)
      rw [hp4]
      exact samei_ct l2 v1 ([0, 1, 2]) (.slice (some ⟨(G 8).b, 0, none⟩) 3 3) w ((hun (G 8).H K4)) (hun_agrees (hs.heap 8 (by kernel_rfl)) (hs.read 0 rfl)) (((hr1).mono (hun_right (hs.heap 8 (by kernel_rfl)) (hs.read 0 rfl)))) (((OSl.lit (α := Int) (E := 3) (n := 3) (H := K4) (l := [0, 1, 2]) (g := (G 8).b) (arr := #[.int .i64 0, .int .i64 1, .int .i64 2]) (fun _ _ => trivial) (by kernel_rfl)).litH ho8.1 (hun_right (hs.heap 8 (by kernel_rfl)) (hs.read 0 rfl)))) )
  · subst hp5
    cases p3 <;> exact One.under fun _ _ _ => by kernel_rfl
  · exact One.loadE (t := 22) (r := 3) (off := 0) (b := fun G => b1) (vs := fun G => [v2]) (arr := fun G => #[v2]) (T := 24) (fr := (0, 0)) (fun G => ⟨by kernel_rfl⟩) (fun G => by kernel_rfl)
  · exact One.callM (f := 41) (args := fun G => #[]) (H := fun G => K4) (V := fun G g => g.v) (F := fun G J g => RSl J Tm.exT g.v) (fun G g w => ⟨by kernel_rfl, by kernel_rfl⟩) (fun G w hs => by
      have hg := gd_of hs (p := (true && (p5 == false))) (by kernel_rfl)
      have hg0 := (iN hp5 (iOF (iN hp3 (iOF (iN hp1 (iNF iDT)) (iN hp2 (iNF iDT)))) (iNF (iN hp4 iDT)))).1 (eqF (andR hg))
      exact things_ct  w K4 (hs.read 0 rfl)  )
  · exact One.callP (v := fun G => .bool p6) (f := 18) (args := fun G => #[v2, (G 15).v]) (fun _ _ => by kernel_rfl) (fun G w hs => by
      have hg := gd_of hs (p := (true && (p5 == false))) (by kernel_rfl)
      have hg0 := (iN hp5 (iOF (iN hp3 (iOF (iN hp1 (iNF iDT)) (iN hp2 (iNF iDT)))) (iNF (iN hp4 iDT)))).1 (eqF (andR hg))
      have ho15 : (RSl (hun (G 15).H K4) Tm.exT (G 15).v) ∧ New w0 (G 15).H := hs.get 15 (by kernel_rfl) (p := (true && (p5 == false))) (by kernel_rfl) hg (by kernel_rfl)
      rw [hp6]
      exact same_ct l1 v2 Tm.exT ((G 15).v) w ((hun (G 15).H K4)) (hun_agrees (hs.heap 15 (by kernel_rfl)) (hs.read 0 rfl)) (((hr2).mono (hun_right (hs.heap 15 (by kernel_rfl)) (hs.read 0 rfl)))) (ho15.1) )
  · subst hp7
    cases p5 <;> exact One.under fun _ _ _ => by kernel_rfl
  intro G3 xa xw hDn
  refine hDn.to [1, 36] [] (by kernel_rfl) ?_
  clear hDn
  refine Pre.conv (sl := [(1, .pointer (some ⟨b1, 0, none⟩)), (36, .bool p7)]) (A := [K4]) (L := [none, none, none, some (b1, .cells #[v2] 24 (0, 0)), none, none]) ?_ (by kernel_rfl) (by kernel_rfl) (by kernel_rfl)
  clear G3
  refine At.then ?_
  refine W.cond p7 (by kernel_rfl) (fun xa hs => cnd_of (t := 36) (by kernel_rfl) (by kernel_rfl) hs) (fun hq => ?_) (fun hq => ?_)
  · skip
    have hq1 := hq
    replace hq1 := (iN hp7 (iOT (iN hp5 (iOT (iN hp3 (iOT (iN hp1 (iNT iDF)) (iN hp2 (iNT iDF)))) (iNT (iN hp4 iDF)))) (iNT (iN hp6 iDF)))).1 hq1
    rcases hq1 with ((h | h) | h) | h <;> first | omega | exact absurd (by assumption) h
  · skip
    have hq2 := hq
    replace hq2 := (iN hp7 (iOF (iN hp5 (iOF (iN hp3 (iOF (iN hp1 (iNF iDT)) (iN hp2 (iNF iDT)))) (iNF (iN hp4 iDT)))) (iNF (iN hp6 iDT)))).1 hq2
    refine W.skip (by kernel_rfl) ?_
    refine At.then ?_
    refine W.seq (by kernel_rfl) ?_
    obtain ⟨l3, hl3⟩ : ∃ zz : List Int, zz = (Tm.pathF l1 4 1) := ⟨_, rfl⟩
    refine W.regV (sane_ct_r13_3 w0 H b1 v2 K4 p7 l3) [2] [0, 1] (fun G => [(G 1).v]) (by kernel_rfl) mo_la (by kernel_rfl) (fun _ _ => by kernel_rfl) ⟨?_, ?_, trivial⟩ (by kernel_rfl) ?_
    · exact One.loadE (t := 24) (r := 3) (off := 0) (b := fun G => b1) (vs := fun G => [v2]) (arr := fun G => #[v2]) (T := 24) (fr := (0, 0)) (fun G => ⟨by kernel_rfl⟩) (fun G => by kernel_rfl)
    · exact One.callM (f := 20) (args := fun G => #[.agg #[v2], .int .i64 4, .int .i64 1]) (H := fun G => K4) (V := fun G g => g.v) (F := fun G J g => RSl J l3 g.v) (fun G g w => ⟨by kernel_rfl, by kernel_rfl⟩) (fun G w hs => by
        rw [hl3]
        exact path_ct l1 v2 4 1 w K4 (hs.read 0 rfl) (hr2) )
    intro G4 xa xw hDn
    have hf1_2 : (RSl (hun (G4 1).H K4) l3 (G4 1).v) ∧ New w0 (G4 1).H := hDn.get 1 (by kernel_rfl) (by kernel_rfl) (by kernel_rfl)
    refine hDn.to [1, 5] [1] (by kernel_rfl) ?_
    clear hDn
    refine Pre.conv (sl := [(1, .pointer (some ⟨b1, 0, none⟩)), (5, (G4 1).v)]) (A := [(G4 1).H, K4]) (L := [none, none, none, some (b1, .cells #[v2] 24 (0, 0)), none, none]) ?_ (by kernel_rfl) (by kernel_rfl) (by kernel_rfl)
    generalize (G4 1).v = v3 at hf1_2 ⊢
    generalize (G4 1).H = N2 at hf1_2 ⊢
    clear G4
    refine Pre.merge (Ns := [N2]) hE4 (by simp only [List.mem_cons, List.not_mem_nil, or_false, forall_eq_or_imp, forall_eq]; exact hf1_2.2) (fun K5 hk9 hk10 hE5 => ?_)
    have hr3 := (hf1_2.1).mono (hun_sub (hk10 _ (by simp)) hk9)
    have hr3n := hr3.lim
    have hr4 := (hr2).mono hk9
    have hr4n := hr4.lim
    have k5 : l3 = [4, 3, 1] := by rw [hl3, k1]; kernel_rfl
    refine At.then ?_
    refine W.seq (by kernel_rfl) ?_
    refine W.regV (sane_ct_r13_4 b1 v2 v3 K5) [0] [] (fun G => [.int .i64 ((-1))]) (by kernel_rfl) mo_la (by kernel_rfl) (fun _ _ => by kernel_rfl) trivial (by kernel_rfl) ?_
    intro G5 xa xw hDn
    refine hDn.to [1, 5, 6] [] (by kernel_rfl) ?_
    clear hDn
    refine Pre.conv (sl := [(1, .pointer (some ⟨b1, 0, none⟩)), (5, v3), (6, .int .i64 ((-1)))]) (A := [K5]) (L := [none, none, none, some (b1, .cells #[v2] 24 (0, 0)), none, none]) ?_ (by kernel_rfl) (by kernel_rfl) (by kernel_rfl)
    clear G5
    refine At.then ?_
    refine W.seq (by kernel_rfl) ?_
    refine W.regV (sane_ct_r13_5 b1 v2 v3 K5) [0, 1, 2, 3, 4, 5, 6, 8] [7] (fun G => [.agg #[.string ByteArray.empty, .int .i64 60, .int .i64 24, .int .i64 3, .int .i64 2], .int .i64 ((-1)), .int .i64 ((-1)), .agg #[.string ByteArray.empty, .int .i64 ((-1)), .int .i64 ((-1)), .int .i64 0, .int .i64 1], .int .i64 ((-1)), .int .i64 ((-1)), .agg #[.string (⟨#[98]⟩), .int .i64 20, .int .i64 8, .int .i64 ((-1)), .int .i64 ((-1))], .slice (some ⟨(G 7).b, 0, none⟩) 3 3]) (by kernel_rfl) mo_la (by kernel_rfl) (fun _ _ => by kernel_rfl) ⟨?_, trivial⟩ (by kernel_rfl) ?_
    · exact One.new (r := 4) (T := 44) (fun b => .slice (some ⟨b, 0, none⟩) 3 3) (arr := fun G => #[.string ByteArray.empty, .int .i64 60, .int .i64 24, .int .i64 3, .int .i64 2, .string ByteArray.empty, .int .i64 ((-1)), .int .i64 ((-1)), .int .i64 0, .int .i64 1, .string (⟨#[98]⟩), .int .i64 20, .int .i64 8, .int .i64 ((-1)), .int .i64 ((-1))]) (fun G w => by kernel_rfl) (fun G b => by kernel_rfl)
    intro G6 xa xw hDn
    refine hDn.to [1, 5, 7] [] (by kernel_rfl) ?_
    clear hDn
    refine Pre.conv (sl := [(1, .pointer (some ⟨b1, 0, none⟩)), (5, v3), (7, .slice (some ⟨(G6 7).b, 0, none⟩) 3 3)]) (A := [K5]) (L := [none, none, none, some (b1, .cells #[v2] 24 (0, 0)), (some ((G6 7).b, .cells #[.string ByteArray.empty, .int .i64 60, .int .i64 24, .int .i64 3, .int .i64 2, .string ByteArray.empty, .int .i64 ((-1)), .int .i64 ((-1)), .int .i64 0, .int .i64 1, .string (⟨#[98]⟩), .int .i64 20, .int .i64 8, .int .i64 ((-1)), .int .i64 ((-1))] 44 (0, 0))), none]) ?_ (by kernel_rfl) (by kernel_rfl) (by kernel_rfl)
    generalize (G6 7).b = b5 at ⊢
    clear G6
    have hr5 : OSl 44 K5 ([(DThing.mk ByteArray.empty 60 24 3 2), (DThing.mk ByteArray.empty ((-1)) ((-1)) 0 1), (DThing.mk (⟨#[98]⟩) 20 8 ((-1)) ((-1)))]) (.slice (some ⟨b5, 0, none⟩) 3 3) ((some (b5, .cells #[.string ByteArray.empty, .int .i64 60, .int .i64 24, .int .i64 3, .int .i64 2, .string ByteArray.empty, .int .i64 ((-1)), .int .i64 ((-1)), .int .i64 0, .int .i64 1, .string (⟨#[98]⟩), .int .i64 20, .int .i64 8, .int .i64 ((-1)), .int .i64 ((-1))] 44 (0, 0)))) := (OSl.lit (α := DThing) (E := 44) (n := 3) (H := K5) (l := [(DThing.mk ByteArray.empty 60 24 3 2), (DThing.mk ByteArray.empty ((-1)) ((-1)) 0 1), (DThing.mk (⟨#[98]⟩) 20 8 ((-1)) ((-1)))]) (g := b5) (arr := #[.string ByteArray.empty, .int .i64 60, .int .i64 24, .int .i64 3, .int .i64 2, .string ByteArray.empty, .int .i64 ((-1)), .int .i64 ((-1)), .int .i64 0, .int .i64 1, .string (⟨#[98]⟩), .int .i64 20, .int .i64 8, .int .i64 ((-1)), .int .i64 ((-1))]) (fun _ _ => trivial) (by kernel_rfl))
    have hr5n := hr5.lim
    refine At.then ?_
    refine W.seq (by kernel_rfl) ?_
    refine W.seq (by kernel_rfl) ?_
    obtain ⟨p8, hp8⟩ : ∃ zz : Bool, zz = (decide (l3 = ([4, 3, 1]))) := ⟨_, rfl⟩
    obtain ⟨l4, hl4⟩ : ∃ zz : List Int, zz = (Tm.pathF l1 4 2) := ⟨_, rfl⟩
    obtain ⟨p9, hp9⟩ : ∃ zz : Bool, zz = (decide (l4 = ([4, 2]))) := ⟨_, rfl⟩
    obtain ⟨p10, hp10⟩ : ∃ zz : Bool, zz = (!p8 || !p9) := ⟨_, rfl⟩
    obtain ⟨l5, hl5⟩ : ∃ zz : List Int, zz = (Tm.pathF l1 3 2) := ⟨_, rfl⟩
    obtain ⟨n3, hn3⟩ : ∃ zz : Int, zz = (l5.length : Int) := ⟨_, rfl⟩
    obtain ⟨p11, hp11⟩ : ∃ zz : Bool, zz = decide (0 < n3) := ⟨_, rfl⟩
    obtain ⟨p12, hp12⟩ : ∃ zz : Bool, zz = (p10 || p11) := ⟨_, rfl⟩
    obtain ⟨l6, hl6⟩ : ∃ zz : List DThing, zz = (Tm.viewF l1 l3) := ⟨_, rfl⟩
    obtain ⟨p13, hp13⟩ : ∃ zz : Bool, zz = (decide (l6 = ([(DThing.mk ByteArray.empty 60 24 3 2), (DThing.mk ByteArray.empty ((-1)) ((-1)) 0 1), (DThing.mk (⟨#[98]⟩) 20 8 ((-1)) ((-1)))]))) := ⟨_, rfl⟩
    obtain ⟨p14, hp14⟩ : ∃ zz : Bool, zz = (p12 || !p13) := ⟨_, rfl⟩
    refine W.regV (sane_ct_r13_6 w0 H b1 v2 v3 K5 b5 p8 l4 p9 p10 l5 n3 p11 p12 l6 p13 p14) [0, 3, 4, 9, 11, 17, 19, 21, 23] [1, 2, 5, 6, 7, 8, 10, 12, 13, 14, 15, 16, 18, 20, 22, 24] (fun G => [v3, .bool (!p8), .bool (!p8), .bool (!p9), .bool p10, .bool p12, v3, .slice (some ⟨b5, 0, none⟩) 3 3, .bool (!p13)]) (by kernel_rfl) mo_la (by kernel_rfl) (fun _ _ => by kernel_rfl) ⟨?_, ?_, ?_, ?_, ?_, ?_, ?_, ?_, ?_, ?_, ?_, ?_, ?_, ?_, ?_, ?_, trivial⟩ (by kernel_rfl) ?_
    · exact One.new (r := 5) (T := 3) (fun b => .slice (some ⟨b, 0, none⟩) 3 3) (arr := fun G => #[.int .i64 4, .int .i64 3, .int .i64 1]) (fun G w => by kernel_rfl) (fun G b => by kernel_rfl)
    · exact One.callP (v := fun G => .bool p8) (f := 19) (args := fun G => #[v3, .slice (some ⟨(G 1).b, 0, none⟩) 3 3]) (fun _ _ => by kernel_rfl) (fun G w hs => by
        rw [hp8]
        exact samei_ct l3 v3 ([4, 3, 1]) (.slice (some ⟨(G 1).b, 0, none⟩) 3 3) w ((hun K5 (hun (entH ((some ((G 1).b, .cells #[.int .i64 4, .int .i64 3, .int .i64 1] 3 (0, 0))))) K5))) (hun_agrees (hs.read 0 rfl) (hun_agrees (entH_agrees (hs.own (r := 5) (e := (some ((G 1).b, .cells #[.int .i64 4, .int .i64 3, .int .i64 1] 3 (0, 0)))) (by kernel_rfl))) (hs.read 0 rfl))) (((hr3).mono hun_left)) ((((((OSl.lit (α := Int) (E := 3) (n := 3) (H := K5) (l := [4, 3, 1]) (g := (G 1).b) (arr := #[.int .i64 4, .int .i64 3, .int .i64 1]) (fun _ _ => trivial) (by kernel_rfl))).read (hs.own (r := 5) (e := (some ((G 1).b, .cells #[.int .i64 4, .int .i64 3, .int .i64 1] 3 (0, 0)))) (by kernel_rfl)) (hs.read 0 rfl))).mono (hun_right (hs.read 0 rfl) (hun_agrees (entH_agrees (hs.own (r := 5) (e := (some ((G 1).b, .cells #[.int .i64 4, .int .i64 3, .int .i64 1] 3 (0, 0)))) (by kernel_rfl))) (hs.read 0 rfl))))) )
    · exact One.loadE (t := 24) (r := 3) (off := 0) (b := fun G => b1) (vs := fun G => [v2]) (arr := fun G => #[v2]) (T := 24) (fr := (0, 0)) (fun G => ⟨by kernel_rfl⟩) (fun G => by kernel_rfl)
    · exact One.callM (f := 20) (args := fun G => #[.agg #[v2], .int .i64 4, .int .i64 2]) (H := fun G => K5) (V := fun G g => g.v) (F := fun G J g => RSl J l4 g.v) (fun G g w => ⟨by kernel_rfl, by kernel_rfl⟩) (fun G w hs => by
        have hg := gd_of hs (p := (true && ((!p8) == false))) (by kernel_rfl)
        have hg0 := (iNF (iN hp8 iDT)).1 (eqF (andR hg))
        rw [hl4]
        exact path_ct l1 v2 4 2 w K5 (hs.read 0 rfl) (hr4) )
    · exact One.newM (T := 3) (fun b => .slice (some ⟨b, 0, none⟩) 2 2) (arr := fun G => #[.int .i64 4, .int .i64 2]) (fun _ _ => by kernel_rfl) (fun _ _ => ⟨by kernel_rfl, by kernel_rfl⟩)
    · exact One.callP (v := fun G => .bool p9) (f := 19) (args := fun G => #[(G 6).v, .slice (some ⟨(G 7).b, 0, none⟩) 2 2]) (fun _ _ => by kernel_rfl) (fun G w hs => by
        have hg := gd_of hs (p := (true && ((!p8) == false))) (by kernel_rfl)
        have hg0 := (iNF (iN hp8 iDT)).1 (eqF (andR hg))
        have ho6 : (RSl (hun (G 6).H K5) l4 (G 6).v) ∧ New w0 (G 6).H := hs.get 6 (by kernel_rfl) (p := (true && ((!p8) == false))) (by kernel_rfl) hg (by kernel_rfl)
        have ho7 : (G 7).H = entH (some ((G 7).b, .cells #[.int .i64 4, .int .i64 2] 3 (0, 0))) ∧ New w0 (G 7).H := hs.get 7 (by kernel_rfl) (p := (true && ((!p8) == false))) (by kernel_rfl) hg (by kernel_rfl)
        rw [hp9]
        exact samei_ct l4 ((G 6).v) ([4, 2]) (.slice (some ⟨(G 7).b, 0, none⟩) 2 2) w ((hun (hun (G 6).H K5) (hun (G 7).H K5))) (hun_agrees (hun_agrees (hs.heap 6 (by kernel_rfl)) (hs.read 0 rfl)) (hun_agrees (hs.heap 7 (by kernel_rfl)) (hs.read 0 rfl))) (((ho6.1).mono hun_left)) (((((OSl.lit (α := Int) (E := 3) (n := 2) (H := K5) (l := [4, 2]) (g := (G 7).b) (arr := #[.int .i64 4, .int .i64 2]) (fun _ _ => trivial) (by kernel_rfl)).litH ho7.1 (hun_right (hs.heap 7 (by kernel_rfl)) (hs.read 0 rfl)))).mono (hun_right (hun_agrees (hs.heap 6 (by kernel_rfl)) (hs.read 0 rfl)) (hun_agrees (hs.heap 7 (by kernel_rfl)) (hs.read 0 rfl))))) )
    · subst hp10
      cases p8 <;> exact One.under fun _ _ _ => by kernel_rfl
    · exact One.loadE (t := 24) (r := 3) (off := 0) (b := fun G => b1) (vs := fun G => [v2]) (arr := fun G => #[v2]) (T := 24) (fr := (0, 0)) (fun G => ⟨by kernel_rfl⟩) (fun G => by kernel_rfl)
    · exact One.callM (f := 20) (args := fun G => #[.agg #[v2], .int .i64 3, .int .i64 2]) (H := fun G => K5) (V := fun G g => g.v) (F := fun G J g => RSl J l5 g.v) (fun G g w => ⟨by kernel_rfl, by kernel_rfl⟩) (fun G w hs => by
        have hg := gd_of hs (p := (true && (p10 == false))) (by kernel_rfl)
        have hg0 := (iN hp10 (iOF (iNF (iN hp8 iDT)) (iNF (iN hp9 iDT)))).1 (eqF (andR hg))
        rw [hl5]
        exact path_ct l1 v2 3 2 w K5 (hs.read 0 rfl) (hr4) )
    · exact One.len (t := 26) (n := n3) (v := fun G => (G 13).v) (fun _ => ⟨by kernel_rfl⟩) (fun G w hs => by
        have hg := gd_of hs (p := (true && (p10 == false))) (by kernel_rfl)
        have hg0 := (iN hp10 (iOF (iNF (iN hp8 iDT)) (iNF (iN hp9 iDT)))).1 (eqF (andR hg))
        have ho13 : (RSl (hun (G 13).H K5) l5 (G 13).v) ∧ New w0 (G 13).H := hs.get 13 (by kernel_rfl) (p := (true && (p10 == false))) (by kernel_rfl) hg (by kernel_rfl)
        exact ⟨_, (ho13.1).isSl, hn3⟩)
    · exact One.bo hp11 (fun _ _ => by kernel_rfl)
    · subst hp12
      cases p10 <;> exact One.under fun _ _ _ => by kernel_rfl
    · exact One.loadE (t := 24) (r := 3) (off := 0) (b := fun G => b1) (vs := fun G => [v2]) (arr := fun G => #[v2]) (T := 24) (fr := (0, 0)) (fun G => ⟨by kernel_rfl⟩) (fun G => by kernel_rfl)
    · exact One.callM (f := 22) (args := fun G => #[.agg #[v2], v3]) (H := fun G => K5) (V := fun G g => g.v) (F := fun G J g => RSl J l6 g.v) (fun G g w => ⟨by kernel_rfl, by kernel_rfl⟩) (fun G w hs => by
        have hg := gd_of hs (p := (true && (p12 == false))) (by kernel_rfl)
        have hg0 := (iN hp12 (iOF (iN hp10 (iOF (iNF (iN hp8 iDT)) (iNF (iN hp9 iDT)))) (iN hp11 iDF))).1 (eqF (andR hg))
        rw [hl6]
        exact view_ct l1 v2 l3 v3 w K5 (hs.read 0 rfl) (hr4) (hr3) (by rw [k5]; decide))
    · exact One.callP (v := fun G => .bool p13) (f := 18) (args := fun G => #[(G 20).v, .slice (some ⟨b5, 0, none⟩) 3 3]) (fun _ _ => by kernel_rfl) (fun G w hs => by
        have hg := gd_of hs (p := (true && (p12 == false))) (by kernel_rfl)
        have hg0 := (iN hp12 (iOF (iN hp10 (iOF (iNF (iN hp8 iDT)) (iNF (iN hp9 iDT)))) (iN hp11 iDF))).1 (eqF (andR hg))
        have ho20 : (RSl (hun (G 20).H K5) l6 (G 20).v) ∧ New w0 (G 20).H := hs.get 20 (by kernel_rfl) (p := (true && (p12 == false))) (by kernel_rfl) hg (by kernel_rfl)
        rw [hp13]
        exact same_ct l6 ((G 20).v) ([(DThing.mk ByteArray.empty 60 24 3 2), (DThing.mk ByteArray.empty ((-1)) ((-1)) 0 1), (DThing.mk (⟨#[98]⟩) 20 8 ((-1)) ((-1)))]) (.slice (some ⟨b5, 0, none⟩) 3 3) w ((hun (hun (G 20).H K5) (hun (entH ((some (b5, .cells #[.string ByteArray.empty, .int .i64 60, .int .i64 24, .int .i64 3, .int .i64 2, .string ByteArray.empty, .int .i64 ((-1)), .int .i64 ((-1)), .int .i64 0, .int .i64 1, .string (⟨#[98]⟩), .int .i64 20, .int .i64 8, .int .i64 ((-1)), .int .i64 ((-1))] 44 (0, 0))))) K5))) (hun_agrees (hun_agrees (hs.heap 20 (by kernel_rfl)) (hs.read 0 rfl)) (hun_agrees (entH_agrees (hs.own (r := 4) (e := (some (b5, .cells #[.string ByteArray.empty, .int .i64 60, .int .i64 24, .int .i64 3, .int .i64 2, .string ByteArray.empty, .int .i64 ((-1)), .int .i64 ((-1)), .int .i64 0, .int .i64 1, .string (⟨#[98]⟩), .int .i64 20, .int .i64 8, .int .i64 ((-1)), .int .i64 ((-1))] 44 (0, 0)))) (by kernel_rfl))) (hs.read 0 rfl))) (((ho20.1).mono hun_left)) (((((hr5).read (hs.own (r := 4) (e := (some (b5, .cells #[.string ByteArray.empty, .int .i64 60, .int .i64 24, .int .i64 3, .int .i64 2, .string ByteArray.empty, .int .i64 ((-1)), .int .i64 ((-1)), .int .i64 0, .int .i64 1, .string (⟨#[98]⟩), .int .i64 20, .int .i64 8, .int .i64 ((-1)), .int .i64 ((-1))] 44 (0, 0)))) (by kernel_rfl)) (hs.read 0 rfl))).mono (hun_right (hun_agrees (hs.heap 20 (by kernel_rfl)) (hs.read 0 rfl)) (hun_agrees (entH_agrees (hs.own (r := 4) (e := (some (b5, .cells #[.string ByteArray.empty, .int .i64 60, .int .i64 24, .int .i64 3, .int .i64 2, .string ByteArray.empty, .int .i64 ((-1)), .int .i64 ((-1)), .int .i64 0, .int .i64 1, .string (⟨#[98]⟩), .int .i64 20, .int .i64 8, .int .i64 ((-1)), .int .i64 ((-1))] 44 (0, 0)))) (by kernel_rfl))) (hs.read 0 rfl))))) )
    · subst hp14
      cases p12 <;> exact One.under fun _ _ _ => by kernel_rfl
    intro G7 xa xw hDn
    refine hDn.to [1, 5, 71] [] (by kernel_rfl) ?_
    clear hDn
    refine Pre.conv (sl := [(1, .pointer (some ⟨b1, 0, none⟩)), (5, v3), (71, .bool p14)]) (A := [K5]) (L := [none, none, none, some (b1, .cells #[v2] 24 (0, 0)), (some (b5, .cells #[.string ByteArray.empty, .int .i64 60, .int .i64 24, .int .i64 3, .int .i64 2, .string ByteArray.empty, .int .i64 ((-1)), .int .i64 ((-1)), .int .i64 0, .int .i64 1, .string (⟨#[98]⟩), .int .i64 20, .int .i64 8, .int .i64 ((-1)), .int .i64 ((-1))] 44 (0, 0))), (some ((G7 1).b, .cells #[.int .i64 4, .int .i64 3, .int .i64 1] 3 (0, 0)))]) ?_ (by kernel_rfl) (by kernel_rfl) (by kernel_rfl)
    generalize (G7 1).b = b6 at ⊢
    clear G7
    have k6 : l4 = [4, 2] := by rw [hl4, k1]; kernel_rfl
    have k7 : l5 = [] := by rw [hl5, k1]; kernel_rfl
    have k8 : l6 = [⟨ByteArray.empty, 60, 24, 3, 2⟩, ⟨ByteArray.empty, -1, -1, 0, 1⟩, ⟨⟨#[98]⟩, 20, 8, -1, -1⟩] := by rw [hl6, k1, k5]; kernel_rfl
    have k9 : n3 = 0 := by rw [hn3, k7]; rfl
    refine At.then ?_
    refine W.cond p14 (by kernel_rfl) (fun xa hs => cnd_of (t := 71) (by kernel_rfl) (by kernel_rfl) hs) (fun hq => ?_) (fun hq => ?_)
    · skip
      have hq3 := hq
      replace hq3 := (iN hp14 (iOT (iN hp12 (iOT (iN hp10 (iOT (iNT (iN hp8 iDF)) (iNT (iN hp9 iDF)))) (iN hp11 iDT))) (iNT (iN hp13 iDF)))).1 hq3
      rcases hq3 with ((h | h) | h) | h <;> first | omega | exact absurd (by assumption) h
    · skip
      have hq4 := hq
      replace hq4 := (iN hp14 (iOF (iN hp12 (iOF (iN hp10 (iOF (iNF (iN hp8 iDT)) (iNF (iN hp9 iDT)))) (iN hp11 iDF))) (iNF (iN hp13 iDT)))).1 hq4
      refine W.skip (by kernel_rfl) ?_
      refine At.then ?_
      refine W.seq (by kernel_rfl) ?_
      obtain ⟨p15, hp15⟩ : ∃ zz : Bool, zz = (decide (Tm.checkP l1 l3 60 24 (⟨#[98]⟩) 20 8)) := ⟨_, rfl⟩
      obtain ⟨p16, hp16⟩ : ∃ zz : Bool, zz = (decide (Tm.checkP l1 l3 60 24 (⟨#[97]⟩) 20 8)) := ⟨_, rfl⟩
      obtain ⟨p17, hp17⟩ : ∃ zz : Bool, zz = (p15 && !p16) := ⟨_, rfl⟩
      refine W.regV (sane_ct_r13_7 b1 v2 v3 K5 b5 p14 b6 p15 p16 p17) [1, 3, 5, 7, 9] [0, 2, 4, 6, 8] (fun G => [v3, .bool p15, v3, .bool (!p16), .bool p17]) (by kernel_rfl) mo_la (by kernel_rfl) (fun _ _ => by kernel_rfl) ⟨?_, ?_, ?_, ?_, ?_, trivial⟩ (by kernel_rfl) ?_
      · exact One.loadE (t := 24) (r := 3) (off := 0) (b := fun G => b1) (vs := fun G => [v2]) (arr := fun G => #[v2]) (T := 24) (fr := (0, 0)) (fun G => ⟨by kernel_rfl⟩) (fun G => by kernel_rfl)
      · exact One.callP (v := fun G => .bool p15) (f := 24) (args := fun G => #[.agg #[v2], v3, .int .i64 60, .int .i64 24, .string (⟨#[98]⟩), .int .i64 20, .int .i64 8]) (fun _ _ => by kernel_rfl) (fun G w hs => by
          rw [hp15]
          exact check_ct l1 v2 l3 v3 60 24 (⟨#[98]⟩) 20 8 w K5 (hs.read 0 rfl) (hr4) (hr3) )
      · exact One.loadE (t := 24) (r := 3) (off := 0) (b := fun G => b1) (vs := fun G => [v2]) (arr := fun G => #[v2]) (T := 24) (fr := (0, 0)) (fun G => ⟨by kernel_rfl⟩) (fun G => by kernel_rfl)
      · exact One.callP (v := fun G => .bool p16) (f := 24) (args := fun G => #[.agg #[v2], v3, .int .i64 60, .int .i64 24, .string (⟨#[97]⟩), .int .i64 20, .int .i64 8]) (fun _ _ => by kernel_rfl) (fun G w hs => by
          have hg := gd_of hs (p := (true && (p15 == true))) (by kernel_rfl)
          have hg0 := (iN hp15 iDT).1 (eqT (andR hg))
          rw [hp16]
          exact check_ct l1 v2 l3 v3 60 24 (⟨#[97]⟩) 20 8 w K5 (hs.read 0 rfl) (hr4) (hr3) )
      · subst hp17
        cases p15 <;> exact One.under fun _ _ _ => by kernel_rfl
      intro G8 xa xw hDn
      refine hDn.to [0] [] (by kernel_rfl) ?_
      clear hDn
      refine Pre.conv (sl := [(0, .bool p17)]) (A := [K5]) (L := [none, none, none, some (b1, .cells #[v2] 24 (0, 0)), (some (b5, .cells #[.string ByteArray.empty, .int .i64 60, .int .i64 24, .int .i64 3, .int .i64 2, .string ByteArray.empty, .int .i64 ((-1)), .int .i64 ((-1)), .int .i64 0, .int .i64 1, .string (⟨#[98]⟩), .int .i64 20, .int .i64 8, .int .i64 ((-1)), .int .i64 ((-1))] 44 (0, 0))), (some (b6, .cells #[.int .i64 4, .int .i64 3, .int .i64 1] 3 (0, 0)))]) ?_ (by kernel_rfl) (by kernel_rfl) (by kernel_rfl)
      clear G8
      refine At.then ?_
      refine W.ret (by kernel_rfl) ?_
      refine At.results (Or.inl rfl) (.bool p17) (fun xa xw hs hw => results_one (r := .tmp 0) (by kernel_rfl) (res_tmp (t := 0) (by kernel_rfl) hs)) (fun w' hw => ?_)
      have e0 : p17 = true := by
        rw [hp17, hp15, hp16, k1, k5]; kernel_rfl
      exact ⟨congrArg Ending.returned (cong1 (fun (x0 : Bool) => (.bool x0 : Value)) e0), hw.base⟩

end Kb
