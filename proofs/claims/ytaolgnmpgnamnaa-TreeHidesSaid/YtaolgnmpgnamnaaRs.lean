/- The contracts of the references: limits and sameness. -/
import Derived.Test.YtaolgnmpgnamnaaTb
import Derived.Test.YtaolgnmpgnamnaaTp
set_option linter.unusedVariables false
set_option linter.unusedSimpArgs false
namespace Kb
open Go Go.Proofs
theorem mo_rs : Try.prog.follows .mixedOrders = true := by kernel_rfl
noncomputable def fewv_ct_r14_0 (vv : Value) (most : Int) (H : Heaplet) : RC := { ops := opsAt Try.f14 0, B := [0, 0], sl := [(0, .agg #[vv]), (1, .int .i64 most)], A := [H], L := [none], cs := [{ val := fun G => .pointer (some ⟨(G 0).b, 0, none⟩), ups := [(0, fun G => some ((G 0).b, .cells #[vv] 24 (0, 0)))] }, { val := fun _ => .bool false }] }
noncomputable def fewv_ct_r14_1 (vv : Value) (most : Int) (H : Heaplet) (b1 : Nat) : RC := { ops := opsAt Try.f14 1, B := [0], sl := [(1, .int .i64 most), (2, .pointer (some ⟨b1, 0, none⟩))], A := [H], L := [some (b1, .cells #[vv] 24 (0, 0))], cs := [{ val := fun _ => .int .i64 0 }] }
noncomputable def fewv_ct_r14_2 (vv : Value) (most : Int) (H : Heaplet) (b1 : Nat) (i n1 : Int) (p1 p2 p3 : Bool) : RC := { ops := opsAt Try.f14 2, B := [0, 0, 2, 6, 15, 31, 63, 63, 255, 511], sl := [(1, .int .i64 most), (2, .pointer (some ⟨b1, 0, none⟩)), (5, .int .i64 i)], A := [H], L := [some (b1, .cells #[vv] 24 (0, 0))], cs := [{ val := fun _ => .int .i64 i }, { val := fun _ => .pointer (some ⟨b1, 0, none⟩) }, { val := fun _ => vv, rds := [0] }, { val := fun _ => .int .i64 n1 }, { val := fun _ => .bool p1 }, { val := fun _ => .bool p1 }, { val := fun _ => .int .i64 i }, { val := fun _ => .int .i64 most }, { val := fun _ => .bool p2 }, { val := fun _ => .bool p3 }] }
noncomputable def fewv_ct_r14_3 (vv : Value) (most : Int) (H : Heaplet) (b1 : Nat) (i : Int) (p3 : Bool) (x1 : DThing) (n2 : Int) (p4 : Bool) : RC := { ops := opsAt Try.f14 4, B := [0, 1, 0, 7, 15, 31, 63, 127], sl := [(1, .int .i64 most), (2, .pointer (some ⟨b1, 0, none⟩)), (5, .int .i64 i), (15, .bool p3)], A := [H], L := [some (b1, .cells #[vv] 24 (0, 0))], cs := [{ val := fun _ => .pointer (some ⟨b1, 0, none⟩) }, { val := fun _ => vv, rds := [0] }, { val := fun _ => .int .i64 i }, { val := fun _ => .pointer (some (elemAddr vv (i.toNat * 5))) }, { val := fun _ => .pointer (some ((elemAddr vv (i.toNat * 5)).add 0)) }, { val := fun _ => .string x1.Text }, { val := fun _ => .int .i64 n2 }, { val := fun _ => .bool p4 }] }
noncomputable def fewv_ct_r14_4 (vv : Value) (most : Int) (H : Heaplet) (b1 : Nat) (i : Int) (p4 : Bool) : RC := { ops := opsAt Try.f14 5, B := [0], sl := [(1, .int .i64 most), (2, .pointer (some ⟨b1, 0, none⟩)), (5, .int .i64 i), (25, .bool p4)], A := [H], L := [some (b1, .cells #[vv] 24 (0, 0))], cs := [{ val := fun _ => .bool false }] }
noncomputable def fewv_ct_r14_5 (vv : Value) (most : Int) (H : Heaplet) (b1 : Nat) (i : Int) (p4 : Bool) (n3 : Int) : RC := { ops := opsAt Try.f14 3, B := [0, 1, 3], sl := [(1, .int .i64 most), (2, .pointer (some ⟨b1, 0, none⟩)), (5, .int .i64 i), (25, .bool p4)], A := [H], L := [some (b1, .cells #[vv] 24 (0, 0))], cs := [{ val := fun _ => .int .i64 i }, { val := fun _ => .int .i64 n3 }, { val := fun _ => .int .i64 n3 }] }
noncomputable def fewv_ct_r14_6 (vv : Value) (most : Int) (H : Heaplet) (b1 : Nat) (i n1 : Int) (p3 p5 : Bool) : RC := { ops := opsAt Try.f14 6, B := [0, 1, 3, 0, 15, 31], sl := [(1, .int .i64 most), (2, .pointer (some ⟨b1, 0, none⟩)), (5, .int .i64 i), (15, .bool p3)], A := [H], L := [some (b1, .cells #[vv] 24 (0, 0))], cs := [{ val := fun _ => .pointer (some ⟨b1, 0, none⟩) }, { val := fun _ => vv, rds := [0] }, { val := fun _ => .int .i64 n1 }, { val := fun _ => .int .i64 most }, { val := fun _ => .bool p5 }, { val := fun _ => .bool p5 }] }
set_option maxRecDepth 10000 in
theorem fewv_ct (v : List DThing) (vv : Value) (most : Int) (w0 : World) (H : Heaplet) (hA : Agrees w0 H) (hv : RSl H v vv) :
    Calls Try.prog 14 #[.agg #[vv], .int .i64 most] w0 (fun e w' => e = .returned (.bool ((decide (Tm.fewP v most)))) ∧ Base [] w0 w') := by
  have hE : Ext w0 H H := Ext.refl w0 H
  have hvn := hv.lim
  refine calls_of_W (sl := [(0, .agg #[vv]), (1, .int .i64 most)]) (A := [H]) (L := [none]) Try.func14 (by kernel_rfl) 31 (by kernel_rfl) (by kernel_rfl) (fun J hJ => by simp at hJ; subst hJ; exact hA) (by simp) ?_
  refine W.seq (by kernel_rfl) ?_
  refine W.regV (fewv_ct_r14_0 vv most H) [1] [0] (fun G => [.bool false]) (by kernel_rfl) mo_rs (by kernel_rfl) (fun _ _ => by kernel_rfl) ⟨?_, trivial⟩ (by kernel_rfl) ?_
  · exact One.new (r := 0) (T := 24) (fun b => .pointer (some ⟨b, 0, none⟩)) (arr := fun G => #[vv]) (fun G w => by kernel_rfl) (fun G b => by kernel_rfl)
  intro G1 xa xw hDn
  refine hDn.to [1, 2] [] (by kernel_rfl) ?_
  clear hDn
  refine Pre.conv (sl := [(1, .int .i64 most), (2, .pointer (some ⟨(G1 0).b, 0, none⟩))]) (A := [H]) (L := [some ((G1 0).b, .cells #[vv] 24 (0, 0))]) ?_ (by kernel_rfl) (by kernel_rfl) (by kernel_rfl)
  generalize (G1 0).b = b1 at ⊢
  clear G1
  refine At.then ?_
  refine W.seq (by kernel_rfl) ?_
  refine W.seq (by kernel_rfl) ?_
  refine W.regV (fewv_ct_r14_1 vv most H b1) [0] [] (fun G => [.int .i64 0]) (by kernel_rfl) mo_rs (by kernel_rfl) (fun _ _ => by kernel_rfl) trivial (by kernel_rfl) ?_
  intro G2 xa xw hDn
  refine hDn.to [1, 2, 5] [] (by kernel_rfl) ?_
  clear hDn
  refine Pre.conv (sl := [(1, .int .i64 most), (2, .pointer (some ⟨b1, 0, none⟩)), (5, .int .i64 0)]) (A := [H]) (L := [some (b1, .cells #[vv] 24 (0, 0))]) ?_ (by kernel_rfl) (by kernel_rfl) (by kernel_rfl)
  clear G2
  refine At.then ?_
  refine W.block 0 (by kernel_rfl) ?_
  refine W.loopS (γ := Int) (fun i => [(1, .int .i64 most), (2, .pointer (some ⟨b1, 0, none⟩)), (5, .int .i64 i)]) (fun i => [H]) (fun i => [some (b1, .cells #[vv] 24 (0, 0))]) (fun i => (0 ≤ i) ∧ (∀ j, j < i.toNat → (v.getD j default).Text.size ≤ 100)) (fun i => ((v.length : Int) - i).toNat) 0 (by kernel_rfl) ?_ ?_
  · intro xa xw hs hw
    refine ⟨hs.sub (by kernel_rfl), hw.mask [true] (by kernel_rfl), ?_⟩
    refine ⟨?_, ?_⟩
    · show 0 ≤ (0 : Int)
      first | omega | rfl | (simp; done) | (subst_vars; simp; done)
    · show ∀ j, j < (0 : Int).toNat → (v.getD j default).Text.size ≤ 100
      intro j hj; simp at hj
  · rintro i hF
    have hF : (0 ≤ i) ∧ (∀ j, j < i.toNat → (v.getD j default).Text.size ≤ 100) := hF
    obtain ⟨hf1, hf2⟩ := hF
    show W Try.prog 31 w0 [] (Code.l (Code.l (Code.r (Code.l (Code.r (body Try.f14)))))) _ [(1, .int .i64 most), (2, .pointer (some ⟨b1, 0, none⟩)), (5, .int .i64 i)] [H] [some (b1, .cells #[vv] 24 (0, 0))]
    refine W.seq (by kernel_rfl) ?_
    refine W.seq (by kernel_rfl) ?_
    obtain ⟨n1, hn1⟩ : ∃ zz : Int, zz = (v.length : Int) := ⟨_, rfl⟩
    obtain ⟨p1, hp1⟩ : ∃ zz : Bool, zz = decide (i < n1) := ⟨_, rfl⟩
    obtain ⟨p2, hp2⟩ : ∃ zz : Bool, zz = decide (i < most) := ⟨_, rfl⟩
    obtain ⟨p3, hp3⟩ : ∃ zz : Bool, zz = (p1 && p2) := ⟨_, rfl⟩
    refine W.regV (fewv_ct_r14_2 vv most H b1 i n1 p1 p2 p3) [0, 1, 5, 6, 7] [2, 3, 4, 8, 9] (fun G => [.int .i64 i, .pointer (some ⟨b1, 0, none⟩), .bool p1, .int .i64 i, .int .i64 most]) (by kernel_rfl) mo_rs (by kernel_rfl) (fun _ _ => by kernel_rfl) ⟨?_, ?_, ?_, ?_, ?_, trivial⟩ (by kernel_rfl) ?_
    · exact One.loadE (t := 22) (r := 0) (off := 0) (b := fun G => b1) (vs := fun G => [vv]) (arr := fun G => #[vv]) (T := 24) (fr := (0, 0)) (fun G => ⟨by kernel_rfl⟩) (fun G => by kernel_rfl)
    · exact One.len (t := 22) (n := n1) (v := fun G => vv) (fun _ => ⟨by kernel_rfl⟩) (fun G w hs => ⟨_, (hv).isSl, hn1⟩)
    · exact One.bo hp1 (fun _ _ => by kernel_rfl)
    · exact One.bo hp2 (fun _ _ => by kernel_rfl)
    · subst hp3
      cases p1 <;> exact One.under fun _ _ _ => by kernel_rfl
    intro G3 xa xw hDn
    refine hDn.to [1, 2, 5, 15] [] (by kernel_rfl) ?_
    clear hDn
    refine Pre.conv (sl := [(1, .int .i64 most), (2, .pointer (some ⟨b1, 0, none⟩)), (5, .int .i64 i), (15, .bool p3)]) (A := [H]) (L := [some (b1, .cells #[vv] 24 (0, 0))]) ?_ (by kernel_rfl) (by kernel_rfl) (by kernel_rfl)
    clear G3
    refine At.then ?_
    refine W.cond p3 (by kernel_rfl) (fun xa hs => cnd_of (t := 15) (by kernel_rfl) (by kernel_rfl) hs) (fun hq => ?_) (fun hq => ?_)
    · skip
      have hq1 := hq
      replace hq1 := (iN hp3 (iAT (iN hp1 iDT) (iN hp2 iDT))).1 hq1
      refine W.skip (by kernel_rfl) ?_
      refine At.then ?_
      refine W.seq (by kernel_rfl) ?_
      refine W.block 1 (by kernel_rfl) ?_
      refine W.seq (by kernel_rfl) ?_
      obtain ⟨x1, hx1⟩ : ∃ zz : DThing, zz = v.getD i.toNat default := ⟨_, rfl⟩
      obtain ⟨n2, hn2⟩ : ∃ zz : Int, zz = (x1.Text.size : Int) := ⟨_, rfl⟩
      obtain ⟨p4, hp4⟩ : ∃ zz : Bool, zz = decide (100 < n2) := ⟨_, rfl⟩
      refine W.regV (fewv_ct_r14_3 vv most H b1 i p3 x1 n2 p4) [0, 2, 4] [1, 3, 5, 6, 7] (fun G => [.pointer (some ⟨b1, 0, none⟩), .int .i64 i, .pointer (some ((elemAddr vv (i.toNat * 5)).add 0))]) (by kernel_rfl) mo_rs (by kernel_rfl) (fun _ _ => by kernel_rfl) ⟨?_, ?_, ?_, ?_, ?_, trivial⟩ (by kernel_rfl) ?_
      · exact One.loadE (t := 22) (r := 0) (off := 0) (b := fun G => b1) (vs := fun G => [vv]) (arr := fun G => #[vv]) (T := 24) (fr := (0, 0)) (fun G => ⟨by kernel_rfl⟩) (fun G => by kernel_rfl)
      · exact One.index (t := 22) (e := 44) (size := 5) (v := fun G => vv) (k := .i64) (n := i) (fun _ => ⟨by kernel_rfl⟩) (fun G w hs => ⟨_, (hv).isSl, by first | omega | (simp only [List.length_append, List.length_cons, List.length_nil, List.length_replicate, List.length_set, List.length_take, List.length_drop, List.length_map, List.length_reverse, List.length_range]; omega), by first | omega | (simp only [List.length_append, List.length_cons, List.length_nil, List.length_replicate, List.length_set, List.length_take, List.length_drop, List.length_map, List.length_reverse, List.length_range]; omega)⟩)
      · exact One.loadD (α := DThing) (t := 9) (size := 5) (off := 0) (k := i) (l := fun G => v) (x := fun G => x1) (vs := fun G => [.string x1.Text]) (v := fun G => vv) (H := fun G => H) (p := fun G => (elemAddr vv (i.toNat * 5)).add 0) (fun G => ⟨by kernel_rfl⟩) rfl (fun G => by kernel_rfl) (fun G w hs => ⟨(hs.read 0 rfl), hv, rfl, by omega, by first | omega | (simp only [List.length_append, List.length_cons, List.length_nil, List.length_replicate, List.length_set, List.length_take, List.length_drop, List.length_map, List.length_reverse, List.length_range]; omega), hx1⟩)
      · exact One.eq (congrArg (Value.int .i64) hn2.symm) (fun _ _ => by kernel_rfl)
      · exact One.bo hp4 (fun _ _ => by kernel_rfl)
      intro G4 xa xw hDn
      refine hDn.to [1, 2, 5, 25] [] (by kernel_rfl) ?_
      clear hDn
      refine Pre.conv (sl := [(1, .int .i64 most), (2, .pointer (some ⟨b1, 0, none⟩)), (5, .int .i64 i), (25, .bool p4)]) (A := [H]) (L := [some (b1, .cells #[vv] 24 (0, 0))]) ?_ (by kernel_rfl) (by kernel_rfl) (by kernel_rfl)
      clear G4
      refine At.then ?_
      refine W.cond p4 (by kernel_rfl) (fun xa hs => cnd_of (t := 25) (by kernel_rfl) (by kernel_rfl) hs) (fun hq => ?_) (fun hq => ?_)
      · skip
        have hq2 := hq
        replace hq2 := (iN hp4 iDT).1 hq2
        refine W.seq (by kernel_rfl) ?_
        refine W.regV (fewv_ct_r14_4 vv most H b1 i p4) [0] [] (fun G => [.bool false]) (by kernel_rfl) mo_rs (by kernel_rfl) (fun _ _ => by kernel_rfl) trivial (by kernel_rfl) ?_
        intro G5 xa xw hDn
        refine hDn.to [4] [] (by kernel_rfl) ?_
        clear hDn
        refine Pre.conv (sl := [(4, .bool false)]) (A := [H]) (L := [some (b1, .cells #[vv] 24 (0, 0))]) ?_ (by kernel_rfl) (by kernel_rfl) (by kernel_rfl)
        clear G5
        refine At.then ?_
        refine W.ret (by kernel_rfl) ?_
        refine At.blockRet ?_
        refine At.thenRet ?_
        refine At.thenRet ?_
        refine At.blockRet ?_
        refine At.thenRet ?_
        refine At.results (Or.inl rfl) (.bool false) (fun xa xw hs hw => results_one (r := .tmp 4) (by kernel_rfl) (res_tmp (t := 4) (by kernel_rfl) hs)) (fun w' hw => ?_)
        have e0 : false = (decide (Tm.fewP v most)) := by
          exact Tm.few_no (k := i) (by omega) (by omega) (by omega) (by assumption) (by assumption) (by omega)
        exact ⟨congrArg Ending.returned (cong1 (fun (x0 : Bool) => (.bool x0 : Value)) e0), hw.base⟩
      · skip
        have hq3 := hq
        replace hq3 := (iN hp4 iDF).1 hq3
        refine W.skip (by kernel_rfl) ?_
        refine At.blockNormal ?_
        refine At.then ?_
        obtain ⟨n3, hn3⟩ : ∃ zz : Int, zz = i + 1 := ⟨_, rfl⟩
        refine W.regV (fewv_ct_r14_5 vv most H b1 i p4 n3) [0, 2] [1] (fun G => [.int .i64 i, .int .i64 n3]) (by kernel_rfl) mo_rs (by kernel_rfl) (fun _ _ => by kernel_rfl) ⟨?_, trivial⟩ (by kernel_rfl) ?_
        · exact One.ar hn3 (fun _ _ => by kernel_rfl) (fun G w hs => by omega)
        intro G6 xa xw hDn
        refine hDn.to [1, 2, 5] [] (by kernel_rfl) ?_
        clear hDn
        refine Pre.conv (sl := [(1, .int .i64 most), (2, .pointer (some ⟨b1, 0, none⟩)), (5, .int .i64 n3)]) (A := [H]) (L := [some (b1, .cells #[vv] 24 (0, 0))]) ?_ (by kernel_rfl) (by kernel_rfl) (by kernel_rfl)
        clear G6
        intro xa xw hs hw
        refine ⟨n3, ⟨hs.sub (by kernel_rfl), hw.mask [true] (by kernel_rfl), ?_⟩, ?_⟩
        · skip
          refine ⟨?_, ?_⟩
          · show 0 ≤ n3
            omega
          · show ∀ j, j < n3.toNat → (v.getD j default).Text.size ≤ 100
            exact Tm.few_step hf2 (by omega) (by assumption) (by assumption) (by assumption) (by omega)
        · show ((v.length : Int) - n3).toNat < ((v.length : Int) - i).toNat
          omega
    · skip
      have hq4 := hq
      replace hq4 := (iN hp3 (iAF (iN hp1 iDF) (iN hp2 iDF))).1 hq4
      refine W.exit 0 (by kernel_rfl) ?_
      refine At.thenExit ?_
      refine At.thenExit ?_
      refine At.blockHit ?_
      refine At.then ?_
      refine W.seq (by kernel_rfl) ?_
      obtain ⟨p5, hp5⟩ : ∃ zz : Bool, zz = decide (n1 ≤ most) := ⟨_, rfl⟩
      refine W.regV (fewv_ct_r14_6 vv most H b1 i n1 p3 p5) [0, 3, 5] [1, 2, 4] (fun G => [.pointer (some ⟨b1, 0, none⟩), .int .i64 most, .bool p5]) (by kernel_rfl) mo_rs (by kernel_rfl) (fun _ _ => by kernel_rfl) ⟨?_, ?_, ?_, trivial⟩ (by kernel_rfl) ?_
      · exact One.loadE (t := 22) (r := 0) (off := 0) (b := fun G => b1) (vs := fun G => [vv]) (arr := fun G => #[vv]) (T := 24) (fr := (0, 0)) (fun G => ⟨by kernel_rfl⟩) (fun G => by kernel_rfl)
      · exact One.len (t := 22) (n := n1) (v := fun G => vv) (fun _ => ⟨by kernel_rfl⟩) (fun G w hs => ⟨_, (hv).isSl, hn1⟩)
      · exact One.bo hp5 (fun _ _ => by kernel_rfl)
      intro G7 xa xw hDn
      refine hDn.to [4] [] (by kernel_rfl) ?_
      clear hDn
      refine Pre.conv (sl := [(4, .bool p5)]) (A := [H]) (L := [some (b1, .cells #[vv] 24 (0, 0))]) ?_ (by kernel_rfl) (by kernel_rfl) (by kernel_rfl)
      clear G7
      refine At.then ?_
      refine W.ret (by kernel_rfl) ?_
      refine At.results (Or.inl rfl) (.bool p5) (fun xa xw hs hw => results_one (r := .tmp 4) (by kernel_rfl) (res_tmp (t := 4) (by kernel_rfl) hs)) (fun w' hw => ?_)
      have e0 : p5 = (decide (Tm.fewP v most)) := by
        exact Tm.few_end (k := i) (n := n1) hf2 (by omega) (by omega) (by assumption) (by assumption)
      exact ⟨congrArg Ending.returned (cong1 (fun (x0 : Bool) => (.bool x0 : Value)) e0), hw.base⟩

noncomputable def rin36_ct_r52_0 (vv : Value) (i : Int) (H : Heaplet) : RC := { ops := opsAt Try.f52 0, B := [0, 0], sl := [(0, .agg #[vv]), (1, .int .i64 i)], A := [H], L := [none], cs := [{ val := fun G => .pointer (some ⟨(G 0).b, 0, none⟩), ups := [(0, fun G => some ((G 0).b, .cells #[vv] 24 (0, 0)))] }, { val := fun _ => .bool false }] }
noncomputable def rin36_ct_r52_1 (vv : Value) (i : Int) (H : Heaplet) (b1 : Nat) (p1 : Bool) (n1 : Int) (p2 p3 : Bool) : RC := { ops := opsAt Try.f52 1, B := [0, 1, 3, 7, 7, 23, 55, 127, 255, 511], sl := [(1, .int .i64 i), (2, .pointer (some ⟨b1, 0, none⟩))], A := [H], L := [some (b1, .cells #[vv] 24 (0, 0))], cs := [{ val := fun _ => .int .i64 i }, { val := fun _ => .bool p1 }, { val := fun _ => .bool p1 }, { val := fun _ => .int .i64 i }, { val := fun _ => .pointer (some ⟨b1, 0, none⟩) }, { val := fun _ => vv, rds := [0] }, { val := fun _ => .int .i64 n1 }, { val := fun _ => .bool p2 }, { val := fun _ => .bool p3 }, { val := fun _ => .bool p3 }] }
set_option maxRecDepth 10000 in
theorem rin36_ct (v : List DThing) (vv : Value) (i : Int) (w0 : World) (H : Heaplet) (hA : Agrees w0 H) (hv : RSl H v vv) :
    Calls Try.prog 52 #[.agg #[vv], .int .i64 i] w0 (fun e w' => e = .returned (.bool ((decide (0 ≤ i ∧ i < (v.length : Int))))) ∧ Base [] w0 w') := by
  have hE : Ext w0 H H := Ext.refl w0 H
  have hvn := hv.lim
  refine calls_of_W (sl := [(0, .agg #[vv]), (1, .int .i64 i)]) (A := [H]) (L := [none]) Try.func52 (by kernel_rfl) 14 (by kernel_rfl) (by kernel_rfl) (fun J hJ => by simp at hJ; subst hJ; exact hA) (by simp) ?_
  refine W.seq (by kernel_rfl) ?_
  refine W.regV (rin36_ct_r52_0 vv i H) [1] [0] (fun G => [.bool false]) (by kernel_rfl) mo_rs (by kernel_rfl) (fun _ _ => by kernel_rfl) ⟨?_, trivial⟩ (by kernel_rfl) ?_
  · exact One.new (r := 0) (T := 24) (fun b => .pointer (some ⟨b, 0, none⟩)) (arr := fun G => #[vv]) (fun G w => by kernel_rfl) (fun G b => by kernel_rfl)
  intro G1 xa xw hDn
  refine hDn.to [1, 2] [] (by kernel_rfl) ?_
  clear hDn
  refine Pre.conv (sl := [(1, .int .i64 i), (2, .pointer (some ⟨(G1 0).b, 0, none⟩))]) (A := [H]) (L := [some ((G1 0).b, .cells #[vv] 24 (0, 0))]) ?_ (by kernel_rfl) (by kernel_rfl) (by kernel_rfl)
  generalize (G1 0).b = b1 at ⊢
  clear G1
  refine At.then ?_
  refine W.seq (by kernel_rfl) ?_
  obtain ⟨p1, hp1⟩ : ∃ zz : Bool, zz = decide (0 ≤ i) := ⟨_, rfl⟩
  obtain ⟨n1, hn1⟩ : ∃ zz : Int, zz = (v.length : Int) := ⟨_, rfl⟩
  obtain ⟨p2, hp2⟩ : ∃ zz : Bool, zz = decide (i < n1) := ⟨_, rfl⟩
  obtain ⟨p3, hp3⟩ : ∃ zz : Bool, zz = (p1 && p2) := ⟨_, rfl⟩
  refine W.regV (rin36_ct_r52_1 vv i H b1 p1 n1 p2 p3) [0, 2, 3, 4, 9] [1, 5, 6, 7, 8] (fun G => [.int .i64 i, .bool p1, .int .i64 i, .pointer (some ⟨b1, 0, none⟩), .bool p3]) (by kernel_rfl) mo_rs (by kernel_rfl) (fun _ _ => by kernel_rfl) ⟨?_, ?_, ?_, ?_, ?_, trivial⟩ (by kernel_rfl) ?_
  · exact One.bo hp1 (fun _ _ => by kernel_rfl)
  · exact One.loadE (t := 22) (r := 0) (off := 0) (b := fun G => b1) (vs := fun G => [vv]) (arr := fun G => #[vv]) (T := 24) (fr := (0, 0)) (fun G => ⟨by kernel_rfl⟩) (fun G => by kernel_rfl)
  · exact One.len (t := 22) (n := n1) (v := fun G => vv) (fun _ => ⟨by kernel_rfl⟩) (fun G w hs => by
      have hg := gd_of hs (p := (true && (p1 == true))) (by kernel_rfl)
      have hg0 := (iN hp1 iDT).1 (eqT (andR hg))
      exact ⟨_, (hv).isSl, hn1⟩)
  · exact One.bo hp2 (fun _ _ => by kernel_rfl)
  · subst hp3
    cases p1 <;> exact One.under fun _ _ _ => by kernel_rfl
  intro G2 xa xw hDn
  refine hDn.to [4] [] (by kernel_rfl) ?_
  clear hDn
  refine Pre.conv (sl := [(4, .bool p3)]) (A := [H]) (L := [some (b1, .cells #[vv] 24 (0, 0))]) ?_ (by kernel_rfl) (by kernel_rfl) (by kernel_rfl)
  clear G2
  refine At.then ?_
  refine W.ret (by kernel_rfl) ?_
  refine At.results (Or.inl rfl) (.bool p3) (fun xa xw hs hw => results_one (r := .tmp 4) (by kernel_rfl) (res_tmp (t := 4) (by kernel_rfl) hs)) (fun w' hw => ?_)
  have e0 : p3 = (decide (0 ≤ i ∧ i < (v.length : Int))) := by
    rw [Bool.eq_iff_iff, (iN hp3 (iAT (iN hp1 iDT) (iN hp2 iDT))), decide_eq_true_iff]
    omega
  exact ⟨congrArg Ending.returned (cong1 (fun (x0 : Bool) => (.bool x0 : Value)) e0), hw.base⟩

noncomputable def same_ct_r18_0 (av bv : Value) (H : Heaplet) : RC := { ops := opsAt Try.f18 0, B := [0], sl := [(0, av), (1, bv)], A := [H], L := [], cs := [{ val := fun _ => .bool false }] }
noncomputable def same_ct_r18_1 (av bv : Value) (H : Heaplet) (n1 n2 : Int) (p1 : Bool) : RC := { ops := opsAt Try.f18 1, B := [0, 1, 0, 4, 15], sl := [(0, av), (1, bv)], A := [H], L := [], cs := [{ val := fun _ => av }, { val := fun _ => .int .i64 n1 }, { val := fun _ => bv }, { val := fun _ => .int .i64 n2 }, { val := fun _ => .bool p1 }] }
noncomputable def same_ct_r18_2 (av bv : Value) (H : Heaplet) (p1 : Bool) : RC := { ops := opsAt Try.f18 2, B := [0], sl := [(0, av), (1, bv), (10, .bool p1)], A := [H], L := [], cs := [{ val := fun _ => .bool false }] }
noncomputable def same_ct_r18_3 (av bv : Value) (H : Heaplet) (p1 : Bool) : RC := { ops := opsAt Try.f18 3, B := [0], sl := [(0, av), (1, bv), (10, .bool p1)], A := [H], L := [], cs := [{ val := fun _ => .int .i64 0 }] }
noncomputable def same_ct_r18_4 (av bv : Value) (H : Heaplet) (n1 i : Int) (p2 : Bool) : RC := { ops := opsAt Try.f18 4, B := [0, 0, 2, 7], sl := [(0, av), (1, bv), (5, .int .i64 i)], A := [H], L := [], cs := [{ val := fun _ => .int .i64 i }, { val := fun _ => av }, { val := fun _ => .int .i64 n1 }, { val := fun _ => .bool p2 }] }
noncomputable def same_ct_r18_5 (av bv : Value) (H : Heaplet) (i : Int) (p2 : Bool) (x1 x2 : DThing) (p3 : Bool) : RC := { ops := opsAt Try.f18 6, B := [0, 0, 3, 7, 0, 0, 48, 112, 255], sl := [(0, av), (1, bv), (5, .int .i64 i), (14, .bool p2)], A := [H], L := [], cs := [{ val := fun _ => av }, { val := fun _ => .int .i64 i }, { val := fun _ => .pointer (some (elemAddr av (i.toNat * 5))) }, { val := fun _ => .agg #[.string x1.Text, .int .i64 x1.Value, .int .i64 x1.Blind, .int .i64 x1.Left, .int .i64 x1.Right] }, { val := fun _ => bv }, { val := fun _ => .int .i64 i }, { val := fun _ => .pointer (some (elemAddr bv (i.toNat * 5))) }, { val := fun _ => .agg #[.string x2.Text, .int .i64 x2.Value, .int .i64 x2.Blind, .int .i64 x2.Left, .int .i64 x2.Right] }, { val := fun _ => .bool p3 }] }
noncomputable def same_ct_r18_6 (av bv : Value) (H : Heaplet) (i : Int) (p3 : Bool) : RC := { ops := opsAt Try.f18 7, B := [0], sl := [(0, av), (1, bv), (5, .int .i64 i), (25, .bool p3)], A := [H], L := [], cs := [{ val := fun _ => .bool false }] }
noncomputable def same_ct_r18_7 (av bv : Value) (H : Heaplet) (i : Int) (p3 : Bool) (n3 : Int) : RC := { ops := opsAt Try.f18 5, B := [0, 1, 3], sl := [(0, av), (1, bv), (5, .int .i64 i), (25, .bool p3)], A := [H], L := [], cs := [{ val := fun _ => .int .i64 i }, { val := fun _ => .int .i64 n3 }, { val := fun _ => .int .i64 n3 }] }
noncomputable def same_ct_r18_8 (av bv : Value) (H : Heaplet) (i : Int) (p2 : Bool) : RC := { ops := opsAt Try.f18 8, B := [0], sl := [(0, av), (1, bv), (5, .int .i64 i), (14, .bool p2)], A := [H], L := [], cs := [{ val := fun _ => .bool true }] }
set_option maxRecDepth 10000 in
theorem same_ct (a : List DThing) (av : Value) (b : List DThing) (bv : Value) (w0 : World) (H : Heaplet) (hA : Agrees w0 H) (ha : RSl H a av) (hb : RSl H b bv) :
    Calls Try.prog 18 #[av, bv] w0 (fun e w' => e = .returned (.bool ((decide (a = b)))) ∧ Base [] w0 w') := by
  have hE : Ext w0 H H := Ext.refl w0 H
  have han := ha.lim
  have hbn := hb.lim
  refine calls_of_W (sl := [(0, av), (1, bv)]) (A := [H]) (L := []) Try.func18 (by kernel_rfl) 26 (by kernel_rfl) (by kernel_rfl) (fun J hJ => by simp at hJ; subst hJ; exact hA) (by simp) ?_
  refine W.seq (by kernel_rfl) ?_
  refine W.regV (same_ct_r18_0 av bv H) [0] [] (fun G => [.bool false]) (by kernel_rfl) mo_rs (by kernel_rfl) (fun _ _ => by kernel_rfl) trivial (by kernel_rfl) ?_
  intro G1 xa xw hDn
  refine hDn.to [0, 1] [] (by kernel_rfl) ?_
  clear hDn
  refine Pre.conv (sl := [(0, av), (1, bv)]) (A := [H]) (L := []) ?_ (by kernel_rfl) (by kernel_rfl) (by kernel_rfl)
  clear G1
  refine At.then ?_
  refine W.seq (by kernel_rfl) ?_
  refine W.seq (by kernel_rfl) ?_
  obtain ⟨n1, hn1⟩ : ∃ zz : Int, zz = (a.length : Int) := ⟨_, rfl⟩
  obtain ⟨n2, hn2⟩ : ∃ zz : Int, zz = (b.length : Int) := ⟨_, rfl⟩
  obtain ⟨p1, hp1⟩ : ∃ zz : Bool, zz = !(decide (n1 = n2)) := ⟨_, rfl⟩
  refine W.regV (same_ct_r18_1 av bv H n1 n2 p1) [0, 2] [1, 3, 4] (fun G => [av, bv]) (by kernel_rfl) mo_rs (by kernel_rfl) (fun _ _ => by kernel_rfl) ⟨?_, ?_, ?_, trivial⟩ (by kernel_rfl) ?_
  · exact One.len (t := 22) (n := n1) (v := fun G => av) (fun _ => ⟨by kernel_rfl⟩) (fun G w hs => ⟨_, (ha).isSl, hn1⟩)
  · exact One.len (t := 22) (n := n2) (v := fun G => bv) (fun _ => ⟨by kernel_rfl⟩) (fun G w hs => ⟨_, (hb).isSl, hn2⟩)
  · exact One.bo hp1 (fun _ _ => by kernel_rfl)
  intro G2 xa xw hDn
  refine hDn.to [0, 1, 10] [] (by kernel_rfl) ?_
  clear hDn
  refine Pre.conv (sl := [(0, av), (1, bv), (10, .bool p1)]) (A := [H]) (L := []) ?_ (by kernel_rfl) (by kernel_rfl) (by kernel_rfl)
  clear G2
  refine At.then ?_
  refine W.cond p1 (by kernel_rfl) (fun xa hs => cnd_of (t := 10) (by kernel_rfl) (by kernel_rfl) hs) (fun hq => ?_) (fun hq => ?_)
  · skip
    have hq1 := hq
    replace hq1 := (iN hp1 (iNT iDF)).1 hq1
    refine W.seq (by kernel_rfl) ?_
    refine W.regV (same_ct_r18_2 av bv H p1) [0] [] (fun G => [.bool false]) (by kernel_rfl) mo_rs (by kernel_rfl) (fun _ _ => by kernel_rfl) trivial (by kernel_rfl) ?_
    intro G3 xa xw hDn
    refine hDn.to [4] [] (by kernel_rfl) ?_
    clear hDn
    refine Pre.conv (sl := [(4, .bool false)]) (A := [H]) (L := []) ?_ (by kernel_rfl) (by kernel_rfl) (by kernel_rfl)
    clear G3
    refine At.then ?_
    refine W.ret (by kernel_rfl) ?_
    refine At.thenRet ?_
    refine At.results (Or.inl rfl) (.bool false) (fun xa xw hs hw => results_one (r := .tmp 4) (by kernel_rfl) (res_tmp (t := 4) (by kernel_rfl) hs)) (fun w' hw => ?_)
    have e0 : false = (decide (a = b)) := by
      exact Tm.same_no_len (by assumption) (by assumption) hq1
    exact ⟨congrArg Ending.returned (cong1 (fun (x0 : Bool) => (.bool x0 : Value)) e0), hw.base⟩
  · skip
    have hq2 := hq
    replace hq2 := (iN hp1 (iNF iDT)).1 hq2
    refine W.skip (by kernel_rfl) ?_
    refine At.then ?_
    refine W.seq (by kernel_rfl) ?_
    refine W.seq (by kernel_rfl) ?_
    refine W.regV (same_ct_r18_3 av bv H p1) [0] [] (fun G => [.int .i64 0]) (by kernel_rfl) mo_rs (by kernel_rfl) (fun _ _ => by kernel_rfl) trivial (by kernel_rfl) ?_
    intro G4 xa xw hDn
    refine hDn.to [0, 1, 5] [] (by kernel_rfl) ?_
    clear hDn
    refine Pre.conv (sl := [(0, av), (1, bv), (5, .int .i64 0)]) (A := [H]) (L := []) ?_ (by kernel_rfl) (by kernel_rfl) (by kernel_rfl)
    clear G4
    refine At.then ?_
    refine W.block 0 (by kernel_rfl) ?_
    refine W.loopS (γ := Int) (fun i => [(0, av), (1, bv), (5, .int .i64 i)]) (fun i => [H]) (fun i => []) (fun i => (0 ≤ i) ∧ (i ≤ (a.length : Int)) ∧ (∀ j, j < i.toNat → a.getD j default = b.getD j default)) (fun i => ((a.length : Int) - i).toNat) 0 (by kernel_rfl) ?_ ?_
    · intro xa xw hs hw
      refine ⟨hs.sub (by kernel_rfl), hw.mask [] (by kernel_rfl), ?_⟩
      refine ⟨?_, ?_, ?_⟩
      · show 0 ≤ (0 : Int)
        first | omega | rfl | (simp; done) | (subst_vars; simp; done)
      · show (0 : Int) ≤ (a.length : Int)
        first | omega | rfl | (simp; done) | (subst_vars; simp; done)
      · show ∀ j, j < (0 : Int).toNat → a.getD j default = b.getD j default
        intro j hj; simp at hj
    · rintro i hF
      have hF : (0 ≤ i) ∧ (i ≤ (a.length : Int)) ∧ (∀ j, j < i.toNat → a.getD j default = b.getD j default) := hF
      obtain ⟨hf1, hf2, hf3⟩ := hF
      show W Try.prog 26 w0 [] (Code.l (Code.l (Code.r (Code.l (Code.r (Code.r (body Try.f18))))))) _ [(0, av), (1, bv), (5, .int .i64 i)] [H] []
      refine W.seq (by kernel_rfl) ?_
      refine W.seq (by kernel_rfl) ?_
      obtain ⟨p2, hp2⟩ : ∃ zz : Bool, zz = decide (i < n1) := ⟨_, rfl⟩
      refine W.regV (same_ct_r18_4 av bv H n1 i p2) [0, 1] [2, 3] (fun G => [.int .i64 i, av]) (by kernel_rfl) mo_rs (by kernel_rfl) (fun _ _ => by kernel_rfl) ⟨?_, ?_, trivial⟩ (by kernel_rfl) ?_
      · exact One.len (t := 22) (n := n1) (v := fun G => av) (fun _ => ⟨by kernel_rfl⟩) (fun G w hs => ⟨_, (ha).isSl, hn1⟩)
      · exact One.bo hp2 (fun _ _ => by kernel_rfl)
      intro G5 xa xw hDn
      refine hDn.to [0, 1, 5, 14] [] (by kernel_rfl) ?_
      clear hDn
      refine Pre.conv (sl := [(0, av), (1, bv), (5, .int .i64 i), (14, .bool p2)]) (A := [H]) (L := []) ?_ (by kernel_rfl) (by kernel_rfl) (by kernel_rfl)
      clear G5
      refine At.then ?_
      refine W.cond p2 (by kernel_rfl) (fun xa hs => cnd_of (t := 14) (by kernel_rfl) (by kernel_rfl) hs) (fun hq => ?_) (fun hq => ?_)
      · skip
        have hq3 := hq
        replace hq3 := (iN hp2 iDT).1 hq3
        refine W.skip (by kernel_rfl) ?_
        refine At.then ?_
        refine W.seq (by kernel_rfl) ?_
        refine W.block 1 (by kernel_rfl) ?_
        refine W.seq (by kernel_rfl) ?_
        obtain ⟨x1, hx1⟩ : ∃ zz : DThing, zz = a.getD i.toNat default := ⟨_, rfl⟩
        obtain ⟨x2, hx2⟩ : ∃ zz : DThing, zz = b.getD i.toNat default := ⟨_, rfl⟩
        obtain ⟨p3, hp3⟩ : ∃ zz : Bool, zz = !(decide (x1.Text = x2.Text ∧ x1.Value = x2.Value ∧ x1.Blind = x2.Blind ∧ x1.Left = x2.Left ∧ x1.Right = x2.Right)) := ⟨_, rfl⟩
        refine W.regV (same_ct_r18_5 av bv H i p2 x1 x2 p3) [0, 1, 4, 5] [2, 3, 6, 7, 8] (fun G => [av, .int .i64 i, bv, .int .i64 i]) (by kernel_rfl) mo_rs (by kernel_rfl) (fun _ _ => by kernel_rfl) ⟨?_, ?_, ?_, ?_, ?_, trivial⟩ (by kernel_rfl) ?_
        · exact One.index (t := 22) (e := 44) (size := 5) (v := fun G => av) (k := .i64) (n := i) (fun _ => ⟨by kernel_rfl⟩) (fun G w hs => ⟨_, (ha).isSl, by first | omega | (simp only [List.length_append, List.length_cons, List.length_nil, List.length_replicate, List.length_set, List.length_take, List.length_drop, List.length_map, List.length_reverse, List.length_range]; omega), by first | omega | (simp only [List.length_append, List.length_cons, List.length_nil, List.length_replicate, List.length_set, List.length_take, List.length_drop, List.length_map, List.length_reverse, List.length_range]; omega)⟩)
        · exact One.loadD (α := DThing) (t := 44) (size := 5) (off := 0) (k := i) (l := fun G => a) (x := fun G => x1) (vs := fun G => [.string x1.Text, .int .i64 x1.Value, .int .i64 x1.Blind, .int .i64 x1.Left, .int .i64 x1.Right]) (v := fun G => av) (H := fun G => H) (p := fun G => elemAddr av (i.toNat * 5)) (fun G => ⟨by kernel_rfl⟩) rfl (fun G => by kernel_rfl) (fun G w hs => ⟨(hs.read 0 rfl), ha, (add_zero' _).symm, by omega, by first | omega | (simp only [List.length_append, List.length_cons, List.length_nil, List.length_replicate, List.length_set, List.length_take, List.length_drop, List.length_map, List.length_reverse, List.length_range]; omega), hx1⟩)
        · exact One.index (t := 22) (e := 44) (size := 5) (v := fun G => bv) (k := .i64) (n := i) (fun _ => ⟨by kernel_rfl⟩) (fun G w hs => ⟨_, (hb).isSl, by first | omega | (simp only [List.length_append, List.length_cons, List.length_nil, List.length_replicate, List.length_set, List.length_take, List.length_drop, List.length_map, List.length_reverse, List.length_range]; omega), by first | omega | (simp only [List.length_append, List.length_cons, List.length_nil, List.length_replicate, List.length_set, List.length_take, List.length_drop, List.length_map, List.length_reverse, List.length_range]; omega)⟩)
        · exact One.loadD (α := DThing) (t := 44) (size := 5) (off := 0) (k := i) (l := fun G => b) (x := fun G => x2) (vs := fun G => [.string x2.Text, .int .i64 x2.Value, .int .i64 x2.Blind, .int .i64 x2.Left, .int .i64 x2.Right]) (v := fun G => bv) (H := fun G => H) (p := fun G => elemAddr bv (i.toNat * 5)) (fun G => ⟨by kernel_rfl⟩) rfl (fun G => by kernel_rfl) (fun G w hs => ⟨(hs.read 0 rfl), hb, (add_zero' _).symm, by omega, by first | omega | (simp only [List.length_append, List.length_cons, List.length_nil, List.length_replicate, List.length_set, List.length_take, List.length_drop, List.length_map, List.length_reverse, List.length_range]; omega), hx2⟩)
        · exact One.aggEq (neq := true) (t := 44) (xs := #[.string x1.Text, .int .i64 x1.Value, .int .i64 x1.Blind, .int .i64 x1.Left, .int .i64 x1.Right]) (ys := #[.string x2.Text, .int .i64 x2.Value, .int .i64 x2.Blind, .int .i64 x2.Left, .int .i64 x2.Right]) (p := p3) (fun _ => ⟨by kernel_rfl⟩) (by rw [hp3]; first | rfl | simp) (fun w => thing_equal w x1.Text x1.Value x1.Blind x1.Left x1.Right x2.Text x2.Value x2.Blind x2.Left x2.Right)
        intro G6 xa xw hDn
        refine hDn.to [0, 1, 5, 25] [] (by kernel_rfl) ?_
        clear hDn
        refine Pre.conv (sl := [(0, av), (1, bv), (5, .int .i64 i), (25, .bool p3)]) (A := [H]) (L := []) ?_ (by kernel_rfl) (by kernel_rfl) (by kernel_rfl)
        clear G6
        refine At.then ?_
        refine W.cond p3 (by kernel_rfl) (fun xa hs => cnd_of (t := 25) (by kernel_rfl) (by kernel_rfl) hs) (fun hq => ?_) (fun hq => ?_)
        · skip
          have hq4 := hq
          replace hq4 := (iN hp3 (iNT iDF)).1 hq4
          refine W.seq (by kernel_rfl) ?_
          refine W.regV (same_ct_r18_6 av bv H i p3) [0] [] (fun G => [.bool false]) (by kernel_rfl) mo_rs (by kernel_rfl) (fun _ _ => by kernel_rfl) trivial (by kernel_rfl) ?_
          intro G7 xa xw hDn
          refine hDn.to [4] [] (by kernel_rfl) ?_
          clear hDn
          refine Pre.conv (sl := [(4, .bool false)]) (A := [H]) (L := []) ?_ (by kernel_rfl) (by kernel_rfl) (by kernel_rfl)
          clear G7
          refine At.then ?_
          refine W.ret (by kernel_rfl) ?_
          refine At.blockRet ?_
          refine At.thenRet ?_
          refine At.thenRet ?_
          refine At.blockRet ?_
          refine At.thenRet ?_
          refine At.results (Or.inl rfl) (.bool false) (fun xa xw hs hw => results_one (r := .tmp 4) (by kernel_rfl) (res_tmp (t := 4) (by kernel_rfl) hs)) (fun w' hw => ?_)
          have e0 : false = (decide (a = b)) := by
            exact Tm.same_no (k := i) hx1 hx2 (fun e => hq4 ((Tm.thing_ext _ _).1 e))
          exact ⟨congrArg Ending.returned (cong1 (fun (x0 : Bool) => (.bool x0 : Value)) e0), hw.base⟩
        · skip
          have hq5 := hq
          replace hq5 := (iN hp3 (iNF iDT)).1 hq5
          refine W.skip (by kernel_rfl) ?_
          refine At.blockNormal ?_
          refine At.then ?_
          obtain ⟨n3, hn3⟩ : ∃ zz : Int, zz = i + 1 := ⟨_, rfl⟩
          refine W.regV (same_ct_r18_7 av bv H i p3 n3) [0, 2] [1] (fun G => [.int .i64 i, .int .i64 n3]) (by kernel_rfl) mo_rs (by kernel_rfl) (fun _ _ => by kernel_rfl) ⟨?_, trivial⟩ (by kernel_rfl) ?_
          · exact One.ar hn3 (fun _ _ => by kernel_rfl) (fun G w hs => by omega)
          intro G8 xa xw hDn
          refine hDn.to [0, 1, 5] [] (by kernel_rfl) ?_
          clear hDn
          refine Pre.conv (sl := [(0, av), (1, bv), (5, .int .i64 n3)]) (A := [H]) (L := []) ?_ (by kernel_rfl) (by kernel_rfl) (by kernel_rfl)
          clear G8
          intro xa xw hs hw
          refine ⟨n3, ⟨hs.sub (by kernel_rfl), hw.mask [] (by kernel_rfl), ?_⟩, ?_⟩
          · skip
            refine ⟨?_, ?_, ?_⟩
            · show 0 ≤ n3
              first | omega | rfl | (simp; done) | (subst_vars; simp; done)
            · show n3 ≤ (a.length : Int)
              first | omega | rfl | (simp; done) | (subst_vars; simp; done)
            · show ∀ j, j < n3.toNat → a.getD j default = b.getD j default
              exact Tm.same_step hf3 (by omega) (by assumption) hx1 hx2 ((Tm.thing_ext _ _).2 hq5)
          · show ((a.length : Int) - n3).toNat < ((a.length : Int) - i).toNat
            omega
      · skip
        have hq6 := hq
        replace hq6 := (iN hp2 iDF).1 hq6
        refine W.exit 0 (by kernel_rfl) ?_
        refine At.thenExit ?_
        refine At.thenExit ?_
        refine At.blockHit ?_
        refine At.then ?_
        refine W.seq (by kernel_rfl) ?_
        refine W.regV (same_ct_r18_8 av bv H i p2) [0] [] (fun G => [.bool true]) (by kernel_rfl) mo_rs (by kernel_rfl) (fun _ _ => by kernel_rfl) trivial (by kernel_rfl) ?_
        intro G9 xa xw hDn
        refine hDn.to [4] [] (by kernel_rfl) ?_
        clear hDn
        refine Pre.conv (sl := [(4, .bool true)]) (A := [H]) (L := []) ?_ (by kernel_rfl) (by kernel_rfl) (by kernel_rfl)
        clear G9
        refine At.then ?_
        refine W.ret (by kernel_rfl) ?_
        refine At.results (Or.inl rfl) (.bool true) (fun xa xw hs hw => results_one (r := .tmp 4) (by kernel_rfl) (res_tmp (t := 4) (by kernel_rfl) hs)) (fun w' hw => ?_)
        have e0 : true = (decide (a = b)) := by
          exact Tm.same_yes (k := i) hf3 (by omega) (by omega)
        exact ⟨congrArg Ending.returned (cong1 (fun (x0 : Bool) => (.bool x0 : Value)) e0), hw.base⟩

noncomputable def samei_ct_r19_0 (av bv : Value) (H : Heaplet) : RC := { ops := opsAt Try.f19 0, B := [0], sl := [(0, av), (1, bv)], A := [H], L := [], cs := [{ val := fun _ => .bool false }] }
noncomputable def samei_ct_r19_1 (av bv : Value) (H : Heaplet) (n1 n2 : Int) (p1 : Bool) : RC := { ops := opsAt Try.f19 1, B := [0, 1, 0, 4, 15], sl := [(0, av), (1, bv)], A := [H], L := [], cs := [{ val := fun _ => av }, { val := fun _ => .int .i64 n1 }, { val := fun _ => bv }, { val := fun _ => .int .i64 n2 }, { val := fun _ => .bool p1 }] }
noncomputable def samei_ct_r19_2 (av bv : Value) (H : Heaplet) (p1 : Bool) : RC := { ops := opsAt Try.f19 2, B := [0], sl := [(0, av), (1, bv), (10, .bool p1)], A := [H], L := [], cs := [{ val := fun _ => .bool false }] }
noncomputable def samei_ct_r19_3 (av bv : Value) (H : Heaplet) (p1 : Bool) : RC := { ops := opsAt Try.f19 3, B := [0], sl := [(0, av), (1, bv), (10, .bool p1)], A := [H], L := [], cs := [{ val := fun _ => .int .i64 0 }] }
noncomputable def samei_ct_r19_4 (av bv : Value) (H : Heaplet) (n1 i : Int) (p2 : Bool) : RC := { ops := opsAt Try.f19 4, B := [0, 0, 2, 7], sl := [(0, av), (1, bv), (5, .int .i64 i)], A := [H], L := [], cs := [{ val := fun _ => .int .i64 i }, { val := fun _ => av }, { val := fun _ => .int .i64 n1 }, { val := fun _ => .bool p2 }] }
noncomputable def samei_ct_r19_5 (av bv : Value) (H : Heaplet) (i : Int) (p2 : Bool) (n3 n4 : Int) (p3 : Bool) : RC := { ops := opsAt Try.f19 6, B := [0, 0, 3, 7, 0, 0, 48, 112, 255], sl := [(0, av), (1, bv), (5, .int .i64 i), (14, .bool p2)], A := [H], L := [], cs := [{ val := fun _ => av }, { val := fun _ => .int .i64 i }, { val := fun _ => .pointer (some (elemAddr av (i.toNat * 1))) }, { val := fun _ => .int .i64 n3 }, { val := fun _ => bv }, { val := fun _ => .int .i64 i }, { val := fun _ => .pointer (some (elemAddr bv (i.toNat * 1))) }, { val := fun _ => .int .i64 n4 }, { val := fun _ => .bool p3 }] }
noncomputable def samei_ct_r19_6 (av bv : Value) (H : Heaplet) (i : Int) (p3 : Bool) : RC := { ops := opsAt Try.f19 7, B := [0], sl := [(0, av), (1, bv), (5, .int .i64 i), (25, .bool p3)], A := [H], L := [], cs := [{ val := fun _ => .bool false }] }
noncomputable def samei_ct_r19_7 (av bv : Value) (H : Heaplet) (i : Int) (p3 : Bool) (n5 : Int) : RC := { ops := opsAt Try.f19 5, B := [0, 1, 3], sl := [(0, av), (1, bv), (5, .int .i64 i), (25, .bool p3)], A := [H], L := [], cs := [{ val := fun _ => .int .i64 i }, { val := fun _ => .int .i64 n5 }, { val := fun _ => .int .i64 n5 }] }
noncomputable def samei_ct_r19_8 (av bv : Value) (H : Heaplet) (i : Int) (p2 : Bool) : RC := { ops := opsAt Try.f19 8, B := [0], sl := [(0, av), (1, bv), (5, .int .i64 i), (14, .bool p2)], A := [H], L := [], cs := [{ val := fun _ => .bool true }] }
set_option maxRecDepth 10000 in
theorem samei_ct (a : List Int) (av : Value) (b : List Int) (bv : Value) (w0 : World) (H : Heaplet) (hA : Agrees w0 H) (ha : RSl H a av) (hb : RSl H b bv) :
    Calls Try.prog 19 #[av, bv] w0 (fun e w' => e = .returned (.bool ((decide (a = b)))) ∧ Base [] w0 w') := by
  have hE : Ext w0 H H := Ext.refl w0 H
  have han := ha.lim
  have hbn := hb.lim
  refine calls_of_W (sl := [(0, av), (1, bv)]) (A := [H]) (L := []) Try.func19 (by kernel_rfl) 26 (by kernel_rfl) (by kernel_rfl) (fun J hJ => by simp at hJ; subst hJ; exact hA) (by simp) ?_
  refine W.seq (by kernel_rfl) ?_
  refine W.regV (samei_ct_r19_0 av bv H) [0] [] (fun G => [.bool false]) (by kernel_rfl) mo_rs (by kernel_rfl) (fun _ _ => by kernel_rfl) trivial (by kernel_rfl) ?_
  intro G1 xa xw hDn
  refine hDn.to [0, 1] [] (by kernel_rfl) ?_
  clear hDn
  refine Pre.conv (sl := [(0, av), (1, bv)]) (A := [H]) (L := []) ?_ (by kernel_rfl) (by kernel_rfl) (by kernel_rfl)
  clear G1
  refine At.then ?_
  refine W.seq (by kernel_rfl) ?_
  refine W.seq (by kernel_rfl) ?_
  obtain ⟨n1, hn1⟩ : ∃ zz : Int, zz = (a.length : Int) := ⟨_, rfl⟩
  obtain ⟨n2, hn2⟩ : ∃ zz : Int, zz = (b.length : Int) := ⟨_, rfl⟩
  obtain ⟨p1, hp1⟩ : ∃ zz : Bool, zz = !(decide (n1 = n2)) := ⟨_, rfl⟩
  refine W.regV (samei_ct_r19_1 av bv H n1 n2 p1) [0, 2] [1, 3, 4] (fun G => [av, bv]) (by kernel_rfl) mo_rs (by kernel_rfl) (fun _ _ => by kernel_rfl) ⟨?_, ?_, ?_, trivial⟩ (by kernel_rfl) ?_
  · exact One.len (t := 26) (n := n1) (v := fun G => av) (fun _ => ⟨by kernel_rfl⟩) (fun G w hs => ⟨_, (ha).isSl, hn1⟩)
  · exact One.len (t := 26) (n := n2) (v := fun G => bv) (fun _ => ⟨by kernel_rfl⟩) (fun G w hs => ⟨_, (hb).isSl, hn2⟩)
  · exact One.bo hp1 (fun _ _ => by kernel_rfl)
  intro G2 xa xw hDn
  refine hDn.to [0, 1, 10] [] (by kernel_rfl) ?_
  clear hDn
  refine Pre.conv (sl := [(0, av), (1, bv), (10, .bool p1)]) (A := [H]) (L := []) ?_ (by kernel_rfl) (by kernel_rfl) (by kernel_rfl)
  clear G2
  refine At.then ?_
  refine W.cond p1 (by kernel_rfl) (fun xa hs => cnd_of (t := 10) (by kernel_rfl) (by kernel_rfl) hs) (fun hq => ?_) (fun hq => ?_)
  · skip
    have hq1 := hq
    replace hq1 := (iN hp1 (iNT iDF)).1 hq1
    refine W.seq (by kernel_rfl) ?_
    refine W.regV (samei_ct_r19_2 av bv H p1) [0] [] (fun G => [.bool false]) (by kernel_rfl) mo_rs (by kernel_rfl) (fun _ _ => by kernel_rfl) trivial (by kernel_rfl) ?_
    intro G3 xa xw hDn
    refine hDn.to [4] [] (by kernel_rfl) ?_
    clear hDn
    refine Pre.conv (sl := [(4, .bool false)]) (A := [H]) (L := []) ?_ (by kernel_rfl) (by kernel_rfl) (by kernel_rfl)
    clear G3
    refine At.then ?_
    refine W.ret (by kernel_rfl) ?_
    refine At.thenRet ?_
    refine At.results (Or.inl rfl) (.bool false) (fun xa xw hs hw => results_one (r := .tmp 4) (by kernel_rfl) (res_tmp (t := 4) (by kernel_rfl) hs)) (fun w' hw => ?_)
    have e0 : false = (decide (a = b)) := by
      exact Tm.same_no_len (by assumption) (by assumption) hq1
    exact ⟨congrArg Ending.returned (cong1 (fun (x0 : Bool) => (.bool x0 : Value)) e0), hw.base⟩
  · skip
    have hq2 := hq
    replace hq2 := (iN hp1 (iNF iDT)).1 hq2
    refine W.skip (by kernel_rfl) ?_
    refine At.then ?_
    refine W.seq (by kernel_rfl) ?_
    refine W.seq (by kernel_rfl) ?_
    refine W.regV (samei_ct_r19_3 av bv H p1) [0] [] (fun G => [.int .i64 0]) (by kernel_rfl) mo_rs (by kernel_rfl) (fun _ _ => by kernel_rfl) trivial (by kernel_rfl) ?_
    intro G4 xa xw hDn
    refine hDn.to [0, 1, 5] [] (by kernel_rfl) ?_
    clear hDn
    refine Pre.conv (sl := [(0, av), (1, bv), (5, .int .i64 0)]) (A := [H]) (L := []) ?_ (by kernel_rfl) (by kernel_rfl) (by kernel_rfl)
    clear G4
    refine At.then ?_
    refine W.block 0 (by kernel_rfl) ?_
    refine W.loopS (γ := Int) (fun i => [(0, av), (1, bv), (5, .int .i64 i)]) (fun i => [H]) (fun i => []) (fun i => (0 ≤ i) ∧ (i ≤ (a.length : Int)) ∧ (∀ j, j < i.toNat → a.getD j default = b.getD j default)) (fun i => ((a.length : Int) - i).toNat) 0 (by kernel_rfl) ?_ ?_
    · intro xa xw hs hw
      refine ⟨hs.sub (by kernel_rfl), hw.mask [] (by kernel_rfl), ?_⟩
      refine ⟨?_, ?_, ?_⟩
      · show 0 ≤ (0 : Int)
        first | omega | rfl | (simp; done) | (subst_vars; simp; done)
      · show (0 : Int) ≤ (a.length : Int)
        first | omega | rfl | (simp; done) | (subst_vars; simp; done)
      · show ∀ j, j < (0 : Int).toNat → a.getD j default = b.getD j default
        intro j hj; simp at hj
    · rintro i hF
      have hF : (0 ≤ i) ∧ (i ≤ (a.length : Int)) ∧ (∀ j, j < i.toNat → a.getD j default = b.getD j default) := hF
      obtain ⟨hf1, hf2, hf3⟩ := hF
      show W Try.prog 26 w0 [] (Code.l (Code.l (Code.r (Code.l (Code.r (Code.r (body Try.f19))))))) _ [(0, av), (1, bv), (5, .int .i64 i)] [H] []
      refine W.seq (by kernel_rfl) ?_
      refine W.seq (by kernel_rfl) ?_
      obtain ⟨p2, hp2⟩ : ∃ zz : Bool, zz = decide (i < n1) := ⟨_, rfl⟩
      refine W.regV (samei_ct_r19_4 av bv H n1 i p2) [0, 1] [2, 3] (fun G => [.int .i64 i, av]) (by kernel_rfl) mo_rs (by kernel_rfl) (fun _ _ => by kernel_rfl) ⟨?_, ?_, trivial⟩ (by kernel_rfl) ?_
      · exact One.len (t := 26) (n := n1) (v := fun G => av) (fun _ => ⟨by kernel_rfl⟩) (fun G w hs => ⟨_, (ha).isSl, hn1⟩)
      · exact One.bo hp2 (fun _ _ => by kernel_rfl)
      intro G5 xa xw hDn
      refine hDn.to [0, 1, 5, 14] [] (by kernel_rfl) ?_
      clear hDn
      refine Pre.conv (sl := [(0, av), (1, bv), (5, .int .i64 i), (14, .bool p2)]) (A := [H]) (L := []) ?_ (by kernel_rfl) (by kernel_rfl) (by kernel_rfl)
      clear G5
      refine At.then ?_
      refine W.cond p2 (by kernel_rfl) (fun xa hs => cnd_of (t := 14) (by kernel_rfl) (by kernel_rfl) hs) (fun hq => ?_) (fun hq => ?_)
      · skip
        have hq3 := hq
        replace hq3 := (iN hp2 iDT).1 hq3
        refine W.skip (by kernel_rfl) ?_
        refine At.then ?_
        refine W.seq (by kernel_rfl) ?_
        refine W.block 1 (by kernel_rfl) ?_
        refine W.seq (by kernel_rfl) ?_
        obtain ⟨n3, hn3⟩ : ∃ zz : Int, zz = a.getD i.toNat default := ⟨_, rfl⟩
        obtain ⟨n4, hn4⟩ : ∃ zz : Int, zz = b.getD i.toNat default := ⟨_, rfl⟩
        obtain ⟨p3, hp3⟩ : ∃ zz : Bool, zz = !(decide (n3 = n4)) := ⟨_, rfl⟩
        refine W.regV (samei_ct_r19_5 av bv H i p2 n3 n4 p3) [0, 1, 4, 5] [2, 3, 6, 7, 8] (fun G => [av, .int .i64 i, bv, .int .i64 i]) (by kernel_rfl) mo_rs (by kernel_rfl) (fun _ _ => by kernel_rfl) ⟨?_, ?_, ?_, ?_, ?_, trivial⟩ (by kernel_rfl) ?_
        · exact One.index (t := 26) (e := 3) (size := 1) (v := fun G => av) (k := .i64) (n := i) (fun _ => ⟨by kernel_rfl⟩) (fun G w hs => ⟨_, (ha).isSl, by first | omega | (simp only [List.length_append, List.length_cons, List.length_nil, List.length_replicate, List.length_set, List.length_take, List.length_drop, List.length_map, List.length_reverse, List.length_range]; omega), by first | omega | (simp only [List.length_append, List.length_cons, List.length_nil, List.length_replicate, List.length_set, List.length_take, List.length_drop, List.length_map, List.length_reverse, List.length_range]; omega)⟩)
        · exact One.loadD (α := Int) (t := 3) (size := 1) (off := 0) (k := i) (l := fun G => a) (x := fun G => n3) (vs := fun G => [.int .i64 n3]) (v := fun G => av) (H := fun G => H) (p := fun G => elemAddr av (i.toNat * 1)) (fun G => ⟨by kernel_rfl⟩) rfl (fun G => by kernel_rfl) (fun G w hs => ⟨(hs.read 0 rfl), ha, (add_zero' _).symm, by omega, by first | omega | (simp only [List.length_append, List.length_cons, List.length_nil, List.length_replicate, List.length_set, List.length_take, List.length_drop, List.length_map, List.length_reverse, List.length_range]; omega), hn3⟩)
        · exact One.index (t := 26) (e := 3) (size := 1) (v := fun G => bv) (k := .i64) (n := i) (fun _ => ⟨by kernel_rfl⟩) (fun G w hs => ⟨_, (hb).isSl, by first | omega | (simp only [List.length_append, List.length_cons, List.length_nil, List.length_replicate, List.length_set, List.length_take, List.length_drop, List.length_map, List.length_reverse, List.length_range]; omega), by first | omega | (simp only [List.length_append, List.length_cons, List.length_nil, List.length_replicate, List.length_set, List.length_take, List.length_drop, List.length_map, List.length_reverse, List.length_range]; omega)⟩)
        · exact One.loadD (α := Int) (t := 3) (size := 1) (off := 0) (k := i) (l := fun G => b) (x := fun G => n4) (vs := fun G => [.int .i64 n4]) (v := fun G => bv) (H := fun G => H) (p := fun G => elemAddr bv (i.toNat * 1)) (fun G => ⟨by kernel_rfl⟩) rfl (fun G => by kernel_rfl) (fun G w hs => ⟨(hs.read 0 rfl), hb, (add_zero' _).symm, by omega, by first | omega | (simp only [List.length_append, List.length_cons, List.length_nil, List.length_replicate, List.length_set, List.length_take, List.length_drop, List.length_map, List.length_reverse, List.length_range]; omega), hn4⟩)
        · exact One.bo hp3 (fun _ _ => by kernel_rfl)
        intro G6 xa xw hDn
        refine hDn.to [0, 1, 5, 25] [] (by kernel_rfl) ?_
        clear hDn
        refine Pre.conv (sl := [(0, av), (1, bv), (5, .int .i64 i), (25, .bool p3)]) (A := [H]) (L := []) ?_ (by kernel_rfl) (by kernel_rfl) (by kernel_rfl)
        clear G6
        refine At.then ?_
        refine W.cond p3 (by kernel_rfl) (fun xa hs => cnd_of (t := 25) (by kernel_rfl) (by kernel_rfl) hs) (fun hq => ?_) (fun hq => ?_)
        · skip
          have hq4 := hq
          replace hq4 := (iN hp3 (iNT iDF)).1 hq4
          refine W.seq (by kernel_rfl) ?_
          refine W.regV (samei_ct_r19_6 av bv H i p3) [0] [] (fun G => [.bool false]) (by kernel_rfl) mo_rs (by kernel_rfl) (fun _ _ => by kernel_rfl) trivial (by kernel_rfl) ?_
          intro G7 xa xw hDn
          refine hDn.to [4] [] (by kernel_rfl) ?_
          clear hDn
          refine Pre.conv (sl := [(4, .bool false)]) (A := [H]) (L := []) ?_ (by kernel_rfl) (by kernel_rfl) (by kernel_rfl)
          clear G7
          refine At.then ?_
          refine W.ret (by kernel_rfl) ?_
          refine At.blockRet ?_
          refine At.thenRet ?_
          refine At.thenRet ?_
          refine At.blockRet ?_
          refine At.thenRet ?_
          refine At.results (Or.inl rfl) (.bool false) (fun xa xw hs hw => results_one (r := .tmp 4) (by kernel_rfl) (res_tmp (t := 4) (by kernel_rfl) hs)) (fun w' hw => ?_)
          have e0 : false = (decide (a = b)) := by
            exact Tm.same_no (k := i) hn3 hn4 hq4
          exact ⟨congrArg Ending.returned (cong1 (fun (x0 : Bool) => (.bool x0 : Value)) e0), hw.base⟩
        · skip
          have hq5 := hq
          replace hq5 := (iN hp3 (iNF iDT)).1 hq5
          refine W.skip (by kernel_rfl) ?_
          refine At.blockNormal ?_
          refine At.then ?_
          obtain ⟨n5, hn5⟩ : ∃ zz : Int, zz = i + 1 := ⟨_, rfl⟩
          refine W.regV (samei_ct_r19_7 av bv H i p3 n5) [0, 2] [1] (fun G => [.int .i64 i, .int .i64 n5]) (by kernel_rfl) mo_rs (by kernel_rfl) (fun _ _ => by kernel_rfl) ⟨?_, trivial⟩ (by kernel_rfl) ?_
          · exact One.ar hn5 (fun _ _ => by kernel_rfl) (fun G w hs => by omega)
          intro G8 xa xw hDn
          refine hDn.to [0, 1, 5] [] (by kernel_rfl) ?_
          clear hDn
          refine Pre.conv (sl := [(0, av), (1, bv), (5, .int .i64 n5)]) (A := [H]) (L := []) ?_ (by kernel_rfl) (by kernel_rfl) (by kernel_rfl)
          clear G8
          intro xa xw hs hw
          refine ⟨n5, ⟨hs.sub (by kernel_rfl), hw.mask [] (by kernel_rfl), ?_⟩, ?_⟩
          · skip
            refine ⟨?_, ?_, ?_⟩
            · show 0 ≤ n5
              first | omega | rfl | (simp; done) | (subst_vars; simp; done)
            · show n5 ≤ (a.length : Int)
              first | omega | rfl | (simp; done) | (subst_vars; simp; done)
            · show ∀ j, j < n5.toNat → a.getD j default = b.getD j default
              exact Tm.same_step hf3 (by omega) (by assumption) hn3 hn4 hq5
          · show ((a.length : Int) - n5).toNat < ((a.length : Int) - i).toNat
            omega
      · skip
        have hq6 := hq
        replace hq6 := (iN hp2 iDF).1 hq6
        refine W.exit 0 (by kernel_rfl) ?_
        refine At.thenExit ?_
        refine At.thenExit ?_
        refine At.blockHit ?_
        refine At.then ?_
        refine W.seq (by kernel_rfl) ?_
        refine W.regV (samei_ct_r19_8 av bv H i p2) [0] [] (fun G => [.bool true]) (by kernel_rfl) mo_rs (by kernel_rfl) (fun _ _ => by kernel_rfl) trivial (by kernel_rfl) ?_
        intro G9 xa xw hDn
        refine hDn.to [4] [] (by kernel_rfl) ?_
        clear hDn
        refine Pre.conv (sl := [(4, .bool true)]) (A := [H]) (L := []) ?_ (by kernel_rfl) (by kernel_rfl) (by kernel_rfl)
        clear G9
        refine At.then ?_
        refine W.ret (by kernel_rfl) ?_
        refine At.results (Or.inl rfl) (.bool true) (fun xa xw hs hw => results_one (r := .tmp 4) (by kernel_rfl) (res_tmp (t := 4) (by kernel_rfl) hs)) (fun w' hw => ?_)
        have e0 : true = (decide (a = b)) := by
          exact Tm.same_yes (k := i) hf3 (by omega) (by omega)
        exact ⟨congrArg Ending.returned (cong1 (fun (x0 : Bool) => (.bool x0 : Value)) e0), hw.base⟩

noncomputable def fews_ct_r15_0 (textsv : Value) (most : Int) (H : Heaplet) : RC := { ops := opsAt Try.f15 0, B := [0], sl := [(0, textsv), (1, .int .i64 most)], A := [H], L := [], cs := [{ val := fun _ => .bool false }] }
noncomputable def fews_ct_r15_1 (textsv : Value) (most : Int) (H : Heaplet) : RC := { ops := opsAt Try.f15 1, B := [0], sl := [(0, textsv), (1, .int .i64 most)], A := [H], L := [], cs := [{ val := fun _ => .int .i64 0 }] }
noncomputable def fews_ct_r15_2 (textsv : Value) (most : Int) (H : Heaplet) (i n1 : Int) (p1 p2 p3 : Bool) : RC := { ops := opsAt Try.f15 2, B := [0, 0, 2, 7, 15, 31, 31, 127, 255], sl := [(0, textsv), (1, .int .i64 most), (5, .int .i64 i)], A := [H], L := [], cs := [{ val := fun _ => .int .i64 i }, { val := fun _ => textsv }, { val := fun _ => .int .i64 n1 }, { val := fun _ => .bool p1 }, { val := fun _ => .bool p1 }, { val := fun _ => .int .i64 i }, { val := fun _ => .int .i64 most }, { val := fun _ => .bool p2 }, { val := fun _ => .bool p3 }] }
noncomputable def fews_ct_r15_3 (textsv : Value) (most : Int) (H : Heaplet) (i : Int) (p3 : Bool) (s1 : ByteArray) (n2 : Int) (p4 p5 p6 p7 p8 : Bool) : RC := { ops := opsAt Try.f15 4, B := [0, 0, 3, 7, 15, 31, 63, 127, 127, 511, 1023, 2047, 4095, 8191, 16383, 16383, 65535, 131071, 262143, 524287, 1048575, 2097151], sl := [(0, textsv), (1, .int .i64 most), (5, .int .i64 i), (14, .bool p3)], A := [H], L := [], cs := [{ val := fun _ => textsv }, { val := fun _ => .int .i64 i }, { val := fun _ => .pointer (some (elemAddr textsv (i.toNat * 1))) }, { val := fun _ => .string s1 }, { val := fun _ => .int .i64 n2 }, { val := fun _ => .bool p4 }, { val := fun _ => .bool p4 }, { val := fun _ => textsv }, { val := fun _ => .int .i64 i }, { val := fun _ => .pointer (some (elemAddr textsv (i.toNat * 1))) }, { val := fun _ => .string s1 }, { val := fun _ => .int .i64 n2 }, { val := fun _ => .bool p5 }, { val := fun _ => .bool p5 }, { val := fun _ => textsv }, { val := fun _ => .int .i64 i }, { val := fun _ => .pointer (some (elemAddr textsv (i.toNat * 1))) }, { val := fun _ => .string s1 }, { val := fun _ => .int .i64 n2 }, { val := fun _ => .bool p6 }, { val := fun _ => .bool p7 }, { val := fun _ => .bool p8 }] }
noncomputable def fews_ct_r15_4 (textsv : Value) (most : Int) (H : Heaplet) (i : Int) (p8 : Bool) : RC := { ops := opsAt Try.f15 5, B := [0], sl := [(0, textsv), (1, .int .i64 most), (5, .int .i64 i), (38, .bool p8)], A := [H], L := [], cs := [{ val := fun _ => .bool false }] }
noncomputable def fews_ct_r15_5 (textsv : Value) (most : Int) (H : Heaplet) (i : Int) (p8 : Bool) (n3 : Int) : RC := { ops := opsAt Try.f15 3, B := [0, 1, 3], sl := [(0, textsv), (1, .int .i64 most), (5, .int .i64 i), (38, .bool p8)], A := [H], L := [], cs := [{ val := fun _ => .int .i64 i }, { val := fun _ => .int .i64 n3 }, { val := fun _ => .int .i64 n3 }] }
noncomputable def fews_ct_r15_6 (textsv : Value) (most : Int) (H : Heaplet) (i n1 : Int) (p3 p9 : Bool) : RC := { ops := opsAt Try.f15 6, B := [0, 1, 0, 7, 15], sl := [(0, textsv), (1, .int .i64 most), (5, .int .i64 i), (14, .bool p3)], A := [H], L := [], cs := [{ val := fun _ => textsv }, { val := fun _ => .int .i64 n1 }, { val := fun _ => .int .i64 most }, { val := fun _ => .bool p9 }, { val := fun _ => .bool p9 }] }
set_option maxRecDepth 10000 in
theorem fews_ct (texts : List ByteArray) (textsv : Value) (most : Int) (w0 : World) (H : Heaplet) (hA : Agrees w0 H) (htexts : RSl H texts textsv) :
    Calls Try.prog 15 #[textsv, .int .i64 most] w0 (fun e w' => e = .returned (.bool ((decide (Tm.fewS texts most)))) ∧ Base [] w0 w') := by
  have hE : Ext w0 H H := Ext.refl w0 H
  have htextsn := htexts.lim
  refine calls_of_W (sl := [(0, textsv), (1, .int .i64 most)]) (A := [H]) (L := []) Try.func15 (by kernel_rfl) 43 (by kernel_rfl) (by kernel_rfl) (fun J hJ => by simp at hJ; subst hJ; exact hA) (by simp) ?_
  refine W.seq (by kernel_rfl) ?_
  refine W.regV (fews_ct_r15_0 textsv most H) [0] [] (fun G => [.bool false]) (by kernel_rfl) mo_rs (by kernel_rfl) (fun _ _ => by kernel_rfl) trivial (by kernel_rfl) ?_
  intro G1 xa xw hDn
  refine hDn.to [0, 1] [] (by kernel_rfl) ?_
  clear hDn
  refine Pre.conv (sl := [(0, textsv), (1, .int .i64 most)]) (A := [H]) (L := []) ?_ (by kernel_rfl) (by kernel_rfl) (by kernel_rfl)
  clear G1
  refine At.then ?_
  refine W.seq (by kernel_rfl) ?_
  refine W.seq (by kernel_rfl) ?_
  refine W.regV (fews_ct_r15_1 textsv most H) [0] [] (fun G => [.int .i64 0]) (by kernel_rfl) mo_rs (by kernel_rfl) (fun _ _ => by kernel_rfl) trivial (by kernel_rfl) ?_
  intro G2 xa xw hDn
  refine hDn.to [0, 1, 5] [] (by kernel_rfl) ?_
  clear hDn
  refine Pre.conv (sl := [(0, textsv), (1, .int .i64 most), (5, .int .i64 0)]) (A := [H]) (L := []) ?_ (by kernel_rfl) (by kernel_rfl) (by kernel_rfl)
  clear G2
  refine At.then ?_
  refine W.block 0 (by kernel_rfl) ?_
  refine W.loopS (γ := Int) (fun i => [(0, textsv), (1, .int .i64 most), (5, .int .i64 i)]) (fun i => [H]) (fun i => []) (fun i => (0 ≤ i) ∧ (∀ j, j < i.toNat → ¬ Tm.longT (texts.getD j default).size)) (fun i => ((texts.length : Int) - i).toNat) 0 (by kernel_rfl) ?_ ?_
  · intro xa xw hs hw
    refine ⟨hs.sub (by kernel_rfl), hw.mask [] (by kernel_rfl), ?_⟩
    refine ⟨?_, ?_⟩
    · show 0 ≤ (0 : Int)
      first | omega | rfl | (simp; done) | (subst_vars; simp; done)
    · show ∀ j, j < (0 : Int).toNat → ¬ Tm.longT (texts.getD j default).size
      intro j hj; simp at hj
  · rintro i hF
    have hF : (0 ≤ i) ∧ (∀ j, j < i.toNat → ¬ Tm.longT (texts.getD j default).size) := hF
    obtain ⟨hf1, hf2⟩ := hF
    show W Try.prog 43 w0 [] (Code.l (Code.l (Code.r (Code.l (Code.r (body Try.f15)))))) _ [(0, textsv), (1, .int .i64 most), (5, .int .i64 i)] [H] []
    refine W.seq (by kernel_rfl) ?_
    refine W.seq (by kernel_rfl) ?_
    obtain ⟨n1, hn1⟩ : ∃ zz : Int, zz = (texts.length : Int) := ⟨_, rfl⟩
    obtain ⟨p1, hp1⟩ : ∃ zz : Bool, zz = decide (i < n1) := ⟨_, rfl⟩
    obtain ⟨p2, hp2⟩ : ∃ zz : Bool, zz = decide (i ≤ most) := ⟨_, rfl⟩
    obtain ⟨p3, hp3⟩ : ∃ zz : Bool, zz = (p1 && p2) := ⟨_, rfl⟩
    refine W.regV (fews_ct_r15_2 textsv most H i n1 p1 p2 p3) [0, 1, 4, 5, 6] [2, 3, 7, 8] (fun G => [.int .i64 i, textsv, .bool p1, .int .i64 i, .int .i64 most]) (by kernel_rfl) mo_rs (by kernel_rfl) (fun _ _ => by kernel_rfl) ⟨?_, ?_, ?_, ?_, trivial⟩ (by kernel_rfl) ?_
    · exact One.len (t := 25) (n := n1) (v := fun G => textsv) (fun _ => ⟨by kernel_rfl⟩) (fun G w hs => ⟨_, (htexts).isSl, hn1⟩)
    · exact One.bo hp1 (fun _ _ => by kernel_rfl)
    · exact One.bo hp2 (fun _ _ => by kernel_rfl)
    · subst hp3
      cases p1 <;> exact One.under fun _ _ _ => by kernel_rfl
    intro G3 xa xw hDn
    refine hDn.to [0, 1, 5, 14] [] (by kernel_rfl) ?_
    clear hDn
    refine Pre.conv (sl := [(0, textsv), (1, .int .i64 most), (5, .int .i64 i), (14, .bool p3)]) (A := [H]) (L := []) ?_ (by kernel_rfl) (by kernel_rfl) (by kernel_rfl)
    clear G3
    refine At.then ?_
    refine W.cond p3 (by kernel_rfl) (fun xa hs => cnd_of (t := 14) (by kernel_rfl) (by kernel_rfl) hs) (fun hq => ?_) (fun hq => ?_)
    · skip
      have hq1 := hq
      replace hq1 := (iN hp3 (iAT (iN hp1 iDT) (iN hp2 iDT))).1 hq1
      refine W.skip (by kernel_rfl) ?_
      refine At.then ?_
      refine W.seq (by kernel_rfl) ?_
      refine W.block 1 (by kernel_rfl) ?_
      refine W.seq (by kernel_rfl) ?_
      obtain ⟨s1, hs1⟩ : ∃ zz : ByteArray, zz = texts.getD i.toNat default := ⟨_, rfl⟩
      obtain ⟨n2, hn2⟩ : ∃ zz : Int, zz = (s1.size : Int) := ⟨_, rfl⟩
      obtain ⟨p4, hp4⟩ : ∃ zz : Bool, zz = decide (100 < n2) := ⟨_, rfl⟩
      obtain ⟨p5, hp5⟩ : ∃ zz : Bool, zz = decide (n2 ≤ 8000) := ⟨_, rfl⟩
      obtain ⟨p6, hp6⟩ : ∃ zz : Bool, zz = decide (8100 < n2) := ⟨_, rfl⟩
      obtain ⟨p7, hp7⟩ : ∃ zz : Bool, zz = (p5 || p6) := ⟨_, rfl⟩
      obtain ⟨p8, hp8⟩ : ∃ zz : Bool, zz = (p4 && p7) := ⟨_, rfl⟩
      refine W.regV (fews_ct_r15_3 textsv most H i p3 s1 n2 p4 p5 p6 p7 p8) [0, 1, 6, 7, 8, 13, 14, 15] [2, 3, 4, 5, 9, 10, 11, 12, 16, 17, 18, 19, 20, 21] (fun G => [textsv, .int .i64 i, .bool p4, textsv, .int .i64 i, .bool p5, textsv, .int .i64 i]) (by kernel_rfl) mo_rs (by kernel_rfl) (fun _ _ => by kernel_rfl) ⟨?_, ?_, ?_, ?_, ?_, ?_, ?_, ?_, ?_, ?_, ?_, ?_, ?_, ?_, trivial⟩ (by kernel_rfl) ?_
      · exact One.index (t := 25) (e := 9) (size := 1) (v := fun G => textsv) (k := .i64) (n := i) (fun _ => ⟨by kernel_rfl⟩) (fun G w hs => ⟨_, (htexts).isSl, by first | omega | (simp only [List.length_append, List.length_cons, List.length_nil, List.length_replicate, List.length_set, List.length_take, List.length_drop, List.length_map, List.length_reverse, List.length_range]; omega), by first | omega | (simp only [List.length_append, List.length_cons, List.length_nil, List.length_replicate, List.length_set, List.length_take, List.length_drop, List.length_map, List.length_reverse, List.length_range]; omega)⟩)
      · exact One.loadD (α := ByteArray) (t := 9) (size := 1) (off := 0) (k := i) (l := fun G => texts) (x := fun G => s1) (vs := fun G => [.string s1]) (v := fun G => textsv) (H := fun G => H) (p := fun G => elemAddr textsv (i.toNat * 1)) (fun G => ⟨by kernel_rfl⟩) rfl (fun G => by kernel_rfl) (fun G w hs => ⟨(hs.read 0 rfl), htexts, (add_zero' _).symm, by omega, by first | omega | (simp only [List.length_append, List.length_cons, List.length_nil, List.length_replicate, List.length_set, List.length_take, List.length_drop, List.length_map, List.length_reverse, List.length_range]; omega), hs1⟩)
      · exact One.eq (congrArg (Value.int .i64) hn2.symm) (fun _ _ => by kernel_rfl)
      · exact One.bo hp4 (fun _ _ => by kernel_rfl)
      · exact One.index (t := 25) (e := 9) (size := 1) (v := fun G => textsv) (k := .i64) (n := i) (fun _ => ⟨by kernel_rfl⟩) (fun G w hs => by
          have hg := gd_of hs (p := (true && (p4 == true))) (by kernel_rfl)
          have hg0 := (iN hp4 iDT).1 (eqT (andR hg))
          exact ⟨_, (htexts).isSl, by first | omega | (simp only [List.length_append, List.length_cons, List.length_nil, List.length_replicate, List.length_set, List.length_take, List.length_drop, List.length_map, List.length_reverse, List.length_range]; omega), by first | omega | (simp only [List.length_append, List.length_cons, List.length_nil, List.length_replicate, List.length_set, List.length_take, List.length_drop, List.length_map, List.length_reverse, List.length_range]; omega)⟩)
      · exact One.loadD (α := ByteArray) (t := 9) (size := 1) (off := 0) (k := i) (l := fun G => texts) (x := fun G => s1) (vs := fun G => [.string s1]) (v := fun G => textsv) (H := fun G => H) (p := fun G => elemAddr textsv (i.toNat * 1)) (fun G => ⟨by kernel_rfl⟩) rfl (fun G => by kernel_rfl) (fun G w hs => by
          have hg := gd_of hs (p := (true && (p4 == true))) (by kernel_rfl)
          have hg0 := (iN hp4 iDT).1 (eqT (andR hg))
          exact ⟨(hs.read 0 rfl), htexts, (add_zero' _).symm, by omega, by first | omega | (simp only [List.length_append, List.length_cons, List.length_nil, List.length_replicate, List.length_set, List.length_take, List.length_drop, List.length_map, List.length_reverse, List.length_range]; omega), hs1⟩)
      · exact One.eq (congrArg (Value.int .i64) hn2.symm) (fun _ _ => by kernel_rfl)
      · exact One.bo hp5 (fun _ _ => by kernel_rfl)
      · exact One.index (t := 25) (e := 9) (size := 1) (v := fun G => textsv) (k := .i64) (n := i) (fun _ => ⟨by kernel_rfl⟩) (fun G w hs => by
          have hg := gd_of hs (p := ((true && (p4 == true)) && (p5 == false))) (by kernel_rfl)
          have hg0 := (iN hp5 iDF).1 (eqF (andR hg))
          have hg1 := (iN hp4 iDT).1 (eqT (andR (andL hg)))
          exact ⟨_, (htexts).isSl, by first | omega | (simp only [List.length_append, List.length_cons, List.length_nil, List.length_replicate, List.length_set, List.length_take, List.length_drop, List.length_map, List.length_reverse, List.length_range]; omega), by first | omega | (simp only [List.length_append, List.length_cons, List.length_nil, List.length_replicate, List.length_set, List.length_take, List.length_drop, List.length_map, List.length_reverse, List.length_range]; omega)⟩)
      · exact One.loadD (α := ByteArray) (t := 9) (size := 1) (off := 0) (k := i) (l := fun G => texts) (x := fun G => s1) (vs := fun G => [.string s1]) (v := fun G => textsv) (H := fun G => H) (p := fun G => elemAddr textsv (i.toNat * 1)) (fun G => ⟨by kernel_rfl⟩) rfl (fun G => by kernel_rfl) (fun G w hs => by
          have hg := gd_of hs (p := ((true && (p4 == true)) && (p5 == false))) (by kernel_rfl)
          have hg0 := (iN hp5 iDF).1 (eqF (andR hg))
          have hg1 := (iN hp4 iDT).1 (eqT (andR (andL hg)))
          exact ⟨(hs.read 0 rfl), htexts, (add_zero' _).symm, by omega, by first | omega | (simp only [List.length_append, List.length_cons, List.length_nil, List.length_replicate, List.length_set, List.length_take, List.length_drop, List.length_map, List.length_reverse, List.length_range]; omega), hs1⟩)
      · exact One.eq (congrArg (Value.int .i64) hn2.symm) (fun _ _ => by kernel_rfl)
      · exact One.bo hp6 (fun _ _ => by kernel_rfl)
      · subst hp7
        refine One.under fun G w hs => ?_
        revert hs
        cases p5
        · cases p4
          · intro hs; exact absurd hs.gd (by rw [show RC.gd _ _ 20 = false from by kernel_rfl]; decide)
          · intro _; kernel_rfl
        · cases p4
          · intro hs; exact absurd hs.gd (by rw [show RC.gd _ _ 20 = false from by kernel_rfl]; decide)
          · intro _; kernel_rfl
      · subst hp8
        cases p4 <;> exact One.under fun _ _ _ => by kernel_rfl
      intro G4 xa xw hDn
      refine hDn.to [0, 1, 5, 38] [] (by kernel_rfl) ?_
      clear hDn
      refine Pre.conv (sl := [(0, textsv), (1, .int .i64 most), (5, .int .i64 i), (38, .bool p8)]) (A := [H]) (L := []) ?_ (by kernel_rfl) (by kernel_rfl) (by kernel_rfl)
      clear G4
      refine At.then ?_
      refine W.cond p8 (by kernel_rfl) (fun xa hs => cnd_of (t := 38) (by kernel_rfl) (by kernel_rfl) hs) (fun hq => ?_) (fun hq => ?_)
      · skip
        have hq2 := hq
        replace hq2 := (iN hp8 (iAT (iN hp4 iDT) (iN hp7 (iOT (iN hp5 iDT) (iN hp6 iDT))))).1 hq2
        refine W.seq (by kernel_rfl) ?_
        refine W.regV (fews_ct_r15_4 textsv most H i p8) [0] [] (fun G => [.bool false]) (by kernel_rfl) mo_rs (by kernel_rfl) (fun _ _ => by kernel_rfl) trivial (by kernel_rfl) ?_
        intro G5 xa xw hDn
        refine hDn.to [4] [] (by kernel_rfl) ?_
        clear hDn
        refine Pre.conv (sl := [(4, .bool false)]) (A := [H]) (L := []) ?_ (by kernel_rfl) (by kernel_rfl) (by kernel_rfl)
        clear G5
        refine At.then ?_
        refine W.ret (by kernel_rfl) ?_
        refine At.blockRet ?_
        refine At.thenRet ?_
        refine At.thenRet ?_
        refine At.blockRet ?_
        refine At.thenRet ?_
        refine At.results (Or.inl rfl) (.bool false) (fun xa xw hs hw => results_one (r := .tmp 4) (by kernel_rfl) (res_tmp (t := 4) (by kernel_rfl) hs)) (fun w' hw => ?_)
        have e0 : false = (decide (Tm.fewS texts most)) := by
          exact Tm.fewS_no (k := i) (by omega) (by omega) (by omega) (by assumption) (by assumption) (by omega)
        exact ⟨congrArg Ending.returned (cong1 (fun (x0 : Bool) => (.bool x0 : Value)) e0), hw.base⟩
      · skip
        have hq3 := hq
        replace hq3 := (iN hp8 (iAF (iN hp4 iDF) (iN hp7 (iOF (iN hp5 iDF) (iN hp6 iDF))))).1 hq3
        refine W.skip (by kernel_rfl) ?_
        refine At.blockNormal ?_
        refine At.then ?_
        obtain ⟨n3, hn3⟩ : ∃ zz : Int, zz = i + 1 := ⟨_, rfl⟩
        refine W.regV (fews_ct_r15_5 textsv most H i p8 n3) [0, 2] [1] (fun G => [.int .i64 i, .int .i64 n3]) (by kernel_rfl) mo_rs (by kernel_rfl) (fun _ _ => by kernel_rfl) ⟨?_, trivial⟩ (by kernel_rfl) ?_
        · exact One.ar hn3 (fun _ _ => by kernel_rfl) (fun G w hs => by omega)
        intro G6 xa xw hDn
        refine hDn.to [0, 1, 5] [] (by kernel_rfl) ?_
        clear hDn
        refine Pre.conv (sl := [(0, textsv), (1, .int .i64 most), (5, .int .i64 n3)]) (A := [H]) (L := []) ?_ (by kernel_rfl) (by kernel_rfl) (by kernel_rfl)
        clear G6
        intro xa xw hs hw
        refine ⟨n3, ⟨hs.sub (by kernel_rfl), hw.mask [] (by kernel_rfl), ?_⟩, ?_⟩
        · skip
          refine ⟨?_, ?_⟩
          · show 0 ≤ n3
            omega
          · show ∀ j, j < n3.toNat → ¬ Tm.longT (texts.getD j default).size
            exact Tm.fewS_step hf2 (by omega) (by assumption) (by assumption) (by assumption) (by omega)
        · show ((texts.length : Int) - n3).toNat < ((texts.length : Int) - i).toNat
          omega
    · skip
      have hq4 := hq
      replace hq4 := (iN hp3 (iAF (iN hp1 iDF) (iN hp2 iDF))).1 hq4
      refine W.exit 0 (by kernel_rfl) ?_
      refine At.thenExit ?_
      refine At.thenExit ?_
      refine At.blockHit ?_
      refine At.then ?_
      refine W.seq (by kernel_rfl) ?_
      obtain ⟨p9, hp9⟩ : ∃ zz : Bool, zz = decide (n1 ≤ most) := ⟨_, rfl⟩
      refine W.regV (fews_ct_r15_6 textsv most H i n1 p3 p9) [0, 2, 4] [1, 3] (fun G => [textsv, .int .i64 most, .bool p9]) (by kernel_rfl) mo_rs (by kernel_rfl) (fun _ _ => by kernel_rfl) ⟨?_, ?_, trivial⟩ (by kernel_rfl) ?_
      · exact One.len (t := 25) (n := n1) (v := fun G => textsv) (fun _ => ⟨by kernel_rfl⟩) (fun G w hs => ⟨_, (htexts).isSl, hn1⟩)
      · exact One.bo hp9 (fun _ _ => by kernel_rfl)
      intro G7 xa xw hDn
      refine hDn.to [4] [] (by kernel_rfl) ?_
      clear hDn
      refine Pre.conv (sl := [(4, .bool p9)]) (A := [H]) (L := []) ?_ (by kernel_rfl) (by kernel_rfl) (by kernel_rfl)
      clear G7
      refine At.then ?_
      refine W.ret (by kernel_rfl) ?_
      refine At.results (Or.inl rfl) (.bool p9) (fun xa xw hs hw => results_one (r := .tmp 4) (by kernel_rfl) (res_tmp (t := 4) (by kernel_rfl) hs)) (fun w' hw => ?_)
      have e0 : p9 = (decide (Tm.fewS texts most)) := by
        exact Tm.fewS_end (k := i) (n := n1) hf2 (by omega) (by omega) (by assumption) (by assumption)
      exact ⟨congrArg Ending.returned (cong1 (fun (x0 : Bool) => (.bool x0 : Value)) e0), hw.base⟩

end Kb
