/- The contracts of the references: tree. -/
import Derived.Test.YtaolgnmpgnamnaaRa
set_option linter.unusedVariables false
set_option linter.unusedSimpArgs false
namespace Kb
open Go Go.Proofs
theorem mo_rb : Try.prog.follows .mixedOrders = true := by kernel_rfl
noncomputable def rwalks_ct_r55_0 (vv pathv : Value) (H : Heaplet) : RC := { ops := opsAt Try.f55 0, B := [0, 0], sl := [(0, .agg #[vv]), (1, pathv)], A := [H], L := [none, none], cs := [{ val := fun G => .pointer (some ⟨(G 0).b, 0, none⟩), ups := [(0, fun G => some ((G 0).b, .cells #[vv] 24 (0, 0)))] }, { val := fun _ => .bool false }] }
noncomputable def rwalks_ct_r55_1 (vv pathv : Value) (H : Heaplet) (b1 : Nat) (p1 : Bool) (n1 : Int) (p2 p3 : Bool) : RC := { ops := opsAt Try.f55 1, B := [0, 1, 3, 7, 15, 31, 63, 127], sl := [(1, pathv), (2, .pointer (some ⟨b1, 0, none⟩))], A := [H], L := [some (b1, .cells #[vv] 24 (0, 0)), none], cs := [{ val := fun _ => .agg #[vv], rds := [0] }, { val := fun _ => .bool p1 }, { val := fun _ => .bool (!p1) }, { val := fun _ => .bool (!p1) }, { val := fun _ => pathv }, { val := fun _ => .int .i64 n1 }, { val := fun _ => .bool p2 }, { val := fun _ => .bool p3 }] }
noncomputable def rwalks_ct_r55_2 (vv pathv : Value) (H : Heaplet) (b1 : Nat) (p3 : Bool) : RC := { ops := opsAt Try.f55 2, B := [0], sl := [(1, pathv), (2, .pointer (some ⟨b1, 0, none⟩)), (14, .bool p3)], A := [H], L := [some (b1, .cells #[vv] 24 (0, 0)), none], cs := [{ val := fun _ => .bool false }] }
noncomputable def rwalks_ct_r55_3 (vv pathv : Value) (H : Heaplet) (b1 : Nat) (p3 : Bool) : RC := { ops := opsAt Try.f55 3, B := [0], sl := [(1, pathv), (2, .pointer (some ⟨b1, 0, none⟩)), (14, .bool p3)], A := [H], L := [some (b1, .cells #[vv] 24 (0, 0)), none], cs := [{ val := fun _ => .int .i64 0 }] }
noncomputable def rwalks_ct_r55_4 (vv pathv : Value) (H : Heaplet) (b1 : Nat) (n1 i : Int) (p4 : Bool) : RC := { ops := opsAt Try.f55 4, B := [0, 0, 2, 7], sl := [(1, pathv), (2, .pointer (some ⟨b1, 0, none⟩)), (5, .int .i64 i)], A := [H], L := [some (b1, .cells #[vv] 24 (0, 0)), none], cs := [{ val := fun _ => .int .i64 i }, { val := fun _ => pathv }, { val := fun _ => .int .i64 n1 }, { val := fun _ => .bool p4 }] }
noncomputable def rwalks_ct_r55_5 (vv pathv : Value) (H : Heaplet) (b1 : Nat) (i : Int) (p4 : Bool) (n2 : Int) (p5 : Bool) : RC := { ops := opsAt Try.f55 6, B := [0, 0, 0, 6, 14, 31, 63], sl := [(1, pathv), (2, .pointer (some ⟨b1, 0, none⟩)), (5, .int .i64 i), (18, .bool p4)], A := [H], L := [some (b1, .cells #[vv] 24 (0, 0)), none], cs := [{ val := fun _ => .agg #[vv], rds := [0] }, { val := fun _ => pathv }, { val := fun _ => .int .i64 i }, { val := fun _ => .pointer (some (elemAddr pathv (i.toNat * 1))) }, { val := fun _ => .int .i64 n2 }, { val := fun _ => .bool p5 }, { val := fun _ => .bool (!p5) }] }
noncomputable def rwalks_ct_r55_6 (vv pathv : Value) (H : Heaplet) (b1 : Nat) (i : Int) (p5 : Bool) : RC := { ops := opsAt Try.f55 7, B := [0], sl := [(1, pathv), (2, .pointer (some ⟨b1, 0, none⟩)), (5, .int .i64 i), (27, .bool (!p5))], A := [H], L := [some (b1, .cells #[vv] 24 (0, 0)), none], cs := [{ val := fun _ => .bool false }] }
noncomputable def rwalks_ct_r55_7 (vv pathv : Value) (H : Heaplet) (b1 : Nat) (i : Int) (p5 p6 : Bool) : RC := { ops := opsAt Try.f55 8, B := [0, 1], sl := [(1, pathv), (2, .pointer (some ⟨b1, 0, none⟩)), (5, .int .i64 i), (27, .bool (!p5))], A := [H], L := [some (b1, .cells #[vv] 24 (0, 0)), none], cs := [{ val := fun _ => .int .i64 i }, { val := fun _ => .bool p6 }] }
noncomputable def rwalks_ct_r55_8 (vv pathv : Value) (H : Heaplet) (b1 : Nat) (i : Int) (p6 : Bool) (n3 n4 : Int) (x1 : DThing) : RC := { ops := opsAt Try.f55 9, B := [0, 1, 0, 0, 8, 28, 60, 127, 255, 0, 1023], sl := [(1, pathv), (2, .pointer (some ⟨b1, 0, none⟩)), (5, .int .i64 i), (29, .bool p6)], A := [H], L := [some (b1, .cells #[vv] 24 (0, 0)), none], cs := [{ val := fun _ => .pointer (some ⟨b1, 0, none⟩) }, { val := fun _ => vv, rds := [0] }, { val := fun _ => pathv }, { val := fun _ => .int .i64 i }, { val := fun _ => .int .i64 n3 }, { val := fun _ => .pointer (some (elemAddr pathv (n3.toNat * 1))) }, { val := fun _ => .int .i64 n4 }, { val := fun _ => .pointer (some (elemAddr vv (n4.toNat * 5))) }, { val := fun _ => .agg #[.string x1.Text, .int .i64 x1.Value, .int .i64 x1.Blind, .int .i64 x1.Left, .int .i64 x1.Right] }, { val := fun G => .pointer (some ⟨(G 9).b, 0, none⟩), ups := [(1, fun G => some ((G 9).b, .cells #[.string ByteArray.empty, .int .i64 0, .int .i64 0, .int .i64 0, .int .i64 0] 44 (0, 0)))] }, { val := fun _ => undef, ups := [(1, fun G => some ((G 9).b, .cells #[.string x1.Text, .int .i64 x1.Value, .int .i64 x1.Blind, .int .i64 x1.Left, .int .i64 x1.Right] 44 (0, 0)))] }] }
noncomputable def rwalks_ct_r55_9 (vv pathv : Value) (H : Heaplet) (b1 : Nat) (i n2 : Int) (x1 : DThing) (b2 : Nat) (p7 p8 p9 : Bool) : RC := { ops := opsAt Try.f55 10, B := [0, 1, 0, 0, 12, 28, 63, 127, 255, 511, 255, 255, 3327, 7423, 16383, 32767], sl := [(1, pathv), (2, .pointer (some ⟨b1, 0, none⟩)), (5, .int .i64 i), (6, .pointer (some ⟨b2, 0, none⟩))], A := [H], L := [some (b1, .cells #[vv] 24 (0, 0)), some (b2, .cells #[.string x1.Text, .int .i64 x1.Value, .int .i64 x1.Blind, .int .i64 x1.Left, .int .i64 x1.Right] 44 (0, 0))], cs := [{ val := fun _ => .pointer (some ⟨b2, 3, none⟩) }, { val := fun _ => .int .i64 x1.Left, rds := [1] }, { val := fun _ => pathv }, { val := fun _ => .int .i64 i }, { val := fun _ => .pointer (some (elemAddr pathv (i.toNat * 1))) }, { val := fun _ => .int .i64 n2 }, { val := fun _ => .bool p7 }, { val := fun _ => .bool p7 }, { val := fun _ => .pointer (some ⟨b2, 4, none⟩) }, { val := fun _ => .int .i64 x1.Right, rds := [1] }, { val := fun _ => pathv }, { val := fun _ => .int .i64 i }, { val := fun _ => .pointer (some (elemAddr pathv (i.toNat * 1))) }, { val := fun _ => .int .i64 n2 }, { val := fun _ => .bool p8 }, { val := fun _ => .bool p9 }] }
noncomputable def rwalks_ct_r55_10 (vv pathv : Value) (H : Heaplet) (b1 : Nat) (i : Int) (x1 : DThing) (b2 : Nat) (p9 : Bool) : RC := { ops := opsAt Try.f55 11, B := [0], sl := [(1, pathv), (2, .pointer (some ⟨b1, 0, none⟩)), (5, .int .i64 i), (54, .bool p9)], A := [H], L := [some (b1, .cells #[vv] 24 (0, 0)), some (b2, .cells #[.string x1.Text, .int .i64 x1.Value, .int .i64 x1.Blind, .int .i64 x1.Left, .int .i64 x1.Right] 44 (0, 0))], cs := [{ val := fun _ => .bool false }] }
noncomputable def rwalks_ct_r55_11 (vv pathv : Value) (H : Heaplet) (b1 : Nat) (i : Int) (x1 : DThing) (b2 : Nat) (p9 : Bool) (n5 : Int) : RC := { ops := opsAt Try.f55 5, B := [0, 1, 3], sl := [(1, pathv), (2, .pointer (some ⟨b1, 0, none⟩)), (5, .int .i64 i), (54, .bool p9)], A := [H], L := [some (b1, .cells #[vv] 24 (0, 0)), some (b2, .cells #[.string x1.Text, .int .i64 x1.Value, .int .i64 x1.Blind, .int .i64 x1.Left, .int .i64 x1.Right] 44 (0, 0))], cs := [{ val := fun _ => .int .i64 i }, { val := fun _ => .int .i64 n5 }, { val := fun _ => .int .i64 n5 }] }
noncomputable def rwalks_ct_r55_12 (vv pathv : Value) (H : Heaplet) (b1 : Nat) (i : Int) (p6 : Bool) (n6 : Int) : RC := { ops := opsAt Try.f55 5, B := [0, 1, 3], sl := [(1, pathv), (2, .pointer (some ⟨b1, 0, none⟩)), (5, .int .i64 i), (29, .bool p6)], A := [H], L := [some (b1, .cells #[vv] 24 (0, 0)), none], cs := [{ val := fun _ => .int .i64 i }, { val := fun _ => .int .i64 n6 }, { val := fun _ => .int .i64 n6 }] }
noncomputable def rwalks_ct_r55_13 (vv pathv : Value) (H : Heaplet) (b1 : Nat) (i : Int) (p4 : Bool) : RC := { ops := opsAt Try.f55 12, B := [0], sl := [(1, pathv), (2, .pointer (some ⟨b1, 0, none⟩)), (5, .int .i64 i), (18, .bool p4)], A := [H], L := [some (b1, .cells #[vv] 24 (0, 0)), none], cs := [{ val := fun _ => .bool true }] }
set_option maxRecDepth 10000 in
theorem rwalks_ct (v : List DThing) (vv : Value) (path : List Int) (pathv : Value) (w0 : World) (H : Heaplet) (hA : Agrees w0 H) (hv : RSl H v vv) (hpath : RSl H path pathv) :
    Calls Try.prog 55 #[.agg #[vv], pathv] w0 (fun e w' => e = .returned (.bool ((decide (Tm.Walks v path)))) ∧ Base [] w0 w') := by
  have hE : Ext w0 H H := Ext.refl w0 H
  have hvn := hv.lim
  have hpathn := hpath.lim
  refine calls_of_W (sl := [(0, .agg #[vv]), (1, pathv)]) (A := [H]) (L := [none, none]) Try.func55 (by kernel_rfl) 55 (by kernel_rfl) (by kernel_rfl) (fun J hJ => by simp at hJ; subst hJ; exact hA) (by simp) ?_
  refine W.seq (by kernel_rfl) ?_
  refine W.regV (rwalks_ct_r55_0 vv pathv H) [1] [0] (fun G => [.bool false]) (by kernel_rfl) mo_rb (by kernel_rfl) (fun _ _ => by kernel_rfl) ⟨?_, trivial⟩ (by kernel_rfl) ?_
  · exact One.new (r := 0) (T := 24) (fun b => .pointer (some ⟨b, 0, none⟩)) (arr := fun G => #[vv]) (fun G w => by kernel_rfl) (fun G b => by kernel_rfl)
  intro G1 xa xw hDn
  refine hDn.to [1, 2] [] (by kernel_rfl) ?_
  clear hDn
  refine Pre.conv (sl := [(1, pathv), (2, .pointer (some ⟨(G1 0).b, 0, none⟩))]) (A := [H]) (L := [some ((G1 0).b, .cells #[vv] 24 (0, 0)), none]) ?_ (by kernel_rfl) (by kernel_rfl) (by kernel_rfl)
  generalize (G1 0).b = b1 at ⊢
  clear G1
  refine At.then ?_
  refine W.seq (by kernel_rfl) ?_
  refine W.seq (by kernel_rfl) ?_
  obtain ⟨p1, hp1⟩ : ∃ zz : Bool, zz = (decide (Tm.Sound v)) := ⟨_, rfl⟩
  obtain ⟨n1, hn1⟩ : ∃ zz : Int, zz = (path.length : Int) := ⟨_, rfl⟩
  obtain ⟨p2, hp2⟩ : ∃ zz : Bool, zz = decide (n1 = 0) := ⟨_, rfl⟩
  obtain ⟨p3, hp3⟩ : ∃ zz : Bool, zz = (!p1 || p2) := ⟨_, rfl⟩
  refine W.regV (rwalks_ct_r55_1 vv pathv H b1 p1 n1 p2 p3) [2, 3, 4] [0, 1, 5, 6, 7] (fun G => [.bool (!p1), .bool (!p1), pathv]) (by kernel_rfl) mo_rb (by kernel_rfl) (fun _ _ => by kernel_rfl) ⟨?_, ?_, ?_, ?_, ?_, trivial⟩ (by kernel_rfl) ?_
  · exact One.loadE (t := 24) (r := 0) (off := 0) (b := fun G => b1) (vs := fun G => [vv]) (arr := fun G => #[vv]) (T := 24) (fr := (0, 0)) (fun G => ⟨by kernel_rfl⟩) (fun G => by kernel_rfl)
  · exact One.callP (v := fun G => .bool p1) (f := 47) (args := fun G => #[.agg #[vv]]) (fun _ _ => by kernel_rfl) (fun G w hs => by
      rw [hp1]
      exact rsound_ct v vv w H (hs.read 0 rfl) (hv) )
  · exact One.len (t := 26) (n := n1) (v := fun G => pathv) (fun _ => ⟨by kernel_rfl⟩) (fun G w hs => by
      have hg := gd_of hs (p := (true && ((!p1) == false))) (by kernel_rfl)
      have hg0 := (iNF (iN hp1 iDT)).1 (eqF (andR hg))
      exact ⟨_, (hpath).isSl, hn1⟩)
  · exact One.bo hp2 (fun _ _ => by kernel_rfl)
  · subst hp3
    cases p1 <;> exact One.under fun _ _ _ => by kernel_rfl
  intro G2 xa xw hDn
  refine hDn.to [1, 2, 14] [] (by kernel_rfl) ?_
  clear hDn
  refine Pre.conv (sl := [(1, pathv), (2, .pointer (some ⟨b1, 0, none⟩)), (14, .bool p3)]) (A := [H]) (L := [some (b1, .cells #[vv] 24 (0, 0)), none]) ?_ (by kernel_rfl) (by kernel_rfl) (by kernel_rfl)
  clear G2
  refine At.then ?_
  refine W.cond p3 (by kernel_rfl) (fun xa hs => cnd_of (t := 14) (by kernel_rfl) (by kernel_rfl) hs) (fun hq => ?_) (fun hq => ?_)
  · skip
    have hq1 := hq
    replace hq1 := (iN hp3 (iOT (iNT (iN hp1 iDF)) (iN hp2 iDT))).1 hq1
    refine W.seq (by kernel_rfl) ?_
    refine W.regV (rwalks_ct_r55_2 vv pathv H b1 p3) [0] [] (fun G => [.bool false]) (by kernel_rfl) mo_rb (by kernel_rfl) (fun _ _ => by kernel_rfl) trivial (by kernel_rfl) ?_
    intro G3 xa xw hDn
    refine hDn.to [4] [] (by kernel_rfl) ?_
    clear hDn
    refine Pre.conv (sl := [(4, .bool false)]) (A := [H]) (L := [some (b1, .cells #[vv] 24 (0, 0)), none]) ?_ (by kernel_rfl) (by kernel_rfl) (by kernel_rfl)
    clear G3
    refine At.then ?_
    refine W.ret (by kernel_rfl) ?_
    refine At.thenRet ?_
    refine At.results (Or.inl rfl) (.bool false) (fun xa xw hs hw => results_one (r := .tmp 4) (by kernel_rfl) (res_tmp (t := 4) (by kernel_rfl) hs)) (fun w' hw => ?_)
    have e0 : false = (decide (Tm.Walks v path)) := by
      symm; rw [decide_eq_false_iff_not]; rintro ⟨h1, h2, _⟩; rcases hq1 with h | h
      · exact h h1
      · omega
    exact ⟨congrArg Ending.returned (cong1 (fun (x0 : Bool) => (.bool x0 : Value)) e0), hw.base⟩
  · skip
    have hq2 := hq
    replace hq2 := (iN hp3 (iOF (iNF (iN hp1 iDT)) (iN hp2 iDF))).1 hq2
    refine W.skip (by kernel_rfl) ?_
    refine At.then ?_
    refine W.seq (by kernel_rfl) ?_
    refine W.seq (by kernel_rfl) ?_
    refine W.regV (rwalks_ct_r55_3 vv pathv H b1 p3) [0] [] (fun G => [.int .i64 0]) (by kernel_rfl) mo_rb (by kernel_rfl) (fun _ _ => by kernel_rfl) trivial (by kernel_rfl) ?_
    intro G4 xa xw hDn
    refine hDn.to [1, 2, 5] [] (by kernel_rfl) ?_
    clear hDn
    refine Pre.conv (sl := [(1, pathv), (2, .pointer (some ⟨b1, 0, none⟩)), (5, .int .i64 0)]) (A := [H]) (L := [some (b1, .cells #[vv] 24 (0, 0)), none]) ?_ (by kernel_rfl) (by kernel_rfl) (by kernel_rfl)
    clear G4
    refine At.then ?_
    refine W.block 0 (by kernel_rfl) ?_
    refine W.loopS (γ := Int) (fun i => [(1, pathv), (2, .pointer (some ⟨b1, 0, none⟩)), (5, .int .i64 i)]) (fun i => [H]) (fun i => [some (b1, .cells #[vv] 24 (0, 0)), none]) (fun i => (0 ≤ i) ∧ (i ≤ (path.length : Int)) ∧ (Tm.walksTo v path i.toNat)) (fun i => ((path.length : Int) - i).toNat) 0 (by kernel_rfl) ?_ ?_
    · intro xa xw hs hw
      refine ⟨hs.sub (by kernel_rfl), hw.mask [true, false] (by kernel_rfl), ?_⟩
      refine ⟨?_, ?_, ?_⟩
      · show 0 ≤ (0 : Int)
        first | omega | rfl | (simp; done) | (subst_vars; simp; done)
      · show (0 : Int) ≤ (path.length : Int)
        first | omega | rfl | (simp; done) | (subst_vars; simp; done)
      · show Tm.walksTo v path (0 : Int).toNat
        intro j hj; simp at hj
    · rintro i hF
      have hF : (0 ≤ i) ∧ (i ≤ (path.length : Int)) ∧ (Tm.walksTo v path i.toNat) := hF
      obtain ⟨hf1, hf2, hf3⟩ := hF
      show W Try.prog 55 w0 [] (Code.l (Code.l (Code.r (Code.l (Code.r (Code.r (body Try.f55))))))) _ [(1, pathv), (2, .pointer (some ⟨b1, 0, none⟩)), (5, .int .i64 i)] [H] [some (b1, .cells #[vv] 24 (0, 0)), none]
      refine W.seq (by kernel_rfl) ?_
      refine W.seq (by kernel_rfl) ?_
      obtain ⟨p4, hp4⟩ : ∃ zz : Bool, zz = decide (i < n1) := ⟨_, rfl⟩
      refine W.regV (rwalks_ct_r55_4 vv pathv H b1 n1 i p4) [0, 1] [2, 3] (fun G => [.int .i64 i, pathv]) (by kernel_rfl) mo_rb (by kernel_rfl) (fun _ _ => by kernel_rfl) ⟨?_, ?_, trivial⟩ (by kernel_rfl) ?_
      · exact One.len (t := 26) (n := n1) (v := fun G => pathv) (fun _ => ⟨by kernel_rfl⟩) (fun G w hs => ⟨_, (hpath).isSl, hn1⟩)
      · exact One.bo hp4 (fun _ _ => by kernel_rfl)
      intro G5 xa xw hDn
      refine hDn.to [1, 2, 5, 18] [] (by kernel_rfl) ?_
      clear hDn
      refine Pre.conv (sl := [(1, pathv), (2, .pointer (some ⟨b1, 0, none⟩)), (5, .int .i64 i), (18, .bool p4)]) (A := [H]) (L := [some (b1, .cells #[vv] 24 (0, 0)), none]) ?_ (by kernel_rfl) (by kernel_rfl) (by kernel_rfl)
      clear G5
      refine At.then ?_
      refine W.cond p4 (by kernel_rfl) (fun xa hs => cnd_of (t := 18) (by kernel_rfl) (by kernel_rfl) hs) (fun hq => ?_) (fun hq => ?_)
      · skip
        have hq3 := hq
        replace hq3 := (iN hp4 iDT).1 hq3
        refine W.skip (by kernel_rfl) ?_
        refine At.then ?_
        refine W.seq (by kernel_rfl) ?_
        refine W.block 1 (by kernel_rfl) ?_
        refine W.seq (by kernel_rfl) ?_
        refine W.seq (by kernel_rfl) ?_
        obtain ⟨n2, hn2⟩ : ∃ zz : Int, zz = path.getD i.toNat default := ⟨_, rfl⟩
        obtain ⟨p5, hp5⟩ : ∃ zz : Bool, zz = (decide (0 ≤ n2 ∧ n2 < (v.length : Int))) := ⟨_, rfl⟩
        refine W.regV (rwalks_ct_r55_5 vv pathv H b1 i p4 n2 p5) [1, 2, 6] [0, 3, 4, 5] (fun G => [pathv, .int .i64 i, .bool (!p5)]) (by kernel_rfl) mo_rb (by kernel_rfl) (fun _ _ => by kernel_rfl) ⟨?_, ?_, ?_, ?_, trivial⟩ (by kernel_rfl) ?_
        · exact One.loadE (t := 24) (r := 0) (off := 0) (b := fun G => b1) (vs := fun G => [vv]) (arr := fun G => #[vv]) (T := 24) (fr := (0, 0)) (fun G => ⟨by kernel_rfl⟩) (fun G => by kernel_rfl)
        · exact One.index (t := 26) (e := 3) (size := 1) (v := fun G => pathv) (k := .i64) (n := i) (fun _ => ⟨by kernel_rfl⟩) (fun G w hs => ⟨_, (hpath).isSl, by first | omega | (simp only [List.length_append, List.length_cons, List.length_nil, List.length_replicate, List.length_set, List.length_take, List.length_drop, List.length_map, List.length_reverse, List.length_range]; omega), by first | omega | (simp only [List.length_append, List.length_cons, List.length_nil, List.length_replicate, List.length_set, List.length_take, List.length_drop, List.length_map, List.length_reverse, List.length_range]; omega)⟩)
        · exact One.loadD (α := Int) (t := 3) (size := 1) (off := 0) (k := i) (l := fun G => path) (x := fun G => n2) (vs := fun G => [.int .i64 n2]) (v := fun G => pathv) (H := fun G => H) (p := fun G => elemAddr pathv (i.toNat * 1)) (fun G => ⟨by kernel_rfl⟩) rfl (fun G => by kernel_rfl) (fun G w hs => ⟨(hs.read 0 rfl), hpath, (add_zero' _).symm, by omega, by first | omega | (simp only [List.length_append, List.length_cons, List.length_nil, List.length_replicate, List.length_set, List.length_take, List.length_drop, List.length_map, List.length_reverse, List.length_range]; omega), hn2⟩)
        · exact One.callP (v := fun G => .bool p5) (f := 52) (args := fun G => #[.agg #[vv], .int .i64 n2]) (fun _ _ => by kernel_rfl) (fun G w hs => by
            rw [hp5]
            exact rin36_ct v vv n2 w H (hs.read 0 rfl) (hv) )
        intro G6 xa xw hDn
        refine hDn.to [1, 2, 5, 27] [] (by kernel_rfl) ?_
        clear hDn
        refine Pre.conv (sl := [(1, pathv), (2, .pointer (some ⟨b1, 0, none⟩)), (5, .int .i64 i), (27, .bool (!p5))]) (A := [H]) (L := [some (b1, .cells #[vv] 24 (0, 0)), none]) ?_ (by kernel_rfl) (by kernel_rfl) (by kernel_rfl)
        clear G6
        refine At.then ?_
        refine W.cond (!p5) (by kernel_rfl) (fun xa hs => cnd_of (t := 27) (by kernel_rfl) (by kernel_rfl) hs) (fun hq => ?_) (fun hq => ?_)
        · skip
          have hq4 := hq
          replace hq4 := (iNT (iN hp5 iDF)).1 hq4
          refine W.seq (by kernel_rfl) ?_
          refine W.regV (rwalks_ct_r55_6 vv pathv H b1 i p5) [0] [] (fun G => [.bool false]) (by kernel_rfl) mo_rb (by kernel_rfl) (fun _ _ => by kernel_rfl) trivial (by kernel_rfl) ?_
          intro G7 xa xw hDn
          refine hDn.to [4] [] (by kernel_rfl) ?_
          clear hDn
          refine Pre.conv (sl := [(4, .bool false)]) (A := [H]) (L := [some (b1, .cells #[vv] 24 (0, 0)), none]) ?_ (by kernel_rfl) (by kernel_rfl) (by kernel_rfl)
          clear G7
          refine At.then ?_
          refine W.ret (by kernel_rfl) ?_
          refine At.thenRet ?_
          refine At.blockRet ?_
          refine At.thenRet ?_
          refine At.thenRet ?_
          refine At.blockRet ?_
          refine At.thenRet ?_
          refine At.results (Or.inl rfl) (.bool false) (fun xa xw hs hw => results_one (r := .tmp 4) (by kernel_rfl) (res_tmp (t := 4) (by kernel_rfl) hs)) (fun w' hw => ?_)
          have e0 : false = (decide (Tm.Walks v path)) := by
            exact Tm.walks_no_has (k := i) (by omega) (by omega) (by assumption) hq4
          exact ⟨congrArg Ending.returned (cong1 (fun (x0 : Bool) => (.bool x0 : Value)) e0), hw.base⟩
        · skip
          have hq5 := hq
          replace hq5 := (iNF (iN hp5 iDT)).1 hq5
          refine W.skip (by kernel_rfl) ?_
          refine At.then ?_
          refine W.seq (by kernel_rfl) ?_
          obtain ⟨p6, hp6⟩ : ∃ zz : Bool, zz = decide (0 < i) := ⟨_, rfl⟩
          refine W.regV (rwalks_ct_r55_7 vv pathv H b1 i p5 p6) [0] [1] (fun G => [.int .i64 i]) (by kernel_rfl) mo_rb (by kernel_rfl) (fun _ _ => by kernel_rfl) ⟨?_, trivial⟩ (by kernel_rfl) ?_
          · exact One.bo hp6 (fun _ _ => by kernel_rfl)
          intro G8 xa xw hDn
          refine hDn.to [1, 2, 5, 29] [] (by kernel_rfl) ?_
          clear hDn
          refine Pre.conv (sl := [(1, pathv), (2, .pointer (some ⟨b1, 0, none⟩)), (5, .int .i64 i), (29, .bool p6)]) (A := [H]) (L := [some (b1, .cells #[vv] 24 (0, 0)), none]) ?_ (by kernel_rfl) (by kernel_rfl) (by kernel_rfl)
          clear G8
          refine At.then ?_
          refine W.cond p6 (by kernel_rfl) (fun xa hs => cnd_of (t := 29) (by kernel_rfl) (by kernel_rfl) hs) (fun hq => ?_) (fun hq => ?_)
          · skip
            have hq6 := hq
            replace hq6 := (iN hp6 iDT).1 hq6
            refine W.seq (by kernel_rfl) ?_
            obtain ⟨n3, hn3⟩ : ∃ zz : Int, zz = i - 1 := ⟨_, rfl⟩
            obtain ⟨n4, hn4⟩ : ∃ zz : Int, zz = path.getD n3.toNat default := ⟨_, rfl⟩
            obtain ⟨x1, hx1⟩ : ∃ zz : DThing, zz = v.getD n4.toNat default := ⟨_, rfl⟩
            have hpv := Tm.walks_prev (k := i) (by assumption) (by omega) (by assumption) (by assumption)
            refine W.regV (rwalks_ct_r55_8 vv pathv H b1 i p6 n3 n4 x1) [0, 2, 3] [1, 4, 5, 6, 7, 8, 9, 10] (fun G => [.pointer (some ⟨b1, 0, none⟩), pathv, .int .i64 i]) (by kernel_rfl) mo_rb (by kernel_rfl) (fun _ _ => by kernel_rfl) ⟨?_, ?_, ?_, ?_, ?_, ?_, ?_, ?_, trivial⟩ (by kernel_rfl) ?_
            · exact One.loadE (t := 22) (r := 0) (off := 0) (b := fun G => b1) (vs := fun G => [vv]) (arr := fun G => #[vv]) (T := 24) (fr := (0, 0)) (fun G => ⟨by kernel_rfl⟩) (fun G => by kernel_rfl)
            · exact One.ar hn3 (fun _ _ => by kernel_rfl) (fun G w hs => by omega)
            · exact One.index (t := 26) (e := 3) (size := 1) (v := fun G => pathv) (k := .i64) (n := n3) (fun _ => ⟨by kernel_rfl⟩) (fun G w hs => ⟨_, (hpath).isSl, by first | omega | (simp only [List.length_append, List.length_cons, List.length_nil, List.length_replicate, List.length_set, List.length_take, List.length_drop, List.length_map, List.length_reverse, List.length_range]; omega), by first | omega | (simp only [List.length_append, List.length_cons, List.length_nil, List.length_replicate, List.length_set, List.length_take, List.length_drop, List.length_map, List.length_reverse, List.length_range]; omega)⟩)
            · exact One.loadD (α := Int) (t := 3) (size := 1) (off := 0) (k := n3) (l := fun G => path) (x := fun G => n4) (vs := fun G => [.int .i64 n4]) (v := fun G => pathv) (H := fun G => H) (p := fun G => elemAddr pathv (n3.toNat * 1)) (fun G => ⟨by kernel_rfl⟩) rfl (fun G => by kernel_rfl) (fun G w hs => ⟨(hs.read 0 rfl), hpath, (add_zero' _).symm, by omega, by first | omega | (simp only [List.length_append, List.length_cons, List.length_nil, List.length_replicate, List.length_set, List.length_take, List.length_drop, List.length_map, List.length_reverse, List.length_range]; omega), hn4⟩)
            · exact One.index (t := 22) (e := 44) (size := 5) (v := fun G => vv) (k := .i64) (n := n4) (fun _ => ⟨by kernel_rfl⟩) (fun G w hs => ⟨_, (hv).isSl, by first | omega | (simp only [List.length_append, List.length_cons, List.length_nil, List.length_replicate, List.length_set, List.length_take, List.length_drop, List.length_map, List.length_reverse, List.length_range]; omega), by first | omega | (simp only [List.length_append, List.length_cons, List.length_nil, List.length_replicate, List.length_set, List.length_take, List.length_drop, List.length_map, List.length_reverse, List.length_range]; omega)⟩)
            · exact One.loadD (α := DThing) (t := 44) (size := 5) (off := 0) (k := n4) (l := fun G => v) (x := fun G => x1) (vs := fun G => [.string x1.Text, .int .i64 x1.Value, .int .i64 x1.Blind, .int .i64 x1.Left, .int .i64 x1.Right]) (v := fun G => vv) (H := fun G => H) (p := fun G => elemAddr vv (n4.toNat * 5)) (fun G => ⟨by kernel_rfl⟩) rfl (fun G => by kernel_rfl) (fun G w hs => ⟨(hs.read 0 rfl), hv, (add_zero' _).symm, by omega, by first | omega | (simp only [List.length_append, List.length_cons, List.length_nil, List.length_replicate, List.length_set, List.length_take, List.length_drop, List.length_map, List.length_reverse, List.length_range]; omega), hx1⟩)
            · exact One.new (r := 1) (T := 44) (fun b => .pointer (some ⟨b, 0, none⟩)) (arr := fun G => #[.string ByteArray.empty, .int .i64 0, .int .i64 0, .int .i64 0, .int .i64 0]) (fun G w => by kernel_rfl) (fun G b => by kernel_rfl)
            · exact One.store (t := 44) (r := 1) (off := 0) (T := 44) (b := fun G => (G 9).b) (u := fun G => .agg #[.string x1.Text, .int .i64 x1.Value, .int .i64 x1.Blind, .int .i64 x1.Left, .int .i64 x1.Right]) (vs := fun G => [.string x1.Text, .int .i64 x1.Value, .int .i64 x1.Blind, .int .i64 x1.Left, .int .i64 x1.Right]) (arr := fun G => #[.string ByteArray.empty, .int .i64 0, .int .i64 0, .int .i64 0, .int .i64 0]) (fun G => ⟨by kernel_rfl⟩) (fun G => by kernel_rfl)
            intro G9 xa xw hDn
            refine hDn.to [1, 2, 5, 6] [] (by kernel_rfl) ?_
            clear hDn
            refine Pre.conv (sl := [(1, pathv), (2, .pointer (some ⟨b1, 0, none⟩)), (5, .int .i64 i), (6, .pointer (some ⟨(G9 9).b, 0, none⟩))]) (A := [H]) (L := [some (b1, .cells #[vv] 24 (0, 0)), some ((G9 9).b, .cells #[.string x1.Text, .int .i64 x1.Value, .int .i64 x1.Blind, .int .i64 x1.Left, .int .i64 x1.Right] 44 (0, 0))]) ?_ (by kernel_rfl) (by kernel_rfl) (by kernel_rfl)
            generalize (G9 9).b = b2 at ⊢
            clear G9
            refine At.then ?_
            refine W.seq (by kernel_rfl) ?_
            obtain ⟨p7, hp7⟩ : ∃ zz : Bool, zz = !(decide (x1.Left = n2)) := ⟨_, rfl⟩
            obtain ⟨p8, hp8⟩ : ∃ zz : Bool, zz = !(decide (x1.Right = n2)) := ⟨_, rfl⟩
            obtain ⟨p9, hp9⟩ : ∃ zz : Bool, zz = (p7 && p8) := ⟨_, rfl⟩
            refine W.regV (rwalks_ct_r55_9 vv pathv H b1 i n2 x1 b2 p7 p8 p9) [0, 2, 3, 7, 8, 10, 11] [1, 4, 5, 6, 9, 12, 13, 14, 15] (fun G => [.pointer (some ⟨b2, 3, none⟩), pathv, .int .i64 i, .bool p7, .pointer (some ⟨b2, 4, none⟩), pathv, .int .i64 i]) (by kernel_rfl) mo_rb (by kernel_rfl) (fun _ _ => by kernel_rfl) ⟨?_, ?_, ?_, ?_, ?_, ?_, ?_, ?_, ?_, trivial⟩ (by kernel_rfl) ?_
            · exact One.loadE (t := 3) (r := 1) (off := 3) (b := fun G => b2) (vs := fun G => [.int .i64 x1.Left]) (arr := fun G => #[.string x1.Text, .int .i64 x1.Value, .int .i64 x1.Blind, .int .i64 x1.Left, .int .i64 x1.Right]) (T := 44) (fr := (0, 0)) (fun G => ⟨by kernel_rfl⟩) (fun G => by kernel_rfl)
            · exact One.index (t := 26) (e := 3) (size := 1) (v := fun G => pathv) (k := .i64) (n := i) (fun _ => ⟨by kernel_rfl⟩) (fun G w hs => ⟨_, (hpath).isSl, by first | omega | (simp only [List.length_append, List.length_cons, List.length_nil, List.length_replicate, List.length_set, List.length_take, List.length_drop, List.length_map, List.length_reverse, List.length_range]; omega), by first | omega | (simp only [List.length_append, List.length_cons, List.length_nil, List.length_replicate, List.length_set, List.length_take, List.length_drop, List.length_map, List.length_reverse, List.length_range]; omega)⟩)
            · exact One.loadD (α := Int) (t := 3) (size := 1) (off := 0) (k := i) (l := fun G => path) (x := fun G => n2) (vs := fun G => [.int .i64 n2]) (v := fun G => pathv) (H := fun G => H) (p := fun G => elemAddr pathv (i.toNat * 1)) (fun G => ⟨by kernel_rfl⟩) rfl (fun G => by kernel_rfl) (fun G w hs => ⟨(hs.read 0 rfl), hpath, (add_zero' _).symm, by omega, by first | omega | (simp only [List.length_append, List.length_cons, List.length_nil, List.length_replicate, List.length_set, List.length_take, List.length_drop, List.length_map, List.length_reverse, List.length_range]; omega), hn2⟩)
            · exact One.bo hp7 (fun _ _ => by kernel_rfl)
            · exact One.loadE (t := 3) (r := 1) (off := 4) (b := fun G => b2) (vs := fun G => [.int .i64 x1.Right]) (arr := fun G => #[.string x1.Text, .int .i64 x1.Value, .int .i64 x1.Blind, .int .i64 x1.Left, .int .i64 x1.Right]) (T := 44) (fr := (0, 0)) (fun G => ⟨by kernel_rfl⟩) (fun G => by kernel_rfl)
            · exact One.index (t := 26) (e := 3) (size := 1) (v := fun G => pathv) (k := .i64) (n := i) (fun _ => ⟨by kernel_rfl⟩) (fun G w hs => by
                have hg := gd_of hs (p := (true && (p7 == true))) (by kernel_rfl)
                have hg0 := (iN hp7 (iNT iDF)).1 (eqT (andR hg))
                exact ⟨_, (hpath).isSl, by first | omega | (simp only [List.length_append, List.length_cons, List.length_nil, List.length_replicate, List.length_set, List.length_take, List.length_drop, List.length_map, List.length_reverse, List.length_range]; omega), by first | omega | (simp only [List.length_append, List.length_cons, List.length_nil, List.length_replicate, List.length_set, List.length_take, List.length_drop, List.length_map, List.length_reverse, List.length_range]; omega)⟩)
            · exact One.loadD (α := Int) (t := 3) (size := 1) (off := 0) (k := i) (l := fun G => path) (x := fun G => n2) (vs := fun G => [.int .i64 n2]) (v := fun G => pathv) (H := fun G => H) (p := fun G => elemAddr pathv (i.toNat * 1)) (fun G => ⟨by kernel_rfl⟩) rfl (fun G => by kernel_rfl) (fun G w hs => by
                have hg := gd_of hs (p := (true && (p7 == true))) (by kernel_rfl)
                have hg0 := (iN hp7 (iNT iDF)).1 (eqT (andR hg))
                exact ⟨(hs.read 0 rfl), hpath, (add_zero' _).symm, by omega, by first | omega | (simp only [List.length_append, List.length_cons, List.length_nil, List.length_replicate, List.length_set, List.length_take, List.length_drop, List.length_map, List.length_reverse, List.length_range]; omega), hn2⟩)
            · exact One.bo hp8 (fun _ _ => by kernel_rfl)
            · subst hp9
              cases p7 <;> exact One.under fun _ _ _ => by kernel_rfl
            intro G10 xa xw hDn
            refine hDn.to [1, 2, 5, 54] [] (by kernel_rfl) ?_
            clear hDn
            refine Pre.conv (sl := [(1, pathv), (2, .pointer (some ⟨b1, 0, none⟩)), (5, .int .i64 i), (54, .bool p9)]) (A := [H]) (L := [some (b1, .cells #[vv] 24 (0, 0)), some (b2, .cells #[.string x1.Text, .int .i64 x1.Value, .int .i64 x1.Blind, .int .i64 x1.Left, .int .i64 x1.Right] 44 (0, 0))]) ?_ (by kernel_rfl) (by kernel_rfl) (by kernel_rfl)
            clear G10
            refine At.then ?_
            refine W.cond p9 (by kernel_rfl) (fun xa hs => cnd_of (t := 54) (by kernel_rfl) (by kernel_rfl) hs) (fun hq => ?_) (fun hq => ?_)
            · skip
              have hq7 := hq
              replace hq7 := (iN hp9 (iAT (iN hp7 (iNT iDF)) (iN hp8 (iNT iDF)))).1 hq7
              refine W.seq (by kernel_rfl) ?_
              refine W.regV (rwalks_ct_r55_10 vv pathv H b1 i x1 b2 p9) [0] [] (fun G => [.bool false]) (by kernel_rfl) mo_rb (by kernel_rfl) (fun _ _ => by kernel_rfl) trivial (by kernel_rfl) ?_
              intro G11 xa xw hDn
              refine hDn.to [4] [] (by kernel_rfl) ?_
              clear hDn
              refine Pre.conv (sl := [(4, .bool false)]) (A := [H]) (L := [some (b1, .cells #[vv] 24 (0, 0)), some (b2, .cells #[.string x1.Text, .int .i64 x1.Value, .int .i64 x1.Blind, .int .i64 x1.Left, .int .i64 x1.Right] 44 (0, 0))]) ?_ (by kernel_rfl) (by kernel_rfl) (by kernel_rfl)
              clear G11
              refine At.then ?_
              refine W.ret (by kernel_rfl) ?_
              refine At.blockRet ?_
              refine At.thenRet ?_
              refine At.thenRet ?_
              refine At.blockRet ?_
              refine At.thenRet ?_
              refine At.results (Or.inl rfl) (.bool false) (fun xa xw hs hw => results_one (r := .tmp 4) (by kernel_rfl) (res_tmp (t := 4) (by kernel_rfl) hs)) (fun w' hw => ?_)
              have e0 : false = (decide (Tm.Walks v path)) := by
                exact Tm.walks_no_step (k := i) (by omega) (by omega) (by assumption) (by assumption) (by assumption) (by assumption) hq7
              exact ⟨congrArg Ending.returned (cong1 (fun (x0 : Bool) => (.bool x0 : Value)) e0), hw.base⟩
            · skip
              have hq8 := hq
              replace hq8 := (iN hp9 (iAF (iN hp7 (iNF iDT)) (iN hp8 (iNF iDT)))).1 hq8
              refine W.skip (by kernel_rfl) ?_
              refine At.blockNormal ?_
              refine At.then ?_
              obtain ⟨n5, hn5⟩ : ∃ zz : Int, zz = i + 1 := ⟨_, rfl⟩
              refine W.regV (rwalks_ct_r55_11 vv pathv H b1 i x1 b2 p9 n5) [0, 2] [1] (fun G => [.int .i64 i, .int .i64 n5]) (by kernel_rfl) mo_rb (by kernel_rfl) (fun _ _ => by kernel_rfl) ⟨?_, trivial⟩ (by kernel_rfl) ?_
              · exact One.ar hn5 (fun _ _ => by kernel_rfl) (fun G w hs => by omega)
              intro G12 xa xw hDn
              refine hDn.to [1, 2, 5] [] (by kernel_rfl) ?_
              clear hDn
              refine Pre.conv (sl := [(1, pathv), (2, .pointer (some ⟨b1, 0, none⟩)), (5, .int .i64 n5)]) (A := [H]) (L := [some (b1, .cells #[vv] 24 (0, 0)), some (b2, .cells #[.string x1.Text, .int .i64 x1.Value, .int .i64 x1.Blind, .int .i64 x1.Left, .int .i64 x1.Right] 44 (0, 0))]) ?_ (by kernel_rfl) (by kernel_rfl) (by kernel_rfl)
              clear G12
              intro xa xw hs hw
              refine ⟨n5, ⟨hs.sub (by kernel_rfl), hw.mask [true, false] (by kernel_rfl), ?_⟩, ?_⟩
              · skip
                refine ⟨?_, ?_, ?_⟩
                · show 0 ≤ n5
                  first | omega | rfl | (simp; done) | (subst_vars; simp; done)
                · show n5 ≤ (path.length : Int)
                  first | omega | rfl | (simp; done) | (subst_vars; simp; done)
                · show Tm.walksTo v path n5.toNat
                  refine Tm.walks_step (by assumption) (by assumption) (by assumption) (by assumption) (by assumption) ?_
                  intro h; exact ⟨_, _, _, by assumption, by assumption, by assumption, by omega⟩
              · show ((path.length : Int) - n5).toNat < ((path.length : Int) - i).toNat
                omega
          · skip
            have hq9 := hq
            replace hq9 := (iN hp6 iDF).1 hq9
            refine W.skip (by kernel_rfl) ?_
            refine At.blockNormal ?_
            refine At.then ?_
            obtain ⟨n6, hn6⟩ : ∃ zz : Int, zz = i + 1 := ⟨_, rfl⟩
            refine W.regV (rwalks_ct_r55_12 vv pathv H b1 i p6 n6) [0, 2] [1] (fun G => [.int .i64 i, .int .i64 n6]) (by kernel_rfl) mo_rb (by kernel_rfl) (fun _ _ => by kernel_rfl) ⟨?_, trivial⟩ (by kernel_rfl) ?_
            · exact One.ar hn6 (fun _ _ => by kernel_rfl) (fun G w hs => by omega)
            intro G13 xa xw hDn
            refine hDn.to [1, 2, 5] [] (by kernel_rfl) ?_
            clear hDn
            refine Pre.conv (sl := [(1, pathv), (2, .pointer (some ⟨b1, 0, none⟩)), (5, .int .i64 n6)]) (A := [H]) (L := [some (b1, .cells #[vv] 24 (0, 0)), none]) ?_ (by kernel_rfl) (by kernel_rfl) (by kernel_rfl)
            clear G13
            intro xa xw hs hw
            refine ⟨n6, ⟨hs.sub (by kernel_rfl), hw.mask [true, false] (by kernel_rfl), ?_⟩, ?_⟩
            · skip
              refine ⟨?_, ?_, ?_⟩
              · show 0 ≤ n6
                first | omega | rfl | (simp; done) | (subst_vars; simp; done)
              · show n6 ≤ (path.length : Int)
                first | omega | rfl | (simp; done) | (subst_vars; simp; done)
              · show Tm.walksTo v path n6.toNat
                refine Tm.walks_step (by assumption) (by assumption) (by assumption) (by assumption) (by assumption) ?_
                intro h; omega
            · show ((path.length : Int) - n6).toNat < ((path.length : Int) - i).toNat
              omega
      · skip
        have hq10 := hq
        replace hq10 := (iN hp4 iDF).1 hq10
        refine W.exit 0 (by kernel_rfl) ?_
        refine At.thenExit ?_
        refine At.thenExit ?_
        refine At.blockHit ?_
        refine At.then ?_
        refine W.seq (by kernel_rfl) ?_
        refine W.regV (rwalks_ct_r55_13 vv pathv H b1 i p4) [0] [] (fun G => [.bool true]) (by kernel_rfl) mo_rb (by kernel_rfl) (fun _ _ => by kernel_rfl) trivial (by kernel_rfl) ?_
        intro G14 xa xw hDn
        refine hDn.to [4] [] (by kernel_rfl) ?_
        clear hDn
        refine Pre.conv (sl := [(4, .bool true)]) (A := [H]) (L := [some (b1, .cells #[vv] 24 (0, 0)), none]) ?_ (by kernel_rfl) (by kernel_rfl) (by kernel_rfl)
        clear G14
        refine At.then ?_
        refine W.ret (by kernel_rfl) ?_
        refine At.results (Or.inl rfl) (.bool true) (fun xa xw hs hw => results_one (r := .tmp 4) (by kernel_rfl) (res_tmp (t := 4) (by kernel_rfl) hs)) (fun w' hw => ?_)
        have e0 : true = (decide (Tm.Walks v path)) := by
          symm; rw [decide_eq_true_iff]
          refine ⟨by rcases hq2 with ⟨h, _⟩; first | exact h | exact Decidable.not_not.1 h, by omega, ?_⟩
          rwa [show path.length = i.toNat by omega]
        exact ⟨congrArg Ending.returned (cong1 (fun (x0 : Bool) => (.bool x0 : Value)) e0), hw.base⟩

noncomputable def rcheck_ct_r25_0 (vv pathv : Value) (total blind : Int) (text : ByteArray) (value own : Int) (H : Heaplet) : RC := { ops := opsAt Try.f25 0, B := [0, 0], sl := [(0, .agg #[vv]), (1, pathv), (2, .int .i64 total), (3, .int .i64 blind), (4, .string text), (5, .int .i64 value), (6, .int .i64 own)], A := [H], L := [none, none], cs := [{ val := fun G => .pointer (some ⟨(G 0).b, 0, none⟩), ups := [(0, fun G => some ((G 0).b, .cells #[vv] 24 (0, 0)))] }, { val := fun _ => .bool false }] }
noncomputable def rcheck_ct_r25_1 (vv pathv : Value) (total blind : Int) (text : ByteArray) (value own : Int) (H : Heaplet) (b1 : Nat) (p1 : Bool) : RC := { ops := opsAt Try.f25 1, B := [0, 0, 3, 7], sl := [(1, pathv), (2, .int .i64 total), (3, .int .i64 blind), (4, .string text), (5, .int .i64 value), (6, .int .i64 own), (7, .pointer (some ⟨b1, 0, none⟩))], A := [H], L := [some (b1, .cells #[vv] 24 (0, 0)), none], cs := [{ val := fun _ => .agg #[vv], rds := [0] }, { val := fun _ => pathv }, { val := fun _ => .bool p1 }, { val := fun _ => .bool (!p1) }] }
noncomputable def rcheck_ct_r25_2 (vv pathv : Value) (total blind : Int) (text : ByteArray) (value own : Int) (H : Heaplet) (b1 : Nat) (p1 : Bool) : RC := { ops := opsAt Try.f25 2, B := [0], sl := [(1, pathv), (2, .int .i64 total), (3, .int .i64 blind), (4, .string text), (5, .int .i64 value), (6, .int .i64 own), (7, .pointer (some ⟨b1, 0, none⟩)), (20, .bool (!p1))], A := [H], L := [some (b1, .cells #[vv] 24 (0, 0)), none], cs := [{ val := fun _ => .bool false }] }
noncomputable def rcheck_ct_r25_3 (vv pathv : Value) (total blind : Int) (text : ByteArray) (value own : Int) (H : Heaplet) (b1 : Nat) (p1 : Bool) (n1 : Int) (x1 : DThing) : RC := { ops := opsAt Try.f25 3, B := [0, 1, 0, 4, 12, 31, 63, 0, 255], sl := [(1, pathv), (2, .int .i64 total), (3, .int .i64 blind), (4, .string text), (5, .int .i64 value), (6, .int .i64 own), (7, .pointer (some ⟨b1, 0, none⟩)), (20, .bool (!p1))], A := [H], L := [some (b1, .cells #[vv] 24 (0, 0)), none], cs := [{ val := fun _ => .pointer (some ⟨b1, 0, none⟩) }, { val := fun _ => vv, rds := [0] }, { val := fun _ => pathv }, { val := fun _ => .pointer (some (elemAddr pathv ((0 : Int).toNat * 1))) }, { val := fun _ => .int .i64 n1 }, { val := fun _ => .pointer (some (elemAddr vv (n1.toNat * 5))) }, { val := fun _ => .agg #[.string x1.Text, .int .i64 x1.Value, .int .i64 x1.Blind, .int .i64 x1.Left, .int .i64 x1.Right] }, { val := fun G => .pointer (some ⟨(G 7).b, 0, none⟩), ups := [(1, fun G => some ((G 7).b, .cells #[.string ByteArray.empty, .int .i64 0, .int .i64 0, .int .i64 0, .int .i64 0] 44 (0, 0)))] }, { val := fun _ => undef, ups := [(1, fun G => some ((G 7).b, .cells #[.string x1.Text, .int .i64 x1.Value, .int .i64 x1.Blind, .int .i64 x1.Left, .int .i64 x1.Right] 44 (0, 0)))] }] }
noncomputable def rcheck_ct_r25_4 (vv pathv : Value) (total blind : Int) (text : ByteArray) (value own : Int) (H : Heaplet) (b1 : Nat) (x1 : DThing) (b2 : Nat) (n2 n3 n4 : Int) : RC := { ops := opsAt Try.f25 4, B := [0, 0, 2, 6, 15, 31, 63], sl := [(1, pathv), (2, .int .i64 total), (3, .int .i64 blind), (4, .string text), (5, .int .i64 value), (6, .int .i64 own), (7, .pointer (some ⟨b1, 0, none⟩)), (15, .pointer (some ⟨b2, 0, none⟩))], A := [H], L := [some (b1, .cells #[vv] 24 (0, 0)), some (b2, .cells #[.string x1.Text, .int .i64 x1.Value, .int .i64 x1.Blind, .int .i64 x1.Left, .int .i64 x1.Right] 44 (0, 0))], cs := [{ val := fun _ => pathv }, { val := fun _ => pathv }, { val := fun _ => .int .i64 n2 }, { val := fun _ => .int .i64 n3 }, { val := fun _ => .pointer (some (elemAddr pathv (n3.toNat * 1))) }, { val := fun _ => .int .i64 n4 }, { val := fun _ => .int .i64 n4 }] }
noncomputable def rcheck_ct_r25_5 (vv : Value) (total blind : Int) (text : ByteArray) (value own : Int) (H : Heaplet) (b1 : Nat) (x1 : DThing) (b2 : Nat) (n4 : Int) (p2 p3 p4 : Bool) (x2 : DThing) (p5 p6 p7 p8 : Bool) : RC := { ops := opsAt Try.f25 5, B := [0, 1, 0, 7, 15, 31, 63, 31, 255, 511, 1023, 2047, 4095, 2047, 16383, 32767, 65535, 131071, 262143, 524287, 524287, 524287, 524287, 524287, 16777215, 33554431, 67108863], sl := [(2, .int .i64 total), (3, .int .i64 blind), (4, .string text), (5, .int .i64 value), (6, .int .i64 own), (7, .pointer (some ⟨b1, 0, none⟩)), (15, .pointer (some ⟨b2, 0, none⟩)), (16, .int .i64 n4)], A := [H], L := [some (b1, .cells #[vv] 24 (0, 0)), some (b2, .cells #[.string x1.Text, .int .i64 x1.Value, .int .i64 x1.Blind, .int .i64 x1.Left, .int .i64 x1.Right] 44 (0, 0))], cs := [{ val := fun _ => .pointer (some ⟨b2, 1, none⟩) }, { val := fun _ => .int .i64 x1.Value, rds := [1] }, { val := fun _ => .int .i64 total }, { val := fun _ => .bool p2 }, { val := fun _ => .bool p2 }, { val := fun _ => .pointer (some ⟨b2, 2, none⟩) }, { val := fun _ => .int .i64 x1.Blind, rds := [1] }, { val := fun _ => .int .i64 blind }, { val := fun _ => .bool p3 }, { val := fun _ => .bool p4 }, { val := fun _ => .bool p4 }, { val := fun _ => .pointer (some ⟨b1, 0, none⟩) }, { val := fun _ => vv, rds := [0] }, { val := fun _ => .int .i64 n4 }, { val := fun _ => .pointer (some (elemAddr vv (n4.toNat * 5))) }, { val := fun _ => .agg #[.string x2.Text, .int .i64 x2.Value, .int .i64 x2.Blind, .int .i64 x2.Left, .int .i64 x2.Right] }, { val := fun _ => .bool p5 }, { val := fun _ => .bool p6 }, { val := fun _ => .bool p6 }, { val := fun _ => .agg #[vv], rds := [0] }, { val := fun _ => .int .i64 n4 }, { val := fun _ => .string text }, { val := fun _ => .int .i64 value }, { val := fun _ => .int .i64 own }, { val := fun _ => .bool p7 }, { val := fun _ => .bool p8 }, { val := fun _ => .bool p8 }] }
set_option maxRecDepth 10000 in
theorem rcheck_ct (v : List DThing) (vv : Value) (path : List Int) (pathv : Value) (total blind : Int) (text : ByteArray) (value own : Int) (w0 : World) (H : Heaplet) (hA : Agrees w0 H) (hv : RSl H v vv) (hpath : RSl H path pathv) :
    Calls Try.prog 25 #[.agg #[vv], pathv, .int .i64 total, .int .i64 blind, .string text, .int .i64 value, .int .i64 own] w0 (fun e w' => e = .returned (.bool ((decide (Tm.checkP v path total blind text value own)))) ∧ Base [] w0 w') := by
  have hE : Ext w0 H H := Ext.refl w0 H
  have hvn := hv.lim
  have hpathn := hpath.lim
  refine calls_of_W (sl := [(0, .agg #[vv]), (1, pathv), (2, .int .i64 total), (3, .int .i64 blind), (4, .string text), (5, .int .i64 value), (6, .int .i64 own)]) (A := [H]) (L := [none, none]) Try.func25 (by kernel_rfl) 60 (by kernel_rfl) (by kernel_rfl) (fun J hJ => by simp at hJ; subst hJ; exact hA) (by simp) ?_
  refine W.seq (by kernel_rfl) ?_
  refine W.regV (rcheck_ct_r25_0 vv pathv total blind text value own H) [1] [0] (fun G => [.bool false]) (by kernel_rfl) mo_rb (by kernel_rfl) (fun _ _ => by kernel_rfl) ⟨?_, trivial⟩ (by kernel_rfl) ?_
  · exact One.new (r := 0) (T := 24) (fun b => .pointer (some ⟨b, 0, none⟩)) (arr := fun G => #[vv]) (fun G w => by kernel_rfl) (fun G b => by kernel_rfl)
  intro G1 xa xw hDn
  refine hDn.to [1, 2, 3, 4, 5, 6, 7] [] (by kernel_rfl) ?_
  clear hDn
  refine Pre.conv (sl := [(1, pathv), (2, .int .i64 total), (3, .int .i64 blind), (4, .string text), (5, .int .i64 value), (6, .int .i64 own), (7, .pointer (some ⟨(G1 0).b, 0, none⟩))]) (A := [H]) (L := [some ((G1 0).b, .cells #[vv] 24 (0, 0)), none]) ?_ (by kernel_rfl) (by kernel_rfl) (by kernel_rfl)
  generalize (G1 0).b = b1 at ⊢
  clear G1
  refine At.then ?_
  refine W.seq (by kernel_rfl) ?_
  refine W.seq (by kernel_rfl) ?_
  obtain ⟨p1, hp1⟩ : ∃ zz : Bool, zz = (decide (Tm.Walks v path)) := ⟨_, rfl⟩
  refine W.regV (rcheck_ct_r25_1 vv pathv total blind text value own H b1 p1) [1, 3] [0, 2] (fun G => [pathv, .bool (!p1)]) (by kernel_rfl) mo_rb (by kernel_rfl) (fun _ _ => by kernel_rfl) ⟨?_, ?_, trivial⟩ (by kernel_rfl) ?_
  · exact One.loadE (t := 24) (r := 0) (off := 0) (b := fun G => b1) (vs := fun G => [vv]) (arr := fun G => #[vv]) (T := 24) (fr := (0, 0)) (fun G => ⟨by kernel_rfl⟩) (fun G => by kernel_rfl)
  · exact One.callP (v := fun G => .bool p1) (f := 55) (args := fun G => #[.agg #[vv], pathv]) (fun _ _ => by kernel_rfl) (fun G w hs => by
      rw [hp1]
      exact rwalks_ct v vv path pathv w H (hs.read 0 rfl) (hv) (hpath) )
  intro G2 xa xw hDn
  refine hDn.to [1, 2, 3, 4, 5, 6, 7, 20] [] (by kernel_rfl) ?_
  clear hDn
  refine Pre.conv (sl := [(1, pathv), (2, .int .i64 total), (3, .int .i64 blind), (4, .string text), (5, .int .i64 value), (6, .int .i64 own), (7, .pointer (some ⟨b1, 0, none⟩)), (20, .bool (!p1))]) (A := [H]) (L := [some (b1, .cells #[vv] 24 (0, 0)), none]) ?_ (by kernel_rfl) (by kernel_rfl) (by kernel_rfl)
  clear G2
  refine At.then ?_
  refine W.cond (!p1) (by kernel_rfl) (fun xa hs => cnd_of (t := 20) (by kernel_rfl) (by kernel_rfl) hs) (fun hq => ?_) (fun hq => ?_)
  · skip
    have hq1 := hq
    replace hq1 := (iNT (iN hp1 iDF)).1 hq1
    refine W.seq (by kernel_rfl) ?_
    refine W.regV (rcheck_ct_r25_2 vv pathv total blind text value own H b1 p1) [0] [] (fun G => [.bool false]) (by kernel_rfl) mo_rb (by kernel_rfl) (fun _ _ => by kernel_rfl) trivial (by kernel_rfl) ?_
    intro G3 xa xw hDn
    refine hDn.to [14] [] (by kernel_rfl) ?_
    clear hDn
    refine Pre.conv (sl := [(14, .bool false)]) (A := [H]) (L := [some (b1, .cells #[vv] 24 (0, 0)), none]) ?_ (by kernel_rfl) (by kernel_rfl) (by kernel_rfl)
    clear G3
    refine At.then ?_
    refine W.ret (by kernel_rfl) ?_
    refine At.thenRet ?_
    refine At.results (Or.inl rfl) (.bool false) (fun xa xw hs hw => results_one (r := .tmp 14) (by kernel_rfl) (res_tmp (t := 14) (by kernel_rfl) hs)) (fun w' hw => ?_)
    have e0 : false = (decide (Tm.checkP v path total blind text value own)) := by
      symm; rw [decide_eq_false_iff_not]; rintro ⟨h, _⟩; exact hq1 h
    exact ⟨congrArg Ending.returned (cong1 (fun (x0 : Bool) => (.bool x0 : Value)) e0), hw.base⟩
  · skip
    have hq2 := hq
    replace hq2 := (iNF (iN hp1 iDT)).1 hq2
    refine W.skip (by kernel_rfl) ?_
    refine At.then ?_
    refine W.seq (by kernel_rfl) ?_
    have hW := hq2
    have hne := hW.2.1
    obtain ⟨n1, hn1⟩ : ∃ zz : Int, zz = path.getD (0 : Int).toNat default := ⟨_, rfl⟩
    obtain ⟨x1, hx1⟩ : ∃ zz : DThing, zz = v.getD n1.toNat default := ⟨_, rfl⟩
    have hh0 := Tm.walks_has hW (k := (0 : Int)) (by omega) (by omega) (by assumption)
    refine W.regV (rcheck_ct_r25_3 vv pathv total blind text value own H b1 p1 n1 x1) [0, 2] [1, 3, 4, 5, 6, 7, 8] (fun G => [.pointer (some ⟨b1, 0, none⟩), pathv]) (by kernel_rfl) mo_rb (by kernel_rfl) (fun _ _ => by kernel_rfl) ⟨?_, ?_, ?_, ?_, ?_, ?_, ?_, trivial⟩ (by kernel_rfl) ?_
    · exact One.loadE (t := 22) (r := 0) (off := 0) (b := fun G => b1) (vs := fun G => [vv]) (arr := fun G => #[vv]) (T := 24) (fr := (0, 0)) (fun G => ⟨by kernel_rfl⟩) (fun G => by kernel_rfl)
    · exact One.index (t := 26) (e := 3) (size := 1) (v := fun G => pathv) (k := .i64) (n := 0) (fun _ => ⟨by kernel_rfl⟩) (fun G w hs => ⟨_, (hpath).isSl, by first | omega | (simp only [List.length_append, List.length_cons, List.length_nil, List.length_replicate, List.length_set, List.length_take, List.length_drop, List.length_map, List.length_reverse, List.length_range]; omega), by first | omega | (simp only [List.length_append, List.length_cons, List.length_nil, List.length_replicate, List.length_set, List.length_take, List.length_drop, List.length_map, List.length_reverse, List.length_range]; omega)⟩)
    · exact One.loadD (α := Int) (t := 3) (size := 1) (off := 0) (k := 0) (l := fun G => path) (x := fun G => n1) (vs := fun G => [.int .i64 n1]) (v := fun G => pathv) (H := fun G => H) (p := fun G => elemAddr pathv ((0 : Int).toNat * 1)) (fun G => ⟨by kernel_rfl⟩) rfl (fun G => by kernel_rfl) (fun G w hs => ⟨(hs.read 0 rfl), hpath, (add_zero' _).symm, by omega, by first | omega | (simp only [List.length_append, List.length_cons, List.length_nil, List.length_replicate, List.length_set, List.length_take, List.length_drop, List.length_map, List.length_reverse, List.length_range]; omega), hn1⟩)
    · exact One.index (t := 22) (e := 44) (size := 5) (v := fun G => vv) (k := .i64) (n := n1) (fun _ => ⟨by kernel_rfl⟩) (fun G w hs => ⟨_, (hv).isSl, by first | omega | (simp only [List.length_append, List.length_cons, List.length_nil, List.length_replicate, List.length_set, List.length_take, List.length_drop, List.length_map, List.length_reverse, List.length_range]; omega), by first | omega | (simp only [List.length_append, List.length_cons, List.length_nil, List.length_replicate, List.length_set, List.length_take, List.length_drop, List.length_map, List.length_reverse, List.length_range]; omega)⟩)
    · exact One.loadD (α := DThing) (t := 44) (size := 5) (off := 0) (k := n1) (l := fun G => v) (x := fun G => x1) (vs := fun G => [.string x1.Text, .int .i64 x1.Value, .int .i64 x1.Blind, .int .i64 x1.Left, .int .i64 x1.Right]) (v := fun G => vv) (H := fun G => H) (p := fun G => elemAddr vv (n1.toNat * 5)) (fun G => ⟨by kernel_rfl⟩) rfl (fun G => by kernel_rfl) (fun G w hs => ⟨(hs.read 0 rfl), hv, (add_zero' _).symm, by omega, by first | omega | (simp only [List.length_append, List.length_cons, List.length_nil, List.length_replicate, List.length_set, List.length_take, List.length_drop, List.length_map, List.length_reverse, List.length_range]; omega), hx1⟩)
    · exact One.new (r := 1) (T := 44) (fun b => .pointer (some ⟨b, 0, none⟩)) (arr := fun G => #[.string ByteArray.empty, .int .i64 0, .int .i64 0, .int .i64 0, .int .i64 0]) (fun G w => by kernel_rfl) (fun G b => by kernel_rfl)
    · exact One.store (t := 44) (r := 1) (off := 0) (T := 44) (b := fun G => (G 7).b) (u := fun G => .agg #[.string x1.Text, .int .i64 x1.Value, .int .i64 x1.Blind, .int .i64 x1.Left, .int .i64 x1.Right]) (vs := fun G => [.string x1.Text, .int .i64 x1.Value, .int .i64 x1.Blind, .int .i64 x1.Left, .int .i64 x1.Right]) (arr := fun G => #[.string ByteArray.empty, .int .i64 0, .int .i64 0, .int .i64 0, .int .i64 0]) (fun G => ⟨by kernel_rfl⟩) (fun G => by kernel_rfl)
    intro G4 xa xw hDn
    refine hDn.to [1, 2, 3, 4, 5, 6, 7, 15] [] (by kernel_rfl) ?_
    clear hDn
    refine Pre.conv (sl := [(1, pathv), (2, .int .i64 total), (3, .int .i64 blind), (4, .string text), (5, .int .i64 value), (6, .int .i64 own), (7, .pointer (some ⟨b1, 0, none⟩)), (15, .pointer (some ⟨(G4 7).b, 0, none⟩))]) (A := [H]) (L := [some (b1, .cells #[vv] 24 (0, 0)), some ((G4 7).b, .cells #[.string x1.Text, .int .i64 x1.Value, .int .i64 x1.Blind, .int .i64 x1.Left, .int .i64 x1.Right] 44 (0, 0))]) ?_ (by kernel_rfl) (by kernel_rfl) (by kernel_rfl)
    generalize (G4 7).b = b2 at ⊢
    clear G4
    refine At.then ?_
    refine W.seq (by kernel_rfl) ?_
    obtain ⟨n2, hn2⟩ : ∃ zz : Int, zz = (path.length : Int) := ⟨_, rfl⟩
    obtain ⟨n3, hn3⟩ : ∃ zz : Int, zz = n2 - 1 := ⟨_, rfl⟩
    obtain ⟨n4, hn4⟩ : ∃ zz : Int, zz = path.getD n3.toNat default := ⟨_, rfl⟩
    have hh1 := Tm.walks_has hW (k := n3) (by omega) (by omega) hn4
    refine W.regV (rcheck_ct_r25_4 vv pathv total blind text value own H b1 x1 b2 n2 n3 n4) [0, 1, 6] [2, 3, 4, 5] (fun G => [pathv, pathv, .int .i64 n4]) (by kernel_rfl) mo_rb (by kernel_rfl) (fun _ _ => by kernel_rfl) ⟨?_, ?_, ?_, ?_, trivial⟩ (by kernel_rfl) ?_
    · exact One.len (t := 26) (n := n2) (v := fun G => pathv) (fun _ => ⟨by kernel_rfl⟩) (fun G w hs => ⟨_, (hpath).isSl, hn2⟩)
    · exact One.ar hn3 (fun _ _ => by kernel_rfl) (fun G w hs => by omega)
    · exact One.index (t := 26) (e := 3) (size := 1) (v := fun G => pathv) (k := .i64) (n := n3) (fun _ => ⟨by kernel_rfl⟩) (fun G w hs => ⟨_, (hpath).isSl, by first | omega | (simp only [List.length_append, List.length_cons, List.length_nil, List.length_replicate, List.length_set, List.length_take, List.length_drop, List.length_map, List.length_reverse, List.length_range]; omega), by first | omega | (simp only [List.length_append, List.length_cons, List.length_nil, List.length_replicate, List.length_set, List.length_take, List.length_drop, List.length_map, List.length_reverse, List.length_range]; omega)⟩)
    · exact One.loadD (α := Int) (t := 3) (size := 1) (off := 0) (k := n3) (l := fun G => path) (x := fun G => n4) (vs := fun G => [.int .i64 n4]) (v := fun G => pathv) (H := fun G => H) (p := fun G => elemAddr pathv (n3.toNat * 1)) (fun G => ⟨by kernel_rfl⟩) rfl (fun G => by kernel_rfl) (fun G w hs => ⟨(hs.read 0 rfl), hpath, (add_zero' _).symm, by omega, by first | omega | (simp only [List.length_append, List.length_cons, List.length_nil, List.length_replicate, List.length_set, List.length_take, List.length_drop, List.length_map, List.length_reverse, List.length_range]; omega), hn4⟩)
    intro G5 xa xw hDn
    refine hDn.to [2, 3, 4, 5, 6, 7, 15, 16] [] (by kernel_rfl) ?_
    clear hDn
    refine Pre.conv (sl := [(2, .int .i64 total), (3, .int .i64 blind), (4, .string text), (5, .int .i64 value), (6, .int .i64 own), (7, .pointer (some ⟨b1, 0, none⟩)), (15, .pointer (some ⟨b2, 0, none⟩)), (16, .int .i64 n4)]) (A := [H]) (L := [some (b1, .cells #[vv] 24 (0, 0)), some (b2, .cells #[.string x1.Text, .int .i64 x1.Value, .int .i64 x1.Blind, .int .i64 x1.Left, .int .i64 x1.Right] 44 (0, 0))]) ?_ (by kernel_rfl) (by kernel_rfl) (by kernel_rfl)
    clear G5
    refine At.then ?_
    refine W.seq (by kernel_rfl) ?_
    obtain ⟨p2, hp2⟩ : ∃ zz : Bool, zz = decide (x1.Value = total) := ⟨_, rfl⟩
    obtain ⟨p3, hp3⟩ : ∃ zz : Bool, zz = decide (x1.Blind = blind) := ⟨_, rfl⟩
    obtain ⟨p4, hp4⟩ : ∃ zz : Bool, zz = (p2 && p3) := ⟨_, rfl⟩
    obtain ⟨x2, hx2⟩ : ∃ zz : DThing, zz = v.getD n4.toNat default := ⟨_, rfl⟩
    obtain ⟨p5, hp5⟩ : ∃ zz : Bool, zz = (decide (x2.Left = -1 ∧ x2.Right = -1)) := ⟨_, rfl⟩
    obtain ⟨p6, hp6⟩ : ∃ zz : Bool, zz = (p4 && p5) := ⟨_, rfl⟩
    obtain ⟨p7, hp7⟩ : ∃ zz : Bool, zz = (decide (Tm.opensP v n4 text value own)) := ⟨_, rfl⟩
    obtain ⟨p8, hp8⟩ : ∃ zz : Bool, zz = (p6 && p7) := ⟨_, rfl⟩
    refine W.regV (rcheck_ct_r25_5 vv total blind text value own H b1 x1 b2 n4 p2 p3 p4 x2 p5 p6 p7 p8) [0, 2, 4, 5, 7, 10, 11, 13, 18, 20, 21, 22, 23, 26] [1, 3, 6, 8, 9, 12, 14, 15, 16, 17, 19, 24, 25] (fun G => [.pointer (some ⟨b2, 1, none⟩), .int .i64 total, .bool p2, .pointer (some ⟨b2, 2, none⟩), .int .i64 blind, .bool p4, .pointer (some ⟨b1, 0, none⟩), .int .i64 n4, .bool p6, .int .i64 n4, .string text, .int .i64 value, .int .i64 own, .bool p8]) (by kernel_rfl) mo_rb (by kernel_rfl) (fun _ _ => by kernel_rfl) ⟨?_, ?_, ?_, ?_, ?_, ?_, ?_, ?_, ?_, ?_, ?_, ?_, ?_, trivial⟩ (by kernel_rfl) ?_
    · exact One.loadE (t := 3) (r := 1) (off := 1) (b := fun G => b2) (vs := fun G => [.int .i64 x1.Value]) (arr := fun G => #[.string x1.Text, .int .i64 x1.Value, .int .i64 x1.Blind, .int .i64 x1.Left, .int .i64 x1.Right]) (T := 44) (fr := (0, 0)) (fun G => ⟨by kernel_rfl⟩) (fun G => by kernel_rfl)
    · exact One.bo hp2 (fun _ _ => by kernel_rfl)
    · exact One.loadE (t := 3) (r := 1) (off := 2) (b := fun G => b2) (vs := fun G => [.int .i64 x1.Blind]) (arr := fun G => #[.string x1.Text, .int .i64 x1.Value, .int .i64 x1.Blind, .int .i64 x1.Left, .int .i64 x1.Right]) (T := 44) (fr := (0, 0)) (fun G => ⟨by kernel_rfl⟩) (fun G => by kernel_rfl)
    · exact One.bo hp3 (fun _ _ => by kernel_rfl)
    · subst hp4
      cases p2 <;> exact One.under fun _ _ _ => by kernel_rfl
    · exact One.loadE (t := 22) (r := 0) (off := 0) (b := fun G => b1) (vs := fun G => [vv]) (arr := fun G => #[vv]) (T := 24) (fr := (0, 0)) (fun G => ⟨by kernel_rfl⟩) (fun G => by kernel_rfl)
    · exact One.index (t := 22) (e := 44) (size := 5) (v := fun G => vv) (k := .i64) (n := n4) (fun _ => ⟨by kernel_rfl⟩) (fun G w hs => by
        have hg := gd_of hs (p := (true && (p4 == true))) (by kernel_rfl)
        have hg0 := (iN hp4 (iAT (iN hp2 iDT) (iN hp3 iDT))).1 (eqT (andR hg))
        exact ⟨_, (hv).isSl, by first | omega | (simp only [List.length_append, List.length_cons, List.length_nil, List.length_replicate, List.length_set, List.length_take, List.length_drop, List.length_map, List.length_reverse, List.length_range]; omega), by first | omega | (simp only [List.length_append, List.length_cons, List.length_nil, List.length_replicate, List.length_set, List.length_take, List.length_drop, List.length_map, List.length_reverse, List.length_range]; omega)⟩)
    · exact One.loadD (α := DThing) (t := 44) (size := 5) (off := 0) (k := n4) (l := fun G => v) (x := fun G => x2) (vs := fun G => [.string x2.Text, .int .i64 x2.Value, .int .i64 x2.Blind, .int .i64 x2.Left, .int .i64 x2.Right]) (v := fun G => vv) (H := fun G => H) (p := fun G => elemAddr vv (n4.toNat * 5)) (fun G => ⟨by kernel_rfl⟩) rfl (fun G => by kernel_rfl) (fun G w hs => by
        have hg := gd_of hs (p := (true && (p4 == true))) (by kernel_rfl)
        have hg0 := (iN hp4 (iAT (iN hp2 iDT) (iN hp3 iDT))).1 (eqT (andR hg))
        exact ⟨(hs.read 0 rfl), hv, (add_zero' _).symm, by omega, by first | omega | (simp only [List.length_append, List.length_cons, List.length_nil, List.length_replicate, List.length_set, List.length_take, List.length_drop, List.length_map, List.length_reverse, List.length_range]; omega), hx2⟩)
    · exact One.callP (v := fun G => .bool p5) (f := 53) (args := fun G => #[.agg #[.string x2.Text, .int .i64 x2.Value, .int .i64 x2.Blind, .int .i64 x2.Left, .int .i64 x2.Right]]) (fun _ _ => by kernel_rfl) (fun G w hs => by
        have hg := gd_of hs (p := (true && (p4 == true))) (by kernel_rfl)
        have hg0 := (iN hp4 (iAT (iN hp2 iDT) (iN hp3 iDT))).1 (eqT (andR hg))
        rw [hp5]
        exact leafy_ct x2.Text x2.Value x2.Blind x2.Left x2.Right w )
    · subst hp6
      cases p4 <;> exact One.under fun _ _ _ => by kernel_rfl
    · exact One.loadE (t := 24) (r := 0) (off := 0) (b := fun G => b1) (vs := fun G => [vv]) (arr := fun G => #[vv]) (T := 24) (fr := (0, 0)) (fun G => ⟨by kernel_rfl⟩) (fun G => by kernel_rfl)
    · exact One.callP (v := fun G => .bool p7) (f := 57) (args := fun G => #[.agg #[vv], .int .i64 n4, .string text, .int .i64 value, .int .i64 own]) (fun _ _ => by kernel_rfl) (fun G w hs => by
        have hg := gd_of hs (p := (true && (p6 == true))) (by kernel_rfl)
        have hg0 := (iN hp6 (iAT (iN hp4 (iAT (iN hp2 iDT) (iN hp3 iDT))) (iN hp5 iDT))).1 (eqT (andR hg))
        rw [hp7]
        exact rOpens_ct v vv n4 text value own w H (hs.read 0 rfl) (hv) )
    · subst hp8
      cases p6 <;> exact One.under fun _ _ _ => by kernel_rfl
    intro G6 xa xw hDn
    refine hDn.to [14] [] (by kernel_rfl) ?_
    clear hDn
    refine Pre.conv (sl := [(14, .bool p8)]) (A := [H]) (L := [some (b1, .cells #[vv] 24 (0, 0)), some (b2, .cells #[.string x1.Text, .int .i64 x1.Value, .int .i64 x1.Blind, .int .i64 x1.Left, .int .i64 x1.Right] 44 (0, 0))]) ?_ (by kernel_rfl) (by kernel_rfl) (by kernel_rfl)
    clear G6
    refine At.then ?_
    refine W.ret (by kernel_rfl) ?_
    refine At.results (Or.inl rfl) (.bool p8) (fun xa xw hs hw => results_one (r := .tmp 14) (by kernel_rfl) (res_tmp (t := 14) (by kernel_rfl) hs)) (fun w' hw => ?_)
    have e0 : p8 = (decide (Tm.checkP v path total blind text value own)) := by
      rw [Bool.eq_iff_iff, (iN hp8 (iAT (iN hp6 (iAT (iN hp4 (iAT (iN hp2 iDT) (iN hp3 iDT))) (iN hp5 iDT))) (iN hp7 iDT))), decide_eq_true_iff]
      have hlf := Tm.leafy_iff hW.1 hh1.1 hh1.2 (by assumption)
      rw [Tm.check_iff (k := n3) hW (by assumption) (by assumption) (by omega) (by assumption) (by assumption)]
      simp only [hlf]
    exact ⟨congrArg Ending.returned (cong1 (fun (x0 : Bool) => (.bool x0 : Value)) e0), hw.base⟩

noncomputable def rview_ct_r23_0 (vv pathv : Value) (H : Heaplet) : RC := { ops := opsAt Try.f23 0, B := [0, 0], sl := [(0, .agg #[vv]), (1, pathv)], A := [H], L := [none, none, none, none], cs := [{ val := fun G => .pointer (some ⟨(G 0).b, 0, none⟩), ups := [(0, fun G => some ((G 0).b, .cells #[vv] 24 (0, 0)))] }, { val := fun _ => .slice none 0 0 }] }
noncomputable def rview_ct_r23_1 (vv pathv : Value) (H : Heaplet) (b1 : Nat) (p1 : Bool) : RC := { ops := opsAt Try.f23 1, B := [0, 0, 3, 7], sl := [(1, pathv), (2, .pointer (some ⟨b1, 0, none⟩))], A := [H], L := [some (b1, .cells #[vv] 24 (0, 0)), none, none, none], cs := [{ val := fun _ => .agg #[vv], rds := [0] }, { val := fun _ => pathv }, { val := fun _ => .bool p1 }, { val := fun _ => .bool (!p1) }] }
noncomputable def rview_ct_r23_2 (vv pathv : Value) (H : Heaplet) (b1 : Nat) (p1 : Bool) : RC := { ops := opsAt Try.f23 2, B := [0], sl := [(1, pathv), (2, .pointer (some ⟨b1, 0, none⟩)), (11, .bool (!p1))], A := [H], L := [some (b1, .cells #[vv] 24 (0, 0)), none, none, none], cs := [{ val := fun _ => .slice none 0 0 }] }
noncomputable def rview_ct_r23_3 (vv pathv : Value) (H : Heaplet) (b1 : Nat) (p1 : Bool) : RC := { ops := opsAt Try.f23 3, B := [0], sl := [(1, pathv), (2, .pointer (some ⟨b1, 0, none⟩)), (11, .bool (!p1))], A := [H], L := [some (b1, .cells #[vv] 24 (0, 0)), none, none, none], cs := [{ val := fun _ => .slice none 0 0 }] }
noncomputable def rview_ct_r23_4 (vv pathv : Value) (H : Heaplet) (b1 : Nat) : RC := { ops := opsAt Try.f23 4, B := [0], sl := [(1, pathv), (2, .pointer (some ⟨b1, 0, none⟩)), (5, .slice none 0 0)], A := [H], L := [some (b1, .cells #[vv] 24 (0, 0)), none, none, none], cs := [{ val := fun _ => .int .i64 0 }] }
noncomputable def rview_ct_r23_5 (vv pathv : Value) (H : Heaplet) (b1 : Nat) (outv : Value) (oute : Ent) (i n1 : Int) (p2 : Bool) : RC := { ops := opsAt Try.f23 5, B := [0, 0, 2, 7], sl := [(1, pathv), (2, .pointer (some ⟨b1, 0, none⟩)), (5, outv), (6, .int .i64 i)], A := [H], L := [some (b1, .cells #[vv] 24 (0, 0)), none, none, oute], cs := [{ val := fun _ => .int .i64 i }, { val := fun _ => pathv }, { val := fun _ => .int .i64 n1 }, { val := fun _ => .bool p2 }] }
noncomputable def rview_ct_r23_6 (vv pathv : Value) (H : Heaplet) (b1 : Nat) (outv : Value) (oute : Ent) (i : Int) (p2 : Bool) (n2 : Int) (x1 : DThing) : RC := { ops := opsAt Try.f23 7, B := [0, 1, 0, 0, 12, 28, 63, 127, 0, 511], sl := [(1, pathv), (2, .pointer (some ⟨b1, 0, none⟩)), (5, outv), (6, .int .i64 i), (15, .bool p2)], A := [H], L := [some (b1, .cells #[vv] 24 (0, 0)), none, none, oute], cs := [{ val := fun _ => .pointer (some ⟨b1, 0, none⟩) }, { val := fun _ => vv, rds := [0] }, { val := fun _ => pathv }, { val := fun _ => .int .i64 i }, { val := fun _ => .pointer (some (elemAddr pathv (i.toNat * 1))) }, { val := fun _ => .int .i64 n2 }, { val := fun _ => .pointer (some (elemAddr vv (n2.toNat * 5))) }, { val := fun _ => .agg #[.string x1.Text, .int .i64 x1.Value, .int .i64 x1.Blind, .int .i64 x1.Left, .int .i64 x1.Right] }, { val := fun G => .pointer (some ⟨(G 8).b, 0, none⟩), ups := [(1, fun G => some ((G 8).b, .cells #[.string ByteArray.empty, .int .i64 0, .int .i64 0, .int .i64 0, .int .i64 0] 44 (0, 0)))] }, { val := fun _ => undef, ups := [(1, fun G => some ((G 8).b, .cells #[.string x1.Text, .int .i64 x1.Value, .int .i64 x1.Blind, .int .i64 x1.Left, .int .i64 x1.Right] 44 (0, 0)))] }] }
noncomputable def rview_ct_r23_7 (vv pathv : Value) (H : Heaplet) (b1 : Nat) (outv : Value) (oute : Ent) (i n1 : Int) (x1 : DThing) (b2 : Nat) (p3 : Bool) (n3 : Int) (p4 p5 : Bool) : RC := { ops := opsAt Try.f23 8, B := [0, 1, 3, 7, 7, 23, 55, 127, 255], sl := [(1, pathv), (2, .pointer (some ⟨b1, 0, none⟩)), (5, outv), (6, .int .i64 i), (7, .pointer (some ⟨b2, 0, none⟩))], A := [H], L := [some (b1, .cells #[vv] 24 (0, 0)), some (b2, .cells #[.string x1.Text, .int .i64 x1.Value, .int .i64 x1.Blind, .int .i64 x1.Left, .int .i64 x1.Right] 44 (0, 0)), none, oute], cs := [{ val := fun _ => .int .i64 i }, { val := fun _ => .bool p3 }, { val := fun _ => .bool p3 }, { val := fun _ => .int .i64 i }, { val := fun _ => pathv }, { val := fun _ => .int .i64 n1 }, { val := fun _ => .int .i64 n3 }, { val := fun _ => .bool p4 }, { val := fun _ => .bool p5 }] }
noncomputable def rview_ct_r23_8 (vv pathv : Value) (H : Heaplet) (b1 : Nat) (outv : Value) (oute : Ent) (i : Int) (x1 : DThing) (b2 : Nat) (p5 : Bool) : RC := { ops := opsAt Try.f23 9, B := [0, 1], sl := [(1, pathv), (2, .pointer (some ⟨b1, 0, none⟩)), (5, outv), (6, .int .i64 i), (7, .pointer (some ⟨b2, 0, none⟩)), (34, .bool p5)], A := [H], L := [some (b1, .cells #[vv] 24 (0, 0)), some (b2, .cells #[.string x1.Text, .int .i64 x1.Value, .int .i64 x1.Blind, .int .i64 x1.Left, .int .i64 x1.Right] 44 (0, 0)), none, oute], cs := [{ val := fun _ => .pointer (some ⟨b2, 1, none⟩) }, { val := fun _ => undef, ups := [(1, fun _ => some (b2, .cells #[.string x1.Text, .int .i64 ((-1)), .int .i64 x1.Blind, .int .i64 x1.Left, .int .i64 x1.Right] 44 (0, 0)))] }] }
noncomputable def rview_ct_r23_9 (vv pathv : Value) (H : Heaplet) (b1 : Nat) (outv : Value) (oute : Ent) (i : Int) (x1 : DThing) (b2 : Nat) : RC := { ops := opsAt Try.f23 10, B := [0, 1], sl := [(1, pathv), (2, .pointer (some ⟨b1, 0, none⟩)), (5, outv), (6, .int .i64 i), (7, .pointer (some ⟨b2, 0, none⟩))], A := [H], L := [some (b1, .cells #[vv] 24 (0, 0)), some (b2, .cells #[.string x1.Text, .int .i64 ((-1)), .int .i64 x1.Blind, .int .i64 x1.Left, .int .i64 x1.Right] 44 (0, 0)), none, oute], cs := [{ val := fun _ => .pointer (some ⟨b2, 2, none⟩) }, { val := fun _ => undef, ups := [(1, fun _ => some (b2, .cells #[.string x1.Text, .int .i64 ((-1)), .int .i64 ((-1)), .int .i64 x1.Left, .int .i64 x1.Right] 44 (0, 0)))] }] }
noncomputable def rview_ct_r23_10 (v : List DThing) (vv pathv : Value) (H : Heaplet) (b1 : Nat) (outv : Value) (oute : Ent) (i : Int) (x1 : DThing) (b2 : Nat) (l1 : List DThing) : RC := { ops := opsAt Try.f23 11, B := [0, 0, 2, 7, 15], sl := [(1, pathv), (2, .pointer (some ⟨b1, 0, none⟩)), (5, outv), (6, .int .i64 i), (7, .pointer (some ⟨b2, 0, none⟩))], A := [H], L := [some (b1, .cells #[vv] 24 (0, 0)), some (b2, .cells #[.string x1.Text, .int .i64 ((-1)), .int .i64 ((-1)), .int .i64 x1.Left, .int .i64 x1.Right] 44 (0, 0)), none, oute], cs := [{ val := fun _ => outv }, { val := fun _ => .agg #[.string x1.Text, .int .i64 ((-1)), .int .i64 ((-1)), .int .i64 x1.Left, .int .i64 x1.Right], rds := [1] }, { val := fun G => .slice (some ⟨(G 2).b, 0, none⟩) 1 1, ups := [(2, fun G => (some ((G 2).b, .cells #[.string x1.Text, .int .i64 ((-1)), .int .i64 ((-1)), .int .i64 x1.Left, .int .i64 x1.Right] 44 (0, 0))))] }, { val := fun G => (G 3).v, fact := fun G => OSl 44 H l1 (G 3).v (G 3).e, ups := [(3, fun G => (G 3).e)], rds := [2] }, { val := fun G => (G 3).v }] }
noncomputable def rview_ct_r23_11 (vv pathv : Value) (H : Heaplet) (b1 : Nat) (i : Int) (x1 : DThing) (b2 : Nat) (v1 : Value) (b3 : Nat) (e1 : Ent) (n4 : Int) : RC := { ops := opsAt Try.f23 6, B := [0, 1, 3], sl := [(1, pathv), (2, .pointer (some ⟨b1, 0, none⟩)), (5, v1), (6, .int .i64 i)], A := [H], L := [some (b1, .cells #[vv] 24 (0, 0)), some (b2, .cells #[.string x1.Text, .int .i64 ((-1)), .int .i64 ((-1)), .int .i64 x1.Left, .int .i64 x1.Right] 44 (0, 0)), (some (b3, .cells #[.string x1.Text, .int .i64 ((-1)), .int .i64 ((-1)), .int .i64 x1.Left, .int .i64 x1.Right] 44 (0, 0))), e1], cs := [{ val := fun _ => .int .i64 i }, { val := fun _ => .int .i64 n4 }, { val := fun _ => .int .i64 n4 }] }
noncomputable def rview_ct_r23_12 (v : List DThing) (vv pathv : Value) (H : Heaplet) (b1 : Nat) (outv : Value) (oute : Ent) (i : Int) (x1 : DThing) (b2 : Nat) (p5 : Bool) (l2 : List DThing) : RC := { ops := opsAt Try.f23 11, B := [0, 0, 2, 7, 15], sl := [(1, pathv), (2, .pointer (some ⟨b1, 0, none⟩)), (5, outv), (6, .int .i64 i), (7, .pointer (some ⟨b2, 0, none⟩)), (34, .bool p5)], A := [H], L := [some (b1, .cells #[vv] 24 (0, 0)), some (b2, .cells #[.string x1.Text, .int .i64 x1.Value, .int .i64 x1.Blind, .int .i64 x1.Left, .int .i64 x1.Right] 44 (0, 0)), none, oute], cs := [{ val := fun _ => outv }, { val := fun _ => .agg #[.string x1.Text, .int .i64 x1.Value, .int .i64 x1.Blind, .int .i64 x1.Left, .int .i64 x1.Right], rds := [1] }, { val := fun G => .slice (some ⟨(G 2).b, 0, none⟩) 1 1, ups := [(2, fun G => (some ((G 2).b, .cells #[.string x1.Text, .int .i64 x1.Value, .int .i64 x1.Blind, .int .i64 x1.Left, .int .i64 x1.Right] 44 (0, 0))))] }, { val := fun G => (G 3).v, fact := fun G => OSl 44 H l2 (G 3).v (G 3).e, ups := [(3, fun G => (G 3).e)], rds := [2] }, { val := fun G => (G 3).v }] }
noncomputable def rview_ct_r23_13 (vv pathv : Value) (H : Heaplet) (b1 : Nat) (i : Int) (x1 : DThing) (b2 : Nat) (v2 : Value) (b4 : Nat) (e2 : Ent) (n5 : Int) : RC := { ops := opsAt Try.f23 6, B := [0, 1, 3], sl := [(1, pathv), (2, .pointer (some ⟨b1, 0, none⟩)), (5, v2), (6, .int .i64 i)], A := [H], L := [some (b1, .cells #[vv] 24 (0, 0)), some (b2, .cells #[.string x1.Text, .int .i64 x1.Value, .int .i64 x1.Blind, .int .i64 x1.Left, .int .i64 x1.Right] 44 (0, 0)), (some (b4, .cells #[.string x1.Text, .int .i64 x1.Value, .int .i64 x1.Blind, .int .i64 x1.Left, .int .i64 x1.Right] 44 (0, 0))), e2], cs := [{ val := fun _ => .int .i64 i }, { val := fun _ => .int .i64 n5 }, { val := fun _ => .int .i64 n5 }] }
noncomputable def rview_ct_r23_14 (vv pathv : Value) (H : Heaplet) (b1 : Nat) (outv : Value) (oute : Ent) (i : Int) (p2 : Bool) : RC := { ops := opsAt Try.f23 12, B := [0, 1], sl := [(1, pathv), (2, .pointer (some ⟨b1, 0, none⟩)), (5, outv), (6, .int .i64 i), (15, .bool p2)], A := [H], L := [some (b1, .cells #[vv] 24 (0, 0)), none, none, oute], cs := [{ val := fun _ => outv }, { val := fun _ => outv }] }
set_option maxRecDepth 10000 in
theorem rview_ct (v : List DThing) (vv : Value) (path : List Int) (pathv : Value) (w0 : World) (H : Heaplet) (hA : Agrees w0 H) (hv : RSl H v vv) (hpath : RSl H path pathv) (hp : path.length ≤ 1000000) :
    Calls Try.prog 23 #[.agg #[vv], pathv] w0 (Makes H (fun g => g.v) (fun J g => RSl J ((Tm.viewF v path)) g.v) w0) := by
  have hE : Ext w0 H H := Ext.refl w0 H
  have hvn := hv.lim
  have hpathn := hpath.lim
  refine calls_of_W (sl := [(0, .agg #[vv]), (1, pathv)]) (A := [H]) (L := [none, none, none, none]) Try.func23 (by kernel_rfl) 42 (by kernel_rfl) (by kernel_rfl) (fun J hJ => by simp at hJ; subst hJ; exact hA) (by simp) ?_
  refine W.seq (by kernel_rfl) ?_
  refine W.regV (rview_ct_r23_0 vv pathv H) [1] [0] (fun G => [.slice none 0 0]) (by kernel_rfl) mo_rb (by kernel_rfl) (fun _ _ => by kernel_rfl) ⟨?_, trivial⟩ (by kernel_rfl) ?_
  · exact One.new (r := 0) (T := 24) (fun b => .pointer (some ⟨b, 0, none⟩)) (arr := fun G => #[vv]) (fun G w => by kernel_rfl) (fun G b => by kernel_rfl)
  intro G1 xa xw hDn
  refine hDn.to [1, 2] [] (by kernel_rfl) ?_
  clear hDn
  refine Pre.conv (sl := [(1, pathv), (2, .pointer (some ⟨(G1 0).b, 0, none⟩))]) (A := [H]) (L := [some ((G1 0).b, .cells #[vv] 24 (0, 0)), none, none, none]) ?_ (by kernel_rfl) (by kernel_rfl) (by kernel_rfl)
  generalize (G1 0).b = b1 at ⊢
  clear G1
  refine At.then ?_
  refine W.seq (by kernel_rfl) ?_
  refine W.seq (by kernel_rfl) ?_
  obtain ⟨p1, hp1⟩ : ∃ zz : Bool, zz = (decide (Tm.Walks v path)) := ⟨_, rfl⟩
  refine W.regV (rview_ct_r23_1 vv pathv H b1 p1) [1, 3] [0, 2] (fun G => [pathv, .bool (!p1)]) (by kernel_rfl) mo_rb (by kernel_rfl) (fun _ _ => by kernel_rfl) ⟨?_, ?_, trivial⟩ (by kernel_rfl) ?_
  · exact One.loadE (t := 24) (r := 0) (off := 0) (b := fun G => b1) (vs := fun G => [vv]) (arr := fun G => #[vv]) (T := 24) (fr := (0, 0)) (fun G => ⟨by kernel_rfl⟩) (fun G => by kernel_rfl)
  · exact One.callP (v := fun G => .bool p1) (f := 55) (args := fun G => #[.agg #[vv], pathv]) (fun _ _ => by kernel_rfl) (fun G w hs => by
      rw [hp1]
      exact rwalks_ct v vv path pathv w H (hs.read 0 rfl) (hv) (hpath) )
  intro G2 xa xw hDn
  refine hDn.to [1, 2, 11] [] (by kernel_rfl) ?_
  clear hDn
  refine Pre.conv (sl := [(1, pathv), (2, .pointer (some ⟨b1, 0, none⟩)), (11, .bool (!p1))]) (A := [H]) (L := [some (b1, .cells #[vv] 24 (0, 0)), none, none, none]) ?_ (by kernel_rfl) (by kernel_rfl) (by kernel_rfl)
  clear G2
  refine At.then ?_
  refine W.cond (!p1) (by kernel_rfl) (fun xa hs => cnd_of (t := 11) (by kernel_rfl) (by kernel_rfl) hs) (fun hq => ?_) (fun hq => ?_)
  · skip
    have hq1 := hq
    replace hq1 := (iNT (iN hp1 iDF)).1 hq1
    refine W.seq (by kernel_rfl) ?_
    refine W.regV (rview_ct_r23_2 vv pathv H b1 p1) [0] [] (fun G => [.slice none 0 0]) (by kernel_rfl) mo_rb (by kernel_rfl) (fun _ _ => by kernel_rfl) trivial (by kernel_rfl) ?_
    intro G3 xa xw hDn
    refine hDn.to [4] [] (by kernel_rfl) ?_
    clear hDn
    refine Pre.conv (sl := [(4, .slice none 0 0)]) (A := [H]) (L := [some (b1, .cells #[vv] 24 (0, 0)), none, none, none]) ?_ (by kernel_rfl) (by kernel_rfl) (by kernel_rfl)
    clear G3
    refine At.then ?_
    refine W.ret (by kernel_rfl) ?_
    refine At.thenRet ?_
    refine At.results (Or.inl rfl) (.slice none 0 0) (fun xa xw hs hw => results_one (r := .tmp 4) (by kernel_rfl) (res_tmp (t := 4) (by kernel_rfl) hs)) (fun w' hw => ?_)
    have e0 : ([] : List DThing) = (Tm.viewF v path) := by
      exact (Tm.viewF_no hq1).symm
    exact Makes.ret (.slice none 0 0) undef undef hA hE hw (fun N => rfl) (fun N J hJ => (e0 ▸ RSl.nil))
  · skip
    have hq2 := hq
    replace hq2 := (iNF (iN hp1 iDT)).1 hq2
    refine W.skip (by kernel_rfl) ?_
    refine At.then ?_
    refine W.seq (by kernel_rfl) ?_
    have hW := hq2
    refine W.regV (rview_ct_r23_3 vv pathv H b1 p1) [0] [] (fun G => [.slice none 0 0]) (by kernel_rfl) mo_rb (by kernel_rfl) (fun _ _ => by kernel_rfl) trivial (by kernel_rfl) ?_
    intro G4 xa xw hDn
    refine hDn.to [1, 2, 5] [] (by kernel_rfl) ?_
    clear hDn
    refine Pre.conv (sl := [(1, pathv), (2, .pointer (some ⟨b1, 0, none⟩)), (5, .slice none 0 0)]) (A := [H]) (L := [some (b1, .cells #[vv] 24 (0, 0)), none, none, none]) ?_ (by kernel_rfl) (by kernel_rfl) (by kernel_rfl)
    clear G4
    refine At.then ?_
    refine W.seq (by kernel_rfl) ?_
    refine W.seq (by kernel_rfl) ?_
    refine W.regV (rview_ct_r23_4 vv pathv H b1) [0] [] (fun G => [.int .i64 0]) (by kernel_rfl) mo_rb (by kernel_rfl) (fun _ _ => by kernel_rfl) trivial (by kernel_rfl) ?_
    intro G5 xa xw hDn
    refine hDn.to [1, 2, 5, 6] [] (by kernel_rfl) ?_
    clear hDn
    refine Pre.conv (sl := [(1, pathv), (2, .pointer (some ⟨b1, 0, none⟩)), (5, .slice none 0 0), (6, .int .i64 0)]) (A := [H]) (L := [some (b1, .cells #[vv] 24 (0, 0)), none, none, none]) ?_ (by kernel_rfl) (by kernel_rfl) (by kernel_rfl)
    clear G5
    refine At.then ?_
    refine W.block 0 (by kernel_rfl) ?_
    refine W.loopS (γ := List DThing × Value × Ent × Int) (fun ⟨out, outv, oute, i⟩ => [(1, pathv), (2, .pointer (some ⟨b1, 0, none⟩)), (5, outv), (6, .int .i64 i)]) (fun ⟨out, outv, oute, i⟩ => [H]) (fun ⟨out, outv, oute, i⟩ => [some (b1, .cells #[vv] 24 (0, 0)), none, none, oute]) (fun ⟨out, outv, oute, i⟩ => (OSl 44 H out outv oute) ∧ (0 ≤ i) ∧ (i ≤ (path.length : Int)) ∧ (out = Tm.viewN v path i.toNat)) (fun ⟨out, outv, oute, i⟩ => ((path.length : Int) - i).toNat) (([] : List DThing), .slice none 0 0, none, 0) (by kernel_rfl) ?_ ?_
    · intro xa xw hs hw
      refine ⟨hs.sub (by kernel_rfl), hw.mask [true, false, false, true] (by kernel_rfl), ?_⟩
      refine ⟨OSl.nil, ?_, ?_, ?_⟩
      · show 0 ≤ (0 : Int)
        first | omega | rfl | (simp; done) | (subst_vars; simp; done)
      · show (0 : Int) ≤ (path.length : Int)
        first | omega | rfl | (simp; done) | (subst_vars; simp; done)
      · show (([] : List DThing)) = Tm.viewN v path (0 : Int).toNat
        rfl
    · rintro ⟨out, outv, oute, i⟩ hF
      have hF : (OSl 44 H out outv oute) ∧ (0 ≤ i) ∧ (i ≤ (path.length : Int)) ∧ (out = Tm.viewN v path i.toNat) := hF
      obtain ⟨hr1, hf1, hf2, hf3⟩ := hF
      show W Try.prog 42 w0 [] (Code.l (Code.l (Code.r (Code.l (Code.r (Code.r (Code.r (body Try.f23)))))))) _ [(1, pathv), (2, .pointer (some ⟨b1, 0, none⟩)), (5, outv), (6, .int .i64 i)] [H] [some (b1, .cells #[vv] 24 (0, 0)), none, none, oute]
      have hr1n := hr1.lim
      have hol : out.length = i.toNat := by rw [hf3]; simp
      refine W.seq (by kernel_rfl) ?_
      refine W.seq (by kernel_rfl) ?_
      obtain ⟨n1, hn1⟩ : ∃ zz : Int, zz = (path.length : Int) := ⟨_, rfl⟩
      obtain ⟨p2, hp2⟩ : ∃ zz : Bool, zz = decide (i < n1) := ⟨_, rfl⟩
      refine W.regV (rview_ct_r23_5 vv pathv H b1 outv oute i n1 p2) [0, 1] [2, 3] (fun G => [.int .i64 i, pathv]) (by kernel_rfl) mo_rb (by kernel_rfl) (fun _ _ => by kernel_rfl) ⟨?_, ?_, trivial⟩ (by kernel_rfl) ?_
      · exact One.len (t := 26) (n := n1) (v := fun G => pathv) (fun _ => ⟨by kernel_rfl⟩) (fun G w hs => ⟨_, (hpath).isSl, hn1⟩)
      · exact One.bo hp2 (fun _ _ => by kernel_rfl)
      intro G6 xa xw hDn
      refine hDn.to [1, 2, 5, 6, 15] [] (by kernel_rfl) ?_
      clear hDn
      refine Pre.conv (sl := [(1, pathv), (2, .pointer (some ⟨b1, 0, none⟩)), (5, outv), (6, .int .i64 i), (15, .bool p2)]) (A := [H]) (L := [some (b1, .cells #[vv] 24 (0, 0)), none, none, oute]) ?_ (by kernel_rfl) (by kernel_rfl) (by kernel_rfl)
      clear G6
      refine At.then ?_
      refine W.cond p2 (by kernel_rfl) (fun xa hs => cnd_of (t := 15) (by kernel_rfl) (by kernel_rfl) hs) (fun hq => ?_) (fun hq => ?_)
      · skip
        have hq3 := hq
        replace hq3 := (iN hp2 iDT).1 hq3
        refine W.skip (by kernel_rfl) ?_
        refine At.then ?_
        refine W.seq (by kernel_rfl) ?_
        refine W.block 1 (by kernel_rfl) ?_
        refine W.seq (by kernel_rfl) ?_
        obtain ⟨n2, hn2⟩ : ∃ zz : Int, zz = path.getD i.toNat default := ⟨_, rfl⟩
        obtain ⟨x1, hx1⟩ : ∃ zz : DThing, zz = v.getD n2.toNat default := ⟨_, rfl⟩
        have hwh := Tm.walks_has hW (k := i) (by omega) (by omega) (by assumption)
        refine W.regV (rview_ct_r23_6 vv pathv H b1 outv oute i p2 n2 x1) [0, 2, 3] [1, 4, 5, 6, 7, 8, 9] (fun G => [.pointer (some ⟨b1, 0, none⟩), pathv, .int .i64 i]) (by kernel_rfl) mo_rb (by kernel_rfl) (fun _ _ => by kernel_rfl) ⟨?_, ?_, ?_, ?_, ?_, ?_, ?_, trivial⟩ (by kernel_rfl) ?_
        · exact One.loadE (t := 22) (r := 0) (off := 0) (b := fun G => b1) (vs := fun G => [vv]) (arr := fun G => #[vv]) (T := 24) (fr := (0, 0)) (fun G => ⟨by kernel_rfl⟩) (fun G => by kernel_rfl)
        · exact One.index (t := 26) (e := 3) (size := 1) (v := fun G => pathv) (k := .i64) (n := i) (fun _ => ⟨by kernel_rfl⟩) (fun G w hs => ⟨_, (hpath).isSl, by first | omega | (simp only [List.length_append, List.length_cons, List.length_nil, List.length_replicate, List.length_set, List.length_take, List.length_drop, List.length_map, List.length_reverse, List.length_range]; omega), by first | omega | (simp only [List.length_append, List.length_cons, List.length_nil, List.length_replicate, List.length_set, List.length_take, List.length_drop, List.length_map, List.length_reverse, List.length_range]; omega)⟩)
        · exact One.loadD (α := Int) (t := 3) (size := 1) (off := 0) (k := i) (l := fun G => path) (x := fun G => n2) (vs := fun G => [.int .i64 n2]) (v := fun G => pathv) (H := fun G => H) (p := fun G => elemAddr pathv (i.toNat * 1)) (fun G => ⟨by kernel_rfl⟩) rfl (fun G => by kernel_rfl) (fun G w hs => ⟨(hs.read 0 rfl), hpath, (add_zero' _).symm, by omega, by first | omega | (simp only [List.length_append, List.length_cons, List.length_nil, List.length_replicate, List.length_set, List.length_take, List.length_drop, List.length_map, List.length_reverse, List.length_range]; omega), hn2⟩)
        · exact One.index (t := 22) (e := 44) (size := 5) (v := fun G => vv) (k := .i64) (n := n2) (fun _ => ⟨by kernel_rfl⟩) (fun G w hs => ⟨_, (hv).isSl, by first | omega | (simp only [List.length_append, List.length_cons, List.length_nil, List.length_replicate, List.length_set, List.length_take, List.length_drop, List.length_map, List.length_reverse, List.length_range]; omega), by first | omega | (simp only [List.length_append, List.length_cons, List.length_nil, List.length_replicate, List.length_set, List.length_take, List.length_drop, List.length_map, List.length_reverse, List.length_range]; omega)⟩)
        · exact One.loadD (α := DThing) (t := 44) (size := 5) (off := 0) (k := n2) (l := fun G => v) (x := fun G => x1) (vs := fun G => [.string x1.Text, .int .i64 x1.Value, .int .i64 x1.Blind, .int .i64 x1.Left, .int .i64 x1.Right]) (v := fun G => vv) (H := fun G => H) (p := fun G => elemAddr vv (n2.toNat * 5)) (fun G => ⟨by kernel_rfl⟩) rfl (fun G => by kernel_rfl) (fun G w hs => ⟨(hs.read 0 rfl), hv, (add_zero' _).symm, by omega, by first | omega | (simp only [List.length_append, List.length_cons, List.length_nil, List.length_replicate, List.length_set, List.length_take, List.length_drop, List.length_map, List.length_reverse, List.length_range]; omega), hx1⟩)
        · exact One.new (r := 1) (T := 44) (fun b => .pointer (some ⟨b, 0, none⟩)) (arr := fun G => #[.string ByteArray.empty, .int .i64 0, .int .i64 0, .int .i64 0, .int .i64 0]) (fun G w => by kernel_rfl) (fun G b => by kernel_rfl)
        · exact One.store (t := 44) (r := 1) (off := 0) (T := 44) (b := fun G => (G 8).b) (u := fun G => .agg #[.string x1.Text, .int .i64 x1.Value, .int .i64 x1.Blind, .int .i64 x1.Left, .int .i64 x1.Right]) (vs := fun G => [.string x1.Text, .int .i64 x1.Value, .int .i64 x1.Blind, .int .i64 x1.Left, .int .i64 x1.Right]) (arr := fun G => #[.string ByteArray.empty, .int .i64 0, .int .i64 0, .int .i64 0, .int .i64 0]) (fun G => ⟨by kernel_rfl⟩) (fun G => by kernel_rfl)
        intro G7 xa xw hDn
        refine hDn.to [1, 2, 5, 6, 7] [] (by kernel_rfl) ?_
        clear hDn
        refine Pre.conv (sl := [(1, pathv), (2, .pointer (some ⟨b1, 0, none⟩)), (5, outv), (6, .int .i64 i), (7, .pointer (some ⟨(G7 8).b, 0, none⟩))]) (A := [H]) (L := [some (b1, .cells #[vv] 24 (0, 0)), some ((G7 8).b, .cells #[.string x1.Text, .int .i64 x1.Value, .int .i64 x1.Blind, .int .i64 x1.Left, .int .i64 x1.Right] 44 (0, 0)), none, oute]) ?_ (by kernel_rfl) (by kernel_rfl) (by kernel_rfl)
        generalize (G7 8).b = b2 at ⊢
        clear G7
        refine At.then ?_
        refine W.seq (by kernel_rfl) ?_
        refine W.seq (by kernel_rfl) ?_
        obtain ⟨p3, hp3⟩ : ∃ zz : Bool, zz = decide (0 < i) := ⟨_, rfl⟩
        obtain ⟨n3, hn3⟩ : ∃ zz : Int, zz = n1 - 1 := ⟨_, rfl⟩
        obtain ⟨p4, hp4⟩ : ∃ zz : Bool, zz = decide (i < n3) := ⟨_, rfl⟩
        obtain ⟨p5, hp5⟩ : ∃ zz : Bool, zz = (p3 && p4) := ⟨_, rfl⟩
        refine W.regV (rview_ct_r23_7 vv pathv H b1 outv oute i n1 x1 b2 p3 n3 p4 p5) [0, 2, 3, 4] [1, 5, 6, 7, 8] (fun G => [.int .i64 i, .bool p3, .int .i64 i, pathv]) (by kernel_rfl) mo_rb (by kernel_rfl) (fun _ _ => by kernel_rfl) ⟨?_, ?_, ?_, ?_, ?_, trivial⟩ (by kernel_rfl) ?_
        · exact One.bo hp3 (fun _ _ => by kernel_rfl)
        · exact One.len (t := 26) (n := n1) (v := fun G => pathv) (fun _ => ⟨by kernel_rfl⟩) (fun G w hs => by
            have hg := gd_of hs (p := (true && (p3 == true))) (by kernel_rfl)
            have hg0 := (iN hp3 iDT).1 (eqT (andR hg))
            exact ⟨_, (hpath).isSl, hn1⟩)
        · exact One.ar hn3 (fun _ _ => by kernel_rfl) (fun G w hs => by
            have hg := gd_of hs (p := (true && (p3 == true))) (by kernel_rfl)
            have hg0 := (iN hp3 iDT).1 (eqT (andR hg))
            exact by omega)
        · exact One.bo hp4 (fun _ _ => by kernel_rfl)
        · subst hp5
          cases p3 <;> exact One.under fun _ _ _ => by kernel_rfl
        intro G8 xa xw hDn
        refine hDn.to [1, 2, 5, 6, 7, 34] [] (by kernel_rfl) ?_
        clear hDn
        refine Pre.conv (sl := [(1, pathv), (2, .pointer (some ⟨b1, 0, none⟩)), (5, outv), (6, .int .i64 i), (7, .pointer (some ⟨b2, 0, none⟩)), (34, .bool p5)]) (A := [H]) (L := [some (b1, .cells #[vv] 24 (0, 0)), some (b2, .cells #[.string x1.Text, .int .i64 x1.Value, .int .i64 x1.Blind, .int .i64 x1.Left, .int .i64 x1.Right] 44 (0, 0)), none, oute]) ?_ (by kernel_rfl) (by kernel_rfl) (by kernel_rfl)
        clear G8
        refine At.then ?_
        refine W.cond p5 (by kernel_rfl) (fun xa hs => cnd_of (t := 34) (by kernel_rfl) (by kernel_rfl) hs) (fun hq => ?_) (fun hq => ?_)
        · skip
          have hq4 := hq
          replace hq4 := (iN hp5 (iAT (iN hp3 iDT) (iN hp4 iDT))).1 hq4
          refine W.seq (by kernel_rfl) ?_
          refine W.regV (rview_ct_r23_8 vv pathv H b1 outv oute i x1 b2 p5) [0] [1] (fun G => [.pointer (some ⟨b2, 1, none⟩)]) (by kernel_rfl) mo_rb (by kernel_rfl) (fun _ _ => by kernel_rfl) ⟨?_, trivial⟩ (by kernel_rfl) ?_
          · exact One.store (t := 3) (r := 1) (off := 1) (T := 44) (b := fun G => b2) (u := fun G => .int .i64 ((-1))) (vs := fun G => [.int .i64 ((-1))]) (arr := fun G => #[.string x1.Text, .int .i64 x1.Value, .int .i64 x1.Blind, .int .i64 x1.Left, .int .i64 x1.Right]) (fun G => ⟨by kernel_rfl⟩) (fun G => by kernel_rfl)
          intro G9 xa xw hDn
          refine hDn.to [1, 2, 5, 6, 7] [] (by kernel_rfl) ?_
          clear hDn
          refine Pre.conv (sl := [(1, pathv), (2, .pointer (some ⟨b1, 0, none⟩)), (5, outv), (6, .int .i64 i), (7, .pointer (some ⟨b2, 0, none⟩))]) (A := [H]) (L := [some (b1, .cells #[vv] 24 (0, 0)), some (b2, .cells #[.string x1.Text, .int .i64 ((-1)), .int .i64 x1.Blind, .int .i64 x1.Left, .int .i64 x1.Right] 44 (0, 0)), none, oute]) ?_ (by kernel_rfl) (by kernel_rfl) (by kernel_rfl)
          clear G9
          refine At.then ?_
          refine W.regV (rview_ct_r23_9 vv pathv H b1 outv oute i x1 b2) [0] [1] (fun G => [.pointer (some ⟨b2, 2, none⟩)]) (by kernel_rfl) mo_rb (by kernel_rfl) (fun _ _ => by kernel_rfl) ⟨?_, trivial⟩ (by kernel_rfl) ?_
          · exact One.store (t := 3) (r := 1) (off := 2) (T := 44) (b := fun G => b2) (u := fun G => .int .i64 ((-1))) (vs := fun G => [.int .i64 ((-1))]) (arr := fun G => #[.string x1.Text, .int .i64 ((-1)), .int .i64 x1.Blind, .int .i64 x1.Left, .int .i64 x1.Right]) (fun G => ⟨by kernel_rfl⟩) (fun G => by kernel_rfl)
          intro G10 xa xw hDn
          refine hDn.to [1, 2, 5, 6, 7] [] (by kernel_rfl) ?_
          clear hDn
          refine Pre.conv (sl := [(1, pathv), (2, .pointer (some ⟨b1, 0, none⟩)), (5, outv), (6, .int .i64 i), (7, .pointer (some ⟨b2, 0, none⟩))]) (A := [H]) (L := [some (b1, .cells #[vv] 24 (0, 0)), some (b2, .cells #[.string x1.Text, .int .i64 ((-1)), .int .i64 ((-1)), .int .i64 x1.Left, .int .i64 x1.Right] 44 (0, 0)), none, oute]) ?_ (by kernel_rfl) (by kernel_rfl) (by kernel_rfl)
          clear G10
          refine At.then ?_
          obtain ⟨l1, hl1⟩ : ∃ zz : List DThing, zz = out ++ [(DThing.mk x1.Text ((-1)) ((-1)) x1.Left x1.Right)] := ⟨_, rfl⟩
          have hl1n := congrArg List.length hl1; try simp only [List.length_append, List.length_cons, List.length_nil, List.length_replicate, List.length_set, List.length_take, List.length_drop, List.length_map, List.length_reverse, List.length_range] at hl1n
          refine W.regV (rview_ct_r23_10 v vv pathv H b1 outv oute i x1 b2 l1) [0, 4] [1, 2, 3] (fun G => [outv, (G 3).v]) (by kernel_rfl) mo_rb (by kernel_rfl) (fun _ _ => by kernel_rfl) ⟨?_, ?_, ?_, trivial⟩ (by kernel_rfl) ?_
          · exact One.loadE (t := 44) (r := 1) (off := 0) (b := fun G => b2) (vs := fun G => [.string x1.Text, .int .i64 ((-1)), .int .i64 ((-1)), .int .i64 x1.Left, .int .i64 x1.Right]) (arr := fun G => #[.string x1.Text, .int .i64 ((-1)), .int .i64 ((-1)), .int .i64 x1.Left, .int .i64 x1.Right]) (T := 44) (fr := (0, 0)) (fun G => ⟨by kernel_rfl⟩) (fun G => by kernel_rfl)
          · exact One.new (r := 2) (T := 44) (fun b => .slice (some ⟨b, 0, none⟩) 1 1) (arr := fun G => #[.string x1.Text, .int .i64 ((-1)), .int .i64 ((-1)), .int .i64 x1.Left, .int .i64 x1.Right]) (fun G w => by kernel_rfl) (fun G b => by kernel_rfl)
          · exact One.appendD (α := DThing) (t := 22) (E := 44) (size := 5) (bytes := 48) (r := 3) (l := fun G => out) (m := fun G => [(DThing.mk x1.Text ((-1)) ((-1)) x1.Left x1.Right)]) (lm := fun G => l1) (v := fun G => outv) (x := fun G => .slice (some ⟨(G 2).b, 0, none⟩) 1 1) (e := fun G => oute) (H := fun G => H) (J := fun G => (hun (entH ((some ((G 2).b, .cells #[.string x1.Text, .int .i64 ((-1)), .int .i64 ((-1)), .int .i64 x1.Left, .int .i64 x1.Right] 44 (0, 0))))) H)) (fun G g => ⟨by kernel_rfl, by kernel_rfl⟩) rfl (fun G w hs => ⟨hr1, (hun_agrees (entH_agrees (hs.own (r := 2) (e := (some ((G 2).b, .cells #[.string x1.Text, .int .i64 ((-1)), .int .i64 ((-1)), .int .i64 x1.Left, .int .i64 x1.Right] 44 (0, 0)))) (by kernel_rfl))) (hs.read 0 rfl)), (((OSl.lit (α := DThing) (E := 44) (n := 1) (H := H) (l := [(DThing.mk x1.Text ((-1)) ((-1)) x1.Left x1.Right)]) (g := (G 2).b) (arr := #[.string x1.Text, .int .i64 ((-1)), .int .i64 ((-1)), .int .i64 x1.Left, .int .i64 x1.Right]) (fun _ _ => trivial) (by kernel_rfl))).read (hs.own (r := 2) (e := (some ((G 2).b, .cells #[.string x1.Text, .int .i64 ((-1)), .int .i64 ((-1)), .int .i64 x1.Left, .int .i64 x1.Right] 44 (0, 0)))) (by kernel_rfl)) (hs.read 0 rfl)), (fun _ _ => trivial), hl1, by (try simp only [List.length_append, List.length_cons, List.length_nil, List.length_replicate, List.length_set, List.length_take, List.length_drop, List.length_map, List.length_reverse, List.length_range]); omega⟩)
          intro G11 xa xw hDn
          have hf3_4 : OSl 44 H l1 (G11 3).v (G11 3).e := hDn.get 3 (by kernel_rfl) (by kernel_rfl) (by kernel_rfl)
          refine hDn.to [1, 2, 5, 6] [] (by kernel_rfl) ?_
          clear hDn
          refine Pre.conv (sl := [(1, pathv), (2, .pointer (some ⟨b1, 0, none⟩)), (5, (G11 3).v), (6, .int .i64 i)]) (A := [H]) (L := [some (b1, .cells #[vv] 24 (0, 0)), some (b2, .cells #[.string x1.Text, .int .i64 ((-1)), .int .i64 ((-1)), .int .i64 x1.Left, .int .i64 x1.Right] 44 (0, 0)), (some ((G11 2).b, .cells #[.string x1.Text, .int .i64 ((-1)), .int .i64 ((-1)), .int .i64 x1.Left, .int .i64 x1.Right] 44 (0, 0))), (G11 3).e]) ?_ (by kernel_rfl) (by kernel_rfl) (by kernel_rfl)
          generalize (G11 3).v = v1 at hf3_4 ⊢
          generalize (G11 2).b = b3 at hf3_4 ⊢
          generalize (G11 3).e = e1 at hf3_4 ⊢
          clear G11
          refine At.blockNormal ?_
          refine At.then ?_
          obtain ⟨n4, hn4⟩ : ∃ zz : Int, zz = i + 1 := ⟨_, rfl⟩
          refine W.regV (rview_ct_r23_11 vv pathv H b1 i x1 b2 v1 b3 e1 n4) [0, 2] [1] (fun G => [.int .i64 i, .int .i64 n4]) (by kernel_rfl) mo_rb (by kernel_rfl) (fun _ _ => by kernel_rfl) ⟨?_, trivial⟩ (by kernel_rfl) ?_
          · exact One.ar hn4 (fun _ _ => by kernel_rfl) (fun G w hs => by omega)
          intro G12 xa xw hDn
          refine hDn.to [1, 2, 5, 6] [] (by kernel_rfl) ?_
          clear hDn
          refine Pre.conv (sl := [(1, pathv), (2, .pointer (some ⟨b1, 0, none⟩)), (5, v1), (6, .int .i64 n4)]) (A := [H]) (L := [some (b1, .cells #[vv] 24 (0, 0)), some (b2, .cells #[.string x1.Text, .int .i64 ((-1)), .int .i64 ((-1)), .int .i64 x1.Left, .int .i64 x1.Right] 44 (0, 0)), (some (b3, .cells #[.string x1.Text, .int .i64 ((-1)), .int .i64 ((-1)), .int .i64 x1.Left, .int .i64 x1.Right] 44 (0, 0))), e1]) ?_ (by kernel_rfl) (by kernel_rfl) (by kernel_rfl)
          clear G12
          intro xa xw hs hw
          refine ⟨(l1, v1, e1, n4), ⟨hs.sub (by kernel_rfl), hw.mask [true, false, false, true] (by kernel_rfl), ?_⟩, ?_⟩
          · skip
            refine ⟨hf3_4, ?_, ?_, ?_⟩
            · show 0 ≤ n4
              first | omega | rfl | (simp; done) | (subst_vars; simp; done)
            · show n4 ≤ (path.length : Int)
              first | omega | rfl | (simp; done) | (subst_vars; simp; done)
            · show l1 = Tm.viewN v path n4.toNat
              rw [show n4.toNat = i.toNat + 1 by omega]; unfold Tm.viewN; rw [List.range_succ, List.map_append, hl1, hf3]; unfold Tm.viewN; congr 1
              show [_] = [Tm.viewEl v path i.toNat]; congr 1; unfold Tm.viewEl
              rw [if_pos (by omega), show Tm.pe path i.toNat = n2 from hn2.symm, show Tm.el v n2 = x1 from hx1.symm]
          · show ((path.length : Int) - n4).toNat < ((path.length : Int) - i).toNat
            omega
        · skip
          have hq5 := hq
          replace hq5 := (iN hp5 (iAF (iN hp3 iDF) (iN hp4 iDF))).1 hq5
          refine W.skip (by kernel_rfl) ?_
          refine At.then ?_
          obtain ⟨l2, hl2⟩ : ∃ zz : List DThing, zz = out ++ [x1] := ⟨_, rfl⟩
          have hl2n := congrArg List.length hl2; try simp only [List.length_append, List.length_cons, List.length_nil, List.length_replicate, List.length_set, List.length_take, List.length_drop, List.length_map, List.length_reverse, List.length_range] at hl2n
          refine W.regV (rview_ct_r23_12 v vv pathv H b1 outv oute i x1 b2 p5 l2) [0, 4] [1, 2, 3] (fun G => [outv, (G 3).v]) (by kernel_rfl) mo_rb (by kernel_rfl) (fun _ _ => by kernel_rfl) ⟨?_, ?_, ?_, trivial⟩ (by kernel_rfl) ?_
          · exact One.loadE (t := 44) (r := 1) (off := 0) (b := fun G => b2) (vs := fun G => [.string x1.Text, .int .i64 x1.Value, .int .i64 x1.Blind, .int .i64 x1.Left, .int .i64 x1.Right]) (arr := fun G => #[.string x1.Text, .int .i64 x1.Value, .int .i64 x1.Blind, .int .i64 x1.Left, .int .i64 x1.Right]) (T := 44) (fr := (0, 0)) (fun G => ⟨by kernel_rfl⟩) (fun G => by kernel_rfl)
          · exact One.new (r := 2) (T := 44) (fun b => .slice (some ⟨b, 0, none⟩) 1 1) (arr := fun G => #[.string x1.Text, .int .i64 x1.Value, .int .i64 x1.Blind, .int .i64 x1.Left, .int .i64 x1.Right]) (fun G w => by kernel_rfl) (fun G b => by kernel_rfl)
          · exact One.appendD (α := DThing) (t := 22) (E := 44) (size := 5) (bytes := 48) (r := 3) (l := fun G => out) (m := fun G => [x1]) (lm := fun G => l2) (v := fun G => outv) (x := fun G => .slice (some ⟨(G 2).b, 0, none⟩) 1 1) (e := fun G => oute) (H := fun G => H) (J := fun G => (hun (entH ((some ((G 2).b, .cells #[.string x1.Text, .int .i64 x1.Value, .int .i64 x1.Blind, .int .i64 x1.Left, .int .i64 x1.Right] 44 (0, 0))))) H)) (fun G g => ⟨by kernel_rfl, by kernel_rfl⟩) rfl (fun G w hs => ⟨hr1, (hun_agrees (entH_agrees (hs.own (r := 2) (e := (some ((G 2).b, .cells #[.string x1.Text, .int .i64 x1.Value, .int .i64 x1.Blind, .int .i64 x1.Left, .int .i64 x1.Right] 44 (0, 0)))) (by kernel_rfl))) (hs.read 0 rfl)), (((OSl.lit (α := DThing) (E := 44) (n := 1) (H := H) (l := [x1]) (g := (G 2).b) (arr := #[.string x1.Text, .int .i64 x1.Value, .int .i64 x1.Blind, .int .i64 x1.Left, .int .i64 x1.Right]) (fun _ _ => trivial) (by kernel_rfl))).read (hs.own (r := 2) (e := (some ((G 2).b, .cells #[.string x1.Text, .int .i64 x1.Value, .int .i64 x1.Blind, .int .i64 x1.Left, .int .i64 x1.Right] 44 (0, 0)))) (by kernel_rfl)) (hs.read 0 rfl)), (fun _ _ => trivial), hl2, by (try simp only [List.length_append, List.length_cons, List.length_nil, List.length_replicate, List.length_set, List.length_take, List.length_drop, List.length_map, List.length_reverse, List.length_range]); omega⟩)
          intro G13 xa xw hDn
          have hf3_5 : OSl 44 H l2 (G13 3).v (G13 3).e := hDn.get 3 (by kernel_rfl) (by kernel_rfl) (by kernel_rfl)
          refine hDn.to [1, 2, 5, 6] [] (by kernel_rfl) ?_
          clear hDn
          refine Pre.conv (sl := [(1, pathv), (2, .pointer (some ⟨b1, 0, none⟩)), (5, (G13 3).v), (6, .int .i64 i)]) (A := [H]) (L := [some (b1, .cells #[vv] 24 (0, 0)), some (b2, .cells #[.string x1.Text, .int .i64 x1.Value, .int .i64 x1.Blind, .int .i64 x1.Left, .int .i64 x1.Right] 44 (0, 0)), (some ((G13 2).b, .cells #[.string x1.Text, .int .i64 x1.Value, .int .i64 x1.Blind, .int .i64 x1.Left, .int .i64 x1.Right] 44 (0, 0))), (G13 3).e]) ?_ (by kernel_rfl) (by kernel_rfl) (by kernel_rfl)
          generalize (G13 3).v = v2 at hf3_5 ⊢
          generalize (G13 2).b = b4 at hf3_5 ⊢
          generalize (G13 3).e = e2 at hf3_5 ⊢
          clear G13
          refine At.blockNormal ?_
          refine At.then ?_
          obtain ⟨n5, hn5⟩ : ∃ zz : Int, zz = i + 1 := ⟨_, rfl⟩
          refine W.regV (rview_ct_r23_13 vv pathv H b1 i x1 b2 v2 b4 e2 n5) [0, 2] [1] (fun G => [.int .i64 i, .int .i64 n5]) (by kernel_rfl) mo_rb (by kernel_rfl) (fun _ _ => by kernel_rfl) ⟨?_, trivial⟩ (by kernel_rfl) ?_
          · exact One.ar hn5 (fun _ _ => by kernel_rfl) (fun G w hs => by omega)
          intro G14 xa xw hDn
          refine hDn.to [1, 2, 5, 6] [] (by kernel_rfl) ?_
          clear hDn
          refine Pre.conv (sl := [(1, pathv), (2, .pointer (some ⟨b1, 0, none⟩)), (5, v2), (6, .int .i64 n5)]) (A := [H]) (L := [some (b1, .cells #[vv] 24 (0, 0)), some (b2, .cells #[.string x1.Text, .int .i64 x1.Value, .int .i64 x1.Blind, .int .i64 x1.Left, .int .i64 x1.Right] 44 (0, 0)), (some (b4, .cells #[.string x1.Text, .int .i64 x1.Value, .int .i64 x1.Blind, .int .i64 x1.Left, .int .i64 x1.Right] 44 (0, 0))), e2]) ?_ (by kernel_rfl) (by kernel_rfl) (by kernel_rfl)
          clear G14
          intro xa xw hs hw
          refine ⟨(l2, v2, e2, n5), ⟨hs.sub (by kernel_rfl), hw.mask [true, false, false, true] (by kernel_rfl), ?_⟩, ?_⟩
          · skip
            refine ⟨hf3_5, ?_, ?_, ?_⟩
            · show 0 ≤ n5
              first | omega | rfl | (simp; done) | (subst_vars; simp; done)
            · show n5 ≤ (path.length : Int)
              first | omega | rfl | (simp; done) | (subst_vars; simp; done)
            · show l2 = Tm.viewN v path n5.toNat
              rw [show n5.toNat = i.toNat + 1 by omega]; unfold Tm.viewN; rw [List.range_succ, List.map_append, hl2, hf3]; unfold Tm.viewN; congr 1
              show [_] = [Tm.viewEl v path i.toNat]; congr 1; unfold Tm.viewEl
              rw [if_neg (by omega), show Tm.pe path i.toNat = n2 from hn2.symm, show Tm.el v n2 = x1 from hx1.symm]
          · show ((path.length : Int) - n5).toNat < ((path.length : Int) - i).toNat
            omega
      · skip
        have hq6 := hq
        replace hq6 := (iN hp2 iDF).1 hq6
        refine W.exit 0 (by kernel_rfl) ?_
        refine At.thenExit ?_
        refine At.thenExit ?_
        refine At.blockHit ?_
        refine At.then ?_
        refine W.seq (by kernel_rfl) ?_
        refine W.regV (rview_ct_r23_14 vv pathv H b1 outv oute i p2) [0, 1] [] (fun G => [outv, outv]) (by kernel_rfl) mo_rb (by kernel_rfl) (fun _ _ => by kernel_rfl) trivial (by kernel_rfl) ?_
        intro G15 xa xw hDn
        refine hDn.to [4] [] (by kernel_rfl) ?_
        clear hDn
        refine Pre.conv (sl := [(4, outv)]) (A := [H]) (L := [some (b1, .cells #[vv] 24 (0, 0)), none, none, oute]) ?_ (by kernel_rfl) (by kernel_rfl) (by kernel_rfl)
        clear G15
        refine At.then ?_
        refine W.ret (by kernel_rfl) ?_
        refine Pre.freeze 3 (e := oute) (by kernel_rfl) hE (fun K1 hk1 hk2 hE1 => ?_)
        have hr2 := (hr1).frozen hk1 hk2
        have hr3 := (hv).mono hk1
        refine Pre.conv (L := [some (b1, .cells #[vv] 24 (0, 0)), none, none, none]) ?_ rfl rfl (by kernel_rfl)
        refine At.results (Or.inl rfl) (outv) (fun xa xw hs hw => results_one (r := .tmp 4) (by kernel_rfl) (res_tmp (t := 4) (by kernel_rfl) hs)) (fun w' hw => ?_)
        have e0 : out = (Tm.viewF v path) := by
          unfold Tm.viewF; rw [if_pos hW, hf3]; congr 1; omega
        exact Makes.ret outv undef undef hA hE1 hw (fun N => rfl) (fun N J hJ => (e0 ▸ (hr2).mono hJ))

noncomputable def rpath_ct_r21_0 (vv : Value) (root leaf : Int) (H : Heaplet) : RC := { ops := opsAt Try.f21 0, B := [0, 0], sl := [(0, .agg #[vv]), (1, .int .i64 root), (2, .int .i64 leaf)], A := [H], L := [none, none, none, none, none, none], cs := [{ val := fun G => .pointer (some ⟨(G 0).b, 0, none⟩), ups := [(0, fun G => some ((G 0).b, .cells #[vv] 24 (0, 0)))] }, { val := fun _ => .slice none 0 0 }] }
noncomputable def rpath_ct_r21_1 (vv : Value) (root leaf : Int) (H : Heaplet) (b1 : Nat) (p1 p2 p3 p4 p5 : Bool) : RC := { ops := opsAt Try.f21 1, B := [0, 1, 3, 7, 15, 15, 63, 127, 255, 511, 1023, 1023, 4095, 8191, 16383], sl := [(1, .int .i64 root), (2, .int .i64 leaf), (3, .pointer (some ⟨b1, 0, none⟩))], A := [H], L := [some (b1, .cells #[vv] 24 (0, 0)), none, none, none, none, none], cs := [{ val := fun _ => .agg #[vv], rds := [0] }, { val := fun _ => .bool p1 }, { val := fun _ => .bool (!p1) }, { val := fun _ => .bool (!p1) }, { val := fun _ => .agg #[vv], rds := [0] }, { val := fun _ => .int .i64 root }, { val := fun _ => .bool p2 }, { val := fun _ => .bool (!p2) }, { val := fun _ => .bool p3 }, { val := fun _ => .bool p3 }, { val := fun _ => .agg #[vv], rds := [0] }, { val := fun _ => .int .i64 leaf }, { val := fun _ => .bool p4 }, { val := fun _ => .bool (!p4) }, { val := fun _ => .bool p5 }] }
noncomputable def rpath_ct_r21_2 (vv : Value) (root leaf : Int) (H : Heaplet) (b1 : Nat) (p5 : Bool) : RC := { ops := opsAt Try.f21 2, B := [0], sl := [(1, .int .i64 root), (2, .int .i64 leaf), (3, .pointer (some ⟨b1, 0, none⟩)), (26, .bool p5)], A := [H], L := [some (b1, .cells #[vv] 24 (0, 0)), none, none, none, none, none], cs := [{ val := fun _ => .slice none 0 0 }] }
noncomputable def rpath_ct_r21_3 (v : List DThing) (vv : Value) (root leaf : Int) (H : Heaplet) (b1 : Nat) (p5 : Bool) (n1 : Int) (l1 : List (Fat Int)) : RC := { ops := opsAt Try.f21 3, B := [0, 1, 3, 7, 15], sl := [(1, .int .i64 root), (2, .int .i64 leaf), (3, .pointer (some ⟨b1, 0, none⟩)), (26, .bool p5)], A := [H], L := [some (b1, .cells #[vv] 24 (0, 0)), none, none, none, none, none], cs := [{ val := fun _ => .pointer (some ⟨b1, 0, none⟩) }, { val := fun _ => vv, rds := [0] }, { val := fun _ => .int .i64 n1 }, { val := fun G => (G 3).v, fact := fun G => OSl 26 H l1 (G 3).v (G 3).e, ups := [(1, fun G => (G 3).e)] }, { val := fun G => (G 3).v }] }
noncomputable def rpath_ct_r21_4 (vv : Value) (root leaf : Int) (H : Heaplet) (b1 : Nat) (l1 : List (Fat Int)) (v1 : Value) (e1 : Ent) : RC := { ops := opsAt Try.f21 4, B := [0, 0, 0, 4, 15, 31], sl := [(1, .int .i64 root), (2, .int .i64 leaf), (3, .pointer (some ⟨b1, 0, none⟩)), (7, v1)], A := [H], L := [some (b1, .cells #[vv] 24 (0, 0)), e1, none, none, none, none], cs := [{ val := fun _ => v1 }, { val := fun _ => .int .i64 leaf }, { val := fun _ => .int .i64 leaf }, { val := fun G => .slice (some ⟨(G 3).b, 0, none⟩) 1 1, ups := [(2, fun G => (some ((G 3).b, .cells #[.int .i64 leaf] 3 (0, 0))))] }, { val := fun _ => .pointer (some (elemAddr v1 (leaf.toNat * 1))) }, { val := fun _ => undef, fact := fun G => OSl 26 ((hun H (hun (entH ((some ((G 3).b, .cells #[.int .i64 leaf] 3 (0, 0))))) H))) ((l1.set leaf.toNat ((⟨[leaf], .slice (some ⟨(G 3).b, 0, none⟩) 1 1⟩ : Fat Int)))) v1 (G 5).e, ups := [(1, fun G => (G 5).e)], rds := [1, 2] }] }
noncomputable def rpath_ct_r21_5 (vv : Value) (root leaf : Int) (b1 : Nat) (v1 : Value) (e2 : Ent) (K1 : Heaplet) (n2 : Int) : RC := { ops := opsAt Try.f21 5, B := [0, 1, 3], sl := [(1, .int .i64 root), (2, .int .i64 leaf), (3, .pointer (some ⟨b1, 0, none⟩)), (7, v1)], A := [K1], L := [some (b1, .cells #[vv] 24 (0, 0)), e2, none, none, none, none], cs := [{ val := fun _ => .int .i64 leaf }, { val := fun _ => .int .i64 n2 }, { val := fun _ => .int .i64 n2 }] }
noncomputable def rpath_ct_r21_6 (vv : Value) (root : Int) (b1 : Nat) (v1 : Value) (K2 : Heaplet) (pathse : Ent) (i : Int) (p6 : Bool) : RC := { ops := opsAt Try.f21 6, B := [0, 0, 3], sl := [(1, .int .i64 root), (3, .pointer (some ⟨b1, 0, none⟩)), (7, v1), (8, .int .i64 i)], A := [K2], L := [some (b1, .cells #[vv] 24 (0, 0)), pathse, none, none, none, none], cs := [{ val := fun _ => .int .i64 i }, { val := fun _ => .int .i64 root }, { val := fun _ => .bool p6 }] }
noncomputable def rpath_ct_r21_7 (vv : Value) (root : Int) (b1 : Nat) (v1 : Value) (K2 : Heaplet) (pathse : Ent) (i : Int) (p6 : Bool) (x2 : DThing) : RC := { ops := opsAt Try.f21 8, B := [0, 1, 0, 7, 15, 0, 63], sl := [(1, .int .i64 root), (3, .pointer (some ⟨b1, 0, none⟩)), (7, v1), (8, .int .i64 i), (40, .bool p6)], A := [K2], L := [some (b1, .cells #[vv] 24 (0, 0)), pathse, none, none, none, none], cs := [{ val := fun _ => .pointer (some ⟨b1, 0, none⟩) }, { val := fun _ => vv, rds := [0] }, { val := fun _ => .int .i64 i }, { val := fun _ => .pointer (some (elemAddr vv (i.toNat * 5))) }, { val := fun _ => .agg #[.string x2.Text, .int .i64 x2.Value, .int .i64 x2.Blind, .int .i64 x2.Left, .int .i64 x2.Right] }, { val := fun G => .pointer (some ⟨(G 5).b, 0, none⟩), ups := [(3, fun G => some ((G 5).b, .cells #[.string ByteArray.empty, .int .i64 0, .int .i64 0, .int .i64 0, .int .i64 0] 44 (0, 0)))] }, { val := fun _ => undef, ups := [(3, fun G => some ((G 5).b, .cells #[.string x2.Text, .int .i64 x2.Value, .int .i64 x2.Blind, .int .i64 x2.Left, .int .i64 x2.Right] 44 (0, 0)))] }] }
noncomputable def rpath_ct_r21_8 (vv : Value) (root : Int) (b1 : Nat) (v1 : Value) (K2 : Heaplet) (pathse : Ent) (i : Int) (x2 : DThing) (b3 : Nat) (p7 : Bool) : RC := { ops := opsAt Try.f21 9, B := [0, 1], sl := [(1, .int .i64 root), (3, .pointer (some ⟨b1, 0, none⟩)), (7, v1), (8, .int .i64 i), (9, .pointer (some ⟨b3, 0, none⟩))], A := [K2], L := [some (b1, .cells #[vv] 24 (0, 0)), pathse, none, some (b3, .cells #[.string x2.Text, .int .i64 x2.Value, .int .i64 x2.Blind, .int .i64 x2.Left, .int .i64 x2.Right] 44 (0, 0)), none, none], cs := [{ val := fun _ => .agg #[.string x2.Text, .int .i64 x2.Value, .int .i64 x2.Blind, .int .i64 x2.Left, .int .i64 x2.Right], rds := [3] }, { val := fun _ => .bool p7 }] }
noncomputable def rpath_ct_r21_9 (vv : Value) (root : Int) (b1 : Nat) (v1 : Value) (K2 : Heaplet) (pathse : Ent) (i : Int) (x2 : DThing) (b3 : Nat) (p7 : Bool) (n3 : Int) : RC := { ops := opsAt Try.f21 7, B := [0, 1, 3], sl := [(1, .int .i64 root), (3, .pointer (some ⟨b1, 0, none⟩)), (7, v1), (8, .int .i64 i), (9, .pointer (some ⟨b3, 0, none⟩)), (49, .bool p7)], A := [K2], L := [some (b1, .cells #[vv] 24 (0, 0)), pathse, none, some (b3, .cells #[.string x2.Text, .int .i64 x2.Value, .int .i64 x2.Blind, .int .i64 x2.Left, .int .i64 x2.Right] 44 (0, 0)), none, none], cs := [{ val := fun _ => .int .i64 i }, { val := fun _ => .int .i64 n3 }, { val := fun _ => .int .i64 n3 }] }
noncomputable def rpath_ct_r21_10 (v : List DThing) (vv : Value) (root : Int) (b1 : Nat) (v1 : Value) (K2 : Heaplet) (pathse : Ent) (i : Int) (x2 : DThing) (b3 : Nat) (p7 : Bool) (n4 : Int) (x3 : Fat Int) : RC := { ops := opsAt Try.f21 10, B := [0, 0, 2, 0, 8, 30, 63, 127, 255], sl := [(1, .int .i64 root), (3, .pointer (some ⟨b1, 0, none⟩)), (7, v1), (8, .int .i64 i), (9, .pointer (some ⟨b3, 0, none⟩)), (49, .bool p7)], A := [K2], L := [some (b1, .cells #[vv] 24 (0, 0)), pathse, none, some (b3, .cells #[.string x2.Text, .int .i64 x2.Value, .int .i64 x2.Blind, .int .i64 x2.Left, .int .i64 x2.Right] 44 (0, 0)), none, none], cs := [{ val := fun _ => v1 }, { val := fun _ => .pointer (some ⟨b3, 3, none⟩) }, { val := fun _ => .int .i64 x2.Left, rds := [3] }, { val := fun _ => .pointer (some ⟨b3, 4, none⟩) }, { val := fun _ => .int .i64 x2.Right, rds := [3] }, { val := fun _ => .int .i64 n4 }, { val := fun _ => .pointer (some (elemAddr v1 (n4.toNat * 1))) }, { val := fun _ => x3.v, rds := [1] }, { val := fun _ => x3.v }] }
noncomputable def rpath_ct_r21_11 (v : List DThing) (vv : Value) (root : Int) (b1 : Nat) (v1 : Value) (K2 : Heaplet) (pathse : Ent) (i : Int) (x2 : DThing) (b3 : Nat) (x3 : Fat Int) (n5 : Int) (x4 : Fat Int) : RC := { ops := opsAt Try.f21 11, B := [0, 0, 2, 0, 8, 30, 63, 127, 255], sl := [(1, .int .i64 root), (3, .pointer (some ⟨b1, 0, none⟩)), (7, v1), (8, .int .i64 i), (9, .pointer (some ⟨b3, 0, none⟩)), (10, x3.v)], A := [K2], L := [some (b1, .cells #[vv] 24 (0, 0)), pathse, none, some (b3, .cells #[.string x2.Text, .int .i64 x2.Value, .int .i64 x2.Blind, .int .i64 x2.Left, .int .i64 x2.Right] 44 (0, 0)), none, none], cs := [{ val := fun _ => v1 }, { val := fun _ => .pointer (some ⟨b3, 3, none⟩) }, { val := fun _ => .int .i64 x2.Left, rds := [3] }, { val := fun _ => .pointer (some ⟨b3, 4, none⟩) }, { val := fun _ => .int .i64 x2.Right, rds := [3] }, { val := fun _ => .int .i64 n5 }, { val := fun _ => .pointer (some (elemAddr v1 (n5.toNat * 1))) }, { val := fun _ => x4.v, rds := [1] }, { val := fun _ => x4.v }] }
noncomputable def rpath_ct_r21_12 (v : List DThing) (vv : Value) (root : Int) (b1 : Nat) (v1 : Value) (K2 : Heaplet) (pathse : Ent) (i : Int) (x2 : DThing) (b3 : Nat) (x3 x4 : Fat Int) (n6 : Int) (p8 : Bool) : RC := { ops := opsAt Try.f21 12, B := [0, 1, 3], sl := [(1, .int .i64 root), (3, .pointer (some ⟨b1, 0, none⟩)), (7, v1), (8, .int .i64 i), (10, x3.v), (11, x4.v)], A := [K2], L := [some (b1, .cells #[vv] 24 (0, 0)), pathse, none, some (b3, .cells #[.string x2.Text, .int .i64 x2.Value, .int .i64 x2.Blind, .int .i64 x2.Left, .int .i64 x2.Right] 44 (0, 0)), none, none], cs := [{ val := fun _ => x3.v }, { val := fun _ => .int .i64 n6 }, { val := fun _ => .bool p8 }] }
noncomputable def rpath_ct_r21_13 (v : List DThing) (vv : Value) (root : Int) (b1 : Nat) (v1 : Value) (K2 : Heaplet) (paths : List (Fat Int)) (pathse : Ent) (i : Int) (x2 : DThing) (b3 : Nat) (x3 x4 : Fat Int) (p8 : Bool) (l2 : List Int) : RC := { ops := opsAt Try.f21 13, B := [0, 0, 0, 4, 0, 28, 63, 127], sl := [(1, .int .i64 root), (3, .pointer (some ⟨b1, 0, none⟩)), (7, v1), (8, .int .i64 i), (10, x3.v), (11, x4.v), (68, .bool p8)], A := [K2], L := [some (b1, .cells #[vv] 24 (0, 0)), pathse, none, some (b3, .cells #[.string x2.Text, .int .i64 x2.Value, .int .i64 x2.Blind, .int .i64 x2.Left, .int .i64 x2.Right] 44 (0, 0)), none, none], cs := [{ val := fun _ => v1 }, { val := fun _ => .int .i64 i }, { val := fun _ => .int .i64 i }, { val := fun G => .slice (some ⟨(G 3).b, 0, none⟩) 1 1, ups := [(4, fun G => (some ((G 3).b, .cells #[.int .i64 i] 3 (0, 0))))] }, { val := fun _ => x3.v }, { val := fun G => (G 5).v, fact := fun G => OSl 3 K2 l2 (G 5).v (G 5).e, ups := [(4, fun G => (G 5).e)] }, { val := fun _ => .pointer (some (elemAddr v1 (i.toNat * 1))) }, { val := fun _ => undef, fact := fun G => OSl 26 ((hun K2 (hun (entH ((G 5).e)) K2))) ((paths.set i.toNat ((⟨l2, (G 5).v⟩ : Fat Int)))) v1 (G 7).e, ups := [(1, fun G => (G 7).e)], rds := [1, 4] }] }
noncomputable def rpath_ct_r21_14 (vv : Value) (root : Int) (b1 : Nat) (v1 : Value) (i : Int) (x2 : DThing) (b3 : Nat) (e3 : Ent) (K3 : Heaplet) (n7 : Int) : RC := { ops := opsAt Try.f21 7, B := [0, 1, 3], sl := [(1, .int .i64 root), (3, .pointer (some ⟨b1, 0, none⟩)), (7, v1), (8, .int .i64 i)], A := [K3], L := [some (b1, .cells #[vv] 24 (0, 0)), e3, none, some (b3, .cells #[.string x2.Text, .int .i64 x2.Value, .int .i64 x2.Blind, .int .i64 x2.Left, .int .i64 x2.Right] 44 (0, 0)), none, none], cs := [{ val := fun _ => .int .i64 i }, { val := fun _ => .int .i64 n7 }, { val := fun _ => .int .i64 n7 }] }
noncomputable def rpath_ct_r21_15 (v : List DThing) (vv : Value) (root : Int) (b1 : Nat) (v1 : Value) (K2 : Heaplet) (pathse : Ent) (i : Int) (x2 : DThing) (b3 : Nat) (x3 x4 : Fat Int) (p8 : Bool) (n8 : Int) (p9 : Bool) : RC := { ops := opsAt Try.f21 14, B := [0, 1, 3], sl := [(1, .int .i64 root), (3, .pointer (some ⟨b1, 0, none⟩)), (7, v1), (8, .int .i64 i), (10, x3.v), (11, x4.v), (68, .bool p8)], A := [K2], L := [some (b1, .cells #[vv] 24 (0, 0)), pathse, none, some (b3, .cells #[.string x2.Text, .int .i64 x2.Value, .int .i64 x2.Blind, .int .i64 x2.Left, .int .i64 x2.Right] 44 (0, 0)), none, none], cs := [{ val := fun _ => x4.v }, { val := fun _ => .int .i64 n8 }, { val := fun _ => .bool p9 }] }
noncomputable def rpath_ct_r21_16 (v : List DThing) (vv : Value) (root : Int) (b1 : Nat) (v1 : Value) (K2 : Heaplet) (paths : List (Fat Int)) (pathse : Ent) (i : Int) (x2 : DThing) (b3 : Nat) (x4 : Fat Int) (p9 : Bool) (l3 : List Int) : RC := { ops := opsAt Try.f21 15, B := [0, 0, 0, 4, 0, 28, 63, 127], sl := [(1, .int .i64 root), (3, .pointer (some ⟨b1, 0, none⟩)), (7, v1), (8, .int .i64 i), (11, x4.v), (78, .bool p9)], A := [K2], L := [some (b1, .cells #[vv] 24 (0, 0)), pathse, none, some (b3, .cells #[.string x2.Text, .int .i64 x2.Value, .int .i64 x2.Blind, .int .i64 x2.Left, .int .i64 x2.Right] 44 (0, 0)), none, none], cs := [{ val := fun _ => v1 }, { val := fun _ => .int .i64 i }, { val := fun _ => .int .i64 i }, { val := fun G => .slice (some ⟨(G 3).b, 0, none⟩) 1 1, ups := [(5, fun G => (some ((G 3).b, .cells #[.int .i64 i] 3 (0, 0))))] }, { val := fun _ => x4.v }, { val := fun G => (G 5).v, fact := fun G => OSl 3 K2 l3 (G 5).v (G 5).e, ups := [(5, fun G => (G 5).e)] }, { val := fun _ => .pointer (some (elemAddr v1 (i.toNat * 1))) }, { val := fun _ => undef, fact := fun G => OSl 26 ((hun K2 (hun (entH ((G 5).e)) K2))) ((paths.set i.toNat ((⟨l3, (G 5).v⟩ : Fat Int)))) v1 (G 7).e, ups := [(1, fun G => (G 7).e)], rds := [1, 5] }] }
noncomputable def rpath_ct_r21_17 (vv : Value) (root : Int) (b1 : Nat) (v1 : Value) (i : Int) (x2 : DThing) (b3 : Nat) (e5 : Ent) (K4 : Heaplet) (n9 : Int) : RC := { ops := opsAt Try.f21 7, B := [0, 1, 3], sl := [(1, .int .i64 root), (3, .pointer (some ⟨b1, 0, none⟩)), (7, v1), (8, .int .i64 i)], A := [K4], L := [some (b1, .cells #[vv] 24 (0, 0)), e5, none, some (b3, .cells #[.string x2.Text, .int .i64 x2.Value, .int .i64 x2.Blind, .int .i64 x2.Left, .int .i64 x2.Right] 44 (0, 0)), none, none], cs := [{ val := fun _ => .int .i64 i }, { val := fun _ => .int .i64 n9 }, { val := fun _ => .int .i64 n9 }] }
noncomputable def rpath_ct_r21_18 (v : List DThing) (vv : Value) (root : Int) (b1 : Nat) (v1 : Value) (K2 : Heaplet) (pathse : Ent) (i : Int) (x2 : DThing) (b3 : Nat) (x4 : Fat Int) (p9 : Bool) (n10 : Int) : RC := { ops := opsAt Try.f21 7, B := [0, 1, 3], sl := [(1, .int .i64 root), (3, .pointer (some ⟨b1, 0, none⟩)), (7, v1), (8, .int .i64 i), (11, x4.v), (78, .bool p9)], A := [K2], L := [some (b1, .cells #[vv] 24 (0, 0)), pathse, none, some (b3, .cells #[.string x2.Text, .int .i64 x2.Value, .int .i64 x2.Blind, .int .i64 x2.Left, .int .i64 x2.Right] 44 (0, 0)), none, none], cs := [{ val := fun _ => .int .i64 i }, { val := fun _ => .int .i64 n10 }, { val := fun _ => .int .i64 n10 }] }
noncomputable def rpath_ct_r21_19 (v : List DThing) (vv : Value) (root : Int) (b1 : Nat) (v1 : Value) (K2 : Heaplet) (pathse : Ent) (i : Int) (p6 : Bool) (x7 : Fat Int) : RC := { ops := opsAt Try.f21 16, B := [0, 0, 3, 7, 15], sl := [(1, .int .i64 root), (3, .pointer (some ⟨b1, 0, none⟩)), (7, v1), (8, .int .i64 i), (40, .bool p6)], A := [K2], L := [some (b1, .cells #[vv] 24 (0, 0)), pathse, none, none, none, none], cs := [{ val := fun _ => v1 }, { val := fun _ => .int .i64 root }, { val := fun _ => .pointer (some (elemAddr v1 (root.toNat * 1))) }, { val := fun _ => x7.v, rds := [1] }, { val := fun _ => x7.v }] }
set_option maxRecDepth 10000 in
theorem rpath_ct (v : List DThing) (vv : Value) (root leaf : Int) (w0 : World) (H : Heaplet) (hA : Agrees w0 H) (hv : RSl H v vv) :
    Calls Try.prog 21 #[.agg #[vv], .int .i64 root, .int .i64 leaf] w0 (Makes H (fun g => g.v) (fun J g => RSl J ((Tm.pathF v root leaf)) g.v) w0) := by
  have hE : Ext w0 H H := Ext.refl w0 H
  have hvn := hv.lim
  refine calls_of_W (sl := [(0, .agg #[vv]), (1, .int .i64 root), (2, .int .i64 leaf)]) (A := [H]) (L := [none, none, none, none, none, none]) Try.func21 (by kernel_rfl) 90 (by kernel_rfl) (by kernel_rfl) (fun J hJ => by simp at hJ; subst hJ; exact hA) (by simp) ?_
  refine W.seq (by kernel_rfl) ?_
  refine W.regV (rpath_ct_r21_0 vv root leaf H) [1] [0] (fun G => [.slice none 0 0]) (by kernel_rfl) mo_rb (by kernel_rfl) (fun _ _ => by kernel_rfl) ⟨?_, trivial⟩ (by kernel_rfl) ?_
  · exact One.new (r := 0) (T := 24) (fun b => .pointer (some ⟨b, 0, none⟩)) (arr := fun G => #[vv]) (fun G w => by kernel_rfl) (fun G b => by kernel_rfl)
  intro G1 xa xw hDn
  refine hDn.to [1, 2, 3] [] (by kernel_rfl) ?_
  clear hDn
  refine Pre.conv (sl := [(1, .int .i64 root), (2, .int .i64 leaf), (3, .pointer (some ⟨(G1 0).b, 0, none⟩))]) (A := [H]) (L := [some ((G1 0).b, .cells #[vv] 24 (0, 0)), none, none, none, none, none]) ?_ (by kernel_rfl) (by kernel_rfl) (by kernel_rfl)
  generalize (G1 0).b = b1 at ⊢
  clear G1
  refine At.then ?_
  refine W.seq (by kernel_rfl) ?_
  refine W.seq (by kernel_rfl) ?_
  obtain ⟨p1, hp1⟩ : ∃ zz : Bool, zz = (decide (Tm.Sound v)) := ⟨_, rfl⟩
  obtain ⟨p2, hp2⟩ : ∃ zz : Bool, zz = (decide (0 ≤ root ∧ root < (v.length : Int))) := ⟨_, rfl⟩
  obtain ⟨p3, hp3⟩ : ∃ zz : Bool, zz = (!p1 || !p2) := ⟨_, rfl⟩
  obtain ⟨p4, hp4⟩ : ∃ zz : Bool, zz = (decide (0 ≤ leaf ∧ leaf < (v.length : Int))) := ⟨_, rfl⟩
  obtain ⟨p5, hp5⟩ : ∃ zz : Bool, zz = (p3 || !p4) := ⟨_, rfl⟩
  refine W.regV (rpath_ct_r21_1 vv root leaf H b1 p1 p2 p3 p4 p5) [2, 3, 5, 7, 9, 11, 13] [0, 1, 4, 6, 8, 10, 12, 14] (fun G => [.bool (!p1), .bool (!p1), .int .i64 root, .bool (!p2), .bool p3, .int .i64 leaf, .bool (!p4)]) (by kernel_rfl) mo_rb (by kernel_rfl) (fun _ _ => by kernel_rfl) ⟨?_, ?_, ?_, ?_, ?_, ?_, ?_, ?_, trivial⟩ (by kernel_rfl) ?_
  · exact One.loadE (t := 24) (r := 0) (off := 0) (b := fun G => b1) (vs := fun G => [vv]) (arr := fun G => #[vv]) (T := 24) (fr := (0, 0)) (fun G => ⟨by kernel_rfl⟩) (fun G => by kernel_rfl)
  · exact One.callP (v := fun G => .bool p1) (f := 47) (args := fun G => #[.agg #[vv]]) (fun _ _ => by kernel_rfl) (fun G w hs => by
      rw [hp1]
      exact rsound_ct v vv w H (hs.read 0 rfl) (hv) )
  · exact One.loadE (t := 24) (r := 0) (off := 0) (b := fun G => b1) (vs := fun G => [vv]) (arr := fun G => #[vv]) (T := 24) (fr := (0, 0)) (fun G => ⟨by kernel_rfl⟩) (fun G => by kernel_rfl)
  · exact One.callP (v := fun G => .bool p2) (f := 52) (args := fun G => #[.agg #[vv], .int .i64 root]) (fun _ _ => by kernel_rfl) (fun G w hs => by
      have hg := gd_of hs (p := (true && ((!p1) == false))) (by kernel_rfl)
      have hg0 := (iNF (iN hp1 iDT)).1 (eqF (andR hg))
      rw [hp2]
      exact rin36_ct v vv root w H (hs.read 0 rfl) (hv) )
  · subst hp3
    cases p1 <;> exact One.under fun _ _ _ => by kernel_rfl
  · exact One.loadE (t := 24) (r := 0) (off := 0) (b := fun G => b1) (vs := fun G => [vv]) (arr := fun G => #[vv]) (T := 24) (fr := (0, 0)) (fun G => ⟨by kernel_rfl⟩) (fun G => by kernel_rfl)
  · exact One.callP (v := fun G => .bool p4) (f := 52) (args := fun G => #[.agg #[vv], .int .i64 leaf]) (fun _ _ => by kernel_rfl) (fun G w hs => by
      have hg := gd_of hs (p := (true && (p3 == false))) (by kernel_rfl)
      have hg0 := (iN hp3 (iOF (iNF (iN hp1 iDT)) (iNF (iN hp2 iDT)))).1 (eqF (andR hg))
      rw [hp4]
      exact rin36_ct v vv leaf w H (hs.read 0 rfl) (hv) )
  · subst hp5
    cases p3 <;> exact One.under fun _ _ _ => by kernel_rfl
  intro G2 xa xw hDn
  refine hDn.to [1, 2, 3, 26] [] (by kernel_rfl) ?_
  clear hDn
  refine Pre.conv (sl := [(1, .int .i64 root), (2, .int .i64 leaf), (3, .pointer (some ⟨b1, 0, none⟩)), (26, .bool p5)]) (A := [H]) (L := [some (b1, .cells #[vv] 24 (0, 0)), none, none, none, none, none]) ?_ (by kernel_rfl) (by kernel_rfl) (by kernel_rfl)
  clear G2
  refine At.then ?_
  refine W.cond p5 (by kernel_rfl) (fun xa hs => cnd_of (t := 26) (by kernel_rfl) (by kernel_rfl) hs) (fun hq => ?_) (fun hq => ?_)
  · skip
    have hq1 := hq
    replace hq1 := (iN hp5 (iOT (iN hp3 (iOT (iNT (iN hp1 iDF)) (iNT (iN hp2 iDF)))) (iNT (iN hp4 iDF)))).1 hq1
    refine W.seq (by kernel_rfl) ?_
    refine W.regV (rpath_ct_r21_2 vv root leaf H b1 p5) [0] [] (fun G => [.slice none 0 0]) (by kernel_rfl) mo_rb (by kernel_rfl) (fun _ _ => by kernel_rfl) trivial (by kernel_rfl) ?_
    intro G3 xa xw hDn
    refine hDn.to [6] [] (by kernel_rfl) ?_
    clear hDn
    refine Pre.conv (sl := [(6, .slice none 0 0)]) (A := [H]) (L := [some (b1, .cells #[vv] 24 (0, 0)), none, none, none, none, none]) ?_ (by kernel_rfl) (by kernel_rfl) (by kernel_rfl)
    clear G3
    refine At.then ?_
    refine W.ret (by kernel_rfl) ?_
    refine At.thenRet ?_
    refine At.results (Or.inl rfl) (.slice none 0 0) (fun xa xw hs hw => results_one (r := .tmp 6) (by kernel_rfl) (res_tmp (t := 6) (by kernel_rfl) hs)) (fun w' hw => ?_)
    have e0 : ([] : List Int) = (Tm.pathF v root leaf) := by
      symm; refine Tm.pathF_no ?_; rintro ⟨h1, h2, h3, _⟩; unfold Tm.has at h2 h3; rcases hq1 with (h | h) | h
      · exact h h1
      · omega
      · omega
    exact Makes.ret (.slice none 0 0) undef undef hA hE hw (fun N => rfl) (fun N J hJ => (e0 ▸ RSl.nil))
  · skip
    have hq2 := hq
    replace hq2 := (iN hp5 (iOF (iN hp3 (iOF (iNF (iN hp1 iDT)) (iNF (iN hp2 iDT)))) (iNF (iN hp4 iDT)))).1 hq2
    refine W.skip (by kernel_rfl) ?_
    refine At.then ?_
    refine W.seq (by kernel_rfl) ?_
    have hS : Tm.Sound v := by rcases hq2 with ⟨⟨h, _⟩, _⟩; first | exact h | exact Decidable.not_not.1 h
    have hS1 := hS.1
    obtain ⟨n1, hn1⟩ : ∃ zz : Int, zz = (v.length : Int) := ⟨_, rfl⟩
    obtain ⟨l1, hl1⟩ : ∃ zz : List (Fat Int), zz = List.replicate n1.toNat (default : Fat Int) := ⟨_, rfl⟩
    have hl1n := congrArg List.length hl1; try simp only [List.length_append, List.length_cons, List.length_nil, List.length_replicate, List.length_set, List.length_take, List.length_drop, List.length_map, List.length_reverse, List.length_range] at hl1n
    refine W.regV (rpath_ct_r21_3 v vv root leaf H b1 p5 n1 l1) [0, 4] [1, 2, 3] (fun G => [.pointer (some ⟨b1, 0, none⟩), (G 3).v]) (by kernel_rfl) mo_rb (by kernel_rfl) (fun _ _ => by kernel_rfl) ⟨?_, ?_, ?_, trivial⟩ (by kernel_rfl) ?_
    · exact One.loadE (t := 22) (r := 0) (off := 0) (b := fun G => b1) (vs := fun G => [vv]) (arr := fun G => #[vv]) (T := 24) (fr := (0, 0)) (fun G => ⟨by kernel_rfl⟩) (fun G => by kernel_rfl)
    · exact One.len (t := 22) (n := n1) (v := fun G => vv) (fun _ => ⟨by kernel_rfl⟩) (fun G w hs => ⟨_, (hv).isSl, hn1⟩)
    · exact One.makeD (α := Fat Int) (t := 47) (E := 26) (size := 1) (bytes := 24) (r := 1) (n := n1) (row := [.slice none 0 0]) (H := fun G => H) (l := fun G => l1) (fun G g => ⟨by kernel_rfl, by kernel_rfl⟩) rfl rfl (fun G w hs => ⟨⟨by omega, by omega, by omega⟩, hl1⟩)
    intro G4 xa xw hDn
    have hf3_1 : OSl 26 H l1 (G4 3).v (G4 3).e := hDn.get 3 (by kernel_rfl) (by kernel_rfl) (by kernel_rfl)
    refine hDn.to [1, 2, 3, 7] [] (by kernel_rfl) ?_
    clear hDn
    refine Pre.conv (sl := [(1, .int .i64 root), (2, .int .i64 leaf), (3, .pointer (some ⟨b1, 0, none⟩)), (7, (G4 3).v)]) (A := [H]) (L := [some (b1, .cells #[vv] 24 (0, 0)), (G4 3).e, none, none, none, none]) ?_ (by kernel_rfl) (by kernel_rfl) (by kernel_rfl)
    generalize (G4 3).v = v1 at hf3_1 ⊢
    generalize (G4 3).e = e1 at hf3_1 ⊢
    clear G4
    refine At.then ?_
    refine W.seq (by kernel_rfl) ?_
    obtain ⟨x1, hx1⟩ : ∃ zz : Fat Int, zz = l1.getD leaf.toNat default := ⟨_, rfl⟩
    refine W.regV (rpath_ct_r21_4 vv root leaf H b1 l1 v1 e1) [0, 1, 2] [3, 4, 5] (fun G => [v1, .int .i64 leaf, .int .i64 leaf]) (by kernel_rfl) mo_rb (by kernel_rfl) (fun _ _ => by kernel_rfl) ⟨?_, ?_, ?_, trivial⟩ (by kernel_rfl) ?_
    · exact One.new (r := 2) (T := 3) (fun b => .slice (some ⟨b, 0, none⟩) 1 1) (arr := fun G => #[.int .i64 leaf]) (fun G w => by kernel_rfl) (fun G b => by kernel_rfl)
    · exact One.index (t := 47) (e := 26) (size := 1) (v := fun G => v1) (k := .i64) (n := leaf) (fun _ => ⟨by kernel_rfl⟩) (fun G w hs => ⟨_, (hf3_1).isSl, by first | omega | (simp only [List.length_append, List.length_cons, List.length_nil, List.length_replicate, List.length_set, List.length_take, List.length_drop, List.length_map, List.length_reverse, List.length_range]; omega), by first | omega | (simp only [List.length_append, List.length_cons, List.length_nil, List.length_replicate, List.length_set, List.length_take, List.length_drop, List.length_map, List.length_reverse, List.length_range]; omega)⟩)
    · exact One.storeD (α := Fat Int) (t := 26) (r := 1) (E := 26) (size := 1) (off := 0) (k := leaf) (l := fun G => l1) (l' := fun G => (l1.set leaf.toNat ((⟨[leaf], .slice (some ⟨(G 3).b, 0, none⟩) 1 1⟩ : Fat Int)))) (x := fun G => x1) (x' := fun G => (⟨[leaf], .slice (some ⟨(G 3).b, 0, none⟩) 1 1⟩ : Fat Int)) (u := fun G => .slice (some ⟨(G 3).b, 0, none⟩) 1 1) (vs := fun G => [.slice (some ⟨(G 3).b, 0, none⟩) 1 1]) (v := fun G => v1) (e := fun G => e1) (p := fun G => elemAddr v1 (leaf.toNat * 1)) (H := fun G => (hun H (hun (entH ((some ((G 3).b, .cells #[.int .i64 leaf] 3 (0, 0))))) H))) (fun G g => ⟨by kernel_rfl, by kernel_rfl⟩) rfl (fun G => by kernel_rfl) (fun G w hs => ⟨((hf3_1).mono hun_left), (add_zero' _).symm, by omega, by first | omega | (simp only [List.length_append, List.length_cons, List.length_nil, List.length_replicate, List.length_set, List.length_take, List.length_drop, List.length_map, List.length_reverse, List.length_range]; omega), hx1, rfl, cell1_cells ((OSl.lit (α := Int) (E := 3) (n := 1) (H := H) (l := [leaf]) (g := (G 3).b) (arr := #[.int .i64 leaf]) (fun _ _ => trivial) (by kernel_rfl))).cell1, (all_cons1 ((OSl.lit (α := Int) (E := 3) (n := 1) (H := H) (l := [leaf]) (g := (G 3).b) (arr := #[.int .i64 leaf]) (fun _ _ => trivial) (by kernel_rfl))).cell1 rfl), (((((OSl.lit (α := Int) (E := 3) (n := 1) (H := H) (l := [leaf]) (g := (G 3).b) (arr := #[.int .i64 leaf]) (fun _ _ => trivial) (by kernel_rfl))).read (hs.own (r := 2) (e := (some ((G 3).b, .cells #[.int .i64 leaf] 3 (0, 0)))) (by kernel_rfl)) (hs.read 0 rfl))).mono (hun_right (hs.read 0 rfl) (hun_agrees (entH_agrees (hs.own (r := 2) (e := (some ((G 3).b, .cells #[.int .i64 leaf] 3 (0, 0)))) (by kernel_rfl))) (hs.read 0 rfl))))⟩)
    intro G5 xa xw hDn
    have hf5_2 : OSl 26 ((hun H (hun (entH ((some ((G5 3).b, .cells #[.int .i64 leaf] 3 (0, 0))))) H))) ((l1.set leaf.toNat ((⟨[leaf], .slice (some ⟨(G5 3).b, 0, none⟩) 1 1⟩ : Fat Int)))) v1 (G5 5).e := hDn.get 5 (by kernel_rfl) (by kernel_rfl) (by kernel_rfl)
    refine hDn.to [1, 2, 3, 7] [] (by kernel_rfl) ?_
    clear hDn
    refine Pre.conv (sl := [(1, .int .i64 root), (2, .int .i64 leaf), (3, .pointer (some ⟨b1, 0, none⟩)), (7, v1)]) (A := [H]) (L := [some (b1, .cells #[vv] 24 (0, 0)), (G5 5).e, (some ((G5 3).b, .cells #[.int .i64 leaf] 3 (0, 0))), none, none, none]) ?_ (by kernel_rfl) (by kernel_rfl) (by kernel_rfl)
    generalize (G5 5).e = e2 at hf5_2 ⊢
    generalize (G5 3).b = b2 at hf5_2 ⊢
    clear G5
    refine Pre.freeze 2 (e := (some (b2, .cells #[.int .i64 leaf] 3 (0, 0)))) (by kernel_rfl) hE (fun K1 hk1 hk2 hE1 => ?_)
    refine Pre.conv (L := [some (b1, .cells #[vv] 24 (0, 0)), e2, none, none, none, none]) ?_ rfl rfl (by kernel_rfl)
    have hr1 := (hf5_2).mono (hun_sub (((Sub.refl _)).trans hk1) (hun_sub hk2 (((Sub.refl _)).trans hk1)))
    have hr1n := hr1.lim
    have hr2 := (hv).mono (((Sub.refl _)).trans hk1)
    have hr2n := hr2.lim
    refine At.then ?_
    refine W.seq (by kernel_rfl) ?_
    refine W.seq (by kernel_rfl) ?_
    obtain ⟨n2, hn2⟩ : ∃ zz : Int, zz = leaf + 1 := ⟨_, rfl⟩
    refine W.regV (rpath_ct_r21_5 vv root leaf b1 v1 e2 K1 n2) [0, 2] [1] (fun G => [.int .i64 leaf, .int .i64 n2]) (by kernel_rfl) mo_rb (by kernel_rfl) (fun _ _ => by kernel_rfl) ⟨?_, trivial⟩ (by kernel_rfl) ?_
    · exact One.ar hn2 (fun _ _ => by kernel_rfl) (fun G w hs => by omega)
    intro G6 xa xw hDn
    refine hDn.to [1, 3, 7, 8] [] (by kernel_rfl) ?_
    clear hDn
    refine Pre.conv (sl := [(1, .int .i64 root), (3, .pointer (some ⟨b1, 0, none⟩)), (7, v1), (8, .int .i64 n2)]) (A := [K1]) (L := [some (b1, .cells #[vv] 24 (0, 0)), e2, none, none, none, none]) ?_ (by kernel_rfl) (by kernel_rfl) (by kernel_rfl)
    clear G6
    refine At.then ?_
    refine W.block 0 (by kernel_rfl) ?_
    refine W.loopS (γ := Heaplet × List (Fat Int) × Ent × Int) (fun ⟨K2, paths, pathse, i⟩ => [(1, .int .i64 root), (3, .pointer (some ⟨b1, 0, none⟩)), (7, v1), (8, .int .i64 i)]) (fun ⟨K2, paths, pathse, i⟩ => [K2]) (fun ⟨K2, paths, pathse, i⟩ => [some (b1, .cells #[vv] 24 (0, 0)), pathse, none, none, none, none]) (fun ⟨K2, paths, pathse, i⟩ => (Sub K1 K2) ∧ (Ext w0 H K2) ∧ (OSl 26 K2 paths v1 pathse) ∧ (Tm.tabOK v leaf paths i) ∧ (leaf < i) ∧ (root < i ∨ i ≤ root + 1)) (fun ⟨K2, paths, pathse, i⟩ => (root + 1 - i).toNat) (K1, (l1.set leaf.toNat ((⟨[leaf], .slice (some ⟨b2, 0, none⟩) 1 1⟩ : Fat Int))), e2, n2) (by kernel_rfl) ?_ ?_
    · intro xa xw hs hw
      refine ⟨hs.sub (by kernel_rfl), hw.mask [true, true, false, false, false, false] (by kernel_rfl), ?_⟩
      refine ⟨Sub.refl _, hE1, hr1, ?_, ?_, ?_⟩
      · show Tm.tabOK v leaf ((l1.set leaf.toNat ((⟨[leaf], .slice (some ⟨b2, 0, none⟩) 1 1⟩ : Fat Int)))) n2
        rw [show n2 = leaf + 1 by omega]
        refine Tm.tab_start (by omega) (by omega) (t := (l1.set leaf.toNat ((⟨[leaf], .slice (some ⟨b2, 0, none⟩) 1 1⟩ : Fat Int)))) (by subst_vars; simp; rfl)
      · show leaf < n2
        omega
      · show root < n2 ∨ n2 ≤ root + 1
        omega
    · rintro ⟨K2, paths, pathse, i⟩ hF
      have hF : (Sub K1 K2) ∧ (Ext w0 H K2) ∧ (OSl 26 K2 paths v1 pathse) ∧ (Tm.tabOK v leaf paths i) ∧ (leaf < i) ∧ (root < i ∨ i ≤ root + 1) := hF
      obtain ⟨hk3, hE2, hr3, hf3, hf4, hf5⟩ := hF
      show W Try.prog 90 w0 [] (Code.l (Code.l (Code.r (Code.l (Code.r (Code.r (Code.r (Code.r (body Try.f21))))))))) _ [(1, .int .i64 root), (3, .pointer (some ⟨b1, 0, none⟩)), (7, v1), (8, .int .i64 i)] [K2] [some (b1, .cells #[vv] 24 (0, 0)), pathse, none, none, none, none]
      have hr3n := hr3.lim
      have hr4 := (hr2).mono hk3
      have hpl := hf3.1
      refine W.seq (by kernel_rfl) ?_
      refine W.seq (by kernel_rfl) ?_
      obtain ⟨p6, hp6⟩ : ∃ zz : Bool, zz = decide (i ≤ root) := ⟨_, rfl⟩
      refine W.regV (rpath_ct_r21_6 vv root b1 v1 K2 pathse i p6) [0, 1] [2] (fun G => [.int .i64 i, .int .i64 root]) (by kernel_rfl) mo_rb (by kernel_rfl) (fun _ _ => by kernel_rfl) ⟨?_, trivial⟩ (by kernel_rfl) ?_
      · exact One.bo hp6 (fun _ _ => by kernel_rfl)
      intro G7 xa xw hDn
      refine hDn.to [1, 3, 7, 8, 40] [] (by kernel_rfl) ?_
      clear hDn
      refine Pre.conv (sl := [(1, .int .i64 root), (3, .pointer (some ⟨b1, 0, none⟩)), (7, v1), (8, .int .i64 i), (40, .bool p6)]) (A := [K2]) (L := [some (b1, .cells #[vv] 24 (0, 0)), pathse, none, none, none, none]) ?_ (by kernel_rfl) (by kernel_rfl) (by kernel_rfl)
      clear G7
      refine At.then ?_
      refine W.cond p6 (by kernel_rfl) (fun xa hs => cnd_of (t := 40) (by kernel_rfl) (by kernel_rfl) hs) (fun hq => ?_) (fun hq => ?_)
      · skip
        have hq3 := hq
        replace hq3 := (iN hp6 iDT).1 hq3
        refine W.skip (by kernel_rfl) ?_
        refine At.then ?_
        refine W.seq (by kernel_rfl) ?_
        refine W.block 1 (by kernel_rfl) ?_
        refine W.seq (by kernel_rfl) ?_
        obtain ⟨x2, hx2⟩ : ∃ zz : DThing, zz = v.getD i.toNat default := ⟨_, rfl⟩
        refine W.regV (rpath_ct_r21_7 vv root b1 v1 K2 pathse i p6 x2) [0, 2] [1, 3, 4, 5, 6] (fun G => [.pointer (some ⟨b1, 0, none⟩), .int .i64 i]) (by kernel_rfl) mo_rb (by kernel_rfl) (fun _ _ => by kernel_rfl) ⟨?_, ?_, ?_, ?_, ?_, trivial⟩ (by kernel_rfl) ?_
        · exact One.loadE (t := 22) (r := 0) (off := 0) (b := fun G => b1) (vs := fun G => [vv]) (arr := fun G => #[vv]) (T := 24) (fr := (0, 0)) (fun G => ⟨by kernel_rfl⟩) (fun G => by kernel_rfl)
        · exact One.index (t := 22) (e := 44) (size := 5) (v := fun G => vv) (k := .i64) (n := i) (fun _ => ⟨by kernel_rfl⟩) (fun G w hs => ⟨_, (hr4).isSl, by first | omega | (simp only [List.length_append, List.length_cons, List.length_nil, List.length_replicate, List.length_set, List.length_take, List.length_drop, List.length_map, List.length_reverse, List.length_range]; omega), by first | omega | (simp only [List.length_append, List.length_cons, List.length_nil, List.length_replicate, List.length_set, List.length_take, List.length_drop, List.length_map, List.length_reverse, List.length_range]; omega)⟩)
        · exact One.loadD (α := DThing) (t := 44) (size := 5) (off := 0) (k := i) (l := fun G => v) (x := fun G => x2) (vs := fun G => [.string x2.Text, .int .i64 x2.Value, .int .i64 x2.Blind, .int .i64 x2.Left, .int .i64 x2.Right]) (v := fun G => vv) (H := fun G => K2) (p := fun G => elemAddr vv (i.toNat * 5)) (fun G => ⟨by kernel_rfl⟩) rfl (fun G => by kernel_rfl) (fun G w hs => ⟨(hs.read 0 rfl), hr4, (add_zero' _).symm, by omega, by first | omega | (simp only [List.length_append, List.length_cons, List.length_nil, List.length_replicate, List.length_set, List.length_take, List.length_drop, List.length_map, List.length_reverse, List.length_range]; omega), hx2⟩)
        · exact One.new (r := 3) (T := 44) (fun b => .pointer (some ⟨b, 0, none⟩)) (arr := fun G => #[.string ByteArray.empty, .int .i64 0, .int .i64 0, .int .i64 0, .int .i64 0]) (fun G w => by kernel_rfl) (fun G b => by kernel_rfl)
        · exact One.store (t := 44) (r := 3) (off := 0) (T := 44) (b := fun G => (G 5).b) (u := fun G => .agg #[.string x2.Text, .int .i64 x2.Value, .int .i64 x2.Blind, .int .i64 x2.Left, .int .i64 x2.Right]) (vs := fun G => [.string x2.Text, .int .i64 x2.Value, .int .i64 x2.Blind, .int .i64 x2.Left, .int .i64 x2.Right]) (arr := fun G => #[.string ByteArray.empty, .int .i64 0, .int .i64 0, .int .i64 0, .int .i64 0]) (fun G => ⟨by kernel_rfl⟩) (fun G => by kernel_rfl)
        intro G8 xa xw hDn
        refine hDn.to [1, 3, 7, 8, 9] [] (by kernel_rfl) ?_
        clear hDn
        refine Pre.conv (sl := [(1, .int .i64 root), (3, .pointer (some ⟨b1, 0, none⟩)), (7, v1), (8, .int .i64 i), (9, .pointer (some ⟨(G8 5).b, 0, none⟩))]) (A := [K2]) (L := [some (b1, .cells #[vv] 24 (0, 0)), pathse, none, some ((G8 5).b, .cells #[.string x2.Text, .int .i64 x2.Value, .int .i64 x2.Blind, .int .i64 x2.Left, .int .i64 x2.Right] 44 (0, 0)), none, none]) ?_ (by kernel_rfl) (by kernel_rfl) (by kernel_rfl)
        generalize (G8 5).b = b3 at ⊢
        clear G8
        refine At.then ?_
        refine W.seq (by kernel_rfl) ?_
        refine W.seq (by kernel_rfl) ?_
        obtain ⟨p7, hp7⟩ : ∃ zz : Bool, zz = (decide (x2.Left = -1 ∧ x2.Right = -1)) := ⟨_, rfl⟩
        refine W.regV (rpath_ct_r21_8 vv root b1 v1 K2 pathse i x2 b3 p7) [] [0, 1] (fun G => []) (by kernel_rfl) mo_rb (by kernel_rfl) (fun _ _ => by kernel_rfl) ⟨?_, ?_, trivial⟩ (by kernel_rfl) ?_
        · exact One.loadE (t := 44) (r := 3) (off := 0) (b := fun G => b3) (vs := fun G => [.string x2.Text, .int .i64 x2.Value, .int .i64 x2.Blind, .int .i64 x2.Left, .int .i64 x2.Right]) (arr := fun G => #[.string x2.Text, .int .i64 x2.Value, .int .i64 x2.Blind, .int .i64 x2.Left, .int .i64 x2.Right]) (T := 44) (fr := (0, 0)) (fun G => ⟨by kernel_rfl⟩) (fun G => by kernel_rfl)
        · exact One.callP (v := fun G => .bool p7) (f := 53) (args := fun G => #[.agg #[.string x2.Text, .int .i64 x2.Value, .int .i64 x2.Blind, .int .i64 x2.Left, .int .i64 x2.Right]]) (fun _ _ => by kernel_rfl) (fun G w hs => by
            rw [hp7]
            exact leafy_ct x2.Text x2.Value x2.Blind x2.Left x2.Right w )
        intro G9 xa xw hDn
        refine hDn.to [1, 3, 7, 8, 9, 49] [] (by kernel_rfl) ?_
        clear hDn
        refine Pre.conv (sl := [(1, .int .i64 root), (3, .pointer (some ⟨b1, 0, none⟩)), (7, v1), (8, .int .i64 i), (9, .pointer (some ⟨b3, 0, none⟩)), (49, .bool p7)]) (A := [K2]) (L := [some (b1, .cells #[vv] 24 (0, 0)), pathse, none, some (b3, .cells #[.string x2.Text, .int .i64 x2.Value, .int .i64 x2.Blind, .int .i64 x2.Left, .int .i64 x2.Right] 44 (0, 0)), none, none]) ?_ (by kernel_rfl) (by kernel_rfl) (by kernel_rfl)
        clear G9
        refine At.then ?_
        refine W.cond p7 (by kernel_rfl) (fun xa hs => cnd_of (t := 49) (by kernel_rfl) (by kernel_rfl) hs) (fun hq => ?_) (fun hq => ?_)
        · skip
          have hq4 := hq
          replace hq4 := (iN hp7 iDT).1 hq4
          refine W.exit 1 (by kernel_rfl) ?_
          refine At.thenExit ?_
          refine At.blockHit ?_
          refine At.then ?_
          obtain ⟨n3, hn3⟩ : ∃ zz : Int, zz = i + 1 := ⟨_, rfl⟩
          refine W.regV (rpath_ct_r21_9 vv root b1 v1 K2 pathse i x2 b3 p7 n3) [0, 2] [1] (fun G => [.int .i64 i, .int .i64 n3]) (by kernel_rfl) mo_rb (by kernel_rfl) (fun _ _ => by kernel_rfl) ⟨?_, trivial⟩ (by kernel_rfl) ?_
          · exact One.ar hn3 (fun _ _ => by kernel_rfl) (fun G w hs => by omega)
          intro G10 xa xw hDn
          refine hDn.to [1, 3, 7, 8] [] (by kernel_rfl) ?_
          clear hDn
          refine Pre.conv (sl := [(1, .int .i64 root), (3, .pointer (some ⟨b1, 0, none⟩)), (7, v1), (8, .int .i64 n3)]) (A := [K2]) (L := [some (b1, .cells #[vv] 24 (0, 0)), pathse, none, some (b3, .cells #[.string x2.Text, .int .i64 x2.Value, .int .i64 x2.Blind, .int .i64 x2.Left, .int .i64 x2.Right] 44 (0, 0)), none, none]) ?_ (by kernel_rfl) (by kernel_rfl) (by kernel_rfl)
          clear G10
          intro xa xw hs hw
          refine ⟨(K2, paths, pathse, n3), ⟨hs.sub (by kernel_rfl), hw.mask [true, true, false, false, false, false] (by kernel_rfl), ?_⟩, ?_⟩
          · skip
            refine ⟨(hk3).trans ((Sub.refl _)), hE2, hr3, ?_, ?_, ?_⟩
            · show Tm.tabOK v leaf paths n3
              exact Tm.tab_skip hS hf3 (by omega) (by omega) (by omega) (by assumption) (by assumption) (by omega)
            · show leaf < n3
              omega
            · show root < n3 ∨ n3 ≤ root + 1
              omega
          · show (root + 1 - n3).toNat < (root + 1 - i).toNat
            omega
        · skip
          have hq5 := hq
          replace hq5 := (iN hp7 iDF).1 hq5
          have hnl : ¬ x2.Left = -1 := fun h => hq5 ((Tm.leafy_iff hS (by omega) (by omega) hx2).2 h)
          have hsp := Tm.sound_pair hS (k := i) (by omega) (by omega) hx2 hnl
          refine W.skip (by kernel_rfl) ?_
          refine At.then ?_
          refine W.seq (by kernel_rfl) ?_
          obtain ⟨n4, hn4⟩ : ∃ zz : Int, zz = min x2.Left x2.Right := ⟨_, rfl⟩
          obtain ⟨x3, hx3⟩ : ∃ zz : Fat Int, zz = paths.getD n4.toNat default := ⟨_, rfl⟩
          refine W.regV (rpath_ct_r21_10 v vv root b1 v1 K2 pathse i x2 b3 p7 n4 x3) [0, 1, 3, 8] [2, 4, 5, 6, 7] (fun G => [v1, .pointer (some ⟨b3, 3, none⟩), .pointer (some ⟨b3, 4, none⟩), x3.v]) (by kernel_rfl) mo_rb (by kernel_rfl) (fun _ _ => by kernel_rfl) ⟨?_, ?_, ?_, ?_, ?_, trivial⟩ (by kernel_rfl) ?_
          · exact One.loadE (t := 3) (r := 3) (off := 3) (b := fun G => b3) (vs := fun G => [.int .i64 x2.Left]) (arr := fun G => #[.string x2.Text, .int .i64 x2.Value, .int .i64 x2.Blind, .int .i64 x2.Left, .int .i64 x2.Right]) (T := 44) (fr := (0, 0)) (fun G => ⟨by kernel_rfl⟩) (fun G => by kernel_rfl)
          · exact One.loadE (t := 3) (r := 3) (off := 4) (b := fun G => b3) (vs := fun G => [.int .i64 x2.Right]) (arr := fun G => #[.string x2.Text, .int .i64 x2.Value, .int .i64 x2.Blind, .int .i64 x2.Left, .int .i64 x2.Right]) (T := 44) (fr := (0, 0)) (fun G => ⟨by kernel_rfl⟩) (fun G => by kernel_rfl)
          · exact One.eq (congrArg (Value.int .i64) ((min_if _ _).trans hn4.symm)) (fun _ _ => by kernel_rfl)
          · exact One.index (t := 47) (e := 26) (size := 1) (v := fun G => v1) (k := .i64) (n := n4) (fun _ => ⟨by kernel_rfl⟩) (fun G w hs => ⟨_, (hr3).isSl, by first | omega | (simp only [List.length_append, List.length_cons, List.length_nil, List.length_replicate, List.length_set, List.length_take, List.length_drop, List.length_map, List.length_reverse, List.length_range]; omega), by first | omega | (simp only [List.length_append, List.length_cons, List.length_nil, List.length_replicate, List.length_set, List.length_take, List.length_drop, List.length_map, List.length_reverse, List.length_range]; omega)⟩)
          · exact One.loadD (α := Fat Int) (t := 26) (size := 1) (off := 0) (k := n4) (l := fun G => paths) (x := fun G => x3) (vs := fun G => [x3.v]) (v := fun G => v1) (H := fun G => (hun (entH pathse) K2)) (p := fun G => elemAddr v1 (n4.toNat * 1)) (fun G => ⟨by kernel_rfl⟩) rfl (fun G => by kernel_rfl) (fun G w hs => ⟨(hun_agrees (entH_agrees (hs.own (r := 1) (e := pathse) (by kernel_rfl))) (hs.read 0 rfl)), ((hr3).read (hs.own (r := 1) (e := pathse) (by kernel_rfl)) (hs.read 0 rfl)), (add_zero' _).symm, by omega, by first | omega | (simp only [List.length_append, List.length_cons, List.length_nil, List.length_replicate, List.length_set, List.length_take, List.length_drop, List.length_map, List.length_reverse, List.length_range]; omega), hx3⟩)
          intro G11 xa xw hDn
          refine hDn.to [1, 3, 7, 8, 9, 10] [] (by kernel_rfl) ?_
          clear hDn
          refine Pre.conv (sl := [(1, .int .i64 root), (3, .pointer (some ⟨b1, 0, none⟩)), (7, v1), (8, .int .i64 i), (9, .pointer (some ⟨b3, 0, none⟩)), (10, x3.v)]) (A := [K2]) (L := [some (b1, .cells #[vv] 24 (0, 0)), pathse, none, some (b3, .cells #[.string x2.Text, .int .i64 x2.Value, .int .i64 x2.Blind, .int .i64 x2.Left, .int .i64 x2.Right] 44 (0, 0)), none, none]) ?_ (by kernel_rfl) (by kernel_rfl) (by kernel_rfl)
          clear G11
          have hr5 : RSl K2 x3.l x3.v := (hr3.goodAt (x := x3) (k := n4) (by first | omega | (simp only [List.length_append, List.length_cons, List.length_nil, List.length_replicate, List.length_set, List.length_take, List.length_drop, List.length_map, List.length_reverse, List.length_range]; omega)) (by omega) hx3)
          have hr5n := hr5.lim
          have gx1 : Dat.good K2 x3 := ((hr3).goodAt (x := x3) (k := n4) (by first | omega | (simp only [List.length_append, List.length_cons, List.length_nil, List.length_replicate, List.length_set, List.length_take, List.length_drop, List.length_map, List.length_reverse, List.length_range]; omega)) (by omega) hx3)
          have htA := fun n => Tm.tab_near hf3 (a := n4) (n := n) (by omega) (by omega) (by omega) hx3
          refine At.then ?_
          refine W.seq (by kernel_rfl) ?_
          obtain ⟨n5, hn5⟩ : ∃ zz : Int, zz = max x2.Left x2.Right := ⟨_, rfl⟩
          obtain ⟨x4, hx4⟩ : ∃ zz : Fat Int, zz = paths.getD n5.toNat default := ⟨_, rfl⟩
          refine W.regV (rpath_ct_r21_11 v vv root b1 v1 K2 pathse i x2 b3 x3 n5 x4) [0, 1, 3, 8] [2, 4, 5, 6, 7] (fun G => [v1, .pointer (some ⟨b3, 3, none⟩), .pointer (some ⟨b3, 4, none⟩), x4.v]) (by kernel_rfl) mo_rb (by kernel_rfl) (fun _ _ => by kernel_rfl) ⟨?_, ?_, ?_, ?_, ?_, trivial⟩ (by kernel_rfl) ?_
          · exact One.loadE (t := 3) (r := 3) (off := 3) (b := fun G => b3) (vs := fun G => [.int .i64 x2.Left]) (arr := fun G => #[.string x2.Text, .int .i64 x2.Value, .int .i64 x2.Blind, .int .i64 x2.Left, .int .i64 x2.Right]) (T := 44) (fr := (0, 0)) (fun G => ⟨by kernel_rfl⟩) (fun G => by kernel_rfl)
          · exact One.loadE (t := 3) (r := 3) (off := 4) (b := fun G => b3) (vs := fun G => [.int .i64 x2.Right]) (arr := fun G => #[.string x2.Text, .int .i64 x2.Value, .int .i64 x2.Blind, .int .i64 x2.Left, .int .i64 x2.Right]) (T := 44) (fr := (0, 0)) (fun G => ⟨by kernel_rfl⟩) (fun G => by kernel_rfl)
          · exact One.eq (congrArg (Value.int .i64) ((max_if _ _).trans hn5.symm)) (fun _ _ => by kernel_rfl)
          · exact One.index (t := 47) (e := 26) (size := 1) (v := fun G => v1) (k := .i64) (n := n5) (fun _ => ⟨by kernel_rfl⟩) (fun G w hs => ⟨_, (hr3).isSl, by first | omega | (simp only [List.length_append, List.length_cons, List.length_nil, List.length_replicate, List.length_set, List.length_take, List.length_drop, List.length_map, List.length_reverse, List.length_range]; omega), by first | omega | (simp only [List.length_append, List.length_cons, List.length_nil, List.length_replicate, List.length_set, List.length_take, List.length_drop, List.length_map, List.length_reverse, List.length_range]; omega)⟩)
          · exact One.loadD (α := Fat Int) (t := 26) (size := 1) (off := 0) (k := n5) (l := fun G => paths) (x := fun G => x4) (vs := fun G => [x4.v]) (v := fun G => v1) (H := fun G => (hun (entH pathse) K2)) (p := fun G => elemAddr v1 (n5.toNat * 1)) (fun G => ⟨by kernel_rfl⟩) rfl (fun G => by kernel_rfl) (fun G w hs => ⟨(hun_agrees (entH_agrees (hs.own (r := 1) (e := pathse) (by kernel_rfl))) (hs.read 0 rfl)), ((hr3).read (hs.own (r := 1) (e := pathse) (by kernel_rfl)) (hs.read 0 rfl)), (add_zero' _).symm, by omega, by first | omega | (simp only [List.length_append, List.length_cons, List.length_nil, List.length_replicate, List.length_set, List.length_take, List.length_drop, List.length_map, List.length_reverse, List.length_range]; omega), hx4⟩)
          intro G12 xa xw hDn
          refine hDn.to [1, 3, 7, 8, 10, 11] [] (by kernel_rfl) ?_
          clear hDn
          refine Pre.conv (sl := [(1, .int .i64 root), (3, .pointer (some ⟨b1, 0, none⟩)), (7, v1), (8, .int .i64 i), (10, x3.v), (11, x4.v)]) (A := [K2]) (L := [some (b1, .cells #[vv] 24 (0, 0)), pathse, none, some (b3, .cells #[.string x2.Text, .int .i64 x2.Value, .int .i64 x2.Blind, .int .i64 x2.Left, .int .i64 x2.Right] 44 (0, 0)), none, none]) ?_ (by kernel_rfl) (by kernel_rfl) (by kernel_rfl)
          clear G12
          have hr6 : RSl K2 x4.l x4.v := (hr3.goodAt (x := x4) (k := n5) (by first | omega | (simp only [List.length_append, List.length_cons, List.length_nil, List.length_replicate, List.length_set, List.length_take, List.length_drop, List.length_map, List.length_reverse, List.length_range]; omega)) (by omega) hx4)
          have hr6n := hr6.lim
          have gx2 : Dat.good K2 x4 := ((hr3).goodAt (x := x4) (k := n5) (by first | omega | (simp only [List.length_append, List.length_cons, List.length_nil, List.length_replicate, List.length_set, List.length_take, List.length_drop, List.length_map, List.length_reverse, List.length_range]; omega)) (by omega) hx4)
          have htB := fun n => Tm.tab_near hf3 (a := n5) (n := n) (by omega) (by omega) (by omega) hx4
          refine At.then ?_
          refine W.seq (by kernel_rfl) ?_
          obtain ⟨n6, hn6⟩ : ∃ zz : Int, zz = (x3.l.length : Int) := ⟨_, rfl⟩
          obtain ⟨p8, hp8⟩ : ∃ zz : Bool, zz = decide (0 < n6) := ⟨_, rfl⟩
          refine W.regV (rpath_ct_r21_12 v vv root b1 v1 K2 pathse i x2 b3 x3 x4 n6 p8) [0] [1, 2] (fun G => [x3.v]) (by kernel_rfl) mo_rb (by kernel_rfl) (fun _ _ => by kernel_rfl) ⟨?_, ?_, trivial⟩ (by kernel_rfl) ?_
          · exact One.len (t := 26) (n := n6) (v := fun G => x3.v) (fun _ => ⟨by kernel_rfl⟩) (fun G w hs => ⟨_, (gx1).isSl, hn6⟩)
          · exact One.bo hp8 (fun _ _ => by kernel_rfl)
          intro G13 xa xw hDn
          refine hDn.to [1, 3, 7, 8, 10, 11, 68] [] (by kernel_rfl) ?_
          clear hDn
          refine Pre.conv (sl := [(1, .int .i64 root), (3, .pointer (some ⟨b1, 0, none⟩)), (7, v1), (8, .int .i64 i), (10, x3.v), (11, x4.v), (68, .bool p8)]) (A := [K2]) (L := [some (b1, .cells #[vv] 24 (0, 0)), pathse, none, some (b3, .cells #[.string x2.Text, .int .i64 x2.Value, .int .i64 x2.Blind, .int .i64 x2.Left, .int .i64 x2.Right] 44 (0, 0)), none, none]) ?_ (by kernel_rfl) (by kernel_rfl) (by kernel_rfl)
          clear G13
          replace htA := htA _ hn6
          refine At.then ?_
          refine W.cond p8 (by kernel_rfl) (fun xa hs => cnd_of (t := 68) (by kernel_rfl) (by kernel_rfl) hs) (fun hq => ?_) (fun hq => ?_)
          · skip
            have hq6 := hq
            replace hq6 := (iN hp8 iDT).1 hq6
            obtain ⟨l2, hl2⟩ : ∃ zz : List Int, zz = ([i]) ++ x3.l := ⟨_, rfl⟩
            have hl2n := congrArg List.length hl2; try simp only [List.length_append, List.length_cons, List.length_nil, List.length_replicate, List.length_set, List.length_take, List.length_drop, List.length_map, List.length_reverse, List.length_range] at hl2n
            obtain ⟨x5, hx5⟩ : ∃ zz : Fat Int, zz = paths.getD i.toNat default := ⟨_, rfl⟩
            refine W.regV (rpath_ct_r21_13 v vv root b1 v1 K2 paths pathse i x2 b3 x3 x4 p8 l2) [0, 1, 2, 4] [3, 5, 6, 7] (fun G => [v1, .int .i64 i, .int .i64 i, x3.v]) (by kernel_rfl) mo_rb (by kernel_rfl) (fun _ _ => by kernel_rfl) ⟨?_, ?_, ?_, ?_, trivial⟩ (by kernel_rfl) ?_
            · exact One.new (r := 4) (T := 3) (fun b => .slice (some ⟨b, 0, none⟩) 1 1) (arr := fun G => #[.int .i64 i]) (fun G w => by kernel_rfl) (fun G b => by kernel_rfl)
            · exact One.appendD (α := Int) (t := 26) (E := 3) (size := 1) (bytes := 8) (r := 4) (l := fun G => [i]) (m := fun G => x3.l) (lm := fun G => l2) (v := fun G => .slice (some ⟨(G 3).b, 0, none⟩) 1 1) (x := fun G => x3.v) (e := fun G => (some ((G 3).b, .cells #[.int .i64 i] 3 (0, 0)))) (H := fun G => K2) (J := fun G => K2) (fun G g => ⟨by kernel_rfl, by kernel_rfl⟩) rfl (fun G w hs => ⟨(OSl.lit (α := Int) (E := 3) (n := 1) (H := K2) (l := [i]) (g := (G 3).b) (arr := #[.int .i64 i]) (fun _ _ => trivial) (by kernel_rfl)), (hs.read 0 rfl), gx1, (fun _ _ => trivial), hl2, by (try simp only [List.length_append, List.length_cons, List.length_nil, List.length_replicate, List.length_set, List.length_take, List.length_drop, List.length_map, List.length_reverse, List.length_range]); omega⟩)
            · exact One.index (t := 47) (e := 26) (size := 1) (v := fun G => v1) (k := .i64) (n := i) (fun _ => ⟨by kernel_rfl⟩) (fun G w hs => ⟨_, (hr3).isSl, by first | omega | (simp only [List.length_append, List.length_cons, List.length_nil, List.length_replicate, List.length_set, List.length_take, List.length_drop, List.length_map, List.length_reverse, List.length_range]; omega), by first | omega | (simp only [List.length_append, List.length_cons, List.length_nil, List.length_replicate, List.length_set, List.length_take, List.length_drop, List.length_map, List.length_reverse, List.length_range]; omega)⟩)
            · exact One.storeD (α := Fat Int) (t := 26) (r := 1) (E := 26) (size := 1) (off := 0) (k := i) (l := fun G => paths) (l' := fun G => (paths.set i.toNat ((⟨l2, (G 5).v⟩ : Fat Int)))) (x := fun G => x5) (x' := fun G => (⟨l2, (G 5).v⟩ : Fat Int)) (u := fun G => (G 5).v) (vs := fun G => [(G 5).v]) (v := fun G => v1) (e := fun G => pathse) (p := fun G => elemAddr v1 (i.toNat * 1)) (H := fun G => (hun K2 (hun (entH ((G 5).e)) K2))) (fun G g => ⟨by kernel_rfl, by kernel_rfl⟩) rfl (fun G => by kernel_rfl) (fun G w hs => by
                have ho5 : OSl 3 K2 l2 (G 5).v (G 5).e := hs.get 5 (by kernel_rfl) (p := true) (by kernel_rfl) rfl (by kernel_rfl)
                exact ⟨((hr3).mono hun_left), (add_zero' _).symm, by omega, by first | omega | (simp only [List.length_append, List.length_cons, List.length_nil, List.length_replicate, List.length_set, List.length_take, List.length_drop, List.length_map, List.length_reverse, List.length_range]; omega), hx5, rfl, cell1_cells (ho5).cell1, (all_cons1 (ho5).cell1 rfl), ((((ho5).read (hs.own (r := 4) (e := (G 5).e) (by kernel_rfl)) (hs.read 0 rfl))).mono (hun_right (hs.read 0 rfl) (hun_agrees (entH_agrees (hs.own (r := 4) (e := (G 5).e) (by kernel_rfl))) (hs.read 0 rfl))))⟩)
            intro G14 xa xw hDn
            have hf7_6 : OSl 26 ((hun K2 (hun (entH ((G14 5).e)) K2))) ((paths.set i.toNat ((⟨l2, (G14 5).v⟩ : Fat Int)))) v1 (G14 7).e := hDn.get 7 (by kernel_rfl) (by kernel_rfl) (by kernel_rfl)
            refine hDn.to [1, 3, 7, 8] [] (by kernel_rfl) ?_
            clear hDn
            refine Pre.conv (sl := [(1, .int .i64 root), (3, .pointer (some ⟨b1, 0, none⟩)), (7, v1), (8, .int .i64 i)]) (A := [K2]) (L := [some (b1, .cells #[vv] 24 (0, 0)), (G14 7).e, none, some (b3, .cells #[.string x2.Text, .int .i64 x2.Value, .int .i64 x2.Blind, .int .i64 x2.Left, .int .i64 x2.Right] 44 (0, 0)), (G14 5).e, none]) ?_ (by kernel_rfl) (by kernel_rfl) (by kernel_rfl)
            generalize (G14 7).e = e3 at hf7_6 ⊢
            generalize (G14 5).e = e4 at hf7_6 ⊢
            generalize (G14 5).v = v2 at hf7_6 ⊢
            clear G14
            refine Pre.freeze 4 (e := e4) (by kernel_rfl) hE2 (fun K3 hk4 hk5 hE3 => ?_)
            refine Pre.conv (L := [some (b1, .cells #[vv] 24 (0, 0)), e3, none, some (b3, .cells #[.string x2.Text, .int .i64 x2.Value, .int .i64 x2.Blind, .int .i64 x2.Left, .int .i64 x2.Right] 44 (0, 0)), none, none]) ?_ rfl rfl (by kernel_rfl)
            have hr7 := (hf7_6).mono (hun_sub (((Sub.refl _)).trans hk4) (hun_sub hk5 (((Sub.refl _)).trans hk4)))
            have hr7n := hr7.lim
            have hr8 := (hr4).mono (((Sub.refl _)).trans hk4)
            have hr8n := hr8.lim
            have gx3 := Dat.mono _ _ _ (((Sub.refl _)).trans hk4) gx1
            have gx4 := Dat.mono _ _ _ (((Sub.refl _)).trans hk4) gx2
            refine At.blockNormal ?_
            refine At.then ?_
            obtain ⟨n7, hn7⟩ : ∃ zz : Int, zz = i + 1 := ⟨_, rfl⟩
            refine W.regV (rpath_ct_r21_14 vv root b1 v1 i x2 b3 e3 K3 n7) [0, 2] [1] (fun G => [.int .i64 i, .int .i64 n7]) (by kernel_rfl) mo_rb (by kernel_rfl) (fun _ _ => by kernel_rfl) ⟨?_, trivial⟩ (by kernel_rfl) ?_
            · exact One.ar hn7 (fun _ _ => by kernel_rfl) (fun G w hs => by omega)
            intro G15 xa xw hDn
            refine hDn.to [1, 3, 7, 8] [] (by kernel_rfl) ?_
            clear hDn
            refine Pre.conv (sl := [(1, .int .i64 root), (3, .pointer (some ⟨b1, 0, none⟩)), (7, v1), (8, .int .i64 n7)]) (A := [K3]) (L := [some (b1, .cells #[vv] 24 (0, 0)), e3, none, some (b3, .cells #[.string x2.Text, .int .i64 x2.Value, .int .i64 x2.Blind, .int .i64 x2.Left, .int .i64 x2.Right] 44 (0, 0)), none, none]) ?_ (by kernel_rfl) (by kernel_rfl) (by kernel_rfl)
            clear G15
            intro xa xw hs hw
            refine ⟨(K3, (paths.set i.toNat ((⟨l2, v2⟩ : Fat Int))), e3, n7), ⟨hs.sub (by kernel_rfl), hw.mask [true, true, false, false, false, false] (by kernel_rfl), ?_⟩, ?_⟩
            · skip
              refine ⟨(hk3).trans ((((Sub.refl _)).trans hk4)), hE3, hr7, ?_, ?_, ?_⟩
              · show Tm.tabOK v leaf ((paths.set i.toNat ((⟨l2, v2⟩ : Fat Int)))) n7
                exact Tm.tab_set (a := n4) (b := n5) (c := n4) hS hf3 (by omega) (by omega) (by omega) (by assumption) (by assumption) hnl (by assumption) (by assumption) (.inl ⟨rfl, htA.1.1 (by omega)⟩) (by rw [hl2, htA.2.1 (by omega)]; rfl) rfl
              · show leaf < n7
                omega
              · show root < n7 ∨ n7 ≤ root + 1
                omega
            · show (root + 1 - n7).toNat < (root + 1 - i).toNat
              omega
          · skip
            have hq7 := hq
            replace hq7 := (iN hp8 iDF).1 hq7
            refine W.seq (by kernel_rfl) ?_
            obtain ⟨n8, hn8⟩ : ∃ zz : Int, zz = (x4.l.length : Int) := ⟨_, rfl⟩
            obtain ⟨p9, hp9⟩ : ∃ zz : Bool, zz = decide (0 < n8) := ⟨_, rfl⟩
            refine W.regV (rpath_ct_r21_15 v vv root b1 v1 K2 pathse i x2 b3 x3 x4 p8 n8 p9) [0] [1, 2] (fun G => [x4.v]) (by kernel_rfl) mo_rb (by kernel_rfl) (fun _ _ => by kernel_rfl) ⟨?_, ?_, trivial⟩ (by kernel_rfl) ?_
            · exact One.len (t := 26) (n := n8) (v := fun G => x4.v) (fun _ => ⟨by kernel_rfl⟩) (fun G w hs => ⟨_, (gx2).isSl, hn8⟩)
            · exact One.bo hp9 (fun _ _ => by kernel_rfl)
            intro G16 xa xw hDn
            refine hDn.to [1, 3, 7, 8, 11, 78] [] (by kernel_rfl) ?_
            clear hDn
            refine Pre.conv (sl := [(1, .int .i64 root), (3, .pointer (some ⟨b1, 0, none⟩)), (7, v1), (8, .int .i64 i), (11, x4.v), (78, .bool p9)]) (A := [K2]) (L := [some (b1, .cells #[vv] 24 (0, 0)), pathse, none, some (b3, .cells #[.string x2.Text, .int .i64 x2.Value, .int .i64 x2.Blind, .int .i64 x2.Left, .int .i64 x2.Right] 44 (0, 0)), none, none]) ?_ (by kernel_rfl) (by kernel_rfl) (by kernel_rfl)
            clear G16
            replace htB := htB _ hn8
            refine At.then ?_
            refine W.cond p9 (by kernel_rfl) (fun xa hs => cnd_of (t := 78) (by kernel_rfl) (by kernel_rfl) hs) (fun hq => ?_) (fun hq => ?_)
            · skip
              have hq8 := hq
              replace hq8 := (iN hp9 iDT).1 hq8
              obtain ⟨l3, hl3⟩ : ∃ zz : List Int, zz = ([i]) ++ x4.l := ⟨_, rfl⟩
              have hl3n := congrArg List.length hl3; try simp only [List.length_append, List.length_cons, List.length_nil, List.length_replicate, List.length_set, List.length_take, List.length_drop, List.length_map, List.length_reverse, List.length_range] at hl3n
              obtain ⟨x6, hx6⟩ : ∃ zz : Fat Int, zz = paths.getD i.toNat default := ⟨_, rfl⟩
              refine W.regV (rpath_ct_r21_16 v vv root b1 v1 K2 paths pathse i x2 b3 x4 p9 l3) [0, 1, 2, 4] [3, 5, 6, 7] (fun G => [v1, .int .i64 i, .int .i64 i, x4.v]) (by kernel_rfl) mo_rb (by kernel_rfl) (fun _ _ => by kernel_rfl) ⟨?_, ?_, ?_, ?_, trivial⟩ (by kernel_rfl) ?_
              · exact One.new (r := 5) (T := 3) (fun b => .slice (some ⟨b, 0, none⟩) 1 1) (arr := fun G => #[.int .i64 i]) (fun G w => by kernel_rfl) (fun G b => by kernel_rfl)
              · exact One.appendD (α := Int) (t := 26) (E := 3) (size := 1) (bytes := 8) (r := 5) (l := fun G => [i]) (m := fun G => x4.l) (lm := fun G => l3) (v := fun G => .slice (some ⟨(G 3).b, 0, none⟩) 1 1) (x := fun G => x4.v) (e := fun G => (some ((G 3).b, .cells #[.int .i64 i] 3 (0, 0)))) (H := fun G => K2) (J := fun G => K2) (fun G g => ⟨by kernel_rfl, by kernel_rfl⟩) rfl (fun G w hs => ⟨(OSl.lit (α := Int) (E := 3) (n := 1) (H := K2) (l := [i]) (g := (G 3).b) (arr := #[.int .i64 i]) (fun _ _ => trivial) (by kernel_rfl)), (hs.read 0 rfl), gx2, (fun _ _ => trivial), hl3, by (try simp only [List.length_append, List.length_cons, List.length_nil, List.length_replicate, List.length_set, List.length_take, List.length_drop, List.length_map, List.length_reverse, List.length_range]); omega⟩)
              · exact One.index (t := 47) (e := 26) (size := 1) (v := fun G => v1) (k := .i64) (n := i) (fun _ => ⟨by kernel_rfl⟩) (fun G w hs => ⟨_, (hr3).isSl, by first | omega | (simp only [List.length_append, List.length_cons, List.length_nil, List.length_replicate, List.length_set, List.length_take, List.length_drop, List.length_map, List.length_reverse, List.length_range]; omega), by first | omega | (simp only [List.length_append, List.length_cons, List.length_nil, List.length_replicate, List.length_set, List.length_take, List.length_drop, List.length_map, List.length_reverse, List.length_range]; omega)⟩)
              · exact One.storeD (α := Fat Int) (t := 26) (r := 1) (E := 26) (size := 1) (off := 0) (k := i) (l := fun G => paths) (l' := fun G => (paths.set i.toNat ((⟨l3, (G 5).v⟩ : Fat Int)))) (x := fun G => x6) (x' := fun G => (⟨l3, (G 5).v⟩ : Fat Int)) (u := fun G => (G 5).v) (vs := fun G => [(G 5).v]) (v := fun G => v1) (e := fun G => pathse) (p := fun G => elemAddr v1 (i.toNat * 1)) (H := fun G => (hun K2 (hun (entH ((G 5).e)) K2))) (fun G g => ⟨by kernel_rfl, by kernel_rfl⟩) rfl (fun G => by kernel_rfl) (fun G w hs => by
                  have ho5 : OSl 3 K2 l3 (G 5).v (G 5).e := hs.get 5 (by kernel_rfl) (p := true) (by kernel_rfl) rfl (by kernel_rfl)
                  exact ⟨((hr3).mono hun_left), (add_zero' _).symm, by omega, by first | omega | (simp only [List.length_append, List.length_cons, List.length_nil, List.length_replicate, List.length_set, List.length_take, List.length_drop, List.length_map, List.length_reverse, List.length_range]; omega), hx6, rfl, cell1_cells (ho5).cell1, (all_cons1 (ho5).cell1 rfl), ((((ho5).read (hs.own (r := 5) (e := (G 5).e) (by kernel_rfl)) (hs.read 0 rfl))).mono (hun_right (hs.read 0 rfl) (hun_agrees (entH_agrees (hs.own (r := 5) (e := (G 5).e) (by kernel_rfl))) (hs.read 0 rfl))))⟩)
              intro G17 xa xw hDn
              have hf7_7 : OSl 26 ((hun K2 (hun (entH ((G17 5).e)) K2))) ((paths.set i.toNat ((⟨l3, (G17 5).v⟩ : Fat Int)))) v1 (G17 7).e := hDn.get 7 (by kernel_rfl) (by kernel_rfl) (by kernel_rfl)
              refine hDn.to [1, 3, 7, 8] [] (by kernel_rfl) ?_
              clear hDn
              refine Pre.conv (sl := [(1, .int .i64 root), (3, .pointer (some ⟨b1, 0, none⟩)), (7, v1), (8, .int .i64 i)]) (A := [K2]) (L := [some (b1, .cells #[vv] 24 (0, 0)), (G17 7).e, none, some (b3, .cells #[.string x2.Text, .int .i64 x2.Value, .int .i64 x2.Blind, .int .i64 x2.Left, .int .i64 x2.Right] 44 (0, 0)), none, (G17 5).e]) ?_ (by kernel_rfl) (by kernel_rfl) (by kernel_rfl)
              generalize (G17 7).e = e5 at hf7_7 ⊢
              generalize (G17 5).e = e6 at hf7_7 ⊢
              generalize (G17 5).v = v3 at hf7_7 ⊢
              clear G17
              refine Pre.freeze 5 (e := e6) (by kernel_rfl) hE2 (fun K4 hk6 hk7 hE4 => ?_)
              refine Pre.conv (L := [some (b1, .cells #[vv] 24 (0, 0)), e5, none, some (b3, .cells #[.string x2.Text, .int .i64 x2.Value, .int .i64 x2.Blind, .int .i64 x2.Left, .int .i64 x2.Right] 44 (0, 0)), none, none]) ?_ rfl rfl (by kernel_rfl)
              have hr9 := (hf7_7).mono (hun_sub (((Sub.refl _)).trans hk6) (hun_sub hk7 (((Sub.refl _)).trans hk6)))
              have hr9n := hr9.lim
              have hr10 := (hr4).mono (((Sub.refl _)).trans hk6)
              have hr10n := hr10.lim
              have gx5 := Dat.mono _ _ _ (((Sub.refl _)).trans hk6) gx1
              have gx6 := Dat.mono _ _ _ (((Sub.refl _)).trans hk6) gx2
              refine At.blockNormal ?_
              refine At.then ?_
              obtain ⟨n9, hn9⟩ : ∃ zz : Int, zz = i + 1 := ⟨_, rfl⟩
              refine W.regV (rpath_ct_r21_17 vv root b1 v1 i x2 b3 e5 K4 n9) [0, 2] [1] (fun G => [.int .i64 i, .int .i64 n9]) (by kernel_rfl) mo_rb (by kernel_rfl) (fun _ _ => by kernel_rfl) ⟨?_, trivial⟩ (by kernel_rfl) ?_
              · exact One.ar hn9 (fun _ _ => by kernel_rfl) (fun G w hs => by omega)
              intro G18 xa xw hDn
              refine hDn.to [1, 3, 7, 8] [] (by kernel_rfl) ?_
              clear hDn
              refine Pre.conv (sl := [(1, .int .i64 root), (3, .pointer (some ⟨b1, 0, none⟩)), (7, v1), (8, .int .i64 n9)]) (A := [K4]) (L := [some (b1, .cells #[vv] 24 (0, 0)), e5, none, some (b3, .cells #[.string x2.Text, .int .i64 x2.Value, .int .i64 x2.Blind, .int .i64 x2.Left, .int .i64 x2.Right] 44 (0, 0)), none, none]) ?_ (by kernel_rfl) (by kernel_rfl) (by kernel_rfl)
              clear G18
              intro xa xw hs hw
              refine ⟨(K4, (paths.set i.toNat ((⟨l3, v3⟩ : Fat Int))), e5, n9), ⟨hs.sub (by kernel_rfl), hw.mask [true, true, false, false, false, false] (by kernel_rfl), ?_⟩, ?_⟩
              · skip
                refine ⟨(hk3).trans ((((Sub.refl _)).trans hk6)), hE4, hr9, ?_, ?_, ?_⟩
                · show Tm.tabOK v leaf ((paths.set i.toNat ((⟨l3, v3⟩ : Fat Int)))) n9
                  exact Tm.tab_set (a := n4) (b := n5) (c := n5) hS hf3 (by omega) (by omega) (by omega) (by assumption) (by assumption) hnl (by assumption) (by assumption) (.inr ⟨rfl, fun h => by have := htA.1.2 h; omega, htB.1.1 (by omega)⟩) (by rw [hl3, htB.2.1 (by omega)]; rfl) rfl
                · show leaf < n9
                  omega
                · show root < n9 ∨ n9 ≤ root + 1
                  omega
              · show (root + 1 - n9).toNat < (root + 1 - i).toNat
                omega
            · skip
              have hq9 := hq
              replace hq9 := (iN hp9 iDF).1 hq9
              refine W.skip (by kernel_rfl) ?_
              refine At.blockNormal ?_
              refine At.then ?_
              obtain ⟨n10, hn10⟩ : ∃ zz : Int, zz = i + 1 := ⟨_, rfl⟩
              refine W.regV (rpath_ct_r21_18 v vv root b1 v1 K2 pathse i x2 b3 x4 p9 n10) [0, 2] [1] (fun G => [.int .i64 i, .int .i64 n10]) (by kernel_rfl) mo_rb (by kernel_rfl) (fun _ _ => by kernel_rfl) ⟨?_, trivial⟩ (by kernel_rfl) ?_
              · exact One.ar hn10 (fun _ _ => by kernel_rfl) (fun G w hs => by omega)
              intro G19 xa xw hDn
              refine hDn.to [1, 3, 7, 8] [] (by kernel_rfl) ?_
              clear hDn
              refine Pre.conv (sl := [(1, .int .i64 root), (3, .pointer (some ⟨b1, 0, none⟩)), (7, v1), (8, .int .i64 n10)]) (A := [K2]) (L := [some (b1, .cells #[vv] 24 (0, 0)), pathse, none, some (b3, .cells #[.string x2.Text, .int .i64 x2.Value, .int .i64 x2.Blind, .int .i64 x2.Left, .int .i64 x2.Right] 44 (0, 0)), none, none]) ?_ (by kernel_rfl) (by kernel_rfl) (by kernel_rfl)
              clear G19
              intro xa xw hs hw
              refine ⟨(K2, paths, pathse, n10), ⟨hs.sub (by kernel_rfl), hw.mask [true, true, false, false, false, false] (by kernel_rfl), ?_⟩, ?_⟩
              · skip
                refine ⟨(hk3).trans ((Sub.refl _)), hE2, hr3, ?_, ?_, ?_⟩
                · show Tm.tabOK v leaf paths n10
                  exact Tm.tab_none (a := n4) (b := n5) hS hf3 (by omega) (by omega) (by omega) (by assumption) (by assumption) hnl (by assumption) (by assumption) (fun h => by have := htA.1.2 h; omega) (fun h => by have := htB.1.2 h; omega)
                · show leaf < n10
                  omega
                · show root < n10 ∨ n10 ≤ root + 1
                  omega
              · show (root + 1 - n10).toNat < (root + 1 - i).toNat
                omega
      · skip
        have hq10 := hq
        replace hq10 := (iN hp6 iDF).1 hq10
        refine W.exit 0 (by kernel_rfl) ?_
        refine At.thenExit ?_
        refine At.thenExit ?_
        refine At.blockHit ?_
        refine At.then ?_
        refine W.seq (by kernel_rfl) ?_
        obtain ⟨x7, hx7⟩ : ∃ zz : Fat Int, zz = paths.getD root.toNat default := ⟨_, rfl⟩
        refine W.regV (rpath_ct_r21_19 v vv root b1 v1 K2 pathse i p6 x7) [0, 1, 4] [2, 3] (fun G => [v1, .int .i64 root, x7.v]) (by kernel_rfl) mo_rb (by kernel_rfl) (fun _ _ => by kernel_rfl) ⟨?_, ?_, trivial⟩ (by kernel_rfl) ?_
        · exact One.index (t := 47) (e := 26) (size := 1) (v := fun G => v1) (k := .i64) (n := root) (fun _ => ⟨by kernel_rfl⟩) (fun G w hs => ⟨_, (hr3).isSl, by first | omega | (simp only [List.length_append, List.length_cons, List.length_nil, List.length_replicate, List.length_set, List.length_take, List.length_drop, List.length_map, List.length_reverse, List.length_range]; omega), by first | omega | (simp only [List.length_append, List.length_cons, List.length_nil, List.length_replicate, List.length_set, List.length_take, List.length_drop, List.length_map, List.length_reverse, List.length_range]; omega)⟩)
        · exact One.loadD (α := Fat Int) (t := 26) (size := 1) (off := 0) (k := root) (l := fun G => paths) (x := fun G => x7) (vs := fun G => [x7.v]) (v := fun G => v1) (H := fun G => (hun (entH pathse) K2)) (p := fun G => elemAddr v1 (root.toNat * 1)) (fun G => ⟨by kernel_rfl⟩) rfl (fun G => by kernel_rfl) (fun G w hs => ⟨(hun_agrees (entH_agrees (hs.own (r := 1) (e := pathse) (by kernel_rfl))) (hs.read 0 rfl)), ((hr3).read (hs.own (r := 1) (e := pathse) (by kernel_rfl)) (hs.read 0 rfl)), (add_zero' _).symm, by omega, by first | omega | (simp only [List.length_append, List.length_cons, List.length_nil, List.length_replicate, List.length_set, List.length_take, List.length_drop, List.length_map, List.length_reverse, List.length_range]; omega), hx7⟩)
        intro G20 xa xw hDn
        refine hDn.to [6] [] (by kernel_rfl) ?_
        clear hDn
        refine Pre.conv (sl := [(6, x7.v)]) (A := [K2]) (L := [some (b1, .cells #[vv] 24 (0, 0)), pathse, none, none, none, none]) ?_ (by kernel_rfl) (by kernel_rfl) (by kernel_rfl)
        clear G20
        have hr11 : RSl K2 x7.l x7.v := (hr3.goodAt (x := x7) (k := root) (by first | omega | (simp only [List.length_append, List.length_cons, List.length_nil, List.length_replicate, List.length_set, List.length_take, List.length_drop, List.length_map, List.length_reverse, List.length_range]; omega)) (by omega) hx7)
        have hr11n := hr11.lim
        have gx7 : Dat.good K2 x7 := ((hr3).goodAt (x := x7) (k := root) (by first | omega | (simp only [List.length_append, List.length_cons, List.length_nil, List.length_replicate, List.length_set, List.length_take, List.length_drop, List.length_map, List.length_reverse, List.length_range]; omega)) (by omega) hx7)
        refine At.then ?_
        refine W.ret (by kernel_rfl) ?_
        refine At.results (Or.inl rfl) (x7.v) (fun xa xw hs hw => results_one (r := .tmp 6) (by kernel_rfl) (res_tmp (t := 6) (by kernel_rfl) hs)) (fun w' hw => ?_)
        have e0 : x7.l = (Tm.pathF v root leaf) := by
          exact Tm.tab_end hS hf3 (by omega) (by omega) (by omega) (by assumption)
        exact Makes.ret x7.v undef undef hA hE2 hw (fun N => rfl) (fun N J hJ => (e0 ▸ (gx7).mono hJ))

end Kb
