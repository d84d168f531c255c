/- What each function of the calendar, and of its reference, returns. Printed by a program of our own (kb.py); each step is checked by Lean. -/
import Derived.Test.YthkocilclhjokaaKb
import Derived.Test.YthkocilclhjokaaBef
import Derived.Test.YthkocilclhjokaaMath
namespace Go.Proofs.Ythkocilclhjokaa
open Kb
set_option linter.unusedVariables false
theorem mo : Try.prog.follows .mixedOrders = true := by kernel_rfl
noncomputable def r20_0 (d : Int) : RC := { ops := opsAt Try.f20 0, B := [0], sl := [(0, .int .i64 d)], A := [], L := [], cs := [{ val := fun _ => .bool false }] }
noncomputable def r20_1 (d : Int) (p1 p2 p3 : Bool) : RC := { ops := opsAt Try.f20 1, B := [0, 1, 3, 7, 15, 31, 63], sl := [(0, .int .i64 d), (2, .bool false)], A := [], L := [], cs := [{ val := fun _ => .int .i64 d }, { val := fun _ => .bool p1 }, { val := fun _ => .bool p1 }, { val := fun _ => .int .i64 d }, { val := fun _ => .bool p2 }, { val := fun _ => .bool p3 }, { val := fun _ => .bool p3 }] }
theorem valid_ct (d : Int) (w : World) :
    Calls Try.prog 20 #[.int .i64 d] w (fun e w' => e = .returned (.bool (Cal.validB d)) ∧ Base [] w w') := by
  refine calls_of_W (sl := [(0, .int .i64 d)]) (A := []) (L := []) Try.func20 (by kernel_rfl) 9 (by kernel_rfl) (by kernel_rfl) (fun _ h => by cases h) (by simp) ?_
  refine W.seq (by kernel_rfl) ?_
  refine W.reg (r20_0 d) [0] [] (by kernel_rfl) mo (by kernel_rfl) (fun _ _ => by kernel_rfl) trivial (by kernel_rfl) ?_
  intro G1 xa xw hDn
  refine hDn.to [0, 2] [] (by kernel_rfl) ?_
  refine At.then ?_
  refine W.seq (by kernel_rfl) ?_
  obtain ⟨p1, hp1⟩ : ∃ x : Bool, x = decide (0 ≤ d) := ⟨_, rfl⟩
  obtain ⟨p2, hp2⟩ : ∃ x : Bool, x = decide (d ≤ 100000) := ⟨_, rfl⟩
  obtain ⟨p3, hp3⟩ : ∃ x : Bool, x = (p1 && p2) := ⟨_, rfl⟩
  refine W.reg (r20_1 d p1 p2 p3) [0, 2, 3, 6] [1, 4, 5] (by kernel_rfl) mo (by kernel_rfl) (fun _ _ => by kernel_rfl) ⟨?_, ?_, ?_, trivial⟩ (by kernel_rfl) ?_
  · exact One.bo hp1 (fun _ _ => by kernel_rfl)
  · exact One.bo hp2 (fun _ _ => by kernel_rfl)
  · subst hp3
    cases p1 <;> exact One.under fun _ _ _ => by kernel_rfl
  intro G2 xa xw hDn
  refine hDn.to [2] [] (by kernel_rfl) ?_
  refine At.then ?_
  refine W.ret (by kernel_rfl) ?_
  refine At.results (Or.inl rfl) (.bool p3) (fun xa xw hs hw => results_one (r := .tmp 2) (by kernel_rfl) (res_tmp (t := 2) (by kernel_rfl) hs)) (fun w' hw => ?_)
  exact ⟨retb (by rw [Bool.eq_iff_iff, (iN hp3 (iAT (iN hp1 iDT) (iN hp2 iDT))), Cal.valid_iff]), hw.base⟩

noncomputable def r22_0 (d : Int) : RC := { ops := opsAt Try.f22 0, B := [0], sl := [(0, .int .i64 d)], A := [], L := [], cs := [{ val := fun _ => .bool false }] }
noncomputable def r22_1 (d : Int) (p1 p2 p3 : Bool) : RC := { ops := opsAt Try.f22 1, B := [0, 1, 3, 7, 15, 31, 63], sl := [(0, .int .i64 d), (2, .bool false)], A := [], L := [], cs := [{ val := fun _ => .int .i64 d }, { val := fun _ => .bool p1 }, { val := fun _ => .bool p1 }, { val := fun _ => .int .i64 d }, { val := fun _ => .bool p2 }, { val := fun _ => .bool p3 }, { val := fun _ => .bool p3 }] }
theorem validR_ct (d : Int) (w : World) :
    Calls Try.prog 22 #[.int .i64 d] w (fun e w' => e = .returned (.bool (Cal.validB d)) ∧ Base [] w w') := by
  refine calls_of_W (sl := [(0, .int .i64 d)]) (A := []) (L := []) Try.func22 (by kernel_rfl) 9 (by kernel_rfl) (by kernel_rfl) (fun _ h => by cases h) (by simp) ?_
  refine W.seq (by kernel_rfl) ?_
  refine W.reg (r22_0 d) [0] [] (by kernel_rfl) mo (by kernel_rfl) (fun _ _ => by kernel_rfl) trivial (by kernel_rfl) ?_
  intro G1 xa xw hDn
  refine hDn.to [0, 2] [] (by kernel_rfl) ?_
  refine At.then ?_
  refine W.seq (by kernel_rfl) ?_
  obtain ⟨p1, hp1⟩ : ∃ x : Bool, x = decide (0 ≤ d) := ⟨_, rfl⟩
  obtain ⟨p2, hp2⟩ : ∃ x : Bool, x = decide (d ≤ 100000) := ⟨_, rfl⟩
  obtain ⟨p3, hp3⟩ : ∃ x : Bool, x = (p1 && p2) := ⟨_, rfl⟩
  refine W.reg (r22_1 d p1 p2 p3) [0, 2, 3, 6] [1, 4, 5] (by kernel_rfl) mo (by kernel_rfl) (fun _ _ => by kernel_rfl) ⟨?_, ?_, ?_, trivial⟩ (by kernel_rfl) ?_
  · exact One.bo hp1 (fun _ _ => by kernel_rfl)
  · exact One.bo hp2 (fun _ _ => by kernel_rfl)
  · subst hp3
    cases p1 <;> exact One.under fun _ _ _ => by kernel_rfl
  intro G2 xa xw hDn
  refine hDn.to [2] [] (by kernel_rfl) ?_
  refine At.then ?_
  refine W.ret (by kernel_rfl) ?_
  refine At.results (Or.inl rfl) (.bool p3) (fun xa xw hs hw => results_one (r := .tmp 2) (by kernel_rfl) (res_tmp (t := 2) (by kernel_rfl) hs)) (fun w' hw => ?_)
  exact ⟨retb (by rw [Bool.eq_iff_iff, (iN hp3 (iAT (iN hp1 iDT) (iN hp2 iDT))), Cal.valid_iff]), hw.base⟩

noncomputable def r25_0 (y : Int) : RC := { ops := opsAt Try.f25 0, B := [0], sl := [(0, .int .i64 y)], A := [], L := [], cs := [{ val := fun _ => .bool false }] }
noncomputable def r25_1 (y n1 : Int) (p1 : Bool) (n2 : Int) (p2 : Bool) (n3 : Int) (p3 p4 p5 : Bool) : RC := { ops := opsAt Try.f25 1, B := [0, 1, 3, 7, 15, 31, 63, 127, 255, 511, 1023, 2047, 4095, 8191], sl := [(0, .int .i64 y), (2, .bool false)], A := [], L := [], cs := [{ val := fun _ => .int .i64 y }, { val := fun _ => .int .i64 n1 }, { val := fun _ => .bool p1 }, { val := fun _ => .bool p1 }, { val := fun _ => .int .i64 y }, { val := fun _ => .int .i64 n2 }, { val := fun _ => .bool p2 }, { val := fun _ => .bool p2 }, { val := fun _ => .int .i64 y }, { val := fun _ => .int .i64 n3 }, { val := fun _ => .bool p3 }, { val := fun _ => .bool p4 }, { val := fun _ => .bool p5 }, { val := fun _ => .bool p5 }] }
theorem leap_ct (y : Int) (h0 : 0 ≤ y) (w : World) :
    Calls Try.prog 25 #[.int .i64 y] w (fun e w' => e = .returned (.bool (decide (Cal.leapP y))) ∧ Base [] w w') := by
  refine calls_of_W (sl := [(0, .int .i64 y)]) (A := []) (L := []) Try.func25 (by kernel_rfl) 16 (by kernel_rfl) (by kernel_rfl) (fun _ h => by cases h) (by simp) ?_
  refine W.seq (by kernel_rfl) ?_
  refine W.reg (r25_0 y) [0] [] (by kernel_rfl) mo (by kernel_rfl) (fun _ _ => by kernel_rfl) trivial (by kernel_rfl) ?_
  intro G1 xa xw hDn
  refine hDn.to [0, 2] [] (by kernel_rfl) ?_
  refine At.then ?_
  refine W.seq (by kernel_rfl) ?_
  obtain ⟨n1, hn1⟩ : ∃ x : Int, x = y % 4 := ⟨_, rfl⟩
  obtain ⟨p1, hp1⟩ : ∃ x : Bool, x = decide (n1 = 0) := ⟨_, rfl⟩
  obtain ⟨n2, hn2⟩ : ∃ x : Int, x = y % 100 := ⟨_, rfl⟩
  obtain ⟨p2, hp2⟩ : ∃ x : Bool, x = !(decide (n2 = 0)) := ⟨_, rfl⟩
  obtain ⟨n3, hn3⟩ : ∃ x : Int, x = y % 400 := ⟨_, rfl⟩
  obtain ⟨p3, hp3⟩ : ∃ x : Bool, x = decide (n3 = 0) := ⟨_, rfl⟩
  obtain ⟨p4, hp4⟩ : ∃ x : Bool, x = (p2 || p3) := ⟨_, rfl⟩
  obtain ⟨p5, hp5⟩ : ∃ x : Bool, x = (p1 && p4) := ⟨_, rfl⟩
  refine W.reg (r25_1 y n1 p1 n2 p2 n3 p3 p4 p5) [0, 3, 4, 7, 8, 13] [1, 2, 5, 6, 9, 10, 11, 12] (by kernel_rfl) mo (by kernel_rfl) (fun _ _ => by kernel_rfl) ⟨?_, ?_, ?_, ?_, ?_, ?_, ?_, ?_, trivial⟩ (by kernel_rfl) ?_
  · exact One.rem hn1 (fun _ _ => by kernel_rfl) (fun _ _ _ => by omega)
  · exact One.bo hp1 (fun _ _ => by kernel_rfl)
  · exact One.rem hn2 (fun _ _ => by kernel_rfl) (fun G w hs => by
      have hg := gd_of hs (p := (true && (p1 == true))) (by kernel_rfl)
      have hg0 := (iN hp1 iDT).1 (eqT (andR hg))
      exact by omega)
  · exact One.bo hp2 (fun _ _ => by kernel_rfl)
  · exact One.rem hn3 (fun _ _ => by kernel_rfl) (fun G w hs => by
      have hg := gd_of hs (p := ((true && (p1 == true)) && (p2 == false))) (by kernel_rfl)
      have hg0 := (iN hp2 (iNF iDT)).1 (eqF (andR hg))
      have hg1 := (iN hp1 iDT).1 (eqT (andR (andL hg)))
      exact by omega)
  · exact One.bo hp3 (fun _ _ => by kernel_rfl)
  · subst hp4
    refine One.under fun G w hs => ?_
    revert hs
    cases p2
    · cases p1
      · intro hs; exact absurd hs.gd (by rw [show RC.gd _ _ 11 = false from by kernel_rfl]; decide)
      · intro _; kernel_rfl
    · cases p1
      · intro hs; exact absurd hs.gd (by rw [show RC.gd _ _ 11 = false from by kernel_rfl]; decide)
      · intro _; kernel_rfl
  · subst hp5
    cases p1 <;> exact One.under fun _ _ _ => by kernel_rfl
  intro G2 xa xw hDn
  refine hDn.to [2] [] (by kernel_rfl) ?_
  refine At.then ?_
  refine W.ret (by kernel_rfl) ?_
  refine At.results (Or.inl rfl) (.bool p5) (fun xa xw hs hw => results_one (r := .tmp 2) (by kernel_rfl) (res_tmp (t := 2) (by kernel_rfl) hs)) (fun w' hw => ?_)
  refine ⟨retb ?_, hw.base⟩
  rw [Bool.eq_iff_iff]
  rw [(iN hp5 (iAT (iN hp1 iDT) (iN hp4 (iOT (iN hp2 (iNT iDF)) (iN hp3 iDT))))), decide_eq_true_iff]
  unfold Cal.leapP
  omega

noncomputable def r23_0 (y m : Int) : RC := { ops := opsAt Try.f23 0, B := [0], sl := [(0, .int .i64 y), (1, .int .i64 m)], A := [], L := [], cs := [{ val := fun _ => .int .i64 0 }] }
noncomputable def r23_1 (y m : Int) (p1 p2 p3 : Bool) : RC := { ops := opsAt Try.f23 1, B := [0, 1, 3, 7, 15, 31], sl := [(0, .int .i64 y), (1, .int .i64 m), (4, .int .i64 0)], A := [], L := [], cs := [{ val := fun _ => .int .i64 m }, { val := fun _ => .bool p1 }, { val := fun _ => .bool p1 }, { val := fun _ => .int .i64 y }, { val := fun _ => .bool p2 }, { val := fun _ => .bool p3 }] }
noncomputable def r23_2 (m : Int) (p3 : Bool) : RC := { ops := opsAt Try.f23 2, B := [0], sl := [(1, .int .i64 m), (4, .int .i64 0), (10, .bool p3)], A := [], L := [], cs := [{ val := fun _ => .int .i64 29 }] }
noncomputable def r23_3 (m : Int) (p3 p4 : Bool) : RC := { ops := opsAt Try.f23 3, B := [0, 1], sl := [(1, .int .i64 m), (4, .int .i64 0), (10, .bool p3)], A := [], L := [], cs := [{ val := fun _ => .int .i64 m }, { val := fun _ => .bool p4 }] }
noncomputable def r23_4 (m : Int) (p4 : Bool) : RC := { ops := opsAt Try.f23 4, B := [0], sl := [(1, .int .i64 m), (4, .int .i64 0), (12, .bool p4)], A := [], L := [], cs := [{ val := fun _ => .int .i64 28 }] }
noncomputable def r23_5 (m : Int) (p4 p5 p6 p7 p8 p9 p10 p11 : Bool) : RC := { ops := opsAt Try.f23 5, B := [0, 1, 3, 7, 15, 31, 63, 127, 255, 511, 1023, 2047, 4095, 8191], sl := [(1, .int .i64 m), (4, .int .i64 0), (12, .bool p4)], A := [], L := [], cs := [{ val := fun _ => .int .i64 m }, { val := fun _ => .bool p5 }, { val := fun _ => .bool p5 }, { val := fun _ => .int .i64 m }, { val := fun _ => .bool p6 }, { val := fun _ => .bool p7 }, { val := fun _ => .bool p7 }, { val := fun _ => .int .i64 m }, { val := fun _ => .bool p8 }, { val := fun _ => .bool p9 }, { val := fun _ => .bool p9 }, { val := fun _ => .int .i64 m }, { val := fun _ => .bool p10 }, { val := fun _ => .bool p11 }] }
noncomputable def r23_6 (p11 : Bool) : RC := { ops := opsAt Try.f23 6, B := [0], sl := [(4, .int .i64 0), (26, .bool p11)], A := [], L := [], cs := [{ val := fun _ => .int .i64 30 }] }
noncomputable def r23_7 (p11 : Bool) : RC := { ops := opsAt Try.f23 7, B := [0], sl := [(4, .int .i64 0), (26, .bool p11)], A := [], L := [], cs := [{ val := fun _ => .int .i64 31 }] }
theorem length_ct (y m : Int) (h0 : 0 ≤ y) (w : World) :
    Calls Try.prog 23 #[.int .i64 y, .int .i64 m] w (fun e w' => e = .returned (.int .i64 (Cal.len y m)) ∧ Base [] w w') := by
  refine calls_of_W (sl := [(0, .int .i64 y), (1, .int .i64 m)]) (A := []) (L := []) Try.func23 (by kernel_rfl) 27 (by kernel_rfl) (by kernel_rfl) (fun _ h => by cases h) (by simp) ?_
  refine W.seq (by kernel_rfl) ?_
  refine W.reg (r23_0 y m) [0] [] (by kernel_rfl) mo (by kernel_rfl) (fun _ _ => by kernel_rfl) trivial (by kernel_rfl) ?_
  intro G1 xa xw hDn
  refine hDn.to [0, 1, 4] [] (by kernel_rfl) ?_
  refine At.then ?_
  refine W.seq (by kernel_rfl) ?_
  refine W.seq (by kernel_rfl) ?_
  obtain ⟨p1, hp1⟩ : ∃ x : Bool, x = decide (m = 2) := ⟨_, rfl⟩
  obtain ⟨p2, hp2⟩ : ∃ x : Bool, x = (decide (Cal.leapP y)) := ⟨_, rfl⟩
  obtain ⟨p3, hp3⟩ : ∃ x : Bool, x = (p1 && p2) := ⟨_, rfl⟩
  refine W.reg (r23_1 y m p1 p2 p3) [0, 2, 3] [1, 4, 5] (by kernel_rfl) mo (by kernel_rfl) (fun _ _ => by kernel_rfl) ⟨?_, ?_, ?_, trivial⟩ (by kernel_rfl) ?_
  · exact One.bo hp1 (fun _ _ => by kernel_rfl)
  · exact One.callB hp2 (fun G w hs => by
      have hg := gd_of hs (p := (true && (p1 == true))) (by kernel_rfl)
      have hg0 := (iN hp1 iDT).1 (eqT (andR hg))
      exact leap_ct y (by omega) _) (fun _ _ => by kernel_rfl)
  · subst hp3
    cases p1 <;> exact One.under fun _ _ _ => by kernel_rfl
  intro G2 xa xw hDn
  refine hDn.to [1, 4, 10] [] (by kernel_rfl) ?_
  refine At.then ?_
  refine W.cond p3 (by kernel_rfl) (fun xa hs => cnd_of (t := 10) (by kernel_rfl) (by kernel_rfl) hs) (fun hq => ?_) (fun hq => ?_)
  · skip
    have hq1 := hq
    replace hq1 := (iN hp3 (iAT (iN hp1 iDT) (iN hp2 iDT))).1 hq1
    refine W.seq (by kernel_rfl) ?_
    refine W.reg (r23_2 m p3) [0] [] (by kernel_rfl) mo (by kernel_rfl) (fun _ _ => by kernel_rfl) trivial (by kernel_rfl) ?_
    intro G3 xa xw hDn
    refine hDn.to [1, 4] [] (by kernel_rfl) ?_
    refine At.then ?_
    refine W.ret (by kernel_rfl) ?_
    refine At.thenRet ?_
    refine At.results (Or.inl rfl) (.int .i64 29) (fun xa xw hs hw => results_one (r := .tmp 4) (by kernel_rfl) (res_tmp (t := 4) (by kernel_rfl) hs)) (fun w' hw => ?_)
    refine ⟨reti ?_, hw.base⟩
    unfold Cal.len
    (repeat' split) <;> first | rfl | omega | simp_all
  · skip
    have hq2 := hq
    replace hq2 := (iN hp3 (iAF (iN hp1 iDF) (iN hp2 iDF))).1 hq2
    refine W.skip (by kernel_rfl) ?_
    refine At.then ?_
    refine W.seq (by kernel_rfl) ?_
    refine W.seq (by kernel_rfl) ?_
    obtain ⟨p4, hp4⟩ : ∃ x : Bool, x = decide (m = 2) := ⟨_, rfl⟩
    refine W.reg (r23_3 m p3 p4) [0] [1] (by kernel_rfl) mo (by kernel_rfl) (fun _ _ => by kernel_rfl) ⟨?_, trivial⟩ (by kernel_rfl) ?_
    · exact One.bo hp4 (fun _ _ => by kernel_rfl)
    intro G4 xa xw hDn
    refine hDn.to [1, 4, 12] [] (by kernel_rfl) ?_
    refine At.then ?_
    refine W.cond p4 (by kernel_rfl) (fun xa hs => cnd_of (t := 12) (by kernel_rfl) (by kernel_rfl) hs) (fun hq => ?_) (fun hq => ?_)
    · skip
      have hq3 := hq
      replace hq3 := (iN hp4 iDT).1 hq3
      refine W.seq (by kernel_rfl) ?_
      refine W.reg (r23_4 m p4) [0] [] (by kernel_rfl) mo (by kernel_rfl) (fun _ _ => by kernel_rfl) trivial (by kernel_rfl) ?_
      intro G5 xa xw hDn
      refine hDn.to [1, 4] [] (by kernel_rfl) ?_
      refine At.then ?_
      refine W.ret (by kernel_rfl) ?_
      refine At.thenRet ?_
      refine At.results (Or.inl rfl) (.int .i64 28) (fun xa xw hs hw => results_one (r := .tmp 4) (by kernel_rfl) (res_tmp (t := 4) (by kernel_rfl) hs)) (fun w' hw => ?_)
      refine ⟨reti ?_, hw.base⟩
      unfold Cal.len
      (repeat' split) <;> first | rfl | omega | simp_all
    · skip
      have hq4 := hq
      replace hq4 := (iN hp4 iDF).1 hq4
      refine W.skip (by kernel_rfl) ?_
      refine At.then ?_
      refine W.seq (by kernel_rfl) ?_
      refine W.seq (by kernel_rfl) ?_
      obtain ⟨p5, hp5⟩ : ∃ x : Bool, x = decide (m = 4) := ⟨_, rfl⟩
      obtain ⟨p6, hp6⟩ : ∃ x : Bool, x = decide (m = 6) := ⟨_, rfl⟩
      obtain ⟨p7, hp7⟩ : ∃ x : Bool, x = (p5 || p6) := ⟨_, rfl⟩
      obtain ⟨p8, hp8⟩ : ∃ x : Bool, x = decide (m = 9) := ⟨_, rfl⟩
      obtain ⟨p9, hp9⟩ : ∃ x : Bool, x = (p7 || p8) := ⟨_, rfl⟩
      obtain ⟨p10, hp10⟩ : ∃ x : Bool, x = decide (m = 11) := ⟨_, rfl⟩
      obtain ⟨p11, hp11⟩ : ∃ x : Bool, x = (p9 || p10) := ⟨_, rfl⟩
      refine W.reg (r23_5 m p4 p5 p6 p7 p8 p9 p10 p11) [0, 2, 3, 6, 7, 10, 11] [1, 4, 5, 8, 9, 12, 13] (by kernel_rfl) mo (by kernel_rfl) (fun _ _ => by kernel_rfl) ⟨?_, ?_, ?_, ?_, ?_, ?_, ?_, trivial⟩ (by kernel_rfl) ?_
      · exact One.bo hp5 (fun _ _ => by kernel_rfl)
      · exact One.bo hp6 (fun _ _ => by kernel_rfl)
      · subst hp7
        cases p5 <;> exact One.under fun _ _ _ => by kernel_rfl
      · exact One.bo hp8 (fun _ _ => by kernel_rfl)
      · subst hp9
        cases p7 <;> exact One.under fun _ _ _ => by kernel_rfl
      · exact One.bo hp10 (fun _ _ => by kernel_rfl)
      · subst hp11
        cases p9 <;> exact One.under fun _ _ _ => by kernel_rfl
      intro G6 xa xw hDn
      refine hDn.to [4, 26] [] (by kernel_rfl) ?_
      refine At.then ?_
      refine W.cond p11 (by kernel_rfl) (fun xa hs => cnd_of (t := 26) (by kernel_rfl) (by kernel_rfl) hs) (fun hq => ?_) (fun hq => ?_)
      · skip
        have hq5 := hq
        replace hq5 := (iN hp11 (iOT (iN hp9 (iOT (iN hp7 (iOT (iN hp5 iDT) (iN hp6 iDT))) (iN hp8 iDT))) (iN hp10 iDT))).1 hq5
        refine W.seq (by kernel_rfl) ?_
        refine W.reg (r23_6 p11) [0] [] (by kernel_rfl) mo (by kernel_rfl) (fun _ _ => by kernel_rfl) trivial (by kernel_rfl) ?_
        intro G7 xa xw hDn
        refine hDn.to [4] [] (by kernel_rfl) ?_
        refine At.then ?_
        refine W.ret (by kernel_rfl) ?_
        refine At.thenRet ?_
        refine At.results (Or.inl rfl) (.int .i64 30) (fun xa xw hs hw => results_one (r := .tmp 4) (by kernel_rfl) (res_tmp (t := 4) (by kernel_rfl) hs)) (fun w' hw => ?_)
        refine ⟨reti ?_, hw.base⟩
        unfold Cal.len
        (repeat' split) <;> first | rfl | omega | simp_all
      · skip
        have hq6 := hq
        replace hq6 := (iN hp11 (iOF (iN hp9 (iOF (iN hp7 (iOF (iN hp5 iDF) (iN hp6 iDF))) (iN hp8 iDF))) (iN hp10 iDF))).1 hq6
        refine W.skip (by kernel_rfl) ?_
        refine At.then ?_
        refine W.seq (by kernel_rfl) ?_
        refine W.reg (r23_7 p11) [0] [] (by kernel_rfl) mo (by kernel_rfl) (fun _ _ => by kernel_rfl) trivial (by kernel_rfl) ?_
        intro G8 xa xw hDn
        refine hDn.to [4] [] (by kernel_rfl) ?_
        refine At.then ?_
        refine W.ret (by kernel_rfl) ?_
        refine At.results (Or.inl rfl) (.int .i64 31) (fun xa xw hs hw => results_one (r := .tmp 4) (by kernel_rfl) (res_tmp (t := 4) (by kernel_rfl) hs)) (fun w' hw => ?_)
        refine ⟨reti ?_, hw.base⟩
        unfold Cal.len
        (repeat' split) <;> first | rfl | omega | simp_all

noncomputable def r24_0 (y m d : Int) : RC := { ops := opsAt Try.f24 0, B := [0], sl := [(0, .int .i64 y), (1, .int .i64 m), (2, .int .i64 d)], A := [], L := [], cs := [{ val := fun _ => .int .i64 0 }] }
noncomputable def r24_1 (y m d n1 n2 : Int) : RC := { ops := opsAt Try.f24 1, B := [0, 1, 3, 7], sl := [(0, .int .i64 y), (1, .int .i64 m), (2, .int .i64 d), (6, .int .i64 0)], A := [], L := [], cs := [{ val := fun _ => .int .i64 m }, { val := fun _ => .int .i64 n1 }, { val := fun _ => .int .i64 n2 }, { val := fun _ => .int .i64 n2 }] }
noncomputable def r24_2 (y m d n2 : Int) (p1 : Bool) : RC := { ops := opsAt Try.f24 2, B := [0, 1], sl := [(0, .int .i64 y), (1, .int .i64 m), (2, .int .i64 d), (6, .int .i64 0), (7, .int .i64 n2)], A := [], L := [], cs := [{ val := fun _ => .int .i64 m }, { val := fun _ => .bool p1 }] }
noncomputable def r24_3 (y d n2 : Int) (p1 : Bool) (n3 : Int) : RC := { ops := opsAt Try.f24 3, B := [0, 1, 3], sl := [(0, .int .i64 y), (2, .int .i64 d), (6, .int .i64 0), (7, .int .i64 n2), (12, .bool p1)], A := [], L := [], cs := [{ val := fun _ => .int .i64 y }, { val := fun _ => .int .i64 n3 }, { val := fun _ => .int .i64 n3 }] }
noncomputable def r24_4 (d n2 n3 n4 n5 n6 n7 n8 n9 n10 n11 n12 n13 n14 : Int) : RC := { ops := opsAt Try.f24 4, B := [0, 1, 0, 4, 15, 0, 32, 127, 0, 256, 1023, 0, 2048, 8191, 0, 32767, 65535, 131071, 262143], sl := [(0, .int .i64 n3), (2, .int .i64 d), (6, .int .i64 0), (7, .int .i64 n2)], A := [], L := [], cs := [{ val := fun _ => .int .i64 n3 }, { val := fun _ => .int .i64 n4 }, { val := fun _ => .int .i64 n3 }, { val := fun _ => .int .i64 n5 }, { val := fun _ => .int .i64 n6 }, { val := fun _ => .int .i64 n3 }, { val := fun _ => .int .i64 n7 }, { val := fun _ => .int .i64 n8 }, { val := fun _ => .int .i64 n3 }, { val := fun _ => .int .i64 n9 }, { val := fun _ => .int .i64 n10 }, { val := fun _ => .int .i64 n2 }, { val := fun _ => .int .i64 ((Cal.bef n2)) }, { val := fun _ => .int .i64 n11 }, { val := fun _ => .int .i64 d }, { val := fun _ => .int .i64 n12 }, { val := fun _ => .int .i64 n13 }, { val := fun _ => .int .i64 n14 }, { val := fun _ => .int .i64 n14 }] }
noncomputable def r24_5 (y d n2 : Int) (p1 : Bool) (n15 n16 n17 n18 n19 n20 n21 n22 n23 n24 n25 : Int) : RC := { ops := opsAt Try.f24 4, B := [0, 1, 0, 4, 15, 0, 32, 127, 0, 256, 1023, 0, 2048, 8191, 0, 32767, 65535, 131071, 262143], sl := [(0, .int .i64 y), (2, .int .i64 d), (6, .int .i64 0), (7, .int .i64 n2), (12, .bool p1)], A := [], L := [], cs := [{ val := fun _ => .int .i64 y }, { val := fun _ => .int .i64 n15 }, { val := fun _ => .int .i64 y }, { val := fun _ => .int .i64 n16 }, { val := fun _ => .int .i64 n17 }, { val := fun _ => .int .i64 y }, { val := fun _ => .int .i64 n18 }, { val := fun _ => .int .i64 n19 }, { val := fun _ => .int .i64 y }, { val := fun _ => .int .i64 n20 }, { val := fun _ => .int .i64 n21 }, { val := fun _ => .int .i64 n2 }, { val := fun _ => .int .i64 ((Cal.bef n2)) }, { val := fun _ => .int .i64 n22 }, { val := fun _ => .int .i64 d }, { val := fun _ => .int .i64 n23 }, { val := fun _ => .int .i64 n24 }, { val := fun _ => .int .i64 n25 }, { val := fun _ => .int .i64 n25 }] }
theorem number_ct (y m d : Int) (hy : 1 ≤ y) (hy2 : y ≤ 100000) (hm : 1 ≤ m) (hm2 : m ≤ 12) (hd : 0 ≤ d) (hd2 : d ≤ 100) (w : World) :
    Calls Try.prog 24 #[.int .i64 y, .int .i64 m, .int .i64 d] w (fun e w' => e = .returned (.int .i64 (Cal.num y m d)) ∧ Base [] w w') := by
  refine calls_of_W (sl := [(0, .int .i64 y), (1, .int .i64 m), (2, .int .i64 d)]) (A := []) (L := []) Try.func24 (by kernel_rfl) 33 (by kernel_rfl) (by kernel_rfl) (fun _ h => by cases h) (by simp) ?_
  refine W.seq (by kernel_rfl) ?_
  refine W.reg (r24_0 y m d) [0] [] (by kernel_rfl) mo (by kernel_rfl) (fun _ _ => by kernel_rfl) trivial (by kernel_rfl) ?_
  intro G1 xa xw hDn
  refine hDn.to [0, 1, 2, 6] [] (by kernel_rfl) ?_
  refine At.then ?_
  refine W.seq (by kernel_rfl) ?_
  obtain ⟨n1, hn1⟩ : ∃ x : Int, x = m + 9 := ⟨_, rfl⟩
  obtain ⟨n2, hn2⟩ : ∃ x : Int, x = n1 % 12 := ⟨_, rfl⟩
  refine W.reg (r24_1 y m d n1 n2) [0, 3] [1, 2] (by kernel_rfl) mo (by kernel_rfl) (fun _ _ => by kernel_rfl) ⟨?_, ?_, trivial⟩ (by kernel_rfl) ?_
  · exact One.ar hn1 (fun _ _ => by kernel_rfl) (fun _ _ _ => by omega)
  · exact One.rem hn2 (fun _ _ => by kernel_rfl) (fun _ _ _ => by omega)
  intro G2 xa xw hDn
  refine hDn.to [0, 1, 2, 6, 7] [] (by kernel_rfl) ?_
  refine At.then ?_
  refine W.seq (by kernel_rfl) ?_
  refine W.seq (by kernel_rfl) ?_
  obtain ⟨p1, hp1⟩ : ∃ x : Bool, x = decide (m < 3) := ⟨_, rfl⟩
  refine W.reg (r24_2 y m d n2 p1) [0] [1] (by kernel_rfl) mo (by kernel_rfl) (fun _ _ => by kernel_rfl) ⟨?_, trivial⟩ (by kernel_rfl) ?_
  · exact One.bo hp1 (fun _ _ => by kernel_rfl)
  intro G3 xa xw hDn
  refine hDn.to [0, 2, 6, 7, 12] [] (by kernel_rfl) ?_
  refine At.then ?_
  refine W.cond p1 (by kernel_rfl) (fun xa hs => cnd_of (t := 12) (by kernel_rfl) (by kernel_rfl) hs) (fun hq => ?_) (fun hq => ?_)
  · skip
    have hq1 := hq
    replace hq1 := (iN hp1 iDT).1 hq1
    obtain ⟨n3, hn3⟩ : ∃ x : Int, x = y - 1 := ⟨_, rfl⟩
    refine W.reg (r24_3 y d n2 p1 n3) [0, 2] [1] (by kernel_rfl) mo (by kernel_rfl) (fun _ _ => by kernel_rfl) ⟨?_, trivial⟩ (by kernel_rfl) ?_
    · exact One.ar hn3 (fun _ _ => by kernel_rfl) (fun _ _ _ => by omega)
    intro G4 xa xw hDn
    refine hDn.to [0, 2, 6, 7] [] (by kernel_rfl) ?_
    refine At.then ?_
    refine W.seq (by kernel_rfl) ?_
    have hb := Cal.bef_bd n2 (by omega) (by omega)
    obtain ⟨n4, hn4⟩ : ∃ x : Int, x = n3 * 365 := ⟨_, rfl⟩
    obtain ⟨n5, hn5⟩ : ∃ x : Int, x = n3 / 4 := ⟨_, rfl⟩
    obtain ⟨n6, hn6⟩ : ∃ x : Int, x = n4 + n5 := ⟨_, rfl⟩
    obtain ⟨n7, hn7⟩ : ∃ x : Int, x = n3 / 100 := ⟨_, rfl⟩
    obtain ⟨n8, hn8⟩ : ∃ x : Int, x = n6 - n7 := ⟨_, rfl⟩
    obtain ⟨n9, hn9⟩ : ∃ x : Int, x = n3 / 400 := ⟨_, rfl⟩
    obtain ⟨n10, hn10⟩ : ∃ x : Int, x = n8 + n9 := ⟨_, rfl⟩
    obtain ⟨n11, hn11⟩ : ∃ x : Int, x = n10 + ((Cal.bef n2)) := ⟨_, rfl⟩
    obtain ⟨n12, hn12⟩ : ∃ x : Int, x = n11 + d := ⟨_, rfl⟩
    obtain ⟨n13, hn13⟩ : ∃ x : Int, x = n12 - 1 := ⟨_, rfl⟩
    obtain ⟨n14, hn14⟩ : ∃ x : Int, x = n13 - 730425 := ⟨_, rfl⟩
    refine W.reg (r24_4 d n2 n3 n4 n5 n6 n7 n8 n9 n10 n11 n12 n13 n14) [0, 2, 5, 8, 11, 14, 18] [1, 3, 4, 6, 7, 9, 10, 12, 13, 15, 16, 17] (by kernel_rfl) mo (by kernel_rfl) (fun _ _ => by kernel_rfl) ⟨?_, ?_, ?_, ?_, ?_, ?_, ?_, ?_, ?_, ?_, ?_, ?_, trivial⟩ (by kernel_rfl) ?_
    · exact One.ar hn4 (fun _ _ => by kernel_rfl) (fun _ _ _ => by omega)
    · exact One.quo hn5 (fun _ _ => by kernel_rfl) (fun _ _ _ => by omega)
    · exact One.ar hn6 (fun _ _ => by kernel_rfl) (fun _ _ _ => by omega)
    · exact One.quo hn7 (fun _ _ => by kernel_rfl) (fun _ _ _ => by omega)
    · exact One.ar hn8 (fun _ _ => by kernel_rfl) (fun _ _ _ => by omega)
    · exact One.quo hn9 (fun _ _ => by kernel_rfl) (fun _ _ _ => by omega)
    · exact One.ar hn10 (fun _ _ => by kernel_rfl) (fun _ _ _ => by omega)
    · exact One.call (fun _ _ _ => before_ct n2 (by omega) (by omega) _) (fun _ _ => by kernel_rfl)
    · exact One.ar hn11 (fun _ _ => by kernel_rfl) (fun _ _ _ => by omega)
    · exact One.ar hn12 (fun _ _ => by kernel_rfl) (fun _ _ _ => by omega)
    · exact One.ar hn13 (fun _ _ => by kernel_rfl) (fun _ _ _ => by omega)
    · exact One.ar hn14 (fun _ _ => by kernel_rfl) (fun _ _ _ => by omega)
    intro G5 xa xw hDn
    refine hDn.to [6] [] (by kernel_rfl) ?_
    refine At.then ?_
    refine W.ret (by kernel_rfl) ?_
    refine At.results (Or.inl rfl) (.int .i64 n14) (fun xa xw hs hw => results_one (r := .tmp 6) (by kernel_rfl) (res_tmp (t := 6) (by kernel_rfl) hs)) (fun w' hw => ?_)
    have e := Cal.num_if y m d
    refine ⟨reti ?_, hw.base⟩
    first | (rw [if_pos (by omega)] at e; subst_vars; omega) | (rw [if_neg (by omega)] at e; subst_vars; omega)
  · skip
    have hq2 := hq
    replace hq2 := (iN hp1 iDF).1 hq2
    refine W.skip (by kernel_rfl) ?_
    refine At.then ?_
    refine W.seq (by kernel_rfl) ?_
    have hb := Cal.bef_bd n2 (by omega) (by omega)
    obtain ⟨n15, hn15⟩ : ∃ x : Int, x = y * 365 := ⟨_, rfl⟩
    obtain ⟨n16, hn16⟩ : ∃ x : Int, x = y / 4 := ⟨_, rfl⟩
    obtain ⟨n17, hn17⟩ : ∃ x : Int, x = n15 + n16 := ⟨_, rfl⟩
    obtain ⟨n18, hn18⟩ : ∃ x : Int, x = y / 100 := ⟨_, rfl⟩
    obtain ⟨n19, hn19⟩ : ∃ x : Int, x = n17 - n18 := ⟨_, rfl⟩
    obtain ⟨n20, hn20⟩ : ∃ x : Int, x = y / 400 := ⟨_, rfl⟩
    obtain ⟨n21, hn21⟩ : ∃ x : Int, x = n19 + n20 := ⟨_, rfl⟩
    obtain ⟨n22, hn22⟩ : ∃ x : Int, x = n21 + ((Cal.bef n2)) := ⟨_, rfl⟩
    obtain ⟨n23, hn23⟩ : ∃ x : Int, x = n22 + d := ⟨_, rfl⟩
    obtain ⟨n24, hn24⟩ : ∃ x : Int, x = n23 - 1 := ⟨_, rfl⟩
    obtain ⟨n25, hn25⟩ : ∃ x : Int, x = n24 - 730425 := ⟨_, rfl⟩
    refine W.reg (r24_5 y d n2 p1 n15 n16 n17 n18 n19 n20 n21 n22 n23 n24 n25) [0, 2, 5, 8, 11, 14, 18] [1, 3, 4, 6, 7, 9, 10, 12, 13, 15, 16, 17] (by kernel_rfl) mo (by kernel_rfl) (fun _ _ => by kernel_rfl) ⟨?_, ?_, ?_, ?_, ?_, ?_, ?_, ?_, ?_, ?_, ?_, ?_, trivial⟩ (by kernel_rfl) ?_
    · exact One.ar hn15 (fun _ _ => by kernel_rfl) (fun _ _ _ => by omega)
    · exact One.quo hn16 (fun _ _ => by kernel_rfl) (fun _ _ _ => by omega)
    · exact One.ar hn17 (fun _ _ => by kernel_rfl) (fun _ _ _ => by omega)
    · exact One.quo hn18 (fun _ _ => by kernel_rfl) (fun _ _ _ => by omega)
    · exact One.ar hn19 (fun _ _ => by kernel_rfl) (fun _ _ _ => by omega)
    · exact One.quo hn20 (fun _ _ => by kernel_rfl) (fun _ _ _ => by omega)
    · exact One.ar hn21 (fun _ _ => by kernel_rfl) (fun _ _ _ => by omega)
    · exact One.call (fun _ _ _ => before_ct n2 (by omega) (by omega) _) (fun _ _ => by kernel_rfl)
    · exact One.ar hn22 (fun _ _ => by kernel_rfl) (fun _ _ _ => by omega)
    · exact One.ar hn23 (fun _ _ => by kernel_rfl) (fun _ _ _ => by omega)
    · exact One.ar hn24 (fun _ _ => by kernel_rfl) (fun _ _ _ => by omega)
    · exact One.ar hn25 (fun _ _ => by kernel_rfl) (fun _ _ _ => by omega)
    intro G6 xa xw hDn
    refine hDn.to [6] [] (by kernel_rfl) ?_
    refine At.then ?_
    refine W.ret (by kernel_rfl) ?_
    refine At.results (Or.inl rfl) (.int .i64 n25) (fun xa xw hs hw => results_one (r := .tmp 6) (by kernel_rfl) (res_tmp (t := 6) (by kernel_rfl) hs)) (fun w' hw => ?_)
    have e := Cal.num_if y m d
    refine ⟨reti ?_, hw.base⟩
    first | (rw [if_pos (by omega)] at e; subst_vars; omega) | (rw [if_neg (by omega)] at e; subst_vars; omega)

noncomputable def r9_0 (d : Int) : RC := { ops := opsAt Try.f9 0, B := [0, 1, 3, 7], sl := [(0, .int .i64 d)], A := [], L := [], cs := [{ val := fun _ => .int .i64 0 }, { val := fun _ => .int .i64 0 }, { val := fun _ => .int .i64 0 }, { val := fun _ => .int .i64 0 }] }
noncomputable def r9_1 (d : Int) (p1 : Bool) : RC := { ops := opsAt Try.f9 1, B := [0, 1, 3], sl := [(0, .int .i64 d), (2, .int .i64 0), (3, .int .i64 0), (4, .int .i64 0), (5, .int .i64 0)], A := [], L := [], cs := [{ val := fun _ => .int .i64 d }, { val := fun _ => .bool p1 }, { val := fun _ => .bool (!p1) }] }
noncomputable def r9_2 (d : Int) (p1 : Bool) : RC := { ops := opsAt Try.f9 2, B := [0, 1, 3, 7], sl := [(0, .int .i64 d), (2, .int .i64 0), (3, .int .i64 0), (4, .int .i64 0), (5, .int .i64 0), (11, .bool (!p1))], A := [], L := [], cs := [{ val := fun _ => .int .i64 0 }, { val := fun _ => .int .i64 0 }, { val := fun _ => .int .i64 0 }, { val := fun _ => .int .i64 3 }] }
noncomputable def r9_3 (d : Int) (p1 : Bool) (n1 : Int) : RC := { ops := opsAt Try.f9 3, B := [0, 1, 3], sl := [(0, .int .i64 d), (2, .int .i64 0), (3, .int .i64 0), (4, .int .i64 0), (5, .int .i64 0), (11, .bool (!p1))], A := [], L := [], cs := [{ val := fun _ => .int .i64 d }, { val := fun _ => .int .i64 n1 }, { val := fun _ => .int .i64 n1 }] }
noncomputable def r9_4 (n1 n2 n3 : Int) : RC := { ops := opsAt Try.f9 4, B := [0, 1, 3, 7], sl := [(2, .int .i64 0), (3, .int .i64 0), (4, .int .i64 0), (5, .int .i64 0), (6, .int .i64 n1)], A := [], L := [], cs := [{ val := fun _ => .int .i64 n1 }, { val := fun _ => .int .i64 n2 }, { val := fun _ => .int .i64 n3 }, { val := fun _ => .int .i64 n3 }] }
noncomputable def r9_5 (n1 n3 n4 : Int) : RC := { ops := opsAt Try.f9 5, B := [0, 1, 3], sl := [(2, .int .i64 n3), (3, .int .i64 0), (4, .int .i64 0), (5, .int .i64 0), (6, .int .i64 n1)], A := [], L := [], cs := [{ val := fun _ => .int .i64 n1 }, { val := fun _ => .int .i64 n4 }, { val := fun _ => .int .i64 n4 }] }
noncomputable def r9_6 (n3 n4 n5 n6 : Int) : RC := { ops := opsAt Try.f9 6, B := [0, 1, 3, 7], sl := [(2, .int .i64 n3), (3, .int .i64 0), (4, .int .i64 0), (5, .int .i64 0), (6, .int .i64 n4)], A := [], L := [], cs := [{ val := fun _ => .int .i64 n4 }, { val := fun _ => .int .i64 n5 }, { val := fun _ => .int .i64 n6 }, { val := fun _ => .int .i64 n6 }] }
noncomputable def r9_7 (n3 n4 n6 n7 n8 : Int) : RC := { ops := opsAt Try.f9 7, B := [0, 0, 2, 7, 15], sl := [(2, .int .i64 n3), (3, .int .i64 0), (4, .int .i64 0), (5, .int .i64 0), (6, .int .i64 n4), (7, .int .i64 n6)], A := [], L := [], cs := [{ val := fun _ => .int .i64 n3 }, { val := fun _ => .int .i64 n6 }, { val := fun _ => .int .i64 n7 }, { val := fun _ => .int .i64 n8 }, { val := fun _ => .int .i64 n8 }] }
noncomputable def r9_8 (n4 n6 n8 n9 n10 : Int) : RC := { ops := opsAt Try.f9 8, B := [0, 0, 2, 7, 15], sl := [(2, .int .i64 n8), (3, .int .i64 0), (4, .int .i64 0), (5, .int .i64 0), (6, .int .i64 n4), (7, .int .i64 n6)], A := [], L := [], cs := [{ val := fun _ => .int .i64 n4 }, { val := fun _ => .int .i64 n6 }, { val := fun _ => .int .i64 n9 }, { val := fun _ => .int .i64 n10 }, { val := fun _ => .int .i64 n10 }] }
noncomputable def r9_9 (n6 n8 n10 n11 n12 n13 : Int) : RC := { ops := opsAt Try.f9 9, B := [0, 0, 2, 6, 15, 31], sl := [(2, .int .i64 n8), (3, .int .i64 0), (4, .int .i64 0), (5, .int .i64 0), (6, .int .i64 n10), (7, .int .i64 n6)], A := [], L := [], cs := [{ val := fun _ => .int .i64 n8 }, { val := fun _ => .int .i64 n10 }, { val := fun _ => .int .i64 n11 }, { val := fun _ => .int .i64 n12 }, { val := fun _ => .int .i64 n13 }, { val := fun _ => .int .i64 n13 }] }
noncomputable def r9_10 (n6 n10 n13 n14 : Int) : RC := { ops := opsAt Try.f9 10, B := [0, 1, 3], sl := [(2, .int .i64 n13), (3, .int .i64 0), (4, .int .i64 0), (5, .int .i64 0), (6, .int .i64 n10), (7, .int .i64 n6)], A := [], L := [], cs := [{ val := fun _ => .int .i64 n10 }, { val := fun _ => .int .i64 n14 }, { val := fun _ => .int .i64 n14 }] }
noncomputable def r9_11 (n6 n13 n14 n15 n16 : Int) : RC := { ops := opsAt Try.f9 11, B := [0, 1, 3, 7], sl := [(2, .int .i64 n13), (3, .int .i64 0), (4, .int .i64 0), (5, .int .i64 0), (6, .int .i64 n14), (7, .int .i64 n6)], A := [], L := [], cs := [{ val := fun _ => .int .i64 n14 }, { val := fun _ => .int .i64 n15 }, { val := fun _ => .int .i64 n16 }, { val := fun _ => .int .i64 n16 }] }
noncomputable def r9_12 (n13 n14 n16 n17 : Int) : RC := { ops := opsAt Try.f9 12, B := [0, 0, 3, 7], sl := [(2, .int .i64 n13), (3, .int .i64 0), (4, .int .i64 0), (5, .int .i64 0), (6, .int .i64 n14), (7, .int .i64 n16)], A := [], L := [], cs := [{ val := fun _ => .int .i64 n13 }, { val := fun _ => .int .i64 n16 }, { val := fun _ => .int .i64 n17 }, { val := fun _ => .int .i64 n17 }] }
noncomputable def r9_13 (n14 n16 n17 n18 n19 : Int) : RC := { ops := opsAt Try.f9 13, B := [0, 0, 2, 7, 15], sl := [(2, .int .i64 n17), (3, .int .i64 0), (4, .int .i64 0), (5, .int .i64 0), (6, .int .i64 n14), (7, .int .i64 n16)], A := [], L := [], cs := [{ val := fun _ => .int .i64 n14 }, { val := fun _ => .int .i64 n16 }, { val := fun _ => .int .i64 n18 }, { val := fun _ => .int .i64 n19 }, { val := fun _ => .int .i64 n19 }] }
noncomputable def r9_14 (n17 n19 : Int) : RC := { ops := opsAt Try.f9 14, B := [0], sl := [(2, .int .i64 n17), (3, .int .i64 0), (4, .int .i64 0), (5, .int .i64 0), (6, .int .i64 n19)], A := [], L := [], cs := [{ val := fun _ => .int .i64 11 }] }
noncomputable def r9_15 (n17 n19 M : Int) (p2 : Bool) : RC := { ops := opsAt Try.f9 15, B := [0, 1, 0, 7], sl := [(2, .int .i64 n17), (3, .int .i64 0), (4, .int .i64 0), (5, .int .i64 0), (6, .int .i64 n19), (8, .int .i64 M)], A := [], L := [], cs := [{ val := fun _ => .int .i64 M }, { val := fun _ => .int .i64 ((Cal.bef M)) }, { val := fun _ => .int .i64 n19 }, { val := fun _ => .bool p2 }] }
noncomputable def r9_16 (n17 n19 M : Int) (p2 : Bool) (n20 : Int) : RC := { ops := opsAt Try.f9 16, B := [0, 1, 3], sl := [(2, .int .i64 n17), (3, .int .i64 0), (4, .int .i64 0), (5, .int .i64 0), (6, .int .i64 n19), (8, .int .i64 M), (47, .int .i64 M), (48, .int .i64 ((Cal.bef M))), (49, .int .i64 n19), (50, .bool p2)], A := [], L := [], cs := [{ val := fun _ => .int .i64 M }, { val := fun _ => .int .i64 n20 }, { val := fun _ => .int .i64 n20 }] }
noncomputable def r9_17 (n17 n19 M : Int) (p2 p3 : Bool) : RC := { ops := opsAt Try.f9 17, B := [0, 1], sl := [(2, .int .i64 n17), (3, .int .i64 0), (4, .int .i64 0), (5, .int .i64 0), (6, .int .i64 n19), (8, .int .i64 M), (47, .int .i64 M), (48, .int .i64 ((Cal.bef M))), (49, .int .i64 n19), (50, .bool p2)], A := [], L := [], cs := [{ val := fun _ => .int .i64 M }, { val := fun _ => .bool p3 }] }
noncomputable def r9_18 (n17 n19 M : Int) (p3 : Bool) (n21 n22 n23 n24 : Int) : RC := { ops := opsAt Try.f9 18, B := [0, 1, 0, 4, 0, 0, 32, 112, 240, 99, 623, 2047, 4095], sl := [(2, .int .i64 n17), (3, .int .i64 0), (4, .int .i64 0), (5, .int .i64 0), (6, .int .i64 n19), (8, .int .i64 M), (54, .bool p3)], A := [], L := [], cs := [{ val := fun _ => .int .i64 n17 }, { val := fun _ => .int .i64 n21 }, { val := fun _ => .int .i64 M }, { val := fun _ => .int .i64 n22 }, { val := fun _ => .int .i64 n19 }, { val := fun _ => .int .i64 M }, { val := fun _ => .int .i64 ((Cal.bef M)) }, { val := fun _ => .int .i64 n23 }, { val := fun _ => .int .i64 n24 }, { val := fun _ => .int .i64 n21 }, { val := fun _ => .int .i64 n22 }, { val := fun _ => .int .i64 n24 }, { val := fun _ => .int .i64 0 }] }
noncomputable def r9_19 (n17 n19 M : Int) (p3 : Bool) (n25 n26 n27 : Int) : RC := { ops := opsAt Try.f9 19, B := [0, 0, 2, 0, 0, 16, 56, 120, 49, 311, 1023, 2047], sl := [(2, .int .i64 n17), (3, .int .i64 0), (4, .int .i64 0), (5, .int .i64 0), (6, .int .i64 n19), (8, .int .i64 M), (54, .bool p3)], A := [], L := [], cs := [{ val := fun _ => .int .i64 n17 }, { val := fun _ => .int .i64 M }, { val := fun _ => .int .i64 n25 }, { val := fun _ => .int .i64 n19 }, { val := fun _ => .int .i64 M }, { val := fun _ => .int .i64 ((Cal.bef M)) }, { val := fun _ => .int .i64 n26 }, { val := fun _ => .int .i64 n27 }, { val := fun _ => .int .i64 n17 }, { val := fun _ => .int .i64 n25 }, { val := fun _ => .int .i64 n27 }, { val := fun _ => .int .i64 0 }] }
theorem date_ct (d : Int) (w : World) :
    Calls Try.prog 9 #[.int .i64 d] w (fun e w' => e = .returned (.tuple #[.int .i64 ((Cal.dY d)), .int .i64 ((Cal.dM d)), .int .i64 ((Cal.dD d)), .int .i64 ((Cal.dE d))]) ∧ Base [] w w') := by
  refine calls_of_W (sl := [(0, .int .i64 d)]) (A := []) (L := []) Try.func9 (by kernel_rfl) 72 (by kernel_rfl) (by kernel_rfl) (fun _ h => by cases h) (by simp) ?_
  refine W.seq (by kernel_rfl) ?_
  refine W.reg (r9_0 d) [0, 1, 2, 3] [] (by kernel_rfl) mo (by kernel_rfl) (fun _ _ => by kernel_rfl) trivial (by kernel_rfl) ?_
  intro G1 xa xw hDn
  refine hDn.to [0, 2, 3, 4, 5] [] (by kernel_rfl) ?_
  refine At.then ?_
  refine W.seq (by kernel_rfl) ?_
  refine W.seq (by kernel_rfl) ?_
  obtain ⟨p1, hp1⟩ : ∃ x : Bool, x = (Cal.validB d) := ⟨_, rfl⟩
  refine W.reg (r9_1 d p1) [0, 2] [1] (by kernel_rfl) mo (by kernel_rfl) (fun _ _ => by kernel_rfl) ⟨?_, trivial⟩ (by kernel_rfl) ?_
  · exact One.callB hp1 (fun _ _ _ => valid_ct d _) (fun _ _ => by kernel_rfl)
  intro G2 xa xw hDn
  refine hDn.to [0, 2, 3, 4, 5, 11] [] (by kernel_rfl) ?_
  refine At.then ?_
  refine W.cond (!p1) (by kernel_rfl) (fun xa hs => cnd_of (t := 11) (by kernel_rfl) (by kernel_rfl) hs) (fun hq => ?_) (fun hq => ?_)
  · skip
    have hq1 := hq
    replace hq1 := (iNT (iN hp1 Iff.rfl)).1 hq1
    refine W.seq (by kernel_rfl) ?_
    refine W.reg (r9_2 d p1) [0, 1, 2, 3] [] (by kernel_rfl) mo (by kernel_rfl) (fun _ _ => by kernel_rfl) trivial (by kernel_rfl) ?_
    intro G3 xa xw hDn
    refine hDn.to [0, 2, 3, 4, 5] [] (by kernel_rfl) ?_
    refine At.then ?_
    refine W.ret (by kernel_rfl) ?_
    refine At.thenRet ?_
    refine At.results (Or.inl rfl) (.tuple #[.int .i64 0, .int .i64 0, .int .i64 0, .int .i64 3]) (fun xa xw hs hw => results_many (rs := [.tmp 2, .tmp 3, .tmp 4, .tmp 5]) (vs := [.int .i64 0, .int .i64 0, .int .i64 0, .int .i64 3]) (by kernel_rfl) (by simp) ⟨res_tmp (t := 2) (by kernel_rfl) hs, res_tmp (t := 3) (by kernel_rfl) hs, res_tmp (t := 4) (by kernel_rfl) hs, res_tmp (t := 5) (by kernel_rfl) hs, trivial⟩) (fun w' hw => ?_)
    have hv : ¬ (0 ≤ d ∧ d ≤ 100000) := fun h => by rw [(Cal.valid_iff d).2 h] at hq1; cases hq1
    obtain ⟨e1, e2, e3, e4⟩ := Cal.d_no hv
    exact ⟨ret4i e1.symm e2.symm e3.symm e4.symm, hw.base⟩
  · skip
    have hq2 := hq
    replace hq2 := (iNF (iN hp1 Iff.rfl)).1 hq2
    refine W.skip (by kernel_rfl) ?_
    refine At.then ?_
    refine W.seq (by kernel_rfl) ?_
    obtain ⟨hv1, hv2⟩ := (Cal.valid_iff d).1 (by simpa using hq2)
    obtain ⟨n1, hn1⟩ : ∃ x : Int, x = d + 730425 := ⟨_, rfl⟩
    refine W.reg (r9_3 d p1 n1) [0, 2] [1] (by kernel_rfl) mo (by kernel_rfl) (fun _ _ => by kernel_rfl) ⟨?_, trivial⟩ (by kernel_rfl) ?_
    · exact One.ar hn1 (fun _ _ => by kernel_rfl) (fun _ _ _ => by omega)
    intro G4 xa xw hDn
    refine hDn.to [2, 3, 4, 5, 6] [] (by kernel_rfl) ?_
    refine At.then ?_
    refine W.seq (by kernel_rfl) ?_
    obtain ⟨n2, hn2⟩ : ∃ x : Int, x = n1 / 146097 := ⟨_, rfl⟩
    obtain ⟨n3, hn3⟩ : ∃ x : Int, x = n2 * 400 := ⟨_, rfl⟩
    refine W.reg (r9_4 n1 n2 n3) [0, 3] [1, 2] (by kernel_rfl) mo (by kernel_rfl) (fun _ _ => by kernel_rfl) ⟨?_, ?_, trivial⟩ (by kernel_rfl) ?_
    · exact One.quo hn2 (fun _ _ => by kernel_rfl) (fun _ _ _ => by omega)
    · exact One.ar hn3 (fun _ _ => by kernel_rfl) (fun _ _ _ => by omega)
    intro G5 xa xw hDn
    refine hDn.to [2, 3, 4, 5, 6] [] (by kernel_rfl) ?_
    refine At.then ?_
    refine W.seq (by kernel_rfl) ?_
    obtain ⟨n4, hn4⟩ : ∃ x : Int, x = n1 % 146097 := ⟨_, rfl⟩
    refine W.reg (r9_5 n1 n3 n4) [0, 2] [1] (by kernel_rfl) mo (by kernel_rfl) (fun _ _ => by kernel_rfl) ⟨?_, trivial⟩ (by kernel_rfl) ?_
    · exact One.rem hn4 (fun _ _ => by kernel_rfl) (fun _ _ _ => by omega)
    intro G6 xa xw hDn
    refine hDn.to [2, 3, 4, 5, 6] [] (by kernel_rfl) ?_
    refine At.then ?_
    refine W.seq (by kernel_rfl) ?_
    obtain ⟨n5, hn5⟩ : ∃ x : Int, x = n4 / 36524 := ⟨_, rfl⟩
    obtain ⟨n6, hn6⟩ : ∃ x : Int, x = min n5 3 := ⟨_, rfl⟩
    refine W.reg (r9_6 n3 n4 n5 n6) [0, 3] [1, 2] (by kernel_rfl) mo (by kernel_rfl) (fun _ _ => by kernel_rfl) ⟨?_, ?_, trivial⟩ (by kernel_rfl) ?_
    · exact One.quo hn5 (fun _ _ => by kernel_rfl) (fun _ _ _ => by omega)
    · exact One.eq (congrArg (Value.int .i64) ((min_if _ _).trans hn6.symm)) (fun _ _ => by kernel_rfl)
    intro G7 xa xw hDn
    refine hDn.to [2, 3, 4, 5, 6, 7] [] (by kernel_rfl) ?_
    refine At.then ?_
    refine W.seq (by kernel_rfl) ?_
    obtain ⟨n7, hn7⟩ : ∃ x : Int, x = n6 * 100 := ⟨_, rfl⟩
    obtain ⟨n8, hn8⟩ : ∃ x : Int, x = n3 + n7 := ⟨_, rfl⟩
    refine W.reg (r9_7 n3 n4 n6 n7 n8) [0, 1, 4] [2, 3] (by kernel_rfl) mo (by kernel_rfl) (fun _ _ => by kernel_rfl) ⟨?_, ?_, trivial⟩ (by kernel_rfl) ?_
    · exact One.ar hn7 (fun _ _ => by kernel_rfl) (fun _ _ _ => by omega)
    · exact One.ar hn8 (fun _ _ => by kernel_rfl) (fun _ _ _ => by omega)
    intro G8 xa xw hDn
    refine hDn.to [2, 3, 4, 5, 6, 7] [] (by kernel_rfl) ?_
    refine At.then ?_
    refine W.seq (by kernel_rfl) ?_
    obtain ⟨n9, hn9⟩ : ∃ x : Int, x = n6 * 36524 := ⟨_, rfl⟩
    obtain ⟨n10, hn10⟩ : ∃ x : Int, x = n4 - n9 := ⟨_, rfl⟩
    refine W.reg (r9_8 n4 n6 n8 n9 n10) [0, 1, 4] [2, 3] (by kernel_rfl) mo (by kernel_rfl) (fun _ _ => by kernel_rfl) ⟨?_, ?_, trivial⟩ (by kernel_rfl) ?_
    · exact One.ar hn9 (fun _ _ => by kernel_rfl) (fun _ _ _ => by omega)
    · exact One.ar hn10 (fun _ _ => by kernel_rfl) (fun _ _ _ => by omega)
    intro G9 xa xw hDn
    refine hDn.to [2, 3, 4, 5, 6, 7] [] (by kernel_rfl) ?_
    refine At.then ?_
    refine W.seq (by kernel_rfl) ?_
    obtain ⟨n11, hn11⟩ : ∃ x : Int, x = n10 / 1461 := ⟨_, rfl⟩
    obtain ⟨n12, hn12⟩ : ∃ x : Int, x = n11 * 4 := ⟨_, rfl⟩
    obtain ⟨n13, hn13⟩ : ∃ x : Int, x = n8 + n12 := ⟨_, rfl⟩
    refine W.reg (r9_9 n6 n8 n10 n11 n12 n13) [0, 1, 5] [2, 3, 4] (by kernel_rfl) mo (by kernel_rfl) (fun _ _ => by kernel_rfl) ⟨?_, ?_, ?_, trivial⟩ (by kernel_rfl) ?_
    · exact One.quo hn11 (fun _ _ => by kernel_rfl) (fun _ _ _ => by omega)
    · exact One.ar hn12 (fun _ _ => by kernel_rfl) (fun _ _ _ => by omega)
    · exact One.ar hn13 (fun _ _ => by kernel_rfl) (fun _ _ _ => by omega)
    intro G10 xa xw hDn
    refine hDn.to [2, 3, 4, 5, 6, 7] [] (by kernel_rfl) ?_
    refine At.then ?_
    refine W.seq (by kernel_rfl) ?_
    obtain ⟨n14, hn14⟩ : ∃ x : Int, x = n10 % 1461 := ⟨_, rfl⟩
    refine W.reg (r9_10 n6 n10 n13 n14) [0, 2] [1] (by kernel_rfl) mo (by kernel_rfl) (fun _ _ => by kernel_rfl) ⟨?_, trivial⟩ (by kernel_rfl) ?_
    · exact One.rem hn14 (fun _ _ => by kernel_rfl) (fun _ _ _ => by omega)
    intro G11 xa xw hDn
    refine hDn.to [2, 3, 4, 5, 6, 7] [] (by kernel_rfl) ?_
    refine At.then ?_
    refine W.seq (by kernel_rfl) ?_
    obtain ⟨n15, hn15⟩ : ∃ x : Int, x = n14 / 365 := ⟨_, rfl⟩
    obtain ⟨n16, hn16⟩ : ∃ x : Int, x = min n15 3 := ⟨_, rfl⟩
    refine W.reg (r9_11 n6 n13 n14 n15 n16) [0, 3] [1, 2] (by kernel_rfl) mo (by kernel_rfl) (fun _ _ => by kernel_rfl) ⟨?_, ?_, trivial⟩ (by kernel_rfl) ?_
    · exact One.quo hn15 (fun _ _ => by kernel_rfl) (fun _ _ _ => by omega)
    · exact One.eq (congrArg (Value.int .i64) ((min_if _ _).trans hn16.symm)) (fun _ _ => by kernel_rfl)
    intro G12 xa xw hDn
    refine hDn.to [2, 3, 4, 5, 6, 7] [] (by kernel_rfl) ?_
    refine At.then ?_
    refine W.seq (by kernel_rfl) ?_
    obtain ⟨n17, hn17⟩ : ∃ x : Int, x = n13 + n16 := ⟨_, rfl⟩
    refine W.reg (r9_12 n13 n14 n16 n17) [0, 1, 3] [2] (by kernel_rfl) mo (by kernel_rfl) (fun _ _ => by kernel_rfl) ⟨?_, trivial⟩ (by kernel_rfl) ?_
    · exact One.ar hn17 (fun _ _ => by kernel_rfl) (fun _ _ _ => by omega)
    intro G13 xa xw hDn
    refine hDn.to [2, 3, 4, 5, 6, 7] [] (by kernel_rfl) ?_
    refine At.then ?_
    refine W.seq (by kernel_rfl) ?_
    obtain ⟨n18, hn18⟩ : ∃ x : Int, x = n16 * 365 := ⟨_, rfl⟩
    obtain ⟨n19, hn19⟩ : ∃ x : Int, x = n14 - n18 := ⟨_, rfl⟩
    refine W.reg (r9_13 n14 n16 n17 n18 n19) [0, 1, 4] [2, 3] (by kernel_rfl) mo (by kernel_rfl) (fun _ _ => by kernel_rfl) ⟨?_, ?_, trivial⟩ (by kernel_rfl) ?_
    · exact One.ar hn18 (fun _ _ => by kernel_rfl) (fun _ _ _ => by omega)
    · exact One.ar hn19 (fun _ _ => by kernel_rfl) (fun _ _ _ => by omega)
    intro G14 xa xw hDn
    refine hDn.to [2, 3, 4, 5, 6] [] (by kernel_rfl) ?_
    refine At.then ?_
    refine W.seq (by kernel_rfl) ?_
    refine W.reg (r9_14 n17 n19) [0] [] (by kernel_rfl) mo (by kernel_rfl) (fun _ _ => by kernel_rfl) trivial (by kernel_rfl) ?_
    intro G15 xa xw hDn
    refine hDn.to [2, 3, 4, 5, 6, 8] [] (by kernel_rfl) ?_
    refine At.then ?_
    refine W.seq (by kernel_rfl) ?_
    refine W.block 0 (by kernel_rfl) ?_
    have hG : Cal.Good d n17 n19 := Cal.good_of d n4 n10 n14 n19 n6 n16 n17 hv1 hv2 (by omega) (by omega) (by omega) (by omega) (by omega) (by omega) (by omega)
    obtain ⟨hN0, hN1, hY0, hY1, _⟩ := id hG
    refine W.loopS (γ := Int) (fun M => [(2, .int .i64 n17), (3, .int .i64 0), (4, .int .i64 0), (5, .int .i64 0), (6, .int .i64 n19), (8, .int .i64 M)]) (fun M => []) (fun M => []) (fun M => (0 ≤ M) ∧ (M ≤ 11) ∧ (M = 11 ∨ n19 < Cal.bef (M + 1))) (fun M => M.toNat) (11) (by kernel_rfl) ?_ ?_
    · intro xa xw hs hw
      refine ⟨hs.sub (by kernel_rfl), hw, ?_⟩
      show (0 ≤ 11) ∧ (11 ≤ 11) ∧ (11 = 11 ∨ n19 < Cal.bef (11 + 1))
      exact ⟨by omega, by omega, by omega⟩
    · rintro M hF
      have hF : (0 ≤ M) ∧ (M ≤ 11) ∧ (M = 11 ∨ n19 < Cal.bef (M + 1)) := hF
      obtain ⟨hf1, hf2, hf3⟩ := hF
      show W Try.prog 72 w [] (Code.l (Code.l (Code.l (Code.r (Code.r (Code.r (Code.r (Code.r (Code.r (Code.r (Code.r (Code.r (Code.r (Code.r (Code.r (Code.r (Code.r (body Try.f9)))))))))))))))))) _ [(2, .int .i64 n17), (3, .int .i64 0), (4, .int .i64 0), (5, .int .i64 0), (6, .int .i64 n19), (8, .int .i64 M)] [] []
      have hb := Cal.bef_bd M (by omega) (by omega)
      refine W.seq (by kernel_rfl) ?_
      refine W.seq (by kernel_rfl) ?_
      obtain ⟨p2, hp2⟩ : ∃ x : Bool, x = decide (n19 < (Cal.bef M)) := ⟨_, rfl⟩
      refine W.reg (r9_15 n17 n19 M p2) [0, 2] [1, 3] (by kernel_rfl) mo (by kernel_rfl) (fun _ _ => by kernel_rfl) ⟨?_, ?_, trivial⟩ (by kernel_rfl) ?_
      · exact One.call (fun _ _ _ => before_ct M (by omega) (by omega) _) (fun _ _ => by kernel_rfl)
      · exact One.bo hp2 (fun _ _ => by kernel_rfl)
      intro G16 xa xw hDn
      refine hDn.to [2, 3, 4, 5, 6, 8, 47, 48, 49, 50] [] (by kernel_rfl) ?_
      refine At.then ?_
      refine W.cond p2 (by kernel_rfl) (fun xa hs => cnd_of (t := 50) (by kernel_rfl) (by kernel_rfl) hs) (fun hq => ?_) (fun hq => ?_)
      · skip
        have hq3 := hq
        replace hq3 := (iN hp2 iDT).1 hq3
        refine W.skip (by kernel_rfl) ?_
        refine At.then ?_
        refine W.block 1 (by kernel_rfl) ?_
        obtain ⟨n20, hn20⟩ : ∃ x : Int, x = M - 1 := ⟨_, rfl⟩
        refine W.reg (r9_16 n17 n19 M p2 n20) [0, 2] [1] (by kernel_rfl) mo (by kernel_rfl) (fun _ _ => by kernel_rfl) ⟨?_, trivial⟩ (by kernel_rfl) ?_
        · exact One.ar hn20 (fun _ _ => by kernel_rfl) (fun _ _ _ => by omega)
        intro G17 xa xw hDn
        refine hDn.to [2, 3, 4, 5, 6, 8, 47, 48, 49, 50, 51, 52] [] (by kernel_rfl) ?_
        refine At.blockNormal ?_
        intro xa xw hs hw
        refine ⟨(n20), ⟨hs.sub (by kernel_rfl), hw, ?_⟩, ?_⟩
        · show (0 ≤ n20) ∧ (n20 ≤ 11) ∧ (n20 = 11 ∨ n19 < Cal.bef (n20 + 1))
          have e0 : Cal.bef 0 = 0 := by simp [Cal.bef]
          have hM : M ≠ 0 := fun h => by subst h; omega
          rw [show n20 + 1 = M from by omega]
          exact ⟨by omega, by omega, by omega⟩
        · show n20.toNat < M.toNat
          have e0 : Cal.bef 0 = 0 := by simp [Cal.bef]
          have hM : M ≠ 0 := fun h => by subst h; omega
          omega
      · skip
        have hq4 := hq
        replace hq4 := (iN hp2 iDF).1 hq4
        refine W.exit 0 (by kernel_rfl) ?_
        refine At.thenExit ?_
        refine At.thenExit ?_
        refine At.blockHit ?_
        refine At.then ?_
        refine W.seq (by kernel_rfl) ?_
        refine W.seq (by kernel_rfl) ?_
        obtain ⟨p3, hp3⟩ : ∃ x : Bool, x = decide (10 ≤ M) := ⟨_, rfl⟩
        refine W.reg (r9_17 n17 n19 M p2 p3) [0] [1] (by kernel_rfl) mo (by kernel_rfl) (fun _ _ => by kernel_rfl) ⟨?_, trivial⟩ (by kernel_rfl) ?_
        · exact One.bo hp3 (fun _ _ => by kernel_rfl)
        intro G18 xa xw hDn
        refine hDn.to [2, 3, 4, 5, 6, 8, 54] [] (by kernel_rfl) ?_
        refine At.then ?_
        refine W.cond p3 (by kernel_rfl) (fun xa hs => cnd_of (t := 54) (by kernel_rfl) (by kernel_rfl) hs) (fun hq => ?_) (fun hq => ?_)
        · skip
          have hq5 := hq
          replace hq5 := (iN hp3 iDT).1 hq5
          refine W.seq (by kernel_rfl) ?_
          obtain ⟨n21, hn21⟩ : ∃ x : Int, x = n17 + 1 := ⟨_, rfl⟩
          obtain ⟨n22, hn22⟩ : ∃ x : Int, x = M - 9 := ⟨_, rfl⟩
          obtain ⟨n23, hn23⟩ : ∃ x : Int, x = n19 - ((Cal.bef M)) := ⟨_, rfl⟩
          obtain ⟨n24, hn24⟩ : ∃ x : Int, x = n23 + 1 := ⟨_, rfl⟩
          refine W.reg (r9_18 n17 n19 M p3 n21 n22 n23 n24) [0, 2, 4, 5, 9, 10, 11, 12] [1, 3, 6, 7, 8] (by kernel_rfl) mo (by kernel_rfl) (fun _ _ => by kernel_rfl) ⟨?_, ?_, ?_, ?_, ?_, trivial⟩ (by kernel_rfl) ?_
          · exact One.ar hn21 (fun _ _ => by kernel_rfl) (fun _ _ _ => by omega)
          · exact One.ar hn22 (fun _ _ => by kernel_rfl) (fun _ _ _ => by omega)
          · exact One.call (fun _ _ _ => before_ct M (by omega) (by omega) _) (fun _ _ => by kernel_rfl)
          · exact One.ar hn23 (fun _ _ => by kernel_rfl) (fun _ _ _ => by omega)
          · exact One.ar hn24 (fun _ _ => by kernel_rfl) (fun _ _ _ => by omega)
          intro G19 xa xw hDn
          refine hDn.to [2, 3, 4, 5, 6, 8] [] (by kernel_rfl) ?_
          refine At.then ?_
          refine W.ret (by kernel_rfl) ?_
          refine At.thenRet ?_
          refine At.results (Or.inl rfl) (.tuple #[.int .i64 n21, .int .i64 n22, .int .i64 n24, .int .i64 0]) (fun xa xw hs hw => results_many (rs := [.tmp 2, .tmp 3, .tmp 4, .tmp 5]) (vs := [.int .i64 n21, .int .i64 n22, .int .i64 n24, .int .i64 0]) (by kernel_rfl) (by simp) ⟨res_tmp (t := 2) (by kernel_rfl) hs, res_tmp (t := 3) (by kernel_rfl) hs, res_tmp (t := 4) (by kernel_rfl) hs, res_tmp (t := 5) (by kernel_rfl) hs, trivial⟩) (fun w' hw => ?_)
          have hB := hG.2.2.2.2 M (by omega) (by omega) (by omega) (by omega)
          obtain ⟨e1, e2, e3, e4⟩ := Cal.d_of hv1 hv2 (hB.1 (by omega))
          exact ⟨ret4i (by omega) (by omega) (by omega) (by omega), hw.base⟩
        · skip
          have hq6 := hq
          replace hq6 := (iN hp3 iDF).1 hq6
          refine W.skip (by kernel_rfl) ?_
          refine At.then ?_
          refine W.seq (by kernel_rfl) ?_
          obtain ⟨n25, hn25⟩ : ∃ x : Int, x = M + 3 := ⟨_, rfl⟩
          obtain ⟨n26, hn26⟩ : ∃ x : Int, x = n19 - ((Cal.bef M)) := ⟨_, rfl⟩
          obtain ⟨n27, hn27⟩ : ∃ x : Int, x = n26 + 1 := ⟨_, rfl⟩
          refine W.reg (r9_19 n17 n19 M p3 n25 n26 n27) [0, 1, 3, 4, 8, 9, 10, 11] [2, 5, 6, 7] (by kernel_rfl) mo (by kernel_rfl) (fun _ _ => by kernel_rfl) ⟨?_, ?_, ?_, ?_, trivial⟩ (by kernel_rfl) ?_
          · exact One.ar hn25 (fun _ _ => by kernel_rfl) (fun _ _ _ => by omega)
          · exact One.call (fun _ _ _ => before_ct M (by omega) (by omega) _) (fun _ _ => by kernel_rfl)
          · exact One.ar hn26 (fun _ _ => by kernel_rfl) (fun _ _ _ => by omega)
          · exact One.ar hn27 (fun _ _ => by kernel_rfl) (fun _ _ _ => by omega)
          intro G20 xa xw hDn
          refine hDn.to [2, 3, 4, 5] [] (by kernel_rfl) ?_
          refine At.then ?_
          refine W.ret (by kernel_rfl) ?_
          refine At.results (Or.inl rfl) (.tuple #[.int .i64 n17, .int .i64 n25, .int .i64 n27, .int .i64 0]) (fun xa xw hs hw => results_many (rs := [.tmp 2, .tmp 3, .tmp 4, .tmp 5]) (vs := [.int .i64 n17, .int .i64 n25, .int .i64 n27, .int .i64 0]) (by kernel_rfl) (by simp) ⟨res_tmp (t := 2) (by kernel_rfl) hs, res_tmp (t := 3) (by kernel_rfl) hs, res_tmp (t := 4) (by kernel_rfl) hs, res_tmp (t := 5) (by kernel_rfl) hs, trivial⟩) (fun w' hw => ?_)
          have hB := hG.2.2.2.2 M (by omega) (by omega) (by omega) (by omega)
          obtain ⟨e1, e2, e3, e4⟩ := Cal.d_of hv1 hv2 (hB.2 (by omega))
          exact ⟨ret4i (by omega) (by omega) (by omega) (by omega), hw.base⟩

noncomputable def r10_0 (d : Int) : RC := { ops := opsAt Try.f10 0, B := [0, 1, 3, 7], sl := [(0, .int .i64 d)], A := [], L := [], cs := [{ val := fun _ => .int .i64 0 }, { val := fun _ => .int .i64 0 }, { val := fun _ => .int .i64 0 }, { val := fun _ => .int .i64 0 }] }
noncomputable def r10_1 (d : Int) (p1 : Bool) : RC := { ops := opsAt Try.f10 1, B := [0, 1, 3], sl := [(0, .int .i64 d), (2, .int .i64 0), (3, .int .i64 0), (4, .int .i64 0), (5, .int .i64 0)], A := [], L := [], cs := [{ val := fun _ => .int .i64 d }, { val := fun _ => .bool p1 }, { val := fun _ => .bool (!p1) }] }
noncomputable def r10_2 (d : Int) (p1 : Bool) : RC := { ops := opsAt Try.f10 2, B := [0, 1, 3, 7], sl := [(0, .int .i64 d), (2, .int .i64 0), (3, .int .i64 0), (4, .int .i64 0), (5, .int .i64 0), (10, .bool (!p1))], A := [], L := [], cs := [{ val := fun _ => .int .i64 0 }, { val := fun _ => .int .i64 0 }, { val := fun _ => .int .i64 0 }, { val := fun _ => .int .i64 3 }] }
noncomputable def r10_3 (d : Int) (p1 : Bool) : RC := { ops := opsAt Try.f10 3, B := [0], sl := [(0, .int .i64 d), (2, .int .i64 0), (3, .int .i64 0), (4, .int .i64 0), (5, .int .i64 0), (10, .bool (!p1))], A := [], L := [], cs := [{ val := fun _ => .int .i64 2000 }] }
noncomputable def r10_4 (d : Int) : RC := { ops := opsAt Try.f10 4, B := [0], sl := [(0, .int .i64 d), (2, .int .i64 0), (3, .int .i64 0), (4, .int .i64 0), (5, .int .i64 0), (6, .int .i64 2000)], A := [], L := [], cs := [{ val := fun _ => .int .i64 1 }] }
noncomputable def r10_5 (dd y m : Int) (p2 : Bool) : RC := { ops := opsAt Try.f10 5, B := [0, 0, 0, 6, 15], sl := [(0, .int .i64 dd), (2, .int .i64 0), (3, .int .i64 0), (4, .int .i64 0), (5, .int .i64 0), (6, .int .i64 y), (7, .int .i64 m)], A := [], L := [], cs := [{ val := fun _ => .int .i64 dd }, { val := fun _ => .int .i64 y }, { val := fun _ => .int .i64 m }, { val := fun _ => .int .i64 ((Cal.len y m)) }, { val := fun _ => .bool p2 }] }
noncomputable def r10_6 (dd y m : Int) (p2 : Bool) (n1 : Int) : RC := { ops := opsAt Try.f10 6, B := [0, 0, 0, 6, 15, 31], sl := [(0, .int .i64 dd), (2, .int .i64 0), (3, .int .i64 0), (4, .int .i64 0), (5, .int .i64 0), (6, .int .i64 y), (7, .int .i64 m), (11, .int .i64 dd), (12, .int .i64 y), (13, .int .i64 m), (14, .int .i64 ((Cal.len y m))), (15, .bool p2)], A := [], L := [], cs := [{ val := fun _ => .int .i64 dd }, { val := fun _ => .int .i64 y }, { val := fun _ => .int .i64 m }, { val := fun _ => .int .i64 ((Cal.len y m)) }, { val := fun _ => .int .i64 n1 }, { val := fun _ => .int .i64 n1 }] }
noncomputable def r10_7 (dd y m : Int) (p2 : Bool) (n1 n2 : Int) : RC := { ops := opsAt Try.f10 7, B := [0, 1, 3], sl := [(0, .int .i64 n1), (2, .int .i64 0), (3, .int .i64 0), (4, .int .i64 0), (5, .int .i64 0), (6, .int .i64 y), (7, .int .i64 m), (11, .int .i64 dd), (12, .int .i64 y), (13, .int .i64 m), (14, .int .i64 ((Cal.len y m))), (15, .bool p2), (16, .int .i64 dd), (17, .int .i64 y), (18, .int .i64 m), (19, .int .i64 ((Cal.len y m))), (20, .int .i64 n1)], A := [], L := [], cs := [{ val := fun _ => .int .i64 m }, { val := fun _ => .int .i64 n2 }, { val := fun _ => .int .i64 n2 }] }
noncomputable def r10_8 (dd y m : Int) (p2 : Bool) (n1 n2 : Int) (p3 : Bool) : RC := { ops := opsAt Try.f10 8, B := [0, 1], sl := [(0, .int .i64 n1), (2, .int .i64 0), (3, .int .i64 0), (4, .int .i64 0), (5, .int .i64 0), (6, .int .i64 y), (7, .int .i64 n2), (11, .int .i64 dd), (12, .int .i64 y), (13, .int .i64 m), (14, .int .i64 ((Cal.len y m))), (15, .bool p2), (16, .int .i64 dd), (17, .int .i64 y), (18, .int .i64 m), (19, .int .i64 ((Cal.len y m))), (20, .int .i64 n1), (21, .int .i64 m), (22, .int .i64 n2)], A := [], L := [], cs := [{ val := fun _ => .int .i64 n2 }, { val := fun _ => .bool p3 }] }
noncomputable def r10_9 (dd y m : Int) (p2 : Bool) (n1 n2 : Int) (p3 : Bool) : RC := { ops := opsAt Try.f10 9, B := [0], sl := [(0, .int .i64 n1), (2, .int .i64 0), (3, .int .i64 0), (4, .int .i64 0), (5, .int .i64 0), (6, .int .i64 y), (7, .int .i64 n2), (11, .int .i64 dd), (12, .int .i64 y), (13, .int .i64 m), (14, .int .i64 ((Cal.len y m))), (15, .bool p2), (16, .int .i64 dd), (17, .int .i64 y), (18, .int .i64 m), (19, .int .i64 ((Cal.len y m))), (20, .int .i64 n1), (21, .int .i64 m), (22, .int .i64 n2), (23, .int .i64 n2), (24, .bool p3)], A := [], L := [], cs := [{ val := fun _ => .int .i64 1 }] }
noncomputable def r10_10 (dd y m : Int) (p2 : Bool) (n1 n2 : Int) (p3 : Bool) (n3 : Int) : RC := { ops := opsAt Try.f10 10, B := [0, 1, 3], sl := [(0, .int .i64 n1), (2, .int .i64 0), (3, .int .i64 0), (4, .int .i64 0), (5, .int .i64 0), (6, .int .i64 y), (7, .int .i64 1), (11, .int .i64 dd), (12, .int .i64 y), (13, .int .i64 m), (14, .int .i64 ((Cal.len y m))), (15, .bool p2), (16, .int .i64 dd), (17, .int .i64 y), (18, .int .i64 m), (19, .int .i64 ((Cal.len y m))), (20, .int .i64 n1), (21, .int .i64 m), (22, .int .i64 n2), (23, .int .i64 n2), (24, .bool p3)], A := [], L := [], cs := [{ val := fun _ => .int .i64 y }, { val := fun _ => .int .i64 n3 }, { val := fun _ => .int .i64 n3 }] }
noncomputable def r10_11 (dd y m : Int) (p2 : Bool) (n4 : Int) : RC := { ops := opsAt Try.f10 11, B := [0, 0, 0, 4, 1, 19, 63, 127], sl := [(0, .int .i64 dd), (2, .int .i64 0), (3, .int .i64 0), (4, .int .i64 0), (5, .int .i64 0), (6, .int .i64 y), (7, .int .i64 m), (11, .int .i64 dd), (12, .int .i64 y), (13, .int .i64 m), (14, .int .i64 ((Cal.len y m))), (15, .bool p2)], A := [], L := [], cs := [{ val := fun _ => .int .i64 y }, { val := fun _ => .int .i64 m }, { val := fun _ => .int .i64 dd }, { val := fun _ => .int .i64 n4 }, { val := fun _ => .int .i64 y }, { val := fun _ => .int .i64 m }, { val := fun _ => .int .i64 n4 }, { val := fun _ => .int .i64 0 }] }
theorem dateR_ct (d : Int) (w : World) :
    Calls Try.prog 10 #[.int .i64 d] w (fun e w' => e = .returned (.tuple #[.int .i64 ((Cal.dY d)), .int .i64 ((Cal.dM d)), .int .i64 ((Cal.dD d)), .int .i64 ((Cal.dE d))]) ∧ Base [] w w') := by
  refine calls_of_W (sl := [(0, .int .i64 d)]) (A := []) (L := []) Try.func10 (by kernel_rfl) 31 (by kernel_rfl) (by kernel_rfl) (fun _ h => by cases h) (by simp) ?_
  refine W.seq (by kernel_rfl) ?_
  refine W.reg (r10_0 d) [0, 1, 2, 3] [] (by kernel_rfl) mo (by kernel_rfl) (fun _ _ => by kernel_rfl) trivial (by kernel_rfl) ?_
  intro G1 xa xw hDn
  refine hDn.to [0, 2, 3, 4, 5] [] (by kernel_rfl) ?_
  refine At.then ?_
  refine W.seq (by kernel_rfl) ?_
  refine W.seq (by kernel_rfl) ?_
  obtain ⟨p1, hp1⟩ : ∃ x : Bool, x = (Cal.validB d) := ⟨_, rfl⟩
  refine W.reg (r10_1 d p1) [0, 2] [1] (by kernel_rfl) mo (by kernel_rfl) (fun _ _ => by kernel_rfl) ⟨?_, trivial⟩ (by kernel_rfl) ?_
  · exact One.callB hp1 (fun _ _ _ => validR_ct d _) (fun _ _ => by kernel_rfl)
  intro G2 xa xw hDn
  refine hDn.to [0, 2, 3, 4, 5, 10] [] (by kernel_rfl) ?_
  refine At.then ?_
  refine W.cond (!p1) (by kernel_rfl) (fun xa hs => cnd_of (t := 10) (by kernel_rfl) (by kernel_rfl) hs) (fun hq => ?_) (fun hq => ?_)
  · skip
    have hq1 := hq
    replace hq1 := (iNT (iN hp1 Iff.rfl)).1 hq1
    refine W.seq (by kernel_rfl) ?_
    refine W.reg (r10_2 d p1) [0, 1, 2, 3] [] (by kernel_rfl) mo (by kernel_rfl) (fun _ _ => by kernel_rfl) trivial (by kernel_rfl) ?_
    intro G3 xa xw hDn
    refine hDn.to [0, 2, 3, 4, 5] [] (by kernel_rfl) ?_
    refine At.then ?_
    refine W.ret (by kernel_rfl) ?_
    refine At.thenRet ?_
    refine At.results (Or.inl rfl) (.tuple #[.int .i64 0, .int .i64 0, .int .i64 0, .int .i64 3]) (fun xa xw hs hw => results_many (rs := [.tmp 2, .tmp 3, .tmp 4, .tmp 5]) (vs := [.int .i64 0, .int .i64 0, .int .i64 0, .int .i64 3]) (by kernel_rfl) (by simp) ⟨res_tmp (t := 2) (by kernel_rfl) hs, res_tmp (t := 3) (by kernel_rfl) hs, res_tmp (t := 4) (by kernel_rfl) hs, res_tmp (t := 5) (by kernel_rfl) hs, trivial⟩) (fun w' hw => ?_)
    have hv : ¬ (0 ≤ d ∧ d ≤ 100000) := fun h => by rw [(Cal.valid_iff d).2 h] at hq1; cases hq1
    obtain ⟨e1, e2, e3, e4⟩ := Cal.d_no hv
    exact ⟨ret4i e1.symm e2.symm e3.symm e4.symm, hw.base⟩
  · skip
    have hq2 := hq
    replace hq2 := (iNF (iN hp1 Iff.rfl)).1 hq2
    refine W.skip (by kernel_rfl) ?_
    refine At.then ?_
    refine W.seq (by kernel_rfl) ?_
    obtain ⟨hv1, hv2⟩ := (Cal.valid_iff d).1 (by simpa using hq2)
    have h00 := Cal.num_2000
    refine W.reg (r10_3 d p1) [0] [] (by kernel_rfl) mo (by kernel_rfl) (fun _ _ => by kernel_rfl) trivial (by kernel_rfl) ?_
    intro G4 xa xw hDn
    refine hDn.to [0, 2, 3, 4, 5, 6] [] (by kernel_rfl) ?_
    refine At.then ?_
    refine W.seq (by kernel_rfl) ?_
    refine W.reg (r10_4 d) [0] [] (by kernel_rfl) mo (by kernel_rfl) (fun _ _ => by kernel_rfl) trivial (by kernel_rfl) ?_
    intro G5 xa xw hDn
    refine hDn.to [0, 2, 3, 4, 5, 6, 7] [] (by kernel_rfl) ?_
    refine At.then ?_
    refine W.seq (by kernel_rfl) ?_
    refine W.block 0 (by kernel_rfl) ?_
    refine W.loopS (γ := Int × Int × Int) (fun ⟨dd, y, m⟩ => [(0, .int .i64 dd), (2, .int .i64 0), (3, .int .i64 0), (4, .int .i64 0), (5, .int .i64 0), (6, .int .i64 y), (7, .int .i64 m)]) (fun ⟨dd, y, m⟩ => []) (fun ⟨dd, y, m⟩ => []) (fun ⟨dd, y, m⟩ => (0 ≤ dd) ∧ (2000 ≤ y) ∧ (1 ≤ m) ∧ (m ≤ 12) ∧ (Cal.num y m 1 + dd = d) ∧ (dd ≤ d)) (fun ⟨dd, y, m⟩ => dd.toNat) (d, 2000, 1) (by kernel_rfl) ?_ ?_
    · intro xa xw hs hw
      refine ⟨hs.sub (by kernel_rfl), hw, ?_⟩
      show (0 ≤ d) ∧ (2000 ≤ 2000) ∧ (1 ≤ 1) ∧ (1 ≤ 12) ∧ (Cal.num 2000 1 1 + d = d) ∧ (d ≤ d)
      exact ⟨by omega, by omega, by omega, by omega, by omega, by omega⟩
    · rintro ⟨dd, y, m⟩ hF
      have hF : (0 ≤ dd) ∧ (2000 ≤ y) ∧ (1 ≤ m) ∧ (m ≤ 12) ∧ (Cal.num y m 1 + dd = d) ∧ (dd ≤ d) := hF
      obtain ⟨hf1, hf2, hf3, hf4, hf5, hf6⟩ := hF
      show W Try.prog 31 w [] (Code.l (Code.l (Code.l (Code.r (Code.r (Code.r (Code.r (body Try.f10)))))))) _ [(0, .int .i64 dd), (2, .int .i64 0), (3, .int .i64 0), (4, .int .i64 0), (5, .int .i64 0), (6, .int .i64 y), (7, .int .i64 m)] [] []
      have hl := Cal.len_bd y m
      have hy := Cal.y_le (y := y) (m := m) (by omega) (by omega) (by omega)
      refine W.seq (by kernel_rfl) ?_
      refine W.seq (by kernel_rfl) ?_
      obtain ⟨p2, hp2⟩ : ∃ x : Bool, x = decide ((Cal.len y m) ≤ dd) := ⟨_, rfl⟩
      refine W.reg (r10_5 dd y m p2) [0, 1, 2] [3, 4] (by kernel_rfl) mo (by kernel_rfl) (fun _ _ => by kernel_rfl) ⟨?_, ?_, trivial⟩ (by kernel_rfl) ?_
      · exact One.call (fun _ _ _ => length_ct y m (by omega) _) (fun _ _ => by kernel_rfl)
      · exact One.bo hp2 (fun _ _ => by kernel_rfl)
      intro G6 xa xw hDn
      refine hDn.to [0, 2, 3, 4, 5, 6, 7, 11, 12, 13, 14, 15] [] (by kernel_rfl) ?_
      refine At.then ?_
      refine W.cond p2 (by kernel_rfl) (fun xa hs => cnd_of (t := 15) (by kernel_rfl) (by kernel_rfl) hs) (fun hq => ?_) (fun hq => ?_)
      · skip
        have hq3 := hq
        replace hq3 := (iN hp2 iDT).1 hq3
        refine W.skip (by kernel_rfl) ?_
        refine At.then ?_
        refine W.block 1 (by kernel_rfl) ?_
        refine W.seq (by kernel_rfl) ?_
        obtain ⟨n1, hn1⟩ : ∃ x : Int, x = dd - ((Cal.len y m)) := ⟨_, rfl⟩
        refine W.reg (r10_6 dd y m p2 n1) [0, 1, 2, 5] [3, 4] (by kernel_rfl) mo (by kernel_rfl) (fun _ _ => by kernel_rfl) ⟨?_, ?_, trivial⟩ (by kernel_rfl) ?_
        · exact One.call (fun _ _ _ => length_ct y m (by omega) _) (fun _ _ => by kernel_rfl)
        · exact One.ar hn1 (fun _ _ => by kernel_rfl) (fun _ _ _ => by omega)
        intro G7 xa xw hDn
        refine hDn.to [0, 2, 3, 4, 5, 6, 7, 11, 12, 13, 14, 15, 16, 17, 18, 19, 20] [] (by kernel_rfl) ?_
        refine At.then ?_
        refine W.seq (by kernel_rfl) ?_
        obtain ⟨n2, hn2⟩ : ∃ x : Int, x = m + 1 := ⟨_, rfl⟩
        refine W.reg (r10_7 dd y m p2 n1 n2) [0, 2] [1] (by kernel_rfl) mo (by kernel_rfl) (fun _ _ => by kernel_rfl) ⟨?_, trivial⟩ (by kernel_rfl) ?_
        · exact One.ar hn2 (fun _ _ => by kernel_rfl) (fun _ _ _ => by omega)
        intro G8 xa xw hDn
        refine hDn.to [0, 2, 3, 4, 5, 6, 7, 11, 12, 13, 14, 15, 16, 17, 18, 19, 20, 21, 22] [] (by kernel_rfl) ?_
        refine At.then ?_
        refine W.seq (by kernel_rfl) ?_
        obtain ⟨p3, hp3⟩ : ∃ x : Bool, x = decide (12 < n2) := ⟨_, rfl⟩
        refine W.reg (r10_8 dd y m p2 n1 n2 p3) [0] [1] (by kernel_rfl) mo (by kernel_rfl) (fun _ _ => by kernel_rfl) ⟨?_, trivial⟩ (by kernel_rfl) ?_
        · exact One.bo hp3 (fun _ _ => by kernel_rfl)
        intro G9 xa xw hDn
        refine hDn.to [0, 2, 3, 4, 5, 6, 7, 11, 12, 13, 14, 15, 16, 17, 18, 19, 20, 21, 22, 23, 24] [] (by kernel_rfl) ?_
        refine At.then ?_
        refine W.cond p3 (by kernel_rfl) (fun xa hs => cnd_of (t := 24) (by kernel_rfl) (by kernel_rfl) hs) (fun hq => ?_) (fun hq => ?_)
        · skip
          have hq4 := hq
          replace hq4 := (iN hp3 iDT).1 hq4
          refine W.seq (by kernel_rfl) ?_
          refine W.reg (r10_9 dd y m p2 n1 n2 p3) [0] [] (by kernel_rfl) mo (by kernel_rfl) (fun _ _ => by kernel_rfl) trivial (by kernel_rfl) ?_
          intro G10 xa xw hDn
          refine hDn.to [0, 2, 3, 4, 5, 6, 7, 11, 12, 13, 14, 15, 16, 17, 18, 19, 20, 21, 22, 23, 24] [] (by kernel_rfl) ?_
          refine At.then ?_
          obtain ⟨n3, hn3⟩ : ∃ x : Int, x = y + 1 := ⟨_, rfl⟩
          refine W.reg (r10_10 dd y m p2 n1 n2 p3 n3) [0, 2] [1] (by kernel_rfl) mo (by kernel_rfl) (fun _ _ => by kernel_rfl) ⟨?_, trivial⟩ (by kernel_rfl) ?_
          · exact One.ar hn3 (fun _ _ => by kernel_rfl) (fun _ _ _ => by omega)
          intro G11 xa xw hDn
          refine hDn.to [0, 2, 3, 4, 5, 6, 7, 11, 12, 13, 14, 15, 16, 17, 18, 19, 20, 21, 22, 23, 24, 25, 26] [] (by kernel_rfl) ?_
          refine At.blockNormal ?_
          intro xa xw hs hw
          refine ⟨(n1, n3, 1), ⟨hs.sub (by kernel_rfl), hw, ?_⟩, ?_⟩
          · show (0 ≤ n1) ∧ (2000 ≤ n3) ∧ (1 ≤ 1) ∧ (1 ≤ 12) ∧ (Cal.num n3 1 1 + n1 = d) ∧ (n1 ≤ d)
            have hn := Cal.nxt (y := y) (m := m) (y' := n3) (m' := 1) (by omega) (by omega) (by omega)
            exact ⟨by omega, by omega, by omega, by omega, by omega, by omega⟩
          · show n1.toNat < dd.toNat
            omega
        · skip
          have hq5 := hq
          replace hq5 := (iN hp3 iDF).1 hq5
          refine W.skip (by kernel_rfl) ?_
          refine At.blockNormal ?_
          intro xa xw hs hw
          refine ⟨(n1, y, n2), ⟨hs.sub (by kernel_rfl), hw, ?_⟩, ?_⟩
          · show (0 ≤ n1) ∧ (2000 ≤ y) ∧ (1 ≤ n2) ∧ (n2 ≤ 12) ∧ (Cal.num y n2 1 + n1 = d) ∧ (n1 ≤ d)
            have hn := Cal.nxt (y := y) (m := m) (y' := y) (m' := n2) (by omega) (by omega) (by omega)
            exact ⟨by omega, by omega, by omega, by omega, by omega, by omega⟩
          · show n1.toNat < dd.toNat
            omega
      · skip
        have hq6 := hq
        replace hq6 := (iN hp2 iDF).1 hq6
        refine W.exit 0 (by kernel_rfl) ?_
        refine At.thenExit ?_
        refine At.thenExit ?_
        refine At.blockHit ?_
        refine At.then ?_
        refine W.seq (by kernel_rfl) ?_
        obtain ⟨n4, hn4⟩ : ∃ x : Int, x = dd + 1 := ⟨_, rfl⟩
        refine W.reg (r10_11 dd y m p2 n4) [0, 1, 2, 4, 5, 6, 7] [3] (by kernel_rfl) mo (by kernel_rfl) (fun _ _ => by kernel_rfl) ⟨?_, trivial⟩ (by kernel_rfl) ?_
        · exact One.ar hn4 (fun _ _ => by kernel_rfl) (fun _ _ _ => by omega)
        intro G12 xa xw hDn
        refine hDn.to [2, 3, 4, 5] [] (by kernel_rfl) ?_
        refine At.then ?_
        refine W.ret (by kernel_rfl) ?_
        refine At.results (Or.inl rfl) (.tuple #[.int .i64 y, .int .i64 m, .int .i64 n4, .int .i64 0]) (fun xa xw hs hw => results_many (rs := [.tmp 2, .tmp 3, .tmp 4, .tmp 5]) (vs := [.int .i64 y, .int .i64 m, .int .i64 n4, .int .i64 0]) (by kernel_rfl) (by simp) ⟨res_tmp (t := 2) (by kernel_rfl) hs, res_tmp (t := 3) (by kernel_rfl) hs, res_tmp (t := 4) (by kernel_rfl) hs, res_tmp (t := 5) (by kernel_rfl) hs, trivial⟩) (fun w' hw => ?_)
        have hI : Cal.IsDate d y m (dd + 1) := ⟨by omega, by omega, by omega, by omega, by rw [Cal.num_d]; omega⟩
        obtain ⟨e1, e2, e3, e4⟩ := Cal.d_of hv1 hv2 hI
        exact ⟨ret4i (by omega) (by omega) (by omega) (by omega), hw.base⟩

noncomputable def r11_0 (y m d : Int) : RC := { ops := opsAt Try.f11 0, B := [0, 1], sl := [(0, .int .i64 y), (1, .int .i64 m), (2, .int .i64 d)], A := [], L := [], cs := [{ val := fun _ => .int .i64 0 }, { val := fun _ => .int .i64 0 }] }
noncomputable def r11_1 (y m d : Int) (p1 p2 p3 p4 p5 p6 p7 p8 p9 p10 p11 : Bool) : RC := { ops := opsAt Try.f11 1, B := [0, 1, 3, 7, 15, 31, 63, 127, 255, 511, 1023, 2047, 4095, 8191, 16383, 32767, 65535, 131071, 262143, 524287, 1048575, 2097151], sl := [(0, .int .i64 y), (1, .int .i64 m), (2, .int .i64 d), (6, .int .i64 0), (7, .int .i64 0)], A := [], L := [], cs := [{ val := fun _ => .int .i64 y }, { val := fun _ => .bool p1 }, { val := fun _ => .bool p1 }, { val := fun _ => .int .i64 y }, { val := fun _ => .bool p2 }, { val := fun _ => .bool p3 }, { val := fun _ => .bool p3 }, { val := fun _ => .int .i64 m }, { val := fun _ => .bool p4 }, { val := fun _ => .bool p5 }, { val := fun _ => .bool p5 }, { val := fun _ => .int .i64 m }, { val := fun _ => .bool p6 }, { val := fun _ => .bool p7 }, { val := fun _ => .bool p7 }, { val := fun _ => .int .i64 d }, { val := fun _ => .bool p8 }, { val := fun _ => .bool p9 }, { val := fun _ => .bool p9 }, { val := fun _ => .int .i64 d }, { val := fun _ => .bool p10 }, { val := fun _ => .bool p11 }] }
noncomputable def r11_2 (y m d : Int) (p11 : Bool) : RC := { ops := opsAt Try.f11 2, B := [0, 1], sl := [(0, .int .i64 y), (1, .int .i64 m), (2, .int .i64 d), (6, .int .i64 0), (7, .int .i64 0), (34, .bool p11)], A := [], L := [], cs := [{ val := fun _ => .int .i64 0 }, { val := fun _ => .int .i64 3 }] }
noncomputable def r11_3 (y m d : Int) (p11 : Bool) : RC := { ops := opsAt Try.f11 3, B := [0, 0, 0, 7, 15], sl := [(0, .int .i64 y), (1, .int .i64 m), (2, .int .i64 d), (6, .int .i64 0), (7, .int .i64 0), (34, .bool p11)], A := [], L := [], cs := [{ val := fun _ => .int .i64 y }, { val := fun _ => .int .i64 m }, { val := fun _ => .int .i64 d }, { val := fun _ => .int .i64 ((Cal.num y m d)) }, { val := fun _ => .int .i64 ((Cal.num y m d)) }] }
noncomputable def r11_4 (y m d : Int) : RC := { ops := opsAt Try.f11 4, B := [0, 1, 3, 7, 7, 7, 7, 15, 159, 447, 1023], sl := [(0, .int .i64 y), (1, .int .i64 m), (2, .int .i64 d), (6, .int .i64 0), (7, .int .i64 0), (8, .int .i64 ((Cal.num y m d)))], A := [], L := [], cs := [{ val := fun _ => .int .i64 ((Cal.num y m d)) }, { val := fun _ => .tuple #[.int .i64 ((Cal.dY ((Cal.num y m d)))), .int .i64 ((Cal.dM ((Cal.num y m d)))), .int .i64 ((Cal.dD ((Cal.num y m d)))), .int .i64 ((Cal.dE ((Cal.num y m d))))] }, { val := fun _ => .tuple #[.int .i64 ((Cal.dY ((Cal.num y m d)))), .int .i64 ((Cal.dM ((Cal.num y m d)))), .int .i64 ((Cal.dD ((Cal.num y m d)))), .int .i64 ((Cal.dE ((Cal.num y m d))))] }, { val := fun _ => .int .i64 ((Cal.dY ((Cal.num y m d)))) }, { val := fun _ => .int .i64 ((Cal.dM ((Cal.num y m d)))) }, { val := fun _ => .int .i64 ((Cal.dD ((Cal.num y m d)))) }, { val := fun _ => .int .i64 ((Cal.dE ((Cal.num y m d)))) }, { val := fun _ => .int .i64 ((Cal.dY ((Cal.num y m d)))) }, { val := fun _ => .int .i64 ((Cal.dM ((Cal.num y m d)))) }, { val := fun _ => .int .i64 ((Cal.dD ((Cal.num y m d)))) }, { val := fun _ => .int .i64 ((Cal.dE ((Cal.num y m d)))) }] }
noncomputable def r11_5 (y m d : Int) (p12 p13 p14 p15 p16 p17 p18 : Bool) : RC := { ops := opsAt Try.f11 5, B := [0, 1, 3, 7, 7, 31, 63, 127, 255, 255, 1023, 2047, 4095, 8191, 8191, 32767, 65535], sl := [(0, .int .i64 y), (1, .int .i64 m), (2, .int .i64 d), (6, .int .i64 0), (7, .int .i64 0), (8, .int .i64 ((Cal.num y m d))), (9, .int .i64 ((Cal.dY ((Cal.num y m d))))), (10, .int .i64 ((Cal.dM ((Cal.num y m d))))), (11, .int .i64 ((Cal.dD ((Cal.num y m d))))), (12, .int .i64 ((Cal.dE ((Cal.num y m d)))))], A := [], L := [], cs := [{ val := fun _ => .int .i64 ((Cal.dE ((Cal.num y m d)))) }, { val := fun _ => .bool p12 }, { val := fun _ => .bool p12 }, { val := fun _ => .int .i64 ((Cal.dY ((Cal.num y m d)))) }, { val := fun _ => .int .i64 y }, { val := fun _ => .bool p13 }, { val := fun _ => .bool p14 }, { val := fun _ => .bool p14 }, { val := fun _ => .int .i64 ((Cal.dM ((Cal.num y m d)))) }, { val := fun _ => .int .i64 m }, { val := fun _ => .bool p15 }, { val := fun _ => .bool p16 }, { val := fun _ => .bool p16 }, { val := fun _ => .int .i64 ((Cal.dD ((Cal.num y m d)))) }, { val := fun _ => .int .i64 d }, { val := fun _ => .bool p17 }, { val := fun _ => .bool p18 }] }
noncomputable def r11_6 (y m d : Int) (p18 : Bool) : RC := { ops := opsAt Try.f11 6, B := [0, 1], sl := [(6, .int .i64 0), (7, .int .i64 0), (8, .int .i64 ((Cal.num y m d))), (62, .bool p18)], A := [], L := [], cs := [{ val := fun _ => .int .i64 0 }, { val := fun _ => .int .i64 3 }] }
noncomputable def r11_7 (y m d : Int) (p18 : Bool) : RC := { ops := opsAt Try.f11 7, B := [0, 1, 3], sl := [(6, .int .i64 0), (7, .int .i64 0), (8, .int .i64 ((Cal.num y m d))), (62, .bool p18)], A := [], L := [], cs := [{ val := fun _ => .int .i64 ((Cal.num y m d)) }, { val := fun _ => .int .i64 ((Cal.num y m d)) }, { val := fun _ => .int .i64 0 }] }
theorem day_ct (y m d : Int) (w : World) :
    Calls Try.prog 11 #[.int .i64 y, .int .i64 m, .int .i64 d] w (fun e w' => e = .returned (.tuple #[.int .i64 ((Cal.dayN y m d)), .int .i64 ((Cal.dayE y m d))]) ∧ Base [] w w') := by
  refine calls_of_W (sl := [(0, .int .i64 y), (1, .int .i64 m), (2, .int .i64 d)]) (A := []) (L := []) Try.func11 (by kernel_rfl) 64 (by kernel_rfl) (by kernel_rfl) (fun _ h => by cases h) (by simp) ?_
  refine W.seq (by kernel_rfl) ?_
  refine W.reg (r11_0 y m d) [0, 1] [] (by kernel_rfl) mo (by kernel_rfl) (fun _ _ => by kernel_rfl) trivial (by kernel_rfl) ?_
  intro G1 xa xw hDn
  refine hDn.to [0, 1, 2, 6, 7] [] (by kernel_rfl) ?_
  refine At.then ?_
  refine W.seq (by kernel_rfl) ?_
  refine W.seq (by kernel_rfl) ?_
  obtain ⟨p1, hp1⟩ : ∃ x : Bool, x = decide (y < 2000) := ⟨_, rfl⟩
  obtain ⟨p2, hp2⟩ : ∃ x : Bool, x = decide (2300 < y) := ⟨_, rfl⟩
  obtain ⟨p3, hp3⟩ : ∃ x : Bool, x = (p1 || p2) := ⟨_, rfl⟩
  obtain ⟨p4, hp4⟩ : ∃ x : Bool, x = decide (m < 1) := ⟨_, rfl⟩
  obtain ⟨p5, hp5⟩ : ∃ x : Bool, x = (p3 || p4) := ⟨_, rfl⟩
  obtain ⟨p6, hp6⟩ : ∃ x : Bool, x = decide (12 < m) := ⟨_, rfl⟩
  obtain ⟨p7, hp7⟩ : ∃ x : Bool, x = (p5 || p6) := ⟨_, rfl⟩
  obtain ⟨p8, hp8⟩ : ∃ x : Bool, x = decide (d < 1) := ⟨_, rfl⟩
  obtain ⟨p9, hp9⟩ : ∃ x : Bool, x = (p7 || p8) := ⟨_, rfl⟩
  obtain ⟨p10, hp10⟩ : ∃ x : Bool, x = decide (31 < d) := ⟨_, rfl⟩
  obtain ⟨p11, hp11⟩ : ∃ x : Bool, x = (p9 || p10) := ⟨_, rfl⟩
  refine W.reg (r11_1 y m d p1 p2 p3 p4 p5 p6 p7 p8 p9 p10 p11) [0, 2, 3, 6, 7, 10, 11, 14, 15, 18, 19] [1, 4, 5, 8, 9, 12, 13, 16, 17, 20, 21] (by kernel_rfl) mo (by kernel_rfl) (fun _ _ => by kernel_rfl) ⟨?_, ?_, ?_, ?_, ?_, ?_, ?_, ?_, ?_, ?_, ?_, trivial⟩ (by kernel_rfl) ?_
  · exact One.bo hp1 (fun _ _ => by kernel_rfl)
  · exact One.bo hp2 (fun _ _ => by kernel_rfl)
  · subst hp3
    cases p1 <;> exact One.under fun _ _ _ => by kernel_rfl
  · exact One.bo hp4 (fun _ _ => by kernel_rfl)
  · subst hp5
    cases p3 <;> exact One.under fun _ _ _ => by kernel_rfl
  · exact One.bo hp6 (fun _ _ => by kernel_rfl)
  · subst hp7
    cases p5 <;> exact One.under fun _ _ _ => by kernel_rfl
  · exact One.bo hp8 (fun _ _ => by kernel_rfl)
  · subst hp9
    cases p7 <;> exact One.under fun _ _ _ => by kernel_rfl
  · exact One.bo hp10 (fun _ _ => by kernel_rfl)
  · subst hp11
    cases p9 <;> exact One.under fun _ _ _ => by kernel_rfl
  intro G2 xa xw hDn
  refine hDn.to [0, 1, 2, 6, 7, 34] [] (by kernel_rfl) ?_
  refine At.then ?_
  refine W.cond p11 (by kernel_rfl) (fun xa hs => cnd_of (t := 34) (by kernel_rfl) (by kernel_rfl) hs) (fun hq => ?_) (fun hq => ?_)
  · skip
    have hq1 := hq
    replace hq1 := (iN hp11 (iOT (iN hp9 (iOT (iN hp7 (iOT (iN hp5 (iOT (iN hp3 (iOT (iN hp1 iDT) (iN hp2 iDT))) (iN hp4 iDT))) (iN hp6 iDT))) (iN hp8 iDT))) (iN hp10 iDT))).1 hq1
    refine W.seq (by kernel_rfl) ?_
    refine W.reg (r11_2 y m d p11) [0, 1] [] (by kernel_rfl) mo (by kernel_rfl) (fun _ _ => by kernel_rfl) trivial (by kernel_rfl) ?_
    intro G3 xa xw hDn
    refine hDn.to [0, 1, 2, 6, 7] [] (by kernel_rfl) ?_
    refine At.then ?_
    refine W.ret (by kernel_rfl) ?_
    refine At.thenRet ?_
    refine At.results (Or.inl rfl) (.tuple #[.int .i64 0, .int .i64 3]) (fun xa xw hs hw => results_many (rs := [.tmp 6, .tmp 7]) (vs := [.int .i64 0, .int .i64 3]) (by kernel_rfl) (by simp) ⟨res_tmp (t := 6) (by kernel_rfl) hs, res_tmp (t := 7) (by kernel_rfl) hs, trivial⟩) (fun w' hw => ?_)
    have hn : ¬ Cal.isDay y m d := fun h => by
      have hI := Cal.isDay_date h
      have hl := Cal.len_bd y m
      obtain ⟨a1, a2, a3, a4, a5, a6, a7, a8⟩ := h
      have hD := Cal.d_of a7 a8 hI
      omega
    obtain ⟨e1, e2⟩ := Cal.day_no hn
    exact ⟨ret2i e1.symm e2.symm, hw.base⟩
  · skip
    have hq2 := hq
    replace hq2 := (iN hp11 (iOF (iN hp9 (iOF (iN hp7 (iOF (iN hp5 (iOF (iN hp3 (iOF (iN hp1 iDF) (iN hp2 iDF))) (iN hp4 iDF))) (iN hp6 iDF))) (iN hp8 iDF))) (iN hp10 iDF))).1 hq2
    refine W.skip (by kernel_rfl) ?_
    refine At.then ?_
    refine W.seq (by kernel_rfl) ?_
    refine W.reg (r11_3 y m d p11) [0, 1, 2, 4] [3] (by kernel_rfl) mo (by kernel_rfl) (fun _ _ => by kernel_rfl) ⟨?_, trivial⟩ (by kernel_rfl) ?_
    · exact One.call (fun _ _ _ => number_ct y m d (by omega) (by omega) (by omega) (by omega) (by omega) (by omega) _) (fun _ _ => by kernel_rfl)
    intro G4 xa xw hDn
    refine hDn.to [0, 1, 2, 6, 7, 8] [] (by kernel_rfl) ?_
    refine At.then ?_
    refine W.seq (by kernel_rfl) ?_
    refine W.seq (by kernel_rfl) ?_
    refine W.reg (r11_4 y m d) [0, 2, 3, 4, 5, 6, 7, 8, 9, 10] [1] (by kernel_rfl) mo (by kernel_rfl) (fun _ _ => by kernel_rfl) ⟨?_, trivial⟩ (by kernel_rfl) ?_
    · exact One.call (fun _ _ _ => date_ct ((Cal.num y m d)) _) (fun _ _ => by kernel_rfl)
    intro G5 xa xw hDn
    refine hDn.to [0, 1, 2, 6, 7, 8, 9, 10, 11, 12] [] (by kernel_rfl) ?_
    refine At.then ?_
    refine W.seq (by kernel_rfl) ?_
    obtain ⟨p12, hp12⟩ : ∃ x : Bool, x = !(decide ((Cal.dE ((Cal.num y m d))) = 0)) := ⟨_, rfl⟩
    obtain ⟨p13, hp13⟩ : ∃ x : Bool, x = !(decide ((Cal.dY ((Cal.num y m d))) = y)) := ⟨_, rfl⟩
    obtain ⟨p14, hp14⟩ : ∃ x : Bool, x = (p12 || p13) := ⟨_, rfl⟩
    obtain ⟨p15, hp15⟩ : ∃ x : Bool, x = !(decide ((Cal.dM ((Cal.num y m d))) = m)) := ⟨_, rfl⟩
    obtain ⟨p16, hp16⟩ : ∃ x : Bool, x = (p14 || p15) := ⟨_, rfl⟩
    obtain ⟨p17, hp17⟩ : ∃ x : Bool, x = !(decide ((Cal.dD ((Cal.num y m d))) = d)) := ⟨_, rfl⟩
    obtain ⟨p18, hp18⟩ : ∃ x : Bool, x = (p16 || p17) := ⟨_, rfl⟩
    refine W.reg (r11_5 y m d p12 p13 p14 p15 p16 p17 p18) [0, 2, 3, 4, 7, 8, 9, 12, 13, 14] [1, 5, 6, 10, 11, 15, 16] (by kernel_rfl) mo (by kernel_rfl) (fun _ _ => by kernel_rfl) ⟨?_, ?_, ?_, ?_, ?_, ?_, ?_, trivial⟩ (by kernel_rfl) ?_
    · exact One.bo hp12 (fun _ _ => by kernel_rfl)
    · exact One.bo hp13 (fun _ _ => by kernel_rfl)
    · subst hp14
      cases p12 <;> exact One.under fun _ _ _ => by kernel_rfl
    · exact One.bo hp15 (fun _ _ => by kernel_rfl)
    · subst hp16
      cases p14 <;> exact One.under fun _ _ _ => by kernel_rfl
    · exact One.bo hp17 (fun _ _ => by kernel_rfl)
    · subst hp18
      cases p16 <;> exact One.under fun _ _ _ => by kernel_rfl
    intro G6 xa xw hDn
    refine hDn.to [6, 7, 8, 62] [] (by kernel_rfl) ?_
    refine At.then ?_
    refine W.cond p18 (by kernel_rfl) (fun xa hs => cnd_of (t := 62) (by kernel_rfl) (by kernel_rfl) hs) (fun hq => ?_) (fun hq => ?_)
    · skip
      have hq3 := hq
      replace hq3 := (iN hp18 (iOT (iN hp16 (iOT (iN hp14 (iOT (iN hp12 (iNT iDF)) (iN hp13 (iNT iDF)))) (iN hp15 (iNT iDF)))) (iN hp17 (iNT iDF)))).1 hq3
      refine W.seq (by kernel_rfl) ?_
      refine W.reg (r11_6 y m d p18) [0, 1] [] (by kernel_rfl) mo (by kernel_rfl) (fun _ _ => by kernel_rfl) trivial (by kernel_rfl) ?_
      intro G7 xa xw hDn
      refine hDn.to [6, 7, 8] [] (by kernel_rfl) ?_
      refine At.then ?_
      refine W.ret (by kernel_rfl) ?_
      refine At.thenRet ?_
      refine At.results (Or.inl rfl) (.tuple #[.int .i64 0, .int .i64 3]) (fun xa xw hs hw => results_many (rs := [.tmp 6, .tmp 7]) (vs := [.int .i64 0, .int .i64 3]) (by kernel_rfl) (by simp) ⟨res_tmp (t := 6) (by kernel_rfl) hs, res_tmp (t := 7) (by kernel_rfl) hs, trivial⟩) (fun w' hw => ?_)
      have hn : ¬ Cal.isDay y m d := fun h => by
        have hI := Cal.isDay_date h
        have hl := Cal.len_bd y m
        obtain ⟨a1, a2, a3, a4, a5, a6, a7, a8⟩ := h
        have hD := Cal.d_of a7 a8 hI
        omega
      obtain ⟨e1, e2⟩ := Cal.day_no hn
      exact ⟨ret2i e1.symm e2.symm, hw.base⟩
    · skip
      have hq4 := hq
      replace hq4 := (iN hp18 (iOF (iN hp16 (iOF (iN hp14 (iOF (iN hp12 (iNF iDT)) (iN hp13 (iNF iDT)))) (iN hp15 (iNF iDT)))) (iN hp17 (iNF iDT)))).1 hq4
      refine W.skip (by kernel_rfl) ?_
      refine At.then ?_
      refine W.seq (by kernel_rfl) ?_
      refine W.reg (r11_7 y m d p18) [0, 1, 2] [] (by kernel_rfl) mo (by kernel_rfl) (fun _ _ => by kernel_rfl) trivial (by kernel_rfl) ?_
      intro G8 xa xw hDn
      refine hDn.to [6, 7] [] (by kernel_rfl) ?_
      refine At.then ?_
      refine W.ret (by kernel_rfl) ?_
      refine At.results (Or.inl rfl) (.tuple #[.int .i64 ((Cal.num y m d)), .int .i64 0]) (fun xa xw hs hw => results_many (rs := [.tmp 6, .tmp 7]) (vs := [.int .i64 ((Cal.num y m d)), .int .i64 0]) (by kernel_rfl) (by simp) ⟨res_tmp (t := 6) (by kernel_rfl) hs, res_tmp (t := 7) (by kernel_rfl) hs, trivial⟩) (fun w' hw => ?_)
      have hC := Cal.dE_cases (Cal.num y m d)
      have hI := (Cal.d_is (d := Cal.num y m d) (by omega) (by omega)).1
      rw [show Cal.dY (Cal.num y m d) = y from by omega, show Cal.dM (Cal.num y m d) = m from by omega, show Cal.dD (Cal.num y m d) = d from by omega] at hI
      have hy : Cal.isDay y m d := ⟨by omega, by omega, hI.m1, hI.m2, hI.d1, hI.d2, by omega, by omega⟩
      obtain ⟨e1, e2⟩ := Cal.day_yes hy
      exact ⟨ret2i e1.symm e2.symm, hw.base⟩

noncomputable def r12_0 (y m d : Int) : RC := { ops := opsAt Try.f12 0, B := [0, 1], sl := [(0, .int .i64 y), (1, .int .i64 m), (2, .int .i64 d)], A := [], L := [], cs := [{ val := fun _ => .int .i64 0 }, { val := fun _ => .int .i64 0 }] }
noncomputable def r12_1 (y m d : Int) (p1 p2 p3 p4 p5 p6 p7 p8 p9 : Bool) : RC := { ops := opsAt Try.f12 1, B := [0, 1, 3, 7, 15, 31, 63, 127, 255, 511, 1023, 2047, 4095, 8191, 16383, 32767, 65535, 131071], sl := [(0, .int .i64 y), (1, .int .i64 m), (2, .int .i64 d), (6, .int .i64 0), (7, .int .i64 0)], A := [], L := [], cs := [{ val := fun _ => .int .i64 y }, { val := fun _ => .bool p1 }, { val := fun _ => .bool p1 }, { val := fun _ => .int .i64 y }, { val := fun _ => .bool p2 }, { val := fun _ => .bool p3 }, { val := fun _ => .bool p3 }, { val := fun _ => .int .i64 m }, { val := fun _ => .bool p4 }, { val := fun _ => .bool p5 }, { val := fun _ => .bool p5 }, { val := fun _ => .int .i64 m }, { val := fun _ => .bool p6 }, { val := fun _ => .bool p7 }, { val := fun _ => .bool p7 }, { val := fun _ => .int .i64 d }, { val := fun _ => .bool p8 }, { val := fun _ => .bool p9 }] }
noncomputable def r12_2 (y m d : Int) (p9 : Bool) : RC := { ops := opsAt Try.f12 2, B := [0, 1], sl := [(0, .int .i64 y), (1, .int .i64 m), (2, .int .i64 d), (6, .int .i64 0), (7, .int .i64 0), (28, .bool p9)], A := [], L := [], cs := [{ val := fun _ => .int .i64 0 }, { val := fun _ => .int .i64 3 }] }
noncomputable def r12_3 (y m d : Int) (p9 p10 : Bool) : RC := { ops := opsAt Try.f12 3, B := [0, 0, 0, 6, 15], sl := [(0, .int .i64 y), (1, .int .i64 m), (2, .int .i64 d), (6, .int .i64 0), (7, .int .i64 0), (28, .bool p9)], A := [], L := [], cs := [{ val := fun _ => .int .i64 d }, { val := fun _ => .int .i64 y }, { val := fun _ => .int .i64 m }, { val := fun _ => .int .i64 ((Cal.len y m)) }, { val := fun _ => .bool p10 }] }
noncomputable def r12_4 (y m d : Int) (p10 : Bool) : RC := { ops := opsAt Try.f12 4, B := [0, 1], sl := [(0, .int .i64 y), (1, .int .i64 m), (2, .int .i64 d), (6, .int .i64 0), (7, .int .i64 0), (33, .bool p10)], A := [], L := [], cs := [{ val := fun _ => .int .i64 0 }, { val := fun _ => .int .i64 3 }] }
noncomputable def r12_5 (y m d : Int) (p10 : Bool) (n1 : Int) : RC := { ops := opsAt Try.f12 5, B := [0, 1, 3], sl := [(0, .int .i64 y), (1, .int .i64 m), (2, .int .i64 d), (6, .int .i64 0), (7, .int .i64 0), (33, .bool p10)], A := [], L := [], cs := [{ val := fun _ => .int .i64 d }, { val := fun _ => .int .i64 n1 }, { val := fun _ => .int .i64 n1 }] }
noncomputable def r12_6 (y m n1 : Int) : RC := { ops := opsAt Try.f12 6, B := [0], sl := [(0, .int .i64 y), (1, .int .i64 m), (6, .int .i64 0), (7, .int .i64 0), (8, .int .i64 n1)], A := [], L := [], cs := [{ val := fun _ => .int .i64 1 }] }
noncomputable def r12_7 (y m N M : Int) (p11 : Bool) : RC := { ops := opsAt Try.f12 7, B := [0, 0, 3], sl := [(0, .int .i64 y), (1, .int .i64 m), (6, .int .i64 0), (7, .int .i64 0), (8, .int .i64 N), (9, .int .i64 M)], A := [], L := [], cs := [{ val := fun _ => .int .i64 M }, { val := fun _ => .int .i64 m }, { val := fun _ => .bool p11 }] }
noncomputable def r12_8 (y m N M : Int) (p11 : Bool) (n2 : Int) : RC := { ops := opsAt Try.f12 9, B := [0, 0, 0, 6, 15, 31], sl := [(0, .int .i64 y), (1, .int .i64 m), (6, .int .i64 0), (7, .int .i64 0), (8, .int .i64 N), (9, .int .i64 M), (36, .int .i64 M), (37, .int .i64 m), (38, .bool p11)], A := [], L := [], cs := [{ val := fun _ => .int .i64 N }, { val := fun _ => .int .i64 y }, { val := fun _ => .int .i64 M }, { val := fun _ => .int .i64 ((Cal.len y M)) }, { val := fun _ => .int .i64 n2 }, { val := fun _ => .int .i64 n2 }] }
noncomputable def r12_9 (y m N M : Int) (p11 : Bool) (n2 n3 : Int) : RC := { ops := opsAt Try.f12 8, B := [0, 1, 3], sl := [(0, .int .i64 y), (1, .int .i64 m), (6, .int .i64 0), (7, .int .i64 0), (8, .int .i64 n2), (9, .int .i64 M), (36, .int .i64 M), (37, .int .i64 m), (38, .bool p11), (41, .int .i64 N), (42, .int .i64 y), (43, .int .i64 M), (44, .int .i64 ((Cal.len y M))), (45, .int .i64 n2)], A := [], L := [], cs := [{ val := fun _ => .int .i64 M }, { val := fun _ => .int .i64 n3 }, { val := fun _ => .int .i64 n3 }] }
noncomputable def r12_10 (y m N M : Int) (p11 : Bool) : RC := { ops := opsAt Try.f12 10, B := [0], sl := [(0, .int .i64 y), (1, .int .i64 m), (6, .int .i64 0), (7, .int .i64 0), (8, .int .i64 N), (9, .int .i64 M), (36, .int .i64 M), (37, .int .i64 m), (38, .bool p11)], A := [], L := [], cs := [{ val := fun _ => .int .i64 2000 }] }
noncomputable def r12_11 (y N2 Y : Int) (p12 : Bool) : RC := { ops := opsAt Try.f12 11, B := [0, 0, 3], sl := [(0, .int .i64 y), (6, .int .i64 0), (7, .int .i64 0), (8, .int .i64 N2), (10, .int .i64 Y)], A := [], L := [], cs := [{ val := fun _ => .int .i64 Y }, { val := fun _ => .int .i64 y }, { val := fun _ => .bool p12 }] }
noncomputable def r12_12 (y N2 Y : Int) (p12 : Bool) (n4 : Int) : RC := { ops := opsAt Try.f12 13, B := [0, 1, 3], sl := [(0, .int .i64 y), (6, .int .i64 0), (7, .int .i64 0), (8, .int .i64 N2), (10, .int .i64 Y), (46, .int .i64 Y), (47, .int .i64 y), (48, .bool p12)], A := [], L := [], cs := [{ val := fun _ => .int .i64 N2 }, { val := fun _ => .int .i64 n4 }, { val := fun _ => .int .i64 n4 }] }
noncomputable def r12_13 (y N2 Y : Int) (p12 : Bool) (n4 : Int) (p13 : Bool) : RC := { ops := opsAt Try.f12 14, B := [0, 1], sl := [(0, .int .i64 y), (6, .int .i64 0), (7, .int .i64 0), (8, .int .i64 n4), (10, .int .i64 Y), (46, .int .i64 Y), (47, .int .i64 y), (48, .bool p12), (51, .int .i64 N2), (52, .int .i64 n4)], A := [], L := [], cs := [{ val := fun _ => .int .i64 Y }, { val := fun _ => .bool p13 }] }
noncomputable def r12_14 (y N2 Y : Int) (p12 : Bool) (n4 : Int) (p13 : Bool) (n5 : Int) : RC := { ops := opsAt Try.f12 15, B := [0, 1, 3], sl := [(0, .int .i64 y), (6, .int .i64 0), (7, .int .i64 0), (8, .int .i64 n4), (10, .int .i64 Y), (46, .int .i64 Y), (47, .int .i64 y), (48, .bool p12), (51, .int .i64 N2), (52, .int .i64 n4), (53, .int .i64 Y), (54, .bool p13)], A := [], L := [], cs := [{ val := fun _ => .int .i64 n4 }, { val := fun _ => .int .i64 n5 }, { val := fun _ => .int .i64 n5 }] }
noncomputable def r12_15 (y N2 Y : Int) (p12 : Bool) (n4 : Int) (p13 : Bool) (n5 n6 : Int) : RC := { ops := opsAt Try.f12 12, B := [0, 1, 3], sl := [(0, .int .i64 y), (6, .int .i64 0), (7, .int .i64 0), (8, .int .i64 n5), (10, .int .i64 Y), (46, .int .i64 Y), (47, .int .i64 y), (48, .bool p12), (51, .int .i64 N2), (52, .int .i64 n4), (53, .int .i64 Y), (54, .bool p13), (55, .int .i64 n4), (56, .int .i64 n5)], A := [], L := [], cs := [{ val := fun _ => .int .i64 Y }, { val := fun _ => .int .i64 n6 }, { val := fun _ => .int .i64 n6 }] }
noncomputable def r12_16 (y N2 Y : Int) (p12 : Bool) (n4 : Int) (p13 : Bool) (n7 : Int) : RC := { ops := opsAt Try.f12 12, B := [0, 1, 3], sl := [(0, .int .i64 y), (6, .int .i64 0), (7, .int .i64 0), (8, .int .i64 n4), (10, .int .i64 Y), (46, .int .i64 Y), (47, .int .i64 y), (48, .bool p12), (51, .int .i64 N2), (52, .int .i64 n4), (53, .int .i64 Y), (54, .bool p13)], A := [], L := [], cs := [{ val := fun _ => .int .i64 Y }, { val := fun _ => .int .i64 n7 }, { val := fun _ => .int .i64 n7 }] }
noncomputable def r12_17 (y N2 Y : Int) (p12 p14 : Bool) : RC := { ops := opsAt Try.f12 16, B := [0, 1, 3], sl := [(0, .int .i64 y), (6, .int .i64 0), (7, .int .i64 0), (8, .int .i64 N2), (10, .int .i64 Y), (46, .int .i64 Y), (47, .int .i64 y), (48, .bool p12)], A := [], L := [], cs := [{ val := fun _ => .int .i64 N2 }, { val := fun _ => .bool p14 }, { val := fun _ => .bool (!p14) }] }
noncomputable def r12_18 (N2 : Int) (p14 : Bool) : RC := { ops := opsAt Try.f12 17, B := [0, 1], sl := [(6, .int .i64 0), (7, .int .i64 0), (8, .int .i64 N2), (59, .bool (!p14))], A := [], L := [], cs := [{ val := fun _ => .int .i64 0 }, { val := fun _ => .int .i64 3 }] }
noncomputable def r12_19 (N2 : Int) (p14 : Bool) : RC := { ops := opsAt Try.f12 18, B := [0, 1, 3], sl := [(6, .int .i64 0), (7, .int .i64 0), (8, .int .i64 N2), (59, .bool (!p14))], A := [], L := [], cs := [{ val := fun _ => .int .i64 N2 }, { val := fun _ => .int .i64 N2 }, { val := fun _ => .int .i64 0 }] }
theorem dayR_ct (y m d : Int) (hdl : -9223372036854775808 ≤ d) (hdh : d ≤ 9223372036854775807) (w : World) :
    Calls Try.prog 12 #[.int .i64 y, .int .i64 m, .int .i64 d] w (fun e w' => e = .returned (.tuple #[.int .i64 ((Cal.dayN y m d)), .int .i64 ((Cal.dayE y m d))]) ∧ Base [] w w') := by
  refine calls_of_W (sl := [(0, .int .i64 y), (1, .int .i64 m), (2, .int .i64 d)]) (A := []) (L := []) Try.func12 (by kernel_rfl) 61 (by kernel_rfl) (by kernel_rfl) (fun _ h => by cases h) (by simp) ?_
  refine W.seq (by kernel_rfl) ?_
  refine W.reg (r12_0 y m d) [0, 1] [] (by kernel_rfl) mo (by kernel_rfl) (fun _ _ => by kernel_rfl) trivial (by kernel_rfl) ?_
  intro G1 xa xw hDn
  refine hDn.to [0, 1, 2, 6, 7] [] (by kernel_rfl) ?_
  refine At.then ?_
  refine W.seq (by kernel_rfl) ?_
  refine W.seq (by kernel_rfl) ?_
  obtain ⟨p1, hp1⟩ : ∃ x : Bool, x = decide (y < 2000) := ⟨_, rfl⟩
  obtain ⟨p2, hp2⟩ : ∃ x : Bool, x = decide (2300 < y) := ⟨_, rfl⟩
  obtain ⟨p3, hp3⟩ : ∃ x : Bool, x = (p1 || p2) := ⟨_, rfl⟩
  obtain ⟨p4, hp4⟩ : ∃ x : Bool, x = decide (m < 1) := ⟨_, rfl⟩
  obtain ⟨p5, hp5⟩ : ∃ x : Bool, x = (p3 || p4) := ⟨_, rfl⟩
  obtain ⟨p6, hp6⟩ : ∃ x : Bool, x = decide (12 < m) := ⟨_, rfl⟩
  obtain ⟨p7, hp7⟩ : ∃ x : Bool, x = (p5 || p6) := ⟨_, rfl⟩
  obtain ⟨p8, hp8⟩ : ∃ x : Bool, x = decide (d < 1) := ⟨_, rfl⟩
  obtain ⟨p9, hp9⟩ : ∃ x : Bool, x = (p7 || p8) := ⟨_, rfl⟩
  refine W.reg (r12_1 y m d p1 p2 p3 p4 p5 p6 p7 p8 p9) [0, 2, 3, 6, 7, 10, 11, 14, 15] [1, 4, 5, 8, 9, 12, 13, 16, 17] (by kernel_rfl) mo (by kernel_rfl) (fun _ _ => by kernel_rfl) ⟨?_, ?_, ?_, ?_, ?_, ?_, ?_, ?_, ?_, trivial⟩ (by kernel_rfl) ?_
  · exact One.bo hp1 (fun _ _ => by kernel_rfl)
  · exact One.bo hp2 (fun _ _ => by kernel_rfl)
  · subst hp3
    cases p1 <;> exact One.under fun _ _ _ => by kernel_rfl
  · exact One.bo hp4 (fun _ _ => by kernel_rfl)
  · subst hp5
    cases p3 <;> exact One.under fun _ _ _ => by kernel_rfl
  · exact One.bo hp6 (fun _ _ => by kernel_rfl)
  · subst hp7
    cases p5 <;> exact One.under fun _ _ _ => by kernel_rfl
  · exact One.bo hp8 (fun _ _ => by kernel_rfl)
  · subst hp9
    cases p7 <;> exact One.under fun _ _ _ => by kernel_rfl
  intro G2 xa xw hDn
  refine hDn.to [0, 1, 2, 6, 7, 28] [] (by kernel_rfl) ?_
  refine At.then ?_
  refine W.cond p9 (by kernel_rfl) (fun xa hs => cnd_of (t := 28) (by kernel_rfl) (by kernel_rfl) hs) (fun hq => ?_) (fun hq => ?_)
  · skip
    have hq1 := hq
    replace hq1 := (iN hp9 (iOT (iN hp7 (iOT (iN hp5 (iOT (iN hp3 (iOT (iN hp1 iDT) (iN hp2 iDT))) (iN hp4 iDT))) (iN hp6 iDT))) (iN hp8 iDT))).1 hq1
    refine W.seq (by kernel_rfl) ?_
    refine W.reg (r12_2 y m d p9) [0, 1] [] (by kernel_rfl) mo (by kernel_rfl) (fun _ _ => by kernel_rfl) trivial (by kernel_rfl) ?_
    intro G3 xa xw hDn
    refine hDn.to [0, 1, 2, 6, 7] [] (by kernel_rfl) ?_
    refine At.then ?_
    refine W.ret (by kernel_rfl) ?_
    refine At.thenRet ?_
    refine At.results (Or.inl rfl) (.tuple #[.int .i64 0, .int .i64 3]) (fun xa xw hs hw => results_many (rs := [.tmp 6, .tmp 7]) (vs := [.int .i64 0, .int .i64 3]) (by kernel_rfl) (by simp) ⟨res_tmp (t := 6) (by kernel_rfl) hs, res_tmp (t := 7) (by kernel_rfl) hs, trivial⟩) (fun w' hw => ?_)
    have hn : ¬ Cal.isDay y m d := fun h => by
      have hI := Cal.isDay_date h
      have hl := Cal.len_bd y m
      have hV := Cal.valid_iff (Cal.num y m d)
      obtain ⟨a1, a2, a3, a4, a5, a6, a7, a8⟩ := h
      have hV2 := hV.2 ⟨a7, a8⟩
      omega
    obtain ⟨e1, e2⟩ := Cal.day_no hn
    exact ⟨ret2i e1.symm e2.symm, hw.base⟩
  · skip
    have hq2 := hq
    replace hq2 := (iN hp9 (iOF (iN hp7 (iOF (iN hp5 (iOF (iN hp3 (iOF (iN hp1 iDF) (iN hp2 iDF))) (iN hp4 iDF))) (iN hp6 iDF))) (iN hp8 iDF))).1 hq2
    refine W.skip (by kernel_rfl) ?_
    refine At.then ?_
    refine W.seq (by kernel_rfl) ?_
    refine W.seq (by kernel_rfl) ?_
    obtain ⟨p10, hp10⟩ : ∃ x : Bool, x = decide ((Cal.len y m) < d) := ⟨_, rfl⟩
    refine W.reg (r12_3 y m d p9 p10) [0, 1, 2] [3, 4] (by kernel_rfl) mo (by kernel_rfl) (fun _ _ => by kernel_rfl) ⟨?_, ?_, trivial⟩ (by kernel_rfl) ?_
    · exact One.call (fun _ _ _ => length_ct y m (by omega) _) (fun _ _ => by kernel_rfl)
    · exact One.bo hp10 (fun _ _ => by kernel_rfl)
    intro G4 xa xw hDn
    refine hDn.to [0, 1, 2, 6, 7, 33] [] (by kernel_rfl) ?_
    refine At.then ?_
    refine W.cond p10 (by kernel_rfl) (fun xa hs => cnd_of (t := 33) (by kernel_rfl) (by kernel_rfl) hs) (fun hq => ?_) (fun hq => ?_)
    · skip
      have hq3 := hq
      replace hq3 := (iN hp10 iDT).1 hq3
      refine W.seq (by kernel_rfl) ?_
      refine W.reg (r12_4 y m d p10) [0, 1] [] (by kernel_rfl) mo (by kernel_rfl) (fun _ _ => by kernel_rfl) trivial (by kernel_rfl) ?_
      intro G5 xa xw hDn
      refine hDn.to [0, 1, 2, 6, 7] [] (by kernel_rfl) ?_
      refine At.then ?_
      refine W.ret (by kernel_rfl) ?_
      refine At.thenRet ?_
      refine At.results (Or.inl rfl) (.tuple #[.int .i64 0, .int .i64 3]) (fun xa xw hs hw => results_many (rs := [.tmp 6, .tmp 7]) (vs := [.int .i64 0, .int .i64 3]) (by kernel_rfl) (by simp) ⟨res_tmp (t := 6) (by kernel_rfl) hs, res_tmp (t := 7) (by kernel_rfl) hs, trivial⟩) (fun w' hw => ?_)
      have hn : ¬ Cal.isDay y m d := fun h => by
        have hI := Cal.isDay_date h
        have hl := Cal.len_bd y m
        have hV := Cal.valid_iff (Cal.num y m d)
        obtain ⟨a1, a2, a3, a4, a5, a6, a7, a8⟩ := h
        have hV2 := hV.2 ⟨a7, a8⟩
        omega
      obtain ⟨e1, e2⟩ := Cal.day_no hn
      exact ⟨ret2i e1.symm e2.symm, hw.base⟩
    · skip
      have hq4 := hq
      replace hq4 := (iN hp10 iDF).1 hq4
      refine W.skip (by kernel_rfl) ?_
      refine At.then ?_
      refine W.seq (by kernel_rfl) ?_
      have hlb := Cal.len_bd y m
      have h00 := Cal.num_2000
      have hnb := Cal.num_bd (y := y) (m := m) (by omega) (by omega) (by omega) (by omega)
      have hnb1 := Cal.num_bd (y := y) (m := 1) (by omega) (by omega) (by omega) (by omega)
      have hnd := Cal.num_d y m d
      obtain ⟨n1, hn1⟩ : ∃ x : Int, x = d - 1 := ⟨_, rfl⟩
      refine W.reg (r12_5 y m d p10 n1) [0, 2] [1] (by kernel_rfl) mo (by kernel_rfl) (fun _ _ => by kernel_rfl) ⟨?_, trivial⟩ (by kernel_rfl) ?_
      · exact One.ar hn1 (fun _ _ => by kernel_rfl) (fun _ _ _ => by omega)
      intro G6 xa xw hDn
      refine hDn.to [0, 1, 6, 7, 8] [] (by kernel_rfl) ?_
      refine At.then ?_
      refine W.seq (by kernel_rfl) ?_
      refine W.seq (by kernel_rfl) ?_
      refine W.reg (r12_6 y m n1) [0] [] (by kernel_rfl) mo (by kernel_rfl) (fun _ _ => by kernel_rfl) trivial (by kernel_rfl) ?_
      intro G7 xa xw hDn
      refine hDn.to [0, 1, 6, 7, 8, 9] [] (by kernel_rfl) ?_
      refine At.then ?_
      refine W.block 0 (by kernel_rfl) ?_
      refine W.loopS (γ := Int × Int) (fun ⟨N, M⟩ => [(0, .int .i64 y), (1, .int .i64 m), (6, .int .i64 0), (7, .int .i64 0), (8, .int .i64 N), (9, .int .i64 M)]) (fun ⟨N, M⟩ => []) (fun ⟨N, M⟩ => []) (fun ⟨N, M⟩ => (1 ≤ M) ∧ (M ≤ m) ∧ (N = d - 1 + Cal.num y M 1 - Cal.num y 1 1)) (fun ⟨N, M⟩ => (m - M).toNat) (n1, 1) (by kernel_rfl) ?_ ?_
      · intro xa xw hs hw
        refine ⟨hs.sub (by kernel_rfl), hw, ?_⟩
        show (1 ≤ 1) ∧ (1 ≤ m) ∧ (n1 = d - 1 + Cal.num y 1 1 - Cal.num y 1 1)
        exact ⟨by omega, by omega, by omega⟩
      · rintro ⟨N, M⟩ hF
        have hF : (1 ≤ M) ∧ (M ≤ m) ∧ (N = d - 1 + Cal.num y M 1 - Cal.num y 1 1) := hF
        obtain ⟨hf1, hf2, hf3⟩ := hF
        show W Try.prog 61 w [] (Code.l (Code.l (Code.r (Code.l (Code.r (Code.r (Code.r (Code.r (body Try.f12))))))))) _ [(0, .int .i64 y), (1, .int .i64 m), (6, .int .i64 0), (7, .int .i64 0), (8, .int .i64 N), (9, .int .i64 M)] [] []
        have hlM := Cal.len_bd y M
        have hnM := Cal.num_bd (y := y) (m := M) (by omega) (by omega) (by omega) (by omega)
        refine W.seq (by kernel_rfl) ?_
        refine W.seq (by kernel_rfl) ?_
        obtain ⟨p11, hp11⟩ : ∃ x : Bool, x = decide (M < m) := ⟨_, rfl⟩
        refine W.reg (r12_7 y m N M p11) [0, 1] [2] (by kernel_rfl) mo (by kernel_rfl) (fun _ _ => by kernel_rfl) ⟨?_, trivial⟩ (by kernel_rfl) ?_
        · exact One.bo hp11 (fun _ _ => by kernel_rfl)
        intro G8 xa xw hDn
        refine hDn.to [0, 1, 6, 7, 8, 9, 36, 37, 38] [] (by kernel_rfl) ?_
        refine At.then ?_
        refine W.cond p11 (by kernel_rfl) (fun xa hs => cnd_of (t := 38) (by kernel_rfl) (by kernel_rfl) hs) (fun hq => ?_) (fun hq => ?_)
        · skip
          have hq5 := hq
          replace hq5 := (iN hp11 iDT).1 hq5
          refine W.skip (by kernel_rfl) ?_
          refine At.then ?_
          refine W.seq (by kernel_rfl) ?_
          refine W.block 1 (by kernel_rfl) ?_
          obtain ⟨n2, hn2⟩ : ∃ x : Int, x = N + ((Cal.len y M)) := ⟨_, rfl⟩
          refine W.reg (r12_8 y m N M p11 n2) [0, 1, 2, 5] [3, 4] (by kernel_rfl) mo (by kernel_rfl) (fun _ _ => by kernel_rfl) ⟨?_, ?_, trivial⟩ (by kernel_rfl) ?_
          · exact One.call (fun _ _ _ => length_ct y M (by omega) _) (fun _ _ => by kernel_rfl)
          · exact One.ar hn2 (fun _ _ => by kernel_rfl) (fun _ _ _ => by omega)
          intro G9 xa xw hDn
          refine hDn.to [0, 1, 6, 7, 8, 9, 36, 37, 38, 41, 42, 43, 44, 45] [] (by kernel_rfl) ?_
          refine At.blockNormal ?_
          refine At.then ?_
          obtain ⟨n3, hn3⟩ : ∃ x : Int, x = M + 1 := ⟨_, rfl⟩
          refine W.reg (r12_9 y m N M p11 n2 n3) [0, 2] [1] (by kernel_rfl) mo (by kernel_rfl) (fun _ _ => by kernel_rfl) ⟨?_, trivial⟩ (by kernel_rfl) ?_
          · exact One.ar hn3 (fun _ _ => by kernel_rfl) (fun _ _ _ => by omega)
          intro G10 xa xw hDn
          refine hDn.to [0, 1, 6, 7, 8, 9, 36, 37, 38, 39, 40, 41, 42, 43, 44, 45] [] (by kernel_rfl) ?_
          intro xa xw hs hw
          refine ⟨(n2, n3), ⟨hs.sub (by kernel_rfl), hw, ?_⟩, ?_⟩
          · show (1 ≤ n3) ∧ (n3 ≤ m) ∧ (n2 = d - 1 + Cal.num y n3 1 - Cal.num y 1 1)
            have hn := Cal.num_next y M (by omega) (by omega)
            rw [show n3 = M + 1 from by omega]
            exact ⟨by omega, by omega, by omega⟩
          · show (m - n3).toNat < (m - M).toNat
            omega
        · skip
          have hq6 := hq
          replace hq6 := (iN hp11 iDF).1 hq6
          refine W.exit 0 (by kernel_rfl) ?_
          refine At.thenExit ?_
          refine At.thenExit ?_
          refine At.blockHit ?_
          refine At.then ?_
          refine W.seq (by kernel_rfl) ?_
          refine W.seq (by kernel_rfl) ?_
          refine W.reg (r12_10 y m N M p11) [0] [] (by kernel_rfl) mo (by kernel_rfl) (fun _ _ => by kernel_rfl) trivial (by kernel_rfl) ?_
          intro G11 xa xw hDn
          refine hDn.to [0, 6, 7, 8, 10] [] (by kernel_rfl) ?_
          refine At.then ?_
          refine W.block 2 (by kernel_rfl) ?_
          refine W.loopS (γ := Int × Int) (fun ⟨N2, Y⟩ => [(0, .int .i64 y), (6, .int .i64 0), (7, .int .i64 0), (8, .int .i64 N2), (10, .int .i64 Y)]) (fun ⟨N2, Y⟩ => []) (fun ⟨N2, Y⟩ => []) (fun ⟨N2, Y⟩ => (2000 ≤ Y) ∧ (Y ≤ y) ∧ (N2 = d - 1 + Cal.num y M 1 - Cal.num y 1 1 + Cal.num Y 1 1)) (fun ⟨N2, Y⟩ => (y - Y).toNat) (N, 2000) (by kernel_rfl) ?_ ?_
          · intro xa xw hs hw
            refine ⟨hs.sub (by kernel_rfl), hw, ?_⟩
            show (2000 ≤ 2000) ∧ (2000 ≤ y) ∧ (N = d - 1 + Cal.num y M 1 - Cal.num y 1 1 + Cal.num 2000 1 1)
            exact ⟨by omega, by omega, by omega⟩
          · rintro ⟨N2, Y⟩ hF
            have hF : (2000 ≤ Y) ∧ (Y ≤ y) ∧ (N2 = d - 1 + Cal.num y M 1 - Cal.num y 1 1 + Cal.num Y 1 1) := hF
            obtain ⟨hf4, hf5, hf6⟩ := hF
            show W Try.prog 61 w [] (Code.l (Code.l (Code.r (Code.l (Code.r (Code.r (Code.r (Code.r (Code.r (body Try.f12)))))))))) _ [(0, .int .i64 y), (6, .int .i64 0), (7, .int .i64 0), (8, .int .i64 N2), (10, .int .i64 Y)] [] []
            have hnY := Cal.num_bd (y := Y) (m := 1) (by omega) (by omega) (by omega) (by omega)
            have hnM2 := Cal.num_bd (y := y) (m := M) (by omega) (by omega) (by omega) (by omega)
            refine W.seq (by kernel_rfl) ?_
            refine W.seq (by kernel_rfl) ?_
            obtain ⟨p12, hp12⟩ : ∃ x : Bool, x = decide (Y < y) := ⟨_, rfl⟩
            refine W.reg (r12_11 y N2 Y p12) [0, 1] [2] (by kernel_rfl) mo (by kernel_rfl) (fun _ _ => by kernel_rfl) ⟨?_, trivial⟩ (by kernel_rfl) ?_
            · exact One.bo hp12 (fun _ _ => by kernel_rfl)
            intro G12 xa xw hDn
            refine hDn.to [0, 6, 7, 8, 10, 46, 47, 48] [] (by kernel_rfl) ?_
            refine At.then ?_
            refine W.cond p12 (by kernel_rfl) (fun xa hs => cnd_of (t := 48) (by kernel_rfl) (by kernel_rfl) hs) (fun hq => ?_) (fun hq => ?_)
            · skip
              have hq7 := hq
              replace hq7 := (iN hp12 iDT).1 hq7
              refine W.skip (by kernel_rfl) ?_
              refine At.then ?_
              refine W.seq (by kernel_rfl) ?_
              refine W.block 3 (by kernel_rfl) ?_
              refine W.seq (by kernel_rfl) ?_
              obtain ⟨n4, hn4⟩ : ∃ x : Int, x = N2 + 365 := ⟨_, rfl⟩
              refine W.reg (r12_12 y N2 Y p12 n4) [0, 2] [1] (by kernel_rfl) mo (by kernel_rfl) (fun _ _ => by kernel_rfl) ⟨?_, trivial⟩ (by kernel_rfl) ?_
              · exact One.ar hn4 (fun _ _ => by kernel_rfl) (fun _ _ _ => by omega)
              intro G13 xa xw hDn
              refine hDn.to [0, 6, 7, 8, 10, 46, 47, 48, 51, 52] [] (by kernel_rfl) ?_
              refine At.then ?_
              refine W.seq (by kernel_rfl) ?_
              obtain ⟨p13, hp13⟩ : ∃ x : Bool, x = (decide (Cal.leapP Y)) := ⟨_, rfl⟩
              refine W.reg (r12_13 y N2 Y p12 n4 p13) [0] [1] (by kernel_rfl) mo (by kernel_rfl) (fun _ _ => by kernel_rfl) ⟨?_, trivial⟩ (by kernel_rfl) ?_
              · exact One.callB hp13 (fun _ _ _ => leap_ct Y (by omega) _) (fun _ _ => by kernel_rfl)
              intro G14 xa xw hDn
              refine hDn.to [0, 6, 7, 8, 10, 46, 47, 48, 51, 52, 53, 54] [] (by kernel_rfl) ?_
              refine At.then ?_
              refine W.cond p13 (by kernel_rfl) (fun xa hs => cnd_of (t := 54) (by kernel_rfl) (by kernel_rfl) hs) (fun hq => ?_) (fun hq => ?_)
              · skip
                have hq8 := hq
                replace hq8 := (iN hp13 iDT).1 hq8
                obtain ⟨n5, hn5⟩ : ∃ x : Int, x = n4 + 1 := ⟨_, rfl⟩
                refine W.reg (r12_14 y N2 Y p12 n4 p13 n5) [0, 2] [1] (by kernel_rfl) mo (by kernel_rfl) (fun _ _ => by kernel_rfl) ⟨?_, trivial⟩ (by kernel_rfl) ?_
                · exact One.ar hn5 (fun _ _ => by kernel_rfl) (fun _ _ _ => by omega)
                intro G15 xa xw hDn
                refine hDn.to [0, 6, 7, 8, 10, 46, 47, 48, 51, 52, 53, 54, 55, 56] [] (by kernel_rfl) ?_
                refine At.blockNormal ?_
                refine At.then ?_
                obtain ⟨n6, hn6⟩ : ∃ x : Int, x = Y + 1 := ⟨_, rfl⟩
                refine W.reg (r12_15 y N2 Y p12 n4 p13 n5 n6) [0, 2] [1] (by kernel_rfl) mo (by kernel_rfl) (fun _ _ => by kernel_rfl) ⟨?_, trivial⟩ (by kernel_rfl) ?_
                · exact One.ar hn6 (fun _ _ => by kernel_rfl) (fun _ _ _ => by omega)
                intro G16 xa xw hDn
                refine hDn.to [0, 6, 7, 8, 10, 46, 47, 48, 49, 50, 51, 52, 53, 54, 55, 56] [] (by kernel_rfl) ?_
                intro xa xw hs hw
                refine ⟨(n5, n6), ⟨hs.sub (by kernel_rfl), hw, ?_⟩, ?_⟩
                · show (2000 ≤ n6) ∧ (n6 ≤ y) ∧ (n5 = d - 1 + Cal.num y M 1 - Cal.num y 1 1 + Cal.num n6 1 1)
                  have hn := Cal.num_year' Y
                  rw [show n6 = Y + 1 from by omega]
                  first | (rw [if_pos (by assumption)] at hn; exact ⟨by omega, by omega, by omega⟩) | (rw [if_neg (by assumption)] at hn; exact ⟨by omega, by omega, by omega⟩)
                · show (y - n6).toNat < (y - Y).toNat
                  omega
              · skip
                have hq9 := hq
                replace hq9 := (iN hp13 iDF).1 hq9
                refine W.skip (by kernel_rfl) ?_
                refine At.blockNormal ?_
                refine At.then ?_
                obtain ⟨n7, hn7⟩ : ∃ x : Int, x = Y + 1 := ⟨_, rfl⟩
                refine W.reg (r12_16 y N2 Y p12 n4 p13 n7) [0, 2] [1] (by kernel_rfl) mo (by kernel_rfl) (fun _ _ => by kernel_rfl) ⟨?_, trivial⟩ (by kernel_rfl) ?_
                · exact One.ar hn7 (fun _ _ => by kernel_rfl) (fun _ _ _ => by omega)
                intro G17 xa xw hDn
                refine hDn.to [0, 6, 7, 8, 10, 46, 47, 48, 49, 50, 51, 52, 53, 54] [] (by kernel_rfl) ?_
                intro xa xw hs hw
                refine ⟨(n4, n7), ⟨hs.sub (by kernel_rfl), hw, ?_⟩, ?_⟩
                · show (2000 ≤ n7) ∧ (n7 ≤ y) ∧ (n4 = d - 1 + Cal.num y M 1 - Cal.num y 1 1 + Cal.num n7 1 1)
                  have hn := Cal.num_year' Y
                  rw [show n7 = Y + 1 from by omega]
                  first | (rw [if_pos (by assumption)] at hn; exact ⟨by omega, by omega, by omega⟩) | (rw [if_neg (by assumption)] at hn; exact ⟨by omega, by omega, by omega⟩)
                · show (y - n7).toNat < (y - Y).toNat
                  omega
            · skip
              have hq10 := hq
              replace hq10 := (iN hp12 iDF).1 hq10
              refine W.exit 2 (by kernel_rfl) ?_
              refine At.thenExit ?_
              refine At.thenExit ?_
              refine At.blockHit ?_
              refine At.then ?_
              refine W.seq (by kernel_rfl) ?_
              refine W.seq (by kernel_rfl) ?_
              have hN : N2 = Cal.num y m d := by (have hM : M = m := by omega); (have hY : Y = y := by omega); subst hM hY; omega
              obtain ⟨p14, hp14⟩ : ∃ x : Bool, x = (Cal.validB N2) := ⟨_, rfl⟩
              refine W.reg (r12_17 y N2 Y p12 p14) [0, 2] [1] (by kernel_rfl) mo (by kernel_rfl) (fun _ _ => by kernel_rfl) ⟨?_, trivial⟩ (by kernel_rfl) ?_
              · exact One.callB hp14 (fun _ _ _ => validR_ct N2 _) (fun _ _ => by kernel_rfl)
              intro G18 xa xw hDn
              refine hDn.to [6, 7, 8, 59] [] (by kernel_rfl) ?_
              refine At.then ?_
              refine W.cond (!p14) (by kernel_rfl) (fun xa hs => cnd_of (t := 59) (by kernel_rfl) (by kernel_rfl) hs) (fun hq => ?_) (fun hq => ?_)
              · skip
                have hq11 := hq
                replace hq11 := (iNT (iN hp14 Iff.rfl)).1 hq11
                refine W.seq (by kernel_rfl) ?_
                refine W.reg (r12_18 N2 p14) [0, 1] [] (by kernel_rfl) mo (by kernel_rfl) (fun _ _ => by kernel_rfl) trivial (by kernel_rfl) ?_
                intro G19 xa xw hDn
                refine hDn.to [6, 7, 8] [] (by kernel_rfl) ?_
                refine At.then ?_
                refine W.ret (by kernel_rfl) ?_
                refine At.thenRet ?_
                refine At.results (Or.inl rfl) (.tuple #[.int .i64 0, .int .i64 3]) (fun xa xw hs hw => results_many (rs := [.tmp 6, .tmp 7]) (vs := [.int .i64 0, .int .i64 3]) (by kernel_rfl) (by simp) ⟨res_tmp (t := 6) (by kernel_rfl) hs, res_tmp (t := 7) (by kernel_rfl) hs, trivial⟩) (fun w' hw => ?_)
                have hn : ¬ Cal.isDay y m d := fun h => by
                  have hI := Cal.isDay_date h
                  have hl := Cal.len_bd y m
                  have hV := Cal.valid_iff (Cal.num y m d)
                  obtain ⟨a1, a2, a3, a4, a5, a6, a7, a8⟩ := h
                  have hV2 := hV.2 ⟨a7, a8⟩
                  rw [hN, hV2] at hq11; cases hq11
                obtain ⟨e1, e2⟩ := Cal.day_no hn
                exact ⟨ret2i e1.symm e2.symm, hw.base⟩
              · skip
                have hq12 := hq
                replace hq12 := (iNF (iN hp14 Iff.rfl)).1 hq12
                refine W.skip (by kernel_rfl) ?_
                refine At.then ?_
                refine W.seq (by kernel_rfl) ?_
                refine W.reg (r12_19 N2 p14) [0, 1, 2] [] (by kernel_rfl) mo (by kernel_rfl) (fun _ _ => by kernel_rfl) trivial (by kernel_rfl) ?_
                intro G20 xa xw hDn
                refine hDn.to [6, 7] [] (by kernel_rfl) ?_
                refine At.then ?_
                refine W.ret (by kernel_rfl) ?_
                refine At.results (Or.inl rfl) (.tuple #[.int .i64 N2, .int .i64 0]) (fun xa xw hs hw => results_many (rs := [.tmp 6, .tmp 7]) (vs := [.int .i64 N2, .int .i64 0]) (by kernel_rfl) (by simp) ⟨res_tmp (t := 6) (by kernel_rfl) hs, res_tmp (t := 7) (by kernel_rfl) hs, trivial⟩) (fun w' hw => ?_)
                rw [hN] at hq12
                have hV := (Cal.valid_iff _).1 hq12
                have hy : Cal.isDay y m d := ⟨by omega, by omega, by omega, by omega, by omega, by omega, hV.1, hV.2⟩
                obtain ⟨e1, e2⟩ := Cal.day_yes hy
                exact ⟨ret2i (by omega) e2.symm, hw.base⟩

noncomputable def r13_0 (d : Int) : RC := { ops := opsAt Try.f13 0, B := [0, 1], sl := [(0, .int .i64 d)], A := [], L := [], cs := [{ val := fun _ => .int .i64 0 }, { val := fun _ => .int .i64 0 }] }
noncomputable def r13_1 (d : Int) (p1 : Bool) : RC := { ops := opsAt Try.f13 1, B := [0, 1, 3], sl := [(0, .int .i64 d), (2, .int .i64 0), (3, .int .i64 0)], A := [], L := [], cs := [{ val := fun _ => .int .i64 d }, { val := fun _ => .bool p1 }, { val := fun _ => .bool (!p1) }] }
noncomputable def r13_2 (d : Int) (p1 : Bool) : RC := { ops := opsAt Try.f13 2, B := [0, 1], sl := [(0, .int .i64 d), (2, .int .i64 0), (3, .int .i64 0), (6, .bool (!p1))], A := [], L := [], cs := [{ val := fun _ => .int .i64 0 }, { val := fun _ => .int .i64 3 }] }
noncomputable def r13_3 (d : Int) (p1 : Bool) (n1 n2 : Int) : RC := { ops := opsAt Try.f13 3, B := [0, 1, 3, 7, 15], sl := [(0, .int .i64 d), (2, .int .i64 0), (3, .int .i64 0), (6, .bool (!p1))], A := [], L := [], cs := [{ val := fun _ => .int .i64 d }, { val := fun _ => .int .i64 n1 }, { val := fun _ => .int .i64 n2 }, { val := fun _ => .int .i64 n2 }, { val := fun _ => .int .i64 0 }] }
theorem week_ct (d : Int) (w : World) :
    Calls Try.prog 13 #[.int .i64 d] w (fun e w' => e = .returned (.tuple #[.int .i64 ((Cal.weekN d)), .int .i64 ((Cal.dE d))]) ∧ Base [] w w') := by
  refine calls_of_W (sl := [(0, .int .i64 d)]) (A := []) (L := []) Try.func13 (by kernel_rfl) 10 (by kernel_rfl) (by kernel_rfl) (fun _ h => by cases h) (by simp) ?_
  refine W.seq (by kernel_rfl) ?_
  refine W.reg (r13_0 d) [0, 1] [] (by kernel_rfl) mo (by kernel_rfl) (fun _ _ => by kernel_rfl) trivial (by kernel_rfl) ?_
  intro G1 xa xw hDn
  refine hDn.to [0, 2, 3] [] (by kernel_rfl) ?_
  refine At.then ?_
  refine W.seq (by kernel_rfl) ?_
  refine W.seq (by kernel_rfl) ?_
  obtain ⟨p1, hp1⟩ : ∃ x : Bool, x = (Cal.validB d) := ⟨_, rfl⟩
  refine W.reg (r13_1 d p1) [0, 2] [1] (by kernel_rfl) mo (by kernel_rfl) (fun _ _ => by kernel_rfl) ⟨?_, trivial⟩ (by kernel_rfl) ?_
  · exact One.callB hp1 (fun _ _ _ => valid_ct d _) (fun _ _ => by kernel_rfl)
  intro G2 xa xw hDn
  refine hDn.to [0, 2, 3, 6] [] (by kernel_rfl) ?_
  refine At.then ?_
  refine W.cond (!p1) (by kernel_rfl) (fun xa hs => cnd_of (t := 6) (by kernel_rfl) (by kernel_rfl) hs) (fun hq => ?_) (fun hq => ?_)
  · skip
    have hq1 := hq
    replace hq1 := (iNT (iN hp1 Iff.rfl)).1 hq1
    refine W.seq (by kernel_rfl) ?_
    refine W.reg (r13_2 d p1) [0, 1] [] (by kernel_rfl) mo (by kernel_rfl) (fun _ _ => by kernel_rfl) trivial (by kernel_rfl) ?_
    intro G3 xa xw hDn
    refine hDn.to [0, 2, 3] [] (by kernel_rfl) ?_
    refine At.then ?_
    refine W.ret (by kernel_rfl) ?_
    refine At.thenRet ?_
    refine At.results (Or.inl rfl) (.tuple #[.int .i64 0, .int .i64 3]) (fun xa xw hs hw => results_many (rs := [.tmp 2, .tmp 3]) (vs := [.int .i64 0, .int .i64 3]) (by kernel_rfl) (by simp) ⟨res_tmp (t := 2) (by kernel_rfl) hs, res_tmp (t := 3) (by kernel_rfl) hs, trivial⟩) (fun w' hw => ?_)
    have hv : ¬ (0 ≤ d ∧ d ≤ 100000) := fun h => by rw [(Cal.valid_iff d).2 h] at hq1; cases hq1
    obtain ⟨e1, e2, e3, e4⟩ := Cal.d_no hv
    exact ⟨ret2i (by simp [Cal.weekN, Cal.valid_no hv]) e4.symm, hw.base⟩
  · skip
    have hq2 := hq
    replace hq2 := (iNF (iN hp1 Iff.rfl)).1 hq2
    refine W.skip (by kernel_rfl) ?_
    refine At.then ?_
    refine W.seq (by kernel_rfl) ?_
    obtain ⟨hv1, hv2⟩ := (Cal.valid_iff d).1 (by simpa using hq2)
    obtain ⟨n1, hn1⟩ : ∃ x : Int, x = d + 5 := ⟨_, rfl⟩
    obtain ⟨n2, hn2⟩ : ∃ x : Int, x = n1 % 7 := ⟨_, rfl⟩
    refine W.reg (r13_3 d p1 n1 n2) [0, 3, 4] [1, 2] (by kernel_rfl) mo (by kernel_rfl) (fun _ _ => by kernel_rfl) ⟨?_, ?_, trivial⟩ (by kernel_rfl) ?_
    · exact One.ar hn1 (fun _ _ => by kernel_rfl) (fun _ _ _ => by omega)
    · exact One.rem hn2 (fun _ _ => by kernel_rfl) (fun _ _ _ => by omega)
    intro G4 xa xw hDn
    refine hDn.to [2, 3] [] (by kernel_rfl) ?_
    refine At.then ?_
    refine W.ret (by kernel_rfl) ?_
    refine At.results (Or.inl rfl) (.tuple #[.int .i64 n2, .int .i64 0]) (fun xa xw hs hw => results_many (rs := [.tmp 2, .tmp 3]) (vs := [.int .i64 n2, .int .i64 0]) (by kernel_rfl) (by simp) ⟨res_tmp (t := 2) (by kernel_rfl) hs, res_tmp (t := 3) (by kernel_rfl) hs, trivial⟩) (fun w' hw => ?_)
    have hv := (Cal.valid_iff d).2 ⟨hv1, hv2⟩
    exact ⟨ret2i (by simp only [Cal.weekN, hv, if_true]; omega) (by simp [Cal.dE, hv]), hw.base⟩

noncomputable def r14_0 (d : Int) : RC := { ops := opsAt Try.f14 0, B := [0, 1], sl := [(0, .int .i64 d)], A := [], L := [], cs := [{ val := fun _ => .int .i64 0 }, { val := fun _ => .int .i64 0 }] }
noncomputable def r14_1 (d : Int) (p1 : Bool) : RC := { ops := opsAt Try.f14 1, B := [0, 1, 3], sl := [(0, .int .i64 d), (2, .int .i64 0), (3, .int .i64 0)], A := [], L := [], cs := [{ val := fun _ => .int .i64 d }, { val := fun _ => .bool p1 }, { val := fun _ => .bool (!p1) }] }
noncomputable def r14_2 (d : Int) (p1 : Bool) : RC := { ops := opsAt Try.f14 2, B := [0, 1], sl := [(0, .int .i64 d), (2, .int .i64 0), (3, .int .i64 0), (6, .bool (!p1))], A := [], L := [], cs := [{ val := fun _ => .int .i64 0 }, { val := fun _ => .int .i64 3 }] }
noncomputable def r14_3 (d : Int) (p1 : Bool) (n1 n2 : Int) : RC := { ops := opsAt Try.f14 3, B := [0, 1, 3, 7, 15], sl := [(0, .int .i64 d), (2, .int .i64 0), (3, .int .i64 0), (6, .bool (!p1))], A := [], L := [], cs := [{ val := fun _ => .int .i64 d }, { val := fun _ => .int .i64 n1 }, { val := fun _ => .int .i64 n2 }, { val := fun _ => .int .i64 n2 }, { val := fun _ => .int .i64 0 }] }
theorem weekR_ct (d : Int) (w : World) :
    Calls Try.prog 14 #[.int .i64 d] w (fun e w' => e = .returned (.tuple #[.int .i64 ((Cal.weekN d)), .int .i64 ((Cal.dE d))]) ∧ Base [] w w') := by
  refine calls_of_W (sl := [(0, .int .i64 d)]) (A := []) (L := []) Try.func14 (by kernel_rfl) 10 (by kernel_rfl) (by kernel_rfl) (fun _ h => by cases h) (by simp) ?_
  refine W.seq (by kernel_rfl) ?_
  refine W.reg (r14_0 d) [0, 1] [] (by kernel_rfl) mo (by kernel_rfl) (fun _ _ => by kernel_rfl) trivial (by kernel_rfl) ?_
  intro G1 xa xw hDn
  refine hDn.to [0, 2, 3] [] (by kernel_rfl) ?_
  refine At.then ?_
  refine W.seq (by kernel_rfl) ?_
  refine W.seq (by kernel_rfl) ?_
  obtain ⟨p1, hp1⟩ : ∃ x : Bool, x = (Cal.validB d) := ⟨_, rfl⟩
  refine W.reg (r14_1 d p1) [0, 2] [1] (by kernel_rfl) mo (by kernel_rfl) (fun _ _ => by kernel_rfl) ⟨?_, trivial⟩ (by kernel_rfl) ?_
  · exact One.callB hp1 (fun _ _ _ => validR_ct d _) (fun _ _ => by kernel_rfl)
  intro G2 xa xw hDn
  refine hDn.to [0, 2, 3, 6] [] (by kernel_rfl) ?_
  refine At.then ?_
  refine W.cond (!p1) (by kernel_rfl) (fun xa hs => cnd_of (t := 6) (by kernel_rfl) (by kernel_rfl) hs) (fun hq => ?_) (fun hq => ?_)
  · skip
    have hq1 := hq
    replace hq1 := (iNT (iN hp1 Iff.rfl)).1 hq1
    refine W.seq (by kernel_rfl) ?_
    refine W.reg (r14_2 d p1) [0, 1] [] (by kernel_rfl) mo (by kernel_rfl) (fun _ _ => by kernel_rfl) trivial (by kernel_rfl) ?_
    intro G3 xa xw hDn
    refine hDn.to [0, 2, 3] [] (by kernel_rfl) ?_
    refine At.then ?_
    refine W.ret (by kernel_rfl) ?_
    refine At.thenRet ?_
    refine At.results (Or.inl rfl) (.tuple #[.int .i64 0, .int .i64 3]) (fun xa xw hs hw => results_many (rs := [.tmp 2, .tmp 3]) (vs := [.int .i64 0, .int .i64 3]) (by kernel_rfl) (by simp) ⟨res_tmp (t := 2) (by kernel_rfl) hs, res_tmp (t := 3) (by kernel_rfl) hs, trivial⟩) (fun w' hw => ?_)
    have hv : ¬ (0 ≤ d ∧ d ≤ 100000) := fun h => by rw [(Cal.valid_iff d).2 h] at hq1; cases hq1
    obtain ⟨e1, e2, e3, e4⟩ := Cal.d_no hv
    exact ⟨ret2i (by simp [Cal.weekN, Cal.valid_no hv]) e4.symm, hw.base⟩
  · skip
    have hq2 := hq
    replace hq2 := (iNF (iN hp1 Iff.rfl)).1 hq2
    refine W.skip (by kernel_rfl) ?_
    refine At.then ?_
    refine W.seq (by kernel_rfl) ?_
    obtain ⟨hv1, hv2⟩ := (Cal.valid_iff d).1 (by simpa using hq2)
    obtain ⟨n1, hn1⟩ : ∃ x : Int, x = 5 + d := ⟨_, rfl⟩
    obtain ⟨n2, hn2⟩ : ∃ x : Int, x = n1 % 7 := ⟨_, rfl⟩
    refine W.reg (r14_3 d p1 n1 n2) [0, 3, 4] [1, 2] (by kernel_rfl) mo (by kernel_rfl) (fun _ _ => by kernel_rfl) ⟨?_, ?_, trivial⟩ (by kernel_rfl) ?_
    · exact One.ar hn1 (fun _ _ => by kernel_rfl) (fun _ _ _ => by omega)
    · exact One.rem hn2 (fun _ _ => by kernel_rfl) (fun _ _ _ => by omega)
    intro G4 xa xw hDn
    refine hDn.to [2, 3] [] (by kernel_rfl) ?_
    refine At.then ?_
    refine W.ret (by kernel_rfl) ?_
    refine At.results (Or.inl rfl) (.tuple #[.int .i64 n2, .int .i64 0]) (fun xa xw hs hw => results_many (rs := [.tmp 2, .tmp 3]) (vs := [.int .i64 n2, .int .i64 0]) (by kernel_rfl) (by simp) ⟨res_tmp (t := 2) (by kernel_rfl) hs, res_tmp (t := 3) (by kernel_rfl) hs, trivial⟩) (fun w' hw => ?_)
    have hv := (Cal.valid_iff d).2 ⟨hv1, hv2⟩
    exact ⟨ret2i (by simp only [Cal.weekN, hv, if_true]; omega) (by simp [Cal.dE, hv]), hw.base⟩

noncomputable def r15_0 (d k : Int) : RC := { ops := opsAt Try.f15 0, B := [0, 1], sl := [(0, .int .i64 d), (1, .int .i64 k)], A := [], L := [], cs := [{ val := fun _ => .int .i64 0 }, { val := fun _ => .int .i64 0 }] }
noncomputable def r15_1 (d k : Int) : RC := { ops := opsAt Try.f15 1, B := [0, 1, 3, 7, 7, 7, 7, 15, 159, 447, 1023], sl := [(0, .int .i64 d), (1, .int .i64 k), (4, .int .i64 0), (5, .int .i64 0)], A := [], L := [], cs := [{ val := fun _ => .int .i64 d }, { val := fun _ => .tuple #[.int .i64 ((Cal.dY d)), .int .i64 ((Cal.dM d)), .int .i64 ((Cal.dD d)), .int .i64 ((Cal.dE d))] }, { val := fun _ => .tuple #[.int .i64 ((Cal.dY d)), .int .i64 ((Cal.dM d)), .int .i64 ((Cal.dD d)), .int .i64 ((Cal.dE d))] }, { val := fun _ => .int .i64 ((Cal.dY d)) }, { val := fun _ => .int .i64 ((Cal.dM d)) }, { val := fun _ => .int .i64 ((Cal.dD d)) }, { val := fun _ => .int .i64 ((Cal.dE d)) }, { val := fun _ => .int .i64 ((Cal.dY d)) }, { val := fun _ => .int .i64 ((Cal.dM d)) }, { val := fun _ => .int .i64 ((Cal.dD d)) }, { val := fun _ => .int .i64 ((Cal.dE d)) }] }
noncomputable def r15_2 (d k : Int) (p1 p2 p3 p4 p5 : Bool) : RC := { ops := opsAt Try.f15 2, B := [0, 1, 3, 7, 15, 31, 63, 127, 255, 511], sl := [(1, .int .i64 k), (4, .int .i64 0), (5, .int .i64 0), (6, .int .i64 ((Cal.dY d))), (7, .int .i64 ((Cal.dM d))), (8, .int .i64 ((Cal.dD d))), (9, .int .i64 ((Cal.dE d)))], A := [], L := [], cs := [{ val := fun _ => .int .i64 ((Cal.dE d)) }, { val := fun _ => .bool p1 }, { val := fun _ => .bool p1 }, { val := fun _ => .int .i64 k }, { val := fun _ => .bool p2 }, { val := fun _ => .bool p3 }, { val := fun _ => .bool p3 }, { val := fun _ => .int .i64 k }, { val := fun _ => .bool p4 }, { val := fun _ => .bool p5 }] }
noncomputable def r15_3 (d k : Int) (p5 : Bool) : RC := { ops := opsAt Try.f15 3, B := [0, 1], sl := [(1, .int .i64 k), (4, .int .i64 0), (5, .int .i64 0), (6, .int .i64 ((Cal.dY d))), (7, .int .i64 ((Cal.dM d))), (8, .int .i64 ((Cal.dD d))), (30, .bool p5)], A := [], L := [], cs := [{ val := fun _ => .int .i64 0 }, { val := fun _ => .int .i64 3 }] }
noncomputable def r15_4 (d k : Int) (p5 : Bool) (n1 n2 n3 n4 : Int) : RC := { ops := opsAt Try.f15 4, B := [0, 1, 0, 7, 15, 0, 63, 127], sl := [(1, .int .i64 k), (4, .int .i64 0), (5, .int .i64 0), (6, .int .i64 ((Cal.dY d))), (7, .int .i64 ((Cal.dM d))), (8, .int .i64 ((Cal.dD d))), (30, .bool p5)], A := [], L := [], cs := [{ val := fun _ => .int .i64 ((Cal.dY d)) }, { val := fun _ => .int .i64 n1 }, { val := fun _ => .int .i64 ((Cal.dM d)) }, { val := fun _ => .int .i64 n2 }, { val := fun _ => .int .i64 n3 }, { val := fun _ => .int .i64 k }, { val := fun _ => .int .i64 n4 }, { val := fun _ => .int .i64 n4 }] }
noncomputable def r15_5 (d n4 : Int) (p6 p7 p8 : Bool) : RC := { ops := opsAt Try.f15 5, B := [0, 1, 3, 7, 15, 31], sl := [(4, .int .i64 0), (5, .int .i64 0), (8, .int .i64 ((Cal.dD d))), (10, .int .i64 n4)], A := [], L := [], cs := [{ val := fun _ => .int .i64 n4 }, { val := fun _ => .bool p6 }, { val := fun _ => .bool p6 }, { val := fun _ => .int .i64 n4 }, { val := fun _ => .bool p7 }, { val := fun _ => .bool p8 }] }
noncomputable def r15_6 (d n4 : Int) (p8 : Bool) : RC := { ops := opsAt Try.f15 6, B := [0, 1], sl := [(4, .int .i64 0), (5, .int .i64 0), (8, .int .i64 ((Cal.dD d))), (10, .int .i64 n4), (43, .bool p8)], A := [], L := [], cs := [{ val := fun _ => .int .i64 0 }, { val := fun _ => .int .i64 3 }] }
noncomputable def r15_7 (d n4 : Int) (p8 : Bool) (n5 n6 n7 : Int) : RC := { ops := opsAt Try.f15 7, B := [0, 1, 0, 4, 12, 31, 63], sl := [(4, .int .i64 0), (5, .int .i64 0), (8, .int .i64 ((Cal.dD d))), (10, .int .i64 n4), (43, .bool p8)], A := [], L := [], cs := [{ val := fun _ => .int .i64 n4 }, { val := fun _ => .int .i64 n5 }, { val := fun _ => .int .i64 n4 }, { val := fun _ => .int .i64 n6 }, { val := fun _ => .int .i64 n7 }, { val := fun _ => .int .i64 ((Cal.num n5 n7 1)) }, { val := fun _ => .int .i64 ((Cal.num n5 n7 1)) }] }
noncomputable def r15_8 (d n4 n5 n7 n8 : Int) : RC := { ops := opsAt Try.f15 8, B := [0, 1, 3], sl := [(4, .int .i64 0), (5, .int .i64 0), (8, .int .i64 ((Cal.dD d))), (10, .int .i64 n4), (11, .int .i64 ((Cal.num n5 n7 1)))], A := [], L := [], cs := [{ val := fun _ => .int .i64 n4 }, { val := fun _ => .int .i64 n8 }, { val := fun _ => .int .i64 n8 }] }
noncomputable def r15_9 (d n5 n7 n8 n9 n10 n11 : Int) : RC := { ops := opsAt Try.f15 9, B := [0, 1, 0, 4, 12, 31, 63], sl := [(4, .int .i64 0), (5, .int .i64 0), (8, .int .i64 ((Cal.dD d))), (10, .int .i64 n8), (11, .int .i64 ((Cal.num n5 n7 1)))], A := [], L := [], cs := [{ val := fun _ => .int .i64 n8 }, { val := fun _ => .int .i64 n9 }, { val := fun _ => .int .i64 n8 }, { val := fun _ => .int .i64 n10 }, { val := fun _ => .int .i64 n11 }, { val := fun _ => .int .i64 ((Cal.num n9 n11 1)) }, { val := fun _ => .int .i64 ((Cal.num n9 n11 1)) }] }
noncomputable def r15_10 (d n5 n7 n9 n11 n12 n13 n14 n15 : Int) : RC := { ops := opsAt Try.f15 10, B := [0, 0, 0, 0, 12, 30, 63, 127, 255], sl := [(4, .int .i64 0), (5, .int .i64 0), (8, .int .i64 ((Cal.dD d))), (11, .int .i64 ((Cal.num n5 n7 1))), (12, .int .i64 ((Cal.num n9 n11 1)))], A := [], L := [], cs := [{ val := fun _ => .int .i64 ((Cal.num n5 n7 1)) }, { val := fun _ => .int .i64 ((Cal.dD d)) }, { val := fun _ => .int .i64 ((Cal.num n9 n11 1)) }, { val := fun _ => .int .i64 ((Cal.num n5 n7 1)) }, { val := fun _ => .int .i64 n12 }, { val := fun _ => .int .i64 n13 }, { val := fun _ => .int .i64 n14 }, { val := fun _ => .int .i64 n15 }, { val := fun _ => .int .i64 n15 }] }
noncomputable def r15_11 (n15 : Int) (p9 : Bool) : RC := { ops := opsAt Try.f15 11, B := [0, 1, 3], sl := [(4, .int .i64 0), (5, .int .i64 0), (13, .int .i64 n15)], A := [], L := [], cs := [{ val := fun _ => .int .i64 n15 }, { val := fun _ => .bool p9 }, { val := fun _ => .bool (!p9) }] }
noncomputable def r15_12 (n15 : Int) (p9 : Bool) : RC := { ops := opsAt Try.f15 12, B := [0, 1], sl := [(4, .int .i64 0), (5, .int .i64 0), (13, .int .i64 n15), (68, .bool (!p9))], A := [], L := [], cs := [{ val := fun _ => .int .i64 0 }, { val := fun _ => .int .i64 3 }] }
noncomputable def r15_13 (n15 : Int) (p9 : Bool) : RC := { ops := opsAt Try.f15 13, B := [0, 1, 3], sl := [(4, .int .i64 0), (5, .int .i64 0), (13, .int .i64 n15), (68, .bool (!p9))], A := [], L := [], cs := [{ val := fun _ => .int .i64 n15 }, { val := fun _ => .int .i64 n15 }, { val := fun _ => .int .i64 0 }] }
theorem add_ct (d k : Int) (w : World) :
    Calls Try.prog 15 #[.int .i64 d, .int .i64 k] w (fun e w' => e = .returned (.tuple #[.int .i64 ((Cal.addN d k)), .int .i64 ((Cal.addE d k))]) ∧ Base [] w w') := by
  refine calls_of_W (sl := [(0, .int .i64 d), (1, .int .i64 k)]) (A := []) (L := []) Try.func15 (by kernel_rfl) 70 (by kernel_rfl) (by kernel_rfl) (fun _ h => by cases h) (by simp) ?_
  refine W.seq (by kernel_rfl) ?_
  refine W.reg (r15_0 d k) [0, 1] [] (by kernel_rfl) mo (by kernel_rfl) (fun _ _ => by kernel_rfl) trivial (by kernel_rfl) ?_
  intro G1 xa xw hDn
  refine hDn.to [0, 1, 4, 5] [] (by kernel_rfl) ?_
  refine At.then ?_
  refine W.seq (by kernel_rfl) ?_
  refine W.reg (r15_1 d k) [0, 2, 3, 4, 5, 6, 7, 8, 9, 10] [1] (by kernel_rfl) mo (by kernel_rfl) (fun _ _ => by kernel_rfl) ⟨?_, trivial⟩ (by kernel_rfl) ?_
  · exact One.call (fun _ _ _ => date_ct d _) (fun _ _ => by kernel_rfl)
  intro G2 xa xw hDn
  refine hDn.to [1, 4, 5, 6, 7, 8, 9] [] (by kernel_rfl) ?_
  refine At.then ?_
  refine W.seq (by kernel_rfl) ?_
  refine W.seq (by kernel_rfl) ?_
  obtain ⟨p1, hp1⟩ : ∃ x : Bool, x = !(decide ((Cal.dE d) = 0)) := ⟨_, rfl⟩
  obtain ⟨p2, hp2⟩ : ∃ x : Bool, x = decide (k < (-4000)) := ⟨_, rfl⟩
  obtain ⟨p3, hp3⟩ : ∃ x : Bool, x = (p1 || p2) := ⟨_, rfl⟩
  obtain ⟨p4, hp4⟩ : ∃ x : Bool, x = decide (4000 < k) := ⟨_, rfl⟩
  obtain ⟨p5, hp5⟩ : ∃ x : Bool, x = (p3 || p4) := ⟨_, rfl⟩
  refine W.reg (r15_2 d k p1 p2 p3 p4 p5) [0, 2, 3, 6, 7] [1, 4, 5, 8, 9] (by kernel_rfl) mo (by kernel_rfl) (fun _ _ => by kernel_rfl) ⟨?_, ?_, ?_, ?_, ?_, trivial⟩ (by kernel_rfl) ?_
  · exact One.bo hp1 (fun _ _ => by kernel_rfl)
  · exact One.bo hp2 (fun _ _ => by kernel_rfl)
  · subst hp3
    cases p1 <;> exact One.under fun _ _ _ => by kernel_rfl
  · exact One.bo hp4 (fun _ _ => by kernel_rfl)
  · subst hp5
    cases p3 <;> exact One.under fun _ _ _ => by kernel_rfl
  intro G3 xa xw hDn
  refine hDn.to [1, 4, 5, 6, 7, 8, 30] [] (by kernel_rfl) ?_
  refine At.then ?_
  refine W.cond p5 (by kernel_rfl) (fun xa hs => cnd_of (t := 30) (by kernel_rfl) (by kernel_rfl) hs) (fun hq => ?_) (fun hq => ?_)
  · skip
    have hq1 := hq
    replace hq1 := (iN hp5 (iOT (iN hp3 (iOT (iN hp1 (iNT iDF)) (iN hp2 iDT))) (iN hp4 iDT))).1 hq1
    refine W.seq (by kernel_rfl) ?_
    refine W.reg (r15_3 d k p5) [0, 1] [] (by kernel_rfl) mo (by kernel_rfl) (fun _ _ => by kernel_rfl) trivial (by kernel_rfl) ?_
    intro G4 xa xw hDn
    refine hDn.to [1, 4, 5, 6, 7, 8] [] (by kernel_rfl) ?_
    refine At.then ?_
    refine W.ret (by kernel_rfl) ?_
    refine At.thenRet ?_
    refine At.results (Or.inl rfl) (.tuple #[.int .i64 0, .int .i64 3]) (fun xa xw hs hw => results_many (rs := [.tmp 4, .tmp 5]) (vs := [.int .i64 0, .int .i64 3]) (by kernel_rfl) (by simp) ⟨res_tmp (t := 4) (by kernel_rfl) hs, res_tmp (t := 5) (by kernel_rfl) hs, trivial⟩) (fun w' hw => ?_)
    have hn : ¬ Cal.okAdd d k := fun h => by
      obtain ⟨⟨a1, a2⟩, a3, a4, a5, a6⟩ := h
      have hk := Cal.d_key a1 a2
      have hE := (Cal.d_is a1 a2).2
      have hV := (Cal.valid_iff _).2 ⟨a5, a6⟩
      simp only [Cal.addK, Cal.addX] at *
      first | omega | (rw [hX, hV] at hq1; cases hq1)
    obtain ⟨e1, e2⟩ := Cal.add_no hn
    exact ⟨ret2i e1.symm e2.symm, hw.base⟩
  · skip
    have hq2 := hq
    replace hq2 := (iN hp5 (iOF (iN hp3 (iOF (iN hp1 (iNF iDT)) (iN hp2 iDF))) (iN hp4 iDF))).1 hq2
    refine W.skip (by kernel_rfl) ?_
    refine At.then ?_
    refine W.seq (by kernel_rfl) ?_
    have hv := Cal.dE_cases d
    obtain ⟨hv1, hv2⟩ : 0 ≤ d ∧ d ≤ 100000 := by omega
    have hk := Cal.d_key hv1 hv2
    obtain ⟨n1, hn1⟩ : ∃ x : Int, x = ((Cal.dY d)) * 12 := ⟨_, rfl⟩
    obtain ⟨n2, hn2⟩ : ∃ x : Int, x = n1 + ((Cal.dM d)) := ⟨_, rfl⟩
    obtain ⟨n3, hn3⟩ : ∃ x : Int, x = n2 - 1 := ⟨_, rfl⟩
    obtain ⟨n4, hn4⟩ : ∃ x : Int, x = n3 + k := ⟨_, rfl⟩
    refine W.reg (r15_4 d k p5 n1 n2 n3 n4) [0, 2, 5, 7] [1, 3, 4, 6] (by kernel_rfl) mo (by kernel_rfl) (fun _ _ => by kernel_rfl) ⟨?_, ?_, ?_, ?_, trivial⟩ (by kernel_rfl) ?_
    · exact One.ar hn1 (fun _ _ => by kernel_rfl) (fun _ _ _ => by omega)
    · exact One.ar hn2 (fun _ _ => by kernel_rfl) (fun _ _ _ => by omega)
    · exact One.ar hn3 (fun _ _ => by kernel_rfl) (fun _ _ _ => by omega)
    · exact One.ar hn4 (fun _ _ => by kernel_rfl) (fun _ _ _ => by omega)
    intro G5 xa xw hDn
    refine hDn.to [4, 5, 8, 10] [] (by kernel_rfl) ?_
    refine At.then ?_
    refine W.seq (by kernel_rfl) ?_
    refine W.seq (by kernel_rfl) ?_
    obtain ⟨p6, hp6⟩ : ∃ x : Bool, x = decide (n4 < 24000) := ⟨_, rfl⟩
    obtain ⟨p7, hp7⟩ : ∃ x : Bool, x = decide (27600 < n4) := ⟨_, rfl⟩
    obtain ⟨p8, hp8⟩ : ∃ x : Bool, x = (p6 || p7) := ⟨_, rfl⟩
    refine W.reg (r15_5 d n4 p6 p7 p8) [0, 2, 3] [1, 4, 5] (by kernel_rfl) mo (by kernel_rfl) (fun _ _ => by kernel_rfl) ⟨?_, ?_, ?_, trivial⟩ (by kernel_rfl) ?_
    · exact One.bo hp6 (fun _ _ => by kernel_rfl)
    · exact One.bo hp7 (fun _ _ => by kernel_rfl)
    · subst hp8
      cases p6 <;> exact One.under fun _ _ _ => by kernel_rfl
    intro G6 xa xw hDn
    refine hDn.to [4, 5, 8, 10, 43] [] (by kernel_rfl) ?_
    refine At.then ?_
    refine W.cond p8 (by kernel_rfl) (fun xa hs => cnd_of (t := 43) (by kernel_rfl) (by kernel_rfl) hs) (fun hq => ?_) (fun hq => ?_)
    · skip
      have hq3 := hq
      replace hq3 := (iN hp8 (iOT (iN hp6 iDT) (iN hp7 iDT))).1 hq3
      refine W.seq (by kernel_rfl) ?_
      refine W.reg (r15_6 d n4 p8) [0, 1] [] (by kernel_rfl) mo (by kernel_rfl) (fun _ _ => by kernel_rfl) trivial (by kernel_rfl) ?_
      intro G7 xa xw hDn
      refine hDn.to [4, 5, 8, 10] [] (by kernel_rfl) ?_
      refine At.then ?_
      refine W.ret (by kernel_rfl) ?_
      refine At.thenRet ?_
      refine At.results (Or.inl rfl) (.tuple #[.int .i64 0, .int .i64 3]) (fun xa xw hs hw => results_many (rs := [.tmp 4, .tmp 5]) (vs := [.int .i64 0, .int .i64 3]) (by kernel_rfl) (by simp) ⟨res_tmp (t := 4) (by kernel_rfl) hs, res_tmp (t := 5) (by kernel_rfl) hs, trivial⟩) (fun w' hw => ?_)
      have hn : ¬ Cal.okAdd d k := fun h => by
        obtain ⟨⟨a1, a2⟩, a3, a4, a5, a6⟩ := h
        have hk := Cal.d_key a1 a2
        have hE := (Cal.d_is a1 a2).2
        have hV := (Cal.valid_iff _).2 ⟨a5, a6⟩
        simp only [Cal.addK, Cal.addX] at *
        first | omega | (rw [hX, hV] at hq3; cases hq3)
      obtain ⟨e1, e2⟩ := Cal.add_no hn
      exact ⟨ret2i e1.symm e2.symm, hw.base⟩
    · skip
      have hq4 := hq
      replace hq4 := (iN hp8 (iOF (iN hp6 iDF) (iN hp7 iDF))).1 hq4
      refine W.skip (by kernel_rfl) ?_
      refine At.then ?_
      refine W.seq (by kernel_rfl) ?_
      obtain ⟨n5, hn5⟩ : ∃ x : Int, x = n4 / 12 := ⟨_, rfl⟩
      obtain ⟨n6, hn6⟩ : ∃ x : Int, x = n4 % 12 := ⟨_, rfl⟩
      obtain ⟨n7, hn7⟩ : ∃ x : Int, x = n6 + 1 := ⟨_, rfl⟩
      refine W.reg (r15_7 d n4 p8 n5 n6 n7) [0, 2, 6] [1, 3, 4, 5] (by kernel_rfl) mo (by kernel_rfl) (fun _ _ => by kernel_rfl) ⟨?_, ?_, ?_, ?_, trivial⟩ (by kernel_rfl) ?_
      · exact One.quo hn5 (fun _ _ => by kernel_rfl) (fun _ _ _ => by omega)
      · exact One.rem hn6 (fun _ _ => by kernel_rfl) (fun _ _ _ => by omega)
      · exact One.ar hn7 (fun _ _ => by kernel_rfl) (fun _ _ _ => by omega)
      · exact One.call (fun _ _ _ => number_ct n5 n7 1 (by omega) (by omega) (by omega) (by omega) (by omega) (by omega) _) (fun _ _ => by kernel_rfl)
      intro G8 xa xw hDn
      refine hDn.to [4, 5, 8, 10, 11] [] (by kernel_rfl) ?_
      refine At.then ?_
      refine W.seq (by kernel_rfl) ?_
      have hs0 := Cal.st_num (n := n4) (y := n5) (m := n7) (by omega) (by omega) (by omega)
      have hb0 := Cal.num_bd (y := n5) (m := n7) (by omega) (by omega) (by omega) (by omega)
      obtain ⟨n8, hn8⟩ : ∃ x : Int, x = n4 + 1 := ⟨_, rfl⟩
      refine W.reg (r15_8 d n4 n5 n7 n8) [0, 2] [1] (by kernel_rfl) mo (by kernel_rfl) (fun _ _ => by kernel_rfl) ⟨?_, trivial⟩ (by kernel_rfl) ?_
      · exact One.ar hn8 (fun _ _ => by kernel_rfl) (fun _ _ _ => by omega)
      intro G9 xa xw hDn
      refine hDn.to [4, 5, 8, 10, 11] [] (by kernel_rfl) ?_
      refine At.then ?_
      refine W.seq (by kernel_rfl) ?_
      obtain ⟨n9, hn9⟩ : ∃ x : Int, x = n8 / 12 := ⟨_, rfl⟩
      obtain ⟨n10, hn10⟩ : ∃ x : Int, x = n8 % 12 := ⟨_, rfl⟩
      obtain ⟨n11, hn11⟩ : ∃ x : Int, x = n10 + 1 := ⟨_, rfl⟩
      refine W.reg (r15_9 d n5 n7 n8 n9 n10 n11) [0, 2, 6] [1, 3, 4, 5] (by kernel_rfl) mo (by kernel_rfl) (fun _ _ => by kernel_rfl) ⟨?_, ?_, ?_, ?_, trivial⟩ (by kernel_rfl) ?_
      · exact One.quo hn9 (fun _ _ => by kernel_rfl) (fun _ _ _ => by omega)
      · exact One.rem hn10 (fun _ _ => by kernel_rfl) (fun _ _ _ => by omega)
      · exact One.ar hn11 (fun _ _ => by kernel_rfl) (fun _ _ _ => by omega)
      · exact One.call (fun _ _ _ => number_ct n9 n11 1 (by omega) (by omega) (by omega) (by omega) (by omega) (by omega) _) (fun _ _ => by kernel_rfl)
      intro G10 xa xw hDn
      refine hDn.to [4, 5, 8, 11, 12] [] (by kernel_rfl) ?_
      refine At.then ?_
      refine W.seq (by kernel_rfl) ?_
      have hs1 := Cal.st_num (n := n8) (y := n9) (m := n11) (by omega) (by omega) (by omega)
      have hb1 := Cal.num_bd (y := n9) (m := n11) (by omega) (by omega) (by omega) (by omega)
      have hsc := Cal.st_succ n4
      have hl5 := Cal.ln_bd n4
      rw [show n4 + 1 = n8 from by omega] at hsc
      obtain ⟨n12, hn12⟩ : ∃ x : Int, x = (Cal.num n9 n11 1) - ((Cal.num n5 n7 1)) := ⟨_, rfl⟩
      obtain ⟨n13, hn13⟩ : ∃ x : Int, x = min ((Cal.dD d)) n12 := ⟨_, rfl⟩
      obtain ⟨n14, hn14⟩ : ∃ x : Int, x = (Cal.num n5 n7 1) + n13 := ⟨_, rfl⟩
      obtain ⟨n15, hn15⟩ : ∃ x : Int, x = n14 - 1 := ⟨_, rfl⟩
      refine W.reg (r15_10 d n5 n7 n9 n11 n12 n13 n14 n15) [0, 1, 2, 3, 8] [4, 5, 6, 7] (by kernel_rfl) mo (by kernel_rfl) (fun _ _ => by kernel_rfl) ⟨?_, ?_, ?_, ?_, trivial⟩ (by kernel_rfl) ?_
      · exact One.ar hn12 (fun _ _ => by kernel_rfl) (fun _ _ _ => by omega)
      · exact One.eq (congrArg (Value.int .i64) ((min_if _ _).trans hn13.symm)) (fun _ _ => by kernel_rfl)
      · exact One.ar hn14 (fun _ _ => by kernel_rfl) (fun _ _ _ => by omega)
      · exact One.ar hn15 (fun _ _ => by kernel_rfl) (fun _ _ _ => by omega)
      intro G11 xa xw hDn
      refine hDn.to [4, 5, 13] [] (by kernel_rfl) ?_
      refine At.then ?_
      refine W.seq (by kernel_rfl) ?_
      refine W.seq (by kernel_rfl) ?_
      have hX : n15 = Cal.addX d k := by
        have hK : Cal.addK d k = n4 := by unfold Cal.addK; omega
        unfold Cal.addX; rw [hK]; omega
      obtain ⟨p9, hp9⟩ : ∃ x : Bool, x = (Cal.validB n15) := ⟨_, rfl⟩
      refine W.reg (r15_11 n15 p9) [0, 2] [1] (by kernel_rfl) mo (by kernel_rfl) (fun _ _ => by kernel_rfl) ⟨?_, trivial⟩ (by kernel_rfl) ?_
      · exact One.callB hp9 (fun _ _ _ => valid_ct n15 _) (fun _ _ => by kernel_rfl)
      intro G12 xa xw hDn
      refine hDn.to [4, 5, 13, 68] [] (by kernel_rfl) ?_
      refine At.then ?_
      refine W.cond (!p9) (by kernel_rfl) (fun xa hs => cnd_of (t := 68) (by kernel_rfl) (by kernel_rfl) hs) (fun hq => ?_) (fun hq => ?_)
      · skip
        have hq5 := hq
        replace hq5 := (iNT (iN hp9 Iff.rfl)).1 hq5
        refine W.seq (by kernel_rfl) ?_
        refine W.reg (r15_12 n15 p9) [0, 1] [] (by kernel_rfl) mo (by kernel_rfl) (fun _ _ => by kernel_rfl) trivial (by kernel_rfl) ?_
        intro G13 xa xw hDn
        refine hDn.to [4, 5, 13] [] (by kernel_rfl) ?_
        refine At.then ?_
        refine W.ret (by kernel_rfl) ?_
        refine At.thenRet ?_
        refine At.results (Or.inl rfl) (.tuple #[.int .i64 0, .int .i64 3]) (fun xa xw hs hw => results_many (rs := [.tmp 4, .tmp 5]) (vs := [.int .i64 0, .int .i64 3]) (by kernel_rfl) (by simp) ⟨res_tmp (t := 4) (by kernel_rfl) hs, res_tmp (t := 5) (by kernel_rfl) hs, trivial⟩) (fun w' hw => ?_)
        have hn : ¬ Cal.okAdd d k := fun h => by
          obtain ⟨⟨a1, a2⟩, a3, a4, a5, a6⟩ := h
          have hk := Cal.d_key a1 a2
          have hE := (Cal.d_is a1 a2).2
          have hV := (Cal.valid_iff _).2 ⟨a5, a6⟩
          simp only [Cal.addK, Cal.addX] at *
          first | omega | (rw [hX, hV] at hq5; cases hq5)
        obtain ⟨e1, e2⟩ := Cal.add_no hn
        exact ⟨ret2i e1.symm e2.symm, hw.base⟩
      · skip
        have hq6 := hq
        replace hq6 := (iNF (iN hp9 Iff.rfl)).1 hq6
        refine W.skip (by kernel_rfl) ?_
        refine At.then ?_
        refine W.seq (by kernel_rfl) ?_
        refine W.reg (r15_13 n15 p9) [0, 1, 2] [] (by kernel_rfl) mo (by kernel_rfl) (fun _ _ => by kernel_rfl) trivial (by kernel_rfl) ?_
        intro G14 xa xw hDn
        refine hDn.to [4, 5] [] (by kernel_rfl) ?_
        refine At.then ?_
        refine W.ret (by kernel_rfl) ?_
        refine At.results (Or.inl rfl) (.tuple #[.int .i64 n15, .int .i64 0]) (fun xa xw hs hw => results_many (rs := [.tmp 4, .tmp 5]) (vs := [.int .i64 n15, .int .i64 0]) (by kernel_rfl) (by simp) ⟨res_tmp (t := 4) (by kernel_rfl) hs, res_tmp (t := 5) (by kernel_rfl) hs, trivial⟩) (fun w' hw => ?_)
        rw [hX] at hq6
        have hV := (Cal.valid_iff _).1 hq6
        have hy : Cal.okAdd d k := ⟨⟨hv1, hv2⟩, by unfold Cal.addK; omega, by unfold Cal.addK; omega, hV.1, hV.2⟩
        obtain ⟨e1, e2⟩ := Cal.add_yes hy
        exact ⟨ret2i (by omega) e2.symm, hw.base⟩

noncomputable def r16_0 (d k : Int) : RC := { ops := opsAt Try.f16 0, B := [0, 1], sl := [(0, .int .i64 d), (1, .int .i64 k)], A := [], L := [], cs := [{ val := fun _ => .int .i64 0 }, { val := fun _ => .int .i64 0 }] }
noncomputable def r16_1 (d k : Int) : RC := { ops := opsAt Try.f16 1, B := [0, 1, 3, 7, 7, 7, 7, 15, 159, 447, 1023], sl := [(0, .int .i64 d), (1, .int .i64 k), (4, .int .i64 0), (5, .int .i64 0)], A := [], L := [], cs := [{ val := fun _ => .int .i64 d }, { val := fun _ => .tuple #[.int .i64 ((Cal.dY d)), .int .i64 ((Cal.dM d)), .int .i64 ((Cal.dD d)), .int .i64 ((Cal.dE d))] }, { val := fun _ => .tuple #[.int .i64 ((Cal.dY d)), .int .i64 ((Cal.dM d)), .int .i64 ((Cal.dD d)), .int .i64 ((Cal.dE d))] }, { val := fun _ => .int .i64 ((Cal.dY d)) }, { val := fun _ => .int .i64 ((Cal.dM d)) }, { val := fun _ => .int .i64 ((Cal.dD d)) }, { val := fun _ => .int .i64 ((Cal.dE d)) }, { val := fun _ => .int .i64 ((Cal.dY d)) }, { val := fun _ => .int .i64 ((Cal.dM d)) }, { val := fun _ => .int .i64 ((Cal.dD d)) }, { val := fun _ => .int .i64 ((Cal.dE d)) }] }
noncomputable def r16_2 (d k : Int) (p1 p2 p3 p4 p5 : Bool) : RC := { ops := opsAt Try.f16 2, B := [0, 1, 3, 7, 15, 31, 63, 127, 255, 511], sl := [(1, .int .i64 k), (4, .int .i64 0), (5, .int .i64 0), (6, .int .i64 ((Cal.dY d))), (7, .int .i64 ((Cal.dM d))), (8, .int .i64 ((Cal.dD d))), (9, .int .i64 ((Cal.dE d)))], A := [], L := [], cs := [{ val := fun _ => .int .i64 ((Cal.dE d)) }, { val := fun _ => .bool p1 }, { val := fun _ => .bool p1 }, { val := fun _ => .int .i64 k }, { val := fun _ => .bool p2 }, { val := fun _ => .bool p3 }, { val := fun _ => .bool p3 }, { val := fun _ => .int .i64 k }, { val := fun _ => .bool p4 }, { val := fun _ => .bool p5 }] }
noncomputable def r16_3 (d k : Int) (p5 : Bool) : RC := { ops := opsAt Try.f16 3, B := [0, 1], sl := [(1, .int .i64 k), (4, .int .i64 0), (5, .int .i64 0), (6, .int .i64 ((Cal.dY d))), (7, .int .i64 ((Cal.dM d))), (8, .int .i64 ((Cal.dD d))), (30, .bool p5)], A := [], L := [], cs := [{ val := fun _ => .int .i64 0 }, { val := fun _ => .int .i64 3 }] }
noncomputable def r16_4 (d k : Int) (p5 : Bool) : RC := { ops := opsAt Try.f16 4, B := [0], sl := [(1, .int .i64 k), (4, .int .i64 0), (5, .int .i64 0), (6, .int .i64 ((Cal.dY d))), (7, .int .i64 ((Cal.dM d))), (8, .int .i64 ((Cal.dD d))), (30, .bool p5)], A := [], L := [], cs := [{ val := fun _ => .int .i64 0 }] }
noncomputable def r16_5 (d k i y m : Int) (p6 : Bool) : RC := { ops := opsAt Try.f16 5, B := [0, 0, 3], sl := [(1, .int .i64 k), (4, .int .i64 0), (5, .int .i64 0), (6, .int .i64 y), (7, .int .i64 m), (8, .int .i64 ((Cal.dD d))), (10, .int .i64 i)], A := [], L := [], cs := [{ val := fun _ => .int .i64 i }, { val := fun _ => .int .i64 k }, { val := fun _ => .bool p6 }] }
noncomputable def r16_6 (d k i y m : Int) (p6 : Bool) (n1 : Int) : RC := { ops := opsAt Try.f16 7, B := [0, 1, 3], sl := [(1, .int .i64 k), (4, .int .i64 0), (5, .int .i64 0), (6, .int .i64 y), (7, .int .i64 m), (8, .int .i64 ((Cal.dD d))), (10, .int .i64 i), (31, .int .i64 i), (32, .int .i64 k), (33, .bool p6)], A := [], L := [], cs := [{ val := fun _ => .int .i64 m }, { val := fun _ => .int .i64 n1 }, { val := fun _ => .int .i64 n1 }] }
noncomputable def r16_7 (d k i y m : Int) (p6 : Bool) (n1 : Int) (p7 : Bool) : RC := { ops := opsAt Try.f16 8, B := [0, 1], sl := [(1, .int .i64 k), (4, .int .i64 0), (5, .int .i64 0), (6, .int .i64 y), (7, .int .i64 n1), (8, .int .i64 ((Cal.dD d))), (10, .int .i64 i), (31, .int .i64 i), (32, .int .i64 k), (33, .bool p6), (36, .int .i64 m), (37, .int .i64 n1)], A := [], L := [], cs := [{ val := fun _ => .int .i64 n1 }, { val := fun _ => .bool p7 }] }
noncomputable def r16_8 (d k i y m : Int) (p6 : Bool) (n1 : Int) (p7 : Bool) : RC := { ops := opsAt Try.f16 9, B := [0], sl := [(1, .int .i64 k), (4, .int .i64 0), (5, .int .i64 0), (6, .int .i64 y), (7, .int .i64 n1), (8, .int .i64 ((Cal.dD d))), (10, .int .i64 i), (31, .int .i64 i), (32, .int .i64 k), (33, .bool p6), (36, .int .i64 m), (37, .int .i64 n1), (38, .int .i64 n1), (39, .bool p7)], A := [], L := [], cs := [{ val := fun _ => .int .i64 1 }] }
noncomputable def r16_9 (d k i y m : Int) (p6 : Bool) (n1 : Int) (p7 : Bool) (n2 : Int) : RC := { ops := opsAt Try.f16 10, B := [0, 1, 3], sl := [(1, .int .i64 k), (4, .int .i64 0), (5, .int .i64 0), (6, .int .i64 y), (7, .int .i64 1), (8, .int .i64 ((Cal.dD d))), (10, .int .i64 i), (31, .int .i64 i), (32, .int .i64 k), (33, .bool p6), (36, .int .i64 m), (37, .int .i64 n1), (38, .int .i64 n1), (39, .bool p7)], A := [], L := [], cs := [{ val := fun _ => .int .i64 y }, { val := fun _ => .int .i64 n2 }, { val := fun _ => .int .i64 n2 }] }
noncomputable def r16_10 (d k i y m : Int) (p6 : Bool) (n1 : Int) (p7 : Bool) (n2 n3 : Int) : RC := { ops := opsAt Try.f16 6, B := [0, 1, 3], sl := [(1, .int .i64 k), (4, .int .i64 0), (5, .int .i64 0), (6, .int .i64 n2), (7, .int .i64 1), (8, .int .i64 ((Cal.dD d))), (10, .int .i64 i), (31, .int .i64 i), (32, .int .i64 k), (33, .bool p6), (36, .int .i64 m), (37, .int .i64 n1), (38, .int .i64 n1), (39, .bool p7), (40, .int .i64 y), (41, .int .i64 n2)], A := [], L := [], cs := [{ val := fun _ => .int .i64 i }, { val := fun _ => .int .i64 n3 }, { val := fun _ => .int .i64 n3 }] }
noncomputable def r16_11 (d k i y m : Int) (p6 : Bool) (n1 : Int) (p7 : Bool) (n4 : Int) : RC := { ops := opsAt Try.f16 6, B := [0, 1, 3], sl := [(1, .int .i64 k), (4, .int .i64 0), (5, .int .i64 0), (6, .int .i64 y), (7, .int .i64 n1), (8, .int .i64 ((Cal.dD d))), (10, .int .i64 i), (31, .int .i64 i), (32, .int .i64 k), (33, .bool p6), (36, .int .i64 m), (37, .int .i64 n1), (38, .int .i64 n1), (39, .bool p7)], A := [], L := [], cs := [{ val := fun _ => .int .i64 i }, { val := fun _ => .int .i64 n4 }, { val := fun _ => .int .i64 n4 }] }
noncomputable def r16_12 (d k i y m : Int) (p6 : Bool) : RC := { ops := opsAt Try.f16 11, B := [0], sl := [(1, .int .i64 k), (4, .int .i64 0), (5, .int .i64 0), (6, .int .i64 y), (7, .int .i64 m), (8, .int .i64 ((Cal.dD d))), (10, .int .i64 i), (31, .int .i64 i), (32, .int .i64 k), (33, .bool p6)], A := [], L := [], cs := [{ val := fun _ => .int .i64 0 }] }
noncomputable def r16_13 (d k j y2 m2 : Int) (p8 : Bool) : RC := { ops := opsAt Try.f16 12, B := [0, 0, 3], sl := [(1, .int .i64 k), (4, .int .i64 0), (5, .int .i64 0), (6, .int .i64 y2), (7, .int .i64 m2), (8, .int .i64 ((Cal.dD d))), (11, .int .i64 j)], A := [], L := [], cs := [{ val := fun _ => .int .i64 j }, { val := fun _ => .int .i64 k }, { val := fun _ => .bool p8 }] }
noncomputable def r16_14 (d k j y2 m2 : Int) (p8 : Bool) (n5 : Int) : RC := { ops := opsAt Try.f16 14, B := [0, 1, 3], sl := [(1, .int .i64 k), (4, .int .i64 0), (5, .int .i64 0), (6, .int .i64 y2), (7, .int .i64 m2), (8, .int .i64 ((Cal.dD d))), (11, .int .i64 j), (42, .int .i64 j), (43, .int .i64 k), (44, .bool p8)], A := [], L := [], cs := [{ val := fun _ => .int .i64 m2 }, { val := fun _ => .int .i64 n5 }, { val := fun _ => .int .i64 n5 }] }
noncomputable def r16_15 (d k j y2 m2 : Int) (p8 : Bool) (n5 : Int) (p9 : Bool) : RC := { ops := opsAt Try.f16 15, B := [0, 1], sl := [(1, .int .i64 k), (4, .int .i64 0), (5, .int .i64 0), (6, .int .i64 y2), (7, .int .i64 n5), (8, .int .i64 ((Cal.dD d))), (11, .int .i64 j), (42, .int .i64 j), (43, .int .i64 k), (44, .bool p8), (47, .int .i64 m2), (48, .int .i64 n5)], A := [], L := [], cs := [{ val := fun _ => .int .i64 n5 }, { val := fun _ => .bool p9 }] }
noncomputable def r16_16 (d k j y2 m2 : Int) (p8 : Bool) (n5 : Int) (p9 : Bool) : RC := { ops := opsAt Try.f16 16, B := [0], sl := [(1, .int .i64 k), (4, .int .i64 0), (5, .int .i64 0), (6, .int .i64 y2), (7, .int .i64 n5), (8, .int .i64 ((Cal.dD d))), (11, .int .i64 j), (42, .int .i64 j), (43, .int .i64 k), (44, .bool p8), (47, .int .i64 m2), (48, .int .i64 n5), (49, .int .i64 n5), (50, .bool p9)], A := [], L := [], cs := [{ val := fun _ => .int .i64 12 }] }
noncomputable def r16_17 (d k j y2 m2 : Int) (p8 : Bool) (n5 : Int) (p9 : Bool) (n6 : Int) : RC := { ops := opsAt Try.f16 17, B := [0, 1, 3], sl := [(1, .int .i64 k), (4, .int .i64 0), (5, .int .i64 0), (6, .int .i64 y2), (7, .int .i64 12), (8, .int .i64 ((Cal.dD d))), (11, .int .i64 j), (42, .int .i64 j), (43, .int .i64 k), (44, .bool p8), (47, .int .i64 m2), (48, .int .i64 n5), (49, .int .i64 n5), (50, .bool p9)], A := [], L := [], cs := [{ val := fun _ => .int .i64 y2 }, { val := fun _ => .int .i64 n6 }, { val := fun _ => .int .i64 n6 }] }
noncomputable def r16_18 (d k j y2 m2 : Int) (p8 : Bool) (n5 : Int) (p9 : Bool) (n6 n7 : Int) : RC := { ops := opsAt Try.f16 13, B := [0, 1, 3], sl := [(1, .int .i64 k), (4, .int .i64 0), (5, .int .i64 0), (6, .int .i64 n6), (7, .int .i64 12), (8, .int .i64 ((Cal.dD d))), (11, .int .i64 j), (42, .int .i64 j), (43, .int .i64 k), (44, .bool p8), (47, .int .i64 m2), (48, .int .i64 n5), (49, .int .i64 n5), (50, .bool p9), (51, .int .i64 y2), (52, .int .i64 n6)], A := [], L := [], cs := [{ val := fun _ => .int .i64 j }, { val := fun _ => .int .i64 n7 }, { val := fun _ => .int .i64 n7 }] }
noncomputable def r16_19 (d k j y2 m2 : Int) (p8 : Bool) (n5 : Int) (p9 : Bool) (n8 : Int) : RC := { ops := opsAt Try.f16 13, B := [0, 1, 3], sl := [(1, .int .i64 k), (4, .int .i64 0), (5, .int .i64 0), (6, .int .i64 y2), (7, .int .i64 n5), (8, .int .i64 ((Cal.dD d))), (11, .int .i64 j), (42, .int .i64 j), (43, .int .i64 k), (44, .bool p8), (47, .int .i64 m2), (48, .int .i64 n5), (49, .int .i64 n5), (50, .bool p9)], A := [], L := [], cs := [{ val := fun _ => .int .i64 j }, { val := fun _ => .int .i64 n8 }, { val := fun _ => .int .i64 n8 }] }
noncomputable def r16_20 (d k j y2 m2 : Int) (p8 : Bool) (n9 : Int) : RC := { ops := opsAt Try.f16 18, B := [0, 0, 0, 0, 0, 24, 60, 127, 255, 511, 511, 1023, 4095], sl := [(1, .int .i64 k), (4, .int .i64 0), (5, .int .i64 0), (6, .int .i64 y2), (7, .int .i64 m2), (8, .int .i64 ((Cal.dD d))), (11, .int .i64 j), (42, .int .i64 j), (43, .int .i64 k), (44, .bool p8)], A := [], L := [], cs := [{ val := fun _ => .int .i64 y2 }, { val := fun _ => .int .i64 m2 }, { val := fun _ => .int .i64 ((Cal.dD d)) }, { val := fun _ => .int .i64 y2 }, { val := fun _ => .int .i64 m2 }, { val := fun _ => .int .i64 ((Cal.len y2 m2)) }, { val := fun _ => .int .i64 n9 }, { val := fun _ => .tuple #[.int .i64 ((Cal.dayN y2 m2 n9)), .int .i64 ((Cal.dayE y2 m2 n9))] }, { val := fun _ => .tuple #[.int .i64 ((Cal.dayN y2 m2 n9)), .int .i64 ((Cal.dayE y2 m2 n9))] }, { val := fun _ => .int .i64 ((Cal.dayN y2 m2 n9)) }, { val := fun _ => .int .i64 ((Cal.dayE y2 m2 n9)) }, { val := fun _ => .int .i64 ((Cal.dayN y2 m2 n9)) }, { val := fun _ => .int .i64 ((Cal.dayE y2 m2 n9)) }] }
noncomputable def r16_21 (y2 m2 n9 : Int) : RC := { ops := opsAt Try.f16 19, B := [0, 0, 1, 7], sl := [(4, .int .i64 0), (5, .int .i64 0), (12, .int .i64 ((Cal.dayN y2 m2 n9))), (13, .int .i64 ((Cal.dayE y2 m2 n9)))], A := [], L := [], cs := [{ val := fun _ => .int .i64 ((Cal.dayN y2 m2 n9)) }, { val := fun _ => .int .i64 ((Cal.dayE y2 m2 n9)) }, { val := fun _ => .int .i64 ((Cal.dayN y2 m2 n9)) }, { val := fun _ => .int .i64 ((Cal.dayE y2 m2 n9)) }] }
theorem addR_ct (d k : Int) (w : World) :
    Calls Try.prog 16 #[.int .i64 d, .int .i64 k] w (fun e w' => e = .returned (.tuple #[.int .i64 ((Cal.addN d k)), .int .i64 ((Cal.addE d k))]) ∧ Base [] w w') := by
  refine calls_of_W (sl := [(0, .int .i64 d), (1, .int .i64 k)]) (A := []) (L := []) Try.func16 (by kernel_rfl) 66 (by kernel_rfl) (by kernel_rfl) (fun _ h => by cases h) (by simp) ?_
  refine W.seq (by kernel_rfl) ?_
  refine W.reg (r16_0 d k) [0, 1] [] (by kernel_rfl) mo (by kernel_rfl) (fun _ _ => by kernel_rfl) trivial (by kernel_rfl) ?_
  intro G1 xa xw hDn
  refine hDn.to [0, 1, 4, 5] [] (by kernel_rfl) ?_
  refine At.then ?_
  refine W.seq (by kernel_rfl) ?_
  refine W.reg (r16_1 d k) [0, 2, 3, 4, 5, 6, 7, 8, 9, 10] [1] (by kernel_rfl) mo (by kernel_rfl) (fun _ _ => by kernel_rfl) ⟨?_, trivial⟩ (by kernel_rfl) ?_
  · exact One.call (fun _ _ _ => dateR_ct d _) (fun _ _ => by kernel_rfl)
  intro G2 xa xw hDn
  refine hDn.to [1, 4, 5, 6, 7, 8, 9] [] (by kernel_rfl) ?_
  refine At.then ?_
  refine W.seq (by kernel_rfl) ?_
  refine W.seq (by kernel_rfl) ?_
  obtain ⟨p1, hp1⟩ : ∃ x : Bool, x = !(decide ((Cal.dE d) = 0)) := ⟨_, rfl⟩
  obtain ⟨p2, hp2⟩ : ∃ x : Bool, x = decide (k < (-5000)) := ⟨_, rfl⟩
  obtain ⟨p3, hp3⟩ : ∃ x : Bool, x = (p1 || p2) := ⟨_, rfl⟩
  obtain ⟨p4, hp4⟩ : ∃ x : Bool, x = decide (5000 < k) := ⟨_, rfl⟩
  obtain ⟨p5, hp5⟩ : ∃ x : Bool, x = (p3 || p4) := ⟨_, rfl⟩
  refine W.reg (r16_2 d k p1 p2 p3 p4 p5) [0, 2, 3, 6, 7] [1, 4, 5, 8, 9] (by kernel_rfl) mo (by kernel_rfl) (fun _ _ => by kernel_rfl) ⟨?_, ?_, ?_, ?_, ?_, trivial⟩ (by kernel_rfl) ?_
  · exact One.bo hp1 (fun _ _ => by kernel_rfl)
  · exact One.bo hp2 (fun _ _ => by kernel_rfl)
  · subst hp3
    cases p1 <;> exact One.under fun _ _ _ => by kernel_rfl
  · exact One.bo hp4 (fun _ _ => by kernel_rfl)
  · subst hp5
    cases p3 <;> exact One.under fun _ _ _ => by kernel_rfl
  intro G3 xa xw hDn
  refine hDn.to [1, 4, 5, 6, 7, 8, 30] [] (by kernel_rfl) ?_
  refine At.then ?_
  refine W.cond p5 (by kernel_rfl) (fun xa hs => cnd_of (t := 30) (by kernel_rfl) (by kernel_rfl) hs) (fun hq => ?_) (fun hq => ?_)
  · skip
    have hq1 := hq
    replace hq1 := (iN hp5 (iOT (iN hp3 (iOT (iN hp1 (iNT iDF)) (iN hp2 iDT))) (iN hp4 iDT))).1 hq1
    refine W.seq (by kernel_rfl) ?_
    refine W.reg (r16_3 d k p5) [0, 1] [] (by kernel_rfl) mo (by kernel_rfl) (fun _ _ => by kernel_rfl) trivial (by kernel_rfl) ?_
    intro G4 xa xw hDn
    refine hDn.to [1, 4, 5, 6, 7, 8] [] (by kernel_rfl) ?_
    refine At.then ?_
    refine W.ret (by kernel_rfl) ?_
    refine At.thenRet ?_
    refine At.results (Or.inl rfl) (.tuple #[.int .i64 0, .int .i64 3]) (fun xa xw hs hw => results_many (rs := [.tmp 4, .tmp 5]) (vs := [.int .i64 0, .int .i64 3]) (by kernel_rfl) (by simp) ⟨res_tmp (t := 4) (by kernel_rfl) hs, res_tmp (t := 5) (by kernel_rfl) hs, trivial⟩) (fun w' hw => ?_)
    have hn : ¬ Cal.okAdd d k := fun h => by
      obtain ⟨⟨a1, a2⟩, a3, a4, a5, a6⟩ := h
      have hk := Cal.d_key a1 a2
      have hE := (Cal.d_is a1 a2).2
      have hV := (Cal.valid_iff _).2 ⟨a5, a6⟩
      simp only [Cal.addK, Cal.addX] at *
      first | omega | (rw [hX, hV] at hq1; cases hq1)
    obtain ⟨e1, e2⟩ := Cal.add_no hn
    exact ⟨ret2i e1.symm e2.symm, hw.base⟩
  · skip
    have hq2 := hq
    replace hq2 := (iN hp5 (iOF (iN hp3 (iOF (iN hp1 (iNF iDT)) (iN hp2 iDF))) (iN hp4 iDF))).1 hq2
    refine W.skip (by kernel_rfl) ?_
    refine At.then ?_
    refine W.seq (by kernel_rfl) ?_
    refine W.seq (by kernel_rfl) ?_
    have hv := Cal.dE_cases d
    obtain ⟨hv1, hv2⟩ : 0 ≤ d ∧ d ≤ 100000 := by omega
    have hk := Cal.d_key hv1 hv2
    refine W.reg (r16_4 d k p5) [0] [] (by kernel_rfl) mo (by kernel_rfl) (fun _ _ => by kernel_rfl) trivial (by kernel_rfl) ?_
    intro G5 xa xw hDn
    refine hDn.to [1, 4, 5, 6, 7, 8, 10] [] (by kernel_rfl) ?_
    refine At.then ?_
    refine W.block 0 (by kernel_rfl) ?_
    refine W.loopS (γ := Int × Int × Int) (fun ⟨i, y, m⟩ => [(1, .int .i64 k), (4, .int .i64 0), (5, .int .i64 0), (6, .int .i64 y), (7, .int .i64 m), (8, .int .i64 ((Cal.dD d))), (10, .int .i64 i)]) (fun ⟨i, y, m⟩ => []) (fun ⟨i, y, m⟩ => []) (fun ⟨i, y, m⟩ => (0 ≤ i) ∧ (i ≤ k ∨ i = 0) ∧ (1 ≤ m) ∧ (m ≤ 12) ∧ (y * 12 + m = Cal.dY d * 12 + Cal.dM d + i) ∧ (1500 ≤ y) ∧ (y ≤ 3000)) (fun ⟨i, y, m⟩ => (k - i).toNat) (0, (Cal.dY d), (Cal.dM d)) (by kernel_rfl) ?_ ?_
    · intro xa xw hs hw
      refine ⟨hs.sub (by kernel_rfl), hw, ?_⟩
      show (0 ≤ 0) ∧ (0 ≤ k ∨ 0 = 0) ∧ (1 ≤ ((Cal.dM d))) ∧ (((Cal.dM d)) ≤ 12) ∧ (((Cal.dY d)) * 12 + ((Cal.dM d)) = Cal.dY d * 12 + Cal.dM d + 0) ∧ (1500 ≤ ((Cal.dY d))) ∧ (((Cal.dY d)) ≤ 3000)
      exact ⟨by omega, by omega, by omega, by omega, by omega, by omega, by omega⟩
    · rintro ⟨i, y, m⟩ hF
      have hF : (0 ≤ i) ∧ (i ≤ k ∨ i = 0) ∧ (1 ≤ m) ∧ (m ≤ 12) ∧ (y * 12 + m = Cal.dY d * 12 + Cal.dM d + i) ∧ (1500 ≤ y) ∧ (y ≤ 3000) := hF
      obtain ⟨hf1, hf2, hf3, hf4, hf5, hf6, hf7⟩ := hF
      show W Try.prog 66 w [] (Code.l (Code.l (Code.r (Code.l (Code.r (Code.r (Code.r (body Try.f16)))))))) _ [(1, .int .i64 k), (4, .int .i64 0), (5, .int .i64 0), (6, .int .i64 y), (7, .int .i64 m), (8, .int .i64 ((Cal.dD d))), (10, .int .i64 i)] [] []
      refine W.seq (by kernel_rfl) ?_
      refine W.seq (by kernel_rfl) ?_
      obtain ⟨p6, hp6⟩ : ∃ x : Bool, x = decide (i < k) := ⟨_, rfl⟩
      refine W.reg (r16_5 d k i y m p6) [0, 1] [2] (by kernel_rfl) mo (by kernel_rfl) (fun _ _ => by kernel_rfl) ⟨?_, trivial⟩ (by kernel_rfl) ?_
      · exact One.bo hp6 (fun _ _ => by kernel_rfl)
      intro G6 xa xw hDn
      refine hDn.to [1, 4, 5, 6, 7, 8, 10, 31, 32, 33] [] (by kernel_rfl) ?_
      refine At.then ?_
      refine W.cond p6 (by kernel_rfl) (fun xa hs => cnd_of (t := 33) (by kernel_rfl) (by kernel_rfl) hs) (fun hq => ?_) (fun hq => ?_)
      · skip
        have hq3 := hq
        replace hq3 := (iN hp6 iDT).1 hq3
        refine W.skip (by kernel_rfl) ?_
        refine At.then ?_
        refine W.seq (by kernel_rfl) ?_
        refine W.block 1 (by kernel_rfl) ?_
        refine W.seq (by kernel_rfl) ?_
        obtain ⟨n1, hn1⟩ : ∃ x : Int, x = m + 1 := ⟨_, rfl⟩
        refine W.reg (r16_6 d k i y m p6 n1) [0, 2] [1] (by kernel_rfl) mo (by kernel_rfl) (fun _ _ => by kernel_rfl) ⟨?_, trivial⟩ (by kernel_rfl) ?_
        · exact One.ar hn1 (fun _ _ => by kernel_rfl) (fun _ _ _ => by omega)
        intro G7 xa xw hDn
        refine hDn.to [1, 4, 5, 6, 7, 8, 10, 31, 32, 33, 36, 37] [] (by kernel_rfl) ?_
        refine At.then ?_
        refine W.seq (by kernel_rfl) ?_
        obtain ⟨p7, hp7⟩ : ∃ x : Bool, x = decide (12 < n1) := ⟨_, rfl⟩
        refine W.reg (r16_7 d k i y m p6 n1 p7) [0] [1] (by kernel_rfl) mo (by kernel_rfl) (fun _ _ => by kernel_rfl) ⟨?_, trivial⟩ (by kernel_rfl) ?_
        · exact One.bo hp7 (fun _ _ => by kernel_rfl)
        intro G8 xa xw hDn
        refine hDn.to [1, 4, 5, 6, 7, 8, 10, 31, 32, 33, 36, 37, 38, 39] [] (by kernel_rfl) ?_
        refine At.then ?_
        refine W.cond p7 (by kernel_rfl) (fun xa hs => cnd_of (t := 39) (by kernel_rfl) (by kernel_rfl) hs) (fun hq => ?_) (fun hq => ?_)
        · skip
          have hq4 := hq
          replace hq4 := (iN hp7 iDT).1 hq4
          refine W.seq (by kernel_rfl) ?_
          refine W.reg (r16_8 d k i y m p6 n1 p7) [0] [] (by kernel_rfl) mo (by kernel_rfl) (fun _ _ => by kernel_rfl) trivial (by kernel_rfl) ?_
          intro G9 xa xw hDn
          refine hDn.to [1, 4, 5, 6, 7, 8, 10, 31, 32, 33, 36, 37, 38, 39] [] (by kernel_rfl) ?_
          refine At.then ?_
          obtain ⟨n2, hn2⟩ : ∃ x : Int, x = y + 1 := ⟨_, rfl⟩
          refine W.reg (r16_9 d k i y m p6 n1 p7 n2) [0, 2] [1] (by kernel_rfl) mo (by kernel_rfl) (fun _ _ => by kernel_rfl) ⟨?_, trivial⟩ (by kernel_rfl) ?_
          · exact One.ar hn2 (fun _ _ => by kernel_rfl) (fun _ _ _ => by omega)
          intro G10 xa xw hDn
          refine hDn.to [1, 4, 5, 6, 7, 8, 10, 31, 32, 33, 36, 37, 38, 39, 40, 41] [] (by kernel_rfl) ?_
          refine At.blockNormal ?_
          refine At.then ?_
          obtain ⟨n3, hn3⟩ : ∃ x : Int, x = i + 1 := ⟨_, rfl⟩
          refine W.reg (r16_10 d k i y m p6 n1 p7 n2 n3) [0, 2] [1] (by kernel_rfl) mo (by kernel_rfl) (fun _ _ => by kernel_rfl) ⟨?_, trivial⟩ (by kernel_rfl) ?_
          · exact One.ar hn3 (fun _ _ => by kernel_rfl) (fun _ _ _ => by omega)
          intro G11 xa xw hDn
          refine hDn.to [1, 4, 5, 6, 7, 8, 10, 31, 32, 33, 34, 35, 36, 37, 38, 39, 40, 41] [] (by kernel_rfl) ?_
          intro xa xw hs hw
          refine ⟨(n3, n2, 1), ⟨hs.sub (by kernel_rfl), hw, ?_⟩, ?_⟩
          · show (0 ≤ n3) ∧ (n3 ≤ k ∨ n3 = 0) ∧ (1 ≤ 1) ∧ (1 ≤ 12) ∧ (n2 * 12 + 1 = Cal.dY d * 12 + Cal.dM d + n3) ∧ (1500 ≤ n2) ∧ (n2 ≤ 3000)
            exact ⟨by omega, by omega, by omega, by omega, by omega, by omega, by omega⟩
          · show (k - n3).toNat < (k - i).toNat
            omega
        · skip
          have hq5 := hq
          replace hq5 := (iN hp7 iDF).1 hq5
          refine W.skip (by kernel_rfl) ?_
          refine At.blockNormal ?_
          refine At.then ?_
          obtain ⟨n4, hn4⟩ : ∃ x : Int, x = i + 1 := ⟨_, rfl⟩
          refine W.reg (r16_11 d k i y m p6 n1 p7 n4) [0, 2] [1] (by kernel_rfl) mo (by kernel_rfl) (fun _ _ => by kernel_rfl) ⟨?_, trivial⟩ (by kernel_rfl) ?_
          · exact One.ar hn4 (fun _ _ => by kernel_rfl) (fun _ _ _ => by omega)
          intro G12 xa xw hDn
          refine hDn.to [1, 4, 5, 6, 7, 8, 10, 31, 32, 33, 34, 35, 36, 37, 38, 39] [] (by kernel_rfl) ?_
          intro xa xw hs hw
          refine ⟨(n4, y, n1), ⟨hs.sub (by kernel_rfl), hw, ?_⟩, ?_⟩
          · show (0 ≤ n4) ∧ (n4 ≤ k ∨ n4 = 0) ∧ (1 ≤ n1) ∧ (n1 ≤ 12) ∧ (y * 12 + n1 = Cal.dY d * 12 + Cal.dM d + n4) ∧ (1500 ≤ y) ∧ (y ≤ 3000)
            exact ⟨by omega, by omega, by omega, by omega, by omega, by omega, by omega⟩
          · show (k - n4).toNat < (k - i).toNat
            omega
      · skip
        have hq6 := hq
        replace hq6 := (iN hp6 iDF).1 hq6
        refine W.exit 0 (by kernel_rfl) ?_
        refine At.thenExit ?_
        refine At.thenExit ?_
        refine At.blockHit ?_
        refine At.then ?_
        refine W.seq (by kernel_rfl) ?_
        refine W.seq (by kernel_rfl) ?_
        refine W.reg (r16_12 d k i y m p6) [0] [] (by kernel_rfl) mo (by kernel_rfl) (fun _ _ => by kernel_rfl) trivial (by kernel_rfl) ?_
        intro G13 xa xw hDn
        refine hDn.to [1, 4, 5, 6, 7, 8, 11] [] (by kernel_rfl) ?_
        refine At.then ?_
        refine W.block 2 (by kernel_rfl) ?_
        refine W.loopS (γ := Int × Int × Int) (fun ⟨j, y2, m2⟩ => [(1, .int .i64 k), (4, .int .i64 0), (5, .int .i64 0), (6, .int .i64 y2), (7, .int .i64 m2), (8, .int .i64 ((Cal.dD d))), (11, .int .i64 j)]) (fun ⟨j, y2, m2⟩ => []) (fun ⟨j, y2, m2⟩ => []) (fun ⟨j, y2, m2⟩ => (j ≤ 0) ∧ (k ≤ j ∨ j = 0) ∧ (1 ≤ m2) ∧ (m2 ≤ 12) ∧ (y2 * 12 + m2 = Cal.dY d * 12 + Cal.dM d + i + j) ∧ (1500 ≤ y2) ∧ (y2 ≤ 3000)) (fun ⟨j, y2, m2⟩ => (j - k).toNat) (0, y, m) (by kernel_rfl) ?_ ?_
        · intro xa xw hs hw
          refine ⟨hs.sub (by kernel_rfl), hw, ?_⟩
          show (0 ≤ 0) ∧ (k ≤ 0 ∨ 0 = 0) ∧ (1 ≤ m) ∧ (m ≤ 12) ∧ (y * 12 + m = Cal.dY d * 12 + Cal.dM d + i + 0) ∧ (1500 ≤ y) ∧ (y ≤ 3000)
          exact ⟨by omega, by omega, by omega, by omega, by omega, by omega, by omega⟩
        · rintro ⟨j, y2, m2⟩ hF
          have hF : (j ≤ 0) ∧ (k ≤ j ∨ j = 0) ∧ (1 ≤ m2) ∧ (m2 ≤ 12) ∧ (y2 * 12 + m2 = Cal.dY d * 12 + Cal.dM d + i + j) ∧ (1500 ≤ y2) ∧ (y2 ≤ 3000) := hF
          obtain ⟨hf8, hf9, hf10, hf11, hf12, hf13, hf14⟩ := hF
          show W Try.prog 66 w [] (Code.l (Code.l (Code.r (Code.l (Code.r (Code.r (Code.r (Code.r (body Try.f16))))))))) _ [(1, .int .i64 k), (4, .int .i64 0), (5, .int .i64 0), (6, .int .i64 y2), (7, .int .i64 m2), (8, .int .i64 ((Cal.dD d))), (11, .int .i64 j)] [] []
          refine W.seq (by kernel_rfl) ?_
          refine W.seq (by kernel_rfl) ?_
          obtain ⟨p8, hp8⟩ : ∃ x : Bool, x = decide (k < j) := ⟨_, rfl⟩
          refine W.reg (r16_13 d k j y2 m2 p8) [0, 1] [2] (by kernel_rfl) mo (by kernel_rfl) (fun _ _ => by kernel_rfl) ⟨?_, trivial⟩ (by kernel_rfl) ?_
          · exact One.bo hp8 (fun _ _ => by kernel_rfl)
          intro G14 xa xw hDn
          refine hDn.to [1, 4, 5, 6, 7, 8, 11, 42, 43, 44] [] (by kernel_rfl) ?_
          refine At.then ?_
          refine W.cond p8 (by kernel_rfl) (fun xa hs => cnd_of (t := 44) (by kernel_rfl) (by kernel_rfl) hs) (fun hq => ?_) (fun hq => ?_)
          · skip
            have hq7 := hq
            replace hq7 := (iN hp8 iDT).1 hq7
            refine W.skip (by kernel_rfl) ?_
            refine At.then ?_
            refine W.seq (by kernel_rfl) ?_
            refine W.block 3 (by kernel_rfl) ?_
            refine W.seq (by kernel_rfl) ?_
            obtain ⟨n5, hn5⟩ : ∃ x : Int, x = m2 - 1 := ⟨_, rfl⟩
            refine W.reg (r16_14 d k j y2 m2 p8 n5) [0, 2] [1] (by kernel_rfl) mo (by kernel_rfl) (fun _ _ => by kernel_rfl) ⟨?_, trivial⟩ (by kernel_rfl) ?_
            · exact One.ar hn5 (fun _ _ => by kernel_rfl) (fun _ _ _ => by omega)
            intro G15 xa xw hDn
            refine hDn.to [1, 4, 5, 6, 7, 8, 11, 42, 43, 44, 47, 48] [] (by kernel_rfl) ?_
            refine At.then ?_
            refine W.seq (by kernel_rfl) ?_
            obtain ⟨p9, hp9⟩ : ∃ x : Bool, x = decide (n5 < 1) := ⟨_, rfl⟩
            refine W.reg (r16_15 d k j y2 m2 p8 n5 p9) [0] [1] (by kernel_rfl) mo (by kernel_rfl) (fun _ _ => by kernel_rfl) ⟨?_, trivial⟩ (by kernel_rfl) ?_
            · exact One.bo hp9 (fun _ _ => by kernel_rfl)
            intro G16 xa xw hDn
            refine hDn.to [1, 4, 5, 6, 7, 8, 11, 42, 43, 44, 47, 48, 49, 50] [] (by kernel_rfl) ?_
            refine At.then ?_
            refine W.cond p9 (by kernel_rfl) (fun xa hs => cnd_of (t := 50) (by kernel_rfl) (by kernel_rfl) hs) (fun hq => ?_) (fun hq => ?_)
            · skip
              have hq8 := hq
              replace hq8 := (iN hp9 iDT).1 hq8
              refine W.seq (by kernel_rfl) ?_
              refine W.reg (r16_16 d k j y2 m2 p8 n5 p9) [0] [] (by kernel_rfl) mo (by kernel_rfl) (fun _ _ => by kernel_rfl) trivial (by kernel_rfl) ?_
              intro G17 xa xw hDn
              refine hDn.to [1, 4, 5, 6, 7, 8, 11, 42, 43, 44, 47, 48, 49, 50] [] (by kernel_rfl) ?_
              refine At.then ?_
              obtain ⟨n6, hn6⟩ : ∃ x : Int, x = y2 - 1 := ⟨_, rfl⟩
              refine W.reg (r16_17 d k j y2 m2 p8 n5 p9 n6) [0, 2] [1] (by kernel_rfl) mo (by kernel_rfl) (fun _ _ => by kernel_rfl) ⟨?_, trivial⟩ (by kernel_rfl) ?_
              · exact One.ar hn6 (fun _ _ => by kernel_rfl) (fun _ _ _ => by omega)
              intro G18 xa xw hDn
              refine hDn.to [1, 4, 5, 6, 7, 8, 11, 42, 43, 44, 47, 48, 49, 50, 51, 52] [] (by kernel_rfl) ?_
              refine At.blockNormal ?_
              refine At.then ?_
              obtain ⟨n7, hn7⟩ : ∃ x : Int, x = j - 1 := ⟨_, rfl⟩
              refine W.reg (r16_18 d k j y2 m2 p8 n5 p9 n6 n7) [0, 2] [1] (by kernel_rfl) mo (by kernel_rfl) (fun _ _ => by kernel_rfl) ⟨?_, trivial⟩ (by kernel_rfl) ?_
              · exact One.ar hn7 (fun _ _ => by kernel_rfl) (fun _ _ _ => by omega)
              intro G19 xa xw hDn
              refine hDn.to [1, 4, 5, 6, 7, 8, 11, 42, 43, 44, 45, 46, 47, 48, 49, 50, 51, 52] [] (by kernel_rfl) ?_
              intro xa xw hs hw
              refine ⟨(n7, n6, 12), ⟨hs.sub (by kernel_rfl), hw, ?_⟩, ?_⟩
              · show (n7 ≤ 0) ∧ (k ≤ n7 ∨ n7 = 0) ∧ (1 ≤ 12) ∧ (12 ≤ 12) ∧ (n6 * 12 + 12 = Cal.dY d * 12 + Cal.dM d + i + n7) ∧ (1500 ≤ n6) ∧ (n6 ≤ 3000)
                exact ⟨by omega, by omega, by omega, by omega, by omega, by omega, by omega⟩
              · show (n7 - k).toNat < (j - k).toNat
                omega
            · skip
              have hq9 := hq
              replace hq9 := (iN hp9 iDF).1 hq9
              refine W.skip (by kernel_rfl) ?_
              refine At.blockNormal ?_
              refine At.then ?_
              obtain ⟨n8, hn8⟩ : ∃ x : Int, x = j - 1 := ⟨_, rfl⟩
              refine W.reg (r16_19 d k j y2 m2 p8 n5 p9 n8) [0, 2] [1] (by kernel_rfl) mo (by kernel_rfl) (fun _ _ => by kernel_rfl) ⟨?_, trivial⟩ (by kernel_rfl) ?_
              · exact One.ar hn8 (fun _ _ => by kernel_rfl) (fun _ _ _ => by omega)
              intro G20 xa xw hDn
              refine hDn.to [1, 4, 5, 6, 7, 8, 11, 42, 43, 44, 45, 46, 47, 48, 49, 50] [] (by kernel_rfl) ?_
              intro xa xw hs hw
              refine ⟨(n8, y2, n5), ⟨hs.sub (by kernel_rfl), hw, ?_⟩, ?_⟩
              · show (n8 ≤ 0) ∧ (k ≤ n8 ∨ n8 = 0) ∧ (1 ≤ n5) ∧ (n5 ≤ 12) ∧ (y2 * 12 + n5 = Cal.dY d * 12 + Cal.dM d + i + n8) ∧ (1500 ≤ y2) ∧ (y2 ≤ 3000)
                exact ⟨by omega, by omega, by omega, by omega, by omega, by omega, by omega⟩
              · show (n8 - k).toNat < (j - k).toNat
                omega
          · skip
            have hq10 := hq
            replace hq10 := (iN hp8 iDF).1 hq10
            refine W.exit 2 (by kernel_rfl) ?_
            refine At.thenExit ?_
            refine At.thenExit ?_
            refine At.blockHit ?_
            refine At.then ?_
            refine W.seq (by kernel_rfl) ?_
            have hlb := Cal.len_bd y2 m2
            obtain ⟨n9, hn9⟩ : ∃ x : Int, x = min ((Cal.dD d)) ((Cal.len y2 m2)) := ⟨_, rfl⟩
            refine W.reg (r16_20 d k j y2 m2 p8 n9) [0, 1, 2, 3, 4, 8, 9, 10, 11, 12] [5, 6, 7] (by kernel_rfl) mo (by kernel_rfl) (fun _ _ => by kernel_rfl) ⟨?_, ?_, ?_, trivial⟩ (by kernel_rfl) ?_
            · exact One.call (fun _ _ _ => length_ct y2 m2 (by omega) _) (fun _ _ => by kernel_rfl)
            · exact One.eq (congrArg (Value.int .i64) ((min_if _ _).trans hn9.symm)) (fun _ _ => by kernel_rfl)
            · exact One.call (fun _ _ _ => dayR_ct y2 m2 n9 (by omega) (by omega) _) (fun _ _ => by kernel_rfl)
            intro G21 xa xw hDn
            refine hDn.to [4, 5, 12, 13] [] (by kernel_rfl) ?_
            refine At.then ?_
            refine W.seq (by kernel_rfl) ?_
            refine W.reg (r16_21 y2 m2 n9) [0, 1, 2, 3] [] (by kernel_rfl) mo (by kernel_rfl) (fun _ _ => by kernel_rfl) trivial (by kernel_rfl) ?_
            intro G22 xa xw hDn
            refine hDn.to [4, 5] [] (by kernel_rfl) ?_
            refine At.then ?_
            refine W.ret (by kernel_rfl) ?_
            refine At.results (Or.inl rfl) (.tuple #[.int .i64 ((Cal.dayN y2 m2 n9)), .int .i64 ((Cal.dayE y2 m2 n9))]) (fun xa xw hs hw => results_many (rs := [.tmp 4, .tmp 5]) (vs := [.int .i64 ((Cal.dayN y2 m2 n9)), .int .i64 ((Cal.dayE y2 m2 n9))]) (by kernel_rfl) (by simp) ⟨res_tmp (t := 4) (by kernel_rfl) hs, res_tmp (t := 5) (by kernel_rfl) hs, trivial⟩) (fun w' hw => ?_)
            have hr := Cal.add_of (d := d) (k := k) (y := y2) (m := m2) hv1 hv2 (by omega) (by omega) (by omega)
            exact ⟨ret2i (by rw [hr.1]; try congr 1; try omega) (by rw [hr.2]; try congr 1; try omega), hw.base⟩

noncomputable def r17_0 (d : Int) : RC := { ops := opsAt Try.f17 0, B := [0, 1, 3], sl := [(0, .int .i64 d)], A := [], L := [], cs := [{ val := fun _ => .int .i64 0 }, { val := fun _ => .int .i64 0 }, { val := fun _ => .int .i64 0 }] }
noncomputable def r17_1 (d : Int) : RC := { ops := opsAt Try.f17 1, B := [0, 1, 3, 7, 7, 7, 7, 15, 159, 447, 1023], sl := [(0, .int .i64 d), (2, .int .i64 0), (3, .int .i64 0), (4, .int .i64 0)], A := [], L := [], cs := [{ val := fun _ => .int .i64 d }, { val := fun _ => .tuple #[.int .i64 ((Cal.dY d)), .int .i64 ((Cal.dM d)), .int .i64 ((Cal.dD d)), .int .i64 ((Cal.dE d))] }, { val := fun _ => .tuple #[.int .i64 ((Cal.dY d)), .int .i64 ((Cal.dM d)), .int .i64 ((Cal.dD d)), .int .i64 ((Cal.dE d))] }, { val := fun _ => .int .i64 ((Cal.dY d)) }, { val := fun _ => .int .i64 ((Cal.dM d)) }, { val := fun _ => .int .i64 ((Cal.dD d)) }, { val := fun _ => .int .i64 ((Cal.dE d)) }, { val := fun _ => .int .i64 ((Cal.dY d)) }, { val := fun _ => .int .i64 ((Cal.dM d)) }, { val := fun _ => .int .i64 ((Cal.dD d)) }, { val := fun _ => .int .i64 ((Cal.dE d)) }] }
noncomputable def r17_2 (d : Int) (p1 : Bool) : RC := { ops := opsAt Try.f17 2, B := [0, 1], sl := [(0, .int .i64 d), (2, .int .i64 0), (3, .int .i64 0), (4, .int .i64 ((Cal.dE d))), (5, .int .i64 ((Cal.dY d))), (6, .int .i64 ((Cal.dM d))), (7, .int .i64 ((Cal.dD d)))], A := [], L := [], cs := [{ val := fun _ => .int .i64 ((Cal.dE d)) }, { val := fun _ => .bool p1 }] }
noncomputable def r17_3 (d : Int) (p1 : Bool) : RC := { ops := opsAt Try.f17 3, B := [0, 0, 2, 7], sl := [(0, .int .i64 d), (2, .int .i64 0), (3, .int .i64 0), (4, .int .i64 ((Cal.dE d))), (5, .int .i64 ((Cal.dY d))), (6, .int .i64 ((Cal.dM d))), (7, .int .i64 ((Cal.dD d))), (17, .bool p1)], A := [], L := [], cs := [{ val := fun _ => .int .i64 ((Cal.dE d)) }, { val := fun _ => .int .i64 0 }, { val := fun _ => .int .i64 0 }, { val := fun _ => .int .i64 ((Cal.dE d)) }] }
noncomputable def r17_4 (d : Int) (p1 : Bool) (n1 n2 : Int) : RC := { ops := opsAt Try.f17 4, B := [0, 1, 0, 7, 15], sl := [(0, .int .i64 d), (2, .int .i64 0), (3, .int .i64 0), (4, .int .i64 ((Cal.dE d))), (5, .int .i64 ((Cal.dY d))), (6, .int .i64 ((Cal.dM d))), (7, .int .i64 ((Cal.dD d))), (17, .bool p1)], A := [], L := [], cs := [{ val := fun _ => .int .i64 ((Cal.dY d)) }, { val := fun _ => .int .i64 n1 }, { val := fun _ => .int .i64 ((Cal.dM d)) }, { val := fun _ => .int .i64 n2 }, { val := fun _ => .int .i64 n2 }] }
noncomputable def r17_5 (d n2 n3 n4 n5 n6 n7 n8 n9 : Int) : RC := { ops := opsAt Try.f17 5, B := [0, 0, 3, 7, 0, 16, 0, 64, 192, 496, 1008, 2032, 1023, 8191, 16383], sl := [(0, .int .i64 d), (2, .int .i64 0), (3, .int .i64 0), (4, .int .i64 ((Cal.dE d))), (7, .int .i64 ((Cal.dD d))), (8, .int .i64 n2)], A := [], L := [], cs := [{ val := fun _ => .int .i64 d }, { val := fun _ => .int .i64 ((Cal.dD d)) }, { val := fun _ => .int .i64 n3 }, { val := fun _ => .int .i64 n4 }, { val := fun _ => .int .i64 n2 }, { val := fun _ => .int .i64 n5 }, { val := fun _ => .int .i64 n2 }, { val := fun _ => .int .i64 n6 }, { val := fun _ => .int .i64 n7 }, { val := fun _ => .int .i64 ((Cal.num n5 n7 1)) }, { val := fun _ => .int .i64 n8 }, { val := fun _ => .int .i64 n9 }, { val := fun _ => .int .i64 n4 }, { val := fun _ => .int .i64 n9 }, { val := fun _ => .int .i64 0 }] }
theorem month_ct (d : Int) (w : World) :
    Calls Try.prog 17 #[.int .i64 d] w (fun e w' => e = .returned (.tuple #[.int .i64 ((Cal.monF d)), .int .i64 ((Cal.monL d)), .int .i64 ((Cal.dE d))]) ∧ Base [] w w') := by
  refine calls_of_W (sl := [(0, .int .i64 d)]) (A := []) (L := []) Try.func17 (by kernel_rfl) 35 (by kernel_rfl) (by kernel_rfl) (fun _ h => by cases h) (by simp) ?_
  refine W.seq (by kernel_rfl) ?_
  refine W.reg (r17_0 d) [0, 1, 2] [] (by kernel_rfl) mo (by kernel_rfl) (fun _ _ => by kernel_rfl) trivial (by kernel_rfl) ?_
  intro G1 xa xw hDn
  refine hDn.to [0, 2, 3, 4] [] (by kernel_rfl) ?_
  refine At.then ?_
  refine W.seq (by kernel_rfl) ?_
  refine W.reg (r17_1 d) [0, 2, 3, 4, 5, 6, 7, 8, 9, 10] [1] (by kernel_rfl) mo (by kernel_rfl) (fun _ _ => by kernel_rfl) ⟨?_, trivial⟩ (by kernel_rfl) ?_
  · exact One.call (fun _ _ _ => date_ct d _) (fun _ _ => by kernel_rfl)
  intro G2 xa xw hDn
  refine hDn.to [0, 2, 3, 4, 5, 6, 7] [] (by kernel_rfl) ?_
  refine At.then ?_
  refine W.seq (by kernel_rfl) ?_
  refine W.seq (by kernel_rfl) ?_
  obtain ⟨p1, hp1⟩ : ∃ x : Bool, x = !(decide ((Cal.dE d) = 0)) := ⟨_, rfl⟩
  refine W.reg (r17_2 d p1) [0] [1] (by kernel_rfl) mo (by kernel_rfl) (fun _ _ => by kernel_rfl) ⟨?_, trivial⟩ (by kernel_rfl) ?_
  · exact One.bo hp1 (fun _ _ => by kernel_rfl)
  intro G3 xa xw hDn
  refine hDn.to [0, 2, 3, 4, 5, 6, 7, 17] [] (by kernel_rfl) ?_
  refine At.then ?_
  refine W.cond p1 (by kernel_rfl) (fun xa hs => cnd_of (t := 17) (by kernel_rfl) (by kernel_rfl) hs) (fun hq => ?_) (fun hq => ?_)
  · skip
    have hq1 := hq
    replace hq1 := (iN hp1 (iNT iDF)).1 hq1
    refine W.seq (by kernel_rfl) ?_
    refine W.reg (r17_3 d p1) [0, 1, 2, 3] [] (by kernel_rfl) mo (by kernel_rfl) (fun _ _ => by kernel_rfl) trivial (by kernel_rfl) ?_
    intro G4 xa xw hDn
    refine hDn.to [0, 2, 3, 4, 5, 6, 7] [] (by kernel_rfl) ?_
    refine At.then ?_
    refine W.ret (by kernel_rfl) ?_
    refine At.thenRet ?_
    refine At.results (Or.inl rfl) (.tuple #[.int .i64 0, .int .i64 0, .int .i64 ((Cal.dE d))]) (fun xa xw hs hw => results_many (rs := [.tmp 2, .tmp 3, .tmp 4]) (vs := [.int .i64 0, .int .i64 0, .int .i64 ((Cal.dE d))]) (by kernel_rfl) (by simp) ⟨res_tmp (t := 2) (by kernel_rfl) hs, res_tmp (t := 3) (by kernel_rfl) hs, res_tmp (t := 4) (by kernel_rfl) hs, trivial⟩) (fun w' hw => ?_)
    have hv := Cal.dE_cases d
    have hn := Cal.valid_no (d := d) (by omega)
    exact ⟨ret3i (by simp [Cal.monF, hn]) (by simp [Cal.monL, hn]) rfl, hw.base⟩
  · skip
    have hq2 := hq
    replace hq2 := (iN hp1 (iNF iDT)).1 hq2
    refine W.skip (by kernel_rfl) ?_
    refine At.then ?_
    refine W.seq (by kernel_rfl) ?_
    have hv := Cal.dE_cases d
    obtain ⟨hv1, hv2⟩ : 0 ≤ d ∧ d ≤ 100000 := by omega
    have hk := Cal.d_key hv1 hv2
    obtain ⟨n1, hn1⟩ : ∃ x : Int, x = ((Cal.dY d)) * 12 := ⟨_, rfl⟩
    obtain ⟨n2, hn2⟩ : ∃ x : Int, x = n1 + ((Cal.dM d)) := ⟨_, rfl⟩
    refine W.reg (r17_4 d p1 n1 n2) [0, 2, 4] [1, 3] (by kernel_rfl) mo (by kernel_rfl) (fun _ _ => by kernel_rfl) ⟨?_, ?_, trivial⟩ (by kernel_rfl) ?_
    · exact One.ar hn1 (fun _ _ => by kernel_rfl) (fun _ _ _ => by omega)
    · exact One.ar hn2 (fun _ _ => by kernel_rfl) (fun _ _ _ => by omega)
    intro G5 xa xw hDn
    refine hDn.to [0, 2, 3, 4, 7, 8] [] (by kernel_rfl) ?_
    refine At.then ?_
    refine W.seq (by kernel_rfl) ?_
    obtain ⟨n3, hn3⟩ : ∃ x : Int, x = d - ((Cal.dD d)) := ⟨_, rfl⟩
    obtain ⟨n4, hn4⟩ : ∃ x : Int, x = n3 + 1 := ⟨_, rfl⟩
    obtain ⟨n5, hn5⟩ : ∃ x : Int, x = n2 / 12 := ⟨_, rfl⟩
    obtain ⟨n6, hn6⟩ : ∃ x : Int, x = n2 % 12 := ⟨_, rfl⟩
    obtain ⟨n7, hn7⟩ : ∃ x : Int, x = n6 + 1 := ⟨_, rfl⟩
    obtain ⟨n8, hn8⟩ : ∃ x : Int, x = (Cal.num n5 n7 1) - 1 := ⟨_, rfl⟩
    obtain ⟨n9, hn9⟩ : ∃ x : Int, x = min 100000 n8 := ⟨_, rfl⟩
    have hb1 := Cal.num_bd (y := n5) (m := n7) (by omega) (by omega) (by omega) (by omega)
    refine W.reg (r17_5 d n2 n3 n4 n5 n6 n7 n8 n9) [0, 1, 4, 6, 12, 13, 14] [2, 3, 5, 7, 8, 9, 10, 11] (by kernel_rfl) mo (by kernel_rfl) (fun _ _ => by kernel_rfl) ⟨?_, ?_, ?_, ?_, ?_, ?_, ?_, ?_, trivial⟩ (by kernel_rfl) ?_
    · exact One.ar hn3 (fun _ _ => by kernel_rfl) (fun _ _ _ => by omega)
    · exact One.ar hn4 (fun _ _ => by kernel_rfl) (fun _ _ _ => by omega)
    · exact One.quo hn5 (fun _ _ => by kernel_rfl) (fun _ _ _ => by omega)
    · exact One.rem hn6 (fun _ _ => by kernel_rfl) (fun _ _ _ => by omega)
    · exact One.ar hn7 (fun _ _ => by kernel_rfl) (fun _ _ _ => by omega)
    · exact One.call (fun _ _ _ => number_ct n5 n7 1 (by omega) (by omega) (by omega) (by omega) (by omega) (by omega) _) (fun _ _ => by kernel_rfl)
    · exact One.ar hn8 (fun _ _ => by kernel_rfl) (fun _ _ _ => by omega)
    · exact One.eq (congrArg (Value.int .i64) ((min_if _ _).trans hn9.symm)) (fun _ _ => by kernel_rfl)
    intro G6 xa xw hDn
    refine hDn.to [2, 3, 4] [] (by kernel_rfl) ?_
    refine At.then ?_
    refine W.ret (by kernel_rfl) ?_
    refine At.results (Or.inl rfl) (.tuple #[.int .i64 n4, .int .i64 n9, .int .i64 0]) (fun xa xw hs hw => results_many (rs := [.tmp 2, .tmp 3, .tmp 4]) (vs := [.int .i64 n4, .int .i64 n9, .int .i64 0]) (by kernel_rfl) (by simp) ⟨res_tmp (t := 2) (by kernel_rfl) hs, res_tmp (t := 3) (by kernel_rfl) hs, res_tmp (t := 4) (by kernel_rfl) hs, trivial⟩) (fun w' hw => ?_)
    have hs1 := Cal.st_num (n := Cal.dY d * 12 + (Cal.dM d - 1) + 1) (y := n5) (m := n7) (by omega) (by omega) (by omega)
    have hv := (Cal.valid_iff d).2 ⟨hv1, hv2⟩
    exact ⟨ret3i (by simp only [Cal.monF, hv, if_true]; omega) (by simp only [Cal.monL, hv, if_true]; omega) (by omega), hw.base⟩

noncomputable def r18_0 (d : Int) : RC := { ops := opsAt Try.f18 0, B := [0, 1, 3], sl := [(0, .int .i64 d)], A := [], L := [], cs := [{ val := fun _ => .int .i64 0 }, { val := fun _ => .int .i64 0 }, { val := fun _ => .int .i64 0 }] }
noncomputable def r18_1 (d : Int) : RC := { ops := opsAt Try.f18 1, B := [0, 1, 3, 7, 7, 7, 7, 15, 159, 447, 1023], sl := [(0, .int .i64 d), (2, .int .i64 0), (3, .int .i64 0), (4, .int .i64 0)], A := [], L := [], cs := [{ val := fun _ => .int .i64 d }, { val := fun _ => .tuple #[.int .i64 ((Cal.dY d)), .int .i64 ((Cal.dM d)), .int .i64 ((Cal.dD d)), .int .i64 ((Cal.dE d))] }, { val := fun _ => .tuple #[.int .i64 ((Cal.dY d)), .int .i64 ((Cal.dM d)), .int .i64 ((Cal.dD d)), .int .i64 ((Cal.dE d))] }, { val := fun _ => .int .i64 ((Cal.dY d)) }, { val := fun _ => .int .i64 ((Cal.dM d)) }, { val := fun _ => .int .i64 ((Cal.dD d)) }, { val := fun _ => .int .i64 ((Cal.dE d)) }, { val := fun _ => .int .i64 ((Cal.dY d)) }, { val := fun _ => .int .i64 ((Cal.dM d)) }, { val := fun _ => .int .i64 ((Cal.dD d)) }, { val := fun _ => .int .i64 ((Cal.dE d)) }] }
noncomputable def r18_2 (d : Int) (p1 : Bool) : RC := { ops := opsAt Try.f18 2, B := [0, 1], sl := [(0, .int .i64 d), (2, .int .i64 0), (3, .int .i64 0), (4, .int .i64 0), (5, .int .i64 ((Cal.dY d))), (6, .int .i64 ((Cal.dM d))), (7, .int .i64 ((Cal.dD d))), (8, .int .i64 ((Cal.dE d)))], A := [], L := [], cs := [{ val := fun _ => .int .i64 ((Cal.dE d)) }, { val := fun _ => .bool p1 }] }
noncomputable def r18_3 (d : Int) (p1 : Bool) : RC := { ops := opsAt Try.f18 3, B := [0, 0, 2, 7], sl := [(0, .int .i64 d), (2, .int .i64 0), (3, .int .i64 0), (4, .int .i64 0), (5, .int .i64 ((Cal.dY d))), (6, .int .i64 ((Cal.dM d))), (7, .int .i64 ((Cal.dD d))), (8, .int .i64 ((Cal.dE d))), (18, .bool p1)], A := [], L := [], cs := [{ val := fun _ => .int .i64 ((Cal.dE d)) }, { val := fun _ => .int .i64 0 }, { val := fun _ => .int .i64 0 }, { val := fun _ => .int .i64 ((Cal.dE d)) }] }
noncomputable def r18_4 (d : Int) (p1 : Bool) (n1 n2 : Int) : RC := { ops := opsAt Try.f18 4, B := [0, 0, 3, 7, 15], sl := [(0, .int .i64 d), (2, .int .i64 0), (3, .int .i64 0), (4, .int .i64 0), (5, .int .i64 ((Cal.dY d))), (6, .int .i64 ((Cal.dM d))), (7, .int .i64 ((Cal.dD d))), (8, .int .i64 ((Cal.dE d))), (18, .bool p1)], A := [], L := [], cs := [{ val := fun _ => .int .i64 d }, { val := fun _ => .int .i64 ((Cal.dD d)) }, { val := fun _ => .int .i64 n1 }, { val := fun _ => .int .i64 n2 }, { val := fun _ => .int .i64 n2 }] }
noncomputable def r18_5 (d n2 n3 n4 n5 : Int) : RC := { ops := opsAt Try.f18 5, B := [0, 0, 0, 0, 12, 30, 62, 126, 29, 511, 1023], sl := [(2, .int .i64 0), (3, .int .i64 0), (4, .int .i64 0), (5, .int .i64 ((Cal.dY d))), (6, .int .i64 ((Cal.dM d))), (9, .int .i64 n2)], A := [], L := [], cs := [{ val := fun _ => .int .i64 n2 }, { val := fun _ => .int .i64 n2 }, { val := fun _ => .int .i64 ((Cal.dY d)) }, { val := fun _ => .int .i64 ((Cal.dM d)) }, { val := fun _ => .int .i64 ((Cal.len ((Cal.dY d)) ((Cal.dM d)))) }, { val := fun _ => .int .i64 n3 }, { val := fun _ => .int .i64 n4 }, { val := fun _ => .int .i64 n5 }, { val := fun _ => .int .i64 n2 }, { val := fun _ => .int .i64 n5 }, { val := fun _ => .int .i64 0 }] }
theorem monthR_ct (d : Int) (w : World) :
    Calls Try.prog 18 #[.int .i64 d] w (fun e w' => e = .returned (.tuple #[.int .i64 ((Cal.monF d)), .int .i64 ((Cal.monL d)), .int .i64 ((Cal.dE d))]) ∧ Base [] w w') := by
  refine calls_of_W (sl := [(0, .int .i64 d)]) (A := []) (L := []) Try.func18 (by kernel_rfl) 32 (by kernel_rfl) (by kernel_rfl) (fun _ h => by cases h) (by simp) ?_
  refine W.seq (by kernel_rfl) ?_
  refine W.reg (r18_0 d) [0, 1, 2] [] (by kernel_rfl) mo (by kernel_rfl) (fun _ _ => by kernel_rfl) trivial (by kernel_rfl) ?_
  intro G1 xa xw hDn
  refine hDn.to [0, 2, 3, 4] [] (by kernel_rfl) ?_
  refine At.then ?_
  refine W.seq (by kernel_rfl) ?_
  refine W.reg (r18_1 d) [0, 2, 3, 4, 5, 6, 7, 8, 9, 10] [1] (by kernel_rfl) mo (by kernel_rfl) (fun _ _ => by kernel_rfl) ⟨?_, trivial⟩ (by kernel_rfl) ?_
  · exact One.call (fun _ _ _ => dateR_ct d _) (fun _ _ => by kernel_rfl)
  intro G2 xa xw hDn
  refine hDn.to [0, 2, 3, 4, 5, 6, 7, 8] [] (by kernel_rfl) ?_
  refine At.then ?_
  refine W.seq (by kernel_rfl) ?_
  refine W.seq (by kernel_rfl) ?_
  obtain ⟨p1, hp1⟩ : ∃ x : Bool, x = !(decide ((Cal.dE d) = 0)) := ⟨_, rfl⟩
  refine W.reg (r18_2 d p1) [0] [1] (by kernel_rfl) mo (by kernel_rfl) (fun _ _ => by kernel_rfl) ⟨?_, trivial⟩ (by kernel_rfl) ?_
  · exact One.bo hp1 (fun _ _ => by kernel_rfl)
  intro G3 xa xw hDn
  refine hDn.to [0, 2, 3, 4, 5, 6, 7, 8, 18] [] (by kernel_rfl) ?_
  refine At.then ?_
  refine W.cond p1 (by kernel_rfl) (fun xa hs => cnd_of (t := 18) (by kernel_rfl) (by kernel_rfl) hs) (fun hq => ?_) (fun hq => ?_)
  · skip
    have hq1 := hq
    replace hq1 := (iN hp1 (iNT iDF)).1 hq1
    refine W.seq (by kernel_rfl) ?_
    refine W.reg (r18_3 d p1) [0, 1, 2, 3] [] (by kernel_rfl) mo (by kernel_rfl) (fun _ _ => by kernel_rfl) trivial (by kernel_rfl) ?_
    intro G4 xa xw hDn
    refine hDn.to [0, 2, 3, 4, 5, 6, 7] [] (by kernel_rfl) ?_
    refine At.then ?_
    refine W.ret (by kernel_rfl) ?_
    refine At.thenRet ?_
    refine At.results (Or.inl rfl) (.tuple #[.int .i64 0, .int .i64 0, .int .i64 ((Cal.dE d))]) (fun xa xw hs hw => results_many (rs := [.tmp 2, .tmp 3, .tmp 4]) (vs := [.int .i64 0, .int .i64 0, .int .i64 ((Cal.dE d))]) (by kernel_rfl) (by simp) ⟨res_tmp (t := 2) (by kernel_rfl) hs, res_tmp (t := 3) (by kernel_rfl) hs, res_tmp (t := 4) (by kernel_rfl) hs, trivial⟩) (fun w' hw => ?_)
    have hv := Cal.dE_cases d
    have hn := Cal.valid_no (d := d) (by omega)
    exact ⟨ret3i (by simp [Cal.monF, hn]) (by simp [Cal.monL, hn]) rfl, hw.base⟩
  · skip
    have hq2 := hq
    replace hq2 := (iN hp1 (iNF iDT)).1 hq2
    refine W.skip (by kernel_rfl) ?_
    refine At.then ?_
    refine W.seq (by kernel_rfl) ?_
    have hv := Cal.dE_cases d
    obtain ⟨hv1, hv2⟩ : 0 ≤ d ∧ d ≤ 100000 := by omega
    have hk := Cal.d_key hv1 hv2
    obtain ⟨n1, hn1⟩ : ∃ x : Int, x = d - ((Cal.dD d)) := ⟨_, rfl⟩
    obtain ⟨n2, hn2⟩ : ∃ x : Int, x = n1 + 1 := ⟨_, rfl⟩
    refine W.reg (r18_4 d p1 n1 n2) [0, 1, 4] [2, 3] (by kernel_rfl) mo (by kernel_rfl) (fun _ _ => by kernel_rfl) ⟨?_, ?_, trivial⟩ (by kernel_rfl) ?_
    · exact One.ar hn1 (fun _ _ => by kernel_rfl) (fun _ _ _ => by omega)
    · exact One.ar hn2 (fun _ _ => by kernel_rfl) (fun _ _ _ => by omega)
    intro G5 xa xw hDn
    refine hDn.to [2, 3, 4, 5, 6, 9] [] (by kernel_rfl) ?_
    refine At.then ?_
    refine W.seq (by kernel_rfl) ?_
    have hlb := Cal.len_bd (Cal.dY d) (Cal.dM d)
    obtain ⟨n3, hn3⟩ : ∃ x : Int, x = n2 + ((Cal.len ((Cal.dY d)) ((Cal.dM d)))) := ⟨_, rfl⟩
    obtain ⟨n4, hn4⟩ : ∃ x : Int, x = n3 - 1 := ⟨_, rfl⟩
    obtain ⟨n5, hn5⟩ : ∃ x : Int, x = min 100000 n4 := ⟨_, rfl⟩
    refine W.reg (r18_5 d n2 n3 n4 n5) [0, 1, 2, 3, 8, 9, 10] [4, 5, 6, 7] (by kernel_rfl) mo (by kernel_rfl) (fun _ _ => by kernel_rfl) ⟨?_, ?_, ?_, ?_, trivial⟩ (by kernel_rfl) ?_
    · exact One.call (fun _ _ _ => length_ct ((Cal.dY d)) ((Cal.dM d)) (by omega) _) (fun _ _ => by kernel_rfl)
    · exact One.ar hn3 (fun _ _ => by kernel_rfl) (fun _ _ _ => by omega)
    · exact One.ar hn4 (fun _ _ => by kernel_rfl) (fun _ _ _ => by omega)
    · exact One.eq (congrArg (Value.int .i64) ((min_if _ _).trans hn5.symm)) (fun _ _ => by kernel_rfl)
    intro G6 xa xw hDn
    refine hDn.to [2, 3, 4] [] (by kernel_rfl) ?_
    refine At.then ?_
    refine W.ret (by kernel_rfl) ?_
    refine At.results (Or.inl rfl) (.tuple #[.int .i64 n2, .int .i64 n5, .int .i64 0]) (fun xa xw hs hw => results_many (rs := [.tmp 2, .tmp 3, .tmp 4]) (vs := [.int .i64 n2, .int .i64 n5, .int .i64 0]) (by kernel_rfl) (by simp) ⟨res_tmp (t := 2) (by kernel_rfl) hs, res_tmp (t := 3) (by kernel_rfl) hs, res_tmp (t := 4) (by kernel_rfl) hs, trivial⟩) (fun w' hw => ?_)
    have hs0 := Cal.st_of (Cal.dY d) (Cal.dM d) (by omega) (by omega)
    have hs1 := Cal.st_succ (Cal.dY d * 12 + (Cal.dM d - 1))
    have hv := (Cal.valid_iff d).2 ⟨hv1, hv2⟩
    exact ⟨ret3i (by simp only [Cal.monF, hv, if_true]; omega) (by simp only [Cal.monL, hv, if_true]; omega) (by omega), hw.base⟩
end Go.Proofs.Ythkocilclhjokaa
