/- The calendar's laws: each returns true. Printed by a program of our own (kb.py); each step is checked by Lean. -/
import Derived.Test.YthkocilclhjokaaCal
import Derived.Test.YthkocilclhjokaaLawM
namespace Go.Proofs.Ythkocilclhjokaa
open Kb
set_option linter.unusedVariables false
noncomputable def r19_0 (a y m d : Int) : RC := { ops := opsAt Try.f19 0, B := [0], sl := [(0, .int .i64 a), (1, .int .i64 y), (2, .int .i64 m), (3, .int .i64 d)], A := [], L := [], cs := [{ val := fun _ => .bool false }] }
noncomputable def r19_1 (a y m d : Int) : RC := { ops := opsAt Try.f19 1, B := [0, 1, 3, 7, 7, 7, 7, 15, 159, 447, 1023], sl := [(0, .int .i64 a), (1, .int .i64 y), (2, .int .i64 m), (3, .int .i64 d), (8, .bool false)], A := [], L := [], cs := [{ val := fun _ => .int .i64 a }, { val := fun _ => .tuple #[.int .i64 ((Cal.dY a)), .int .i64 ((Cal.dM a)), .int .i64 ((Cal.dD a)), .int .i64 ((Cal.dE a))] }, { val := fun _ => .tuple #[.int .i64 ((Cal.dY a)), .int .i64 ((Cal.dM a)), .int .i64 ((Cal.dD a)), .int .i64 ((Cal.dE a))] }, { val := fun _ => .int .i64 ((Cal.dY a)) }, { val := fun _ => .int .i64 ((Cal.dM a)) }, { val := fun _ => .int .i64 ((Cal.dD a)) }, { val := fun _ => .int .i64 ((Cal.dE a)) }, { val := fun _ => .int .i64 ((Cal.dY a)) }, { val := fun _ => .int .i64 ((Cal.dM a)) }, { val := fun _ => .int .i64 ((Cal.dD a)) }, { val := fun _ => .int .i64 ((Cal.dE a)) }] }
noncomputable def r19_2 (a y m d : Int) : RC := { ops := opsAt Try.f19 2, B := [0, 0, 0, 7, 15, 31, 31, 63, 255], sl := [(0, .int .i64 a), (1, .int .i64 y), (2, .int .i64 m), (3, .int .i64 d), (8, .bool false), (9, .int .i64 ((Cal.dY a))), (10, .int .i64 ((Cal.dM a))), (11, .int .i64 ((Cal.dD a))), (12, .int .i64 ((Cal.dE a)))], A := [], L := [], cs := [{ val := fun _ => .int .i64 y }, { val := fun _ => .int .i64 m }, { val := fun _ => .int .i64 d }, { val := fun _ => .tuple #[.int .i64 ((Cal.dayN y m d)), .int .i64 ((Cal.dayE y m d))] }, { val := fun _ => .tuple #[.int .i64 ((Cal.dayN y m d)), .int .i64 ((Cal.dayE y m d))] }, { val := fun _ => .int .i64 ((Cal.dayN y m d)) }, { val := fun _ => .int .i64 ((Cal.dayE y m d)) }, { val := fun _ => .int .i64 ((Cal.dayN y m d)) }, { val := fun _ => .int .i64 ((Cal.dayE y m d)) }] }
noncomputable def r19_3 (a y m d : Int) (p1 p2 p3 p4 p5 p6 p7 p8 p9 p10 p11 : Bool) : RC := { ops := opsAt Try.f19 3, B := [0, 1, 3, 7, 15, 31, 63, 127, 127, 511, 1023, 2047, 4095, 4095, 16383, 32767, 65535, 131071, 131071, 524287, 1048575, 2097151, 4194303, 4194303, 16777215, 33554431, 67108863], sl := [(0, .int .i64 a), (1, .int .i64 y), (2, .int .i64 m), (3, .int .i64 d), (8, .bool false), (9, .int .i64 ((Cal.dY a))), (10, .int .i64 ((Cal.dM a))), (11, .int .i64 ((Cal.dD a))), (12, .int .i64 ((Cal.dE a))), (13, .int .i64 ((Cal.dayN y m d))), (14, .int .i64 ((Cal.dayE y m d)))], A := [], L := [], cs := [{ val := fun _ => .int .i64 ((Cal.dE a)) }, { val := fun _ => .bool p1 }, { val := fun _ => .bool p1 }, { val := fun _ => .int .i64 ((Cal.dayE y m d)) }, { val := fun _ => .bool p2 }, { val := fun _ => .bool p3 }, { val := fun _ => .bool p3 }, { val := fun _ => .int .i64 ((Cal.dY a)) }, { val := fun _ => .int .i64 y }, { val := fun _ => .bool p4 }, { val := fun _ => .bool p5 }, { val := fun _ => .bool p5 }, { val := fun _ => .int .i64 ((Cal.dM a)) }, { val := fun _ => .int .i64 m }, { val := fun _ => .bool p6 }, { val := fun _ => .bool p7 }, { val := fun _ => .bool p7 }, { val := fun _ => .int .i64 ((Cal.dD a)) }, { val := fun _ => .int .i64 d }, { val := fun _ => .bool p8 }, { val := fun _ => .bool p9 }, { val := fun _ => .bool p9 }, { val := fun _ => .int .i64 ((Cal.dayN y m d)) }, { val := fun _ => .int .i64 a }, { val := fun _ => .bool p10 }, { val := fun _ => .bool p11 }, { val := fun _ => .bool p11 }] }
theorem is_ct (a y m d : Int) (w : World) :
    Calls Try.prog 19 #[.int .i64 a, .int .i64 y, .int .i64 m, .int .i64 d] w (fun e w' => e = .returned (.bool (Cal.isB a y m d)) ∧ Base [] w w') := by
  refine calls_of_W (sl := [(0, .int .i64 a), (1, .int .i64 y), (2, .int .i64 m), (3, .int .i64 d)]) (A := []) (L := []) Try.func19 (by kernel_rfl) 55 (by kernel_rfl) (by kernel_rfl) (fun _ h => by cases h) (by simp) ?_
  refine W.seq (by kernel_rfl) ?_
  refine W.reg (r19_0 a y m d) [0] [] (by kernel_rfl) mo (by kernel_rfl) (fun _ _ => by kernel_rfl) trivial (by kernel_rfl) ?_
  intro G1 xa xw hDn
  refine hDn.to [0, 1, 2, 3, 8] [] (by kernel_rfl) ?_
  refine At.then ?_
  refine W.seq (by kernel_rfl) ?_
  refine W.reg (r19_1 a y m d) [0, 2, 3, 4, 5, 6, 7, 8, 9, 10] [1] (by kernel_rfl) mo (by kernel_rfl) (fun _ _ => by kernel_rfl) ⟨?_, trivial⟩ (by kernel_rfl) ?_
  · exact One.call (fun _ _ _ => date_ct a _) (fun _ _ => by kernel_rfl)
  intro G2 xa xw hDn
  refine hDn.to [0, 1, 2, 3, 8, 9, 10, 11, 12] [] (by kernel_rfl) ?_
  refine At.then ?_
  refine W.seq (by kernel_rfl) ?_
  refine W.reg (r19_2 a y m d) [0, 1, 2, 4, 5, 6, 7, 8] [3] (by kernel_rfl) mo (by kernel_rfl) (fun _ _ => by kernel_rfl) ⟨?_, trivial⟩ (by kernel_rfl) ?_
  · exact One.call (fun _ _ _ => day_ct y m d _) (fun _ _ => by kernel_rfl)
  intro G3 xa xw hDn
  refine hDn.to [0, 1, 2, 3, 8, 9, 10, 11, 12, 13, 14] [] (by kernel_rfl) ?_
  refine At.then ?_
  refine W.seq (by kernel_rfl) ?_
  obtain ⟨p1, hp1⟩ : ∃ x : Bool, x = decide ((Cal.dE a) = 0) := ⟨_, rfl⟩
  obtain ⟨p2, hp2⟩ : ∃ x : Bool, x = decide ((Cal.dayE y m d) = 0) := ⟨_, rfl⟩
  obtain ⟨p3, hp3⟩ : ∃ x : Bool, x = (p1 && p2) := ⟨_, rfl⟩
  obtain ⟨p4, hp4⟩ : ∃ x : Bool, x = decide ((Cal.dY a) = y) := ⟨_, rfl⟩
  obtain ⟨p5, hp5⟩ : ∃ x : Bool, x = (p3 && p4) := ⟨_, rfl⟩
  obtain ⟨p6, hp6⟩ : ∃ x : Bool, x = decide ((Cal.dM a) = m) := ⟨_, rfl⟩
  obtain ⟨p7, hp7⟩ : ∃ x : Bool, x = (p5 && p6) := ⟨_, rfl⟩
  obtain ⟨p8, hp8⟩ : ∃ x : Bool, x = decide ((Cal.dD a) = d) := ⟨_, rfl⟩
  obtain ⟨p9, hp9⟩ : ∃ x : Bool, x = (p7 && p8) := ⟨_, rfl⟩
  obtain ⟨p10, hp10⟩ : ∃ x : Bool, x = decide ((Cal.dayN y m d) = a) := ⟨_, rfl⟩
  obtain ⟨p11, hp11⟩ : ∃ x : Bool, x = (p9 && p10) := ⟨_, rfl⟩
  refine W.reg (r19_3 a y m d p1 p2 p3 p4 p5 p6 p7 p8 p9 p10 p11) [0, 2, 3, 6, 7, 8, 11, 12, 13, 16, 17, 18, 21, 22, 23, 26] [1, 4, 5, 9, 10, 14, 15, 19, 20, 24, 25] (by kernel_rfl) mo (by kernel_rfl) (fun _ _ => by kernel_rfl) ⟨?_, ?_, ?_, ?_, ?_, ?_, ?_, ?_, ?_, ?_, ?_, trivial⟩ (by kernel_rfl) ?_
  · exact One.bo hp1 (fun _ _ => by kernel_rfl)
  · exact One.bo hp2 (fun _ _ => by kernel_rfl)
  · subst hp3
    cases p1 <;> exact One.under fun _ _ _ => by kernel_rfl
  · exact One.bo hp4 (fun _ _ => by kernel_rfl)
  · subst hp5
    cases p3 <;> exact One.under fun _ _ _ => by kernel_rfl
  · exact One.bo hp6 (fun _ _ => by kernel_rfl)
  · subst hp7
    cases p5 <;> exact One.under fun _ _ _ => by kernel_rfl
  · exact One.bo hp8 (fun _ _ => by kernel_rfl)
  · subst hp9
    cases p7 <;> exact One.under fun _ _ _ => by kernel_rfl
  · exact One.bo hp10 (fun _ _ => by kernel_rfl)
  · subst hp11
    cases p9 <;> exact One.under fun _ _ _ => by kernel_rfl
  intro G4 xa xw hDn
  refine hDn.to [8] [] (by kernel_rfl) ?_
  refine At.then ?_
  refine W.ret (by kernel_rfl) ?_
  refine At.results (Or.inl rfl) (.bool p11) (fun xa xw hs hw => results_one (r := .tmp 8) (by kernel_rfl) (res_tmp (t := 8) (by kernel_rfl) hs)) (fun w' hw => ?_)
  refine ⟨retb ?_, hw.base⟩
  unfold Cal.isB
  rw [Bool.eq_iff_iff, (iN hp11 (iAT (iN hp9 (iAT (iN hp7 (iAT (iN hp5 (iAT (iN hp3 (iAT (iN hp1 iDT) (iN hp2 iDT))) (iN hp4 iDT))) (iN hp6 iDT))) (iN hp8 iDT))) (iN hp10 iDT))), decide_eq_true_iff]
  omega

noncomputable def r8_0 : RC := { ops := opsAt Try.f8 0, B := [0], sl := [], A := [], L := [], cs := [{ val := fun _ => .bool false }] }
noncomputable def r8_1 : RC := { ops := opsAt Try.f8 1, B := [0, 1, 3, 3, 7, 31], sl := [(0, .bool false)], A := [], L := [], cs := [{ val := fun _ => .tuple #[.int .i64 ((Cal.dayN 2001 2 29)), .int .i64 ((Cal.dayE 2001 2 29))] }, { val := fun _ => .tuple #[.int .i64 ((Cal.dayN 2001 2 29)), .int .i64 ((Cal.dayE 2001 2 29))] }, { val := fun _ => .int .i64 ((Cal.dayN 2001 2 29)) }, { val := fun _ => .int .i64 ((Cal.dayE 2001 2 29)) }, { val := fun _ => .int .i64 ((Cal.dayN 2001 2 29)) }, { val := fun _ => .int .i64 ((Cal.dayE 2001 2 29)) }] }
noncomputable def r8_2 : RC := { ops := opsAt Try.f8 2, B := [0, 1, 3, 3, 7, 31], sl := [(0, .bool false), (2, .int .i64 ((Cal.dayE 2001 2 29)))], A := [], L := [], cs := [{ val := fun _ => .tuple #[.int .i64 ((Cal.dayN 2000 12 31)), .int .i64 ((Cal.dayE 2000 12 31))] }, { val := fun _ => .tuple #[.int .i64 ((Cal.dayN 2000 12 31)), .int .i64 ((Cal.dayE 2000 12 31))] }, { val := fun _ => .int .i64 ((Cal.dayN 2000 12 31)) }, { val := fun _ => .int .i64 ((Cal.dayE 2000 12 31)) }, { val := fun _ => .int .i64 ((Cal.dayN 2000 12 31)) }, { val := fun _ => .int .i64 ((Cal.dayE 2000 12 31)) }] }
noncomputable def r8_3 : RC := { ops := opsAt Try.f8 3, B := [0, 1, 3, 3, 7, 31], sl := [(0, .bool false), (2, .int .i64 ((Cal.dayE 2001 2 29))), (3, .int .i64 ((Cal.dayN 2000 12 31))), (4, .int .i64 ((Cal.dayE 2000 12 31)))], A := [], L := [], cs := [{ val := fun _ => .tuple #[.int .i64 ((Cal.weekN 0)), .int .i64 ((Cal.dE 0))] }, { val := fun _ => .tuple #[.int .i64 ((Cal.weekN 0)), .int .i64 ((Cal.dE 0))] }, { val := fun _ => .int .i64 ((Cal.weekN 0)) }, { val := fun _ => .int .i64 ((Cal.dE 0)) }, { val := fun _ => .int .i64 ((Cal.weekN 0)) }, { val := fun _ => .int .i64 ((Cal.dE 0)) }] }
noncomputable def r8_4 : RC := { ops := opsAt Try.f8 4, B := [0, 1, 3, 3, 7, 31], sl := [(0, .bool false), (2, .int .i64 ((Cal.dayE 2001 2 29))), (3, .int .i64 ((Cal.dayN 2000 12 31))), (4, .int .i64 ((Cal.dayE 2000 12 31))), (5, .int .i64 ((Cal.weekN 0))), (6, .int .i64 ((Cal.dE 0)))], A := [], L := [], cs := [{ val := fun _ => .tuple #[.int .i64 ((Cal.weekN 2)), .int .i64 ((Cal.dE 2))] }, { val := fun _ => .tuple #[.int .i64 ((Cal.weekN 2)), .int .i64 ((Cal.dE 2))] }, { val := fun _ => .int .i64 ((Cal.weekN 2)) }, { val := fun _ => .int .i64 ((Cal.dE 2)) }, { val := fun _ => .int .i64 ((Cal.weekN 2)) }, { val := fun _ => .int .i64 ((Cal.dE 2)) }] }
noncomputable def r8_5 : RC := { ops := opsAt Try.f8 5, B := [0, 1, 3, 3, 7, 31], sl := [(0, .bool false), (2, .int .i64 ((Cal.dayE 2001 2 29))), (3, .int .i64 ((Cal.dayN 2000 12 31))), (4, .int .i64 ((Cal.dayE 2000 12 31))), (5, .int .i64 ((Cal.weekN 0))), (6, .int .i64 ((Cal.dE 0))), (7, .int .i64 ((Cal.weekN 2))), (8, .int .i64 ((Cal.dE 2)))], A := [], L := [], cs := [{ val := fun _ => .tuple #[.int .i64 ((Cal.addN 30 1)), .int .i64 ((Cal.addE 30 1))] }, { val := fun _ => .tuple #[.int .i64 ((Cal.addN 30 1)), .int .i64 ((Cal.addE 30 1))] }, { val := fun _ => .int .i64 ((Cal.addN 30 1)) }, { val := fun _ => .int .i64 ((Cal.addE 30 1)) }, { val := fun _ => .int .i64 ((Cal.addN 30 1)) }, { val := fun _ => .int .i64 ((Cal.addE 30 1)) }] }
noncomputable def r8_6 : RC := { ops := opsAt Try.f8 6, B := [0, 1, 3, 3, 3, 7, 47, 127], sl := [(0, .bool false), (2, .int .i64 ((Cal.dayE 2001 2 29))), (3, .int .i64 ((Cal.dayN 2000 12 31))), (4, .int .i64 ((Cal.dayE 2000 12 31))), (5, .int .i64 ((Cal.weekN 0))), (6, .int .i64 ((Cal.dE 0))), (7, .int .i64 ((Cal.weekN 2))), (8, .int .i64 ((Cal.dE 2))), (9, .int .i64 ((Cal.addN 30 1))), (10, .int .i64 ((Cal.addE 30 1)))], A := [], L := [], cs := [{ val := fun _ => .tuple #[.int .i64 ((Cal.monF 45)), .int .i64 ((Cal.monL 45)), .int .i64 ((Cal.dE 45))] }, { val := fun _ => .tuple #[.int .i64 ((Cal.monF 45)), .int .i64 ((Cal.monL 45)), .int .i64 ((Cal.dE 45))] }, { val := fun _ => .int .i64 ((Cal.monF 45)) }, { val := fun _ => .int .i64 ((Cal.monL 45)) }, { val := fun _ => .int .i64 ((Cal.dE 45)) }, { val := fun _ => .int .i64 ((Cal.monF 45)) }, { val := fun _ => .int .i64 ((Cal.monL 45)) }, { val := fun _ => .int .i64 ((Cal.dE 45)) }] }
noncomputable def r8_7 : RC := { ops := opsAt Try.f8 7, B := [0, 1, 3, 3, 3, 7, 47, 127], sl := [(0, .bool false), (2, .int .i64 ((Cal.dayE 2001 2 29))), (3, .int .i64 ((Cal.dayN 2000 12 31))), (4, .int .i64 ((Cal.dayE 2000 12 31))), (5, .int .i64 ((Cal.weekN 0))), (6, .int .i64 ((Cal.dE 0))), (7, .int .i64 ((Cal.weekN 2))), (8, .int .i64 ((Cal.dE 2))), (9, .int .i64 ((Cal.addN 30 1))), (10, .int .i64 ((Cal.addE 30 1))), (11, .int .i64 ((Cal.monF 45))), (12, .int .i64 ((Cal.monL 45))), (13, .int .i64 ((Cal.dE 45)))], A := [], L := [], cs := [{ val := fun _ => .tuple #[.int .i64 ((Cal.monF 100000)), .int .i64 ((Cal.monL 100000)), .int .i64 ((Cal.dE 100000))] }, { val := fun _ => .tuple #[.int .i64 ((Cal.monF 100000)), .int .i64 ((Cal.monL 100000)), .int .i64 ((Cal.dE 100000))] }, { val := fun _ => .int .i64 ((Cal.monF 100000)) }, { val := fun _ => .int .i64 ((Cal.monL 100000)) }, { val := fun _ => .int .i64 ((Cal.dE 100000)) }, { val := fun _ => .int .i64 ((Cal.monF 100000)) }, { val := fun _ => .int .i64 ((Cal.monL 100000)) }, { val := fun _ => .int .i64 ((Cal.dE 100000)) }] }
noncomputable def r8_8 (p1 p2 p3 p4 p5 p6 p7 p8 p9 p10 p11 p12 p13 : Bool) : RC := { ops := opsAt Try.f8 8, B := [0, 1, 3, 7, 15, 31, 63, 127, 255, 511, 1023, 2047, 4095, 8191, 16383, 32767, 65535, 131071, 262143, 524287, 1048575, 2097151, 4194303, 8388607, 16777215, 33554431], sl := [(0, .bool false), (2, .int .i64 ((Cal.dayE 2001 2 29))), (3, .int .i64 ((Cal.dayN 2000 12 31))), (4, .int .i64 ((Cal.dayE 2000 12 31))), (5, .int .i64 ((Cal.weekN 0))), (6, .int .i64 ((Cal.dE 0))), (7, .int .i64 ((Cal.weekN 2))), (8, .int .i64 ((Cal.dE 2))), (9, .int .i64 ((Cal.addN 30 1))), (10, .int .i64 ((Cal.addE 30 1))), (11, .int .i64 ((Cal.monF 45))), (12, .int .i64 ((Cal.monL 45))), (13, .int .i64 ((Cal.dE 45))), (14, .int .i64 ((Cal.monF 100000))), (15, .int .i64 ((Cal.monL 100000))), (16, .int .i64 ((Cal.dE 100000)))], A := [], L := [], cs := [{ val := fun _ => .int .i64 ((Cal.dayE 2001 2 29)) }, { val := fun _ => .bool p1 }, { val := fun _ => .bool p1 }, { val := fun _ => .int .i64 ((Cal.dayE 2000 12 31)) }, { val := fun _ => .bool p2 }, { val := fun _ => .bool p3 }, { val := fun _ => .bool p3 }, { val := fun _ => .int .i64 ((Cal.dE 0)) }, { val := fun _ => .bool p4 }, { val := fun _ => .bool p5 }, { val := fun _ => .bool p5 }, { val := fun _ => .int .i64 ((Cal.dE 2)) }, { val := fun _ => .bool p6 }, { val := fun _ => .bool p7 }, { val := fun _ => .bool p7 }, { val := fun _ => .int .i64 ((Cal.addE 30 1)) }, { val := fun _ => .bool p8 }, { val := fun _ => .bool p9 }, { val := fun _ => .bool p9 }, { val := fun _ => .int .i64 ((Cal.dE 45)) }, { val := fun _ => .bool p10 }, { val := fun _ => .bool p11 }, { val := fun _ => .bool p11 }, { val := fun _ => .int .i64 ((Cal.dE 100000)) }, { val := fun _ => .bool p12 }, { val := fun _ => .bool p13 }] }
noncomputable def r8_9 (p13 : Bool) : RC := { ops := opsAt Try.f8 9, B := [0], sl := [(0, .bool false), (3, .int .i64 ((Cal.dayN 2000 12 31))), (5, .int .i64 ((Cal.weekN 0))), (7, .int .i64 ((Cal.weekN 2))), (9, .int .i64 ((Cal.addN 30 1))), (11, .int .i64 ((Cal.monF 45))), (12, .int .i64 ((Cal.monL 45))), (14, .int .i64 ((Cal.monF 100000))), (15, .int .i64 ((Cal.monL 100000))), (72, .bool p13)], A := [], L := [], cs := [{ val := fun _ => .bool false }] }
noncomputable def r8_10 (p13 p14 p15 p16 p17 p18 p19 p20 p21 p22 p23 p24 p25 p26 p27 p28 p29 p30 p31 p32 p33 p34 : Bool) : RC := { ops := opsAt Try.f8 10, B := [0, 1, 3, 7, 15, 31, 63, 127, 255, 511, 1023, 2047, 4095, 8191, 16383, 32767, 65535, 131071, 262143, 524287, 1048575, 2097151, 4194303, 8388607, 16777215, 33554431, 67108863, 134217727, 268435455, 536870911, 1073741823, 2147483647, 4294967295, 8589934591, 17179869183, 34359738367, 68719476735, 137438953471, 274877906943, 549755813887], sl := [(0, .bool false), (3, .int .i64 ((Cal.dayN 2000 12 31))), (5, .int .i64 ((Cal.weekN 0))), (7, .int .i64 ((Cal.weekN 2))), (9, .int .i64 ((Cal.addN 30 1))), (11, .int .i64 ((Cal.monF 45))), (12, .int .i64 ((Cal.monL 45))), (14, .int .i64 ((Cal.monF 100000))), (15, .int .i64 ((Cal.monL 100000))), (72, .bool p13)], A := [], L := [], cs := [{ val := fun _ => .bool p14 }, { val := fun _ => .bool p14 }, { val := fun _ => .bool p15 }, { val := fun _ => .bool p16 }, { val := fun _ => .bool p16 }, { val := fun _ => .bool p17 }, { val := fun _ => .bool p18 }, { val := fun _ => .bool p18 }, { val := fun _ => .int .i64 ((Cal.dayN 2000 12 31)) }, { val := fun _ => .bool p19 }, { val := fun _ => .bool p20 }, { val := fun _ => .bool p20 }, { val := fun _ => .int .i64 ((Cal.weekN 0)) }, { val := fun _ => .bool p21 }, { val := fun _ => .bool p22 }, { val := fun _ => .bool p22 }, { val := fun _ => .int .i64 ((Cal.weekN 2)) }, { val := fun _ => .bool p23 }, { val := fun _ => .bool p24 }, { val := fun _ => .bool p24 }, { val := fun _ => .int .i64 ((Cal.addN 30 1)) }, { val := fun _ => .bool p25 }, { val := fun _ => .bool p26 }, { val := fun _ => .bool p26 }, { val := fun _ => .int .i64 ((Cal.monF 45)) }, { val := fun _ => .bool p27 }, { val := fun _ => .bool p28 }, { val := fun _ => .bool p28 }, { val := fun _ => .int .i64 ((Cal.monL 45)) }, { val := fun _ => .bool p29 }, { val := fun _ => .bool p30 }, { val := fun _ => .bool p30 }, { val := fun _ => .int .i64 ((Cal.monF 100000)) }, { val := fun _ => .bool p31 }, { val := fun _ => .bool p32 }, { val := fun _ => .bool p32 }, { val := fun _ => .int .i64 ((Cal.monL 100000)) }, { val := fun _ => .bool p33 }, { val := fun _ => .bool p34 }, { val := fun _ => .bool p34 }] }
theorem sane_ct  (w : World) :
    Calls Try.prog 8 #[] w (fun e w' => e = .returned (.bool true) ∧ Base [] w w') := by
  have s1 : Cal.dayE 2001 2 29 = 3 := by decide
  have s2 : Cal.dayN 2000 12 31 = 365 ∧ Cal.dayE 2000 12 31 = 0 := by decide
  have s3 : Cal.weekN 0 = 5 ∧ Cal.weekN 2 = 0 ∧ Cal.dE 0 = 0 ∧ Cal.dE 2 = 0 ∧ Cal.dE 45 = 0 ∧ Cal.dE 100000 = 0 := by decide
  have s4 := Cal.sane_add
  have s5 := Cal.sane_mon
  have s6 := Cal.sane_is
  refine calls_of_W (sl := []) (A := []) (L := []) Try.func8 (by kernel_rfl) 112 (by kernel_rfl) (by kernel_rfl) (fun _ h => by cases h) (by simp) ?_
  refine W.seq (by kernel_rfl) ?_
  refine W.reg r8_0 [0] [] (by kernel_rfl) mo (by kernel_rfl) (fun _ _ => by kernel_rfl) trivial (by kernel_rfl) ?_
  intro G1 xa xw hDn
  refine hDn.to [0] [] (by kernel_rfl) ?_
  refine At.then ?_
  refine W.seq (by kernel_rfl) ?_
  refine W.reg r8_1 [1, 2, 3, 4, 5] [0] (by kernel_rfl) mo (by kernel_rfl) (fun _ _ => by kernel_rfl) ⟨?_, trivial⟩ (by kernel_rfl) ?_
  · exact One.call (fun _ _ _ => day_ct 2001 2 29 _) (fun _ _ => by kernel_rfl)
  intro G2 xa xw hDn
  refine hDn.to [0, 2] [] (by kernel_rfl) ?_
  refine At.then ?_
  refine W.seq (by kernel_rfl) ?_
  refine W.reg r8_2 [1, 2, 3, 4, 5] [0] (by kernel_rfl) mo (by kernel_rfl) (fun _ _ => by kernel_rfl) ⟨?_, trivial⟩ (by kernel_rfl) ?_
  · exact One.call (fun _ _ _ => day_ct 2000 12 31 _) (fun _ _ => by kernel_rfl)
  intro G3 xa xw hDn
  refine hDn.to [0, 2, 3, 4] [] (by kernel_rfl) ?_
  refine At.then ?_
  refine W.seq (by kernel_rfl) ?_
  refine W.reg r8_3 [1, 2, 3, 4, 5] [0] (by kernel_rfl) mo (by kernel_rfl) (fun _ _ => by kernel_rfl) ⟨?_, trivial⟩ (by kernel_rfl) ?_
  · exact One.call (fun _ _ _ => week_ct 0 _) (fun _ _ => by kernel_rfl)
  intro G4 xa xw hDn
  refine hDn.to [0, 2, 3, 4, 5, 6] [] (by kernel_rfl) ?_
  refine At.then ?_
  refine W.seq (by kernel_rfl) ?_
  refine W.reg r8_4 [1, 2, 3, 4, 5] [0] (by kernel_rfl) mo (by kernel_rfl) (fun _ _ => by kernel_rfl) ⟨?_, trivial⟩ (by kernel_rfl) ?_
  · exact One.call (fun _ _ _ => week_ct 2 _) (fun _ _ => by kernel_rfl)
  intro G5 xa xw hDn
  refine hDn.to [0, 2, 3, 4, 5, 6, 7, 8] [] (by kernel_rfl) ?_
  refine At.then ?_
  refine W.seq (by kernel_rfl) ?_
  refine W.reg r8_5 [1, 2, 3, 4, 5] [0] (by kernel_rfl) mo (by kernel_rfl) (fun _ _ => by kernel_rfl) ⟨?_, trivial⟩ (by kernel_rfl) ?_
  · exact One.call (fun _ _ _ => add_ct 30 1 _) (fun _ _ => by kernel_rfl)
  intro G6 xa xw hDn
  refine hDn.to [0, 2, 3, 4, 5, 6, 7, 8, 9, 10] [] (by kernel_rfl) ?_
  refine At.then ?_
  refine W.seq (by kernel_rfl) ?_
  refine W.reg r8_6 [1, 2, 3, 4, 5, 6, 7] [0] (by kernel_rfl) mo (by kernel_rfl) (fun _ _ => by kernel_rfl) ⟨?_, trivial⟩ (by kernel_rfl) ?_
  · exact One.call (fun _ _ _ => month_ct 45 _) (fun _ _ => by kernel_rfl)
  intro G7 xa xw hDn
  refine hDn.to [0, 2, 3, 4, 5, 6, 7, 8, 9, 10, 11, 12, 13] [] (by kernel_rfl) ?_
  refine At.then ?_
  refine W.seq (by kernel_rfl) ?_
  refine W.reg r8_7 [1, 2, 3, 4, 5, 6, 7] [0] (by kernel_rfl) mo (by kernel_rfl) (fun _ _ => by kernel_rfl) ⟨?_, trivial⟩ (by kernel_rfl) ?_
  · exact One.call (fun _ _ _ => month_ct 100000 _) (fun _ _ => by kernel_rfl)
  intro G8 xa xw hDn
  refine hDn.to [0, 2, 3, 4, 5, 6, 7, 8, 9, 10, 11, 12, 13, 14, 15, 16] [] (by kernel_rfl) ?_
  refine At.then ?_
  refine W.seq (by kernel_rfl) ?_
  refine W.seq (by kernel_rfl) ?_
  obtain ⟨p1, hp1⟩ : ∃ x : Bool, x = !(decide ((Cal.dayE 2001 2 29) = 3)) := ⟨_, rfl⟩
  obtain ⟨p2, hp2⟩ : ∃ x : Bool, x = !(decide ((Cal.dayE 2000 12 31) = 0)) := ⟨_, rfl⟩
  obtain ⟨p3, hp3⟩ : ∃ x : Bool, x = (p1 || p2) := ⟨_, rfl⟩
  obtain ⟨p4, hp4⟩ : ∃ x : Bool, x = !(decide ((Cal.dE 0) = 0)) := ⟨_, rfl⟩
  obtain ⟨p5, hp5⟩ : ∃ x : Bool, x = (p3 || p4) := ⟨_, rfl⟩
  obtain ⟨p6, hp6⟩ : ∃ x : Bool, x = !(decide ((Cal.dE 2) = 0)) := ⟨_, rfl⟩
  obtain ⟨p7, hp7⟩ : ∃ x : Bool, x = (p5 || p6) := ⟨_, rfl⟩
  obtain ⟨p8, hp8⟩ : ∃ x : Bool, x = !(decide ((Cal.addE 30 1) = 0)) := ⟨_, rfl⟩
  obtain ⟨p9, hp9⟩ : ∃ x : Bool, x = (p7 || p8) := ⟨_, rfl⟩
  obtain ⟨p10, hp10⟩ : ∃ x : Bool, x = !(decide ((Cal.dE 45) = 0)) := ⟨_, rfl⟩
  obtain ⟨p11, hp11⟩ : ∃ x : Bool, x = (p9 || p10) := ⟨_, rfl⟩
  obtain ⟨p12, hp12⟩ : ∃ x : Bool, x = !(decide ((Cal.dE 100000) = 0)) := ⟨_, rfl⟩
  obtain ⟨p13, hp13⟩ : ∃ x : Bool, x = (p11 || p12) := ⟨_, rfl⟩
  refine W.reg (r8_8 p1 p2 p3 p4 p5 p6 p7 p8 p9 p10 p11 p12 p13) [0, 2, 3, 6, 7, 10, 11, 14, 15, 18, 19, 22, 23] [1, 4, 5, 8, 9, 12, 13, 16, 17, 20, 21, 24, 25] (by kernel_rfl) mo (by kernel_rfl) (fun _ _ => by kernel_rfl) ⟨?_, ?_, ?_, ?_, ?_, ?_, ?_, ?_, ?_, ?_, ?_, ?_, ?_, trivial⟩ (by kernel_rfl) ?_
  · exact One.bo hp1 (fun _ _ => by kernel_rfl)
  · exact One.bo hp2 (fun _ _ => by kernel_rfl)
  · subst hp3
    cases p1 <;> exact One.under fun _ _ _ => by kernel_rfl
  · exact One.bo hp4 (fun _ _ => by kernel_rfl)
  · subst hp5
    cases p3 <;> exact One.under fun _ _ _ => by kernel_rfl
  · exact One.bo hp6 (fun _ _ => by kernel_rfl)
  · subst hp7
    cases p5 <;> exact One.under fun _ _ _ => by kernel_rfl
  · exact One.bo hp8 (fun _ _ => by kernel_rfl)
  · subst hp9
    cases p7 <;> exact One.under fun _ _ _ => by kernel_rfl
  · exact One.bo hp10 (fun _ _ => by kernel_rfl)
  · subst hp11
    cases p9 <;> exact One.under fun _ _ _ => by kernel_rfl
  · exact One.bo hp12 (fun _ _ => by kernel_rfl)
  · subst hp13
    cases p11 <;> exact One.under fun _ _ _ => by kernel_rfl
  intro G9 xa xw hDn
  refine hDn.to [0, 3, 5, 7, 9, 11, 12, 14, 15, 72] [] (by kernel_rfl) ?_
  refine At.then ?_
  refine W.cond p13 (by kernel_rfl) (fun xa hs => cnd_of (t := 72) (by kernel_rfl) (by kernel_rfl) hs) (fun hq => ?_) (fun hq => ?_)
  · skip
    have hq1 := hq
    replace hq1 := (iN hp13 (iOT (iN hp11 (iOT (iN hp9 (iOT (iN hp7 (iOT (iN hp5 (iOT (iN hp3 (iOT (iN hp1 (iNT iDF)) (iN hp2 (iNT iDF)))) (iN hp4 (iNT iDF)))) (iN hp6 (iNT iDF)))) (iN hp8 (iNT iDF)))) (iN hp10 (iNT iDF)))) (iN hp12 (iNT iDF)))).1 hq1
    refine W.seq (by kernel_rfl) ?_
    refine W.reg (r8_9 p13) [0] [] (by kernel_rfl) mo (by kernel_rfl) (fun _ _ => by kernel_rfl) trivial (by kernel_rfl) ?_
    intro G10 xa xw hDn
    refine hDn.to [0, 3, 5, 7, 9, 11, 12, 14, 15] [] (by kernel_rfl) ?_
    refine At.then ?_
    refine W.ret (by kernel_rfl) ?_
    refine At.thenRet ?_
    refine At.results (Or.inl rfl) (.bool false) (fun xa xw hs hw => results_one (r := .tmp 0) (by kernel_rfl) (res_tmp (t := 0) (by kernel_rfl) hs)) (fun w' hw => ?_)
    exfalso
    omega
  · skip
    have hq2 := hq
    replace hq2 := (iN hp13 (iOF (iN hp11 (iOF (iN hp9 (iOF (iN hp7 (iOF (iN hp5 (iOF (iN hp3 (iOF (iN hp1 (iNF iDT)) (iN hp2 (iNF iDT)))) (iN hp4 (iNF iDT)))) (iN hp6 (iNF iDT)))) (iN hp8 (iNF iDT)))) (iN hp10 (iNF iDT)))) (iN hp12 (iNF iDT)))).1 hq2
    refine W.skip (by kernel_rfl) ?_
    refine At.then ?_
    refine W.seq (by kernel_rfl) ?_
    obtain ⟨p14, hp14⟩ : ∃ x : Bool, x = (Cal.isB 0 2000 1 1) := ⟨_, rfl⟩
    obtain ⟨p15, hp15⟩ : ∃ x : Bool, x = (Cal.isB 59 2000 2 29) := ⟨_, rfl⟩
    obtain ⟨p16, hp16⟩ : ∃ x : Bool, x = (p14 && p15) := ⟨_, rfl⟩
    obtain ⟨p17, hp17⟩ : ∃ x : Bool, x = (Cal.isB 100000 2273 10 16) := ⟨_, rfl⟩
    obtain ⟨p18, hp18⟩ : ∃ x : Bool, x = (p16 && p17) := ⟨_, rfl⟩
    obtain ⟨p19, hp19⟩ : ∃ x : Bool, x = decide ((Cal.dayN 2000 12 31) = 365) := ⟨_, rfl⟩
    obtain ⟨p20, hp20⟩ : ∃ x : Bool, x = (p18 && p19) := ⟨_, rfl⟩
    obtain ⟨p21, hp21⟩ : ∃ x : Bool, x = decide ((Cal.weekN 0) = 5) := ⟨_, rfl⟩
    obtain ⟨p22, hp22⟩ : ∃ x : Bool, x = (p20 && p21) := ⟨_, rfl⟩
    obtain ⟨p23, hp23⟩ : ∃ x : Bool, x = decide ((Cal.weekN 2) = 0) := ⟨_, rfl⟩
    obtain ⟨p24, hp24⟩ : ∃ x : Bool, x = (p22 && p23) := ⟨_, rfl⟩
    obtain ⟨p25, hp25⟩ : ∃ x : Bool, x = decide ((Cal.addN 30 1) = 59) := ⟨_, rfl⟩
    obtain ⟨p26, hp26⟩ : ∃ x : Bool, x = (p24 && p25) := ⟨_, rfl⟩
    obtain ⟨p27, hp27⟩ : ∃ x : Bool, x = decide ((Cal.monF 45) = 31) := ⟨_, rfl⟩
    obtain ⟨p28, hp28⟩ : ∃ x : Bool, x = (p26 && p27) := ⟨_, rfl⟩
    obtain ⟨p29, hp29⟩ : ∃ x : Bool, x = decide ((Cal.monL 45) = 59) := ⟨_, rfl⟩
    obtain ⟨p30, hp30⟩ : ∃ x : Bool, x = (p28 && p29) := ⟨_, rfl⟩
    obtain ⟨p31, hp31⟩ : ∃ x : Bool, x = decide ((Cal.monF 100000) = 99985) := ⟨_, rfl⟩
    obtain ⟨p32, hp32⟩ : ∃ x : Bool, x = (p30 && p31) := ⟨_, rfl⟩
    obtain ⟨p33, hp33⟩ : ∃ x : Bool, x = decide ((Cal.monL 100000) = 100000) := ⟨_, rfl⟩
    obtain ⟨p34, hp34⟩ : ∃ x : Bool, x = (p32 && p33) := ⟨_, rfl⟩
    refine W.reg (r8_10 p13 p14 p15 p16 p17 p18 p19 p20 p21 p22 p23 p24 p25 p26 p27 p28 p29 p30 p31 p32 p33 p34) [1, 4, 7, 8, 11, 12, 15, 16, 19, 20, 23, 24, 27, 28, 31, 32, 35, 36, 39] [0, 2, 3, 5, 6, 9, 10, 13, 14, 17, 18, 21, 22, 25, 26, 29, 30, 33, 34, 37, 38] (by kernel_rfl) mo (by kernel_rfl) (fun _ _ => by kernel_rfl) ⟨?_, ?_, ?_, ?_, ?_, ?_, ?_, ?_, ?_, ?_, ?_, ?_, ?_, ?_, ?_, ?_, ?_, ?_, ?_, ?_, ?_, trivial⟩ (by kernel_rfl) ?_
    · exact One.callB hp14 (fun _ _ _ => is_ct 0 2000 1 1 _) (fun _ _ => by kernel_rfl)
    · exact One.callB hp15 (fun G w hs => by
        have hg := gd_of hs (p := (true && (p14 == true))) (by kernel_rfl)
        have hg0 := (iN hp14 Iff.rfl).1 (eqT (andR hg))
        exact is_ct 59 2000 2 29 _) (fun _ _ => by kernel_rfl)
    · subst hp16
      cases p14 <;> exact One.under fun _ _ _ => by kernel_rfl
    · exact One.callB hp17 (fun G w hs => by
        have hg := gd_of hs (p := (true && (p16 == true))) (by kernel_rfl)
        have hg0 := (iN hp16 (iAT (iN hp14 Iff.rfl) (iN hp15 Iff.rfl))).1 (eqT (andR hg))
        exact is_ct 100000 2273 10 16 _) (fun _ _ => by kernel_rfl)
    · subst hp18
      cases p16 <;> exact One.under fun _ _ _ => by kernel_rfl
    · exact One.bo hp19 (fun _ _ => by kernel_rfl)
    · subst hp20
      cases p18 <;> exact One.under fun _ _ _ => by kernel_rfl
    · exact One.bo hp21 (fun _ _ => by kernel_rfl)
    · subst hp22
      cases p20 <;> exact One.under fun _ _ _ => by kernel_rfl
    · exact One.bo hp23 (fun _ _ => by kernel_rfl)
    · subst hp24
      cases p22 <;> exact One.under fun _ _ _ => by kernel_rfl
    · exact One.bo hp25 (fun _ _ => by kernel_rfl)
    · subst hp26
      cases p24 <;> exact One.under fun _ _ _ => by kernel_rfl
    · exact One.bo hp27 (fun _ _ => by kernel_rfl)
    · subst hp28
      cases p26 <;> exact One.under fun _ _ _ => by kernel_rfl
    · exact One.bo hp29 (fun _ _ => by kernel_rfl)
    · subst hp30
      cases p28 <;> exact One.under fun _ _ _ => by kernel_rfl
    · exact One.bo hp31 (fun _ _ => by kernel_rfl)
    · subst hp32
      cases p30 <;> exact One.under fun _ _ _ => by kernel_rfl
    · exact One.bo hp33 (fun _ _ => by kernel_rfl)
    · subst hp34
      cases p32 <;> exact One.under fun _ _ _ => by kernel_rfl
    intro G11 xa xw hDn
    refine hDn.to [0] [] (by kernel_rfl) ?_
    refine At.then ?_
    refine W.ret (by kernel_rfl) ?_
    refine At.results (Or.inl rfl) (.bool p34) (fun xa xw hs hw => results_one (r := .tmp 0) (by kernel_rfl) (res_tmp (t := 0) (by kernel_rfl) hs)) (fun w' hw => ?_)
    refine ⟨retb ((iN hp34 (iAT (iN hp32 (iAT (iN hp30 (iAT (iN hp28 (iAT (iN hp26 (iAT (iN hp24 (iAT (iN hp22 (iAT (iN hp20 (iAT (iN hp18 (iAT (iN hp16 (iAT (iN hp14 Iff.rfl) (iN hp15 Iff.rfl))) (iN hp17 Iff.rfl))) (iN hp19 iDT))) (iN hp21 iDT))) (iN hp23 iDT))) (iN hp25 iDT))) (iN hp27 iDT))) (iN hp29 iDT))) (iN hp31 iDT))) (iN hp33 iDT))).2 ?_), hw.base⟩
    refine ⟨⟨⟨⟨⟨⟨⟨⟨⟨⟨?_, ?_⟩, ?_⟩, ?_⟩, ?_⟩, ?_⟩, ?_⟩, ?_⟩, ?_⟩, ?_⟩, ?_⟩ <;> first | exact s6.1 | exact s6.2.1 | exact s6.2.2 | omega

noncomputable def r3_0 (a b c : Int) : RC := { ops := opsAt Try.f3 0, B := [0], sl := [(0, .int .i64 a), (1, .int .i64 b), (2, .int .i64 c)], A := [], L := [], cs := [{ val := fun _ => .bool false }] }
noncomputable def r3_1 (a b c : Int) : RC := { ops := opsAt Try.f3 1, B := [0, 1], sl := [(0, .int .i64 a), (1, .int .i64 b), (2, .int .i64 c), (6, .bool false)], A := [], L := [], cs := [{ val := fun _ => .bool true }, { val := fun _ => .bool true }] }
noncomputable def r3_2 (a b c : Int) : RC := { ops := opsAt Try.f3 2, B := [0, 1, 3, 7, 7, 7, 7, 15, 159, 447, 1023], sl := [(0, .int .i64 a), (1, .int .i64 b), (2, .int .i64 c), (6, .bool false), (7, .bool true)], A := [], L := [], cs := [{ val := fun _ => .int .i64 a }, { val := fun _ => .tuple #[.int .i64 ((Cal.dY a)), .int .i64 ((Cal.dM a)), .int .i64 ((Cal.dD a)), .int .i64 ((Cal.dE a))] }, { val := fun _ => .tuple #[.int .i64 ((Cal.dY a)), .int .i64 ((Cal.dM a)), .int .i64 ((Cal.dD a)), .int .i64 ((Cal.dE a))] }, { val := fun _ => .int .i64 ((Cal.dY a)) }, { val := fun _ => .int .i64 ((Cal.dM a)) }, { val := fun _ => .int .i64 ((Cal.dD a)) }, { val := fun _ => .int .i64 ((Cal.dE a)) }, { val := fun _ => .int .i64 ((Cal.dY a)) }, { val := fun _ => .int .i64 ((Cal.dM a)) }, { val := fun _ => .int .i64 ((Cal.dD a)) }, { val := fun _ => .int .i64 ((Cal.dE a)) }] }
noncomputable def r3_3 (a b c : Int) : RC := { ops := opsAt Try.f3 3, B := [0, 1, 3, 7, 7, 7, 7, 15, 159, 447, 1023], sl := [(0, .int .i64 a), (1, .int .i64 b), (2, .int .i64 c), (6, .bool false), (7, .bool true), (8, .int .i64 ((Cal.dY a))), (9, .int .i64 ((Cal.dM a))), (10, .int .i64 ((Cal.dD a))), (11, .int .i64 ((Cal.dE a)))], A := [], L := [], cs := [{ val := fun _ => .int .i64 a }, { val := fun _ => .tuple #[.int .i64 ((Cal.dY a)), .int .i64 ((Cal.dM a)), .int .i64 ((Cal.dD a)), .int .i64 ((Cal.dE a))] }, { val := fun _ => .tuple #[.int .i64 ((Cal.dY a)), .int .i64 ((Cal.dM a)), .int .i64 ((Cal.dD a)), .int .i64 ((Cal.dE a))] }, { val := fun _ => .int .i64 ((Cal.dY a)) }, { val := fun _ => .int .i64 ((Cal.dM a)) }, { val := fun _ => .int .i64 ((Cal.dD a)) }, { val := fun _ => .int .i64 ((Cal.dE a)) }, { val := fun _ => .int .i64 ((Cal.dY a)) }, { val := fun _ => .int .i64 ((Cal.dM a)) }, { val := fun _ => .int .i64 ((Cal.dD a)) }, { val := fun _ => .int .i64 ((Cal.dE a)) }] }
noncomputable def r3_4 (a b c : Int) (p1 p2 p3 p4 p5 p6 p7 : Bool) : RC := { ops := opsAt Try.f3 4, B := [0, 0, 3, 7, 15, 15, 63, 127, 255, 511, 511, 2047, 4095, 8191, 16383, 16383, 65535, 131071], sl := [(0, .int .i64 a), (1, .int .i64 b), (2, .int .i64 c), (6, .bool false), (7, .bool true), (8, .int .i64 ((Cal.dY a))), (9, .int .i64 ((Cal.dM a))), (10, .int .i64 ((Cal.dD a))), (11, .int .i64 ((Cal.dE a))), (12, .int .i64 ((Cal.dY a))), (13, .int .i64 ((Cal.dM a))), (14, .int .i64 ((Cal.dD a))), (15, .int .i64 ((Cal.dE a)))], A := [], L := [], cs := [{ val := fun _ => .int .i64 ((Cal.dY a)) }, { val := fun _ => .int .i64 ((Cal.dY a)) }, { val := fun _ => .bool p1 }, { val := fun _ => .bool p1 }, { val := fun _ => .int .i64 ((Cal.dM a)) }, { val := fun _ => .int .i64 ((Cal.dM a)) }, { val := fun _ => .bool p2 }, { val := fun _ => .bool p3 }, { val := fun _ => .bool p3 }, { val := fun _ => .int .i64 ((Cal.dD a)) }, { val := fun _ => .int .i64 ((Cal.dD a)) }, { val := fun _ => .bool p4 }, { val := fun _ => .bool p5 }, { val := fun _ => .bool p5 }, { val := fun _ => .int .i64 ((Cal.dE a)) }, { val := fun _ => .int .i64 ((Cal.dE a)) }, { val := fun _ => .bool p6 }, { val := fun _ => .bool p7 }] }
noncomputable def r3_5 (a b c : Int) (p7 : Bool) : RC := { ops := opsAt Try.f3 5, B := [0], sl := [(0, .int .i64 a), (1, .int .i64 b), (2, .int .i64 c), (6, .bool false), (7, .bool true), (58, .bool p7)], A := [], L := [], cs := [{ val := fun _ => .bool false }] }
noncomputable def r3_6 (a b c : Int) (p7 : Bool) : RC := { ops := opsAt Try.f3 6, B := [0, 0, 0, 7, 15, 31, 31, 63, 255], sl := [(0, .int .i64 a), (1, .int .i64 b), (2, .int .i64 c), (6, .bool false), (7, .bool true), (58, .bool p7)], A := [], L := [], cs := [{ val := fun _ => .int .i64 a }, { val := fun _ => .int .i64 b }, { val := fun _ => .int .i64 c }, { val := fun _ => .tuple #[.int .i64 ((Cal.dayN a b c)), .int .i64 ((Cal.dayE a b c))] }, { val := fun _ => .tuple #[.int .i64 ((Cal.dayN a b c)), .int .i64 ((Cal.dayE a b c))] }, { val := fun _ => .int .i64 ((Cal.dayN a b c)) }, { val := fun _ => .int .i64 ((Cal.dayE a b c)) }, { val := fun _ => .int .i64 ((Cal.dayN a b c)) }, { val := fun _ => .int .i64 ((Cal.dayE a b c)) }] }
noncomputable def r3_7 (a b c : Int) : RC := { ops := opsAt Try.f3 7, B := [0, 0, 0, 7, 15, 31, 31, 63, 255], sl := [(0, .int .i64 a), (1, .int .i64 b), (2, .int .i64 c), (6, .bool false), (7, .bool true), (16, .int .i64 ((Cal.dayN a b c))), (17, .int .i64 ((Cal.dayE a b c)))], A := [], L := [], cs := [{ val := fun _ => .int .i64 a }, { val := fun _ => .int .i64 b }, { val := fun _ => .int .i64 c }, { val := fun _ => .tuple #[.int .i64 ((Cal.dayN a b c)), .int .i64 ((Cal.dayE a b c))] }, { val := fun _ => .tuple #[.int .i64 ((Cal.dayN a b c)), .int .i64 ((Cal.dayE a b c))] }, { val := fun _ => .int .i64 ((Cal.dayN a b c)) }, { val := fun _ => .int .i64 ((Cal.dayE a b c)) }, { val := fun _ => .int .i64 ((Cal.dayN a b c)) }, { val := fun _ => .int .i64 ((Cal.dayE a b c)) }] }
noncomputable def r3_8 (a b c : Int) (p8 p9 p10 : Bool) : RC := { ops := opsAt Try.f3 8, B := [0, 0, 3, 7, 15, 15, 63, 127], sl := [(0, .int .i64 a), (1, .int .i64 b), (6, .bool false), (7, .bool true), (16, .int .i64 ((Cal.dayN a b c))), (17, .int .i64 ((Cal.dayE a b c))), (18, .int .i64 ((Cal.dayN a b c))), (19, .int .i64 ((Cal.dayE a b c)))], A := [], L := [], cs := [{ val := fun _ => .int .i64 ((Cal.dayN a b c)) }, { val := fun _ => .int .i64 ((Cal.dayN a b c)) }, { val := fun _ => .bool p8 }, { val := fun _ => .bool p8 }, { val := fun _ => .int .i64 ((Cal.dayE a b c)) }, { val := fun _ => .int .i64 ((Cal.dayE a b c)) }, { val := fun _ => .bool p9 }, { val := fun _ => .bool p10 }] }
noncomputable def r3_9 (a b c : Int) (p10 : Bool) : RC := { ops := opsAt Try.f3 9, B := [0], sl := [(0, .int .i64 a), (1, .int .i64 b), (6, .bool false), (7, .bool true), (16, .int .i64 ((Cal.dayN a b c))), (17, .int .i64 ((Cal.dayE a b c))), (18, .int .i64 ((Cal.dayN a b c))), (19, .int .i64 ((Cal.dayE a b c))), (80, .bool p10)], A := [], L := [], cs := [{ val := fun _ => .bool false }] }
noncomputable def r3_10 (a b c : Int) (p10 : Bool) : RC := { ops := opsAt Try.f3 10, B := [0, 1, 3, 7, 7, 15, 63], sl := [(0, .int .i64 a), (1, .int .i64 b), (6, .bool false), (7, .bool true), (16, .int .i64 ((Cal.dayN a b c))), (17, .int .i64 ((Cal.dayE a b c))), (18, .int .i64 ((Cal.dayN a b c))), (19, .int .i64 ((Cal.dayE a b c))), (80, .bool p10)], A := [], L := [], cs := [{ val := fun _ => .int .i64 a }, { val := fun _ => .tuple #[.int .i64 ((Cal.weekN a)), .int .i64 ((Cal.dE a))] }, { val := fun _ => .tuple #[.int .i64 ((Cal.weekN a)), .int .i64 ((Cal.dE a))] }, { val := fun _ => .int .i64 ((Cal.weekN a)) }, { val := fun _ => .int .i64 ((Cal.dE a)) }, { val := fun _ => .int .i64 ((Cal.weekN a)) }, { val := fun _ => .int .i64 ((Cal.dE a)) }] }
noncomputable def r3_11 (a b c : Int) : RC := { ops := opsAt Try.f3 11, B := [0, 1, 3, 7, 7, 15, 63], sl := [(0, .int .i64 a), (1, .int .i64 b), (6, .bool false), (7, .bool true), (16, .int .i64 ((Cal.weekN a))), (17, .int .i64 ((Cal.dE a))), (18, .int .i64 ((Cal.dayN a b c))), (19, .int .i64 ((Cal.dayE a b c)))], A := [], L := [], cs := [{ val := fun _ => .int .i64 a }, { val := fun _ => .tuple #[.int .i64 ((Cal.weekN a)), .int .i64 ((Cal.dE a))] }, { val := fun _ => .tuple #[.int .i64 ((Cal.weekN a)), .int .i64 ((Cal.dE a))] }, { val := fun _ => .int .i64 ((Cal.weekN a)) }, { val := fun _ => .int .i64 ((Cal.dE a)) }, { val := fun _ => .int .i64 ((Cal.weekN a)) }, { val := fun _ => .int .i64 ((Cal.dE a)) }] }
noncomputable def r3_12 (a b : Int) (p11 p12 p13 : Bool) : RC := { ops := opsAt Try.f3 12, B := [0, 0, 3, 7, 15, 15, 63, 127], sl := [(0, .int .i64 a), (1, .int .i64 b), (6, .bool false), (7, .bool true), (16, .int .i64 ((Cal.weekN a))), (17, .int .i64 ((Cal.dE a))), (18, .int .i64 ((Cal.weekN a))), (19, .int .i64 ((Cal.dE a)))], A := [], L := [], cs := [{ val := fun _ => .int .i64 ((Cal.weekN a)) }, { val := fun _ => .int .i64 ((Cal.weekN a)) }, { val := fun _ => .bool p11 }, { val := fun _ => .bool p11 }, { val := fun _ => .int .i64 ((Cal.dE a)) }, { val := fun _ => .int .i64 ((Cal.dE a)) }, { val := fun _ => .bool p12 }, { val := fun _ => .bool p13 }] }
noncomputable def r3_13 (a b : Int) (p13 : Bool) : RC := { ops := opsAt Try.f3 13, B := [0], sl := [(0, .int .i64 a), (1, .int .i64 b), (6, .bool false), (7, .bool true), (16, .int .i64 ((Cal.weekN a))), (17, .int .i64 ((Cal.dE a))), (18, .int .i64 ((Cal.weekN a))), (19, .int .i64 ((Cal.dE a))), (98, .bool p13)], A := [], L := [], cs := [{ val := fun _ => .bool false }] }
noncomputable def r3_14 (a b : Int) (p13 : Bool) : RC := { ops := opsAt Try.f3 14, B := [0, 0, 3, 7, 15, 15, 31, 127], sl := [(0, .int .i64 a), (1, .int .i64 b), (6, .bool false), (7, .bool true), (16, .int .i64 ((Cal.weekN a))), (17, .int .i64 ((Cal.dE a))), (18, .int .i64 ((Cal.weekN a))), (19, .int .i64 ((Cal.dE a))), (98, .bool p13)], A := [], L := [], cs := [{ val := fun _ => .int .i64 a }, { val := fun _ => .int .i64 b }, { val := fun _ => .tuple #[.int .i64 ((Cal.addN a b)), .int .i64 ((Cal.addE a b))] }, { val := fun _ => .tuple #[.int .i64 ((Cal.addN a b)), .int .i64 ((Cal.addE a b))] }, { val := fun _ => .int .i64 ((Cal.addN a b)) }, { val := fun _ => .int .i64 ((Cal.addE a b)) }, { val := fun _ => .int .i64 ((Cal.addN a b)) }, { val := fun _ => .int .i64 ((Cal.addE a b)) }] }
noncomputable def r3_15 (a b : Int) : RC := { ops := opsAt Try.f3 15, B := [0, 0, 3, 7, 15, 15, 31, 127], sl := [(0, .int .i64 a), (1, .int .i64 b), (6, .bool false), (7, .bool true), (16, .int .i64 ((Cal.addN a b))), (17, .int .i64 ((Cal.addE a b))), (18, .int .i64 ((Cal.weekN a))), (19, .int .i64 ((Cal.dE a)))], A := [], L := [], cs := [{ val := fun _ => .int .i64 a }, { val := fun _ => .int .i64 b }, { val := fun _ => .tuple #[.int .i64 ((Cal.addN a b)), .int .i64 ((Cal.addE a b))] }, { val := fun _ => .tuple #[.int .i64 ((Cal.addN a b)), .int .i64 ((Cal.addE a b))] }, { val := fun _ => .int .i64 ((Cal.addN a b)) }, { val := fun _ => .int .i64 ((Cal.addE a b)) }, { val := fun _ => .int .i64 ((Cal.addN a b)) }, { val := fun _ => .int .i64 ((Cal.addE a b)) }] }
noncomputable def r3_16 (a b : Int) : RC := { ops := opsAt Try.f3 16, B := [0, 1, 3, 7, 7, 7, 15, 95, 255], sl := [(0, .int .i64 a), (6, .bool false), (7, .bool true), (16, .int .i64 ((Cal.addN a b))), (17, .int .i64 ((Cal.addE a b))), (18, .int .i64 ((Cal.addN a b))), (19, .int .i64 ((Cal.addE a b)))], A := [], L := [], cs := [{ val := fun _ => .int .i64 a }, { val := fun _ => .tuple #[.int .i64 ((Cal.monF a)), .int .i64 ((Cal.monL a)), .int .i64 ((Cal.dE a))] }, { val := fun _ => .tuple #[.int .i64 ((Cal.monF a)), .int .i64 ((Cal.monL a)), .int .i64 ((Cal.dE a))] }, { val := fun _ => .int .i64 ((Cal.monF a)) }, { val := fun _ => .int .i64 ((Cal.monL a)) }, { val := fun _ => .int .i64 ((Cal.dE a)) }, { val := fun _ => .int .i64 ((Cal.monF a)) }, { val := fun _ => .int .i64 ((Cal.monL a)) }, { val := fun _ => .int .i64 ((Cal.dE a)) }] }
noncomputable def r3_17 (a b : Int) : RC := { ops := opsAt Try.f3 17, B := [0, 1, 3, 7, 7, 7, 15, 95, 255], sl := [(0, .int .i64 a), (6, .bool false), (7, .bool true), (16, .int .i64 ((Cal.addN a b))), (17, .int .i64 ((Cal.addE a b))), (18, .int .i64 ((Cal.addN a b))), (19, .int .i64 ((Cal.addE a b))), (20, .int .i64 ((Cal.monF a))), (21, .int .i64 ((Cal.monL a))), (22, .int .i64 ((Cal.dE a)))], A := [], L := [], cs := [{ val := fun _ => .int .i64 a }, { val := fun _ => .tuple #[.int .i64 ((Cal.monF a)), .int .i64 ((Cal.monL a)), .int .i64 ((Cal.dE a))] }, { val := fun _ => .tuple #[.int .i64 ((Cal.monF a)), .int .i64 ((Cal.monL a)), .int .i64 ((Cal.dE a))] }, { val := fun _ => .int .i64 ((Cal.monF a)) }, { val := fun _ => .int .i64 ((Cal.monL a)) }, { val := fun _ => .int .i64 ((Cal.dE a)) }, { val := fun _ => .int .i64 ((Cal.monF a)) }, { val := fun _ => .int .i64 ((Cal.monL a)) }, { val := fun _ => .int .i64 ((Cal.dE a)) }] }
noncomputable def r3_18 (a b : Int) (p14 p15 p16 p17 p18 p19 p20 p21 p22 : Bool) : RC := { ops := opsAt Try.f3 18, B := [0, 1, 3, 3, 15, 31, 63, 127, 127, 511, 1023, 2047, 4095, 4095, 16383, 32767, 65535, 131071, 131071, 524287, 1048575, 2097151, 4194303, 4194303, 16777215, 33554431, 67108863], sl := [(6, .bool false), (7, .bool true), (16, .int .i64 ((Cal.addN a b))), (17, .int .i64 ((Cal.addE a b))), (18, .int .i64 ((Cal.addN a b))), (19, .int .i64 ((Cal.addE a b))), (20, .int .i64 ((Cal.monF a))), (21, .int .i64 ((Cal.monL a))), (22, .int .i64 ((Cal.dE a))), (23, .int .i64 ((Cal.monF a))), (24, .int .i64 ((Cal.monL a))), (25, .int .i64 ((Cal.dE a)))], A := [], L := [], cs := [{ val := fun _ => .bool true }, { val := fun _ => .bool true }, { val := fun _ => .int .i64 ((Cal.addN a b)) }, { val := fun _ => .int .i64 ((Cal.addN a b)) }, { val := fun _ => .bool p14 }, { val := fun _ => .bool p14 }, { val := fun _ => .bool p14 }, { val := fun _ => .int .i64 ((Cal.addE a b)) }, { val := fun _ => .int .i64 ((Cal.addE a b)) }, { val := fun _ => .bool p15 }, { val := fun _ => .bool p16 }, { val := fun _ => .bool p16 }, { val := fun _ => .int .i64 ((Cal.monF a)) }, { val := fun _ => .int .i64 ((Cal.monF a)) }, { val := fun _ => .bool p17 }, { val := fun _ => .bool p18 }, { val := fun _ => .bool p18 }, { val := fun _ => .int .i64 ((Cal.monL a)) }, { val := fun _ => .int .i64 ((Cal.monL a)) }, { val := fun _ => .bool p19 }, { val := fun _ => .bool p20 }, { val := fun _ => .bool p20 }, { val := fun _ => .int .i64 ((Cal.dE a)) }, { val := fun _ => .int .i64 ((Cal.dE a)) }, { val := fun _ => .bool p21 }, { val := fun _ => .bool p22 }, { val := fun _ => .bool p22 }] }
theorem tells_ct (a b c : Int) (hl_a : -9223372036854775808 ≤ a) (hh_a : a ≤ 9223372036854775807) (hl_b : -9223372036854775808 ≤ b) (hh_b : b ≤ 9223372036854775807) (hl_c : -9223372036854775808 ≤ c) (hh_c : c ≤ 9223372036854775807) (w : World) :
    Calls Try.prog 3 #[.int .i64 a, .int .i64 b, .int .i64 c] w (fun e w' => e = .returned (.bool true) ∧ Base [] w w') := by
  refine calls_of_W (sl := [(0, .int .i64 a), (1, .int .i64 b), (2, .int .i64 c)]) (A := []) (L := []) Try.func3 (by kernel_rfl) 149 (by kernel_rfl) (by kernel_rfl) (fun _ h => by cases h) (by simp) ?_
  refine W.seq (by kernel_rfl) ?_
  refine W.reg (r3_0 a b c) [0] [] (by kernel_rfl) mo (by kernel_rfl) (fun _ _ => by kernel_rfl) trivial (by kernel_rfl) ?_
  intro G1 xa xw hDn
  refine hDn.to [0, 1, 2, 6] [] (by kernel_rfl) ?_
  refine At.then ?_
  refine W.seq (by kernel_rfl) ?_
  refine W.reg (r3_1 a b c) [1] [0] (by kernel_rfl) mo (by kernel_rfl) (fun _ _ => by kernel_rfl) ⟨?_, trivial⟩ (by kernel_rfl) ?_
  · exact One.call (fun _ _ _ => sane_ct  _) (fun _ _ => by kernel_rfl)
  intro G2 xa xw hDn
  refine hDn.to [0, 1, 2, 6, 7] [] (by kernel_rfl) ?_
  refine At.then ?_
  refine W.seq (by kernel_rfl) ?_
  refine W.reg (r3_2 a b c) [0, 2, 3, 4, 5, 6, 7, 8, 9, 10] [1] (by kernel_rfl) mo (by kernel_rfl) (fun _ _ => by kernel_rfl) ⟨?_, trivial⟩ (by kernel_rfl) ?_
  · exact One.call (fun _ _ _ => date_ct a _) (fun _ _ => by kernel_rfl)
  intro G3 xa xw hDn
  refine hDn.to [0, 1, 2, 6, 7, 8, 9, 10, 11] [] (by kernel_rfl) ?_
  refine At.then ?_
  refine W.seq (by kernel_rfl) ?_
  refine W.reg (r3_3 a b c) [0, 2, 3, 4, 5, 6, 7, 8, 9, 10] [1] (by kernel_rfl) mo (by kernel_rfl) (fun _ _ => by kernel_rfl) ⟨?_, trivial⟩ (by kernel_rfl) ?_
  · exact One.call (fun _ _ _ => dateR_ct a _) (fun _ _ => by kernel_rfl)
  intro G4 xa xw hDn
  refine hDn.to [0, 1, 2, 6, 7, 8, 9, 10, 11, 12, 13, 14, 15] [] (by kernel_rfl) ?_
  refine At.then ?_
  refine W.seq (by kernel_rfl) ?_
  refine W.seq (by kernel_rfl) ?_
  obtain ⟨p1, hp1⟩ : ∃ x : Bool, x = !(decide ((Cal.dY a) = (Cal.dY a))) := ⟨_, rfl⟩
  obtain ⟨p2, hp2⟩ : ∃ x : Bool, x = !(decide ((Cal.dM a) = (Cal.dM a))) := ⟨_, rfl⟩
  obtain ⟨p3, hp3⟩ : ∃ x : Bool, x = (p1 || p2) := ⟨_, rfl⟩
  obtain ⟨p4, hp4⟩ : ∃ x : Bool, x = !(decide ((Cal.dD a) = (Cal.dD a))) := ⟨_, rfl⟩
  obtain ⟨p5, hp5⟩ : ∃ x : Bool, x = (p3 || p4) := ⟨_, rfl⟩
  obtain ⟨p6, hp6⟩ : ∃ x : Bool, x = !(decide ((Cal.dE a) = (Cal.dE a))) := ⟨_, rfl⟩
  obtain ⟨p7, hp7⟩ : ∃ x : Bool, x = (p5 || p6) := ⟨_, rfl⟩
  refine W.reg (r3_4 a b c p1 p2 p3 p4 p5 p6 p7) [0, 1, 3, 4, 5, 8, 9, 10, 13, 14, 15] [2, 6, 7, 11, 12, 16, 17] (by kernel_rfl) mo (by kernel_rfl) (fun _ _ => by kernel_rfl) ⟨?_, ?_, ?_, ?_, ?_, ?_, ?_, trivial⟩ (by kernel_rfl) ?_
  · exact One.bo hp1 (fun _ _ => by kernel_rfl)
  · exact One.bo hp2 (fun _ _ => by kernel_rfl)
  · subst hp3
    cases p1 <;> exact One.under fun _ _ _ => by kernel_rfl
  · exact One.bo hp4 (fun _ _ => by kernel_rfl)
  · subst hp5
    cases p3 <;> exact One.under fun _ _ _ => by kernel_rfl
  · exact One.bo hp6 (fun _ _ => by kernel_rfl)
  · subst hp7
    cases p5 <;> exact One.under fun _ _ _ => by kernel_rfl
  intro G5 xa xw hDn
  refine hDn.to [0, 1, 2, 6, 7, 58] [] (by kernel_rfl) ?_
  refine At.then ?_
  refine W.cond p7 (by kernel_rfl) (fun xa hs => cnd_of (t := 58) (by kernel_rfl) (by kernel_rfl) hs) (fun hq => ?_) (fun hq => ?_)
  · skip
    have hq1 := hq
    replace hq1 := (iN hp7 (iOT (iN hp5 (iOT (iN hp3 (iOT (iN hp1 (iNT iDF)) (iN hp2 (iNT iDF)))) (iN hp4 (iNT iDF)))) (iN hp6 (iNT iDF)))).1 hq1
    refine W.seq (by kernel_rfl) ?_
    refine W.reg (r3_5 a b c p7) [0] [] (by kernel_rfl) mo (by kernel_rfl) (fun _ _ => by kernel_rfl) trivial (by kernel_rfl) ?_
    intro G6 xa xw hDn
    refine hDn.to [0, 1, 2, 6, 7] [] (by kernel_rfl) ?_
    refine At.then ?_
    refine W.ret (by kernel_rfl) ?_
    refine At.thenRet ?_
    refine At.results (Or.inl rfl) (.bool false) (fun xa xw hs hw => results_one (r := .tmp 6) (by kernel_rfl) (res_tmp (t := 6) (by kernel_rfl) hs)) (fun w' hw => ?_)
    exfalso
    simp at hq1
  · skip
    have hq2 := hq
    replace hq2 := (iN hp7 (iOF (iN hp5 (iOF (iN hp3 (iOF (iN hp1 (iNF iDT)) (iN hp2 (iNF iDT)))) (iN hp4 (iNF iDT)))) (iN hp6 (iNF iDT)))).1 hq2
    refine W.skip (by kernel_rfl) ?_
    refine At.then ?_
    refine W.seq (by kernel_rfl) ?_
    refine W.reg (r3_6 a b c p7) [0, 1, 2, 4, 5, 6, 7, 8] [3] (by kernel_rfl) mo (by kernel_rfl) (fun _ _ => by kernel_rfl) ⟨?_, trivial⟩ (by kernel_rfl) ?_
    · exact One.call (fun _ _ _ => day_ct a b c _) (fun _ _ => by kernel_rfl)
    intro G7 xa xw hDn
    refine hDn.to [0, 1, 2, 6, 7, 16, 17] [] (by kernel_rfl) ?_
    refine At.then ?_
    refine W.seq (by kernel_rfl) ?_
    refine W.reg (r3_7 a b c) [0, 1, 2, 4, 5, 6, 7, 8] [3] (by kernel_rfl) mo (by kernel_rfl) (fun _ _ => by kernel_rfl) ⟨?_, trivial⟩ (by kernel_rfl) ?_
    · exact One.call (fun _ _ _ => dayR_ct a b c (by omega) (by omega) _) (fun _ _ => by kernel_rfl)
    intro G8 xa xw hDn
    refine hDn.to [0, 1, 6, 7, 16, 17, 18, 19] [] (by kernel_rfl) ?_
    refine At.then ?_
    refine W.seq (by kernel_rfl) ?_
    refine W.seq (by kernel_rfl) ?_
    obtain ⟨p8, hp8⟩ : ∃ x : Bool, x = !(decide ((Cal.dayN a b c) = (Cal.dayN a b c))) := ⟨_, rfl⟩
    obtain ⟨p9, hp9⟩ : ∃ x : Bool, x = !(decide ((Cal.dayE a b c) = (Cal.dayE a b c))) := ⟨_, rfl⟩
    obtain ⟨p10, hp10⟩ : ∃ x : Bool, x = (p8 || p9) := ⟨_, rfl⟩
    refine W.reg (r3_8 a b c p8 p9 p10) [0, 1, 3, 4, 5] [2, 6, 7] (by kernel_rfl) mo (by kernel_rfl) (fun _ _ => by kernel_rfl) ⟨?_, ?_, ?_, trivial⟩ (by kernel_rfl) ?_
    · exact One.bo hp8 (fun _ _ => by kernel_rfl)
    · exact One.bo hp9 (fun _ _ => by kernel_rfl)
    · subst hp10
      cases p8 <;> exact One.under fun _ _ _ => by kernel_rfl
    intro G9 xa xw hDn
    refine hDn.to [0, 1, 6, 7, 16, 17, 18, 19, 80] [] (by kernel_rfl) ?_
    refine At.then ?_
    refine W.cond p10 (by kernel_rfl) (fun xa hs => cnd_of (t := 80) (by kernel_rfl) (by kernel_rfl) hs) (fun hq => ?_) (fun hq => ?_)
    · skip
      have hq3 := hq
      replace hq3 := (iN hp10 (iOT (iN hp8 (iNT iDF)) (iN hp9 (iNT iDF)))).1 hq3
      refine W.seq (by kernel_rfl) ?_
      refine W.reg (r3_9 a b c p10) [0] [] (by kernel_rfl) mo (by kernel_rfl) (fun _ _ => by kernel_rfl) trivial (by kernel_rfl) ?_
      intro G10 xa xw hDn
      refine hDn.to [0, 1, 6, 7, 16, 17, 18, 19] [] (by kernel_rfl) ?_
      refine At.then ?_
      refine W.ret (by kernel_rfl) ?_
      refine At.thenRet ?_
      refine At.results (Or.inl rfl) (.bool false) (fun xa xw hs hw => results_one (r := .tmp 6) (by kernel_rfl) (res_tmp (t := 6) (by kernel_rfl) hs)) (fun w' hw => ?_)
      exfalso
      simp at hq3
    · skip
      have hq4 := hq
      replace hq4 := (iN hp10 (iOF (iN hp8 (iNF iDT)) (iN hp9 (iNF iDT)))).1 hq4
      refine W.skip (by kernel_rfl) ?_
      refine At.then ?_
      refine W.seq (by kernel_rfl) ?_
      refine W.reg (r3_10 a b c p10) [0, 2, 3, 4, 5, 6] [1] (by kernel_rfl) mo (by kernel_rfl) (fun _ _ => by kernel_rfl) ⟨?_, trivial⟩ (by kernel_rfl) ?_
      · exact One.call (fun _ _ _ => week_ct a _) (fun _ _ => by kernel_rfl)
      intro G11 xa xw hDn
      refine hDn.to [0, 1, 6, 7, 16, 17, 18, 19] [] (by kernel_rfl) ?_
      refine At.then ?_
      refine W.seq (by kernel_rfl) ?_
      refine W.reg (r3_11 a b c) [0, 2, 3, 4, 5, 6] [1] (by kernel_rfl) mo (by kernel_rfl) (fun _ _ => by kernel_rfl) ⟨?_, trivial⟩ (by kernel_rfl) ?_
      · exact One.call (fun _ _ _ => weekR_ct a _) (fun _ _ => by kernel_rfl)
      intro G12 xa xw hDn
      refine hDn.to [0, 1, 6, 7, 16, 17, 18, 19] [] (by kernel_rfl) ?_
      refine At.then ?_
      refine W.seq (by kernel_rfl) ?_
      refine W.seq (by kernel_rfl) ?_
      obtain ⟨p11, hp11⟩ : ∃ x : Bool, x = !(decide ((Cal.weekN a) = (Cal.weekN a))) := ⟨_, rfl⟩
      obtain ⟨p12, hp12⟩ : ∃ x : Bool, x = !(decide ((Cal.dE a) = (Cal.dE a))) := ⟨_, rfl⟩
      obtain ⟨p13, hp13⟩ : ∃ x : Bool, x = (p11 || p12) := ⟨_, rfl⟩
      refine W.reg (r3_12 a b p11 p12 p13) [0, 1, 3, 4, 5] [2, 6, 7] (by kernel_rfl) mo (by kernel_rfl) (fun _ _ => by kernel_rfl) ⟨?_, ?_, ?_, trivial⟩ (by kernel_rfl) ?_
      · exact One.bo hp11 (fun _ _ => by kernel_rfl)
      · exact One.bo hp12 (fun _ _ => by kernel_rfl)
      · subst hp13
        cases p11 <;> exact One.under fun _ _ _ => by kernel_rfl
      intro G13 xa xw hDn
      refine hDn.to [0, 1, 6, 7, 16, 17, 18, 19, 98] [] (by kernel_rfl) ?_
      refine At.then ?_
      refine W.cond p13 (by kernel_rfl) (fun xa hs => cnd_of (t := 98) (by kernel_rfl) (by kernel_rfl) hs) (fun hq => ?_) (fun hq => ?_)
      · skip
        have hq5 := hq
        replace hq5 := (iN hp13 (iOT (iN hp11 (iNT iDF)) (iN hp12 (iNT iDF)))).1 hq5
        refine W.seq (by kernel_rfl) ?_
        refine W.reg (r3_13 a b p13) [0] [] (by kernel_rfl) mo (by kernel_rfl) (fun _ _ => by kernel_rfl) trivial (by kernel_rfl) ?_
        intro G14 xa xw hDn
        refine hDn.to [0, 1, 6, 7, 16, 17, 18, 19] [] (by kernel_rfl) ?_
        refine At.then ?_
        refine W.ret (by kernel_rfl) ?_
        refine At.thenRet ?_
        refine At.results (Or.inl rfl) (.bool false) (fun xa xw hs hw => results_one (r := .tmp 6) (by kernel_rfl) (res_tmp (t := 6) (by kernel_rfl) hs)) (fun w' hw => ?_)
        exfalso
        simp at hq5
      · skip
        have hq6 := hq
        replace hq6 := (iN hp13 (iOF (iN hp11 (iNF iDT)) (iN hp12 (iNF iDT)))).1 hq6
        refine W.skip (by kernel_rfl) ?_
        refine At.then ?_
        refine W.seq (by kernel_rfl) ?_
        refine W.reg (r3_14 a b p13) [0, 1, 3, 4, 5, 6, 7] [2] (by kernel_rfl) mo (by kernel_rfl) (fun _ _ => by kernel_rfl) ⟨?_, trivial⟩ (by kernel_rfl) ?_
        · exact One.call (fun _ _ _ => add_ct a b _) (fun _ _ => by kernel_rfl)
        intro G15 xa xw hDn
        refine hDn.to [0, 1, 6, 7, 16, 17, 18, 19] [] (by kernel_rfl) ?_
        refine At.then ?_
        refine W.seq (by kernel_rfl) ?_
        refine W.reg (r3_15 a b) [0, 1, 3, 4, 5, 6, 7] [2] (by kernel_rfl) mo (by kernel_rfl) (fun _ _ => by kernel_rfl) ⟨?_, trivial⟩ (by kernel_rfl) ?_
        · exact One.call (fun _ _ _ => addR_ct a b _) (fun _ _ => by kernel_rfl)
        intro G16 xa xw hDn
        refine hDn.to [0, 6, 7, 16, 17, 18, 19] [] (by kernel_rfl) ?_
        refine At.then ?_
        refine W.seq (by kernel_rfl) ?_
        refine W.reg (r3_16 a b) [0, 2, 3, 4, 5, 6, 7, 8] [1] (by kernel_rfl) mo (by kernel_rfl) (fun _ _ => by kernel_rfl) ⟨?_, trivial⟩ (by kernel_rfl) ?_
        · exact One.call (fun _ _ _ => month_ct a _) (fun _ _ => by kernel_rfl)
        intro G17 xa xw hDn
        refine hDn.to [0, 6, 7, 16, 17, 18, 19, 20, 21, 22] [] (by kernel_rfl) ?_
        refine At.then ?_
        refine W.seq (by kernel_rfl) ?_
        refine W.reg (r3_17 a b) [0, 2, 3, 4, 5, 6, 7, 8] [1] (by kernel_rfl) mo (by kernel_rfl) (fun _ _ => by kernel_rfl) ⟨?_, trivial⟩ (by kernel_rfl) ?_
        · exact One.call (fun _ _ _ => monthR_ct a _) (fun _ _ => by kernel_rfl)
        intro G18 xa xw hDn
        refine hDn.to [6, 7, 16, 17, 18, 19, 20, 21, 22, 23, 24, 25] [] (by kernel_rfl) ?_
        refine At.then ?_
        refine W.seq (by kernel_rfl) ?_
        obtain ⟨p14, hp14⟩ : ∃ x : Bool, x = decide ((Cal.addN a b) = (Cal.addN a b)) := ⟨_, rfl⟩
        obtain ⟨p15, hp15⟩ : ∃ x : Bool, x = decide ((Cal.addE a b) = (Cal.addE a b)) := ⟨_, rfl⟩
        obtain ⟨p16, hp16⟩ : ∃ x : Bool, x = (p14 && p15) := ⟨_, rfl⟩
        obtain ⟨p17, hp17⟩ : ∃ x : Bool, x = decide ((Cal.monF a) = (Cal.monF a)) := ⟨_, rfl⟩
        obtain ⟨p18, hp18⟩ : ∃ x : Bool, x = (p16 && p17) := ⟨_, rfl⟩
        obtain ⟨p19, hp19⟩ : ∃ x : Bool, x = decide ((Cal.monL a) = (Cal.monL a)) := ⟨_, rfl⟩
        obtain ⟨p20, hp20⟩ : ∃ x : Bool, x = (p18 && p19) := ⟨_, rfl⟩
        obtain ⟨p21, hp21⟩ : ∃ x : Bool, x = decide ((Cal.dE a) = (Cal.dE a)) := ⟨_, rfl⟩
        obtain ⟨p22, hp22⟩ : ∃ x : Bool, x = (p20 && p21) := ⟨_, rfl⟩
        refine W.reg (r3_18 a b p14 p15 p16 p17 p18 p19 p20 p21 p22) [0, 1, 2, 3, 5, 6, 7, 8, 11, 12, 13, 16, 17, 18, 21, 22, 23, 26] [4, 9, 10, 14, 15, 19, 20, 24, 25] (by kernel_rfl) mo (by kernel_rfl) (fun _ _ => by kernel_rfl) ⟨?_, ?_, ?_, ?_, ?_, ?_, ?_, ?_, ?_, trivial⟩ (by kernel_rfl) ?_
        · exact One.bo hp14 (fun _ _ => by kernel_rfl)
        · exact One.bo hp15 (fun _ _ => by kernel_rfl)
        · subst hp16
          cases p14 <;> exact One.under fun _ _ _ => by kernel_rfl
        · exact One.bo hp17 (fun _ _ => by kernel_rfl)
        · subst hp18
          cases p16 <;> exact One.under fun _ _ _ => by kernel_rfl
        · exact One.bo hp19 (fun _ _ => by kernel_rfl)
        · subst hp20
          cases p18 <;> exact One.under fun _ _ _ => by kernel_rfl
        · exact One.bo hp21 (fun _ _ => by kernel_rfl)
        · subst hp22
          cases p20 <;> exact One.under fun _ _ _ => by kernel_rfl
        intro G19 xa xw hDn
        refine hDn.to [6] [] (by kernel_rfl) ?_
        refine At.then ?_
        refine W.ret (by kernel_rfl) ?_
        refine At.results (Or.inl rfl) (.bool p22) (fun xa xw hs hw => results_one (r := .tmp 6) (by kernel_rfl) (res_tmp (t := 6) (by kernel_rfl) hs)) (fun w' hw => ?_)
        refine ⟨retb ((iN hp22 (iAT (iN hp20 (iAT (iN hp18 (iAT (iN hp16 (iAT (iN hp14 iDT) (iN hp15 iDT))) (iN hp17 iDT))) (iN hp19 iDT))) (iN hp21 iDT))).2 ?_), hw.base⟩
        simp

noncomputable def r4_0 (a b year month dom : Int) : RC := { ops := opsAt Try.f4 0, B := [0], sl := [(0, .int .i64 a), (1, .int .i64 b), (2, .int .i64 year), (3, .int .i64 month), (4, .int .i64 dom)], A := [], L := [], cs := [{ val := fun _ => .bool false }] }
noncomputable def r4_1 (a b year month dom : Int) : RC := { ops := opsAt Try.f4 1, B := [0, 1], sl := [(0, .int .i64 a), (1, .int .i64 b), (2, .int .i64 year), (3, .int .i64 month), (4, .int .i64 dom), (10, .bool false)], A := [], L := [], cs := [{ val := fun _ => .bool true }, { val := fun _ => .bool true }] }
noncomputable def r4_2 (a b year month dom : Int) : RC := { ops := opsAt Try.f4 2, B := [0, 1, 3, 7, 7, 7, 7, 15, 159, 447, 1023], sl := [(0, .int .i64 a), (1, .int .i64 b), (2, .int .i64 year), (3, .int .i64 month), (4, .int .i64 dom), (10, .bool false), (11, .bool true)], A := [], L := [], cs := [{ val := fun _ => .int .i64 a }, { val := fun _ => .tuple #[.int .i64 ((Cal.dY a)), .int .i64 ((Cal.dM a)), .int .i64 ((Cal.dD a)), .int .i64 ((Cal.dE a))] }, { val := fun _ => .tuple #[.int .i64 ((Cal.dY a)), .int .i64 ((Cal.dM a)), .int .i64 ((Cal.dD a)), .int .i64 ((Cal.dE a))] }, { val := fun _ => .int .i64 ((Cal.dY a)) }, { val := fun _ => .int .i64 ((Cal.dM a)) }, { val := fun _ => .int .i64 ((Cal.dD a)) }, { val := fun _ => .int .i64 ((Cal.dE a)) }, { val := fun _ => .int .i64 ((Cal.dY a)) }, { val := fun _ => .int .i64 ((Cal.dM a)) }, { val := fun _ => .int .i64 ((Cal.dD a)) }, { val := fun _ => .int .i64 ((Cal.dE a)) }] }
noncomputable def r4_3 (a b year month dom : Int) : RC := { ops := opsAt Try.f4 3, B := [0, 0, 0, 7, 15, 31, 31, 63, 255], sl := [(0, .int .i64 a), (1, .int .i64 b), (2, .int .i64 year), (3, .int .i64 month), (4, .int .i64 dom), (10, .bool false), (11, .bool true), (12, .int .i64 ((Cal.dY a))), (13, .int .i64 ((Cal.dM a))), (14, .int .i64 ((Cal.dD a))), (15, .int .i64 ((Cal.dE a)))], A := [], L := [], cs := [{ val := fun _ => .int .i64 ((Cal.dY a)) }, { val := fun _ => .int .i64 ((Cal.dM a)) }, { val := fun _ => .int .i64 ((Cal.dD a)) }, { val := fun _ => .tuple #[.int .i64 ((Cal.dayN ((Cal.dY a)) ((Cal.dM a)) ((Cal.dD a)))), .int .i64 ((Cal.dayE ((Cal.dY a)) ((Cal.dM a)) ((Cal.dD a))))] }, { val := fun _ => .tuple #[.int .i64 ((Cal.dayN ((Cal.dY a)) ((Cal.dM a)) ((Cal.dD a)))), .int .i64 ((Cal.dayE ((Cal.dY a)) ((Cal.dM a)) ((Cal.dD a))))] }, { val := fun _ => .int .i64 ((Cal.dayN ((Cal.dY a)) ((Cal.dM a)) ((Cal.dD a)))) }, { val := fun _ => .int .i64 ((Cal.dayE ((Cal.dY a)) ((Cal.dM a)) ((Cal.dD a)))) }, { val := fun _ => .int .i64 ((Cal.dayN ((Cal.dY a)) ((Cal.dM a)) ((Cal.dD a)))) }, { val := fun _ => .int .i64 ((Cal.dayE ((Cal.dY a)) ((Cal.dM a)) ((Cal.dD a)))) }] }
noncomputable def r4_4 (a b year month dom : Int) (p1 p2 p3 p4 p5 p6 p7 p8 p9 p10 p11 : Bool) : RC := { ops := opsAt Try.f4 4, B := [0, 1, 3, 7, 15, 31, 63, 63, 255, 511, 1023, 2047, 4095, 8191, 4095, 20479, 53247, 118783, 249855, 511999, 1048575, 2097151], sl := [(0, .int .i64 a), (1, .int .i64 b), (2, .int .i64 year), (3, .int .i64 month), (4, .int .i64 dom), (10, .bool false), (11, .bool true), (12, .int .i64 ((Cal.dY a))), (13, .int .i64 ((Cal.dM a))), (14, .int .i64 ((Cal.dD a))), (15, .int .i64 ((Cal.dE a))), (16, .int .i64 ((Cal.dayN ((Cal.dY a)) ((Cal.dM a)) ((Cal.dD a))))), (17, .int .i64 ((Cal.dayE ((Cal.dY a)) ((Cal.dM a)) ((Cal.dD a)))))], A := [], L := [], cs := [{ val := fun _ => .int .i64 ((Cal.dE a)) }, { val := fun _ => .bool p1 }, { val := fun _ => .bool p1 }, { val := fun _ => .int .i64 ((Cal.dayE ((Cal.dY a)) ((Cal.dM a)) ((Cal.dD a)))) }, { val := fun _ => .bool p2 }, { val := fun _ => .bool p2 }, { val := fun _ => .int .i64 ((Cal.dayN ((Cal.dY a)) ((Cal.dM a)) ((Cal.dD a)))) }, { val := fun _ => .int .i64 a }, { val := fun _ => .bool p3 }, { val := fun _ => .bool p4 }, { val := fun _ => .bool p5 }, { val := fun _ => .bool p5 }, { val := fun _ => .int .i64 ((Cal.dE a)) }, { val := fun _ => .bool p6 }, { val := fun _ => .int .i64 a }, { val := fun _ => .bool p7 }, { val := fun _ => .bool p7 }, { val := fun _ => .int .i64 a }, { val := fun _ => .bool p8 }, { val := fun _ => .bool p9 }, { val := fun _ => .bool p10 }, { val := fun _ => .bool p11 }] }
noncomputable def r4_5 (a b year month dom : Int) (p11 : Bool) : RC := { ops := opsAt Try.f4 5, B := [0], sl := [(0, .int .i64 a), (1, .int .i64 b), (2, .int .i64 year), (3, .int .i64 month), (4, .int .i64 dom), (10, .bool false), (11, .bool true), (12, .int .i64 ((Cal.dY a))), (13, .int .i64 ((Cal.dM a))), (14, .int .i64 ((Cal.dD a))), (15, .int .i64 ((Cal.dE a))), (60, .bool p11)], A := [], L := [], cs := [{ val := fun _ => .bool false }] }
noncomputable def r4_6 (a b year month dom : Int) (p11 : Bool) : RC := { ops := opsAt Try.f4 6, B := [0, 0, 0, 7, 15, 31, 31, 63, 255], sl := [(0, .int .i64 a), (1, .int .i64 b), (2, .int .i64 year), (3, .int .i64 month), (4, .int .i64 dom), (10, .bool false), (11, .bool true), (12, .int .i64 ((Cal.dY a))), (13, .int .i64 ((Cal.dM a))), (14, .int .i64 ((Cal.dD a))), (15, .int .i64 ((Cal.dE a))), (60, .bool p11)], A := [], L := [], cs := [{ val := fun _ => .int .i64 year }, { val := fun _ => .int .i64 month }, { val := fun _ => .int .i64 dom }, { val := fun _ => .tuple #[.int .i64 ((Cal.dayN year month dom)), .int .i64 ((Cal.dayE year month dom))] }, { val := fun _ => .tuple #[.int .i64 ((Cal.dayN year month dom)), .int .i64 ((Cal.dayE year month dom))] }, { val := fun _ => .int .i64 ((Cal.dayN year month dom)) }, { val := fun _ => .int .i64 ((Cal.dayE year month dom)) }, { val := fun _ => .int .i64 ((Cal.dayN year month dom)) }, { val := fun _ => .int .i64 ((Cal.dayE year month dom)) }] }
noncomputable def r4_7 (a b year month dom : Int) : RC := { ops := opsAt Try.f4 7, B := [0, 1, 3, 7, 7, 7, 7, 15, 159, 447, 1023], sl := [(0, .int .i64 a), (1, .int .i64 b), (2, .int .i64 year), (3, .int .i64 month), (4, .int .i64 dom), (10, .bool false), (11, .bool true), (12, .int .i64 ((Cal.dY a))), (13, .int .i64 ((Cal.dM a))), (14, .int .i64 ((Cal.dD a))), (15, .int .i64 ((Cal.dE a))), (18, .int .i64 ((Cal.dayN year month dom))), (19, .int .i64 ((Cal.dayE year month dom)))], A := [], L := [], cs := [{ val := fun _ => .int .i64 ((Cal.dayN year month dom)) }, { val := fun _ => .tuple #[.int .i64 ((Cal.dY ((Cal.dayN year month dom)))), .int .i64 ((Cal.dM ((Cal.dayN year month dom)))), .int .i64 ((Cal.dD ((Cal.dayN year month dom)))), .int .i64 ((Cal.dE ((Cal.dayN year month dom))))] }, { val := fun _ => .tuple #[.int .i64 ((Cal.dY ((Cal.dayN year month dom)))), .int .i64 ((Cal.dM ((Cal.dayN year month dom)))), .int .i64 ((Cal.dD ((Cal.dayN year month dom)))), .int .i64 ((Cal.dE ((Cal.dayN year month dom))))] }, { val := fun _ => .int .i64 ((Cal.dY ((Cal.dayN year month dom)))) }, { val := fun _ => .int .i64 ((Cal.dM ((Cal.dayN year month dom)))) }, { val := fun _ => .int .i64 ((Cal.dD ((Cal.dayN year month dom)))) }, { val := fun _ => .int .i64 ((Cal.dE ((Cal.dayN year month dom)))) }, { val := fun _ => .int .i64 ((Cal.dY ((Cal.dayN year month dom)))) }, { val := fun _ => .int .i64 ((Cal.dM ((Cal.dayN year month dom)))) }, { val := fun _ => .int .i64 ((Cal.dD ((Cal.dayN year month dom)))) }, { val := fun _ => .int .i64 ((Cal.dE ((Cal.dayN year month dom)))) }] }
noncomputable def r4_8 (a b year month dom : Int) (p12 p13 p14 p15 p16 p17 p18 p19 p20 : Bool) : RC := { ops := opsAt Try.f4 8, B := [0, 1, 3, 7, 15, 31, 63, 63, 255, 511, 1023, 2047, 2047, 8191, 16383, 32767, 65535, 65535, 262143, 524287, 1048575], sl := [(0, .int .i64 a), (1, .int .i64 b), (2, .int .i64 year), (3, .int .i64 month), (4, .int .i64 dom), (10, .bool false), (11, .bool true), (12, .int .i64 ((Cal.dY a))), (13, .int .i64 ((Cal.dM a))), (14, .int .i64 ((Cal.dD a))), (15, .int .i64 ((Cal.dE a))), (19, .int .i64 ((Cal.dayE year month dom))), (20, .int .i64 ((Cal.dY ((Cal.dayN year month dom))))), (21, .int .i64 ((Cal.dM ((Cal.dayN year month dom))))), (22, .int .i64 ((Cal.dD ((Cal.dayN year month dom))))), (23, .int .i64 ((Cal.dE ((Cal.dayN year month dom)))))], A := [], L := [], cs := [{ val := fun _ => .int .i64 ((Cal.dayE year month dom)) }, { val := fun _ => .bool p12 }, { val := fun _ => .bool p12 }, { val := fun _ => .int .i64 ((Cal.dE ((Cal.dayN year month dom)))) }, { val := fun _ => .bool p13 }, { val := fun _ => .bool p13 }, { val := fun _ => .int .i64 ((Cal.dY ((Cal.dayN year month dom)))) }, { val := fun _ => .int .i64 year }, { val := fun _ => .bool p14 }, { val := fun _ => .bool p15 }, { val := fun _ => .bool p15 }, { val := fun _ => .int .i64 ((Cal.dM ((Cal.dayN year month dom)))) }, { val := fun _ => .int .i64 month }, { val := fun _ => .bool p16 }, { val := fun _ => .bool p17 }, { val := fun _ => .bool p17 }, { val := fun _ => .int .i64 ((Cal.dD ((Cal.dayN year month dom)))) }, { val := fun _ => .int .i64 dom }, { val := fun _ => .bool p18 }, { val := fun _ => .bool p19 }, { val := fun _ => .bool p20 }] }
noncomputable def r4_9 (a b year month dom : Int) (p20 : Bool) : RC := { ops := opsAt Try.f4 9, B := [0], sl := [(0, .int .i64 a), (1, .int .i64 b), (10, .bool false), (11, .bool true), (12, .int .i64 ((Cal.dY a))), (13, .int .i64 ((Cal.dM a))), (14, .int .i64 ((Cal.dD a))), (15, .int .i64 ((Cal.dE a))), (20, .int .i64 ((Cal.dY ((Cal.dayN year month dom))))), (21, .int .i64 ((Cal.dM ((Cal.dayN year month dom))))), (22, .int .i64 ((Cal.dD ((Cal.dayN year month dom))))), (23, .int .i64 ((Cal.dE ((Cal.dayN year month dom))))), (95, .bool p20)], A := [], L := [], cs := [{ val := fun _ => .bool false }] }
noncomputable def r4_10 (a b year month dom : Int) (p20 : Bool) : RC := { ops := opsAt Try.f4 10, B := [0, 1, 3, 7, 7, 7, 7, 15, 159, 447, 1023], sl := [(0, .int .i64 a), (1, .int .i64 b), (10, .bool false), (11, .bool true), (12, .int .i64 ((Cal.dY a))), (13, .int .i64 ((Cal.dM a))), (14, .int .i64 ((Cal.dD a))), (15, .int .i64 ((Cal.dE a))), (20, .int .i64 ((Cal.dY ((Cal.dayN year month dom))))), (21, .int .i64 ((Cal.dM ((Cal.dayN year month dom))))), (22, .int .i64 ((Cal.dD ((Cal.dayN year month dom))))), (23, .int .i64 ((Cal.dE ((Cal.dayN year month dom))))), (95, .bool p20)], A := [], L := [], cs := [{ val := fun _ => .int .i64 b }, { val := fun _ => .tuple #[.int .i64 ((Cal.dY b)), .int .i64 ((Cal.dM b)), .int .i64 ((Cal.dD b)), .int .i64 ((Cal.dE b))] }, { val := fun _ => .tuple #[.int .i64 ((Cal.dY b)), .int .i64 ((Cal.dM b)), .int .i64 ((Cal.dD b)), .int .i64 ((Cal.dE b))] }, { val := fun _ => .int .i64 ((Cal.dY b)) }, { val := fun _ => .int .i64 ((Cal.dM b)) }, { val := fun _ => .int .i64 ((Cal.dD b)) }, { val := fun _ => .int .i64 ((Cal.dE b)) }, { val := fun _ => .int .i64 ((Cal.dY b)) }, { val := fun _ => .int .i64 ((Cal.dM b)) }, { val := fun _ => .int .i64 ((Cal.dD b)) }, { val := fun _ => .int .i64 ((Cal.dE b)) }] }
noncomputable def r4_11 (a b : Int) (p21 p22 p23 p24 p25 : Bool) : RC := { ops := opsAt Try.f4 11, B := [0, 1, 3, 7, 15, 31, 63, 127, 127, 511, 1023], sl := [(0, .int .i64 a), (1, .int .i64 b), (10, .bool false), (11, .bool true), (12, .int .i64 ((Cal.dY a))), (13, .int .i64 ((Cal.dM a))), (14, .int .i64 ((Cal.dD a))), (15, .int .i64 ((Cal.dE a))), (20, .int .i64 ((Cal.dY b))), (21, .int .i64 ((Cal.dM b))), (22, .int .i64 ((Cal.dD b))), (23, .int .i64 ((Cal.dE b)))], A := [], L := [], cs := [{ val := fun _ => .int .i64 ((Cal.dE a)) }, { val := fun _ => .bool p21 }, { val := fun _ => .bool p21 }, { val := fun _ => .int .i64 ((Cal.dE b)) }, { val := fun _ => .bool p22 }, { val := fun _ => .bool p23 }, { val := fun _ => .bool p23 }, { val := fun _ => .int .i64 a }, { val := fun _ => .int .i64 b }, { val := fun _ => .bool p24 }, { val := fun _ => .bool p25 }] }
noncomputable def r4_12 (a b : Int) (p25 : Bool) : RC := { ops := opsAt Try.f4 12, B := [0, 1], sl := [(10, .bool false), (11, .bool true), (12, .int .i64 ((Cal.dY a))), (13, .int .i64 ((Cal.dM a))), (14, .int .i64 ((Cal.dD a))), (20, .int .i64 ((Cal.dY b))), (21, .int .i64 ((Cal.dM b))), (22, .int .i64 ((Cal.dD b))), (113, .bool p25)], A := [], L := [], cs := [{ val := fun _ => .bool true }, { val := fun _ => .bool true }] }
noncomputable def r4_13 (a b : Int) (p25 p26 p27 p28 p29 p30 p31 p32 p33 p34 : Bool) : RC := { ops := opsAt Try.f4 13, B := [0, 1, 3, 3, 15, 31, 63, 63, 255, 511, 1023, 1023, 4095, 8191, 16383, 16383, 65535, 131071, 262143, 262143, 1048575, 2097151, 4194303, 8388607, 16777215, 33554431, 67108863], sl := [(10, .bool false), (11, .bool true), (12, .int .i64 ((Cal.dY a))), (13, .int .i64 ((Cal.dM a))), (14, .int .i64 ((Cal.dD a))), (20, .int .i64 ((Cal.dY b))), (21, .int .i64 ((Cal.dM b))), (22, .int .i64 ((Cal.dD b))), (113, .bool p25)], A := [], L := [], cs := [{ val := fun _ => .bool true }, { val := fun _ => .bool true }, { val := fun _ => .int .i64 ((Cal.dY a)) }, { val := fun _ => .int .i64 ((Cal.dY b)) }, { val := fun _ => .bool p26 }, { val := fun _ => .bool p26 }, { val := fun _ => .int .i64 ((Cal.dY a)) }, { val := fun _ => .int .i64 ((Cal.dY b)) }, { val := fun _ => .bool p27 }, { val := fun _ => .bool p27 }, { val := fun _ => .int .i64 ((Cal.dM a)) }, { val := fun _ => .int .i64 ((Cal.dM b)) }, { val := fun _ => .bool p28 }, { val := fun _ => .bool p28 }, { val := fun _ => .int .i64 ((Cal.dM a)) }, { val := fun _ => .int .i64 ((Cal.dM b)) }, { val := fun _ => .bool p29 }, { val := fun _ => .bool p29 }, { val := fun _ => .int .i64 ((Cal.dD a)) }, { val := fun _ => .int .i64 ((Cal.dD b)) }, { val := fun _ => .bool p30 }, { val := fun _ => .bool p31 }, { val := fun _ => .bool p32 }, { val := fun _ => .bool p33 }, { val := fun _ => .bool p34 }, { val := fun _ => .bool p34 }, { val := fun _ => .bool p34 }] }
theorem back_ct (a b year month dom : Int) (hl_a : -9223372036854775808 ≤ a) (hh_a : a ≤ 9223372036854775807) (hl_b : -9223372036854775808 ≤ b) (hh_b : b ≤ 9223372036854775807) (hl_year : -9223372036854775808 ≤ year) (hh_year : year ≤ 9223372036854775807) (hl_month : -9223372036854775808 ≤ month) (hh_month : month ≤ 9223372036854775807) (hl_dom : -9223372036854775808 ≤ dom) (hh_dom : dom ≤ 9223372036854775807) (w : World) :
    Calls Try.prog 4 #[.int .i64 a, .int .i64 b, .int .i64 year, .int .i64 month, .int .i64 dom] w (fun e w' => e = .returned (.bool true) ∧ Base [] w w') := by
  refine calls_of_W (sl := [(0, .int .i64 a), (1, .int .i64 b), (2, .int .i64 year), (3, .int .i64 month), (4, .int .i64 dom)]) (A := []) (L := []) Try.func4 (by kernel_rfl) 141 (by kernel_rfl) (by kernel_rfl) (fun _ h => by cases h) (by simp) ?_
  refine W.seq (by kernel_rfl) ?_
  refine W.reg (r4_0 a b year month dom) [0] [] (by kernel_rfl) mo (by kernel_rfl) (fun _ _ => by kernel_rfl) trivial (by kernel_rfl) ?_
  intro G1 xa xw hDn
  refine hDn.to [0, 1, 2, 3, 4, 10] [] (by kernel_rfl) ?_
  refine At.then ?_
  refine W.seq (by kernel_rfl) ?_
  refine W.reg (r4_1 a b year month dom) [1] [0] (by kernel_rfl) mo (by kernel_rfl) (fun _ _ => by kernel_rfl) ⟨?_, trivial⟩ (by kernel_rfl) ?_
  · exact One.call (fun _ _ _ => sane_ct  _) (fun _ _ => by kernel_rfl)
  intro G2 xa xw hDn
  refine hDn.to [0, 1, 2, 3, 4, 10, 11] [] (by kernel_rfl) ?_
  refine At.then ?_
  refine W.seq (by kernel_rfl) ?_
  refine W.reg (r4_2 a b year month dom) [0, 2, 3, 4, 5, 6, 7, 8, 9, 10] [1] (by kernel_rfl) mo (by kernel_rfl) (fun _ _ => by kernel_rfl) ⟨?_, trivial⟩ (by kernel_rfl) ?_
  · exact One.call (fun _ _ _ => date_ct a _) (fun _ _ => by kernel_rfl)
  intro G3 xa xw hDn
  refine hDn.to [0, 1, 2, 3, 4, 10, 11, 12, 13, 14, 15] [] (by kernel_rfl) ?_
  refine At.then ?_
  refine W.seq (by kernel_rfl) ?_
  refine W.reg (r4_3 a b year month dom) [0, 1, 2, 4, 5, 6, 7, 8] [3] (by kernel_rfl) mo (by kernel_rfl) (fun _ _ => by kernel_rfl) ⟨?_, trivial⟩ (by kernel_rfl) ?_
  · exact One.call (fun _ _ _ => day_ct ((Cal.dY a)) ((Cal.dM a)) ((Cal.dD a)) _) (fun _ _ => by kernel_rfl)
  intro G4 xa xw hDn
  refine hDn.to [0, 1, 2, 3, 4, 10, 11, 12, 13, 14, 15, 16, 17] [] (by kernel_rfl) ?_
  refine At.then ?_
  refine W.seq (by kernel_rfl) ?_
  refine W.seq (by kernel_rfl) ?_
  obtain ⟨p1, hp1⟩ : ∃ x : Bool, x = decide ((Cal.dE a) = 0) := ⟨_, rfl⟩
  obtain ⟨p2, hp2⟩ : ∃ x : Bool, x = !(decide ((Cal.dayE ((Cal.dY a)) ((Cal.dM a)) ((Cal.dD a))) = 0)) := ⟨_, rfl⟩
  obtain ⟨p3, hp3⟩ : ∃ x : Bool, x = !(decide ((Cal.dayN ((Cal.dY a)) ((Cal.dM a)) ((Cal.dD a))) = a)) := ⟨_, rfl⟩
  obtain ⟨p4, hp4⟩ : ∃ x : Bool, x = (p2 || p3) := ⟨_, rfl⟩
  obtain ⟨p5, hp5⟩ : ∃ x : Bool, x = (p1 && p4) := ⟨_, rfl⟩
  obtain ⟨p6, hp6⟩ : ∃ x : Bool, x = decide ((Cal.dE a) = 0) := ⟨_, rfl⟩
  obtain ⟨p7, hp7⟩ : ∃ x : Bool, x = decide (0 ≤ a) := ⟨_, rfl⟩
  obtain ⟨p8, hp8⟩ : ∃ x : Bool, x = decide (a ≤ 100000) := ⟨_, rfl⟩
  obtain ⟨p9, hp9⟩ : ∃ x : Bool, x = (p7 && p8) := ⟨_, rfl⟩
  obtain ⟨p10, hp10⟩ : ∃ x : Bool, x = !(decide (p6 = true ↔ p9 = true)) := ⟨_, rfl⟩
  obtain ⟨p11, hp11⟩ : ∃ x : Bool, x = (p5 || p10) := ⟨_, rfl⟩
  refine W.reg (r4_4 a b year month dom p1 p2 p3 p4 p5 p6 p7 p8 p9 p10 p11) [0, 2, 3, 5, 6, 7, 11, 12, 14, 16, 17] [1, 4, 8, 9, 10, 13, 15, 18, 19, 20, 21] (by kernel_rfl) mo (by kernel_rfl) (fun _ _ => by kernel_rfl) ⟨?_, ?_, ?_, ?_, ?_, ?_, ?_, ?_, ?_, ?_, ?_, trivial⟩ (by kernel_rfl) ?_
  · exact One.bo hp1 (fun _ _ => by kernel_rfl)
  · exact One.bo hp2 (fun _ _ => by kernel_rfl)
  · exact One.bo hp3 (fun _ _ => by kernel_rfl)
  · subst hp4
    refine One.under fun G w hs => ?_
    revert hs
    cases p2
    · cases p1
      · intro hs; exact absurd hs.gd (by rw [show RC.gd _ _ 9 = false from by kernel_rfl]; decide)
      · intro _; kernel_rfl
    · cases p1
      · intro hs; exact absurd hs.gd (by rw [show RC.gd _ _ 9 = false from by kernel_rfl]; decide)
      · intro _; kernel_rfl
  · subst hp5
    cases p1 <;> exact One.under fun _ _ _ => by kernel_rfl
  · exact One.bo hp6 (fun _ _ => by kernel_rfl)
  · exact One.bo hp7 (fun _ _ => by kernel_rfl)
  · exact One.bo hp8 (fun _ _ => by kernel_rfl)
  · subst hp9
    refine One.under fun G w hs => ?_
    revert hs
    cases p7
    · cases p5
      · intro _; kernel_rfl
      · intro hs; exact absurd hs.gd (by rw [show RC.gd _ _ 19 = false from by kernel_rfl]; decide)
    · cases p5
      · intro _; kernel_rfl
      · intro hs; exact absurd hs.gd (by rw [show RC.gd _ _ 19 = false from by kernel_rfl]; decide)
  · exact One.eq (congrArg Value.bool ((bneB p6 p9).trans hp10.symm)) (fun _ _ => by kernel_rfl)
  · subst hp11
    cases p5 <;> exact One.under fun _ _ _ => by kernel_rfl
  intro G5 xa xw hDn
  refine hDn.to [0, 1, 2, 3, 4, 10, 11, 12, 13, 14, 15, 60] [] (by kernel_rfl) ?_
  refine At.then ?_
  refine W.cond p11 (by kernel_rfl) (fun xa hs => cnd_of (t := 60) (by kernel_rfl) (by kernel_rfl) hs) (fun hq => ?_) (fun hq => ?_)
  · skip
    have hq1 := hq
    replace hq1 := (iN hp11 (iOT (iN hp5 (iAT (iN hp1 iDT) (iN hp4 (iOT (iN hp2 (iNT iDF)) (iN hp3 (iNT iDF)))))) (iN hp10 (iNT (iEF (iN hp6 iDT) (iN hp9 (iAT (iN hp7 iDT) (iN hp8 iDT)))))))).1 hq1
    refine W.seq (by kernel_rfl) ?_
    refine W.reg (r4_5 a b year month dom p11) [0] [] (by kernel_rfl) mo (by kernel_rfl) (fun _ _ => by kernel_rfl) trivial (by kernel_rfl) ?_
    intro G6 xa xw hDn
    refine hDn.to [0, 1, 2, 3, 4, 10, 11, 12, 13, 14, 15] [] (by kernel_rfl) ?_
    refine At.then ?_
    refine W.ret (by kernel_rfl) ?_
    refine At.thenRet ?_
    refine At.results (Or.inl rfl) (.bool false) (fun xa xw hs hw => results_one (r := .tmp 10) (by kernel_rfl) (res_tmp (t := 10) (by kernel_rfl) hs)) (fun w' hw => ?_)
    exfalso
    have h1 := Cal.back1 a
    have h2 := Cal.back2 year month dom
    have h3 := Cal.back3 a b
    have h4 := Cal.dE_cases a
    have h5 := Cal.dE_cases b
    have h6 := Cal.dE_cases (Cal.dayN year month dom)
    omega
  · skip
    have hq2 := hq
    replace hq2 := (iN hp11 (iOF (iN hp5 (iAF (iN hp1 iDF) (iN hp4 (iOF (iN hp2 (iNF iDT)) (iN hp3 (iNF iDT)))))) (iN hp10 (iNF (iET (iN hp6 iDT) (iN hp9 (iAT (iN hp7 iDT) (iN hp8 iDT)))))))).1 hq2
    refine W.skip (by kernel_rfl) ?_
    refine At.then ?_
    refine W.seq (by kernel_rfl) ?_
    refine W.reg (r4_6 a b year month dom p11) [0, 1, 2, 4, 5, 6, 7, 8] [3] (by kernel_rfl) mo (by kernel_rfl) (fun _ _ => by kernel_rfl) ⟨?_, trivial⟩ (by kernel_rfl) ?_
    · exact One.call (fun _ _ _ => day_ct year month dom _) (fun _ _ => by kernel_rfl)
    intro G7 xa xw hDn
    refine hDn.to [0, 1, 2, 3, 4, 10, 11, 12, 13, 14, 15, 18, 19] [] (by kernel_rfl) ?_
    refine At.then ?_
    refine W.seq (by kernel_rfl) ?_
    refine W.reg (r4_7 a b year month dom) [0, 2, 3, 4, 5, 6, 7, 8, 9, 10] [1] (by kernel_rfl) mo (by kernel_rfl) (fun _ _ => by kernel_rfl) ⟨?_, trivial⟩ (by kernel_rfl) ?_
    · exact One.call (fun _ _ _ => date_ct ((Cal.dayN year month dom)) _) (fun _ _ => by kernel_rfl)
    intro G8 xa xw hDn
    refine hDn.to [0, 1, 2, 3, 4, 10, 11, 12, 13, 14, 15, 19, 20, 21, 22, 23] [] (by kernel_rfl) ?_
    refine At.then ?_
    refine W.seq (by kernel_rfl) ?_
    refine W.seq (by kernel_rfl) ?_
    obtain ⟨p12, hp12⟩ : ∃ x : Bool, x = decide ((Cal.dayE year month dom) = 0) := ⟨_, rfl⟩
    obtain ⟨p13, hp13⟩ : ∃ x : Bool, x = !(decide ((Cal.dE ((Cal.dayN year month dom))) = 0)) := ⟨_, rfl⟩
    obtain ⟨p14, hp14⟩ : ∃ x : Bool, x = !(decide ((Cal.dY ((Cal.dayN year month dom))) = year)) := ⟨_, rfl⟩
    obtain ⟨p15, hp15⟩ : ∃ x : Bool, x = (p13 || p14) := ⟨_, rfl⟩
    obtain ⟨p16, hp16⟩ : ∃ x : Bool, x = !(decide ((Cal.dM ((Cal.dayN year month dom))) = month)) := ⟨_, rfl⟩
    obtain ⟨p17, hp17⟩ : ∃ x : Bool, x = (p15 || p16) := ⟨_, rfl⟩
    obtain ⟨p18, hp18⟩ : ∃ x : Bool, x = !(decide ((Cal.dD ((Cal.dayN year month dom))) = dom)) := ⟨_, rfl⟩
    obtain ⟨p19, hp19⟩ : ∃ x : Bool, x = (p17 || p18) := ⟨_, rfl⟩
    obtain ⟨p20, hp20⟩ : ∃ x : Bool, x = (p12 && p19) := ⟨_, rfl⟩
    refine W.reg (r4_8 a b year month dom p12 p13 p14 p15 p16 p17 p18 p19 p20) [0, 2, 3, 5, 6, 7, 10, 11, 12, 15, 16, 17] [1, 4, 8, 9, 13, 14, 18, 19, 20] (by kernel_rfl) mo (by kernel_rfl) (fun _ _ => by kernel_rfl) ⟨?_, ?_, ?_, ?_, ?_, ?_, ?_, ?_, ?_, trivial⟩ (by kernel_rfl) ?_
    · exact One.bo hp12 (fun _ _ => by kernel_rfl)
    · exact One.bo hp13 (fun _ _ => by kernel_rfl)
    · exact One.bo hp14 (fun _ _ => by kernel_rfl)
    · subst hp15
      refine One.under fun G w hs => ?_
      revert hs
      cases p13
      · cases p12
        · intro hs; exact absurd hs.gd (by rw [show RC.gd _ _ 9 = false from by kernel_rfl]; decide)
        · intro _; kernel_rfl
      · cases p12
        · intro hs; exact absurd hs.gd (by rw [show RC.gd _ _ 9 = false from by kernel_rfl]; decide)
        · intro _; kernel_rfl
    · exact One.bo hp16 (fun _ _ => by kernel_rfl)
    · subst hp17
      refine One.under fun G w hs => ?_
      revert hs
      cases p15
      · cases p12
        · intro hs; exact absurd hs.gd (by rw [show RC.gd _ _ 14 = false from by kernel_rfl]; decide)
        · intro _; kernel_rfl
      · cases p12
        · intro hs; exact absurd hs.gd (by rw [show RC.gd _ _ 14 = false from by kernel_rfl]; decide)
        · intro _; kernel_rfl
    · exact One.bo hp18 (fun _ _ => by kernel_rfl)
    · subst hp19
      refine One.under fun G w hs => ?_
      revert hs
      cases p17
      · cases p12
        · intro hs; exact absurd hs.gd (by rw [show RC.gd _ _ 19 = false from by kernel_rfl]; decide)
        · intro _; kernel_rfl
      · cases p12
        · intro hs; exact absurd hs.gd (by rw [show RC.gd _ _ 19 = false from by kernel_rfl]; decide)
        · intro _; kernel_rfl
    · subst hp20
      cases p12 <;> exact One.under fun _ _ _ => by kernel_rfl
    intro G9 xa xw hDn
    refine hDn.to [0, 1, 10, 11, 12, 13, 14, 15, 20, 21, 22, 23, 95] [] (by kernel_rfl) ?_
    refine At.then ?_
    refine W.cond p20 (by kernel_rfl) (fun xa hs => cnd_of (t := 95) (by kernel_rfl) (by kernel_rfl) hs) (fun hq => ?_) (fun hq => ?_)
    · skip
      have hq3 := hq
      replace hq3 := (iN hp20 (iAT (iN hp12 iDT) (iN hp19 (iOT (iN hp17 (iOT (iN hp15 (iOT (iN hp13 (iNT iDF)) (iN hp14 (iNT iDF)))) (iN hp16 (iNT iDF)))) (iN hp18 (iNT iDF)))))).1 hq3
      refine W.seq (by kernel_rfl) ?_
      refine W.reg (r4_9 a b year month dom p20) [0] [] (by kernel_rfl) mo (by kernel_rfl) (fun _ _ => by kernel_rfl) trivial (by kernel_rfl) ?_
      intro G10 xa xw hDn
      refine hDn.to [0, 1, 10, 11, 12, 13, 14, 15, 20, 21, 22, 23] [] (by kernel_rfl) ?_
      refine At.then ?_
      refine W.ret (by kernel_rfl) ?_
      refine At.thenRet ?_
      refine At.results (Or.inl rfl) (.bool false) (fun xa xw hs hw => results_one (r := .tmp 10) (by kernel_rfl) (res_tmp (t := 10) (by kernel_rfl) hs)) (fun w' hw => ?_)
      exfalso
      have h1 := Cal.back1 a
      have h2 := Cal.back2 year month dom
      have h3 := Cal.back3 a b
      have h4 := Cal.dE_cases a
      have h5 := Cal.dE_cases b
      have h6 := Cal.dE_cases (Cal.dayN year month dom)
      omega
    · skip
      have hq4 := hq
      replace hq4 := (iN hp20 (iAF (iN hp12 iDF) (iN hp19 (iOF (iN hp17 (iOF (iN hp15 (iOF (iN hp13 (iNF iDT)) (iN hp14 (iNF iDT)))) (iN hp16 (iNF iDT)))) (iN hp18 (iNF iDT)))))).1 hq4
      refine W.skip (by kernel_rfl) ?_
      refine At.then ?_
      refine W.seq (by kernel_rfl) ?_
      refine W.reg (r4_10 a b year month dom p20) [0, 2, 3, 4, 5, 6, 7, 8, 9, 10] [1] (by kernel_rfl) mo (by kernel_rfl) (fun _ _ => by kernel_rfl) ⟨?_, trivial⟩ (by kernel_rfl) ?_
      · exact One.call (fun _ _ _ => date_ct b _) (fun _ _ => by kernel_rfl)
      intro G11 xa xw hDn
      refine hDn.to [0, 1, 10, 11, 12, 13, 14, 15, 20, 21, 22, 23] [] (by kernel_rfl) ?_
      refine At.then ?_
      refine W.seq (by kernel_rfl) ?_
      refine W.seq (by kernel_rfl) ?_
      obtain ⟨p21, hp21⟩ : ∃ x : Bool, x = !(decide ((Cal.dE a) = 0)) := ⟨_, rfl⟩
      obtain ⟨p22, hp22⟩ : ∃ x : Bool, x = !(decide ((Cal.dE b) = 0)) := ⟨_, rfl⟩
      obtain ⟨p23, hp23⟩ : ∃ x : Bool, x = (p21 || p22) := ⟨_, rfl⟩
      obtain ⟨p24, hp24⟩ : ∃ x : Bool, x = decide (b ≤ a) := ⟨_, rfl⟩
      obtain ⟨p25, hp25⟩ : ∃ x : Bool, x = (p23 || p24) := ⟨_, rfl⟩
      refine W.reg (r4_11 a b p21 p22 p23 p24 p25) [0, 2, 3, 6, 7, 8] [1, 4, 5, 9, 10] (by kernel_rfl) mo (by kernel_rfl) (fun _ _ => by kernel_rfl) ⟨?_, ?_, ?_, ?_, ?_, trivial⟩ (by kernel_rfl) ?_
      · exact One.bo hp21 (fun _ _ => by kernel_rfl)
      · exact One.bo hp22 (fun _ _ => by kernel_rfl)
      · subst hp23
        cases p21 <;> exact One.under fun _ _ _ => by kernel_rfl
      · exact One.bo hp24 (fun _ _ => by kernel_rfl)
      · subst hp25
        cases p23 <;> exact One.under fun _ _ _ => by kernel_rfl
      intro G12 xa xw hDn
      refine hDn.to [10, 11, 12, 13, 14, 20, 21, 22, 113] [] (by kernel_rfl) ?_
      refine At.then ?_
      refine W.cond p25 (by kernel_rfl) (fun xa hs => cnd_of (t := 113) (by kernel_rfl) (by kernel_rfl) hs) (fun hq => ?_) (fun hq => ?_)
      · skip
        have hq5 := hq
        replace hq5 := (iN hp25 (iOT (iN hp23 (iOT (iN hp21 (iNT iDF)) (iN hp22 (iNT iDF)))) (iN hp24 iDT))).1 hq5
        refine W.seq (by kernel_rfl) ?_
        refine W.reg (r4_12 a b p25) [0, 1] [] (by kernel_rfl) mo (by kernel_rfl) (fun _ _ => by kernel_rfl) trivial (by kernel_rfl) ?_
        intro G13 xa xw hDn
        refine hDn.to [10, 11, 12, 13, 14, 20, 21, 22] [] (by kernel_rfl) ?_
        refine At.then ?_
        refine W.ret (by kernel_rfl) ?_
        refine At.thenRet ?_
        refine At.results (Or.inl rfl) (.bool true) (fun xa xw hs hw => results_one (r := .tmp 10) (by kernel_rfl) (res_tmp (t := 10) (by kernel_rfl) hs)) (fun w' hw => ?_)
        exact ⟨rfl, hw.base⟩
      · skip
        have hq6 := hq
        replace hq6 := (iN hp25 (iOF (iN hp23 (iOF (iN hp21 (iNF iDT)) (iN hp22 (iNF iDT)))) (iN hp24 iDF))).1 hq6
        refine W.skip (by kernel_rfl) ?_
        refine At.then ?_
        refine W.seq (by kernel_rfl) ?_
        obtain ⟨p26, hp26⟩ : ∃ x : Bool, x = decide ((Cal.dY a) < (Cal.dY b)) := ⟨_, rfl⟩
        obtain ⟨p27, hp27⟩ : ∃ x : Bool, x = decide ((Cal.dY a) = (Cal.dY b)) := ⟨_, rfl⟩
        obtain ⟨p28, hp28⟩ : ∃ x : Bool, x = decide ((Cal.dM a) < (Cal.dM b)) := ⟨_, rfl⟩
        obtain ⟨p29, hp29⟩ : ∃ x : Bool, x = decide ((Cal.dM a) = (Cal.dM b)) := ⟨_, rfl⟩
        obtain ⟨p30, hp30⟩ : ∃ x : Bool, x = decide ((Cal.dD a) < (Cal.dD b)) := ⟨_, rfl⟩
        obtain ⟨p31, hp31⟩ : ∃ x : Bool, x = (p29 && p30) := ⟨_, rfl⟩
        obtain ⟨p32, hp32⟩ : ∃ x : Bool, x = (p28 || p31) := ⟨_, rfl⟩
        obtain ⟨p33, hp33⟩ : ∃ x : Bool, x = (p27 && p32) := ⟨_, rfl⟩
        obtain ⟨p34, hp34⟩ : ∃ x : Bool, x = (p26 || p33) := ⟨_, rfl⟩
        refine W.reg (r4_13 a b p25 p26 p27 p28 p29 p30 p31 p32 p33 p34) [0, 1, 2, 3, 5, 6, 7, 9, 10, 11, 13, 14, 15, 17, 18, 19, 25, 26] [4, 8, 12, 16, 20, 21, 22, 23, 24] (by kernel_rfl) mo (by kernel_rfl) (fun _ _ => by kernel_rfl) ⟨?_, ?_, ?_, ?_, ?_, ?_, ?_, ?_, ?_, trivial⟩ (by kernel_rfl) ?_
        · exact One.bo hp26 (fun _ _ => by kernel_rfl)
        · exact One.bo hp27 (fun _ _ => by kernel_rfl)
        · exact One.bo hp28 (fun _ _ => by kernel_rfl)
        · exact One.bo hp29 (fun _ _ => by kernel_rfl)
        · exact One.bo hp30 (fun _ _ => by kernel_rfl)
        · subst hp31
          refine One.under fun G w hs => ?_
          revert hs
          cases p29
          · cases p28
            · cases p27
              · cases p26
                · intro hs; exact absurd hs.gd (by rw [show RC.gd _ _ 21 = false from by kernel_rfl]; decide)
                · intro hs; exact absurd hs.gd (by rw [show RC.gd _ _ 21 = false from by kernel_rfl]; decide)
              · cases p26
                · intro _; kernel_rfl
                · intro hs; exact absurd hs.gd (by rw [show RC.gd _ _ 21 = false from by kernel_rfl]; decide)
            · cases p27
              · cases p26
                · intro hs; exact absurd hs.gd (by rw [show RC.gd _ _ 21 = false from by kernel_rfl]; decide)
                · intro hs; exact absurd hs.gd (by rw [show RC.gd _ _ 21 = false from by kernel_rfl]; decide)
              · cases p26
                · intro hs; exact absurd hs.gd (by rw [show RC.gd _ _ 21 = false from by kernel_rfl]; decide)
                · intro hs; exact absurd hs.gd (by rw [show RC.gd _ _ 21 = false from by kernel_rfl]; decide)
          · cases p28
            · cases p27
              · cases p26
                · intro hs; exact absurd hs.gd (by rw [show RC.gd _ _ 21 = false from by kernel_rfl]; decide)
                · intro hs; exact absurd hs.gd (by rw [show RC.gd _ _ 21 = false from by kernel_rfl]; decide)
              · cases p26
                · intro _; kernel_rfl
                · intro hs; exact absurd hs.gd (by rw [show RC.gd _ _ 21 = false from by kernel_rfl]; decide)
            · cases p27
              · cases p26
                · intro hs; exact absurd hs.gd (by rw [show RC.gd _ _ 21 = false from by kernel_rfl]; decide)
                · intro hs; exact absurd hs.gd (by rw [show RC.gd _ _ 21 = false from by kernel_rfl]; decide)
              · cases p26
                · intro hs; exact absurd hs.gd (by rw [show RC.gd _ _ 21 = false from by kernel_rfl]; decide)
                · intro hs; exact absurd hs.gd (by rw [show RC.gd _ _ 21 = false from by kernel_rfl]; decide)
        · subst hp32
          refine One.under fun G w hs => ?_
          revert hs
          cases p28
          · cases p27
            · cases p26
              · intro hs; exact absurd hs.gd (by rw [show RC.gd _ _ 22 = false from by kernel_rfl]; decide)
              · intro hs; exact absurd hs.gd (by rw [show RC.gd _ _ 22 = false from by kernel_rfl]; decide)
            · cases p26
              · intro _; kernel_rfl
              · intro hs; exact absurd hs.gd (by rw [show RC.gd _ _ 22 = false from by kernel_rfl]; decide)
          · cases p27
            · cases p26
              · intro hs; exact absurd hs.gd (by rw [show RC.gd _ _ 22 = false from by kernel_rfl]; decide)
              · intro hs; exact absurd hs.gd (by rw [show RC.gd _ _ 22 = false from by kernel_rfl]; decide)
            · cases p26
              · intro _; kernel_rfl
              · intro hs; exact absurd hs.gd (by rw [show RC.gd _ _ 22 = false from by kernel_rfl]; decide)
        · subst hp33
          refine One.under fun G w hs => ?_
          revert hs
          cases p27
          · cases p26
            · intro _; kernel_rfl
            · intro hs; exact absurd hs.gd (by rw [show RC.gd _ _ 23 = false from by kernel_rfl]; decide)
          · cases p26
            · intro _; kernel_rfl
            · intro hs; exact absurd hs.gd (by rw [show RC.gd _ _ 23 = false from by kernel_rfl]; decide)
        · subst hp34
          refine One.under fun G w hs => ?_
          revert hs
          cases p26
          · intro _; kernel_rfl
          · intro _; kernel_rfl
        intro G14 xa xw hDn
        refine hDn.to [10] [] (by kernel_rfl) ?_
        refine At.then ?_
        refine W.ret (by kernel_rfl) ?_
        refine At.results (Or.inl rfl) (.bool p34) (fun xa xw hs hw => results_one (r := .tmp 10) (by kernel_rfl) (res_tmp (t := 10) (by kernel_rfl) hs)) (fun w' hw => ?_)
        refine ⟨retb ((iN hp34 (iOT (iN hp26 iDT) (iN hp33 (iAT (iN hp27 iDT) (iN hp32 (iOT (iN hp28 iDT) (iN hp31 (iAT (iN hp29 iDT) (iN hp30 iDT))))))))).2 ?_), hw.base⟩
        have h1 := Cal.back1 a
        have h2 := Cal.back2 year month dom
        have h3 := Cal.back3 a b
        have h4 := Cal.dE_cases a
        have h5 := Cal.dE_cases b
        have h6 := Cal.dE_cases (Cal.dayN year month dom)
        omega

noncomputable def r5_0 (a : Int) : RC := { ops := opsAt Try.f5 0, B := [0], sl := [(0, .int .i64 a)], A := [], L := [], cs := [{ val := fun _ => .bool false }] }
noncomputable def r5_1 (a : Int) : RC := { ops := opsAt Try.f5 1, B := [0, 1], sl := [(0, .int .i64 a), (2, .bool false)], A := [], L := [], cs := [{ val := fun _ => .bool true }, { val := fun _ => .bool true }] }
noncomputable def r5_2 (a : Int) (p1 p2 p3 : Bool) : RC := { ops := opsAt Try.f5 2, B := [0, 1, 3, 7, 15, 31], sl := [(0, .int .i64 a), (2, .bool false), (3, .bool true)], A := [], L := [], cs := [{ val := fun _ => .int .i64 a }, { val := fun _ => .bool p1 }, { val := fun _ => .bool p1 }, { val := fun _ => .int .i64 a }, { val := fun _ => .bool p2 }, { val := fun _ => .bool p3 }] }
noncomputable def r5_3 (a : Int) (p3 : Bool) : RC := { ops := opsAt Try.f5 3, B := [0, 1], sl := [(0, .int .i64 a), (2, .bool false), (3, .bool true), (16, .bool p3)], A := [], L := [], cs := [{ val := fun _ => .bool true }, { val := fun _ => .bool true }] }
noncomputable def r5_4 (a : Int) (p3 : Bool) : RC := { ops := opsAt Try.f5 4, B := [0, 1, 3, 7, 7, 15, 63], sl := [(0, .int .i64 a), (2, .bool false), (3, .bool true), (16, .bool p3)], A := [], L := [], cs := [{ val := fun _ => .int .i64 a }, { val := fun _ => .tuple #[.int .i64 ((Cal.weekN a)), .int .i64 ((Cal.dE a))] }, { val := fun _ => .tuple #[.int .i64 ((Cal.weekN a)), .int .i64 ((Cal.dE a))] }, { val := fun _ => .int .i64 ((Cal.weekN a)) }, { val := fun _ => .int .i64 ((Cal.dE a)) }, { val := fun _ => .int .i64 ((Cal.weekN a)) }, { val := fun _ => .int .i64 ((Cal.dE a)) }] }
noncomputable def r5_5 (a n1 : Int) : RC := { ops := opsAt Try.f5 5, B := [0, 1, 3, 7, 15, 15, 31, 127], sl := [(0, .int .i64 a), (2, .bool false), (3, .bool true), (4, .int .i64 ((Cal.weekN a))), (5, .int .i64 ((Cal.dE a)))], A := [], L := [], cs := [{ val := fun _ => .int .i64 a }, { val := fun _ => .int .i64 n1 }, { val := fun _ => .tuple #[.int .i64 ((Cal.weekN n1)), .int .i64 ((Cal.dE n1))] }, { val := fun _ => .tuple #[.int .i64 ((Cal.weekN n1)), .int .i64 ((Cal.dE n1))] }, { val := fun _ => .int .i64 ((Cal.weekN n1)) }, { val := fun _ => .int .i64 ((Cal.dE n1)) }, { val := fun _ => .int .i64 ((Cal.weekN n1)) }, { val := fun _ => .int .i64 ((Cal.dE n1)) }] }
noncomputable def r5_6 (a n1 n2 : Int) : RC := { ops := opsAt Try.f5 6, B := [0, 1, 3, 7, 15, 15, 31, 127], sl := [(0, .int .i64 a), (2, .bool false), (3, .bool true), (4, .int .i64 ((Cal.weekN a))), (5, .int .i64 ((Cal.dE a))), (6, .int .i64 ((Cal.weekN n1))), (7, .int .i64 ((Cal.dE n1)))], A := [], L := [], cs := [{ val := fun _ => .int .i64 a }, { val := fun _ => .int .i64 n2 }, { val := fun _ => .tuple #[.int .i64 ((Cal.weekN n2)), .int .i64 ((Cal.dE n2))] }, { val := fun _ => .tuple #[.int .i64 ((Cal.weekN n2)), .int .i64 ((Cal.dE n2))] }, { val := fun _ => .int .i64 ((Cal.weekN n2)) }, { val := fun _ => .int .i64 ((Cal.dE n2)) }, { val := fun _ => .int .i64 ((Cal.weekN n2)) }, { val := fun _ => .int .i64 ((Cal.dE n2)) }] }
noncomputable def r5_7 (a n1 n2 : Int) (p4 p5 p6 p7 p8 p9 p10 p11 p12 : Bool) (n3 n4 : Int) (p13 p14 p15 p16 : Bool) : RC := { ops := opsAt Try.f5 7, B := [0, 1, 3, 7, 15, 31, 63, 127, 255, 511, 1023, 2047, 4095, 8191, 16383, 32767, 65535, 131071, 262143, 524287, 1048575, 2097151, 4194303, 4194303, 12582911, 29360127, 67108863, 134217727, 268435455, 536870911, 536870911, 2147483647, 4294967295, 8589934591], sl := [(2, .bool false), (3, .bool true), (4, .int .i64 ((Cal.weekN a))), (5, .int .i64 ((Cal.dE a))), (6, .int .i64 ((Cal.weekN n1))), (7, .int .i64 ((Cal.dE n1))), (8, .int .i64 ((Cal.weekN n2))), (9, .int .i64 ((Cal.dE n2)))], A := [], L := [], cs := [{ val := fun _ => .bool true }, { val := fun _ => .bool true }, { val := fun _ => .int .i64 ((Cal.dE a)) }, { val := fun _ => .bool p4 }, { val := fun _ => .bool p4 }, { val := fun _ => .bool p4 }, { val := fun _ => .int .i64 ((Cal.dE n1)) }, { val := fun _ => .bool p5 }, { val := fun _ => .bool p6 }, { val := fun _ => .bool p6 }, { val := fun _ => .int .i64 ((Cal.dE n2)) }, { val := fun _ => .bool p7 }, { val := fun _ => .bool p8 }, { val := fun _ => .bool p8 }, { val := fun _ => .int .i64 ((Cal.weekN a)) }, { val := fun _ => .bool p9 }, { val := fun _ => .bool p10 }, { val := fun _ => .bool p10 }, { val := fun _ => .int .i64 ((Cal.weekN a)) }, { val := fun _ => .bool p11 }, { val := fun _ => .bool p12 }, { val := fun _ => .bool p12 }, { val := fun _ => .int .i64 ((Cal.weekN n1)) }, { val := fun _ => .int .i64 ((Cal.weekN a)) }, { val := fun _ => .int .i64 n3 }, { val := fun _ => .int .i64 n4 }, { val := fun _ => .bool p13 }, { val := fun _ => .bool p14 }, { val := fun _ => .bool p14 }, { val := fun _ => .int .i64 ((Cal.weekN n2)) }, { val := fun _ => .int .i64 ((Cal.weekN a)) }, { val := fun _ => .bool p15 }, { val := fun _ => .bool p16 }, { val := fun _ => .bool p16 }] }
theorem weeks_ct (a : Int) (hl_a : -9223372036854775808 ≤ a) (hh_a : a ≤ 9223372036854775807) (w : World) :
    Calls Try.prog 5 #[.int .i64 a] w (fun e w' => e = .returned (.bool true) ∧ Base [] w w') := by
  refine calls_of_W (sl := [(0, .int .i64 a)]) (A := []) (L := []) Try.func5 (by kernel_rfl) 68 (by kernel_rfl) (by kernel_rfl) (fun _ h => by cases h) (by simp) ?_
  refine W.seq (by kernel_rfl) ?_
  refine W.reg (r5_0 a) [0] [] (by kernel_rfl) mo (by kernel_rfl) (fun _ _ => by kernel_rfl) trivial (by kernel_rfl) ?_
  intro G1 xa xw hDn
  refine hDn.to [0, 2] [] (by kernel_rfl) ?_
  refine At.then ?_
  refine W.seq (by kernel_rfl) ?_
  refine W.reg (r5_1 a) [1] [0] (by kernel_rfl) mo (by kernel_rfl) (fun _ _ => by kernel_rfl) ⟨?_, trivial⟩ (by kernel_rfl) ?_
  · exact One.call (fun _ _ _ => sane_ct  _) (fun _ _ => by kernel_rfl)
  intro G2 xa xw hDn
  refine hDn.to [0, 2, 3] [] (by kernel_rfl) ?_
  refine At.then ?_
  refine W.seq (by kernel_rfl) ?_
  refine W.seq (by kernel_rfl) ?_
  obtain ⟨p1, hp1⟩ : ∃ x : Bool, x = decide (a < 0) := ⟨_, rfl⟩
  obtain ⟨p2, hp2⟩ : ∃ x : Bool, x = decide (99993 < a) := ⟨_, rfl⟩
  obtain ⟨p3, hp3⟩ : ∃ x : Bool, x = (p1 || p2) := ⟨_, rfl⟩
  refine W.reg (r5_2 a p1 p2 p3) [0, 2, 3] [1, 4, 5] (by kernel_rfl) mo (by kernel_rfl) (fun _ _ => by kernel_rfl) ⟨?_, ?_, ?_, trivial⟩ (by kernel_rfl) ?_
  · exact One.bo hp1 (fun _ _ => by kernel_rfl)
  · exact One.bo hp2 (fun _ _ => by kernel_rfl)
  · subst hp3
    cases p1 <;> exact One.under fun _ _ _ => by kernel_rfl
  intro G3 xa xw hDn
  refine hDn.to [0, 2, 3, 16] [] (by kernel_rfl) ?_
  refine At.then ?_
  refine W.cond p3 (by kernel_rfl) (fun xa hs => cnd_of (t := 16) (by kernel_rfl) (by kernel_rfl) hs) (fun hq => ?_) (fun hq => ?_)
  · skip
    have hq1 := hq
    replace hq1 := (iN hp3 (iOT (iN hp1 iDT) (iN hp2 iDT))).1 hq1
    refine W.seq (by kernel_rfl) ?_
    refine W.reg (r5_3 a p3) [0, 1] [] (by kernel_rfl) mo (by kernel_rfl) (fun _ _ => by kernel_rfl) trivial (by kernel_rfl) ?_
    intro G4 xa xw hDn
    refine hDn.to [0, 2, 3] [] (by kernel_rfl) ?_
    refine At.then ?_
    refine W.ret (by kernel_rfl) ?_
    refine At.thenRet ?_
    refine At.results (Or.inl rfl) (.bool true) (fun xa xw hs hw => results_one (r := .tmp 2) (by kernel_rfl) (res_tmp (t := 2) (by kernel_rfl) hs)) (fun w' hw => ?_)
    exact ⟨rfl, hw.base⟩
  · skip
    have hq2 := hq
    replace hq2 := (iN hp3 (iOF (iN hp1 iDF) (iN hp2 iDF))).1 hq2
    refine W.skip (by kernel_rfl) ?_
    refine At.then ?_
    refine W.seq (by kernel_rfl) ?_
    have h0 := Cal.week_of a (by omega) (by omega)
    refine W.reg (r5_4 a p3) [0, 2, 3, 4, 5, 6] [1] (by kernel_rfl) mo (by kernel_rfl) (fun _ _ => by kernel_rfl) ⟨?_, trivial⟩ (by kernel_rfl) ?_
    · exact One.call (fun _ _ _ => week_ct a _) (fun _ _ => by kernel_rfl)
    intro G5 xa xw hDn
    refine hDn.to [0, 2, 3, 4, 5] [] (by kernel_rfl) ?_
    refine At.then ?_
    refine W.seq (by kernel_rfl) ?_
    obtain ⟨n1, hn1⟩ : ∃ x : Int, x = a + 1 := ⟨_, rfl⟩
    refine W.reg (r5_5 a n1) [0, 3, 4, 5, 6, 7] [1, 2] (by kernel_rfl) mo (by kernel_rfl) (fun _ _ => by kernel_rfl) ⟨?_, ?_, trivial⟩ (by kernel_rfl) ?_
    · exact One.ar hn1 (fun _ _ => by kernel_rfl) (fun _ _ _ => by omega)
    · exact One.call (fun _ _ _ => week_ct n1 _) (fun _ _ => by kernel_rfl)
    intro G6 xa xw hDn
    refine hDn.to [0, 2, 3, 4, 5, 6, 7] [] (by kernel_rfl) ?_
    refine At.then ?_
    refine W.seq (by kernel_rfl) ?_
    obtain ⟨n2, hn2⟩ : ∃ x : Int, x = a + 7 := ⟨_, rfl⟩
    refine W.reg (r5_6 a n1 n2) [0, 3, 4, 5, 6, 7] [1, 2] (by kernel_rfl) mo (by kernel_rfl) (fun _ _ => by kernel_rfl) ⟨?_, ?_, trivial⟩ (by kernel_rfl) ?_
    · exact One.ar hn2 (fun _ _ => by kernel_rfl) (fun _ _ _ => by omega)
    · exact One.call (fun _ _ _ => week_ct n2 _) (fun _ _ => by kernel_rfl)
    intro G7 xa xw hDn
    refine hDn.to [2, 3, 4, 5, 6, 7, 8, 9] [] (by kernel_rfl) ?_
    refine At.then ?_
    refine W.seq (by kernel_rfl) ?_
    obtain ⟨p4, hp4⟩ : ∃ x : Bool, x = decide ((Cal.dE a) = 0) := ⟨_, rfl⟩
    obtain ⟨p5, hp5⟩ : ∃ x : Bool, x = decide ((Cal.dE n1) = 0) := ⟨_, rfl⟩
    obtain ⟨p6, hp6⟩ : ∃ x : Bool, x = (p4 && p5) := ⟨_, rfl⟩
    obtain ⟨p7, hp7⟩ : ∃ x : Bool, x = decide ((Cal.dE n2) = 0) := ⟨_, rfl⟩
    obtain ⟨p8, hp8⟩ : ∃ x : Bool, x = (p6 && p7) := ⟨_, rfl⟩
    obtain ⟨p9, hp9⟩ : ∃ x : Bool, x = decide (0 ≤ (Cal.weekN a)) := ⟨_, rfl⟩
    obtain ⟨p10, hp10⟩ : ∃ x : Bool, x = (p8 && p9) := ⟨_, rfl⟩
    obtain ⟨p11, hp11⟩ : ∃ x : Bool, x = decide ((Cal.weekN a) ≤ 6) := ⟨_, rfl⟩
    obtain ⟨p12, hp12⟩ : ∃ x : Bool, x = (p10 && p11) := ⟨_, rfl⟩
    obtain ⟨n3, hn3⟩ : ∃ x : Int, x = (Cal.weekN a) + 1 := ⟨_, rfl⟩
    obtain ⟨n4, hn4⟩ : ∃ x : Int, x = n3 % 7 := ⟨_, rfl⟩
    obtain ⟨p13, hp13⟩ : ∃ x : Bool, x = decide ((Cal.weekN n1) = n4) := ⟨_, rfl⟩
    obtain ⟨p14, hp14⟩ : ∃ x : Bool, x = (p12 && p13) := ⟨_, rfl⟩
    obtain ⟨p15, hp15⟩ : ∃ x : Bool, x = decide ((Cal.weekN n2) = (Cal.weekN a)) := ⟨_, rfl⟩
    obtain ⟨p16, hp16⟩ : ∃ x : Bool, x = (p14 && p15) := ⟨_, rfl⟩
    refine W.reg (r5_7 a n1 n2 p4 p5 p6 p7 p8 p9 p10 p11 p12 n3 n4 p13 p14 p15 p16) [0, 1, 2, 4, 5, 6, 9, 10, 13, 14, 17, 18, 21, 22, 23, 28, 29, 30, 33] [3, 7, 8, 11, 12, 15, 16, 19, 20, 24, 25, 26, 27, 31, 32] (by kernel_rfl) mo (by kernel_rfl) (fun _ _ => by kernel_rfl) ⟨?_, ?_, ?_, ?_, ?_, ?_, ?_, ?_, ?_, ?_, ?_, ?_, ?_, ?_, ?_, trivial⟩ (by kernel_rfl) ?_
    · exact One.bo hp4 (fun _ _ => by kernel_rfl)
    · exact One.bo hp5 (fun _ _ => by kernel_rfl)
    · subst hp6
      cases p4 <;> exact One.under fun _ _ _ => by kernel_rfl
    · exact One.bo hp7 (fun _ _ => by kernel_rfl)
    · subst hp8
      cases p6 <;> exact One.under fun _ _ _ => by kernel_rfl
    · exact One.bo hp9 (fun _ _ => by kernel_rfl)
    · subst hp10
      cases p8 <;> exact One.under fun _ _ _ => by kernel_rfl
    · exact One.bo hp11 (fun _ _ => by kernel_rfl)
    · subst hp12
      cases p10 <;> exact One.under fun _ _ _ => by kernel_rfl
    · exact One.ar hn3 (fun _ _ => by kernel_rfl) (fun G w hs => by
        have hg := gd_of hs (p := (true && (p12 == true))) (by kernel_rfl)
        have hg0 := (iN hp12 (iAT (iN hp10 (iAT (iN hp8 (iAT (iN hp6 (iAT (iN hp4 iDT) (iN hp5 iDT))) (iN hp7 iDT))) (iN hp9 iDT))) (iN hp11 iDT))).1 (eqT (andR hg))
        exact by omega)
    · exact One.rem hn4 (fun _ _ => by kernel_rfl) (fun G w hs => by
        have hg := gd_of hs (p := (true && (p12 == true))) (by kernel_rfl)
        have hg0 := (iN hp12 (iAT (iN hp10 (iAT (iN hp8 (iAT (iN hp6 (iAT (iN hp4 iDT) (iN hp5 iDT))) (iN hp7 iDT))) (iN hp9 iDT))) (iN hp11 iDT))).1 (eqT (andR hg))
        exact by omega)
    · exact One.bo hp13 (fun _ _ => by kernel_rfl)
    · subst hp14
      cases p12 <;> exact One.under fun _ _ _ => by kernel_rfl
    · exact One.bo hp15 (fun _ _ => by kernel_rfl)
    · subst hp16
      cases p14 <;> exact One.under fun _ _ _ => by kernel_rfl
    intro G8 xa xw hDn
    refine hDn.to [2] [] (by kernel_rfl) ?_
    refine At.then ?_
    refine W.ret (by kernel_rfl) ?_
    refine At.results (Or.inl rfl) (.bool p16) (fun xa xw hs hw => results_one (r := .tmp 2) (by kernel_rfl) (res_tmp (t := 2) (by kernel_rfl) hs)) (fun w' hw => ?_)
    refine ⟨retb ((iN hp16 (iAT (iN hp14 (iAT (iN hp12 (iAT (iN hp10 (iAT (iN hp8 (iAT (iN hp6 (iAT (iN hp4 iDT) (iN hp5 iDT))) (iN hp7 iDT))) (iN hp9 iDT))) (iN hp11 iDT))) (iN hp13 iDT))) (iN hp15 iDT))).2 ?_), hw.base⟩
    have h1 := Cal.week_of a
    have h2 := Cal.week_of n1
    have h3 := Cal.week_of n2
    omega

noncomputable def r6_0 (a b : Int) : RC := { ops := opsAt Try.f6 0, B := [0], sl := [(0, .int .i64 a), (1, .int .i64 b)], A := [], L := [], cs := [{ val := fun _ => .bool false }] }
noncomputable def r6_1 (a b : Int) : RC := { ops := opsAt Try.f6 1, B := [0, 1], sl := [(0, .int .i64 a), (1, .int .i64 b), (4, .bool false)], A := [], L := [], cs := [{ val := fun _ => .bool true }, { val := fun _ => .bool true }] }
noncomputable def r6_2 (a b : Int) : RC := { ops := opsAt Try.f6 2, B := [0, 1, 3, 7, 7, 7, 15, 95, 255], sl := [(0, .int .i64 a), (1, .int .i64 b), (4, .bool false), (5, .bool true)], A := [], L := [], cs := [{ val := fun _ => .int .i64 a }, { val := fun _ => .tuple #[.int .i64 ((Cal.monF a)), .int .i64 ((Cal.monL a)), .int .i64 ((Cal.dE a))] }, { val := fun _ => .tuple #[.int .i64 ((Cal.monF a)), .int .i64 ((Cal.monL a)), .int .i64 ((Cal.dE a))] }, { val := fun _ => .int .i64 ((Cal.monF a)) }, { val := fun _ => .int .i64 ((Cal.monL a)) }, { val := fun _ => .int .i64 ((Cal.dE a)) }, { val := fun _ => .int .i64 ((Cal.monF a)) }, { val := fun _ => .int .i64 ((Cal.monL a)) }, { val := fun _ => .int .i64 ((Cal.dE a)) }] }
noncomputable def r6_3 (a b : Int) (p1 p2 p3 : Bool) : RC := { ops := opsAt Try.f6 3, B := [0, 1, 3, 7, 15, 31], sl := [(0, .int .i64 a), (1, .int .i64 b), (4, .bool false), (5, .bool true), (6, .int .i64 ((Cal.monF a))), (7, .int .i64 ((Cal.monL a))), (8, .int .i64 ((Cal.dE a)))], A := [], L := [], cs := [{ val := fun _ => .int .i64 a }, { val := fun _ => .bool p1 }, { val := fun _ => .bool p1 }, { val := fun _ => .int .i64 a }, { val := fun _ => .bool p2 }, { val := fun _ => .bool p3 }] }
noncomputable def r6_4 (a b : Int) (p3 p4 p5 p6 p7 p8 : Bool) : RC := { ops := opsAt Try.f6 4, B := [0, 1, 3, 7, 15, 31, 63, 127, 255, 511, 1023, 2047, 4095, 8191], sl := [(0, .int .i64 a), (1, .int .i64 b), (4, .bool false), (5, .bool true), (6, .int .i64 ((Cal.monF a))), (7, .int .i64 ((Cal.monL a))), (8, .int .i64 ((Cal.dE a))), (31, .bool p3)], A := [], L := [], cs := [{ val := fun _ => .bool true }, { val := fun _ => .bool true }, { val := fun _ => .int .i64 ((Cal.dE a)) }, { val := fun _ => .bool p4 }, { val := fun _ => .bool p4 }, { val := fun _ => .bool p4 }, { val := fun _ => .int .i64 ((Cal.monF a)) }, { val := fun _ => .bool p5 }, { val := fun _ => .bool p6 }, { val := fun _ => .bool p6 }, { val := fun _ => .int .i64 ((Cal.monL a)) }, { val := fun _ => .bool p7 }, { val := fun _ => .bool p8 }, { val := fun _ => .bool p8 }] }
noncomputable def r6_5 (a b : Int) (p3 : Bool) : RC := { ops := opsAt Try.f6 5, B := [0, 1, 3, 7, 7, 7, 7, 15, 159, 447, 1023], sl := [(0, .int .i64 a), (1, .int .i64 b), (4, .bool false), (5, .bool true), (6, .int .i64 ((Cal.monF a))), (7, .int .i64 ((Cal.monL a))), (8, .int .i64 ((Cal.dE a))), (31, .bool p3)], A := [], L := [], cs := [{ val := fun _ => .int .i64 ((Cal.monF a)) }, { val := fun _ => .tuple #[.int .i64 ((Cal.dY ((Cal.monF a)))), .int .i64 ((Cal.dM ((Cal.monF a)))), .int .i64 ((Cal.dD ((Cal.monF a)))), .int .i64 ((Cal.dE ((Cal.monF a))))] }, { val := fun _ => .tuple #[.int .i64 ((Cal.dY ((Cal.monF a)))), .int .i64 ((Cal.dM ((Cal.monF a)))), .int .i64 ((Cal.dD ((Cal.monF a)))), .int .i64 ((Cal.dE ((Cal.monF a))))] }, { val := fun _ => .int .i64 ((Cal.dY ((Cal.monF a)))) }, { val := fun _ => .int .i64 ((Cal.dM ((Cal.monF a)))) }, { val := fun _ => .int .i64 ((Cal.dD ((Cal.monF a)))) }, { val := fun _ => .int .i64 ((Cal.dE ((Cal.monF a)))) }, { val := fun _ => .int .i64 ((Cal.dY ((Cal.monF a)))) }, { val := fun _ => .int .i64 ((Cal.dM ((Cal.monF a)))) }, { val := fun _ => .int .i64 ((Cal.dD ((Cal.monF a)))) }, { val := fun _ => .int .i64 ((Cal.dE ((Cal.monF a)))) }] }
noncomputable def r6_6 (a b : Int) (p9 p10 p11 p12 p13 p14 p15 p16 p17 p18 p19 : Bool) (n1 : Int) (p20 p21 p22 : Bool) (n2 : Int) (p23 p24 p25 : Bool) : RC := { ops := opsAt Try.f6 6, B := [0, 1, 3, 7, 15, 31, 63, 127, 127, 511, 1023, 2047, 4095, 4095, 16383, 32767, 65535, 131071, 262143, 524287, 1048575, 2097151, 4194303, 8388607, 16777215, 33554431, 33554431, 134217727, 268435455, 536870911, 1073741823, 2147483647, 4294967295, 8589934591, 17179869183, 17179869183, 68719476735, 137438953471, 274877906943, 549755813887], sl := [(0, .int .i64 a), (1, .int .i64 b), (4, .bool false), (5, .bool true), (6, .int .i64 ((Cal.monF a))), (7, .int .i64 ((Cal.monL a))), (8, .int .i64 ((Cal.dE a))), (11, .int .i64 ((Cal.dD ((Cal.monF a))))), (12, .int .i64 ((Cal.dE ((Cal.monF a)))))], A := [], L := [], cs := [{ val := fun _ => .int .i64 ((Cal.dE a)) }, { val := fun _ => .bool p9 }, { val := fun _ => .bool p9 }, { val := fun _ => .int .i64 ((Cal.dE ((Cal.monF a)))) }, { val := fun _ => .bool p10 }, { val := fun _ => .bool p11 }, { val := fun _ => .bool p11 }, { val := fun _ => .int .i64 ((Cal.monF a)) }, { val := fun _ => .int .i64 a }, { val := fun _ => .bool p12 }, { val := fun _ => .bool p13 }, { val := fun _ => .bool p13 }, { val := fun _ => .int .i64 ((Cal.monL a)) }, { val := fun _ => .int .i64 a }, { val := fun _ => .bool p14 }, { val := fun _ => .bool p15 }, { val := fun _ => .bool p15 }, { val := fun _ => .int .i64 ((Cal.dD ((Cal.monF a)))) }, { val := fun _ => .bool p16 }, { val := fun _ => .bool p17 }, { val := fun _ => .bool p17 }, { val := fun _ => .int .i64 ((Cal.monL a)) }, { val := fun _ => .bool p18 }, { val := fun _ => .bool p19 }, { val := fun _ => .bool p19 }, { val := fun _ => .int .i64 ((Cal.monL a)) }, { val := fun _ => .int .i64 ((Cal.monF a)) }, { val := fun _ => .int .i64 n1 }, { val := fun _ => .bool p20 }, { val := fun _ => .bool p21 }, { val := fun _ => .bool p21 }, { val := fun _ => .int .i64 ((Cal.monL a)) }, { val := fun _ => .bool p22 }, { val := fun _ => .bool p22 }, { val := fun _ => .int .i64 ((Cal.monL a)) }, { val := fun _ => .int .i64 ((Cal.monF a)) }, { val := fun _ => .int .i64 n2 }, { val := fun _ => .bool p23 }, { val := fun _ => .bool p24 }, { val := fun _ => .bool p25 }] }
noncomputable def r6_7 (a b : Int) (p25 : Bool) : RC := { ops := opsAt Try.f6 7, B := [0], sl := [(1, .int .i64 b), (4, .bool false), (5, .bool true), (6, .int .i64 ((Cal.monF a))), (7, .int .i64 ((Cal.monL a))), (91, .bool p25)], A := [], L := [], cs := [{ val := fun _ => .bool false }] }
noncomputable def r6_8 (a b : Int) (p25 p26 : Bool) : RC := { ops := opsAt Try.f6 8, B := [0, 1], sl := [(1, .int .i64 b), (4, .bool false), (5, .bool true), (6, .int .i64 ((Cal.monF a))), (7, .int .i64 ((Cal.monL a))), (91, .bool p25)], A := [], L := [], cs := [{ val := fun _ => .int .i64 ((Cal.monL a)) }, { val := fun _ => .bool p26 }] }
noncomputable def r6_9 (a b : Int) (p26 : Bool) (n3 : Int) : RC := { ops := opsAt Try.f6 9, B := [0, 1, 3, 7, 15, 15, 15, 31, 191, 511], sl := [(1, .int .i64 b), (4, .bool false), (5, .bool true), (6, .int .i64 ((Cal.monF a))), (7, .int .i64 ((Cal.monL a))), (93, .bool p26)], A := [], L := [], cs := [{ val := fun _ => .int .i64 ((Cal.monL a)) }, { val := fun _ => .int .i64 n3 }, { val := fun _ => .tuple #[.int .i64 ((Cal.monF n3)), .int .i64 ((Cal.monL n3)), .int .i64 ((Cal.dE n3))] }, { val := fun _ => .tuple #[.int .i64 ((Cal.monF n3)), .int .i64 ((Cal.monL n3)), .int .i64 ((Cal.dE n3))] }, { val := fun _ => .int .i64 ((Cal.monF n3)) }, { val := fun _ => .int .i64 ((Cal.monL n3)) }, { val := fun _ => .int .i64 ((Cal.dE n3)) }, { val := fun _ => .int .i64 ((Cal.monF n3)) }, { val := fun _ => .int .i64 ((Cal.monL n3)) }, { val := fun _ => .int .i64 ((Cal.dE n3)) }] }
noncomputable def r6_10 (a b n3 : Int) (p27 : Bool) (n4 : Int) (p28 p29 : Bool) : RC := { ops := opsAt Try.f6 10, B := [0, 1, 3, 7, 7, 23, 63, 127], sl := [(1, .int .i64 b), (4, .bool false), (5, .bool true), (6, .int .i64 ((Cal.monF a))), (7, .int .i64 ((Cal.monL a))), (13, .int .i64 ((Cal.monF n3))), (15, .int .i64 ((Cal.dE n3)))], A := [], L := [], cs := [{ val := fun _ => .int .i64 ((Cal.dE n3)) }, { val := fun _ => .bool p27 }, { val := fun _ => .bool p27 }, { val := fun _ => .int .i64 ((Cal.monF n3)) }, { val := fun _ => .int .i64 ((Cal.monL a)) }, { val := fun _ => .int .i64 n4 }, { val := fun _ => .bool p28 }, { val := fun _ => .bool p29 }] }
noncomputable def r6_11 (a b : Int) (p29 : Bool) : RC := { ops := opsAt Try.f6 11, B := [0], sl := [(1, .int .i64 b), (4, .bool false), (5, .bool true), (6, .int .i64 ((Cal.monF a))), (7, .int .i64 ((Cal.monL a))), (108, .bool p29)], A := [], L := [], cs := [{ val := fun _ => .bool false }] }
noncomputable def r6_12 (a b : Int) (p29 : Bool) : RC := { ops := opsAt Try.f6 12, B := [0, 1, 3, 7, 7, 7, 15, 95, 255], sl := [(1, .int .i64 b), (4, .bool false), (5, .bool true), (6, .int .i64 ((Cal.monF a))), (7, .int .i64 ((Cal.monL a))), (108, .bool p29)], A := [], L := [], cs := [{ val := fun _ => .int .i64 b }, { val := fun _ => .tuple #[.int .i64 ((Cal.monF b)), .int .i64 ((Cal.monL b)), .int .i64 ((Cal.dE b))] }, { val := fun _ => .tuple #[.int .i64 ((Cal.monF b)), .int .i64 ((Cal.monL b)), .int .i64 ((Cal.dE b))] }, { val := fun _ => .int .i64 ((Cal.monF b)) }, { val := fun _ => .int .i64 ((Cal.monL b)) }, { val := fun _ => .int .i64 ((Cal.dE b)) }, { val := fun _ => .int .i64 ((Cal.monF b)) }, { val := fun _ => .int .i64 ((Cal.monL b)) }, { val := fun _ => .int .i64 ((Cal.dE b)) }] }
noncomputable def r6_13 (a b : Int) (p30 : Bool) : RC := { ops := opsAt Try.f6 13, B := [0, 1], sl := [(1, .int .i64 b), (4, .bool false), (5, .bool true), (6, .int .i64 ((Cal.monF a))), (7, .int .i64 ((Cal.monL a))), (16, .int .i64 ((Cal.monF b))), (17, .int .i64 ((Cal.monL b))), (18, .int .i64 ((Cal.dE b)))], A := [], L := [], cs := [{ val := fun _ => .int .i64 ((Cal.dE b)) }, { val := fun _ => .bool p30 }] }
noncomputable def r6_14 (a b : Int) (p30 : Bool) : RC := { ops := opsAt Try.f6 14, B := [0, 1], sl := [(1, .int .i64 b), (4, .bool false), (5, .bool true), (6, .int .i64 ((Cal.monF a))), (7, .int .i64 ((Cal.monL a))), (16, .int .i64 ((Cal.monF b))), (17, .int .i64 ((Cal.monL b))), (116, .bool p30)], A := [], L := [], cs := [{ val := fun _ => .bool true }, { val := fun _ => .bool true }] }
noncomputable def r6_15 (a b : Int) (p30 p31 p32 p33 : Bool) : RC := { ops := opsAt Try.f6 15, B := [0, 0, 3, 7, 15, 15, 63, 127], sl := [(1, .int .i64 b), (4, .bool false), (5, .bool true), (6, .int .i64 ((Cal.monF a))), (7, .int .i64 ((Cal.monL a))), (16, .int .i64 ((Cal.monF b))), (17, .int .i64 ((Cal.monL b))), (116, .bool p30)], A := [], L := [], cs := [{ val := fun _ => .int .i64 b }, { val := fun _ => .int .i64 ((Cal.monF a)) }, { val := fun _ => .bool p31 }, { val := fun _ => .bool p31 }, { val := fun _ => .int .i64 b }, { val := fun _ => .int .i64 ((Cal.monL a)) }, { val := fun _ => .bool p32 }, { val := fun _ => .bool p33 }] }
noncomputable def r6_16 (a b : Int) (p33 p34 p35 p36 : Bool) : RC := { ops := opsAt Try.f6 16, B := [0, 1, 3, 3, 15, 31, 63, 127, 127, 511, 1023, 2047], sl := [(4, .bool false), (5, .bool true), (6, .int .i64 ((Cal.monF a))), (7, .int .i64 ((Cal.monL a))), (16, .int .i64 ((Cal.monF b))), (17, .int .i64 ((Cal.monL b))), (125, .bool p33)], A := [], L := [], cs := [{ val := fun _ => .bool true }, { val := fun _ => .bool true }, { val := fun _ => .int .i64 ((Cal.monF b)) }, { val := fun _ => .int .i64 ((Cal.monF a)) }, { val := fun _ => .bool p34 }, { val := fun _ => .bool p34 }, { val := fun _ => .bool p34 }, { val := fun _ => .int .i64 ((Cal.monL b)) }, { val := fun _ => .int .i64 ((Cal.monL a)) }, { val := fun _ => .bool p35 }, { val := fun _ => .bool p36 }, { val := fun _ => .bool p36 }] }
noncomputable def r6_17 (a b : Int) (p33 p37 p38 p39 : Bool) : RC := { ops := opsAt Try.f6 17, B := [0, 1, 3, 3, 15, 31, 63, 63, 255, 511, 1023, 2047], sl := [(4, .bool false), (5, .bool true), (6, .int .i64 ((Cal.monF a))), (7, .int .i64 ((Cal.monL a))), (16, .int .i64 ((Cal.monF b))), (17, .int .i64 ((Cal.monL b))), (125, .bool p33)], A := [], L := [], cs := [{ val := fun _ => .bool true }, { val := fun _ => .bool true }, { val := fun _ => .int .i64 ((Cal.monF b)) }, { val := fun _ => .int .i64 ((Cal.monL a)) }, { val := fun _ => .bool p37 }, { val := fun _ => .bool p37 }, { val := fun _ => .int .i64 ((Cal.monL b)) }, { val := fun _ => .int .i64 ((Cal.monF a)) }, { val := fun _ => .bool p38 }, { val := fun _ => .bool p39 }, { val := fun _ => .bool p39 }, { val := fun _ => .bool p39 }] }
noncomputable def r6_18 (a b : Int) (p26 : Bool) : RC := { ops := opsAt Try.f6 12, B := [0, 1, 3, 7, 7, 7, 15, 95, 255], sl := [(1, .int .i64 b), (4, .bool false), (5, .bool true), (6, .int .i64 ((Cal.monF a))), (7, .int .i64 ((Cal.monL a))), (93, .bool p26)], A := [], L := [], cs := [{ val := fun _ => .int .i64 b }, { val := fun _ => .tuple #[.int .i64 ((Cal.monF b)), .int .i64 ((Cal.monL b)), .int .i64 ((Cal.dE b))] }, { val := fun _ => .tuple #[.int .i64 ((Cal.monF b)), .int .i64 ((Cal.monL b)), .int .i64 ((Cal.dE b))] }, { val := fun _ => .int .i64 ((Cal.monF b)) }, { val := fun _ => .int .i64 ((Cal.monL b)) }, { val := fun _ => .int .i64 ((Cal.dE b)) }, { val := fun _ => .int .i64 ((Cal.monF b)) }, { val := fun _ => .int .i64 ((Cal.monL b)) }, { val := fun _ => .int .i64 ((Cal.dE b)) }] }
noncomputable def r6_19 (a b : Int) (p40 : Bool) : RC := { ops := opsAt Try.f6 13, B := [0, 1], sl := [(1, .int .i64 b), (4, .bool false), (5, .bool true), (6, .int .i64 ((Cal.monF a))), (7, .int .i64 ((Cal.monL a))), (16, .int .i64 ((Cal.monF b))), (17, .int .i64 ((Cal.monL b))), (18, .int .i64 ((Cal.dE b)))], A := [], L := [], cs := [{ val := fun _ => .int .i64 ((Cal.dE b)) }, { val := fun _ => .bool p40 }] }
noncomputable def r6_20 (a b : Int) (p40 : Bool) : RC := { ops := opsAt Try.f6 14, B := [0, 1], sl := [(1, .int .i64 b), (4, .bool false), (5, .bool true), (6, .int .i64 ((Cal.monF a))), (7, .int .i64 ((Cal.monL a))), (16, .int .i64 ((Cal.monF b))), (17, .int .i64 ((Cal.monL b))), (116, .bool p40)], A := [], L := [], cs := [{ val := fun _ => .bool true }, { val := fun _ => .bool true }] }
noncomputable def r6_21 (a b : Int) (p40 p41 p42 p43 : Bool) : RC := { ops := opsAt Try.f6 15, B := [0, 0, 3, 7, 15, 15, 63, 127], sl := [(1, .int .i64 b), (4, .bool false), (5, .bool true), (6, .int .i64 ((Cal.monF a))), (7, .int .i64 ((Cal.monL a))), (16, .int .i64 ((Cal.monF b))), (17, .int .i64 ((Cal.monL b))), (116, .bool p40)], A := [], L := [], cs := [{ val := fun _ => .int .i64 b }, { val := fun _ => .int .i64 ((Cal.monF a)) }, { val := fun _ => .bool p41 }, { val := fun _ => .bool p41 }, { val := fun _ => .int .i64 b }, { val := fun _ => .int .i64 ((Cal.monL a)) }, { val := fun _ => .bool p42 }, { val := fun _ => .bool p43 }] }
noncomputable def r6_22 (a b : Int) (p43 p44 p45 p46 : Bool) : RC := { ops := opsAt Try.f6 16, B := [0, 1, 3, 3, 15, 31, 63, 127, 127, 511, 1023, 2047], sl := [(4, .bool false), (5, .bool true), (6, .int .i64 ((Cal.monF a))), (7, .int .i64 ((Cal.monL a))), (16, .int .i64 ((Cal.monF b))), (17, .int .i64 ((Cal.monL b))), (125, .bool p43)], A := [], L := [], cs := [{ val := fun _ => .bool true }, { val := fun _ => .bool true }, { val := fun _ => .int .i64 ((Cal.monF b)) }, { val := fun _ => .int .i64 ((Cal.monF a)) }, { val := fun _ => .bool p44 }, { val := fun _ => .bool p44 }, { val := fun _ => .bool p44 }, { val := fun _ => .int .i64 ((Cal.monL b)) }, { val := fun _ => .int .i64 ((Cal.monL a)) }, { val := fun _ => .bool p45 }, { val := fun _ => .bool p46 }, { val := fun _ => .bool p46 }] }
noncomputable def r6_23 (a b : Int) (p43 p47 p48 p49 : Bool) : RC := { ops := opsAt Try.f6 17, B := [0, 1, 3, 3, 15, 31, 63, 63, 255, 511, 1023, 2047], sl := [(4, .bool false), (5, .bool true), (6, .int .i64 ((Cal.monF a))), (7, .int .i64 ((Cal.monL a))), (16, .int .i64 ((Cal.monF b))), (17, .int .i64 ((Cal.monL b))), (125, .bool p43)], A := [], L := [], cs := [{ val := fun _ => .bool true }, { val := fun _ => .bool true }, { val := fun _ => .int .i64 ((Cal.monF b)) }, { val := fun _ => .int .i64 ((Cal.monL a)) }, { val := fun _ => .bool p47 }, { val := fun _ => .bool p47 }, { val := fun _ => .int .i64 ((Cal.monL b)) }, { val := fun _ => .int .i64 ((Cal.monF a)) }, { val := fun _ => .bool p48 }, { val := fun _ => .bool p49 }, { val := fun _ => .bool p49 }, { val := fun _ => .bool p49 }] }
theorem months_ct (a b : Int) (hl_a : -9223372036854775808 ≤ a) (hh_a : a ≤ 9223372036854775807) (hl_b : -9223372036854775808 ≤ b) (hh_b : b ≤ 9223372036854775807) (w : World) :
    Calls Try.prog 6 #[.int .i64 a, .int .i64 b] w (fun e w' => e = .returned (.bool true) ∧ Base [] w w') := by
  refine calls_of_W (sl := [(0, .int .i64 a), (1, .int .i64 b)]) (A := []) (L := []) Try.func6 (by kernel_rfl) 148 (by kernel_rfl) (by kernel_rfl) (fun _ h => by cases h) (by simp) ?_
  refine W.seq (by kernel_rfl) ?_
  refine W.reg (r6_0 a b) [0] [] (by kernel_rfl) mo (by kernel_rfl) (fun _ _ => by kernel_rfl) trivial (by kernel_rfl) ?_
  intro G1 xa xw hDn
  refine hDn.to [0, 1, 4] [] (by kernel_rfl) ?_
  refine At.then ?_
  refine W.seq (by kernel_rfl) ?_
  refine W.reg (r6_1 a b) [1] [0] (by kernel_rfl) mo (by kernel_rfl) (fun _ _ => by kernel_rfl) ⟨?_, trivial⟩ (by kernel_rfl) ?_
  · exact One.call (fun _ _ _ => sane_ct  _) (fun _ _ => by kernel_rfl)
  intro G2 xa xw hDn
  refine hDn.to [0, 1, 4, 5] [] (by kernel_rfl) ?_
  refine At.then ?_
  refine W.seq (by kernel_rfl) ?_
  refine W.reg (r6_2 a b) [0, 2, 3, 4, 5, 6, 7, 8] [1] (by kernel_rfl) mo (by kernel_rfl) (fun _ _ => by kernel_rfl) ⟨?_, trivial⟩ (by kernel_rfl) ?_
  · exact One.call (fun _ _ _ => month_ct a _) (fun _ _ => by kernel_rfl)
  intro G3 xa xw hDn
  refine hDn.to [0, 1, 4, 5, 6, 7, 8] [] (by kernel_rfl) ?_
  refine At.then ?_
  refine W.seq (by kernel_rfl) ?_
  refine W.seq (by kernel_rfl) ?_
  obtain ⟨p1, hp1⟩ : ∃ x : Bool, x = decide (a < 0) := ⟨_, rfl⟩
  obtain ⟨p2, hp2⟩ : ∃ x : Bool, x = decide (100000 < a) := ⟨_, rfl⟩
  obtain ⟨p3, hp3⟩ : ∃ x : Bool, x = (p1 || p2) := ⟨_, rfl⟩
  refine W.reg (r6_3 a b p1 p2 p3) [0, 2, 3] [1, 4, 5] (by kernel_rfl) mo (by kernel_rfl) (fun _ _ => by kernel_rfl) ⟨?_, ?_, ?_, trivial⟩ (by kernel_rfl) ?_
  · exact One.bo hp1 (fun _ _ => by kernel_rfl)
  · exact One.bo hp2 (fun _ _ => by kernel_rfl)
  · subst hp3
    cases p1 <;> exact One.under fun _ _ _ => by kernel_rfl
  intro G4 xa xw hDn
  refine hDn.to [0, 1, 4, 5, 6, 7, 8, 31] [] (by kernel_rfl) ?_
  refine At.then ?_
  refine W.cond p3 (by kernel_rfl) (fun xa hs => cnd_of (t := 31) (by kernel_rfl) (by kernel_rfl) hs) (fun hq => ?_) (fun hq => ?_)
  · skip
    have hq1 := hq
    replace hq1 := (iN hp3 (iOT (iN hp1 iDT) (iN hp2 iDT))).1 hq1
    refine W.seq (by kernel_rfl) ?_
    obtain ⟨p4, hp4⟩ : ∃ x : Bool, x = decide ((Cal.dE a) = 3) := ⟨_, rfl⟩
    obtain ⟨p5, hp5⟩ : ∃ x : Bool, x = decide ((Cal.monF a) = 0) := ⟨_, rfl⟩
    obtain ⟨p6, hp6⟩ : ∃ x : Bool, x = (p4 && p5) := ⟨_, rfl⟩
    obtain ⟨p7, hp7⟩ : ∃ x : Bool, x = decide ((Cal.monL a) = 0) := ⟨_, rfl⟩
    obtain ⟨p8, hp8⟩ : ∃ x : Bool, x = (p6 && p7) := ⟨_, rfl⟩
    refine W.reg (r6_4 a b p3 p4 p5 p6 p7 p8) [0, 1, 2, 4, 5, 6, 9, 10, 13] [3, 7, 8, 11, 12] (by kernel_rfl) mo (by kernel_rfl) (fun _ _ => by kernel_rfl) ⟨?_, ?_, ?_, ?_, ?_, trivial⟩ (by kernel_rfl) ?_
    · exact One.bo hp4 (fun _ _ => by kernel_rfl)
    · exact One.bo hp5 (fun _ _ => by kernel_rfl)
    · subst hp6
      cases p4 <;> exact One.under fun _ _ _ => by kernel_rfl
    · exact One.bo hp7 (fun _ _ => by kernel_rfl)
    · subst hp8
      cases p6 <;> exact One.under fun _ _ _ => by kernel_rfl
    intro G5 xa xw hDn
    refine hDn.to [0, 1, 4, 5, 6, 7, 8] [] (by kernel_rfl) ?_
    refine At.then ?_
    refine W.ret (by kernel_rfl) ?_
    refine At.thenRet ?_
    refine At.results (Or.inl rfl) (.bool p8) (fun xa xw hs hw => results_one (r := .tmp 4) (by kernel_rfl) (res_tmp (t := 4) (by kernel_rfl) hs)) (fun w' hw => ?_)
    refine ⟨retb ((iN hp8 (iAT (iN hp6 (iAT (iN hp4 iDT) (iN hp5 iDT))) (iN hp7 iDT))).2 ?_), hw.base⟩
    have h1 := Cal.dE_cases a
    have h2 := Cal.dE_cases b
    have h3 := Cal.mon_none a
    omega
  · skip
    have hq2 := hq
    replace hq2 := (iN hp3 (iOF (iN hp1 iDF) (iN hp2 iDF))).1 hq2
    refine W.skip (by kernel_rfl) ?_
    refine At.then ?_
    refine W.seq (by kernel_rfl) ?_
    obtain ⟨hA0, hA1⟩ : 0 ≤ a ∧ a ≤ 100000 := by omega
    obtain ⟨f0, f1, l0, l1, fd, fe, fl, fl2, fn0⟩ := Cal.mon_ok hA0 hA1
    have ht := fun g0 g1 => Cal.mon_two (b := b) hA0 hA1 g0 g1
    refine W.reg (r6_5 a b p3) [0, 2, 3, 4, 5, 6, 7, 8, 9, 10] [1] (by kernel_rfl) mo (by kernel_rfl) (fun _ _ => by kernel_rfl) ⟨?_, trivial⟩ (by kernel_rfl) ?_
    · exact One.call (fun _ _ _ => date_ct ((Cal.monF a)) _) (fun _ _ => by kernel_rfl)
    intro G6 xa xw hDn
    refine hDn.to [0, 1, 4, 5, 6, 7, 8, 11, 12] [] (by kernel_rfl) ?_
    refine At.then ?_
    refine W.seq (by kernel_rfl) ?_
    refine W.seq (by kernel_rfl) ?_
    obtain ⟨p9, hp9⟩ : ∃ x : Bool, x = !(decide ((Cal.dE a) = 0)) := ⟨_, rfl⟩
    obtain ⟨p10, hp10⟩ : ∃ x : Bool, x = !(decide ((Cal.dE ((Cal.monF a))) = 0)) := ⟨_, rfl⟩
    obtain ⟨p11, hp11⟩ : ∃ x : Bool, x = (p9 || p10) := ⟨_, rfl⟩
    obtain ⟨p12, hp12⟩ : ∃ x : Bool, x = decide (a < (Cal.monF a)) := ⟨_, rfl⟩
    obtain ⟨p13, hp13⟩ : ∃ x : Bool, x = (p11 || p12) := ⟨_, rfl⟩
    obtain ⟨p14, hp14⟩ : ∃ x : Bool, x = decide ((Cal.monL a) < a) := ⟨_, rfl⟩
    obtain ⟨p15, hp15⟩ : ∃ x : Bool, x = (p13 || p14) := ⟨_, rfl⟩
    obtain ⟨p16, hp16⟩ : ∃ x : Bool, x = !(decide ((Cal.dD ((Cal.monF a))) = 1)) := ⟨_, rfl⟩
    obtain ⟨p17, hp17⟩ : ∃ x : Bool, x = (p15 || p16) := ⟨_, rfl⟩
    obtain ⟨p18, hp18⟩ : ∃ x : Bool, x = decide (100000 < (Cal.monL a)) := ⟨_, rfl⟩
    obtain ⟨p19, hp19⟩ : ∃ x : Bool, x = (p17 || p18) := ⟨_, rfl⟩
    obtain ⟨n1, hn1⟩ : ∃ x : Int, x = (Cal.monL a) - ((Cal.monF a)) := ⟨_, rfl⟩
    obtain ⟨p20, hp20⟩ : ∃ x : Bool, x = decide (30 < n1) := ⟨_, rfl⟩
    obtain ⟨p21, hp21⟩ : ∃ x : Bool, x = (p19 || p20) := ⟨_, rfl⟩
    obtain ⟨p22, hp22⟩ : ∃ x : Bool, x = decide ((Cal.monL a) < 100000) := ⟨_, rfl⟩
    obtain ⟨n2, hn2⟩ : ∃ x : Int, x = (Cal.monL a) - ((Cal.monF a)) := ⟨_, rfl⟩
    obtain ⟨p23, hp23⟩ : ∃ x : Bool, x = decide (n2 < 27) := ⟨_, rfl⟩
    obtain ⟨p24, hp24⟩ : ∃ x : Bool, x = (p22 && p23) := ⟨_, rfl⟩
    obtain ⟨p25, hp25⟩ : ∃ x : Bool, x = (p21 || p24) := ⟨_, rfl⟩
    refine W.reg (r6_6 a b p9 p10 p11 p12 p13 p14 p15 p16 p17 p18 p19 n1 p20 p21 p22 n2 p23 p24 p25) [0, 2, 3, 6, 7, 8, 11, 12, 13, 16, 17, 20, 21, 24, 25, 26, 30, 31, 33, 34, 35] [1, 4, 5, 9, 10, 14, 15, 18, 19, 22, 23, 27, 28, 29, 32, 36, 37, 38, 39] (by kernel_rfl) mo (by kernel_rfl) (fun _ _ => by kernel_rfl) ⟨?_, ?_, ?_, ?_, ?_, ?_, ?_, ?_, ?_, ?_, ?_, ?_, ?_, ?_, ?_, ?_, ?_, ?_, ?_, trivial⟩ (by kernel_rfl) ?_
    · exact One.bo hp9 (fun _ _ => by kernel_rfl)
    · exact One.bo hp10 (fun _ _ => by kernel_rfl)
    · subst hp11
      cases p9 <;> exact One.under fun _ _ _ => by kernel_rfl
    · exact One.bo hp12 (fun _ _ => by kernel_rfl)
    · subst hp13
      cases p11 <;> exact One.under fun _ _ _ => by kernel_rfl
    · exact One.bo hp14 (fun _ _ => by kernel_rfl)
    · subst hp15
      cases p13 <;> exact One.under fun _ _ _ => by kernel_rfl
    · exact One.bo hp16 (fun _ _ => by kernel_rfl)
    · subst hp17
      cases p15 <;> exact One.under fun _ _ _ => by kernel_rfl
    · exact One.bo hp18 (fun _ _ => by kernel_rfl)
    · subst hp19
      cases p17 <;> exact One.under fun _ _ _ => by kernel_rfl
    · exact One.ar hn1 (fun _ _ => by kernel_rfl) (fun G w hs => by
        have hg := gd_of hs (p := (true && (p19 == false))) (by kernel_rfl)
        have hg0 := (iN hp19 (iOF (iN hp17 (iOF (iN hp15 (iOF (iN hp13 (iOF (iN hp11 (iOF (iN hp9 (iNF iDT)) (iN hp10 (iNF iDT)))) (iN hp12 iDF))) (iN hp14 iDF))) (iN hp16 (iNF iDT)))) (iN hp18 iDF))).1 (eqF (andR hg))
        exact by omega)
    · exact One.bo hp20 (fun _ _ => by kernel_rfl)
    · subst hp21
      cases p19 <;> exact One.under fun _ _ _ => by kernel_rfl
    · exact One.bo hp22 (fun _ _ => by kernel_rfl)
    · exact One.ar hn2 (fun _ _ => by kernel_rfl) (fun G w hs => by
        have hg := gd_of hs (p := ((true && (p21 == false)) && (p22 == true))) (by kernel_rfl)
        have hg0 := (iN hp22 iDT).1 (eqT (andR hg))
        have hg1 := (iN hp21 (iOF (iN hp19 (iOF (iN hp17 (iOF (iN hp15 (iOF (iN hp13 (iOF (iN hp11 (iOF (iN hp9 (iNF iDT)) (iN hp10 (iNF iDT)))) (iN hp12 iDF))) (iN hp14 iDF))) (iN hp16 (iNF iDT)))) (iN hp18 iDF))) (iN hp20 iDF))).1 (eqF (andR (andL hg)))
        exact by omega)
    · exact One.bo hp23 (fun _ _ => by kernel_rfl)
    · subst hp24
      refine One.under fun G w hs => ?_
      revert hs
      cases p22
      · cases p21
        · intro _; kernel_rfl
        · intro hs; exact absurd hs.gd (by rw [show RC.gd _ _ 38 = false from by kernel_rfl]; decide)
      · cases p21
        · intro _; kernel_rfl
        · intro hs; exact absurd hs.gd (by rw [show RC.gd _ _ 38 = false from by kernel_rfl]; decide)
    · subst hp25
      cases p21 <;> exact One.under fun _ _ _ => by kernel_rfl
    intro G7 xa xw hDn
    refine hDn.to [1, 4, 5, 6, 7, 91] [] (by kernel_rfl) ?_
    refine At.then ?_
    refine W.cond p25 (by kernel_rfl) (fun xa hs => cnd_of (t := 91) (by kernel_rfl) (by kernel_rfl) hs) (fun hq => ?_) (fun hq => ?_)
    · skip
      have hq3 := hq
      replace hq3 := (iN hp25 (iOT (iN hp21 (iOT (iN hp19 (iOT (iN hp17 (iOT (iN hp15 (iOT (iN hp13 (iOT (iN hp11 (iOT (iN hp9 (iNT iDF)) (iN hp10 (iNT iDF)))) (iN hp12 iDT))) (iN hp14 iDT))) (iN hp16 (iNT iDF)))) (iN hp18 iDT))) (iN hp20 iDT))) (iN hp24 (iAT (iN hp22 iDT) (iN hp23 iDT))))).1 hq3
      refine W.seq (by kernel_rfl) ?_
      refine W.reg (r6_7 a b p25) [0] [] (by kernel_rfl) mo (by kernel_rfl) (fun _ _ => by kernel_rfl) trivial (by kernel_rfl) ?_
      intro G8 xa xw hDn
      refine hDn.to [1, 4, 5, 6, 7] [] (by kernel_rfl) ?_
      refine At.then ?_
      refine W.ret (by kernel_rfl) ?_
      refine At.thenRet ?_
      refine At.results (Or.inl rfl) (.bool false) (fun xa xw hs hw => results_one (r := .tmp 4) (by kernel_rfl) (res_tmp (t := 4) (by kernel_rfl) hs)) (fun w' hw => ?_)
      exfalso
      have h1 := Cal.dE_cases a
      have h2 := Cal.dE_cases b
      have h3 := Cal.mon_none a
      omega
    · skip
      have hq4 := hq
      replace hq4 := (iN hp25 (iOF (iN hp21 (iOF (iN hp19 (iOF (iN hp17 (iOF (iN hp15 (iOF (iN hp13 (iOF (iN hp11 (iOF (iN hp9 (iNF iDT)) (iN hp10 (iNF iDT)))) (iN hp12 iDF))) (iN hp14 iDF))) (iN hp16 (iNF iDT)))) (iN hp18 iDF))) (iN hp20 iDF))) (iN hp24 (iAF (iN hp22 iDF) (iN hp23 iDF))))).1 hq4
      refine W.skip (by kernel_rfl) ?_
      refine At.then ?_
      refine W.seq (by kernel_rfl) ?_
      refine W.seq (by kernel_rfl) ?_
      obtain ⟨p26, hp26⟩ : ∃ x : Bool, x = decide ((Cal.monL a) < 100000) := ⟨_, rfl⟩
      refine W.reg (r6_8 a b p25 p26) [0] [1] (by kernel_rfl) mo (by kernel_rfl) (fun _ _ => by kernel_rfl) ⟨?_, trivial⟩ (by kernel_rfl) ?_
      · exact One.bo hp26 (fun _ _ => by kernel_rfl)
      intro G9 xa xw hDn
      refine hDn.to [1, 4, 5, 6, 7, 93] [] (by kernel_rfl) ?_
      refine At.then ?_
      refine W.cond p26 (by kernel_rfl) (fun xa hs => cnd_of (t := 93) (by kernel_rfl) (by kernel_rfl) hs) (fun hq => ?_) (fun hq => ?_)
      · skip
        have hq5 := hq
        replace hq5 := (iN hp26 iDT).1 hq5
        refine W.seq (by kernel_rfl) ?_
        obtain ⟨n3, hn3⟩ : ∃ x : Int, x = (Cal.monL a) + 1 := ⟨_, rfl⟩
        refine W.reg (r6_9 a b p26 n3) [0, 3, 4, 5, 6, 7, 8, 9] [1, 2] (by kernel_rfl) mo (by kernel_rfl) (fun _ _ => by kernel_rfl) ⟨?_, ?_, trivial⟩ (by kernel_rfl) ?_
        · exact One.ar hn3 (fun _ _ => by kernel_rfl) (fun _ _ _ => by omega)
        · exact One.call (fun _ _ _ => month_ct n3 _) (fun _ _ => by kernel_rfl)
        intro G10 xa xw hDn
        refine hDn.to [1, 4, 5, 6, 7, 13, 15] [] (by kernel_rfl) ?_
        refine At.then ?_
        refine W.seq (by kernel_rfl) ?_
        obtain ⟨p27, hp27⟩ : ∃ x : Bool, x = !(decide ((Cal.dE n3) = 0)) := ⟨_, rfl⟩
        obtain ⟨n4, hn4⟩ : ∃ x : Int, x = (Cal.monL a) + 1 := ⟨_, rfl⟩
        obtain ⟨p28, hp28⟩ : ∃ x : Bool, x = !(decide ((Cal.monF n3) = n4)) := ⟨_, rfl⟩
        obtain ⟨p29, hp29⟩ : ∃ x : Bool, x = (p27 || p28) := ⟨_, rfl⟩
        have fn := fn0 (by omega)
        rw [show Cal.monL a + 1 = n3 from by omega] at fn
        refine W.reg (r6_10 a b n3 p27 n4 p28 p29) [0, 2, 3, 4] [1, 5, 6, 7] (by kernel_rfl) mo (by kernel_rfl) (fun _ _ => by kernel_rfl) ⟨?_, ?_, ?_, ?_, trivial⟩ (by kernel_rfl) ?_
        · exact One.bo hp27 (fun _ _ => by kernel_rfl)
        · exact One.ar hn4 (fun _ _ => by kernel_rfl) (fun G w hs => by
            have hg := gd_of hs (p := (true && (p27 == false))) (by kernel_rfl)
            have hg0 := (iN hp27 (iNF iDT)).1 (eqF (andR hg))
            exact by omega)
        · exact One.bo hp28 (fun _ _ => by kernel_rfl)
        · subst hp29
          cases p27 <;> exact One.under fun _ _ _ => by kernel_rfl
        intro G11 xa xw hDn
        refine hDn.to [1, 4, 5, 6, 7, 108] [] (by kernel_rfl) ?_
        refine At.then ?_
        refine W.cond p29 (by kernel_rfl) (fun xa hs => cnd_of (t := 108) (by kernel_rfl) (by kernel_rfl) hs) (fun hq => ?_) (fun hq => ?_)
        · skip
          have hq6 := hq
          replace hq6 := (iN hp29 (iOT (iN hp27 (iNT iDF)) (iN hp28 (iNT iDF)))).1 hq6
          refine W.seq (by kernel_rfl) ?_
          refine W.reg (r6_11 a b p29) [0] [] (by kernel_rfl) mo (by kernel_rfl) (fun _ _ => by kernel_rfl) trivial (by kernel_rfl) ?_
          intro G12 xa xw hDn
          refine hDn.to [1, 4, 5, 6, 7] [] (by kernel_rfl) ?_
          refine At.then ?_
          refine W.ret (by kernel_rfl) ?_
          refine At.thenRet ?_
          refine At.results (Or.inl rfl) (.bool false) (fun xa xw hs hw => results_one (r := .tmp 4) (by kernel_rfl) (res_tmp (t := 4) (by kernel_rfl) hs)) (fun w' hw => ?_)
          exfalso
          have h1 := Cal.dE_cases a
          have h2 := Cal.dE_cases b
          have h3 := Cal.mon_none a
          omega
        · skip
          have hq7 := hq
          replace hq7 := (iN hp29 (iOF (iN hp27 (iNF iDT)) (iN hp28 (iNF iDT)))).1 hq7
          refine W.skip (by kernel_rfl) ?_
          refine At.then ?_
          refine W.seq (by kernel_rfl) ?_
          refine W.reg (r6_12 a b p29) [0, 2, 3, 4, 5, 6, 7, 8] [1] (by kernel_rfl) mo (by kernel_rfl) (fun _ _ => by kernel_rfl) ⟨?_, trivial⟩ (by kernel_rfl) ?_
          · exact One.call (fun _ _ _ => month_ct b _) (fun _ _ => by kernel_rfl)
          intro G13 xa xw hDn
          refine hDn.to [1, 4, 5, 6, 7, 16, 17, 18] [] (by kernel_rfl) ?_
          refine At.then ?_
          refine W.seq (by kernel_rfl) ?_
          refine W.seq (by kernel_rfl) ?_
          obtain ⟨p30, hp30⟩ : ∃ x : Bool, x = !(decide ((Cal.dE b) = 0)) := ⟨_, rfl⟩
          refine W.reg (r6_13 a b p30) [0] [1] (by kernel_rfl) mo (by kernel_rfl) (fun _ _ => by kernel_rfl) ⟨?_, trivial⟩ (by kernel_rfl) ?_
          · exact One.bo hp30 (fun _ _ => by kernel_rfl)
          intro G14 xa xw hDn
          refine hDn.to [1, 4, 5, 6, 7, 16, 17, 116] [] (by kernel_rfl) ?_
          refine At.then ?_
          refine W.cond p30 (by kernel_rfl) (fun xa hs => cnd_of (t := 116) (by kernel_rfl) (by kernel_rfl) hs) (fun hq => ?_) (fun hq => ?_)
          · skip
            have hq8 := hq
            replace hq8 := (iN hp30 (iNT iDF)).1 hq8
            refine W.seq (by kernel_rfl) ?_
            refine W.reg (r6_14 a b p30) [0, 1] [] (by kernel_rfl) mo (by kernel_rfl) (fun _ _ => by kernel_rfl) trivial (by kernel_rfl) ?_
            intro G15 xa xw hDn
            refine hDn.to [1, 4, 5, 6, 7, 16, 17] [] (by kernel_rfl) ?_
            refine At.then ?_
            refine W.ret (by kernel_rfl) ?_
            refine At.thenRet ?_
            refine At.results (Or.inl rfl) (.bool true) (fun xa xw hs hw => results_one (r := .tmp 4) (by kernel_rfl) (res_tmp (t := 4) (by kernel_rfl) hs)) (fun w' hw => ?_)
            exact ⟨rfl, hw.base⟩
          · skip
            have hq9 := hq
            replace hq9 := (iN hp30 (iNF iDT)).1 hq9
            refine W.skip (by kernel_rfl) ?_
            refine At.then ?_
            refine W.seq (by kernel_rfl) ?_
            refine W.seq (by kernel_rfl) ?_
            obtain ⟨p31, hp31⟩ : ∃ x : Bool, x = decide ((Cal.monF a) ≤ b) := ⟨_, rfl⟩
            obtain ⟨p32, hp32⟩ : ∃ x : Bool, x = decide (b ≤ (Cal.monL a)) := ⟨_, rfl⟩
            obtain ⟨p33, hp33⟩ : ∃ x : Bool, x = (p31 && p32) := ⟨_, rfl⟩
            refine W.reg (r6_15 a b p30 p31 p32 p33) [0, 1, 3, 4, 5] [2, 6, 7] (by kernel_rfl) mo (by kernel_rfl) (fun _ _ => by kernel_rfl) ⟨?_, ?_, ?_, trivial⟩ (by kernel_rfl) ?_
            · exact One.bo hp31 (fun _ _ => by kernel_rfl)
            · exact One.bo hp32 (fun _ _ => by kernel_rfl)
            · subst hp33
              cases p31 <;> exact One.under fun _ _ _ => by kernel_rfl
            intro G16 xa xw hDn
            refine hDn.to [4, 5, 6, 7, 16, 17, 125] [] (by kernel_rfl) ?_
            refine At.then ?_
            refine W.cond p33 (by kernel_rfl) (fun xa hs => cnd_of (t := 125) (by kernel_rfl) (by kernel_rfl) hs) (fun hq => ?_) (fun hq => ?_)
            · skip
              have hq10 := hq
              replace hq10 := (iN hp33 (iAT (iN hp31 iDT) (iN hp32 iDT))).1 hq10
              refine W.seq (by kernel_rfl) ?_
              obtain ⟨p34, hp34⟩ : ∃ x : Bool, x = decide ((Cal.monF b) = (Cal.monF a)) := ⟨_, rfl⟩
              obtain ⟨p35, hp35⟩ : ∃ x : Bool, x = decide ((Cal.monL b) = (Cal.monL a)) := ⟨_, rfl⟩
              obtain ⟨p36, hp36⟩ : ∃ x : Bool, x = (p34 && p35) := ⟨_, rfl⟩
              refine W.reg (r6_16 a b p33 p34 p35 p36) [0, 1, 2, 3, 5, 6, 7, 8, 11] [4, 9, 10] (by kernel_rfl) mo (by kernel_rfl) (fun _ _ => by kernel_rfl) ⟨?_, ?_, ?_, trivial⟩ (by kernel_rfl) ?_
              · exact One.bo hp34 (fun _ _ => by kernel_rfl)
              · exact One.bo hp35 (fun _ _ => by kernel_rfl)
              · subst hp36
                cases p34 <;> exact One.under fun _ _ _ => by kernel_rfl
              intro G17 xa xw hDn
              refine hDn.to [4, 5, 6, 7, 16, 17] [] (by kernel_rfl) ?_
              refine At.then ?_
              refine W.ret (by kernel_rfl) ?_
              refine At.thenRet ?_
              refine At.results (Or.inl rfl) (.bool p36) (fun xa xw hs hw => results_one (r := .tmp 4) (by kernel_rfl) (res_tmp (t := 4) (by kernel_rfl) hs)) (fun w' hw => ?_)
              refine ⟨retb ((iN hp36 (iAT (iN hp34 iDT) (iN hp35 iDT))).2 ?_), hw.base⟩
              have h1 := Cal.dE_cases a
              have h2 := Cal.dE_cases b
              have h3 := Cal.mon_none a
              omega
            · skip
              have hq11 := hq
              replace hq11 := (iN hp33 (iAF (iN hp31 iDF) (iN hp32 iDF))).1 hq11
              refine W.skip (by kernel_rfl) ?_
              refine At.then ?_
              refine W.seq (by kernel_rfl) ?_
              obtain ⟨p37, hp37⟩ : ∃ x : Bool, x = decide ((Cal.monL a) < (Cal.monF b)) := ⟨_, rfl⟩
              obtain ⟨p38, hp38⟩ : ∃ x : Bool, x = decide ((Cal.monL b) < (Cal.monF a)) := ⟨_, rfl⟩
              obtain ⟨p39, hp39⟩ : ∃ x : Bool, x = (p37 || p38) := ⟨_, rfl⟩
              refine W.reg (r6_17 a b p33 p37 p38 p39) [0, 1, 2, 3, 5, 6, 7, 10, 11] [4, 8, 9] (by kernel_rfl) mo (by kernel_rfl) (fun _ _ => by kernel_rfl) ⟨?_, ?_, ?_, trivial⟩ (by kernel_rfl) ?_
              · exact One.bo hp37 (fun _ _ => by kernel_rfl)
              · exact One.bo hp38 (fun _ _ => by kernel_rfl)
              · subst hp39
                refine One.under fun G w hs => ?_
                revert hs
                cases p37
                · intro _; kernel_rfl
                · intro _; kernel_rfl
              intro G18 xa xw hDn
              refine hDn.to [4] [] (by kernel_rfl) ?_
              refine At.then ?_
              refine W.ret (by kernel_rfl) ?_
              refine At.results (Or.inl rfl) (.bool p39) (fun xa xw hs hw => results_one (r := .tmp 4) (by kernel_rfl) (res_tmp (t := 4) (by kernel_rfl) hs)) (fun w' hw => ?_)
              refine ⟨retb ((iN hp39 (iOT (iN hp37 iDT) (iN hp38 iDT))).2 ?_), hw.base⟩
              have h1 := Cal.dE_cases a
              have h2 := Cal.dE_cases b
              have h3 := Cal.mon_none a
              omega
      · skip
        have hq12 := hq
        replace hq12 := (iN hp26 iDF).1 hq12
        refine W.skip (by kernel_rfl) ?_
        refine At.then ?_
        refine W.seq (by kernel_rfl) ?_
        refine W.reg (r6_18 a b p26) [0, 2, 3, 4, 5, 6, 7, 8] [1] (by kernel_rfl) mo (by kernel_rfl) (fun _ _ => by kernel_rfl) ⟨?_, trivial⟩ (by kernel_rfl) ?_
        · exact One.call (fun _ _ _ => month_ct b _) (fun _ _ => by kernel_rfl)
        intro G19 xa xw hDn
        refine hDn.to [1, 4, 5, 6, 7, 16, 17, 18] [] (by kernel_rfl) ?_
        refine At.then ?_
        refine W.seq (by kernel_rfl) ?_
        refine W.seq (by kernel_rfl) ?_
        obtain ⟨p40, hp40⟩ : ∃ x : Bool, x = !(decide ((Cal.dE b) = 0)) := ⟨_, rfl⟩
        refine W.reg (r6_19 a b p40) [0] [1] (by kernel_rfl) mo (by kernel_rfl) (fun _ _ => by kernel_rfl) ⟨?_, trivial⟩ (by kernel_rfl) ?_
        · exact One.bo hp40 (fun _ _ => by kernel_rfl)
        intro G20 xa xw hDn
        refine hDn.to [1, 4, 5, 6, 7, 16, 17, 116] [] (by kernel_rfl) ?_
        refine At.then ?_
        refine W.cond p40 (by kernel_rfl) (fun xa hs => cnd_of (t := 116) (by kernel_rfl) (by kernel_rfl) hs) (fun hq => ?_) (fun hq => ?_)
        · skip
          have hq13 := hq
          replace hq13 := (iN hp40 (iNT iDF)).1 hq13
          refine W.seq (by kernel_rfl) ?_
          refine W.reg (r6_20 a b p40) [0, 1] [] (by kernel_rfl) mo (by kernel_rfl) (fun _ _ => by kernel_rfl) trivial (by kernel_rfl) ?_
          intro G21 xa xw hDn
          refine hDn.to [1, 4, 5, 6, 7, 16, 17] [] (by kernel_rfl) ?_
          refine At.then ?_
          refine W.ret (by kernel_rfl) ?_
          refine At.thenRet ?_
          refine At.results (Or.inl rfl) (.bool true) (fun xa xw hs hw => results_one (r := .tmp 4) (by kernel_rfl) (res_tmp (t := 4) (by kernel_rfl) hs)) (fun w' hw => ?_)
          exact ⟨rfl, hw.base⟩
        · skip
          have hq14 := hq
          replace hq14 := (iN hp40 (iNF iDT)).1 hq14
          refine W.skip (by kernel_rfl) ?_
          refine At.then ?_
          refine W.seq (by kernel_rfl) ?_
          refine W.seq (by kernel_rfl) ?_
          obtain ⟨p41, hp41⟩ : ∃ x : Bool, x = decide ((Cal.monF a) ≤ b) := ⟨_, rfl⟩
          obtain ⟨p42, hp42⟩ : ∃ x : Bool, x = decide (b ≤ (Cal.monL a)) := ⟨_, rfl⟩
          obtain ⟨p43, hp43⟩ : ∃ x : Bool, x = (p41 && p42) := ⟨_, rfl⟩
          refine W.reg (r6_21 a b p40 p41 p42 p43) [0, 1, 3, 4, 5] [2, 6, 7] (by kernel_rfl) mo (by kernel_rfl) (fun _ _ => by kernel_rfl) ⟨?_, ?_, ?_, trivial⟩ (by kernel_rfl) ?_
          · exact One.bo hp41 (fun _ _ => by kernel_rfl)
          · exact One.bo hp42 (fun _ _ => by kernel_rfl)
          · subst hp43
            cases p41 <;> exact One.under fun _ _ _ => by kernel_rfl
          intro G22 xa xw hDn
          refine hDn.to [4, 5, 6, 7, 16, 17, 125] [] (by kernel_rfl) ?_
          refine At.then ?_
          refine W.cond p43 (by kernel_rfl) (fun xa hs => cnd_of (t := 125) (by kernel_rfl) (by kernel_rfl) hs) (fun hq => ?_) (fun hq => ?_)
          · skip
            have hq15 := hq
            replace hq15 := (iN hp43 (iAT (iN hp41 iDT) (iN hp42 iDT))).1 hq15
            refine W.seq (by kernel_rfl) ?_
            obtain ⟨p44, hp44⟩ : ∃ x : Bool, x = decide ((Cal.monF b) = (Cal.monF a)) := ⟨_, rfl⟩
            obtain ⟨p45, hp45⟩ : ∃ x : Bool, x = decide ((Cal.monL b) = (Cal.monL a)) := ⟨_, rfl⟩
            obtain ⟨p46, hp46⟩ : ∃ x : Bool, x = (p44 && p45) := ⟨_, rfl⟩
            refine W.reg (r6_22 a b p43 p44 p45 p46) [0, 1, 2, 3, 5, 6, 7, 8, 11] [4, 9, 10] (by kernel_rfl) mo (by kernel_rfl) (fun _ _ => by kernel_rfl) ⟨?_, ?_, ?_, trivial⟩ (by kernel_rfl) ?_
            · exact One.bo hp44 (fun _ _ => by kernel_rfl)
            · exact One.bo hp45 (fun _ _ => by kernel_rfl)
            · subst hp46
              cases p44 <;> exact One.under fun _ _ _ => by kernel_rfl
            intro G23 xa xw hDn
            refine hDn.to [4, 5, 6, 7, 16, 17] [] (by kernel_rfl) ?_
            refine At.then ?_
            refine W.ret (by kernel_rfl) ?_
            refine At.thenRet ?_
            refine At.results (Or.inl rfl) (.bool p46) (fun xa xw hs hw => results_one (r := .tmp 4) (by kernel_rfl) (res_tmp (t := 4) (by kernel_rfl) hs)) (fun w' hw => ?_)
            refine ⟨retb ((iN hp46 (iAT (iN hp44 iDT) (iN hp45 iDT))).2 ?_), hw.base⟩
            have h1 := Cal.dE_cases a
            have h2 := Cal.dE_cases b
            have h3 := Cal.mon_none a
            omega
          · skip
            have hq16 := hq
            replace hq16 := (iN hp43 (iAF (iN hp41 iDF) (iN hp42 iDF))).1 hq16
            refine W.skip (by kernel_rfl) ?_
            refine At.then ?_
            refine W.seq (by kernel_rfl) ?_
            obtain ⟨p47, hp47⟩ : ∃ x : Bool, x = decide ((Cal.monL a) < (Cal.monF b)) := ⟨_, rfl⟩
            obtain ⟨p48, hp48⟩ : ∃ x : Bool, x = decide ((Cal.monL b) < (Cal.monF a)) := ⟨_, rfl⟩
            obtain ⟨p49, hp49⟩ : ∃ x : Bool, x = (p47 || p48) := ⟨_, rfl⟩
            refine W.reg (r6_23 a b p43 p47 p48 p49) [0, 1, 2, 3, 5, 6, 7, 10, 11] [4, 8, 9] (by kernel_rfl) mo (by kernel_rfl) (fun _ _ => by kernel_rfl) ⟨?_, ?_, ?_, trivial⟩ (by kernel_rfl) ?_
            · exact One.bo hp47 (fun _ _ => by kernel_rfl)
            · exact One.bo hp48 (fun _ _ => by kernel_rfl)
            · subst hp49
              refine One.under fun G w hs => ?_
              revert hs
              cases p47
              · intro _; kernel_rfl
              · intro _; kernel_rfl
            intro G24 xa xw hDn
            refine hDn.to [4] [] (by kernel_rfl) ?_
            refine At.then ?_
            refine W.ret (by kernel_rfl) ?_
            refine At.results (Or.inl rfl) (.bool p49) (fun xa xw hs hw => results_one (r := .tmp 4) (by kernel_rfl) (res_tmp (t := 4) (by kernel_rfl) hs)) (fun w' hw => ?_)
            refine ⟨retb ((iN hp49 (iOT (iN hp47 iDT) (iN hp48 iDT))).2 ?_), hw.base⟩
            have h1 := Cal.dE_cases a
            have h2 := Cal.dE_cases b
            have h3 := Cal.mon_none a
            omega

noncomputable def r7_0 (a b m n : Int) : RC := { ops := opsAt Try.f7 0, B := [0], sl := [(0, .int .i64 a), (1, .int .i64 b), (2, .int .i64 m), (3, .int .i64 n)], A := [], L := [], cs := [{ val := fun _ => .bool false }] }
noncomputable def r7_1 (a b m n : Int) : RC := { ops := opsAt Try.f7 1, B := [0, 1], sl := [(0, .int .i64 a), (1, .int .i64 b), (2, .int .i64 m), (3, .int .i64 n), (8, .bool false)], A := [], L := [], cs := [{ val := fun _ => .bool true }, { val := fun _ => .bool true }] }
noncomputable def r7_2 (a b m n : Int) (p1 p2 p3 p4 p5 p6 p7 : Bool) : RC := { ops := opsAt Try.f7 2, B := [0, 1, 3, 7, 15, 31, 63, 127, 255, 511, 1023, 2047, 4095, 8191], sl := [(0, .int .i64 a), (1, .int .i64 b), (2, .int .i64 m), (3, .int .i64 n), (8, .bool false), (9, .bool true)], A := [], L := [], cs := [{ val := fun _ => .int .i64 m }, { val := fun _ => .bool p1 }, { val := fun _ => .bool p1 }, { val := fun _ => .int .i64 m }, { val := fun _ => .bool p2 }, { val := fun _ => .bool p3 }, { val := fun _ => .bool p3 }, { val := fun _ => .int .i64 n }, { val := fun _ => .bool p4 }, { val := fun _ => .bool p5 }, { val := fun _ => .bool p5 }, { val := fun _ => .int .i64 n }, { val := fun _ => .bool p6 }, { val := fun _ => .bool p7 }] }
noncomputable def r7_3 (a b m n : Int) (p7 : Bool) : RC := { ops := opsAt Try.f7 3, B := [0, 1], sl := [(0, .int .i64 a), (1, .int .i64 b), (2, .int .i64 m), (3, .int .i64 n), (8, .bool false), (9, .bool true), (43, .bool p7)], A := [], L := [], cs := [{ val := fun _ => .bool true }, { val := fun _ => .bool true }] }
noncomputable def r7_4 (a b m n : Int) (p7 : Bool) : RC := { ops := opsAt Try.f7 4, B := [0, 1, 3, 7, 7, 7, 7, 15, 159, 447, 1023], sl := [(0, .int .i64 a), (1, .int .i64 b), (2, .int .i64 m), (3, .int .i64 n), (8, .bool false), (9, .bool true), (43, .bool p7)], A := [], L := [], cs := [{ val := fun _ => .int .i64 a }, { val := fun _ => .tuple #[.int .i64 ((Cal.dY a)), .int .i64 ((Cal.dM a)), .int .i64 ((Cal.dD a)), .int .i64 ((Cal.dE a))] }, { val := fun _ => .tuple #[.int .i64 ((Cal.dY a)), .int .i64 ((Cal.dM a)), .int .i64 ((Cal.dD a)), .int .i64 ((Cal.dE a))] }, { val := fun _ => .int .i64 ((Cal.dY a)) }, { val := fun _ => .int .i64 ((Cal.dM a)) }, { val := fun _ => .int .i64 ((Cal.dD a)) }, { val := fun _ => .int .i64 ((Cal.dE a)) }, { val := fun _ => .int .i64 ((Cal.dY a)) }, { val := fun _ => .int .i64 ((Cal.dM a)) }, { val := fun _ => .int .i64 ((Cal.dD a)) }, { val := fun _ => .int .i64 ((Cal.dE a)) }] }
noncomputable def r7_5 (a b m n : Int) : RC := { ops := opsAt Try.f7 5, B := [0, 0, 3, 7, 15, 15, 31, 127], sl := [(0, .int .i64 a), (1, .int .i64 b), (2, .int .i64 m), (3, .int .i64 n), (8, .bool false), (9, .bool true), (10, .int .i64 ((Cal.dY a))), (11, .int .i64 ((Cal.dM a))), (12, .int .i64 ((Cal.dD a))), (13, .int .i64 ((Cal.dE a)))], A := [], L := [], cs := [{ val := fun _ => .int .i64 a }, { val := fun _ => .int .i64 m }, { val := fun _ => .tuple #[.int .i64 ((Cal.addN a m)), .int .i64 ((Cal.addE a m))] }, { val := fun _ => .tuple #[.int .i64 ((Cal.addN a m)), .int .i64 ((Cal.addE a m))] }, { val := fun _ => .int .i64 ((Cal.addN a m)) }, { val := fun _ => .int .i64 ((Cal.addE a m)) }, { val := fun _ => .int .i64 ((Cal.addN a m)) }, { val := fun _ => .int .i64 ((Cal.addE a m)) }] }
noncomputable def r7_6 (a b m n : Int) (p8 : Bool) : RC := { ops := opsAt Try.f7 6, B := [0, 1], sl := [(0, .int .i64 a), (1, .int .i64 b), (2, .int .i64 m), (3, .int .i64 n), (8, .bool false), (9, .bool true), (10, .int .i64 ((Cal.dY a))), (11, .int .i64 ((Cal.dM a))), (12, .int .i64 ((Cal.dD a))), (13, .int .i64 ((Cal.dE a))), (14, .int .i64 ((Cal.addN a m))), (15, .int .i64 ((Cal.addE a m)))], A := [], L := [], cs := [{ val := fun _ => .int .i64 ((Cal.dE a)) }, { val := fun _ => .bool p8 }] }
noncomputable def r7_7 (a b m n : Int) (p8 p9 : Bool) : RC := { ops := opsAt Try.f7 7, B := [0, 1, 3, 7, 15, 31], sl := [(0, .int .i64 a), (1, .int .i64 b), (2, .int .i64 m), (3, .int .i64 n), (8, .bool false), (9, .bool true), (10, .int .i64 ((Cal.dY a))), (11, .int .i64 ((Cal.dM a))), (12, .int .i64 ((Cal.dD a))), (14, .int .i64 ((Cal.addN a m))), (15, .int .i64 ((Cal.addE a m))), (59, .bool p8)], A := [], L := [], cs := [{ val := fun _ => .bool true }, { val := fun _ => .bool true }, { val := fun _ => .int .i64 ((Cal.addE a m)) }, { val := fun _ => .bool p9 }, { val := fun _ => .bool p9 }, { val := fun _ => .bool p9 }] }
noncomputable def r7_8 (a b m n : Int) (p8 p10 : Bool) : RC := { ops := opsAt Try.f7 8, B := [0, 1], sl := [(0, .int .i64 a), (1, .int .i64 b), (2, .int .i64 m), (3, .int .i64 n), (8, .bool false), (9, .bool true), (10, .int .i64 ((Cal.dY a))), (11, .int .i64 ((Cal.dM a))), (12, .int .i64 ((Cal.dD a))), (14, .int .i64 ((Cal.addN a m))), (15, .int .i64 ((Cal.addE a m))), (59, .bool p8)], A := [], L := [], cs := [{ val := fun _ => .int .i64 ((Cal.addE a m)) }, { val := fun _ => .bool p10 }] }
noncomputable def r7_9 (a b m n : Int) (p10 p11 p12 p13 : Bool) : RC := { ops := opsAt Try.f7 9, B := [0, 1, 3, 7, 15, 31, 63, 127, 255, 511], sl := [(0, .int .i64 a), (1, .int .i64 b), (2, .int .i64 m), (3, .int .i64 n), (8, .bool false), (9, .bool true), (10, .int .i64 ((Cal.dY a))), (11, .int .i64 ((Cal.dM a))), (12, .int .i64 ((Cal.dD a))), (14, .int .i64 ((Cal.addN a m))), (15, .int .i64 ((Cal.addE a m))), (66, .bool p10)], A := [], L := [], cs := [{ val := fun _ => .bool true }, { val := fun _ => .bool true }, { val := fun _ => .int .i64 ((Cal.addE a m)) }, { val := fun _ => .bool p11 }, { val := fun _ => .bool p11 }, { val := fun _ => .bool p11 }, { val := fun _ => .int .i64 ((Cal.addN a m)) }, { val := fun _ => .bool p12 }, { val := fun _ => .bool p13 }, { val := fun _ => .bool p13 }] }
noncomputable def r7_10 (a b m n : Int) (p10 : Bool) : RC := { ops := opsAt Try.f7 10, B := [0, 1, 3, 7, 7, 7, 7, 15, 159, 447, 1023], sl := [(0, .int .i64 a), (1, .int .i64 b), (2, .int .i64 m), (3, .int .i64 n), (8, .bool false), (9, .bool true), (10, .int .i64 ((Cal.dY a))), (11, .int .i64 ((Cal.dM a))), (12, .int .i64 ((Cal.dD a))), (14, .int .i64 ((Cal.addN a m))), (15, .int .i64 ((Cal.addE a m))), (66, .bool p10)], A := [], L := [], cs := [{ val := fun _ => .int .i64 ((Cal.addN a m)) }, { val := fun _ => .tuple #[.int .i64 ((Cal.dY ((Cal.addN a m)))), .int .i64 ((Cal.dM ((Cal.addN a m)))), .int .i64 ((Cal.dD ((Cal.addN a m)))), .int .i64 ((Cal.dE ((Cal.addN a m))))] }, { val := fun _ => .tuple #[.int .i64 ((Cal.dY ((Cal.addN a m)))), .int .i64 ((Cal.dM ((Cal.addN a m)))), .int .i64 ((Cal.dD ((Cal.addN a m)))), .int .i64 ((Cal.dE ((Cal.addN a m))))] }, { val := fun _ => .int .i64 ((Cal.dY ((Cal.addN a m)))) }, { val := fun _ => .int .i64 ((Cal.dM ((Cal.addN a m)))) }, { val := fun _ => .int .i64 ((Cal.dD ((Cal.addN a m)))) }, { val := fun _ => .int .i64 ((Cal.dE ((Cal.addN a m)))) }, { val := fun _ => .int .i64 ((Cal.dY ((Cal.addN a m)))) }, { val := fun _ => .int .i64 ((Cal.dM ((Cal.addN a m)))) }, { val := fun _ => .int .i64 ((Cal.dD ((Cal.addN a m)))) }, { val := fun _ => .int .i64 ((Cal.dE ((Cal.addN a m)))) }] }
noncomputable def r7_11 (a b m n : Int) : RC := { ops := opsAt Try.f7 11, B := [0, 1, 3, 7, 7, 7, 15, 95, 255], sl := [(0, .int .i64 a), (1, .int .i64 b), (2, .int .i64 m), (3, .int .i64 n), (8, .bool false), (9, .bool true), (10, .int .i64 ((Cal.dY a))), (11, .int .i64 ((Cal.dM a))), (12, .int .i64 ((Cal.dD a))), (14, .int .i64 ((Cal.addN a m))), (16, .int .i64 ((Cal.dY ((Cal.addN a m))))), (17, .int .i64 ((Cal.dM ((Cal.addN a m))))), (18, .int .i64 ((Cal.dD ((Cal.addN a m))))), (19, .int .i64 ((Cal.dE ((Cal.addN a m)))))], A := [], L := [], cs := [{ val := fun _ => .int .i64 ((Cal.addN a m)) }, { val := fun _ => .tuple #[.int .i64 ((Cal.monF ((Cal.addN a m)))), .int .i64 ((Cal.monL ((Cal.addN a m)))), .int .i64 ((Cal.dE ((Cal.addN a m))))] }, { val := fun _ => .tuple #[.int .i64 ((Cal.monF ((Cal.addN a m)))), .int .i64 ((Cal.monL ((Cal.addN a m)))), .int .i64 ((Cal.dE ((Cal.addN a m))))] }, { val := fun _ => .int .i64 ((Cal.monF ((Cal.addN a m)))) }, { val := fun _ => .int .i64 ((Cal.monL ((Cal.addN a m)))) }, { val := fun _ => .int .i64 ((Cal.dE ((Cal.addN a m)))) }, { val := fun _ => .int .i64 ((Cal.monF ((Cal.addN a m)))) }, { val := fun _ => .int .i64 ((Cal.monL ((Cal.addN a m)))) }, { val := fun _ => .int .i64 ((Cal.dE ((Cal.addN a m)))) }] }
noncomputable def r7_12 (a b m n : Int) (p14 p15 p16 : Bool) (n1 n2 n3 n4 n5 : Int) (p17 p18 p19 p20 p21 p22 p23 p24 : Bool) : RC := { ops := opsAt Try.f7 12, B := [0, 1, 3, 7, 15, 31, 63, 127, 255, 127, 1023, 127, 2175, 127, 14463, 127, 63615, 131071, 262143, 524287, 1048575, 1048575, 4194303, 8388607, 16777215, 16777215, 67108863, 134217727, 268435455, 268435455, 1073741823, 2147483647, 4294967295, 8589934591], sl := [(0, .int .i64 a), (1, .int .i64 b), (2, .int .i64 m), (3, .int .i64 n), (8, .bool false), (9, .bool true), (10, .int .i64 ((Cal.dY a))), (11, .int .i64 ((Cal.dM a))), (12, .int .i64 ((Cal.dD a))), (14, .int .i64 ((Cal.addN a m))), (16, .int .i64 ((Cal.dY ((Cal.addN a m))))), (17, .int .i64 ((Cal.dM ((Cal.addN a m))))), (18, .int .i64 ((Cal.dD ((Cal.addN a m))))), (19, .int .i64 ((Cal.dE ((Cal.addN a m))))), (21, .int .i64 ((Cal.monL ((Cal.addN a m))))), (22, .int .i64 ((Cal.dE ((Cal.addN a m)))))], A := [], L := [], cs := [{ val := fun _ => .int .i64 ((Cal.dE ((Cal.addN a m)))) }, { val := fun _ => .bool p14 }, { val := fun _ => .bool p14 }, { val := fun _ => .int .i64 ((Cal.dE ((Cal.addN a m)))) }, { val := fun _ => .bool p15 }, { val := fun _ => .bool p16 }, { val := fun _ => .bool p16 }, { val := fun _ => .int .i64 ((Cal.dY ((Cal.addN a m)))) }, { val := fun _ => .int .i64 n1 }, { val := fun _ => .int .i64 ((Cal.dM ((Cal.addN a m)))) }, { val := fun _ => .int .i64 n2 }, { val := fun _ => .int .i64 ((Cal.dY a)) }, { val := fun _ => .int .i64 n3 }, { val := fun _ => .int .i64 ((Cal.dM a)) }, { val := fun _ => .int .i64 n4 }, { val := fun _ => .int .i64 m }, { val := fun _ => .int .i64 n5 }, { val := fun _ => .bool p17 }, { val := fun _ => .bool p18 }, { val := fun _ => .bool p18 }, { val := fun _ => .int .i64 ((Cal.dD ((Cal.addN a m)))) }, { val := fun _ => .int .i64 ((Cal.dD a)) }, { val := fun _ => .bool p19 }, { val := fun _ => .bool p19 }, { val := fun _ => .int .i64 ((Cal.dD ((Cal.addN a m)))) }, { val := fun _ => .int .i64 ((Cal.dD a)) }, { val := fun _ => .bool p20 }, { val := fun _ => .bool p20 }, { val := fun _ => .int .i64 ((Cal.addN a m)) }, { val := fun _ => .int .i64 ((Cal.monL ((Cal.addN a m)))) }, { val := fun _ => .bool p21 }, { val := fun _ => .bool p22 }, { val := fun _ => .bool p23 }, { val := fun _ => .bool p24 }] }
noncomputable def r7_13 (a b m n : Int) (p24 : Bool) : RC := { ops := opsAt Try.f7 13, B := [0], sl := [(0, .int .i64 a), (1, .int .i64 b), (2, .int .i64 m), (3, .int .i64 n), (8, .bool false), (9, .bool true), (12, .int .i64 ((Cal.dD a))), (14, .int .i64 ((Cal.addN a m))), (122, .bool p24)], A := [], L := [], cs := [{ val := fun _ => .bool false }] }
noncomputable def r7_14 (a b m n : Int) (p24 : Bool) : RC := { ops := opsAt Try.f7 14, B := [0, 0, 3, 7, 15, 15, 31, 127], sl := [(0, .int .i64 a), (1, .int .i64 b), (2, .int .i64 m), (3, .int .i64 n), (8, .bool false), (9, .bool true), (12, .int .i64 ((Cal.dD a))), (14, .int .i64 ((Cal.addN a m))), (122, .bool p24)], A := [], L := [], cs := [{ val := fun _ => .int .i64 ((Cal.addN a m)) }, { val := fun _ => .int .i64 n }, { val := fun _ => .tuple #[.int .i64 ((Cal.addN ((Cal.addN a m)) n)), .int .i64 ((Cal.addE ((Cal.addN a m)) n))] }, { val := fun _ => .tuple #[.int .i64 ((Cal.addN ((Cal.addN a m)) n)), .int .i64 ((Cal.addE ((Cal.addN a m)) n))] }, { val := fun _ => .int .i64 ((Cal.addN ((Cal.addN a m)) n)) }, { val := fun _ => .int .i64 ((Cal.addE ((Cal.addN a m)) n)) }, { val := fun _ => .int .i64 ((Cal.addN ((Cal.addN a m)) n)) }, { val := fun _ => .int .i64 ((Cal.addE ((Cal.addN a m)) n)) }] }
noncomputable def r7_15 (a b m n n6 : Int) : RC := { ops := opsAt Try.f7 15, B := [0, 0, 0, 6, 15, 31, 63, 63, 127, 511], sl := [(0, .int .i64 a), (1, .int .i64 b), (2, .int .i64 m), (3, .int .i64 n), (8, .bool false), (9, .bool true), (12, .int .i64 ((Cal.dD a))), (14, .int .i64 ((Cal.addN a m))), (23, .int .i64 ((Cal.addN ((Cal.addN a m)) n))), (24, .int .i64 ((Cal.addE ((Cal.addN a m)) n)))], A := [], L := [], cs := [{ val := fun _ => .int .i64 a }, { val := fun _ => .int .i64 m }, { val := fun _ => .int .i64 n }, { val := fun _ => .int .i64 n6 }, { val := fun _ => .tuple #[.int .i64 ((Cal.addN a n6)), .int .i64 ((Cal.addE a n6))] }, { val := fun _ => .tuple #[.int .i64 ((Cal.addN a n6)), .int .i64 ((Cal.addE a n6))] }, { val := fun _ => .int .i64 ((Cal.addN a n6)) }, { val := fun _ => .int .i64 ((Cal.addE a n6)) }, { val := fun _ => .int .i64 ((Cal.addN a n6)) }, { val := fun _ => .int .i64 ((Cal.addE a n6)) }] }
noncomputable def r7_16 (a b m n n6 : Int) (p25 p26 p27 p28 p29 p30 p31 : Bool) : RC := { ops := opsAt Try.f7 16, B := [0, 1, 3, 7, 15, 31, 63, 127, 255, 511, 1023, 1023, 4095, 8191, 16383], sl := [(0, .int .i64 a), (1, .int .i64 b), (2, .int .i64 m), (8, .bool false), (9, .bool true), (12, .int .i64 ((Cal.dD a))), (14, .int .i64 ((Cal.addN a m))), (23, .int .i64 ((Cal.addN ((Cal.addN a m)) n))), (24, .int .i64 ((Cal.addE ((Cal.addN a m)) n))), (25, .int .i64 ((Cal.addN a n6))), (26, .int .i64 ((Cal.addE a n6)))], A := [], L := [], cs := [{ val := fun _ => .int .i64 ((Cal.dD a)) }, { val := fun _ => .bool p25 }, { val := fun _ => .bool p25 }, { val := fun _ => .int .i64 ((Cal.addE ((Cal.addN a m)) n)) }, { val := fun _ => .bool p26 }, { val := fun _ => .bool p27 }, { val := fun _ => .bool p27 }, { val := fun _ => .int .i64 ((Cal.addE a n6)) }, { val := fun _ => .bool p28 }, { val := fun _ => .bool p28 }, { val := fun _ => .int .i64 ((Cal.addN a n6)) }, { val := fun _ => .int .i64 ((Cal.addN ((Cal.addN a m)) n)) }, { val := fun _ => .bool p29 }, { val := fun _ => .bool p30 }, { val := fun _ => .bool p31 }] }
noncomputable def r7_17 (a b m : Int) (p31 : Bool) : RC := { ops := opsAt Try.f7 17, B := [0], sl := [(0, .int .i64 a), (1, .int .i64 b), (2, .int .i64 m), (8, .bool false), (9, .bool true), (14, .int .i64 ((Cal.addN a m))), (151, .bool p31)], A := [], L := [], cs := [{ val := fun _ => .bool false }] }
noncomputable def r7_18 (a b m : Int) (p31 : Bool) : RC := { ops := opsAt Try.f7 18, B := [0, 0, 3, 7, 15, 15, 31, 127], sl := [(0, .int .i64 a), (1, .int .i64 b), (2, .int .i64 m), (8, .bool false), (9, .bool true), (14, .int .i64 ((Cal.addN a m))), (151, .bool p31)], A := [], L := [], cs := [{ val := fun _ => .int .i64 b }, { val := fun _ => .int .i64 m }, { val := fun _ => .tuple #[.int .i64 ((Cal.addN b m)), .int .i64 ((Cal.addE b m))] }, { val := fun _ => .tuple #[.int .i64 ((Cal.addN b m)), .int .i64 ((Cal.addE b m))] }, { val := fun _ => .int .i64 ((Cal.addN b m)) }, { val := fun _ => .int .i64 ((Cal.addE b m)) }, { val := fun _ => .int .i64 ((Cal.addN b m)) }, { val := fun _ => .int .i64 ((Cal.addE b m)) }] }
noncomputable def r7_19 (a b m : Int) (p32 p33 p34 p35 p36 : Bool) : RC := { ops := opsAt Try.f7 19, B := [0, 1, 3, 7, 15, 31, 31, 127, 255, 511, 1023, 1023, 4095, 8191, 16383, 32767], sl := [(0, .int .i64 a), (1, .int .i64 b), (8, .bool false), (9, .bool true), (14, .int .i64 ((Cal.addN a m))), (27, .int .i64 ((Cal.addN b m))), (28, .int .i64 ((Cal.addE b m)))], A := [], L := [], cs := [{ val := fun _ => .bool true }, { val := fun _ => .bool true }, { val := fun _ => .int .i64 ((Cal.addE b m)) }, { val := fun _ => .bool p32 }, { val := fun _ => .bool p32 }, { val := fun _ => .int .i64 b }, { val := fun _ => .int .i64 a }, { val := fun _ => .bool p33 }, { val := fun _ => .bool p34 }, { val := fun _ => .bool p34 }, { val := fun _ => .int .i64 ((Cal.addN b m)) }, { val := fun _ => .int .i64 ((Cal.addN a m)) }, { val := fun _ => .bool p35 }, { val := fun _ => .bool p36 }, { val := fun _ => .bool p36 }, { val := fun _ => .bool p36 }] }
theorem adds_ct (a b m n : Int) (hl_a : -9223372036854775808 ≤ a) (hh_a : a ≤ 9223372036854775807) (hl_b : -9223372036854775808 ≤ b) (hh_b : b ≤ 9223372036854775807) (hl_m : -9223372036854775808 ≤ m) (hh_m : m ≤ 9223372036854775807) (hl_n : -9223372036854775808 ≤ n) (hh_n : n ≤ 9223372036854775807) (w : World) :
    Calls Try.prog 7 #[.int .i64 a, .int .i64 b, .int .i64 m, .int .i64 n] w (fun e w' => e = .returned (.bool true) ∧ Base [] w w') := by
  refine calls_of_W (sl := [(0, .int .i64 a), (1, .int .i64 b), (2, .int .i64 m), (3, .int .i64 n)]) (A := []) (L := []) Try.func7 (by kernel_rfl) 173 (by kernel_rfl) (by kernel_rfl) (fun _ h => by cases h) (by simp) ?_
  refine W.seq (by kernel_rfl) ?_
  refine W.reg (r7_0 a b m n) [0] [] (by kernel_rfl) mo (by kernel_rfl) (fun _ _ => by kernel_rfl) trivial (by kernel_rfl) ?_
  intro G1 xa xw hDn
  refine hDn.to [0, 1, 2, 3, 8] [] (by kernel_rfl) ?_
  refine At.then ?_
  refine W.seq (by kernel_rfl) ?_
  refine W.reg (r7_1 a b m n) [1] [0] (by kernel_rfl) mo (by kernel_rfl) (fun _ _ => by kernel_rfl) ⟨?_, trivial⟩ (by kernel_rfl) ?_
  · exact One.call (fun _ _ _ => sane_ct  _) (fun _ _ => by kernel_rfl)
  intro G2 xa xw hDn
  refine hDn.to [0, 1, 2, 3, 8, 9] [] (by kernel_rfl) ?_
  refine At.then ?_
  refine W.seq (by kernel_rfl) ?_
  refine W.seq (by kernel_rfl) ?_
  obtain ⟨p1, hp1⟩ : ∃ x : Bool, x = decide (m < (-5000)) := ⟨_, rfl⟩
  obtain ⟨p2, hp2⟩ : ∃ x : Bool, x = decide (5000 < m) := ⟨_, rfl⟩
  obtain ⟨p3, hp3⟩ : ∃ x : Bool, x = (p1 || p2) := ⟨_, rfl⟩
  obtain ⟨p4, hp4⟩ : ∃ x : Bool, x = decide (n < (-5000)) := ⟨_, rfl⟩
  obtain ⟨p5, hp5⟩ : ∃ x : Bool, x = (p3 || p4) := ⟨_, rfl⟩
  obtain ⟨p6, hp6⟩ : ∃ x : Bool, x = decide (5000 < n) := ⟨_, rfl⟩
  obtain ⟨p7, hp7⟩ : ∃ x : Bool, x = (p5 || p6) := ⟨_, rfl⟩
  refine W.reg (r7_2 a b m n p1 p2 p3 p4 p5 p6 p7) [0, 2, 3, 6, 7, 10, 11] [1, 4, 5, 8, 9, 12, 13] (by kernel_rfl) mo (by kernel_rfl) (fun _ _ => by kernel_rfl) ⟨?_, ?_, ?_, ?_, ?_, ?_, ?_, trivial⟩ (by kernel_rfl) ?_
  · exact One.bo hp1 (fun _ _ => by kernel_rfl)
  · exact One.bo hp2 (fun _ _ => by kernel_rfl)
  · subst hp3
    cases p1 <;> exact One.under fun _ _ _ => by kernel_rfl
  · exact One.bo hp4 (fun _ _ => by kernel_rfl)
  · subst hp5
    cases p3 <;> exact One.under fun _ _ _ => by kernel_rfl
  · exact One.bo hp6 (fun _ _ => by kernel_rfl)
  · subst hp7
    cases p5 <;> exact One.under fun _ _ _ => by kernel_rfl
  intro G3 xa xw hDn
  refine hDn.to [0, 1, 2, 3, 8, 9, 43] [] (by kernel_rfl) ?_
  refine At.then ?_
  refine W.cond p7 (by kernel_rfl) (fun xa hs => cnd_of (t := 43) (by kernel_rfl) (by kernel_rfl) hs) (fun hq => ?_) (fun hq => ?_)
  · skip
    have hq1 := hq
    replace hq1 := (iN hp7 (iOT (iN hp5 (iOT (iN hp3 (iOT (iN hp1 iDT) (iN hp2 iDT))) (iN hp4 iDT))) (iN hp6 iDT))).1 hq1
    refine W.seq (by kernel_rfl) ?_
    refine W.reg (r7_3 a b m n p7) [0, 1] [] (by kernel_rfl) mo (by kernel_rfl) (fun _ _ => by kernel_rfl) trivial (by kernel_rfl) ?_
    intro G4 xa xw hDn
    refine hDn.to [0, 1, 2, 3, 8, 9] [] (by kernel_rfl) ?_
    refine At.then ?_
    refine W.ret (by kernel_rfl) ?_
    refine At.thenRet ?_
    refine At.results (Or.inl rfl) (.bool true) (fun xa xw hs hw => results_one (r := .tmp 8) (by kernel_rfl) (res_tmp (t := 8) (by kernel_rfl) hs)) (fun w' hw => ?_)
    exact ⟨rfl, hw.base⟩
  · skip
    have hq2 := hq
    replace hq2 := (iN hp7 (iOF (iN hp5 (iOF (iN hp3 (iOF (iN hp1 iDF) (iN hp2 iDF))) (iN hp4 iDF))) (iN hp6 iDF))).1 hq2
    refine W.skip (by kernel_rfl) ?_
    refine At.then ?_
    refine W.seq (by kernel_rfl) ?_
    refine W.reg (r7_4 a b m n p7) [0, 2, 3, 4, 5, 6, 7, 8, 9, 10] [1] (by kernel_rfl) mo (by kernel_rfl) (fun _ _ => by kernel_rfl) ⟨?_, trivial⟩ (by kernel_rfl) ?_
    · exact One.call (fun _ _ _ => date_ct a _) (fun _ _ => by kernel_rfl)
    intro G5 xa xw hDn
    refine hDn.to [0, 1, 2, 3, 8, 9, 10, 11, 12, 13] [] (by kernel_rfl) ?_
    refine At.then ?_
    refine W.seq (by kernel_rfl) ?_
    refine W.reg (r7_5 a b m n) [0, 1, 3, 4, 5, 6, 7] [2] (by kernel_rfl) mo (by kernel_rfl) (fun _ _ => by kernel_rfl) ⟨?_, trivial⟩ (by kernel_rfl) ?_
    · exact One.call (fun _ _ _ => add_ct a m _) (fun _ _ => by kernel_rfl)
    intro G6 xa xw hDn
    refine hDn.to [0, 1, 2, 3, 8, 9, 10, 11, 12, 13, 14, 15] [] (by kernel_rfl) ?_
    refine At.then ?_
    refine W.seq (by kernel_rfl) ?_
    refine W.seq (by kernel_rfl) ?_
    obtain ⟨p8, hp8⟩ : ∃ x : Bool, x = !(decide ((Cal.dE a) = 0)) := ⟨_, rfl⟩
    refine W.reg (r7_6 a b m n p8) [0] [1] (by kernel_rfl) mo (by kernel_rfl) (fun _ _ => by kernel_rfl) ⟨?_, trivial⟩ (by kernel_rfl) ?_
    · exact One.bo hp8 (fun _ _ => by kernel_rfl)
    intro G7 xa xw hDn
    refine hDn.to [0, 1, 2, 3, 8, 9, 10, 11, 12, 14, 15, 59] [] (by kernel_rfl) ?_
    refine At.then ?_
    refine W.cond p8 (by kernel_rfl) (fun xa hs => cnd_of (t := 59) (by kernel_rfl) (by kernel_rfl) hs) (fun hq => ?_) (fun hq => ?_)
    · skip
      have hq3 := hq
      replace hq3 := (iN hp8 (iNT iDF)).1 hq3
      refine W.seq (by kernel_rfl) ?_
      obtain ⟨p9, hp9⟩ : ∃ x : Bool, x = decide ((Cal.addE a m) = 3) := ⟨_, rfl⟩
      refine W.reg (r7_7 a b m n p8 p9) [0, 1, 2, 4, 5] [3] (by kernel_rfl) mo (by kernel_rfl) (fun _ _ => by kernel_rfl) ⟨?_, trivial⟩ (by kernel_rfl) ?_
      · exact One.bo hp9 (fun _ _ => by kernel_rfl)
      intro G8 xa xw hDn
      refine hDn.to [0, 1, 2, 3, 8, 9, 10, 11, 12, 14, 15] [] (by kernel_rfl) ?_
      refine At.then ?_
      refine W.ret (by kernel_rfl) ?_
      refine At.thenRet ?_
      refine At.results (Or.inl rfl) (.bool p9) (fun xa xw hs hw => results_one (r := .tmp 8) (by kernel_rfl) (res_tmp (t := 8) (by kernel_rfl) hs)) (fun w' hw => ?_)
      refine ⟨retb ((iN hp9 iDT).2 ?_), hw.base⟩
      have h1 := Cal.dE_cases a
      have h2 := Cal.addE_cases a m
      have h3 := @Cal.addE_bad a m
      omega
    · skip
      have hq4 := hq
      replace hq4 := (iN hp8 (iNF iDT)).1 hq4
      refine W.skip (by kernel_rfl) ?_
      refine At.then ?_
      refine W.seq (by kernel_rfl) ?_
      refine W.seq (by kernel_rfl) ?_
      obtain ⟨p10, hp10⟩ : ∃ x : Bool, x = !(decide ((Cal.addE a m) = 0)) := ⟨_, rfl⟩
      refine W.reg (r7_8 a b m n p8 p10) [0] [1] (by kernel_rfl) mo (by kernel_rfl) (fun _ _ => by kernel_rfl) ⟨?_, trivial⟩ (by kernel_rfl) ?_
      · exact One.bo hp10 (fun _ _ => by kernel_rfl)
      intro G9 xa xw hDn
      refine hDn.to [0, 1, 2, 3, 8, 9, 10, 11, 12, 14, 15, 66] [] (by kernel_rfl) ?_
      refine At.then ?_
      refine W.cond p10 (by kernel_rfl) (fun xa hs => cnd_of (t := 66) (by kernel_rfl) (by kernel_rfl) hs) (fun hq => ?_) (fun hq => ?_)
      · skip
        have hq5 := hq
        replace hq5 := (iN hp10 (iNT iDF)).1 hq5
        refine W.seq (by kernel_rfl) ?_
        obtain ⟨p11, hp11⟩ : ∃ x : Bool, x = decide ((Cal.addE a m) = 3) := ⟨_, rfl⟩
        obtain ⟨p12, hp12⟩ : ∃ x : Bool, x = decide ((Cal.addN a m) = 0) := ⟨_, rfl⟩
        obtain ⟨p13, hp13⟩ : ∃ x : Bool, x = (p11 && p12) := ⟨_, rfl⟩
        refine W.reg (r7_9 a b m n p10 p11 p12 p13) [0, 1, 2, 4, 5, 6, 9] [3, 7, 8] (by kernel_rfl) mo (by kernel_rfl) (fun _ _ => by kernel_rfl) ⟨?_, ?_, ?_, trivial⟩ (by kernel_rfl) ?_
        · exact One.bo hp11 (fun _ _ => by kernel_rfl)
        · exact One.bo hp12 (fun _ _ => by kernel_rfl)
        · subst hp13
          cases p11 <;> exact One.under fun _ _ _ => by kernel_rfl
        intro G10 xa xw hDn
        refine hDn.to [0, 1, 2, 3, 8, 9, 10, 11, 12, 14] [] (by kernel_rfl) ?_
        refine At.then ?_
        refine W.ret (by kernel_rfl) ?_
        refine At.thenRet ?_
        refine At.results (Or.inl rfl) (.bool p13) (fun xa xw hs hw => results_one (r := .tmp 8) (by kernel_rfl) (res_tmp (t := 8) (by kernel_rfl) hs)) (fun w' hw => ?_)
        refine ⟨retb ((iN hp13 (iAT (iN hp11 iDT) (iN hp12 iDT))).2 ?_), hw.base⟩
        have h1 := Cal.dE_cases a
        have h2 := Cal.addE_cases a m
        have h3 := @Cal.addE_bad a m
        omega
      · skip
        have hq6 := hq
        replace hq6 := (iN hp10 (iNF iDT)).1 hq6
        refine W.skip (by kernel_rfl) ?_
        refine At.then ?_
        refine W.seq (by kernel_rfl) ?_
        have hA := Cal.dE_cases a
        have hok : Cal.okAdd a m := by rcases Cal.addE_cases a m with ⟨_, h, _⟩ | ⟨h, _⟩; exact h; omega
        have hd := Cal.add_date hok
        have hk := Cal.d_key hok.1.1 hok.1.2
        have hxb := Cal.addE_cases a m
        have hkx := Cal.d_key (d := Cal.addN a m) (by omega) (by omega)
        have ht := @Cal.add_twice a m n hok
        have hmono := @Cal.add_mono2 a b m hok
        have hlnb := Cal.ln_bd (Cal.addK a m)
        have hxv := Cal.dE_cases (Cal.addN a m)
        refine W.reg (r7_10 a b m n p10) [0, 2, 3, 4, 5, 6, 7, 8, 9, 10] [1] (by kernel_rfl) mo (by kernel_rfl) (fun _ _ => by kernel_rfl) ⟨?_, trivial⟩ (by kernel_rfl) ?_
        · exact One.call (fun _ _ _ => date_ct ((Cal.addN a m)) _) (fun _ _ => by kernel_rfl)
        intro G11 xa xw hDn
        refine hDn.to [0, 1, 2, 3, 8, 9, 10, 11, 12, 14, 16, 17, 18, 19] [] (by kernel_rfl) ?_
        refine At.then ?_
        refine W.seq (by kernel_rfl) ?_
        refine W.reg (r7_11 a b m n) [0, 2, 3, 4, 5, 6, 7, 8] [1] (by kernel_rfl) mo (by kernel_rfl) (fun _ _ => by kernel_rfl) ⟨?_, trivial⟩ (by kernel_rfl) ?_
        · exact One.call (fun _ _ _ => month_ct ((Cal.addN a m)) _) (fun _ _ => by kernel_rfl)
        intro G12 xa xw hDn
        refine hDn.to [0, 1, 2, 3, 8, 9, 10, 11, 12, 14, 16, 17, 18, 19, 21, 22] [] (by kernel_rfl) ?_
        refine At.then ?_
        refine W.seq (by kernel_rfl) ?_
        refine W.seq (by kernel_rfl) ?_
        obtain ⟨p14, hp14⟩ : ∃ x : Bool, x = !(decide ((Cal.dE ((Cal.addN a m))) = 0)) := ⟨_, rfl⟩
        obtain ⟨p15, hp15⟩ : ∃ x : Bool, x = !(decide ((Cal.dE ((Cal.addN a m))) = 0)) := ⟨_, rfl⟩
        obtain ⟨p16, hp16⟩ : ∃ x : Bool, x = (p14 || p15) := ⟨_, rfl⟩
        obtain ⟨n1, hn1⟩ : ∃ x : Int, x = ((Cal.dY ((Cal.addN a m)))) * 12 := ⟨_, rfl⟩
        obtain ⟨n2, hn2⟩ : ∃ x : Int, x = n1 + ((Cal.dM ((Cal.addN a m)))) := ⟨_, rfl⟩
        obtain ⟨n3, hn3⟩ : ∃ x : Int, x = ((Cal.dY a)) * 12 := ⟨_, rfl⟩
        obtain ⟨n4, hn4⟩ : ∃ x : Int, x = n3 + ((Cal.dM a)) := ⟨_, rfl⟩
        obtain ⟨n5, hn5⟩ : ∃ x : Int, x = n4 + m := ⟨_, rfl⟩
        obtain ⟨p17, hp17⟩ : ∃ x : Bool, x = !(decide (n2 = n5)) := ⟨_, rfl⟩
        obtain ⟨p18, hp18⟩ : ∃ x : Bool, x = (p16 || p17) := ⟨_, rfl⟩
        obtain ⟨p19, hp19⟩ : ∃ x : Bool, x = !(decide ((Cal.dD ((Cal.addN a m))) = (Cal.dD a))) := ⟨_, rfl⟩
        obtain ⟨p20, hp20⟩ : ∃ x : Bool, x = decide ((Cal.dD a) < (Cal.dD ((Cal.addN a m)))) := ⟨_, rfl⟩
        obtain ⟨p21, hp21⟩ : ∃ x : Bool, x = !(decide ((Cal.addN a m) = (Cal.monL ((Cal.addN a m))))) := ⟨_, rfl⟩
        obtain ⟨p22, hp22⟩ : ∃ x : Bool, x = (p20 || p21) := ⟨_, rfl⟩
        obtain ⟨p23, hp23⟩ : ∃ x : Bool, x = (p19 && p22) := ⟨_, rfl⟩
        obtain ⟨p24, hp24⟩ : ∃ x : Bool, x = (p18 || p23) := ⟨_, rfl⟩
        refine W.reg (r7_12 a b m n p14 p15 p16 n1 n2 n3 n4 n5 p17 p18 p19 p20 p21 p22 p23 p24) [0, 2, 3, 6, 7, 9, 11, 13, 15, 19, 20, 21, 23, 24, 25, 27, 28, 29] [1, 4, 5, 8, 10, 12, 14, 16, 17, 18, 22, 26, 30, 31, 32, 33] (by kernel_rfl) mo (by kernel_rfl) (fun _ _ => by kernel_rfl) ⟨?_, ?_, ?_, ?_, ?_, ?_, ?_, ?_, ?_, ?_, ?_, ?_, ?_, ?_, ?_, ?_, trivial⟩ (by kernel_rfl) ?_
        · exact One.bo hp14 (fun _ _ => by kernel_rfl)
        · exact One.bo hp15 (fun _ _ => by kernel_rfl)
        · subst hp16
          cases p14 <;> exact One.under fun _ _ _ => by kernel_rfl
        · exact One.ar hn1 (fun _ _ => by kernel_rfl) (fun G w hs => by
            have hg := gd_of hs (p := (true && (p16 == false))) (by kernel_rfl)
            have hg0 := (iN hp16 (iOF (iN hp14 (iNF iDT)) (iN hp15 (iNF iDT)))).1 (eqF (andR hg))
            exact by omega)
        · exact One.ar hn2 (fun _ _ => by kernel_rfl) (fun G w hs => by
            have hg := gd_of hs (p := (true && (p16 == false))) (by kernel_rfl)
            have hg0 := (iN hp16 (iOF (iN hp14 (iNF iDT)) (iN hp15 (iNF iDT)))).1 (eqF (andR hg))
            exact by omega)
        · exact One.ar hn3 (fun _ _ => by kernel_rfl) (fun G w hs => by
            have hg := gd_of hs (p := (true && (p16 == false))) (by kernel_rfl)
            have hg0 := (iN hp16 (iOF (iN hp14 (iNF iDT)) (iN hp15 (iNF iDT)))).1 (eqF (andR hg))
            exact by omega)
        · exact One.ar hn4 (fun _ _ => by kernel_rfl) (fun G w hs => by
            have hg := gd_of hs (p := (true && (p16 == false))) (by kernel_rfl)
            have hg0 := (iN hp16 (iOF (iN hp14 (iNF iDT)) (iN hp15 (iNF iDT)))).1 (eqF (andR hg))
            exact by omega)
        · exact One.ar hn5 (fun _ _ => by kernel_rfl) (fun G w hs => by
            have hg := gd_of hs (p := (true && (p16 == false))) (by kernel_rfl)
            have hg0 := (iN hp16 (iOF (iN hp14 (iNF iDT)) (iN hp15 (iNF iDT)))).1 (eqF (andR hg))
            exact by omega)
        · exact One.bo hp17 (fun _ _ => by kernel_rfl)
        · subst hp18
          cases p16 <;> exact One.under fun _ _ _ => by kernel_rfl
        · exact One.bo hp19 (fun _ _ => by kernel_rfl)
        · exact One.bo hp20 (fun _ _ => by kernel_rfl)
        · exact One.bo hp21 (fun _ _ => by kernel_rfl)
        · subst hp22
          refine One.under fun G w hs => ?_
          revert hs
          cases p20
          · cases p19
            · cases p18
              · intro hs; exact absurd hs.gd (by rw [show RC.gd _ _ 31 = false from by kernel_rfl]; decide)
              · intro hs; exact absurd hs.gd (by rw [show RC.gd _ _ 31 = false from by kernel_rfl]; decide)
            · cases p18
              · intro _; kernel_rfl
              · intro hs; exact absurd hs.gd (by rw [show RC.gd _ _ 31 = false from by kernel_rfl]; decide)
          · cases p19
            · cases p18
              · intro hs; exact absurd hs.gd (by rw [show RC.gd _ _ 31 = false from by kernel_rfl]; decide)
              · intro hs; exact absurd hs.gd (by rw [show RC.gd _ _ 31 = false from by kernel_rfl]; decide)
            · cases p18
              · intro _; kernel_rfl
              · intro hs; exact absurd hs.gd (by rw [show RC.gd _ _ 31 = false from by kernel_rfl]; decide)
        · subst hp23
          refine One.under fun G w hs => ?_
          revert hs
          cases p19
          · cases p18
            · intro _; kernel_rfl
            · intro hs; exact absurd hs.gd (by rw [show RC.gd _ _ 32 = false from by kernel_rfl]; decide)
          · cases p18
            · intro _; kernel_rfl
            · intro hs; exact absurd hs.gd (by rw [show RC.gd _ _ 32 = false from by kernel_rfl]; decide)
        · subst hp24
          cases p18 <;> exact One.under fun _ _ _ => by kernel_rfl
        intro G13 xa xw hDn
        refine hDn.to [0, 1, 2, 3, 8, 9, 12, 14, 122] [] (by kernel_rfl) ?_
        refine At.then ?_
        refine W.cond p24 (by kernel_rfl) (fun xa hs => cnd_of (t := 122) (by kernel_rfl) (by kernel_rfl) hs) (fun hq => ?_) (fun hq => ?_)
        · skip
          have hq7 := hq
          replace hq7 := (iN hp24 (iOT (iN hp18 (iOT (iN hp16 (iOT (iN hp14 (iNT iDF)) (iN hp15 (iNT iDF)))) (iN hp17 (iNT iDF)))) (iN hp23 (iAT (iN hp19 (iNT iDF)) (iN hp22 (iOT (iN hp20 iDT) (iN hp21 (iNT iDF)))))))).1 hq7
          refine W.seq (by kernel_rfl) ?_
          refine W.reg (r7_13 a b m n p24) [0] [] (by kernel_rfl) mo (by kernel_rfl) (fun _ _ => by kernel_rfl) trivial (by kernel_rfl) ?_
          intro G14 xa xw hDn
          refine hDn.to [0, 1, 2, 3, 8, 9, 12, 14] [] (by kernel_rfl) ?_
          refine At.then ?_
          refine W.ret (by kernel_rfl) ?_
          refine At.thenRet ?_
          refine At.results (Or.inl rfl) (.bool false) (fun xa xw hs hw => results_one (r := .tmp 8) (by kernel_rfl) (res_tmp (t := 8) (by kernel_rfl) hs)) (fun w' hw => ?_)
          exfalso
          have h1 := Cal.dE_cases a
          have h2 := Cal.addE_cases a m
          have h3 := @Cal.addE_bad a m
          omega
        · skip
          have hq8 := hq
          replace hq8 := (iN hp24 (iOF (iN hp18 (iOF (iN hp16 (iOF (iN hp14 (iNF iDT)) (iN hp15 (iNF iDT)))) (iN hp17 (iNF iDT)))) (iN hp23 (iAF (iN hp19 (iNF iDT)) (iN hp22 (iOF (iN hp20 iDF) (iN hp21 (iNF iDT)))))))).1 hq8
          refine W.skip (by kernel_rfl) ?_
          refine At.then ?_
          refine W.seq (by kernel_rfl) ?_
          refine W.reg (r7_14 a b m n p24) [0, 1, 3, 4, 5, 6, 7] [2] (by kernel_rfl) mo (by kernel_rfl) (fun _ _ => by kernel_rfl) ⟨?_, trivial⟩ (by kernel_rfl) ?_
          · exact One.call (fun _ _ _ => add_ct ((Cal.addN a m)) n _) (fun _ _ => by kernel_rfl)
          intro G15 xa xw hDn
          refine hDn.to [0, 1, 2, 3, 8, 9, 12, 14, 23, 24] [] (by kernel_rfl) ?_
          refine At.then ?_
          refine W.seq (by kernel_rfl) ?_
          obtain ⟨n6, hn6⟩ : ∃ x : Int, x = m + n := ⟨_, rfl⟩
          refine W.reg (r7_15 a b m n n6) [0, 1, 2, 5, 6, 7, 8, 9] [3, 4] (by kernel_rfl) mo (by kernel_rfl) (fun _ _ => by kernel_rfl) ⟨?_, ?_, trivial⟩ (by kernel_rfl) ?_
          · exact One.ar hn6 (fun _ _ => by kernel_rfl) (fun _ _ _ => by omega)
          · exact One.call (fun _ _ _ => add_ct a n6 _) (fun _ _ => by kernel_rfl)
          intro G16 xa xw hDn
          refine hDn.to [0, 1, 2, 8, 9, 12, 14, 23, 24, 25, 26] [] (by kernel_rfl) ?_
          refine At.then ?_
          refine W.seq (by kernel_rfl) ?_
          refine W.seq (by kernel_rfl) ?_
          obtain ⟨p25, hp25⟩ : ∃ x : Bool, x = decide ((Cal.dD a) ≤ 28) := ⟨_, rfl⟩
          obtain ⟨p26, hp26⟩ : ∃ x : Bool, x = decide ((Cal.addE ((Cal.addN a m)) n) = 0) := ⟨_, rfl⟩
          obtain ⟨p27, hp27⟩ : ∃ x : Bool, x = (p25 && p26) := ⟨_, rfl⟩
          obtain ⟨p28, hp28⟩ : ∃ x : Bool, x = !(decide ((Cal.addE a n6) = 0)) := ⟨_, rfl⟩
          obtain ⟨p29, hp29⟩ : ∃ x : Bool, x = !(decide ((Cal.addN a n6) = (Cal.addN ((Cal.addN a m)) n))) := ⟨_, rfl⟩
          obtain ⟨p30, hp30⟩ : ∃ x : Bool, x = (p28 || p29) := ⟨_, rfl⟩
          obtain ⟨p31, hp31⟩ : ∃ x : Bool, x = (p27 && p30) := ⟨_, rfl⟩
          rw [show m + n = n6 from by omega] at ht
          refine W.reg (r7_16 a b m n n6 p25 p26 p27 p28 p29 p30 p31) [0, 2, 3, 6, 7, 9, 10, 11] [1, 4, 5, 8, 12, 13, 14] (by kernel_rfl) mo (by kernel_rfl) (fun _ _ => by kernel_rfl) ⟨?_, ?_, ?_, ?_, ?_, ?_, ?_, trivial⟩ (by kernel_rfl) ?_
          · exact One.bo hp25 (fun _ _ => by kernel_rfl)
          · exact One.bo hp26 (fun _ _ => by kernel_rfl)
          · subst hp27
            cases p25 <;> exact One.under fun _ _ _ => by kernel_rfl
          · exact One.bo hp28 (fun _ _ => by kernel_rfl)
          · exact One.bo hp29 (fun _ _ => by kernel_rfl)
          · subst hp30
            refine One.under fun G w hs => ?_
            revert hs
            cases p28
            · cases p27
              · intro hs; exact absurd hs.gd (by rw [show RC.gd _ _ 13 = false from by kernel_rfl]; decide)
              · intro _; kernel_rfl
            · cases p27
              · intro hs; exact absurd hs.gd (by rw [show RC.gd _ _ 13 = false from by kernel_rfl]; decide)
              · intro _; kernel_rfl
          · subst hp31
            cases p27 <;> exact One.under fun _ _ _ => by kernel_rfl
          intro G17 xa xw hDn
          refine hDn.to [0, 1, 2, 8, 9, 14, 151] [] (by kernel_rfl) ?_
          refine At.then ?_
          refine W.cond p31 (by kernel_rfl) (fun xa hs => cnd_of (t := 151) (by kernel_rfl) (by kernel_rfl) hs) (fun hq => ?_) (fun hq => ?_)
          · skip
            have hq9 := hq
            replace hq9 := (iN hp31 (iAT (iN hp27 (iAT (iN hp25 iDT) (iN hp26 iDT))) (iN hp30 (iOT (iN hp28 (iNT iDF)) (iN hp29 (iNT iDF)))))).1 hq9
            refine W.seq (by kernel_rfl) ?_
            refine W.reg (r7_17 a b m p31) [0] [] (by kernel_rfl) mo (by kernel_rfl) (fun _ _ => by kernel_rfl) trivial (by kernel_rfl) ?_
            intro G18 xa xw hDn
            refine hDn.to [0, 1, 2, 8, 9, 14] [] (by kernel_rfl) ?_
            refine At.then ?_
            refine W.ret (by kernel_rfl) ?_
            refine At.thenRet ?_
            refine At.results (Or.inl rfl) (.bool false) (fun xa xw hs hw => results_one (r := .tmp 8) (by kernel_rfl) (res_tmp (t := 8) (by kernel_rfl) hs)) (fun w' hw => ?_)
            exfalso
            have h1 := Cal.dE_cases a
            have h2 := Cal.addE_cases a m
            have h3 := @Cal.addE_bad a m
            omega
          · skip
            have hq10 := hq
            replace hq10 := (iN hp31 (iAF (iN hp27 (iAF (iN hp25 iDF) (iN hp26 iDF))) (iN hp30 (iOF (iN hp28 (iNF iDT)) (iN hp29 (iNF iDT)))))).1 hq10
            refine W.skip (by kernel_rfl) ?_
            refine At.then ?_
            refine W.seq (by kernel_rfl) ?_
            refine W.reg (r7_18 a b m p31) [0, 1, 3, 4, 5, 6, 7] [2] (by kernel_rfl) mo (by kernel_rfl) (fun _ _ => by kernel_rfl) ⟨?_, trivial⟩ (by kernel_rfl) ?_
            · exact One.call (fun _ _ _ => add_ct b m _) (fun _ _ => by kernel_rfl)
            intro G19 xa xw hDn
            refine hDn.to [0, 1, 8, 9, 14, 27, 28] [] (by kernel_rfl) ?_
            refine At.then ?_
            refine W.seq (by kernel_rfl) ?_
            obtain ⟨p32, hp32⟩ : ∃ x : Bool, x = !(decide ((Cal.addE b m) = 0)) := ⟨_, rfl⟩
            obtain ⟨p33, hp33⟩ : ∃ x : Bool, x = decide (b < a) := ⟨_, rfl⟩
            obtain ⟨p34, hp34⟩ : ∃ x : Bool, x = (p32 || p33) := ⟨_, rfl⟩
            obtain ⟨p35, hp35⟩ : ∃ x : Bool, x = decide ((Cal.addN a m) ≤ (Cal.addN b m)) := ⟨_, rfl⟩
            obtain ⟨p36, hp36⟩ : ∃ x : Bool, x = (p34 || p35) := ⟨_, rfl⟩
            refine W.reg (r7_19 a b m p32 p33 p34 p35 p36) [0, 1, 2, 4, 5, 6, 9, 10, 11, 14, 15] [3, 7, 8, 12, 13] (by kernel_rfl) mo (by kernel_rfl) (fun _ _ => by kernel_rfl) ⟨?_, ?_, ?_, ?_, ?_, trivial⟩ (by kernel_rfl) ?_
            · exact One.bo hp32 (fun _ _ => by kernel_rfl)
            · exact One.bo hp33 (fun _ _ => by kernel_rfl)
            · subst hp34
              refine One.under fun G w hs => ?_
              revert hs
              cases p32
              · intro _; kernel_rfl
              · intro _; kernel_rfl
            · exact One.bo hp35 (fun _ _ => by kernel_rfl)
            · subst hp36
              refine One.under fun G w hs => ?_
              revert hs
              cases p34
              · intro _; kernel_rfl
              · intro _; kernel_rfl
            intro G20 xa xw hDn
            refine hDn.to [8] [] (by kernel_rfl) ?_
            refine At.then ?_
            refine W.ret (by kernel_rfl) ?_
            refine At.results (Or.inl rfl) (.bool p36) (fun xa xw hs hw => results_one (r := .tmp 8) (by kernel_rfl) (res_tmp (t := 8) (by kernel_rfl) hs)) (fun w' hw => ?_)
            refine ⟨retb ((iN hp36 (iOT (iN hp34 (iOT (iN hp32 (iNT iDF)) (iN hp33 iDT))) (iN hp35 iDT))).2 ?_), hw.base⟩
            have h1 := Cal.dE_cases a
            have h2 := Cal.addE_cases a m
            have h3 := @Cal.addE_bad a m
            omega
end Go.Proofs.Ythkocilclhjokaa
