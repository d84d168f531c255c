/- The contracts of reveal: agreeing. -/
import Derived.Test.YtaolgnmpgnamnaaVe
set_option linter.unusedVariables false
set_option linter.unusedSimpArgs false
namespace Kb
open Go Go.Proofs
set_option maxRecDepth 10000 in
theorem agree_ct (paths : List (Fat Int)) (pathss : SV) (seen : List (Fat DThing)) (seens : SV) (others : List (Fat Int)) (otherss : SV) (shown : List (Fat DThing)) (showns : SV) :
    Cp Try.prog 37 #[pathss.v, seens.v, otherss.v, showns.v] [fs true paths pathss, fs true seen seens, fs true others otherss, fs true shown showns] (bv (decide (Rv.AgreeP (Rv.ls paths) (Rv.ls seen) (Rv.ls others) (Rv.ls shown)))) := by
  refine V.fn mo Try.func37 62 5 (by kernel_rfl) fun w H ε k0 => ?_
  obtain ⟨⟨kl1, -⟩, ⟨kl2, -⟩, ⟨kl3, -⟩, ⟨kl4, -⟩, -⟩ : Lq paths pathss.v ∧ Lq seen seens.v ∧ Lq others otherss.v ∧ Lq shown showns.v ∧ True := kn k0 (by kernel_rfl)
  clear k0
  refine V.go [.k (bv false)] (fun _ _ => by kernel_rfl) fun _ _ G1 => ?_
  intro S1 t1
  refine nm ((!(decide (Rv.Form (Rv.ls paths) (Rv.ls seen)))) || (!(decide (Rv.Form (Rv.ls others) (Rv.ls shown)))) : Bool) fun p1 hp1 => ?_
  refine V.go [.k (pathss.v),
    .k (seens.v),
    .cp g0 2 63 [(kf false (.f 0) paths (fun _ => pathss)).a, (kf false (.f 1) seen (fun _ => seens)).a] (fun _ G => form_ct paths pathss seen seens),
    .k (bv (!(decide (Rv.Form (Rv.ls paths) (Rv.ls seen))))),
    .k (bv (!(decide (Rv.Form (Rv.ls paths) (Rv.ls seen))))),
    .k (otherss.v),
    .k (showns.v),
    .cp (gF (b := !(decide (Rv.Form (Rv.ls paths) (Rv.ls seen)))) (iNF iDT)) 7 63 [(kf false (.f 2) others (fun _ => otherss)).a, (kf false (.f 3) shown (fun _ => showns)).a] (fun hg G => form_ct others otherss shown showns),
    .k (bv (!(decide (Rv.Form (Rv.ls others) (Rv.ls shown))))),
    .orn g0 false (!(decide (Rv.Form (Rv.ls paths) (Rv.ls seen)))) (!(decide (Rv.Form (Rv.ls others) (Rv.ls shown)))) p1 hp1] (fun _ _ => by kernel_rfl) fun _ _ G2 => ?_
  intro S2 t2
  refine V.cond (b := p1) (iN hp1 (iOT (iNT iDF) (iNT iDF))) (iN hp1 (iOF (iNF iDT) (iNF iDT))) (by kernel_rfl) (fun q1 => ?_) (fun q2 => ?_)
  · skip
    refine V.go [.k (bv false)] (fun _ _ => by kernel_rfl) fun _ _ G3 => ?_
    intro S3 t3
    have e0 : false = decide (Rv.AgreeP (Rv.ls paths) (Rv.ls seen) (Rv.ls others) (Rv.ls shown)) := by
      symm; rw [decide_eq_false_iff_not]
      rintro ⟨h1, h2, _⟩; rcases q1 with h | h
      · exact h h1
      · exact h h2
    exact V.ret [0] [] [] [] [] [] (bv false) (fun _ _ => by kernel_rfl) (fun _ _ => (Eq.trans (by kernel_rfl) (cong1 (fun (x0 : Bool) => (bv x0 : Value)) e0)).trans (by kernel_rfl)) (fun _ _ => trivial)
  · skip
    have hG1 : Rv.Form (Rv.ls paths) (Rv.ls seen) := by first | exact q2.1 | exact Decidable.not_not.1 q2.1
    have hG2 : Rv.Form (Rv.ls others) (Rv.ls shown) := by first | exact q2.2 | exact Decidable.not_not.1 q2.2
    have hq1 := Rv.form_q hG1; have hq2 := Rv.form_q hG2
    have hq3 : seen.length = paths.length := by have := hG1.2.2.1; rwa [Rv.ls_length, Rv.ls_length] at this
    have hq4 : shown.length = others.length := by have := hG2.2.2.1; rwa [Rv.ls_length, Rv.ls_length] at this
    refine V.go [.mm Int DThing 0 0 true,
      .mm Int DThing 1 1 true,
      .v fun G => .agg #[.map (some ((G 0).b)), .map (some ((G 1).b))],
      .nb 3 2 (fun b => pp b 0) 85 (fun _ => #[.map none, .map none]),
      .st 2 (fun G => .blk ((G 3).b) #[.map (some ((G 0).b)), .map (some ((G 1).b))] 85)] (fun _ _ => by kernel_rfl) fun _ _ G4 => ?_
    intro S4 t4
    refine V.reg [.k (seens.v),
      .k (showns.v),
      .nr 2 false 48 ([⟨seen, seens⟩, ⟨shown, showns⟩] : List (Fat (Fat DThing))) [(kf false (.f 1) seen (fun _ => seens)).a, (kf false (.f 3) shown (fun _ => showns)).a] (fun _ _ h => (List.forall_mem_cons.2 ⟨h.1, (List.forall_mem_cons.2 ⟨h.2.1, (List.forall_mem_nil _)⟩)⟩)) (fun _ => #[seens.v, showns.v]),
      .ct g0 3 66 true [] [3] [(kf false (.g 2 0) ([⟨seen, seens⟩, ⟨shown, showns⟩] : List (Fat (Fat DThing))) (fun G => ⟨atB (G 2).b, 2, 2⟩)).a] (fun _ G => concatt_ct ([⟨seen, seens⟩, ⟨shown, showns⟩] : List (Fat (Fat DThing))) ⟨atB (G 2).b, 2, 2⟩ (by simp) (by rintro x hx; simp only [List.mem_cons, List.not_mem_nil, or_false] at hx; rcases hx with rfl | rfl <;> (first | (show seen.length ≤ 100; omega) | (show shown.length ≤ 100; omega) | (show paths.length ≤ 100; omega) | (show others.length ≤ 100; omega)))),
      .v fun G => ((G 3).ss 0).v] (fun _ _ => by kernel_rfl) fun _ _ G5 kw5 => ?_
    intro S5 t5
    obtain ⟨⟨kl5, -⟩, -⟩ : Lq ([⟨seen, seens⟩, ⟨shown, showns⟩] : List (Fat (Fat DThing))) (SV.v ⟨atB (G5 2).b, 2, 2⟩) ∧ True ∧ True ∧ Lq (Rv.cat ([⟨seen, seens⟩, ⟨shown, showns⟩] : List (Fat (Fat DThing)))) (((G5 3).ss 0).v) ∧ True := kn kw5 (by kernel_rfl)
    clear kw5
    refine V.reg [.k (pathss.v),
      .k (otherss.v),
      .nr 2 false 47 ([⟨paths, pathss⟩, ⟨others, otherss⟩] : List (Fat (Fat Int))) [(kf false (.f 0) paths (fun _ => pathss)).a, (kf false (.f 2) others (fun _ => otherss)).a] (fun _ _ h => (List.forall_mem_cons.2 ⟨h.1, (List.forall_mem_cons.2 ⟨h.2.1, (List.forall_mem_nil _)⟩)⟩)) (fun _ => #[pathss.v, otherss.v]),
      .ct g0 3 67 true [] [4] [(kf false (.g 2 0) ([⟨paths, pathss⟩, ⟨others, otherss⟩] : List (Fat (Fat Int))) (fun G => ⟨atB (G 2).b, 2, 2⟩)).a] (fun _ G => concati_ct ([⟨paths, pathss⟩, ⟨others, otherss⟩] : List (Fat (Fat Int))) ⟨atB (G 2).b, 2, 2⟩ (by simp) (by rintro x hx; simp only [List.mem_cons, List.not_mem_nil, or_false] at hx; rcases hx with rfl | rfl <;> (first | (show seen.length ≤ 100; omega) | (show shown.length ≤ 100; omega) | (show paths.length ≤ 100; omega) | (show others.length ≤ 100; omega)))),
      .ln (ko false 26 4 (Rv.cat ([⟨paths, pathss⟩, ⟨others, otherss⟩] : List (Fat (Fat Int)))) (fun G => (G 3).ss 0)),
      .k (iv 0)] (fun _ _ => by kernel_rfl) fun _ _ G6 kw6 => ?_
    intro S6 t6
    obtain ⟨⟨kl6, -⟩, -⟩ : Lq ([⟨paths, pathss⟩, ⟨others, otherss⟩] : List (Fat (Fat Int))) (SV.v ⟨atB (G6 2).b, 2, 2⟩) ∧ True ∧ True ∧ Lq (Rv.cat ([⟨seen, seens⟩, ⟨shown, showns⟩] : List (Fat (Fat DThing)))) (((G5 3).ss 0).v) ∧ Lq (Rv.cat ([⟨paths, pathss⟩, ⟨others, otherss⟩] : List (Fat (Fat Int)))) (((G6 3).ss 0).v) ∧ True := kn kw6 (by kernel_rfl)
    clear kw6
    obtain ⟨hagl, hagb, hagw⟩ := Rv.agree_len (s := seens) (s' := showns) (t := pathss) (t' := otherss) hG1 hG2
    refine V.loop (γ := Int × List (Int × DThing) × List (Int × DThing)) (fun ⟨k0, mh, mo⟩ => ⟨[(9, pp ((G4 3).b) 0), (10, ((G5 3).ss 0).v), (35, ((G6 3).ss 0).v), (36, iv ((Rv.cat ([⟨paths, pathss⟩, ⟨others, otherss⟩] : List (Fat (Fat Int)))).length : Int)), (37, iv k0)], [], [mp true true mh ((G4 0).b), mp true true mo ((G4 1).b), .blk ((G4 3).b) #[.map (some ((G4 0).b)), .map (some ((G4 1).b))] 85, os false 22 (Rv.cat ([⟨seen, seens⟩, ⟨shown, showns⟩] : List (Fat (Fat DThing)))) ((G5 3).ss 0), os false 26 (Rv.cat ([⟨paths, pathss⟩, ⟨others, otherss⟩] : List (Fat (Fat Int)))) ((G6 3).ss 0)]⟩) (fun ⟨k0, mh, mo⟩ => (0 ≤ k0) ∧ (k0 ≤ ((Rv.cat ([⟨paths, pathss⟩, ⟨others, otherss⟩] : List (Fat (Fat Int)))).length : Int)) ∧ (Rv.runs (Rv.flat ((Rv.ls (Rv.cat ([⟨paths, pathss⟩, ⟨others, otherss⟩] : List (Fat (Fat Int))))).take k0.toNat) ((Rv.ls (Rv.cat ([⟨seen, seens⟩, ⟨shown, showns⟩] : List (Fat (Fat DThing))))).take k0.toNat)) = some (mh, mo))) (fun ⟨k0, mh, mo⟩ => (((Rv.cat ([⟨paths, pathss⟩, ⟨others, otherss⟩] : List (Fat (Fat Int)))).length : Int) - k0).toNat) (0, ([] : List (Int × DThing)), ([] : List (Int × DThing))) (by kernel_rfl) [] (by kernel_rfl) ?_ ?_
    · skip
      refine ⟨?_, ?_, ?_⟩
      · show 0 ≤ (0 : Int)
        first | omega | rfl | (simp; done) | (subst_vars; simp; done)
      · show (0 : Int) ≤ ((Rv.cat ([⟨paths, pathss⟩, ⟨others, otherss⟩] : List (Fat (Fat Int)))).length : Int)
        first | omega | rfl | (simp; done) | (subst_vars; simp; done)
      · show Rv.runs (Rv.flat ((Rv.ls (Rv.cat ([⟨paths, pathss⟩, ⟨others, otherss⟩] : List (Fat (Fat Int))))).take (0 : Int).toNat) ((Rv.ls (Rv.cat ([⟨seen, seens⟩, ⟨shown, showns⟩] : List (Fat (Fat DThing))))).take (0 : Int).toNat)) = some (([] : List (Int × DThing)), ([] : List (Int × DThing)))
        rfl
    · rintro ⟨k0, mh, mo⟩ hF1 kw7 Z1 hZ1
      have hF1 : (0 ≤ k0) ∧ (k0 ≤ ((Rv.cat ([⟨paths, pathss⟩, ⟨others, otherss⟩] : List (Fat (Fat Int)))).length : Int)) ∧ (Rv.runs (Rv.flat ((Rv.ls (Rv.cat ([⟨paths, pathss⟩, ⟨others, otherss⟩] : List (Fat (Fat Int))))).take k0.toNat) ((Rv.ls (Rv.cat ([⟨seen, seens⟩, ⟨shown, showns⟩] : List (Fat (Fat DThing))))).take k0.toNat)) = some (mh, mo)) := hF1
      obtain ⟨hf1, hf2, hf3⟩ := hF1
      clear kw7
      refine V.go [.k (bv (decide (k0 < ((Rv.cat ([⟨paths, pathss⟩, ⟨others, otherss⟩] : List (Fat (Fat Int)))).length : Int))))] (fun _ _ => by kernel_rfl) fun _ _ G7 => ?_
      intro S7 t7
      refine V.cond (b := decide (k0 < ((Rv.cat ([⟨paths, pathss⟩, ⟨others, otherss⟩] : List (Fat (Fat Int)))).length : Int))) iDT iDF (by kernel_rfl) (fun q3 => ?_) (fun q4 => ?_)
      · skip
        refine nm ((Rv.cat ([⟨paths, pathss⟩, ⟨others, otherss⟩] : List (Fat (Fat Int)))).getD k0.toNat default : Fat Int) fun x1 hx1 => ?_
        refine V.reg [.k (iv k0),
          .ix g0 (ko false 26 4 (Rv.cat ([⟨paths, pathss⟩, ⟨others, otherss⟩] : List (Fat (Fat Int)))) (fun _ => (G6 3).ss 0)) k0 (fun _ => ⟨by omega, by omega⟩),
          .le g0 (ko false 26 4 (Rv.cat ([⟨paths, pathss⟩, ⟨others, otherss⟩] : List (Fat (Fat Int)))) (fun _ => (G6 3).ss 0)) k0 none true x1 hx1 (fun _ => ⟨by omega, by omega⟩) false (fun _ => [x1.s.v]),
          .k (iv k0),
          .k (x1.s.v)] (fun _ _ => by kernel_rfl) fun _ _ G8 kw9 => ?_
        intro S8 t8
        obtain ⟨⟨kl7, -⟩, -⟩ : Lq x1.l x1.s.v ∧ True ∧ True ∧ Lq (Rv.cat ([⟨seen, seens⟩, ⟨shown, showns⟩] : List (Fat (Fat DThing)))) (((G5 3).ss 0).v) ∧ Lq (Rv.cat ([⟨paths, pathss⟩, ⟨others, otherss⟩] : List (Fat (Fat Int)))) (((G6 3).ss 0).v) ∧ True := kn kw9 (by kernel_rfl)
        clear kw9
        have hagx := hagw k0.toNat (by omega)
        rw [← hx1] at hagx
        refine V.go [.k (x1.s.v),
          .ln (kx false (.f 0) x1 x1.l (fun _ => x1.s) (fun _ _ h => h)),
          .k (iv 0)] (fun _ _ => by kernel_rfl) fun _ _ G9 => ?_
        intro S9 t9
        refine V.loop (γ := Int × List (Int × DThing) × List (Int × DThing)) (fun ⟨k1, nh, no⟩ => ⟨[(9, pp ((G4 3).b) 0), (10, ((G5 3).ss 0).v), (11, iv k0), (35, ((G6 3).ss 0).v), (36, iv ((Rv.cat ([⟨paths, pathss⟩, ⟨others, otherss⟩] : List (Fat (Fat Int)))).length : Int)), (37, iv k0), (42, x1.s.v), (43, iv (x1.l.length : Int)), (44, iv k1)], [gf false x1], [mp true true nh ((G4 0).b), mp true true no ((G4 1).b), .blk ((G4 3).b) #[.map (some ((G4 0).b)), .map (some ((G4 1).b))] 85, os false 22 (Rv.cat ([⟨seen, seens⟩, ⟨shown, showns⟩] : List (Fat (Fat DThing)))) ((G5 3).ss 0), os false 26 (Rv.cat ([⟨paths, pathss⟩, ⟨others, otherss⟩] : List (Fat (Fat Int)))) ((G6 3).ss 0)]⟩) (fun ⟨k1, nh, no⟩ => (0 ≤ k1) ∧ (k1 ≤ (x1.l.length : Int)) ∧ (Rv.runs (Rv.flat ((Rv.ls (Rv.cat ([⟨paths, pathss⟩, ⟨others, otherss⟩] : List (Fat (Fat Int))))).take k0.toNat) ((Rv.ls (Rv.cat ([⟨seen, seens⟩, ⟨shown, showns⟩] : List (Fat (Fat DThing))))).take k0.toNat) ++ (x1.l.zip (Rv.sl (Rv.ls (Rv.cat ([⟨seen, seens⟩, ⟨shown, showns⟩] : List (Fat (Fat DThing))))) k0.toNat)).take k1.toNat) = some (nh, no))) (fun ⟨k1, nh, no⟩ => ((x1.l.length : Int) - k1).toNat) (0, mh, mo) (by kernel_rfl) [0] (by kernel_rfl) ?_ ?_
        · skip
          refine ⟨?_, ?_, ?_⟩
          · show 0 ≤ (0 : Int)
            first | omega | rfl | (simp; done) | (subst_vars; simp; done)
          · show (0 : Int) ≤ (x1.l.length : Int)
            first | omega | rfl | (simp; done) | (subst_vars; simp; done)
          · show Rv.runs (Rv.flat ((Rv.ls (Rv.cat ([⟨paths, pathss⟩, ⟨others, otherss⟩] : List (Fat (Fat Int))))).take k0.toNat) ((Rv.ls (Rv.cat ([⟨seen, seens⟩, ⟨shown, showns⟩] : List (Fat (Fat DThing))))).take k0.toNat) ++ (x1.l.zip (Rv.sl (Rv.ls (Rv.cat ([⟨seen, seens⟩, ⟨shown, showns⟩] : List (Fat (Fat DThing))))) k0.toNat)).take (0 : Int).toNat) = some (mh, mo)
            exact Rv.agree_start hf3 _
        · rintro ⟨k1, nh, no⟩ hF2 kw11 Z2 hZ2
          have hF2 : (0 ≤ k1) ∧ (k1 ≤ (x1.l.length : Int)) ∧ (Rv.runs (Rv.flat ((Rv.ls (Rv.cat ([⟨paths, pathss⟩, ⟨others, otherss⟩] : List (Fat (Fat Int))))).take k0.toNat) ((Rv.ls (Rv.cat ([⟨seen, seens⟩, ⟨shown, showns⟩] : List (Fat (Fat DThing))))).take k0.toNat) ++ (x1.l.zip (Rv.sl (Rv.ls (Rv.cat ([⟨seen, seens⟩, ⟨shown, showns⟩] : List (Fat (Fat DThing))))) k0.toNat)).take k1.toNat) = some (nh, no)) := hF2
          obtain ⟨hf4, hf5, hf6⟩ := hF2
          clear kw11
          refine V.go [.k (bv (decide (k1 < (x1.l.length : Int))))] (fun _ _ => by kernel_rfl) fun _ _ G10 => ?_
          intro S10 t10
          refine V.cond (b := decide (k1 < (x1.l.length : Int))) iDT iDF (by kernel_rfl) (fun q5 => ?_) (fun q6 => ?_)
          · skip
            refine nm (x1.l.getD k1.toNat default : Int) fun v1 hv1 => ?_
            refine V.go [.k (iv k1),
              .ix g0 (kx false (.f 0) x1 x1.l (fun _ => x1.s) (fun _ _ h => h)) k1 (fun _ => ⟨by omega, by omega⟩),
              .le g0 (kx false (.f 0) x1 x1.l (fun _ => x1.s) (fun _ _ h => h)) k1 none false v1 hv1 (fun _ => ⟨by omega, by omega⟩) false (fun _ => [iv v1]),
              .k (iv k1),
              .k (iv v1)] (fun _ _ => by kernel_rfl) fun _ _ G11 => ?_
            intro S11 t11
            refine nm ((Rv.cat ([⟨seen, seens⟩, ⟨shown, showns⟩] : List (Fat (Fat DThing)))).getD k0.toNat default : Fat DThing) fun x2 hx2 => ?_
            refine nm (x2.l.getD k1.toNat default : DThing) fun x3 hx3 => ?_
            have hagy : x2.l.length = x1.l.length := by rw [hx2]; exact hagx
            refine V.reg [.ld 2 0 true (fun _ => [.map (some ((G4 0).b)), .map (some ((G4 1).b))]),
              .k (iv v1),
              .k (((G5 3).ss 0).v),
              .k (iv k0),
              .ix g0 (ko false 22 3 (Rv.cat ([⟨seen, seens⟩, ⟨shown, showns⟩] : List (Fat (Fat DThing)))) (fun _ => (G5 3).ss 0)) k0 (fun _ => ⟨by omega, by omega⟩),
              .le g0 (ko false 22 3 (Rv.cat ([⟨seen, seens⟩, ⟨shown, showns⟩] : List (Fat (Fat DThing)))) (fun _ => (G5 3).ss 0)) k0 none true x2 hx2 (fun _ => ⟨by omega, by omega⟩) false (fun _ => [x2.s.v]),
              .k (iv k1),
              .ix g0 (kx false (.g 5 0) x2 x2.l (fun _ => x2.s) (fun _ _ h => h)) k1 (fun _ => ⟨by omega, by omega⟩),
              .le g0 (kx false (.g 5 0) x2 x2.l (fun _ => x2.s) (fun _ _ h => h)) k1 none false x3 hx3 (fun _ => ⟨by omega, by omega⟩) true (fun _ => Dat.cells x3),
              .ct g0 9 68 false [0, 1] [] [] (fun _ G => put_ct nh ((G4 0).b) no ((G4 1).b) v1 x3.Text x3.Value x3.Blind x3.Left x3.Right),
              .k (bv (!(decide (Rv.putB nh no v1 ⟨x3.Text, x3.Value, x3.Blind, x3.Left, x3.Right⟩))))] (fun _ _ => by kernel_rfl) fun _ _ G12 kw14 => ?_
            intro S12 t12
            obtain ⟨⟨kl8, -⟩, -⟩ : Lq x2.l x2.s.v ∧ True ∧ True ∧ Lq (Rv.cat ([⟨seen, seens⟩, ⟨shown, showns⟩] : List (Fat (Fat DThing)))) (((G5 3).ss 0).v) ∧ Lq (Rv.cat ([⟨paths, pathss⟩, ⟨others, otherss⟩] : List (Fat (Fat Int)))) (((G6 3).ss 0).v) ∧ True := kn kw14 (by kernel_rfl)
            clear kw14
            refine V.cond (b := !(decide (Rv.putB nh no v1 ⟨x3.Text, x3.Value, x3.Blind, x3.Left, x3.Right⟩))) (iNT iDF) (iNF iDT) (by kernel_rfl) (fun q7 => ?_) (fun q8 => ?_)
            · skip
              refine V.go [.k (bv false)] (fun _ _ => by kernel_rfl) fun _ _ G13 => ?_
              intro S13 t13
              have e0 : false = decide (Rv.AgreeP (Rv.ls paths) (Rv.ls seen) (Rv.ls others) (Rv.ls shown)) := by
                symm; rw [decide_eq_false_iff_not]
                rw [Rv.agree_iff hG1 hG2, Rv.agree_no hf6 (by rw [Rv.sl_ls', hagw _ (by omega), ← hx1]) (by omega) (by omega) hv1 hx2 hx3 (by omega) (by omega) hx1 hagl q7]; decide
              exact V.ret [0] [] [] [] [] [] (bv false) (fun _ _ => by kernel_rfl) (fun _ _ => (Eq.trans (by kernel_rfl) (cong1 (fun (x0 : Bool) => (bv x0 : Value)) e0)).trans (by kernel_rfl)) (fun _ _ => trivial)
            · skip
              refine V.go [.a (k1 + 1) (by omega) (by omega),
                .k (iv (k1 + 1))] (fun _ _ => by kernel_rfl) fun _ _ G14 => ?_
              intro S14 t14
              refine V.rnd hZ2 (k1 + 1, Rv.putH nh v1 ⟨x3.Text, x3.Value, x3.Blind, x3.Left, x3.Right⟩, Rv.putO nh no v1 ⟨x3.Text, x3.Value, x3.Blind, x3.Left, x3.Right⟩) [0] (by kernel_rfl) ?_ ?_
              · skip
                refine ⟨?_, ?_, ?_⟩
                · show 0 ≤ (k1 + 1)
                  first | omega | rfl | (simp; done) | (subst_vars; simp; done)
                · show (k1 + 1) ≤ (x1.l.length : Int)
                  first | omega | rfl | (simp; done) | (subst_vars; simp; done)
                · show Rv.runs (Rv.flat ((Rv.ls (Rv.cat ([⟨paths, pathss⟩, ⟨others, otherss⟩] : List (Fat (Fat Int))))).take k0.toNat) ((Rv.ls (Rv.cat ([⟨seen, seens⟩, ⟨shown, showns⟩] : List (Fat (Fat DThing))))).take k0.toNat) ++ (x1.l.zip (Rv.sl (Rv.ls (Rv.cat ([⟨seen, seens⟩, ⟨shown, showns⟩] : List (Fat (Fat DThing))))) k0.toNat)).take (k1 + 1).toNat) = some ((Rv.putH nh v1 ⟨x3.Text, x3.Value, x3.Blind, x3.Left, x3.Right⟩), (Rv.putO nh no v1 ⟨x3.Text, x3.Value, x3.Blind, x3.Left, x3.Right⟩))
                  exact Rv.agree_put hf6 (by rw [Rv.sl_ls', hagw _ (by omega), ← hx1]) (by omega) (by omega) hv1 hx2 hx3 q8
              · show ((x1.l.length : Int) - (k1 + 1)).toNat < ((x1.l.length : Int) - k1).toNat
                omega
          · skip
            refine V.go [.a (k0 + 1) (by omega) (by omega),
              .k (iv (k0 + 1))] (fun _ _ => by kernel_rfl) fun _ _ G15 => ?_
            intro S15 t15
            refine V.rnd hZ1 (k0 + 1, nh, no) [] (by kernel_rfl) ?_ ?_
            · skip
              refine ⟨?_, ?_, ?_⟩
              · show 0 ≤ (k0 + 1)
                first | omega | rfl | (simp; done) | (subst_vars; simp; done)
              · show (k0 + 1) ≤ ((Rv.cat ([⟨paths, pathss⟩, ⟨others, otherss⟩] : List (Fat (Fat Int)))).length : Int)
                first | omega | rfl | (simp; done) | (subst_vars; simp; done)
              · show Rv.runs (Rv.flat ((Rv.ls (Rv.cat ([⟨paths, pathss⟩, ⟨others, otherss⟩] : List (Fat (Fat Int))))).take (k0 + 1).toNat) ((Rv.ls (Rv.cat ([⟨seen, seens⟩, ⟨shown, showns⟩] : List (Fat (Fat DThing))))).take (k0 + 1).toNat)) = some (nh, no)
                exact Rv.agree_next hf6 (by omega) (by omega) hagl hx1 (by omega)
            · show (((Rv.cat ([⟨paths, pathss⟩, ⟨others, otherss⟩] : List (Fat (Fat Int)))).length : Int) - (k0 + 1)).toNat < (((Rv.cat ([⟨paths, pathss⟩, ⟨others, otherss⟩] : List (Fat (Fat Int)))).length : Int) - k0).toNat
              omega
      · skip
        refine V.go [.k (bv true)] (fun _ _ => by kernel_rfl) fun _ _ G16 => ?_
        intro S16 t16
        have e0 : true = decide (Rv.AgreeP (Rv.ls paths) (Rv.ls seen) (Rv.ls others) (Rv.ls shown)) := by
          symm; rw [decide_eq_true_iff, Rv.agree_iff hG1 hG2]
          have hr := hf3
          rw [List.take_of_length_le (by rw [Rv.ls_length]; omega), List.take_of_length_le (by rw [Rv.ls_length]; omega)] at hr
          rw [hr]; rfl
        exact V.ret [0] [] [] [] [] [] (bv true) (fun _ _ => by kernel_rfl) (fun _ _ => (Eq.trans (by kernel_rfl) (cong1 (fun (x0 : Bool) => (bv x0 : Value)) e0)).trans (by kernel_rfl)) (fun _ _ => trivial)

end Kb
