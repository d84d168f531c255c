/- The contracts of the tree: building. -/
import Derived.Test.YtaolgnmpgnamnaaTw
import Derived.Test.YtaolgnmpgnamnaaTo
import Derived.Test.YtaolgnmpgnamnaaKg2
set_option linter.unusedVariables false
set_option linter.unusedSimpArgs false
namespace Kb
open Go Go.Proofs
theorem mo_tb : Try.prog.follows .mixedOrders = true := by kernel_rfl
noncomputable def clone_ct_r43_0 (sv : Value) (H : Heaplet) : RC := { ops := opsAt Try.f43 0, B := [0], sl := [(0, sv)], A := [H], L := [none], cs := [{ val := fun _ => .slice none 0 0 }] }
noncomputable def clone_ct_r43_1 (sv : Value) (H : Heaplet) (p1 : Bool) : RC := { ops := opsAt Try.f43 1, B := [0, 1], sl := [(0, sv)], A := [H], L := [none], cs := [{ val := fun _ => sv }, { val := fun _ => .bool p1 }] }
noncomputable def clone_ct_r43_2 (sv : Value) (H : Heaplet) (p1 : Bool) : RC := { ops := opsAt Try.f43 2, B := [0], sl := [(0, sv), (4, .bool p1)], A := [H], L := [none], cs := [{ val := fun _ => .slice none 0 0 }] }
noncomputable def clone_ct_r43_3 (sv : Value) (H : Heaplet) (p1 : Bool) (l1 : List DThing) : RC := { ops := opsAt Try.f43 3, B := [0, 0, 3, 7], sl := [(0, sv), (4, .bool p1)], A := [H], L := [none], cs := [{ val := fun G => .slice (some ⟨(G 0).b, 0, none⟩) 0 0, ups := [(0, fun G => (some ((G 0).b, .cells #[] 44 (0, 0))))] }, { val := fun _ => sv }, { val := fun G => (G 2).v, fact := fun G => OSl 44 H l1 (G 2).v (G 2).e, ups := [(0, fun G => (G 2).e)] }, { val := fun G => (G 2).v }] }
set_option maxRecDepth 10000 in
theorem clone_ct (s : List DThing) (sv : Value) (w0 : World) (H : Heaplet) (hA : Agrees w0 H) (hs_ : RSl H s sv) (hb : s.length ≤ 1000000000) :
    Calls Try.prog 43 #[sv] w0 (Owns H (fun g => g.v) (fun J g => OSl 44 J s g.v g.e) w0) := by
  have hE : Ext w0 H H := Ext.refl w0 H
  have hs_n := hs_.lim
  refine calls_of_W (sl := [(0, sv)]) (A := [H]) (L := [none]) Try.func43 (by kernel_rfl) 8 (by kernel_rfl) (by kernel_rfl) (fun J hJ => by simp at hJ; subst hJ; exact hA) (by simp) ?_
  refine W.seq (by kernel_rfl) ?_
  refine W.regV (clone_ct_r43_0 sv H) [0] [] (fun G => [.slice none 0 0]) (by kernel_rfl) mo_tb (by kernel_rfl) (fun _ _ => by kernel_rfl) trivial (by kernel_rfl) ?_
  intro G1 xa xw hDn
  refine hDn.to [0] [] (by kernel_rfl) ?_
  clear hDn
  refine Pre.conv (sl := [(0, sv)]) (A := [H]) (L := [none]) ?_ (by kernel_rfl) (by kernel_rfl) (by kernel_rfl)
  clear G1
  refine At.then ?_
  refine W.seq (by kernel_rfl) ?_
  refine W.seq (by kernel_rfl) ?_
  obtain ⟨p1, hp1⟩ : ∃ zz : Bool, zz = (isNil sv) := ⟨_, rfl⟩
  refine W.regV (clone_ct_r43_1 sv H p1) [0] [1] (fun G => [sv]) (by kernel_rfl) mo_tb (by kernel_rfl) (fun _ _ => by kernel_rfl) ⟨?_, trivial⟩ (by kernel_rfl) ?_
  · exact One.nilcmp (neq := false) (t := 22) (v := fun G => sv) (p := p1) (fun _ => ⟨by kernel_rfl⟩) (fun G w hs => ⟨⟨_, (hs_).isSl⟩, by rw [hp1]; first | rfl | simp⟩)
  intro G2 xa xw hDn
  refine hDn.to [0, 4] [] (by kernel_rfl) ?_
  clear hDn
  refine Pre.conv (sl := [(0, sv), (4, .bool p1)]) (A := [H]) (L := [none]) ?_ (by kernel_rfl) (by kernel_rfl) (by kernel_rfl)
  clear G2
  refine At.then ?_
  refine W.cond p1 (by kernel_rfl) (fun xa hs => cnd_of (t := 4) (by kernel_rfl) (by kernel_rfl) hs) (fun hq => ?_) (fun hq => ?_)
  · skip
    have hq1 := hq
    replace hq1 := (iN hp1 Iff.rfl).1 hq1
    refine W.seq (by kernel_rfl) ?_
    refine W.regV (clone_ct_r43_2 sv H p1) [0] [] (fun G => [.slice none 0 0]) (by kernel_rfl) mo_tb (by kernel_rfl) (fun _ _ => by kernel_rfl) trivial (by kernel_rfl) ?_
    intro G3 xa xw hDn
    refine hDn.to [2] [] (by kernel_rfl) ?_
    clear hDn
    refine Pre.conv (sl := [(2, .slice none 0 0)]) (A := [H]) (L := [none]) ?_ (by kernel_rfl) (by kernel_rfl) (by kernel_rfl)
    clear G3
    refine At.then ?_
    refine W.ret (by kernel_rfl) ?_
    refine At.thenRet ?_
    refine At.results (Or.inl rfl) (.slice none 0 0) (fun xa xw hs hw => results_one (r := .tmp 2) (by kernel_rfl) (res_tmp (t := 2) (by kernel_rfl) hs)) (fun w' hw => ?_)
    have e0 : ([] : List DThing) = s := by
      exact (isNil_len hs_ hq1).1.symm
    exact Owns.ret0 (.slice none 0 0) undef undef hA hE hw (fun N => rfl) (fun N J hJ => (e0 ▸ OSl.nil))
  · skip
    have hq2 := hq
    replace hq2 := (iN hp1 Iff.rfl).1 hq2
    refine W.skip (by kernel_rfl) ?_
    refine At.then ?_
    refine W.seq (by kernel_rfl) ?_
    obtain ⟨l1, hl1⟩ : ∃ zz : List DThing, zz = (([] : List DThing)) ++ s := ⟨_, rfl⟩
    have hl1n := congrArg List.length hl1; try simp only [List.length_append, List.length_cons, List.length_nil, List.length_replicate, List.length_set, List.length_take, List.length_drop, List.length_map, List.length_reverse, List.length_range] at hl1n
    refine W.regV (clone_ct_r43_3 sv H p1 l1) [1, 3] [0, 2] (fun G => [sv, (G 2).v]) (by kernel_rfl) mo_tb (by kernel_rfl) (fun _ _ => by kernel_rfl) ⟨?_, ?_, trivial⟩ (by kernel_rfl) ?_
    · exact One.new (r := 0) (T := 44) (fun b => .slice (some ⟨b, 0, none⟩) 0 0) (arr := fun G => #[]) (fun G w => by kernel_rfl) (fun G b => by kernel_rfl)
    · exact One.appendD (α := DThing) (t := 22) (E := 44) (size := 5) (bytes := 48) (r := 0) (l := fun G => ([] : List DThing)) (m := fun G => s) (lm := fun G => l1) (v := fun G => .slice (some ⟨(G 0).b, 0, none⟩) 0 0) (x := fun G => sv) (e := fun G => (some ((G 0).b, .cells #[] 44 (0, 0)))) (H := fun G => H) (J := fun G => H) (fun G g => ⟨by kernel_rfl, by kernel_rfl⟩) rfl (fun G w hs => ⟨(OSl.lit (α := DThing) (E := 44) (n := 0) (H := H) (l := ([] : List DThing)) (g := (G 0).b) (arr := #[]) (fun _ _ => trivial) (by kernel_rfl)), (hs.read 0 rfl), hs_, (fun _ _ => trivial), hl1, by (try simp only [List.length_append, List.length_cons, List.length_nil, List.length_replicate, List.length_set, List.length_take, List.length_drop, List.length_map, List.length_reverse, List.length_range]); omega⟩)
    intro G4 xa xw hDn
    have hf2_1 : OSl 44 H l1 (G4 2).v (G4 2).e := hDn.get 2 (by kernel_rfl) (by kernel_rfl) (by kernel_rfl)
    refine hDn.to [2] [] (by kernel_rfl) ?_
    clear hDn
    refine Pre.conv (sl := [(2, (G4 2).v)]) (A := [H]) (L := [(G4 2).e]) ?_ (by kernel_rfl) (by kernel_rfl) (by kernel_rfl)
    generalize (G4 2).v = v1 at hf2_1 ⊢
    generalize (G4 2).e = e1 at hf2_1 ⊢
    clear G4
    refine At.then ?_
    refine W.ret (by kernel_rfl) ?_
    refine At.results (Or.inl rfl) (v1) (fun xa xw hs hw => results_one (r := .tmp 2) (by kernel_rfl) (res_tmp (t := 2) (by kernel_rfl) hs)) (fun w' hw => ?_)
    have e0 : l1 = s := by
      rw [hl1]; simp
    exact Owns.ret v1 undef undef e1 0 (by kernel_rfl) hA hE hw (fun N => rfl) (fun N J hJ => (e0 ▸ (hf2_1).mono hJ))

noncomputable def clonei_ct_r45_0 (sv : Value) (H : Heaplet) : RC := { ops := opsAt Try.f45 0, B := [0], sl := [(0, sv)], A := [H], L := [none], cs := [{ val := fun _ => .slice none 0 0 }] }
noncomputable def clonei_ct_r45_1 (sv : Value) (H : Heaplet) (p1 : Bool) : RC := { ops := opsAt Try.f45 1, B := [0, 1], sl := [(0, sv)], A := [H], L := [none], cs := [{ val := fun _ => sv }, { val := fun _ => .bool p1 }] }
noncomputable def clonei_ct_r45_2 (sv : Value) (H : Heaplet) (p1 : Bool) : RC := { ops := opsAt Try.f45 2, B := [0], sl := [(0, sv), (4, .bool p1)], A := [H], L := [none], cs := [{ val := fun _ => .slice none 0 0 }] }
noncomputable def clonei_ct_r45_3 (sv : Value) (H : Heaplet) (p1 : Bool) (l1 : List Int) : RC := { ops := opsAt Try.f45 3, B := [0, 0, 3, 7], sl := [(0, sv), (4, .bool p1)], A := [H], L := [none], cs := [{ val := fun G => .slice (some ⟨(G 0).b, 0, none⟩) 0 0, ups := [(0, fun G => (some ((G 0).b, .cells #[] 3 (0, 0))))] }, { val := fun _ => sv }, { val := fun G => (G 2).v, fact := fun G => OSl 3 H l1 (G 2).v (G 2).e, ups := [(0, fun G => (G 2).e)] }, { val := fun G => (G 2).v }] }
set_option maxRecDepth 10000 in
theorem clonei_ct (s : List Int) (sv : Value) (w0 : World) (H : Heaplet) (hA : Agrees w0 H) (hs_ : RSl H s sv) (hb : s.length ≤ 1000000000) :
    Calls Try.prog 45 #[sv] w0 (Owns H (fun g => g.v) (fun J g => OSl 3 J s g.v g.e) w0) := by
  have hE : Ext w0 H H := Ext.refl w0 H
  have hs_n := hs_.lim
  refine calls_of_W (sl := [(0, sv)]) (A := [H]) (L := [none]) Try.func45 (by kernel_rfl) 8 (by kernel_rfl) (by kernel_rfl) (fun J hJ => by simp at hJ; subst hJ; exact hA) (by simp) ?_
  refine W.seq (by kernel_rfl) ?_
  refine W.regV (clonei_ct_r45_0 sv H) [0] [] (fun G => [.slice none 0 0]) (by kernel_rfl) mo_tb (by kernel_rfl) (fun _ _ => by kernel_rfl) trivial (by kernel_rfl) ?_
  intro G1 xa xw hDn
  refine hDn.to [0] [] (by kernel_rfl) ?_
  clear hDn
  refine Pre.conv (sl := [(0, sv)]) (A := [H]) (L := [none]) ?_ (by kernel_rfl) (by kernel_rfl) (by kernel_rfl)
  clear G1
  refine At.then ?_
  refine W.seq (by kernel_rfl) ?_
  refine W.seq (by kernel_rfl) ?_
  obtain ⟨p1, hp1⟩ : ∃ zz : Bool, zz = (isNil sv) := ⟨_, rfl⟩
  refine W.regV (clonei_ct_r45_1 sv H p1) [0] [1] (fun G => [sv]) (by kernel_rfl) mo_tb (by kernel_rfl) (fun _ _ => by kernel_rfl) ⟨?_, trivial⟩ (by kernel_rfl) ?_
  · exact One.nilcmp (neq := false) (t := 26) (v := fun G => sv) (p := p1) (fun _ => ⟨by kernel_rfl⟩) (fun G w hs => ⟨⟨_, (hs_).isSl⟩, by rw [hp1]; first | rfl | simp⟩)
  intro G2 xa xw hDn
  refine hDn.to [0, 4] [] (by kernel_rfl) ?_
  clear hDn
  refine Pre.conv (sl := [(0, sv), (4, .bool p1)]) (A := [H]) (L := [none]) ?_ (by kernel_rfl) (by kernel_rfl) (by kernel_rfl)
  clear G2
  refine At.then ?_
  refine W.cond p1 (by kernel_rfl) (fun xa hs => cnd_of (t := 4) (by kernel_rfl) (by kernel_rfl) hs) (fun hq => ?_) (fun hq => ?_)
  · skip
    have hq1 := hq
    replace hq1 := (iN hp1 Iff.rfl).1 hq1
    refine W.seq (by kernel_rfl) ?_
    refine W.regV (clonei_ct_r45_2 sv H p1) [0] [] (fun G => [.slice none 0 0]) (by kernel_rfl) mo_tb (by kernel_rfl) (fun _ _ => by kernel_rfl) trivial (by kernel_rfl) ?_
    intro G3 xa xw hDn
    refine hDn.to [2] [] (by kernel_rfl) ?_
    clear hDn
    refine Pre.conv (sl := [(2, .slice none 0 0)]) (A := [H]) (L := [none]) ?_ (by kernel_rfl) (by kernel_rfl) (by kernel_rfl)
    clear G3
    refine At.then ?_
    refine W.ret (by kernel_rfl) ?_
    refine At.thenRet ?_
    refine At.results (Or.inl rfl) (.slice none 0 0) (fun xa xw hs hw => results_one (r := .tmp 2) (by kernel_rfl) (res_tmp (t := 2) (by kernel_rfl) hs)) (fun w' hw => ?_)
    have e0 : ([] : List Int) = s := by
      exact (isNil_len hs_ hq1).1.symm
    exact Owns.ret0 (.slice none 0 0) undef undef hA hE hw (fun N => rfl) (fun N J hJ => (e0 ▸ OSl.nil))
  · skip
    have hq2 := hq
    replace hq2 := (iN hp1 Iff.rfl).1 hq2
    refine W.skip (by kernel_rfl) ?_
    refine At.then ?_
    refine W.seq (by kernel_rfl) ?_
    obtain ⟨l1, hl1⟩ : ∃ zz : List Int, zz = (([] : List Int)) ++ s := ⟨_, rfl⟩
    have hl1n := congrArg List.length hl1; try simp only [List.length_append, List.length_cons, List.length_nil, List.length_replicate, List.length_set, List.length_take, List.length_drop, List.length_map, List.length_reverse, List.length_range] at hl1n
    refine W.regV (clonei_ct_r45_3 sv H p1 l1) [1, 3] [0, 2] (fun G => [sv, (G 2).v]) (by kernel_rfl) mo_tb (by kernel_rfl) (fun _ _ => by kernel_rfl) ⟨?_, ?_, trivial⟩ (by kernel_rfl) ?_
    · exact One.new (r := 0) (T := 3) (fun b => .slice (some ⟨b, 0, none⟩) 0 0) (arr := fun G => #[]) (fun G w => by kernel_rfl) (fun G b => by kernel_rfl)
    · exact One.appendD (α := Int) (t := 26) (E := 3) (size := 1) (bytes := 8) (r := 0) (l := fun G => ([] : List Int)) (m := fun G => s) (lm := fun G => l1) (v := fun G => .slice (some ⟨(G 0).b, 0, none⟩) 0 0) (x := fun G => sv) (e := fun G => (some ((G 0).b, .cells #[] 3 (0, 0)))) (H := fun G => H) (J := fun G => H) (fun G g => ⟨by kernel_rfl, by kernel_rfl⟩) rfl (fun G w hs => ⟨(OSl.lit (α := Int) (E := 3) (n := 0) (H := H) (l := ([] : List Int)) (g := (G 0).b) (arr := #[]) (fun _ _ => trivial) (by kernel_rfl)), (hs.read 0 rfl), hs_, (fun _ _ => trivial), hl1, by (try simp only [List.length_append, List.length_cons, List.length_nil, List.length_replicate, List.length_set, List.length_take, List.length_drop, List.length_map, List.length_reverse, List.length_range]); omega⟩)
    intro G4 xa xw hDn
    have hf2_1 : OSl 3 H l1 (G4 2).v (G4 2).e := hDn.get 2 (by kernel_rfl) (by kernel_rfl) (by kernel_rfl)
    refine hDn.to [2] [] (by kernel_rfl) ?_
    clear hDn
    refine Pre.conv (sl := [(2, (G4 2).v)]) (A := [H]) (L := [(G4 2).e]) ?_ (by kernel_rfl) (by kernel_rfl) (by kernel_rfl)
    generalize (G4 2).v = v1 at hf2_1 ⊢
    generalize (G4 2).e = e1 at hf2_1 ⊢
    clear G4
    refine At.then ?_
    refine W.ret (by kernel_rfl) ?_
    refine At.results (Or.inl rfl) (v1) (fun xa xw hs hw => results_one (r := .tmp 2) (by kernel_rfl) (res_tmp (t := 2) (by kernel_rfl) hs)) (fun w' hw => ?_)
    have e0 : l1 = s := by
      rw [hl1]; simp
    exact Owns.ret v1 undef undef e1 0 (by kernel_rfl) hA hE hw (fun N => rfl) (fun N J hJ => (e0 ▸ (hf2_1).mono hJ))

noncomputable def add_ct_r44_0 (bv : Value) (be : Ent) (bb : Nat) (x_Text : ByteArray) (x_Value x_Blind x_Left x_Right : Int) (H : Heaplet) : RC := { ops := opsAt Try.f44 0, B := [0, 0], sl := [(0, .pointer (some ⟨bb, 0, none⟩)), (1, .agg #[.string x_Text, .int .i64 x_Value, .int .i64 x_Blind, .int .i64 x_Left, .int .i64 x_Right])], A := [H], L := [some (bb, .cells #[bv] 68 (0, 0)), be, none, none], cs := [{ val := fun G => .pointer (some ⟨(G 0).b, 0, none⟩), ups := [(2, fun G => some ((G 0).b, .cells #[.string x_Text, .int .i64 x_Value, .int .i64 x_Blind, .int .i64 x_Left, .int .i64 x_Right] 44 (0, 0)))] }, { val := fun _ => .int .i64 0 }] }
noncomputable def add_ct_r44_1 (bv : Value) (be : Ent) (bb : Nat) (x_Text : ByteArray) (x_Value x_Blind x_Left x_Right : Int) (H : Heaplet) (b1 : Nat) (l1 : List DThing) : RC := { ops := opsAt Try.f44 1, B := [0, 0, 2, 6, 14, 30, 0, 64, 254, 511, 1023, 2047, 4095], sl := [(0, .pointer (some ⟨bb, 0, none⟩)), (3, .pointer (some ⟨b1, 0, none⟩))], A := [H], L := [some (bb, .cells #[bv] 68 (0, 0)), be, some (b1, .cells #[.string x_Text, .int .i64 x_Value, .int .i64 x_Blind, .int .i64 x_Left, .int .i64 x_Right] 44 (0, 0)), none], cs := [{ val := fun _ => .pointer (some ⟨bb, 0, none⟩) }, { val := fun _ => .pointer (some ⟨bb, 0, none⟩) }, { val := fun _ => .pointer (some ⟨bb, 0, none⟩) }, { val := fun _ => .pointer (some ⟨bb, 0, none⟩) }, { val := fun _ => .pointer (some ⟨bb, 0, none⟩) }, { val := fun _ => bv, rds := [0] }, { val := fun _ => .agg #[.string x_Text, .int .i64 x_Value, .int .i64 x_Blind, .int .i64 x_Left, .int .i64 x_Right], rds := [2] }, { val := fun G => .slice (some ⟨(G 7).b, 0, none⟩) 1 1, ups := [(3, fun G => (some ((G 7).b, .cells #[.string x_Text, .int .i64 x_Value, .int .i64 x_Blind, .int .i64 x_Left, .int .i64 x_Right] 44 (0, 0))))] }, { val := fun G => (G 8).v, fact := fun G => OSl 44 H l1 (G 8).v (G 8).e, ups := [(1, fun G => (G 8).e)], rds := [3] }, { val := fun _ => .pointer (some ⟨bb, 0, none⟩) }, { val := fun _ => .pointer (some ⟨bb, 0, none⟩) }, { val := fun _ => .pointer (some ⟨bb, 0, none⟩) }, { val := fun _ => undef, ups := [(0, fun G => some (bb, .cells #[(G 8).v] 68 (0, 0)))] }] }
noncomputable def add_ct_r44_2 (bb : Nat) (x_Text : ByteArray) (x_Value x_Blind x_Left x_Right : Int) (H : Heaplet) (b1 : Nat) (v1 : Value) (e1 : Ent) (b2 : Nat) (n1 n2 : Int) : RC := { ops := opsAt Try.f44 2, B := [0, 1, 3, 7, 15, 31, 63, 127], sl := [(0, .pointer (some ⟨bb, 0, none⟩))], A := [H], L := [some (bb, .cells #[v1] 68 (0, 0)), e1, some (b1, .cells #[.string x_Text, .int .i64 x_Value, .int .i64 x_Blind, .int .i64 x_Left, .int .i64 x_Right] 44 (0, 0)), (some (b2, .cells #[.string x_Text, .int .i64 x_Value, .int .i64 x_Blind, .int .i64 x_Left, .int .i64 x_Right] 44 (0, 0)))], cs := [{ val := fun _ => .pointer (some ⟨bb, 0, none⟩) }, { val := fun _ => .pointer (some ⟨bb, 0, none⟩) }, { val := fun _ => .pointer (some ⟨bb, 0, none⟩) }, { val := fun _ => .pointer (some ⟨bb, 0, none⟩) }, { val := fun _ => v1, rds := [0] }, { val := fun _ => .int .i64 n1 }, { val := fun _ => .int .i64 n2 }, { val := fun _ => .int .i64 n2 }] }
set_option maxRecDepth 10000 in
theorem add_ct (bl : List DThing) (bv : Value) (be : Ent) (bb : Nat) (x_Text : ByteArray) (x_Value x_Blind x_Left x_Right : Int) (w0 : World) (H : Heaplet) (hA : Agrees w0 H) (hbl : OSl 44 H bl bv be) (hw0 : StW w0 (([some (bb, .cells #[bv] 68 (0, 0)), be] : List Ent).filterMap (·.map (·.1))) [H] [some (bb, .cells #[bv] 68 (0, 0)), be] w0) (hb : bl.length ≤ 100000) :
    Calls Try.prog 44 #[.pointer (some ⟨bb, 0, none⟩), .agg #[.string x_Text, .int .i64 x_Value, .int .i64 x_Blind, .int .i64 x_Left, .int .i64 x_Right]] w0 (Turns w0 H [some (bb, .cells #[bv] 68 (0, 0)), be] (fun g => [some (bb, .cells #[g.v] 68 (0, 0)), g.e]) (fun g => .int .i64 ((bl.length : Int))) (fun J g => OSl 44 J (bl ++ [DThing.mk x_Text x_Value x_Blind x_Left x_Right]) g.v g.e)) := by
  have hE : Ext w0 H H := Ext.refl w0 H
  have hbln := hbl.lim
  refine calls_of_WX (X := (([some (bb, .cells #[bv] 68 (0, 0)), be] : List Ent).filterMap (·.map (·.1)))) (sl := [(0, .pointer (some ⟨bb, 0, none⟩)), (1, .agg #[.string x_Text, .int .i64 x_Value, .int .i64 x_Blind, .int .i64 x_Left, .int .i64 x_Right])]) (A := [H]) (L := [some (bb, .cells #[bv] 68 (0, 0)), be, none, none]) Try.func44 (by kernel_rfl) 24 (by kernel_rfl) (by kernel_rfl) (hw0.more 2) ?_
  refine W.seq (by kernel_rfl) ?_
  refine W.regV (add_ct_r44_0 bv be bb x_Text x_Value x_Blind x_Left x_Right H) [1] [0] (fun G => [.int .i64 0]) (by kernel_rfl) mo_tb (by kernel_rfl) (fun _ _ => by kernel_rfl) ⟨?_, trivial⟩ (by kernel_rfl) ?_
  · exact One.new (r := 2) (T := 44) (fun b => .pointer (some ⟨b, 0, none⟩)) (arr := fun G => #[.string x_Text, .int .i64 x_Value, .int .i64 x_Blind, .int .i64 x_Left, .int .i64 x_Right]) (fun G w => by kernel_rfl) (fun G b => by kernel_rfl)
  intro G1 xa xw hDn
  refine hDn.to [0, 3] [] (by kernel_rfl) ?_
  clear hDn
  refine Pre.conv (sl := [(0, .pointer (some ⟨bb, 0, none⟩)), (3, .pointer (some ⟨(G1 0).b, 0, none⟩))]) (A := [H]) (L := [some (bb, .cells #[bv] 68 (0, 0)), be, some ((G1 0).b, .cells #[.string x_Text, .int .i64 x_Value, .int .i64 x_Blind, .int .i64 x_Left, .int .i64 x_Right] 44 (0, 0)), none]) ?_ (by kernel_rfl) (by kernel_rfl) (by kernel_rfl)
  generalize (G1 0).b = b1 at ⊢
  clear G1
  refine At.then ?_
  refine W.seq (by kernel_rfl) ?_
  obtain ⟨l1, hl1⟩ : ∃ zz : List DThing, zz = bl ++ [(DThing.mk x_Text x_Value x_Blind x_Left x_Right)] := ⟨_, rfl⟩
  have hl1n := congrArg List.length hl1; try simp only [List.length_append, List.length_cons, List.length_nil, List.length_replicate, List.length_set, List.length_take, List.length_drop, List.length_map, List.length_reverse, List.length_range] at hl1n
  refine W.regV (add_ct_r44_1 bv be bb x_Text x_Value x_Blind x_Left x_Right H b1 l1) [0, 1, 2, 3, 4, 9, 10, 11] [5, 6, 7, 8, 12] (fun G => [.pointer (some ⟨bb, 0, none⟩), .pointer (some ⟨bb, 0, none⟩), .pointer (some ⟨bb, 0, none⟩), .pointer (some ⟨bb, 0, none⟩), .pointer (some ⟨bb, 0, none⟩), .pointer (some ⟨bb, 0, none⟩), .pointer (some ⟨bb, 0, none⟩), .pointer (some ⟨bb, 0, none⟩)]) (by kernel_rfl) mo_tb (by kernel_rfl) (fun _ _ => by kernel_rfl) ⟨?_, ?_, ?_, ?_, ?_, trivial⟩ (by kernel_rfl) ?_
  · exact One.loadE (t := 22) (r := 0) (off := 0) (b := fun G => bb) (vs := fun G => [bv]) (arr := fun G => #[bv]) (T := 68) (fr := (0, 0)) (fun G => ⟨by kernel_rfl⟩) (fun G => by kernel_rfl)
  · exact One.loadE (t := 44) (r := 2) (off := 0) (b := fun G => b1) (vs := fun G => [.string x_Text, .int .i64 x_Value, .int .i64 x_Blind, .int .i64 x_Left, .int .i64 x_Right]) (arr := fun G => #[.string x_Text, .int .i64 x_Value, .int .i64 x_Blind, .int .i64 x_Left, .int .i64 x_Right]) (T := 44) (fr := (0, 0)) (fun G => ⟨by kernel_rfl⟩) (fun G => by kernel_rfl)
  · exact One.new (r := 3) (T := 44) (fun b => .slice (some ⟨b, 0, none⟩) 1 1) (arr := fun G => #[.string x_Text, .int .i64 x_Value, .int .i64 x_Blind, .int .i64 x_Left, .int .i64 x_Right]) (fun G w => by kernel_rfl) (fun G b => by kernel_rfl)
  · exact One.appendD (α := DThing) (t := 22) (E := 44) (size := 5) (bytes := 48) (r := 1) (l := fun G => bl) (m := fun G => [(DThing.mk x_Text x_Value x_Blind x_Left x_Right)]) (lm := fun G => l1) (v := fun G => bv) (x := fun G => .slice (some ⟨(G 7).b, 0, none⟩) 1 1) (e := fun G => be) (H := fun G => H) (J := fun G => (hun (entH ((some ((G 7).b, .cells #[.string x_Text, .int .i64 x_Value, .int .i64 x_Blind, .int .i64 x_Left, .int .i64 x_Right] 44 (0, 0))))) H)) (fun G g => ⟨by kernel_rfl, by kernel_rfl⟩) rfl (fun G w hs => ⟨hbl, (hun_agrees (entH_agrees (hs.own (r := 3) (e := (some ((G 7).b, .cells #[.string x_Text, .int .i64 x_Value, .int .i64 x_Blind, .int .i64 x_Left, .int .i64 x_Right] 44 (0, 0)))) (by kernel_rfl))) (hs.read 0 rfl)), (((OSl.lit (α := DThing) (E := 44) (n := 1) (H := H) (l := [(DThing.mk x_Text x_Value x_Blind x_Left x_Right)]) (g := (G 7).b) (arr := #[.string x_Text, .int .i64 x_Value, .int .i64 x_Blind, .int .i64 x_Left, .int .i64 x_Right]) (fun _ _ => trivial) (by kernel_rfl))).read (hs.own (r := 3) (e := (some ((G 7).b, .cells #[.string x_Text, .int .i64 x_Value, .int .i64 x_Blind, .int .i64 x_Left, .int .i64 x_Right] 44 (0, 0)))) (by kernel_rfl)) (hs.read 0 rfl)), (fun _ _ => trivial), hl1, by (try simp only [List.length_append, List.length_cons, List.length_nil, List.length_replicate, List.length_set, List.length_take, List.length_drop, List.length_map, List.length_reverse, List.length_range]); omega⟩)
  · exact One.storeX (t := 22) (r := 0) (off := 0) (T := 68) (b := fun G => bb) (u := fun G => (G 8).v) (vs := fun G => [(G 8).v]) (arr := fun G => #[bv]) (fun G => ⟨by kernel_rfl⟩) (fun G w hs => by
      have ho8 : OSl 44 H l1 (G 8).v (G 8).e := hs.get 8 (by kernel_rfl) (p := true) (by kernel_rfl) rfl (by kernel_rfl)
      exact ⟨cell1_cells (ho8).cell1, (all_cons1 (ho8).cell1 rfl)⟩)
  intro G2 xa xw hDn
  have hf8_1 : OSl 44 H l1 (G2 8).v (G2 8).e := hDn.get 8 (by kernel_rfl) (by kernel_rfl) (by kernel_rfl)
  refine hDn.to [0] [] (by kernel_rfl) ?_
  clear hDn
  refine Pre.conv (sl := [(0, .pointer (some ⟨bb, 0, none⟩))]) (A := [H]) (L := [some (bb, .cells #[(G2 8).v] 68 (0, 0)), (G2 8).e, some (b1, .cells #[.string x_Text, .int .i64 x_Value, .int .i64 x_Blind, .int .i64 x_Left, .int .i64 x_Right] 44 (0, 0)), (some ((G2 7).b, .cells #[.string x_Text, .int .i64 x_Value, .int .i64 x_Blind, .int .i64 x_Left, .int .i64 x_Right] 44 (0, 0)))]) ?_ (by kernel_rfl) (by kernel_rfl) (by kernel_rfl)
  generalize (G2 8).v = v1 at hf8_1 ⊢
  generalize (G2 8).e = e1 at hf8_1 ⊢
  generalize (G2 7).b = b2 at hf8_1 ⊢
  clear G2
  refine At.then ?_
  refine W.seq (by kernel_rfl) ?_
  obtain ⟨n1, hn1⟩ : ∃ zz : Int, zz = (l1.length : Int) := ⟨_, rfl⟩
  obtain ⟨n2, hn2⟩ : ∃ zz : Int, zz = n1 - 1 := ⟨_, rfl⟩
  refine W.regV (add_ct_r44_2 bb x_Text x_Value x_Blind x_Left x_Right H b1 v1 e1 b2 n1 n2) [0, 1, 2, 3, 7] [4, 5, 6] (fun G => [.pointer (some ⟨bb, 0, none⟩), .pointer (some ⟨bb, 0, none⟩), .pointer (some ⟨bb, 0, none⟩), .pointer (some ⟨bb, 0, none⟩), .int .i64 n2]) (by kernel_rfl) mo_tb (by kernel_rfl) (fun _ _ => by kernel_rfl) ⟨?_, ?_, ?_, trivial⟩ (by kernel_rfl) ?_
  · exact One.loadE (t := 22) (r := 0) (off := 0) (b := fun G => bb) (vs := fun G => [v1]) (arr := fun G => #[v1]) (T := 68) (fr := (0, 0)) (fun G => ⟨by kernel_rfl⟩) (fun G => by kernel_rfl)
  · exact One.len (t := 22) (n := n1) (v := fun G => v1) (fun _ => ⟨by kernel_rfl⟩) (fun G w hs => ⟨_, (hf8_1).isSl, hn1⟩)
  · exact One.ar hn2 (fun _ _ => by kernel_rfl) (fun G w hs => by omega)
  intro G3 xa xw hDn
  refine hDn.to [4] [] (by kernel_rfl) ?_
  clear hDn
  refine Pre.conv (sl := [(4, .int .i64 n2)]) (A := [H]) (L := [some (bb, .cells #[v1] 68 (0, 0)), e1, some (b1, .cells #[.string x_Text, .int .i64 x_Value, .int .i64 x_Blind, .int .i64 x_Left, .int .i64 x_Right] 44 (0, 0)), (some (b2, .cells #[.string x_Text, .int .i64 x_Value, .int .i64 x_Blind, .int .i64 x_Left, .int .i64 x_Right] 44 (0, 0)))]) ?_ (by kernel_rfl) (by kernel_rfl) (by kernel_rfl)
  clear G3
  refine At.then ?_
  refine W.ret (by kernel_rfl) ?_
  refine At.results (Or.inl rfl) (.int .i64 n2) (fun xa xw hs hw => results_one (r := .tmp 4) (by kernel_rfl) (res_tmp (t := 4) (by kernel_rfl) hs)) (fun w' hw => ?_)
  have e0 : n2 = (bl.length : Int) := by
    omega
  have el : l1 = bl ++ [DThing.mk x_Text x_Value x_Blind x_Left x_Right] := by
    assumption
  exact turns_two (o1 := fun g => .cells #[g.v] 68 (0, 0)) hw { v := v1, e := e1 } 0 1 (by decide) (by kernel_rfl) (by kernel_rfl) rfl (cong1 (fun (x0 : Int) => (.int .i64 x0 : Value)) e0) (el ▸ (hf8_1).mono hun_none)

noncomputable def bpair_ct_r46_0 (bv : Value) (be : Ent) (bb : Nat) (left right : Int) (H : Heaplet) : RC := { ops := opsAt Try.f46 0, B := [0], sl := [(0, .pointer (some ⟨bb, 0, none⟩)), (1, .int .i64 left), (2, .int .i64 right)], A := [H], L := [some (bb, .cells #[bv] 68 (0, 0)), be, none, none], cs := [{ val := fun _ => .int .i64 0 }] }
noncomputable def bpair_ct_r46_1 (bv : Value) (be : Ent) (bb : Nat) (left right : Int) (H : Heaplet) (x1 x2 : DThing) : RC := { ops := opsAt Try.f46 1, B := [0, 1, 3, 7, 15, 0, 63, 127, 0, 256, 768, 1792, 3840, 0, 16128, 32512, 0, 0, 196863, 524287], sl := [(0, .pointer (some ⟨bb, 0, none⟩)), (1, .int .i64 left), (2, .int .i64 right)], A := [H], L := [some (bb, .cells #[bv] 68 (0, 0)), be, none, none], cs := [{ val := fun _ => .pointer (some ⟨bb, 0, none⟩) }, { val := fun _ => .pointer (some ⟨bb, 0, none⟩) }, { val := fun _ => .pointer (some ⟨bb, 0, none⟩) }, { val := fun _ => .pointer (some ⟨bb, 0, none⟩) }, { val := fun _ => bv, rds := [0] }, { val := fun _ => .int .i64 left }, { val := fun _ => .pointer (some (elemAddr bv (left.toNat * 5))) }, { val := fun _ => .agg #[.string x1.Text, .int .i64 x1.Value, .int .i64 x1.Blind, .int .i64 x1.Left, .int .i64 x1.Right], rds := [1] }, { val := fun _ => .pointer (some ⟨bb, 0, none⟩) }, { val := fun _ => .pointer (some ⟨bb, 0, none⟩) }, { val := fun _ => .pointer (some ⟨bb, 0, none⟩) }, { val := fun _ => .pointer (some ⟨bb, 0, none⟩) }, { val := fun _ => bv, rds := [0] }, { val := fun _ => .int .i64 right }, { val := fun _ => .pointer (some (elemAddr bv (right.toNat * 5))) }, { val := fun _ => .agg #[.string x2.Text, .int .i64 x2.Value, .int .i64 x2.Blind, .int .i64 x2.Left, .int .i64 x2.Right], rds := [1] }, { val := fun G => .pointer (some ⟨(G 16).b, 0, none⟩), ups := [(2, fun G => some ((G 16).b, .cells #[.string ByteArray.empty, .int .i64 0, .int .i64 0, .int .i64 0, .int .i64 0] 44 (0, 0)))] }, { val := fun G => .pointer (some ⟨(G 17).b, 0, none⟩), ups := [(3, fun G => some ((G 17).b, .cells #[.string ByteArray.empty, .int .i64 0, .int .i64 0, .int .i64 0, .int .i64 0] 44 (0, 0)))] }, { val := fun _ => undef, ups := [(2, fun G => some ((G 16).b, .cells #[.string x1.Text, .int .i64 x1.Value, .int .i64 x1.Blind, .int .i64 x1.Left, .int .i64 x1.Right] 44 (0, 0)))] }, { val := fun _ => undef, ups := [(3, fun G => some ((G 17).b, .cells #[.string x2.Text, .int .i64 x2.Value, .int .i64 x2.Blind, .int .i64 x2.Left, .int .i64 x2.Right] 44 (0, 0)))] }] }
noncomputable def bpair_ct_r46_2 (w0 : World) (bv : Value) (be : Ent) (bb : Nat) (left right : Int) (H : Heaplet) (x1 x2 : DThing) (b1 b2 : Nat) (n1 n2 n3 : Int) (l1 : List DThing) : RC := { ops := opsAt Try.f46 2, B := [0, 0, 2, 0, 8, 30, 0, 64, 0, 256, 960, 0, 0, 8190, 16383, 32767], sl := [(0, .pointer (some ⟨bb, 0, none⟩)), (1, .int .i64 left), (2, .int .i64 right), (7, .pointer (some ⟨b1, 0, none⟩)), (8, .pointer (some ⟨b2, 0, none⟩))], A := [H], L := [some (bb, .cells #[bv] 68 (0, 0)), be, some (b1, .cells #[.string x1.Text, .int .i64 x1.Value, .int .i64 x1.Blind, .int .i64 x1.Left, .int .i64 x1.Right] 44 (0, 0)), some (b2, .cells #[.string x2.Text, .int .i64 x2.Value, .int .i64 x2.Blind, .int .i64 x2.Left, .int .i64 x2.Right] 44 (0, 0))], cs := [{ val := fun _ => .pointer (some ⟨bb, 0, none⟩) }, { val := fun _ => .pointer (some ⟨b1, 1, none⟩) }, { val := fun _ => .int .i64 x1.Value, rds := [2] }, { val := fun _ => .pointer (some ⟨b2, 1, none⟩) }, { val := fun _ => .int .i64 x2.Value, rds := [3] }, { val := fun _ => .int .i64 n1 }, { val := fun _ => .pointer (some ⟨b1, 2, none⟩) }, { val := fun _ => .int .i64 x1.Blind, rds := [2] }, { val := fun _ => .pointer (some ⟨b2, 2, none⟩) }, { val := fun _ => .int .i64 x2.Blind, rds := [3] }, { val := fun _ => .int .i64 n2 }, { val := fun _ => .int .i64 left }, { val := fun _ => .int .i64 right }, { val := fun _ => .agg #[.string ByteArray.empty, .int .i64 n1, .int .i64 n2, .int .i64 left, .int .i64 right] }, { val := fun _ => .int .i64 n3, fact := fun G => (OSl 44 (hun (G 14).H H) l1 (G 14).v (G 14).e) ∧ New w0 (G 14).H, ups := [(0, fun G => some (bb, .cells #[(G 14).v] 68 (0, 0))), (1, fun G => (G 14).e)] }, { val := fun _ => .int .i64 n3 }] }
set_option maxRecDepth 10000 in
theorem bpair_ct (bl : List DThing) (bv : Value) (be : Ent) (bb : Nat) (left right : Int) (w0 : World) (H : Heaplet) (hA : Agrees w0 H) (hbl : OSl 44 H bl bv be) (hw0 : StW w0 (([some (bb, .cells #[bv] 68 (0, 0)), be] : List Ent).filterMap (·.map (·.1))) [H] [some (bb, .cells #[bv] 68 (0, 0)), be] w0) (hb : bl.length ≤ 90000) (h1 : 0 ≤ left ∧ left < (bl.length : Int)) (h2 : 0 ≤ right ∧ right < (bl.length : Int)) (hB1 : Tm.Bd (Tm.el bl left)) (hB2 : Tm.Bd (Tm.el bl right)) :
    Calls Try.prog 46 #[.pointer (some ⟨bb, 0, none⟩), .int .i64 left, .int .i64 right] w0 (Turns w0 H [some (bb, .cells #[bv] 68 (0, 0)), be] (fun g => [some (bb, .cells #[g.v] 68 (0, 0)), g.e]) (fun g => .int .i64 ((bl.length : Int))) (fun J g => OSl 44 J (bl ++ [Tm.pairX bl left right]) g.v g.e)) := by
  have hE : Ext w0 H H := Ext.refl w0 H
  have hbln := hbl.lim
  refine calls_of_WX (X := (([some (bb, .cells #[bv] 68 (0, 0)), be] : List Ent).filterMap (·.map (·.1)))) (sl := [(0, .pointer (some ⟨bb, 0, none⟩)), (1, .int .i64 left), (2, .int .i64 right)]) (A := [H]) (L := [some (bb, .cells #[bv] 68 (0, 0)), be, none, none]) Try.func46 (by kernel_rfl) 40 (by kernel_rfl) (by kernel_rfl) (hw0.more 2) ?_
  refine W.seq (by kernel_rfl) ?_
  refine W.regV (bpair_ct_r46_0 bv be bb left right H) [0] [] (fun G => [.int .i64 0]) (by kernel_rfl) mo_tb (by kernel_rfl) (fun _ _ => by kernel_rfl) trivial (by kernel_rfl) ?_
  intro G1 xa xw hDn
  refine hDn.to [0, 1, 2] [] (by kernel_rfl) ?_
  clear hDn
  refine Pre.conv (sl := [(0, .pointer (some ⟨bb, 0, none⟩)), (1, .int .i64 left), (2, .int .i64 right)]) (A := [H]) (L := [some (bb, .cells #[bv] 68 (0, 0)), be, none, none]) ?_ (by kernel_rfl) (by kernel_rfl) (by kernel_rfl)
  clear G1
  refine At.then ?_
  refine W.seq (by kernel_rfl) ?_
  obtain ⟨x1, hx1⟩ : ∃ zz : DThing, zz = bl.getD left.toNat default := ⟨_, rfl⟩
  obtain ⟨x2, hx2⟩ : ∃ zz : DThing, zz = bl.getD right.toNat default := ⟨_, rfl⟩
  refine W.regV (bpair_ct_r46_1 bv be bb left right H x1 x2) [0, 1, 2, 3, 5, 8, 9, 10, 11, 13] [4, 6, 7, 12, 14, 15, 16, 17, 18, 19] (fun G => [.pointer (some ⟨bb, 0, none⟩), .pointer (some ⟨bb, 0, none⟩), .pointer (some ⟨bb, 0, none⟩), .pointer (some ⟨bb, 0, none⟩), .int .i64 left, .pointer (some ⟨bb, 0, none⟩), .pointer (some ⟨bb, 0, none⟩), .pointer (some ⟨bb, 0, none⟩), .pointer (some ⟨bb, 0, none⟩), .int .i64 right]) (by kernel_rfl) mo_tb (by kernel_rfl) (fun _ _ => by kernel_rfl) ⟨?_, ?_, ?_, ?_, ?_, ?_, ?_, ?_, ?_, ?_, trivial⟩ (by kernel_rfl) ?_
  · exact One.loadE (t := 22) (r := 0) (off := 0) (b := fun G => bb) (vs := fun G => [bv]) (arr := fun G => #[bv]) (T := 68) (fr := (0, 0)) (fun G => ⟨by kernel_rfl⟩) (fun G => by kernel_rfl)
  · exact One.index (t := 22) (e := 44) (size := 5) (v := fun G => bv) (k := .i64) (n := left) (fun _ => ⟨by kernel_rfl⟩) (fun G w hs => ⟨_, (hbl).isSl, by first | omega | (simp only [List.length_append, List.length_cons, List.length_nil, List.length_replicate, List.length_set, List.length_take, List.length_drop, List.length_map, List.length_reverse, List.length_range]; omega), by first | omega | (simp only [List.length_append, List.length_cons, List.length_nil, List.length_replicate, List.length_set, List.length_take, List.length_drop, List.length_map, List.length_reverse, List.length_range]; omega)⟩)
  · exact One.loadD (α := DThing) (t := 44) (size := 5) (off := 0) (k := left) (l := fun G => bl) (x := fun G => x1) (vs := fun G => [.string x1.Text, .int .i64 x1.Value, .int .i64 x1.Blind, .int .i64 x1.Left, .int .i64 x1.Right]) (v := fun G => bv) (H := fun G => (hun (entH be) H)) (p := fun G => elemAddr bv (left.toNat * 5)) (fun G => ⟨by kernel_rfl⟩) rfl (fun G => by kernel_rfl) (fun G w hs => ⟨(hun_agrees (entH_agrees (hs.own (r := 1) (e := be) (by kernel_rfl))) (hs.read 0 rfl)), ((hbl).read (hs.own (r := 1) (e := be) (by kernel_rfl)) (hs.read 0 rfl)), (add_zero' _).symm, by omega, by first | omega | (simp only [List.length_append, List.length_cons, List.length_nil, List.length_replicate, List.length_set, List.length_take, List.length_drop, List.length_map, List.length_reverse, List.length_range]; omega), hx1⟩)
  · exact One.loadE (t := 22) (r := 0) (off := 0) (b := fun G => bb) (vs := fun G => [bv]) (arr := fun G => #[bv]) (T := 68) (fr := (0, 0)) (fun G => ⟨by kernel_rfl⟩) (fun G => by kernel_rfl)
  · exact One.index (t := 22) (e := 44) (size := 5) (v := fun G => bv) (k := .i64) (n := right) (fun _ => ⟨by kernel_rfl⟩) (fun G w hs => ⟨_, (hbl).isSl, by first | omega | (simp only [List.length_append, List.length_cons, List.length_nil, List.length_replicate, List.length_set, List.length_take, List.length_drop, List.length_map, List.length_reverse, List.length_range]; omega), by first | omega | (simp only [List.length_append, List.length_cons, List.length_nil, List.length_replicate, List.length_set, List.length_take, List.length_drop, List.length_map, List.length_reverse, List.length_range]; omega)⟩)
  · exact One.loadD (α := DThing) (t := 44) (size := 5) (off := 0) (k := right) (l := fun G => bl) (x := fun G => x2) (vs := fun G => [.string x2.Text, .int .i64 x2.Value, .int .i64 x2.Blind, .int .i64 x2.Left, .int .i64 x2.Right]) (v := fun G => bv) (H := fun G => (hun (entH be) H)) (p := fun G => elemAddr bv (right.toNat * 5)) (fun G => ⟨by kernel_rfl⟩) rfl (fun G => by kernel_rfl) (fun G w hs => ⟨(hun_agrees (entH_agrees (hs.own (r := 1) (e := be) (by kernel_rfl))) (hs.read 0 rfl)), ((hbl).read (hs.own (r := 1) (e := be) (by kernel_rfl)) (hs.read 0 rfl)), (add_zero' _).symm, by omega, by first | omega | (simp only [List.length_append, List.length_cons, List.length_nil, List.length_replicate, List.length_set, List.length_take, List.length_drop, List.length_map, List.length_reverse, List.length_range]; omega), hx2⟩)
  · exact One.new (r := 2) (T := 44) (fun b => .pointer (some ⟨b, 0, none⟩)) (arr := fun G => #[.string ByteArray.empty, .int .i64 0, .int .i64 0, .int .i64 0, .int .i64 0]) (fun G w => by kernel_rfl) (fun G b => by kernel_rfl)
  · exact One.new (r := 3) (T := 44) (fun b => .pointer (some ⟨b, 0, none⟩)) (arr := fun G => #[.string ByteArray.empty, .int .i64 0, .int .i64 0, .int .i64 0, .int .i64 0]) (fun G w => by kernel_rfl) (fun G b => by kernel_rfl)
  · exact One.store (t := 44) (r := 2) (off := 0) (T := 44) (b := fun G => (G 16).b) (u := fun G => .agg #[.string x1.Text, .int .i64 x1.Value, .int .i64 x1.Blind, .int .i64 x1.Left, .int .i64 x1.Right]) (vs := fun G => [.string x1.Text, .int .i64 x1.Value, .int .i64 x1.Blind, .int .i64 x1.Left, .int .i64 x1.Right]) (arr := fun G => #[.string ByteArray.empty, .int .i64 0, .int .i64 0, .int .i64 0, .int .i64 0]) (fun G => ⟨by kernel_rfl⟩) (fun G => by kernel_rfl)
  · exact One.store (t := 44) (r := 3) (off := 0) (T := 44) (b := fun G => (G 17).b) (u := fun G => .agg #[.string x2.Text, .int .i64 x2.Value, .int .i64 x2.Blind, .int .i64 x2.Left, .int .i64 x2.Right]) (vs := fun G => [.string x2.Text, .int .i64 x2.Value, .int .i64 x2.Blind, .int .i64 x2.Left, .int .i64 x2.Right]) (arr := fun G => #[.string ByteArray.empty, .int .i64 0, .int .i64 0, .int .i64 0, .int .i64 0]) (fun G => ⟨by kernel_rfl⟩) (fun G => by kernel_rfl)
  intro G2 xa xw hDn
  refine hDn.to [0, 1, 2, 7, 8] [] (by kernel_rfl) ?_
  clear hDn
  refine Pre.conv (sl := [(0, .pointer (some ⟨bb, 0, none⟩)), (1, .int .i64 left), (2, .int .i64 right), (7, .pointer (some ⟨(G2 16).b, 0, none⟩)), (8, .pointer (some ⟨(G2 17).b, 0, none⟩))]) (A := [H]) (L := [some (bb, .cells #[bv] 68 (0, 0)), be, some ((G2 16).b, .cells #[.string x1.Text, .int .i64 x1.Value, .int .i64 x1.Blind, .int .i64 x1.Left, .int .i64 x1.Right] 44 (0, 0)), some ((G2 17).b, .cells #[.string x2.Text, .int .i64 x2.Value, .int .i64 x2.Blind, .int .i64 x2.Left, .int .i64 x2.Right] 44 (0, 0))]) ?_ (by kernel_rfl) (by kernel_rfl) (by kernel_rfl)
  generalize (G2 16).b = b1 at ⊢
  generalize (G2 17).b = b2 at ⊢
  clear G2
  refine At.then ?_
  refine W.seq (by kernel_rfl) ?_
  have hb1 := hB1; have hb2 := hB2; unfold Tm.Bd Tm.el at hb1 hb2
  rw [← hx1] at hb1; rw [← hx2] at hb2
  obtain ⟨n1, hn1⟩ : ∃ zz : Int, zz = x1.Value + x2.Value := ⟨_, rfl⟩
  obtain ⟨n2, hn2⟩ : ∃ zz : Int, zz = x1.Blind + x2.Blind := ⟨_, rfl⟩
  obtain ⟨n3, hn3⟩ : ∃ zz : Int, zz = (bl.length : Int) := ⟨_, rfl⟩
  obtain ⟨l1, hl1⟩ : ∃ zz : List DThing, zz = bl ++ [DThing.mk ByteArray.empty n1 n2 left right] := ⟨_, rfl⟩
  have hl1n := congrArg List.length hl1; try simp only [List.length_append, List.length_cons, List.length_nil, List.length_replicate, List.length_set, List.length_take, List.length_drop, List.length_map, List.length_reverse, List.length_range] at hl1n
  refine W.regV (bpair_ct_r46_2 w0 bv be bb left right H x1 x2 b1 b2 n1 n2 n3 l1) [0, 1, 3, 6, 8, 11, 12, 13, 15] [2, 4, 5, 7, 9, 10, 14] (fun G => [.pointer (some ⟨bb, 0, none⟩), .pointer (some ⟨b1, 1, none⟩), .pointer (some ⟨b2, 1, none⟩), .pointer (some ⟨b1, 2, none⟩), .pointer (some ⟨b2, 2, none⟩), .int .i64 left, .int .i64 right, .agg #[.string ByteArray.empty, .int .i64 n1, .int .i64 n2, .int .i64 left, .int .i64 right], .int .i64 n3]) (by kernel_rfl) mo_tb (by kernel_rfl) (fun _ _ => by kernel_rfl) ⟨?_, ?_, ?_, ?_, ?_, ?_, ?_, trivial⟩ (by kernel_rfl) ?_
  · exact One.loadE (t := 3) (r := 2) (off := 1) (b := fun G => b1) (vs := fun G => [.int .i64 x1.Value]) (arr := fun G => #[.string x1.Text, .int .i64 x1.Value, .int .i64 x1.Blind, .int .i64 x1.Left, .int .i64 x1.Right]) (T := 44) (fr := (0, 0)) (fun G => ⟨by kernel_rfl⟩) (fun G => by kernel_rfl)
  · exact One.loadE (t := 3) (r := 3) (off := 1) (b := fun G => b2) (vs := fun G => [.int .i64 x2.Value]) (arr := fun G => #[.string x2.Text, .int .i64 x2.Value, .int .i64 x2.Blind, .int .i64 x2.Left, .int .i64 x2.Right]) (T := 44) (fr := (0, 0)) (fun G => ⟨by kernel_rfl⟩) (fun G => by kernel_rfl)
  · exact One.ar hn1 (fun _ _ => by kernel_rfl) (fun G w hs => by omega)
  · exact One.loadE (t := 3) (r := 2) (off := 2) (b := fun G => b1) (vs := fun G => [.int .i64 x1.Blind]) (arr := fun G => #[.string x1.Text, .int .i64 x1.Value, .int .i64 x1.Blind, .int .i64 x1.Left, .int .i64 x1.Right]) (T := 44) (fr := (0, 0)) (fun G => ⟨by kernel_rfl⟩) (fun G => by kernel_rfl)
  · exact One.loadE (t := 3) (r := 3) (off := 2) (b := fun G => b2) (vs := fun G => [.int .i64 x2.Blind]) (arr := fun G => #[.string x2.Text, .int .i64 x2.Value, .int .i64 x2.Blind, .int .i64 x2.Left, .int .i64 x2.Right]) (T := 44) (fr := (0, 0)) (fun G => ⟨by kernel_rfl⟩) (fun G => by kernel_rfl)
  · exact One.ar hn2 (fun _ _ => by kernel_rfl) (fun G w hs => by omega)
  · exact One.callT (f := 44) (args := fun G => #[.pointer (some ⟨bb, 0, none⟩), .agg #[.string ByteArray.empty, .int .i64 n1, .int .i64 n2, .int .i64 left, .int .i64 right]]) (rs := [0, 1]) (olds := fun G => [some (bb, .cells #[bv] 68 (0, 0)), be]) (news := fun G g => [some (bb, .cells #[g.v] 68 (0, 0)), g.e]) (V := fun G g => .int .i64 n3) (H := fun G => H) (F := fun G J g => OSl 44 J l1 g.v g.e) (fun G g w => ⟨by kernel_rfl, by kernel_rfl⟩) (fun G w hs => by
      rw [hn3, hl1]
      exact add_ct bl bv be bb ByteArray.empty n1 n2 left right w H (hs.read 0 rfl) (hbl)  (hs.two (r := 0) (s := 1) (b := bb) (T := 68) (c := #[bv]) (e := be) (by kernel_rfl) (by kernel_rfl) rfl (by decide) hbl) (by omega))
  intro G3 xa xw hDn
  have hf14_1 : (OSl 44 (hun (G3 14).H H) l1 (G3 14).v (G3 14).e) ∧ New w0 (G3 14).H := hDn.get 14 (by kernel_rfl) (by kernel_rfl) (by kernel_rfl)
  refine hDn.to [6] [] (by kernel_rfl) ?_
  clear hDn
  refine Pre.conv (sl := [(6, .int .i64 n3)]) (A := [H]) (L := [some (bb, .cells #[(G3 14).v] 68 (0, 0)), (G3 14).e, some (b1, .cells #[.string x1.Text, .int .i64 x1.Value, .int .i64 x1.Blind, .int .i64 x1.Left, .int .i64 x1.Right] 44 (0, 0)), some (b2, .cells #[.string x2.Text, .int .i64 x2.Value, .int .i64 x2.Blind, .int .i64 x2.Left, .int .i64 x2.Right] 44 (0, 0))]) ?_ (by kernel_rfl) (by kernel_rfl) (by kernel_rfl)
  generalize (G3 14).v = v1 at hf14_1 ⊢
  generalize (G3 14).e = e1 at hf14_1 ⊢
  generalize (G3 14).H = N1 at hf14_1 ⊢
  clear G3
  have hr1 : OSl 44 H l1 v1 e1 := (OSl.any (K := H) hf14_1.1 (fun _ _ => trivial))
  have hr1n := hr1.lim
  refine At.then ?_
  refine W.ret (by kernel_rfl) ?_
  refine At.results (Or.inl rfl) (.int .i64 n3) (fun xa xw hs hw => results_one (r := .tmp 6) (by kernel_rfl) (res_tmp (t := 6) (by kernel_rfl) hs)) (fun w' hw => ?_)
  have e0 : n3 = (bl.length : Int) := by
    omega
  have el : l1 = bl ++ [Tm.pairX bl left right] := by
    subst_vars; rfl
  exact turns_two (o1 := fun g => .cells #[g.v] 68 (0, 0)) hw { v := v1, e := e1 } 0 1 (by decide) (by kernel_rfl) (by kernel_rfl) rfl (cong1 (fun (x0 : Int) => (.int .i64 x0 : Value)) e0) (el ▸ (hr1).mono hun_none)

noncomputable def build_ct_r16_0 (vv textsv valuesv blindsv : Value) (H : Heaplet) : RC := { ops := opsAt Try.f16 0, B := [0, 0, 0, 4, 12], sl := [(0, .agg #[vv]), (1, textsv), (2, valuesv), (3, blindsv)], A := [H], L := [none, none, none, none, none, none, none, none, none, none, none], cs := [{ val := fun G => .pointer (some ⟨(G 0).b, 0, none⟩), ups := [(0, fun G => some ((G 0).b, .cells #[vv] 24 (0, 0)))] }, { val := fun G => .pointer (some ⟨(G 1).b, 0, none⟩), ups := [(1, fun G => some ((G 1).b, .cells #[.slice none 0 0] 24 (0, 0)))] }, { val := fun _ => .int .i64 0 }, { val := fun _ => .slice none 0 0 }, { val := fun _ => .int .i64 0 }] }
noncomputable def build_ct_r16_1 (vv textsv valuesv blindsv : Value) (H : Heaplet) (b1 b2 : Nat) (n1 : Int) : RC := { ops := opsAt Try.f16 1, B := [0, 1, 3], sl := [(1, textsv), (2, valuesv), (3, blindsv), (4, .pointer (some ⟨b1, 0, none⟩)), (8, .pointer (some ⟨b2, 0, none⟩)), (10, .slice none 0 0)], A := [H], L := [some (b1, .cells #[vv] 24 (0, 0)), some (b2, .cells #[.slice none 0 0] 24 (0, 0)), none, none, none, none, none, none, none, none, none], cs := [{ val := fun _ => textsv }, { val := fun _ => .int .i64 n1 }, { val := fun _ => .int .i64 n1 }] }
noncomputable def build_ct_r16_2 (vv textsv valuesv blindsv : Value) (H : Heaplet) (b1 b2 : Nat) (n1 : Int) (p1 p2 p3 : Bool) (n2 : Int) (p4 p5 : Bool) (n3 : Int) (p6 p7 : Bool) : RC := { ops := opsAt Try.f16 2, B := [0, 1, 3, 7, 15, 31, 63, 127, 255, 511, 255, 2047, 4095, 8191, 16383, 32767, 16383, 131071, 262143], sl := [(1, textsv), (2, valuesv), (3, blindsv), (4, .pointer (some ⟨b1, 0, none⟩)), (8, .pointer (some ⟨b2, 0, none⟩)), (10, .slice none 0 0), (12, .int .i64 n1)], A := [H], L := [some (b1, .cells #[vv] 24 (0, 0)), some (b2, .cells #[.slice none 0 0] 24 (0, 0)), none, none, none, none, none, none, none, none, none], cs := [{ val := fun _ => .agg #[vv], rds := [0] }, { val := fun _ => .bool p1 }, { val := fun _ => .bool (!p1) }, { val := fun _ => .bool (!p1) }, { val := fun _ => .int .i64 n1 }, { val := fun _ => .bool p2 }, { val := fun _ => .bool p3 }, { val := fun _ => .bool p3 }, { val := fun _ => valuesv }, { val := fun _ => .int .i64 n2 }, { val := fun _ => .int .i64 n1 }, { val := fun _ => .bool p4 }, { val := fun _ => .bool p5 }, { val := fun _ => .bool p5 }, { val := fun _ => blindsv }, { val := fun _ => .int .i64 n3 }, { val := fun _ => .int .i64 n1 }, { val := fun _ => .bool p6 }, { val := fun _ => .bool p7 }] }
noncomputable def build_ct_r16_3 (vv textsv valuesv blindsv : Value) (H : Heaplet) (b1 b2 : Nat) (n1 : Int) (p7 : Bool) : RC := { ops := opsAt Try.f16 3, B := [0, 1, 3, 7, 15], sl := [(1, textsv), (2, valuesv), (3, blindsv), (4, .pointer (some ⟨b1, 0, none⟩)), (8, .pointer (some ⟨b2, 0, none⟩)), (10, .slice none 0 0), (12, .int .i64 n1), (39, .bool p7)], A := [H], L := [some (b1, .cells #[vv] 24 (0, 0)), some (b2, .cells #[.slice none 0 0] 24 (0, 0)), none, none, none, none, none, none, none, none, none], cs := [{ val := fun _ => .agg #[.slice none 0 0] }, { val := fun _ => undef, ups := [(1, fun _ => some (b2, .cells #[.slice none 0 0] 24 (0, 0)))] }, { val := fun _ => .int .i64 ((-1)) }, { val := fun _ => .slice none 0 0 }, { val := fun _ => .int .i64 1 }] }
noncomputable def build_ct_r16_4 (vv textsv valuesv blindsv : Value) (H : Heaplet) (b1 b2 : Nat) (n1 : Int) (p7 : Bool) : RC := { ops := opsAt Try.f16 4, B := [0, 1, 0], sl := [(1, textsv), (2, valuesv), (3, blindsv), (4, .pointer (some ⟨b1, 0, none⟩)), (8, .pointer (some ⟨b2, 0, none⟩)), (10, .slice none 0 0), (12, .int .i64 n1), (39, .bool p7)], A := [H], L := [some (b1, .cells #[vv] 24 (0, 0)), some (b2, .cells #[.slice none 0 0] 24 (0, 0)), none, none, none, none, none, none, none, none, none], cs := [{ val := fun _ => textsv }, { val := fun _ => .int .i64 n1 }, { val := fun _ => .int .i64 0 }] }
noncomputable def build_ct_r16_5 (vv textsv valuesv blindsv : Value) (H : Heaplet) (b1 b2 : Nat) (n1 k0 : Int) (p8 : Bool) : RC := { ops := opsAt Try.f16 5, B := [0], sl := [(1, textsv), (2, valuesv), (3, blindsv), (4, .pointer (some ⟨b1, 0, none⟩)), (8, .pointer (some ⟨b2, 0, none⟩)), (10, .slice none 0 0), (12, .int .i64 n1), (42, .int .i64 n1), (43, .int .i64 k0)], A := [H], L := [some (b1, .cells #[vv] 24 (0, 0)), some (b2, .cells #[.slice none 0 0] 24 (0, 0)), none, none, none, none, none, none, none, none, none], cs := [{ val := fun _ => .bool p8 }] }
noncomputable def build_ct_r16_6 (vv textsv valuesv blindsv : Value) (H : Heaplet) (b1 b2 : Nat) (n1 k0 : Int) (p8 : Bool) : RC := { ops := opsAt Try.f16 6, B := [0, 1], sl := [(1, textsv), (2, valuesv), (3, blindsv), (4, .pointer (some ⟨b1, 0, none⟩)), (8, .pointer (some ⟨b2, 0, none⟩)), (10, .slice none 0 0), (12, .int .i64 n1), (42, .int .i64 n1), (43, .int .i64 k0), (44, .bool p8)], A := [H], L := [some (b1, .cells #[vv] 24 (0, 0)), some (b2, .cells #[.slice none 0 0] 24 (0, 0)), none, none, none, none, none, none, none, none, none], cs := [{ val := fun _ => .int .i64 k0 }, { val := fun _ => .int .i64 k0 }] }
noncomputable def build_ct_r16_7 (vv textsv valuesv blindsv : Value) (H : Heaplet) (b1 b2 : Nat) (n1 k0 : Int) (s1 : ByteArray) (n4 n5 : Int) (p9 : Bool) : RC := { ops := opsAt Try.f16 7, B := [0, 0, 3, 7, 0, 0, 48, 112, 0, 0, 768, 1792, 4095, 8191, 16383, 32767, 65535], sl := [(1, textsv), (2, valuesv), (3, blindsv), (4, .pointer (some ⟨b1, 0, none⟩)), (8, .pointer (some ⟨b2, 0, none⟩)), (10, .slice none 0 0), (12, .int .i64 n1), (13, .int .i64 k0), (42, .int .i64 n1), (43, .int .i64 k0)], A := [H], L := [some (b1, .cells #[vv] 24 (0, 0)), some (b2, .cells #[.slice none 0 0] 24 (0, 0)), none, none, none, none, none, none, none, none, none], cs := [{ val := fun _ => textsv }, { val := fun _ => .int .i64 k0 }, { val := fun _ => .pointer (some (elemAddr textsv (k0.toNat * 1))) }, { val := fun _ => .string s1 }, { val := fun _ => valuesv }, { val := fun _ => .int .i64 k0 }, { val := fun _ => .pointer (some (elemAddr valuesv (k0.toNat * 1))) }, { val := fun _ => .int .i64 n4 }, { val := fun _ => blindsv }, { val := fun _ => .int .i64 k0 }, { val := fun _ => .pointer (some (elemAddr blindsv (k0.toNat * 1))) }, { val := fun _ => .int .i64 n5 }, { val := fun _ => .agg #[.string s1, .int .i64 n4, .int .i64 n5, .int .i64 ((-1)), .int .i64 ((-1))] }, { val := fun G => .slice (some ⟨(G 13).b, 0, none⟩) 1 1, ups := [(2, fun G => (some ((G 13).b, .cells #[.string s1, .int .i64 n4, .int .i64 n5, .int .i64 ((-1)), .int .i64 ((-1))] 44 (0, 0))))] }, { val := fun G => .agg #[.slice (some ⟨(G 13).b, 0, none⟩) 1 1] }, { val := fun _ => .bool p9, rds := [2] }, { val := fun _ => .bool (!p9) }] }
noncomputable def build_ct_r16_8 (vv textsv valuesv blindsv : Value) (H : Heaplet) (b1 b2 : Nat) (n1 k0 : Int) (s1 : ByteArray) (n4 n5 : Int) (p9 : Bool) (b3 : Nat) : RC := { ops := opsAt Try.f16 8, B := [0, 1, 3, 7, 15], sl := [(1, textsv), (2, valuesv), (3, blindsv), (4, .pointer (some ⟨b1, 0, none⟩)), (8, .pointer (some ⟨b2, 0, none⟩)), (10, .slice none 0 0), (12, .int .i64 n1), (42, .int .i64 n1), (43, .int .i64 k0), (62, .bool (!p9))], A := [H], L := [some (b1, .cells #[vv] 24 (0, 0)), some (b2, .cells #[.slice none 0 0] 24 (0, 0)), (some (b3, .cells #[.string s1, .int .i64 n4, .int .i64 n5, .int .i64 ((-1)), .int .i64 ((-1))] 44 (0, 0))), none, none, none, none, none, none, none, none], cs := [{ val := fun _ => .agg #[.slice none 0 0] }, { val := fun _ => undef, ups := [(1, fun _ => some (b2, .cells #[.slice none 0 0] 24 (0, 0)))] }, { val := fun _ => .int .i64 ((-1)) }, { val := fun _ => .slice none 0 0 }, { val := fun _ => .int .i64 1 }] }
noncomputable def build_ct_r16_9 (vv textsv valuesv blindsv : Value) (H : Heaplet) (b1 b2 : Nat) (n1 k0 : Int) (s1 : ByteArray) (n4 n5 : Int) (p9 : Bool) (b3 : Nat) (n6 : Int) : RC := { ops := opsAt Try.f16 9, B := [0, 1], sl := [(1, textsv), (2, valuesv), (3, blindsv), (4, .pointer (some ⟨b1, 0, none⟩)), (8, .pointer (some ⟨b2, 0, none⟩)), (10, .slice none 0 0), (12, .int .i64 n1), (42, .int .i64 n1), (43, .int .i64 k0), (62, .bool (!p9))], A := [H], L := [some (b1, .cells #[vv] 24 (0, 0)), some (b2, .cells #[.slice none 0 0] 24 (0, 0)), (some (b3, .cells #[.string s1, .int .i64 n4, .int .i64 n5, .int .i64 ((-1)), .int .i64 ((-1))] 44 (0, 0))), none, none, none, none, none, none, none, none], cs := [{ val := fun _ => .int .i64 n6 }, { val := fun _ => .int .i64 n6 }] }
noncomputable def build_ct_r16_10 (vv textsv valuesv blindsv : Value) (H : Heaplet) (b1 b2 : Nat) (n1 k0 : Int) (p8 p10 : Bool) (n7 n8 n9 n10 : Int) (p11 p12 : Bool) : RC := { ops := opsAt Try.f16 10, B := [0, 1, 3, 7, 15, 31, 7, 71, 255, 511, 1023, 2047], sl := [(1, textsv), (2, valuesv), (3, blindsv), (4, .pointer (some ⟨b1, 0, none⟩)), (8, .pointer (some ⟨b2, 0, none⟩)), (10, .slice none 0 0), (12, .int .i64 n1), (42, .int .i64 n1), (43, .int .i64 k0), (44, .bool p8)], A := [H], L := [some (b1, .cells #[vv] 24 (0, 0)), some (b2, .cells #[.slice none 0 0] 24 (0, 0)), none, none, none, none, none, none, none, none, none], cs := [{ val := fun _ => .int .i64 n1 }, { val := fun _ => .bool p10 }, { val := fun _ => .bool p10 }, { val := fun _ => .pointer (some ⟨b1, 0, none⟩) }, { val := fun _ => vv, rds := [0] }, { val := fun _ => .int .i64 n7 }, { val := fun _ => .int .i64 n1 }, { val := fun _ => .int .i64 n8 }, { val := fun _ => .int .i64 n9 }, { val := fun _ => .int .i64 n10 }, { val := fun _ => .bool p11 }, { val := fun _ => .bool p12 }] }
noncomputable def build_ct_r16_11 (vv textsv valuesv blindsv : Value) (H : Heaplet) (b1 b2 : Nat) (p12 : Bool) : RC := { ops := opsAt Try.f16 11, B := [0, 1, 3, 7, 15], sl := [(1, textsv), (2, valuesv), (3, blindsv), (4, .pointer (some ⟨b1, 0, none⟩)), (8, .pointer (some ⟨b2, 0, none⟩)), (10, .slice none 0 0), (76, .bool p12)], A := [H], L := [some (b1, .cells #[vv] 24 (0, 0)), some (b2, .cells #[.slice none 0 0] 24 (0, 0)), none, none, none, none, none, none, none, none, none], cs := [{ val := fun _ => .agg #[.slice none 0 0] }, { val := fun _ => undef, ups := [(1, fun _ => some (b2, .cells #[.slice none 0 0] 24 (0, 0)))] }, { val := fun _ => .int .i64 ((-1)) }, { val := fun _ => .slice none 0 0 }, { val := fun _ => .int .i64 6 }] }
noncomputable def build_ct_r16_12 (w0 : World) (v : List DThing) (vv textsv valuesv blindsv : Value) (H : Heaplet) (b1 b2 : Nat) (p12 : Bool) : RC := { ops := opsAt Try.f16 12, B := [0, 1, 3, 7, 15, 0, 63], sl := [(1, textsv), (2, valuesv), (3, blindsv), (4, .pointer (some ⟨b1, 0, none⟩)), (8, .pointer (some ⟨b2, 0, none⟩)), (10, .slice none 0 0), (76, .bool p12)], A := [H], L := [some (b1, .cells #[vv] 24 (0, 0)), some (b2, .cells #[.slice none 0 0] 24 (0, 0)), none, none, none, none, none, none, none, none, none], cs := [{ val := fun _ => .pointer (some ⟨b1, 0, none⟩) }, { val := fun _ => vv, rds := [0] }, { val := fun G => (G 2).v, fact := fun G => (OSl 44 (hun (G 2).H H) v (G 2).v (G 2).e) ∧ New w0 (G 2).H, ups := [(3, fun G => (G 2).e)] }, { val := fun G => .agg #[(G 2).v] }, { val := fun G => .agg #[(G 2).v] }, { val := fun G => .pointer (some ⟨(G 5).b, 0, none⟩), ups := [(4, fun G => some ((G 5).b, .cells #[.slice none 0 0] 68 (0, 0)))] }, { val := fun _ => undef, ups := [(4, fun G => some ((G 5).b, .cells #[(G 2).v] 68 (0, 0)))] }] }
noncomputable def build_ct_r16_13 (vv textsv valuesv blindsv : Value) (H : Heaplet) (b1 b2 : Nat) (n1 : Int) (b4 : Nat) (e1 : Ent) (v1 : Value) : RC := { ops := opsAt Try.f16 13, B := [0, 1, 0], sl := [(1, textsv), (2, valuesv), (3, blindsv), (8, .pointer (some ⟨b2, 0, none⟩)), (10, .slice none 0 0), (14, .pointer (some ⟨b4, 0, none⟩))], A := [H], L := [some (b1, .cells #[vv] 24 (0, 0)), some (b2, .cells #[.slice none 0 0] 24 (0, 0)), none, e1, some (b4, .cells #[v1] 68 (0, 0)), none, none, none, none, none, none], cs := [{ val := fun _ => textsv }, { val := fun _ => .int .i64 n1 }, { val := fun _ => .int .i64 0 }] }
noncomputable def build_ct_r16_14 (vv textsv valuesv blindsv : Value) (H : Heaplet) (b1 b2 : Nat) (n1 : Int) (b4 : Nat) (leavesv : Value) (leavese : Ent) (k1 : Int) (bv : Value) (be : Ent) (p13 : Bool) : RC := { ops := opsAt Try.f16 14, B := [0], sl := [(1, textsv), (2, valuesv), (3, blindsv), (8, .pointer (some ⟨b2, 0, none⟩)), (10, leavesv), (14, .pointer (some ⟨b4, 0, none⟩)), (84, .int .i64 n1), (85, .int .i64 k1)], A := [H], L := [some (b1, .cells #[vv] 24 (0, 0)), some (b2, .cells #[.slice none 0 0] 24 (0, 0)), none, be, some (b4, .cells #[bv] 68 (0, 0)), none, leavese, none, none, none, none], cs := [{ val := fun _ => .bool p13 }] }
noncomputable def build_ct_r16_15 (vv textsv valuesv blindsv : Value) (H : Heaplet) (b1 b2 : Nat) (n1 : Int) (b4 : Nat) (leavesv : Value) (leavese : Ent) (k1 : Int) (bv : Value) (be : Ent) (p13 : Bool) : RC := { ops := opsAt Try.f16 15, B := [0, 1], sl := [(1, textsv), (2, valuesv), (3, blindsv), (8, .pointer (some ⟨b2, 0, none⟩)), (10, leavesv), (14, .pointer (some ⟨b4, 0, none⟩)), (84, .int .i64 n1), (85, .int .i64 k1), (86, .bool p13)], A := [H], L := [some (b1, .cells #[vv] 24 (0, 0)), some (b2, .cells #[.slice none 0 0] 24 (0, 0)), none, be, some (b4, .cells #[bv] 68 (0, 0)), none, leavese, none, none, none, none], cs := [{ val := fun _ => .int .i64 k1 }, { val := fun _ => .int .i64 k1 }] }
noncomputable def build_ct_r16_16 (w0 : World) (v : List DThing) (vv textsv valuesv blindsv : Value) (H : Heaplet) (b1 b2 : Nat) (n1 : Int) (b4 : Nat) (leavesv : Value) (leavese : Ent) (k1 : Int) (b : List DThing) (bv : Value) (be : Ent) (s2 : ByteArray) (n11 n12 n13 : Int) (l1 : List DThing) (l2 : List Int) : RC := { ops := opsAt Try.f16 16, B := [0, 0, 0, 6, 14, 0, 0, 96, 224, 0, 0, 1536, 3584, 8190, 16382, 32766, 65535, 131071], sl := [(1, textsv), (2, valuesv), (3, blindsv), (8, .pointer (some ⟨b2, 0, none⟩)), (10, leavesv), (14, .pointer (some ⟨b4, 0, none⟩)), (15, .int .i64 k1), (84, .int .i64 n1), (85, .int .i64 k1)], A := [H], L := [some (b1, .cells #[vv] 24 (0, 0)), some (b2, .cells #[.slice none 0 0] 24 (0, 0)), none, be, some (b4, .cells #[bv] 68 (0, 0)), none, leavese, none, none, none, none], cs := [{ val := fun _ => leavesv }, { val := fun _ => textsv }, { val := fun _ => .int .i64 k1 }, { val := fun _ => .pointer (some (elemAddr textsv (k1.toNat * 1))) }, { val := fun _ => .string s2 }, { val := fun _ => valuesv }, { val := fun _ => .int .i64 k1 }, { val := fun _ => .pointer (some (elemAddr valuesv (k1.toNat * 1))) }, { val := fun _ => .int .i64 n11 }, { val := fun _ => blindsv }, { val := fun _ => .int .i64 k1 }, { val := fun _ => .pointer (some (elemAddr blindsv (k1.toNat * 1))) }, { val := fun _ => .int .i64 n12 }, { val := fun _ => .agg #[.string s2, .int .i64 n11, .int .i64 n12, .int .i64 ((-1)), .int .i64 ((-1))] }, { val := fun _ => .int .i64 n13, fact := fun G => (OSl 44 (hun (G 14).H H) l1 (G 14).v (G 14).e) ∧ New w0 (G 14).H, ups := [(4, fun G => some (b4, .cells #[(G 14).v] 68 (0, 0))), (3, fun G => (G 14).e)] }, { val := fun G => .slice (some ⟨(G 15).b, 0, none⟩) 1 1, ups := [(5, fun G => (some ((G 15).b, .cells #[.int .i64 n13] 3 (0, 0))))] }, { val := fun G => (G 16).v, fact := fun G => OSl 3 H l2 (G 16).v (G 16).e, ups := [(6, fun G => (G 16).e)], rds := [5] }, { val := fun G => (G 16).v }] }
noncomputable def build_ct_r16_17 (vv textsv valuesv blindsv : Value) (H : Heaplet) (b1 b2 : Nat) (n1 : Int) (b4 : Nat) (k1 n13 : Int) (v2 : Value) (e2 : Ent) (v3 : Value) (b5 : Nat) (e3 : Ent) (n14 : Int) : RC := { ops := opsAt Try.f16 17, B := [0, 1], sl := [(1, textsv), (2, valuesv), (3, blindsv), (8, .pointer (some ⟨b2, 0, none⟩)), (10, v2), (14, .pointer (some ⟨b4, 0, none⟩)), (84, .int .i64 n1), (85, .int .i64 k1)], A := [H], L := [some (b1, .cells #[vv] 24 (0, 0)), some (b2, .cells #[.slice none 0 0] 24 (0, 0)), none, e2, some (b4, .cells #[v3] 68 (0, 0)), (some (b5, .cells #[.int .i64 n13] 3 (0, 0))), e3, none, none, none, none], cs := [{ val := fun _ => .int .i64 n14 }, { val := fun _ => .int .i64 n14 }] }
noncomputable def build_ct_r16_18 (w0 : World) (v : List DThing) (vv textsv valuesv blindsv : Value) (H : Heaplet) (b1 b2 : Nat) (n1 : Int) (b4 : Nat) (leaves : List Int) (leavesv : Value) (leavese : Ent) (k1 : Int) (bv : Value) (be : Ent) (p13 : Bool) : RC := { ops := opsAt Try.f16 18, B := [0, 1, 3], sl := [(1, textsv), (2, valuesv), (3, blindsv), (8, .pointer (some ⟨b2, 0, none⟩)), (10, leavesv), (14, .pointer (some ⟨b4, 0, none⟩)), (84, .int .i64 n1), (85, .int .i64 k1), (86, .bool p13)], A := [H], L := [some (b1, .cells #[vv] 24 (0, 0)), some (b2, .cells #[.slice none 0 0] 24 (0, 0)), none, be, some (b4, .cells #[bv] 68 (0, 0)), none, leavese, none, none, none, none], cs := [{ val := fun _ => leavesv }, { val := fun G => (G 1).v, fact := fun G => (OSl 3 (hun (G 1).H ((hun (entH leavese) H))) leaves (G 1).v (G 1).e) ∧ New w0 (G 1).H, ups := [(7, fun G => (G 1).e)], rds := [6] }, { val := fun G => (G 1).v }] }
noncomputable def build_ct_r16_19 (vv : Value) (b1 b2 b4 : Nat) (leavesv : Value) (leavese : Ent) (K2 : Heaplet) (levelv b_1v : Value) (b_1e : Ent) (n15 : Int) (p14 : Bool) : RC := { ops := opsAt Try.f16 19, B := [0, 1, 3], sl := [(8, .pointer (some ⟨b2, 0, none⟩)), (10, leavesv), (14, .pointer (some ⟨b4, 0, none⟩)), (16, levelv)], A := [K2], L := [some (b1, .cells #[vv] 24 (0, 0)), some (b2, .cells #[.slice none 0 0] 24 (0, 0)), none, b_1e, some (b4, .cells #[b_1v] 68 (0, 0)), none, leavese, none, none, none, none], cs := [{ val := fun _ => levelv }, { val := fun _ => .int .i64 n15 }, { val := fun _ => .bool p14 }] }
noncomputable def build_ct_r16_20 (vv : Value) (b1 b2 b4 : Nat) (leavesv : Value) (leavese : Ent) (K2 : Heaplet) (levelv b_1v : Value) (b_1e : Ent) (p14 : Bool) : RC := { ops := opsAt Try.f16 20, B := [0], sl := [(8, .pointer (some ⟨b2, 0, none⟩)), (10, leavesv), (14, .pointer (some ⟨b4, 0, none⟩)), (16, levelv), (110, .bool p14)], A := [K2], L := [some (b1, .cells #[vv] 24 (0, 0)), some (b2, .cells #[.slice none 0 0] 24 (0, 0)), none, b_1e, some (b4, .cells #[b_1v] 68 (0, 0)), none, leavese, none, none, none, none], cs := [{ val := fun _ => .slice none 0 0 }] }
noncomputable def build_ct_r16_21 (vv : Value) (b1 b2 b4 : Nat) (leavesv : Value) (leavese : Ent) (K2 : Heaplet) (levelv b_1v : Value) (b_1e : Ent) : RC := { ops := opsAt Try.f16 21, B := [0], sl := [(8, .pointer (some ⟨b2, 0, none⟩)), (10, leavesv), (14, .pointer (some ⟨b4, 0, none⟩)), (16, levelv), (17, .slice none 0 0)], A := [K2], L := [some (b1, .cells #[vv] 24 (0, 0)), some (b2, .cells #[.slice none 0 0] 24 (0, 0)), none, b_1e, some (b4, .cells #[b_1v] 68 (0, 0)), none, leavese, none, none, none, none], cs := [{ val := fun _ => .int .i64 0 }] }
noncomputable def build_ct_r16_22 (vv : Value) (b1 b2 b4 : Nat) (leavesv : Value) (leavese : Ent) (K2 : Heaplet) (levelv : Value) (n15 : Int) (nextv : Value) (nexte : Ent) (i : Int) (b_2v : Value) (b_2e : Ent) (n16 : Int) (p15 : Bool) : RC := { ops := opsAt Try.f16 22, B := [0, 1, 0, 4, 15], sl := [(8, .pointer (some ⟨b2, 0, none⟩)), (10, leavesv), (14, .pointer (some ⟨b4, 0, none⟩)), (16, levelv), (17, nextv), (18, .int .i64 i)], A := [K2], L := [some (b1, .cells #[vv] 24 (0, 0)), some (b2, .cells #[.slice none 0 0] 24 (0, 0)), none, b_2e, some (b4, .cells #[b_2v] 68 (0, 0)), none, leavese, none, none, nexte, none], cs := [{ val := fun _ => .int .i64 i }, { val := fun _ => .int .i64 n16 }, { val := fun _ => levelv }, { val := fun _ => .int .i64 n15 }, { val := fun _ => .bool p15 }] }
noncomputable def build_ct_r16_23 (w0 : World) (v : List DThing) (vv : Value) (H : Heaplet) (b1 b2 b4 : Nat) (leavesv : Value) (leavese : Ent) (b : List DThing) (K2 : Heaplet) (levelv nextv : Value) (nexte : Ent) (i : Int) (b_2v : Value) (b_2e : Ent) (n16 : Int) (p15 : Bool) (n17 n18 n19 : Int) (l3 : List DThing) (l4 : List Int) : RC := { ops := opsAt Try.f16 24, B := [0, 0, 0, 6, 14, 0, 0, 64, 224, 480, 1022, 2046, 4095, 8191], sl := [(8, .pointer (some ⟨b2, 0, none⟩)), (10, leavesv), (14, .pointer (some ⟨b4, 0, none⟩)), (16, levelv), (17, nextv), (18, .int .i64 i), (115, .bool p15)], A := [K2], L := [some (b1, .cells #[vv] 24 (0, 0)), some (b2, .cells #[.slice none 0 0] 24 (0, 0)), none, b_2e, some (b4, .cells #[b_2v] 68 (0, 0)), none, leavese, none, none, nexte, none], cs := [{ val := fun _ => nextv }, { val := fun _ => levelv }, { val := fun _ => .int .i64 i }, { val := fun _ => .pointer (some (elemAddr levelv (i.toNat * 1))) }, { val := fun _ => .int .i64 n17 }, { val := fun _ => levelv }, { val := fun _ => .int .i64 i }, { val := fun _ => .int .i64 n16 }, { val := fun _ => .pointer (some (elemAddr levelv (n16.toNat * 1))) }, { val := fun _ => .int .i64 n18 }, { val := fun _ => .int .i64 n19, fact := fun G => (OSl 44 (hun (G 10).H K2) l3 (G 10).v (G 10).e) ∧ New w0 (G 10).H, ups := [(4, fun G => some (b4, .cells #[(G 10).v] 68 (0, 0))), (3, fun G => (G 10).e)] }, { val := fun G => .slice (some ⟨(G 11).b, 0, none⟩) 1 1, ups := [(8, fun G => (some ((G 11).b, .cells #[.int .i64 n19] 3 (0, 0))))] }, { val := fun G => (G 12).v, fact := fun G => OSl 3 K2 l4 (G 12).v (G 12).e, ups := [(9, fun G => (G 12).e)], rds := [8] }, { val := fun G => (G 12).v }] }
noncomputable def build_ct_r16_24 (vv : Value) (b1 b2 b4 : Nat) (leavesv : Value) (leavese : Ent) (K2 : Heaplet) (levelv : Value) (i n19 : Int) (v5 : Value) (e5 : Ent) (v6 : Value) (b6 : Nat) (e6 : Ent) (n20 : Int) : RC := { ops := opsAt Try.f16 23, B := [0, 1, 3], sl := [(8, .pointer (some ⟨b2, 0, none⟩)), (10, leavesv), (14, .pointer (some ⟨b4, 0, none⟩)), (16, levelv), (17, v5), (18, .int .i64 i)], A := [K2], L := [some (b1, .cells #[vv] 24 (0, 0)), some (b2, .cells #[.slice none 0 0] 24 (0, 0)), none, e5, some (b4, .cells #[v6] 68 (0, 0)), none, leavese, none, (some (b6, .cells #[.int .i64 n19] 3 (0, 0))), e6, none], cs := [{ val := fun _ => .int .i64 i }, { val := fun _ => .int .i64 n20 }, { val := fun _ => .int .i64 n20 }] }
noncomputable def build_ct_r16_25 (vv : Value) (b1 b2 b4 : Nat) (leavesv : Value) (leavese : Ent) (K2 : Heaplet) (levelv : Value) (n15 : Int) (nextv : Value) (nexte : Ent) (i : Int) (b_2v : Value) (b_2e : Ent) (p15 : Bool) (n21 : Int) (p16 : Bool) : RC := { ops := opsAt Try.f16 25, B := [0, 1, 3, 7], sl := [(8, .pointer (some ⟨b2, 0, none⟩)), (10, leavesv), (14, .pointer (some ⟨b4, 0, none⟩)), (16, levelv), (17, nextv), (18, .int .i64 i), (115, .bool p15)], A := [K2], L := [some (b1, .cells #[vv] 24 (0, 0)), some (b2, .cells #[.slice none 0 0] 24 (0, 0)), none, b_2e, some (b4, .cells #[b_2v] 68 (0, 0)), none, leavese, none, none, nexte, none], cs := [{ val := fun _ => levelv }, { val := fun _ => .int .i64 n15 }, { val := fun _ => .int .i64 n21 }, { val := fun _ => .bool p16 }] }
noncomputable def build_ct_r16_26 (v : List DThing) (vv : Value) (b1 b2 b4 : Nat) (leavesv : Value) (leavese : Ent) (b : List DThing) (K2 : Heaplet) (levelv : Value) (n15 : Int) (nextv : Value) (nexte : Ent) (b_2v : Value) (b_2e : Ent) (p16 : Bool) (n22 n23 : Int) (l5 : List Int) : RC := { ops := opsAt Try.f16 26, B := [0, 0, 0, 4, 12, 30, 62, 126, 255, 511], sl := [(8, .pointer (some ⟨b2, 0, none⟩)), (10, leavesv), (14, .pointer (some ⟨b4, 0, none⟩)), (16, levelv), (17, nextv), (134, .bool p16)], A := [K2], L := [some (b1, .cells #[vv] 24 (0, 0)), some (b2, .cells #[.slice none 0 0] 24 (0, 0)), none, b_2e, some (b4, .cells #[b_2v] 68 (0, 0)), none, leavese, none, none, nexte, none], cs := [{ val := fun _ => nextv }, { val := fun _ => levelv }, { val := fun _ => levelv }, { val := fun _ => .int .i64 n15 }, { val := fun _ => .int .i64 n22 }, { val := fun _ => .pointer (some (elemAddr levelv (n22.toNat * 1))) }, { val := fun _ => .int .i64 n23 }, { val := fun G => .slice (some ⟨(G 7).b, 0, none⟩) 1 1, ups := [(10, fun G => (some ((G 7).b, .cells #[.int .i64 n23] 3 (0, 0))))] }, { val := fun G => (G 8).v, fact := fun G => OSl 3 K2 l5 (G 8).v (G 8).e, ups := [(9, fun G => (G 8).e)], rds := [10] }, { val := fun G => (G 8).v }] }
noncomputable def build_ct_r16_27 (vv : Value) (b1 b2 b4 : Nat) (leavesv : Value) (leavese : Ent) (K2 : Heaplet) (b_2v : Value) (b_2e : Ent) (n23 : Int) (v7 : Value) (e7 : Ent) (b7 : Nat) : RC := { ops := opsAt Try.f16 27, B := [0, 1], sl := [(8, .pointer (some ⟨b2, 0, none⟩)), (10, leavesv), (14, .pointer (some ⟨b4, 0, none⟩)), (17, v7)], A := [K2], L := [some (b1, .cells #[vv] 24 (0, 0)), some (b2, .cells #[.slice none 0 0] 24 (0, 0)), none, b_2e, some (b4, .cells #[b_2v] 68 (0, 0)), none, leavese, none, none, e7, (some (b7, .cells #[.int .i64 n23] 3 (0, 0)))], cs := [{ val := fun _ => v7 }, { val := fun _ => v7 }] }
noncomputable def build_ct_r16_28 (vv : Value) (b1 b2 b4 : Nat) (leavesv : Value) (leavese : Ent) (K2 : Heaplet) (levelv nextv : Value) (nexte : Ent) (b_2v : Value) (b_2e : Ent) (p16 : Bool) : RC := { ops := opsAt Try.f16 27, B := [0, 1], sl := [(8, .pointer (some ⟨b2, 0, none⟩)), (10, leavesv), (14, .pointer (some ⟨b4, 0, none⟩)), (16, levelv), (17, nextv), (134, .bool p16)], A := [K2], L := [some (b1, .cells #[vv] 24 (0, 0)), some (b2, .cells #[.slice none 0 0] 24 (0, 0)), none, b_2e, some (b4, .cells #[b_2v] 68 (0, 0)), none, leavese, none, none, nexte, none], cs := [{ val := fun _ => nextv }, { val := fun _ => nextv }] }
noncomputable def build_ct_r16_29 (vv : Value) (b1 b2 b4 : Nat) (leavesv : Value) (leavese : Ent) (K2 : Heaplet) (levelv b_1v : Value) (b_1e : Ent) (p14 : Bool) (n24 : Int) : RC := { ops := opsAt Try.f16 28, B := [0, 1, 0, 4, 12, 0, 3, 95, 255, 511], sl := [(8, .pointer (some ⟨b2, 0, none⟩)), (10, leavesv), (14, .pointer (some ⟨b4, 0, none⟩)), (16, levelv), (110, .bool p14)], A := [K2], L := [some (b1, .cells #[vv] 24 (0, 0)), some (b2, .cells #[.slice none 0 0] 24 (0, 0)), none, b_1e, some (b4, .cells #[b_1v] 68 (0, 0)), none, leavese, none, none, none, none], cs := [{ val := fun _ => .pointer (some ⟨b4, 0, none⟩) }, { val := fun _ => .agg #[b_1v], rds := [4] }, { val := fun _ => levelv }, { val := fun _ => .pointer (some (elemAddr levelv ((0 : Int).toNat * 1))) }, { val := fun _ => .int .i64 n24 }, { val := fun _ => leavesv }, { val := fun _ => undef, ups := [(1, fun _ => some (b2, .cells #[b_1v] 24 (0, 0)))] }, { val := fun _ => .int .i64 n24 }, { val := fun _ => leavesv }, { val := fun _ => .int .i64 0 }] }
set_option maxRecDepth 10000 in
theorem build_ct (v : List DThing) (vv : Value) (texts : List ByteArray) (textsv : Value) (values : List Int) (valuesv : Value) (blinds : List Int) (blindsv : Value) (w0 : World) (H : Heaplet) (hA : Agrees w0 H) (hv : RSl H v vv) (htexts : RSl H texts textsv) (hvalues : RSl H values valuesv) (hblinds : RSl H blinds blindsv) :
    Calls Try.prog 16 #[.agg #[vv], textsv, valuesv, blindsv] w0 (Makes H (fun g => .tuple #[.agg #[g.v], .int .i64 ((Tm.buildR v texts values blinds)), g.v2, .int .i64 ((Tm.buildE v texts values blinds))]) (fun J g => RSl J ((Tm.buildT v texts values blinds)) g.v ∧ RSl J ((Tm.buildL v texts values blinds)) g.v2) w0) := by
  have hE : Ext w0 H H := Ext.refl w0 H
  have hvn := hv.lim
  have htextsn := htexts.lim
  have hvaluesn := hvalues.lim
  have hblindsn := hblinds.lim
  refine calls_of_W (sl := [(0, .agg #[vv]), (1, textsv), (2, valuesv), (3, blindsv)]) (A := [H]) (L := [none, none, none, none, none, none, none, none, none, none, none]) Try.func16 (by kernel_rfl) 151 (by kernel_rfl) (by kernel_rfl) (fun J hJ => by simp at hJ; subst hJ; exact hA) (by simp) ?_
  refine W.seq (by kernel_rfl) ?_
  refine W.regV (build_ct_r16_0 vv textsv valuesv blindsv H) [2, 3, 4] [0, 1] (fun G => [.int .i64 0, .slice none 0 0, .int .i64 0]) (by kernel_rfl) mo_tb (by kernel_rfl) (fun _ _ => by kernel_rfl) ⟨?_, ?_, trivial⟩ (by kernel_rfl) ?_
  · exact One.new (r := 0) (T := 24) (fun b => .pointer (some ⟨b, 0, none⟩)) (arr := fun G => #[vv]) (fun G w => by kernel_rfl) (fun G b => by kernel_rfl)
  · exact One.new (r := 1) (T := 24) (fun b => .pointer (some ⟨b, 0, none⟩)) (arr := fun G => #[.slice none 0 0]) (fun G w => by kernel_rfl) (fun G b => by kernel_rfl)
  intro G1 xa xw hDn
  refine hDn.to [1, 2, 3, 4, 8, 10] [] (by kernel_rfl) ?_
  clear hDn
  refine Pre.conv (sl := [(1, textsv), (2, valuesv), (3, blindsv), (4, .pointer (some ⟨(G1 0).b, 0, none⟩)), (8, .pointer (some ⟨(G1 1).b, 0, none⟩)), (10, .slice none 0 0)]) (A := [H]) (L := [some ((G1 0).b, .cells #[vv] 24 (0, 0)), some ((G1 1).b, .cells #[.slice none 0 0] 24 (0, 0)), none, none, none, none, none, none, none, none, none]) ?_ (by kernel_rfl) (by kernel_rfl) (by kernel_rfl)
  generalize (G1 0).b = b1 at ⊢
  generalize (G1 1).b = b2 at ⊢
  clear G1
  refine At.then ?_
  refine W.seq (by kernel_rfl) ?_
  obtain ⟨n1, hn1⟩ : ∃ zz : Int, zz = (texts.length : Int) := ⟨_, rfl⟩
  refine W.regV (build_ct_r16_1 vv textsv valuesv blindsv H b1 b2 n1) [0, 2] [1] (fun G => [textsv, .int .i64 n1]) (by kernel_rfl) mo_tb (by kernel_rfl) (fun _ _ => by kernel_rfl) ⟨?_, trivial⟩ (by kernel_rfl) ?_
  · exact One.len (t := 25) (n := n1) (v := fun G => textsv) (fun _ => ⟨by kernel_rfl⟩) (fun G w hs => ⟨_, (htexts).isSl, hn1⟩)
  intro G2 xa xw hDn
  refine hDn.to [1, 2, 3, 4, 8, 10, 12] [] (by kernel_rfl) ?_
  clear hDn
  refine Pre.conv (sl := [(1, textsv), (2, valuesv), (3, blindsv), (4, .pointer (some ⟨b1, 0, none⟩)), (8, .pointer (some ⟨b2, 0, none⟩)), (10, .slice none 0 0), (12, .int .i64 n1)]) (A := [H]) (L := [some (b1, .cells #[vv] 24 (0, 0)), some (b2, .cells #[.slice none 0 0] 24 (0, 0)), none, none, none, none, none, none, none, none, none]) ?_ (by kernel_rfl) (by kernel_rfl) (by kernel_rfl)
  clear G2
  refine At.then ?_
  refine W.seq (by kernel_rfl) ?_
  refine W.seq (by kernel_rfl) ?_
  obtain ⟨p1, hp1⟩ : ∃ zz : Bool, zz = (decide (Tm.Sound v)) := ⟨_, rfl⟩
  obtain ⟨p2, hp2⟩ : ∃ zz : Bool, zz = decide (n1 = 0) := ⟨_, rfl⟩
  obtain ⟨p3, hp3⟩ : ∃ zz : Bool, zz = (!p1 || p2) := ⟨_, rfl⟩
  obtain ⟨n2, hn2⟩ : ∃ zz : Int, zz = (values.length : Int) := ⟨_, rfl⟩
  obtain ⟨p4, hp4⟩ : ∃ zz : Bool, zz = !(decide (n2 = n1)) := ⟨_, rfl⟩
  obtain ⟨p5, hp5⟩ : ∃ zz : Bool, zz = (p3 || p4) := ⟨_, rfl⟩
  obtain ⟨n3, hn3⟩ : ∃ zz : Int, zz = (blinds.length : Int) := ⟨_, rfl⟩
  obtain ⟨p6, hp6⟩ : ∃ zz : Bool, zz = !(decide (n3 = n1)) := ⟨_, rfl⟩
  obtain ⟨p7, hp7⟩ : ∃ zz : Bool, zz = (p5 || p6) := ⟨_, rfl⟩
  refine W.regV (build_ct_r16_2 vv textsv valuesv blindsv H b1 b2 n1 p1 p2 p3 n2 p4 p5 n3 p6 p7) [2, 3, 4, 7, 8, 10, 13, 14, 16] [0, 1, 5, 6, 9, 11, 12, 15, 17, 18] (fun G => [.bool (!p1), .bool (!p1), .int .i64 n1, .bool p3, valuesv, .int .i64 n1, .bool p5, blindsv, .int .i64 n1]) (by kernel_rfl) mo_tb (by kernel_rfl) (fun _ _ => by kernel_rfl) ⟨?_, ?_, ?_, ?_, ?_, ?_, ?_, ?_, ?_, ?_, trivial⟩ (by kernel_rfl) ?_
  · exact One.loadE (t := 24) (r := 0) (off := 0) (b := fun G => b1) (vs := fun G => [vv]) (arr := fun G => #[vv]) (T := 24) (fr := (0, 0)) (fun G => ⟨by kernel_rfl⟩) (fun G => by kernel_rfl)
  · exact One.callP (v := fun G => .bool p1) (f := 26) (args := fun G => #[.agg #[vv]]) (fun _ _ => by kernel_rfl) (fun G w hs => by
      rw [hp1]
      exact sound_ct v vv w H (hs.read 0 rfl) (hv) )
  · exact One.bo hp2 (fun _ _ => by kernel_rfl)
  · subst hp3
    cases p1 <;> exact One.under fun _ _ _ => by kernel_rfl
  · exact One.len (t := 26) (n := n2) (v := fun G => valuesv) (fun _ => ⟨by kernel_rfl⟩) (fun G w hs => by
      have hg := gd_of hs (p := (true && (p3 == false))) (by kernel_rfl)
      have hg0 := (iN hp3 (iOF (iNF (iN hp1 iDT)) (iN hp2 iDF))).1 (eqF (andR hg))
      exact ⟨_, (hvalues).isSl, hn2⟩)
  · exact One.bo hp4 (fun _ _ => by kernel_rfl)
  · subst hp5
    cases p3 <;> exact One.under fun _ _ _ => by kernel_rfl
  · exact One.len (t := 26) (n := n3) (v := fun G => blindsv) (fun _ => ⟨by kernel_rfl⟩) (fun G w hs => by
      have hg := gd_of hs (p := (true && (p5 == false))) (by kernel_rfl)
      have hg0 := (iN hp5 (iOF (iN hp3 (iOF (iNF (iN hp1 iDT)) (iN hp2 iDF))) (iN hp4 (iNF iDT)))).1 (eqF (andR hg))
      exact ⟨_, (hblinds).isSl, hn3⟩)
  · exact One.bo hp6 (fun _ _ => by kernel_rfl)
  · subst hp7
    cases p5 <;> exact One.under fun _ _ _ => by kernel_rfl
  intro G3 xa xw hDn
  refine hDn.to [1, 2, 3, 4, 8, 10, 12, 39] [] (by kernel_rfl) ?_
  clear hDn
  refine Pre.conv (sl := [(1, textsv), (2, valuesv), (3, blindsv), (4, .pointer (some ⟨b1, 0, none⟩)), (8, .pointer (some ⟨b2, 0, none⟩)), (10, .slice none 0 0), (12, .int .i64 n1), (39, .bool p7)]) (A := [H]) (L := [some (b1, .cells #[vv] 24 (0, 0)), some (b2, .cells #[.slice none 0 0] 24 (0, 0)), none, none, none, none, none, none, none, none, none]) ?_ (by kernel_rfl) (by kernel_rfl) (by kernel_rfl)
  clear G3
  refine At.then ?_
  refine W.cond p7 (by kernel_rfl) (fun xa hs => cnd_of (t := 39) (by kernel_rfl) (by kernel_rfl) hs) (fun hq => ?_) (fun hq => ?_)
  · skip
    have hq1 := hq
    replace hq1 := (iN hp7 (iOT (iN hp5 (iOT (iN hp3 (iOT (iNT (iN hp1 iDF)) (iN hp2 iDT))) (iN hp4 (iNT iDF)))) (iN hp6 (iNT iDF)))).1 hq1
    refine W.seq (by kernel_rfl) ?_
    have hB := Tm.build_arg (v := v) (texts := texts) (values := values) (blinds := blinds) (by rintro ⟨a1, a2, a3, a4, _⟩; rcases hq1 with ((h | h) | h) | h <;> first | exact h a1 | omega)
    refine W.regV (build_ct_r16_3 vv textsv valuesv blindsv H b1 b2 n1 p7) [0, 2, 3, 4] [1] (fun G => [.agg #[.slice none 0 0], .int .i64 ((-1)), .slice none 0 0, .int .i64 1]) (by kernel_rfl) mo_tb (by kernel_rfl) (fun _ _ => by kernel_rfl) ⟨?_, trivial⟩ (by kernel_rfl) ?_
    · exact One.store (t := 24) (r := 1) (off := 0) (T := 24) (b := fun G => b2) (u := fun G => .agg #[.slice none 0 0]) (vs := fun G => [.slice none 0 0]) (arr := fun G => #[.slice none 0 0]) (fun G => ⟨by kernel_rfl⟩) (fun G => by kernel_rfl)
    intro G4 xa xw hDn
    refine hDn.to [8, 9, 10, 11] [] (by kernel_rfl) ?_
    clear hDn
    refine Pre.conv (sl := [(8, .pointer (some ⟨b2, 0, none⟩)), (9, .int .i64 ((-1))), (10, .slice none 0 0), (11, .int .i64 1)]) (A := [H]) (L := [some (b1, .cells #[vv] 24 (0, 0)), some (b2, .cells #[.slice none 0 0] 24 (0, 0)), none, none, none, none, none, none, none, none, none]) ?_ (by kernel_rfl) (by kernel_rfl) (by kernel_rfl)
    clear G4
    refine At.then ?_
    refine W.ret (by kernel_rfl) ?_
    refine At.thenRet ?_
    refine At.results (Or.inl rfl) (.tuple #[.agg #[.slice none 0 0], .int .i64 ((-1)), .slice none 0 0, .int .i64 1]) (fun xa xw hs hw => results_many (rs := [.cell 8 24, .tmp 9, .tmp 10, .tmp 11]) (vs := [.agg #[.slice none 0 0], .int .i64 ((-1)), .slice none 0 0, .int .i64 1]) (by kernel_rfl) (by simp) ⟨res_cell (ty := 24) (r := 1) (b := b2) (off := 0) (arr := #[.slice none 0 0]) (T := 24) (vs := [.slice none 0 0]) hs hw (by kernel_rfl), res_tmp (t := 9) (by kernel_rfl) hs, res_tmp (t := 10) (by kernel_rfl) hs, res_tmp (t := 11) (by kernel_rfl) hs, trivial⟩) (fun w' hw => ?_)
    have e0 : ([] : List DThing) = (Tm.buildT v texts values blinds) := by
      rw [hB.2.1]
    have e1 : (-1) = (Tm.buildR v texts values blinds) := by
      rw [hB.2.2.1]
    have e2 : ([] : List Int) = (Tm.buildL v texts values blinds) := by
      rw [hB.2.2.2]
    have e3 : 1 = (Tm.buildE v texts values blinds) := by
      rw [hB.1]
    exact Makes.ret (.slice none 0 0) (.slice none 0 0) undef hA hE hw (fun N => cong2 (fun (x1 : Int) (x3 : Int) => (.tuple #[.agg #[.slice none 0 0], .int .i64 x1, .slice none 0 0, .int .i64 x3] : Value)) e1 e3) (fun N J hJ => ⟨(e0 ▸ RSl.nil), (e2 ▸ RSl.nil)⟩)
  · skip
    have hq2 := hq
    replace hq2 := (iN hp7 (iOF (iN hp5 (iOF (iN hp3 (iOF (iNF (iN hp1 iDT)) (iN hp2 iDF))) (iN hp4 (iNF iDT)))) (iN hp6 (iNF iDT)))).1 hq2
    refine W.skip (by kernel_rfl) ?_
    refine At.then ?_
    refine W.seq (by kernel_rfl) ?_
    refine W.seq (by kernel_rfl) ?_
    have hS : Tm.Sound v := by rcases hq2 with ⟨⟨⟨h, _⟩, _⟩, _⟩; first | exact h | exact Decidable.not_not.1 h
    have hS1 := hS.1
    have hn : texts.length ≠ 0 ∧ values.length = texts.length ∧ blinds.length = texts.length := by omega
    refine W.regV (build_ct_r16_4 vv textsv valuesv blindsv H b1 b2 n1 p7) [0, 2] [1] (fun G => [textsv, .int .i64 0]) (by kernel_rfl) mo_tb (by kernel_rfl) (fun _ _ => by kernel_rfl) ⟨?_, trivial⟩ (by kernel_rfl) ?_
    · exact One.len (t := 25) (n := n1) (v := fun G => textsv) (fun _ => ⟨by kernel_rfl⟩) (fun G w hs => ⟨_, (htexts).isSl, hn1⟩)
    intro G5 xa xw hDn
    refine hDn.to [1, 2, 3, 4, 8, 10, 12, 42, 43] [] (by kernel_rfl) ?_
    clear hDn
    refine Pre.conv (sl := [(1, textsv), (2, valuesv), (3, blindsv), (4, .pointer (some ⟨b1, 0, none⟩)), (8, .pointer (some ⟨b2, 0, none⟩)), (10, .slice none 0 0), (12, .int .i64 n1), (42, .int .i64 n1), (43, .int .i64 0)]) (A := [H]) (L := [some (b1, .cells #[vv] 24 (0, 0)), some (b2, .cells #[.slice none 0 0] 24 (0, 0)), none, none, none, none, none, none, none, none, none]) ?_ (by kernel_rfl) (by kernel_rfl) (by kernel_rfl)
    clear G5
    refine At.then ?_
    refine W.block 0 (by kernel_rfl) ?_
    refine W.loopS (γ := Int) (fun k0 => [(1, textsv), (2, valuesv), (3, blindsv), (4, .pointer (some ⟨b1, 0, none⟩)), (8, .pointer (some ⟨b2, 0, none⟩)), (10, .slice none 0 0), (12, .int .i64 n1), (42, .int .i64 n1), (43, .int .i64 k0)]) (fun k0 => [H]) (fun k0 => [some (b1, .cells #[vv] 24 (0, 0)), some (b2, .cells #[.slice none 0 0] 24 (0, 0)), none, none, none, none, none, none, none, none, none]) (fun k0 => (0 ≤ k0) ∧ (k0 ≤ n1) ∧ (∀ i, i < k0.toNat → Tm.isLeaf (Tm.leafAt texts values blinds i))) (fun k0 => (n1 - k0).toNat) 0 (by kernel_rfl) ?_ ?_
    · intro xa xw hs hw
      refine ⟨hs.sub (by kernel_rfl), hw.mask [true, true, false, false, false, false, false, false, false, false, false] (by kernel_rfl), ?_⟩
      refine ⟨?_, ?_, ?_⟩
      · show 0 ≤ (0 : Int)
        first | omega | rfl | (simp; done) | (subst_vars; simp; done)
      · show (0 : Int) ≤ n1
        first | omega | rfl | (simp; done) | (subst_vars; simp; done)
      · show ∀ i, i < (0 : Int).toNat → Tm.isLeaf (Tm.leafAt texts values blinds i)
        intro i hi; simp at hi
    · rintro k0 hF
      have hF : (0 ≤ k0) ∧ (k0 ≤ n1) ∧ (∀ i, i < k0.toNat → Tm.isLeaf (Tm.leafAt texts values blinds i)) := hF
      obtain ⟨hf1, hf2, hf3⟩ := hF
      show W Try.prog 151 w0 [] (Code.l (Code.l (Code.r (Code.l (Code.r (Code.r (Code.r (body Try.f16)))))))) _ [(1, textsv), (2, valuesv), (3, blindsv), (4, .pointer (some ⟨b1, 0, none⟩)), (8, .pointer (some ⟨b2, 0, none⟩)), (10, .slice none 0 0), (12, .int .i64 n1), (42, .int .i64 n1), (43, .int .i64 k0)] [H] [some (b1, .cells #[vv] 24 (0, 0)), some (b2, .cells #[.slice none 0 0] 24 (0, 0)), none, none, none, none, none, none, none, none, none]
      refine W.seq (by kernel_rfl) ?_
      obtain ⟨p8, hp8⟩ : ∃ zz : Bool, zz = decide (k0 < n1) := ⟨_, rfl⟩
      refine W.regV (build_ct_r16_5 vv textsv valuesv blindsv H b1 b2 n1 k0 p8) [] [0] (fun G => []) (by kernel_rfl) mo_tb (by kernel_rfl) (fun _ _ => by kernel_rfl) ⟨?_, trivial⟩ (by kernel_rfl) ?_
      · exact One.bo hp8 (fun _ _ => by kernel_rfl)
      intro G6 xa xw hDn
      refine hDn.to [1, 2, 3, 4, 8, 10, 12, 42, 43, 44] [] (by kernel_rfl) ?_
      clear hDn
      refine Pre.conv (sl := [(1, textsv), (2, valuesv), (3, blindsv), (4, .pointer (some ⟨b1, 0, none⟩)), (8, .pointer (some ⟨b2, 0, none⟩)), (10, .slice none 0 0), (12, .int .i64 n1), (42, .int .i64 n1), (43, .int .i64 k0), (44, .bool p8)]) (A := [H]) (L := [some (b1, .cells #[vv] 24 (0, 0)), some (b2, .cells #[.slice none 0 0] 24 (0, 0)), none, none, none, none, none, none, none, none, none]) ?_ (by kernel_rfl) (by kernel_rfl) (by kernel_rfl)
      clear G6
      refine At.then ?_
      refine W.seq (by kernel_rfl) ?_
      refine W.cond p8 (by kernel_rfl) (fun xa hs => cnd_of (t := 44) (by kernel_rfl) (by kernel_rfl) hs) (fun hq => ?_) (fun hq => ?_)
      · skip
        have hq3 := hq
        replace hq3 := (iN hp8 iDT).1 hq3
        refine W.skip (by kernel_rfl) ?_
        refine At.then ?_
        refine W.seq (by kernel_rfl) ?_
        refine W.block 1 (by kernel_rfl) ?_
        refine W.seq (by kernel_rfl) ?_
        refine W.regV (build_ct_r16_6 vv textsv valuesv blindsv H b1 b2 n1 k0 p8) [0, 1] [] (fun G => [.int .i64 k0, .int .i64 k0]) (by kernel_rfl) mo_tb (by kernel_rfl) (fun _ _ => by kernel_rfl) trivial (by kernel_rfl) ?_
        intro G7 xa xw hDn
        refine hDn.to [1, 2, 3, 4, 8, 10, 12, 13, 42, 43] [] (by kernel_rfl) ?_
        clear hDn
        refine Pre.conv (sl := [(1, textsv), (2, valuesv), (3, blindsv), (4, .pointer (some ⟨b1, 0, none⟩)), (8, .pointer (some ⟨b2, 0, none⟩)), (10, .slice none 0 0), (12, .int .i64 n1), (13, .int .i64 k0), (42, .int .i64 n1), (43, .int .i64 k0)]) (A := [H]) (L := [some (b1, .cells #[vv] 24 (0, 0)), some (b2, .cells #[.slice none 0 0] 24 (0, 0)), none, none, none, none, none, none, none, none, none]) ?_ (by kernel_rfl) (by kernel_rfl) (by kernel_rfl)
        clear G7
        refine At.then ?_
        refine W.seq (by kernel_rfl) ?_
        obtain ⟨s1, hs1⟩ : ∃ zz : ByteArray, zz = texts.getD k0.toNat default := ⟨_, rfl⟩
        obtain ⟨n4, hn4⟩ : ∃ zz : Int, zz = values.getD k0.toNat default := ⟨_, rfl⟩
        obtain ⟨n5, hn5⟩ : ∃ zz : Int, zz = blinds.getD k0.toNat default := ⟨_, rfl⟩
        obtain ⟨p9, hp9⟩ : ∃ zz : Bool, zz = (decide (Tm.Sound ([(DThing.mk s1 n4 n5 ((-1)) ((-1)))]))) := ⟨_, rfl⟩
        refine W.regV (build_ct_r16_7 vv textsv valuesv blindsv H b1 b2 n1 k0 s1 n4 n5 p9) [0, 1, 4, 5, 8, 9, 14, 16] [2, 3, 6, 7, 10, 11, 12, 13, 15] (fun G => [textsv, .int .i64 k0, valuesv, .int .i64 k0, blindsv, .int .i64 k0, .agg #[.slice (some ⟨(G 13).b, 0, none⟩) 1 1], .bool (!p9)]) (by kernel_rfl) mo_tb (by kernel_rfl) (fun _ _ => by kernel_rfl) ⟨?_, ?_, ?_, ?_, ?_, ?_, ?_, ?_, ?_, trivial⟩ (by kernel_rfl) ?_
        · exact One.index (t := 25) (e := 9) (size := 1) (v := fun G => textsv) (k := .i64) (n := k0) (fun _ => ⟨by kernel_rfl⟩) (fun G w hs => ⟨_, (htexts).isSl, by first | omega | (simp only [List.length_append, List.length_cons, List.length_nil, List.length_replicate, List.length_set, List.length_take, List.length_drop, List.length_map, List.length_reverse, List.length_range]; omega), by first | omega | (simp only [List.length_append, List.length_cons, List.length_nil, List.length_replicate, List.length_set, List.length_take, List.length_drop, List.length_map, List.length_reverse, List.length_range]; omega)⟩)
        · exact One.loadD (α := ByteArray) (t := 9) (size := 1) (off := 0) (k := k0) (l := fun G => texts) (x := fun G => s1) (vs := fun G => [.string s1]) (v := fun G => textsv) (H := fun G => H) (p := fun G => elemAddr textsv (k0.toNat * 1)) (fun G => ⟨by kernel_rfl⟩) rfl (fun G => by kernel_rfl) (fun G w hs => ⟨(hs.read 0 rfl), htexts, (add_zero' _).symm, by omega, by first | omega | (simp only [List.length_append, List.length_cons, List.length_nil, List.length_replicate, List.length_set, List.length_take, List.length_drop, List.length_map, List.length_reverse, List.length_range]; omega), hs1⟩)
        · exact One.index (t := 26) (e := 3) (size := 1) (v := fun G => valuesv) (k := .i64) (n := k0) (fun _ => ⟨by kernel_rfl⟩) (fun G w hs => ⟨_, (hvalues).isSl, by first | omega | (simp only [List.length_append, List.length_cons, List.length_nil, List.length_replicate, List.length_set, List.length_take, List.length_drop, List.length_map, List.length_reverse, List.length_range]; omega), by first | omega | (simp only [List.length_append, List.length_cons, List.length_nil, List.length_replicate, List.length_set, List.length_take, List.length_drop, List.length_map, List.length_reverse, List.length_range]; omega)⟩)
        · exact One.loadD (α := Int) (t := 3) (size := 1) (off := 0) (k := k0) (l := fun G => values) (x := fun G => n4) (vs := fun G => [.int .i64 n4]) (v := fun G => valuesv) (H := fun G => H) (p := fun G => elemAddr valuesv (k0.toNat * 1)) (fun G => ⟨by kernel_rfl⟩) rfl (fun G => by kernel_rfl) (fun G w hs => ⟨(hs.read 0 rfl), hvalues, (add_zero' _).symm, by omega, by first | omega | (simp only [List.length_append, List.length_cons, List.length_nil, List.length_replicate, List.length_set, List.length_take, List.length_drop, List.length_map, List.length_reverse, List.length_range]; omega), hn4⟩)
        · exact One.index (t := 26) (e := 3) (size := 1) (v := fun G => blindsv) (k := .i64) (n := k0) (fun _ => ⟨by kernel_rfl⟩) (fun G w hs => ⟨_, (hblinds).isSl, by first | omega | (simp only [List.length_append, List.length_cons, List.length_nil, List.length_replicate, List.length_set, List.length_take, List.length_drop, List.length_map, List.length_reverse, List.length_range]; omega), by first | omega | (simp only [List.length_append, List.length_cons, List.length_nil, List.length_replicate, List.length_set, List.length_take, List.length_drop, List.length_map, List.length_reverse, List.length_range]; omega)⟩)
        · exact One.loadD (α := Int) (t := 3) (size := 1) (off := 0) (k := k0) (l := fun G => blinds) (x := fun G => n5) (vs := fun G => [.int .i64 n5]) (v := fun G => blindsv) (H := fun G => H) (p := fun G => elemAddr blindsv (k0.toNat * 1)) (fun G => ⟨by kernel_rfl⟩) rfl (fun G => by kernel_rfl) (fun G w hs => ⟨(hs.read 0 rfl), hblinds, (add_zero' _).symm, by omega, by first | omega | (simp only [List.length_append, List.length_cons, List.length_nil, List.length_replicate, List.length_set, List.length_take, List.length_drop, List.length_map, List.length_reverse, List.length_range]; omega), hn5⟩)
        · exact One.callP (v := fun G => .agg #[.string s1, .int .i64 n4, .int .i64 n5, .int .i64 ((-1)), .int .i64 ((-1))]) (f := 42) (args := fun G => #[.string s1, .int .i64 n4, .int .i64 n5]) (fun _ _ => by kernel_rfl) (fun G w hs => tleaf_ct s1 n4 n5 w )
        · exact One.new (r := 2) (T := 44) (fun b => .slice (some ⟨b, 0, none⟩) 1 1) (arr := fun G => #[.string s1, .int .i64 n4, .int .i64 n5, .int .i64 ((-1)), .int .i64 ((-1))]) (fun G w => by kernel_rfl) (fun G b => by kernel_rfl)
        · exact One.callP (v := fun G => .bool p9) (f := 26) (args := fun G => #[.agg #[.slice (some ⟨(G 13).b, 0, none⟩) 1 1]]) (fun _ _ => by kernel_rfl) (fun G w hs => by
            rw [hp9]
            exact sound_ct ([(DThing.mk s1 n4 n5 ((-1)) ((-1)))]) (.slice (some ⟨(G 13).b, 0, none⟩) 1 1) w ((hun (entH ((some ((G 13).b, .cells #[.string s1, .int .i64 n4, .int .i64 n5, .int .i64 ((-1)), .int .i64 ((-1))] 44 (0, 0))))) H)) (hun_agrees (entH_agrees (hs.own (r := 2) (e := (some ((G 13).b, .cells #[.string s1, .int .i64 n4, .int .i64 n5, .int .i64 ((-1)), .int .i64 ((-1))] 44 (0, 0)))) (by kernel_rfl))) (hs.read 0 rfl)) ((((OSl.lit (α := DThing) (E := 44) (n := 1) (H := H) (l := [(DThing.mk s1 n4 n5 ((-1)) ((-1)))]) (g := (G 13).b) (arr := #[.string s1, .int .i64 n4, .int .i64 n5, .int .i64 ((-1)), .int .i64 ((-1))]) (fun _ _ => trivial) (by kernel_rfl))).read (hs.own (r := 2) (e := (some ((G 13).b, .cells #[.string s1, .int .i64 n4, .int .i64 n5, .int .i64 ((-1)), .int .i64 ((-1))] 44 (0, 0)))) (by kernel_rfl)) (hs.read 0 rfl))) )
        intro G8 xa xw hDn
        refine hDn.to [1, 2, 3, 4, 8, 10, 12, 42, 43, 62] [] (by kernel_rfl) ?_
        clear hDn
        refine Pre.conv (sl := [(1, textsv), (2, valuesv), (3, blindsv), (4, .pointer (some ⟨b1, 0, none⟩)), (8, .pointer (some ⟨b2, 0, none⟩)), (10, .slice none 0 0), (12, .int .i64 n1), (42, .int .i64 n1), (43, .int .i64 k0), (62, .bool (!p9))]) (A := [H]) (L := [some (b1, .cells #[vv] 24 (0, 0)), some (b2, .cells #[.slice none 0 0] 24 (0, 0)), (some ((G8 13).b, .cells #[.string s1, .int .i64 n4, .int .i64 n5, .int .i64 ((-1)), .int .i64 ((-1))] 44 (0, 0))), none, none, none, none, none, none, none, none]) ?_ (by kernel_rfl) (by kernel_rfl) (by kernel_rfl)
        generalize (G8 13).b = b3 at ⊢
        clear G8
        refine At.then ?_
        refine W.cond (!p9) (by kernel_rfl) (fun xa hs => cnd_of (t := 62) (by kernel_rfl) (by kernel_rfl) hs) (fun hq => ?_) (fun hq => ?_)
        · skip
          have hq4 := hq
          replace hq4 := (iNT (iN hp9 iDF)).1 hq4
          refine W.seq (by kernel_rfl) ?_
          have hB := Tm.build_arg (Tm.leaf_no (v := v) (texts := texts) (values := values) (blinds := blinds) (k := k0) (by omega) (by omega) (by assumption) (by assumption) (by assumption) hq4)
          refine W.regV (build_ct_r16_8 vv textsv valuesv blindsv H b1 b2 n1 k0 s1 n4 n5 p9 b3) [0, 2, 3, 4] [1] (fun G => [.agg #[.slice none 0 0], .int .i64 ((-1)), .slice none 0 0, .int .i64 1]) (by kernel_rfl) mo_tb (by kernel_rfl) (fun _ _ => by kernel_rfl) ⟨?_, trivial⟩ (by kernel_rfl) ?_
          · exact One.store (t := 24) (r := 1) (off := 0) (T := 24) (b := fun G => b2) (u := fun G => .agg #[.slice none 0 0]) (vs := fun G => [.slice none 0 0]) (arr := fun G => #[.slice none 0 0]) (fun G => ⟨by kernel_rfl⟩) (fun G => by kernel_rfl)
          intro G9 xa xw hDn
          refine hDn.to [8, 9, 10, 11] [] (by kernel_rfl) ?_
          clear hDn
          refine Pre.conv (sl := [(8, .pointer (some ⟨b2, 0, none⟩)), (9, .int .i64 ((-1))), (10, .slice none 0 0), (11, .int .i64 1)]) (A := [H]) (L := [some (b1, .cells #[vv] 24 (0, 0)), some (b2, .cells #[.slice none 0 0] 24 (0, 0)), (some (b3, .cells #[.string s1, .int .i64 n4, .int .i64 n5, .int .i64 ((-1)), .int .i64 ((-1))] 44 (0, 0))), none, none, none, none, none, none, none, none]) ?_ (by kernel_rfl) (by kernel_rfl) (by kernel_rfl)
          clear G9
          refine At.then ?_
          refine W.ret (by kernel_rfl) ?_
          refine At.blockRet ?_
          refine At.thenRet ?_
          refine At.thenRet ?_
          refine At.blockRet ?_
          refine At.thenRet ?_
          refine At.results (Or.inl rfl) (.tuple #[.agg #[.slice none 0 0], .int .i64 ((-1)), .slice none 0 0, .int .i64 1]) (fun xa xw hs hw => results_many (rs := [.cell 8 24, .tmp 9, .tmp 10, .tmp 11]) (vs := [.agg #[.slice none 0 0], .int .i64 ((-1)), .slice none 0 0, .int .i64 1]) (by kernel_rfl) (by simp) ⟨res_cell (ty := 24) (r := 1) (b := b2) (off := 0) (arr := #[.slice none 0 0]) (T := 24) (vs := [.slice none 0 0]) hs hw (by kernel_rfl), res_tmp (t := 9) (by kernel_rfl) hs, res_tmp (t := 10) (by kernel_rfl) hs, res_tmp (t := 11) (by kernel_rfl) hs, trivial⟩) (fun w' hw => ?_)
          have e0 : ([] : List DThing) = (Tm.buildT v texts values blinds) := by
            rw [hB.2.1]
          have e1 : (-1) = (Tm.buildR v texts values blinds) := by
            rw [hB.2.2.1]
          have e2 : ([] : List Int) = (Tm.buildL v texts values blinds) := by
            rw [hB.2.2.2]
          have e3 : 1 = (Tm.buildE v texts values blinds) := by
            rw [hB.1]
          exact Makes.ret (.slice none 0 0) (.slice none 0 0) undef hA hE hw (fun N => cong2 (fun (x1 : Int) (x3 : Int) => (.tuple #[.agg #[.slice none 0 0], .int .i64 x1, .slice none 0 0, .int .i64 x3] : Value)) e1 e3) (fun N J hJ => ⟨(e0 ▸ RSl.nil), (e2 ▸ RSl.nil)⟩)
        · skip
          have hq5 := hq
          replace hq5 := (iNF (iN hp9 iDT)).1 hq5
          refine W.skip (by kernel_rfl) ?_
          refine At.blockNormal ?_
          refine At.then ?_
          obtain ⟨n6, hn6⟩ : ∃ zz : Int, zz = k0 + 1 := ⟨_, rfl⟩
          refine W.regV (build_ct_r16_9 vv textsv valuesv blindsv H b1 b2 n1 k0 s1 n4 n5 p9 b3 n6) [1] [0] (fun G => [.int .i64 n6]) (by kernel_rfl) mo_tb (by kernel_rfl) (fun _ _ => by kernel_rfl) ⟨?_, trivial⟩ (by kernel_rfl) ?_
          · exact One.ar hn6 (fun _ _ => by kernel_rfl) (fun G w hs => by omega)
          intro G10 xa xw hDn
          refine hDn.to [1, 2, 3, 4, 8, 10, 12, 42, 43] [] (by kernel_rfl) ?_
          clear hDn
          refine Pre.conv (sl := [(1, textsv), (2, valuesv), (3, blindsv), (4, .pointer (some ⟨b1, 0, none⟩)), (8, .pointer (some ⟨b2, 0, none⟩)), (10, .slice none 0 0), (12, .int .i64 n1), (42, .int .i64 n1), (43, .int .i64 n6)]) (A := [H]) (L := [some (b1, .cells #[vv] 24 (0, 0)), some (b2, .cells #[.slice none 0 0] 24 (0, 0)), (some (b3, .cells #[.string s1, .int .i64 n4, .int .i64 n5, .int .i64 ((-1)), .int .i64 ((-1))] 44 (0, 0))), none, none, none, none, none, none, none, none]) ?_ (by kernel_rfl) (by kernel_rfl) (by kernel_rfl)
          clear G10
          intro xa xw hs hw
          refine ⟨n6, ⟨hs.sub (by kernel_rfl), hw.mask [true, true, false, false, false, false, false, false, false, false, false] (by kernel_rfl), ?_⟩, ?_⟩
          · skip
            refine ⟨?_, ?_, ?_⟩
            · show 0 ≤ n6
              first | omega | rfl | (simp; done) | (subst_vars; simp; done)
            · show n6 ≤ n1
              first | omega | rfl | (simp; done) | (subst_vars; simp; done)
            · show ∀ i, i < n6.toNat → Tm.isLeaf (Tm.leafAt texts values blinds i)
              exact Tm.leaf_step hf3 (by omega) (by assumption) (by assumption) (by assumption) (by assumption) hq5
          · show (n1 - n6).toNat < (n1 - k0).toNat
            omega
      · skip
        have hq6 := hq
        replace hq6 := (iN hp8 iDF).1 hq6
        refine W.exit 0 (by kernel_rfl) ?_
        refine At.thenExit ?_
        refine At.thenExit ?_
        refine At.blockHit ?_
        refine At.then ?_
        refine W.seq (by kernel_rfl) ?_
        refine W.seq (by kernel_rfl) ?_
        have hOK : Tm.argsOK v texts values blinds := ⟨hS, hn.1, hn.2.1, hn.2.2, fun i hi => hf3 i (by omega)⟩
        have hTB := Tm.tot_bound hOK
        obtain ⟨p10, hp10⟩ : ∃ zz : Bool, zz = decide (64 < n1) := ⟨_, rfl⟩
        obtain ⟨n7, hn7⟩ : ∃ zz : Int, zz = (v.length : Int) := ⟨_, rfl⟩
        obtain ⟨n8, hn8⟩ : ∃ zz : Int, zz = 2 * n1 := ⟨_, rfl⟩
        obtain ⟨n9, hn9⟩ : ∃ zz : Int, zz = n7 + n8 := ⟨_, rfl⟩
        obtain ⟨n10, hn10⟩ : ∃ zz : Int, zz = n9 - 1 := ⟨_, rfl⟩
        obtain ⟨p11, hp11⟩ : ∃ zz : Bool, zz = decide (2000 < n10) := ⟨_, rfl⟩
        obtain ⟨p12, hp12⟩ : ∃ zz : Bool, zz = (p10 || p11) := ⟨_, rfl⟩
        refine W.regV (build_ct_r16_10 vv textsv valuesv blindsv H b1 b2 n1 k0 p8 p10 n7 n8 n9 n10 p11 p12) [0, 2, 3, 6] [1, 4, 5, 7, 8, 9, 10, 11] (fun G => [.int .i64 n1, .bool p10, .pointer (some ⟨b1, 0, none⟩), .int .i64 n1]) (by kernel_rfl) mo_tb (by kernel_rfl) (fun _ _ => by kernel_rfl) ⟨?_, ?_, ?_, ?_, ?_, ?_, ?_, ?_, trivial⟩ (by kernel_rfl) ?_
        · exact One.bo hp10 (fun _ _ => by kernel_rfl)
        · exact One.loadE (t := 22) (r := 0) (off := 0) (b := fun G => b1) (vs := fun G => [vv]) (arr := fun G => #[vv]) (T := 24) (fr := (0, 0)) (fun G => ⟨by kernel_rfl⟩) (fun G => by kernel_rfl)
        · exact One.len (t := 22) (n := n7) (v := fun G => vv) (fun _ => ⟨by kernel_rfl⟩) (fun G w hs => by
            have hg := gd_of hs (p := (true && (p10 == false))) (by kernel_rfl)
            have hg0 := (iN hp10 iDF).1 (eqF (andR hg))
            exact ⟨_, (hv).isSl, hn7⟩)
        · exact One.ar hn8 (fun _ _ => by kernel_rfl) (fun G w hs => by
            have hg := gd_of hs (p := (true && (p10 == false))) (by kernel_rfl)
            have hg0 := (iN hp10 iDF).1 (eqF (andR hg))
            exact by omega)
        · exact One.ar hn9 (fun _ _ => by kernel_rfl) (fun G w hs => by
            have hg := gd_of hs (p := (true && (p10 == false))) (by kernel_rfl)
            have hg0 := (iN hp10 iDF).1 (eqF (andR hg))
            exact by omega)
        · exact One.ar hn10 (fun _ _ => by kernel_rfl) (fun G w hs => by
            have hg := gd_of hs (p := (true && (p10 == false))) (by kernel_rfl)
            have hg0 := (iN hp10 iDF).1 (eqF (andR hg))
            exact by omega)
        · exact One.bo hp11 (fun _ _ => by kernel_rfl)
        · subst hp12
          cases p10 <;> exact One.under fun _ _ _ => by kernel_rfl
        intro G11 xa xw hDn
        refine hDn.to [1, 2, 3, 4, 8, 10, 76] [] (by kernel_rfl) ?_
        clear hDn
        refine Pre.conv (sl := [(1, textsv), (2, valuesv), (3, blindsv), (4, .pointer (some ⟨b1, 0, none⟩)), (8, .pointer (some ⟨b2, 0, none⟩)), (10, .slice none 0 0), (76, .bool p12)]) (A := [H]) (L := [some (b1, .cells #[vv] 24 (0, 0)), some (b2, .cells #[.slice none 0 0] 24 (0, 0)), none, none, none, none, none, none, none, none, none]) ?_ (by kernel_rfl) (by kernel_rfl) (by kernel_rfl)
        clear G11
        refine At.then ?_
        refine W.cond p12 (by kernel_rfl) (fun xa hs => cnd_of (t := 76) (by kernel_rfl) (by kernel_rfl) hs) (fun hq => ?_) (fun hq => ?_)
        · skip
          have hq7 := hq
          replace hq7 := (iN hp12 (iOT (iN hp10 iDT) (iN hp11 iDT))).1 hq7
          refine W.seq (by kernel_rfl) ?_
          have hB := Tm.build_full hOK (by omega)
          refine W.regV (build_ct_r16_11 vv textsv valuesv blindsv H b1 b2 p12) [0, 2, 3, 4] [1] (fun G => [.agg #[.slice none 0 0], .int .i64 ((-1)), .slice none 0 0, .int .i64 6]) (by kernel_rfl) mo_tb (by kernel_rfl) (fun _ _ => by kernel_rfl) ⟨?_, trivial⟩ (by kernel_rfl) ?_
          · exact One.store (t := 24) (r := 1) (off := 0) (T := 24) (b := fun G => b2) (u := fun G => .agg #[.slice none 0 0]) (vs := fun G => [.slice none 0 0]) (arr := fun G => #[.slice none 0 0]) (fun G => ⟨by kernel_rfl⟩) (fun G => by kernel_rfl)
          intro G12 xa xw hDn
          refine hDn.to [8, 9, 10, 11] [] (by kernel_rfl) ?_
          clear hDn
          refine Pre.conv (sl := [(8, .pointer (some ⟨b2, 0, none⟩)), (9, .int .i64 ((-1))), (10, .slice none 0 0), (11, .int .i64 6)]) (A := [H]) (L := [some (b1, .cells #[vv] 24 (0, 0)), some (b2, .cells #[.slice none 0 0] 24 (0, 0)), none, none, none, none, none, none, none, none, none]) ?_ (by kernel_rfl) (by kernel_rfl) (by kernel_rfl)
          clear G12
          refine At.then ?_
          refine W.ret (by kernel_rfl) ?_
          refine At.thenRet ?_
          refine At.results (Or.inl rfl) (.tuple #[.agg #[.slice none 0 0], .int .i64 ((-1)), .slice none 0 0, .int .i64 6]) (fun xa xw hs hw => results_many (rs := [.cell 8 24, .tmp 9, .tmp 10, .tmp 11]) (vs := [.agg #[.slice none 0 0], .int .i64 ((-1)), .slice none 0 0, .int .i64 6]) (by kernel_rfl) (by simp) ⟨res_cell (ty := 24) (r := 1) (b := b2) (off := 0) (arr := #[.slice none 0 0]) (T := 24) (vs := [.slice none 0 0]) hs hw (by kernel_rfl), res_tmp (t := 9) (by kernel_rfl) hs, res_tmp (t := 10) (by kernel_rfl) hs, res_tmp (t := 11) (by kernel_rfl) hs, trivial⟩) (fun w' hw => ?_)
          have e0 : ([] : List DThing) = (Tm.buildT v texts values blinds) := by
            rw [hB.2.1]
          have e1 : (-1) = (Tm.buildR v texts values blinds) := by
            rw [hB.2.2.1]
          have e2 : ([] : List Int) = (Tm.buildL v texts values blinds) := by
            rw [hB.2.2.2]
          have e3 : 6 = (Tm.buildE v texts values blinds) := by
            rw [hB.1]
          exact Makes.ret (.slice none 0 0) (.slice none 0 0) undef hA hE hw (fun N => cong2 (fun (x1 : Int) (x3 : Int) => (.tuple #[.agg #[.slice none 0 0], .int .i64 x1, .slice none 0 0, .int .i64 x3] : Value)) e1 e3) (fun N J hJ => ⟨(e0 ▸ RSl.nil), (e2 ▸ RSl.nil)⟩)
        · skip
          have hq8 := hq
          replace hq8 := (iN hp12 (iOF (iN hp10 iDF) (iN hp11 iDF))).1 hq8
          refine W.skip (by kernel_rfl) ?_
          refine At.then ?_
          refine W.seq (by kernel_rfl) ?_
          have hB := Tm.build_ok hOK (by omega)
          refine W.regV (build_ct_r16_12 w0 v vv textsv valuesv blindsv H b1 b2 p12) [0, 4] [1, 2, 3, 5, 6] (fun G => [.pointer (some ⟨b1, 0, none⟩), .agg #[(G 2).v]]) (by kernel_rfl) mo_tb (by kernel_rfl) (fun _ _ => by kernel_rfl) ⟨?_, ?_, ?_, ?_, ?_, trivial⟩ (by kernel_rfl) ?_
          · exact One.loadE (t := 22) (r := 0) (off := 0) (b := fun G => b1) (vs := fun G => [vv]) (arr := fun G => #[vv]) (T := 24) (fr := (0, 0)) (fun G => ⟨by kernel_rfl⟩) (fun G => by kernel_rfl)
          · exact One.callO (f := 43) (r := 3) (args := fun G => #[vv]) (H := fun G => H) (V := fun G g => g.v) (F := fun G J g => OSl 44 J v g.v g.e) (fun G g w => ⟨by kernel_rfl, by kernel_rfl⟩) (fun G w hs => clone_ct v vv w H (hs.read 0 rfl) (hv) (by omega))
          · exact One.buildS (t := 24) (ps := fun x => #[(0, (x 0))]) (rs := fun x => .agg #[(x 0)]) (l := fun G => [(G 2).v]) (fun _ => ⟨by kernel_rfl⟩) (fun _ _ _ _ => by kernel_rfl) (fun G w hs => by
              have ho2 : (OSl 44 (hun (G 2).H H) v (G 2).v (G 2).e) ∧ New w0 (G 2).H := hs.get 2 (by kernel_rfl) (p := true) (by kernel_rfl) rfl (by kernel_rfl)
              exact (List.forall_mem_cons.2 ⟨⟨_, ((OSl.any (K := H) ho2.1 (fun _ _ => trivial))).isSl⟩, (List.forall_mem_nil _)⟩))
          · exact One.new (r := 4) (T := 68) (fun b => .pointer (some ⟨b, 0, none⟩)) (arr := fun G => #[.slice none 0 0]) (fun G w => by kernel_rfl) (fun G b => by kernel_rfl)
          · exact One.storeX (t := 68) (r := 4) (off := 0) (T := 68) (b := fun G => (G 5).b) (u := fun G => .agg #[(G 2).v]) (vs := fun G => [(G 2).v]) (arr := fun G => #[.slice none 0 0]) (fun G => ⟨by kernel_rfl⟩) (fun G w hs => by
              have ho2 : (OSl 44 (hun (G 2).H H) v (G 2).v (G 2).e) ∧ New w0 (G 2).H := hs.get 2 (by kernel_rfl) (p := true) (by kernel_rfl) rfl (by kernel_rfl)
              exact ⟨rfl, (all_cons1 ((OSl.any (K := H) ho2.1 (fun _ _ => trivial))).cell1 rfl)⟩)
          intro G13 xa xw hDn
          have hf2_4 : (OSl 44 (hun (G13 2).H H) v (G13 2).v (G13 2).e) ∧ New w0 (G13 2).H := hDn.get 2 (by kernel_rfl) (by kernel_rfl) (by kernel_rfl)
          refine hDn.to [1, 2, 3, 8, 10, 14] [] (by kernel_rfl) ?_
          clear hDn
          refine Pre.conv (sl := [(1, textsv), (2, valuesv), (3, blindsv), (8, .pointer (some ⟨b2, 0, none⟩)), (10, .slice none 0 0), (14, .pointer (some ⟨(G13 5).b, 0, none⟩))]) (A := [H]) (L := [some (b1, .cells #[vv] 24 (0, 0)), some (b2, .cells #[.slice none 0 0] 24 (0, 0)), none, (G13 2).e, some ((G13 5).b, .cells #[(G13 2).v] 68 (0, 0)), none, none, none, none, none, none]) ?_ (by kernel_rfl) (by kernel_rfl) (by kernel_rfl)
          generalize (G13 5).b = b4 at hf2_4 ⊢
          generalize (G13 2).e = e1 at hf2_4 ⊢
          generalize (G13 2).v = v1 at hf2_4 ⊢
          generalize (G13 2).H = N1 at hf2_4 ⊢
          clear G13
          have hr1 : OSl 44 H v v1 e1 := (OSl.any (K := H) hf2_4.1 (fun _ _ => trivial))
          have hr1n := hr1.lim
          refine At.then ?_
          refine W.seq (by kernel_rfl) ?_
          refine W.seq (by kernel_rfl) ?_
          refine W.regV (build_ct_r16_13 vv textsv valuesv blindsv H b1 b2 n1 b4 e1 v1) [0, 2] [1] (fun G => [textsv, .int .i64 0]) (by kernel_rfl) mo_tb (by kernel_rfl) (fun _ _ => by kernel_rfl) ⟨?_, trivial⟩ (by kernel_rfl) ?_
          · exact One.len (t := 25) (n := n1) (v := fun G => textsv) (fun _ => ⟨by kernel_rfl⟩) (fun G w hs => ⟨_, (htexts).isSl, hn1⟩)
          intro G14 xa xw hDn
          refine hDn.to [1, 2, 3, 8, 10, 14, 84, 85] [] (by kernel_rfl) ?_
          clear hDn
          refine Pre.conv (sl := [(1, textsv), (2, valuesv), (3, blindsv), (8, .pointer (some ⟨b2, 0, none⟩)), (10, .slice none 0 0), (14, .pointer (some ⟨b4, 0, none⟩)), (84, .int .i64 n1), (85, .int .i64 0)]) (A := [H]) (L := [some (b1, .cells #[vv] 24 (0, 0)), some (b2, .cells #[.slice none 0 0] 24 (0, 0)), none, e1, some (b4, .cells #[v1] 68 (0, 0)), none, none, none, none, none, none]) ?_ (by kernel_rfl) (by kernel_rfl) (by kernel_rfl)
          clear G14
          refine At.then ?_
          refine W.block 2 (by kernel_rfl) ?_
          refine W.loopS (γ := List Int × Value × Ent × Int × List DThing × Value × Ent) (fun ⟨leaves, leavesv, leavese, k1, b, bv, be⟩ => [(1, textsv), (2, valuesv), (3, blindsv), (8, .pointer (some ⟨b2, 0, none⟩)), (10, leavesv), (14, .pointer (some ⟨b4, 0, none⟩)), (84, .int .i64 n1), (85, .int .i64 k1)]) (fun ⟨leaves, leavesv, leavese, k1, b, bv, be⟩ => [H]) (fun ⟨leaves, leavesv, leavese, k1, b, bv, be⟩ => [some (b1, .cells #[vv] 24 (0, 0)), some (b2, .cells #[.slice none 0 0] 24 (0, 0)), none, be, some (b4, .cells #[bv] 68 (0, 0)), none, leavese, none, none, none, none]) (fun ⟨leaves, leavesv, leavese, k1, b, bv, be⟩ => (OSl 3 H leaves leavesv leavese) ∧ (OSl 44 H b bv be) ∧ (0 ≤ k1) ∧ (k1 ≤ n1) ∧ (leaves = Tm.idsN v.length k1.toNat) ∧ (b = v ++ Tm.leavesN texts values blinds k1.toNat)) (fun ⟨leaves, leavesv, leavese, k1, b, bv, be⟩ => (n1 - k1).toNat) (([] : List Int), .slice none 0 0, none, 0, v, v1, e1) (by kernel_rfl) ?_ ?_
          · intro xa xw hs hw
            refine ⟨hs.sub (by kernel_rfl), hw.mask [true, true, false, true, true, false, true, false, false, false, false] (by kernel_rfl), ?_⟩
            refine ⟨OSl.nil, hr1, ?_, ?_, ?_, ?_⟩
            · show 0 ≤ (0 : Int)
              first | omega | rfl | (simp; done) | (subst_vars; simp; done)
            · show (0 : Int) ≤ n1
              first | omega | rfl | (simp; done) | (subst_vars; simp; done)
            · show (([] : List Int)) = Tm.idsN v.length (0 : Int).toNat
              rfl
            · show v = v ++ Tm.leavesN texts values blinds (0 : Int).toNat
              simp [Tm.leavesN]
          · rintro ⟨leaves, leavesv, leavese, k1, b, bv, be⟩ hF
            have hF : (OSl 3 H leaves leavesv leavese) ∧ (OSl 44 H b bv be) ∧ (0 ≤ k1) ∧ (k1 ≤ n1) ∧ (leaves = Tm.idsN v.length k1.toNat) ∧ (b = v ++ Tm.leavesN texts values blinds k1.toNat) := hF
            obtain ⟨hr2, hr3, hf5, hf6, hf7, hf8⟩ := hF
            show W Try.prog 151 w0 [] (Code.l (Code.l (Code.r (Code.l (Code.r (Code.r (Code.r (Code.r (Code.r (Code.r (body Try.f16))))))))))) _ [(1, textsv), (2, valuesv), (3, blindsv), (8, .pointer (some ⟨b2, 0, none⟩)), (10, leavesv), (14, .pointer (some ⟨b4, 0, none⟩)), (84, .int .i64 n1), (85, .int .i64 k1)] [H] [some (b1, .cells #[vv] 24 (0, 0)), some (b2, .cells #[.slice none 0 0] 24 (0, 0)), none, be, some (b4, .cells #[bv] 68 (0, 0)), none, leavese, none, none, none, none]
            have hr2n := hr2.lim
            have hr3n := hr3.lim
            have hlv : leaves.length = k1.toNat := by rw [hf7]; simp
            have hbl : b.length = v.length + k1.toNat := by rw [hf8]; simp
            refine W.seq (by kernel_rfl) ?_
            obtain ⟨p13, hp13⟩ : ∃ zz : Bool, zz = decide (k1 < n1) := ⟨_, rfl⟩
            refine W.regV (build_ct_r16_14 vv textsv valuesv blindsv H b1 b2 n1 b4 leavesv leavese k1 bv be p13) [] [0] (fun G => []) (by kernel_rfl) mo_tb (by kernel_rfl) (fun _ _ => by kernel_rfl) ⟨?_, trivial⟩ (by kernel_rfl) ?_
            · exact One.bo hp13 (fun _ _ => by kernel_rfl)
            intro G15 xa xw hDn
            refine hDn.to [1, 2, 3, 8, 10, 14, 84, 85, 86] [] (by kernel_rfl) ?_
            clear hDn
            refine Pre.conv (sl := [(1, textsv), (2, valuesv), (3, blindsv), (8, .pointer (some ⟨b2, 0, none⟩)), (10, leavesv), (14, .pointer (some ⟨b4, 0, none⟩)), (84, .int .i64 n1), (85, .int .i64 k1), (86, .bool p13)]) (A := [H]) (L := [some (b1, .cells #[vv] 24 (0, 0)), some (b2, .cells #[.slice none 0 0] 24 (0, 0)), none, be, some (b4, .cells #[bv] 68 (0, 0)), none, leavese, none, none, none, none]) ?_ (by kernel_rfl) (by kernel_rfl) (by kernel_rfl)
            clear G15
            refine At.then ?_
            refine W.seq (by kernel_rfl) ?_
            refine W.cond p13 (by kernel_rfl) (fun xa hs => cnd_of (t := 86) (by kernel_rfl) (by kernel_rfl) hs) (fun hq => ?_) (fun hq => ?_)
            · skip
              have hq9 := hq
              replace hq9 := (iN hp13 iDT).1 hq9
              refine W.skip (by kernel_rfl) ?_
              refine At.then ?_
              refine W.seq (by kernel_rfl) ?_
              refine W.block 3 (by kernel_rfl) ?_
              refine W.seq (by kernel_rfl) ?_
              refine W.regV (build_ct_r16_15 vv textsv valuesv blindsv H b1 b2 n1 b4 leavesv leavese k1 bv be p13) [0, 1] [] (fun G => [.int .i64 k1, .int .i64 k1]) (by kernel_rfl) mo_tb (by kernel_rfl) (fun _ _ => by kernel_rfl) trivial (by kernel_rfl) ?_
              intro G16 xa xw hDn
              refine hDn.to [1, 2, 3, 8, 10, 14, 15, 84, 85] [] (by kernel_rfl) ?_
              clear hDn
              refine Pre.conv (sl := [(1, textsv), (2, valuesv), (3, blindsv), (8, .pointer (some ⟨b2, 0, none⟩)), (10, leavesv), (14, .pointer (some ⟨b4, 0, none⟩)), (15, .int .i64 k1), (84, .int .i64 n1), (85, .int .i64 k1)]) (A := [H]) (L := [some (b1, .cells #[vv] 24 (0, 0)), some (b2, .cells #[.slice none 0 0] 24 (0, 0)), none, be, some (b4, .cells #[bv] 68 (0, 0)), none, leavese, none, none, none, none]) ?_ (by kernel_rfl) (by kernel_rfl) (by kernel_rfl)
              clear G16
              refine At.then ?_
              obtain ⟨s2, hs2⟩ : ∃ zz : ByteArray, zz = texts.getD k1.toNat default := ⟨_, rfl⟩
              obtain ⟨n11, hn11⟩ : ∃ zz : Int, zz = values.getD k1.toNat default := ⟨_, rfl⟩
              obtain ⟨n12, hn12⟩ : ∃ zz : Int, zz = blinds.getD k1.toNat default := ⟨_, rfl⟩
              obtain ⟨n13, hn13⟩ : ∃ zz : Int, zz = (b.length : Int) := ⟨_, rfl⟩
              obtain ⟨l1, hl1⟩ : ∃ zz : List DThing, zz = b ++ [DThing.mk s2 n11 n12 ((-1)) ((-1))] := ⟨_, rfl⟩
              have hl1n := congrArg List.length hl1; try simp only [List.length_append, List.length_cons, List.length_nil, List.length_replicate, List.length_set, List.length_take, List.length_drop, List.length_map, List.length_reverse, List.length_range] at hl1n
              obtain ⟨l2, hl2⟩ : ∃ zz : List Int, zz = leaves ++ [n13] := ⟨_, rfl⟩
              have hl2n := congrArg List.length hl2; try simp only [List.length_append, List.length_cons, List.length_nil, List.length_replicate, List.length_set, List.length_take, List.length_drop, List.length_map, List.length_reverse, List.length_range] at hl2n
              refine W.regV (build_ct_r16_16 w0 v vv textsv valuesv blindsv H b1 b2 n1 b4 leavesv leavese k1 b bv be s2 n11 n12 n13 l1 l2) [0, 1, 2, 5, 6, 9, 10, 17] [3, 4, 7, 8, 11, 12, 13, 14, 15, 16] (fun G => [leavesv, textsv, .int .i64 k1, valuesv, .int .i64 k1, blindsv, .int .i64 k1, (G 16).v]) (by kernel_rfl) mo_tb (by kernel_rfl) (fun _ _ => by kernel_rfl) ⟨?_, ?_, ?_, ?_, ?_, ?_, ?_, ?_, ?_, ?_, trivial⟩ (by kernel_rfl) ?_
              · exact One.index (t := 25) (e := 9) (size := 1) (v := fun G => textsv) (k := .i64) (n := k1) (fun _ => ⟨by kernel_rfl⟩) (fun G w hs => ⟨_, (htexts).isSl, by first | omega | (simp only [List.length_append, List.length_cons, List.length_nil, List.length_replicate, List.length_set, List.length_take, List.length_drop, List.length_map, List.length_reverse, List.length_range]; omega), by first | omega | (simp only [List.length_append, List.length_cons, List.length_nil, List.length_replicate, List.length_set, List.length_take, List.length_drop, List.length_map, List.length_reverse, List.length_range]; omega)⟩)
              · exact One.loadD (α := ByteArray) (t := 9) (size := 1) (off := 0) (k := k1) (l := fun G => texts) (x := fun G => s2) (vs := fun G => [.string s2]) (v := fun G => textsv) (H := fun G => H) (p := fun G => elemAddr textsv (k1.toNat * 1)) (fun G => ⟨by kernel_rfl⟩) rfl (fun G => by kernel_rfl) (fun G w hs => ⟨(hs.read 0 rfl), htexts, (add_zero' _).symm, by omega, by first | omega | (simp only [List.length_append, List.length_cons, List.length_nil, List.length_replicate, List.length_set, List.length_take, List.length_drop, List.length_map, List.length_reverse, List.length_range]; omega), hs2⟩)
              · exact One.index (t := 26) (e := 3) (size := 1) (v := fun G => valuesv) (k := .i64) (n := k1) (fun _ => ⟨by kernel_rfl⟩) (fun G w hs => ⟨_, (hvalues).isSl, by first | omega | (simp only [List.length_append, List.length_cons, List.length_nil, List.length_replicate, List.length_set, List.length_take, List.length_drop, List.length_map, List.length_reverse, List.length_range]; omega), by first | omega | (simp only [List.length_append, List.length_cons, List.length_nil, List.length_replicate, List.length_set, List.length_take, List.length_drop, List.length_map, List.length_reverse, List.length_range]; omega)⟩)
              · exact One.loadD (α := Int) (t := 3) (size := 1) (off := 0) (k := k1) (l := fun G => values) (x := fun G => n11) (vs := fun G => [.int .i64 n11]) (v := fun G => valuesv) (H := fun G => H) (p := fun G => elemAddr valuesv (k1.toNat * 1)) (fun G => ⟨by kernel_rfl⟩) rfl (fun G => by kernel_rfl) (fun G w hs => ⟨(hs.read 0 rfl), hvalues, (add_zero' _).symm, by omega, by first | omega | (simp only [List.length_append, List.length_cons, List.length_nil, List.length_replicate, List.length_set, List.length_take, List.length_drop, List.length_map, List.length_reverse, List.length_range]; omega), hn11⟩)
              · exact One.index (t := 26) (e := 3) (size := 1) (v := fun G => blindsv) (k := .i64) (n := k1) (fun _ => ⟨by kernel_rfl⟩) (fun G w hs => ⟨_, (hblinds).isSl, by first | omega | (simp only [List.length_append, List.length_cons, List.length_nil, List.length_replicate, List.length_set, List.length_take, List.length_drop, List.length_map, List.length_reverse, List.length_range]; omega), by first | omega | (simp only [List.length_append, List.length_cons, List.length_nil, List.length_replicate, List.length_set, List.length_take, List.length_drop, List.length_map, List.length_reverse, List.length_range]; omega)⟩)
              · exact One.loadD (α := Int) (t := 3) (size := 1) (off := 0) (k := k1) (l := fun G => blinds) (x := fun G => n12) (vs := fun G => [.int .i64 n12]) (v := fun G => blindsv) (H := fun G => H) (p := fun G => elemAddr blindsv (k1.toNat * 1)) (fun G => ⟨by kernel_rfl⟩) rfl (fun G => by kernel_rfl) (fun G w hs => ⟨(hs.read 0 rfl), hblinds, (add_zero' _).symm, by omega, by first | omega | (simp only [List.length_append, List.length_cons, List.length_nil, List.length_replicate, List.length_set, List.length_take, List.length_drop, List.length_map, List.length_reverse, List.length_range]; omega), hn12⟩)
              · exact One.callP (v := fun G => .agg #[.string s2, .int .i64 n11, .int .i64 n12, .int .i64 ((-1)), .int .i64 ((-1))]) (f := 42) (args := fun G => #[.string s2, .int .i64 n11, .int .i64 n12]) (fun _ _ => by kernel_rfl) (fun G w hs => tleaf_ct s2 n11 n12 w )
              · exact One.callT (f := 44) (args := fun G => #[.pointer (some ⟨b4, 0, none⟩), .agg #[.string s2, .int .i64 n11, .int .i64 n12, .int .i64 ((-1)), .int .i64 ((-1))]]) (rs := [4, 3]) (olds := fun G => [some (b4, .cells #[bv] 68 (0, 0)), be]) (news := fun G g => [some (b4, .cells #[g.v] 68 (0, 0)), g.e]) (V := fun G g => .int .i64 n13) (H := fun G => H) (F := fun G J g => OSl 44 J l1 g.v g.e) (fun G g w => ⟨by kernel_rfl, by kernel_rfl⟩) (fun G w hs => by
                  rw [hn13, hl1]
                  exact add_ct b bv be b4 s2 n11 n12 ((-1)) ((-1)) w H (hs.read 0 rfl) (hr3)  (hs.two (r := 4) (s := 3) (b := b4) (T := 68) (c := #[bv]) (e := be) (by kernel_rfl) (by kernel_rfl) rfl (by decide) hr3) (by omega))
              · exact One.new (r := 5) (T := 3) (fun b => .slice (some ⟨b, 0, none⟩) 1 1) (arr := fun G => #[.int .i64 n13]) (fun G w => by kernel_rfl) (fun G b => by kernel_rfl)
              · exact One.appendD (α := Int) (t := 26) (E := 3) (size := 1) (bytes := 8) (r := 6) (l := fun G => leaves) (m := fun G => [n13]) (lm := fun G => l2) (v := fun G => leavesv) (x := fun G => .slice (some ⟨(G 15).b, 0, none⟩) 1 1) (e := fun G => leavese) (H := fun G => H) (J := fun G => (hun (entH ((some ((G 15).b, .cells #[.int .i64 n13] 3 (0, 0))))) H)) (fun G g => ⟨by kernel_rfl, by kernel_rfl⟩) rfl (fun G w hs => ⟨hr2, (hun_agrees (entH_agrees (hs.own (r := 5) (e := (some ((G 15).b, .cells #[.int .i64 n13] 3 (0, 0)))) (by kernel_rfl))) (hs.read 0 rfl)), (((OSl.lit (α := Int) (E := 3) (n := 1) (H := H) (l := [n13]) (g := (G 15).b) (arr := #[.int .i64 n13]) (fun _ _ => trivial) (by kernel_rfl))).read (hs.own (r := 5) (e := (some ((G 15).b, .cells #[.int .i64 n13] 3 (0, 0)))) (by kernel_rfl)) (hs.read 0 rfl)), (fun _ _ => trivial), hl2, by (try simp only [List.length_append, List.length_cons, List.length_nil, List.length_replicate, List.length_set, List.length_take, List.length_drop, List.length_map, List.length_reverse, List.length_range]); omega⟩)
              intro G17 xa xw hDn
              have hf14_9 : (OSl 44 (hun (G17 14).H H) l1 (G17 14).v (G17 14).e) ∧ New w0 (G17 14).H := hDn.get 14 (by kernel_rfl) (by kernel_rfl) (by kernel_rfl)
              have hf16_10 : OSl 3 H l2 (G17 16).v (G17 16).e := hDn.get 16 (by kernel_rfl) (by kernel_rfl) (by kernel_rfl)
              refine hDn.to [1, 2, 3, 8, 10, 14, 84, 85] [] (by kernel_rfl) ?_
              clear hDn
              refine Pre.conv (sl := [(1, textsv), (2, valuesv), (3, blindsv), (8, .pointer (some ⟨b2, 0, none⟩)), (10, (G17 16).v), (14, .pointer (some ⟨b4, 0, none⟩)), (84, .int .i64 n1), (85, .int .i64 k1)]) (A := [H]) (L := [some (b1, .cells #[vv] 24 (0, 0)), some (b2, .cells #[.slice none 0 0] 24 (0, 0)), none, (G17 14).e, some (b4, .cells #[(G17 14).v] 68 (0, 0)), (some ((G17 15).b, .cells #[.int .i64 n13] 3 (0, 0))), (G17 16).e, none, none, none, none]) ?_ (by kernel_rfl) (by kernel_rfl) (by kernel_rfl)
              generalize (G17 16).v = v2 at hf14_9 hf16_10 ⊢
              generalize (G17 14).e = e2 at hf14_9 hf16_10 ⊢
              generalize (G17 14).v = v3 at hf14_9 hf16_10 ⊢
              generalize (G17 15).b = b5 at hf14_9 hf16_10 ⊢
              generalize (G17 16).e = e3 at hf14_9 hf16_10 ⊢
              generalize (G17 14).H = N2 at hf14_9 hf16_10 ⊢
              clear G17
              have hr4 : OSl 44 H l1 v3 e2 := (OSl.any (K := H) hf14_9.1 (fun _ _ => trivial))
              have hr4n := hr4.lim
              refine At.blockNormal ?_
              refine At.then ?_
              obtain ⟨n14, hn14⟩ : ∃ zz : Int, zz = k1 + 1 := ⟨_, rfl⟩
              refine W.regV (build_ct_r16_17 vv textsv valuesv blindsv H b1 b2 n1 b4 k1 n13 v2 e2 v3 b5 e3 n14) [1] [0] (fun G => [.int .i64 n14]) (by kernel_rfl) mo_tb (by kernel_rfl) (fun _ _ => by kernel_rfl) ⟨?_, trivial⟩ (by kernel_rfl) ?_
              · exact One.ar hn14 (fun _ _ => by kernel_rfl) (fun G w hs => by omega)
              intro G18 xa xw hDn
              refine hDn.to [1, 2, 3, 8, 10, 14, 84, 85] [] (by kernel_rfl) ?_
              clear hDn
              refine Pre.conv (sl := [(1, textsv), (2, valuesv), (3, blindsv), (8, .pointer (some ⟨b2, 0, none⟩)), (10, v2), (14, .pointer (some ⟨b4, 0, none⟩)), (84, .int .i64 n1), (85, .int .i64 n14)]) (A := [H]) (L := [some (b1, .cells #[vv] 24 (0, 0)), some (b2, .cells #[.slice none 0 0] 24 (0, 0)), none, e2, some (b4, .cells #[v3] 68 (0, 0)), (some (b5, .cells #[.int .i64 n13] 3 (0, 0))), e3, none, none, none, none]) ?_ (by kernel_rfl) (by kernel_rfl) (by kernel_rfl)
              clear G18
              intro xa xw hs hw
              refine ⟨(l2, v2, e3, n14, l1, v3, e2), ⟨hs.sub (by kernel_rfl), hw.mask [true, true, false, true, true, false, true, false, false, false, false] (by kernel_rfl), ?_⟩, ?_⟩
              · skip
                refine ⟨hf16_10, hr4, ?_, ?_, ?_, ?_⟩
                · show 0 ≤ n14
                  first | omega | rfl | (simp; done) | (subst_vars; simp; done)
                · show n14 ≤ n1
                  first | omega | rfl | (simp; done) | (subst_vars; simp; done)
                · show l2 = Tm.idsN v.length n14.toNat
                  exact Tm.ids_step hf7 (by omega) (by assumption) hl2 (by omega)
                · show l1 = v ++ Tm.leavesN texts values blinds n14.toNat
                  exact Tm.leaves_step hf8 (by omega) (by assumption) (by assumption) (by assumption) (by assumption) hl1
              · show (n1 - n14).toNat < (n1 - k1).toNat
                omega
            · skip
              have hq10 := hq
              replace hq10 := (iN hp13 iDF).1 hq10
              refine W.exit 2 (by kernel_rfl) ?_
              refine At.thenExit ?_
              refine At.thenExit ?_
              refine At.blockHit ?_
              refine At.then ?_
              refine W.seq (by kernel_rfl) ?_
              have hk1 : k1.toNat = texts.length := by omega
              rw [hk1] at hf7 hf8
              have hbl2 : b.length = v.length + texts.length := by rw [hf8]; simp
              have hll2 : leaves.length = texts.length := by rw [hf7]; simp
              refine W.regV (build_ct_r16_18 w0 v vv textsv valuesv blindsv H b1 b2 n1 b4 leaves leavesv leavese k1 bv be p13) [0, 2] [1] (fun G => [leavesv, (G 1).v]) (by kernel_rfl) mo_tb (by kernel_rfl) (fun _ _ => by kernel_rfl) ⟨?_, trivial⟩ (by kernel_rfl) ?_
              · exact One.callO (f := 45) (r := 7) (args := fun G => #[leavesv]) (H := fun G => (hun (entH leavese) H)) (V := fun G g => g.v) (F := fun G J g => OSl 3 J leaves g.v g.e) (fun G g w => ⟨by kernel_rfl, by kernel_rfl⟩) (fun G w hs => clonei_ct leaves leavesv w ((hun (entH leavese) H)) (hun_agrees (entH_agrees (hs.own (r := 6) (e := leavese) (by kernel_rfl))) (hs.read 0 rfl)) (((hr2).read (hs.own (r := 6) (e := leavese) (by kernel_rfl)) (hs.read 0 rfl))) (by omega))
              intro G19 xa xw hDn
              have hf1_11 : (OSl 3 (hun (G19 1).H ((hun (entH leavese) H))) leaves (G19 1).v (G19 1).e) ∧ New w0 (G19 1).H := hDn.get 1 (by kernel_rfl) (by kernel_rfl) (by kernel_rfl)
              refine hDn.to [8, 10, 14, 16] [] (by kernel_rfl) ?_
              clear hDn
              refine Pre.conv (sl := [(8, .pointer (some ⟨b2, 0, none⟩)), (10, leavesv), (14, .pointer (some ⟨b4, 0, none⟩)), (16, (G19 1).v)]) (A := [H]) (L := [some (b1, .cells #[vv] 24 (0, 0)), some (b2, .cells #[.slice none 0 0] 24 (0, 0)), none, be, some (b4, .cells #[bv] 68 (0, 0)), none, leavese, (G19 1).e, none, none, none]) ?_ (by kernel_rfl) (by kernel_rfl) (by kernel_rfl)
              generalize (G19 1).v = v4 at hf1_11 ⊢
              generalize (G19 1).e = e4 at hf1_11 ⊢
              generalize (G19 1).H = N3 at hf1_11 ⊢
              clear G19
              have hr5 : OSl 3 H leaves v4 e4 := (OSl.any (K := H) hf1_11.1 (fun _ _ => trivial))
              have hr5n := hr5.lim
              refine At.then ?_
              refine W.seq (by kernel_rfl) ?_
              refine W.block 4 (by kernel_rfl) ?_
              refine Pre.freeze 7 (e := e4) (by kernel_rfl) hE (fun K1 hk1 hk2 hE1 => ?_)
              have hr6 := (hr2).mono hk1
              have hr7 := (hr5).frozen hk1 hk2
              have hr8 := (hv).mono hk1
              have hr9 := (hr3).mono hk1
              refine Pre.conv (L := [some (b1, .cells #[vv] 24 (0, 0)), some (b2, .cells #[.slice none 0 0] 24 (0, 0)), none, be, some (b4, .cells #[bv] 68 (0, 0)), none, leavese, none, none, none, none]) ?_ rfl rfl (by kernel_rfl)
              refine W.loopS (γ := Heaplet × List Int × Value × List DThing × Value × Ent) (fun ⟨K2, level, levelv, b_1, b_1v, b_1e⟩ => [(8, .pointer (some ⟨b2, 0, none⟩)), (10, leavesv), (14, .pointer (some ⟨b4, 0, none⟩)), (16, levelv)]) (fun ⟨K2, level, levelv, b_1, b_1v, b_1e⟩ => [K2]) (fun ⟨K2, level, levelv, b_1, b_1v, b_1e⟩ => [some (b1, .cells #[vv] 24 (0, 0)), some (b2, .cells #[.slice none 0 0] 24 (0, 0)), none, b_1e, some (b4, .cells #[b_1v] 68 (0, 0)), none, leavese, none, none, none, none]) (fun ⟨K2, level, levelv, b_1, b_1v, b_1e⟩ => (Sub K1 K2) ∧ (Ext w0 H K2) ∧ (RSl K2 level levelv) ∧ (OSl 44 K2 b_1 b_1v b_1e) ∧ (Tm.Lev b_1 level (Tm.totV values texts.length) (Tm.totV blinds texts.length)) ∧ (Tm.up texts.length (v ++ Tm.leavesN texts values blinds texts.length) (Tm.idsN v.length texts.length) = Tm.up level.length b_1 level) ∧ (b_1.length + level.length = v.length + 2 * texts.length) ∧ (1 ≤ level.length)) (fun ⟨K2, level, levelv, b_1, b_1v, b_1e⟩ => level.length) (K1, leaves, v4, b, bv, be) (by kernel_rfl) ?_ ?_
              · intro xa xw hs hw
                refine ⟨hs.sub (by kernel_rfl), hw.mask [true, true, false, true, true, false, true, false, false, false, false] (by kernel_rfl), ?_⟩
                refine ⟨Sub.refl _, hE1, hr7, hr9, ?_, ?_, ?_, ?_⟩
                · show Tm.Lev b leaves (Tm.totV values texts.length) (Tm.totV blinds texts.length)
                  rw [hf7, hf8]; exact Tm.lev_start hOK
                · show Tm.up texts.length (v ++ Tm.leavesN texts values blinds texts.length) (Tm.idsN v.length texts.length) = Tm.up leaves.length b leaves
                  rw [hll2, hf7, hf8]
                · show b.length + leaves.length = v.length + 2 * texts.length
                  first | omega | rfl | (simp; done) | (subst_vars; simp; done)
                · show 1 ≤ leaves.length
                  first | omega | rfl | (simp; done) | (subst_vars; simp; done)
              · rintro ⟨K2, level, levelv, b_1, b_1v, b_1e⟩ hF
                have hF : (Sub K1 K2) ∧ (Ext w0 H K2) ∧ (RSl K2 level levelv) ∧ (OSl 44 K2 b_1 b_1v b_1e) ∧ (Tm.Lev b_1 level (Tm.totV values texts.length) (Tm.totV blinds texts.length)) ∧ (Tm.up texts.length (v ++ Tm.leavesN texts values blinds texts.length) (Tm.idsN v.length texts.length) = Tm.up level.length b_1 level) ∧ (b_1.length + level.length = v.length + 2 * texts.length) ∧ (1 ≤ level.length) := hF
                obtain ⟨hk3, hE2, hr10, hr11, hf12, hf13, hf14, hf15⟩ := hF
                show W Try.prog 151 w0 [] (Code.l (Code.l (Code.l (Code.r (Code.r (Code.r (Code.r (Code.r (Code.r (Code.r (Code.r (body Try.f16)))))))))))) _ [(8, .pointer (some ⟨b2, 0, none⟩)), (10, leavesv), (14, .pointer (some ⟨b4, 0, none⟩)), (16, levelv)] [K2] [some (b1, .cells #[vv] 24 (0, 0)), some (b2, .cells #[.slice none 0 0] 24 (0, 0)), none, b_1e, some (b4, .cells #[b_1v] 68 (0, 0)), none, leavese, none, none, none, none]
                have hr10n := hr10.lim
                have hr11n := hr11.lim
                have hr12 := (hr6).mono hk3
                have hr13 := (hr8).mono hk3
                refine W.seq (by kernel_rfl) ?_
                refine W.seq (by kernel_rfl) ?_
                obtain ⟨n15, hn15⟩ : ∃ zz : Int, zz = (level.length : Int) := ⟨_, rfl⟩
                obtain ⟨p14, hp14⟩ : ∃ zz : Bool, zz = decide (1 < n15) := ⟨_, rfl⟩
                refine W.regV (build_ct_r16_19 vv b1 b2 b4 leavesv leavese K2 levelv b_1v b_1e n15 p14) [0] [1, 2] (fun G => [levelv]) (by kernel_rfl) mo_tb (by kernel_rfl) (fun _ _ => by kernel_rfl) ⟨?_, ?_, trivial⟩ (by kernel_rfl) ?_
                · exact One.len (t := 26) (n := n15) (v := fun G => levelv) (fun _ => ⟨by kernel_rfl⟩) (fun G w hs => ⟨_, (hr10).isSl, hn15⟩)
                · exact One.bo hp14 (fun _ _ => by kernel_rfl)
                intro G20 xa xw hDn
                refine hDn.to [8, 10, 14, 16, 110] [] (by kernel_rfl) ?_
                clear hDn
                refine Pre.conv (sl := [(8, .pointer (some ⟨b2, 0, none⟩)), (10, leavesv), (14, .pointer (some ⟨b4, 0, none⟩)), (16, levelv), (110, .bool p14)]) (A := [K2]) (L := [some (b1, .cells #[vv] 24 (0, 0)), some (b2, .cells #[.slice none 0 0] 24 (0, 0)), none, b_1e, some (b4, .cells #[b_1v] 68 (0, 0)), none, leavese, none, none, none, none]) ?_ (by kernel_rfl) (by kernel_rfl) (by kernel_rfl)
                clear G20
                refine At.then ?_
                refine W.cond p14 (by kernel_rfl) (fun xa hs => cnd_of (t := 110) (by kernel_rfl) (by kernel_rfl) hs) (fun hq => ?_) (fun hq => ?_)
                · skip
                  have hq11 := hq
                  replace hq11 := (iN hp14 iDT).1 hq11
                  refine W.skip (by kernel_rfl) ?_
                  refine At.then ?_
                  refine W.block 5 (by kernel_rfl) ?_
                  refine W.seq (by kernel_rfl) ?_
                  refine W.regV (build_ct_r16_20 vv b1 b2 b4 leavesv leavese K2 levelv b_1v b_1e p14) [0] [] (fun G => [.slice none 0 0]) (by kernel_rfl) mo_tb (by kernel_rfl) (fun _ _ => by kernel_rfl) trivial (by kernel_rfl) ?_
                  intro G21 xa xw hDn
                  refine hDn.to [8, 10, 14, 16, 17] [] (by kernel_rfl) ?_
                  clear hDn
                  refine Pre.conv (sl := [(8, .pointer (some ⟨b2, 0, none⟩)), (10, leavesv), (14, .pointer (some ⟨b4, 0, none⟩)), (16, levelv), (17, .slice none 0 0)]) (A := [K2]) (L := [some (b1, .cells #[vv] 24 (0, 0)), some (b2, .cells #[.slice none 0 0] 24 (0, 0)), none, b_1e, some (b4, .cells #[b_1v] 68 (0, 0)), none, leavese, none, none, none, none]) ?_ (by kernel_rfl) (by kernel_rfl) (by kernel_rfl)
                  clear G21
                  refine At.then ?_
                  refine W.seq (by kernel_rfl) ?_
                  refine W.seq (by kernel_rfl) ?_
                  refine W.regV (build_ct_r16_21 vv b1 b2 b4 leavesv leavese K2 levelv b_1v b_1e) [0] [] (fun G => [.int .i64 0]) (by kernel_rfl) mo_tb (by kernel_rfl) (fun _ _ => by kernel_rfl) trivial (by kernel_rfl) ?_
                  intro G22 xa xw hDn
                  refine hDn.to [8, 10, 14, 16, 17, 18] [] (by kernel_rfl) ?_
                  clear hDn
                  refine Pre.conv (sl := [(8, .pointer (some ⟨b2, 0, none⟩)), (10, leavesv), (14, .pointer (some ⟨b4, 0, none⟩)), (16, levelv), (17, .slice none 0 0), (18, .int .i64 0)]) (A := [K2]) (L := [some (b1, .cells #[vv] 24 (0, 0)), some (b2, .cells #[.slice none 0 0] 24 (0, 0)), none, b_1e, some (b4, .cells #[b_1v] 68 (0, 0)), none, leavese, none, none, none, none]) ?_ (by kernel_rfl) (by kernel_rfl) (by kernel_rfl)
                  clear G22
                  refine At.then ?_
                  refine W.block 6 (by kernel_rfl) ?_
                  refine W.loopS (γ := List Int × Value × Ent × Int × List DThing × Value × Ent) (fun ⟨next, nextv, nexte, i, b_2, b_2v, b_2e⟩ => [(8, .pointer (some ⟨b2, 0, none⟩)), (10, leavesv), (14, .pointer (some ⟨b4, 0, none⟩)), (16, levelv), (17, nextv), (18, .int .i64 i)]) (fun ⟨next, nextv, nexte, i, b_2, b_2v, b_2e⟩ => [K2]) (fun ⟨next, nextv, nexte, i, b_2, b_2v, b_2e⟩ => [some (b1, .cells #[vv] 24 (0, 0)), some (b2, .cells #[.slice none 0 0] 24 (0, 0)), none, b_2e, some (b4, .cells #[b_2v] 68 (0, 0)), none, leavese, none, none, nexte, none]) (fun ⟨next, nextv, nexte, i, b_2, b_2v, b_2e⟩ => (OSl 3 K2 next nextv nexte) ∧ (OSl 44 K2 b_2 b_2v b_2e) ∧ (Tm.Lev b_2 (next ++ level.drop i.toNat) (Tm.totV values texts.length) (Tm.totV blinds texts.length)) ∧ (Tm.pairUp b_1 level = ((Tm.pairUp b_2 (level.drop i.toNat)).1, next ++ (Tm.pairUp b_2 (level.drop i.toNat)).2)) ∧ (0 ≤ i) ∧ (i ≤ level.length) ∧ (i = 2 * next.length) ∧ ((b_2.length : Int) = b_1.length + next.length)) (fun ⟨next, nextv, nexte, i, b_2, b_2v, b_2e⟩ => ((level.length : Int) - i).toNat) (([] : List Int), .slice none 0 0, none, 0, b_1, b_1v, b_1e) (by kernel_rfl) ?_ ?_
                  · intro xa xw hs hw
                    refine ⟨hs.sub (by kernel_rfl), hw.mask [true, true, false, true, true, false, true, false, false, true, false] (by kernel_rfl), ?_⟩
                    refine ⟨OSl.nil, hr11, ?_, ?_, ?_, ?_, ?_, ?_⟩
                    · show Tm.Lev b_1 ((([] : List Int)) ++ level.drop (0 : Int).toNat) (Tm.totV values texts.length) (Tm.totV blinds texts.length)
                      simpa using hf12
                    · show Tm.pairUp b_1 level = ((Tm.pairUp b_1 (level.drop (0 : Int).toNat)).1, (([] : List Int)) ++ (Tm.pairUp b_1 (level.drop (0 : Int).toNat)).2)
                      simp
                    · show 0 ≤ (0 : Int)
                      first | omega | rfl | (simp; done) | (subst_vars; simp; done)
                    · show (0 : Int) ≤ level.length
                      first | omega | rfl | (simp; done) | (subst_vars; simp; done)
                    · show (0 : Int) = 2 * (([] : List Int)).length
                      simp
                    · show (b_1.length : Int) = b_1.length + (([] : List Int)).length
                      simp
                  · rintro ⟨next, nextv, nexte, i, b_2, b_2v, b_2e⟩ hF
                    have hF : (OSl 3 K2 next nextv nexte) ∧ (OSl 44 K2 b_2 b_2v b_2e) ∧ (Tm.Lev b_2 (next ++ level.drop i.toNat) (Tm.totV values texts.length) (Tm.totV blinds texts.length)) ∧ (Tm.pairUp b_1 level = ((Tm.pairUp b_2 (level.drop i.toNat)).1, next ++ (Tm.pairUp b_2 (level.drop i.toNat)).2)) ∧ (0 ≤ i) ∧ (i ≤ level.length) ∧ (i = 2 * next.length) ∧ ((b_2.length : Int) = b_1.length + next.length) := hF
                    obtain ⟨hr14, hr15, hf16, hf17, hf18, hf19, hf20, hf21⟩ := hF
                    show W Try.prog 151 w0 [] (Code.l (Code.l (Code.r (Code.l (Code.r (Code.l (Code.r (Code.l (Code.l (Code.l (Code.r (Code.r (Code.r (Code.r (Code.r (Code.r (Code.r (Code.r (body Try.f16))))))))))))))))))) _ [(8, .pointer (some ⟨b2, 0, none⟩)), (10, leavesv), (14, .pointer (some ⟨b4, 0, none⟩)), (16, levelv), (17, nextv), (18, .int .i64 i)] [K2] [some (b1, .cells #[vv] 24 (0, 0)), some (b2, .cells #[.slice none 0 0] 24 (0, 0)), none, b_2e, some (b4, .cells #[b_2v] 68 (0, 0)), none, leavese, none, none, nexte, none]
                    have hr14n := hr14.lim
                    have hr15n := hr15.lim
                    refine W.seq (by kernel_rfl) ?_
                    refine W.seq (by kernel_rfl) ?_
                    obtain ⟨n16, hn16⟩ : ∃ zz : Int, zz = i + 1 := ⟨_, rfl⟩
                    obtain ⟨p15, hp15⟩ : ∃ zz : Bool, zz = decide (n16 < n15) := ⟨_, rfl⟩
                    refine W.regV (build_ct_r16_22 vv b1 b2 b4 leavesv leavese K2 levelv n15 nextv nexte i b_2v b_2e n16 p15) [0, 2] [1, 3, 4] (fun G => [.int .i64 i, levelv]) (by kernel_rfl) mo_tb (by kernel_rfl) (fun _ _ => by kernel_rfl) ⟨?_, ?_, ?_, trivial⟩ (by kernel_rfl) ?_
                    · exact One.ar hn16 (fun _ _ => by kernel_rfl) (fun G w hs => by omega)
                    · exact One.len (t := 26) (n := n15) (v := fun G => levelv) (fun _ => ⟨by kernel_rfl⟩) (fun G w hs => ⟨_, (hr10).isSl, hn15⟩)
                    · exact One.bo hp15 (fun _ _ => by kernel_rfl)
                    intro G23 xa xw hDn
                    refine hDn.to [8, 10, 14, 16, 17, 18, 115] [] (by kernel_rfl) ?_
                    clear hDn
                    refine Pre.conv (sl := [(8, .pointer (some ⟨b2, 0, none⟩)), (10, leavesv), (14, .pointer (some ⟨b4, 0, none⟩)), (16, levelv), (17, nextv), (18, .int .i64 i), (115, .bool p15)]) (A := [K2]) (L := [some (b1, .cells #[vv] 24 (0, 0)), some (b2, .cells #[.slice none 0 0] 24 (0, 0)), none, b_2e, some (b4, .cells #[b_2v] 68 (0, 0)), none, leavese, none, none, nexte, none]) ?_ (by kernel_rfl) (by kernel_rfl) (by kernel_rfl)
                    clear G23
                    refine At.then ?_
                    refine W.cond p15 (by kernel_rfl) (fun xa hs => cnd_of (t := 115) (by kernel_rfl) (by kernel_rfl) hs) (fun hq => ?_) (fun hq => ?_)
                    · skip
                      have hq12 := hq
                      replace hq12 := (iN hp15 iDT).1 hq12
                      refine W.skip (by kernel_rfl) ?_
                      refine At.then ?_
                      refine W.seq (by kernel_rfl) ?_
                      refine W.block 7 (by kernel_rfl) ?_
                      obtain ⟨n17, hn17⟩ : ∃ zz : Int, zz = level.getD i.toNat default := ⟨_, rfl⟩
                      obtain ⟨n18, hn18⟩ : ∃ zz : Int, zz = level.getD n16.toNat default := ⟨_, rfl⟩
                      obtain ⟨n19, hn19⟩ : ∃ zz : Int, zz = (b_2.length : Int) := ⟨_, rfl⟩
                      obtain ⟨l3, hl3⟩ : ∃ zz : List DThing, zz = b_2 ++ [Tm.pairX b_2 n17 n18] := ⟨_, rfl⟩
                      have hl3n := congrArg List.length hl3; try simp only [List.length_append, List.length_cons, List.length_nil, List.length_replicate, List.length_set, List.length_take, List.length_drop, List.length_map, List.length_reverse, List.length_range] at hl3n
                      obtain ⟨l4, hl4⟩ : ∃ zz : List Int, zz = next ++ [n19] := ⟨_, rfl⟩
                      have hl4n := congrArg List.length hl4; try simp only [List.length_append, List.length_cons, List.length_nil, List.length_replicate, List.length_set, List.length_take, List.length_drop, List.length_map, List.length_reverse, List.length_range] at hl4n
                      have hd2 := Tm.drop2 (i := i) (by omega) hn16 (by omega) hn17 hn18
                      have h2 := Tm.Lev.two hf16 hd2 (by omega) (by omega)
                      refine W.regV (build_ct_r16_23 w0 v vv H b1 b2 b4 leavesv leavese b K2 levelv nextv nexte i b_2v b_2e n16 p15 n17 n18 n19 l3 l4) [0, 1, 2, 5, 6, 13] [3, 4, 7, 8, 9, 10, 11, 12] (fun G => [nextv, levelv, .int .i64 i, levelv, .int .i64 i, (G 12).v]) (by kernel_rfl) mo_tb (by kernel_rfl) (fun _ _ => by kernel_rfl) ⟨?_, ?_, ?_, ?_, ?_, ?_, ?_, ?_, trivial⟩ (by kernel_rfl) ?_
                      · exact One.index (t := 26) (e := 3) (size := 1) (v := fun G => levelv) (k := .i64) (n := i) (fun _ => ⟨by kernel_rfl⟩) (fun G w hs => ⟨_, (hr10).isSl, by first | omega | (simp only [List.length_append, List.length_cons, List.length_nil, List.length_replicate, List.length_set, List.length_take, List.length_drop, List.length_map, List.length_reverse, List.length_range]; omega), by first | omega | (simp only [List.length_append, List.length_cons, List.length_nil, List.length_replicate, List.length_set, List.length_take, List.length_drop, List.length_map, List.length_reverse, List.length_range]; omega)⟩)
                      · exact One.loadD (α := Int) (t := 3) (size := 1) (off := 0) (k := i) (l := fun G => level) (x := fun G => n17) (vs := fun G => [.int .i64 n17]) (v := fun G => levelv) (H := fun G => K2) (p := fun G => elemAddr levelv (i.toNat * 1)) (fun G => ⟨by kernel_rfl⟩) rfl (fun G => by kernel_rfl) (fun G w hs => ⟨(hs.read 0 rfl), hr10, (add_zero' _).symm, by omega, by first | omega | (simp only [List.length_append, List.length_cons, List.length_nil, List.length_replicate, List.length_set, List.length_take, List.length_drop, List.length_map, List.length_reverse, List.length_range]; omega), hn17⟩)
                      · exact One.ar hn16 (fun _ _ => by kernel_rfl) (fun G w hs => by omega)
                      · exact One.index (t := 26) (e := 3) (size := 1) (v := fun G => levelv) (k := .i64) (n := n16) (fun _ => ⟨by kernel_rfl⟩) (fun G w hs => ⟨_, (hr10).isSl, by first | omega | (simp only [List.length_append, List.length_cons, List.length_nil, List.length_replicate, List.length_set, List.length_take, List.length_drop, List.length_map, List.length_reverse, List.length_range]; omega), by first | omega | (simp only [List.length_append, List.length_cons, List.length_nil, List.length_replicate, List.length_set, List.length_take, List.length_drop, List.length_map, List.length_reverse, List.length_range]; omega)⟩)
                      · exact One.loadD (α := Int) (t := 3) (size := 1) (off := 0) (k := n16) (l := fun G => level) (x := fun G => n18) (vs := fun G => [.int .i64 n18]) (v := fun G => levelv) (H := fun G => K2) (p := fun G => elemAddr levelv (n16.toNat * 1)) (fun G => ⟨by kernel_rfl⟩) rfl (fun G => by kernel_rfl) (fun G w hs => ⟨(hs.read 0 rfl), hr10, (add_zero' _).symm, by omega, by first | omega | (simp only [List.length_append, List.length_cons, List.length_nil, List.length_replicate, List.length_set, List.length_take, List.length_drop, List.length_map, List.length_reverse, List.length_range]; omega), hn18⟩)
                      · exact One.callT (f := 46) (args := fun G => #[.pointer (some ⟨b4, 0, none⟩), .int .i64 n17, .int .i64 n18]) (rs := [4, 3]) (olds := fun G => [some (b4, .cells #[b_2v] 68 (0, 0)), b_2e]) (news := fun G g => [some (b4, .cells #[g.v] 68 (0, 0)), g.e]) (V := fun G g => .int .i64 n19) (H := fun G => K2) (F := fun G J g => OSl 44 J l3 g.v g.e) (fun G g w => ⟨by kernel_rfl, by kernel_rfl⟩) (fun G w hs => by
                          rw [hn19, hl3]
                          exact bpair_ct b_2 b_2v b_2e b4 n17 n18 w K2 (hs.read 0 rfl) (hr15)  (hs.two (r := 4) (s := 3) (b := b4) (T := 68) (c := #[b_2v]) (e := b_2e) (by kernel_rfl) (by kernel_rfl) rfl (by decide) hr15) (by omega) h2.1 h2.2.1 h2.2.2.1 h2.2.2.2)
                      · exact One.new (r := 8) (T := 3) (fun b => .slice (some ⟨b, 0, none⟩) 1 1) (arr := fun G => #[.int .i64 n19]) (fun G w => by kernel_rfl) (fun G b => by kernel_rfl)
                      · exact One.appendD (α := Int) (t := 26) (E := 3) (size := 1) (bytes := 8) (r := 9) (l := fun G => next) (m := fun G => [n19]) (lm := fun G => l4) (v := fun G => nextv) (x := fun G => .slice (some ⟨(G 11).b, 0, none⟩) 1 1) (e := fun G => nexte) (H := fun G => K2) (J := fun G => (hun (entH ((some ((G 11).b, .cells #[.int .i64 n19] 3 (0, 0))))) K2)) (fun G g => ⟨by kernel_rfl, by kernel_rfl⟩) rfl (fun G w hs => ⟨hr14, (hun_agrees (entH_agrees (hs.own (r := 8) (e := (some ((G 11).b, .cells #[.int .i64 n19] 3 (0, 0)))) (by kernel_rfl))) (hs.read 0 rfl)), (((OSl.lit (α := Int) (E := 3) (n := 1) (H := K2) (l := [n19]) (g := (G 11).b) (arr := #[.int .i64 n19]) (fun _ _ => trivial) (by kernel_rfl))).read (hs.own (r := 8) (e := (some ((G 11).b, .cells #[.int .i64 n19] 3 (0, 0)))) (by kernel_rfl)) (hs.read 0 rfl)), (fun _ _ => trivial), hl4, by (try simp only [List.length_append, List.length_cons, List.length_nil, List.length_replicate, List.length_set, List.length_take, List.length_drop, List.length_map, List.length_reverse, List.length_range]); omega⟩)
                      intro G24 xa xw hDn
                      have hf10_22 : (OSl 44 (hun (G24 10).H K2) l3 (G24 10).v (G24 10).e) ∧ New w0 (G24 10).H := hDn.get 10 (by kernel_rfl) (by kernel_rfl) (by kernel_rfl)
                      have hf12_23 : OSl 3 K2 l4 (G24 12).v (G24 12).e := hDn.get 12 (by kernel_rfl) (by kernel_rfl) (by kernel_rfl)
                      refine hDn.to [8, 10, 14, 16, 17, 18] [] (by kernel_rfl) ?_
                      clear hDn
                      refine Pre.conv (sl := [(8, .pointer (some ⟨b2, 0, none⟩)), (10, leavesv), (14, .pointer (some ⟨b4, 0, none⟩)), (16, levelv), (17, (G24 12).v), (18, .int .i64 i)]) (A := [K2]) (L := [some (b1, .cells #[vv] 24 (0, 0)), some (b2, .cells #[.slice none 0 0] 24 (0, 0)), none, (G24 10).e, some (b4, .cells #[(G24 10).v] 68 (0, 0)), none, leavese, none, (some ((G24 11).b, .cells #[.int .i64 n19] 3 (0, 0))), (G24 12).e, none]) ?_ (by kernel_rfl) (by kernel_rfl) (by kernel_rfl)
                      generalize (G24 12).v = v5 at hf10_22 hf12_23 ⊢
                      generalize (G24 10).e = e5 at hf10_22 hf12_23 ⊢
                      generalize (G24 10).v = v6 at hf10_22 hf12_23 ⊢
                      generalize (G24 11).b = b6 at hf10_22 hf12_23 ⊢
                      generalize (G24 12).e = e6 at hf10_22 hf12_23 ⊢
                      generalize (G24 10).H = N4 at hf10_22 hf12_23 ⊢
                      clear G24
                      have hr16 : OSl 44 K2 l3 v6 e5 := (OSl.any (K := K2) hf10_22.1 (fun _ _ => trivial))
                      have hr16n := hr16.lim
                      refine At.blockNormal ?_
                      refine At.then ?_
                      obtain ⟨n20, hn20⟩ : ∃ zz : Int, zz = i + 2 := ⟨_, rfl⟩
                      refine W.regV (build_ct_r16_24 vv b1 b2 b4 leavesv leavese K2 levelv i n19 v5 e5 v6 b6 e6 n20) [0, 2] [1] (fun G => [.int .i64 i, .int .i64 n20]) (by kernel_rfl) mo_tb (by kernel_rfl) (fun _ _ => by kernel_rfl) ⟨?_, trivial⟩ (by kernel_rfl) ?_
                      · exact One.ar hn20 (fun _ _ => by kernel_rfl) (fun G w hs => by omega)
                      intro G25 xa xw hDn
                      refine hDn.to [8, 10, 14, 16, 17, 18] [] (by kernel_rfl) ?_
                      clear hDn
                      refine Pre.conv (sl := [(8, .pointer (some ⟨b2, 0, none⟩)), (10, leavesv), (14, .pointer (some ⟨b4, 0, none⟩)), (16, levelv), (17, v5), (18, .int .i64 n20)]) (A := [K2]) (L := [some (b1, .cells #[vv] 24 (0, 0)), some (b2, .cells #[.slice none 0 0] 24 (0, 0)), none, e5, some (b4, .cells #[v6] 68 (0, 0)), none, leavese, none, (some (b6, .cells #[.int .i64 n19] 3 (0, 0))), e6, none]) ?_ (by kernel_rfl) (by kernel_rfl) (by kernel_rfl)
                      clear G25
                      have hps := Tm.pair_step (i := i) (j := n16) hf16 hf17 (by omega) hn16 (by omega) hn17 hn18 hn20 hl3 (by assumption) hl4
                      intro xa xw hs hw
                      refine ⟨(l4, v5, e6, n20, l3, v6, e5), ⟨hs.sub (by kernel_rfl), hw.mask [true, true, false, true, true, false, true, false, false, true, false] (by kernel_rfl), ?_⟩, ?_⟩
                      · skip
                        refine ⟨hf12_23, hr16, ?_, ?_, ?_, ?_, ?_, ?_⟩
                        · show Tm.Lev l3 (l4 ++ level.drop n20.toNat) (Tm.totV values texts.length) (Tm.totV blinds texts.length)
                          exact hps.1
                        · show Tm.pairUp b_1 level = ((Tm.pairUp l3 (level.drop n20.toNat)).1, l4 ++ (Tm.pairUp l3 (level.drop n20.toNat)).2)
                          exact hps.2
                        · show 0 ≤ n20
                          omega
                        · show n20 ≤ level.length
                          omega
                        · show n20 = 2 * l4.length
                          omega
                        · show (l3.length : Int) = b_1.length + l4.length
                          omega
                      · show ((level.length : Int) - n20).toNat < ((level.length : Int) - i).toNat
                        omega
                    · skip
                      have hq13 := hq
                      replace hq13 := (iN hp15 iDF).1 hq13
                      refine W.exit 6 (by kernel_rfl) ?_
                      refine At.thenExit ?_
                      refine At.thenExit ?_
                      refine At.blockHit ?_
                      refine At.then ?_
                      refine W.seq (by kernel_rfl) ?_
                      refine W.seq (by kernel_rfl) ?_
                      obtain ⟨n21, hn21⟩ : ∃ zz : Int, zz = n15 % 2 := ⟨_, rfl⟩
                      obtain ⟨p16, hp16⟩ : ∃ zz : Bool, zz = decide (n21 = 1) := ⟨_, rfl⟩
                      refine W.regV (build_ct_r16_25 vv b1 b2 b4 leavesv leavese K2 levelv n15 nextv nexte i b_2v b_2e p15 n21 p16) [0] [1, 2, 3] (fun G => [levelv]) (by kernel_rfl) mo_tb (by kernel_rfl) (fun _ _ => by kernel_rfl) ⟨?_, ?_, ?_, trivial⟩ (by kernel_rfl) ?_
                      · exact One.len (t := 26) (n := n15) (v := fun G => levelv) (fun _ => ⟨by kernel_rfl⟩) (fun G w hs => ⟨_, (hr10).isSl, hn15⟩)
                      · exact One.rem hn21 (fun _ _ => by kernel_rfl) (fun G w hs => by omega)
                      · exact One.bo hp16 (fun _ _ => by kernel_rfl)
                      intro G26 xa xw hDn
                      refine hDn.to [8, 10, 14, 16, 17, 134] [] (by kernel_rfl) ?_
                      clear hDn
                      refine Pre.conv (sl := [(8, .pointer (some ⟨b2, 0, none⟩)), (10, leavesv), (14, .pointer (some ⟨b4, 0, none⟩)), (16, levelv), (17, nextv), (134, .bool p16)]) (A := [K2]) (L := [some (b1, .cells #[vv] 24 (0, 0)), some (b2, .cells #[.slice none 0 0] 24 (0, 0)), none, b_2e, some (b4, .cells #[b_2v] 68 (0, 0)), none, leavese, none, none, nexte, none]) ?_ (by kernel_rfl) (by kernel_rfl) (by kernel_rfl)
                      clear G26
                      refine At.then ?_
                      refine W.cond p16 (by kernel_rfl) (fun xa hs => cnd_of (t := 134) (by kernel_rfl) (by kernel_rfl) hs) (fun hq => ?_) (fun hq => ?_)
                      · skip
                        have hq14 := hq
                        replace hq14 := (iN hp16 iDT).1 hq14
                        obtain ⟨n22, hn22⟩ : ∃ zz : Int, zz = n15 - 1 := ⟨_, rfl⟩
                        obtain ⟨n23, hn23⟩ : ∃ zz : Int, zz = level.getD n22.toNat default := ⟨_, rfl⟩
                        obtain ⟨l5, hl5⟩ : ∃ zz : List Int, zz = next ++ [n23] := ⟨_, rfl⟩
                        have hl5n := congrArg List.length hl5; try simp only [List.length_append, List.length_cons, List.length_nil, List.length_replicate, List.length_set, List.length_take, List.length_drop, List.length_map, List.length_reverse, List.length_range] at hl5n
                        refine W.regV (build_ct_r16_26 v vv b1 b2 b4 leavesv leavese b K2 levelv n15 nextv nexte b_2v b_2e p16 n22 n23 l5) [0, 1, 2, 9] [3, 4, 5, 6, 7, 8] (fun G => [nextv, levelv, levelv, (G 8).v]) (by kernel_rfl) mo_tb (by kernel_rfl) (fun _ _ => by kernel_rfl) ⟨?_, ?_, ?_, ?_, ?_, ?_, trivial⟩ (by kernel_rfl) ?_
                        · exact One.len (t := 26) (n := n15) (v := fun G => levelv) (fun _ => ⟨by kernel_rfl⟩) (fun G w hs => ⟨_, (hr10).isSl, hn15⟩)
                        · exact One.ar hn22 (fun _ _ => by kernel_rfl) (fun G w hs => by omega)
                        · exact One.index (t := 26) (e := 3) (size := 1) (v := fun G => levelv) (k := .i64) (n := n22) (fun _ => ⟨by kernel_rfl⟩) (fun G w hs => ⟨_, (hr10).isSl, by first | omega | (simp only [List.length_append, List.length_cons, List.length_nil, List.length_replicate, List.length_set, List.length_take, List.length_drop, List.length_map, List.length_reverse, List.length_range]; omega), by first | omega | (simp only [List.length_append, List.length_cons, List.length_nil, List.length_replicate, List.length_set, List.length_take, List.length_drop, List.length_map, List.length_reverse, List.length_range]; omega)⟩)
                        · exact One.loadD (α := Int) (t := 3) (size := 1) (off := 0) (k := n22) (l := fun G => level) (x := fun G => n23) (vs := fun G => [.int .i64 n23]) (v := fun G => levelv) (H := fun G => K2) (p := fun G => elemAddr levelv (n22.toNat * 1)) (fun G => ⟨by kernel_rfl⟩) rfl (fun G => by kernel_rfl) (fun G w hs => ⟨(hs.read 0 rfl), hr10, (add_zero' _).symm, by omega, by first | omega | (simp only [List.length_append, List.length_cons, List.length_nil, List.length_replicate, List.length_set, List.length_take, List.length_drop, List.length_map, List.length_reverse, List.length_range]; omega), hn23⟩)
                        · exact One.new (r := 10) (T := 3) (fun b => .slice (some ⟨b, 0, none⟩) 1 1) (arr := fun G => #[.int .i64 n23]) (fun G w => by kernel_rfl) (fun G b => by kernel_rfl)
                        · exact One.appendD (α := Int) (t := 26) (E := 3) (size := 1) (bytes := 8) (r := 9) (l := fun G => next) (m := fun G => [n23]) (lm := fun G => l5) (v := fun G => nextv) (x := fun G => .slice (some ⟨(G 7).b, 0, none⟩) 1 1) (e := fun G => nexte) (H := fun G => K2) (J := fun G => (hun (entH ((some ((G 7).b, .cells #[.int .i64 n23] 3 (0, 0))))) K2)) (fun G g => ⟨by kernel_rfl, by kernel_rfl⟩) rfl (fun G w hs => ⟨hr14, (hun_agrees (entH_agrees (hs.own (r := 10) (e := (some ((G 7).b, .cells #[.int .i64 n23] 3 (0, 0)))) (by kernel_rfl))) (hs.read 0 rfl)), (((OSl.lit (α := Int) (E := 3) (n := 1) (H := K2) (l := [n23]) (g := (G 7).b) (arr := #[.int .i64 n23]) (fun _ _ => trivial) (by kernel_rfl))).read (hs.own (r := 10) (e := (some ((G 7).b, .cells #[.int .i64 n23] 3 (0, 0)))) (by kernel_rfl)) (hs.read 0 rfl)), (fun _ _ => trivial), hl5, by (try simp only [List.length_append, List.length_cons, List.length_nil, List.length_replicate, List.length_set, List.length_take, List.length_drop, List.length_map, List.length_reverse, List.length_range]); omega⟩)
                        intro G27 xa xw hDn
                        have hf8_24 : OSl 3 K2 l5 (G27 8).v (G27 8).e := hDn.get 8 (by kernel_rfl) (by kernel_rfl) (by kernel_rfl)
                        refine hDn.to [8, 10, 14, 17] [] (by kernel_rfl) ?_
                        clear hDn
                        refine Pre.conv (sl := [(8, .pointer (some ⟨b2, 0, none⟩)), (10, leavesv), (14, .pointer (some ⟨b4, 0, none⟩)), (17, (G27 8).v)]) (A := [K2]) (L := [some (b1, .cells #[vv] 24 (0, 0)), some (b2, .cells #[.slice none 0 0] 24 (0, 0)), none, b_2e, some (b4, .cells #[b_2v] 68 (0, 0)), none, leavese, none, none, (G27 8).e, (some ((G27 7).b, .cells #[.int .i64 n23] 3 (0, 0)))]) ?_ (by kernel_rfl) (by kernel_rfl) (by kernel_rfl)
                        generalize (G27 8).v = v7 at hf8_24 ⊢
                        generalize (G27 8).e = e7 at hf8_24 ⊢
                        generalize (G27 7).b = b7 at hf8_24 ⊢
                        clear G27
                        refine At.then ?_
                        have hpe := Tm.pair_odd hf17 (by omega) (by omega) (by omega) hn23 hl5
                        have hle := Tm.lev_odd hf16 (by omega) (by omega) (by omega) hn23 hl5
                        refine W.regV (build_ct_r16_27 vv b1 b2 b4 leavesv leavese K2 b_2v b_2e n23 v7 e7 b7) [0, 1] [] (fun G => [v7, v7]) (by kernel_rfl) mo_tb (by kernel_rfl) (fun _ _ => by kernel_rfl) trivial (by kernel_rfl) ?_
                        intro G28 xa xw hDn
                        refine hDn.to [8, 10, 14, 16] [] (by kernel_rfl) ?_
                        clear hDn
                        refine Pre.conv (sl := [(8, .pointer (some ⟨b2, 0, none⟩)), (10, leavesv), (14, .pointer (some ⟨b4, 0, none⟩)), (16, v7)]) (A := [K2]) (L := [some (b1, .cells #[vv] 24 (0, 0)), some (b2, .cells #[.slice none 0 0] 24 (0, 0)), none, b_2e, some (b4, .cells #[b_2v] 68 (0, 0)), none, leavese, none, none, e7, (some (b7, .cells #[.int .i64 n23] 3 (0, 0)))]) ?_ (by kernel_rfl) (by kernel_rfl) (by kernel_rfl)
                        clear G28
                        refine At.blockNormal ?_
                        refine Pre.freeze 9 (e := e7) (by kernel_rfl) hE2 (fun K3 hk4 hk5 hE3 => ?_)
                        have hr17 := (hr12).mono hk4
                        have hr18 := (hf8_24).frozen hk4 hk5
                        have hr19 := (hr13).mono hk4
                        have hr20 := (hr15).mono hk4
                        refine Pre.conv (L := [some (b1, .cells #[vv] 24 (0, 0)), some (b2, .cells #[.slice none 0 0] 24 (0, 0)), none, b_2e, some (b4, .cells #[b_2v] 68 (0, 0)), none, leavese, none, none, none, (some (b7, .cells #[.int .i64 n23] 3 (0, 0)))]) ?_ rfl rfl (by kernel_rfl)
                        intro xa xw hs hw
                        refine ⟨(K3, l5, v7, b_2, b_2v, b_2e), ⟨hs.sub (by kernel_rfl), hw.mask [true, true, false, true, true, false, true, false, false, false, false] (by kernel_rfl), ?_⟩, ?_⟩
                        · skip
                          refine ⟨(hk3).trans ((((Sub.refl _)).trans hk4)), hE3, hr18, hr20, ?_, ?_, ?_, ?_⟩
                          · show Tm.Lev b_2 l5 (Tm.totV values texts.length) (Tm.totV blinds texts.length)
                            exact hle
                          · show Tm.up texts.length (v ++ Tm.leavesN texts values blinds texts.length) (Tm.idsN v.length texts.length) = Tm.up l5.length b_2 l5
                            rw [hf13]; exact Tm.up_step (by omega) hpe
                          · show b_2.length + l5.length = v.length + 2 * texts.length
                            omega
                          · show 1 ≤ l5.length
                            omega
                        · show l5.length < level.length
                          omega
                      · skip
                        have hq15 := hq
                        replace hq15 := (iN hp16 iDF).1 hq15
                        refine W.skip (by kernel_rfl) ?_
                        refine At.then ?_
                        have hpe := Tm.pair_end hf17 (by omega)
                        have hle := Tm.lev_end hf16 (by omega)
                        refine W.regV (build_ct_r16_28 vv b1 b2 b4 leavesv leavese K2 levelv nextv nexte b_2v b_2e p16) [0, 1] [] (fun G => [nextv, nextv]) (by kernel_rfl) mo_tb (by kernel_rfl) (fun _ _ => by kernel_rfl) trivial (by kernel_rfl) ?_
                        intro G29 xa xw hDn
                        refine hDn.to [8, 10, 14, 16] [] (by kernel_rfl) ?_
                        clear hDn
                        refine Pre.conv (sl := [(8, .pointer (some ⟨b2, 0, none⟩)), (10, leavesv), (14, .pointer (some ⟨b4, 0, none⟩)), (16, nextv)]) (A := [K2]) (L := [some (b1, .cells #[vv] 24 (0, 0)), some (b2, .cells #[.slice none 0 0] 24 (0, 0)), none, b_2e, some (b4, .cells #[b_2v] 68 (0, 0)), none, leavese, none, none, nexte, none]) ?_ (by kernel_rfl) (by kernel_rfl) (by kernel_rfl)
                        clear G29
                        refine At.blockNormal ?_
                        refine Pre.freeze 9 (e := nexte) (by kernel_rfl) hE2 (fun K4 hk6 hk7 hE4 => ?_)
                        have hr21 := (hr12).mono hk6
                        have hr22 := (hr14).frozen hk6 hk7
                        have hr23 := (hr13).mono hk6
                        have hr24 := (hr15).mono hk6
                        refine Pre.conv (L := [some (b1, .cells #[vv] 24 (0, 0)), some (b2, .cells #[.slice none 0 0] 24 (0, 0)), none, b_2e, some (b4, .cells #[b_2v] 68 (0, 0)), none, leavese, none, none, none, none]) ?_ rfl rfl (by kernel_rfl)
                        intro xa xw hs hw
                        refine ⟨(K4, next, nextv, b_2, b_2v, b_2e), ⟨hs.sub (by kernel_rfl), hw.mask [true, true, false, true, true, false, true, false, false, false, false] (by kernel_rfl), ?_⟩, ?_⟩
                        · skip
                          refine ⟨(hk3).trans ((((Sub.refl _)).trans hk6)), hE4, hr22, hr24, ?_, ?_, ?_, ?_⟩
                          · show Tm.Lev b_2 next (Tm.totV values texts.length) (Tm.totV blinds texts.length)
                            exact hle
                          · show Tm.up texts.length (v ++ Tm.leavesN texts values blinds texts.length) (Tm.idsN v.length texts.length) = Tm.up next.length b_2 next
                            rw [hf13]; exact Tm.up_step (by omega) hpe
                          · show b_2.length + next.length = v.length + 2 * texts.length
                            omega
                          · show 1 ≤ next.length
                            omega
                        · show next.length < level.length
                          omega
                · skip
                  have hq16 := hq
                  replace hq16 := (iN hp14 iDF).1 hq16
                  refine W.exit 4 (by kernel_rfl) ?_
                  refine At.thenExit ?_
                  refine At.thenExit ?_
                  refine At.blockHit ?_
                  refine At.then ?_
                  refine W.seq (by kernel_rfl) ?_
                  obtain ⟨n24, hn24⟩ : ∃ zz : Int, zz = level.getD (0 : Int).toNat default := ⟨_, rfl⟩
                  refine W.regV (build_ct_r16_29 vv b1 b2 b4 leavesv leavese K2 levelv b_1v b_1e p14 n24) [0, 2, 5, 7, 8, 9] [1, 3, 4, 6] (fun G => [.pointer (some ⟨b4, 0, none⟩), levelv, leavesv, .int .i64 n24, leavesv, .int .i64 0]) (by kernel_rfl) mo_tb (by kernel_rfl) (fun _ _ => by kernel_rfl) ⟨?_, ?_, ?_, ?_, trivial⟩ (by kernel_rfl) ?_
                  · exact One.loadE (t := 24) (r := 4) (off := 0) (b := fun G => b4) (vs := fun G => [b_1v]) (arr := fun G => #[b_1v]) (T := 68) (fr := (0, 0)) (fun G => ⟨by kernel_rfl⟩) (fun G => by kernel_rfl)
                  · exact One.index (t := 26) (e := 3) (size := 1) (v := fun G => levelv) (k := .i64) (n := 0) (fun _ => ⟨by kernel_rfl⟩) (fun G w hs => ⟨_, (hr10).isSl, by first | omega | (simp only [List.length_append, List.length_cons, List.length_nil, List.length_replicate, List.length_set, List.length_take, List.length_drop, List.length_map, List.length_reverse, List.length_range]; omega), by first | omega | (simp only [List.length_append, List.length_cons, List.length_nil, List.length_replicate, List.length_set, List.length_take, List.length_drop, List.length_map, List.length_reverse, List.length_range]; omega)⟩)
                  · exact One.loadD (α := Int) (t := 3) (size := 1) (off := 0) (k := 0) (l := fun G => level) (x := fun G => n24) (vs := fun G => [.int .i64 n24]) (v := fun G => levelv) (H := fun G => K2) (p := fun G => elemAddr levelv ((0 : Int).toNat * 1)) (fun G => ⟨by kernel_rfl⟩) rfl (fun G => by kernel_rfl) (fun G w hs => ⟨(hs.read 0 rfl), hr10, (add_zero' _).symm, by omega, by first | omega | (simp only [List.length_append, List.length_cons, List.length_nil, List.length_replicate, List.length_set, List.length_take, List.length_drop, List.length_map, List.length_reverse, List.length_range]; omega), hn24⟩)
                  · exact One.storeX (t := 24) (r := 1) (off := 0) (T := 24) (b := fun G => b2) (u := fun G => .agg #[b_1v]) (vs := fun G => [b_1v]) (arr := fun G => #[.slice none 0 0]) (fun G => ⟨by kernel_rfl⟩) (fun G w hs => ⟨rfl, (all_cons1 (hr11).cell1 rfl)⟩)
                  intro G30 xa xw hDn
                  refine hDn.to [8, 9, 10, 11] [] (by kernel_rfl) ?_
                  clear hDn
                  refine Pre.conv (sl := [(8, .pointer (some ⟨b2, 0, none⟩)), (9, .int .i64 n24), (10, leavesv), (11, .int .i64 0)]) (A := [K2]) (L := [some (b1, .cells #[vv] 24 (0, 0)), some (b2, .cells #[b_1v] 24 (0, 0)), none, b_1e, some (b4, .cells #[b_1v] 68 (0, 0)), none, leavese, none, none, none, none]) ?_ (by kernel_rfl) (by kernel_rfl) (by kernel_rfl)
                  clear G30
                  refine At.then ?_
                  refine W.ret (by kernel_rfl) ?_
                  refine Pre.freeze 3 (e := b_1e) (by kernel_rfl) hE2 (fun K5 hk8 hk9 hE5 => ?_)
                  have hr25 := (hr12).mono hk8
                  have hr26 := (hr13).mono hk8
                  have hr27 := (hr11).frozen hk8 hk9
                  refine Pre.conv (L := [some (b1, .cells #[vv] 24 (0, 0)), some (b2, .cells #[b_1v] 24 (0, 0)), none, none, some (b4, .cells #[b_1v] 68 (0, 0)), none, leavese, none, none, none, none]) ?_ rfl rfl (by kernel_rfl)
                  refine Pre.freeze 6 (e := leavese) (by kernel_rfl) hE5 (fun K6 hk10 hk11 hE6 => ?_)
                  have hr28 := (hr25).frozen hk10 hk11
                  have hr29 := (hr26).mono hk10
                  have hr30 := (hr27).mono hk10
                  refine Pre.conv (L := [some (b1, .cells #[vv] 24 (0, 0)), some (b2, .cells #[b_1v] 24 (0, 0)), none, none, some (b4, .cells #[b_1v] 68 (0, 0)), none, none, none, none, none, none]) ?_ rfl rfl (by kernel_rfl)
                  refine At.results (Or.inl rfl) (.tuple #[.agg #[b_1v], .int .i64 n24, leavesv, .int .i64 0]) (fun xa xw hs hw => results_many (rs := [.cell 8 24, .tmp 9, .tmp 10, .tmp 11]) (vs := [.agg #[b_1v], .int .i64 n24, leavesv, .int .i64 0]) (by kernel_rfl) (by simp) ⟨res_cell (ty := 24) (r := 1) (b := b2) (off := 0) (arr := #[b_1v]) (T := 24) (vs := [b_1v]) hs hw (by kernel_rfl), res_tmp (t := 9) (by kernel_rfl) hs, res_tmp (t := 10) (by kernel_rfl) hs, res_tmp (t := 11) (by kernel_rfl) hs, trivial⟩) (fun w' hw => ?_)
                  have e0 : b_1 = (Tm.buildT v texts values blinds) := by
                    rw [hB.2.1]
                    unfold Tm.built; rw [hf13, Tm.up_one (by omega)]
                  have e1 : n24 = (Tm.buildR v texts values blinds) := by
                    rw [hB.2.2.1]
                    unfold Tm.built; rw [hf13, Tm.up_one (by omega)]; assumption
                  have e2 : leaves = (Tm.buildL v texts values blinds) := by
                    rw [hB.2.2.2]
                    rw [hf7]
                  have e3 : 0 = (Tm.buildE v texts values blinds) := by
                    rw [hB.1]
                  exact Makes.ret b_1v leavesv undef hA hE6 hw (fun N => cong2 (fun (x1 : Int) (x3 : Int) => (.tuple #[.agg #[b_1v], .int .i64 x1, leavesv, .int .i64 x3] : Value)) e1 e3) (fun N J hJ => ⟨(e0 ▸ (hr30).mono hJ), (e2 ▸ (hr28).mono hJ)⟩)

end Kb
