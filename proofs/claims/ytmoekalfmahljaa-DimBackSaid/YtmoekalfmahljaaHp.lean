/- Contracts out of what is known of a call. No program in sight. -/
import Derived.Test.YtmoekalfmahljaaHo
set_option linter.unusedVariables false
set_option linter.unusedSectionVars false
set_option linter.unusedSimpArgs false
namespace Kb
open Go
/-- a call that only computes, its run known -/
theorem Cp.of {P : Program} {f : FuncId} {args : Array Value} {F : List FP} {v : Value} (h : ∀ (w : World) (H : Heaplet), Agrees w H → (∀ q ∈ F, q.p H) → Calls P f args w fun e w' => e = .returned v ∧ Base [] w w') : Cp P f args F v := fun w H ε hA hF _ _ =>
  (h w H hA hF).mono fun e w' ⟨he, hb⟩ => ⟨{}, { ret := he, base := hb, agr := agrees_none, new := new_none, facts := (fun f hf => by cases hf), ent := (fun k b o h => by simp [ents] at h), dis := (fun k l b o o' h _ => by simp [ents] at h), own := (fun k x h => by simp at h), pu := trivial }⟩
/-- a slice of plain cells, as another hand says it -/
theorem cells_at {α : Type} [Dat α] {w : World} {H : Heaplet} {l : List α} {s : SV} (hA : Agrees w H) (h : RSl H l s.v) (hs : Dat.size α = 1) {enc : α → Value} (he : ∀ x, Dat.cells x = [enc x]) (hne : l ≠ []) :
    ∃ bk o c, s.v = .slice (some ⟨bk, o, none⟩) l.length c ∧ bk < w.heap.size ∧ l.length ≤ c ∧ ∀ (j : Nat) (x : α), l[j]? = some x → w.cell? ⟨bk, o + j, none⟩ = some (enc x) := by
  obtain ⟨a, c, e, h1, h2, h3, h4⟩ := h.sl.val
  rw [rows_length] at e h1
  have hr : rows l ≠ [] := fun e => hne (by simpa [rows] using e)
  cases a with
  | none => exact absurd (h3 rfl).1 hr
  | some a =>
    obtain ⟨hsp, cs, T, fr, hb, hc⟩ := h4 a rfl hr
    obtain ⟨blk, off, spot⟩ := a
    simp only at hsp
    subst hsp
    have hw := hA _ _ hb
    refine ⟨blk, off, c, e, RC.heap_lt hw, h1, fun j x hj => ?_⟩
    have hf : (rows l).flatten[j]? = some (enc x) := by
      have e1 : rows l = l.map fun x => [enc x] := by unfold rows; exact List.map_congr_left fun x _ => he x
      have e2 : (rows l).flatten = l.map enc := by
        have e3 : ∀ m : List α, (m.map fun x => [enc x]).flatten = m.map enc := fun m => by
          induction m with
          | nil => rfl
          | cons a m ih => rw [List.map_cons, List.flatten_cons, ih]; rfl
        rw [e1]; exact e3 l
      rw [e2, List.getElem?_map, hj]; rfl
    have := hc j _ hf
    simp [World.cell?, hw]
    exact this
end Kb
