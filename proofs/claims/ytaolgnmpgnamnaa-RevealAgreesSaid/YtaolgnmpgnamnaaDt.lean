/- The data of this program. -/
import Derived.Test.YtaolgnmpgnamnaaKf
namespace Kb
open Go
structure DThing where
  Text : ByteArray := ByteArray.empty
  Value : Int := 0
  Blind : Int := 0
  Left : Int := 0
  Right : Int := 0
instance : Dat DThing where
  default := {}
  size := 5
  cells x := Dat.cells x.Text ++ Dat.cells x.Value ++ Dat.cells x.Blind ++ Dat.cells x.Left ++ Dat.cells x.Right
  good H x := True
  len _ := rfl
  one H x h u hu := by
    simp only [List.mem_append] at hu
    rcases hu with (((hu | hu) | hu) | hu) | hu
    · exact Dat.one H x.Text trivial u hu
    · exact Dat.one H x.Value trivial u hu
    · exact Dat.one H x.Blind trivial u hu
    · exact Dat.one H x.Left trivial u hu
    · exact Dat.one H x.Right trivial u hu
  mono _ _ _ _ h := h
  zero _ := trivial
structure DVault where
  Things : Fat DThing := {}
instance : Dat DVault where
  default := {}
  size := 1
  cells x := Dat.cells x.Things
  good H x := Dat.good H x.Things
  len _ := rfl
  one H x h u hu := by
    exact Dat.one H x.Things h u hu
  q x := Dat.q x.Things
  hq H x h := Dat.hq H _ h
  mono _ _ _ k h := Dat.mono _ _ _ k h
  zero H := Dat.zero H
structure Dbuilder where
  Vault : DVault := default
instance : Dat Dbuilder where
  default := {}
  size := 1
  cells x := Dat.cells x.Vault
  good H x := Dat.good H x.Vault
  len x := by simp [Dat.len]; rfl
  one H x h u hu := by
    exact Dat.one H x.Vault h u hu
  q x := Dat.q x.Vault
  hq H x h := Dat.hq H _ h
  mono _ _ _ k h := Dat.mono _ _ _ k h
  zero H := Dat.zero H
end Kb
