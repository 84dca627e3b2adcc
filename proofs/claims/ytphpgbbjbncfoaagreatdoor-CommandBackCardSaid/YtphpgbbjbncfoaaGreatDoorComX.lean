/-
  LAYER 42, THE LAWS' HELPERS: examples of the chapter: their values.
-/
import Derived.Test.YtphpgbbjbncfoaaGreatDoorCom13
namespace Go.Proofs.YtphpgbbjbncfoaaGreatDoor
set_option maxRecDepth 100000
theorem works0 : Cmd.printS ⟨1, 0, [], [49, 44, 45, 50]⟩ = [105, 110, 112, 117, 116, 32, 49, 44, 45, 50] ∧ Cmd.printE ⟨1, 0, [], [49, 44, 45, 50]⟩ = 0 := by decide +kernel
theorem works1 : Cmd.printS ⟨7, 3, [102], []⟩ = [98, 114, 101, 97, 107, 32, 102, 32, 51] ∧ Cmd.printE ⟨7, 3, [102], []⟩ = 0 := by decide +kernel
theorem works2 : Cmd.printS ⟨2, 0, [], [97, 10, 98]⟩ = [108, 111, 97, 100, 32, 97, 92, 110, 98] ∧ Cmd.printE ⟨2, 0, [], [97, 10, 98]⟩ = 0 := by decide +kernel
theorem works3 : parseS [108, 111, 97, 100, 32, 97, 92, 110, 98] = ⟨2, 0, [], [97, 10, 98]⟩ ∧ parseE [108, 111, 97, 100, 32, 97, 92, 110, 98] = 0 := by decide +kernel
theorem works4 : parseS [103, 111, 116, 111, 32, 49, 55] = ⟨10, 17, [], []⟩ ∧ parseE [103, 111, 116, 111, 32, 49, 55] = 0 := by decide +kernel
theorem works5 : parseS [103, 111, 116, 111, 32, 48, 49, 55] = ⟨0, 0, [], []⟩ ∧ parseE [103, 111, 116, 111, 32, 48, 49, 55] = 7 := by decide +kernel
theorem works6 : parseS [115, 116, 101, 112, 32] = ⟨0, 0, [], []⟩ ∧ parseE [115, 116, 101, 112, 32] = 7 := by decide +kernel
theorem works7 : parseS [98, 114, 101, 97, 107, 32, 108, 101, 110, 32, 49] = ⟨0, 0, [], []⟩ ∧ parseE [98, 114, 101, 97, 107, 32, 108, 101, 110, 32, 49] = 7 := by decide +kernel
theorem works8 : unqS [92, 120, 52, 49] = [] ∧ unqE [92, 120, 52, 49] = 7 := by decide +kernel
theorem works9 : allR [35, 32, 97, 10, 115, 116, 101, 112, 10, 10, 98, 97, 99, 107, 10] = ([⟨3, 0, [], []⟩, ⟨8, 0, [], []⟩], 0, 0) := by decide +kernel
theorem works10 : allR [115, 116, 101, 112, 10, 115, 116, 101] = ([], 2, 7) := by decide +kernel
theorem works11 : Cmd.quote [0, 9, 92, 255] = [92, 120, 48, 48, 92, 116, 92, 92, 92, 120, 102, 102] := by decide +kernel
end Go.Proofs.YtphpgbbjbncfoaaGreatDoor
