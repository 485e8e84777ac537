/- The two tables: what 'rows' and 'table' give, as lists. -/
import Derived.WalkKit
import Derived.WalkSpells
import Derived.WalkLawsBesides
import Derived.WalkSmall
import Derived.Lib.Hide
import Derived.Deep.WholeRow
import Derived.Great.Walk
import Derived.Test.YtjihhojlakapnaaDoorProg
namespace Go.Proofs.YtjihhojlakapnaaDoor
open Go.RowKit
set_option linter.unusedVariables false
set_option linter.unusedSimpArgs false

/-- A row of 'rows': name, takes, lays, now, only. -/
abbrev Row := ByteArray × Int × Int × Bool × Bool
/-- A row of 'table': name, takes, lays, mark. -/
abbrev TRow := ByteArray × Int × Int × Int
noncomputable def rowL : List Row := [
  (⟨#[]⟩, 0, 0, false, false),
  (⟨#[69, 88, 73, 84]⟩, 0, 0, false, false),
  (⟨#[40, 108, 105, 116, 41]⟩, 0, 1, false, false),
  (⟨#[40, 98, 114, 97, 110, 99, 104, 41]⟩, 0, 0, false, false),
  (⟨#[40, 48, 98, 114, 97, 110, 99, 104, 41]⟩, 1, 0, false, false),
  (⟨#[40, 100, 111, 41]⟩, 2, 0, false, false),
  (⟨#[40, 108, 111, 111, 112, 41]⟩, 0, 0, false, false),
  (⟨#[40, 43, 108, 111, 111, 112, 41]⟩, 1, 0, false, false),
  (⟨#[40, 115, 34, 41]⟩, 0, 2, false, false),
  (⟨#[40, 46, 34, 41]⟩, 0, 0, false, false),
  (⟨#[40, 97, 98, 111, 114, 116, 34, 41]⟩, 1, 0, false, false),
  (⟨#[40, 100, 111, 101, 115, 41]⟩, 0, 0, false, false),
  (⟨#[69, 88, 69, 67, 85, 84, 69]⟩, 1, 0, false, false),
  (⟨#[68, 85, 80]⟩, 1, 2, false, false),
  (⟨#[68, 82, 79, 80]⟩, 1, 0, false, false),
  (⟨#[83, 87, 65, 80]⟩, 2, 2, false, false),
  (⟨#[79, 86, 69, 82]⟩, 2, 3, false, false),
  (⟨#[82, 79, 84]⟩, 3, 3, false, false),
  (⟨#[63, 68, 85, 80]⟩, 1, 2, false, false),
  (⟨#[50, 68, 85, 80]⟩, 2, 4, false, false),
  (⟨#[50, 68, 82, 79, 80]⟩, 2, 0, false, false),
  (⟨#[50, 83, 87, 65, 80]⟩, 4, 4, false, false),
  (⟨#[50, 79, 86, 69, 82]⟩, 4, 6, false, false),
  (⟨#[68, 69, 80, 84, 72]⟩, 0, 1, false, false),
  (⟨#[62, 82]⟩, 1, 0, false, false),
  (⟨#[82, 62]⟩, 0, 1, false, false),
  (⟨#[82, 64]⟩, 0, 1, false, false),
  (⟨#[43]⟩, 2, 1, false, false),
  (⟨#[45]⟩, 2, 1, false, false),
  (⟨#[42]⟩, 2, 1, false, false),
  (⟨#[47]⟩, 2, 1, false, false),
  (⟨#[77, 79, 68]⟩, 2, 1, false, false),
  (⟨#[47, 77, 79, 68]⟩, 2, 2, false, false),
  (⟨#[42, 47]⟩, 3, 1, false, false),
  (⟨#[42, 47, 77, 79, 68]⟩, 3, 2, false, false),
  (⟨#[78, 69, 71, 65, 84, 69]⟩, 1, 1, false, false),
  (⟨#[65, 66, 83]⟩, 1, 1, false, false),
  (⟨#[77, 73, 78]⟩, 2, 1, false, false),
  (⟨#[77, 65, 88]⟩, 2, 1, false, false),
  (⟨#[49, 43]⟩, 1, 1, false, false),
  (⟨#[49, 45]⟩, 1, 1, false, false),
  (⟨#[50, 42]⟩, 1, 1, false, false),
  (⟨#[50, 47]⟩, 1, 1, false, false),
  (⟨#[76, 83, 72, 73, 70, 84]⟩, 2, 1, false, false),
  (⟨#[82, 83, 72, 73, 70, 84]⟩, 2, 1, false, false),
  (⟨#[65, 78, 68]⟩, 2, 1, false, false),
  (⟨#[79, 82]⟩, 2, 1, false, false),
  (⟨#[88, 79, 82]⟩, 2, 1, false, false),
  (⟨#[73, 78, 86, 69, 82, 84]⟩, 1, 1, false, false),
  (⟨#[61]⟩, 2, 1, false, false),
  (⟨#[60]⟩, 2, 1, false, false),
  (⟨#[62]⟩, 2, 1, false, false),
  (⟨#[85, 60]⟩, 2, 1, false, false),
  (⟨#[48, 61]⟩, 1, 1, false, false),
  (⟨#[48, 60]⟩, 1, 1, false, false),
  (⟨#[77, 42]⟩, 2, 2, false, false),
  (⟨#[85, 77, 42]⟩, 2, 2, false, false),
  (⟨#[85, 77, 47, 77, 79, 68]⟩, 3, 2, false, false),
  (⟨#[83, 77, 47, 82, 69, 77]⟩, 3, 2, false, false),
  (⟨#[70, 77, 47, 77, 79, 68]⟩, 3, 2, false, false),
  (⟨#[83, 62, 68]⟩, 1, 2, false, false),
  (⟨#[64]⟩, 1, 1, false, false),
  (⟨#[33]⟩, 2, 0, false, false),
  (⟨#[67, 64]⟩, 1, 1, false, false),
  (⟨#[67, 33]⟩, 2, 0, false, false),
  (⟨#[43, 33]⟩, 2, 0, false, false),
  (⟨#[50, 64]⟩, 1, 2, false, false),
  (⟨#[50, 33]⟩, 3, 0, false, false),
  (⟨#[67, 69, 76, 76, 43]⟩, 1, 1, false, false),
  (⟨#[67, 69, 76, 76, 83]⟩, 1, 1, false, false),
  (⟨#[67, 72, 65, 82, 43]⟩, 1, 1, false, false),
  (⟨#[67, 72, 65, 82, 83]⟩, 1, 1, false, false),
  (⟨#[65, 76, 73, 71, 78]⟩, 0, 0, false, false),
  (⟨#[65, 76, 73, 71, 78, 69, 68]⟩, 1, 1, false, false),
  (⟨#[72, 69, 82, 69]⟩, 0, 1, false, false),
  (⟨#[65, 76, 76, 79, 84]⟩, 1, 0, false, false),
  (⟨#[44]⟩, 1, 0, false, false),
  (⟨#[67, 44]⟩, 1, 0, false, false),
  (⟨#[70, 73, 76, 76]⟩, 3, 0, false, false),
  (⟨#[77, 79, 86, 69]⟩, 3, 0, false, false),
  (⟨#[67, 79, 85, 78, 84]⟩, 1, 2, false, false),
  (⟨#[66, 65, 83, 69]⟩, 0, 1, false, false),
  (⟨#[83, 84, 65, 84, 69]⟩, 0, 1, false, false),
  (⟨#[68, 69, 67, 73, 77, 65, 76]⟩, 0, 0, false, false),
  (⟨#[72, 69, 88]⟩, 0, 0, false, false),
  (⟨#[69, 77, 73, 84]⟩, 1, 0, false, false),
  (⟨#[84, 89, 80, 69]⟩, 2, 0, false, false),
  (⟨#[46]⟩, 1, 0, false, false),
  (⟨#[85, 46]⟩, 1, 0, false, false),
  (⟨#[67, 82]⟩, 0, 0, false, false),
  (⟨#[83, 80, 65, 67, 69]⟩, 0, 0, false, false),
  (⟨#[83, 80, 65, 67, 69, 83]⟩, 1, 0, false, false),
  (⟨#[66, 76]⟩, 0, 1, false, false),
  (⟨#[73]⟩, 0, 1, false, false),
  (⟨#[74]⟩, 0, 1, false, false),
  (⟨#[85, 78, 76, 79, 79, 80]⟩, 0, 0, false, false),
  (⟨#[58]⟩, 0, 0, false, false),
  (⟨#[59]⟩, 0, 0, true, true),
  (⟨#[67, 82, 69, 65, 84, 69]⟩, 0, 0, false, false),
  (⟨#[86, 65, 82, 73, 65, 66, 76, 69]⟩, 0, 0, false, false),
  (⟨#[67, 79, 78, 83, 84, 65, 78, 84]⟩, 1, 0, false, false),
  (⟨#[68, 79, 69, 83, 62]⟩, 0, 0, true, true),
  (⟨#[73, 77, 77, 69, 68, 73, 65, 84, 69]⟩, 0, 0, false, false),
  (⟨#[39]⟩, 0, 1, false, false),
  (⟨#[91, 39, 93]⟩, 0, 0, true, true),
  (⟨#[76, 73, 84, 69, 82, 65, 76]⟩, 1, 0, true, true),
  (⟨#[80, 79, 83, 84, 80, 79, 78, 69]⟩, 0, 0, true, true),
  (⟨#[82, 69, 67, 85, 82, 83, 69]⟩, 0, 0, true, true),
  (⟨#[91]⟩, 0, 0, true, false),
  (⟨#[93]⟩, 0, 0, false, false),
  (⟨#[73, 70]⟩, 0, 1, true, true),
  (⟨#[69, 76, 83, 69]⟩, 1, 1, true, true),
  (⟨#[84, 72, 69, 78]⟩, 1, 0, true, true),
  (⟨#[66, 69, 71, 73, 78]⟩, 0, 1, true, true),
  (⟨#[85, 78, 84, 73, 76]⟩, 1, 0, true, true),
  (⟨#[87, 72, 73, 76, 69]⟩, 1, 2, true, true),
  (⟨#[82, 69, 80, 69, 65, 84]⟩, 2, 0, true, true),
  (⟨#[65, 71, 65, 73, 78]⟩, 1, 0, true, true),
  (⟨#[68, 79]⟩, 0, 1, true, true),
  (⟨#[76, 79, 79, 80]⟩, 1, 0, true, true),
  (⟨#[43, 76, 79, 79, 80]⟩, 1, 0, true, true),
  (⟨#[40]⟩, 0, 0, true, false),
  (⟨#[92]⟩, 0, 0, true, false),
  (⟨#[46, 34]⟩, 0, 0, true, false),
  (⟨#[83, 34]⟩, 0, 2, true, false),
  (⟨#[65, 66, 79, 82, 84]⟩, 0, 0, false, false),
  (⟨#[65, 66, 79, 82, 84, 34]⟩, 0, 0, true, true),
  (⟨#[84, 72, 82, 79, 87]⟩, 1, 0, false, false),
  (⟨#[67, 72, 65, 82]⟩, 0, 1, false, false),
  (⟨#[91, 67, 72, 65, 82, 93]⟩, 0, 0, true, true),
  (⟨#[62, 66, 79, 68, 89]⟩, 1, 1, false, false),
  (⟨#[67, 82, 69, 65, 84, 69, 45, 70, 73, 76, 69]⟩, 3, 2, false, false),
  (⟨#[79, 80, 69, 78, 45, 70, 73, 76, 69]⟩, 3, 2, false, false),
  (⟨#[67, 76, 79, 83, 69, 45, 70, 73, 76, 69]⟩, 1, 1, false, false),
  (⟨#[82, 69, 65, 68, 45, 70, 73, 76, 69]⟩, 3, 2, false, false),
  (⟨#[87, 82, 73, 84, 69, 45, 70, 73, 76, 69]⟩, 3, 1, false, false),
  (⟨#[70, 73, 76, 69, 45, 83, 73, 90, 69]⟩, 1, 3, false, false),
  (⟨#[82, 69, 83, 73, 90, 69, 45, 70, 73, 76, 69]⟩, 3, 1, false, false),
  (⟨#[68, 69, 76, 69, 84, 69, 45, 70, 73, 76, 69]⟩, 2, 1, false, false),
  (⟨#[82, 69, 78, 65, 77, 69, 45, 70, 73, 76, 69]⟩, 4, 1, false, false),
  (⟨#[70, 73, 76, 69, 45, 80, 79, 83, 73, 84, 73, 79, 78]⟩, 1, 3, false, false),
  (⟨#[82, 69, 80, 79, 83, 73, 84, 73, 79, 78, 45, 70, 73, 76, 69]⟩, 3, 1, false, false)]
noncomputable def tabL : List TRow := [
  (⟨#[69, 88, 73, 84]⟩, 0, 0, 0),
  (⟨#[40, 108, 105, 116, 41]⟩, 0, 1, 0),
  (⟨#[40, 98, 114, 97, 110, 99, 104, 41]⟩, 0, 0, 0),
  (⟨#[40, 48, 98, 114, 97, 110, 99, 104, 41]⟩, 1, 0, 0),
  (⟨#[40, 100, 111, 41]⟩, 2, 0, 0),
  (⟨#[40, 108, 111, 111, 112, 41]⟩, 0, 0, 0),
  (⟨#[40, 43, 108, 111, 111, 112, 41]⟩, 1, 0, 0),
  (⟨#[40, 115, 34, 41]⟩, 0, 2, 0),
  (⟨#[40, 46, 34, 41]⟩, 0, 0, 0),
  (⟨#[40, 97, 98, 111, 114, 116, 34, 41]⟩, 1, 0, 0),
  (⟨#[40, 100, 111, 101, 115, 41]⟩, 0, 0, 0),
  (⟨#[69, 88, 69, 67, 85, 84, 69]⟩, 1, 0, 0),
  (⟨#[68, 85, 80]⟩, 1, 2, 0),
  (⟨#[68, 82, 79, 80]⟩, 1, 0, 0),
  (⟨#[83, 87, 65, 80]⟩, 2, 2, 0),
  (⟨#[79, 86, 69, 82]⟩, 2, 3, 0),
  (⟨#[82, 79, 84]⟩, 3, 3, 0),
  (⟨#[63, 68, 85, 80]⟩, 1, 2, 0),
  (⟨#[50, 68, 85, 80]⟩, 2, 4, 0),
  (⟨#[50, 68, 82, 79, 80]⟩, 2, 0, 0),
  (⟨#[50, 83, 87, 65, 80]⟩, 4, 4, 0),
  (⟨#[50, 79, 86, 69, 82]⟩, 4, 6, 0),
  (⟨#[68, 69, 80, 84, 72]⟩, 0, 1, 0),
  (⟨#[62, 82]⟩, 1, 0, 0),
  (⟨#[82, 62]⟩, 0, 1, 0),
  (⟨#[82, 64]⟩, 0, 1, 0),
  (⟨#[43]⟩, 2, 1, 0),
  (⟨#[45]⟩, 2, 1, 0),
  (⟨#[42]⟩, 2, 1, 0),
  (⟨#[47]⟩, 2, 1, 0),
  (⟨#[77, 79, 68]⟩, 2, 1, 0),
  (⟨#[47, 77, 79, 68]⟩, 2, 2, 0),
  (⟨#[42, 47]⟩, 3, 1, 0),
  (⟨#[42, 47, 77, 79, 68]⟩, 3, 2, 0),
  (⟨#[78, 69, 71, 65, 84, 69]⟩, 1, 1, 0),
  (⟨#[65, 66, 83]⟩, 1, 1, 0),
  (⟨#[77, 73, 78]⟩, 2, 1, 0),
  (⟨#[77, 65, 88]⟩, 2, 1, 0),
  (⟨#[49, 43]⟩, 1, 1, 0),
  (⟨#[49, 45]⟩, 1, 1, 0),
  (⟨#[50, 42]⟩, 1, 1, 0),
  (⟨#[50, 47]⟩, 1, 1, 0),
  (⟨#[76, 83, 72, 73, 70, 84]⟩, 2, 1, 0),
  (⟨#[82, 83, 72, 73, 70, 84]⟩, 2, 1, 0),
  (⟨#[65, 78, 68]⟩, 2, 1, 0),
  (⟨#[79, 82]⟩, 2, 1, 0),
  (⟨#[88, 79, 82]⟩, 2, 1, 0),
  (⟨#[73, 78, 86, 69, 82, 84]⟩, 1, 1, 0),
  (⟨#[61]⟩, 2, 1, 0),
  (⟨#[60]⟩, 2, 1, 0),
  (⟨#[62]⟩, 2, 1, 0),
  (⟨#[85, 60]⟩, 2, 1, 0),
  (⟨#[48, 61]⟩, 1, 1, 0),
  (⟨#[48, 60]⟩, 1, 1, 0),
  (⟨#[77, 42]⟩, 2, 2, 0),
  (⟨#[85, 77, 42]⟩, 2, 2, 0),
  (⟨#[85, 77, 47, 77, 79, 68]⟩, 3, 2, 0),
  (⟨#[83, 77, 47, 82, 69, 77]⟩, 3, 2, 0),
  (⟨#[70, 77, 47, 77, 79, 68]⟩, 3, 2, 0),
  (⟨#[83, 62, 68]⟩, 1, 2, 0),
  (⟨#[64]⟩, 1, 1, 0),
  (⟨#[33]⟩, 2, 0, 0),
  (⟨#[67, 64]⟩, 1, 1, 0),
  (⟨#[67, 33]⟩, 2, 0, 0),
  (⟨#[43, 33]⟩, 2, 0, 0),
  (⟨#[50, 64]⟩, 1, 2, 0),
  (⟨#[50, 33]⟩, 3, 0, 0),
  (⟨#[67, 69, 76, 76, 43]⟩, 1, 1, 0),
  (⟨#[67, 69, 76, 76, 83]⟩, 1, 1, 0),
  (⟨#[67, 72, 65, 82, 43]⟩, 1, 1, 0),
  (⟨#[67, 72, 65, 82, 83]⟩, 1, 1, 0),
  (⟨#[65, 76, 73, 71, 78]⟩, 0, 0, 0),
  (⟨#[65, 76, 73, 71, 78, 69, 68]⟩, 1, 1, 0),
  (⟨#[72, 69, 82, 69]⟩, 0, 1, 0),
  (⟨#[65, 76, 76, 79, 84]⟩, 1, 0, 0),
  (⟨#[44]⟩, 1, 0, 0),
  (⟨#[67, 44]⟩, 1, 0, 0),
  (⟨#[70, 73, 76, 76]⟩, 3, 0, 0),
  (⟨#[77, 79, 86, 69]⟩, 3, 0, 0),
  (⟨#[67, 79, 85, 78, 84]⟩, 1, 2, 0),
  (⟨#[66, 65, 83, 69]⟩, 0, 1, 0),
  (⟨#[83, 84, 65, 84, 69]⟩, 0, 1, 0),
  (⟨#[68, 69, 67, 73, 77, 65, 76]⟩, 0, 0, 0),
  (⟨#[72, 69, 88]⟩, 0, 0, 0),
  (⟨#[69, 77, 73, 84]⟩, 1, 0, 0),
  (⟨#[84, 89, 80, 69]⟩, 2, 0, 0),
  (⟨#[46]⟩, 1, 0, 0),
  (⟨#[85, 46]⟩, 1, 0, 0),
  (⟨#[67, 82]⟩, 0, 0, 0),
  (⟨#[83, 80, 65, 67, 69]⟩, 0, 0, 0),
  (⟨#[83, 80, 65, 67, 69, 83]⟩, 1, 0, 0),
  (⟨#[66, 76]⟩, 0, 1, 0),
  (⟨#[73]⟩, 0, 1, 0),
  (⟨#[74]⟩, 0, 1, 0),
  (⟨#[85, 78, 76, 79, 79, 80]⟩, 0, 0, 0),
  (⟨#[58]⟩, 0, 0, 0),
  (⟨#[59]⟩, 0, 0, 2),
  (⟨#[67, 82, 69, 65, 84, 69]⟩, 0, 0, 0),
  (⟨#[86, 65, 82, 73, 65, 66, 76, 69]⟩, 0, 0, 0),
  (⟨#[67, 79, 78, 83, 84, 65, 78, 84]⟩, 1, 0, 0),
  (⟨#[68, 79, 69, 83, 62]⟩, 0, 0, 2),
  (⟨#[73, 77, 77, 69, 68, 73, 65, 84, 69]⟩, 0, 0, 0),
  (⟨#[39]⟩, 0, 1, 0),
  (⟨#[91, 39, 93]⟩, 0, 0, 2),
  (⟨#[76, 73, 84, 69, 82, 65, 76]⟩, 1, 0, 2),
  (⟨#[80, 79, 83, 84, 80, 79, 78, 69]⟩, 0, 0, 2),
  (⟨#[82, 69, 67, 85, 82, 83, 69]⟩, 0, 0, 2),
  (⟨#[91]⟩, 0, 0, 1),
  (⟨#[93]⟩, 0, 0, 0),
  (⟨#[73, 70]⟩, 0, 1, 2),
  (⟨#[69, 76, 83, 69]⟩, 1, 1, 2),
  (⟨#[84, 72, 69, 78]⟩, 1, 0, 2),
  (⟨#[66, 69, 71, 73, 78]⟩, 0, 1, 2),
  (⟨#[85, 78, 84, 73, 76]⟩, 1, 0, 2),
  (⟨#[87, 72, 73, 76, 69]⟩, 1, 2, 2),
  (⟨#[82, 69, 80, 69, 65, 84]⟩, 2, 0, 2),
  (⟨#[65, 71, 65, 73, 78]⟩, 1, 0, 2),
  (⟨#[68, 79]⟩, 0, 1, 2),
  (⟨#[76, 79, 79, 80]⟩, 1, 0, 2),
  (⟨#[43, 76, 79, 79, 80]⟩, 1, 0, 2),
  (⟨#[40]⟩, 0, 0, 1),
  (⟨#[92]⟩, 0, 0, 1),
  (⟨#[46, 34]⟩, 0, 0, 1),
  (⟨#[83, 34]⟩, 0, 2, 1),
  (⟨#[65, 66, 79, 82, 84]⟩, 0, 0, 0),
  (⟨#[65, 66, 79, 82, 84, 34]⟩, 0, 0, 2),
  (⟨#[84, 72, 82, 79, 87]⟩, 1, 0, 0),
  (⟨#[67, 72, 65, 82]⟩, 0, 1, 0),
  (⟨#[91, 67, 72, 65, 82, 93]⟩, 0, 0, 2),
  (⟨#[62, 66, 79, 68, 89]⟩, 1, 1, 0),
  (⟨#[67, 82, 69, 65, 84, 69, 45, 70, 73, 76, 69]⟩, 3, 2, 0),
  (⟨#[79, 80, 69, 78, 45, 70, 73, 76, 69]⟩, 3, 2, 0),
  (⟨#[67, 76, 79, 83, 69, 45, 70, 73, 76, 69]⟩, 1, 1, 0),
  (⟨#[82, 69, 65, 68, 45, 70, 73, 76, 69]⟩, 3, 2, 0),
  (⟨#[87, 82, 73, 84, 69, 45, 70, 73, 76, 69]⟩, 3, 1, 0),
  (⟨#[70, 73, 76, 69, 45, 83, 73, 90, 69]⟩, 1, 3, 0),
  (⟨#[82, 69, 83, 73, 90, 69, 45, 70, 73, 76, 69]⟩, 3, 1, 0),
  (⟨#[68, 69, 76, 69, 84, 69, 45, 70, 73, 76, 69]⟩, 2, 1, 0),
  (⟨#[82, 69, 78, 65, 77, 69, 45, 70, 73, 76, 69]⟩, 4, 1, 0),
  (⟨#[70, 73, 76, 69, 45, 80, 79, 83, 73, 84, 73, 79, 78]⟩, 1, 3, 0),
  (⟨#[82, 69, 80, 79, 83, 73, 84, 73, 79, 78, 45, 70, 73, 76, 69]⟩, 3, 1, 0)]
def cellsR (r : Row) : List Value := [.string r.1, .int .i64 r.2.1, .int .i64 r.2.2.1, .bool r.2.2.2.1, .bool r.2.2.2.2]
def cellsT (r : TRow) : List Value := [.string r.1, .int .i64 r.2.1, .int .i64 r.2.2.1, .int .i64 r.2.2.2]
noncomputable def cells19 : Array Value := (rowL.flatMap cellsR).toArray
noncomputable def cells20 : Array Value := (tabL.flatMap cellsT).toArray

/-- What builds of constants, one behind the other, leave in a frame. -/
noncomputable def buildAll (P : Program) : List Oper → Act → Option Act
  | [], a => some a
  | o :: rest, a =>
    match o.guard, o.op with
    | none, .build t parts =>
      match P.built t (parts.map fun (i, x) => (i, a.eval x)).toList with
      | some cells => buildAll P rest (a.put o.dst (.agg cells))
      | none => none
    | _, _ => none
theorem wpList_buildAll {P : Program} {ops : Array Oper} {Q : Exit → Act → World → Prop} {rest : List Oper} {w : World} {a' : Act} : ∀ (l : List Oper) (a : Act), buildAll P l a = some a' → wpList P ops Q rest a' w → wpList P ops Q (l ++ rest) a w
  | [], a, h, hk => by cases h; exact hk
  | o :: l, a, h, hk => by
    unfold buildAll at h
    split at h
    · rename_i t parts hg ho
      split at h
      · rename_i cells hc
        refine wpList_build hg t parts ho (by rw [hc]; rfl) ?_
        rw [hc]
        exact wpList_buildAll l _ h hk
      · cases h
    · cases h
noncomputable def opsOf (f : Func) (n : Nat) : List Oper :=
  match n, f.body with
  | 1, some (.seq _ (.seq (.region _ ops _) _)) => ops.toList
  | _, _ => []

noncomputable def ops19 : List Oper := opsOf Tryd.f43 1
noncomputable def ops20 : List Oper := opsOf Tryd.f46 1
theorem region_builds {P : Program} {id : Nat} {opsA : Array Oper} {l rest : List Oper} {Q : Exit → Act → World → Prop} {a a' : Act} {w : World} (hl : opsA.toList = l ++ rest) (h : buildAll P l a = some a')
    (hk : wpList P opsA Q rest a' w) : (Code.region id opsA false).wp P Q a w := wp_region_list (by rw [hl]; exact wpList_buildAll l a h hk)
/-- The frames ahead of the builds. -/
noncomputable def fr19 (p : Value) : Act := { tmps := #[p, undef, undef, undef, undef, undef, undef, undef, undef, undef, undef, undef, undef, undef, undef, undef, undef, undef, undef, undef, undef, undef, undef, undef, undef, undef, undef, undef, undef, undef, undef, undef, undef, undef, undef, undef, undef, undef, undef, undef, undef, undef, undef, undef, undef, undef, undef, undef, undef, undef, undef, undef, undef, undef, undef, undef, undef, undef, undef, undef, undef, undef, undef, undef, undef, undef, undef, undef, undef, undef, undef, undef, undef, undef, undef, undef, undef, undef, undef, undef, undef, undef, undef, undef, undef, undef, undef, undef, undef, undef, undef, undef, undef, undef, undef, undef, undef, undef, undef, undef, undef, undef, undef, undef, undef, undef, undef, undef, undef, undef, undef, undef, undef, undef, undef, undef, undef, undef, undef, undef, undef, undef, undef, undef, undef, undef, undef, undef, undef, undef, undef, undef, undef, undef, undef, undef, undef, undef, undef, undef, undef, undef, undef, undef], defers := [] }
noncomputable def fr20 (p : Value) : Act := { tmps := #[p, undef, undef, undef, undef, undef, undef, undef, undef, undef, undef, undef, undef, undef, undef, undef, undef, undef, undef, undef, undef, undef, undef, undef, undef, undef, undef, undef, undef, undef, undef, undef, undef, undef, undef, undef, undef, undef, undef, undef, undef, undef, undef, undef, undef, undef, undef, undef, undef, undef, undef, undef, undef, undef, undef, undef, undef, undef, undef, undef, undef, undef, undef, undef, undef, undef, undef, undef, undef, undef, undef, undef, undef, undef, undef, undef, undef, undef, undef, undef, undef, undef, undef, undef, undef, undef, undef, undef, undef, undef, undef, undef, undef, undef, undef, undef, undef, undef, undef, undef, undef, undef, undef, undef, undef, undef, undef, undef, undef, undef, undef, undef, undef, undef, undef, undef, undef, undef, undef, undef, undef, undef, undef, undef, undef, undef, undef, undef, undef, undef, undef, undef, undef, undef, undef, undef, undef, undef, undef, undef, undef, undef, undef], defers := [] }
noncomputable def zero39 : Array Value := match (Tryd.prog.info? 80).bind (·.zero) with | some (.agg c) => c | _ => #[]
noncomputable def st19 : Oper := ops19.getD 143 default
noncomputable def bs20 : Oper := ops20.getD 141 default
noncomputable def as20 : Oper := ops20.getD 142 default
noncomputable def parts20 : Array (Nat × Operand) := match bs20.op with | .buildSlice _ _ p => p | _ => #[]
theorem info39 : (Tryd.prog.info? 80).map (fun i => (i.zero, i.size)) = some (some (.agg zero39), 710) := by kernel_rfl
theorem zero39_size : zero39.size = 710 := by kernel_rfl
theorem cells19_size : cells19.size = 710 := by kernel_rfl
theorem cells19_one : cells19.all (·.oneCell') = true := by kernel_rfl
theorem cells20_size : cells20.size = 564 := by kernel_rfl
end Go.Proofs.YtjihhojlakapnaaDoor
