/- The program's structs as plain Lean data, and the cells in which they lie. -/
import Derived.Test.YtmmpcchjalgokaaGreatDoorBase
namespace Go.Proofs.YtmmpcchjalgokaaGreatDoor
set_option linter.unusedVariables false
set_option linter.unusedSimpArgs false
structure Rn where
  id : Int
  name : ByteArray
  club : ByteArray
  born : Int
  woman : Bool
  card : Int
instance : Inhabited Rn := ⟨⟨0, ByteArray.empty, ByteArray.empty, 0, false, 0⟩⟩
def Rn.cells (r : Rn) : List Value := [.int .i64 r.id, .string r.name, .string r.club, .int .i64 r.born, .bool r.woman, .int .i64 r.card]
structure Ft where
  code : Int
  which : ByteArray
  what : ByteArray
  look : ByteArray
  side : ByteArray
instance : Inhabited Ft := ⟨⟨0, ByteArray.empty, ByteArray.empty, ByteArray.empty, ByteArray.empty⟩⟩
def Ft.cells (f : Ft) : List Value := [.int .i64 f.code, .string f.which, .string f.what, .string f.look, .string f.side]
structure Ct where
  code : Int
  cell : Int
instance : Inhabited Ct := ⟨⟨0, 0⟩⟩
def Ct.cells (c : Ct) : List Value := [.int .i64 c.code, .int .i64 c.cell]
end Go.Proofs.YtmmpcchjalgokaaGreatDoor
