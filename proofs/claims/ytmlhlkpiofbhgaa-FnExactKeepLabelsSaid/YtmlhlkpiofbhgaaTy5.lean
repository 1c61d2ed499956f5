/-
  The data of this seat.
-/
import Derived.Test.YtmlhlkpiofbhgaaVl
namespace Go.Proofs.Ytmlhlkpiofbhgaa
structure GEntry where
  epoch : Int
  text : ByteArray
  deriving DecidableEq, Inhabited
abbrev wtEntry (x : GEntry) : Nat := x.text.size
structure GRepl where
  logs : List (List GEntry)
  down : List Bool
  leader : Int
  epoch : Int
  inSync : List Int
  certain : List GEntry
  deriving DecidableEq, Inhabited
abbrev wtRepl (x : GRepl) : Nat := (wtl (wtl wtEntry) x.logs) + (x.down.length + (x.inSync.length + (wtl wtEntry x.certain)))
structure GLabel where
  lname : ByteArray
  lvalue : ByteArray
  deriving DecidableEq, Inhabited
abbrev wtLabel (x : GLabel) : Nat := x.lname.size + x.lvalue.size
structure GItem where
  labels : List GLabel
  value : Int
  deriving DecidableEq, Inhabited
abbrev wtItem (x : GItem) : Nat := wtl wtLabel x.labels
structure GTotal where
  labels : List GLabel
  sum : Int
  count : Int
  least : Int
  most : Int
  deriving DecidableEq, Inhabited
abbrev wtTotal (x : GTotal) : Nat := wtl wtLabel x.labels
end Go.Proofs.Ytmlhlkpiofbhgaa
