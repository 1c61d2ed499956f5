/-
  The data of this seat.
-/
import Derived.Test.YtmfkmifkkplidaaVm
namespace Go.Proofs.Ytmfkmifkkplidaa
structure GSample where
  at_ : Int
  value : Int
  deriving DecidableEq, Inhabited
structure GRow where
  name : ByteArray
  samples : List GSample
  deriving DecidableEq, Inhabited
abbrev wtRow (x : GRow) : Nat := x.name.size + x.samples.length
structure GHead where
  rows : List GRow
  offset : Int
  deriving DecidableEq, Inhabited
abbrev wtHead (x : GHead) : Nat := wtl wtRow x.rows
structure GSay where
  name : ByteArray
  at_ : Int
  value : Int
  deriving DecidableEq, Inhabited
abbrev wtSay (x : GSay) : Nat := x.name.size
end Go.Proofs.Ytmfkmifkkplidaa
