/-
  The data of this seat.
-/
import Derived.Test.YtlbnodmebehpiaaVk
namespace Go.Proofs.Ytlbnodmebehpiaa
structure GTold where
  who : Int
  no : Int
  text : ByteArray
  deriving DecidableEq, Inhabited
abbrev wtTold (x : GTold) : Nat := x.text.size
structure GNote where
  back : Bool
  what : GTold
  deriving DecidableEq, Inhabited
abbrev wtNote (x : GNote) : Nat := wtTold x.what
structure GTell where
  texts : List (List ByteArray)
  heard : List Int
  line : List GNote
  log : List GTold
  next : List Int
  deriving DecidableEq, Inhabited
abbrev wtTell (x : GTell) : Nat := (wtl (wtl ByteArray.size) x.texts) + (x.heard.length + ((wtl wtNote x.line) + ((wtl wtTold x.log) + x.next.length)))
structure GBank where
  cCoins : List Int
  cWays : List (List Int)
  cKept : List Int
  cHeard : List (List Bool)
  cFound : List (List Int)
  deriving DecidableEq, Inhabited
abbrev wtBank (x : GBank) : Nat := x.cCoins.length + ((wtl (@List.length Int) x.cWays) + (x.cKept.length + ((wtl (@List.length Bool) x.cHeard) + (wtl (@List.length Int) x.cFound))))
structure GNode where
  term : Int
  voted : Int
  age : Int
  heard : List Int
  role : Int
  deriving DecidableEq, Inhabited
abbrev wtNode (x : GNode) : Nat := x.heard.length
structure GLetter where
  from_ : Int
  to : Int
  term : Int
  ask : Bool
  age : Int
  deriving DecidableEq, Inhabited
structure GPoll where
  nodes : List GNode
  letters : List GLetter
  leaders : List (List Int)
  deriving DecidableEq, Inhabited
abbrev wtPoll (x : GPoll) : Nat := (wtl wtNode x.nodes) + (x.letters.length + (wtl (@List.length Int) x.leaders))
end Go.Proofs.Ytlbnodmebehpiaa
