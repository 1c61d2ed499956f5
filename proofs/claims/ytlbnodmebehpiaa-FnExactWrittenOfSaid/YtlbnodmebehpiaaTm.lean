/-
  What marks write, over the data of this seat.
-/
import Derived.Test.YtlbnodmebehpiaaTy
import Derived.Test.YtlbnodmebehpiaaVw
import Derived.Test.YtlbnodmebehpiaaMtT
namespace Go.Proofs.Ytlbnodmebehpiaa
set_option linter.unusedVariables false
def mkI (_ : Int) (k : Nat) : Int := mI k
def mkB (_ : Bool) (k : Nat) : Bool := mB k
def mkS (_ : ByteArray) (k : Nat) : ByteArray := mkText k
abbrev c1 {α : Type} (_ : α) : Nat := 1
def ceStringS (e : List ByteArray) (j : Nat) : AV := .lst 1 e.length (fun i0 _ => .str (e.getD i0 ByteArray.empty))
def ceString (e : ByteArray) (j : Nat) : AV := .str e
def ceInt (e : Int) (j : Nat) : AV := .int .i64 e
def ceNote (e : GNote) (j : Nat) : AV := ([.bool e.back, .int .i64 e.what.who, .int .i64 e.what.no, .str e.what.text] : List AV).getD j (.con undef)
def mrTold (x : GTold) (k : Nat) : GTold := ⟨mkI x.who (k), mkI x.no (k + 1), mkS x.text (k + 1 + 1)⟩
def crTold (x : GTold) : Nat := 0 + 1 + 1 + 1
def mrNote (x : GNote) (k : Nat) : GNote := ⟨mkB x.back (k), mrTold x.what (k + 1)⟩
def crNote (x : GNote) : Nat := 0 + 1 + crTold (x.what)
def ceTold (e : GTold) (j : Nat) : AV := ([.int .i64 e.who, .int .i64 e.no, .str e.text] : List AV).getD j (.con undef)
def mvTell (x : GTell) (k : Nat) : GTell := ⟨(mkL (ctL c1) (mkL c1 mkS)) x.texts (k), (mkL c1 mkI) x.heard (k + ctL (ctL c1) (x.texts)), (mkL crNote mrNote) x.line (k + ctL (ctL c1) (x.texts) + ctL c1 (x.heard)), (mkL crTold mrTold) x.log (k + ctL (ctL c1) (x.texts) + ctL c1 (x.heard) + ctL crNote (x.line)), (mkL c1 mkI) x.next (k + ctL (ctL c1) (x.texts) + ctL c1 (x.heard) + ctL crNote (x.line) + ctL crTold (x.log))⟩
def cvTell (x : GTell) : Nat := 0 + ctL (ctL c1) (x.texts) + ctL c1 (x.heard) + ctL crNote (x.line) + ctL crTold (x.log) + ctL c1 (x.next)
def ceNode (e : GNode) (j : Nat) : AV := ([.int .i64 e.term, .int .i64 e.voted, .int .i64 e.age, .lst 1 e.heard.length (fun i0 _ => .int .i64 (e.heard.getD i0 0)), .int .i64 e.role] : List AV).getD j (.con undef)
def mrNode (x : GNode) (k : Nat) : GNode := ⟨mkI x.term (k), mkI x.voted (k + 1), mkI x.age (k + 1 + 1), (mkL c1 mkI) x.heard (k + 1 + 1 + 1), mkI x.role (k + 1 + 1 + 1 + ctL c1 (x.heard))⟩
def crNode (x : GNode) : Nat := 0 + 1 + 1 + 1 + ctL c1 (x.heard) + 1
def ceLetter (e : GLetter) (j : Nat) : AV := ([.int .i64 e.from_, .int .i64 e.to, .int .i64 e.term, .bool e.ask, .int .i64 e.age] : List AV).getD j (.con undef)
def mrLetter (x : GLetter) (k : Nat) : GLetter := ⟨mkI x.from_ (k), mkI x.to (k + 1), mkI x.term (k + 1 + 1), mkB x.ask (k + 1 + 1 + 1), mkI x.age (k + 1 + 1 + 1 + 1)⟩
def crLetter (x : GLetter) : Nat := 0 + 1 + 1 + 1 + 1 + 1
def ceIntS (e : List Int) (j : Nat) : AV := .lst 1 e.length (fun i0 _ => .int .i64 (e.getD i0 0))
def mvPoll (x : GPoll) (k : Nat) : GPoll := ⟨(mkL crNode mrNode) x.nodes (k), (mkL crLetter mrLetter) x.letters (k + ctL crNode (x.nodes)), (mkL (ctL c1) (mkL c1 mkI)) x.leaders (k + ctL crNode (x.nodes) + ctL crLetter (x.letters))⟩
def cvPoll (x : GPoll) : Nat := 0 + ctL crNode (x.nodes) + ctL crLetter (x.letters) + ctL (ctL c1) (x.leaders)
def ceBoolS (e : List Bool) (j : Nat) : AV := .lst 1 e.length (fun i0 _ => .bool (e.getD i0 false))
def ceBool (e : Bool) (j : Nat) : AV := .bool e
def mvBank (x : GBank) (k : Nat) : GBank := ⟨(mkL c1 mkI) x.cCoins (k), (mkL (ctL c1) (mkL c1 mkI)) x.cWays (k + ctL c1 (x.cCoins)), (mkL c1 mkI) x.cKept (k + ctL c1 (x.cCoins) + ctL (ctL c1) (x.cWays)), (mkL (ctL c1) (mkL c1 mkB)) x.cHeard (k + ctL c1 (x.cCoins) + ctL (ctL c1) (x.cWays) + ctL c1 (x.cKept)), (mkL (ctL c1) (mkL c1 mkI)) x.cFound (k + ctL c1 (x.cCoins) + ctL (ctL c1) (x.cWays) + ctL c1 (x.cKept) + ctL (ctL c1) (x.cHeard))⟩
def cvBank (x : GBank) : Nat := 0 + ctL c1 (x.cCoins) + ctL (ctL c1) (x.cWays) + ctL c1 (x.cKept) + ctL (ctL c1) (x.cHeard) + ctL (ctL c1) (x.cFound)
end Go.Proofs.Ytlbnodmebehpiaa
