/-
  What marks write, over the data of this seat.
-/
import Derived.Test.YtmlhlkpiofbhgaaTy5
import Derived.Test.YtmlhlkpiofbhgaaVw
import Derived.Test.YtmlhlkpiofbhgaaMtT
namespace Go.Proofs.Ytmlhlkpiofbhgaa
set_option linter.unusedVariables false
def mkI (_ : Int) (k : Nat) : Int := mI k
def mkB (_ : Bool) (k : Nat) : Bool := mB k
def mkS (_ : ByteArray) (k : Nat) : ByteArray := mkText k
abbrev c1 {α : Type} (_ : α) : Nat := 1
def ceLabel (e : GLabel) (j : Nat) : AV := ([.str e.lname, .str e.lvalue] : List AV).getD j (.con undef)
def mrLabel (x : GLabel) (k : Nat) : GLabel := ⟨mkS x.lname (k), mkS x.lvalue (k + 1)⟩
def crLabel (x : GLabel) : Nat := 0 + 1 + 1
def ceString (e : ByteArray) (j : Nat) : AV := .str e
def ceEntryS (e : List GEntry) (j : Nat) : AV := .lst 2 e.length (fun i0 j0 => ([.int .i64 ((e.getD i0 (default : GEntry)).epoch), .str ((e.getD i0 (default : GEntry)).text)] : List AV).getD j0 (.con undef))
def ceEntry (e : GEntry) (j : Nat) : AV := ([.int .i64 e.epoch, .str e.text] : List AV).getD j (.con undef)
def mrEntry (x : GEntry) (k : Nat) : GEntry := ⟨mkI x.epoch (k), mkS x.text (k + 1)⟩
def crEntry (x : GEntry) : Nat := 0 + 1 + 1
def ceBool (e : Bool) (j : Nat) : AV := .bool e
def ceInt (e : Int) (j : Nat) : AV := .int .i64 e
def mvRepl (x : GRepl) (k : Nat) : GRepl := ⟨(mkL (ctL crEntry) (mkL crEntry mrEntry)) x.logs (k), (mkL c1 mkB) x.down (k + ctL (ctL crEntry) (x.logs)), x.leader, x.epoch, (mkL c1 mkI) x.inSync (k + ctL (ctL crEntry) (x.logs) + ctL c1 (x.down)), (mkL crEntry mrEntry) x.certain (k + ctL (ctL crEntry) (x.logs) + ctL c1 (x.down) + ctL c1 (x.inSync))⟩
def cvRepl (x : GRepl) : Nat := 0 + ctL (ctL crEntry) (x.logs) + ctL c1 (x.down) + ctL c1 (x.inSync) + ctL crEntry (x.certain)
end Go.Proofs.Ytmlhlkpiofbhgaa
