/-
  What marks write, over the data of this seat.
-/
import Derived.Test.YtmfkmifkkplidaaTy6
import Derived.Test.YtmfkmifkkplidaaVw
import Derived.Test.YtmfkmifkkplidaaMtT
namespace Go.Proofs.Ytmfkmifkkplidaa
set_option linter.unusedVariables false
def mkI (_ : Int) (k : Nat) : Int := mI k
def mkB (_ : Bool) (k : Nat) : Bool := mB k
def mkS (_ : ByteArray) (k : Nat) : ByteArray := mkText k
abbrev c1 {α : Type} (_ : α) : Nat := 1
def ceRow (e : GRow) (j : Nat) : AV := ([.str e.name, .lst 2 e.samples.length (fun i0 j0 => ([.int .i64 ((e.samples.getD i0 (default : GSample)).at_), .int .i64 ((e.samples.getD i0 (default : GSample)).value)] : List AV).getD j0 (.con undef))] : List AV).getD j (.con undef)
def ceSample (e : GSample) (j : Nat) : AV := ([.int .i64 e.at_, .int .i64 e.value] : List AV).getD j (.con undef)
def mrSample (x : GSample) (k : Nat) : GSample := ⟨mkI x.at_ (k), mkI x.value (k + 1)⟩
def crSample (x : GSample) : Nat := 0 + 1 + 1
def mrRow (x : GRow) (k : Nat) : GRow := ⟨mkS x.name (k), (mkL crSample mrSample) x.samples (k + 1)⟩
def crRow (x : GRow) : Nat := 0 + 1 + ctL crSample (x.samples)
def mvHead (x : GHead) (k : Nat) : GHead := ⟨(mkL crRow mrRow) x.rows (k), x.offset⟩
def cvHead (x : GHead) : Nat := 0 + ctL crRow (x.rows)
def ceInt (e : Int) (j : Nat) : AV := .int .i64 e
end Go.Proofs.Ytmfkmifkkplidaa
