/-
  No cell of these rows narrows 'for every input' (looked for: loops, veiled, ifaces, maps, wideKeys, modest, calm, conditions, laid).
  DERIVED. THE GIVEN ROWS OF THIS SEAT. 3 by the template 'for every input the law returns true; each argument reads behind the call as it read before'; 0 by the template 'total and deterministic' (their statements: YtonfeiloekofdaaTotals.lean).
  GIVEN WITH THE SEED: the statements are not yours to turn. If you find one false, say at which input.
  Laid BY PROGRAM, IN A SANDBOX (cutbox-rows.mjs): the forced cells as the released guide's own fill.sh prints them over the translation ac2ab5f423ff7353… (all of the seat's roots in one cut). By AI agents, Wed Nov 11 2026. No macro, syntax, notation, axiom, sorry.
-/
import Derived.Test.YtonfeiloekofdaaChecked
import GoSem.Claim
import GoSem.ClaimJoined
import GoSem.ClaimMapViews
import Derived.JoinedTies
import Derived.KernelRfl
namespace Go.Proofs.Ytonfeiloekofdaa
/- THE CELL 'sum', in the pinned program and in every row, IS THE sha256 OF THE DUMP (.gsa) THAT YtonfeiloekofdaaProg.lean LOADS. Nothing in Lean hashes anything: it is a label: what it is worth is what the hold of that sum in a sandbox is worth. -/
noncomputable def Try.pinned : Pinned := { name := "ytonfeiloekofdaa", sum := "ac2ab5f423ff7353f6d895eefc1d82d9b01360ebc0e509b62d48d4b72ca80120", checked := Try.checked }
namespace Rows
def none {H : Type} : Left H := { results := [], args := [] }

/-- 'laws.FnExactDropBefore': WHATEVER THE INPUT: true; the input reads as it did. -/
def fnExactDropBeforeSpec : ChangeSpec := { name := "fnExactDropBefore", fn := fun _ => fun
  | [d1, d2] => { results := [.lit (.bool true)], args := [d1, d2] }
  | _ => none }
def fnExactDropBeforeRow : OpenClaim := { program := "ytonfeiloekofdaa", sum := "ac2ab5f423ff7353f6d895eefc1d82d9b01360ebc0e509b62d48d4b72ca80120", func := "loop.example/g00522/laws.FnExactDropBefore", spec := "fnExactDropBefore", apart := false }
def FnExactDropBeforeSaid : Prop := fnExactDropBeforeRow.holds Try.pinned (OpenSpec.ofChange fnExactDropBeforeSpec)

/-- ITS FALSE NEIGHBOUR: 'it returns false'. Refute it at one input. -/
def fnExactDropBeforeWrong : ChangeSpec := { name := "fnExactDropBefore", fn := fun _ => fun
  | [d1, d2] => { results := [.lit (.bool false)], args := [d1, d2] }
  | _ => none }
def FnExactDropBeforeWrongFalsely : Prop := fnExactDropBeforeRow.holds Try.pinned (OpenSpec.ofChange fnExactDropBeforeWrong)

/-- 'laws.FnExactCutFrom': WHATEVER THE INPUT: true; the input reads as it did. -/
def fnExactCutFromSpec : ChangeSpec := { name := "fnExactCutFrom", fn := fun _ => fun
  | [d1, d2] => { results := [.lit (.bool true)], args := [d1, d2] }
  | _ => none }
def fnExactCutFromRow : OpenClaim := { program := "ytonfeiloekofdaa", sum := "ac2ab5f423ff7353f6d895eefc1d82d9b01360ebc0e509b62d48d4b72ca80120", func := "loop.example/g00522/laws.FnExactCutFrom", spec := "fnExactCutFrom", apart := false }
def FnExactCutFromSaid : Prop := fnExactCutFromRow.holds Try.pinned (OpenSpec.ofChange fnExactCutFromSpec)

/-- ITS FALSE NEIGHBOUR: 'it returns false'. Refute it at one input. -/
def fnExactCutFromWrong : ChangeSpec := { name := "fnExactCutFrom", fn := fun _ => fun
  | [d1, d2] => { results := [.lit (.bool false)], args := [d1, d2] }
  | _ => none }
def FnExactCutFromWrongFalsely : Prop := fnExactCutFromRow.holds Try.pinned (OpenSpec.ofChange fnExactCutFromWrong)

/-- 'laws.FnReadForms': WHATEVER THE INPUT: true; the input reads as it did. -/
def fnReadFormsSpec : ChangeSpec := { name := "fnReadForms", fn := fun _ => fun
  | [d1, d2] => { results := [.lit (.bool true)], args := [d1, d2] }
  | _ => none }
def fnReadFormsRow : OpenClaim := { program := "ytonfeiloekofdaa", sum := "ac2ab5f423ff7353f6d895eefc1d82d9b01360ebc0e509b62d48d4b72ca80120", func := "loop.example/g00522/laws.FnReadForms", spec := "fnReadForms", unfollowed := true, recurses := true, apart := false }
def FnReadFormsSaid : Prop := fnReadFormsRow.holds Try.pinned (OpenSpec.ofChange fnReadFormsSpec)

/-- ITS FALSE NEIGHBOUR: 'it returns false'. Refute it at one input. -/
def fnReadFormsWrong : ChangeSpec := { name := "fnReadForms", fn := fun _ => fun
  | [d1, d2] => { results := [.lit (.bool false)], args := [d1, d2] }
  | _ => none }
def FnReadFormsWrongFalsely : Prop := fnReadFormsRow.holds Try.pinned (OpenSpec.ofChange fnReadFormsWrong)

/- THE SECOND FORM. 'bulk': how many values and letters a reading holds, each counted each time it is reached (what is shared counts as often as it is met; a slice's spare places count too). A statement '..UptoSaid' is the law's where the arguments, and the package variables that the reading takes, are together of bulk at most 1048576: NARROWER than '..Said'. Prove '..Said' where nothing that the law and all that it calls make is longer than what came in: it says more and counts as full. Else prove '..UptoSaid'. A law counts once. -/
mutual
def uptoBulk {H : Type} : DataW H → Nat
  | .lit (.string bytes) => bytes.length + 1
  | .lit _ => 1
  | .nil => 1
  | .ptr d => uptoBulk d + 1
  | .slice elems spare => uptoBulkAll elems + uptoBulkAll spare + 1
  | .agg parts => uptoBulkAll parts + 1
  | .iface _ d => uptoBulk d + 1
  | .map entries => uptoBulkEntries entries + 1
  | .held _ => 1
def uptoBulkAll {H : Type} : List (DataW H) → Nat
  | [] => 0
  | d :: r => uptoBulk d + uptoBulkAll r
def uptoBulkEntries {H : Type} : List (Lit × DataW H) → Nat
  | [] => 0
  | x :: r => uptoBulkEntry x + uptoBulkEntries r
def uptoBulkEntry {H : Type} : Lit × DataW H → Nat
  | (.string bytes, d) => bytes.length + uptoBulk d + 1
  | (_, d) => uptoBulk d + 1
 end
def uptoSmall : (H : Type) → List (DataW H) → Bool := fun _ ds => decide (uptoBulkAll ds ≤ 1048576)
def OpenSpec.upto (s : _root_.Go.ChangeSpec) : _root_.Go.OpenSpec := { _root_.Go.OpenSpec.ofChange s with cond := some uptoSmall }

/-- 'laws.FnExactDropBefore', WHERE WHAT IT READS IS OF BULK AT MOST 1048576: true; the input reads as it did. -/
def fnExactDropBeforeUptoRow : OpenClaim := { program := "ytonfeiloekofdaa", sum := "ac2ab5f423ff7353f6d895eefc1d82d9b01360ebc0e509b62d48d4b72ca80120", func := "loop.example/g00522/laws.FnExactDropBefore", spec := "fnExactDropBefore", apart := false, narrowed := true }
def FnExactDropBeforeUptoSaid : Prop := fnExactDropBeforeUptoRow.holds Try.pinned (OpenSpec.upto fnExactDropBeforeSpec)

/-- 'laws.FnExactCutFrom', WHERE WHAT IT READS IS OF BULK AT MOST 1048576: true; the input reads as it did. -/
def fnExactCutFromUptoRow : OpenClaim := { program := "ytonfeiloekofdaa", sum := "ac2ab5f423ff7353f6d895eefc1d82d9b01360ebc0e509b62d48d4b72ca80120", func := "loop.example/g00522/laws.FnExactCutFrom", spec := "fnExactCutFrom", apart := false, narrowed := true }
def FnExactCutFromUptoSaid : Prop := fnExactCutFromUptoRow.holds Try.pinned (OpenSpec.upto fnExactCutFromSpec)

/-- 'laws.FnReadForms', WHERE WHAT IT READS IS OF BULK AT MOST 1048576: true; the input reads as it did. -/
def fnReadFormsUptoRow : OpenClaim := { program := "ytonfeiloekofdaa", sum := "ac2ab5f423ff7353f6d895eefc1d82d9b01360ebc0e509b62d48d4b72ca80120", func := "loop.example/g00522/laws.FnReadForms", spec := "fnReadForms", unfollowed := true, recurses := true, apart := false, narrowed := true }
def FnReadFormsUptoSaid : Prop := fnReadFormsUptoRow.holds Try.pinned (OpenSpec.upto fnReadFormsSpec)

end Rows
end Go.Proofs.Ytonfeiloekofdaa
