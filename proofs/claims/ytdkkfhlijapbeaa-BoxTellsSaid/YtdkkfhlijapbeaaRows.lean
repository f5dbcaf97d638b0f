/-
  No cell of these rows narrows 'for every input' (looked for: loops, veiled, ifaces, maps, wideKeys, modest, calm, conditions, laid).
  DERIVED. THE GIVEN ROWS OF THIS SEAT. 5 by the template 'for every input the law returns true; each argument reads behind the call as it read before'; 0 by the template 'total and deterministic' (their statements: YtdkkfhlijapbeaaTotals.lean).
  GIVEN WITH THE SEED: the statements are not yours to turn. If you find one false, say at which input.
  Laid BY PROGRAM, IN A SANDBOX (cutbox-rows.mjs): the forced cells as the released guide's own fill.sh prints them over the translation a817cc3bf8c25c51… (all of the seat's roots in one cut). By AI agents, Wed Nov 11 2026. No macro, syntax, notation, axiom, sorry.
-/
import Derived.Test.YtdkkfhlijapbeaaChecked
import GoSem.Claim
import GoSem.ClaimJoined
import GoSem.ClaimMapViews
import Derived.JoinedTies
import Derived.KernelRfl
namespace Go.Proofs.Ytdkkfhlijapbeaa
/- THE CELL 'sum', in the pinned program and in every row, IS THE sha256 OF THE DUMP (.gsa) THAT YtdkkfhlijapbeaaProg.lean LOADS. Nothing in Lean hashes anything: it is a label: what it is worth is what the hold of that sum in a sandbox is worth. -/
noncomputable def Try.pinned : Pinned := { name := "ytdkkfhlijapbeaa", sum := "a817cc3bf8c25c51d08ea07f3e8e5938e47e5014bf44698b073347311c466df3", checked := Try.checked }
namespace Rows
def none {H : Type} : Left H := { results := [], args := [] }

/-- 'plaitlaw30.BoxTells': WHATEVER THE INPUT: true; the input reads as it did. -/
def boxTellsSpec : ChangeSpec := { name := "boxTells", fn := fun _ => fun
  | [d1, d2, d3, d4] => { results := [.lit (.bool true)], args := [d1, d2, d3, d4] }
  | _ => none }
def boxTellsRow : OpenClaim := { program := "ytdkkfhlijapbeaa", sum := "a817cc3bf8c25c51d08ea07f3e8e5938e47e5014bf44698b073347311c466df3", func := "plait/plaitlaw30.BoxTells", spec := "boxTells", unfollowed := true, recurses := true, apart := false }
def BoxTellsSaid : Prop := boxTellsRow.holds Try.pinned (OpenSpec.ofChange boxTellsSpec)

/-- ITS FALSE NEIGHBOUR: 'it returns false'. Refute it at one input. -/
def boxTellsWrong : ChangeSpec := { name := "boxTells", fn := fun _ => fun
  | [d1, d2, d3, d4] => { results := [.lit (.bool false)], args := [d1, d2, d3, d4] }
  | _ => none }
def BoxTellsWrongFalsely : Prop := boxTellsRow.holds Try.pinned (OpenSpec.ofChange boxTellsWrong)

/-- 'plaitlaw30.BoxOdd': WHATEVER THE INPUT: true; the input reads as it did. -/
def boxOddSpec : ChangeSpec := { name := "boxOdd", fn := fun _ => fun
  | [d1, d2, d3, d4] => { results := [.lit (.bool true)], args := [d1, d2, d3, d4] }
  | _ => none }
def boxOddRow : OpenClaim := { program := "ytdkkfhlijapbeaa", sum := "a817cc3bf8c25c51d08ea07f3e8e5938e47e5014bf44698b073347311c466df3", func := "plait/plaitlaw30.BoxOdd", spec := "boxOdd", unfollowed := true, recurses := true, apart := false }
def BoxOddSaid : Prop := boxOddRow.holds Try.pinned (OpenSpec.ofChange boxOddSpec)

/-- ITS FALSE NEIGHBOUR: 'it returns false'. Refute it at one input. -/
def boxOddWrong : ChangeSpec := { name := "boxOdd", fn := fun _ => fun
  | [d1, d2, d3, d4] => { results := [.lit (.bool false)], args := [d1, d2, d3, d4] }
  | _ => none }
def BoxOddWrongFalsely : Prop := boxOddRow.holds Try.pinned (OpenSpec.ofChange boxOddWrong)

/-- 'plaitlaw30.BoxSplits': WHATEVER THE INPUT: true; the input reads as it did. -/
def boxSplitsSpec : ChangeSpec := { name := "boxSplits", fn := fun _ => fun
  | [d1, d2, d3] => { results := [.lit (.bool true)], args := [d1, d2, d3] }
  | _ => none }
def boxSplitsRow : OpenClaim := { program := "ytdkkfhlijapbeaa", sum := "a817cc3bf8c25c51d08ea07f3e8e5938e47e5014bf44698b073347311c466df3", func := "plait/plaitlaw30.BoxSplits", spec := "boxSplits", unfollowed := true, recurses := true, apart := false }
def BoxSplitsSaid : Prop := boxSplitsRow.holds Try.pinned (OpenSpec.ofChange boxSplitsSpec)

/-- ITS FALSE NEIGHBOUR: 'it returns false'. Refute it at one input. -/
def boxSplitsWrong : ChangeSpec := { name := "boxSplits", fn := fun _ => fun
  | [d1, d2, d3] => { results := [.lit (.bool false)], args := [d1, d2, d3] }
  | _ => none }
def BoxSplitsWrongFalsely : Prop := boxSplitsRow.holds Try.pinned (OpenSpec.ofChange boxSplitsWrong)

/-- 'plaitlaw30.BoxEdits': WHATEVER THE INPUT: true; the input reads as it did. -/
def boxEditsSpec : ChangeSpec := { name := "boxEdits", fn := fun _ => fun
  | [d1, d2, d3] => { results := [.lit (.bool true)], args := [d1, d2, d3] }
  | _ => none }
def boxEditsRow : OpenClaim := { program := "ytdkkfhlijapbeaa", sum := "a817cc3bf8c25c51d08ea07f3e8e5938e47e5014bf44698b073347311c466df3", func := "plait/plaitlaw30.BoxEdits", spec := "boxEdits", unfollowed := true, recurses := true, apart := false }
def BoxEditsSaid : Prop := boxEditsRow.holds Try.pinned (OpenSpec.ofChange boxEditsSpec)

/-- ITS FALSE NEIGHBOUR: 'it returns false'. Refute it at one input. -/
def boxEditsWrong : ChangeSpec := { name := "boxEdits", fn := fun _ => fun
  | [d1, d2, d3] => { results := [.lit (.bool false)], args := [d1, d2, d3] }
  | _ => none }
def BoxEditsWrongFalsely : Prop := boxEditsRow.holds Try.pinned (OpenSpec.ofChange boxEditsWrong)

/-- 'plaitlaw30.BoxKnown': WHATEVER THE INPUT: true; the input reads as it did. -/
def boxKnownSpec : ChangeSpec := { name := "boxKnown", fn := fun _ => fun
  | [] => { results := [.lit (.bool true)], args := [] }
  | _ => none }
def boxKnownRow : OpenClaim := { program := "ytdkkfhlijapbeaa", sum := "a817cc3bf8c25c51d08ea07f3e8e5938e47e5014bf44698b073347311c466df3", func := "plait/plaitlaw30.BoxKnown", spec := "boxKnown", unfollowed := true, recurses := true, apart := false }
def BoxKnownSaid : Prop := boxKnownRow.holds Try.pinned (OpenSpec.ofChange boxKnownSpec)

/-- ITS FALSE NEIGHBOUR: 'it returns false'. Refute it at one input. -/
def boxKnownWrong : ChangeSpec := { name := "boxKnown", fn := fun _ => fun
  | [] => { results := [.lit (.bool false)], args := [] }
  | _ => none }
def BoxKnownWrongFalsely : Prop := boxKnownRow.holds Try.pinned (OpenSpec.ofChange boxKnownWrong)

/- THE SECOND FORM. 'bulk': how many values and letters a reading holds, each counted each time it is reached (what is shared counts as often as it is met; a slice's spare places count too). A statement '..UptoSaid' is the law's where the arguments, and the package variables that the reading takes, are together of bulk at most 1048576: NARROWER than '..Said'. Prove '..Said' where nothing that the law and all that it calls make is longer than what came in: it says more and counts as full. Else prove '..UptoSaid'. A law counts once. -/
mutual
def uptoBulk {H : Type} : DataW H → Nat
  | .lit (.string bytes) => bytes.length + 1
  | .lit _ => 1
  | .nil => 1
  | .ptr d => uptoBulk d + 1
  | .slice elems spare => uptoBulkAll elems + uptoBulkAll spare + 1
  | .agg parts => uptoBulkAll parts + 1
  | .iface _ d => uptoBulk d + 1
  | .map entries => uptoBulkEntries entries + 1
  | .held _ => 1
def uptoBulkAll {H : Type} : List (DataW H) → Nat
  | [] => 0
  | d :: r => uptoBulk d + uptoBulkAll r
def uptoBulkEntries {H : Type} : List (Lit × DataW H) → Nat
  | [] => 0
  | x :: r => uptoBulkEntry x + uptoBulkEntries r
def uptoBulkEntry {H : Type} : Lit × DataW H → Nat
  | (.string bytes, d) => bytes.length + uptoBulk d + 1
  | (_, d) => uptoBulk d + 1
 end
def uptoSmall : (H : Type) → List (DataW H) → Bool := fun _ ds => decide (uptoBulkAll ds ≤ 1048576)
def OpenSpec.upto (s : _root_.Go.ChangeSpec) : _root_.Go.OpenSpec := { _root_.Go.OpenSpec.ofChange s with cond := some uptoSmall }

/-- 'plaitlaw30.BoxTells', WHERE WHAT IT READS IS OF BULK AT MOST 1048576: true; the input reads as it did. -/
def boxTellsUptoRow : OpenClaim := { program := "ytdkkfhlijapbeaa", sum := "a817cc3bf8c25c51d08ea07f3e8e5938e47e5014bf44698b073347311c466df3", func := "plait/plaitlaw30.BoxTells", spec := "boxTells", unfollowed := true, recurses := true, apart := false, narrowed := true }
def BoxTellsUptoSaid : Prop := boxTellsUptoRow.holds Try.pinned (OpenSpec.upto boxTellsSpec)

/-- 'plaitlaw30.BoxOdd', WHERE WHAT IT READS IS OF BULK AT MOST 1048576: true; the input reads as it did. -/
def boxOddUptoRow : OpenClaim := { program := "ytdkkfhlijapbeaa", sum := "a817cc3bf8c25c51d08ea07f3e8e5938e47e5014bf44698b073347311c466df3", func := "plait/plaitlaw30.BoxOdd", spec := "boxOdd", unfollowed := true, recurses := true, apart := false, narrowed := true }
def BoxOddUptoSaid : Prop := boxOddUptoRow.holds Try.pinned (OpenSpec.upto boxOddSpec)

/-- 'plaitlaw30.BoxSplits', WHERE WHAT IT READS IS OF BULK AT MOST 1048576: true; the input reads as it did. -/
def boxSplitsUptoRow : OpenClaim := { program := "ytdkkfhlijapbeaa", sum := "a817cc3bf8c25c51d08ea07f3e8e5938e47e5014bf44698b073347311c466df3", func := "plait/plaitlaw30.BoxSplits", spec := "boxSplits", unfollowed := true, recurses := true, apart := false, narrowed := true }
def BoxSplitsUptoSaid : Prop := boxSplitsUptoRow.holds Try.pinned (OpenSpec.upto boxSplitsSpec)

/-- 'plaitlaw30.BoxEdits', WHERE WHAT IT READS IS OF BULK AT MOST 1048576: true; the input reads as it did. -/
def boxEditsUptoRow : OpenClaim := { program := "ytdkkfhlijapbeaa", sum := "a817cc3bf8c25c51d08ea07f3e8e5938e47e5014bf44698b073347311c466df3", func := "plait/plaitlaw30.BoxEdits", spec := "boxEdits", unfollowed := true, recurses := true, apart := false, narrowed := true }
def BoxEditsUptoSaid : Prop := boxEditsUptoRow.holds Try.pinned (OpenSpec.upto boxEditsSpec)

/-- 'plaitlaw30.BoxKnown', WHERE WHAT IT READS IS OF BULK AT MOST 1048576: true; the input reads as it did. -/
def boxKnownUptoRow : OpenClaim := { program := "ytdkkfhlijapbeaa", sum := "a817cc3bf8c25c51d08ea07f3e8e5938e47e5014bf44698b073347311c466df3", func := "plait/plaitlaw30.BoxKnown", spec := "boxKnown", unfollowed := true, recurses := true, apart := false, narrowed := true }
def BoxKnownUptoSaid : Prop := boxKnownUptoRow.holds Try.pinned (OpenSpec.upto boxKnownSpec)

end Rows
end Go.Proofs.Ytdkkfhlijapbeaa
