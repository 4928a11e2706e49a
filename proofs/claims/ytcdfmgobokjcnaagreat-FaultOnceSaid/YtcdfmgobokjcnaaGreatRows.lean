/-
  No cell of these rows narrows 'for every input' (looked for: loops, veiled, ifaces, maps, wideKeys, modest, calm, conditions, laid).
  DERIVED. THE GIVEN ROWS OF THIS SEAT. 3 by the template 'for every input the law returns true; each argument reads behind the call as it read before'; 0 by the template 'total and deterministic' (their statements: YtcdfmgobokjcnaaGreatTotals.lean).
  GIVEN WITH THE SEED: the statements are not yours to turn. If you find one false, say at which input.
  Laid BY PROGRAM, IN A SANDBOX (cutbox-rows.mjs): the forced cells as the released guide's own fill.sh prints them over the translation 7f6b1581287b3054… (all of the seat's roots in one cut). By AI agents, Wed Nov 11 2026. No macro, syntax, notation, axiom, sorry.
-/
import Derived.Test.YtcdfmgobokjcnaaGreatChecked
import GoSem.Claim
import GoSem.ClaimJoined
import GoSem.ClaimMapViews
import Derived.JoinedTies
import Derived.KernelRfl
namespace Go.Proofs.YtcdfmgobokjcnaaGreat
/- THE CELL 'sum', in the pinned program and in every row, IS THE sha256 OF THE DUMP (.gsa) THAT YtcdfmgobokjcnaaGreatProg.lean LOADS. Nothing in Lean hashes anything: it is a label: what it is worth is what the hold of that sum in a sandbox is worth. -/
noncomputable def Tryz.pinned : Pinned := { name := "ytcdfmgobokjcnaagreat", sum := "7f6b1581287b305404f6e56d2182d7201d0e5c06cc6ebfef04a3fe7a041e6df2", checked := Tryz.checked }
namespace Rows
def none {H : Type} : Left H := { results := [], args := [] }

/-- 'taquinlaw29.FaultLists': WHATEVER THE INPUT: true; the input reads as it did. -/
def faultListsSpec : ChangeSpec := { name := "faultLists", fn := fun _ => fun
  | [d1, d2, d3, d4, d5] => { results := [.lit (.bool true)], args := [d1, d2, d3, d4, d5] }
  | _ => none }
def faultListsRow : OpenClaim := { program := "ytcdfmgobokjcnaagreat", sum := "7f6b1581287b305404f6e56d2182d7201d0e5c06cc6ebfef04a3fe7a041e6df2", func := "taquin/taquinlaw29.FaultLists", spec := "faultLists", inPlace := ["internal/bytealg.IndexByteString"], unfollowed := true, recurses := true, apart := false }
def FaultListsSaid : Prop := faultListsRow.holds Tryz.pinned (OpenSpec.ofChange faultListsSpec)

/-- ITS FALSE NEIGHBOUR: 'it returns false'. Refute it at one input. -/
def faultListsWrong : ChangeSpec := { name := "faultLists", fn := fun _ => fun
  | [d1, d2, d3, d4, d5] => { results := [.lit (.bool false)], args := [d1, d2, d3, d4, d5] }
  | _ => none }
def FaultListsWrongFalsely : Prop := faultListsRow.holds Tryz.pinned (OpenSpec.ofChange faultListsWrong)

/-- 'taquinlaw29.FaultNone': WHATEVER THE INPUT: true; the input reads as it did. -/
def faultNoneSpec : ChangeSpec := { name := "faultNone", fn := fun _ => fun
  | [d1, d2, d3, d4] => { results := [.lit (.bool true)], args := [d1, d2, d3, d4] }
  | _ => none }
def faultNoneRow : OpenClaim := { program := "ytcdfmgobokjcnaagreat", sum := "7f6b1581287b305404f6e56d2182d7201d0e5c06cc6ebfef04a3fe7a041e6df2", func := "taquin/taquinlaw29.FaultNone", spec := "faultNone", inPlace := ["internal/bytealg.IndexByteString"], unfollowed := true, recurses := true, apart := false }
def FaultNoneSaid : Prop := faultNoneRow.holds Tryz.pinned (OpenSpec.ofChange faultNoneSpec)

/-- ITS FALSE NEIGHBOUR: 'it returns false'. Refute it at one input. -/
def faultNoneWrong : ChangeSpec := { name := "faultNone", fn := fun _ => fun
  | [d1, d2, d3, d4] => { results := [.lit (.bool false)], args := [d1, d2, d3, d4] }
  | _ => none }
def FaultNoneWrongFalsely : Prop := faultNoneRow.holds Tryz.pinned (OpenSpec.ofChange faultNoneWrong)

/-- 'taquinlaw29.FaultOnce': WHATEVER THE INPUT: true; the input reads as it did. -/
def faultOnceSpec : ChangeSpec := { name := "faultOnce", fn := fun _ => fun
  | [d1, d2, d3, d4] => { results := [.lit (.bool true)], args := [d1, d2, d3, d4] }
  | _ => none }
def faultOnceRow : OpenClaim := { program := "ytcdfmgobokjcnaagreat", sum := "7f6b1581287b305404f6e56d2182d7201d0e5c06cc6ebfef04a3fe7a041e6df2", func := "taquin/taquinlaw29.FaultOnce", spec := "faultOnce", inPlace := ["internal/bytealg.IndexByteString", "slices.overlaps[taquin/api.Stuck]"], unfollowed := true, recurses := true, apart := false }
def FaultOnceSaid : Prop := faultOnceRow.holds Tryz.pinned (OpenSpec.ofChange faultOnceSpec)

/-- ITS FALSE NEIGHBOUR: 'it returns false'. Refute it at one input. -/
def faultOnceWrong : ChangeSpec := { name := "faultOnce", fn := fun _ => fun
  | [d1, d2, d3, d4] => { results := [.lit (.bool false)], args := [d1, d2, d3, d4] }
  | _ => none }
def FaultOnceWrongFalsely : Prop := faultOnceRow.holds Tryz.pinned (OpenSpec.ofChange faultOnceWrong)

/- THE SECOND FORM. 'bulk': how many values and letters a reading holds, each counted each time it is reached (what is shared counts as often as it is met; a slice's spare places count too). A statement '..UptoSaid' is the law's where the arguments, and the package variables that the reading takes, are together of bulk at most 1048576: NARROWER than '..Said'. Prove '..Said' where nothing that the law and all that it calls make is longer than what came in: it says more and counts as full. Else prove '..UptoSaid'. A law counts once. -/
mutual
def uptoBulk {H : Type} : DataW H → Nat
  | .lit (.string bytes) => bytes.length + 1
  | .lit _ => 1
  | .nil => 1
  | .ptr d => uptoBulk d + 1
  | .slice elems spare => uptoBulkAll elems + uptoBulkAll spare + 1
  | .agg parts => uptoBulkAll parts + 1
  | .iface _ d => uptoBulk d + 1
  | .map entries => uptoBulkEntries entries + 1
  | .held _ => 1
def uptoBulkAll {H : Type} : List (DataW H) → Nat
  | [] => 0
  | d :: r => uptoBulk d + uptoBulkAll r
def uptoBulkEntries {H : Type} : List (Lit × DataW H) → Nat
  | [] => 0
  | x :: r => uptoBulkEntry x + uptoBulkEntries r
def uptoBulkEntry {H : Type} : Lit × DataW H → Nat
  | (.string bytes, d) => bytes.length + uptoBulk d + 1
  | (_, d) => uptoBulk d + 1
 end
def uptoSmall : (H : Type) → List (DataW H) → Bool := fun _ ds => decide (uptoBulkAll ds ≤ 1048576)
def OpenSpec.upto (s : _root_.Go.ChangeSpec) : _root_.Go.OpenSpec := { _root_.Go.OpenSpec.ofChange s with cond := some uptoSmall }

/-- 'taquinlaw29.FaultLists', WHERE WHAT IT READS IS OF BULK AT MOST 1048576: true; the input reads as it did. -/
def faultListsUptoRow : OpenClaim := { program := "ytcdfmgobokjcnaagreat", sum := "7f6b1581287b305404f6e56d2182d7201d0e5c06cc6ebfef04a3fe7a041e6df2", func := "taquin/taquinlaw29.FaultLists", spec := "faultLists", inPlace := ["internal/bytealg.IndexByteString"], unfollowed := true, recurses := true, apart := false, narrowed := true }
def FaultListsUptoSaid : Prop := faultListsUptoRow.holds Tryz.pinned (OpenSpec.upto faultListsSpec)

/-- 'taquinlaw29.FaultNone', WHERE WHAT IT READS IS OF BULK AT MOST 1048576: true; the input reads as it did. -/
def faultNoneUptoRow : OpenClaim := { program := "ytcdfmgobokjcnaagreat", sum := "7f6b1581287b305404f6e56d2182d7201d0e5c06cc6ebfef04a3fe7a041e6df2", func := "taquin/taquinlaw29.FaultNone", spec := "faultNone", inPlace := ["internal/bytealg.IndexByteString"], unfollowed := true, recurses := true, apart := false, narrowed := true }
def FaultNoneUptoSaid : Prop := faultNoneUptoRow.holds Tryz.pinned (OpenSpec.upto faultNoneSpec)

/-- 'taquinlaw29.FaultOnce', WHERE WHAT IT READS IS OF BULK AT MOST 1048576: true; the input reads as it did. -/
def faultOnceUptoRow : OpenClaim := { program := "ytcdfmgobokjcnaagreat", sum := "7f6b1581287b305404f6e56d2182d7201d0e5c06cc6ebfef04a3fe7a041e6df2", func := "taquin/taquinlaw29.FaultOnce", spec := "faultOnce", inPlace := ["internal/bytealg.IndexByteString", "slices.overlaps[taquin/api.Stuck]"], unfollowed := true, recurses := true, apart := false, narrowed := true }
def FaultOnceUptoSaid : Prop := faultOnceUptoRow.holds Tryz.pinned (OpenSpec.upto faultOnceSpec)

end Rows
end Go.Proofs.YtcdfmgobokjcnaaGreat
