/-
  No cell of these rows narrows 'for every input' (looked for: loops, veiled, ifaces, maps, wideKeys, modest, calm, conditions, laid).
  DERIVED. THE GIVEN ROWS OF THIS SEAT. 3 by the template 'for every input the law returns true; each argument reads behind the call as it read before'; 0 by the template 'total and deterministic' (their statements: YtpfahanbkhgfhaaTotals.lean).
  GIVEN WITH THE SEED: the statements are not yours to turn. If you find one false, say at which input.
  Laid BY PROGRAM, IN A SANDBOX (cutbox-rows.mjs): the forced cells as the released guide's own fill.sh prints them over the translation 45a801c9fb3d52d2… (all of the seat's roots in one cut). By AI agents, Wed Nov 11 2026. No macro, syntax, notation, axiom, sorry.
-/
import Derived.Test.YtpfahanbkhgfhaaChecked
import GoSem.Claim
import GoSem.ClaimJoined
import GoSem.ClaimMapViews
import Derived.JoinedTies
import Derived.KernelRfl
namespace Go.Proofs.Ytpfahanbkhgfhaa
/- THE CELL 'sum', in the pinned program and in every row, IS THE sha256 OF THE DUMP (.gsa) THAT YtpfahanbkhgfhaaProg.lean LOADS. Nothing in Lean hashes anything: it is a label: what it is worth is what the hold of that sum in a sandbox is worth. -/
noncomputable def Try.pinned : Pinned := { name := "ytpfahanbkhgfhaa", sum := "45a801c9fb3d52d250c49505914ee391929ffc510912ffc70d112049877e8b8b", checked := Try.checked }
namespace Rows
def none {H : Type} : Left H := { results := [], args := [] }

/-- 'examboardlaw41.RubricMedian': WHATEVER THE INPUT: true; the input reads as it did. -/
def rubricMedianSpec : ChangeSpec := { name := "rubricMedian", fn := fun _ => fun
  | [d1, d2, d3, d4] => { results := [.lit (.bool true)], args := [d1, d2, d3, d4] }
  | _ => none }
def rubricMedianRow : OpenClaim := { program := "ytpfahanbkhgfhaa", sum := "45a801c9fb3d52d250c49505914ee391929ffc510912ffc70d112049877e8b8b", func := "examboard/examboardlaw41.RubricMedian", spec := "rubricMedian", unfollowed := true, recurses := true, apart := false }
def RubricMedianSaid : Prop := rubricMedianRow.holds Try.pinned (OpenSpec.ofChange rubricMedianSpec)

/-- ITS FALSE NEIGHBOUR: 'it returns false'. Refute it at one input. -/
def rubricMedianWrong : ChangeSpec := { name := "rubricMedian", fn := fun _ => fun
  | [d1, d2, d3, d4] => { results := [.lit (.bool false)], args := [d1, d2, d3, d4] }
  | _ => none }
def RubricMedianWrongFalsely : Prop := rubricMedianRow.holds Try.pinned (OpenSpec.ofChange rubricMedianWrong)

/-- 'examboardlaw41.RubricCompares': WHATEVER THE INPUT: true; the input reads as it did. -/
def rubricComparesSpec : ChangeSpec := { name := "rubricCompares", fn := fun _ => fun
  | [d1, d2, d3, d4] => { results := [.lit (.bool true)], args := [d1, d2, d3, d4] }
  | _ => none }
def rubricComparesRow : OpenClaim := { program := "ytpfahanbkhgfhaa", sum := "45a801c9fb3d52d250c49505914ee391929ffc510912ffc70d112049877e8b8b", func := "examboard/examboardlaw41.RubricCompares", spec := "rubricCompares", unfollowed := true, recurses := true, apart := false }
def RubricComparesSaid : Prop := rubricComparesRow.holds Try.pinned (OpenSpec.ofChange rubricComparesSpec)

/-- ITS FALSE NEIGHBOUR: 'it returns false'. Refute it at one input. -/
def rubricComparesWrong : ChangeSpec := { name := "rubricCompares", fn := fun _ => fun
  | [d1, d2, d3, d4] => { results := [.lit (.bool false)], args := [d1, d2, d3, d4] }
  | _ => none }
def RubricComparesWrongFalsely : Prop := rubricComparesRow.holds Try.pinned (OpenSpec.ofChange rubricComparesWrong)

/-- 'examboardlaw41.RubricMonotone': WHATEVER THE INPUT: true; the input reads as it did. -/
def rubricMonotoneSpec : ChangeSpec := { name := "rubricMonotone", fn := fun _ => fun
  | [d1, d2, d3, d4] => { results := [.lit (.bool true)], args := [d1, d2, d3, d4] }
  | _ => none }
def rubricMonotoneRow : OpenClaim := { program := "ytpfahanbkhgfhaa", sum := "45a801c9fb3d52d250c49505914ee391929ffc510912ffc70d112049877e8b8b", func := "examboard/examboardlaw41.RubricMonotone", spec := "rubricMonotone", unfollowed := true, recurses := true, apart := false }
def RubricMonotoneSaid : Prop := rubricMonotoneRow.holds Try.pinned (OpenSpec.ofChange rubricMonotoneSpec)

/-- ITS FALSE NEIGHBOUR: 'it returns false'. Refute it at one input. -/
def rubricMonotoneWrong : ChangeSpec := { name := "rubricMonotone", fn := fun _ => fun
  | [d1, d2, d3, d4] => { results := [.lit (.bool false)], args := [d1, d2, d3, d4] }
  | _ => none }
def RubricMonotoneWrongFalsely : Prop := rubricMonotoneRow.holds Try.pinned (OpenSpec.ofChange rubricMonotoneWrong)

/- THE SECOND FORM. 'bulk': how many values and letters a reading holds, each counted each time it is reached (what is shared counts as often as it is met; a slice's spare places count too). A statement '..UptoSaid' is the law's where the arguments, and the package variables that the reading takes, are together of bulk at most 1048576: NARROWER than '..Said'. Prove '..Said' where nothing that the law and all that it calls make is longer than what came in: it says more and counts as full. Else prove '..UptoSaid'. A law counts once. -/
mutual
def uptoBulk {H : Type} : DataW H → Nat
  | .lit (.string bytes) => bytes.length + 1
  | .lit _ => 1
  | .nil => 1
  | .ptr d => uptoBulk d + 1
  | .slice elems spare => uptoBulkAll elems + uptoBulkAll spare + 1
  | .agg parts => uptoBulkAll parts + 1
  | .iface _ d => uptoBulk d + 1
  | .map entries => uptoBulkEntries entries + 1
  | .held _ => 1
def uptoBulkAll {H : Type} : List (DataW H) → Nat
  | [] => 0
  | d :: r => uptoBulk d + uptoBulkAll r
def uptoBulkEntries {H : Type} : List (Lit × DataW H) → Nat
  | [] => 0
  | x :: r => uptoBulkEntry x + uptoBulkEntries r
def uptoBulkEntry {H : Type} : Lit × DataW H → Nat
  | (.string bytes, d) => bytes.length + uptoBulk d + 1
  | (_, d) => uptoBulk d + 1
 end
def uptoSmall : (H : Type) → List (DataW H) → Bool := fun _ ds => decide (uptoBulkAll ds ≤ 1048576)
def OpenSpec.upto (s : _root_.Go.ChangeSpec) : _root_.Go.OpenSpec := { _root_.Go.OpenSpec.ofChange s with cond := some uptoSmall }

/-- 'examboardlaw41.RubricMedian', WHERE WHAT IT READS IS OF BULK AT MOST 1048576: true; the input reads as it did. -/
def rubricMedianUptoRow : OpenClaim := { program := "ytpfahanbkhgfhaa", sum := "45a801c9fb3d52d250c49505914ee391929ffc510912ffc70d112049877e8b8b", func := "examboard/examboardlaw41.RubricMedian", spec := "rubricMedian", unfollowed := true, recurses := true, apart := false, narrowed := true }
def RubricMedianUptoSaid : Prop := rubricMedianUptoRow.holds Try.pinned (OpenSpec.upto rubricMedianSpec)

/-- 'examboardlaw41.RubricCompares', WHERE WHAT IT READS IS OF BULK AT MOST 1048576: true; the input reads as it did. -/
def rubricComparesUptoRow : OpenClaim := { program := "ytpfahanbkhgfhaa", sum := "45a801c9fb3d52d250c49505914ee391929ffc510912ffc70d112049877e8b8b", func := "examboard/examboardlaw41.RubricCompares", spec := "rubricCompares", unfollowed := true, recurses := true, apart := false, narrowed := true }
def RubricComparesUptoSaid : Prop := rubricComparesUptoRow.holds Try.pinned (OpenSpec.upto rubricComparesSpec)

/-- 'examboardlaw41.RubricMonotone', WHERE WHAT IT READS IS OF BULK AT MOST 1048576: true; the input reads as it did. -/
def rubricMonotoneUptoRow : OpenClaim := { program := "ytpfahanbkhgfhaa", sum := "45a801c9fb3d52d250c49505914ee391929ffc510912ffc70d112049877e8b8b", func := "examboard/examboardlaw41.RubricMonotone", spec := "rubricMonotone", unfollowed := true, recurses := true, apart := false, narrowed := true }
def RubricMonotoneUptoSaid : Prop := rubricMonotoneUptoRow.holds Try.pinned (OpenSpec.upto rubricMonotoneSpec)

end Rows
end Go.Proofs.Ytpfahanbkhgfhaa
