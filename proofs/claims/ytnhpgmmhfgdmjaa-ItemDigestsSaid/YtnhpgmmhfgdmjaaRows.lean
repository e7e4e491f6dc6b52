/-
  No cell of these rows narrows 'for every input' (looked for: loops, veiled, ifaces, maps, wideKeys, modest, calm, conditions, laid).
  DERIVED. THE GIVEN ROWS OF THIS SEAT. 4 by the template 'for every input the law returns true; each argument reads behind the call as it read before'; 0 by the template 'total and deterministic' (their statements: YtnhpgmmhfgdmjaaTotals.lean).
  GIVEN WITH THE SEED: the statements are not yours to turn. If you find one false, say at which input.
  Laid BY PROGRAM, IN A SANDBOX (cutbox-rows.mjs): the forced cells as the released guide's own fill.sh prints them over the translation 74c7332bdbc5877d… (all of the seat's roots in one cut). By AI agents, Wed Nov 11 2026. No macro, syntax, notation, axiom, sorry.
-/
import Derived.Test.YtnhpgmmhfgdmjaaChecked
import GoSem.Claim
import GoSem.ClaimJoined
import GoSem.ClaimMapViews
import Derived.JoinedTies
import Derived.KernelRfl
namespace Go.Proofs.Ytnhpgmmhfgdmjaa
/- THE CELL 'sum', in the pinned program and in every row, IS THE sha256 OF THE DUMP (.gsa) THAT YtnhpgmmhfgdmjaaProg.lean LOADS. Nothing in Lean hashes anything: it is a label: what it is worth is what the hold of that sum in a sandbox is worth. -/
noncomputable def Try.pinned : Pinned := { name := "ytnhpgmmhfgdmjaa", sum := "74c7332bdbc5877d06d8fc0274db35e2eb8c411b54fd2e271ce1bc1a58cf88ee", checked := Try.checked }
namespace Rows
def none {H : Type} : Left H := { results := [], args := [] }

/-- 'examboardlaw14.ItemVersions': WHATEVER THE INPUT: true; the input reads as it did. -/
def itemVersionsSpec : ChangeSpec := { name := "itemVersions", fn := fun _ => fun
  | [d1, d2] => { results := [.lit (.bool true)], args := [d1, d2] }
  | _ => none }
def itemVersionsRow : OpenClaim := { program := "ytnhpgmmhfgdmjaa", sum := "74c7332bdbc5877d06d8fc0274db35e2eb8c411b54fd2e271ce1bc1a58cf88ee", func := "examboard/examboardlaw14.ItemVersions", spec := "itemVersions", inPlace := ["internal/bytealg.IndexByteString", "internal/bytealg.IndexString"], unfollowed := true, recurses := true, named := ["internal/bytealg.MaxLen"], apart := false }
def ItemVersionsSaid : Prop := itemVersionsRow.holds Try.pinned (OpenSpec.ofChange itemVersionsSpec)

/-- ITS FALSE NEIGHBOUR: 'it returns false'. Refute it at one input. -/
def itemVersionsWrong : ChangeSpec := { name := "itemVersions", fn := fun _ => fun
  | [d1, d2] => { results := [.lit (.bool false)], args := [d1, d2] }
  | _ => none }
def ItemVersionsWrongFalsely : Prop := itemVersionsRow.holds Try.pinned (OpenSpec.ofChange itemVersionsWrong)

/-- 'examboardlaw14.ItemSucceeds': WHATEVER THE INPUT: true; the input reads as it did. -/
def itemSucceedsSpec : ChangeSpec := { name := "itemSucceeds", fn := fun _ => fun
  | [d1, d2] => { results := [.lit (.bool true)], args := [d1, d2] }
  | _ => none }
def itemSucceedsRow : OpenClaim := { program := "ytnhpgmmhfgdmjaa", sum := "74c7332bdbc5877d06d8fc0274db35e2eb8c411b54fd2e271ce1bc1a58cf88ee", func := "examboard/examboardlaw14.ItemSucceeds", spec := "itemSucceeds", inPlace := ["internal/bytealg.IndexByteString", "internal/bytealg.IndexString"], unfollowed := true, recurses := true, named := ["internal/bytealg.MaxLen"], apart := false }
def ItemSucceedsSaid : Prop := itemSucceedsRow.holds Try.pinned (OpenSpec.ofChange itemSucceedsSpec)

/-- ITS FALSE NEIGHBOUR: 'it returns false'. Refute it at one input. -/
def itemSucceedsWrong : ChangeSpec := { name := "itemSucceeds", fn := fun _ => fun
  | [d1, d2] => { results := [.lit (.bool false)], args := [d1, d2] }
  | _ => none }
def ItemSucceedsWrongFalsely : Prop := itemSucceedsRow.holds Try.pinned (OpenSpec.ofChange itemSucceedsWrong)

/-- 'examboardlaw14.ItemCodec': WHATEVER THE INPUT: true; the input reads as it did. -/
def itemCodecSpec : ChangeSpec := { name := "itemCodec", fn := fun _ => fun
  | [d1, d2] => { results := [.lit (.bool true)], args := [d1, d2] }
  | _ => none }
def itemCodecRow : OpenClaim := { program := "ytnhpgmmhfgdmjaa", sum := "74c7332bdbc5877d06d8fc0274db35e2eb8c411b54fd2e271ce1bc1a58cf88ee", func := "examboard/examboardlaw14.ItemCodec", spec := "itemCodec", inPlace := ["internal/bytealg.IndexByteString", "internal/bytealg.IndexString"], unfollowed := true, recurses := true, named := ["internal/bytealg.MaxLen"], apart := false }
def ItemCodecSaid : Prop := itemCodecRow.holds Try.pinned (OpenSpec.ofChange itemCodecSpec)

/-- ITS FALSE NEIGHBOUR: 'it returns false'. Refute it at one input. -/
def itemCodecWrong : ChangeSpec := { name := "itemCodec", fn := fun _ => fun
  | [d1, d2] => { results := [.lit (.bool false)], args := [d1, d2] }
  | _ => none }
def ItemCodecWrongFalsely : Prop := itemCodecRow.holds Try.pinned (OpenSpec.ofChange itemCodecWrong)

/-- 'examboardlaw14.ItemDigests': WHATEVER THE INPUT: true; the input reads as it did. -/
def itemDigestsSpec : ChangeSpec := { name := "itemDigests", fn := fun _ => fun
  | [d] => { results := [.lit (.bool true)], args := [d] }
  | _ => none }
def itemDigestsRow : OpenClaim := { program := "ytnhpgmmhfgdmjaa", sum := "74c7332bdbc5877d06d8fc0274db35e2eb8c411b54fd2e271ce1bc1a58cf88ee", func := "examboard/examboardlaw14.ItemDigests", spec := "itemDigests", inPlace := ["internal/bytealg.IndexByteString", "internal/bytealg.IndexString"], unfollowed := true, recurses := true, named := ["internal/bytealg.MaxLen"], apart := false }
def ItemDigestsSaid : Prop := itemDigestsRow.holds Try.pinned (OpenSpec.ofChange itemDigestsSpec)

/-- ITS FALSE NEIGHBOUR: 'it returns false'. Refute it at one input. -/
def itemDigestsWrong : ChangeSpec := { name := "itemDigests", fn := fun _ => fun
  | [d] => { results := [.lit (.bool false)], args := [d] }
  | _ => none }
def ItemDigestsWrongFalsely : Prop := itemDigestsRow.holds Try.pinned (OpenSpec.ofChange itemDigestsWrong)

/- THE SECOND FORM. 'bulk': how many values and letters a reading holds, each counted each time it is reached (what is shared counts as often as it is met; a slice's spare places count too). A statement '..UptoSaid' is the law's where the arguments, and the package variables that the reading takes, are together of bulk at most 1048576: NARROWER than '..Said'. Prove '..Said' where nothing that the law and all that it calls make is longer than what came in: it says more and counts as full. Else prove '..UptoSaid'. A law counts once. -/
mutual
def uptoBulk {H : Type} : DataW H → Nat
  | .lit (.string bytes) => bytes.length + 1
  | .lit _ => 1
  | .nil => 1
  | .ptr d => uptoBulk d + 1
  | .slice elems spare => uptoBulkAll elems + uptoBulkAll spare + 1
  | .agg parts => uptoBulkAll parts + 1
  | .iface _ d => uptoBulk d + 1
  | .map entries => uptoBulkEntries entries + 1
  | .held _ => 1
def uptoBulkAll {H : Type} : List (DataW H) → Nat
  | [] => 0
  | d :: r => uptoBulk d + uptoBulkAll r
def uptoBulkEntries {H : Type} : List (Lit × DataW H) → Nat
  | [] => 0
  | x :: r => uptoBulkEntry x + uptoBulkEntries r
def uptoBulkEntry {H : Type} : Lit × DataW H → Nat
  | (.string bytes, d) => bytes.length + uptoBulk d + 1
  | (_, d) => uptoBulk d + 1
 end
def uptoSmall : (H : Type) → List (DataW H) → Bool := fun _ ds => decide (uptoBulkAll ds ≤ 1048576)
def OpenSpec.upto (s : _root_.Go.ChangeSpec) : _root_.Go.OpenSpec := { _root_.Go.OpenSpec.ofChange s with cond := some uptoSmall }

/-- 'examboardlaw14.ItemVersions', WHERE WHAT IT READS IS OF BULK AT MOST 1048576: true; the input reads as it did. -/
def itemVersionsUptoRow : OpenClaim := { program := "ytnhpgmmhfgdmjaa", sum := "74c7332bdbc5877d06d8fc0274db35e2eb8c411b54fd2e271ce1bc1a58cf88ee", func := "examboard/examboardlaw14.ItemVersions", spec := "itemVersions", inPlace := ["internal/bytealg.IndexByteString", "internal/bytealg.IndexString"], unfollowed := true, recurses := true, named := ["internal/bytealg.MaxLen"], apart := false, narrowed := true }
def ItemVersionsUptoSaid : Prop := itemVersionsUptoRow.holds Try.pinned (OpenSpec.upto itemVersionsSpec)

/-- 'examboardlaw14.ItemSucceeds', WHERE WHAT IT READS IS OF BULK AT MOST 1048576: true; the input reads as it did. -/
def itemSucceedsUptoRow : OpenClaim := { program := "ytnhpgmmhfgdmjaa", sum := "74c7332bdbc5877d06d8fc0274db35e2eb8c411b54fd2e271ce1bc1a58cf88ee", func := "examboard/examboardlaw14.ItemSucceeds", spec := "itemSucceeds", inPlace := ["internal/bytealg.IndexByteString", "internal/bytealg.IndexString"], unfollowed := true, recurses := true, named := ["internal/bytealg.MaxLen"], apart := false, narrowed := true }
def ItemSucceedsUptoSaid : Prop := itemSucceedsUptoRow.holds Try.pinned (OpenSpec.upto itemSucceedsSpec)

/-- 'examboardlaw14.ItemCodec', WHERE WHAT IT READS IS OF BULK AT MOST 1048576: true; the input reads as it did. -/
def itemCodecUptoRow : OpenClaim := { program := "ytnhpgmmhfgdmjaa", sum := "74c7332bdbc5877d06d8fc0274db35e2eb8c411b54fd2e271ce1bc1a58cf88ee", func := "examboard/examboardlaw14.ItemCodec", spec := "itemCodec", inPlace := ["internal/bytealg.IndexByteString", "internal/bytealg.IndexString"], unfollowed := true, recurses := true, named := ["internal/bytealg.MaxLen"], apart := false, narrowed := true }
def ItemCodecUptoSaid : Prop := itemCodecUptoRow.holds Try.pinned (OpenSpec.upto itemCodecSpec)

/-- 'examboardlaw14.ItemDigests', WHERE WHAT IT READS IS OF BULK AT MOST 1048576: true; the input reads as it did. -/
def itemDigestsUptoRow : OpenClaim := { program := "ytnhpgmmhfgdmjaa", sum := "74c7332bdbc5877d06d8fc0274db35e2eb8c411b54fd2e271ce1bc1a58cf88ee", func := "examboard/examboardlaw14.ItemDigests", spec := "itemDigests", inPlace := ["internal/bytealg.IndexByteString", "internal/bytealg.IndexString"], unfollowed := true, recurses := true, named := ["internal/bytealg.MaxLen"], apart := false, narrowed := true }
def ItemDigestsUptoSaid : Prop := itemDigestsUptoRow.holds Try.pinned (OpenSpec.upto itemDigestsSpec)

end Rows
end Go.Proofs.Ytnhpgmmhfgdmjaa
