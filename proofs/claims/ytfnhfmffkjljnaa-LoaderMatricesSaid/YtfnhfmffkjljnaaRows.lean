/-
  No cell of these rows narrows 'for every input' (looked for: loops, veiled, ifaces, maps, wideKeys, modest, calm, conditions, laid).
  DERIVED. THE GIVEN ROWS OF THIS SEAT. 7 by the template 'for every input the law returns true; each argument reads behind the call as it read before'; 0 by the template 'total and deterministic' (their statements: YtfnhfmffkjljnaaTotals.lean).
  GIVEN WITH THE SEED: the statements are not yours to turn. If you find one false, say at which input.
  Laid BY PROGRAM, IN A SANDBOX (cutbox-rows.mjs): the forced cells as the released guide's own fill.sh prints them over the translation 3515fcdfc821ef78… (all of the seat's roots in one cut). By AI agents, Wed Nov 11 2026. No macro, syntax, notation, axiom, sorry.
-/
import Derived.Test.YtfnhfmffkjljnaaChecked
import GoSem.Claim
import GoSem.ClaimJoined
import GoSem.ClaimMapViews
import Derived.JoinedTies
import Derived.KernelRfl
namespace Go.Proofs.Ytfnhfmffkjljnaa
/- THE CELL 'sum', in the pinned program and in every row, IS THE sha256 OF THE DUMP (.gsa) THAT YtfnhfmffkjljnaaProg.lean LOADS. Nothing in Lean hashes anything: it is a label: what it is worth is what the hold of that sum in a sandbox is worth. -/
noncomputable def Try.pinned : Pinned := { name := "ytfnhfmffkjljnaa", sum := "3515fcdfc821ef78d5f08796a507c115e231dd01ef77d339311b65301fafe536", checked := Try.checked }
namespace Rows
def none {H : Type} : Left H := { results := [], args := [] }

/-- 'fretworklaw05.EdgesRight': WHATEVER THE INPUT: true; the input reads as it did. -/
def edgesRightSpec : ChangeSpec := { name := "edgesRight", fn := fun _ => fun
  | [d1, d2] => { results := [.lit (.bool true)], args := [d1, d2] }
  | _ => none }
def edgesRightRow : OpenClaim := { program := "ytfnhfmffkjljnaa", sum := "3515fcdfc821ef78d5f08796a507c115e231dd01ef77d339311b65301fafe536", func := "fretwork/fretworklaw05.EdgesRight", spec := "edgesRight", unfollowed := true, recurses := true, plainKeys := false, apart := false }
def EdgesRightSaid : Prop := edgesRightRow.holds Try.pinned (OpenSpec.ofChange edgesRightSpec)

/-- ITS FALSE NEIGHBOUR: 'it returns false'. Refute it at one input. -/
def edgesRightWrong : ChangeSpec := { name := "edgesRight", fn := fun _ => fun
  | [d1, d2] => { results := [.lit (.bool false)], args := [d1, d2] }
  | _ => none }
def EdgesRightWrongFalsely : Prop := edgesRightRow.holds Try.pinned (OpenSpec.ofChange edgesRightWrong)

/-- 'fretworklaw05.EdgesMake': WHATEVER THE INPUT: true; the input reads as it did. -/
def edgesMakeSpec : ChangeSpec := { name := "edgesMake", fn := fun _ => fun
  | [d] => { results := [.lit (.bool true)], args := [d] }
  | _ => none }
def edgesMakeRow : OpenClaim := { program := "ytfnhfmffkjljnaa", sum := "3515fcdfc821ef78d5f08796a507c115e231dd01ef77d339311b65301fafe536", func := "fretwork/fretworklaw05.EdgesMake", spec := "edgesMake", unfollowed := true, recurses := true, plainKeys := false, apart := false }
def EdgesMakeSaid : Prop := edgesMakeRow.holds Try.pinned (OpenSpec.ofChange edgesMakeSpec)

/-- ITS FALSE NEIGHBOUR: 'it returns false'. Refute it at one input. -/
def edgesMakeWrong : ChangeSpec := { name := "edgesMake", fn := fun _ => fun
  | [d] => { results := [.lit (.bool false)], args := [d] }
  | _ => none }
def EdgesMakeWrongFalsely : Prop := edgesMakeRow.holds Try.pinned (OpenSpec.ofChange edgesMakeWrong)

/-- 'fretworklaw05.EdgesCounts': WHATEVER THE INPUT: true; the input reads as it did. -/
def edgesCountsSpec : ChangeSpec := { name := "edgesCounts", fn := fun _ => fun
  | [d] => { results := [.lit (.bool true)], args := [d] }
  | _ => none }
def edgesCountsRow : OpenClaim := { program := "ytfnhfmffkjljnaa", sum := "3515fcdfc821ef78d5f08796a507c115e231dd01ef77d339311b65301fafe536", func := "fretwork/fretworklaw05.EdgesCounts", spec := "edgesCounts", unfollowed := true, recurses := true, plainKeys := false, apart := false }
def EdgesCountsSaid : Prop := edgesCountsRow.holds Try.pinned (OpenSpec.ofChange edgesCountsSpec)

/-- ITS FALSE NEIGHBOUR: 'it returns false'. Refute it at one input. -/
def edgesCountsWrong : ChangeSpec := { name := "edgesCounts", fn := fun _ => fun
  | [d] => { results := [.lit (.bool false)], args := [d] }
  | _ => none }
def EdgesCountsWrongFalsely : Prop := edgesCountsRow.holds Try.pinned (OpenSpec.ofChange edgesCountsWrong)

/-- 'fretworklaw05.EdgesCanon': WHATEVER THE INPUT: true; the input reads as it did. -/
def edgesCanonSpec : ChangeSpec := { name := "edgesCanon", fn := fun _ => fun
  | [d1, d2] => { results := [.lit (.bool true)], args := [d1, d2] }
  | _ => none }
def edgesCanonRow : OpenClaim := { program := "ytfnhfmffkjljnaa", sum := "3515fcdfc821ef78d5f08796a507c115e231dd01ef77d339311b65301fafe536", func := "fretwork/fretworklaw05.EdgesCanon", spec := "edgesCanon", unfollowed := true, recurses := true, plainKeys := false, apart := false }
def EdgesCanonSaid : Prop := edgesCanonRow.holds Try.pinned (OpenSpec.ofChange edgesCanonSpec)

/-- ITS FALSE NEIGHBOUR: 'it returns false'. Refute it at one input. -/
def edgesCanonWrong : ChangeSpec := { name := "edgesCanon", fn := fun _ => fun
  | [d1, d2] => { results := [.lit (.bool false)], args := [d1, d2] }
  | _ => none }
def EdgesCanonWrongFalsely : Prop := edgesCanonRow.holds Try.pinned (OpenSpec.ofChange edgesCanonWrong)

/-- 'fretworklaw05.EdgesTurns': WHATEVER THE INPUT: true; the input reads as it did. -/
def edgesTurnsSpec : ChangeSpec := { name := "edgesTurns", fn := fun _ => fun
  | [d] => { results := [.lit (.bool true)], args := [d] }
  | _ => none }
def edgesTurnsRow : OpenClaim := { program := "ytfnhfmffkjljnaa", sum := "3515fcdfc821ef78d5f08796a507c115e231dd01ef77d339311b65301fafe536", func := "fretwork/fretworklaw05.EdgesTurns", spec := "edgesTurns", unfollowed := true, recurses := true, plainKeys := false, apart := false }
def EdgesTurnsSaid : Prop := edgesTurnsRow.holds Try.pinned (OpenSpec.ofChange edgesTurnsSpec)

/-- ITS FALSE NEIGHBOUR: 'it returns false'. Refute it at one input. -/
def edgesTurnsWrong : ChangeSpec := { name := "edgesTurns", fn := fun _ => fun
  | [d] => { results := [.lit (.bool false)], args := [d] }
  | _ => none }
def EdgesTurnsWrongFalsely : Prop := edgesTurnsRow.holds Try.pinned (OpenSpec.ofChange edgesTurnsWrong)

/-- 'fretworklaw06.LoaderMatrices': WHATEVER THE INPUT: true; the input reads as it did. -/
def loaderMatricesSpec : ChangeSpec := { name := "loaderMatrices", fn := fun _ => fun
  | [d1, d2, d3] => { results := [.lit (.bool true)], args := [d1, d2, d3] }
  | _ => none }
def loaderMatricesRow : OpenClaim := { program := "ytfnhfmffkjljnaa", sum := "3515fcdfc821ef78d5f08796a507c115e231dd01ef77d339311b65301fafe536", func := "fretwork/fretworklaw06.LoaderMatrices", spec := "loaderMatrices", unfollowed := true, recurses := true, plainKeys := false, apart := false }
def LoaderMatricesSaid : Prop := loaderMatricesRow.holds Try.pinned (OpenSpec.ofChange loaderMatricesSpec)

/-- ITS FALSE NEIGHBOUR: 'it returns false'. Refute it at one input. -/
def loaderMatricesWrong : ChangeSpec := { name := "loaderMatrices", fn := fun _ => fun
  | [d1, d2, d3] => { results := [.lit (.bool false)], args := [d1, d2, d3] }
  | _ => none }
def LoaderMatricesWrongFalsely : Prop := loaderMatricesRow.holds Try.pinned (OpenSpec.ofChange loaderMatricesWrong)

/-- 'fretworktop.TopFiles': WHATEVER THE INPUT: true; the input reads as it did. -/
def topFilesSpec : ChangeSpec := { name := "topFiles", fn := fun _ => fun
  | [d] => { results := [.lit (.bool true)], args := [d] }
  | _ => none }
def topFilesRow : OpenClaim := { program := "ytfnhfmffkjljnaa", sum := "3515fcdfc821ef78d5f08796a507c115e231dd01ef77d339311b65301fafe536", func := "fretwork/fretworktop.TopFiles", spec := "topFiles", unfollowed := true, recurses := true, plainKeys := false, apart := false }
def TopFilesSaid : Prop := topFilesRow.holds Try.pinned (OpenSpec.ofChange topFilesSpec)

/-- ITS FALSE NEIGHBOUR: 'it returns false'. Refute it at one input. -/
def topFilesWrong : ChangeSpec := { name := "topFiles", fn := fun _ => fun
  | [d] => { results := [.lit (.bool false)], args := [d] }
  | _ => none }
def TopFilesWrongFalsely : Prop := topFilesRow.holds Try.pinned (OpenSpec.ofChange topFilesWrong)

/- THE SECOND FORM. 'bulk': how many values and letters a reading holds, each counted each time it is reached (what is shared counts as often as it is met; a slice's spare places count too). A statement '..UptoSaid' is the law's where the arguments, and the package variables that the reading takes, are together of bulk at most 1048576: NARROWER than '..Said'. Prove '..Said' where nothing that the law and all that it calls make is longer than what came in: it says more and counts as full. Else prove '..UptoSaid'. A law counts once. -/
mutual
def uptoBulk {H : Type} : DataW H → Nat
  | .lit (.string bytes) => bytes.length + 1
  | .lit _ => 1
  | .nil => 1
  | .ptr d => uptoBulk d + 1
  | .slice elems spare => uptoBulkAll elems + uptoBulkAll spare + 1
  | .agg parts => uptoBulkAll parts + 1
  | .iface _ d => uptoBulk d + 1
  | .map entries => uptoBulkEntries entries + 1
  | .held _ => 1
def uptoBulkAll {H : Type} : List (DataW H) → Nat
  | [] => 0
  | d :: r => uptoBulk d + uptoBulkAll r
def uptoBulkEntries {H : Type} : List (Lit × DataW H) → Nat
  | [] => 0
  | x :: r => uptoBulkEntry x + uptoBulkEntries r
def uptoBulkEntry {H : Type} : Lit × DataW H → Nat
  | (.string bytes, d) => bytes.length + uptoBulk d + 1
  | (_, d) => uptoBulk d + 1
 end
def uptoSmall : (H : Type) → List (DataW H) → Bool := fun _ ds => decide (uptoBulkAll ds ≤ 1048576)
def OpenSpec.upto (s : _root_.Go.ChangeSpec) : _root_.Go.OpenSpec := { _root_.Go.OpenSpec.ofChange s with cond := some uptoSmall }

/-- 'fretworklaw05.EdgesRight', WHERE WHAT IT READS IS OF BULK AT MOST 1048576: true; the input reads as it did. -/
def edgesRightUptoRow : OpenClaim := { program := "ytfnhfmffkjljnaa", sum := "3515fcdfc821ef78d5f08796a507c115e231dd01ef77d339311b65301fafe536", func := "fretwork/fretworklaw05.EdgesRight", spec := "edgesRight", unfollowed := true, recurses := true, plainKeys := false, apart := false, narrowed := true }
def EdgesRightUptoSaid : Prop := edgesRightUptoRow.holds Try.pinned (OpenSpec.upto edgesRightSpec)

/-- 'fretworklaw05.EdgesMake', WHERE WHAT IT READS IS OF BULK AT MOST 1048576: true; the input reads as it did. -/
def edgesMakeUptoRow : OpenClaim := { program := "ytfnhfmffkjljnaa", sum := "3515fcdfc821ef78d5f08796a507c115e231dd01ef77d339311b65301fafe536", func := "fretwork/fretworklaw05.EdgesMake", spec := "edgesMake", unfollowed := true, recurses := true, plainKeys := false, apart := false, narrowed := true }
def EdgesMakeUptoSaid : Prop := edgesMakeUptoRow.holds Try.pinned (OpenSpec.upto edgesMakeSpec)

/-- 'fretworklaw05.EdgesCounts', WHERE WHAT IT READS IS OF BULK AT MOST 1048576: true; the input reads as it did. -/
def edgesCountsUptoRow : OpenClaim := { program := "ytfnhfmffkjljnaa", sum := "3515fcdfc821ef78d5f08796a507c115e231dd01ef77d339311b65301fafe536", func := "fretwork/fretworklaw05.EdgesCounts", spec := "edgesCounts", unfollowed := true, recurses := true, plainKeys := false, apart := false, narrowed := true }
def EdgesCountsUptoSaid : Prop := edgesCountsUptoRow.holds Try.pinned (OpenSpec.upto edgesCountsSpec)

/-- 'fretworklaw05.EdgesCanon', WHERE WHAT IT READS IS OF BULK AT MOST 1048576: true; the input reads as it did. -/
def edgesCanonUptoRow : OpenClaim := { program := "ytfnhfmffkjljnaa", sum := "3515fcdfc821ef78d5f08796a507c115e231dd01ef77d339311b65301fafe536", func := "fretwork/fretworklaw05.EdgesCanon", spec := "edgesCanon", unfollowed := true, recurses := true, plainKeys := false, apart := false, narrowed := true }
def EdgesCanonUptoSaid : Prop := edgesCanonUptoRow.holds Try.pinned (OpenSpec.upto edgesCanonSpec)

/-- 'fretworklaw05.EdgesTurns', WHERE WHAT IT READS IS OF BULK AT MOST 1048576: true; the input reads as it did. -/
def edgesTurnsUptoRow : OpenClaim := { program := "ytfnhfmffkjljnaa", sum := "3515fcdfc821ef78d5f08796a507c115e231dd01ef77d339311b65301fafe536", func := "fretwork/fretworklaw05.EdgesTurns", spec := "edgesTurns", unfollowed := true, recurses := true, plainKeys := false, apart := false, narrowed := true }
def EdgesTurnsUptoSaid : Prop := edgesTurnsUptoRow.holds Try.pinned (OpenSpec.upto edgesTurnsSpec)

/-- 'fretworklaw06.LoaderMatrices', WHERE WHAT IT READS IS OF BULK AT MOST 1048576: true; the input reads as it did. -/
def loaderMatricesUptoRow : OpenClaim := { program := "ytfnhfmffkjljnaa", sum := "3515fcdfc821ef78d5f08796a507c115e231dd01ef77d339311b65301fafe536", func := "fretwork/fretworklaw06.LoaderMatrices", spec := "loaderMatrices", unfollowed := true, recurses := true, plainKeys := false, apart := false, narrowed := true }
def LoaderMatricesUptoSaid : Prop := loaderMatricesUptoRow.holds Try.pinned (OpenSpec.upto loaderMatricesSpec)

/-- 'fretworktop.TopFiles', WHERE WHAT IT READS IS OF BULK AT MOST 1048576: true; the input reads as it did. -/
def topFilesUptoRow : OpenClaim := { program := "ytfnhfmffkjljnaa", sum := "3515fcdfc821ef78d5f08796a507c115e231dd01ef77d339311b65301fafe536", func := "fretwork/fretworktop.TopFiles", spec := "topFiles", unfollowed := true, recurses := true, plainKeys := false, apart := false, narrowed := true }
def TopFilesUptoSaid : Prop := topFilesUptoRow.holds Try.pinned (OpenSpec.upto topFilesSpec)

end Rows
end Go.Proofs.Ytfnhfmffkjljnaa
