/-
  No cell of these rows narrows 'for every input' (looked for: loops, veiled, ifaces, maps, wideKeys, modest, calm, conditions, laid).
  DERIVED. THE GIVEN ROWS OF THIS SEAT. 8 by the template 'for every input the law returns true; each argument reads behind the call as it read before'; 0 by the template 'total and deterministic' (their statements: YtchbfeejpdfmhaaTotals.lean).
  GIVEN WITH THE SEED: the statements are not yours to turn. If you find one false, say at which input.
  Laid BY PROGRAM, IN A SANDBOX (cutbox-rows.mjs): the forced cells as the released guide's own fill.sh prints them over the translation 89091795a8e99530… (all of the seat's roots in one cut). By AI agents, Wed Nov 11 2026. No macro, syntax, notation, axiom, sorry.
-/
import Derived.Test.YtchbfeejpdfmhaaChecked
import GoSem.Claim
import GoSem.ClaimJoined
import GoSem.ClaimMapViews
import Derived.JoinedTies
import Derived.KernelRfl
namespace Go.Proofs.Ytchbfeejpdfmhaa
/- THE CELL 'sum', in the pinned program and in every row, IS THE sha256 OF THE DUMP (.gsa) THAT YtchbfeejpdfmhaaProg.lean LOADS. Nothing in Lean hashes anything: it is a label: what it is worth is what the hold of that sum in a sandbox is worth. -/
noncomputable def Try.pinned : Pinned := { name := "ytchbfeejpdfmhaa", sum := "89091795a8e99530d17828832b1473a1a27c993c5ae06c9fdb9ae5668c0aa7bf", checked := Try.checked }
namespace Rows
def none {H : Type} : Left H := { results := [], args := [] }

/-- 'creellaw09.AdjParses': WHATEVER THE INPUT: true; the input reads as it did. -/
def adjParsesSpec : ChangeSpec := { name := "adjParses", fn := fun _ => fun
  | [d1, d2, d3] => { results := [.lit (.bool true)], args := [d1, d2, d3] }
  | _ => none }
def adjParsesRow : OpenClaim := { program := "ytchbfeejpdfmhaa", sum := "89091795a8e99530d17828832b1473a1a27c993c5ae06c9fdb9ae5668c0aa7bf", func := "creel/creellaw09.AdjParses", spec := "adjParses", apart := false }
def AdjParsesSaid : Prop := adjParsesRow.holds Try.pinned (OpenSpec.ofChange adjParsesSpec)

/-- ITS FALSE NEIGHBOUR: 'it returns false'. Refute it at one input. -/
def adjParsesWrong : ChangeSpec := { name := "adjParses", fn := fun _ => fun
  | [d1, d2, d3] => { results := [.lit (.bool false)], args := [d1, d2, d3] }
  | _ => none }
def AdjParsesWrongFalsely : Prop := adjParsesRow.holds Try.pinned (OpenSpec.ofChange adjParsesWrong)

/-- 'creellaw09.AdjOne': WHATEVER THE INPUT: true; the input reads as it did. -/
def adjOneSpec : ChangeSpec := { name := "adjOne", fn := fun _ => fun
  | [d1, d2] => { results := [.lit (.bool true)], args := [d1, d2] }
  | _ => none }
def adjOneRow : OpenClaim := { program := "ytchbfeejpdfmhaa", sum := "89091795a8e99530d17828832b1473a1a27c993c5ae06c9fdb9ae5668c0aa7bf", func := "creel/creellaw09.AdjOne", spec := "adjOne", apart := false }
def AdjOneSaid : Prop := adjOneRow.holds Try.pinned (OpenSpec.ofChange adjOneSpec)

/-- ITS FALSE NEIGHBOUR: 'it returns false'. Refute it at one input. -/
def adjOneWrong : ChangeSpec := { name := "adjOne", fn := fun _ => fun
  | [d1, d2] => { results := [.lit (.bool false)], args := [d1, d2] }
  | _ => none }
def AdjOneWrongFalsely : Prop := adjOneRow.holds Try.pinned (OpenSpec.ofChange adjOneWrong)

/-- 'creellaw09.AdjEdge': WHATEVER THE INPUT: true; the input reads as it did. -/
def adjEdgeSpec : ChangeSpec := { name := "adjEdge", fn := fun _ => fun
  | [d1, d2, d3] => { results := [.lit (.bool true)], args := [d1, d2, d3] }
  | _ => none }
def adjEdgeRow : OpenClaim := { program := "ytchbfeejpdfmhaa", sum := "89091795a8e99530d17828832b1473a1a27c993c5ae06c9fdb9ae5668c0aa7bf", func := "creel/creellaw09.AdjEdge", spec := "adjEdge", apart := false }
def AdjEdgeSaid : Prop := adjEdgeRow.holds Try.pinned (OpenSpec.ofChange adjEdgeSpec)

/-- ITS FALSE NEIGHBOUR: 'it returns false'. Refute it at one input. -/
def adjEdgeWrong : ChangeSpec := { name := "adjEdge", fn := fun _ => fun
  | [d1, d2, d3] => { results := [.lit (.bool false)], args := [d1, d2, d3] }
  | _ => none }
def AdjEdgeWrongFalsely : Prop := adjEdgeRow.holds Try.pinned (OpenSpec.ofChange adjEdgeWrong)

/-- 'creellaw11.FeedParts': WHATEVER THE INPUT: true; the input reads as it did. -/
def feedPartsSpec : ChangeSpec := { name := "feedParts", fn := fun _ => fun
  | [d1, d2, d3, d4] => { results := [.lit (.bool true)], args := [d1, d2, d3, d4] }
  | _ => none }
def feedPartsRow : OpenClaim := { program := "ytchbfeejpdfmhaa", sum := "89091795a8e99530d17828832b1473a1a27c993c5ae06c9fdb9ae5668c0aa7bf", func := "creel/creellaw11.FeedParts", spec := "feedParts", inPlace := ["internal/bytealg.IndexByte", "internal/bytealg.Index"], unfollowed := true, recurses := true, named := ["internal/bytealg.MaxLen"], apart := false }
def FeedPartsSaid : Prop := feedPartsRow.holds Try.pinned (OpenSpec.ofChange feedPartsSpec)

/-- ITS FALSE NEIGHBOUR: 'it returns false'. Refute it at one input. -/
def feedPartsWrong : ChangeSpec := { name := "feedParts", fn := fun _ => fun
  | [d1, d2, d3, d4] => { results := [.lit (.bool false)], args := [d1, d2, d3, d4] }
  | _ => none }
def FeedPartsWrongFalsely : Prop := feedPartsRow.holds Try.pinned (OpenSpec.ofChange feedPartsWrong)

/-- 'creellaw11.FeedEnds': WHATEVER THE INPUT: true; the input reads as it did. -/
def feedEndsSpec : ChangeSpec := { name := "feedEnds", fn := fun _ => fun
  | [d1, d2, d3] => { results := [.lit (.bool true)], args := [d1, d2, d3] }
  | _ => none }
def feedEndsRow : OpenClaim := { program := "ytchbfeejpdfmhaa", sum := "89091795a8e99530d17828832b1473a1a27c993c5ae06c9fdb9ae5668c0aa7bf", func := "creel/creellaw11.FeedEnds", spec := "feedEnds", inPlace := ["internal/bytealg.IndexByte", "internal/bytealg.Index"], unfollowed := true, recurses := true, named := ["internal/bytealg.MaxLen"], apart := false }
def FeedEndsSaid : Prop := feedEndsRow.holds Try.pinned (OpenSpec.ofChange feedEndsSpec)

/-- ITS FALSE NEIGHBOUR: 'it returns false'. Refute it at one input. -/
def feedEndsWrong : ChangeSpec := { name := "feedEnds", fn := fun _ => fun
  | [d1, d2, d3] => { results := [.lit (.bool false)], args := [d1, d2, d3] }
  | _ => none }
def FeedEndsWrongFalsely : Prop := feedEndsRow.holds Try.pinned (OpenSpec.ofChange feedEndsWrong)

/-- 'creellaw11.FeedTells': WHATEVER THE INPUT: true; the input reads as it did. -/
def feedTellsSpec : ChangeSpec := { name := "feedTells", fn := fun _ => fun
  | [d1, d2] => { results := [.lit (.bool true)], args := [d1, d2] }
  | _ => none }
def feedTellsRow : OpenClaim := { program := "ytchbfeejpdfmhaa", sum := "89091795a8e99530d17828832b1473a1a27c993c5ae06c9fdb9ae5668c0aa7bf", func := "creel/creellaw11.FeedTells", spec := "feedTells", inPlace := ["internal/bytealg.IndexByte", "internal/bytealg.Index"], unfollowed := true, recurses := true, named := ["internal/bytealg.MaxLen"], apart := false }
def FeedTellsSaid : Prop := feedTellsRow.holds Try.pinned (OpenSpec.ofChange feedTellsSpec)

/-- ITS FALSE NEIGHBOUR: 'it returns false'. Refute it at one input. -/
def feedTellsWrong : ChangeSpec := { name := "feedTells", fn := fun _ => fun
  | [d1, d2] => { results := [.lit (.bool false)], args := [d1, d2] }
  | _ => none }
def FeedTellsWrongFalsely : Prop := feedTellsRow.holds Try.pinned (OpenSpec.ofChange feedTellsWrong)

/-- 'creellaw11.FeedSkips': WHATEVER THE INPUT: true; the input reads as it did. -/
def feedSkipsSpec : ChangeSpec := { name := "feedSkips", fn := fun _ => fun
  | [d1, d2] => { results := [.lit (.bool true)], args := [d1, d2] }
  | _ => none }
def feedSkipsRow : OpenClaim := { program := "ytchbfeejpdfmhaa", sum := "89091795a8e99530d17828832b1473a1a27c993c5ae06c9fdb9ae5668c0aa7bf", func := "creel/creellaw11.FeedSkips", spec := "feedSkips", inPlace := ["internal/bytealg.IndexByte", "internal/bytealg.Index"], unfollowed := true, recurses := true, named := ["internal/bytealg.MaxLen"], apart := false }
def FeedSkipsSaid : Prop := feedSkipsRow.holds Try.pinned (OpenSpec.ofChange feedSkipsSpec)

/-- ITS FALSE NEIGHBOUR: 'it returns false'. Refute it at one input. -/
def feedSkipsWrong : ChangeSpec := { name := "feedSkips", fn := fun _ => fun
  | [d1, d2] => { results := [.lit (.bool false)], args := [d1, d2] }
  | _ => none }
def FeedSkipsWrongFalsely : Prop := feedSkipsRow.holds Try.pinned (OpenSpec.ofChange feedSkipsWrong)

/-- 'creellaw11.FeedNone': WHATEVER THE INPUT: true; the input reads as it did. -/
def feedNoneSpec : ChangeSpec := { name := "feedNone", fn := fun _ => fun
  | [d1, d2] => { results := [.lit (.bool true)], args := [d1, d2] }
  | _ => none }
def feedNoneRow : OpenClaim := { program := "ytchbfeejpdfmhaa", sum := "89091795a8e99530d17828832b1473a1a27c993c5ae06c9fdb9ae5668c0aa7bf", func := "creel/creellaw11.FeedNone", spec := "feedNone", inPlace := ["internal/bytealg.IndexByte", "internal/bytealg.Index"], unfollowed := true, recurses := true, named := ["internal/bytealg.MaxLen"], apart := false }
def FeedNoneSaid : Prop := feedNoneRow.holds Try.pinned (OpenSpec.ofChange feedNoneSpec)

/-- ITS FALSE NEIGHBOUR: 'it returns false'. Refute it at one input. -/
def feedNoneWrong : ChangeSpec := { name := "feedNone", fn := fun _ => fun
  | [d1, d2] => { results := [.lit (.bool false)], args := [d1, d2] }
  | _ => none }
def FeedNoneWrongFalsely : Prop := feedNoneRow.holds Try.pinned (OpenSpec.ofChange feedNoneWrong)

/- THE SECOND FORM. 'bulk': how many values and letters a reading holds, each counted each time it is reached (what is shared counts as often as it is met; a slice's spare places count too). A statement '..UptoSaid' is the law's where the arguments, and the package variables that the reading takes, are together of bulk at most 1048576: NARROWER than '..Said'. Prove '..Said' where nothing that the law and all that it calls make is longer than what came in: it says more and counts as full. Else prove '..UptoSaid'. A law counts once. -/
mutual
def uptoBulk {H : Type} : DataW H → Nat
  | .lit (.string bytes) => bytes.length + 1
  | .lit _ => 1
  | .nil => 1
  | .ptr d => uptoBulk d + 1
  | .slice elems spare => uptoBulkAll elems + uptoBulkAll spare + 1
  | .agg parts => uptoBulkAll parts + 1
  | .iface _ d => uptoBulk d + 1
  | .map entries => uptoBulkEntries entries + 1
  | .held _ => 1
def uptoBulkAll {H : Type} : List (DataW H) → Nat
  | [] => 0
  | d :: r => uptoBulk d + uptoBulkAll r
def uptoBulkEntries {H : Type} : List (Lit × DataW H) → Nat
  | [] => 0
  | x :: r => uptoBulkEntry x + uptoBulkEntries r
def uptoBulkEntry {H : Type} : Lit × DataW H → Nat
  | (.string bytes, d) => bytes.length + uptoBulk d + 1
  | (_, d) => uptoBulk d + 1
 end
def uptoSmall : (H : Type) → List (DataW H) → Bool := fun _ ds => decide (uptoBulkAll ds ≤ 1048576)
def OpenSpec.upto (s : _root_.Go.ChangeSpec) : _root_.Go.OpenSpec := { _root_.Go.OpenSpec.ofChange s with cond := some uptoSmall }

/-- 'creellaw09.AdjParses', WHERE WHAT IT READS IS OF BULK AT MOST 1048576: true; the input reads as it did. -/
def adjParsesUptoRow : OpenClaim := { program := "ytchbfeejpdfmhaa", sum := "89091795a8e99530d17828832b1473a1a27c993c5ae06c9fdb9ae5668c0aa7bf", func := "creel/creellaw09.AdjParses", spec := "adjParses", apart := false, narrowed := true }
def AdjParsesUptoSaid : Prop := adjParsesUptoRow.holds Try.pinned (OpenSpec.upto adjParsesSpec)

/-- 'creellaw09.AdjOne', WHERE WHAT IT READS IS OF BULK AT MOST 1048576: true; the input reads as it did. -/
def adjOneUptoRow : OpenClaim := { program := "ytchbfeejpdfmhaa", sum := "89091795a8e99530d17828832b1473a1a27c993c5ae06c9fdb9ae5668c0aa7bf", func := "creel/creellaw09.AdjOne", spec := "adjOne", apart := false, narrowed := true }
def AdjOneUptoSaid : Prop := adjOneUptoRow.holds Try.pinned (OpenSpec.upto adjOneSpec)

/-- 'creellaw09.AdjEdge', WHERE WHAT IT READS IS OF BULK AT MOST 1048576: true; the input reads as it did. -/
def adjEdgeUptoRow : OpenClaim := { program := "ytchbfeejpdfmhaa", sum := "89091795a8e99530d17828832b1473a1a27c993c5ae06c9fdb9ae5668c0aa7bf", func := "creel/creellaw09.AdjEdge", spec := "adjEdge", apart := false, narrowed := true }
def AdjEdgeUptoSaid : Prop := adjEdgeUptoRow.holds Try.pinned (OpenSpec.upto adjEdgeSpec)

/-- 'creellaw11.FeedParts', WHERE WHAT IT READS IS OF BULK AT MOST 1048576: true; the input reads as it did. -/
def feedPartsUptoRow : OpenClaim := { program := "ytchbfeejpdfmhaa", sum := "89091795a8e99530d17828832b1473a1a27c993c5ae06c9fdb9ae5668c0aa7bf", func := "creel/creellaw11.FeedParts", spec := "feedParts", inPlace := ["internal/bytealg.IndexByte", "internal/bytealg.Index"], unfollowed := true, recurses := true, named := ["internal/bytealg.MaxLen"], apart := false, narrowed := true }
def FeedPartsUptoSaid : Prop := feedPartsUptoRow.holds Try.pinned (OpenSpec.upto feedPartsSpec)

/-- 'creellaw11.FeedEnds', WHERE WHAT IT READS IS OF BULK AT MOST 1048576: true; the input reads as it did. -/
def feedEndsUptoRow : OpenClaim := { program := "ytchbfeejpdfmhaa", sum := "89091795a8e99530d17828832b1473a1a27c993c5ae06c9fdb9ae5668c0aa7bf", func := "creel/creellaw11.FeedEnds", spec := "feedEnds", inPlace := ["internal/bytealg.IndexByte", "internal/bytealg.Index"], unfollowed := true, recurses := true, named := ["internal/bytealg.MaxLen"], apart := false, narrowed := true }
def FeedEndsUptoSaid : Prop := feedEndsUptoRow.holds Try.pinned (OpenSpec.upto feedEndsSpec)

/-- 'creellaw11.FeedTells', WHERE WHAT IT READS IS OF BULK AT MOST 1048576: true; the input reads as it did. -/
def feedTellsUptoRow : OpenClaim := { program := "ytchbfeejpdfmhaa", sum := "89091795a8e99530d17828832b1473a1a27c993c5ae06c9fdb9ae5668c0aa7bf", func := "creel/creellaw11.FeedTells", spec := "feedTells", inPlace := ["internal/bytealg.IndexByte", "internal/bytealg.Index"], unfollowed := true, recurses := true, named := ["internal/bytealg.MaxLen"], apart := false, narrowed := true }
def FeedTellsUptoSaid : Prop := feedTellsUptoRow.holds Try.pinned (OpenSpec.upto feedTellsSpec)

/-- 'creellaw11.FeedSkips', WHERE WHAT IT READS IS OF BULK AT MOST 1048576: true; the input reads as it did. -/
def feedSkipsUptoRow : OpenClaim := { program := "ytchbfeejpdfmhaa", sum := "89091795a8e99530d17828832b1473a1a27c993c5ae06c9fdb9ae5668c0aa7bf", func := "creel/creellaw11.FeedSkips", spec := "feedSkips", inPlace := ["internal/bytealg.IndexByte", "internal/bytealg.Index"], unfollowed := true, recurses := true, named := ["internal/bytealg.MaxLen"], apart := false, narrowed := true }
def FeedSkipsUptoSaid : Prop := feedSkipsUptoRow.holds Try.pinned (OpenSpec.upto feedSkipsSpec)

/-- 'creellaw11.FeedNone', WHERE WHAT IT READS IS OF BULK AT MOST 1048576: true; the input reads as it did. -/
def feedNoneUptoRow : OpenClaim := { program := "ytchbfeejpdfmhaa", sum := "89091795a8e99530d17828832b1473a1a27c993c5ae06c9fdb9ae5668c0aa7bf", func := "creel/creellaw11.FeedNone", spec := "feedNone", inPlace := ["internal/bytealg.IndexByte", "internal/bytealg.Index"], unfollowed := true, recurses := true, named := ["internal/bytealg.MaxLen"], apart := false, narrowed := true }
def FeedNoneUptoSaid : Prop := feedNoneUptoRow.holds Try.pinned (OpenSpec.upto feedNoneSpec)

end Rows
end Go.Proofs.Ytchbfeejpdfmhaa
