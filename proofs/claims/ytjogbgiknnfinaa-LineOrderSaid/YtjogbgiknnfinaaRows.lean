/-
  No cell of these rows narrows 'for every input' (looked for: loops, veiled, ifaces, maps, wideKeys, modest, calm, conditions, laid).
  DERIVED. THE GIVEN ROWS OF THIS SEAT. 9 by the template 'for every input the law returns true; each argument reads behind the call as it read before'; 0 by the template 'total and deterministic' (their statements: YtjogbgiknnfinaaTotals.lean).
  GIVEN WITH THE SEED: the statements are not yours to turn. If you find one false, say at which input.
  Laid BY PROGRAM, IN A SANDBOX (cutbox-rows.mjs): the forced cells as the released guide's own fill.sh prints them over the translation 45fc22b32318b4c4… (all of the seat's roots in one cut). By AI agents, Wed Nov 11 2026. No macro, syntax, notation, axiom, sorry.
-/
import Derived.Test.YtjogbgiknnfinaaChecked
import GoSem.Claim
import GoSem.ClaimJoined
import GoSem.ClaimMapViews
import Derived.JoinedTies
import Derived.KernelRfl
namespace Go.Proofs.Ytjogbgiknnfinaa
/- THE CELL 'sum', in the pinned program and in every row, IS THE sha256 OF THE DUMP (.gsa) THAT YtjogbgiknnfinaaProg.lean LOADS. Nothing in Lean hashes anything: it is a label: what it is worth is what the hold of that sum in a sandbox is worth. -/
noncomputable def Try.pinned : Pinned := { name := "ytjogbgiknnfinaa", sum := "45fc22b32318b4c48cd0c97ea18c6e7db8fa30741d4a13c283a8019d1f12d0db", checked := Try.checked }
namespace Rows
def none {H : Type} : Left H := { results := [], args := [] }

/-- 'creellaw08.EdgeParses': WHATEVER THE INPUT: true; the input reads as it did. -/
def edgeParsesSpec : ChangeSpec := { name := "edgeParses", fn := fun _ => fun
  | [d1, d2, d3] => { results := [.lit (.bool true)], args := [d1, d2, d3] }
  | _ => none }
def edgeParsesRow : OpenClaim := { program := "ytjogbgiknnfinaa", sum := "45fc22b32318b4c48cd0c97ea18c6e7db8fa30741d4a13c283a8019d1f12d0db", func := "creel/creellaw08.EdgeParses", spec := "edgeParses", apart := false }
def EdgeParsesSaid : Prop := edgeParsesRow.holds Try.pinned (OpenSpec.ofChange edgeParsesSpec)

/-- ITS FALSE NEIGHBOUR: 'it returns false'. Refute it at one input. -/
def edgeParsesWrong : ChangeSpec := { name := "edgeParses", fn := fun _ => fun
  | [d1, d2, d3] => { results := [.lit (.bool false)], args := [d1, d2, d3] }
  | _ => none }
def EdgeParsesWrongFalsely : Prop := edgeParsesRow.holds Try.pinned (OpenSpec.ofChange edgeParsesWrong)

/-- 'creellaw08.EdgeOrder': WHATEVER THE INPUT: true; the input reads as it did. -/
def edgeOrderSpec : ChangeSpec := { name := "edgeOrder", fn := fun _ => fun
  | [d1, d2] => { results := [.lit (.bool true)], args := [d1, d2] }
  | _ => none }
def edgeOrderRow : OpenClaim := { program := "ytjogbgiknnfinaa", sum := "45fc22b32318b4c48cd0c97ea18c6e7db8fa30741d4a13c283a8019d1f12d0db", func := "creel/creellaw08.EdgeOrder", spec := "edgeOrder", recurses := true, apart := false }
def EdgeOrderSaid : Prop := edgeOrderRow.holds Try.pinned (OpenSpec.ofChange edgeOrderSpec)

/-- ITS FALSE NEIGHBOUR: 'it returns false'. Refute it at one input. -/
def edgeOrderWrong : ChangeSpec := { name := "edgeOrder", fn := fun _ => fun
  | [d1, d2] => { results := [.lit (.bool false)], args := [d1, d2] }
  | _ => none }
def EdgeOrderWrongFalsely : Prop := edgeOrderRow.holds Try.pinned (OpenSpec.ofChange edgeOrderWrong)

/-- 'creellaw08.EdgeTwo': WHATEVER THE INPUT: true; the input reads as it did. -/
def edgeTwoSpec : ChangeSpec := { name := "edgeTwo", fn := fun _ => fun
  | [d1, d2, d3] => { results := [.lit (.bool true)], args := [d1, d2, d3] }
  | _ => none }
def edgeTwoRow : OpenClaim := { program := "ytjogbgiknnfinaa", sum := "45fc22b32318b4c48cd0c97ea18c6e7db8fa30741d4a13c283a8019d1f12d0db", func := "creel/creellaw08.EdgeTwo", spec := "edgeTwo", apart := false }
def EdgeTwoSaid : Prop := edgeTwoRow.holds Try.pinned (OpenSpec.ofChange edgeTwoSpec)

/-- ITS FALSE NEIGHBOUR: 'it returns false'. Refute it at one input. -/
def edgeTwoWrong : ChangeSpec := { name := "edgeTwo", fn := fun _ => fun
  | [d1, d2, d3] => { results := [.lit (.bool false)], args := [d1, d2, d3] }
  | _ => none }
def EdgeTwoWrongFalsely : Prop := edgeTwoRow.holds Try.pinned (OpenSpec.ofChange edgeTwoWrong)

/-- 'creellaw07.LineOrder': WHATEVER THE INPUT: true; the input reads as it did. -/
def lineOrderSpec : ChangeSpec := { name := "lineOrder", fn := fun _ => fun
  | [d] => { results := [.lit (.bool true)], args := [d] }
  | _ => none }
def lineOrderRow : OpenClaim := { program := "ytjogbgiknnfinaa", sum := "45fc22b32318b4c48cd0c97ea18c6e7db8fa30741d4a13c283a8019d1f12d0db", func := "creel/creellaw07.LineOrder", spec := "lineOrder", inPlace := ["internal/bytealg.IndexByte", "internal/bytealg.Index"], unfollowed := true, recurses := true, named := ["internal/bytealg.MaxLen"], apart := false }
def LineOrderSaid : Prop := lineOrderRow.holds Try.pinned (OpenSpec.ofChange lineOrderSpec)

/-- ITS FALSE NEIGHBOUR: 'it returns false'. Refute it at one input. -/
def lineOrderWrong : ChangeSpec := { name := "lineOrder", fn := fun _ => fun
  | [d] => { results := [.lit (.bool false)], args := [d] }
  | _ => none }
def LineOrderWrongFalsely : Prop := lineOrderRow.holds Try.pinned (OpenSpec.ofChange lineOrderWrong)

/-- 'creellaw07.LineEnds': WHATEVER THE INPUT: true; the input reads as it did. -/
def lineEndsSpec : ChangeSpec := { name := "lineEnds", fn := fun _ => fun
  | [d1, d2] => { results := [.lit (.bool true)], args := [d1, d2] }
  | _ => none }
def lineEndsRow : OpenClaim := { program := "ytjogbgiknnfinaa", sum := "45fc22b32318b4c48cd0c97ea18c6e7db8fa30741d4a13c283a8019d1f12d0db", func := "creel/creellaw07.LineEnds", spec := "lineEnds", inPlace := ["internal/bytealg.IndexByte", "internal/bytealg.Index"], unfollowed := true, recurses := true, named := ["internal/bytealg.MaxLen"], apart := false }
def LineEndsSaid : Prop := lineEndsRow.holds Try.pinned (OpenSpec.ofChange lineEndsSpec)

/-- ITS FALSE NEIGHBOUR: 'it returns false'. Refute it at one input. -/
def lineEndsWrong : ChangeSpec := { name := "lineEnds", fn := fun _ => fun
  | [d1, d2] => { results := [.lit (.bool false)], args := [d1, d2] }
  | _ => none }
def LineEndsWrongFalsely : Prop := lineEndsRow.holds Try.pinned (OpenSpec.ofChange lineEndsWrong)

/-- 'creellaw07.LineParts': WHATEVER THE INPUT: true; the input reads as it did. -/
def linePartsSpec : ChangeSpec := { name := "lineParts", fn := fun _ => fun
  | [d1, d2] => { results := [.lit (.bool true)], args := [d1, d2] }
  | _ => none }
def linePartsRow : OpenClaim := { program := "ytjogbgiknnfinaa", sum := "45fc22b32318b4c48cd0c97ea18c6e7db8fa30741d4a13c283a8019d1f12d0db", func := "creel/creellaw07.LineParts", spec := "lineParts", inPlace := ["internal/bytealg.IndexByte", "internal/bytealg.Index"], unfollowed := true, recurses := true, named := ["internal/bytealg.MaxLen"], apart := false }
def LinePartsSaid : Prop := linePartsRow.holds Try.pinned (OpenSpec.ofChange linePartsSpec)

/-- ITS FALSE NEIGHBOUR: 'it returns false'. Refute it at one input. -/
def linePartsWrong : ChangeSpec := { name := "lineParts", fn := fun _ => fun
  | [d1, d2] => { results := [.lit (.bool false)], args := [d1, d2] }
  | _ => none }
def LinePartsWrongFalsely : Prop := linePartsRow.holds Try.pinned (OpenSpec.ofChange linePartsWrong)

/-- 'creellaw07.LineTells': WHATEVER THE INPUT: true; the input reads as it did. -/
def lineTellsSpec : ChangeSpec := { name := "lineTells", fn := fun _ => fun
  | [d] => { results := [.lit (.bool true)], args := [d] }
  | _ => none }
def lineTellsRow : OpenClaim := { program := "ytjogbgiknnfinaa", sum := "45fc22b32318b4c48cd0c97ea18c6e7db8fa30741d4a13c283a8019d1f12d0db", func := "creel/creellaw07.LineTells", spec := "lineTells", inPlace := ["internal/bytealg.IndexByte", "internal/bytealg.Index"], unfollowed := true, recurses := true, named := ["internal/bytealg.MaxLen"], apart := false }
def LineTellsSaid : Prop := lineTellsRow.holds Try.pinned (OpenSpec.ofChange lineTellsSpec)

/-- ITS FALSE NEIGHBOUR: 'it returns false'. Refute it at one input. -/
def lineTellsWrong : ChangeSpec := { name := "lineTells", fn := fun _ => fun
  | [d] => { results := [.lit (.bool false)], args := [d] }
  | _ => none }
def LineTellsWrongFalsely : Prop := lineTellsRow.holds Try.pinned (OpenSpec.ofChange lineTellsWrong)

/-- 'creellaw07.LineWords': WHATEVER THE INPUT: true; the input reads as it did. -/
def lineWordsSpec : ChangeSpec := { name := "lineWords", fn := fun _ => fun
  | [d1, d2] => { results := [.lit (.bool true)], args := [d1, d2] }
  | _ => none }
def lineWordsRow : OpenClaim := { program := "ytjogbgiknnfinaa", sum := "45fc22b32318b4c48cd0c97ea18c6e7db8fa30741d4a13c283a8019d1f12d0db", func := "creel/creellaw07.LineWords", spec := "lineWords", inPlace := ["internal/bytealg.IndexByte", "internal/bytealg.Index"], unfollowed := true, recurses := true, named := ["internal/bytealg.MaxLen"], apart := false }
def LineWordsSaid : Prop := lineWordsRow.holds Try.pinned (OpenSpec.ofChange lineWordsSpec)

/-- ITS FALSE NEIGHBOUR: 'it returns false'. Refute it at one input. -/
def lineWordsWrong : ChangeSpec := { name := "lineWords", fn := fun _ => fun
  | [d1, d2] => { results := [.lit (.bool false)], args := [d1, d2] }
  | _ => none }
def LineWordsWrongFalsely : Prop := lineWordsRow.holds Try.pinned (OpenSpec.ofChange lineWordsWrong)

/-- 'creellaw07.LineBare': WHATEVER THE INPUT: true; the input reads as it did. -/
def lineBareSpec : ChangeSpec := { name := "lineBare", fn := fun _ => fun
  | [d1, d2] => { results := [.lit (.bool true)], args := [d1, d2] }
  | _ => none }
def lineBareRow : OpenClaim := { program := "ytjogbgiknnfinaa", sum := "45fc22b32318b4c48cd0c97ea18c6e7db8fa30741d4a13c283a8019d1f12d0db", func := "creel/creellaw07.LineBare", spec := "lineBare", inPlace := ["internal/bytealg.IndexByte", "internal/bytealg.Index"], unfollowed := true, recurses := true, named := ["internal/bytealg.MaxLen"], apart := false }
def LineBareSaid : Prop := lineBareRow.holds Try.pinned (OpenSpec.ofChange lineBareSpec)

/-- ITS FALSE NEIGHBOUR: 'it returns false'. Refute it at one input. -/
def lineBareWrong : ChangeSpec := { name := "lineBare", fn := fun _ => fun
  | [d1, d2] => { results := [.lit (.bool false)], args := [d1, d2] }
  | _ => none }
def LineBareWrongFalsely : Prop := lineBareRow.holds Try.pinned (OpenSpec.ofChange lineBareWrong)

/- THE SECOND FORM. 'bulk': how many values and letters a reading holds, each counted each time it is reached (what is shared counts as often as it is met; a slice's spare places count too). A statement '..UptoSaid' is the law's where the arguments, and the package variables that the reading takes, are together of bulk at most 1048576: NARROWER than '..Said'. Prove '..Said' where nothing that the law and all that it calls make is longer than what came in: it says more and counts as full. Else prove '..UptoSaid'. A law counts once. -/
mutual
def uptoBulk {H : Type} : DataW H → Nat
  | .lit (.string bytes) => bytes.length + 1
  | .lit _ => 1
  | .nil => 1
  | .ptr d => uptoBulk d + 1
  | .slice elems spare => uptoBulkAll elems + uptoBulkAll spare + 1
  | .agg parts => uptoBulkAll parts + 1
  | .iface _ d => uptoBulk d + 1
  | .map entries => uptoBulkEntries entries + 1
  | .held _ => 1
def uptoBulkAll {H : Type} : List (DataW H) → Nat
  | [] => 0
  | d :: r => uptoBulk d + uptoBulkAll r
def uptoBulkEntries {H : Type} : List (Lit × DataW H) → Nat
  | [] => 0
  | x :: r => uptoBulkEntry x + uptoBulkEntries r
def uptoBulkEntry {H : Type} : Lit × DataW H → Nat
  | (.string bytes, d) => bytes.length + uptoBulk d + 1
  | (_, d) => uptoBulk d + 1
 end
def uptoSmall : (H : Type) → List (DataW H) → Bool := fun _ ds => decide (uptoBulkAll ds ≤ 1048576)
def OpenSpec.upto (s : _root_.Go.ChangeSpec) : _root_.Go.OpenSpec := { _root_.Go.OpenSpec.ofChange s with cond := some uptoSmall }

/-- 'creellaw08.EdgeParses', WHERE WHAT IT READS IS OF BULK AT MOST 1048576: true; the input reads as it did. -/
def edgeParsesUptoRow : OpenClaim := { program := "ytjogbgiknnfinaa", sum := "45fc22b32318b4c48cd0c97ea18c6e7db8fa30741d4a13c283a8019d1f12d0db", func := "creel/creellaw08.EdgeParses", spec := "edgeParses", apart := false, narrowed := true }
def EdgeParsesUptoSaid : Prop := edgeParsesUptoRow.holds Try.pinned (OpenSpec.upto edgeParsesSpec)

/-- 'creellaw08.EdgeOrder', WHERE WHAT IT READS IS OF BULK AT MOST 1048576: true; the input reads as it did. -/
def edgeOrderUptoRow : OpenClaim := { program := "ytjogbgiknnfinaa", sum := "45fc22b32318b4c48cd0c97ea18c6e7db8fa30741d4a13c283a8019d1f12d0db", func := "creel/creellaw08.EdgeOrder", spec := "edgeOrder", recurses := true, apart := false, narrowed := true }
def EdgeOrderUptoSaid : Prop := edgeOrderUptoRow.holds Try.pinned (OpenSpec.upto edgeOrderSpec)

/-- 'creellaw08.EdgeTwo', WHERE WHAT IT READS IS OF BULK AT MOST 1048576: true; the input reads as it did. -/
def edgeTwoUptoRow : OpenClaim := { program := "ytjogbgiknnfinaa", sum := "45fc22b32318b4c48cd0c97ea18c6e7db8fa30741d4a13c283a8019d1f12d0db", func := "creel/creellaw08.EdgeTwo", spec := "edgeTwo", apart := false, narrowed := true }
def EdgeTwoUptoSaid : Prop := edgeTwoUptoRow.holds Try.pinned (OpenSpec.upto edgeTwoSpec)

/-- 'creellaw07.LineOrder', WHERE WHAT IT READS IS OF BULK AT MOST 1048576: true; the input reads as it did. -/
def lineOrderUptoRow : OpenClaim := { program := "ytjogbgiknnfinaa", sum := "45fc22b32318b4c48cd0c97ea18c6e7db8fa30741d4a13c283a8019d1f12d0db", func := "creel/creellaw07.LineOrder", spec := "lineOrder", inPlace := ["internal/bytealg.IndexByte", "internal/bytealg.Index"], unfollowed := true, recurses := true, named := ["internal/bytealg.MaxLen"], apart := false, narrowed := true }
def LineOrderUptoSaid : Prop := lineOrderUptoRow.holds Try.pinned (OpenSpec.upto lineOrderSpec)

/-- 'creellaw07.LineEnds', WHERE WHAT IT READS IS OF BULK AT MOST 1048576: true; the input reads as it did. -/
def lineEndsUptoRow : OpenClaim := { program := "ytjogbgiknnfinaa", sum := "45fc22b32318b4c48cd0c97ea18c6e7db8fa30741d4a13c283a8019d1f12d0db", func := "creel/creellaw07.LineEnds", spec := "lineEnds", inPlace := ["internal/bytealg.IndexByte", "internal/bytealg.Index"], unfollowed := true, recurses := true, named := ["internal/bytealg.MaxLen"], apart := false, narrowed := true }
def LineEndsUptoSaid : Prop := lineEndsUptoRow.holds Try.pinned (OpenSpec.upto lineEndsSpec)

/-- 'creellaw07.LineParts', WHERE WHAT IT READS IS OF BULK AT MOST 1048576: true; the input reads as it did. -/
def linePartsUptoRow : OpenClaim := { program := "ytjogbgiknnfinaa", sum := "45fc22b32318b4c48cd0c97ea18c6e7db8fa30741d4a13c283a8019d1f12d0db", func := "creel/creellaw07.LineParts", spec := "lineParts", inPlace := ["internal/bytealg.IndexByte", "internal/bytealg.Index"], unfollowed := true, recurses := true, named := ["internal/bytealg.MaxLen"], apart := false, narrowed := true }
def LinePartsUptoSaid : Prop := linePartsUptoRow.holds Try.pinned (OpenSpec.upto linePartsSpec)

/-- 'creellaw07.LineTells', WHERE WHAT IT READS IS OF BULK AT MOST 1048576: true; the input reads as it did. -/
def lineTellsUptoRow : OpenClaim := { program := "ytjogbgiknnfinaa", sum := "45fc22b32318b4c48cd0c97ea18c6e7db8fa30741d4a13c283a8019d1f12d0db", func := "creel/creellaw07.LineTells", spec := "lineTells", inPlace := ["internal/bytealg.IndexByte", "internal/bytealg.Index"], unfollowed := true, recurses := true, named := ["internal/bytealg.MaxLen"], apart := false, narrowed := true }
def LineTellsUptoSaid : Prop := lineTellsUptoRow.holds Try.pinned (OpenSpec.upto lineTellsSpec)

/-- 'creellaw07.LineWords', WHERE WHAT IT READS IS OF BULK AT MOST 1048576: true; the input reads as it did. -/
def lineWordsUptoRow : OpenClaim := { program := "ytjogbgiknnfinaa", sum := "45fc22b32318b4c48cd0c97ea18c6e7db8fa30741d4a13c283a8019d1f12d0db", func := "creel/creellaw07.LineWords", spec := "lineWords", inPlace := ["internal/bytealg.IndexByte", "internal/bytealg.Index"], unfollowed := true, recurses := true, named := ["internal/bytealg.MaxLen"], apart := false, narrowed := true }
def LineWordsUptoSaid : Prop := lineWordsUptoRow.holds Try.pinned (OpenSpec.upto lineWordsSpec)

/-- 'creellaw07.LineBare', WHERE WHAT IT READS IS OF BULK AT MOST 1048576: true; the input reads as it did. -/
def lineBareUptoRow : OpenClaim := { program := "ytjogbgiknnfinaa", sum := "45fc22b32318b4c48cd0c97ea18c6e7db8fa30741d4a13c283a8019d1f12d0db", func := "creel/creellaw07.LineBare", spec := "lineBare", inPlace := ["internal/bytealg.IndexByte", "internal/bytealg.Index"], unfollowed := true, recurses := true, named := ["internal/bytealg.MaxLen"], apart := false, narrowed := true }
def LineBareUptoSaid : Prop := lineBareUptoRow.holds Try.pinned (OpenSpec.upto lineBareSpec)

end Rows
end Go.Proofs.Ytjogbgiknnfinaa
