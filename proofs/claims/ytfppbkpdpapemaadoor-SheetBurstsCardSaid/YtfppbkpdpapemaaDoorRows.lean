/-
  NARROWER THAN 'FOR EVERY INPUT', by the rows' own cells (each row's printed sentence says how): SheetNames: laid · SheetNotes: laid · SheetPuts: laid · SheetTakes: laid · SheetBack: laid · SheetBursts: laid.
  DERIVED. THE GIVEN ROWS OF THIS SEAT. 6 by the template 'for every input the law returns true; each argument reads behind the call as it read before'; 0 by the template 'total and deterministic' (their statements: YtfppbkpdpapemaaDoorTotals.lean).
  GIVEN WITH THE SEED: the statements are not yours to turn. If you find one false, say at which input.
  Laid BY PROGRAM, IN A SANDBOX (cutbox-rows.mjs): the forced cells as the released guide's own fill.sh prints them over the translation 03dfbc356e5a83b7… (all of the seat's roots in one cut). By AI agents, Wed Nov 11 2026. No macro, syntax, notation, axiom, sorry.
-/
import Derived.Test.YtfppbkpdpapemaaDoorChecked
import GoSem.Claim
import GoSem.ClaimJoined
import GoSem.ClaimMapViews
import Derived.JoinedTies
import Derived.KernelRfl
namespace Go.Proofs.YtfppbkpdpapemaaDoor
/- THE CELL 'sum', in the pinned program and in every row, IS THE sha256 OF THE DUMP (.gsa) THAT YtfppbkpdpapemaaDoorProg.lean LOADS. Nothing in Lean hashes anything: it is a label: what it is worth is what the hold of that sum in a sandbox is worth. -/
noncomputable def Tryd.pinned : Pinned := { name := "ytfppbkpdpapemaadoor", sum := "03dfbc356e5a83b749f0d27c9a6d6389ed4b343c59f96aaf8e216dee2fccbc89", checked := Tryd.checked }
namespace Rows
def none {H : Type} : Left H := { results := [], args := [] }

/- WHAT THE LISTED PACKAGE-LEVEL VARIABLES READ AS WHEN THE CALL BEGINS. Each datum BY PROGRAM (the guide's laid-datum.mjs) off the statement by which the dump's own 'gosem.cut.vars' lays the variable. In a bare row this is a premise. The card (YtfppbkpdpapemaaDoorCards.lean) ties it to the program's text. -/
def laid_math_bits_deBruijn32tab {H : Type} : DataW H := .agg [.lit (.int .u8 0), .lit (.int .u8 1), .lit (.int .u8 28), .lit (.int .u8 2), .lit (.int .u8 29), .lit (.int .u8 14), .lit (.int .u8 24), .lit (.int .u8 3), .lit (.int .u8 30), .lit (.int .u8 22), .lit (.int .u8 20), .lit (.int .u8 15), .lit (.int .u8 25), .lit (.int .u8 17), .lit (.int .u8 4), .lit (.int .u8 8), .lit (.int .u8 31), .lit (.int .u8 27), .lit (.int .u8 13), .lit (.int .u8 23), .lit (.int .u8 21), .lit (.int .u8 19), .lit (.int .u8 16), .lit (.int .u8 7), .lit (.int .u8 26), .lit (.int .u8 12), .lit (.int .u8 18), .lit (.int .u8 6), .lit (.int .u8 11), .lit (.int .u8 5), .lit (.int .u8 10), .lit (.int .u8 9)]
def laid_math_bits_deBruijn64tab {H : Type} : DataW H := .agg [.lit (.int .u8 0), .lit (.int .u8 1), .lit (.int .u8 56), .lit (.int .u8 2), .lit (.int .u8 57), .lit (.int .u8 49), .lit (.int .u8 28), .lit (.int .u8 3), .lit (.int .u8 61), .lit (.int .u8 58), .lit (.int .u8 42), .lit (.int .u8 50), .lit (.int .u8 38), .lit (.int .u8 29), .lit (.int .u8 17), .lit (.int .u8 4), .lit (.int .u8 62), .lit (.int .u8 47), .lit (.int .u8 59), .lit (.int .u8 36), .lit (.int .u8 45), .lit (.int .u8 43), .lit (.int .u8 51), .lit (.int .u8 22), .lit (.int .u8 53), .lit (.int .u8 39), .lit (.int .u8 33), .lit (.int .u8 30), .lit (.int .u8 24), .lit (.int .u8 18), .lit (.int .u8 12), .lit (.int .u8 5), .lit (.int .u8 63), .lit (.int .u8 55), .lit (.int .u8 48), .lit (.int .u8 27), .lit (.int .u8 60), .lit (.int .u8 41), .lit (.int .u8 37), .lit (.int .u8 16), .lit (.int .u8 46), .lit (.int .u8 35), .lit (.int .u8 44), .lit (.int .u8 21), .lit (.int .u8 52), .lit (.int .u8 32), .lit (.int .u8 23), .lit (.int .u8 11), .lit (.int .u8 54), .lit (.int .u8 26), .lit (.int .u8 40), .lit (.int .u8 15), .lit (.int .u8 34), .lit (.int .u8 20), .lit (.int .u8 31), .lit (.int .u8 10), .lit (.int .u8 25), .lit (.int .u8 14), .lit (.int .u8 19), .lit (.int .u8 9), .lit (.int .u8 13), .lit (.int .u8 8), .lit (.int .u8 7), .lit (.int .u8 6)]
def laid_internal_strconv_uint64pow10 {H : Type} : DataW H := .agg [.lit (.int .u64 1), .lit (.int .u64 10), .lit (.int .u64 100), .lit (.int .u64 1000), .lit (.int .u64 10000), .lit (.int .u64 100000), .lit (.int .u64 1000000), .lit (.int .u64 10000000), .lit (.int .u64 100000000), .lit (.int .u64 1000000000), .lit (.int .u64 10000000000), .lit (.int .u64 100000000000), .lit (.int .u64 1000000000000), .lit (.int .u64 10000000000000), .lit (.int .u64 100000000000000), .lit (.int .u64 1000000000000000), .lit (.int .u64 10000000000000000), .lit (.int .u64 100000000000000000), .lit (.int .u64 1000000000000000000), .lit (.int .u64 10000000000000000000)]

/-- 'creellaw20.SheetNames': WHATEVER THE INPUT: true; the input reads as it did. -/
def sheetNamesSpec : ChangeSpec := { name := "sheetNames", fn := fun _ => fun
  | [d] => { results := [.lit (.bool true)], args := [d] }
  | _ => none }
def sheetNamesRow : OpenClaim := { program := "ytfppbkpdpapemaadoor", sum := "03dfbc356e5a83b749f0d27c9a6d6389ed4b343c59f96aaf8e216dee2fccbc89", func := "creel/creellaw20.SheetNames", spec := "sheetNames", named := ["internal/strconv.uint64pow10", "math/bits.deBruijn32tab", "math/bits.deBruijn64tab"], apart := false, laid := [("math/bits.deBruijn32tab", laid_math_bits_deBruijn32tab), ("math/bits.deBruijn64tab", laid_math_bits_deBruijn64tab), ("internal/strconv.uint64pow10", laid_internal_strconv_uint64pow10)] }
def SheetNamesSaid : Prop := sheetNamesRow.holds Tryd.pinned (OpenSpec.ofChange sheetNamesSpec)

/-- ITS FALSE NEIGHBOUR: 'it returns false'. Refute it at one input. -/
def sheetNamesWrong : ChangeSpec := { name := "sheetNames", fn := fun _ => fun
  | [d] => { results := [.lit (.bool false)], args := [d] }
  | _ => none }
def SheetNamesWrongFalsely : Prop := sheetNamesRow.holds Tryd.pinned (OpenSpec.ofChange sheetNamesWrong)

/-- 'creellaw20.SheetNotes': WHATEVER THE INPUT: true; the input reads as it did. -/
def sheetNotesSpec : ChangeSpec := { name := "sheetNotes", fn := fun _ => fun
  | [d1, d2, d3, d4, d5, d6] => { results := [.lit (.bool true)], args := [d1, d2, d3, d4, d5, d6] }
  | _ => none }
def sheetNotesRow : OpenClaim := { program := "ytfppbkpdpapemaadoor", sum := "03dfbc356e5a83b749f0d27c9a6d6389ed4b343c59f96aaf8e216dee2fccbc89", func := "creel/creellaw20.SheetNotes", spec := "sheetNotes", named := ["internal/strconv.uint64pow10", "math/bits.deBruijn32tab", "math/bits.deBruijn64tab"], apart := false, laid := [("math/bits.deBruijn32tab", laid_math_bits_deBruijn32tab), ("math/bits.deBruijn64tab", laid_math_bits_deBruijn64tab), ("internal/strconv.uint64pow10", laid_internal_strconv_uint64pow10)] }
def SheetNotesSaid : Prop := sheetNotesRow.holds Tryd.pinned (OpenSpec.ofChange sheetNotesSpec)

/-- ITS FALSE NEIGHBOUR: 'it returns false'. Refute it at one input. -/
def sheetNotesWrong : ChangeSpec := { name := "sheetNotes", fn := fun _ => fun
  | [d1, d2, d3, d4, d5, d6] => { results := [.lit (.bool false)], args := [d1, d2, d3, d4, d5, d6] }
  | _ => none }
def SheetNotesWrongFalsely : Prop := sheetNotesRow.holds Tryd.pinned (OpenSpec.ofChange sheetNotesWrong)

/-- 'creellaw20.SheetPuts': WHATEVER THE INPUT: true; the input reads as it did. -/
def sheetPutsSpec : ChangeSpec := { name := "sheetPuts", fn := fun _ => fun
  | [d1, d2, d3] => { results := [.lit (.bool true)], args := [d1, d2, d3] }
  | _ => none }
def sheetPutsRow : OpenClaim := { program := "ytfppbkpdpapemaadoor", sum := "03dfbc356e5a83b749f0d27c9a6d6389ed4b343c59f96aaf8e216dee2fccbc89", func := "creel/creellaw20.SheetPuts", spec := "sheetPuts", recurses := true, named := ["internal/strconv.uint64pow10", "math/bits.deBruijn32tab", "math/bits.deBruijn64tab"], apart := false, laid := [("math/bits.deBruijn32tab", laid_math_bits_deBruijn32tab), ("math/bits.deBruijn64tab", laid_math_bits_deBruijn64tab), ("internal/strconv.uint64pow10", laid_internal_strconv_uint64pow10)] }
def SheetPutsSaid : Prop := sheetPutsRow.holds Tryd.pinned (OpenSpec.ofChange sheetPutsSpec)

/-- ITS FALSE NEIGHBOUR: 'it returns false'. Refute it at one input. -/
def sheetPutsWrong : ChangeSpec := { name := "sheetPuts", fn := fun _ => fun
  | [d1, d2, d3] => { results := [.lit (.bool false)], args := [d1, d2, d3] }
  | _ => none }
def SheetPutsWrongFalsely : Prop := sheetPutsRow.holds Tryd.pinned (OpenSpec.ofChange sheetPutsWrong)

/-- 'creellaw20.SheetTakes': WHATEVER THE INPUT: true; the input reads as it did. -/
def sheetTakesSpec : ChangeSpec := { name := "sheetTakes", fn := fun _ => fun
  | [d] => { results := [.lit (.bool true)], args := [d] }
  | _ => none }
def sheetTakesRow : OpenClaim := { program := "ytfppbkpdpapemaadoor", sum := "03dfbc356e5a83b749f0d27c9a6d6389ed4b343c59f96aaf8e216dee2fccbc89", func := "creel/creellaw20.SheetTakes", spec := "sheetTakes", recurses := true, named := ["internal/strconv.uint64pow10", "math/bits.deBruijn32tab", "math/bits.deBruijn64tab"], apart := false, laid := [("math/bits.deBruijn32tab", laid_math_bits_deBruijn32tab), ("math/bits.deBruijn64tab", laid_math_bits_deBruijn64tab), ("internal/strconv.uint64pow10", laid_internal_strconv_uint64pow10)] }
def SheetTakesSaid : Prop := sheetTakesRow.holds Tryd.pinned (OpenSpec.ofChange sheetTakesSpec)

/-- ITS FALSE NEIGHBOUR: 'it returns false'. Refute it at one input. -/
def sheetTakesWrong : ChangeSpec := { name := "sheetTakes", fn := fun _ => fun
  | [d] => { results := [.lit (.bool false)], args := [d] }
  | _ => none }
def SheetTakesWrongFalsely : Prop := sheetTakesRow.holds Tryd.pinned (OpenSpec.ofChange sheetTakesWrong)

/-- 'creellaw20.SheetBack': WHATEVER THE INPUT: true; the input reads as it did. -/
def sheetBackSpec : ChangeSpec := { name := "sheetBack", fn := fun _ => fun
  | [d1, d2, d3] => { results := [.lit (.bool true)], args := [d1, d2, d3] }
  | _ => none }
def sheetBackRow : OpenClaim := { program := "ytfppbkpdpapemaadoor", sum := "03dfbc356e5a83b749f0d27c9a6d6389ed4b343c59f96aaf8e216dee2fccbc89", func := "creel/creellaw20.SheetBack", spec := "sheetBack", named := ["internal/strconv.uint64pow10", "math/bits.deBruijn32tab", "math/bits.deBruijn64tab"], apart := false, laid := [("math/bits.deBruijn32tab", laid_math_bits_deBruijn32tab), ("math/bits.deBruijn64tab", laid_math_bits_deBruijn64tab), ("internal/strconv.uint64pow10", laid_internal_strconv_uint64pow10)] }
def SheetBackSaid : Prop := sheetBackRow.holds Tryd.pinned (OpenSpec.ofChange sheetBackSpec)

/-- ITS FALSE NEIGHBOUR: 'it returns false'. Refute it at one input. -/
def sheetBackWrong : ChangeSpec := { name := "sheetBack", fn := fun _ => fun
  | [d1, d2, d3] => { results := [.lit (.bool false)], args := [d1, d2, d3] }
  | _ => none }
def SheetBackWrongFalsely : Prop := sheetBackRow.holds Tryd.pinned (OpenSpec.ofChange sheetBackWrong)

/-- 'creellaw20.SheetBursts': WHATEVER THE INPUT: true; the input reads as it did. -/
def sheetBurstsSpec : ChangeSpec := { name := "sheetBursts", fn := fun _ => fun
  | [d1, d2, d3] => { results := [.lit (.bool true)], args := [d1, d2, d3] }
  | _ => none }
def sheetBurstsRow : OpenClaim := { program := "ytfppbkpdpapemaadoor", sum := "03dfbc356e5a83b749f0d27c9a6d6389ed4b343c59f96aaf8e216dee2fccbc89", func := "creel/creellaw20.SheetBursts", spec := "sheetBursts", named := ["internal/strconv.uint64pow10", "math/bits.deBruijn32tab", "math/bits.deBruijn64tab"], apart := false, laid := [("math/bits.deBruijn32tab", laid_math_bits_deBruijn32tab), ("math/bits.deBruijn64tab", laid_math_bits_deBruijn64tab), ("internal/strconv.uint64pow10", laid_internal_strconv_uint64pow10)] }
def SheetBurstsSaid : Prop := sheetBurstsRow.holds Tryd.pinned (OpenSpec.ofChange sheetBurstsSpec)

/-- ITS FALSE NEIGHBOUR: 'it returns false'. Refute it at one input. -/
def sheetBurstsWrong : ChangeSpec := { name := "sheetBursts", fn := fun _ => fun
  | [d1, d2, d3] => { results := [.lit (.bool false)], args := [d1, d2, d3] }
  | _ => none }
def SheetBurstsWrongFalsely : Prop := sheetBurstsRow.holds Tryd.pinned (OpenSpec.ofChange sheetBurstsWrong)

/- THE SECOND FORM. 'bulk': how many values and letters a reading holds, each counted each time it is reached (what is shared counts as often as it is met; a slice's spare places count too). A statement '..UptoSaid' is the law's where the arguments, and the package variables that the reading takes, are together of bulk at most 1048576: NARROWER than '..Said'. Prove '..Said' where nothing that the law and all that it calls make is longer than what came in: it says more and counts as full. Else prove '..UptoSaid'. A law counts once. -/
mutual
def uptoBulk {H : Type} : DataW H → Nat
  | .lit (.string bytes) => bytes.length + 1
  | .lit _ => 1
  | .nil => 1
  | .ptr d => uptoBulk d + 1
  | .slice elems spare => uptoBulkAll elems + uptoBulkAll spare + 1
  | .agg parts => uptoBulkAll parts + 1
  | .iface _ d => uptoBulk d + 1
  | .map entries => uptoBulkEntries entries + 1
  | .held _ => 1
def uptoBulkAll {H : Type} : List (DataW H) → Nat
  | [] => 0
  | d :: r => uptoBulk d + uptoBulkAll r
def uptoBulkEntries {H : Type} : List (Lit × DataW H) → Nat
  | [] => 0
  | x :: r => uptoBulkEntry x + uptoBulkEntries r
def uptoBulkEntry {H : Type} : Lit × DataW H → Nat
  | (.string bytes, d) => bytes.length + uptoBulk d + 1
  | (_, d) => uptoBulk d + 1
 end
def uptoSmall : (H : Type) → List (DataW H) → Bool := fun _ ds => decide (uptoBulkAll ds ≤ 1048576)
def OpenSpec.upto (s : _root_.Go.ChangeSpec) : _root_.Go.OpenSpec := { _root_.Go.OpenSpec.ofChange s with cond := some uptoSmall }

/-- 'creellaw20.SheetNames', WHERE WHAT IT READS IS OF BULK AT MOST 1048576: true; the input reads as it did. -/
def sheetNamesUptoRow : OpenClaim := { program := "ytfppbkpdpapemaadoor", sum := "03dfbc356e5a83b749f0d27c9a6d6389ed4b343c59f96aaf8e216dee2fccbc89", func := "creel/creellaw20.SheetNames", spec := "sheetNames", named := ["internal/strconv.uint64pow10", "math/bits.deBruijn32tab", "math/bits.deBruijn64tab"], apart := false, laid := [("math/bits.deBruijn32tab", laid_math_bits_deBruijn32tab), ("math/bits.deBruijn64tab", laid_math_bits_deBruijn64tab), ("internal/strconv.uint64pow10", laid_internal_strconv_uint64pow10)], narrowed := true }
def SheetNamesUptoSaid : Prop := sheetNamesUptoRow.holds Tryd.pinned (OpenSpec.upto sheetNamesSpec)

/-- 'creellaw20.SheetNotes', WHERE WHAT IT READS IS OF BULK AT MOST 1048576: true; the input reads as it did. -/
def sheetNotesUptoRow : OpenClaim := { program := "ytfppbkpdpapemaadoor", sum := "03dfbc356e5a83b749f0d27c9a6d6389ed4b343c59f96aaf8e216dee2fccbc89", func := "creel/creellaw20.SheetNotes", spec := "sheetNotes", named := ["internal/strconv.uint64pow10", "math/bits.deBruijn32tab", "math/bits.deBruijn64tab"], apart := false, laid := [("math/bits.deBruijn32tab", laid_math_bits_deBruijn32tab), ("math/bits.deBruijn64tab", laid_math_bits_deBruijn64tab), ("internal/strconv.uint64pow10", laid_internal_strconv_uint64pow10)], narrowed := true }
def SheetNotesUptoSaid : Prop := sheetNotesUptoRow.holds Tryd.pinned (OpenSpec.upto sheetNotesSpec)

/-- 'creellaw20.SheetPuts', WHERE WHAT IT READS IS OF BULK AT MOST 1048576: true; the input reads as it did. -/
def sheetPutsUptoRow : OpenClaim := { program := "ytfppbkpdpapemaadoor", sum := "03dfbc356e5a83b749f0d27c9a6d6389ed4b343c59f96aaf8e216dee2fccbc89", func := "creel/creellaw20.SheetPuts", spec := "sheetPuts", recurses := true, named := ["internal/strconv.uint64pow10", "math/bits.deBruijn32tab", "math/bits.deBruijn64tab"], apart := false, laid := [("math/bits.deBruijn32tab", laid_math_bits_deBruijn32tab), ("math/bits.deBruijn64tab", laid_math_bits_deBruijn64tab), ("internal/strconv.uint64pow10", laid_internal_strconv_uint64pow10)], narrowed := true }
def SheetPutsUptoSaid : Prop := sheetPutsUptoRow.holds Tryd.pinned (OpenSpec.upto sheetPutsSpec)

/-- 'creellaw20.SheetTakes', WHERE WHAT IT READS IS OF BULK AT MOST 1048576: true; the input reads as it did. -/
def sheetTakesUptoRow : OpenClaim := { program := "ytfppbkpdpapemaadoor", sum := "03dfbc356e5a83b749f0d27c9a6d6389ed4b343c59f96aaf8e216dee2fccbc89", func := "creel/creellaw20.SheetTakes", spec := "sheetTakes", recurses := true, named := ["internal/strconv.uint64pow10", "math/bits.deBruijn32tab", "math/bits.deBruijn64tab"], apart := false, laid := [("math/bits.deBruijn32tab", laid_math_bits_deBruijn32tab), ("math/bits.deBruijn64tab", laid_math_bits_deBruijn64tab), ("internal/strconv.uint64pow10", laid_internal_strconv_uint64pow10)], narrowed := true }
def SheetTakesUptoSaid : Prop := sheetTakesUptoRow.holds Tryd.pinned (OpenSpec.upto sheetTakesSpec)

/-- 'creellaw20.SheetBack', WHERE WHAT IT READS IS OF BULK AT MOST 1048576: true; the input reads as it did. -/
def sheetBackUptoRow : OpenClaim := { program := "ytfppbkpdpapemaadoor", sum := "03dfbc356e5a83b749f0d27c9a6d6389ed4b343c59f96aaf8e216dee2fccbc89", func := "creel/creellaw20.SheetBack", spec := "sheetBack", named := ["internal/strconv.uint64pow10", "math/bits.deBruijn32tab", "math/bits.deBruijn64tab"], apart := false, laid := [("math/bits.deBruijn32tab", laid_math_bits_deBruijn32tab), ("math/bits.deBruijn64tab", laid_math_bits_deBruijn64tab), ("internal/strconv.uint64pow10", laid_internal_strconv_uint64pow10)], narrowed := true }
def SheetBackUptoSaid : Prop := sheetBackUptoRow.holds Tryd.pinned (OpenSpec.upto sheetBackSpec)

/-- 'creellaw20.SheetBursts', WHERE WHAT IT READS IS OF BULK AT MOST 1048576: true; the input reads as it did. -/
def sheetBurstsUptoRow : OpenClaim := { program := "ytfppbkpdpapemaadoor", sum := "03dfbc356e5a83b749f0d27c9a6d6389ed4b343c59f96aaf8e216dee2fccbc89", func := "creel/creellaw20.SheetBursts", spec := "sheetBursts", named := ["internal/strconv.uint64pow10", "math/bits.deBruijn32tab", "math/bits.deBruijn64tab"], apart := false, laid := [("math/bits.deBruijn32tab", laid_math_bits_deBruijn32tab), ("math/bits.deBruijn64tab", laid_math_bits_deBruijn64tab), ("internal/strconv.uint64pow10", laid_internal_strconv_uint64pow10)], narrowed := true }
def SheetBurstsUptoSaid : Prop := sheetBurstsUptoRow.holds Tryd.pinned (OpenSpec.upto sheetBurstsSpec)

end Rows
end Go.Proofs.YtfppbkpdpapemaaDoor
