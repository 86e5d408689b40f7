/-
  No cell of these rows narrows 'for every input' (looked for: loops, veiled, ifaces, maps, wideKeys, modest, calm, conditions, laid).
  DERIVED. THE GIVEN ROWS OF THIS SEAT. 20 by the template 'for every input the law returns true; each argument reads behind the call as it read before'; 0 by the template 'total and deterministic' (their statements: YtkgdcglnkodgnaaTotals.lean).
  GIVEN WITH THE SEED: the statements are not yours to turn. If you find one false, say at which input.
  Laid BY PROGRAM, IN A SANDBOX (cutbox-rows.mjs): the forced cells as the released guide's own fill.sh prints them over the translation 9868dc88391e2cfd… (all of the seat's roots in one cut). By AI agents, Wed Nov 11 2026. No macro, syntax, notation, axiom, sorry.
-/
import Derived.Test.YtkgdcglnkodgnaaChecked
import GoSem.Claim
import GoSem.ClaimJoined
import GoSem.ClaimMapViews
import Derived.JoinedTies
import Derived.KernelRfl
namespace Go.Proofs.Ytkgdcglnkodgnaa
/- THE CELL 'sum', in the pinned program and in every row, IS THE sha256 OF THE DUMP (.gsa) THAT YtkgdcglnkodgnaaProg.lean LOADS. Nothing in Lean hashes anything: it is a label: what it is worth is what the hold of that sum in a sandbox is worth. -/
noncomputable def Try.pinned : Pinned := { name := "ytkgdcglnkodgnaa", sum := "9868dc88391e2cfdf1d3bfb06e99f41b287975b8334d4f2567099ab57674a0ee", checked := Try.checked }
namespace Rows
def none {H : Type} : Left H := { results := [], args := [] }

/-- 'foliolaw19.PageMakes': WHATEVER THE INPUT: true; the input reads as it did. -/
def pageMakesSpec : ChangeSpec := { name := "pageMakes", fn := fun _ => fun
  | [d1, d2, d3, d4] => { results := [.lit (.bool true)], args := [d1, d2, d3, d4] }
  | _ => none }
def pageMakesRow : OpenClaim := { program := "ytkgdcglnkodgnaa", sum := "9868dc88391e2cfdf1d3bfb06e99f41b287975b8334d4f2567099ab57674a0ee", func := "folio/foliolaw19.PageMakes", spec := "pageMakes", apart := false }
def PageMakesSaid : Prop := pageMakesRow.holds Try.pinned (OpenSpec.ofChange pageMakesSpec)

/-- ITS FALSE NEIGHBOUR: 'it returns false'. Refute it at one input. -/
def pageMakesWrong : ChangeSpec := { name := "pageMakes", fn := fun _ => fun
  | [d1, d2, d3, d4] => { results := [.lit (.bool false)], args := [d1, d2, d3, d4] }
  | _ => none }
def PageMakesWrongFalsely : Prop := pageMakesRow.holds Try.pinned (OpenSpec.ofChange pageMakesWrong)

/-- 'foliolaw19.PageSpoilt': WHATEVER THE INPUT: true; the input reads as it did. -/
def pageSpoiltSpec : ChangeSpec := { name := "pageSpoilt", fn := fun _ => fun
  | [d1, d2, d3, d4, d5, d6] => { results := [.lit (.bool true)], args := [d1, d2, d3, d4, d5, d6] }
  | _ => none }
def pageSpoiltRow : OpenClaim := { program := "ytkgdcglnkodgnaa", sum := "9868dc88391e2cfdf1d3bfb06e99f41b287975b8334d4f2567099ab57674a0ee", func := "folio/foliolaw19.PageSpoilt", spec := "pageSpoilt", apart := false }
def PageSpoiltSaid : Prop := pageSpoiltRow.holds Try.pinned (OpenSpec.ofChange pageSpoiltSpec)

/-- ITS FALSE NEIGHBOUR: 'it returns false'. Refute it at one input. -/
def pageSpoiltWrong : ChangeSpec := { name := "pageSpoilt", fn := fun _ => fun
  | [d1, d2, d3, d4, d5, d6] => { results := [.lit (.bool false)], args := [d1, d2, d3, d4, d5, d6] }
  | _ => none }
def PageSpoiltWrongFalsely : Prop := pageSpoiltRow.holds Try.pinned (OpenSpec.ofChange pageSpoiltWrong)

/-- 'foliolaw19.PageSpreads': WHATEVER THE INPUT: true; the input reads as it did. -/
def pageSpreadsSpec : ChangeSpec := { name := "pageSpreads", fn := fun _ => fun
  | [d1, d2, d3] => { results := [.lit (.bool true)], args := [d1, d2, d3] }
  | _ => none }
def pageSpreadsRow : OpenClaim := { program := "ytkgdcglnkodgnaa", sum := "9868dc88391e2cfdf1d3bfb06e99f41b287975b8334d4f2567099ab57674a0ee", func := "folio/foliolaw19.PageSpreads", spec := "pageSpreads", apart := false }
def PageSpreadsSaid : Prop := pageSpreadsRow.holds Try.pinned (OpenSpec.ofChange pageSpreadsSpec)

/-- ITS FALSE NEIGHBOUR: 'it returns false'. Refute it at one input. -/
def pageSpreadsWrong : ChangeSpec := { name := "pageSpreads", fn := fun _ => fun
  | [d1, d2, d3] => { results := [.lit (.bool false)], args := [d1, d2, d3] }
  | _ => none }
def PageSpreadsWrongFalsely : Prop := pageSpreadsRow.holds Try.pinned (OpenSpec.ofChange pageSpreadsWrong)

/-- 'foliolaw19.PageSwapped': WHATEVER THE INPUT: true; the input reads as it did. -/
def pageSwappedSpec : ChangeSpec := { name := "pageSwapped", fn := fun _ => fun
  | [d1, d2, d3, d4] => { results := [.lit (.bool true)], args := [d1, d2, d3, d4] }
  | _ => none }
def pageSwappedRow : OpenClaim := { program := "ytkgdcglnkodgnaa", sum := "9868dc88391e2cfdf1d3bfb06e99f41b287975b8334d4f2567099ab57674a0ee", func := "folio/foliolaw19.PageSwapped", spec := "pageSwapped", unfollowed := true, recurses := true, apart := false }
def PageSwappedSaid : Prop := pageSwappedRow.holds Try.pinned (OpenSpec.ofChange pageSwappedSpec)

/-- ITS FALSE NEIGHBOUR: 'it returns false'. Refute it at one input. -/
def pageSwappedWrong : ChangeSpec := { name := "pageSwapped", fn := fun _ => fun
  | [d1, d2, d3, d4] => { results := [.lit (.bool false)], args := [d1, d2, d3, d4] }
  | _ => none }
def PageSwappedWrongFalsely : Prop := pageSwappedRow.holds Try.pinned (OpenSpec.ofChange pageSwappedWrong)

/-- 'foliolaw19.PageBooks': WHATEVER THE INPUT: true; the input reads as it did. -/
def pageBooksSpec : ChangeSpec := { name := "pageBooks", fn := fun _ => fun
  | [d1, d2, d3, d4] => { results := [.lit (.bool true)], args := [d1, d2, d3, d4] }
  | _ => none }
def pageBooksRow : OpenClaim := { program := "ytkgdcglnkodgnaa", sum := "9868dc88391e2cfdf1d3bfb06e99f41b287975b8334d4f2567099ab57674a0ee", func := "folio/foliolaw19.PageBooks", spec := "pageBooks", unfollowed := true, recurses := true, apart := false }
def PageBooksSaid : Prop := pageBooksRow.holds Try.pinned (OpenSpec.ofChange pageBooksSpec)

/-- ITS FALSE NEIGHBOUR: 'it returns false'. Refute it at one input. -/
def pageBooksWrong : ChangeSpec := { name := "pageBooks", fn := fun _ => fun
  | [d1, d2, d3, d4] => { results := [.lit (.bool false)], args := [d1, d2, d3, d4] }
  | _ => none }
def PageBooksWrongFalsely : Prop := pageBooksRow.holds Try.pinned (OpenSpec.ofChange pageBooksWrong)

/-- 'foliolaw19.PageBack': WHATEVER THE INPUT: true; the input reads as it did. -/
def pageBackSpec : ChangeSpec := { name := "pageBack", fn := fun _ => fun
  | [d1, d2, d3, d4] => { results := [.lit (.bool true)], args := [d1, d2, d3, d4] }
  | _ => none }
def pageBackRow : OpenClaim := { program := "ytkgdcglnkodgnaa", sum := "9868dc88391e2cfdf1d3bfb06e99f41b287975b8334d4f2567099ab57674a0ee", func := "folio/foliolaw19.PageBack", spec := "pageBack", unfollowed := true, recurses := true, apart := false }
def PageBackSaid : Prop := pageBackRow.holds Try.pinned (OpenSpec.ofChange pageBackSpec)

/-- ITS FALSE NEIGHBOUR: 'it returns false'. Refute it at one input. -/
def pageBackWrong : ChangeSpec := { name := "pageBack", fn := fun _ => fun
  | [d1, d2, d3, d4] => { results := [.lit (.bool false)], args := [d1, d2, d3, d4] }
  | _ => none }
def PageBackWrongFalsely : Prop := pageBackRow.holds Try.pinned (OpenSpec.ofChange pageBackWrong)

/-- 'foliolaw26.NavBack': WHATEVER THE INPUT: true; the input reads as it did. -/
def navBackSpec : ChangeSpec := { name := "navBack", fn := fun _ => fun
  | [d1, d2] => { results := [.lit (.bool true)], args := [d1, d2] }
  | _ => none }
def navBackRow : OpenClaim := { program := "ytkgdcglnkodgnaa", sum := "9868dc88391e2cfdf1d3bfb06e99f41b287975b8334d4f2567099ab57674a0ee", func := "folio/foliolaw26.NavBack", spec := "navBack", inPlace := ["slices.overlaps[folio/api.Place]"], unfollowed := true, recurses := true, apart := false }
def NavBackSaid : Prop := navBackRow.holds Try.pinned (OpenSpec.ofChange navBackSpec)

/-- ITS FALSE NEIGHBOUR: 'it returns false'. Refute it at one input. -/
def navBackWrong : ChangeSpec := { name := "navBack", fn := fun _ => fun
  | [d1, d2] => { results := [.lit (.bool false)], args := [d1, d2] }
  | _ => none }
def NavBackWrongFalsely : Prop := navBackRow.holds Try.pinned (OpenSpec.ofChange navBackWrong)

/-- 'foliolaw26.NavRow': WHATEVER THE INPUT: true; the input reads as it did. -/
def navRowSpec : ChangeSpec := { name := "navRow", fn := fun _ => fun
  | [d1, d2] => { results := [.lit (.bool true)], args := [d1, d2] }
  | _ => none }
def navRowRow : OpenClaim := { program := "ytkgdcglnkodgnaa", sum := "9868dc88391e2cfdf1d3bfb06e99f41b287975b8334d4f2567099ab57674a0ee", func := "folio/foliolaw26.NavRow", spec := "navRow", inPlace := ["slices.overlaps[folio/api.Place]"], unfollowed := true, recurses := true, apart := false }
def NavRowSaid : Prop := navRowRow.holds Try.pinned (OpenSpec.ofChange navRowSpec)

/-- ITS FALSE NEIGHBOUR: 'it returns false'. Refute it at one input. -/
def navRowWrong : ChangeSpec := { name := "navRow", fn := fun _ => fun
  | [d1, d2] => { results := [.lit (.bool false)], args := [d1, d2] }
  | _ => none }
def NavRowWrongFalsely : Prop := navRowRow.holds Try.pinned (OpenSpec.ofChange navRowWrong)

/-- 'foliolaw26.NavBounded': WHATEVER THE INPUT: true; the input reads as it did. -/
def navBoundedSpec : ChangeSpec := { name := "navBounded", fn := fun _ => fun
  | [d] => { results := [.lit (.bool true)], args := [d] }
  | _ => none }
def navBoundedRow : OpenClaim := { program := "ytkgdcglnkodgnaa", sum := "9868dc88391e2cfdf1d3bfb06e99f41b287975b8334d4f2567099ab57674a0ee", func := "folio/foliolaw26.NavBounded", spec := "navBounded", inPlace := ["slices.overlaps[folio/api.Place]"], unfollowed := true, recurses := true, apart := false }
def NavBoundedSaid : Prop := navBoundedRow.holds Try.pinned (OpenSpec.ofChange navBoundedSpec)

/-- ITS FALSE NEIGHBOUR: 'it returns false'. Refute it at one input. -/
def navBoundedWrong : ChangeSpec := { name := "navBounded", fn := fun _ => fun
  | [d] => { results := [.lit (.bool false)], args := [d] }
  | _ => none }
def NavBoundedWrongFalsely : Prop := navBoundedRow.holds Try.pinned (OpenSpec.ofChange navBoundedWrong)

/-- 'foliolaw26.NavNone': WHATEVER THE INPUT: true; the input reads as it did. -/
def navNoneSpec : ChangeSpec := { name := "navNone", fn := fun _ => fun
  | [d1, d2] => { results := [.lit (.bool true)], args := [d1, d2] }
  | _ => none }
def navNoneRow : OpenClaim := { program := "ytkgdcglnkodgnaa", sum := "9868dc88391e2cfdf1d3bfb06e99f41b287975b8334d4f2567099ab57674a0ee", func := "folio/foliolaw26.NavNone", spec := "navNone", inPlace := ["slices.overlaps[folio/api.Place]"], unfollowed := true, recurses := true, apart := false }
def NavNoneSaid : Prop := navNoneRow.holds Try.pinned (OpenSpec.ofChange navNoneSpec)

/-- ITS FALSE NEIGHBOUR: 'it returns false'. Refute it at one input. -/
def navNoneWrong : ChangeSpec := { name := "navNone", fn := fun _ => fun
  | [d1, d2] => { results := [.lit (.bool false)], args := [d1, d2] }
  | _ => none }
def NavNoneWrongFalsely : Prop := navNoneRow.holds Try.pinned (OpenSpec.ofChange navNoneWrong)

/-- 'foliolaw20.TreeBuilds': WHATEVER THE INPUT: true; the input reads as it did. -/
def treeBuildsSpec : ChangeSpec := { name := "treeBuilds", fn := fun _ => fun
  | [d1, d2, d3] => { results := [.lit (.bool true)], args := [d1, d2, d3] }
  | _ => none }
def treeBuildsRow : OpenClaim := { program := "ytkgdcglnkodgnaa", sum := "9868dc88391e2cfdf1d3bfb06e99f41b287975b8334d4f2567099ab57674a0ee", func := "folio/foliolaw20.TreeBuilds", spec := "treeBuilds", unfollowed := true, recurses := true, apart := false }
def TreeBuildsSaid : Prop := treeBuildsRow.holds Try.pinned (OpenSpec.ofChange treeBuildsSpec)

/-- ITS FALSE NEIGHBOUR: 'it returns false'. Refute it at one input. -/
def treeBuildsWrong : ChangeSpec := { name := "treeBuilds", fn := fun _ => fun
  | [d1, d2, d3] => { results := [.lit (.bool false)], args := [d1, d2, d3] }
  | _ => none }
def TreeBuildsWrongFalsely : Prop := treeBuildsRow.holds Try.pinned (OpenSpec.ofChange treeBuildsWrong)

/-- 'foliolaw20.TreeSpoilt': WHATEVER THE INPUT: true; the input reads as it did. -/
def treeSpoiltSpec : ChangeSpec := { name := "treeSpoilt", fn := fun _ => fun
  | [d1, d2, d3, d4, d5] => { results := [.lit (.bool true)], args := [d1, d2, d3, d4, d5] }
  | _ => none }
def treeSpoiltRow : OpenClaim := { program := "ytkgdcglnkodgnaa", sum := "9868dc88391e2cfdf1d3bfb06e99f41b287975b8334d4f2567099ab57674a0ee", func := "folio/foliolaw20.TreeSpoilt", spec := "treeSpoilt", unfollowed := true, recurses := true, apart := false }
def TreeSpoiltSaid : Prop := treeSpoiltRow.holds Try.pinned (OpenSpec.ofChange treeSpoiltSpec)

/-- ITS FALSE NEIGHBOUR: 'it returns false'. Refute it at one input. -/
def treeSpoiltWrong : ChangeSpec := { name := "treeSpoilt", fn := fun _ => fun
  | [d1, d2, d3, d4, d5] => { results := [.lit (.bool false)], args := [d1, d2, d3, d4, d5] }
  | _ => none }
def TreeSpoiltWrongFalsely : Prop := treeSpoiltRow.holds Try.pinned (OpenSpec.ofChange treeSpoiltWrong)

/-- 'foliolaw20.TreeLow': WHATEVER THE INPUT: true; the input reads as it did. -/
def treeLowSpec : ChangeSpec := { name := "treeLow", fn := fun _ => fun
  | [d1, d2] => { results := [.lit (.bool true)], args := [d1, d2] }
  | _ => none }
def treeLowRow : OpenClaim := { program := "ytkgdcglnkodgnaa", sum := "9868dc88391e2cfdf1d3bfb06e99f41b287975b8334d4f2567099ab57674a0ee", func := "folio/foliolaw20.TreeLow", spec := "treeLow", unfollowed := true, recurses := true, apart := false }
def TreeLowSaid : Prop := treeLowRow.holds Try.pinned (OpenSpec.ofChange treeLowSpec)

/-- ITS FALSE NEIGHBOUR: 'it returns false'. Refute it at one input. -/
def treeLowWrong : ChangeSpec := { name := "treeLow", fn := fun _ => fun
  | [d1, d2] => { results := [.lit (.bool false)], args := [d1, d2] }
  | _ => none }
def TreeLowWrongFalsely : Prop := treeLowRow.holds Try.pinned (OpenSpec.ofChange treeLowWrong)

/-- 'foliolaw26.NavLoads': WHATEVER THE INPUT: true; the input reads as it did. -/
def navLoadsSpec : ChangeSpec := { name := "navLoads", fn := fun _ => fun
  | [d] => { results := [.lit (.bool true)], args := [d] }
  | _ => none }
def navLoadsRow : OpenClaim := { program := "ytkgdcglnkodgnaa", sum := "9868dc88391e2cfdf1d3bfb06e99f41b287975b8334d4f2567099ab57674a0ee", func := "folio/foliolaw26.NavLoads", spec := "navLoads", inPlace := ["slices.overlaps[folio/api.Place]"], apart := false }
def NavLoadsSaid : Prop := navLoadsRow.holds Try.pinned (OpenSpec.ofChange navLoadsSpec)

/-- ITS FALSE NEIGHBOUR: 'it returns false'. Refute it at one input. -/
def navLoadsWrong : ChangeSpec := { name := "navLoads", fn := fun _ => fun
  | [d] => { results := [.lit (.bool false)], args := [d] }
  | _ => none }
def NavLoadsWrongFalsely : Prop := navLoadsRow.holds Try.pinned (OpenSpec.ofChange navLoadsWrong)

/-- 'foliolaw20.TreeAny': WHATEVER THE INPUT: true; the input reads as it did. -/
def treeAnySpec : ChangeSpec := { name := "treeAny", fn := fun _ => fun
  | [d1, d2, d3] => { results := [.lit (.bool true)], args := [d1, d2, d3] }
  | _ => none }
def treeAnyRow : OpenClaim := { program := "ytkgdcglnkodgnaa", sum := "9868dc88391e2cfdf1d3bfb06e99f41b287975b8334d4f2567099ab57674a0ee", func := "folio/foliolaw20.TreeAny", spec := "treeAny", unfollowed := true, recurses := true, apart := false }
def TreeAnySaid : Prop := treeAnyRow.holds Try.pinned (OpenSpec.ofChange treeAnySpec)

/-- ITS FALSE NEIGHBOUR: 'it returns false'. Refute it at one input. -/
def treeAnyWrong : ChangeSpec := { name := "treeAny", fn := fun _ => fun
  | [d1, d2, d3] => { results := [.lit (.bool false)], args := [d1, d2, d3] }
  | _ => none }
def TreeAnyWrongFalsely : Prop := treeAnyRow.holds Try.pinned (OpenSpec.ofChange treeAnyWrong)

/-- 'foliolaw20.TreeGoes': WHATEVER THE INPUT: true; the input reads as it did. -/
def treeGoesSpec : ChangeSpec := { name := "treeGoes", fn := fun _ => fun
  | [d1, d2, d3, d4] => { results := [.lit (.bool true)], args := [d1, d2, d3, d4] }
  | _ => none }
def treeGoesRow : OpenClaim := { program := "ytkgdcglnkodgnaa", sum := "9868dc88391e2cfdf1d3bfb06e99f41b287975b8334d4f2567099ab57674a0ee", func := "folio/foliolaw20.TreeGoes", spec := "treeGoes", unfollowed := true, recurses := true, apart := false }
def TreeGoesSaid : Prop := treeGoesRow.holds Try.pinned (OpenSpec.ofChange treeGoesSpec)

/-- ITS FALSE NEIGHBOUR: 'it returns false'. Refute it at one input. -/
def treeGoesWrong : ChangeSpec := { name := "treeGoes", fn := fun _ => fun
  | [d1, d2, d3, d4] => { results := [.lit (.bool false)], args := [d1, d2, d3, d4] }
  | _ => none }
def TreeGoesWrongFalsely : Prop := treeGoesRow.holds Try.pinned (OpenSpec.ofChange treeGoesWrong)

/-- 'foliolaw20.TreeFinds': WHATEVER THE INPUT: true; the input reads as it did. -/
def treeFindsSpec : ChangeSpec := { name := "treeFinds", fn := fun _ => fun
  | [d1, d2, d3, d4, d5] => { results := [.lit (.bool true)], args := [d1, d2, d3, d4, d5] }
  | _ => none }
def treeFindsRow : OpenClaim := { program := "ytkgdcglnkodgnaa", sum := "9868dc88391e2cfdf1d3bfb06e99f41b287975b8334d4f2567099ab57674a0ee", func := "folio/foliolaw20.TreeFinds", spec := "treeFinds", unfollowed := true, recurses := true, apart := false }
def TreeFindsSaid : Prop := treeFindsRow.holds Try.pinned (OpenSpec.ofChange treeFindsSpec)

/-- ITS FALSE NEIGHBOUR: 'it returns false'. Refute it at one input. -/
def treeFindsWrong : ChangeSpec := { name := "treeFinds", fn := fun _ => fun
  | [d1, d2, d3, d4, d5] => { results := [.lit (.bool false)], args := [d1, d2, d3, d4, d5] }
  | _ => none }
def TreeFindsWrongFalsely : Prop := treeFindsRow.holds Try.pinned (OpenSpec.ofChange treeFindsWrong)

/-- 'foliolaw20.TreeFound': WHATEVER THE INPUT: true; the input reads as it did. -/
def treeFoundSpec : ChangeSpec := { name := "treeFound", fn := fun _ => fun
  | [d1, d2, d3, d4, d5, d6] => { results := [.lit (.bool true)], args := [d1, d2, d3, d4, d5, d6] }
  | _ => none }
def treeFoundRow : OpenClaim := { program := "ytkgdcglnkodgnaa", sum := "9868dc88391e2cfdf1d3bfb06e99f41b287975b8334d4f2567099ab57674a0ee", func := "folio/foliolaw20.TreeFound", spec := "treeFound", unfollowed := true, recurses := true, apart := false }
def TreeFoundSaid : Prop := treeFoundRow.holds Try.pinned (OpenSpec.ofChange treeFoundSpec)

/-- ITS FALSE NEIGHBOUR: 'it returns false'. Refute it at one input. -/
def treeFoundWrong : ChangeSpec := { name := "treeFound", fn := fun _ => fun
  | [d1, d2, d3, d4, d5, d6] => { results := [.lit (.bool false)], args := [d1, d2, d3, d4, d5, d6] }
  | _ => none }
def TreeFoundWrongFalsely : Prop := treeFoundRow.holds Try.pinned (OpenSpec.ofChange treeFoundWrong)

/-- 'foliolaw26.NavSaved': WHATEVER THE INPUT: true; the input reads as it did. -/
def navSavedSpec : ChangeSpec := { name := "navSaved", fn := fun _ => fun
  | [d1, d2, d3] => { results := [.lit (.bool true)], args := [d1, d2, d3] }
  | _ => none }
def navSavedRow : OpenClaim := { program := "ytkgdcglnkodgnaa", sum := "9868dc88391e2cfdf1d3bfb06e99f41b287975b8334d4f2567099ab57674a0ee", func := "folio/foliolaw26.NavSaved", spec := "navSaved", inPlace := ["slices.overlaps[folio/api.Place]"], unfollowed := true, recurses := true, apart := false }
def NavSavedSaid : Prop := navSavedRow.holds Try.pinned (OpenSpec.ofChange navSavedSpec)

/-- ITS FALSE NEIGHBOUR: 'it returns false'. Refute it at one input. -/
def navSavedWrong : ChangeSpec := { name := "navSaved", fn := fun _ => fun
  | [d1, d2, d3] => { results := [.lit (.bool false)], args := [d1, d2, d3] }
  | _ => none }
def NavSavedWrongFalsely : Prop := navSavedRow.holds Try.pinned (OpenSpec.ofChange navSavedWrong)

/-- 'foliolaw26.NavDoes': WHATEVER THE INPUT: true; the input reads as it did. -/
def navDoesSpec : ChangeSpec := { name := "navDoes", fn := fun _ => fun
  | [d] => { results := [.lit (.bool true)], args := [d] }
  | _ => none }
def navDoesRow : OpenClaim := { program := "ytkgdcglnkodgnaa", sum := "9868dc88391e2cfdf1d3bfb06e99f41b287975b8334d4f2567099ab57674a0ee", func := "folio/foliolaw26.NavDoes", spec := "navDoes", inPlace := ["slices.overlaps[folio/api.Place]"], unfollowed := true, recurses := true, apart := false }
def NavDoesSaid : Prop := navDoesRow.holds Try.pinned (OpenSpec.ofChange navDoesSpec)

/-- ITS FALSE NEIGHBOUR: 'it returns false'. Refute it at one input. -/
def navDoesWrong : ChangeSpec := { name := "navDoes", fn := fun _ => fun
  | [d] => { results := [.lit (.bool false)], args := [d] }
  | _ => none }
def NavDoesWrongFalsely : Prop := navDoesRow.holds Try.pinned (OpenSpec.ofChange navDoesWrong)

/- THE SECOND FORM. 'bulk': how many values and letters a reading holds, each counted each time it is reached (what is shared counts as often as it is met; a slice's spare places count too). A statement '..UptoSaid' is the law's where the arguments, and the package variables that the reading takes, are together of bulk at most 1048576: NARROWER than '..Said'. Prove '..Said' where nothing that the law and all that it calls make is longer than what came in: it says more and counts as full. Else prove '..UptoSaid'. A law counts once. -/
mutual
def uptoBulk {H : Type} : DataW H → Nat
  | .lit (.string bytes) => bytes.length + 1
  | .lit _ => 1
  | .nil => 1
  | .ptr d => uptoBulk d + 1
  | .slice elems spare => uptoBulkAll elems + uptoBulkAll spare + 1
  | .agg parts => uptoBulkAll parts + 1
  | .iface _ d => uptoBulk d + 1
  | .map entries => uptoBulkEntries entries + 1
  | .held _ => 1
def uptoBulkAll {H : Type} : List (DataW H) → Nat
  | [] => 0
  | d :: r => uptoBulk d + uptoBulkAll r
def uptoBulkEntries {H : Type} : List (Lit × DataW H) → Nat
  | [] => 0
  | x :: r => uptoBulkEntry x + uptoBulkEntries r
def uptoBulkEntry {H : Type} : Lit × DataW H → Nat
  | (.string bytes, d) => bytes.length + uptoBulk d + 1
  | (_, d) => uptoBulk d + 1
 end
def uptoSmall : (H : Type) → List (DataW H) → Bool := fun _ ds => decide (uptoBulkAll ds ≤ 1048576)
def OpenSpec.upto (s : _root_.Go.ChangeSpec) : _root_.Go.OpenSpec := { _root_.Go.OpenSpec.ofChange s with cond := some uptoSmall }

/-- 'foliolaw19.PageMakes', WHERE WHAT IT READS IS OF BULK AT MOST 1048576: true; the input reads as it did. -/
def pageMakesUptoRow : OpenClaim := { program := "ytkgdcglnkodgnaa", sum := "9868dc88391e2cfdf1d3bfb06e99f41b287975b8334d4f2567099ab57674a0ee", func := "folio/foliolaw19.PageMakes", spec := "pageMakes", apart := false, narrowed := true }
def PageMakesUptoSaid : Prop := pageMakesUptoRow.holds Try.pinned (OpenSpec.upto pageMakesSpec)

/-- 'foliolaw19.PageSpoilt', WHERE WHAT IT READS IS OF BULK AT MOST 1048576: true; the input reads as it did. -/
def pageSpoiltUptoRow : OpenClaim := { program := "ytkgdcglnkodgnaa", sum := "9868dc88391e2cfdf1d3bfb06e99f41b287975b8334d4f2567099ab57674a0ee", func := "folio/foliolaw19.PageSpoilt", spec := "pageSpoilt", apart := false, narrowed := true }
def PageSpoiltUptoSaid : Prop := pageSpoiltUptoRow.holds Try.pinned (OpenSpec.upto pageSpoiltSpec)

/-- 'foliolaw19.PageSpreads', WHERE WHAT IT READS IS OF BULK AT MOST 1048576: true; the input reads as it did. -/
def pageSpreadsUptoRow : OpenClaim := { program := "ytkgdcglnkodgnaa", sum := "9868dc88391e2cfdf1d3bfb06e99f41b287975b8334d4f2567099ab57674a0ee", func := "folio/foliolaw19.PageSpreads", spec := "pageSpreads", apart := false, narrowed := true }
def PageSpreadsUptoSaid : Prop := pageSpreadsUptoRow.holds Try.pinned (OpenSpec.upto pageSpreadsSpec)

/-- 'foliolaw19.PageSwapped', WHERE WHAT IT READS IS OF BULK AT MOST 1048576: true; the input reads as it did. -/
def pageSwappedUptoRow : OpenClaim := { program := "ytkgdcglnkodgnaa", sum := "9868dc88391e2cfdf1d3bfb06e99f41b287975b8334d4f2567099ab57674a0ee", func := "folio/foliolaw19.PageSwapped", spec := "pageSwapped", unfollowed := true, recurses := true, apart := false, narrowed := true }
def PageSwappedUptoSaid : Prop := pageSwappedUptoRow.holds Try.pinned (OpenSpec.upto pageSwappedSpec)

/-- 'foliolaw19.PageBooks', WHERE WHAT IT READS IS OF BULK AT MOST 1048576: true; the input reads as it did. -/
def pageBooksUptoRow : OpenClaim := { program := "ytkgdcglnkodgnaa", sum := "9868dc88391e2cfdf1d3bfb06e99f41b287975b8334d4f2567099ab57674a0ee", func := "folio/foliolaw19.PageBooks", spec := "pageBooks", unfollowed := true, recurses := true, apart := false, narrowed := true }
def PageBooksUptoSaid : Prop := pageBooksUptoRow.holds Try.pinned (OpenSpec.upto pageBooksSpec)

/-- 'foliolaw19.PageBack', WHERE WHAT IT READS IS OF BULK AT MOST 1048576: true; the input reads as it did. -/
def pageBackUptoRow : OpenClaim := { program := "ytkgdcglnkodgnaa", sum := "9868dc88391e2cfdf1d3bfb06e99f41b287975b8334d4f2567099ab57674a0ee", func := "folio/foliolaw19.PageBack", spec := "pageBack", unfollowed := true, recurses := true, apart := false, narrowed := true }
def PageBackUptoSaid : Prop := pageBackUptoRow.holds Try.pinned (OpenSpec.upto pageBackSpec)

/-- 'foliolaw26.NavBack', WHERE WHAT IT READS IS OF BULK AT MOST 1048576: true; the input reads as it did. -/
def navBackUptoRow : OpenClaim := { program := "ytkgdcglnkodgnaa", sum := "9868dc88391e2cfdf1d3bfb06e99f41b287975b8334d4f2567099ab57674a0ee", func := "folio/foliolaw26.NavBack", spec := "navBack", inPlace := ["slices.overlaps[folio/api.Place]"], unfollowed := true, recurses := true, apart := false, narrowed := true }
def NavBackUptoSaid : Prop := navBackUptoRow.holds Try.pinned (OpenSpec.upto navBackSpec)

/-- 'foliolaw26.NavRow', WHERE WHAT IT READS IS OF BULK AT MOST 1048576: true; the input reads as it did. -/
def navRowUptoRow : OpenClaim := { program := "ytkgdcglnkodgnaa", sum := "9868dc88391e2cfdf1d3bfb06e99f41b287975b8334d4f2567099ab57674a0ee", func := "folio/foliolaw26.NavRow", spec := "navRow", inPlace := ["slices.overlaps[folio/api.Place]"], unfollowed := true, recurses := true, apart := false, narrowed := true }
def NavRowUptoSaid : Prop := navRowUptoRow.holds Try.pinned (OpenSpec.upto navRowSpec)

/-- 'foliolaw26.NavBounded', WHERE WHAT IT READS IS OF BULK AT MOST 1048576: true; the input reads as it did. -/
def navBoundedUptoRow : OpenClaim := { program := "ytkgdcglnkodgnaa", sum := "9868dc88391e2cfdf1d3bfb06e99f41b287975b8334d4f2567099ab57674a0ee", func := "folio/foliolaw26.NavBounded", spec := "navBounded", inPlace := ["slices.overlaps[folio/api.Place]"], unfollowed := true, recurses := true, apart := false, narrowed := true }
def NavBoundedUptoSaid : Prop := navBoundedUptoRow.holds Try.pinned (OpenSpec.upto navBoundedSpec)

/-- 'foliolaw26.NavNone', WHERE WHAT IT READS IS OF BULK AT MOST 1048576: true; the input reads as it did. -/
def navNoneUptoRow : OpenClaim := { program := "ytkgdcglnkodgnaa", sum := "9868dc88391e2cfdf1d3bfb06e99f41b287975b8334d4f2567099ab57674a0ee", func := "folio/foliolaw26.NavNone", spec := "navNone", inPlace := ["slices.overlaps[folio/api.Place]"], unfollowed := true, recurses := true, apart := false, narrowed := true }
def NavNoneUptoSaid : Prop := navNoneUptoRow.holds Try.pinned (OpenSpec.upto navNoneSpec)

/-- 'foliolaw20.TreeBuilds', WHERE WHAT IT READS IS OF BULK AT MOST 1048576: true; the input reads as it did. -/
def treeBuildsUptoRow : OpenClaim := { program := "ytkgdcglnkodgnaa", sum := "9868dc88391e2cfdf1d3bfb06e99f41b287975b8334d4f2567099ab57674a0ee", func := "folio/foliolaw20.TreeBuilds", spec := "treeBuilds", unfollowed := true, recurses := true, apart := false, narrowed := true }
def TreeBuildsUptoSaid : Prop := treeBuildsUptoRow.holds Try.pinned (OpenSpec.upto treeBuildsSpec)

/-- 'foliolaw20.TreeSpoilt', WHERE WHAT IT READS IS OF BULK AT MOST 1048576: true; the input reads as it did. -/
def treeSpoiltUptoRow : OpenClaim := { program := "ytkgdcglnkodgnaa", sum := "9868dc88391e2cfdf1d3bfb06e99f41b287975b8334d4f2567099ab57674a0ee", func := "folio/foliolaw20.TreeSpoilt", spec := "treeSpoilt", unfollowed := true, recurses := true, apart := false, narrowed := true }
def TreeSpoiltUptoSaid : Prop := treeSpoiltUptoRow.holds Try.pinned (OpenSpec.upto treeSpoiltSpec)

/-- 'foliolaw20.TreeLow', WHERE WHAT IT READS IS OF BULK AT MOST 1048576: true; the input reads as it did. -/
def treeLowUptoRow : OpenClaim := { program := "ytkgdcglnkodgnaa", sum := "9868dc88391e2cfdf1d3bfb06e99f41b287975b8334d4f2567099ab57674a0ee", func := "folio/foliolaw20.TreeLow", spec := "treeLow", unfollowed := true, recurses := true, apart := false, narrowed := true }
def TreeLowUptoSaid : Prop := treeLowUptoRow.holds Try.pinned (OpenSpec.upto treeLowSpec)

/-- 'foliolaw26.NavLoads', WHERE WHAT IT READS IS OF BULK AT MOST 1048576: true; the input reads as it did. -/
def navLoadsUptoRow : OpenClaim := { program := "ytkgdcglnkodgnaa", sum := "9868dc88391e2cfdf1d3bfb06e99f41b287975b8334d4f2567099ab57674a0ee", func := "folio/foliolaw26.NavLoads", spec := "navLoads", inPlace := ["slices.overlaps[folio/api.Place]"], apart := false, narrowed := true }
def NavLoadsUptoSaid : Prop := navLoadsUptoRow.holds Try.pinned (OpenSpec.upto navLoadsSpec)

/-- 'foliolaw20.TreeAny', WHERE WHAT IT READS IS OF BULK AT MOST 1048576: true; the input reads as it did. -/
def treeAnyUptoRow : OpenClaim := { program := "ytkgdcglnkodgnaa", sum := "9868dc88391e2cfdf1d3bfb06e99f41b287975b8334d4f2567099ab57674a0ee", func := "folio/foliolaw20.TreeAny", spec := "treeAny", unfollowed := true, recurses := true, apart := false, narrowed := true }
def TreeAnyUptoSaid : Prop := treeAnyUptoRow.holds Try.pinned (OpenSpec.upto treeAnySpec)

/-- 'foliolaw20.TreeGoes', WHERE WHAT IT READS IS OF BULK AT MOST 1048576: true; the input reads as it did. -/
def treeGoesUptoRow : OpenClaim := { program := "ytkgdcglnkodgnaa", sum := "9868dc88391e2cfdf1d3bfb06e99f41b287975b8334d4f2567099ab57674a0ee", func := "folio/foliolaw20.TreeGoes", spec := "treeGoes", unfollowed := true, recurses := true, apart := false, narrowed := true }
def TreeGoesUptoSaid : Prop := treeGoesUptoRow.holds Try.pinned (OpenSpec.upto treeGoesSpec)

/-- 'foliolaw20.TreeFinds', WHERE WHAT IT READS IS OF BULK AT MOST 1048576: true; the input reads as it did. -/
def treeFindsUptoRow : OpenClaim := { program := "ytkgdcglnkodgnaa", sum := "9868dc88391e2cfdf1d3bfb06e99f41b287975b8334d4f2567099ab57674a0ee", func := "folio/foliolaw20.TreeFinds", spec := "treeFinds", unfollowed := true, recurses := true, apart := false, narrowed := true }
def TreeFindsUptoSaid : Prop := treeFindsUptoRow.holds Try.pinned (OpenSpec.upto treeFindsSpec)

/-- 'foliolaw20.TreeFound', WHERE WHAT IT READS IS OF BULK AT MOST 1048576: true; the input reads as it did. -/
def treeFoundUptoRow : OpenClaim := { program := "ytkgdcglnkodgnaa", sum := "9868dc88391e2cfdf1d3bfb06e99f41b287975b8334d4f2567099ab57674a0ee", func := "folio/foliolaw20.TreeFound", spec := "treeFound", unfollowed := true, recurses := true, apart := false, narrowed := true }
def TreeFoundUptoSaid : Prop := treeFoundUptoRow.holds Try.pinned (OpenSpec.upto treeFoundSpec)

/-- 'foliolaw26.NavSaved', WHERE WHAT IT READS IS OF BULK AT MOST 1048576: true; the input reads as it did. -/
def navSavedUptoRow : OpenClaim := { program := "ytkgdcglnkodgnaa", sum := "9868dc88391e2cfdf1d3bfb06e99f41b287975b8334d4f2567099ab57674a0ee", func := "folio/foliolaw26.NavSaved", spec := "navSaved", inPlace := ["slices.overlaps[folio/api.Place]"], unfollowed := true, recurses := true, apart := false, narrowed := true }
def NavSavedUptoSaid : Prop := navSavedUptoRow.holds Try.pinned (OpenSpec.upto navSavedSpec)

/-- 'foliolaw26.NavDoes', WHERE WHAT IT READS IS OF BULK AT MOST 1048576: true; the input reads as it did. -/
def navDoesUptoRow : OpenClaim := { program := "ytkgdcglnkodgnaa", sum := "9868dc88391e2cfdf1d3bfb06e99f41b287975b8334d4f2567099ab57674a0ee", func := "folio/foliolaw26.NavDoes", spec := "navDoes", inPlace := ["slices.overlaps[folio/api.Place]"], unfollowed := true, recurses := true, apart := false, narrowed := true }
def NavDoesUptoSaid : Prop := navDoesUptoRow.holds Try.pinned (OpenSpec.upto navDoesSpec)

end Rows
end Go.Proofs.Ytkgdcglnkodgnaa
