/-
  No cell of these rows narrows 'for every input' (looked for: loops, veiled, ifaces, maps, wideKeys, modest, calm, conditions, laid).
  DERIVED. THE GIVEN ROWS OF THIS SEAT. 11 by the template 'for every input the law returns true; each argument reads behind the call as it read before'; 0 by the template 'total and deterministic' (their statements: YtkoejeghihcmlaaGreatTotals.lean).
  GIVEN WITH THE SEED: the statements are not yours to turn. If you find one false, say at which input.
  Laid BY PROGRAM, IN A SANDBOX (cutbox-rows.mjs): the forced cells as the released guide's own fill.sh prints them over the translation c3c6db90ac12416f… (all of the seat's roots in one cut). By AI agents, Wed Nov 11 2026. No macro, syntax, notation, axiom, sorry.
-/
import Derived.Test.YtkoejeghihcmlaaGreatChecked
import GoSem.Claim
import GoSem.ClaimJoined
import GoSem.ClaimMapViews
import Derived.JoinedTies
import Derived.KernelRfl
namespace Go.Proofs.YtkoejeghihcmlaaGreat
/- THE CELL 'sum', in the pinned program and in every row, IS THE sha256 OF THE DUMP (.gsa) THAT YtkoejeghihcmlaaGreatProg.lean LOADS. Nothing in Lean hashes anything: it is a label: what it is worth is what the hold of that sum in a sandbox is worth. -/
noncomputable def Tryz.pinned : Pinned := { name := "ytkoejeghihcmlaagreat", sum := "c3c6db90ac12416f5c882f51c90e67cc27f0c1206c82411160563b4602f789da", checked := Tryz.checked }
namespace Rows
def none {H : Type} : Left H := { results := [], args := [] }

/-- 'leazingtop.TopClear': WHATEVER THE INPUT: true; the input reads as it did. -/
def topClearSpec : ChangeSpec := { name := "topClear", fn := fun _ => fun
  | [d1, d2, d3] => { results := [.lit (.bool true)], args := [d1, d2, d3] }
  | _ => none }
def topClearRow : OpenClaim := { program := "ytkoejeghihcmlaagreat", sum := "c3c6db90ac12416f5c882f51c90e67cc27f0c1206c82411160563b4602f789da", func := "leazing/leazingtop.TopClear", spec := "topClear", unfollowed := true, recurses := true, apart := false }
def TopClearSaid : Prop := topClearRow.holds Tryz.pinned (OpenSpec.ofChange topClearSpec)

/-- ITS FALSE NEIGHBOUR: 'it returns false'. Refute it at one input. -/
def topClearWrong : ChangeSpec := { name := "topClear", fn := fun _ => fun
  | [d1, d2, d3] => { results := [.lit (.bool false)], args := [d1, d2, d3] }
  | _ => none }
def TopClearWrongFalsely : Prop := topClearRow.holds Tryz.pinned (OpenSpec.ofChange topClearWrong)

/-- 'leazinglaw01.SheafGrows': WHATEVER THE INPUT: true; the input reads as it did. -/
def sheafGrowsSpec : ChangeSpec := { name := "sheafGrows", fn := fun _ => fun
  | [d1, d2] => { results := [.lit (.bool true)], args := [d1, d2] }
  | _ => none }
def sheafGrowsRow : OpenClaim := { program := "ytkoejeghihcmlaagreat", sum := "c3c6db90ac12416f5c882f51c90e67cc27f0c1206c82411160563b4602f789da", func := "leazing/leazinglaw01.SheafGrows", spec := "sheafGrows", unfollowed := true, recurses := true, apart := false }
def SheafGrowsSaid : Prop := sheafGrowsRow.holds Tryz.pinned (OpenSpec.ofChange sheafGrowsSpec)

/-- ITS FALSE NEIGHBOUR: 'it returns false'. Refute it at one input. -/
def sheafGrowsWrong : ChangeSpec := { name := "sheafGrows", fn := fun _ => fun
  | [d1, d2] => { results := [.lit (.bool false)], args := [d1, d2] }
  | _ => none }
def SheafGrowsWrongFalsely : Prop := sheafGrowsRow.holds Tryz.pinned (OpenSpec.ofChange sheafGrowsWrong)

/-- 'leazinglaw01.SheafClashes': WHATEVER THE INPUT: true; the input reads as it did. -/
def sheafClashesSpec : ChangeSpec := { name := "sheafClashes", fn := fun _ => fun
  | [d1, d2, d3] => { results := [.lit (.bool true)], args := [d1, d2, d3] }
  | _ => none }
def sheafClashesRow : OpenClaim := { program := "ytkoejeghihcmlaagreat", sum := "c3c6db90ac12416f5c882f51c90e67cc27f0c1206c82411160563b4602f789da", func := "leazing/leazinglaw01.SheafClashes", spec := "sheafClashes", unfollowed := true, recurses := true, apart := false }
def SheafClashesSaid : Prop := sheafClashesRow.holds Tryz.pinned (OpenSpec.ofChange sheafClashesSpec)

/-- ITS FALSE NEIGHBOUR: 'it returns false'. Refute it at one input. -/
def sheafClashesWrong : ChangeSpec := { name := "sheafClashes", fn := fun _ => fun
  | [d1, d2, d3] => { results := [.lit (.bool false)], args := [d1, d2, d3] }
  | _ => none }
def SheafClashesWrongFalsely : Prop := sheafClashesRow.holds Tryz.pinned (OpenSpec.ofChange sheafClashesWrong)

/-- 'leazinglaw01.SheafConflicts': WHATEVER THE INPUT: true; the input reads as it did. -/
def sheafConflictsSpec : ChangeSpec := { name := "sheafConflicts", fn := fun _ => fun
  | [d1, d2] => { results := [.lit (.bool true)], args := [d1, d2] }
  | _ => none }
def sheafConflictsRow : OpenClaim := { program := "ytkoejeghihcmlaagreat", sum := "c3c6db90ac12416f5c882f51c90e67cc27f0c1206c82411160563b4602f789da", func := "leazing/leazinglaw01.SheafConflicts", spec := "sheafConflicts", unfollowed := true, recurses := true, apart := false }
def SheafConflictsSaid : Prop := sheafConflictsRow.holds Tryz.pinned (OpenSpec.ofChange sheafConflictsSpec)

/-- ITS FALSE NEIGHBOUR: 'it returns false'. Refute it at one input. -/
def sheafConflictsWrong : ChangeSpec := { name := "sheafConflicts", fn := fun _ => fun
  | [d1, d2] => { results := [.lit (.bool false)], args := [d1, d2] }
  | _ => none }
def SheafConflictsWrongFalsely : Prop := sheafConflictsRow.holds Tryz.pinned (OpenSpec.ofChange sheafConflictsWrong)

/-- 'leazinglaw01.SheafKnown': WHATEVER THE INPUT: true; the input reads as it did. -/
def sheafKnownSpec : ChangeSpec := { name := "sheafKnown", fn := fun _ => fun
  | [d1, d2] => { results := [.lit (.bool true)], args := [d1, d2] }
  | _ => none }
def sheafKnownRow : OpenClaim := { program := "ytkoejeghihcmlaagreat", sum := "c3c6db90ac12416f5c882f51c90e67cc27f0c1206c82411160563b4602f789da", func := "leazing/leazinglaw01.SheafKnown", spec := "sheafKnown", unfollowed := true, recurses := true, apart := false }
def SheafKnownSaid : Prop := sheafKnownRow.holds Tryz.pinned (OpenSpec.ofChange sheafKnownSpec)

/-- ITS FALSE NEIGHBOUR: 'it returns false'. Refute it at one input. -/
def sheafKnownWrong : ChangeSpec := { name := "sheafKnown", fn := fun _ => fun
  | [d1, d2] => { results := [.lit (.bool false)], args := [d1, d2] }
  | _ => none }
def SheafKnownWrongFalsely : Prop := sheafKnownRow.holds Tryz.pinned (OpenSpec.ofChange sheafKnownWrong)

/-- 'leazinglaw01.SheafOpens': WHATEVER THE INPUT: true; the input reads as it did. -/
def sheafOpensSpec : ChangeSpec := { name := "sheafOpens", fn := fun _ => fun
  | [d1, d2] => { results := [.lit (.bool true)], args := [d1, d2] }
  | _ => none }
def sheafOpensRow : OpenClaim := { program := "ytkoejeghihcmlaagreat", sum := "c3c6db90ac12416f5c882f51c90e67cc27f0c1206c82411160563b4602f789da", func := "leazing/leazinglaw01.SheafOpens", spec := "sheafOpens", unfollowed := true, recurses := true, apart := false }
def SheafOpensSaid : Prop := sheafOpensRow.holds Tryz.pinned (OpenSpec.ofChange sheafOpensSpec)

/-- ITS FALSE NEIGHBOUR: 'it returns false'. Refute it at one input. -/
def sheafOpensWrong : ChangeSpec := { name := "sheafOpens", fn := fun _ => fun
  | [d1, d2] => { results := [.lit (.bool false)], args := [d1, d2] }
  | _ => none }
def SheafOpensWrongFalsely : Prop := sheafOpensRow.holds Tryz.pinned (OpenSpec.ofChange sheafOpensWrong)

/-- 'leazinglaw01.SheafTrue': WHATEVER THE INPUT: true; the input reads as it did. -/
def sheafTrueSpec : ChangeSpec := { name := "sheafTrue", fn := fun _ => fun
  | [d1, d2] => { results := [.lit (.bool true)], args := [d1, d2] }
  | _ => none }
def sheafTrueRow : OpenClaim := { program := "ytkoejeghihcmlaagreat", sum := "c3c6db90ac12416f5c882f51c90e67cc27f0c1206c82411160563b4602f789da", func := "leazing/leazinglaw01.SheafTrue", spec := "sheafTrue", unfollowed := true, recurses := true, apart := false }
def SheafTrueSaid : Prop := sheafTrueRow.holds Tryz.pinned (OpenSpec.ofChange sheafTrueSpec)

/-- ITS FALSE NEIGHBOUR: 'it returns false'. Refute it at one input. -/
def sheafTrueWrong : ChangeSpec := { name := "sheafTrue", fn := fun _ => fun
  | [d1, d2] => { results := [.lit (.bool false)], args := [d1, d2] }
  | _ => none }
def SheafTrueWrongFalsely : Prop := sheafTrueRow.holds Tryz.pinned (OpenSpec.ofChange sheafTrueWrong)

/-- 'leazinglaw01.SheafAttained': WHATEVER THE INPUT: true; the input reads as it did. -/
def sheafAttainedSpec : ChangeSpec := { name := "sheafAttained", fn := fun _ => fun
  | [d1, d2] => { results := [.lit (.bool true)], args := [d1, d2] }
  | _ => none }
def sheafAttainedRow : OpenClaim := { program := "ytkoejeghihcmlaagreat", sum := "c3c6db90ac12416f5c882f51c90e67cc27f0c1206c82411160563b4602f789da", func := "leazing/leazinglaw01.SheafAttained", spec := "sheafAttained", unfollowed := true, recurses := true, apart := false }
def SheafAttainedSaid : Prop := sheafAttainedRow.holds Tryz.pinned (OpenSpec.ofChange sheafAttainedSpec)

/-- ITS FALSE NEIGHBOUR: 'it returns false'. Refute it at one input. -/
def sheafAttainedWrong : ChangeSpec := { name := "sheafAttained", fn := fun _ => fun
  | [d1, d2] => { results := [.lit (.bool false)], args := [d1, d2] }
  | _ => none }
def SheafAttainedWrongFalsely : Prop := sheafAttainedRow.holds Tryz.pinned (OpenSpec.ofChange sheafAttainedWrong)

/-- 'leazinglaw01.SheafStands': WHATEVER THE INPUT: true; the input reads as it did. -/
def sheafStandsSpec : ChangeSpec := { name := "sheafStands", fn := fun _ => fun
  | [d1, d2] => { results := [.lit (.bool true)], args := [d1, d2] }
  | _ => none }
def sheafStandsRow : OpenClaim := { program := "ytkoejeghihcmlaagreat", sum := "c3c6db90ac12416f5c882f51c90e67cc27f0c1206c82411160563b4602f789da", func := "leazing/leazinglaw01.SheafStands", spec := "sheafStands", unfollowed := true, recurses := true, apart := false }
def SheafStandsSaid : Prop := sheafStandsRow.holds Tryz.pinned (OpenSpec.ofChange sheafStandsSpec)

/-- ITS FALSE NEIGHBOUR: 'it returns false'. Refute it at one input. -/
def sheafStandsWrong : ChangeSpec := { name := "sheafStands", fn := fun _ => fun
  | [d1, d2] => { results := [.lit (.bool false)], args := [d1, d2] }
  | _ => none }
def SheafStandsWrongFalsely : Prop := sheafStandsRow.holds Tryz.pinned (OpenSpec.ofChange sheafStandsWrong)

/-- 'leazinglaw01.SheafChecks': WHATEVER THE INPUT: true; the input reads as it did. -/
def sheafChecksSpec : ChangeSpec := { name := "sheafChecks", fn := fun _ => fun
  | [d1, d2, d3] => { results := [.lit (.bool true)], args := [d1, d2, d3] }
  | _ => none }
def sheafChecksRow : OpenClaim := { program := "ytkoejeghihcmlaagreat", sum := "c3c6db90ac12416f5c882f51c90e67cc27f0c1206c82411160563b4602f789da", func := "leazing/leazinglaw01.SheafChecks", spec := "sheafChecks", inPlace := ["slices.overlaps[leazing/api.Stand]"], unfollowed := true, recurses := true, apart := false }
def SheafChecksSaid : Prop := sheafChecksRow.holds Tryz.pinned (OpenSpec.ofChange sheafChecksSpec)

/-- ITS FALSE NEIGHBOUR: 'it returns false'. Refute it at one input. -/
def sheafChecksWrong : ChangeSpec := { name := "sheafChecks", fn := fun _ => fun
  | [d1, d2, d3] => { results := [.lit (.bool false)], args := [d1, d2, d3] }
  | _ => none }
def SheafChecksWrongFalsely : Prop := sheafChecksRow.holds Tryz.pinned (OpenSpec.ofChange sheafChecksWrong)

/-- 'leazinglaw01.SheafNarrows': WHATEVER THE INPUT: true; the input reads as it did. -/
def sheafNarrowsSpec : ChangeSpec := { name := "sheafNarrows", fn := fun _ => fun
  | [d1, d2] => { results := [.lit (.bool true)], args := [d1, d2] }
  | _ => none }
def sheafNarrowsRow : OpenClaim := { program := "ytkoejeghihcmlaagreat", sum := "c3c6db90ac12416f5c882f51c90e67cc27f0c1206c82411160563b4602f789da", func := "leazing/leazinglaw01.SheafNarrows", spec := "sheafNarrows", inPlace := ["slices.overlaps[leazing/api.Stand]"], unfollowed := true, recurses := true, apart := false }
def SheafNarrowsSaid : Prop := sheafNarrowsRow.holds Tryz.pinned (OpenSpec.ofChange sheafNarrowsSpec)

/-- ITS FALSE NEIGHBOUR: 'it returns false'. Refute it at one input. -/
def sheafNarrowsWrong : ChangeSpec := { name := "sheafNarrows", fn := fun _ => fun
  | [d1, d2] => { results := [.lit (.bool false)], args := [d1, d2] }
  | _ => none }
def SheafNarrowsWrongFalsely : Prop := sheafNarrowsRow.holds Tryz.pinned (OpenSpec.ofChange sheafNarrowsWrong)

/- THE SECOND FORM. 'bulk': how many values and letters a reading holds, each counted each time it is reached (what is shared counts as often as it is met; a slice's spare places count too). A statement '..UptoSaid' is the law's where the arguments, and the package variables that the reading takes, are together of bulk at most 1048576: NARROWER than '..Said'. Prove '..Said' where nothing that the law and all that it calls make is longer than what came in: it says more and counts as full. Else prove '..UptoSaid'. A law counts once. -/
mutual
def uptoBulk {H : Type} : DataW H → Nat
  | .lit (.string bytes) => bytes.length + 1
  | .lit _ => 1
  | .nil => 1
  | .ptr d => uptoBulk d + 1
  | .slice elems spare => uptoBulkAll elems + uptoBulkAll spare + 1
  | .agg parts => uptoBulkAll parts + 1
  | .iface _ d => uptoBulk d + 1
  | .map entries => uptoBulkEntries entries + 1
  | .held _ => 1
def uptoBulkAll {H : Type} : List (DataW H) → Nat
  | [] => 0
  | d :: r => uptoBulk d + uptoBulkAll r
def uptoBulkEntries {H : Type} : List (Lit × DataW H) → Nat
  | [] => 0
  | x :: r => uptoBulkEntry x + uptoBulkEntries r
def uptoBulkEntry {H : Type} : Lit × DataW H → Nat
  | (.string bytes, d) => bytes.length + uptoBulk d + 1
  | (_, d) => uptoBulk d + 1
 end
def uptoSmall : (H : Type) → List (DataW H) → Bool := fun _ ds => decide (uptoBulkAll ds ≤ 1048576)
def OpenSpec.upto (s : _root_.Go.ChangeSpec) : _root_.Go.OpenSpec := { _root_.Go.OpenSpec.ofChange s with cond := some uptoSmall }

/-- 'leazingtop.TopClear', WHERE WHAT IT READS IS OF BULK AT MOST 1048576: true; the input reads as it did. -/
def topClearUptoRow : OpenClaim := { program := "ytkoejeghihcmlaagreat", sum := "c3c6db90ac12416f5c882f51c90e67cc27f0c1206c82411160563b4602f789da", func := "leazing/leazingtop.TopClear", spec := "topClear", unfollowed := true, recurses := true, apart := false, narrowed := true }
def TopClearUptoSaid : Prop := topClearUptoRow.holds Tryz.pinned (OpenSpec.upto topClearSpec)

/-- 'leazinglaw01.SheafGrows', WHERE WHAT IT READS IS OF BULK AT MOST 1048576: true; the input reads as it did. -/
def sheafGrowsUptoRow : OpenClaim := { program := "ytkoejeghihcmlaagreat", sum := "c3c6db90ac12416f5c882f51c90e67cc27f0c1206c82411160563b4602f789da", func := "leazing/leazinglaw01.SheafGrows", spec := "sheafGrows", unfollowed := true, recurses := true, apart := false, narrowed := true }
def SheafGrowsUptoSaid : Prop := sheafGrowsUptoRow.holds Tryz.pinned (OpenSpec.upto sheafGrowsSpec)

/-- 'leazinglaw01.SheafClashes', WHERE WHAT IT READS IS OF BULK AT MOST 1048576: true; the input reads as it did. -/
def sheafClashesUptoRow : OpenClaim := { program := "ytkoejeghihcmlaagreat", sum := "c3c6db90ac12416f5c882f51c90e67cc27f0c1206c82411160563b4602f789da", func := "leazing/leazinglaw01.SheafClashes", spec := "sheafClashes", unfollowed := true, recurses := true, apart := false, narrowed := true }
def SheafClashesUptoSaid : Prop := sheafClashesUptoRow.holds Tryz.pinned (OpenSpec.upto sheafClashesSpec)

/-- 'leazinglaw01.SheafConflicts', WHERE WHAT IT READS IS OF BULK AT MOST 1048576: true; the input reads as it did. -/
def sheafConflictsUptoRow : OpenClaim := { program := "ytkoejeghihcmlaagreat", sum := "c3c6db90ac12416f5c882f51c90e67cc27f0c1206c82411160563b4602f789da", func := "leazing/leazinglaw01.SheafConflicts", spec := "sheafConflicts", unfollowed := true, recurses := true, apart := false, narrowed := true }
def SheafConflictsUptoSaid : Prop := sheafConflictsUptoRow.holds Tryz.pinned (OpenSpec.upto sheafConflictsSpec)

/-- 'leazinglaw01.SheafKnown', WHERE WHAT IT READS IS OF BULK AT MOST 1048576: true; the input reads as it did. -/
def sheafKnownUptoRow : OpenClaim := { program := "ytkoejeghihcmlaagreat", sum := "c3c6db90ac12416f5c882f51c90e67cc27f0c1206c82411160563b4602f789da", func := "leazing/leazinglaw01.SheafKnown", spec := "sheafKnown", unfollowed := true, recurses := true, apart := false, narrowed := true }
def SheafKnownUptoSaid : Prop := sheafKnownUptoRow.holds Tryz.pinned (OpenSpec.upto sheafKnownSpec)

/-- 'leazinglaw01.SheafOpens', WHERE WHAT IT READS IS OF BULK AT MOST 1048576: true; the input reads as it did. -/
def sheafOpensUptoRow : OpenClaim := { program := "ytkoejeghihcmlaagreat", sum := "c3c6db90ac12416f5c882f51c90e67cc27f0c1206c82411160563b4602f789da", func := "leazing/leazinglaw01.SheafOpens", spec := "sheafOpens", unfollowed := true, recurses := true, apart := false, narrowed := true }
def SheafOpensUptoSaid : Prop := sheafOpensUptoRow.holds Tryz.pinned (OpenSpec.upto sheafOpensSpec)

/-- 'leazinglaw01.SheafTrue', WHERE WHAT IT READS IS OF BULK AT MOST 1048576: true; the input reads as it did. -/
def sheafTrueUptoRow : OpenClaim := { program := "ytkoejeghihcmlaagreat", sum := "c3c6db90ac12416f5c882f51c90e67cc27f0c1206c82411160563b4602f789da", func := "leazing/leazinglaw01.SheafTrue", spec := "sheafTrue", unfollowed := true, recurses := true, apart := false, narrowed := true }
def SheafTrueUptoSaid : Prop := sheafTrueUptoRow.holds Tryz.pinned (OpenSpec.upto sheafTrueSpec)

/-- 'leazinglaw01.SheafAttained', WHERE WHAT IT READS IS OF BULK AT MOST 1048576: true; the input reads as it did. -/
def sheafAttainedUptoRow : OpenClaim := { program := "ytkoejeghihcmlaagreat", sum := "c3c6db90ac12416f5c882f51c90e67cc27f0c1206c82411160563b4602f789da", func := "leazing/leazinglaw01.SheafAttained", spec := "sheafAttained", unfollowed := true, recurses := true, apart := false, narrowed := true }
def SheafAttainedUptoSaid : Prop := sheafAttainedUptoRow.holds Tryz.pinned (OpenSpec.upto sheafAttainedSpec)

/-- 'leazinglaw01.SheafStands', WHERE WHAT IT READS IS OF BULK AT MOST 1048576: true; the input reads as it did. -/
def sheafStandsUptoRow : OpenClaim := { program := "ytkoejeghihcmlaagreat", sum := "c3c6db90ac12416f5c882f51c90e67cc27f0c1206c82411160563b4602f789da", func := "leazing/leazinglaw01.SheafStands", spec := "sheafStands", unfollowed := true, recurses := true, apart := false, narrowed := true }
def SheafStandsUptoSaid : Prop := sheafStandsUptoRow.holds Tryz.pinned (OpenSpec.upto sheafStandsSpec)

/-- 'leazinglaw01.SheafChecks', WHERE WHAT IT READS IS OF BULK AT MOST 1048576: true; the input reads as it did. -/
def sheafChecksUptoRow : OpenClaim := { program := "ytkoejeghihcmlaagreat", sum := "c3c6db90ac12416f5c882f51c90e67cc27f0c1206c82411160563b4602f789da", func := "leazing/leazinglaw01.SheafChecks", spec := "sheafChecks", inPlace := ["slices.overlaps[leazing/api.Stand]"], unfollowed := true, recurses := true, apart := false, narrowed := true }
def SheafChecksUptoSaid : Prop := sheafChecksUptoRow.holds Tryz.pinned (OpenSpec.upto sheafChecksSpec)

/-- 'leazinglaw01.SheafNarrows', WHERE WHAT IT READS IS OF BULK AT MOST 1048576: true; the input reads as it did. -/
def sheafNarrowsUptoRow : OpenClaim := { program := "ytkoejeghihcmlaagreat", sum := "c3c6db90ac12416f5c882f51c90e67cc27f0c1206c82411160563b4602f789da", func := "leazing/leazinglaw01.SheafNarrows", spec := "sheafNarrows", inPlace := ["slices.overlaps[leazing/api.Stand]"], unfollowed := true, recurses := true, apart := false, narrowed := true }
def SheafNarrowsUptoSaid : Prop := sheafNarrowsUptoRow.holds Tryz.pinned (OpenSpec.upto sheafNarrowsSpec)

end Rows
end Go.Proofs.YtkoejeghihcmlaaGreat
