/-
  No cell of these rows narrows 'for every input' (looked for: loops, veiled, ifaces, maps, wideKeys, modest, calm, conditions, laid).
  DERIVED. THE GIVEN ROWS OF THIS SEAT. 12 by the template 'for every input the law returns true; each argument reads behind the call as it read before'; 0 by the template 'total and deterministic' (their statements: YtehhlgdkhecacaaGreatTotals.lean).
  GIVEN WITH THE SEED: the statements are not yours to turn. If you find one false, say at which input.
  Laid BY PROGRAM, IN A SANDBOX (cutbox-rows.mjs): the forced cells as the released guide's own fill.sh prints them over the translation 75c17d9be8d8ab23… (all of the seat's roots in one cut). By AI agents, Wed Nov 11 2026. No macro, syntax, notation, axiom, sorry.
-/
import Derived.Test.YtehhlgdkhecacaaGreatChecked
import GoSem.Claim
import GoSem.ClaimJoined
import GoSem.ClaimMapViews
import Derived.JoinedTies
import Derived.KernelRfl
namespace Go.Proofs.YtehhlgdkhecacaaGreat
/- THE CELL 'sum', in the pinned program and in every row, IS THE sha256 OF THE DUMP (.gsa) THAT YtehhlgdkhecacaaGreatProg.lean LOADS. Nothing in Lean hashes anything: it is a label: what it is worth is what the hold of that sum in a sandbox is worth. -/
noncomputable def Tryz.pinned : Pinned := { name := "ytehhlgdkhecacaagreat", sum := "75c17d9be8d8ab232a54cefed01c24a10d3056d970d301cc6361bc261ec44ad7", checked := Tryz.checked }
namespace Rows
def none {H : Type} : Left H := { results := [], args := [] }

/-- 'leazinglaw02.SettleMoves': WHATEVER THE INPUT: true; the input reads as it did. -/
def settleMovesSpec : ChangeSpec := { name := "settleMoves", fn := fun _ => fun
  | [d1, d2, d3] => { results := [.lit (.bool true)], args := [d1, d2, d3] }
  | _ => none }
def settleMovesRow : OpenClaim := { program := "ytehhlgdkhecacaagreat", sum := "75c17d9be8d8ab232a54cefed01c24a10d3056d970d301cc6361bc261ec44ad7", func := "leazing/leazinglaw02.SettleMoves", spec := "settleMoves", unfollowed := true, recurses := true, plainKeys := false, apart := false }
def SettleMovesSaid : Prop := settleMovesRow.holds Tryz.pinned (OpenSpec.ofChange settleMovesSpec)

/-- ITS FALSE NEIGHBOUR: 'it returns false'. Refute it at one input. -/
def settleMovesWrong : ChangeSpec := { name := "settleMoves", fn := fun _ => fun
  | [d1, d2, d3] => { results := [.lit (.bool false)], args := [d1, d2, d3] }
  | _ => none }
def SettleMovesWrongFalsely : Prop := settleMovesRow.holds Tryz.pinned (OpenSpec.ofChange settleMovesWrong)

/-- 'leazinglaw02.SettleTitles': WHATEVER THE INPUT: true; the input reads as it did. -/
def settleTitlesSpec : ChangeSpec := { name := "settleTitles", fn := fun _ => fun
  | [d1, d2, d3] => { results := [.lit (.bool true)], args := [d1, d2, d3] }
  | _ => none }
def settleTitlesRow : OpenClaim := { program := "ytehhlgdkhecacaagreat", sum := "75c17d9be8d8ab232a54cefed01c24a10d3056d970d301cc6361bc261ec44ad7", func := "leazing/leazinglaw02.SettleTitles", spec := "settleTitles", unfollowed := true, recurses := true, plainKeys := false, apart := false }
def SettleTitlesSaid : Prop := settleTitlesRow.holds Tryz.pinned (OpenSpec.ofChange settleTitlesSpec)

/-- ITS FALSE NEIGHBOUR: 'it returns false'. Refute it at one input. -/
def settleTitlesWrong : ChangeSpec := { name := "settleTitles", fn := fun _ => fun
  | [d1, d2, d3] => { results := [.lit (.bool false)], args := [d1, d2, d3] }
  | _ => none }
def SettleTitlesWrongFalsely : Prop := settleTitlesRow.holds Tryz.pinned (OpenSpec.ofChange settleTitlesWrong)

/-- 'leazinglaw02.SettleRights': WHATEVER THE INPUT: true; the input reads as it did. -/
def settleRightsSpec : ChangeSpec := { name := "settleRights", fn := fun _ => fun
  | [d1, d2, d3] => { results := [.lit (.bool true)], args := [d1, d2, d3] }
  | _ => none }
def settleRightsRow : OpenClaim := { program := "ytehhlgdkhecacaagreat", sum := "75c17d9be8d8ab232a54cefed01c24a10d3056d970d301cc6361bc261ec44ad7", func := "leazing/leazinglaw02.SettleRights", spec := "settleRights", unfollowed := true, recurses := true, plainKeys := false, apart := false }
def SettleRightsSaid : Prop := settleRightsRow.holds Tryz.pinned (OpenSpec.ofChange settleRightsSpec)

/-- ITS FALSE NEIGHBOUR: 'it returns false'. Refute it at one input. -/
def settleRightsWrong : ChangeSpec := { name := "settleRights", fn := fun _ => fun
  | [d1, d2, d3] => { results := [.lit (.bool false)], args := [d1, d2, d3] }
  | _ => none }
def SettleRightsWrongFalsely : Prop := settleRightsRow.holds Tryz.pinned (OpenSpec.ofChange settleRightsWrong)

/-- 'leazinglaw02.SettleRests': WHATEVER THE INPUT: true; the input reads as it did. -/
def settleRestsSpec : ChangeSpec := { name := "settleRests", fn := fun _ => fun
  | [d1, d2] => { results := [.lit (.bool true)], args := [d1, d2] }
  | _ => none }
def settleRestsRow : OpenClaim := { program := "ytehhlgdkhecacaagreat", sum := "75c17d9be8d8ab232a54cefed01c24a10d3056d970d301cc6361bc261ec44ad7", func := "leazing/leazinglaw02.SettleRests", spec := "settleRests", unfollowed := true, recurses := true, plainKeys := false, apart := false }
def SettleRestsSaid : Prop := settleRestsRow.holds Tryz.pinned (OpenSpec.ofChange settleRestsSpec)

/-- ITS FALSE NEIGHBOUR: 'it returns false'. Refute it at one input. -/
def settleRestsWrong : ChangeSpec := { name := "settleRests", fn := fun _ => fun
  | [d1, d2] => { results := [.lit (.bool false)], args := [d1, d2] }
  | _ => none }
def SettleRestsWrongFalsely : Prop := settleRestsRow.holds Tryz.pinned (OpenSpec.ofChange settleRestsWrong)

/-- 'leazinglaw02.SettleRead': WHATEVER THE INPUT: true; the input reads as it did. -/
def settleReadSpec : ChangeSpec := { name := "settleRead", fn := fun _ => fun
  | [d1, d2] => { results := [.lit (.bool true)], args := [d1, d2] }
  | _ => none }
def settleReadRow : OpenClaim := { program := "ytehhlgdkhecacaagreat", sum := "75c17d9be8d8ab232a54cefed01c24a10d3056d970d301cc6361bc261ec44ad7", func := "leazing/leazinglaw02.SettleRead", spec := "settleRead", unfollowed := true, recurses := true, plainKeys := false, apart := false }
def SettleReadSaid : Prop := settleReadRow.holds Tryz.pinned (OpenSpec.ofChange settleReadSpec)

/-- ITS FALSE NEIGHBOUR: 'it returns false'. Refute it at one input. -/
def settleReadWrong : ChangeSpec := { name := "settleRead", fn := fun _ => fun
  | [d1, d2] => { results := [.lit (.bool false)], args := [d1, d2] }
  | _ => none }
def SettleReadWrongFalsely : Prop := settleReadRow.holds Tryz.pinned (OpenSpec.ofChange settleReadWrong)

/-- 'leazinglaw02.SettleOrder': WHATEVER THE INPUT: true; the input reads as it did. -/
def settleOrderSpec : ChangeSpec := { name := "settleOrder", fn := fun _ => fun
  | [d1, d2] => { results := [.lit (.bool true)], args := [d1, d2] }
  | _ => none }
def settleOrderRow : OpenClaim := { program := "ytehhlgdkhecacaagreat", sum := "75c17d9be8d8ab232a54cefed01c24a10d3056d970d301cc6361bc261ec44ad7", func := "leazing/leazinglaw02.SettleOrder", spec := "settleOrder", unfollowed := true, recurses := true, plainKeys := false, apart := false }
def SettleOrderSaid : Prop := settleOrderRow.holds Tryz.pinned (OpenSpec.ofChange settleOrderSpec)

/-- ITS FALSE NEIGHBOUR: 'it returns false'. Refute it at one input. -/
def settleOrderWrong : ChangeSpec := { name := "settleOrder", fn := fun _ => fun
  | [d1, d2] => { results := [.lit (.bool false)], args := [d1, d2] }
  | _ => none }
def SettleOrderWrongFalsely : Prop := settleOrderRow.holds Tryz.pinned (OpenSpec.ofChange settleOrderWrong)

/-- 'leazinglaw02.SettleShown': WHATEVER THE INPUT: true; the input reads as it did. -/
def settleShownSpec : ChangeSpec := { name := "settleShown", fn := fun _ => fun
  | [d1, d2] => { results := [.lit (.bool true)], args := [d1, d2] }
  | _ => none }
def settleShownRow : OpenClaim := { program := "ytehhlgdkhecacaagreat", sum := "75c17d9be8d8ab232a54cefed01c24a10d3056d970d301cc6361bc261ec44ad7", func := "leazing/leazinglaw02.SettleShown", spec := "settleShown", unfollowed := true, recurses := true, plainKeys := false, apart := false }
def SettleShownSaid : Prop := settleShownRow.holds Tryz.pinned (OpenSpec.ofChange settleShownSpec)

/-- ITS FALSE NEIGHBOUR: 'it returns false'. Refute it at one input. -/
def settleShownWrong : ChangeSpec := { name := "settleShown", fn := fun _ => fun
  | [d1, d2] => { results := [.lit (.bool false)], args := [d1, d2] }
  | _ => none }
def SettleShownWrongFalsely : Prop := settleShownRow.holds Tryz.pinned (OpenSpec.ofChange settleShownWrong)

/-- 'leazinglaw02.SettleSince': WHATEVER THE INPUT: true; the input reads as it did. -/
def settleSinceSpec : ChangeSpec := { name := "settleSince", fn := fun _ => fun
  | [d1, d2] => { results := [.lit (.bool true)], args := [d1, d2] }
  | _ => none }
def settleSinceRow : OpenClaim := { program := "ytehhlgdkhecacaagreat", sum := "75c17d9be8d8ab232a54cefed01c24a10d3056d970d301cc6361bc261ec44ad7", func := "leazing/leazinglaw02.SettleSince", spec := "settleSince", unfollowed := true, recurses := true, plainKeys := false, apart := false }
def SettleSinceSaid : Prop := settleSinceRow.holds Tryz.pinned (OpenSpec.ofChange settleSinceSpec)

/-- ITS FALSE NEIGHBOUR: 'it returns false'. Refute it at one input. -/
def settleSinceWrong : ChangeSpec := { name := "settleSince", fn := fun _ => fun
  | [d1, d2] => { results := [.lit (.bool false)], args := [d1, d2] }
  | _ => none }
def SettleSinceWrongFalsely : Prop := settleSinceRow.holds Tryz.pinned (OpenSpec.ofChange settleSinceWrong)

/-- 'leazinglaw02.SettleTrue': WHATEVER THE INPUT: true; the input reads as it did. -/
def settleTrueSpec : ChangeSpec := { name := "settleTrue", fn := fun _ => fun
  | [d1, d2] => { results := [.lit (.bool true)], args := [d1, d2] }
  | _ => none }
def settleTrueRow : OpenClaim := { program := "ytehhlgdkhecacaagreat", sum := "75c17d9be8d8ab232a54cefed01c24a10d3056d970d301cc6361bc261ec44ad7", func := "leazing/leazinglaw02.SettleTrue", spec := "settleTrue", unfollowed := true, recurses := true, plainKeys := false, apart := false }
def SettleTrueSaid : Prop := settleTrueRow.holds Tryz.pinned (OpenSpec.ofChange settleTrueSpec)

/-- ITS FALSE NEIGHBOUR: 'it returns false'. Refute it at one input. -/
def settleTrueWrong : ChangeSpec := { name := "settleTrue", fn := fun _ => fun
  | [d1, d2] => { results := [.lit (.bool false)], args := [d1, d2] }
  | _ => none }
def SettleTrueWrongFalsely : Prop := settleTrueRow.holds Tryz.pinned (OpenSpec.ofChange settleTrueWrong)

/-- 'leazinglaw02.SettleReads': WHATEVER THE INPUT: true; the input reads as it did. -/
def settleReadsSpec : ChangeSpec := { name := "settleReads", fn := fun _ => fun
  | [d1, d2, d3] => { results := [.lit (.bool true)], args := [d1, d2, d3] }
  | _ => none }
def settleReadsRow : OpenClaim := { program := "ytehhlgdkhecacaagreat", sum := "75c17d9be8d8ab232a54cefed01c24a10d3056d970d301cc6361bc261ec44ad7", func := "leazing/leazinglaw02.SettleReads", spec := "settleReads", unfollowed := true, recurses := true, plainKeys := false, apart := false }
def SettleReadsSaid : Prop := settleReadsRow.holds Tryz.pinned (OpenSpec.ofChange settleReadsSpec)

/-- ITS FALSE NEIGHBOUR: 'it returns false'. Refute it at one input. -/
def settleReadsWrong : ChangeSpec := { name := "settleReads", fn := fun _ => fun
  | [d1, d2, d3] => { results := [.lit (.bool false)], args := [d1, d2, d3] }
  | _ => none }
def SettleReadsWrongFalsely : Prop := settleReadsRow.holds Tryz.pinned (OpenSpec.ofChange settleReadsWrong)

/-- 'leazinglaw02.SettleEither': WHATEVER THE INPUT: true; the input reads as it did. -/
def settleEitherSpec : ChangeSpec := { name := "settleEither", fn := fun _ => fun
  | [d1, d2, d3] => { results := [.lit (.bool true)], args := [d1, d2, d3] }
  | _ => none }
def settleEitherRow : OpenClaim := { program := "ytehhlgdkhecacaagreat", sum := "75c17d9be8d8ab232a54cefed01c24a10d3056d970d301cc6361bc261ec44ad7", func := "leazing/leazinglaw02.SettleEither", spec := "settleEither", unfollowed := true, recurses := true, plainKeys := false, apart := false }
def SettleEitherSaid : Prop := settleEitherRow.holds Tryz.pinned (OpenSpec.ofChange settleEitherSpec)

/-- ITS FALSE NEIGHBOUR: 'it returns false'. Refute it at one input. -/
def settleEitherWrong : ChangeSpec := { name := "settleEither", fn := fun _ => fun
  | [d1, d2, d3] => { results := [.lit (.bool false)], args := [d1, d2, d3] }
  | _ => none }
def SettleEitherWrongFalsely : Prop := settleEitherRow.holds Tryz.pinned (OpenSpec.ofChange settleEitherWrong)

/-- 'leazinglaw02.SettleChecks': WHATEVER THE INPUT: true; the input reads as it did. -/
def settleChecksSpec : ChangeSpec := { name := "settleChecks", fn := fun _ => fun
  | [d1, d2, d3] => { results := [.lit (.bool true)], args := [d1, d2, d3] }
  | _ => none }
def settleChecksRow : OpenClaim := { program := "ytehhlgdkhecacaagreat", sum := "75c17d9be8d8ab232a54cefed01c24a10d3056d970d301cc6361bc261ec44ad7", func := "leazing/leazinglaw02.SettleChecks", spec := "settleChecks", inPlace := ["slices.overlaps[leazing/api.Proof]"], unfollowed := true, recurses := true, plainKeys := false, apart := false }
def SettleChecksSaid : Prop := settleChecksRow.holds Tryz.pinned (OpenSpec.ofChange settleChecksSpec)

/-- ITS FALSE NEIGHBOUR: 'it returns false'. Refute it at one input. -/
def settleChecksWrong : ChangeSpec := { name := "settleChecks", fn := fun _ => fun
  | [d1, d2, d3] => { results := [.lit (.bool false)], args := [d1, d2, d3] }
  | _ => none }
def SettleChecksWrongFalsely : Prop := settleChecksRow.holds Tryz.pinned (OpenSpec.ofChange settleChecksWrong)

/- THE SECOND FORM. 'bulk': how many values and letters a reading holds, each counted each time it is reached (what is shared counts as often as it is met; a slice's spare places count too). A statement '..UptoSaid' is the law's where the arguments, and the package variables that the reading takes, are together of bulk at most 1048576: NARROWER than '..Said'. Prove '..Said' where nothing that the law and all that it calls make is longer than what came in: it says more and counts as full. Else prove '..UptoSaid'. A law counts once. -/
mutual
def uptoBulk {H : Type} : DataW H → Nat
  | .lit (.string bytes) => bytes.length + 1
  | .lit _ => 1
  | .nil => 1
  | .ptr d => uptoBulk d + 1
  | .slice elems spare => uptoBulkAll elems + uptoBulkAll spare + 1
  | .agg parts => uptoBulkAll parts + 1
  | .iface _ d => uptoBulk d + 1
  | .map entries => uptoBulkEntries entries + 1
  | .held _ => 1
def uptoBulkAll {H : Type} : List (DataW H) → Nat
  | [] => 0
  | d :: r => uptoBulk d + uptoBulkAll r
def uptoBulkEntries {H : Type} : List (Lit × DataW H) → Nat
  | [] => 0
  | x :: r => uptoBulkEntry x + uptoBulkEntries r
def uptoBulkEntry {H : Type} : Lit × DataW H → Nat
  | (.string bytes, d) => bytes.length + uptoBulk d + 1
  | (_, d) => uptoBulk d + 1
 end
def uptoSmall : (H : Type) → List (DataW H) → Bool := fun _ ds => decide (uptoBulkAll ds ≤ 1048576)
def OpenSpec.upto (s : _root_.Go.ChangeSpec) : _root_.Go.OpenSpec := { _root_.Go.OpenSpec.ofChange s with cond := some uptoSmall }

/-- 'leazinglaw02.SettleMoves', WHERE WHAT IT READS IS OF BULK AT MOST 1048576: true; the input reads as it did. -/
def settleMovesUptoRow : OpenClaim := { program := "ytehhlgdkhecacaagreat", sum := "75c17d9be8d8ab232a54cefed01c24a10d3056d970d301cc6361bc261ec44ad7", func := "leazing/leazinglaw02.SettleMoves", spec := "settleMoves", unfollowed := true, recurses := true, plainKeys := false, apart := false, narrowed := true }
def SettleMovesUptoSaid : Prop := settleMovesUptoRow.holds Tryz.pinned (OpenSpec.upto settleMovesSpec)

/-- 'leazinglaw02.SettleTitles', WHERE WHAT IT READS IS OF BULK AT MOST 1048576: true; the input reads as it did. -/
def settleTitlesUptoRow : OpenClaim := { program := "ytehhlgdkhecacaagreat", sum := "75c17d9be8d8ab232a54cefed01c24a10d3056d970d301cc6361bc261ec44ad7", func := "leazing/leazinglaw02.SettleTitles", spec := "settleTitles", unfollowed := true, recurses := true, plainKeys := false, apart := false, narrowed := true }
def SettleTitlesUptoSaid : Prop := settleTitlesUptoRow.holds Tryz.pinned (OpenSpec.upto settleTitlesSpec)

/-- 'leazinglaw02.SettleRights', WHERE WHAT IT READS IS OF BULK AT MOST 1048576: true; the input reads as it did. -/
def settleRightsUptoRow : OpenClaim := { program := "ytehhlgdkhecacaagreat", sum := "75c17d9be8d8ab232a54cefed01c24a10d3056d970d301cc6361bc261ec44ad7", func := "leazing/leazinglaw02.SettleRights", spec := "settleRights", unfollowed := true, recurses := true, plainKeys := false, apart := false, narrowed := true }
def SettleRightsUptoSaid : Prop := settleRightsUptoRow.holds Tryz.pinned (OpenSpec.upto settleRightsSpec)

/-- 'leazinglaw02.SettleRests', WHERE WHAT IT READS IS OF BULK AT MOST 1048576: true; the input reads as it did. -/
def settleRestsUptoRow : OpenClaim := { program := "ytehhlgdkhecacaagreat", sum := "75c17d9be8d8ab232a54cefed01c24a10d3056d970d301cc6361bc261ec44ad7", func := "leazing/leazinglaw02.SettleRests", spec := "settleRests", unfollowed := true, recurses := true, plainKeys := false, apart := false, narrowed := true }
def SettleRestsUptoSaid : Prop := settleRestsUptoRow.holds Tryz.pinned (OpenSpec.upto settleRestsSpec)

/-- 'leazinglaw02.SettleRead', WHERE WHAT IT READS IS OF BULK AT MOST 1048576: true; the input reads as it did. -/
def settleReadUptoRow : OpenClaim := { program := "ytehhlgdkhecacaagreat", sum := "75c17d9be8d8ab232a54cefed01c24a10d3056d970d301cc6361bc261ec44ad7", func := "leazing/leazinglaw02.SettleRead", spec := "settleRead", unfollowed := true, recurses := true, plainKeys := false, apart := false, narrowed := true }
def SettleReadUptoSaid : Prop := settleReadUptoRow.holds Tryz.pinned (OpenSpec.upto settleReadSpec)

/-- 'leazinglaw02.SettleOrder', WHERE WHAT IT READS IS OF BULK AT MOST 1048576: true; the input reads as it did. -/
def settleOrderUptoRow : OpenClaim := { program := "ytehhlgdkhecacaagreat", sum := "75c17d9be8d8ab232a54cefed01c24a10d3056d970d301cc6361bc261ec44ad7", func := "leazing/leazinglaw02.SettleOrder", spec := "settleOrder", unfollowed := true, recurses := true, plainKeys := false, apart := false, narrowed := true }
def SettleOrderUptoSaid : Prop := settleOrderUptoRow.holds Tryz.pinned (OpenSpec.upto settleOrderSpec)

/-- 'leazinglaw02.SettleShown', WHERE WHAT IT READS IS OF BULK AT MOST 1048576: true; the input reads as it did. -/
def settleShownUptoRow : OpenClaim := { program := "ytehhlgdkhecacaagreat", sum := "75c17d9be8d8ab232a54cefed01c24a10d3056d970d301cc6361bc261ec44ad7", func := "leazing/leazinglaw02.SettleShown", spec := "settleShown", unfollowed := true, recurses := true, plainKeys := false, apart := false, narrowed := true }
def SettleShownUptoSaid : Prop := settleShownUptoRow.holds Tryz.pinned (OpenSpec.upto settleShownSpec)

/-- 'leazinglaw02.SettleSince', WHERE WHAT IT READS IS OF BULK AT MOST 1048576: true; the input reads as it did. -/
def settleSinceUptoRow : OpenClaim := { program := "ytehhlgdkhecacaagreat", sum := "75c17d9be8d8ab232a54cefed01c24a10d3056d970d301cc6361bc261ec44ad7", func := "leazing/leazinglaw02.SettleSince", spec := "settleSince", unfollowed := true, recurses := true, plainKeys := false, apart := false, narrowed := true }
def SettleSinceUptoSaid : Prop := settleSinceUptoRow.holds Tryz.pinned (OpenSpec.upto settleSinceSpec)

/-- 'leazinglaw02.SettleTrue', WHERE WHAT IT READS IS OF BULK AT MOST 1048576: true; the input reads as it did. -/
def settleTrueUptoRow : OpenClaim := { program := "ytehhlgdkhecacaagreat", sum := "75c17d9be8d8ab232a54cefed01c24a10d3056d970d301cc6361bc261ec44ad7", func := "leazing/leazinglaw02.SettleTrue", spec := "settleTrue", unfollowed := true, recurses := true, plainKeys := false, apart := false, narrowed := true }
def SettleTrueUptoSaid : Prop := settleTrueUptoRow.holds Tryz.pinned (OpenSpec.upto settleTrueSpec)

/-- 'leazinglaw02.SettleReads', WHERE WHAT IT READS IS OF BULK AT MOST 1048576: true; the input reads as it did. -/
def settleReadsUptoRow : OpenClaim := { program := "ytehhlgdkhecacaagreat", sum := "75c17d9be8d8ab232a54cefed01c24a10d3056d970d301cc6361bc261ec44ad7", func := "leazing/leazinglaw02.SettleReads", spec := "settleReads", unfollowed := true, recurses := true, plainKeys := false, apart := false, narrowed := true }
def SettleReadsUptoSaid : Prop := settleReadsUptoRow.holds Tryz.pinned (OpenSpec.upto settleReadsSpec)

/-- 'leazinglaw02.SettleEither', WHERE WHAT IT READS IS OF BULK AT MOST 1048576: true; the input reads as it did. -/
def settleEitherUptoRow : OpenClaim := { program := "ytehhlgdkhecacaagreat", sum := "75c17d9be8d8ab232a54cefed01c24a10d3056d970d301cc6361bc261ec44ad7", func := "leazing/leazinglaw02.SettleEither", spec := "settleEither", unfollowed := true, recurses := true, plainKeys := false, apart := false, narrowed := true }
def SettleEitherUptoSaid : Prop := settleEitherUptoRow.holds Tryz.pinned (OpenSpec.upto settleEitherSpec)

/-- 'leazinglaw02.SettleChecks', WHERE WHAT IT READS IS OF BULK AT MOST 1048576: true; the input reads as it did. -/
def settleChecksUptoRow : OpenClaim := { program := "ytehhlgdkhecacaagreat", sum := "75c17d9be8d8ab232a54cefed01c24a10d3056d970d301cc6361bc261ec44ad7", func := "leazing/leazinglaw02.SettleChecks", spec := "settleChecks", inPlace := ["slices.overlaps[leazing/api.Proof]"], unfollowed := true, recurses := true, plainKeys := false, apart := false, narrowed := true }
def SettleChecksUptoSaid : Prop := settleChecksUptoRow.holds Tryz.pinned (OpenSpec.upto settleChecksSpec)

end Rows
end Go.Proofs.YtehhlgdkhecacaaGreat
