/-
  No cell of these rows narrows 'for every input' (looked for: loops, veiled, ifaces, maps, wideKeys, modest, calm, conditions, laid).
  DERIVED. THE GIVEN ROWS OF THIS SEAT. 9 by the template 'for every input the law returns true; each argument reads behind the call as it read before'; 0 by the template 'total and deterministic' (their statements: YtfiembgemhonlaaTotals.lean).
  GIVEN WITH THE SEED: the statements are not yours to turn. If you find one false, say at which input.
  Laid BY PROGRAM, IN A SANDBOX (cutbox-rows.mjs): the forced cells as the released guide's own fill.sh prints them over the translation 7932b6ff14b81e78… (all of the seat's roots in one cut). By AI agents, Wed Nov 11 2026. No macro, syntax, notation, axiom, sorry.
-/
import Derived.Test.YtfiembgemhonlaaChecked
import GoSem.Claim
import GoSem.ClaimJoined
import GoSem.ClaimMapViews
import Derived.JoinedTies
import Derived.KernelRfl
namespace Go.Proofs.Ytfiembgemhonlaa
/- THE CELL 'sum', in the pinned program and in every row, IS THE sha256 OF THE DUMP (.gsa) THAT YtfiembgemhonlaaProg.lean LOADS. Nothing in Lean hashes anything: it is a label: what it is worth is what the hold of that sum in a sandbox is worth. -/
noncomputable def Try.pinned : Pinned := { name := "ytfiembgemhonlaa", sum := "7932b6ff14b81e7899a86b616f50f71a3f5731a090663ae8b21b158fbfee74f6", checked := Try.checked }
namespace Rows
def none {H : Type} : Left H := { results := [], args := [] }

/-- 'jitlaw2.BatteriesGain': WHATEVER THE INPUT: true; the input reads as it did. -/
def batteriesGainSpec : ChangeSpec := { name := "batteriesGain", fn := fun _ => fun
  | [d1, d2, d3, d4, d5, d6, d7] => { results := [.lit (.bool true)], args := [d1, d2, d3, d4, d5, d6, d7] }
  | _ => none }
def batteriesGainRow : OpenClaim := { program := "ytfiembgemhonlaa", sum := "7932b6ff14b81e7899a86b616f50f71a3f5731a090663ae8b21b158fbfee74f6", func := "jitney/jitlaw2.BatteriesGain", spec := "batteriesGain", inPlace := ["internal/bytealg.IndexByteString"], unfollowed := true, recurses := true, plainKeys := false, apart := false }
def BatteriesGainSaid : Prop := batteriesGainRow.holds Try.pinned (OpenSpec.ofChange batteriesGainSpec)

/-- ITS FALSE NEIGHBOUR: 'it returns false'. Refute it at one input. -/
def batteriesGainWrong : ChangeSpec := { name := "batteriesGain", fn := fun _ => fun
  | [d1, d2, d3, d4, d5, d6, d7] => { results := [.lit (.bool false)], args := [d1, d2, d3, d4, d5, d6, d7] }
  | _ => none }
def BatteriesGainWrongFalsely : Prop := batteriesGainRow.holds Try.pinned (OpenSpec.ofChange batteriesGainWrong)

/-- 'jitlaw2.PeopleApart': WHATEVER THE INPUT: true; the input reads as it did. -/
def peopleApartSpec : ChangeSpec := { name := "peopleApart", fn := fun _ => fun
  | [d1, d2, d3, d4, d5] => { results := [.lit (.bool true)], args := [d1, d2, d3, d4, d5] }
  | _ => none }
def peopleApartRow : OpenClaim := { program := "ytfiembgemhonlaa", sum := "7932b6ff14b81e7899a86b616f50f71a3f5731a090663ae8b21b158fbfee74f6", func := "jitney/jitlaw2.PeopleApart", spec := "peopleApart", inPlace := ["internal/bytealg.abigen_runtime_cmpstring", "internal/bytealg.IndexByteString"], unfollowed := true, recurses := true, plainKeys := false, apart := false }
def PeopleApartSaid : Prop := peopleApartRow.holds Try.pinned (OpenSpec.ofChange peopleApartSpec)

/-- ITS FALSE NEIGHBOUR: 'it returns false'. Refute it at one input. -/
def peopleApartWrong : ChangeSpec := { name := "peopleApart", fn := fun _ => fun
  | [d1, d2, d3, d4, d5] => { results := [.lit (.bool false)], args := [d1, d2, d3, d4, d5] }
  | _ => none }
def PeopleApartWrongFalsely : Prop := peopleApartRow.holds Try.pinned (OpenSpec.ofChange peopleApartWrong)

/-- 'jitlaw2.LevelsReckoned': WHATEVER THE INPUT: true; the input reads as it did. -/
def levelsReckonedSpec : ChangeSpec := { name := "levelsReckoned", fn := fun _ => fun
  | [d1, d2, d3, d4, d5] => { results := [.lit (.bool true)], args := [d1, d2, d3, d4, d5] }
  | _ => none }
def levelsReckonedRow : OpenClaim := { program := "ytfiembgemhonlaa", sum := "7932b6ff14b81e7899a86b616f50f71a3f5731a090663ae8b21b158fbfee74f6", func := "jitney/jitlaw2.LevelsReckoned", spec := "levelsReckoned", inPlace := ["internal/bytealg.IndexByteString"], unfollowed := true, recurses := true, plainKeys := false, apart := false }
def LevelsReckonedSaid : Prop := levelsReckonedRow.holds Try.pinned (OpenSpec.ofChange levelsReckonedSpec)

/-- ITS FALSE NEIGHBOUR: 'it returns false'. Refute it at one input. -/
def levelsReckonedWrong : ChangeSpec := { name := "levelsReckoned", fn := fun _ => fun
  | [d1, d2, d3, d4, d5] => { results := [.lit (.bool false)], args := [d1, d2, d3, d4, d5] }
  | _ => none }
def LevelsReckonedWrongFalsely : Prop := levelsReckonedRow.holds Try.pinned (OpenSpec.ofChange levelsReckonedWrong)

/-- 'jitlaw2.ShiftsCovered': WHATEVER THE INPUT: true; the input reads as it did. -/
def shiftsCoveredSpec : ChangeSpec := { name := "shiftsCovered", fn := fun _ => fun
  | [d1, d2, d3, d4, d5, d6] => { results := [.lit (.bool true)], args := [d1, d2, d3, d4, d5, d6] }
  | _ => none }
def shiftsCoveredRow : OpenClaim := { program := "ytfiembgemhonlaa", sum := "7932b6ff14b81e7899a86b616f50f71a3f5731a090663ae8b21b158fbfee74f6", func := "jitney/jitlaw2.ShiftsCovered", spec := "shiftsCovered", inPlace := ["internal/bytealg.IndexByteString"], unfollowed := true, recurses := true, plainKeys := false, apart := false }
def ShiftsCoveredSaid : Prop := shiftsCoveredRow.holds Try.pinned (OpenSpec.ofChange shiftsCoveredSpec)

/-- ITS FALSE NEIGHBOUR: 'it returns false'. Refute it at one input. -/
def shiftsCoveredWrong : ChangeSpec := { name := "shiftsCovered", fn := fun _ => fun
  | [d1, d2, d3, d4, d5, d6] => { results := [.lit (.bool false)], args := [d1, d2, d3, d4, d5, d6] }
  | _ => none }
def ShiftsCoveredWrongFalsely : Prop := shiftsCoveredRow.holds Try.pinned (OpenSpec.ofChange shiftsCoveredWrong)

/-- 'jitlaw2.DeedsMerge': WHATEVER THE INPUT: true; the input reads as it did. -/
def deedsMergeSpec : ChangeSpec := { name := "deedsMerge", fn := fun _ => fun
  | [d1, d2, d3, d4] => { results := [.lit (.bool true)], args := [d1, d2, d3, d4] }
  | _ => none }
def deedsMergeRow : OpenClaim := { program := "ytfiembgemhonlaa", sum := "7932b6ff14b81e7899a86b616f50f71a3f5731a090663ae8b21b158fbfee74f6", func := "jitney/jitlaw2.DeedsMerge", spec := "deedsMerge", inPlace := ["internal/bytealg.IndexByteString", "internal/bytealg.abigen_runtime_cmpstring"], unfollowed := true, recurses := true, plainKeys := false, apart := false }
def DeedsMergeSaid : Prop := deedsMergeRow.holds Try.pinned (OpenSpec.ofChange deedsMergeSpec)

/-- ITS FALSE NEIGHBOUR: 'it returns false'. Refute it at one input. -/
def deedsMergeWrong : ChangeSpec := { name := "deedsMerge", fn := fun _ => fun
  | [d1, d2, d3, d4] => { results := [.lit (.bool false)], args := [d1, d2, d3, d4] }
  | _ => none }
def DeedsMergeWrongFalsely : Prop := deedsMergeRow.holds Try.pinned (OpenSpec.ofChange deedsMergeWrong)

/-- 'jitlaw2.PeopleBlocked': WHATEVER THE INPUT: true; the input reads as it did. -/
def peopleBlockedSpec : ChangeSpec := { name := "peopleBlocked", fn := fun _ => fun
  | [d1, d2, d3, d4] => { results := [.lit (.bool true)], args := [d1, d2, d3, d4] }
  | _ => none }
def peopleBlockedRow : OpenClaim := { program := "ytfiembgemhonlaa", sum := "7932b6ff14b81e7899a86b616f50f71a3f5731a090663ae8b21b158fbfee74f6", func := "jitney/jitlaw2.PeopleBlocked", spec := "peopleBlocked", inPlace := ["internal/bytealg.abigen_runtime_cmpstring", "internal/bytealg.IndexByteString"], unfollowed := true, recurses := true, plainKeys := false, apart := false }
def PeopleBlockedSaid : Prop := peopleBlockedRow.holds Try.pinned (OpenSpec.ofChange peopleBlockedSpec)

/-- ITS FALSE NEIGHBOUR: 'it returns false'. Refute it at one input. -/
def peopleBlockedWrong : ChangeSpec := { name := "peopleBlocked", fn := fun _ => fun
  | [d1, d2, d3, d4] => { results := [.lit (.bool false)], args := [d1, d2, d3, d4] }
  | _ => none }
def PeopleBlockedWrongFalsely : Prop := peopleBlockedRow.holds Try.pinned (OpenSpec.ofChange peopleBlockedWrong)

/-- 'jitlaw2.RidesPaired': WHATEVER THE INPUT: true; the input reads as it did. -/
def ridesPairedSpec : ChangeSpec := { name := "ridesPaired", fn := fun _ => fun
  | [d] => { results := [.lit (.bool true)], args := [d] }
  | _ => none }
def ridesPairedRow : OpenClaim := { program := "ytfiembgemhonlaa", sum := "7932b6ff14b81e7899a86b616f50f71a3f5731a090663ae8b21b158fbfee74f6", func := "jitney/jitlaw2.RidesPaired", spec := "ridesPaired", inPlace := ["internal/bytealg.IndexByteString", "internal/bytealg.abigen_runtime_cmpstring"], unfollowed := true, recurses := true, plainKeys := false, apart := false }
def RidesPairedSaid : Prop := ridesPairedRow.holds Try.pinned (OpenSpec.ofChange ridesPairedSpec)

/-- ITS FALSE NEIGHBOUR: 'it returns false'. Refute it at one input. -/
def ridesPairedWrong : ChangeSpec := { name := "ridesPaired", fn := fun _ => fun
  | [d] => { results := [.lit (.bool false)], args := [d] }
  | _ => none }
def RidesPairedWrongFalsely : Prop := ridesPairedRow.holds Try.pinned (OpenSpec.ofChange ridesPairedWrong)

/-- 'jitlaw2.OffersCount': WHATEVER THE INPUT: true; the input reads as it did. -/
def offersCountSpec : ChangeSpec := { name := "offersCount", fn := fun _ => fun
  | [d1, d2] => { results := [.lit (.bool true)], args := [d1, d2] }
  | _ => none }
def offersCountRow : OpenClaim := { program := "ytfiembgemhonlaa", sum := "7932b6ff14b81e7899a86b616f50f71a3f5731a090663ae8b21b158fbfee74f6", func := "jitney/jitlaw2.OffersCount", spec := "offersCount", inPlace := ["internal/bytealg.abigen_runtime_cmpstring", "internal/bytealg.IndexByteString"], unfollowed := true, recurses := true, plainKeys := false, apart := false }
def OffersCountSaid : Prop := offersCountRow.holds Try.pinned (OpenSpec.ofChange offersCountSpec)

/-- ITS FALSE NEIGHBOUR: 'it returns false'. Refute it at one input. -/
def offersCountWrong : ChangeSpec := { name := "offersCount", fn := fun _ => fun
  | [d1, d2] => { results := [.lit (.bool false)], args := [d1, d2] }
  | _ => none }
def OffersCountWrongFalsely : Prop := offersCountRow.holds Try.pinned (OpenSpec.ofChange offersCountWrong)

/-- 'jitlaw2.RatingsScored': WHATEVER THE INPUT: true; the input reads as it did. -/
def ratingsScoredSpec : ChangeSpec := { name := "ratingsScored", fn := fun _ => fun
  | [d1, d2, d3, d4, d5, d6] => { results := [.lit (.bool true)], args := [d1, d2, d3, d4, d5, d6] }
  | _ => none }
def ratingsScoredRow : OpenClaim := { program := "ytfiembgemhonlaa", sum := "7932b6ff14b81e7899a86b616f50f71a3f5731a090663ae8b21b158fbfee74f6", func := "jitney/jitlaw2.RatingsScored", spec := "ratingsScored", inPlace := ["internal/bytealg.abigen_runtime_cmpstring", "internal/bytealg.IndexByteString"], unfollowed := true, recurses := true, plainKeys := false, apart := false }
def RatingsScoredSaid : Prop := ratingsScoredRow.holds Try.pinned (OpenSpec.ofChange ratingsScoredSpec)

/-- ITS FALSE NEIGHBOUR: 'it returns false'. Refute it at one input. -/
def ratingsScoredWrong : ChangeSpec := { name := "ratingsScored", fn := fun _ => fun
  | [d1, d2, d3, d4, d5, d6] => { results := [.lit (.bool false)], args := [d1, d2, d3, d4, d5, d6] }
  | _ => none }
def RatingsScoredWrongFalsely : Prop := ratingsScoredRow.holds Try.pinned (OpenSpec.ofChange ratingsScoredWrong)

/- THE SECOND FORM. 'bulk': how many values and letters a reading holds, each counted each time it is reached (what is shared counts as often as it is met; a slice's spare places count too). A statement '..UptoSaid' is the law's where the arguments, and the package variables that the reading takes, are together of bulk at most 1048576: NARROWER than '..Said'. Prove '..Said' where nothing that the law and all that it calls make is longer than what came in: it says more and counts as full. Else prove '..UptoSaid'. A law counts once. -/
mutual
def uptoBulk {H : Type} : DataW H → Nat
  | .lit (.string bytes) => bytes.length + 1
  | .lit _ => 1
  | .nil => 1
  | .ptr d => uptoBulk d + 1
  | .slice elems spare => uptoBulkAll elems + uptoBulkAll spare + 1
  | .agg parts => uptoBulkAll parts + 1
  | .iface _ d => uptoBulk d + 1
  | .map entries => uptoBulkEntries entries + 1
  | .held _ => 1
def uptoBulkAll {H : Type} : List (DataW H) → Nat
  | [] => 0
  | d :: r => uptoBulk d + uptoBulkAll r
def uptoBulkEntries {H : Type} : List (Lit × DataW H) → Nat
  | [] => 0
  | x :: r => uptoBulkEntry x + uptoBulkEntries r
def uptoBulkEntry {H : Type} : Lit × DataW H → Nat
  | (.string bytes, d) => bytes.length + uptoBulk d + 1
  | (_, d) => uptoBulk d + 1
 end
def uptoSmall : (H : Type) → List (DataW H) → Bool := fun _ ds => decide (uptoBulkAll ds ≤ 1048576)
def OpenSpec.upto (s : _root_.Go.ChangeSpec) : _root_.Go.OpenSpec := { _root_.Go.OpenSpec.ofChange s with cond := some uptoSmall }

/-- 'jitlaw2.BatteriesGain', WHERE WHAT IT READS IS OF BULK AT MOST 1048576: true; the input reads as it did. -/
def batteriesGainUptoRow : OpenClaim := { program := "ytfiembgemhonlaa", sum := "7932b6ff14b81e7899a86b616f50f71a3f5731a090663ae8b21b158fbfee74f6", func := "jitney/jitlaw2.BatteriesGain", spec := "batteriesGain", inPlace := ["internal/bytealg.IndexByteString"], unfollowed := true, recurses := true, plainKeys := false, apart := false, narrowed := true }
def BatteriesGainUptoSaid : Prop := batteriesGainUptoRow.holds Try.pinned (OpenSpec.upto batteriesGainSpec)

/-- 'jitlaw2.PeopleApart', WHERE WHAT IT READS IS OF BULK AT MOST 1048576: true; the input reads as it did. -/
def peopleApartUptoRow : OpenClaim := { program := "ytfiembgemhonlaa", sum := "7932b6ff14b81e7899a86b616f50f71a3f5731a090663ae8b21b158fbfee74f6", func := "jitney/jitlaw2.PeopleApart", spec := "peopleApart", inPlace := ["internal/bytealg.abigen_runtime_cmpstring", "internal/bytealg.IndexByteString"], unfollowed := true, recurses := true, plainKeys := false, apart := false, narrowed := true }
def PeopleApartUptoSaid : Prop := peopleApartUptoRow.holds Try.pinned (OpenSpec.upto peopleApartSpec)

/-- 'jitlaw2.LevelsReckoned', WHERE WHAT IT READS IS OF BULK AT MOST 1048576: true; the input reads as it did. -/
def levelsReckonedUptoRow : OpenClaim := { program := "ytfiembgemhonlaa", sum := "7932b6ff14b81e7899a86b616f50f71a3f5731a090663ae8b21b158fbfee74f6", func := "jitney/jitlaw2.LevelsReckoned", spec := "levelsReckoned", inPlace := ["internal/bytealg.IndexByteString"], unfollowed := true, recurses := true, plainKeys := false, apart := false, narrowed := true }
def LevelsReckonedUptoSaid : Prop := levelsReckonedUptoRow.holds Try.pinned (OpenSpec.upto levelsReckonedSpec)

/-- 'jitlaw2.ShiftsCovered', WHERE WHAT IT READS IS OF BULK AT MOST 1048576: true; the input reads as it did. -/
def shiftsCoveredUptoRow : OpenClaim := { program := "ytfiembgemhonlaa", sum := "7932b6ff14b81e7899a86b616f50f71a3f5731a090663ae8b21b158fbfee74f6", func := "jitney/jitlaw2.ShiftsCovered", spec := "shiftsCovered", inPlace := ["internal/bytealg.IndexByteString"], unfollowed := true, recurses := true, plainKeys := false, apart := false, narrowed := true }
def ShiftsCoveredUptoSaid : Prop := shiftsCoveredUptoRow.holds Try.pinned (OpenSpec.upto shiftsCoveredSpec)

/-- 'jitlaw2.DeedsMerge', WHERE WHAT IT READS IS OF BULK AT MOST 1048576: true; the input reads as it did. -/
def deedsMergeUptoRow : OpenClaim := { program := "ytfiembgemhonlaa", sum := "7932b6ff14b81e7899a86b616f50f71a3f5731a090663ae8b21b158fbfee74f6", func := "jitney/jitlaw2.DeedsMerge", spec := "deedsMerge", inPlace := ["internal/bytealg.IndexByteString", "internal/bytealg.abigen_runtime_cmpstring"], unfollowed := true, recurses := true, plainKeys := false, apart := false, narrowed := true }
def DeedsMergeUptoSaid : Prop := deedsMergeUptoRow.holds Try.pinned (OpenSpec.upto deedsMergeSpec)

/-- 'jitlaw2.PeopleBlocked', WHERE WHAT IT READS IS OF BULK AT MOST 1048576: true; the input reads as it did. -/
def peopleBlockedUptoRow : OpenClaim := { program := "ytfiembgemhonlaa", sum := "7932b6ff14b81e7899a86b616f50f71a3f5731a090663ae8b21b158fbfee74f6", func := "jitney/jitlaw2.PeopleBlocked", spec := "peopleBlocked", inPlace := ["internal/bytealg.abigen_runtime_cmpstring", "internal/bytealg.IndexByteString"], unfollowed := true, recurses := true, plainKeys := false, apart := false, narrowed := true }
def PeopleBlockedUptoSaid : Prop := peopleBlockedUptoRow.holds Try.pinned (OpenSpec.upto peopleBlockedSpec)

/-- 'jitlaw2.RidesPaired', WHERE WHAT IT READS IS OF BULK AT MOST 1048576: true; the input reads as it did. -/
def ridesPairedUptoRow : OpenClaim := { program := "ytfiembgemhonlaa", sum := "7932b6ff14b81e7899a86b616f50f71a3f5731a090663ae8b21b158fbfee74f6", func := "jitney/jitlaw2.RidesPaired", spec := "ridesPaired", inPlace := ["internal/bytealg.IndexByteString", "internal/bytealg.abigen_runtime_cmpstring"], unfollowed := true, recurses := true, plainKeys := false, apart := false, narrowed := true }
def RidesPairedUptoSaid : Prop := ridesPairedUptoRow.holds Try.pinned (OpenSpec.upto ridesPairedSpec)

/-- 'jitlaw2.OffersCount', WHERE WHAT IT READS IS OF BULK AT MOST 1048576: true; the input reads as it did. -/
def offersCountUptoRow : OpenClaim := { program := "ytfiembgemhonlaa", sum := "7932b6ff14b81e7899a86b616f50f71a3f5731a090663ae8b21b158fbfee74f6", func := "jitney/jitlaw2.OffersCount", spec := "offersCount", inPlace := ["internal/bytealg.abigen_runtime_cmpstring", "internal/bytealg.IndexByteString"], unfollowed := true, recurses := true, plainKeys := false, apart := false, narrowed := true }
def OffersCountUptoSaid : Prop := offersCountUptoRow.holds Try.pinned (OpenSpec.upto offersCountSpec)

/-- 'jitlaw2.RatingsScored', WHERE WHAT IT READS IS OF BULK AT MOST 1048576: true; the input reads as it did. -/
def ratingsScoredUptoRow : OpenClaim := { program := "ytfiembgemhonlaa", sum := "7932b6ff14b81e7899a86b616f50f71a3f5731a090663ae8b21b158fbfee74f6", func := "jitney/jitlaw2.RatingsScored", spec := "ratingsScored", inPlace := ["internal/bytealg.abigen_runtime_cmpstring", "internal/bytealg.IndexByteString"], unfollowed := true, recurses := true, plainKeys := false, apart := false, narrowed := true }
def RatingsScoredUptoSaid : Prop := ratingsScoredUptoRow.holds Try.pinned (OpenSpec.upto ratingsScoredSpec)

end Rows
end Go.Proofs.Ytfiembgemhonlaa
