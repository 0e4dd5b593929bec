/-
  No cell of these rows narrows 'for every input' (looked for: loops, veiled, ifaces, maps, wideKeys, modest, calm, conditions, laid).
  DERIVED. THE GIVEN ROWS OF THIS SEAT. 5 by the template 'for every input the law returns true; each argument reads behind the call as it read before'; 0 by the template 'total and deterministic' (their statements: YtddmnddocbmjnaaGreatTotals.lean).
  GIVEN WITH THE SEED: the statements are not yours to turn. If you find one false, say at which input.
  Laid BY PROGRAM, IN A SANDBOX (cutbox-rows.mjs): the forced cells as the released guide's own fill.sh prints them over the translation 5804bab07806618c… (all of the seat's roots in one cut). By AI agents, Wed Nov 11 2026. No macro, syntax, notation, axiom, sorry.
-/
import Derived.Test.YtddmnddocbmjnaaGreatChecked
import GoSem.Claim
import GoSem.ClaimJoined
import GoSem.ClaimMapViews
import Derived.JoinedTies
import Derived.KernelRfl
namespace Go.Proofs.YtddmnddocbmjnaaGreat
/- THE CELL 'sum', in the pinned program and in every row, IS THE sha256 OF THE DUMP (.gsa) THAT YtddmnddocbmjnaaGreatProg.lean LOADS. Nothing in Lean hashes anything: it is a label: what it is worth is what the hold of that sum in a sandbox is worth. -/
noncomputable def Tryz.pinned : Pinned := { name := "ytddmnddocbmjnaagreat", sum := "5804bab07806618cfd4c3018f55a1c72e67756a0f5292e513947aa361ef94bfc", checked := Tryz.checked }
namespace Rows
def none {H : Type} : Left H := { results := [], args := [] }

/-- 'horariumlaw43.CrowdPairs': WHATEVER THE INPUT: true; the input reads as it did. -/
def crowdPairsSpec : ChangeSpec := { name := "crowdPairs", fn := fun _ => fun
  | [d1, d2, d3] => { results := [.lit (.bool true)], args := [d1, d2, d3] }
  | _ => none }
def crowdPairsRow : OpenClaim := { program := "ytddmnddocbmjnaagreat", sum := "5804bab07806618cfd4c3018f55a1c72e67756a0f5292e513947aa361ef94bfc", func := "horarium/horariumlaw43.CrowdPairs", spec := "crowdPairs", unfollowed := true, recurses := true, plainKeys := false, apart := false }
def CrowdPairsSaid : Prop := crowdPairsRow.holds Tryz.pinned (OpenSpec.ofChange crowdPairsSpec)

/-- ITS FALSE NEIGHBOUR: 'it returns false'. Refute it at one input. -/
def crowdPairsWrong : ChangeSpec := { name := "crowdPairs", fn := fun _ => fun
  | [d1, d2, d3] => { results := [.lit (.bool false)], args := [d1, d2, d3] }
  | _ => none }
def CrowdPairsWrongFalsely : Prop := crowdPairsRow.holds Tryz.pinned (OpenSpec.ofChange crowdPairsWrong)

/-- 'horariumlaw43.CrowdTotals': WHATEVER THE INPUT: true; the input reads as it did. -/
def crowdTotalsSpec : ChangeSpec := { name := "crowdTotals", fn := fun _ => fun
  | [d1, d2, d3, d4] => { results := [.lit (.bool true)], args := [d1, d2, d3, d4] }
  | _ => none }
def crowdTotalsRow : OpenClaim := { program := "ytddmnddocbmjnaagreat", sum := "5804bab07806618cfd4c3018f55a1c72e67756a0f5292e513947aa361ef94bfc", func := "horarium/horariumlaw43.CrowdTotals", spec := "crowdTotals", unfollowed := true, recurses := true, plainKeys := false, apart := false }
def CrowdTotalsSaid : Prop := crowdTotalsRow.holds Tryz.pinned (OpenSpec.ofChange crowdTotalsSpec)

/-- ITS FALSE NEIGHBOUR: 'it returns false'. Refute it at one input. -/
def crowdTotalsWrong : ChangeSpec := { name := "crowdTotals", fn := fun _ => fun
  | [d1, d2, d3, d4] => { results := [.lit (.bool false)], args := [d1, d2, d3, d4] }
  | _ => none }
def CrowdTotalsWrongFalsely : Prop := crowdTotalsRow.holds Tryz.pinned (OpenSpec.ofChange crowdTotalsWrong)

/-- 'horariumlaw43.CrowdWeeks': WHATEVER THE INPUT: true; the input reads as it did. -/
def crowdWeeksSpec : ChangeSpec := { name := "crowdWeeks", fn := fun _ => fun
  | [d1, d2, d3, d4] => { results := [.lit (.bool true)], args := [d1, d2, d3, d4] }
  | _ => none }
def crowdWeeksRow : OpenClaim := { program := "ytddmnddocbmjnaagreat", sum := "5804bab07806618cfd4c3018f55a1c72e67756a0f5292e513947aa361ef94bfc", func := "horarium/horariumlaw43.CrowdWeeks", spec := "crowdWeeks", unfollowed := true, recurses := true, plainKeys := false, apart := false }
def CrowdWeeksSaid : Prop := crowdWeeksRow.holds Tryz.pinned (OpenSpec.ofChange crowdWeeksSpec)

/-- ITS FALSE NEIGHBOUR: 'it returns false'. Refute it at one input. -/
def crowdWeeksWrong : ChangeSpec := { name := "crowdWeeks", fn := fun _ => fun
  | [d1, d2, d3, d4] => { results := [.lit (.bool false)], args := [d1, d2, d3, d4] }
  | _ => none }
def CrowdWeeksWrongFalsely : Prop := crowdWeeksRow.holds Tryz.pinned (OpenSpec.ofChange crowdWeeksWrong)

/-- 'horariumlaw43.CrowdTells': WHATEVER THE INPUT: true; the input reads as it did. -/
def crowdTellsSpec : ChangeSpec := { name := "crowdTells", fn := fun _ => fun
  | [d1, d2, d3, d4] => { results := [.lit (.bool true)], args := [d1, d2, d3, d4] }
  | _ => none }
def crowdTellsRow : OpenClaim := { program := "ytddmnddocbmjnaagreat", sum := "5804bab07806618cfd4c3018f55a1c72e67756a0f5292e513947aa361ef94bfc", func := "horarium/horariumlaw43.CrowdTells", spec := "crowdTells", unfollowed := true, recurses := true, plainKeys := false, apart := false }
def CrowdTellsSaid : Prop := crowdTellsRow.holds Tryz.pinned (OpenSpec.ofChange crowdTellsSpec)

/-- ITS FALSE NEIGHBOUR: 'it returns false'. Refute it at one input. -/
def crowdTellsWrong : ChangeSpec := { name := "crowdTells", fn := fun _ => fun
  | [d1, d2, d3, d4] => { results := [.lit (.bool false)], args := [d1, d2, d3, d4] }
  | _ => none }
def CrowdTellsWrongFalsely : Prop := crowdTellsRow.holds Tryz.pinned (OpenSpec.ofChange crowdTellsWrong)

/-- 'horariumlaw43.CrowdRounds': WHATEVER THE INPUT: true; the input reads as it did. -/
def crowdRoundsSpec : ChangeSpec := { name := "crowdRounds", fn := fun _ => fun
  | [d1, d2, d3, d4, d5] => { results := [.lit (.bool true)], args := [d1, d2, d3, d4, d5] }
  | _ => none }
def crowdRoundsRow : OpenClaim := { program := "ytddmnddocbmjnaagreat", sum := "5804bab07806618cfd4c3018f55a1c72e67756a0f5292e513947aa361ef94bfc", func := "horarium/horariumlaw43.CrowdRounds", spec := "crowdRounds", unfollowed := true, recurses := true, plainKeys := false, apart := false }
def CrowdRoundsSaid : Prop := crowdRoundsRow.holds Tryz.pinned (OpenSpec.ofChange crowdRoundsSpec)

/-- ITS FALSE NEIGHBOUR: 'it returns false'. Refute it at one input. -/
def crowdRoundsWrong : ChangeSpec := { name := "crowdRounds", fn := fun _ => fun
  | [d1, d2, d3, d4, d5] => { results := [.lit (.bool false)], args := [d1, d2, d3, d4, d5] }
  | _ => none }
def CrowdRoundsWrongFalsely : Prop := crowdRoundsRow.holds Tryz.pinned (OpenSpec.ofChange crowdRoundsWrong)

/- THE SECOND FORM. 'bulk': how many values and letters a reading holds, each counted each time it is reached (what is shared counts as often as it is met; a slice's spare places count too). A statement '..UptoSaid' is the law's where the arguments, and the package variables that the reading takes, are together of bulk at most 1048576: NARROWER than '..Said'. Prove '..Said' where nothing that the law and all that it calls make is longer than what came in: it says more and counts as full. Else prove '..UptoSaid'. A law counts once. -/
mutual
def uptoBulk {H : Type} : DataW H → Nat
  | .lit (.string bytes) => bytes.length + 1
  | .lit _ => 1
  | .nil => 1
  | .ptr d => uptoBulk d + 1
  | .slice elems spare => uptoBulkAll elems + uptoBulkAll spare + 1
  | .agg parts => uptoBulkAll parts + 1
  | .iface _ d => uptoBulk d + 1
  | .map entries => uptoBulkEntries entries + 1
  | .held _ => 1
def uptoBulkAll {H : Type} : List (DataW H) → Nat
  | [] => 0
  | d :: r => uptoBulk d + uptoBulkAll r
def uptoBulkEntries {H : Type} : List (Lit × DataW H) → Nat
  | [] => 0
  | x :: r => uptoBulkEntry x + uptoBulkEntries r
def uptoBulkEntry {H : Type} : Lit × DataW H → Nat
  | (.string bytes, d) => bytes.length + uptoBulk d + 1
  | (_, d) => uptoBulk d + 1
 end
def uptoSmall : (H : Type) → List (DataW H) → Bool := fun _ ds => decide (uptoBulkAll ds ≤ 1048576)
def OpenSpec.upto (s : _root_.Go.ChangeSpec) : _root_.Go.OpenSpec := { _root_.Go.OpenSpec.ofChange s with cond := some uptoSmall }

/-- 'horariumlaw43.CrowdPairs', WHERE WHAT IT READS IS OF BULK AT MOST 1048576: true; the input reads as it did. -/
def crowdPairsUptoRow : OpenClaim := { program := "ytddmnddocbmjnaagreat", sum := "5804bab07806618cfd4c3018f55a1c72e67756a0f5292e513947aa361ef94bfc", func := "horarium/horariumlaw43.CrowdPairs", spec := "crowdPairs", unfollowed := true, recurses := true, plainKeys := false, apart := false, narrowed := true }
def CrowdPairsUptoSaid : Prop := crowdPairsUptoRow.holds Tryz.pinned (OpenSpec.upto crowdPairsSpec)

/-- 'horariumlaw43.CrowdTotals', WHERE WHAT IT READS IS OF BULK AT MOST 1048576: true; the input reads as it did. -/
def crowdTotalsUptoRow : OpenClaim := { program := "ytddmnddocbmjnaagreat", sum := "5804bab07806618cfd4c3018f55a1c72e67756a0f5292e513947aa361ef94bfc", func := "horarium/horariumlaw43.CrowdTotals", spec := "crowdTotals", unfollowed := true, recurses := true, plainKeys := false, apart := false, narrowed := true }
def CrowdTotalsUptoSaid : Prop := crowdTotalsUptoRow.holds Tryz.pinned (OpenSpec.upto crowdTotalsSpec)

/-- 'horariumlaw43.CrowdWeeks', WHERE WHAT IT READS IS OF BULK AT MOST 1048576: true; the input reads as it did. -/
def crowdWeeksUptoRow : OpenClaim := { program := "ytddmnddocbmjnaagreat", sum := "5804bab07806618cfd4c3018f55a1c72e67756a0f5292e513947aa361ef94bfc", func := "horarium/horariumlaw43.CrowdWeeks", spec := "crowdWeeks", unfollowed := true, recurses := true, plainKeys := false, apart := false, narrowed := true }
def CrowdWeeksUptoSaid : Prop := crowdWeeksUptoRow.holds Tryz.pinned (OpenSpec.upto crowdWeeksSpec)

/-- 'horariumlaw43.CrowdTells', WHERE WHAT IT READS IS OF BULK AT MOST 1048576: true; the input reads as it did. -/
def crowdTellsUptoRow : OpenClaim := { program := "ytddmnddocbmjnaagreat", sum := "5804bab07806618cfd4c3018f55a1c72e67756a0f5292e513947aa361ef94bfc", func := "horarium/horariumlaw43.CrowdTells", spec := "crowdTells", unfollowed := true, recurses := true, plainKeys := false, apart := false, narrowed := true }
def CrowdTellsUptoSaid : Prop := crowdTellsUptoRow.holds Tryz.pinned (OpenSpec.upto crowdTellsSpec)

/-- 'horariumlaw43.CrowdRounds', WHERE WHAT IT READS IS OF BULK AT MOST 1048576: true; the input reads as it did. -/
def crowdRoundsUptoRow : OpenClaim := { program := "ytddmnddocbmjnaagreat", sum := "5804bab07806618cfd4c3018f55a1c72e67756a0f5292e513947aa361ef94bfc", func := "horarium/horariumlaw43.CrowdRounds", spec := "crowdRounds", unfollowed := true, recurses := true, plainKeys := false, apart := false, narrowed := true }
def CrowdRoundsUptoSaid : Prop := crowdRoundsUptoRow.holds Tryz.pinned (OpenSpec.upto crowdRoundsSpec)

end Rows
end Go.Proofs.YtddmnddocbmjnaaGreat
