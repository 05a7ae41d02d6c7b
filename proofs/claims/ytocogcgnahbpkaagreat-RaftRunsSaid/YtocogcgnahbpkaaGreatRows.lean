/-
  No cell of these rows narrows 'for every input' (looked for: loops, veiled, ifaces, maps, wideKeys, modest, calm, conditions, laid).
  DERIVED. THE GIVEN ROWS OF THIS SEAT. 5 by the template 'for every input the law returns true; each argument reads behind the call as it read before'; 0 by the template 'total and deterministic' (their statements: YtocogcgnahbpkaaGreatTotals.lean).
  GIVEN WITH THE SEED: the statements are not yours to turn. If you find one false, say at which input.
  Laid BY PROGRAM, IN A SANDBOX (cutbox-rows.mjs): the forced cells as the released guide's own fill.sh prints them over the translation 02cb84e5ca1bb9bc… (all of the seat's roots in one cut). By AI agents, Wed Nov 11 2026. No macro, syntax, notation, axiom, sorry.
-/
import Derived.Test.YtocogcgnahbpkaaGreatChecked
import GoSem.Claim
import GoSem.ClaimJoined
import GoSem.ClaimMapViews
import Derived.JoinedTies
import Derived.KernelRfl
namespace Go.Proofs.YtocogcgnahbpkaaGreat
/- THE CELL 'sum', in the pinned program and in every row, IS THE sha256 OF THE DUMP (.gsa) THAT YtocogcgnahbpkaaGreatProg.lean LOADS. Nothing in Lean hashes anything: it is a label: what it is worth is what the hold of that sum in a sandbox is worth. -/
noncomputable def Tryz.pinned : Pinned := { name := "ytocogcgnahbpkaagreat", sum := "02cb84e5ca1bb9bcd1bbd98aacfd0098bf52e7092ce083acb41e9915af5311da", checked := Tryz.checked }
namespace Rows
def none {H : Type} : Left H := { results := [], args := [] }

/-- 'stratalaw16.RaftCalm': WHATEVER THE INPUT: true; the input reads as it did. -/
def raftCalmSpec : ChangeSpec := { name := "raftCalm", fn := fun _ => fun
  | [d1, d2, d3, d4, d5, d6] => { results := [.lit (.bool true)], args := [d1, d2, d3, d4, d5, d6] }
  | _ => none }
def raftCalmRow : OpenClaim := { program := "ytocogcgnahbpkaagreat", sum := "02cb84e5ca1bb9bcd1bbd98aacfd0098bf52e7092ce083acb41e9915af5311da", func := "strata/stratalaw16.RaftCalm", spec := "raftCalm", unfollowed := true, recurses := true, plainKeys := false, apart := false }
def RaftCalmSaid : Prop := raftCalmRow.holds Tryz.pinned (OpenSpec.ofChange raftCalmSpec)

/-- ITS FALSE NEIGHBOUR: 'it returns false'. Refute it at one input. -/
def raftCalmWrong : ChangeSpec := { name := "raftCalm", fn := fun _ => fun
  | [d1, d2, d3, d4, d5, d6] => { results := [.lit (.bool false)], args := [d1, d2, d3, d4, d5, d6] }
  | _ => none }
def RaftCalmWrongFalsely : Prop := raftCalmRow.holds Tryz.pinned (OpenSpec.ofChange raftCalmWrong)

/-- 'stratalaw16.RaftQuiet': WHATEVER THE INPUT: true; the input reads as it did. -/
def raftQuietSpec : ChangeSpec := { name := "raftQuiet", fn := fun _ => fun
  | [d1, d2, d3, d4, d5, d6, d7] => { results := [.lit (.bool true)], args := [d1, d2, d3, d4, d5, d6, d7] }
  | _ => none }
def raftQuietRow : OpenClaim := { program := "ytocogcgnahbpkaagreat", sum := "02cb84e5ca1bb9bcd1bbd98aacfd0098bf52e7092ce083acb41e9915af5311da", func := "strata/stratalaw16.RaftQuiet", spec := "raftQuiet", unfollowed := true, recurses := true, plainKeys := false, apart := false }
def RaftQuietSaid : Prop := raftQuietRow.holds Tryz.pinned (OpenSpec.ofChange raftQuietSpec)

/-- ITS FALSE NEIGHBOUR: 'it returns false'. Refute it at one input. -/
def raftQuietWrong : ChangeSpec := { name := "raftQuiet", fn := fun _ => fun
  | [d1, d2, d3, d4, d5, d6, d7] => { results := [.lit (.bool false)], args := [d1, d2, d3, d4, d5, d6, d7] }
  | _ => none }
def RaftQuietWrongFalsely : Prop := raftQuietRow.holds Tryz.pinned (OpenSpec.ofChange raftQuietWrong)

/-- 'stratalaw16.RaftAlone': WHATEVER THE INPUT: true; the input reads as it did. -/
def raftAloneSpec : ChangeSpec := { name := "raftAlone", fn := fun _ => fun
  | [d1, d2, d3, d4, d5] => { results := [.lit (.bool true)], args := [d1, d2, d3, d4, d5] }
  | _ => none }
def raftAloneRow : OpenClaim := { program := "ytocogcgnahbpkaagreat", sum := "02cb84e5ca1bb9bcd1bbd98aacfd0098bf52e7092ce083acb41e9915af5311da", func := "strata/stratalaw16.RaftAlone", spec := "raftAlone", unfollowed := true, recurses := true, plainKeys := false, apart := false }
def RaftAloneSaid : Prop := raftAloneRow.holds Tryz.pinned (OpenSpec.ofChange raftAloneSpec)

/-- ITS FALSE NEIGHBOUR: 'it returns false'. Refute it at one input. -/
def raftAloneWrong : ChangeSpec := { name := "raftAlone", fn := fun _ => fun
  | [d1, d2, d3, d4, d5] => { results := [.lit (.bool false)], args := [d1, d2, d3, d4, d5] }
  | _ => none }
def RaftAloneWrongFalsely : Prop := raftAloneRow.holds Tryz.pinned (OpenSpec.ofChange raftAloneWrong)

/-- 'stratalaw16.RaftRuns': WHATEVER THE INPUT: true; the input reads as it did. -/
def raftRunsSpec : ChangeSpec := { name := "raftRuns", fn := fun _ => fun
  | [d1, d2, d3, d4, d5, d6] => { results := [.lit (.bool true)], args := [d1, d2, d3, d4, d5, d6] }
  | _ => none }
def raftRunsRow : OpenClaim := { program := "ytocogcgnahbpkaagreat", sum := "02cb84e5ca1bb9bcd1bbd98aacfd0098bf52e7092ce083acb41e9915af5311da", func := "strata/stratalaw16.RaftRuns", spec := "raftRuns", unfollowed := true, recurses := true, plainKeys := false, apart := false }
def RaftRunsSaid : Prop := raftRunsRow.holds Tryz.pinned (OpenSpec.ofChange raftRunsSpec)

/-- ITS FALSE NEIGHBOUR: 'it returns false'. Refute it at one input. -/
def raftRunsWrong : ChangeSpec := { name := "raftRuns", fn := fun _ => fun
  | [d1, d2, d3, d4, d5, d6] => { results := [.lit (.bool false)], args := [d1, d2, d3, d4, d5, d6] }
  | _ => none }
def RaftRunsWrongFalsely : Prop := raftRunsRow.holds Tryz.pinned (OpenSpec.ofChange raftRunsWrong)

/-- 'stratalaw16.RaftSafe': WHATEVER THE INPUT: true; the input reads as it did. -/
def raftSafeSpec : ChangeSpec := { name := "raftSafe", fn := fun _ => fun
  | [d1, d2, d3, d4, d5, d6] => { results := [.lit (.bool true)], args := [d1, d2, d3, d4, d5, d6] }
  | _ => none }
def raftSafeRow : OpenClaim := { program := "ytocogcgnahbpkaagreat", sum := "02cb84e5ca1bb9bcd1bbd98aacfd0098bf52e7092ce083acb41e9915af5311da", func := "strata/stratalaw16.RaftSafe", spec := "raftSafe", unfollowed := true, recurses := true, plainKeys := false, apart := false }
def RaftSafeSaid : Prop := raftSafeRow.holds Tryz.pinned (OpenSpec.ofChange raftSafeSpec)

/-- ITS FALSE NEIGHBOUR: 'it returns false'. Refute it at one input. -/
def raftSafeWrong : ChangeSpec := { name := "raftSafe", fn := fun _ => fun
  | [d1, d2, d3, d4, d5, d6] => { results := [.lit (.bool false)], args := [d1, d2, d3, d4, d5, d6] }
  | _ => none }
def RaftSafeWrongFalsely : Prop := raftSafeRow.holds Tryz.pinned (OpenSpec.ofChange raftSafeWrong)

/- THE SECOND FORM. 'bulk': how many values and letters a reading holds, each counted each time it is reached (what is shared counts as often as it is met; a slice's spare places count too). A statement '..UptoSaid' is the law's where the arguments, and the package variables that the reading takes, are together of bulk at most 1048576: NARROWER than '..Said'. Prove '..Said' where nothing that the law and all that it calls make is longer than what came in: it says more and counts as full. Else prove '..UptoSaid'. A law counts once. -/
mutual
def uptoBulk {H : Type} : DataW H → Nat
  | .lit (.string bytes) => bytes.length + 1
  | .lit _ => 1
  | .nil => 1
  | .ptr d => uptoBulk d + 1
  | .slice elems spare => uptoBulkAll elems + uptoBulkAll spare + 1
  | .agg parts => uptoBulkAll parts + 1
  | .iface _ d => uptoBulk d + 1
  | .map entries => uptoBulkEntries entries + 1
  | .held _ => 1
def uptoBulkAll {H : Type} : List (DataW H) → Nat
  | [] => 0
  | d :: r => uptoBulk d + uptoBulkAll r
def uptoBulkEntries {H : Type} : List (Lit × DataW H) → Nat
  | [] => 0
  | x :: r => uptoBulkEntry x + uptoBulkEntries r
def uptoBulkEntry {H : Type} : Lit × DataW H → Nat
  | (.string bytes, d) => bytes.length + uptoBulk d + 1
  | (_, d) => uptoBulk d + 1
 end
def uptoSmall : (H : Type) → List (DataW H) → Bool := fun _ ds => decide (uptoBulkAll ds ≤ 1048576)
def OpenSpec.upto (s : _root_.Go.ChangeSpec) : _root_.Go.OpenSpec := { _root_.Go.OpenSpec.ofChange s with cond := some uptoSmall }

/-- 'stratalaw16.RaftCalm', WHERE WHAT IT READS IS OF BULK AT MOST 1048576: true; the input reads as it did. -/
def raftCalmUptoRow : OpenClaim := { program := "ytocogcgnahbpkaagreat", sum := "02cb84e5ca1bb9bcd1bbd98aacfd0098bf52e7092ce083acb41e9915af5311da", func := "strata/stratalaw16.RaftCalm", spec := "raftCalm", unfollowed := true, recurses := true, plainKeys := false, apart := false, narrowed := true }
def RaftCalmUptoSaid : Prop := raftCalmUptoRow.holds Tryz.pinned (OpenSpec.upto raftCalmSpec)

/-- 'stratalaw16.RaftQuiet', WHERE WHAT IT READS IS OF BULK AT MOST 1048576: true; the input reads as it did. -/
def raftQuietUptoRow : OpenClaim := { program := "ytocogcgnahbpkaagreat", sum := "02cb84e5ca1bb9bcd1bbd98aacfd0098bf52e7092ce083acb41e9915af5311da", func := "strata/stratalaw16.RaftQuiet", spec := "raftQuiet", unfollowed := true, recurses := true, plainKeys := false, apart := false, narrowed := true }
def RaftQuietUptoSaid : Prop := raftQuietUptoRow.holds Tryz.pinned (OpenSpec.upto raftQuietSpec)

/-- 'stratalaw16.RaftAlone', WHERE WHAT IT READS IS OF BULK AT MOST 1048576: true; the input reads as it did. -/
def raftAloneUptoRow : OpenClaim := { program := "ytocogcgnahbpkaagreat", sum := "02cb84e5ca1bb9bcd1bbd98aacfd0098bf52e7092ce083acb41e9915af5311da", func := "strata/stratalaw16.RaftAlone", spec := "raftAlone", unfollowed := true, recurses := true, plainKeys := false, apart := false, narrowed := true }
def RaftAloneUptoSaid : Prop := raftAloneUptoRow.holds Tryz.pinned (OpenSpec.upto raftAloneSpec)

/-- 'stratalaw16.RaftRuns', WHERE WHAT IT READS IS OF BULK AT MOST 1048576: true; the input reads as it did. -/
def raftRunsUptoRow : OpenClaim := { program := "ytocogcgnahbpkaagreat", sum := "02cb84e5ca1bb9bcd1bbd98aacfd0098bf52e7092ce083acb41e9915af5311da", func := "strata/stratalaw16.RaftRuns", spec := "raftRuns", unfollowed := true, recurses := true, plainKeys := false, apart := false, narrowed := true }
def RaftRunsUptoSaid : Prop := raftRunsUptoRow.holds Tryz.pinned (OpenSpec.upto raftRunsSpec)

/-- 'stratalaw16.RaftSafe', WHERE WHAT IT READS IS OF BULK AT MOST 1048576: true; the input reads as it did. -/
def raftSafeUptoRow : OpenClaim := { program := "ytocogcgnahbpkaagreat", sum := "02cb84e5ca1bb9bcd1bbd98aacfd0098bf52e7092ce083acb41e9915af5311da", func := "strata/stratalaw16.RaftSafe", spec := "raftSafe", unfollowed := true, recurses := true, plainKeys := false, apart := false, narrowed := true }
def RaftSafeUptoSaid : Prop := raftSafeUptoRow.holds Tryz.pinned (OpenSpec.upto raftSafeSpec)

end Rows
end Go.Proofs.YtocogcgnahbpkaaGreat
