/-
  No cell of these rows narrows 'for every input' (looked for: loops, veiled, ifaces, maps, wideKeys, modest, calm, conditions, laid).
  DERIVED. THE GIVEN ROWS OF THIS SEAT. 8 by the template 'for every input the law returns true; each argument reads behind the call as it read before'; 0 by the template 'total and deterministic' (their statements: YtnbdpkoinficdaaTotals.lean).
  GIVEN WITH THE SEED: the statements are not yours to turn. If you find one false, say at which input.
  Laid BY PROGRAM, IN A SANDBOX (cutbox-rows.mjs): the forced cells as the released guide's own fill.sh prints them over the translation 81b72a65681e7bdb… (all of the seat's roots in one cut). By AI agents, Wed Nov 11 2026. No macro, syntax, notation, axiom, sorry.
-/
import Derived.Test.YtnbdpkoinficdaaChecked
import GoSem.Claim
import GoSem.ClaimJoined
import GoSem.ClaimMapViews
import Derived.JoinedTies
import Derived.KernelRfl
namespace Go.Proofs.Ytnbdpkoinficdaa
/- THE CELL 'sum', in the pinned program and in every row, IS THE sha256 OF THE DUMP (.gsa) THAT YtnbdpkoinficdaaProg.lean LOADS. Nothing in Lean hashes anything: it is a label: what it is worth is what the hold of that sum in a sandbox is worth. -/
noncomputable def Try.pinned : Pinned := { name := "ytnbdpkoinficdaa", sum := "81b72a65681e7bdbfe3f653711f3b7a7190ee244f14d4ac11dc1e2f6919c925b", checked := Try.checked }
namespace Rows
def none {H : Type} : Left H := { results := [], args := [] }

/-- 'timekeeperlaw01.WordsSince': WHATEVER THE INPUT: true; the input reads as it did. -/
def wordsSinceSpec : ChangeSpec := { name := "wordsSince", fn := fun _ => fun
  | [d1, d2] => { results := [.lit (.bool true)], args := [d1, d2] }
  | _ => none }
def wordsSinceRow : OpenClaim := { program := "ytnbdpkoinficdaa", sum := "81b72a65681e7bdbfe3f653711f3b7a7190ee244f14d4ac11dc1e2f6919c925b", func := "timekeeper/timekeeperlaw01.WordsSince", spec := "wordsSince", apart := false }
def WordsSinceSaid : Prop := wordsSinceRow.holds Try.pinned (OpenSpec.ofChange wordsSinceSpec)

/-- ITS FALSE NEIGHBOUR: 'it returns false'. Refute it at one input. -/
def wordsSinceWrong : ChangeSpec := { name := "wordsSince", fn := fun _ => fun
  | [d1, d2] => { results := [.lit (.bool false)], args := [d1, d2] }
  | _ => none }
def WordsSinceWrongFalsely : Prop := wordsSinceRow.holds Try.pinned (OpenSpec.ofChange wordsSinceWrong)

/-- 'timekeeperlaw01.WordsSigned': WHATEVER THE INPUT: true; the input reads as it did. -/
def wordsSignedSpec : ChangeSpec := { name := "wordsSigned", fn := fun _ => fun
  | [d1, d2] => { results := [.lit (.bool true)], args := [d1, d2] }
  | _ => none }
def wordsSignedRow : OpenClaim := { program := "ytnbdpkoinficdaa", sum := "81b72a65681e7bdbfe3f653711f3b7a7190ee244f14d4ac11dc1e2f6919c925b", func := "timekeeper/timekeeperlaw01.WordsSigned", spec := "wordsSigned", apart := false }
def WordsSignedSaid : Prop := wordsSignedRow.holds Try.pinned (OpenSpec.ofChange wordsSignedSpec)

/-- ITS FALSE NEIGHBOUR: 'it returns false'. Refute it at one input. -/
def wordsSignedWrong : ChangeSpec := { name := "wordsSigned", fn := fun _ => fun
  | [d1, d2] => { results := [.lit (.bool false)], args := [d1, d2] }
  | _ => none }
def WordsSignedWrongFalsely : Prop := wordsSignedRow.holds Try.pinned (OpenSpec.ofChange wordsSignedWrong)

/-- 'timekeeperlaw01.WordsBack': WHATEVER THE INPUT: true; the input reads as it did. -/
def wordsBackSpec : ChangeSpec := { name := "wordsBack", fn := fun _ => fun
  | [d1, d2, d3] => { results := [.lit (.bool true)], args := [d1, d2, d3] }
  | _ => none }
def wordsBackRow : OpenClaim := { program := "ytnbdpkoinficdaa", sum := "81b72a65681e7bdbfe3f653711f3b7a7190ee244f14d4ac11dc1e2f6919c925b", func := "timekeeper/timekeeperlaw01.WordsBack", spec := "wordsBack", apart := false }
def WordsBackSaid : Prop := wordsBackRow.holds Try.pinned (OpenSpec.ofChange wordsBackSpec)

/-- ITS FALSE NEIGHBOUR: 'it returns false'. Refute it at one input. -/
def wordsBackWrong : ChangeSpec := { name := "wordsBack", fn := fun _ => fun
  | [d1, d2, d3] => { results := [.lit (.bool false)], args := [d1, d2, d3] }
  | _ => none }
def WordsBackWrongFalsely : Prop := wordsBackRow.holds Try.pinned (OpenSpec.ofChange wordsBackWrong)

/-- 'timekeeperlaw01.WordsOn': WHATEVER THE INPUT: true; the input reads as it did. -/
def wordsOnSpec : ChangeSpec := { name := "wordsOn", fn := fun _ => fun
  | [d1, d2, d3] => { results := [.lit (.bool true)], args := [d1, d2, d3] }
  | _ => none }
def wordsOnRow : OpenClaim := { program := "ytnbdpkoinficdaa", sum := "81b72a65681e7bdbfe3f653711f3b7a7190ee244f14d4ac11dc1e2f6919c925b", func := "timekeeper/timekeeperlaw01.WordsOn", spec := "wordsOn", apart := false }
def WordsOnSaid : Prop := wordsOnRow.holds Try.pinned (OpenSpec.ofChange wordsOnSpec)

/-- ITS FALSE NEIGHBOUR: 'it returns false'. Refute it at one input. -/
def wordsOnWrong : ChangeSpec := { name := "wordsOn", fn := fun _ => fun
  | [d1, d2, d3] => { results := [.lit (.bool false)], args := [d1, d2, d3] }
  | _ => none }
def WordsOnWrongFalsely : Prop := wordsOnRow.holds Try.pinned (OpenSpec.ofChange wordsOnWrong)

/-- 'timekeeperlaw01.WordsEither': WHATEVER THE INPUT: true; the input reads as it did. -/
def wordsEitherSpec : ChangeSpec := { name := "wordsEither", fn := fun _ => fun
  | [d1, d2, d3] => { results := [.lit (.bool true)], args := [d1, d2, d3] }
  | _ => none }
def wordsEitherRow : OpenClaim := { program := "ytnbdpkoinficdaa", sum := "81b72a65681e7bdbfe3f653711f3b7a7190ee244f14d4ac11dc1e2f6919c925b", func := "timekeeper/timekeeperlaw01.WordsEither", spec := "wordsEither", apart := false }
def WordsEitherSaid : Prop := wordsEitherRow.holds Try.pinned (OpenSpec.ofChange wordsEitherSpec)

/-- ITS FALSE NEIGHBOUR: 'it returns false'. Refute it at one input. -/
def wordsEitherWrong : ChangeSpec := { name := "wordsEither", fn := fun _ => fun
  | [d1, d2, d3] => { results := [.lit (.bool false)], args := [d1, d2, d3] }
  | _ => none }
def WordsEitherWrongFalsely : Prop := wordsEitherRow.holds Try.pinned (OpenSpec.ofChange wordsEitherWrong)

/-- 'timekeeperlaw01.WordsSoon': WHATEVER THE INPUT: true; the input reads as it did. -/
def wordsSoonSpec : ChangeSpec := { name := "wordsSoon", fn := fun _ => fun
  | [d1, d2] => { results := [.lit (.bool true)], args := [d1, d2] }
  | _ => none }
def wordsSoonRow : OpenClaim := { program := "ytnbdpkoinficdaa", sum := "81b72a65681e7bdbfe3f653711f3b7a7190ee244f14d4ac11dc1e2f6919c925b", func := "timekeeper/timekeeperlaw01.WordsSoon", spec := "wordsSoon", apart := false }
def WordsSoonSaid : Prop := wordsSoonRow.holds Try.pinned (OpenSpec.ofChange wordsSoonSpec)

/-- ITS FALSE NEIGHBOUR: 'it returns false'. Refute it at one input. -/
def wordsSoonWrong : ChangeSpec := { name := "wordsSoon", fn := fun _ => fun
  | [d1, d2] => { results := [.lit (.bool false)], args := [d1, d2] }
  | _ => none }
def WordsSoonWrongFalsely : Prop := wordsSoonRow.holds Try.pinned (OpenSpec.ofChange wordsSoonWrong)

/-- 'timekeeperlaw01.WordsChain': WHATEVER THE INPUT: true; the input reads as it did. -/
def wordsChainSpec : ChangeSpec := { name := "wordsChain", fn := fun _ => fun
  | [d1, d2, d3] => { results := [.lit (.bool true)], args := [d1, d2, d3] }
  | _ => none }
def wordsChainRow : OpenClaim := { program := "ytnbdpkoinficdaa", sum := "81b72a65681e7bdbfe3f653711f3b7a7190ee244f14d4ac11dc1e2f6919c925b", func := "timekeeper/timekeeperlaw01.WordsChain", spec := "wordsChain", apart := false }
def WordsChainSaid : Prop := wordsChainRow.holds Try.pinned (OpenSpec.ofChange wordsChainSpec)

/-- ITS FALSE NEIGHBOUR: 'it returns false'. Refute it at one input. -/
def wordsChainWrong : ChangeSpec := { name := "wordsChain", fn := fun _ => fun
  | [d1, d2, d3] => { results := [.lit (.bool false)], args := [d1, d2, d3] }
  | _ => none }
def WordsChainWrongFalsely : Prop := wordsChainRow.holds Try.pinned (OpenSpec.ofChange wordsChainWrong)

/-- 'timekeeperlaw01.WordsRounds': WHATEVER THE INPUT: true; the input reads as it did. -/
def wordsRoundsSpec : ChangeSpec := { name := "wordsRounds", fn := fun _ => fun
  | [d1, d2] => { results := [.lit (.bool true)], args := [d1, d2] }
  | _ => none }
def wordsRoundsRow : OpenClaim := { program := "ytnbdpkoinficdaa", sum := "81b72a65681e7bdbfe3f653711f3b7a7190ee244f14d4ac11dc1e2f6919c925b", func := "timekeeper/timekeeperlaw01.WordsRounds", spec := "wordsRounds", apart := false }
def WordsRoundsSaid : Prop := wordsRoundsRow.holds Try.pinned (OpenSpec.ofChange wordsRoundsSpec)

/-- ITS FALSE NEIGHBOUR: 'it returns false'. Refute it at one input. -/
def wordsRoundsWrong : ChangeSpec := { name := "wordsRounds", fn := fun _ => fun
  | [d1, d2] => { results := [.lit (.bool false)], args := [d1, d2] }
  | _ => none }
def WordsRoundsWrongFalsely : Prop := wordsRoundsRow.holds Try.pinned (OpenSpec.ofChange wordsRoundsWrong)

/- THE SECOND FORM. 'bulk': how many values and letters a reading holds, each counted each time it is reached (what is shared counts as often as it is met; a slice's spare places count too). A statement '..UptoSaid' is the law's where the arguments, and the package variables that the reading takes, are together of bulk at most 1048576: NARROWER than '..Said'. Prove '..Said' where nothing that the law and all that it calls make is longer than what came in: it says more and counts as full. Else prove '..UptoSaid'. A law counts once. -/
mutual
def uptoBulk {H : Type} : DataW H → Nat
  | .lit (.string bytes) => bytes.length + 1
  | .lit _ => 1
  | .nil => 1
  | .ptr d => uptoBulk d + 1
  | .slice elems spare => uptoBulkAll elems + uptoBulkAll spare + 1
  | .agg parts => uptoBulkAll parts + 1
  | .iface _ d => uptoBulk d + 1
  | .map entries => uptoBulkEntries entries + 1
  | .held _ => 1
def uptoBulkAll {H : Type} : List (DataW H) → Nat
  | [] => 0
  | d :: r => uptoBulk d + uptoBulkAll r
def uptoBulkEntries {H : Type} : List (Lit × DataW H) → Nat
  | [] => 0
  | x :: r => uptoBulkEntry x + uptoBulkEntries r
def uptoBulkEntry {H : Type} : Lit × DataW H → Nat
  | (.string bytes, d) => bytes.length + uptoBulk d + 1
  | (_, d) => uptoBulk d + 1
 end
def uptoSmall : (H : Type) → List (DataW H) → Bool := fun _ ds => decide (uptoBulkAll ds ≤ 1048576)
def OpenSpec.upto (s : _root_.Go.ChangeSpec) : _root_.Go.OpenSpec := { _root_.Go.OpenSpec.ofChange s with cond := some uptoSmall }

/-- 'timekeeperlaw01.WordsSince', WHERE WHAT IT READS IS OF BULK AT MOST 1048576: true; the input reads as it did. -/
def wordsSinceUptoRow : OpenClaim := { program := "ytnbdpkoinficdaa", sum := "81b72a65681e7bdbfe3f653711f3b7a7190ee244f14d4ac11dc1e2f6919c925b", func := "timekeeper/timekeeperlaw01.WordsSince", spec := "wordsSince", apart := false, narrowed := true }
def WordsSinceUptoSaid : Prop := wordsSinceUptoRow.holds Try.pinned (OpenSpec.upto wordsSinceSpec)

/-- 'timekeeperlaw01.WordsSigned', WHERE WHAT IT READS IS OF BULK AT MOST 1048576: true; the input reads as it did. -/
def wordsSignedUptoRow : OpenClaim := { program := "ytnbdpkoinficdaa", sum := "81b72a65681e7bdbfe3f653711f3b7a7190ee244f14d4ac11dc1e2f6919c925b", func := "timekeeper/timekeeperlaw01.WordsSigned", spec := "wordsSigned", apart := false, narrowed := true }
def WordsSignedUptoSaid : Prop := wordsSignedUptoRow.holds Try.pinned (OpenSpec.upto wordsSignedSpec)

/-- 'timekeeperlaw01.WordsBack', WHERE WHAT IT READS IS OF BULK AT MOST 1048576: true; the input reads as it did. -/
def wordsBackUptoRow : OpenClaim := { program := "ytnbdpkoinficdaa", sum := "81b72a65681e7bdbfe3f653711f3b7a7190ee244f14d4ac11dc1e2f6919c925b", func := "timekeeper/timekeeperlaw01.WordsBack", spec := "wordsBack", apart := false, narrowed := true }
def WordsBackUptoSaid : Prop := wordsBackUptoRow.holds Try.pinned (OpenSpec.upto wordsBackSpec)

/-- 'timekeeperlaw01.WordsOn', WHERE WHAT IT READS IS OF BULK AT MOST 1048576: true; the input reads as it did. -/
def wordsOnUptoRow : OpenClaim := { program := "ytnbdpkoinficdaa", sum := "81b72a65681e7bdbfe3f653711f3b7a7190ee244f14d4ac11dc1e2f6919c925b", func := "timekeeper/timekeeperlaw01.WordsOn", spec := "wordsOn", apart := false, narrowed := true }
def WordsOnUptoSaid : Prop := wordsOnUptoRow.holds Try.pinned (OpenSpec.upto wordsOnSpec)

/-- 'timekeeperlaw01.WordsEither', WHERE WHAT IT READS IS OF BULK AT MOST 1048576: true; the input reads as it did. -/
def wordsEitherUptoRow : OpenClaim := { program := "ytnbdpkoinficdaa", sum := "81b72a65681e7bdbfe3f653711f3b7a7190ee244f14d4ac11dc1e2f6919c925b", func := "timekeeper/timekeeperlaw01.WordsEither", spec := "wordsEither", apart := false, narrowed := true }
def WordsEitherUptoSaid : Prop := wordsEitherUptoRow.holds Try.pinned (OpenSpec.upto wordsEitherSpec)

/-- 'timekeeperlaw01.WordsSoon', WHERE WHAT IT READS IS OF BULK AT MOST 1048576: true; the input reads as it did. -/
def wordsSoonUptoRow : OpenClaim := { program := "ytnbdpkoinficdaa", sum := "81b72a65681e7bdbfe3f653711f3b7a7190ee244f14d4ac11dc1e2f6919c925b", func := "timekeeper/timekeeperlaw01.WordsSoon", spec := "wordsSoon", apart := false, narrowed := true }
def WordsSoonUptoSaid : Prop := wordsSoonUptoRow.holds Try.pinned (OpenSpec.upto wordsSoonSpec)

/-- 'timekeeperlaw01.WordsChain', WHERE WHAT IT READS IS OF BULK AT MOST 1048576: true; the input reads as it did. -/
def wordsChainUptoRow : OpenClaim := { program := "ytnbdpkoinficdaa", sum := "81b72a65681e7bdbfe3f653711f3b7a7190ee244f14d4ac11dc1e2f6919c925b", func := "timekeeper/timekeeperlaw01.WordsChain", spec := "wordsChain", apart := false, narrowed := true }
def WordsChainUptoSaid : Prop := wordsChainUptoRow.holds Try.pinned (OpenSpec.upto wordsChainSpec)

/-- 'timekeeperlaw01.WordsRounds', WHERE WHAT IT READS IS OF BULK AT MOST 1048576: true; the input reads as it did. -/
def wordsRoundsUptoRow : OpenClaim := { program := "ytnbdpkoinficdaa", sum := "81b72a65681e7bdbfe3f653711f3b7a7190ee244f14d4ac11dc1e2f6919c925b", func := "timekeeper/timekeeperlaw01.WordsRounds", spec := "wordsRounds", apart := false, narrowed := true }
def WordsRoundsUptoSaid : Prop := wordsRoundsUptoRow.holds Try.pinned (OpenSpec.upto wordsRoundsSpec)

end Rows
end Go.Proofs.Ytnbdpkoinficdaa
