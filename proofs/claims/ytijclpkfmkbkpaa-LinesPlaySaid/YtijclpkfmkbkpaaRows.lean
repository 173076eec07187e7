/-
  No cell of these rows narrows 'for every input' (looked for: loops, veiled, ifaces, maps, wideKeys, modest, calm, conditions, laid).
  DERIVED. THE GIVEN ROWS OF THIS SEAT. 8 by the template 'for every input the law returns true; each argument reads behind the call as it read before'; 0 by the template 'total and deterministic' (their statements: YtijclpkfmkbkpaaTotals.lean).
  GIVEN WITH THE SEED: the statements are not yours to turn. If you find one false, say at which input.
  Laid BY PROGRAM, IN A SANDBOX (cutbox-rows.mjs): the forced cells as the released guide's own fill.sh prints them over the translation 73793560594a1a64… (all of the seat's roots in one cut). By AI agents, Wed Nov 11 2026. No macro, syntax, notation, axiom, sorry.
-/
import Derived.Test.YtijclpkfmkbkpaaChecked
import GoSem.Claim
import GoSem.ClaimJoined
import GoSem.ClaimMapViews
import Derived.JoinedTies
import Derived.KernelRfl
namespace Go.Proofs.Ytijclpkfmkbkpaa
/- THE CELL 'sum', in the pinned program and in every row, IS THE sha256 OF THE DUMP (.gsa) THAT YtijclpkfmkbkpaaProg.lean LOADS. Nothing in Lean hashes anything: it is a label: what it is worth is what the hold of that sum in a sandbox is worth. -/
noncomputable def Try.pinned : Pinned := { name := "ytijclpkfmkbkpaa", sum := "73793560594a1a64d01b74dcc5a0afca416aeb7ff5579dc1c93dde6e9a724faa", checked := Try.checked }
namespace Rows
def none {H : Type} : Left H := { results := [], args := [] }

/-- 'timekeeperlaw09.LinesNone': WHATEVER THE INPUT: true; the input reads as it did. -/
def linesNoneSpec : ChangeSpec := { name := "linesNone", fn := fun _ => fun
  | [d1, d2] => { results := [.lit (.bool true)], args := [d1, d2] }
  | _ => none }
def linesNoneRow : OpenClaim := { program := "ytijclpkfmkbkpaa", sum := "73793560594a1a64d01b74dcc5a0afca416aeb7ff5579dc1c93dde6e9a724faa", func := "timekeeper/timekeeperlaw09.LinesNone", spec := "linesNone", unfollowed := true, recurses := true, apart := false }
def LinesNoneSaid : Prop := linesNoneRow.holds Try.pinned (OpenSpec.ofChange linesNoneSpec)

/-- ITS FALSE NEIGHBOUR: 'it returns false'. Refute it at one input. -/
def linesNoneWrong : ChangeSpec := { name := "linesNone", fn := fun _ => fun
  | [d1, d2] => { results := [.lit (.bool false)], args := [d1, d2] }
  | _ => none }
def LinesNoneWrongFalsely : Prop := linesNoneRow.holds Try.pinned (OpenSpec.ofChange linesNoneWrong)

/-- 'timekeeperlaw09.LinesPlay': WHATEVER THE INPUT: true; the input reads as it did. -/
def linesPlaySpec : ChangeSpec := { name := "linesPlay", fn := fun _ => fun
  | [d] => { results := [.lit (.bool true)], args := [d] }
  | _ => none }
def linesPlayRow : OpenClaim := { program := "ytijclpkfmkbkpaa", sum := "73793560594a1a64d01b74dcc5a0afca416aeb7ff5579dc1c93dde6e9a724faa", func := "timekeeper/timekeeperlaw09.LinesPlay", spec := "linesPlay", unfollowed := true, recurses := true, apart := false }
def LinesPlaySaid : Prop := linesPlayRow.holds Try.pinned (OpenSpec.ofChange linesPlaySpec)

/-- ITS FALSE NEIGHBOUR: 'it returns false'. Refute it at one input. -/
def linesPlayWrong : ChangeSpec := { name := "linesPlay", fn := fun _ => fun
  | [d] => { results := [.lit (.bool false)], args := [d] }
  | _ => none }
def LinesPlayWrongFalsely : Prop := linesPlayRow.holds Try.pinned (OpenSpec.ofChange linesPlayWrong)

/-- 'timekeeperlaw09.LinesAll': WHATEVER THE INPUT: true; the input reads as it did. -/
def linesAllSpec : ChangeSpec := { name := "linesAll", fn := fun _ => fun
  | [d1, d2] => { results := [.lit (.bool true)], args := [d1, d2] }
  | _ => none }
def linesAllRow : OpenClaim := { program := "ytijclpkfmkbkpaa", sum := "73793560594a1a64d01b74dcc5a0afca416aeb7ff5579dc1c93dde6e9a724faa", func := "timekeeper/timekeeperlaw09.LinesAll", spec := "linesAll", unfollowed := true, recurses := true, apart := false }
def LinesAllSaid : Prop := linesAllRow.holds Try.pinned (OpenSpec.ofChange linesAllSpec)

/-- ITS FALSE NEIGHBOUR: 'it returns false'. Refute it at one input. -/
def linesAllWrong : ChangeSpec := { name := "linesAll", fn := fun _ => fun
  | [d1, d2] => { results := [.lit (.bool false)], args := [d1, d2] }
  | _ => none }
def LinesAllWrongFalsely : Prop := linesAllRow.holds Try.pinned (OpenSpec.ofChange linesAllWrong)

/-- 'timekeeperlaw09.LinesApart': WHATEVER THE INPUT: true; the input reads as it did. -/
def linesApartSpec : ChangeSpec := { name := "linesApart", fn := fun _ => fun
  | [d1, d2, d3] => { results := [.lit (.bool true)], args := [d1, d2, d3] }
  | _ => none }
def linesApartRow : OpenClaim := { program := "ytijclpkfmkbkpaa", sum := "73793560594a1a64d01b74dcc5a0afca416aeb7ff5579dc1c93dde6e9a724faa", func := "timekeeper/timekeeperlaw09.LinesApart", spec := "linesApart", unfollowed := true, recurses := true, apart := false }
def LinesApartSaid : Prop := linesApartRow.holds Try.pinned (OpenSpec.ofChange linesApartSpec)

/-- ITS FALSE NEIGHBOUR: 'it returns false'. Refute it at one input. -/
def linesApartWrong : ChangeSpec := { name := "linesApart", fn := fun _ => fun
  | [d1, d2, d3] => { results := [.lit (.bool false)], args := [d1, d2, d3] }
  | _ => none }
def LinesApartWrongFalsely : Prop := linesApartRow.holds Try.pinned (OpenSpec.ofChange linesApartWrong)

/-- 'timekeeperlaw09.LinesOnce': WHATEVER THE INPUT: true; the input reads as it did. -/
def linesOnceSpec : ChangeSpec := { name := "linesOnce", fn := fun _ => fun
  | [d1, d2] => { results := [.lit (.bool true)], args := [d1, d2] }
  | _ => none }
def linesOnceRow : OpenClaim := { program := "ytijclpkfmkbkpaa", sum := "73793560594a1a64d01b74dcc5a0afca416aeb7ff5579dc1c93dde6e9a724faa", func := "timekeeper/timekeeperlaw09.LinesOnce", spec := "linesOnce", unfollowed := true, recurses := true, apart := false }
def LinesOnceSaid : Prop := linesOnceRow.holds Try.pinned (OpenSpec.ofChange linesOnceSpec)

/-- ITS FALSE NEIGHBOUR: 'it returns false'. Refute it at one input. -/
def linesOnceWrong : ChangeSpec := { name := "linesOnce", fn := fun _ => fun
  | [d1, d2] => { results := [.lit (.bool false)], args := [d1, d2] }
  | _ => none }
def LinesOnceWrongFalsely : Prop := linesOnceRow.holds Try.pinned (OpenSpec.ofChange linesOnceWrong)

/-- 'timekeeperlaw09.LinesTwo': WHATEVER THE INPUT: true; the input reads as it did. -/
def linesTwoSpec : ChangeSpec := { name := "linesTwo", fn := fun _ => fun
  | [d1, d2] => { results := [.lit (.bool true)], args := [d1, d2] }
  | _ => none }
def linesTwoRow : OpenClaim := { program := "ytijclpkfmkbkpaa", sum := "73793560594a1a64d01b74dcc5a0afca416aeb7ff5579dc1c93dde6e9a724faa", func := "timekeeper/timekeeperlaw09.LinesTwo", spec := "linesTwo", unfollowed := true, recurses := true, apart := false }
def LinesTwoSaid : Prop := linesTwoRow.holds Try.pinned (OpenSpec.ofChange linesTwoSpec)

/-- ITS FALSE NEIGHBOUR: 'it returns false'. Refute it at one input. -/
def linesTwoWrong : ChangeSpec := { name := "linesTwo", fn := fun _ => fun
  | [d1, d2] => { results := [.lit (.bool false)], args := [d1, d2] }
  | _ => none }
def LinesTwoWrongFalsely : Prop := linesTwoRow.holds Try.pinned (OpenSpec.ofChange linesTwoWrong)

/-- 'timekeeperlaw09.LinesTold': WHATEVER THE INPUT: true; the input reads as it did. -/
def linesToldSpec : ChangeSpec := { name := "linesTold", fn := fun _ => fun
  | [d1, d2] => { results := [.lit (.bool true)], args := [d1, d2] }
  | _ => none }
def linesToldRow : OpenClaim := { program := "ytijclpkfmkbkpaa", sum := "73793560594a1a64d01b74dcc5a0afca416aeb7ff5579dc1c93dde6e9a724faa", func := "timekeeper/timekeeperlaw09.LinesTold", spec := "linesTold", unfollowed := true, recurses := true, apart := false }
def LinesToldSaid : Prop := linesToldRow.holds Try.pinned (OpenSpec.ofChange linesToldSpec)

/-- ITS FALSE NEIGHBOUR: 'it returns false'. Refute it at one input. -/
def linesToldWrong : ChangeSpec := { name := "linesTold", fn := fun _ => fun
  | [d1, d2] => { results := [.lit (.bool false)], args := [d1, d2] }
  | _ => none }
def LinesToldWrongFalsely : Prop := linesToldRow.holds Try.pinned (OpenSpec.ofChange linesToldWrong)

/-- 'timekeeperlaw09.LinesMasks': WHATEVER THE INPUT: true; the input reads as it did. -/
def linesMasksSpec : ChangeSpec := { name := "linesMasks", fn := fun _ => fun
  | [d1, d2, d3] => { results := [.lit (.bool true)], args := [d1, d2, d3] }
  | _ => none }
def linesMasksRow : OpenClaim := { program := "ytijclpkfmkbkpaa", sum := "73793560594a1a64d01b74dcc5a0afca416aeb7ff5579dc1c93dde6e9a724faa", func := "timekeeper/timekeeperlaw09.LinesMasks", spec := "linesMasks", unfollowed := true, recurses := true, apart := false }
def LinesMasksSaid : Prop := linesMasksRow.holds Try.pinned (OpenSpec.ofChange linesMasksSpec)

/-- ITS FALSE NEIGHBOUR: 'it returns false'. Refute it at one input. -/
def linesMasksWrong : ChangeSpec := { name := "linesMasks", fn := fun _ => fun
  | [d1, d2, d3] => { results := [.lit (.bool false)], args := [d1, d2, d3] }
  | _ => none }
def LinesMasksWrongFalsely : Prop := linesMasksRow.holds Try.pinned (OpenSpec.ofChange linesMasksWrong)

/- THE SECOND FORM. 'bulk': how many values and letters a reading holds, each counted each time it is reached (what is shared counts as often as it is met; a slice's spare places count too). A statement '..UptoSaid' is the law's where the arguments, and the package variables that the reading takes, are together of bulk at most 1048576: NARROWER than '..Said'. Prove '..Said' where nothing that the law and all that it calls make is longer than what came in: it says more and counts as full. Else prove '..UptoSaid'. A law counts once. -/
mutual
def uptoBulk {H : Type} : DataW H → Nat
  | .lit (.string bytes) => bytes.length + 1
  | .lit _ => 1
  | .nil => 1
  | .ptr d => uptoBulk d + 1
  | .slice elems spare => uptoBulkAll elems + uptoBulkAll spare + 1
  | .agg parts => uptoBulkAll parts + 1
  | .iface _ d => uptoBulk d + 1
  | .map entries => uptoBulkEntries entries + 1
  | .held _ => 1
def uptoBulkAll {H : Type} : List (DataW H) → Nat
  | [] => 0
  | d :: r => uptoBulk d + uptoBulkAll r
def uptoBulkEntries {H : Type} : List (Lit × DataW H) → Nat
  | [] => 0
  | x :: r => uptoBulkEntry x + uptoBulkEntries r
def uptoBulkEntry {H : Type} : Lit × DataW H → Nat
  | (.string bytes, d) => bytes.length + uptoBulk d + 1
  | (_, d) => uptoBulk d + 1
 end
def uptoSmall : (H : Type) → List (DataW H) → Bool := fun _ ds => decide (uptoBulkAll ds ≤ 1048576)
def OpenSpec.upto (s : _root_.Go.ChangeSpec) : _root_.Go.OpenSpec := { _root_.Go.OpenSpec.ofChange s with cond := some uptoSmall }

/-- 'timekeeperlaw09.LinesNone', WHERE WHAT IT READS IS OF BULK AT MOST 1048576: true; the input reads as it did. -/
def linesNoneUptoRow : OpenClaim := { program := "ytijclpkfmkbkpaa", sum := "73793560594a1a64d01b74dcc5a0afca416aeb7ff5579dc1c93dde6e9a724faa", func := "timekeeper/timekeeperlaw09.LinesNone", spec := "linesNone", unfollowed := true, recurses := true, apart := false, narrowed := true }
def LinesNoneUptoSaid : Prop := linesNoneUptoRow.holds Try.pinned (OpenSpec.upto linesNoneSpec)

/-- 'timekeeperlaw09.LinesPlay', WHERE WHAT IT READS IS OF BULK AT MOST 1048576: true; the input reads as it did. -/
def linesPlayUptoRow : OpenClaim := { program := "ytijclpkfmkbkpaa", sum := "73793560594a1a64d01b74dcc5a0afca416aeb7ff5579dc1c93dde6e9a724faa", func := "timekeeper/timekeeperlaw09.LinesPlay", spec := "linesPlay", unfollowed := true, recurses := true, apart := false, narrowed := true }
def LinesPlayUptoSaid : Prop := linesPlayUptoRow.holds Try.pinned (OpenSpec.upto linesPlaySpec)

/-- 'timekeeperlaw09.LinesAll', WHERE WHAT IT READS IS OF BULK AT MOST 1048576: true; the input reads as it did. -/
def linesAllUptoRow : OpenClaim := { program := "ytijclpkfmkbkpaa", sum := "73793560594a1a64d01b74dcc5a0afca416aeb7ff5579dc1c93dde6e9a724faa", func := "timekeeper/timekeeperlaw09.LinesAll", spec := "linesAll", unfollowed := true, recurses := true, apart := false, narrowed := true }
def LinesAllUptoSaid : Prop := linesAllUptoRow.holds Try.pinned (OpenSpec.upto linesAllSpec)

/-- 'timekeeperlaw09.LinesApart', WHERE WHAT IT READS IS OF BULK AT MOST 1048576: true; the input reads as it did. -/
def linesApartUptoRow : OpenClaim := { program := "ytijclpkfmkbkpaa", sum := "73793560594a1a64d01b74dcc5a0afca416aeb7ff5579dc1c93dde6e9a724faa", func := "timekeeper/timekeeperlaw09.LinesApart", spec := "linesApart", unfollowed := true, recurses := true, apart := false, narrowed := true }
def LinesApartUptoSaid : Prop := linesApartUptoRow.holds Try.pinned (OpenSpec.upto linesApartSpec)

/-- 'timekeeperlaw09.LinesOnce', WHERE WHAT IT READS IS OF BULK AT MOST 1048576: true; the input reads as it did. -/
def linesOnceUptoRow : OpenClaim := { program := "ytijclpkfmkbkpaa", sum := "73793560594a1a64d01b74dcc5a0afca416aeb7ff5579dc1c93dde6e9a724faa", func := "timekeeper/timekeeperlaw09.LinesOnce", spec := "linesOnce", unfollowed := true, recurses := true, apart := false, narrowed := true }
def LinesOnceUptoSaid : Prop := linesOnceUptoRow.holds Try.pinned (OpenSpec.upto linesOnceSpec)

/-- 'timekeeperlaw09.LinesTwo', WHERE WHAT IT READS IS OF BULK AT MOST 1048576: true; the input reads as it did. -/
def linesTwoUptoRow : OpenClaim := { program := "ytijclpkfmkbkpaa", sum := "73793560594a1a64d01b74dcc5a0afca416aeb7ff5579dc1c93dde6e9a724faa", func := "timekeeper/timekeeperlaw09.LinesTwo", spec := "linesTwo", unfollowed := true, recurses := true, apart := false, narrowed := true }
def LinesTwoUptoSaid : Prop := linesTwoUptoRow.holds Try.pinned (OpenSpec.upto linesTwoSpec)

/-- 'timekeeperlaw09.LinesTold', WHERE WHAT IT READS IS OF BULK AT MOST 1048576: true; the input reads as it did. -/
def linesToldUptoRow : OpenClaim := { program := "ytijclpkfmkbkpaa", sum := "73793560594a1a64d01b74dcc5a0afca416aeb7ff5579dc1c93dde6e9a724faa", func := "timekeeper/timekeeperlaw09.LinesTold", spec := "linesTold", unfollowed := true, recurses := true, apart := false, narrowed := true }
def LinesToldUptoSaid : Prop := linesToldUptoRow.holds Try.pinned (OpenSpec.upto linesToldSpec)

/-- 'timekeeperlaw09.LinesMasks', WHERE WHAT IT READS IS OF BULK AT MOST 1048576: true; the input reads as it did. -/
def linesMasksUptoRow : OpenClaim := { program := "ytijclpkfmkbkpaa", sum := "73793560594a1a64d01b74dcc5a0afca416aeb7ff5579dc1c93dde6e9a724faa", func := "timekeeper/timekeeperlaw09.LinesMasks", spec := "linesMasks", unfollowed := true, recurses := true, apart := false, narrowed := true }
def LinesMasksUptoSaid : Prop := linesMasksUptoRow.holds Try.pinned (OpenSpec.upto linesMasksSpec)

end Rows
end Go.Proofs.Ytijclpkfmkbkpaa
