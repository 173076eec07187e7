/-
  No cell of these rows narrows 'for every input' (looked for: loops, veiled, ifaces, maps, wideKeys, modest, calm, conditions, laid).
  DERIVED. THE GIVEN ROWS OF THIS SEAT. 9 by the template 'for every input the law returns true; each argument reads behind the call as it read before'; 0 by the template 'total and deterministic' (their statements: YtkcjojncdnnmeaaTotals.lean).
  GIVEN WITH THE SEED: the statements are not yours to turn. If you find one false, say at which input.
  Laid BY PROGRAM, IN A SANDBOX (cutbox-rows.mjs): the forced cells as the released guide's own fill.sh prints them over the translation 333ce15e574102aa… (all of the seat's roots in one cut). By AI agents, Wed Nov 11 2026. No macro, syntax, notation, axiom, sorry.
-/
import Derived.Test.YtkcjojncdnnmeaaChecked
import GoSem.Claim
import GoSem.ClaimJoined
import GoSem.ClaimMapViews
import Derived.JoinedTies
import Derived.KernelRfl
namespace Go.Proofs.Ytkcjojncdnnmeaa
/- THE CELL 'sum', in the pinned program and in every row, IS THE sha256 OF THE DUMP (.gsa) THAT YtkcjojncdnnmeaaProg.lean LOADS. Nothing in Lean hashes anything: it is a label: what it is worth is what the hold of that sum in a sandbox is worth. -/
noncomputable def Try.pinned : Pinned := { name := "ytkcjojncdnnmeaa", sum := "333ce15e574102aa3d7a07e1e94b13237c994e265344a235a0a61d4807a8f3bd", checked := Try.checked }
namespace Rows
def none {H : Type} : Left H := { results := [], args := [] }

/-- 'timekeeperlaw03.UnitsHolds': WHATEVER THE INPUT: true; the input reads as it did. -/
def unitsHoldsSpec : ChangeSpec := { name := "unitsHolds", fn := fun _ => fun
  | [d1, d2, d3] => { results := [.lit (.bool true)], args := [d1, d2, d3] }
  | _ => none }
def unitsHoldsRow : OpenClaim := { program := "ytkcjojncdnnmeaa", sum := "333ce15e574102aa3d7a07e1e94b13237c994e265344a235a0a61d4807a8f3bd", func := "timekeeper/timekeeperlaw03.UnitsHolds", spec := "unitsHolds", unfollowed := true, recurses := true, apart := false }
def UnitsHoldsSaid : Prop := unitsHoldsRow.holds Try.pinned (OpenSpec.ofChange unitsHoldsSpec)

/-- ITS FALSE NEIGHBOUR: 'it returns false'. Refute it at one input. -/
def unitsHoldsWrong : ChangeSpec := { name := "unitsHolds", fn := fun _ => fun
  | [d1, d2, d3] => { results := [.lit (.bool false)], args := [d1, d2, d3] }
  | _ => none }
def UnitsHoldsWrongFalsely : Prop := unitsHoldsRow.holds Try.pinned (OpenSpec.ofChange unitsHoldsWrong)

/-- 'timekeeperlaw03.UnitsDoes': WHATEVER THE INPUT: true; the input reads as it did. -/
def unitsDoesSpec : ChangeSpec := { name := "unitsDoes", fn := fun _ => fun
  | [d1, d2, d3] => { results := [.lit (.bool true)], args := [d1, d2, d3] }
  | _ => none }
def unitsDoesRow : OpenClaim := { program := "ytkcjojncdnnmeaa", sum := "333ce15e574102aa3d7a07e1e94b13237c994e265344a235a0a61d4807a8f3bd", func := "timekeeper/timekeeperlaw03.UnitsDoes", spec := "unitsDoes", unfollowed := true, recurses := true, apart := false }
def UnitsDoesSaid : Prop := unitsDoesRow.holds Try.pinned (OpenSpec.ofChange unitsDoesSpec)

/-- ITS FALSE NEIGHBOUR: 'it returns false'. Refute it at one input. -/
def unitsDoesWrong : ChangeSpec := { name := "unitsDoes", fn := fun _ => fun
  | [d1, d2, d3] => { results := [.lit (.bool false)], args := [d1, d2, d3] }
  | _ => none }
def UnitsDoesWrongFalsely : Prop := unitsDoesRow.holds Try.pinned (OpenSpec.ofChange unitsDoesWrong)

/-- 'timekeeperlaw03.UnitsRing': WHATEVER THE INPUT: true; the input reads as it did. -/
def unitsRingSpec : ChangeSpec := { name := "unitsRing", fn := fun _ => fun
  | [d1, d2, d3] => { results := [.lit (.bool true)], args := [d1, d2, d3] }
  | _ => none }
def unitsRingRow : OpenClaim := { program := "ytkcjojncdnnmeaa", sum := "333ce15e574102aa3d7a07e1e94b13237c994e265344a235a0a61d4807a8f3bd", func := "timekeeper/timekeeperlaw03.UnitsRing", spec := "unitsRing", unfollowed := true, recurses := true, apart := false }
def UnitsRingSaid : Prop := unitsRingRow.holds Try.pinned (OpenSpec.ofChange unitsRingSpec)

/-- ITS FALSE NEIGHBOUR: 'it returns false'. Refute it at one input. -/
def unitsRingWrong : ChangeSpec := { name := "unitsRing", fn := fun _ => fun
  | [d1, d2, d3] => { results := [.lit (.bool false)], args := [d1, d2, d3] }
  | _ => none }
def UnitsRingWrongFalsely : Prop := unitsRingRow.holds Try.pinned (OpenSpec.ofChange unitsRingWrong)

/-- 'timekeeperlaw03.UnitsBits': WHATEVER THE INPUT: true; the input reads as it did. -/
def unitsBitsSpec : ChangeSpec := { name := "unitsBits", fn := fun _ => fun
  | [d1, d2] => { results := [.lit (.bool true)], args := [d1, d2] }
  | _ => none }
def unitsBitsRow : OpenClaim := { program := "ytkcjojncdnnmeaa", sum := "333ce15e574102aa3d7a07e1e94b13237c994e265344a235a0a61d4807a8f3bd", func := "timekeeper/timekeeperlaw03.UnitsBits", spec := "unitsBits", unfollowed := true, recurses := true, apart := false }
def UnitsBitsSaid : Prop := unitsBitsRow.holds Try.pinned (OpenSpec.ofChange unitsBitsSpec)

/-- ITS FALSE NEIGHBOUR: 'it returns false'. Refute it at one input. -/
def unitsBitsWrong : ChangeSpec := { name := "unitsBits", fn := fun _ => fun
  | [d1, d2] => { results := [.lit (.bool false)], args := [d1, d2] }
  | _ => none }
def UnitsBitsWrongFalsely : Prop := unitsBitsRow.holds Try.pinned (OpenSpec.ofChange unitsBitsWrong)

/-- 'timekeeperlaw03.UnitsShifts': WHATEVER THE INPUT: true; the input reads as it did. -/
def unitsShiftsSpec : ChangeSpec := { name := "unitsShifts", fn := fun _ => fun
  | [d1, d2] => { results := [.lit (.bool true)], args := [d1, d2] }
  | _ => none }
def unitsShiftsRow : OpenClaim := { program := "ytkcjojncdnnmeaa", sum := "333ce15e574102aa3d7a07e1e94b13237c994e265344a235a0a61d4807a8f3bd", func := "timekeeper/timekeeperlaw03.UnitsShifts", spec := "unitsShifts", unfollowed := true, recurses := true, apart := false }
def UnitsShiftsSaid : Prop := unitsShiftsRow.holds Try.pinned (OpenSpec.ofChange unitsShiftsSpec)

/-- ITS FALSE NEIGHBOUR: 'it returns false'. Refute it at one input. -/
def unitsShiftsWrong : ChangeSpec := { name := "unitsShifts", fn := fun _ => fun
  | [d1, d2] => { results := [.lit (.bool false)], args := [d1, d2] }
  | _ => none }
def UnitsShiftsWrongFalsely : Prop := unitsShiftsRow.holds Try.pinned (OpenSpec.ofChange unitsShiftsWrong)

/-- 'timekeeperlaw03.UnitsOrder': WHATEVER THE INPUT: true; the input reads as it did. -/
def unitsOrderSpec : ChangeSpec := { name := "unitsOrder", fn := fun _ => fun
  | [d1, d2] => { results := [.lit (.bool true)], args := [d1, d2] }
  | _ => none }
def unitsOrderRow : OpenClaim := { program := "ytkcjojncdnnmeaa", sum := "333ce15e574102aa3d7a07e1e94b13237c994e265344a235a0a61d4807a8f3bd", func := "timekeeper/timekeeperlaw03.UnitsOrder", spec := "unitsOrder", unfollowed := true, recurses := true, apart := false }
def UnitsOrderSaid : Prop := unitsOrderRow.holds Try.pinned (OpenSpec.ofChange unitsOrderSpec)

/-- ITS FALSE NEIGHBOUR: 'it returns false'. Refute it at one input. -/
def unitsOrderWrong : ChangeSpec := { name := "unitsOrder", fn := fun _ => fun
  | [d1, d2] => { results := [.lit (.bool false)], args := [d1, d2] }
  | _ => none }
def UnitsOrderWrongFalsely : Prop := unitsOrderRow.holds Try.pinned (OpenSpec.ofChange unitsOrderWrong)

/-- 'timekeeperlaw03.UnitsOnly': WHATEVER THE INPUT: true; the input reads as it did. -/
def unitsOnlySpec : ChangeSpec := { name := "unitsOnly", fn := fun _ => fun
  | [d1, d2, d3] => { results := [.lit (.bool true)], args := [d1, d2, d3] }
  | _ => none }
def unitsOnlyRow : OpenClaim := { program := "ytkcjojncdnnmeaa", sum := "333ce15e574102aa3d7a07e1e94b13237c994e265344a235a0a61d4807a8f3bd", func := "timekeeper/timekeeperlaw03.UnitsOnly", spec := "unitsOnly", unfollowed := true, recurses := true, apart := false }
def UnitsOnlySaid : Prop := unitsOnlyRow.holds Try.pinned (OpenSpec.ofChange unitsOnlySpec)

/-- ITS FALSE NEIGHBOUR: 'it returns false'. Refute it at one input. -/
def unitsOnlyWrong : ChangeSpec := { name := "unitsOnly", fn := fun _ => fun
  | [d1, d2, d3] => { results := [.lit (.bool false)], args := [d1, d2, d3] }
  | _ => none }
def UnitsOnlyWrongFalsely : Prop := unitsOnlyRow.holds Try.pinned (OpenSpec.ofChange unitsOnlyWrong)

/-- 'timekeeperlaw03.UnitsOften': WHATEVER THE INPUT: true; the input reads as it did. -/
def unitsOftenSpec : ChangeSpec := { name := "unitsOften", fn := fun _ => fun
  | [d1, d2] => { results := [.lit (.bool true)], args := [d1, d2] }
  | _ => none }
def unitsOftenRow : OpenClaim := { program := "ytkcjojncdnnmeaa", sum := "333ce15e574102aa3d7a07e1e94b13237c994e265344a235a0a61d4807a8f3bd", func := "timekeeper/timekeeperlaw03.UnitsOften", spec := "unitsOften", unfollowed := true, recurses := true, apart := false }
def UnitsOftenSaid : Prop := unitsOftenRow.holds Try.pinned (OpenSpec.ofChange unitsOftenSpec)

/-- ITS FALSE NEIGHBOUR: 'it returns false'. Refute it at one input. -/
def unitsOftenWrong : ChangeSpec := { name := "unitsOften", fn := fun _ => fun
  | [d1, d2] => { results := [.lit (.bool false)], args := [d1, d2] }
  | _ => none }
def UnitsOftenWrongFalsely : Prop := unitsOftenRow.holds Try.pinned (OpenSpec.ofChange unitsOftenWrong)

/-- 'timekeeperlaw03.UnitsChain': WHATEVER THE INPUT: true; the input reads as it did. -/
def unitsChainSpec : ChangeSpec := { name := "unitsChain", fn := fun _ => fun
  | [d1, d2, d3] => { results := [.lit (.bool true)], args := [d1, d2, d3] }
  | _ => none }
def unitsChainRow : OpenClaim := { program := "ytkcjojncdnnmeaa", sum := "333ce15e574102aa3d7a07e1e94b13237c994e265344a235a0a61d4807a8f3bd", func := "timekeeper/timekeeperlaw03.UnitsChain", spec := "unitsChain", unfollowed := true, recurses := true, apart := false }
def UnitsChainSaid : Prop := unitsChainRow.holds Try.pinned (OpenSpec.ofChange unitsChainSpec)

/-- ITS FALSE NEIGHBOUR: 'it returns false'. Refute it at one input. -/
def unitsChainWrong : ChangeSpec := { name := "unitsChain", fn := fun _ => fun
  | [d1, d2, d3] => { results := [.lit (.bool false)], args := [d1, d2, d3] }
  | _ => none }
def UnitsChainWrongFalsely : Prop := unitsChainRow.holds Try.pinned (OpenSpec.ofChange unitsChainWrong)

/- THE SECOND FORM. 'bulk': how many values and letters a reading holds, each counted each time it is reached (what is shared counts as often as it is met; a slice's spare places count too). A statement '..UptoSaid' is the law's where the arguments, and the package variables that the reading takes, are together of bulk at most 1048576: NARROWER than '..Said'. Prove '..Said' where nothing that the law and all that it calls make is longer than what came in: it says more and counts as full. Else prove '..UptoSaid'. A law counts once. -/
mutual
def uptoBulk {H : Type} : DataW H → Nat
  | .lit (.string bytes) => bytes.length + 1
  | .lit _ => 1
  | .nil => 1
  | .ptr d => uptoBulk d + 1
  | .slice elems spare => uptoBulkAll elems + uptoBulkAll spare + 1
  | .agg parts => uptoBulkAll parts + 1
  | .iface _ d => uptoBulk d + 1
  | .map entries => uptoBulkEntries entries + 1
  | .held _ => 1
def uptoBulkAll {H : Type} : List (DataW H) → Nat
  | [] => 0
  | d :: r => uptoBulk d + uptoBulkAll r
def uptoBulkEntries {H : Type} : List (Lit × DataW H) → Nat
  | [] => 0
  | x :: r => uptoBulkEntry x + uptoBulkEntries r
def uptoBulkEntry {H : Type} : Lit × DataW H → Nat
  | (.string bytes, d) => bytes.length + uptoBulk d + 1
  | (_, d) => uptoBulk d + 1
 end
def uptoSmall : (H : Type) → List (DataW H) → Bool := fun _ ds => decide (uptoBulkAll ds ≤ 1048576)
def OpenSpec.upto (s : _root_.Go.ChangeSpec) : _root_.Go.OpenSpec := { _root_.Go.OpenSpec.ofChange s with cond := some uptoSmall }

/-- 'timekeeperlaw03.UnitsHolds', WHERE WHAT IT READS IS OF BULK AT MOST 1048576: true; the input reads as it did. -/
def unitsHoldsUptoRow : OpenClaim := { program := "ytkcjojncdnnmeaa", sum := "333ce15e574102aa3d7a07e1e94b13237c994e265344a235a0a61d4807a8f3bd", func := "timekeeper/timekeeperlaw03.UnitsHolds", spec := "unitsHolds", unfollowed := true, recurses := true, apart := false, narrowed := true }
def UnitsHoldsUptoSaid : Prop := unitsHoldsUptoRow.holds Try.pinned (OpenSpec.upto unitsHoldsSpec)

/-- 'timekeeperlaw03.UnitsDoes', WHERE WHAT IT READS IS OF BULK AT MOST 1048576: true; the input reads as it did. -/
def unitsDoesUptoRow : OpenClaim := { program := "ytkcjojncdnnmeaa", sum := "333ce15e574102aa3d7a07e1e94b13237c994e265344a235a0a61d4807a8f3bd", func := "timekeeper/timekeeperlaw03.UnitsDoes", spec := "unitsDoes", unfollowed := true, recurses := true, apart := false, narrowed := true }
def UnitsDoesUptoSaid : Prop := unitsDoesUptoRow.holds Try.pinned (OpenSpec.upto unitsDoesSpec)

/-- 'timekeeperlaw03.UnitsRing', WHERE WHAT IT READS IS OF BULK AT MOST 1048576: true; the input reads as it did. -/
def unitsRingUptoRow : OpenClaim := { program := "ytkcjojncdnnmeaa", sum := "333ce15e574102aa3d7a07e1e94b13237c994e265344a235a0a61d4807a8f3bd", func := "timekeeper/timekeeperlaw03.UnitsRing", spec := "unitsRing", unfollowed := true, recurses := true, apart := false, narrowed := true }
def UnitsRingUptoSaid : Prop := unitsRingUptoRow.holds Try.pinned (OpenSpec.upto unitsRingSpec)

/-- 'timekeeperlaw03.UnitsBits', WHERE WHAT IT READS IS OF BULK AT MOST 1048576: true; the input reads as it did. -/
def unitsBitsUptoRow : OpenClaim := { program := "ytkcjojncdnnmeaa", sum := "333ce15e574102aa3d7a07e1e94b13237c994e265344a235a0a61d4807a8f3bd", func := "timekeeper/timekeeperlaw03.UnitsBits", spec := "unitsBits", unfollowed := true, recurses := true, apart := false, narrowed := true }
def UnitsBitsUptoSaid : Prop := unitsBitsUptoRow.holds Try.pinned (OpenSpec.upto unitsBitsSpec)

/-- 'timekeeperlaw03.UnitsShifts', WHERE WHAT IT READS IS OF BULK AT MOST 1048576: true; the input reads as it did. -/
def unitsShiftsUptoRow : OpenClaim := { program := "ytkcjojncdnnmeaa", sum := "333ce15e574102aa3d7a07e1e94b13237c994e265344a235a0a61d4807a8f3bd", func := "timekeeper/timekeeperlaw03.UnitsShifts", spec := "unitsShifts", unfollowed := true, recurses := true, apart := false, narrowed := true }
def UnitsShiftsUptoSaid : Prop := unitsShiftsUptoRow.holds Try.pinned (OpenSpec.upto unitsShiftsSpec)

/-- 'timekeeperlaw03.UnitsOrder', WHERE WHAT IT READS IS OF BULK AT MOST 1048576: true; the input reads as it did. -/
def unitsOrderUptoRow : OpenClaim := { program := "ytkcjojncdnnmeaa", sum := "333ce15e574102aa3d7a07e1e94b13237c994e265344a235a0a61d4807a8f3bd", func := "timekeeper/timekeeperlaw03.UnitsOrder", spec := "unitsOrder", unfollowed := true, recurses := true, apart := false, narrowed := true }
def UnitsOrderUptoSaid : Prop := unitsOrderUptoRow.holds Try.pinned (OpenSpec.upto unitsOrderSpec)

/-- 'timekeeperlaw03.UnitsOnly', WHERE WHAT IT READS IS OF BULK AT MOST 1048576: true; the input reads as it did. -/
def unitsOnlyUptoRow : OpenClaim := { program := "ytkcjojncdnnmeaa", sum := "333ce15e574102aa3d7a07e1e94b13237c994e265344a235a0a61d4807a8f3bd", func := "timekeeper/timekeeperlaw03.UnitsOnly", spec := "unitsOnly", unfollowed := true, recurses := true, apart := false, narrowed := true }
def UnitsOnlyUptoSaid : Prop := unitsOnlyUptoRow.holds Try.pinned (OpenSpec.upto unitsOnlySpec)

/-- 'timekeeperlaw03.UnitsOften', WHERE WHAT IT READS IS OF BULK AT MOST 1048576: true; the input reads as it did. -/
def unitsOftenUptoRow : OpenClaim := { program := "ytkcjojncdnnmeaa", sum := "333ce15e574102aa3d7a07e1e94b13237c994e265344a235a0a61d4807a8f3bd", func := "timekeeper/timekeeperlaw03.UnitsOften", spec := "unitsOften", unfollowed := true, recurses := true, apart := false, narrowed := true }
def UnitsOftenUptoSaid : Prop := unitsOftenUptoRow.holds Try.pinned (OpenSpec.upto unitsOftenSpec)

/-- 'timekeeperlaw03.UnitsChain', WHERE WHAT IT READS IS OF BULK AT MOST 1048576: true; the input reads as it did. -/
def unitsChainUptoRow : OpenClaim := { program := "ytkcjojncdnnmeaa", sum := "333ce15e574102aa3d7a07e1e94b13237c994e265344a235a0a61d4807a8f3bd", func := "timekeeper/timekeeperlaw03.UnitsChain", spec := "unitsChain", unfollowed := true, recurses := true, apart := false, narrowed := true }
def UnitsChainUptoSaid : Prop := unitsChainUptoRow.holds Try.pinned (OpenSpec.upto unitsChainSpec)

end Rows
end Go.Proofs.Ytkcjojncdnnmeaa
