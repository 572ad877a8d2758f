/-
  No cell of these rows narrows 'for every input' (looked for: loops, veiled, ifaces, maps, wideKeys, modest, calm, conditions, laid).
  DERIVED. THE GIVEN ROWS OF THIS SEAT. 5 by the template 'for every input the law returns true; each argument reads behind the call as it read before'; 0 by the template 'total and deterministic' (their statements: YtpdfakfokegcnaaTotals.lean).
  GIVEN WITH THE SEED: the statements are not yours to turn. If you find one false, say at which input.
  Laid BY PROGRAM, IN A SANDBOX (cutbox-rows.mjs): the forced cells as the released guide's own fill.sh prints them over the translation 680fe93d8d6eaa1b… (all of the seat's roots in one cut). By AI agents, Wed Nov 11 2026. No macro, syntax, notation, axiom, sorry.
-/
import Derived.Test.YtpdfakfokegcnaaChecked
import GoSem.Claim
import GoSem.ClaimJoined
import GoSem.ClaimMapViews
import Derived.JoinedTies
import Derived.KernelRfl
namespace Go.Proofs.Ytpdfakfokegcnaa
/- THE CELL 'sum', in the pinned program and in every row, IS THE sha256 OF THE DUMP (.gsa) THAT YtpdfakfokegcnaaProg.lean LOADS. Nothing in Lean hashes anything: it is a label: what it is worth is what the hold of that sum in a sandbox is worth. -/
noncomputable def Try.pinned : Pinned := { name := "ytpdfakfokegcnaa", sum := "680fe93d8d6eaa1baa0349d75ef3d696c22d7cd67d5e3006310bf74ce0c04bee", checked := Try.checked }
namespace Rows
def none {H : Type} : Left H := { results := [], args := [] }

/-- 'foolscaplaw22.NetCounts': WHATEVER THE INPUT: true; the input reads as it did. -/
def netCountsSpec : ChangeSpec := { name := "netCounts", fn := fun _ => fun
  | [d] => { results := [.lit (.bool true)], args := [d] }
  | _ => none }
def netCountsRow : OpenClaim := { program := "ytpdfakfokegcnaa", sum := "680fe93d8d6eaa1baa0349d75ef3d696c22d7cd67d5e3006310bf74ce0c04bee", func := "foolscap/foolscaplaw22.NetCounts", spec := "netCounts", unfollowed := true, recurses := true, apart := false }
def NetCountsSaid : Prop := netCountsRow.holds Try.pinned (OpenSpec.ofChange netCountsSpec)

/-- ITS FALSE NEIGHBOUR: 'it returns false'. Refute it at one input. -/
def netCountsWrong : ChangeSpec := { name := "netCounts", fn := fun _ => fun
  | [d] => { results := [.lit (.bool false)], args := [d] }
  | _ => none }
def NetCountsWrongFalsely : Prop := netCountsRow.holds Try.pinned (OpenSpec.ofChange netCountsWrong)

/-- 'foolscaplaw22.NetSpoils': WHATEVER THE INPUT: true; the input reads as it did. -/
def netSpoilsSpec : ChangeSpec := { name := "netSpoils", fn := fun _ => fun
  | [d1, d2, d3] => { results := [.lit (.bool true)], args := [d1, d2, d3] }
  | _ => none }
def netSpoilsRow : OpenClaim := { program := "ytpdfakfokegcnaa", sum := "680fe93d8d6eaa1baa0349d75ef3d696c22d7cd67d5e3006310bf74ce0c04bee", func := "foolscap/foolscaplaw22.NetSpoils", spec := "netSpoils", unfollowed := true, recurses := true, apart := false }
def NetSpoilsSaid : Prop := netSpoilsRow.holds Try.pinned (OpenSpec.ofChange netSpoilsSpec)

/-- ITS FALSE NEIGHBOUR: 'it returns false'. Refute it at one input. -/
def netSpoilsWrong : ChangeSpec := { name := "netSpoils", fn := fun _ => fun
  | [d1, d2, d3] => { results := [.lit (.bool false)], args := [d1, d2, d3] }
  | _ => none }
def NetSpoilsWrongFalsely : Prop := netSpoilsRow.holds Try.pinned (OpenSpec.ofChange netSpoilsWrong)

/-- 'foolscaplaw21.HoldOrder': WHATEVER THE INPUT: true; the input reads as it did. -/
def holdOrderSpec : ChangeSpec := { name := "holdOrder", fn := fun _ => fun
  | [d1, d2] => { results := [.lit (.bool true)], args := [d1, d2] }
  | _ => none }
def holdOrderRow : OpenClaim := { program := "ytpdfakfokegcnaa", sum := "680fe93d8d6eaa1baa0349d75ef3d696c22d7cd67d5e3006310bf74ce0c04bee", func := "foolscap/foolscaplaw21.HoldOrder", spec := "holdOrder", unfollowed := true, recurses := true, apart := false }
def HoldOrderSaid : Prop := holdOrderRow.holds Try.pinned (OpenSpec.ofChange holdOrderSpec)

/-- ITS FALSE NEIGHBOUR: 'it returns false'. Refute it at one input. -/
def holdOrderWrong : ChangeSpec := { name := "holdOrder", fn := fun _ => fun
  | [d1, d2] => { results := [.lit (.bool false)], args := [d1, d2] }
  | _ => none }
def HoldOrderWrongFalsely : Prop := holdOrderRow.holds Try.pinned (OpenSpec.ofChange holdOrderWrong)

/-- 'foolscaplaw21.HoldPlays': WHATEVER THE INPUT: true; the input reads as it did. -/
def holdPlaysSpec : ChangeSpec := { name := "holdPlays", fn := fun _ => fun
  | [d1, d2] => { results := [.lit (.bool true)], args := [d1, d2] }
  | _ => none }
def holdPlaysRow : OpenClaim := { program := "ytpdfakfokegcnaa", sum := "680fe93d8d6eaa1baa0349d75ef3d696c22d7cd67d5e3006310bf74ce0c04bee", func := "foolscap/foolscaplaw21.HoldPlays", spec := "holdPlays", unfollowed := true, recurses := true, apart := false }
def HoldPlaysSaid : Prop := holdPlaysRow.holds Try.pinned (OpenSpec.ofChange holdPlaysSpec)

/-- ITS FALSE NEIGHBOUR: 'it returns false'. Refute it at one input. -/
def holdPlaysWrong : ChangeSpec := { name := "holdPlays", fn := fun _ => fun
  | [d1, d2] => { results := [.lit (.bool false)], args := [d1, d2] }
  | _ => none }
def HoldPlaysWrongFalsely : Prop := holdPlaysRow.holds Try.pinned (OpenSpec.ofChange holdPlaysWrong)

/-- 'foolscaplaw21.HoldFull': WHATEVER THE INPUT: true; the input reads as it did. -/
def holdFullSpec : ChangeSpec := { name := "holdFull", fn := fun _ => fun
  | [d] => { results := [.lit (.bool true)], args := [d] }
  | _ => none }
def holdFullRow : OpenClaim := { program := "ytpdfakfokegcnaa", sum := "680fe93d8d6eaa1baa0349d75ef3d696c22d7cd67d5e3006310bf74ce0c04bee", func := "foolscap/foolscaplaw21.HoldFull", spec := "holdFull", unfollowed := true, recurses := true, apart := false }
def HoldFullSaid : Prop := holdFullRow.holds Try.pinned (OpenSpec.ofChange holdFullSpec)

/-- ITS FALSE NEIGHBOUR: 'it returns false'. Refute it at one input. -/
def holdFullWrong : ChangeSpec := { name := "holdFull", fn := fun _ => fun
  | [d] => { results := [.lit (.bool false)], args := [d] }
  | _ => none }
def HoldFullWrongFalsely : Prop := holdFullRow.holds Try.pinned (OpenSpec.ofChange holdFullWrong)

/- THE SECOND FORM. 'bulk': how many values and letters a reading holds, each counted each time it is reached (what is shared counts as often as it is met; a slice's spare places count too). A statement '..UptoSaid' is the law's where the arguments, and the package variables that the reading takes, are together of bulk at most 1048576: NARROWER than '..Said'. Prove '..Said' where nothing that the law and all that it calls make is longer than what came in: it says more and counts as full. Else prove '..UptoSaid'. A law counts once. -/
mutual
def uptoBulk {H : Type} : DataW H → Nat
  | .lit (.string bytes) => bytes.length + 1
  | .lit _ => 1
  | .nil => 1
  | .ptr d => uptoBulk d + 1
  | .slice elems spare => uptoBulkAll elems + uptoBulkAll spare + 1
  | .agg parts => uptoBulkAll parts + 1
  | .iface _ d => uptoBulk d + 1
  | .map entries => uptoBulkEntries entries + 1
  | .held _ => 1
def uptoBulkAll {H : Type} : List (DataW H) → Nat
  | [] => 0
  | d :: r => uptoBulk d + uptoBulkAll r
def uptoBulkEntries {H : Type} : List (Lit × DataW H) → Nat
  | [] => 0
  | x :: r => uptoBulkEntry x + uptoBulkEntries r
def uptoBulkEntry {H : Type} : Lit × DataW H → Nat
  | (.string bytes, d) => bytes.length + uptoBulk d + 1
  | (_, d) => uptoBulk d + 1
 end
def uptoSmall : (H : Type) → List (DataW H) → Bool := fun _ ds => decide (uptoBulkAll ds ≤ 1048576)
def OpenSpec.upto (s : _root_.Go.ChangeSpec) : _root_.Go.OpenSpec := { _root_.Go.OpenSpec.ofChange s with cond := some uptoSmall }

/-- 'foolscaplaw22.NetCounts', WHERE WHAT IT READS IS OF BULK AT MOST 1048576: true; the input reads as it did. -/
def netCountsUptoRow : OpenClaim := { program := "ytpdfakfokegcnaa", sum := "680fe93d8d6eaa1baa0349d75ef3d696c22d7cd67d5e3006310bf74ce0c04bee", func := "foolscap/foolscaplaw22.NetCounts", spec := "netCounts", unfollowed := true, recurses := true, apart := false, narrowed := true }
def NetCountsUptoSaid : Prop := netCountsUptoRow.holds Try.pinned (OpenSpec.upto netCountsSpec)

/-- 'foolscaplaw22.NetSpoils', WHERE WHAT IT READS IS OF BULK AT MOST 1048576: true; the input reads as it did. -/
def netSpoilsUptoRow : OpenClaim := { program := "ytpdfakfokegcnaa", sum := "680fe93d8d6eaa1baa0349d75ef3d696c22d7cd67d5e3006310bf74ce0c04bee", func := "foolscap/foolscaplaw22.NetSpoils", spec := "netSpoils", unfollowed := true, recurses := true, apart := false, narrowed := true }
def NetSpoilsUptoSaid : Prop := netSpoilsUptoRow.holds Try.pinned (OpenSpec.upto netSpoilsSpec)

/-- 'foolscaplaw21.HoldOrder', WHERE WHAT IT READS IS OF BULK AT MOST 1048576: true; the input reads as it did. -/
def holdOrderUptoRow : OpenClaim := { program := "ytpdfakfokegcnaa", sum := "680fe93d8d6eaa1baa0349d75ef3d696c22d7cd67d5e3006310bf74ce0c04bee", func := "foolscap/foolscaplaw21.HoldOrder", spec := "holdOrder", unfollowed := true, recurses := true, apart := false, narrowed := true }
def HoldOrderUptoSaid : Prop := holdOrderUptoRow.holds Try.pinned (OpenSpec.upto holdOrderSpec)

/-- 'foolscaplaw21.HoldPlays', WHERE WHAT IT READS IS OF BULK AT MOST 1048576: true; the input reads as it did. -/
def holdPlaysUptoRow : OpenClaim := { program := "ytpdfakfokegcnaa", sum := "680fe93d8d6eaa1baa0349d75ef3d696c22d7cd67d5e3006310bf74ce0c04bee", func := "foolscap/foolscaplaw21.HoldPlays", spec := "holdPlays", unfollowed := true, recurses := true, apart := false, narrowed := true }
def HoldPlaysUptoSaid : Prop := holdPlaysUptoRow.holds Try.pinned (OpenSpec.upto holdPlaysSpec)

/-- 'foolscaplaw21.HoldFull', WHERE WHAT IT READS IS OF BULK AT MOST 1048576: true; the input reads as it did. -/
def holdFullUptoRow : OpenClaim := { program := "ytpdfakfokegcnaa", sum := "680fe93d8d6eaa1baa0349d75ef3d696c22d7cd67d5e3006310bf74ce0c04bee", func := "foolscap/foolscaplaw21.HoldFull", spec := "holdFull", unfollowed := true, recurses := true, apart := false, narrowed := true }
def HoldFullUptoSaid : Prop := holdFullUptoRow.holds Try.pinned (OpenSpec.upto holdFullSpec)

end Rows
end Go.Proofs.Ytpdfakfokegcnaa
