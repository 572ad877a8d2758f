/-
  NARROWER THAN 'FOR EVERY INPUT', by the rows' own cells (each row's printed sentence says how): HistApart: laid · HistAdds: laid · HistMay: laid · HistMoves: laid · HistReplays: laid.
  DERIVED. THE GIVEN ROWS OF THIS SEAT. 5 by the template 'for every input the law returns true; each argument reads behind the call as it read before'; 0 by the template 'total and deterministic' (their statements: YtlidmajcdjlcnaaGreatDoorTotals.lean).
  GIVEN WITH THE SEED: the statements are not yours to turn. If you find one false, say at which input.
  Laid BY PROGRAM, IN A SANDBOX (cutbox-rows.mjs): the forced cells as the released guide's own fill.sh prints them over the translation e6f695a14a14946a… (all of the seat's roots in one cut). By AI agents, Wed Nov 11 2026. No macro, syntax, notation, axiom, sorry.
-/
import Derived.Test.YtlidmajcdjlcnaaGreatDoorChecked
import GoSem.PinnedTables
import GoSem.Claim
import GoSem.ClaimJoined
import GoSem.ClaimMapViews
import Derived.JoinedTies
import Derived.KernelRfl
namespace Go.Proofs.YtlidmajcdjlcnaaGreatDoor
/- THE CELL 'sum', in the pinned program and in every row, IS THE sha256 OF THE DUMP (.gsa) THAT YtlidmajcdjlcnaaGreatDoorProg.lean LOADS. Nothing in Lean hashes anything: it is a label: what it is worth is what the hold of that sum in a sandbox is worth. -/
noncomputable def Tryz.pinned : Pinned := { name := "ytlidmajcdjlcnaagreatdoor", sum := "e6f695a14a14946a28e2a97582f1990781ee1b8b62b8e07aecb1da83824b1a96", checked := Tryz.checked }
namespace Rows
def none {H : Type} : Left H := { results := [], args := [] }

/- WHAT THE LISTED PACKAGE-LEVEL VARIABLES READ AS WHEN THE CALL BEGINS. Each datum BY PROGRAM (the guide's laid-datum.mjs) off the statement by which the dump's own 'gosem.cut.vars' lays the variable. In a bare row this is a premise. The card (YtlidmajcdjlcnaaGreatDoorCards.lean) ties it to the program's text. -/
def laid_unicode_utf8_acceptRanges {H : Type} : DataW H := .agg [.agg [.lit (.int .u8 128), .lit (.int .u8 191)], .agg [.lit (.int .u8 160), .lit (.int .u8 191)], .agg [.lit (.int .u8 128), .lit (.int .u8 159)], .agg [.lit (.int .u8 144), .lit (.int .u8 191)], .agg [.lit (.int .u8 128), .lit (.int .u8 143)], .agg [.lit (.int .u8 0), .lit (.int .u8 0)], .agg [.lit (.int .u8 0), .lit (.int .u8 0)], .agg [.lit (.int .u8 0), .lit (.int .u8 0)], .agg [.lit (.int .u8 0), .lit (.int .u8 0)], .agg [.lit (.int .u8 0), .lit (.int .u8 0)], .agg [.lit (.int .u8 0), .lit (.int .u8 0)], .agg [.lit (.int .u8 0), .lit (.int .u8 0)], .agg [.lit (.int .u8 0), .lit (.int .u8 0)], .agg [.lit (.int .u8 0), .lit (.int .u8 0)], .agg [.lit (.int .u8 0), .lit (.int .u8 0)], .agg [.lit (.int .u8 0), .lit (.int .u8 0)]]
/-- One of Go's own tables, pinned by name: the form's constant. -/
def laid_unicode_utf8_first : DataW Unit := Go.Pinned.utf8First

/-- 'foolscaplaw13.HistApart': WHATEVER THE INPUT: true; the input reads as it did. -/
def histApartSpec : ChangeSpec := { name := "histApart", fn := fun _ => fun
  | [d1, d2] => { results := [.lit (.bool true)], args := [d1, d2] }
  | _ => none }
def histApartRow : OpenClaim := { program := "ytlidmajcdjlcnaagreatdoor", sum := "e6f695a14a14946a28e2a97582f1990781ee1b8b62b8e07aecb1da83824b1a96", func := "foolscap/foolscaplaw13.HistApart", spec := "histApart", unfollowed := true, recurses := true, named := ["unicode/utf8.first", "unicode/utf8.acceptRanges"], plainKeys := false, apart := false, laid := [("unicode/utf8.acceptRanges", laid_unicode_utf8_acceptRanges), ("unicode/utf8.first", laid_unicode_utf8_first)] }
def HistApartSaid : Prop := histApartRow.holds Tryz.pinned (OpenSpec.ofChange histApartSpec)

/-- ITS FALSE NEIGHBOUR: 'it returns false'. Refute it at one input. -/
def histApartWrong : ChangeSpec := { name := "histApart", fn := fun _ => fun
  | [d1, d2] => { results := [.lit (.bool false)], args := [d1, d2] }
  | _ => none }
def HistApartWrongFalsely : Prop := histApartRow.holds Tryz.pinned (OpenSpec.ofChange histApartWrong)

/-- 'foolscaplaw13.HistAdds': WHATEVER THE INPUT: true; the input reads as it did. -/
def histAddsSpec : ChangeSpec := { name := "histAdds", fn := fun _ => fun
  | [d1, d2] => { results := [.lit (.bool true)], args := [d1, d2] }
  | _ => none }
def histAddsRow : OpenClaim := { program := "ytlidmajcdjlcnaagreatdoor", sum := "e6f695a14a14946a28e2a97582f1990781ee1b8b62b8e07aecb1da83824b1a96", func := "foolscap/foolscaplaw13.HistAdds", spec := "histAdds", unfollowed := true, recurses := true, named := ["unicode/utf8.first", "unicode/utf8.acceptRanges"], plainKeys := false, apart := false, laid := [("unicode/utf8.acceptRanges", laid_unicode_utf8_acceptRanges), ("unicode/utf8.first", laid_unicode_utf8_first)] }
def HistAddsSaid : Prop := histAddsRow.holds Tryz.pinned (OpenSpec.ofChange histAddsSpec)

/-- ITS FALSE NEIGHBOUR: 'it returns false'. Refute it at one input. -/
def histAddsWrong : ChangeSpec := { name := "histAdds", fn := fun _ => fun
  | [d1, d2] => { results := [.lit (.bool false)], args := [d1, d2] }
  | _ => none }
def HistAddsWrongFalsely : Prop := histAddsRow.holds Tryz.pinned (OpenSpec.ofChange histAddsWrong)

/-- 'foolscaplaw13.HistMay': WHATEVER THE INPUT: true; the input reads as it did. -/
def histMaySpec : ChangeSpec := { name := "histMay", fn := fun _ => fun
  | [d] => { results := [.lit (.bool true)], args := [d] }
  | _ => none }
def histMayRow : OpenClaim := { program := "ytlidmajcdjlcnaagreatdoor", sum := "e6f695a14a14946a28e2a97582f1990781ee1b8b62b8e07aecb1da83824b1a96", func := "foolscap/foolscaplaw13.HistMay", spec := "histMay", unfollowed := true, recurses := true, named := ["unicode/utf8.first", "unicode/utf8.acceptRanges"], plainKeys := false, apart := false, laid := [("unicode/utf8.acceptRanges", laid_unicode_utf8_acceptRanges), ("unicode/utf8.first", laid_unicode_utf8_first)] }
def HistMaySaid : Prop := histMayRow.holds Tryz.pinned (OpenSpec.ofChange histMaySpec)

/-- ITS FALSE NEIGHBOUR: 'it returns false'. Refute it at one input. -/
def histMayWrong : ChangeSpec := { name := "histMay", fn := fun _ => fun
  | [d] => { results := [.lit (.bool false)], args := [d] }
  | _ => none }
def HistMayWrongFalsely : Prop := histMayRow.holds Tryz.pinned (OpenSpec.ofChange histMayWrong)

/-- 'foolscaplaw13.HistMoves': WHATEVER THE INPUT: true; the input reads as it did. -/
def histMovesSpec : ChangeSpec := { name := "histMoves", fn := fun _ => fun
  | [d1, d2, d3] => { results := [.lit (.bool true)], args := [d1, d2, d3] }
  | _ => none }
def histMovesRow : OpenClaim := { program := "ytlidmajcdjlcnaagreatdoor", sum := "e6f695a14a14946a28e2a97582f1990781ee1b8b62b8e07aecb1da83824b1a96", func := "foolscap/foolscaplaw13.HistMoves", spec := "histMoves", unfollowed := true, recurses := true, named := ["unicode/utf8.first", "unicode/utf8.acceptRanges"], plainKeys := false, apart := false, laid := [("unicode/utf8.acceptRanges", laid_unicode_utf8_acceptRanges), ("unicode/utf8.first", laid_unicode_utf8_first)] }
def HistMovesSaid : Prop := histMovesRow.holds Tryz.pinned (OpenSpec.ofChange histMovesSpec)

/-- ITS FALSE NEIGHBOUR: 'it returns false'. Refute it at one input. -/
def histMovesWrong : ChangeSpec := { name := "histMoves", fn := fun _ => fun
  | [d1, d2, d3] => { results := [.lit (.bool false)], args := [d1, d2, d3] }
  | _ => none }
def HistMovesWrongFalsely : Prop := histMovesRow.holds Tryz.pinned (OpenSpec.ofChange histMovesWrong)

/-- 'foolscaplaw13.HistReplays': WHATEVER THE INPUT: true; the input reads as it did. -/
def histReplaysSpec : ChangeSpec := { name := "histReplays", fn := fun _ => fun
  | [d1, d2] => { results := [.lit (.bool true)], args := [d1, d2] }
  | _ => none }
def histReplaysRow : OpenClaim := { program := "ytlidmajcdjlcnaagreatdoor", sum := "e6f695a14a14946a28e2a97582f1990781ee1b8b62b8e07aecb1da83824b1a96", func := "foolscap/foolscaplaw13.HistReplays", spec := "histReplays", inPlace := ["slices.overlaps[foolscap/api.Cell]", "slices.overlaps[*foolscap/cells.block]"], unfollowed := true, recurses := true, named := ["unicode/utf8.first", "unicode/utf8.acceptRanges"], plainKeys := false, apart := false, laid := [("unicode/utf8.acceptRanges", laid_unicode_utf8_acceptRanges), ("unicode/utf8.first", laid_unicode_utf8_first)] }
def HistReplaysSaid : Prop := histReplaysRow.holds Tryz.pinned (OpenSpec.ofChange histReplaysSpec)

/-- ITS FALSE NEIGHBOUR: 'it returns false'. Refute it at one input. -/
def histReplaysWrong : ChangeSpec := { name := "histReplays", fn := fun _ => fun
  | [d1, d2] => { results := [.lit (.bool false)], args := [d1, d2] }
  | _ => none }
def HistReplaysWrongFalsely : Prop := histReplaysRow.holds Tryz.pinned (OpenSpec.ofChange histReplaysWrong)

/- THE SECOND FORM. 'bulk': how many values and letters a reading holds, each counted each time it is reached (what is shared counts as often as it is met; a slice's spare places count too). A statement '..UptoSaid' is the law's where the arguments, and the package variables that the reading takes, are together of bulk at most 1048576: NARROWER than '..Said'. Prove '..Said' where nothing that the law and all that it calls make is longer than what came in: it says more and counts as full. Else prove '..UptoSaid'. A law counts once. -/
mutual
def uptoBulk {H : Type} : DataW H → Nat
  | .lit (.string bytes) => bytes.length + 1
  | .lit _ => 1
  | .nil => 1
  | .ptr d => uptoBulk d + 1
  | .slice elems spare => uptoBulkAll elems + uptoBulkAll spare + 1
  | .agg parts => uptoBulkAll parts + 1
  | .iface _ d => uptoBulk d + 1
  | .map entries => uptoBulkEntries entries + 1
  | .held _ => 1
def uptoBulkAll {H : Type} : List (DataW H) → Nat
  | [] => 0
  | d :: r => uptoBulk d + uptoBulkAll r
def uptoBulkEntries {H : Type} : List (Lit × DataW H) → Nat
  | [] => 0
  | x :: r => uptoBulkEntry x + uptoBulkEntries r
def uptoBulkEntry {H : Type} : Lit × DataW H → Nat
  | (.string bytes, d) => bytes.length + uptoBulk d + 1
  | (_, d) => uptoBulk d + 1
 end
def uptoSmall : (H : Type) → List (DataW H) → Bool := fun _ ds => decide (uptoBulkAll ds ≤ 1048576)
def OpenSpec.upto (s : _root_.Go.ChangeSpec) : _root_.Go.OpenSpec := { _root_.Go.OpenSpec.ofChange s with cond := some uptoSmall }

/-- 'foolscaplaw13.HistApart', WHERE WHAT IT READS IS OF BULK AT MOST 1048576: true; the input reads as it did. -/
def histApartUptoRow : OpenClaim := { program := "ytlidmajcdjlcnaagreatdoor", sum := "e6f695a14a14946a28e2a97582f1990781ee1b8b62b8e07aecb1da83824b1a96", func := "foolscap/foolscaplaw13.HistApart", spec := "histApart", unfollowed := true, recurses := true, named := ["unicode/utf8.first", "unicode/utf8.acceptRanges"], plainKeys := false, apart := false, laid := [("unicode/utf8.acceptRanges", laid_unicode_utf8_acceptRanges), ("unicode/utf8.first", laid_unicode_utf8_first)], narrowed := true }
def HistApartUptoSaid : Prop := histApartUptoRow.holds Tryz.pinned (OpenSpec.upto histApartSpec)

/-- 'foolscaplaw13.HistAdds', WHERE WHAT IT READS IS OF BULK AT MOST 1048576: true; the input reads as it did. -/
def histAddsUptoRow : OpenClaim := { program := "ytlidmajcdjlcnaagreatdoor", sum := "e6f695a14a14946a28e2a97582f1990781ee1b8b62b8e07aecb1da83824b1a96", func := "foolscap/foolscaplaw13.HistAdds", spec := "histAdds", unfollowed := true, recurses := true, named := ["unicode/utf8.first", "unicode/utf8.acceptRanges"], plainKeys := false, apart := false, laid := [("unicode/utf8.acceptRanges", laid_unicode_utf8_acceptRanges), ("unicode/utf8.first", laid_unicode_utf8_first)], narrowed := true }
def HistAddsUptoSaid : Prop := histAddsUptoRow.holds Tryz.pinned (OpenSpec.upto histAddsSpec)

/-- 'foolscaplaw13.HistMay', WHERE WHAT IT READS IS OF BULK AT MOST 1048576: true; the input reads as it did. -/
def histMayUptoRow : OpenClaim := { program := "ytlidmajcdjlcnaagreatdoor", sum := "e6f695a14a14946a28e2a97582f1990781ee1b8b62b8e07aecb1da83824b1a96", func := "foolscap/foolscaplaw13.HistMay", spec := "histMay", unfollowed := true, recurses := true, named := ["unicode/utf8.first", "unicode/utf8.acceptRanges"], plainKeys := false, apart := false, laid := [("unicode/utf8.acceptRanges", laid_unicode_utf8_acceptRanges), ("unicode/utf8.first", laid_unicode_utf8_first)], narrowed := true }
def HistMayUptoSaid : Prop := histMayUptoRow.holds Tryz.pinned (OpenSpec.upto histMaySpec)

/-- 'foolscaplaw13.HistMoves', WHERE WHAT IT READS IS OF BULK AT MOST 1048576: true; the input reads as it did. -/
def histMovesUptoRow : OpenClaim := { program := "ytlidmajcdjlcnaagreatdoor", sum := "e6f695a14a14946a28e2a97582f1990781ee1b8b62b8e07aecb1da83824b1a96", func := "foolscap/foolscaplaw13.HistMoves", spec := "histMoves", unfollowed := true, recurses := true, named := ["unicode/utf8.first", "unicode/utf8.acceptRanges"], plainKeys := false, apart := false, laid := [("unicode/utf8.acceptRanges", laid_unicode_utf8_acceptRanges), ("unicode/utf8.first", laid_unicode_utf8_first)], narrowed := true }
def HistMovesUptoSaid : Prop := histMovesUptoRow.holds Tryz.pinned (OpenSpec.upto histMovesSpec)

/-- 'foolscaplaw13.HistReplays', WHERE WHAT IT READS IS OF BULK AT MOST 1048576: true; the input reads as it did. -/
def histReplaysUptoRow : OpenClaim := { program := "ytlidmajcdjlcnaagreatdoor", sum := "e6f695a14a14946a28e2a97582f1990781ee1b8b62b8e07aecb1da83824b1a96", func := "foolscap/foolscaplaw13.HistReplays", spec := "histReplays", inPlace := ["slices.overlaps[foolscap/api.Cell]", "slices.overlaps[*foolscap/cells.block]"], unfollowed := true, recurses := true, named := ["unicode/utf8.first", "unicode/utf8.acceptRanges"], plainKeys := false, apart := false, laid := [("unicode/utf8.acceptRanges", laid_unicode_utf8_acceptRanges), ("unicode/utf8.first", laid_unicode_utf8_first)], narrowed := true }
def HistReplaysUptoSaid : Prop := histReplaysUptoRow.holds Tryz.pinned (OpenSpec.upto histReplaysSpec)

end Rows
end Go.Proofs.YtlidmajcdjlcnaaGreatDoor
