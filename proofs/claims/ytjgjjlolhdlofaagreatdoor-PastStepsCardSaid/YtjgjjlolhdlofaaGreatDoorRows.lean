/-
  NARROWER THAN 'FOR EVERY INPUT', by the rows' own cells (each row's printed sentence says how): PastAt: laid · PastSteps: laid · PastComes: laid · PastPlays: laid.
  DERIVED. THE GIVEN ROWS OF THIS SEAT. 4 by the template 'for every input the law returns true; each argument reads behind the call as it read before'; 0 by the template 'total and deterministic' (their statements: YtjgjjlolhdlofaaGreatDoorTotals.lean).
  GIVEN WITH THE SEED: the statements are not yours to turn. If you find one false, say at which input.
  Laid BY PROGRAM, IN A SANDBOX (cutbox-rows.mjs): the forced cells as the released guide's own fill.sh prints them over the translation f18e1acbef508910… (all of the seat's roots in one cut). By AI agents, Wed Nov 11 2026. No macro, syntax, notation, axiom, sorry.
-/
import Derived.Test.YtjgjjlolhdlofaaGreatDoorChecked
import GoSem.PinnedTables
import GoSem.Claim
import GoSem.ClaimJoined
import GoSem.ClaimMapViews
import Derived.JoinedTies
import Derived.KernelRfl
namespace Go.Proofs.YtjgjjlolhdlofaaGreatDoor
/- THE CELL 'sum', in the pinned program and in every row, IS THE sha256 OF THE DUMP (.gsa) THAT YtjgjjlolhdlofaaGreatDoorProg.lean LOADS. Nothing in Lean hashes anything: it is a label: what it is worth is what the hold of that sum in a sandbox is worth. -/
noncomputable def Tryz.pinned : Pinned := { name := "ytjgjjlolhdlofaagreatdoor", sum := "f18e1acbef508910f4928eb9380a9fc636b1d48a697c0ca8c1c5bdd147aa93f2", checked := Tryz.checked }
namespace Rows
def none {H : Type} : Left H := { results := [], args := [] }

/- WHAT THE LISTED PACKAGE-LEVEL VARIABLES READ AS WHEN THE CALL BEGINS. Each datum BY PROGRAM (the guide's laid-datum.mjs) off the statement by which the dump's own 'gosem.cut.vars' lays the variable. In a bare row this is a premise. The card (YtjgjjlolhdlofaaGreatDoorCards.lean) ties it to the program's text. -/
def laid_unicode_utf8_acceptRanges {H : Type} : DataW H := .agg [.agg [.lit (.int .u8 128), .lit (.int .u8 191)], .agg [.lit (.int .u8 160), .lit (.int .u8 191)], .agg [.lit (.int .u8 128), .lit (.int .u8 159)], .agg [.lit (.int .u8 144), .lit (.int .u8 191)], .agg [.lit (.int .u8 128), .lit (.int .u8 143)], .agg [.lit (.int .u8 0), .lit (.int .u8 0)], .agg [.lit (.int .u8 0), .lit (.int .u8 0)], .agg [.lit (.int .u8 0), .lit (.int .u8 0)], .agg [.lit (.int .u8 0), .lit (.int .u8 0)], .agg [.lit (.int .u8 0), .lit (.int .u8 0)], .agg [.lit (.int .u8 0), .lit (.int .u8 0)], .agg [.lit (.int .u8 0), .lit (.int .u8 0)], .agg [.lit (.int .u8 0), .lit (.int .u8 0)], .agg [.lit (.int .u8 0), .lit (.int .u8 0)], .agg [.lit (.int .u8 0), .lit (.int .u8 0)], .agg [.lit (.int .u8 0), .lit (.int .u8 0)]]
/-- One of Go's own tables, pinned by name: the form's constant. -/
def laid_unicode_utf8_first : DataW Unit := Go.Pinned.utf8First

/-- 'foolscaplaw31.PastAt': WHATEVER THE INPUT: true; the input reads as it did. -/
def pastAtSpec : ChangeSpec := { name := "pastAt", fn := fun _ => fun
  | [d1, d2] => { results := [.lit (.bool true)], args := [d1, d2] }
  | _ => none }
def pastAtRow : OpenClaim := { program := "ytjgjjlolhdlofaagreatdoor", sum := "f18e1acbef508910f4928eb9380a9fc636b1d48a697c0ca8c1c5bdd147aa93f2", func := "foolscap/foolscaplaw31.PastAt", spec := "pastAt", inPlace := ["slices.overlaps[foolscap/api.Cell]", "slices.overlaps[*foolscap/cells.block]"], unfollowed := true, recurses := true, named := ["unicode/utf8.first", "unicode/utf8.acceptRanges"], plainKeys := false, apart := false, laid := [("unicode/utf8.acceptRanges", laid_unicode_utf8_acceptRanges), ("unicode/utf8.first", laid_unicode_utf8_first)] }
def PastAtSaid : Prop := pastAtRow.holds Tryz.pinned (OpenSpec.ofChange pastAtSpec)

/-- ITS FALSE NEIGHBOUR: 'it returns false'. Refute it at one input. -/
def pastAtWrong : ChangeSpec := { name := "pastAt", fn := fun _ => fun
  | [d1, d2] => { results := [.lit (.bool false)], args := [d1, d2] }
  | _ => none }
def PastAtWrongFalsely : Prop := pastAtRow.holds Tryz.pinned (OpenSpec.ofChange pastAtWrong)

/-- 'foolscaplaw31.PastSteps': WHATEVER THE INPUT: true; the input reads as it did. -/
def pastStepsSpec : ChangeSpec := { name := "pastSteps", fn := fun _ => fun
  | [d] => { results := [.lit (.bool true)], args := [d] }
  | _ => none }
def pastStepsRow : OpenClaim := { program := "ytjgjjlolhdlofaagreatdoor", sum := "f18e1acbef508910f4928eb9380a9fc636b1d48a697c0ca8c1c5bdd147aa93f2", func := "foolscap/foolscaplaw31.PastSteps", spec := "pastSteps", inPlace := ["slices.overlaps[foolscap/api.Cell]", "slices.overlaps[*foolscap/cells.block]"], unfollowed := true, recurses := true, named := ["unicode/utf8.first", "unicode/utf8.acceptRanges"], plainKeys := false, apart := false, laid := [("unicode/utf8.acceptRanges", laid_unicode_utf8_acceptRanges), ("unicode/utf8.first", laid_unicode_utf8_first)] }
def PastStepsSaid : Prop := pastStepsRow.holds Tryz.pinned (OpenSpec.ofChange pastStepsSpec)

/-- ITS FALSE NEIGHBOUR: 'it returns false'. Refute it at one input. -/
def pastStepsWrong : ChangeSpec := { name := "pastSteps", fn := fun _ => fun
  | [d] => { results := [.lit (.bool false)], args := [d] }
  | _ => none }
def PastStepsWrongFalsely : Prop := pastStepsRow.holds Tryz.pinned (OpenSpec.ofChange pastStepsWrong)

/-- 'foolscaplaw31.PastComes': WHATEVER THE INPUT: true; the input reads as it did. -/
def pastComesSpec : ChangeSpec := { name := "pastComes", fn := fun _ => fun
  | [d1, d2] => { results := [.lit (.bool true)], args := [d1, d2] }
  | _ => none }
def pastComesRow : OpenClaim := { program := "ytjgjjlolhdlofaagreatdoor", sum := "f18e1acbef508910f4928eb9380a9fc636b1d48a697c0ca8c1c5bdd147aa93f2", func := "foolscap/foolscaplaw31.PastComes", spec := "pastComes", inPlace := ["slices.overlaps[foolscap/api.Cell]", "slices.overlaps[*foolscap/cells.block]"], unfollowed := true, recurses := true, named := ["unicode/utf8.first", "unicode/utf8.acceptRanges"], plainKeys := false, apart := false, laid := [("unicode/utf8.acceptRanges", laid_unicode_utf8_acceptRanges), ("unicode/utf8.first", laid_unicode_utf8_first)] }
def PastComesSaid : Prop := pastComesRow.holds Tryz.pinned (OpenSpec.ofChange pastComesSpec)

/-- ITS FALSE NEIGHBOUR: 'it returns false'. Refute it at one input. -/
def pastComesWrong : ChangeSpec := { name := "pastComes", fn := fun _ => fun
  | [d1, d2] => { results := [.lit (.bool false)], args := [d1, d2] }
  | _ => none }
def PastComesWrongFalsely : Prop := pastComesRow.holds Tryz.pinned (OpenSpec.ofChange pastComesWrong)

/-- 'foolscaplaw31.PastPlays': WHATEVER THE INPUT: true; the input reads as it did. -/
def pastPlaysSpec : ChangeSpec := { name := "pastPlays", fn := fun _ => fun
  | [d1, d2] => { results := [.lit (.bool true)], args := [d1, d2] }
  | _ => none }
def pastPlaysRow : OpenClaim := { program := "ytjgjjlolhdlofaagreatdoor", sum := "f18e1acbef508910f4928eb9380a9fc636b1d48a697c0ca8c1c5bdd147aa93f2", func := "foolscap/foolscaplaw31.PastPlays", spec := "pastPlays", inPlace := ["slices.overlaps[foolscap/api.Cell]", "slices.overlaps[*foolscap/cells.block]"], unfollowed := true, recurses := true, named := ["unicode/utf8.first", "unicode/utf8.acceptRanges"], plainKeys := false, apart := false, laid := [("unicode/utf8.acceptRanges", laid_unicode_utf8_acceptRanges), ("unicode/utf8.first", laid_unicode_utf8_first)] }
def PastPlaysSaid : Prop := pastPlaysRow.holds Tryz.pinned (OpenSpec.ofChange pastPlaysSpec)

/-- ITS FALSE NEIGHBOUR: 'it returns false'. Refute it at one input. -/
def pastPlaysWrong : ChangeSpec := { name := "pastPlays", fn := fun _ => fun
  | [d1, d2] => { results := [.lit (.bool false)], args := [d1, d2] }
  | _ => none }
def PastPlaysWrongFalsely : Prop := pastPlaysRow.holds Tryz.pinned (OpenSpec.ofChange pastPlaysWrong)

/- THE SECOND FORM. 'bulk': how many values and letters a reading holds, each counted each time it is reached (what is shared counts as often as it is met; a slice's spare places count too). A statement '..UptoSaid' is the law's where the arguments, and the package variables that the reading takes, are together of bulk at most 1048576: NARROWER than '..Said'. Prove '..Said' where nothing that the law and all that it calls make is longer than what came in: it says more and counts as full. Else prove '..UptoSaid'. A law counts once. -/
mutual
def uptoBulk {H : Type} : DataW H → Nat
  | .lit (.string bytes) => bytes.length + 1
  | .lit _ => 1
  | .nil => 1
  | .ptr d => uptoBulk d + 1
  | .slice elems spare => uptoBulkAll elems + uptoBulkAll spare + 1
  | .agg parts => uptoBulkAll parts + 1
  | .iface _ d => uptoBulk d + 1
  | .map entries => uptoBulkEntries entries + 1
  | .held _ => 1
def uptoBulkAll {H : Type} : List (DataW H) → Nat
  | [] => 0
  | d :: r => uptoBulk d + uptoBulkAll r
def uptoBulkEntries {H : Type} : List (Lit × DataW H) → Nat
  | [] => 0
  | x :: r => uptoBulkEntry x + uptoBulkEntries r
def uptoBulkEntry {H : Type} : Lit × DataW H → Nat
  | (.string bytes, d) => bytes.length + uptoBulk d + 1
  | (_, d) => uptoBulk d + 1
 end
def uptoSmall : (H : Type) → List (DataW H) → Bool := fun _ ds => decide (uptoBulkAll ds ≤ 1048576)
def OpenSpec.upto (s : _root_.Go.ChangeSpec) : _root_.Go.OpenSpec := { _root_.Go.OpenSpec.ofChange s with cond := some uptoSmall }

/-- 'foolscaplaw31.PastAt', WHERE WHAT IT READS IS OF BULK AT MOST 1048576: true; the input reads as it did. -/
def pastAtUptoRow : OpenClaim := { program := "ytjgjjlolhdlofaagreatdoor", sum := "f18e1acbef508910f4928eb9380a9fc636b1d48a697c0ca8c1c5bdd147aa93f2", func := "foolscap/foolscaplaw31.PastAt", spec := "pastAt", inPlace := ["slices.overlaps[foolscap/api.Cell]", "slices.overlaps[*foolscap/cells.block]"], unfollowed := true, recurses := true, named := ["unicode/utf8.first", "unicode/utf8.acceptRanges"], plainKeys := false, apart := false, laid := [("unicode/utf8.acceptRanges", laid_unicode_utf8_acceptRanges), ("unicode/utf8.first", laid_unicode_utf8_first)], narrowed := true }
def PastAtUptoSaid : Prop := pastAtUptoRow.holds Tryz.pinned (OpenSpec.upto pastAtSpec)

/-- 'foolscaplaw31.PastSteps', WHERE WHAT IT READS IS OF BULK AT MOST 1048576: true; the input reads as it did. -/
def pastStepsUptoRow : OpenClaim := { program := "ytjgjjlolhdlofaagreatdoor", sum := "f18e1acbef508910f4928eb9380a9fc636b1d48a697c0ca8c1c5bdd147aa93f2", func := "foolscap/foolscaplaw31.PastSteps", spec := "pastSteps", inPlace := ["slices.overlaps[foolscap/api.Cell]", "slices.overlaps[*foolscap/cells.block]"], unfollowed := true, recurses := true, named := ["unicode/utf8.first", "unicode/utf8.acceptRanges"], plainKeys := false, apart := false, laid := [("unicode/utf8.acceptRanges", laid_unicode_utf8_acceptRanges), ("unicode/utf8.first", laid_unicode_utf8_first)], narrowed := true }
def PastStepsUptoSaid : Prop := pastStepsUptoRow.holds Tryz.pinned (OpenSpec.upto pastStepsSpec)

/-- 'foolscaplaw31.PastComes', WHERE WHAT IT READS IS OF BULK AT MOST 1048576: true; the input reads as it did. -/
def pastComesUptoRow : OpenClaim := { program := "ytjgjjlolhdlofaagreatdoor", sum := "f18e1acbef508910f4928eb9380a9fc636b1d48a697c0ca8c1c5bdd147aa93f2", func := "foolscap/foolscaplaw31.PastComes", spec := "pastComes", inPlace := ["slices.overlaps[foolscap/api.Cell]", "slices.overlaps[*foolscap/cells.block]"], unfollowed := true, recurses := true, named := ["unicode/utf8.first", "unicode/utf8.acceptRanges"], plainKeys := false, apart := false, laid := [("unicode/utf8.acceptRanges", laid_unicode_utf8_acceptRanges), ("unicode/utf8.first", laid_unicode_utf8_first)], narrowed := true }
def PastComesUptoSaid : Prop := pastComesUptoRow.holds Tryz.pinned (OpenSpec.upto pastComesSpec)

/-- 'foolscaplaw31.PastPlays', WHERE WHAT IT READS IS OF BULK AT MOST 1048576: true; the input reads as it did. -/
def pastPlaysUptoRow : OpenClaim := { program := "ytjgjjlolhdlofaagreatdoor", sum := "f18e1acbef508910f4928eb9380a9fc636b1d48a697c0ca8c1c5bdd147aa93f2", func := "foolscap/foolscaplaw31.PastPlays", spec := "pastPlays", inPlace := ["slices.overlaps[foolscap/api.Cell]", "slices.overlaps[*foolscap/cells.block]"], unfollowed := true, recurses := true, named := ["unicode/utf8.first", "unicode/utf8.acceptRanges"], plainKeys := false, apart := false, laid := [("unicode/utf8.acceptRanges", laid_unicode_utf8_acceptRanges), ("unicode/utf8.first", laid_unicode_utf8_first)], narrowed := true }
def PastPlaysUptoSaid : Prop := pastPlaysUptoRow.holds Tryz.pinned (OpenSpec.upto pastPlaysSpec)

end Rows
end Go.Proofs.YtjgjjlolhdlofaaGreatDoor
