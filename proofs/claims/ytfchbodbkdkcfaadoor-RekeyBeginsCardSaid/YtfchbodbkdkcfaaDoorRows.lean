/-
  NARROWER THAN 'FOR EVERY INPUT', by the rows' own cells (each row's printed sentence says how): RekeyRooms: laid · LedgerShapes: laid · LedgerTokens: laid · LedgerSegments: laid · RekeyBegins: laid · RekeyNexts: laid.
  DERIVED. THE GIVEN ROWS OF THIS SEAT. 6 by the template 'for every input the law returns true; each argument reads behind the call as it read before'; 0 by the template 'total and deterministic' (their statements: YtfchbodbkdkcfaaDoorTotals.lean).
  GIVEN WITH THE SEED: the statements are not yours to turn. If you find one false, say at which input.
  Laid BY PROGRAM, IN A SANDBOX (cutbox-rows.mjs): the forced cells as the released guide's own fill.sh prints them over the translation 680c1a7cb2d0b3a2… (all of the seat's roots in one cut). By AI agents, Wed Nov 11 2026. No macro, syntax, notation, axiom, sorry.
-/
import Derived.Test.YtfchbodbkdkcfaaDoorChecked
import GoSem.PinnedTables
import GoSem.Claim
import GoSem.ClaimJoined
import GoSem.ClaimMapViews
import Derived.JoinedTies
import Derived.KernelRfl
namespace Go.Proofs.YtfchbodbkdkcfaaDoor
/- THE CELL 'sum', in the pinned program and in every row, IS THE sha256 OF THE DUMP (.gsa) THAT YtfchbodbkdkcfaaDoorProg.lean LOADS. Nothing in Lean hashes anything: it is a label: what it is worth is what the hold of that sum in a sandbox is worth. -/
noncomputable def Tryd.pinned : Pinned := { name := "ytfchbodbkdkcfaadoor", sum := "680c1a7cb2d0b3a2e12cfeacefe214c0e4691ff63fc30a844d2652e90243a8ac", checked := Tryd.checked }
namespace Rows
def none {H : Type} : Left H := { results := [], args := [] }

/- WHAT THE LISTED PACKAGE-LEVEL VARIABLES READ AS WHEN THE CALL BEGINS. Each datum BY PROGRAM (the guide's laid-datum.mjs) off the statement by which the dump's own 'gosem.cut.vars' lays the variable. In a bare row this is a premise. The card (YtfchbodbkdkcfaaDoorCards.lean) ties it to the program's text. -/
def laid_coffer_rekey_units {H : Type} : DataW H := .agg [.lit (.int .i64 512), .lit (.int .i64 1024), .lit (.int .i64 2048), .lit (.int .i64 4096)]
def laid_coffer_ledger_units {H : Type} : DataW H := .agg [.lit (.int .i64 512), .lit (.int .i64 1024), .lit (.int .i64 2048), .lit (.int .i64 4096)]
def laid_unicode_utf8_acceptRanges {H : Type} : DataW H := .agg [.agg [.lit (.int .u8 128), .lit (.int .u8 191)], .agg [.lit (.int .u8 160), .lit (.int .u8 191)], .agg [.lit (.int .u8 128), .lit (.int .u8 159)], .agg [.lit (.int .u8 144), .lit (.int .u8 191)], .agg [.lit (.int .u8 128), .lit (.int .u8 143)], .agg [.lit (.int .u8 0), .lit (.int .u8 0)], .agg [.lit (.int .u8 0), .lit (.int .u8 0)], .agg [.lit (.int .u8 0), .lit (.int .u8 0)], .agg [.lit (.int .u8 0), .lit (.int .u8 0)], .agg [.lit (.int .u8 0), .lit (.int .u8 0)], .agg [.lit (.int .u8 0), .lit (.int .u8 0)], .agg [.lit (.int .u8 0), .lit (.int .u8 0)], .agg [.lit (.int .u8 0), .lit (.int .u8 0)], .agg [.lit (.int .u8 0), .lit (.int .u8 0)], .agg [.lit (.int .u8 0), .lit (.int .u8 0)], .agg [.lit (.int .u8 0), .lit (.int .u8 0)]]
/-- One of Go's own tables, pinned by name: the form's constant. -/
def laid_unicode_utf8_first : DataW Unit := Go.Pinned.utf8First

/-- 'cofferlaw13.RekeyRooms': WHATEVER THE INPUT: true; the input reads as it did. -/
def rekeyRoomsSpec : ChangeSpec := { name := "rekeyRooms", fn := fun _ => fun
  | [d1, d2, d3] => { results := [.lit (.bool true)], args := [d1, d2, d3] }
  | _ => none }
def rekeyRoomsRow : OpenClaim := { program := "ytfchbodbkdkcfaadoor", sum := "680c1a7cb2d0b3a2e12cfeacefe214c0e4691ff63fc30a844d2652e90243a8ac", func := "coffer/cofferlaw13.RekeyRooms", spec := "rekeyRooms", named := ["coffer/rekey.units"], apart := false, laid := [("coffer/rekey.units", laid_coffer_rekey_units)] }
def RekeyRoomsSaid : Prop := rekeyRoomsRow.holds Tryd.pinned (OpenSpec.ofChange rekeyRoomsSpec)

/-- ITS FALSE NEIGHBOUR: 'it returns false'. Refute it at one input. -/
def rekeyRoomsWrong : ChangeSpec := { name := "rekeyRooms", fn := fun _ => fun
  | [d1, d2, d3] => { results := [.lit (.bool false)], args := [d1, d2, d3] }
  | _ => none }
def RekeyRoomsWrongFalsely : Prop := rekeyRoomsRow.holds Tryd.pinned (OpenSpec.ofChange rekeyRoomsWrong)

/-- 'cofferlaw09.LedgerShapes': WHATEVER THE INPUT: true; the input reads as it did. -/
def ledgerShapesSpec : ChangeSpec := { name := "ledgerShapes", fn := fun _ => fun
  | [d1, d2, d3, d4, d5] => { results := [.lit (.bool true)], args := [d1, d2, d3, d4, d5] }
  | _ => none }
def ledgerShapesRow : OpenClaim := { program := "ytfchbodbkdkcfaadoor", sum := "680c1a7cb2d0b3a2e12cfeacefe214c0e4691ff63fc30a844d2652e90243a8ac", func := "coffer/cofferlaw09.LedgerShapes", spec := "ledgerShapes", named := ["coffer/ledger.units"], apart := false, laid := [("coffer/ledger.units", laid_coffer_ledger_units)] }
def LedgerShapesSaid : Prop := ledgerShapesRow.holds Tryd.pinned (OpenSpec.ofChange ledgerShapesSpec)

/-- ITS FALSE NEIGHBOUR: 'it returns false'. Refute it at one input. -/
def ledgerShapesWrong : ChangeSpec := { name := "ledgerShapes", fn := fun _ => fun
  | [d1, d2, d3, d4, d5] => { results := [.lit (.bool false)], args := [d1, d2, d3, d4, d5] }
  | _ => none }
def LedgerShapesWrongFalsely : Prop := ledgerShapesRow.holds Tryd.pinned (OpenSpec.ofChange ledgerShapesWrong)

/-- 'cofferlaw09.LedgerTokens': WHATEVER THE INPUT: true; the input reads as it did. -/
def ledgerTokensSpec : ChangeSpec := { name := "ledgerTokens", fn := fun _ => fun
  | [d] => { results := [.lit (.bool true)], args := [d] }
  | _ => none }
def ledgerTokensRow : OpenClaim := { program := "ytfchbodbkdkcfaadoor", sum := "680c1a7cb2d0b3a2e12cfeacefe214c0e4691ff63fc30a844d2652e90243a8ac", func := "coffer/cofferlaw09.LedgerTokens", spec := "ledgerTokens", unfollowed := true, recurses := true, named := ["unicode/utf8.first", "unicode/utf8.acceptRanges"], apart := false, laid := [("unicode/utf8.acceptRanges", laid_unicode_utf8_acceptRanges), ("unicode/utf8.first", laid_unicode_utf8_first)] }
def LedgerTokensSaid : Prop := ledgerTokensRow.holds Tryd.pinned (OpenSpec.ofChange ledgerTokensSpec)

/-- ITS FALSE NEIGHBOUR: 'it returns false'. Refute it at one input. -/
def ledgerTokensWrong : ChangeSpec := { name := "ledgerTokens", fn := fun _ => fun
  | [d] => { results := [.lit (.bool false)], args := [d] }
  | _ => none }
def LedgerTokensWrongFalsely : Prop := ledgerTokensRow.holds Tryd.pinned (OpenSpec.ofChange ledgerTokensWrong)

/-- 'cofferlaw09.LedgerSegments': WHATEVER THE INPUT: true; the input reads as it did. -/
def ledgerSegmentsSpec : ChangeSpec := { name := "ledgerSegments", fn := fun _ => fun
  | [d] => { results := [.lit (.bool true)], args := [d] }
  | _ => none }
def ledgerSegmentsRow : OpenClaim := { program := "ytfchbodbkdkcfaadoor", sum := "680c1a7cb2d0b3a2e12cfeacefe214c0e4691ff63fc30a844d2652e90243a8ac", func := "coffer/cofferlaw09.LedgerSegments", spec := "ledgerSegments", unfollowed := true, recurses := true, named := ["coffer/ledger.units"], apart := false, laid := [("coffer/ledger.units", laid_coffer_ledger_units)] }
def LedgerSegmentsSaid : Prop := ledgerSegmentsRow.holds Tryd.pinned (OpenSpec.ofChange ledgerSegmentsSpec)

/-- ITS FALSE NEIGHBOUR: 'it returns false'. Refute it at one input. -/
def ledgerSegmentsWrong : ChangeSpec := { name := "ledgerSegments", fn := fun _ => fun
  | [d] => { results := [.lit (.bool false)], args := [d] }
  | _ => none }
def LedgerSegmentsWrongFalsely : Prop := ledgerSegmentsRow.holds Tryd.pinned (OpenSpec.ofChange ledgerSegmentsWrong)

/-- 'cofferlaw13.RekeyBegins': WHATEVER THE INPUT: true; the input reads as it did. -/
def rekeyBeginsSpec : ChangeSpec := { name := "rekeyBegins", fn := fun _ => fun
  | [d] => { results := [.lit (.bool true)], args := [d] }
  | _ => none }
def rekeyBeginsRow : OpenClaim := { program := "ytfchbodbkdkcfaadoor", sum := "680c1a7cb2d0b3a2e12cfeacefe214c0e4691ff63fc30a844d2652e90243a8ac", func := "coffer/cofferlaw13.RekeyBegins", spec := "rekeyBegins", unfollowed := true, recurses := true, named := ["coffer/rekey.units"], apart := false, laid := [("coffer/rekey.units", laid_coffer_rekey_units)] }
def RekeyBeginsSaid : Prop := rekeyBeginsRow.holds Tryd.pinned (OpenSpec.ofChange rekeyBeginsSpec)

/-- ITS FALSE NEIGHBOUR: 'it returns false'. Refute it at one input. -/
def rekeyBeginsWrong : ChangeSpec := { name := "rekeyBegins", fn := fun _ => fun
  | [d] => { results := [.lit (.bool false)], args := [d] }
  | _ => none }
def RekeyBeginsWrongFalsely : Prop := rekeyBeginsRow.holds Tryd.pinned (OpenSpec.ofChange rekeyBeginsWrong)

/-- 'cofferlaw13.RekeyNexts': WHATEVER THE INPUT: true; the input reads as it did. -/
def rekeyNextsSpec : ChangeSpec := { name := "rekeyNexts", fn := fun _ => fun
  | [d] => { results := [.lit (.bool true)], args := [d] }
  | _ => none }
def rekeyNextsRow : OpenClaim := { program := "ytfchbodbkdkcfaadoor", sum := "680c1a7cb2d0b3a2e12cfeacefe214c0e4691ff63fc30a844d2652e90243a8ac", func := "coffer/cofferlaw13.RekeyNexts", spec := "rekeyNexts", unfollowed := true, recurses := true, named := ["coffer/rekey.units"], apart := false, laid := [("coffer/rekey.units", laid_coffer_rekey_units)] }
def RekeyNextsSaid : Prop := rekeyNextsRow.holds Tryd.pinned (OpenSpec.ofChange rekeyNextsSpec)

/-- ITS FALSE NEIGHBOUR: 'it returns false'. Refute it at one input. -/
def rekeyNextsWrong : ChangeSpec := { name := "rekeyNexts", fn := fun _ => fun
  | [d] => { results := [.lit (.bool false)], args := [d] }
  | _ => none }
def RekeyNextsWrongFalsely : Prop := rekeyNextsRow.holds Tryd.pinned (OpenSpec.ofChange rekeyNextsWrong)

/- THE SECOND FORM. 'bulk': how many values and letters a reading holds, each counted each time it is reached (what is shared counts as often as it is met; a slice's spare places count too). A statement '..UptoSaid' is the law's where the arguments, and the package variables that the reading takes, are together of bulk at most 1048576: NARROWER than '..Said'. Prove '..Said' where nothing that the law and all that it calls make is longer than what came in: it says more and counts as full. Else prove '..UptoSaid'. A law counts once. -/
mutual
def uptoBulk {H : Type} : DataW H → Nat
  | .lit (.string bytes) => bytes.length + 1
  | .lit _ => 1
  | .nil => 1
  | .ptr d => uptoBulk d + 1
  | .slice elems spare => uptoBulkAll elems + uptoBulkAll spare + 1
  | .agg parts => uptoBulkAll parts + 1
  | .iface _ d => uptoBulk d + 1
  | .map entries => uptoBulkEntries entries + 1
  | .held _ => 1
def uptoBulkAll {H : Type} : List (DataW H) → Nat
  | [] => 0
  | d :: r => uptoBulk d + uptoBulkAll r
def uptoBulkEntries {H : Type} : List (Lit × DataW H) → Nat
  | [] => 0
  | x :: r => uptoBulkEntry x + uptoBulkEntries r
def uptoBulkEntry {H : Type} : Lit × DataW H → Nat
  | (.string bytes, d) => bytes.length + uptoBulk d + 1
  | (_, d) => uptoBulk d + 1
 end
def uptoSmall : (H : Type) → List (DataW H) → Bool := fun _ ds => decide (uptoBulkAll ds ≤ 1048576)
def OpenSpec.upto (s : _root_.Go.ChangeSpec) : _root_.Go.OpenSpec := { _root_.Go.OpenSpec.ofChange s with cond := some uptoSmall }

/-- 'cofferlaw13.RekeyRooms', WHERE WHAT IT READS IS OF BULK AT MOST 1048576: true; the input reads as it did. -/
def rekeyRoomsUptoRow : OpenClaim := { program := "ytfchbodbkdkcfaadoor", sum := "680c1a7cb2d0b3a2e12cfeacefe214c0e4691ff63fc30a844d2652e90243a8ac", func := "coffer/cofferlaw13.RekeyRooms", spec := "rekeyRooms", named := ["coffer/rekey.units"], apart := false, laid := [("coffer/rekey.units", laid_coffer_rekey_units)], narrowed := true }
def RekeyRoomsUptoSaid : Prop := rekeyRoomsUptoRow.holds Tryd.pinned (OpenSpec.upto rekeyRoomsSpec)

/-- 'cofferlaw09.LedgerShapes', WHERE WHAT IT READS IS OF BULK AT MOST 1048576: true; the input reads as it did. -/
def ledgerShapesUptoRow : OpenClaim := { program := "ytfchbodbkdkcfaadoor", sum := "680c1a7cb2d0b3a2e12cfeacefe214c0e4691ff63fc30a844d2652e90243a8ac", func := "coffer/cofferlaw09.LedgerShapes", spec := "ledgerShapes", named := ["coffer/ledger.units"], apart := false, laid := [("coffer/ledger.units", laid_coffer_ledger_units)], narrowed := true }
def LedgerShapesUptoSaid : Prop := ledgerShapesUptoRow.holds Tryd.pinned (OpenSpec.upto ledgerShapesSpec)

/-- 'cofferlaw09.LedgerTokens', WHERE WHAT IT READS IS OF BULK AT MOST 1048576: true; the input reads as it did. -/
def ledgerTokensUptoRow : OpenClaim := { program := "ytfchbodbkdkcfaadoor", sum := "680c1a7cb2d0b3a2e12cfeacefe214c0e4691ff63fc30a844d2652e90243a8ac", func := "coffer/cofferlaw09.LedgerTokens", spec := "ledgerTokens", unfollowed := true, recurses := true, named := ["unicode/utf8.first", "unicode/utf8.acceptRanges"], apart := false, laid := [("unicode/utf8.acceptRanges", laid_unicode_utf8_acceptRanges), ("unicode/utf8.first", laid_unicode_utf8_first)], narrowed := true }
def LedgerTokensUptoSaid : Prop := ledgerTokensUptoRow.holds Tryd.pinned (OpenSpec.upto ledgerTokensSpec)

/-- 'cofferlaw09.LedgerSegments', WHERE WHAT IT READS IS OF BULK AT MOST 1048576: true; the input reads as it did. -/
def ledgerSegmentsUptoRow : OpenClaim := { program := "ytfchbodbkdkcfaadoor", sum := "680c1a7cb2d0b3a2e12cfeacefe214c0e4691ff63fc30a844d2652e90243a8ac", func := "coffer/cofferlaw09.LedgerSegments", spec := "ledgerSegments", unfollowed := true, recurses := true, named := ["coffer/ledger.units"], apart := false, laid := [("coffer/ledger.units", laid_coffer_ledger_units)], narrowed := true }
def LedgerSegmentsUptoSaid : Prop := ledgerSegmentsUptoRow.holds Tryd.pinned (OpenSpec.upto ledgerSegmentsSpec)

/-- 'cofferlaw13.RekeyBegins', WHERE WHAT IT READS IS OF BULK AT MOST 1048576: true; the input reads as it did. -/
def rekeyBeginsUptoRow : OpenClaim := { program := "ytfchbodbkdkcfaadoor", sum := "680c1a7cb2d0b3a2e12cfeacefe214c0e4691ff63fc30a844d2652e90243a8ac", func := "coffer/cofferlaw13.RekeyBegins", spec := "rekeyBegins", unfollowed := true, recurses := true, named := ["coffer/rekey.units"], apart := false, laid := [("coffer/rekey.units", laid_coffer_rekey_units)], narrowed := true }
def RekeyBeginsUptoSaid : Prop := rekeyBeginsUptoRow.holds Tryd.pinned (OpenSpec.upto rekeyBeginsSpec)

/-- 'cofferlaw13.RekeyNexts', WHERE WHAT IT READS IS OF BULK AT MOST 1048576: true; the input reads as it did. -/
def rekeyNextsUptoRow : OpenClaim := { program := "ytfchbodbkdkcfaadoor", sum := "680c1a7cb2d0b3a2e12cfeacefe214c0e4691ff63fc30a844d2652e90243a8ac", func := "coffer/cofferlaw13.RekeyNexts", spec := "rekeyNexts", unfollowed := true, recurses := true, named := ["coffer/rekey.units"], apart := false, laid := [("coffer/rekey.units", laid_coffer_rekey_units)], narrowed := true }
def RekeyNextsUptoSaid : Prop := rekeyNextsUptoRow.holds Tryd.pinned (OpenSpec.upto rekeyNextsSpec)

end Rows
end Go.Proofs.YtfchbodbkdkcfaaDoor
