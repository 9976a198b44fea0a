/-
  No cell of these rows narrows 'for every input' (looked for: loops, veiled, ifaces, maps, wideKeys, modest, calm, conditions, laid).
  DERIVED. THE GIVEN ROWS OF THIS SEAT. 8 by the template 'for every input the law returns true; each argument reads behind the call as it read before'; 0 by the template 'total and deterministic' (their statements: YtfchbodbkdkcfaaTotals.lean).
  GIVEN WITH THE SEED: the statements are not yours to turn. If you find one false, say at which input.
  Laid BY PROGRAM, IN A SANDBOX (cutbox-rows.mjs): the forced cells as the released guide's own fill.sh prints them over the translation e296e675504f5edd… (all of the seat's roots in one cut). By AI agents, Wed Nov 11 2026. No macro, syntax, notation, axiom, sorry.
-/
import Derived.Test.YtfchbodbkdkcfaaChecked
import GoSem.Claim
import GoSem.ClaimJoined
import GoSem.ClaimMapViews
import Derived.JoinedTies
import Derived.KernelRfl
namespace Go.Proofs.Ytfchbodbkdkcfaa
/- THE CELL 'sum', in the pinned program and in every row, IS THE sha256 OF THE DUMP (.gsa) THAT YtfchbodbkdkcfaaProg.lean LOADS. Nothing in Lean hashes anything: it is a label: what it is worth is what the hold of that sum in a sandbox is worth. -/
noncomputable def Try.pinned : Pinned := { name := "ytfchbodbkdkcfaa", sum := "e296e675504f5edd3540545dffcb8ed0679358dc89ea7e068dd943309fa3f054", checked := Try.checked }
namespace Rows
def none {H : Type} : Left H := { results := [], args := [] }

/-- 'cofferlaw12.ConvoyNames': WHATEVER THE INPUT: true; the input reads as it did. -/
def convoyNamesSpec : ChangeSpec := { name := "convoyNames", fn := fun _ => fun
  | [] => { results := [.lit (.bool true)], args := [] }
  | _ => none }
def convoyNamesRow : OpenClaim := { program := "ytfchbodbkdkcfaa", sum := "e296e675504f5edd3540545dffcb8ed0679358dc89ea7e068dd943309fa3f054", func := "coffer/cofferlaw12.ConvoyNames", spec := "convoyNames", apart := false }
def ConvoyNamesSaid : Prop := convoyNamesRow.holds Try.pinned (OpenSpec.ofChange convoyNamesSpec)

/-- ITS FALSE NEIGHBOUR: 'it returns false'. Refute it at one input. -/
def convoyNamesWrong : ChangeSpec := { name := "convoyNames", fn := fun _ => fun
  | [] => { results := [.lit (.bool false)], args := [] }
  | _ => none }
def ConvoyNamesWrongFalsely : Prop := convoyNamesRow.holds Try.pinned (OpenSpec.ofChange convoyNamesWrong)

/-- 'cofferlaw13.RekeyNames': WHATEVER THE INPUT: true; the input reads as it did. -/
def rekeyNamesSpec : ChangeSpec := { name := "rekeyNames", fn := fun _ => fun
  | [] => { results := [.lit (.bool true)], args := [] }
  | _ => none }
def rekeyNamesRow : OpenClaim := { program := "ytfchbodbkdkcfaa", sum := "e296e675504f5edd3540545dffcb8ed0679358dc89ea7e068dd943309fa3f054", func := "coffer/cofferlaw13.RekeyNames", spec := "rekeyNames", apart := false }
def RekeyNamesSaid : Prop := rekeyNamesRow.holds Try.pinned (OpenSpec.ofChange rekeyNamesSpec)

/-- ITS FALSE NEIGHBOUR: 'it returns false'. Refute it at one input. -/
def rekeyNamesWrong : ChangeSpec := { name := "rekeyNames", fn := fun _ => fun
  | [] => { results := [.lit (.bool false)], args := [] }
  | _ => none }
def RekeyNamesWrongFalsely : Prop := rekeyNamesRow.holds Try.pinned (OpenSpec.ofChange rekeyNamesWrong)

/-- 'cofferlaw07.ScrollNames': WHATEVER THE INPUT: true; the input reads as it did. -/
def scrollNamesSpec : ChangeSpec := { name := "scrollNames", fn := fun _ => fun
  | [] => { results := [.lit (.bool true)], args := [] }
  | _ => none }
def scrollNamesRow : OpenClaim := { program := "ytfchbodbkdkcfaa", sum := "e296e675504f5edd3540545dffcb8ed0679358dc89ea7e068dd943309fa3f054", func := "coffer/cofferlaw07.ScrollNames", spec := "scrollNames", apart := false }
def ScrollNamesSaid : Prop := scrollNamesRow.holds Try.pinned (OpenSpec.ofChange scrollNamesSpec)

/-- ITS FALSE NEIGHBOUR: 'it returns false'. Refute it at one input. -/
def scrollNamesWrong : ChangeSpec := { name := "scrollNames", fn := fun _ => fun
  | [] => { results := [.lit (.bool false)], args := [] }
  | _ => none }
def ScrollNamesWrongFalsely : Prop := scrollNamesRow.holds Try.pinned (OpenSpec.ofChange scrollNamesWrong)

/-- 'cofferlaw09.LedgerNames': WHATEVER THE INPUT: true; the input reads as it did. -/
def ledgerNamesSpec : ChangeSpec := { name := "ledgerNames", fn := fun _ => fun
  | [] => { results := [.lit (.bool true)], args := [] }
  | _ => none }
def ledgerNamesRow : OpenClaim := { program := "ytfchbodbkdkcfaa", sum := "e296e675504f5edd3540545dffcb8ed0679358dc89ea7e068dd943309fa3f054", func := "coffer/cofferlaw09.LedgerNames", spec := "ledgerNames", apart := false }
def LedgerNamesSaid : Prop := ledgerNamesRow.holds Try.pinned (OpenSpec.ofChange ledgerNamesSpec)

/-- ITS FALSE NEIGHBOUR: 'it returns false'. Refute it at one input. -/
def ledgerNamesWrong : ChangeSpec := { name := "ledgerNames", fn := fun _ => fun
  | [] => { results := [.lit (.bool false)], args := [] }
  | _ => none }
def LedgerNamesWrongFalsely : Prop := ledgerNamesRow.holds Try.pinned (OpenSpec.ofChange ledgerNamesWrong)

/-- 'cofferlaw13.RekeySegments': WHATEVER THE INPUT: true; the input reads as it did. -/
def rekeySegmentsSpec : ChangeSpec := { name := "rekeySegments", fn := fun _ => fun
  | [d1, d2] => { results := [.lit (.bool true)], args := [d1, d2] }
  | _ => none }
def rekeySegmentsRow : OpenClaim := { program := "ytfchbodbkdkcfaa", sum := "e296e675504f5edd3540545dffcb8ed0679358dc89ea7e068dd943309fa3f054", func := "coffer/cofferlaw13.RekeySegments", spec := "rekeySegments", unfollowed := true, recurses := true, apart := false }
def RekeySegmentsSaid : Prop := rekeySegmentsRow.holds Try.pinned (OpenSpec.ofChange rekeySegmentsSpec)

/-- ITS FALSE NEIGHBOUR: 'it returns false'. Refute it at one input. -/
def rekeySegmentsWrong : ChangeSpec := { name := "rekeySegments", fn := fun _ => fun
  | [d1, d2] => { results := [.lit (.bool false)], args := [d1, d2] }
  | _ => none }
def RekeySegmentsWrongFalsely : Prop := rekeySegmentsRow.holds Try.pinned (OpenSpec.ofChange rekeySegmentsWrong)

/-- 'cofferlaw03.TweakHashes': WHATEVER THE INPUT: true; the input reads as it did. -/
def tweakHashesSpec : ChangeSpec := { name := "tweakHashes", fn := fun _ => fun
  | [d1, d2, d3, d4] => { results := [.lit (.bool true)], args := [d1, d2, d3, d4] }
  | _ => none }
def tweakHashesRow : OpenClaim := { program := "ytfchbodbkdkcfaa", sum := "e296e675504f5edd3540545dffcb8ed0679358dc89ea7e068dd943309fa3f054", func := "coffer/cofferlaw03.TweakHashes", spec := "tweakHashes", apart := false }
def TweakHashesSaid : Prop := tweakHashesRow.holds Try.pinned (OpenSpec.ofChange tweakHashesSpec)

/-- ITS FALSE NEIGHBOUR: 'it returns false'. Refute it at one input. -/
def tweakHashesWrong : ChangeSpec := { name := "tweakHashes", fn := fun _ => fun
  | [d1, d2, d3, d4] => { results := [.lit (.bool false)], args := [d1, d2, d3, d4] }
  | _ => none }
def TweakHashesWrongFalsely : Prop := tweakHashesRow.holds Try.pinned (OpenSpec.ofChange tweakHashesWrong)

/-- 'cofferlaw03.TweakField': WHATEVER THE INPUT: true; the input reads as it did. -/
def tweakFieldSpec : ChangeSpec := { name := "tweakField", fn := fun _ => fun
  | [d1, d2, d3] => { results := [.lit (.bool true)], args := [d1, d2, d3] }
  | _ => none }
def tweakFieldRow : OpenClaim := { program := "ytfchbodbkdkcfaa", sum := "e296e675504f5edd3540545dffcb8ed0679358dc89ea7e068dd943309fa3f054", func := "coffer/cofferlaw03.TweakField", spec := "tweakField", apart := false }
def TweakFieldSaid : Prop := tweakFieldRow.holds Try.pinned (OpenSpec.ofChange tweakFieldSpec)

/-- ITS FALSE NEIGHBOUR: 'it returns false'. Refute it at one input. -/
def tweakFieldWrong : ChangeSpec := { name := "tweakField", fn := fun _ => fun
  | [d1, d2, d3] => { results := [.lit (.bool false)], args := [d1, d2, d3] }
  | _ => none }
def TweakFieldWrongFalsely : Prop := tweakFieldRow.holds Try.pinned (OpenSpec.ofChange tweakFieldWrong)

/-- 'cofferlaw03.TweakFields': WHATEVER THE INPUT: true; the input reads as it did. -/
def tweakFieldsSpec : ChangeSpec := { name := "tweakFields", fn := fun _ => fun
  | [d1, d2, d3] => { results := [.lit (.bool true)], args := [d1, d2, d3] }
  | _ => none }
def tweakFieldsRow : OpenClaim := { program := "ytfchbodbkdkcfaa", sum := "e296e675504f5edd3540545dffcb8ed0679358dc89ea7e068dd943309fa3f054", func := "coffer/cofferlaw03.TweakFields", spec := "tweakFields", apart := false }
def TweakFieldsSaid : Prop := tweakFieldsRow.holds Try.pinned (OpenSpec.ofChange tweakFieldsSpec)

/-- ITS FALSE NEIGHBOUR: 'it returns false'. Refute it at one input. -/
def tweakFieldsWrong : ChangeSpec := { name := "tweakFields", fn := fun _ => fun
  | [d1, d2, d3] => { results := [.lit (.bool false)], args := [d1, d2, d3] }
  | _ => none }
def TweakFieldsWrongFalsely : Prop := tweakFieldsRow.holds Try.pinned (OpenSpec.ofChange tweakFieldsWrong)

/- THE SECOND FORM. 'bulk': how many values and letters a reading holds, each counted each time it is reached (what is shared counts as often as it is met; a slice's spare places count too). A statement '..UptoSaid' is the law's where the arguments, and the package variables that the reading takes, are together of bulk at most 1048576: NARROWER than '..Said'. Prove '..Said' where nothing that the law and all that it calls make is longer than what came in: it says more and counts as full. Else prove '..UptoSaid'. A law counts once. -/
mutual
def uptoBulk {H : Type} : DataW H → Nat
  | .lit (.string bytes) => bytes.length + 1
  | .lit _ => 1
  | .nil => 1
  | .ptr d => uptoBulk d + 1
  | .slice elems spare => uptoBulkAll elems + uptoBulkAll spare + 1
  | .agg parts => uptoBulkAll parts + 1
  | .iface _ d => uptoBulk d + 1
  | .map entries => uptoBulkEntries entries + 1
  | .held _ => 1
def uptoBulkAll {H : Type} : List (DataW H) → Nat
  | [] => 0
  | d :: r => uptoBulk d + uptoBulkAll r
def uptoBulkEntries {H : Type} : List (Lit × DataW H) → Nat
  | [] => 0
  | x :: r => uptoBulkEntry x + uptoBulkEntries r
def uptoBulkEntry {H : Type} : Lit × DataW H → Nat
  | (.string bytes, d) => bytes.length + uptoBulk d + 1
  | (_, d) => uptoBulk d + 1
 end
def uptoSmall : (H : Type) → List (DataW H) → Bool := fun _ ds => decide (uptoBulkAll ds ≤ 1048576)
def OpenSpec.upto (s : _root_.Go.ChangeSpec) : _root_.Go.OpenSpec := { _root_.Go.OpenSpec.ofChange s with cond := some uptoSmall }

/-- 'cofferlaw12.ConvoyNames', WHERE WHAT IT READS IS OF BULK AT MOST 1048576: true; the input reads as it did. -/
def convoyNamesUptoRow : OpenClaim := { program := "ytfchbodbkdkcfaa", sum := "e296e675504f5edd3540545dffcb8ed0679358dc89ea7e068dd943309fa3f054", func := "coffer/cofferlaw12.ConvoyNames", spec := "convoyNames", apart := false, narrowed := true }
def ConvoyNamesUptoSaid : Prop := convoyNamesUptoRow.holds Try.pinned (OpenSpec.upto convoyNamesSpec)

/-- 'cofferlaw13.RekeyNames', WHERE WHAT IT READS IS OF BULK AT MOST 1048576: true; the input reads as it did. -/
def rekeyNamesUptoRow : OpenClaim := { program := "ytfchbodbkdkcfaa", sum := "e296e675504f5edd3540545dffcb8ed0679358dc89ea7e068dd943309fa3f054", func := "coffer/cofferlaw13.RekeyNames", spec := "rekeyNames", apart := false, narrowed := true }
def RekeyNamesUptoSaid : Prop := rekeyNamesUptoRow.holds Try.pinned (OpenSpec.upto rekeyNamesSpec)

/-- 'cofferlaw07.ScrollNames', WHERE WHAT IT READS IS OF BULK AT MOST 1048576: true; the input reads as it did. -/
def scrollNamesUptoRow : OpenClaim := { program := "ytfchbodbkdkcfaa", sum := "e296e675504f5edd3540545dffcb8ed0679358dc89ea7e068dd943309fa3f054", func := "coffer/cofferlaw07.ScrollNames", spec := "scrollNames", apart := false, narrowed := true }
def ScrollNamesUptoSaid : Prop := scrollNamesUptoRow.holds Try.pinned (OpenSpec.upto scrollNamesSpec)

/-- 'cofferlaw09.LedgerNames', WHERE WHAT IT READS IS OF BULK AT MOST 1048576: true; the input reads as it did. -/
def ledgerNamesUptoRow : OpenClaim := { program := "ytfchbodbkdkcfaa", sum := "e296e675504f5edd3540545dffcb8ed0679358dc89ea7e068dd943309fa3f054", func := "coffer/cofferlaw09.LedgerNames", spec := "ledgerNames", apart := false, narrowed := true }
def LedgerNamesUptoSaid : Prop := ledgerNamesUptoRow.holds Try.pinned (OpenSpec.upto ledgerNamesSpec)

/-- 'cofferlaw13.RekeySegments', WHERE WHAT IT READS IS OF BULK AT MOST 1048576: true; the input reads as it did. -/
def rekeySegmentsUptoRow : OpenClaim := { program := "ytfchbodbkdkcfaa", sum := "e296e675504f5edd3540545dffcb8ed0679358dc89ea7e068dd943309fa3f054", func := "coffer/cofferlaw13.RekeySegments", spec := "rekeySegments", unfollowed := true, recurses := true, apart := false, narrowed := true }
def RekeySegmentsUptoSaid : Prop := rekeySegmentsUptoRow.holds Try.pinned (OpenSpec.upto rekeySegmentsSpec)

/-- 'cofferlaw03.TweakHashes', WHERE WHAT IT READS IS OF BULK AT MOST 1048576: true; the input reads as it did. -/
def tweakHashesUptoRow : OpenClaim := { program := "ytfchbodbkdkcfaa", sum := "e296e675504f5edd3540545dffcb8ed0679358dc89ea7e068dd943309fa3f054", func := "coffer/cofferlaw03.TweakHashes", spec := "tweakHashes", apart := false, narrowed := true }
def TweakHashesUptoSaid : Prop := tweakHashesUptoRow.holds Try.pinned (OpenSpec.upto tweakHashesSpec)

/-- 'cofferlaw03.TweakField', WHERE WHAT IT READS IS OF BULK AT MOST 1048576: true; the input reads as it did. -/
def tweakFieldUptoRow : OpenClaim := { program := "ytfchbodbkdkcfaa", sum := "e296e675504f5edd3540545dffcb8ed0679358dc89ea7e068dd943309fa3f054", func := "coffer/cofferlaw03.TweakField", spec := "tweakField", apart := false, narrowed := true }
def TweakFieldUptoSaid : Prop := tweakFieldUptoRow.holds Try.pinned (OpenSpec.upto tweakFieldSpec)

/-- 'cofferlaw03.TweakFields', WHERE WHAT IT READS IS OF BULK AT MOST 1048576: true; the input reads as it did. -/
def tweakFieldsUptoRow : OpenClaim := { program := "ytfchbodbkdkcfaa", sum := "e296e675504f5edd3540545dffcb8ed0679358dc89ea7e068dd943309fa3f054", func := "coffer/cofferlaw03.TweakFields", spec := "tweakFields", apart := false, narrowed := true }
def TweakFieldsUptoSaid : Prop := tweakFieldsUptoRow.holds Try.pinned (OpenSpec.upto tweakFieldsSpec)

end Rows
end Go.Proofs.Ytfchbodbkdkcfaa
