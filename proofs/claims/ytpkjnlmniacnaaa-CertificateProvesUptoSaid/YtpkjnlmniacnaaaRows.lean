/-
  No cell of these rows narrows 'for every input' (looked for: loops, veiled, ifaces, maps, wideKeys, modest, calm, conditions, laid).
  DERIVED. THE GIVEN ROWS OF THIS SEAT. 5 by the template 'for every input the law returns true; each argument reads behind the call as it read before'; 0 by the template 'total and deterministic' (their statements: YtpkjnlmniacnaaaTotals.lean).
  GIVEN WITH THE SEED: the statements are not yours to turn. If you find one false, say at which input.
  Laid BY PROGRAM, IN A SANDBOX (cutbox-rows.mjs): the forced cells as the released guide's own fill.sh prints them over the translation 75ebb6ed138ca9c4… (all of the seat's roots in one cut). By AI agents, Wed Nov 11 2026. No macro, syntax, notation, axiom, sorry.
-/
import Derived.Test.YtpkjnlmniacnaaaChecked
import GoSem.Claim
import GoSem.ClaimJoined
import GoSem.ClaimMapViews
import Derived.JoinedTies
import Derived.KernelRfl
namespace Go.Proofs.Ytpkjnlmniacnaaa
/- THE CELL 'sum', in the pinned program and in every row, IS THE sha256 OF THE DUMP (.gsa) THAT YtpkjnlmniacnaaaProg.lean LOADS. Nothing in Lean hashes anything: it is a label: what it is worth is what the hold of that sum in a sandbox is worth. -/
noncomputable def Try.pinned : Pinned := { name := "ytpkjnlmniacnaaa", sum := "75ebb6ed138ca9c41bc04ca91f59cb0d604189077d46ff8907b3c21ace94a6e3", checked := Try.checked }
namespace Rows
def none {H : Type} : Left H := { results := [], args := [] }

/-- 'timeboundlaw30.HeaviestLoop': WHATEVER THE INPUT: true; the input reads as it did. -/
def heaviestLoopSpec : ChangeSpec := { name := "heaviestLoop", fn := fun _ => fun
  | [d1, d2, d3, d4, d5, d6, d7] => { results := [.lit (.bool true)], args := [d1, d2, d3, d4, d5, d6, d7] }
  | _ => none }
def heaviestLoopRow : OpenClaim := { program := "ytpkjnlmniacnaaa", sum := "75ebb6ed138ca9c41bc04ca91f59cb0d604189077d46ff8907b3c21ace94a6e3", func := "timebound/timeboundlaw30.HeaviestLoop", spec := "heaviestLoop", unfollowed := true, recurses := true, apart := false }
def HeaviestLoopSaid : Prop := heaviestLoopRow.holds Try.pinned (OpenSpec.ofChange heaviestLoopSpec)

/-- ITS FALSE NEIGHBOUR: 'it returns false'. Refute it at one input. -/
def heaviestLoopWrong : ChangeSpec := { name := "heaviestLoop", fn := fun _ => fun
  | [d1, d2, d3, d4, d5, d6, d7] => { results := [.lit (.bool false)], args := [d1, d2, d3, d4, d5, d6, d7] }
  | _ => none }
def HeaviestLoopWrongFalsely : Prop := heaviestLoopRow.holds Try.pinned (OpenSpec.ofChange heaviestLoopWrong)

/-- 'timeboundlaw26.PersistLines': WHATEVER THE INPUT: true; the input reads as it did. -/
def persistLinesSpec : ChangeSpec := { name := "persistLines", fn := fun _ => fun
  | [d1, d2, d3, d4] => { results := [.lit (.bool true)], args := [d1, d2, d3, d4] }
  | _ => none }
def persistLinesRow : OpenClaim := { program := "ytpkjnlmniacnaaa", sum := "75ebb6ed138ca9c41bc04ca91f59cb0d604189077d46ff8907b3c21ace94a6e3", func := "timebound/timeboundlaw26.PersistLines", spec := "persistLines", unfollowed := true, recurses := true, apart := false }
def PersistLinesSaid : Prop := persistLinesRow.holds Try.pinned (OpenSpec.ofChange persistLinesSpec)

/-- ITS FALSE NEIGHBOUR: 'it returns false'. Refute it at one input. -/
def persistLinesWrong : ChangeSpec := { name := "persistLines", fn := fun _ => fun
  | [d1, d2, d3, d4] => { results := [.lit (.bool false)], args := [d1, d2, d3, d4] }
  | _ => none }
def PersistLinesWrongFalsely : Prop := persistLinesRow.holds Try.pinned (OpenSpec.ofChange persistLinesWrong)

/-- 'timeboundlaw26.PersistStays': WHATEVER THE INPUT: true; the input reads as it did. -/
def persistStaysSpec : ChangeSpec := { name := "persistStays", fn := fun _ => fun
  | [d] => { results := [.lit (.bool true)], args := [d] }
  | _ => none }
def persistStaysRow : OpenClaim := { program := "ytpkjnlmniacnaaa", sum := "75ebb6ed138ca9c41bc04ca91f59cb0d604189077d46ff8907b3c21ace94a6e3", func := "timebound/timeboundlaw26.PersistStays", spec := "persistStays", unfollowed := true, recurses := true, apart := false }
def PersistStaysSaid : Prop := persistStaysRow.holds Try.pinned (OpenSpec.ofChange persistStaysSpec)

/-- ITS FALSE NEIGHBOUR: 'it returns false'. Refute it at one input. -/
def persistStaysWrong : ChangeSpec := { name := "persistStays", fn := fun _ => fun
  | [d] => { results := [.lit (.bool false)], args := [d] }
  | _ => none }
def PersistStaysWrongFalsely : Prop := persistStaysRow.holds Try.pinned (OpenSpec.ofChange persistStaysWrong)

/-- 'timeboundlaw36.ScratchPlaces': WHATEVER THE INPUT: true; the input reads as it did. -/
def scratchPlacesSpec : ChangeSpec := { name := "scratchPlaces", fn := fun _ => fun
  | [d1, d2, d3] => { results := [.lit (.bool true)], args := [d1, d2, d3] }
  | _ => none }
def scratchPlacesRow : OpenClaim := { program := "ytpkjnlmniacnaaa", sum := "75ebb6ed138ca9c41bc04ca91f59cb0d604189077d46ff8907b3c21ace94a6e3", func := "timebound/timeboundlaw36.ScratchPlaces", spec := "scratchPlaces", unfollowed := true, recurses := true, apart := false }
def ScratchPlacesSaid : Prop := scratchPlacesRow.holds Try.pinned (OpenSpec.ofChange scratchPlacesSpec)

/-- ITS FALSE NEIGHBOUR: 'it returns false'. Refute it at one input. -/
def scratchPlacesWrong : ChangeSpec := { name := "scratchPlaces", fn := fun _ => fun
  | [d1, d2, d3] => { results := [.lit (.bool false)], args := [d1, d2, d3] }
  | _ => none }
def ScratchPlacesWrongFalsely : Prop := scratchPlacesRow.holds Try.pinned (OpenSpec.ofChange scratchPlacesWrong)

/-- 'timeboundlaw34.CertificateProves': WHATEVER THE INPUT: true; the input reads as it did. -/
def certificateProvesSpec : ChangeSpec := { name := "certificateProves", fn := fun _ => fun
  | [d1, d2] => { results := [.lit (.bool true)], args := [d1, d2] }
  | _ => none }
def certificateProvesRow : OpenClaim := { program := "ytpkjnlmniacnaaa", sum := "75ebb6ed138ca9c41bc04ca91f59cb0d604189077d46ff8907b3c21ace94a6e3", func := "timebound/timeboundlaw34.CertificateProves", spec := "certificateProves", unfollowed := true, recurses := true, apart := false }
def CertificateProvesSaid : Prop := certificateProvesRow.holds Try.pinned (OpenSpec.ofChange certificateProvesSpec)

/-- ITS FALSE NEIGHBOUR: 'it returns false'. Refute it at one input. -/
def certificateProvesWrong : ChangeSpec := { name := "certificateProves", fn := fun _ => fun
  | [d1, d2] => { results := [.lit (.bool false)], args := [d1, d2] }
  | _ => none }
def CertificateProvesWrongFalsely : Prop := certificateProvesRow.holds Try.pinned (OpenSpec.ofChange certificateProvesWrong)

/- THE SECOND FORM. 'bulk': how many values and letters a reading holds, each counted each time it is reached (what is shared counts as often as it is met; a slice's spare places count too). A statement '..UptoSaid' is the law's where the arguments, and the package variables that the reading takes, are together of bulk at most 1048576: NARROWER than '..Said'. Prove '..Said' where nothing that the law and all that it calls make is longer than what came in: it says more and counts as full. Else prove '..UptoSaid'. A law counts once. -/
mutual
def uptoBulk {H : Type} : DataW H → Nat
  | .lit (.string bytes) => bytes.length + 1
  | .lit _ => 1
  | .nil => 1
  | .ptr d => uptoBulk d + 1
  | .slice elems spare => uptoBulkAll elems + uptoBulkAll spare + 1
  | .agg parts => uptoBulkAll parts + 1
  | .iface _ d => uptoBulk d + 1
  | .map entries => uptoBulkEntries entries + 1
  | .held _ => 1
def uptoBulkAll {H : Type} : List (DataW H) → Nat
  | [] => 0
  | d :: r => uptoBulk d + uptoBulkAll r
def uptoBulkEntries {H : Type} : List (Lit × DataW H) → Nat
  | [] => 0
  | x :: r => uptoBulkEntry x + uptoBulkEntries r
def uptoBulkEntry {H : Type} : Lit × DataW H → Nat
  | (.string bytes, d) => bytes.length + uptoBulk d + 1
  | (_, d) => uptoBulk d + 1
 end
def uptoSmall : (H : Type) → List (DataW H) → Bool := fun _ ds => decide (uptoBulkAll ds ≤ 1048576)
def OpenSpec.upto (s : _root_.Go.ChangeSpec) : _root_.Go.OpenSpec := { _root_.Go.OpenSpec.ofChange s with cond := some uptoSmall }

/-- 'timeboundlaw30.HeaviestLoop', WHERE WHAT IT READS IS OF BULK AT MOST 1048576: true; the input reads as it did. -/
def heaviestLoopUptoRow : OpenClaim := { program := "ytpkjnlmniacnaaa", sum := "75ebb6ed138ca9c41bc04ca91f59cb0d604189077d46ff8907b3c21ace94a6e3", func := "timebound/timeboundlaw30.HeaviestLoop", spec := "heaviestLoop", unfollowed := true, recurses := true, apart := false, narrowed := true }
def HeaviestLoopUptoSaid : Prop := heaviestLoopUptoRow.holds Try.pinned (OpenSpec.upto heaviestLoopSpec)

/-- 'timeboundlaw26.PersistLines', WHERE WHAT IT READS IS OF BULK AT MOST 1048576: true; the input reads as it did. -/
def persistLinesUptoRow : OpenClaim := { program := "ytpkjnlmniacnaaa", sum := "75ebb6ed138ca9c41bc04ca91f59cb0d604189077d46ff8907b3c21ace94a6e3", func := "timebound/timeboundlaw26.PersistLines", spec := "persistLines", unfollowed := true, recurses := true, apart := false, narrowed := true }
def PersistLinesUptoSaid : Prop := persistLinesUptoRow.holds Try.pinned (OpenSpec.upto persistLinesSpec)

/-- 'timeboundlaw26.PersistStays', WHERE WHAT IT READS IS OF BULK AT MOST 1048576: true; the input reads as it did. -/
def persistStaysUptoRow : OpenClaim := { program := "ytpkjnlmniacnaaa", sum := "75ebb6ed138ca9c41bc04ca91f59cb0d604189077d46ff8907b3c21ace94a6e3", func := "timebound/timeboundlaw26.PersistStays", spec := "persistStays", unfollowed := true, recurses := true, apart := false, narrowed := true }
def PersistStaysUptoSaid : Prop := persistStaysUptoRow.holds Try.pinned (OpenSpec.upto persistStaysSpec)

/-- 'timeboundlaw36.ScratchPlaces', WHERE WHAT IT READS IS OF BULK AT MOST 1048576: true; the input reads as it did. -/
def scratchPlacesUptoRow : OpenClaim := { program := "ytpkjnlmniacnaaa", sum := "75ebb6ed138ca9c41bc04ca91f59cb0d604189077d46ff8907b3c21ace94a6e3", func := "timebound/timeboundlaw36.ScratchPlaces", spec := "scratchPlaces", unfollowed := true, recurses := true, apart := false, narrowed := true }
def ScratchPlacesUptoSaid : Prop := scratchPlacesUptoRow.holds Try.pinned (OpenSpec.upto scratchPlacesSpec)

/-- 'timeboundlaw34.CertificateProves', WHERE WHAT IT READS IS OF BULK AT MOST 1048576: true; the input reads as it did. -/
def certificateProvesUptoRow : OpenClaim := { program := "ytpkjnlmniacnaaa", sum := "75ebb6ed138ca9c41bc04ca91f59cb0d604189077d46ff8907b3c21ace94a6e3", func := "timebound/timeboundlaw34.CertificateProves", spec := "certificateProves", unfollowed := true, recurses := true, apart := false, narrowed := true }
def CertificateProvesUptoSaid : Prop := certificateProvesUptoRow.holds Try.pinned (OpenSpec.upto certificateProvesSpec)

end Rows
end Go.Proofs.Ytpkjnlmniacnaaa
