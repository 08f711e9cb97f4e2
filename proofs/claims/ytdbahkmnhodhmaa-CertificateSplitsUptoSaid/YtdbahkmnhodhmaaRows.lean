/-
  No cell of these rows narrows 'for every input' (looked for: loops, veiled, ifaces, maps, wideKeys, modest, calm, conditions, laid).
  DERIVED. THE GIVEN ROWS OF THIS SEAT. 12 by the template 'for every input the law returns true; each argument reads behind the call as it read before'; 0 by the template 'total and deterministic' (their statements: YtdbahkmnhodhmaaTotals.lean).
  GIVEN WITH THE SEED: the statements are not yours to turn. If you find one false, say at which input.
  Laid BY PROGRAM, IN A SANDBOX (cutbox-rows.mjs): the forced cells as the released guide's own fill.sh prints them over the translation 6a2c708783013e5f… (all of the seat's roots in one cut). By AI agents, Wed Nov 11 2026. No macro, syntax, notation, axiom, sorry.
-/
import Derived.Test.YtdbahkmnhodhmaaChecked
import GoSem.Claim
import GoSem.ClaimJoined
import GoSem.ClaimMapViews
import Derived.JoinedTies
import Derived.KernelRfl
namespace Go.Proofs.Ytdbahkmnhodhmaa
/- THE CELL 'sum', in the pinned program and in every row, IS THE sha256 OF THE DUMP (.gsa) THAT YtdbahkmnhodhmaaProg.lean LOADS. Nothing in Lean hashes anything: it is a label: what it is worth is what the hold of that sum in a sandbox is worth. -/
noncomputable def Try.pinned : Pinned := { name := "ytdbahkmnhodhmaa", sum := "6a2c708783013e5fd7d5d3c17380113461cbffb1cfd309f7cb0bcdf1297df454", checked := Try.checked }
namespace Rows
def none {H : Type} : Left H := { results := [], args := [] }

/-- 'timeboundlaw38.EvictCommon': WHATEVER THE INPUT: true; the input reads as it did. -/
def evictCommonSpec : ChangeSpec := { name := "evictCommon", fn := fun _ => fun
  | [d] => { results := [.lit (.bool true)], args := [d] }
  | _ => none }
def evictCommonRow : OpenClaim := { program := "ytdbahkmnhodhmaa", sum := "6a2c708783013e5fd7d5d3c17380113461cbffb1cfd309f7cb0bcdf1297df454", func := "timebound/timeboundlaw38.EvictCommon", spec := "evictCommon", unfollowed := true, recurses := true, apart := false }
def EvictCommonSaid : Prop := evictCommonRow.holds Try.pinned (OpenSpec.ofChange evictCommonSpec)

/-- ITS FALSE NEIGHBOUR: 'it returns false'. Refute it at one input. -/
def evictCommonWrong : ChangeSpec := { name := "evictCommon", fn := fun _ => fun
  | [d] => { results := [.lit (.bool false)], args := [d] }
  | _ => none }
def EvictCommonWrongFalsely : Prop := evictCommonRow.holds Try.pinned (OpenSpec.ofChange evictCommonWrong)

/-- 'timeboundlaw38.EvictApart': WHATEVER THE INPUT: true; the input reads as it did. -/
def evictApartSpec : ChangeSpec := { name := "evictApart", fn := fun _ => fun
  | [d] => { results := [.lit (.bool true)], args := [d] }
  | _ => none }
def evictApartRow : OpenClaim := { program := "ytdbahkmnhodhmaa", sum := "6a2c708783013e5fd7d5d3c17380113461cbffb1cfd309f7cb0bcdf1297df454", func := "timebound/timeboundlaw38.EvictApart", spec := "evictApart", unfollowed := true, recurses := true, apart := false }
def EvictApartSaid : Prop := evictApartRow.holds Try.pinned (OpenSpec.ofChange evictApartSpec)

/-- ITS FALSE NEIGHBOUR: 'it returns false'. Refute it at one input. -/
def evictApartWrong : ChangeSpec := { name := "evictApart", fn := fun _ => fun
  | [d] => { results := [.lit (.bool false)], args := [d] }
  | _ => none }
def EvictApartWrongFalsely : Prop := evictApartRow.holds Try.pinned (OpenSpec.ofChange evictApartWrong)

/-- 'timeboundlaw40.BlockingTimes': WHATEVER THE INPUT: true; the input reads as it did. -/
def blockingTimesSpec : ChangeSpec := { name := "blockingTimes", fn := fun _ => fun
  | [d1, d2, d3, d4, d5] => { results := [.lit (.bool true)], args := [d1, d2, d3, d4, d5] }
  | _ => none }
def blockingTimesRow : OpenClaim := { program := "ytdbahkmnhodhmaa", sum := "6a2c708783013e5fd7d5d3c17380113461cbffb1cfd309f7cb0bcdf1297df454", func := "timebound/timeboundlaw40.BlockingTimes", spec := "blockingTimes", unfollowed := true, recurses := true, apart := false }
def BlockingTimesSaid : Prop := blockingTimesRow.holds Try.pinned (OpenSpec.ofChange blockingTimesSpec)

/-- ITS FALSE NEIGHBOUR: 'it returns false'. Refute it at one input. -/
def blockingTimesWrong : ChangeSpec := { name := "blockingTimes", fn := fun _ => fun
  | [d1, d2, d3, d4, d5] => { results := [.lit (.bool false)], args := [d1, d2, d3, d4, d5] }
  | _ => none }
def BlockingTimesWrongFalsely : Prop := blockingTimesRow.holds Try.pinned (OpenSpec.ofChange blockingTimesWrong)

/-- 'timeboundlaw40.BlockingGrows': WHATEVER THE INPUT: true; the input reads as it did. -/
def blockingGrowsSpec : ChangeSpec := { name := "blockingGrows", fn := fun _ => fun
  | [d] => { results := [.lit (.bool true)], args := [d] }
  | _ => none }
def blockingGrowsRow : OpenClaim := { program := "ytdbahkmnhodhmaa", sum := "6a2c708783013e5fd7d5d3c17380113461cbffb1cfd309f7cb0bcdf1297df454", func := "timebound/timeboundlaw40.BlockingGrows", spec := "blockingGrows", unfollowed := true, recurses := true, apart := false }
def BlockingGrowsSaid : Prop := blockingGrowsRow.holds Try.pinned (OpenSpec.ofChange blockingGrowsSpec)

/-- ITS FALSE NEIGHBOUR: 'it returns false'. Refute it at one input. -/
def blockingGrowsWrong : ChangeSpec := { name := "blockingGrows", fn := fun _ => fun
  | [d] => { results := [.lit (.bool false)], args := [d] }
  | _ => none }
def BlockingGrowsWrongFalsely : Prop := blockingGrowsRow.holds Try.pinned (OpenSpec.ofChange blockingGrowsWrong)

/-- 'timeboundlaw36.ScratchBest': WHATEVER THE INPUT: true; the input reads as it did. -/
def scratchBestSpec : ChangeSpec := { name := "scratchBest", fn := fun _ => fun
  | [d1, d2, d3, d4, d5, d6] => { results := [.lit (.bool true)], args := [d1, d2, d3, d4, d5, d6] }
  | _ => none }
def scratchBestRow : OpenClaim := { program := "ytdbahkmnhodhmaa", sum := "6a2c708783013e5fd7d5d3c17380113461cbffb1cfd309f7cb0bcdf1297df454", func := "timebound/timeboundlaw36.ScratchBest", spec := "scratchBest", unfollowed := true, recurses := true, apart := false }
def ScratchBestSaid : Prop := scratchBestRow.holds Try.pinned (OpenSpec.ofChange scratchBestSpec)

/-- ITS FALSE NEIGHBOUR: 'it returns false'. Refute it at one input. -/
def scratchBestWrong : ChangeSpec := { name := "scratchBest", fn := fun _ => fun
  | [d1, d2, d3, d4, d5, d6] => { results := [.lit (.bool false)], args := [d1, d2, d3, d4, d5, d6] }
  | _ => none }
def ScratchBestWrongFalsely : Prop := scratchBestRow.holds Try.pinned (OpenSpec.ofChange scratchBestWrong)

/-- 'timeboundlaw36.ScratchMore': WHATEVER THE INPUT: true; the input reads as it did. -/
def scratchMoreSpec : ChangeSpec := { name := "scratchMore", fn := fun _ => fun
  | [d1, d2, d3, d4] => { results := [.lit (.bool true)], args := [d1, d2, d3, d4] }
  | _ => none }
def scratchMoreRow : OpenClaim := { program := "ytdbahkmnhodhmaa", sum := "6a2c708783013e5fd7d5d3c17380113461cbffb1cfd309f7cb0bcdf1297df454", func := "timebound/timeboundlaw36.ScratchMore", spec := "scratchMore", unfollowed := true, recurses := true, apart := false }
def ScratchMoreSaid : Prop := scratchMoreRow.holds Try.pinned (OpenSpec.ofChange scratchMoreSpec)

/-- ITS FALSE NEIGHBOUR: 'it returns false'. Refute it at one input. -/
def scratchMoreWrong : ChangeSpec := { name := "scratchMore", fn := fun _ => fun
  | [d1, d2, d3, d4] => { results := [.lit (.bool false)], args := [d1, d2, d3, d4] }
  | _ => none }
def ScratchMoreWrongFalsely : Prop := scratchMoreRow.holds Try.pinned (OpenSpec.ofChange scratchMoreWrong)

/-- 'timeboundlaw36.ScratchFrees': WHATEVER THE INPUT: true; the input reads as it did. -/
def scratchFreesSpec : ChangeSpec := { name := "scratchFrees", fn := fun _ => fun
  | [d] => { results := [.lit (.bool true)], args := [d] }
  | _ => none }
def scratchFreesRow : OpenClaim := { program := "ytdbahkmnhodhmaa", sum := "6a2c708783013e5fd7d5d3c17380113461cbffb1cfd309f7cb0bcdf1297df454", func := "timebound/timeboundlaw36.ScratchFrees", spec := "scratchFrees", unfollowed := true, recurses := true, apart := false }
def ScratchFreesSaid : Prop := scratchFreesRow.holds Try.pinned (OpenSpec.ofChange scratchFreesSpec)

/-- ITS FALSE NEIGHBOUR: 'it returns false'. Refute it at one input. -/
def scratchFreesWrong : ChangeSpec := { name := "scratchFrees", fn := fun _ => fun
  | [d] => { results := [.lit (.bool false)], args := [d] }
  | _ => none }
def ScratchFreesWrongFalsely : Prop := scratchFreesRow.holds Try.pinned (OpenSpec.ofChange scratchFreesWrong)

/-- 'timeboundlaw34.CertificateChecks': WHATEVER THE INPUT: true; the input reads as it did. -/
def certificateChecksSpec : ChangeSpec := { name := "certificateChecks", fn := fun _ => fun
  | [d1, d2, d3] => { results := [.lit (.bool true)], args := [d1, d2, d3] }
  | _ => none }
def certificateChecksRow : OpenClaim := { program := "ytdbahkmnhodhmaa", sum := "6a2c708783013e5fd7d5d3c17380113461cbffb1cfd309f7cb0bcdf1297df454", func := "timebound/timeboundlaw34.CertificateChecks", spec := "certificateChecks", unfollowed := true, recurses := true, apart := false }
def CertificateChecksSaid : Prop := certificateChecksRow.holds Try.pinned (OpenSpec.ofChange certificateChecksSpec)

/-- ITS FALSE NEIGHBOUR: 'it returns false'. Refute it at one input. -/
def certificateChecksWrong : ChangeSpec := { name := "certificateChecks", fn := fun _ => fun
  | [d1, d2, d3] => { results := [.lit (.bool false)], args := [d1, d2, d3] }
  | _ => none }
def CertificateChecksWrongFalsely : Prop := certificateChecksRow.holds Try.pinned (OpenSpec.ofChange certificateChecksWrong)

/-- 'timeboundlaw34.CertificateSound': WHATEVER THE INPUT: true; the input reads as it did. -/
def certificateSoundSpec : ChangeSpec := { name := "certificateSound", fn := fun _ => fun
  | [d] => { results := [.lit (.bool true)], args := [d] }
  | _ => none }
def certificateSoundRow : OpenClaim := { program := "ytdbahkmnhodhmaa", sum := "6a2c708783013e5fd7d5d3c17380113461cbffb1cfd309f7cb0bcdf1297df454", func := "timebound/timeboundlaw34.CertificateSound", spec := "certificateSound", unfollowed := true, recurses := true, apart := false }
def CertificateSoundSaid : Prop := certificateSoundRow.holds Try.pinned (OpenSpec.ofChange certificateSoundSpec)

/-- ITS FALSE NEIGHBOUR: 'it returns false'. Refute it at one input. -/
def certificateSoundWrong : ChangeSpec := { name := "certificateSound", fn := fun _ => fun
  | [d] => { results := [.lit (.bool false)], args := [d] }
  | _ => none }
def CertificateSoundWrongFalsely : Prop := certificateSoundRow.holds Try.pinned (OpenSpec.ofChange certificateSoundWrong)

/-- 'timeboundlaw34.CertificateWeaker': WHATEVER THE INPUT: true; the input reads as it did. -/
def certificateWeakerSpec : ChangeSpec := { name := "certificateWeaker", fn := fun _ => fun
  | [d] => { results := [.lit (.bool true)], args := [d] }
  | _ => none }
def certificateWeakerRow : OpenClaim := { program := "ytdbahkmnhodhmaa", sum := "6a2c708783013e5fd7d5d3c17380113461cbffb1cfd309f7cb0bcdf1297df454", func := "timebound/timeboundlaw34.CertificateWeaker", spec := "certificateWeaker", unfollowed := true, recurses := true, apart := false }
def CertificateWeakerSaid : Prop := certificateWeakerRow.holds Try.pinned (OpenSpec.ofChange certificateWeakerSpec)

/-- ITS FALSE NEIGHBOUR: 'it returns false'. Refute it at one input. -/
def certificateWeakerWrong : ChangeSpec := { name := "certificateWeaker", fn := fun _ => fun
  | [d] => { results := [.lit (.bool false)], args := [d] }
  | _ => none }
def CertificateWeakerWrongFalsely : Prop := certificateWeakerRow.holds Try.pinned (OpenSpec.ofChange certificateWeakerWrong)

/-- 'timeboundlaw34.CertificateJoins': WHATEVER THE INPUT: true; the input reads as it did. -/
def certificateJoinsSpec : ChangeSpec := { name := "certificateJoins", fn := fun _ => fun
  | [d1, d2, d3] => { results := [.lit (.bool true)], args := [d1, d2, d3] }
  | _ => none }
def certificateJoinsRow : OpenClaim := { program := "ytdbahkmnhodhmaa", sum := "6a2c708783013e5fd7d5d3c17380113461cbffb1cfd309f7cb0bcdf1297df454", func := "timebound/timeboundlaw34.CertificateJoins", spec := "certificateJoins", unfollowed := true, recurses := true, apart := false }
def CertificateJoinsSaid : Prop := certificateJoinsRow.holds Try.pinned (OpenSpec.ofChange certificateJoinsSpec)

/-- ITS FALSE NEIGHBOUR: 'it returns false'. Refute it at one input. -/
def certificateJoinsWrong : ChangeSpec := { name := "certificateJoins", fn := fun _ => fun
  | [d1, d2, d3] => { results := [.lit (.bool false)], args := [d1, d2, d3] }
  | _ => none }
def CertificateJoinsWrongFalsely : Prop := certificateJoinsRow.holds Try.pinned (OpenSpec.ofChange certificateJoinsWrong)

/-- 'timeboundlaw34.CertificateSplits': WHATEVER THE INPUT: true; the input reads as it did. -/
def certificateSplitsSpec : ChangeSpec := { name := "certificateSplits", fn := fun _ => fun
  | [d] => { results := [.lit (.bool true)], args := [d] }
  | _ => none }
def certificateSplitsRow : OpenClaim := { program := "ytdbahkmnhodhmaa", sum := "6a2c708783013e5fd7d5d3c17380113461cbffb1cfd309f7cb0bcdf1297df454", func := "timebound/timeboundlaw34.CertificateSplits", spec := "certificateSplits", unfollowed := true, recurses := true, apart := false }
def CertificateSplitsSaid : Prop := certificateSplitsRow.holds Try.pinned (OpenSpec.ofChange certificateSplitsSpec)

/-- ITS FALSE NEIGHBOUR: 'it returns false'. Refute it at one input. -/
def certificateSplitsWrong : ChangeSpec := { name := "certificateSplits", fn := fun _ => fun
  | [d] => { results := [.lit (.bool false)], args := [d] }
  | _ => none }
def CertificateSplitsWrongFalsely : Prop := certificateSplitsRow.holds Try.pinned (OpenSpec.ofChange certificateSplitsWrong)

/- THE SECOND FORM. 'bulk': how many values and letters a reading holds, each counted each time it is reached (what is shared counts as often as it is met; a slice's spare places count too). A statement '..UptoSaid' is the law's where the arguments, and the package variables that the reading takes, are together of bulk at most 1048576: NARROWER than '..Said'. Prove '..Said' where nothing that the law and all that it calls make is longer than what came in: it says more and counts as full. Else prove '..UptoSaid'. A law counts once. -/
mutual
def uptoBulk {H : Type} : DataW H → Nat
  | .lit (.string bytes) => bytes.length + 1
  | .lit _ => 1
  | .nil => 1
  | .ptr d => uptoBulk d + 1
  | .slice elems spare => uptoBulkAll elems + uptoBulkAll spare + 1
  | .agg parts => uptoBulkAll parts + 1
  | .iface _ d => uptoBulk d + 1
  | .map entries => uptoBulkEntries entries + 1
  | .held _ => 1
def uptoBulkAll {H : Type} : List (DataW H) → Nat
  | [] => 0
  | d :: r => uptoBulk d + uptoBulkAll r
def uptoBulkEntries {H : Type} : List (Lit × DataW H) → Nat
  | [] => 0
  | x :: r => uptoBulkEntry x + uptoBulkEntries r
def uptoBulkEntry {H : Type} : Lit × DataW H → Nat
  | (.string bytes, d) => bytes.length + uptoBulk d + 1
  | (_, d) => uptoBulk d + 1
 end
def uptoSmall : (H : Type) → List (DataW H) → Bool := fun _ ds => decide (uptoBulkAll ds ≤ 1048576)
def OpenSpec.upto (s : _root_.Go.ChangeSpec) : _root_.Go.OpenSpec := { _root_.Go.OpenSpec.ofChange s with cond := some uptoSmall }

/-- 'timeboundlaw38.EvictCommon', WHERE WHAT IT READS IS OF BULK AT MOST 1048576: true; the input reads as it did. -/
def evictCommonUptoRow : OpenClaim := { program := "ytdbahkmnhodhmaa", sum := "6a2c708783013e5fd7d5d3c17380113461cbffb1cfd309f7cb0bcdf1297df454", func := "timebound/timeboundlaw38.EvictCommon", spec := "evictCommon", unfollowed := true, recurses := true, apart := false, narrowed := true }
def EvictCommonUptoSaid : Prop := evictCommonUptoRow.holds Try.pinned (OpenSpec.upto evictCommonSpec)

/-- 'timeboundlaw38.EvictApart', WHERE WHAT IT READS IS OF BULK AT MOST 1048576: true; the input reads as it did. -/
def evictApartUptoRow : OpenClaim := { program := "ytdbahkmnhodhmaa", sum := "6a2c708783013e5fd7d5d3c17380113461cbffb1cfd309f7cb0bcdf1297df454", func := "timebound/timeboundlaw38.EvictApart", spec := "evictApart", unfollowed := true, recurses := true, apart := false, narrowed := true }
def EvictApartUptoSaid : Prop := evictApartUptoRow.holds Try.pinned (OpenSpec.upto evictApartSpec)

/-- 'timeboundlaw40.BlockingTimes', WHERE WHAT IT READS IS OF BULK AT MOST 1048576: true; the input reads as it did. -/
def blockingTimesUptoRow : OpenClaim := { program := "ytdbahkmnhodhmaa", sum := "6a2c708783013e5fd7d5d3c17380113461cbffb1cfd309f7cb0bcdf1297df454", func := "timebound/timeboundlaw40.BlockingTimes", spec := "blockingTimes", unfollowed := true, recurses := true, apart := false, narrowed := true }
def BlockingTimesUptoSaid : Prop := blockingTimesUptoRow.holds Try.pinned (OpenSpec.upto blockingTimesSpec)

/-- 'timeboundlaw40.BlockingGrows', WHERE WHAT IT READS IS OF BULK AT MOST 1048576: true; the input reads as it did. -/
def blockingGrowsUptoRow : OpenClaim := { program := "ytdbahkmnhodhmaa", sum := "6a2c708783013e5fd7d5d3c17380113461cbffb1cfd309f7cb0bcdf1297df454", func := "timebound/timeboundlaw40.BlockingGrows", spec := "blockingGrows", unfollowed := true, recurses := true, apart := false, narrowed := true }
def BlockingGrowsUptoSaid : Prop := blockingGrowsUptoRow.holds Try.pinned (OpenSpec.upto blockingGrowsSpec)

/-- 'timeboundlaw36.ScratchBest', WHERE WHAT IT READS IS OF BULK AT MOST 1048576: true; the input reads as it did. -/
def scratchBestUptoRow : OpenClaim := { program := "ytdbahkmnhodhmaa", sum := "6a2c708783013e5fd7d5d3c17380113461cbffb1cfd309f7cb0bcdf1297df454", func := "timebound/timeboundlaw36.ScratchBest", spec := "scratchBest", unfollowed := true, recurses := true, apart := false, narrowed := true }
def ScratchBestUptoSaid : Prop := scratchBestUptoRow.holds Try.pinned (OpenSpec.upto scratchBestSpec)

/-- 'timeboundlaw36.ScratchMore', WHERE WHAT IT READS IS OF BULK AT MOST 1048576: true; the input reads as it did. -/
def scratchMoreUptoRow : OpenClaim := { program := "ytdbahkmnhodhmaa", sum := "6a2c708783013e5fd7d5d3c17380113461cbffb1cfd309f7cb0bcdf1297df454", func := "timebound/timeboundlaw36.ScratchMore", spec := "scratchMore", unfollowed := true, recurses := true, apart := false, narrowed := true }
def ScratchMoreUptoSaid : Prop := scratchMoreUptoRow.holds Try.pinned (OpenSpec.upto scratchMoreSpec)

/-- 'timeboundlaw36.ScratchFrees', WHERE WHAT IT READS IS OF BULK AT MOST 1048576: true; the input reads as it did. -/
def scratchFreesUptoRow : OpenClaim := { program := "ytdbahkmnhodhmaa", sum := "6a2c708783013e5fd7d5d3c17380113461cbffb1cfd309f7cb0bcdf1297df454", func := "timebound/timeboundlaw36.ScratchFrees", spec := "scratchFrees", unfollowed := true, recurses := true, apart := false, narrowed := true }
def ScratchFreesUptoSaid : Prop := scratchFreesUptoRow.holds Try.pinned (OpenSpec.upto scratchFreesSpec)

/-- 'timeboundlaw34.CertificateChecks', WHERE WHAT IT READS IS OF BULK AT MOST 1048576: true; the input reads as it did. -/
def certificateChecksUptoRow : OpenClaim := { program := "ytdbahkmnhodhmaa", sum := "6a2c708783013e5fd7d5d3c17380113461cbffb1cfd309f7cb0bcdf1297df454", func := "timebound/timeboundlaw34.CertificateChecks", spec := "certificateChecks", unfollowed := true, recurses := true, apart := false, narrowed := true }
def CertificateChecksUptoSaid : Prop := certificateChecksUptoRow.holds Try.pinned (OpenSpec.upto certificateChecksSpec)

/-- 'timeboundlaw34.CertificateSound', WHERE WHAT IT READS IS OF BULK AT MOST 1048576: true; the input reads as it did. -/
def certificateSoundUptoRow : OpenClaim := { program := "ytdbahkmnhodhmaa", sum := "6a2c708783013e5fd7d5d3c17380113461cbffb1cfd309f7cb0bcdf1297df454", func := "timebound/timeboundlaw34.CertificateSound", spec := "certificateSound", unfollowed := true, recurses := true, apart := false, narrowed := true }
def CertificateSoundUptoSaid : Prop := certificateSoundUptoRow.holds Try.pinned (OpenSpec.upto certificateSoundSpec)

/-- 'timeboundlaw34.CertificateWeaker', WHERE WHAT IT READS IS OF BULK AT MOST 1048576: true; the input reads as it did. -/
def certificateWeakerUptoRow : OpenClaim := { program := "ytdbahkmnhodhmaa", sum := "6a2c708783013e5fd7d5d3c17380113461cbffb1cfd309f7cb0bcdf1297df454", func := "timebound/timeboundlaw34.CertificateWeaker", spec := "certificateWeaker", unfollowed := true, recurses := true, apart := false, narrowed := true }
def CertificateWeakerUptoSaid : Prop := certificateWeakerUptoRow.holds Try.pinned (OpenSpec.upto certificateWeakerSpec)

/-- 'timeboundlaw34.CertificateJoins', WHERE WHAT IT READS IS OF BULK AT MOST 1048576: true; the input reads as it did. -/
def certificateJoinsUptoRow : OpenClaim := { program := "ytdbahkmnhodhmaa", sum := "6a2c708783013e5fd7d5d3c17380113461cbffb1cfd309f7cb0bcdf1297df454", func := "timebound/timeboundlaw34.CertificateJoins", spec := "certificateJoins", unfollowed := true, recurses := true, apart := false, narrowed := true }
def CertificateJoinsUptoSaid : Prop := certificateJoinsUptoRow.holds Try.pinned (OpenSpec.upto certificateJoinsSpec)

/-- 'timeboundlaw34.CertificateSplits', WHERE WHAT IT READS IS OF BULK AT MOST 1048576: true; the input reads as it did. -/
def certificateSplitsUptoRow : OpenClaim := { program := "ytdbahkmnhodhmaa", sum := "6a2c708783013e5fd7d5d3c17380113461cbffb1cfd309f7cb0bcdf1297df454", func := "timebound/timeboundlaw34.CertificateSplits", spec := "certificateSplits", unfollowed := true, recurses := true, apart := false, narrowed := true }
def CertificateSplitsUptoSaid : Prop := certificateSplitsUptoRow.holds Try.pinned (OpenSpec.upto certificateSplitsSpec)

end Rows
end Go.Proofs.Ytdbahkmnhodhmaa
