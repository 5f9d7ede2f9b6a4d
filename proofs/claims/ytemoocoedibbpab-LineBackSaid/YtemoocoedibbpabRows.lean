/-
  No cell of these rows narrows 'for every input' (looked for: loops, veiled, ifaces, maps, wideKeys, modest, calm, conditions, laid).
  DERIVED. THE GIVEN ROWS OF THIS SEAT. 7 by the template 'for every input the law returns true; each argument reads behind the call as it read before'; 0 by the template 'total and deterministic' (their statements: YtemoocoedibbpabTotals.lean).
  GIVEN WITH THE SEED: the statements are not yours to turn. If you find one false, say at which input.
  Laid BY PROGRAM, IN A SANDBOX (cutbox-rows.mjs): the forced cells as the released guide's own fill.sh prints them over the translation da2b3a5066c48c0f… (all of the seat's roots in one cut). By AI agents, Wed Nov 11 2026. No macro, syntax, notation, axiom, sorry.
-/
import Derived.Test.YtemoocoedibbpabChecked
import GoSem.Claim
import GoSem.ClaimJoined
import GoSem.ClaimMapViews
import Derived.JoinedTies
import Derived.KernelRfl
namespace Go.Proofs.Ytemoocoedibbpab
/- THE CELL 'sum', in the pinned program and in every row, IS THE sha256 OF THE DUMP (.gsa) THAT YtemoocoedibbpabProg.lean LOADS. Nothing in Lean hashes anything: it is a label: what it is worth is what the hold of that sum in a sandbox is worth. -/
noncomputable def Try.pinned : Pinned := { name := "ytemoocoedibbpab", sum := "da2b3a5066c48c0f4554370d3f0b3e5781a67e3e9ae1e6a4bbe350528cb229ca", checked := Try.checked }
namespace Rows
def none {H : Type} : Left H := { results := [], args := [] }

/-- 'dactyllaw26.OfferDoes': WHATEVER THE INPUT: true; the input reads as it did. -/
def offerDoesSpec : ChangeSpec := { name := "offerDoes", fn := fun _ => fun
  | [d1, d2, d3] => { results := [.lit (.bool true)], args := [d1, d2, d3] }
  | _ => none }
def offerDoesRow : OpenClaim := { program := "ytemoocoedibbpab", sum := "da2b3a5066c48c0f4554370d3f0b3e5781a67e3e9ae1e6a4bbe350528cb229ca", func := "dactyl/dactyllaw26.OfferDoes", spec := "offerDoes", unfollowed := true, recurses := true, apart := false }
def OfferDoesSaid : Prop := offerDoesRow.holds Try.pinned (OpenSpec.ofChange offerDoesSpec)

/-- ITS FALSE NEIGHBOUR: 'it returns false'. Refute it at one input. -/
def offerDoesWrong : ChangeSpec := { name := "offerDoes", fn := fun _ => fun
  | [d1, d2, d3] => { results := [.lit (.bool false)], args := [d1, d2, d3] }
  | _ => none }
def OfferDoesWrongFalsely : Prop := offerDoesRow.holds Try.pinned (OpenSpec.ofChange offerDoesWrong)

/-- 'dactyllaw26.OfferStays': WHATEVER THE INPUT: true; the input reads as it did. -/
def offerStaysSpec : ChangeSpec := { name := "offerStays", fn := fun _ => fun
  | [d1, d2] => { results := [.lit (.bool true)], args := [d1, d2] }
  | _ => none }
def offerStaysRow : OpenClaim := { program := "ytemoocoedibbpab", sum := "da2b3a5066c48c0f4554370d3f0b3e5781a67e3e9ae1e6a4bbe350528cb229ca", func := "dactyl/dactyllaw26.OfferStays", spec := "offerStays", unfollowed := true, recurses := true, apart := false }
def OfferStaysSaid : Prop := offerStaysRow.holds Try.pinned (OpenSpec.ofChange offerStaysSpec)

/-- ITS FALSE NEIGHBOUR: 'it returns false'. Refute it at one input. -/
def offerStaysWrong : ChangeSpec := { name := "offerStays", fn := fun _ => fun
  | [d1, d2] => { results := [.lit (.bool false)], args := [d1, d2] }
  | _ => none }
def OfferStaysWrongFalsely : Prop := offerStaysRow.holds Try.pinned (OpenSpec.ofChange offerStaysWrong)

/-- 'dactyllaw26.OfferOnly': WHATEVER THE INPUT: true; the input reads as it did. -/
def offerOnlySpec : ChangeSpec := { name := "offerOnly", fn := fun _ => fun
  | [d1, d2] => { results := [.lit (.bool true)], args := [d1, d2] }
  | _ => none }
def offerOnlyRow : OpenClaim := { program := "ytemoocoedibbpab", sum := "da2b3a5066c48c0f4554370d3f0b3e5781a67e3e9ae1e6a4bbe350528cb229ca", func := "dactyl/dactyllaw26.OfferOnly", spec := "offerOnly", unfollowed := true, recurses := true, apart := false }
def OfferOnlySaid : Prop := offerOnlyRow.holds Try.pinned (OpenSpec.ofChange offerOnlySpec)

/-- ITS FALSE NEIGHBOUR: 'it returns false'. Refute it at one input. -/
def offerOnlyWrong : ChangeSpec := { name := "offerOnly", fn := fun _ => fun
  | [d1, d2] => { results := [.lit (.bool false)], args := [d1, d2] }
  | _ => none }
def OfferOnlyWrongFalsely : Prop := offerOnlyRow.holds Try.pinned (OpenSpec.ofChange offerOnlyWrong)

/-- 'dactyllaw17.LineSwaps': WHATEVER THE INPUT: true; the input reads as it did. -/
def lineSwapsSpec : ChangeSpec := { name := "lineSwaps", fn := fun _ => fun
  | [d] => { results := [.lit (.bool true)], args := [d] }
  | _ => none }
def lineSwapsRow : OpenClaim := { program := "ytemoocoedibbpab", sum := "da2b3a5066c48c0f4554370d3f0b3e5781a67e3e9ae1e6a4bbe350528cb229ca", func := "dactyl/dactyllaw17.LineSwaps", spec := "lineSwaps", unfollowed := true, recurses := true, apart := false }
def LineSwapsSaid : Prop := lineSwapsRow.holds Try.pinned (OpenSpec.ofChange lineSwapsSpec)

/-- ITS FALSE NEIGHBOUR: 'it returns false'. Refute it at one input. -/
def lineSwapsWrong : ChangeSpec := { name := "lineSwaps", fn := fun _ => fun
  | [d] => { results := [.lit (.bool false)], args := [d] }
  | _ => none }
def LineSwapsWrongFalsely : Prop := lineSwapsRow.holds Try.pinned (OpenSpec.ofChange lineSwapsWrong)

/-- 'dactyllaw17.LineBack': WHATEVER THE INPUT: true; the input reads as it did. -/
def lineBackSpec : ChangeSpec := { name := "lineBack", fn := fun _ => fun
  | [d1, d2] => { results := [.lit (.bool true)], args := [d1, d2] }
  | _ => none }
def lineBackRow : OpenClaim := { program := "ytemoocoedibbpab", sum := "da2b3a5066c48c0f4554370d3f0b3e5781a67e3e9ae1e6a4bbe350528cb229ca", func := "dactyl/dactyllaw17.LineBack", spec := "lineBack", unfollowed := true, recurses := true, apart := false }
def LineBackSaid : Prop := lineBackRow.holds Try.pinned (OpenSpec.ofChange lineBackSpec)

/-- ITS FALSE NEIGHBOUR: 'it returns false'. Refute it at one input. -/
def lineBackWrong : ChangeSpec := { name := "lineBack", fn := fun _ => fun
  | [d1, d2] => { results := [.lit (.bool false)], args := [d1, d2] }
  | _ => none }
def LineBackWrongFalsely : Prop := lineBackRow.holds Try.pinned (OpenSpec.ofChange lineBackWrong)

/-- 'dactyllaw09.PortShows': WHATEVER THE INPUT: true; the input reads as it did. -/
def portShowsSpec : ChangeSpec := { name := "portShows", fn := fun _ => fun
  | [d] => { results := [.lit (.bool true)], args := [d] }
  | _ => none }
def portShowsRow : OpenClaim := { program := "ytemoocoedibbpab", sum := "da2b3a5066c48c0f4554370d3f0b3e5781a67e3e9ae1e6a4bbe350528cb229ca", func := "dactyl/dactyllaw09.PortShows", spec := "portShows", unfollowed := true, recurses := true, apart := false }
def PortShowsSaid : Prop := portShowsRow.holds Try.pinned (OpenSpec.ofChange portShowsSpec)

/-- ITS FALSE NEIGHBOUR: 'it returns false'. Refute it at one input. -/
def portShowsWrong : ChangeSpec := { name := "portShows", fn := fun _ => fun
  | [d] => { results := [.lit (.bool false)], args := [d] }
  | _ => none }
def PortShowsWrongFalsely : Prop := portShowsRow.holds Try.pinned (OpenSpec.ofChange portShowsWrong)

/-- 'dactyllaw09.PortFits': WHATEVER THE INPUT: true; the input reads as it did. -/
def portFitsSpec : ChangeSpec := { name := "portFits", fn := fun _ => fun
  | [d1, d2] => { results := [.lit (.bool true)], args := [d1, d2] }
  | _ => none }
def portFitsRow : OpenClaim := { program := "ytemoocoedibbpab", sum := "da2b3a5066c48c0f4554370d3f0b3e5781a67e3e9ae1e6a4bbe350528cb229ca", func := "dactyl/dactyllaw09.PortFits", spec := "portFits", unfollowed := true, recurses := true, apart := false }
def PortFitsSaid : Prop := portFitsRow.holds Try.pinned (OpenSpec.ofChange portFitsSpec)

/-- ITS FALSE NEIGHBOUR: 'it returns false'. Refute it at one input. -/
def portFitsWrong : ChangeSpec := { name := "portFits", fn := fun _ => fun
  | [d1, d2] => { results := [.lit (.bool false)], args := [d1, d2] }
  | _ => none }
def PortFitsWrongFalsely : Prop := portFitsRow.holds Try.pinned (OpenSpec.ofChange portFitsWrong)

/- THE SECOND FORM. 'bulk': how many values and letters a reading holds, each counted each time it is reached (what is shared counts as often as it is met; a slice's spare places count too). A statement '..UptoSaid' is the law's where the arguments, and the package variables that the reading takes, are together of bulk at most 1048576: NARROWER than '..Said'. Prove '..Said' where nothing that the law and all that it calls make is longer than what came in: it says more and counts as full. Else prove '..UptoSaid'. A law counts once. -/
mutual
def uptoBulk {H : Type} : DataW H → Nat
  | .lit (.string bytes) => bytes.length + 1
  | .lit _ => 1
  | .nil => 1
  | .ptr d => uptoBulk d + 1
  | .slice elems spare => uptoBulkAll elems + uptoBulkAll spare + 1
  | .agg parts => uptoBulkAll parts + 1
  | .iface _ d => uptoBulk d + 1
  | .map entries => uptoBulkEntries entries + 1
  | .held _ => 1
def uptoBulkAll {H : Type} : List (DataW H) → Nat
  | [] => 0
  | d :: r => uptoBulk d + uptoBulkAll r
def uptoBulkEntries {H : Type} : List (Lit × DataW H) → Nat
  | [] => 0
  | x :: r => uptoBulkEntry x + uptoBulkEntries r
def uptoBulkEntry {H : Type} : Lit × DataW H → Nat
  | (.string bytes, d) => bytes.length + uptoBulk d + 1
  | (_, d) => uptoBulk d + 1
 end
def uptoSmall : (H : Type) → List (DataW H) → Bool := fun _ ds => decide (uptoBulkAll ds ≤ 1048576)
def OpenSpec.upto (s : _root_.Go.ChangeSpec) : _root_.Go.OpenSpec := { _root_.Go.OpenSpec.ofChange s with cond := some uptoSmall }

/-- 'dactyllaw26.OfferDoes', WHERE WHAT IT READS IS OF BULK AT MOST 1048576: true; the input reads as it did. -/
def offerDoesUptoRow : OpenClaim := { program := "ytemoocoedibbpab", sum := "da2b3a5066c48c0f4554370d3f0b3e5781a67e3e9ae1e6a4bbe350528cb229ca", func := "dactyl/dactyllaw26.OfferDoes", spec := "offerDoes", unfollowed := true, recurses := true, apart := false, narrowed := true }
def OfferDoesUptoSaid : Prop := offerDoesUptoRow.holds Try.pinned (OpenSpec.upto offerDoesSpec)

/-- 'dactyllaw26.OfferStays', WHERE WHAT IT READS IS OF BULK AT MOST 1048576: true; the input reads as it did. -/
def offerStaysUptoRow : OpenClaim := { program := "ytemoocoedibbpab", sum := "da2b3a5066c48c0f4554370d3f0b3e5781a67e3e9ae1e6a4bbe350528cb229ca", func := "dactyl/dactyllaw26.OfferStays", spec := "offerStays", unfollowed := true, recurses := true, apart := false, narrowed := true }
def OfferStaysUptoSaid : Prop := offerStaysUptoRow.holds Try.pinned (OpenSpec.upto offerStaysSpec)

/-- 'dactyllaw26.OfferOnly', WHERE WHAT IT READS IS OF BULK AT MOST 1048576: true; the input reads as it did. -/
def offerOnlyUptoRow : OpenClaim := { program := "ytemoocoedibbpab", sum := "da2b3a5066c48c0f4554370d3f0b3e5781a67e3e9ae1e6a4bbe350528cb229ca", func := "dactyl/dactyllaw26.OfferOnly", spec := "offerOnly", unfollowed := true, recurses := true, apart := false, narrowed := true }
def OfferOnlyUptoSaid : Prop := offerOnlyUptoRow.holds Try.pinned (OpenSpec.upto offerOnlySpec)

/-- 'dactyllaw17.LineSwaps', WHERE WHAT IT READS IS OF BULK AT MOST 1048576: true; the input reads as it did. -/
def lineSwapsUptoRow : OpenClaim := { program := "ytemoocoedibbpab", sum := "da2b3a5066c48c0f4554370d3f0b3e5781a67e3e9ae1e6a4bbe350528cb229ca", func := "dactyl/dactyllaw17.LineSwaps", spec := "lineSwaps", unfollowed := true, recurses := true, apart := false, narrowed := true }
def LineSwapsUptoSaid : Prop := lineSwapsUptoRow.holds Try.pinned (OpenSpec.upto lineSwapsSpec)

/-- 'dactyllaw17.LineBack', WHERE WHAT IT READS IS OF BULK AT MOST 1048576: true; the input reads as it did. -/
def lineBackUptoRow : OpenClaim := { program := "ytemoocoedibbpab", sum := "da2b3a5066c48c0f4554370d3f0b3e5781a67e3e9ae1e6a4bbe350528cb229ca", func := "dactyl/dactyllaw17.LineBack", spec := "lineBack", unfollowed := true, recurses := true, apart := false, narrowed := true }
def LineBackUptoSaid : Prop := lineBackUptoRow.holds Try.pinned (OpenSpec.upto lineBackSpec)

/-- 'dactyllaw09.PortShows', WHERE WHAT IT READS IS OF BULK AT MOST 1048576: true; the input reads as it did. -/
def portShowsUptoRow : OpenClaim := { program := "ytemoocoedibbpab", sum := "da2b3a5066c48c0f4554370d3f0b3e5781a67e3e9ae1e6a4bbe350528cb229ca", func := "dactyl/dactyllaw09.PortShows", spec := "portShows", unfollowed := true, recurses := true, apart := false, narrowed := true }
def PortShowsUptoSaid : Prop := portShowsUptoRow.holds Try.pinned (OpenSpec.upto portShowsSpec)

/-- 'dactyllaw09.PortFits', WHERE WHAT IT READS IS OF BULK AT MOST 1048576: true; the input reads as it did. -/
def portFitsUptoRow : OpenClaim := { program := "ytemoocoedibbpab", sum := "da2b3a5066c48c0f4554370d3f0b3e5781a67e3e9ae1e6a4bbe350528cb229ca", func := "dactyl/dactyllaw09.PortFits", spec := "portFits", unfollowed := true, recurses := true, apart := false, narrowed := true }
def PortFitsUptoSaid : Prop := portFitsUptoRow.holds Try.pinned (OpenSpec.upto portFitsSpec)

end Rows
end Go.Proofs.Ytemoocoedibbpab
