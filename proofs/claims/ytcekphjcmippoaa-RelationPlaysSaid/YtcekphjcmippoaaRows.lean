/-
  No cell of these rows narrows 'for every input' (looked for: loops, veiled, ifaces, maps, wideKeys, modest, calm, conditions, laid).
  DERIVED. THE GIVEN ROWS OF THIS SEAT. 5 by the template 'for every input the law returns true; each argument reads behind the call as it read before'; 0 by the template 'total and deterministic' (their statements: YtcekphjcmippoaaTotals.lean).
  GIVEN WITH THE SEED: the statements are not yours to turn. If you find one false, say at which input.
  Laid BY PROGRAM, IN A SANDBOX (cutbox-rows.mjs): the forced cells as the released guide's own fill.sh prints them over the translation c363f6c5e41f2f8a… (all of the seat's roots in one cut). By AI agents, Wed Nov 11 2026. No macro, syntax, notation, axiom, sorry.
-/
import Derived.Test.YtcekphjcmippoaaChecked
import GoSem.Claim
import GoSem.ClaimJoined
import GoSem.ClaimMapViews
import Derived.JoinedTies
import Derived.KernelRfl
namespace Go.Proofs.Ytcekphjcmippoaa
/- THE CELL 'sum', in the pinned program and in every row, IS THE sha256 OF THE DUMP (.gsa) THAT YtcekphjcmippoaaProg.lean LOADS. Nothing in Lean hashes anything: it is a label: what it is worth is what the hold of that sum in a sandbox is worth. -/
noncomputable def Try.pinned : Pinned := { name := "ytcekphjcmippoaa", sum := "c363f6c5e41f2f8a9b4aabec92471ede350115f50b19a4dd543c54a62f7fc46e", checked := Try.checked }
namespace Rows
def none {H : Type} : Left H := { results := [], args := [] }

/-- 'pedigreelaw10.RelationSplits': WHATEVER THE INPUT: true; the input reads as it did. -/
def relationSplitsSpec : ChangeSpec := { name := "relationSplits", fn := fun _ => fun
  | [d1, d2, d3] => { results := [.lit (.bool true)], args := [d1, d2, d3] }
  | _ => none }
def relationSplitsRow : OpenClaim := { program := "ytcekphjcmippoaa", sum := "c363f6c5e41f2f8a9b4aabec92471ede350115f50b19a4dd543c54a62f7fc46e", func := "pedigree/pedigreelaw10.RelationSplits", spec := "relationSplits", unfollowed := true, recurses := true, plainKeys := false, apart := false }
def RelationSplitsSaid : Prop := relationSplitsRow.holds Try.pinned (OpenSpec.ofChange relationSplitsSpec)

/-- ITS FALSE NEIGHBOUR: 'it returns false'. Refute it at one input. -/
def relationSplitsWrong : ChangeSpec := { name := "relationSplits", fn := fun _ => fun
  | [d1, d2, d3] => { results := [.lit (.bool false)], args := [d1, d2, d3] }
  | _ => none }
def RelationSplitsWrongFalsely : Prop := relationSplitsRow.holds Try.pinned (OpenSpec.ofChange relationSplitsWrong)

/-- 'pedigreelaw10.RelationPicks': WHATEVER THE INPUT: true; the input reads as it did. -/
def relationPicksSpec : ChangeSpec := { name := "relationPicks", fn := fun _ => fun
  | [d] => { results := [.lit (.bool true)], args := [d] }
  | _ => none }
def relationPicksRow : OpenClaim := { program := "ytcekphjcmippoaa", sum := "c363f6c5e41f2f8a9b4aabec92471ede350115f50b19a4dd543c54a62f7fc46e", func := "pedigree/pedigreelaw10.RelationPicks", spec := "relationPicks", unfollowed := true, recurses := true, plainKeys := false, apart := false }
def RelationPicksSaid : Prop := relationPicksRow.holds Try.pinned (OpenSpec.ofChange relationPicksSpec)

/-- ITS FALSE NEIGHBOUR: 'it returns false'. Refute it at one input. -/
def relationPicksWrong : ChangeSpec := { name := "relationPicks", fn := fun _ => fun
  | [d] => { results := [.lit (.bool false)], args := [d] }
  | _ => none }
def RelationPicksWrongFalsely : Prop := relationPicksRow.holds Try.pinned (OpenSpec.ofChange relationPicksWrong)

/-- 'pedigreelaw10.RelationKeeps': WHATEVER THE INPUT: true; the input reads as it did. -/
def relationKeepsSpec : ChangeSpec := { name := "relationKeeps", fn := fun _ => fun
  | [d1, d2, d3] => { results := [.lit (.bool true)], args := [d1, d2, d3] }
  | _ => none }
def relationKeepsRow : OpenClaim := { program := "ytcekphjcmippoaa", sum := "c363f6c5e41f2f8a9b4aabec92471ede350115f50b19a4dd543c54a62f7fc46e", func := "pedigree/pedigreelaw10.RelationKeeps", spec := "relationKeeps", unfollowed := true, recurses := true, plainKeys := false, apart := false }
def RelationKeepsSaid : Prop := relationKeepsRow.holds Try.pinned (OpenSpec.ofChange relationKeepsSpec)

/-- ITS FALSE NEIGHBOUR: 'it returns false'. Refute it at one input. -/
def relationKeepsWrong : ChangeSpec := { name := "relationKeeps", fn := fun _ => fun
  | [d1, d2, d3] => { results := [.lit (.bool false)], args := [d1, d2, d3] }
  | _ => none }
def RelationKeepsWrongFalsely : Prop := relationKeepsRow.holds Try.pinned (OpenSpec.ofChange relationKeepsWrong)

/-- 'pedigreelaw10.RelationPlays': WHATEVER THE INPUT: true; the input reads as it did. -/
def relationPlaysSpec : ChangeSpec := { name := "relationPlays", fn := fun _ => fun
  | [d1, d2, d3] => { results := [.lit (.bool true)], args := [d1, d2, d3] }
  | _ => none }
def relationPlaysRow : OpenClaim := { program := "ytcekphjcmippoaa", sum := "c363f6c5e41f2f8a9b4aabec92471ede350115f50b19a4dd543c54a62f7fc46e", func := "pedigree/pedigreelaw10.RelationPlays", spec := "relationPlays", unfollowed := true, recurses := true, plainKeys := false, apart := false }
def RelationPlaysSaid : Prop := relationPlaysRow.holds Try.pinned (OpenSpec.ofChange relationPlaysSpec)

/-- ITS FALSE NEIGHBOUR: 'it returns false'. Refute it at one input. -/
def relationPlaysWrong : ChangeSpec := { name := "relationPlays", fn := fun _ => fun
  | [d1, d2, d3] => { results := [.lit (.bool false)], args := [d1, d2, d3] }
  | _ => none }
def RelationPlaysWrongFalsely : Prop := relationPlaysRow.holds Try.pinned (OpenSpec.ofChange relationPlaysWrong)

/-- 'pedigreelaw10.RelationNone': WHATEVER THE INPUT: true; the input reads as it did. -/
def relationNoneSpec : ChangeSpec := { name := "relationNone", fn := fun _ => fun
  | [d] => { results := [.lit (.bool true)], args := [d] }
  | _ => none }
def relationNoneRow : OpenClaim := { program := "ytcekphjcmippoaa", sum := "c363f6c5e41f2f8a9b4aabec92471ede350115f50b19a4dd543c54a62f7fc46e", func := "pedigree/pedigreelaw10.RelationNone", spec := "relationNone", unfollowed := true, recurses := true, plainKeys := false, apart := false }
def RelationNoneSaid : Prop := relationNoneRow.holds Try.pinned (OpenSpec.ofChange relationNoneSpec)

/-- ITS FALSE NEIGHBOUR: 'it returns false'. Refute it at one input. -/
def relationNoneWrong : ChangeSpec := { name := "relationNone", fn := fun _ => fun
  | [d] => { results := [.lit (.bool false)], args := [d] }
  | _ => none }
def RelationNoneWrongFalsely : Prop := relationNoneRow.holds Try.pinned (OpenSpec.ofChange relationNoneWrong)

/- THE SECOND FORM. 'bulk': how many values and letters a reading holds, each counted each time it is reached (what is shared counts as often as it is met; a slice's spare places count too). A statement '..UptoSaid' is the law's where the arguments, and the package variables that the reading takes, are together of bulk at most 1048576: NARROWER than '..Said'. Prove '..Said' where nothing that the law and all that it calls make is longer than what came in: it says more and counts as full. Else prove '..UptoSaid'. A law counts once. -/
mutual
def uptoBulk {H : Type} : DataW H → Nat
  | .lit (.string bytes) => bytes.length + 1
  | .lit _ => 1
  | .nil => 1
  | .ptr d => uptoBulk d + 1
  | .slice elems spare => uptoBulkAll elems + uptoBulkAll spare + 1
  | .agg parts => uptoBulkAll parts + 1
  | .iface _ d => uptoBulk d + 1
  | .map entries => uptoBulkEntries entries + 1
  | .held _ => 1
def uptoBulkAll {H : Type} : List (DataW H) → Nat
  | [] => 0
  | d :: r => uptoBulk d + uptoBulkAll r
def uptoBulkEntries {H : Type} : List (Lit × DataW H) → Nat
  | [] => 0
  | x :: r => uptoBulkEntry x + uptoBulkEntries r
def uptoBulkEntry {H : Type} : Lit × DataW H → Nat
  | (.string bytes, d) => bytes.length + uptoBulk d + 1
  | (_, d) => uptoBulk d + 1
 end
def uptoSmall : (H : Type) → List (DataW H) → Bool := fun _ ds => decide (uptoBulkAll ds ≤ 1048576)
def OpenSpec.upto (s : _root_.Go.ChangeSpec) : _root_.Go.OpenSpec := { _root_.Go.OpenSpec.ofChange s with cond := some uptoSmall }

/-- 'pedigreelaw10.RelationSplits', WHERE WHAT IT READS IS OF BULK AT MOST 1048576: true; the input reads as it did. -/
def relationSplitsUptoRow : OpenClaim := { program := "ytcekphjcmippoaa", sum := "c363f6c5e41f2f8a9b4aabec92471ede350115f50b19a4dd543c54a62f7fc46e", func := "pedigree/pedigreelaw10.RelationSplits", spec := "relationSplits", unfollowed := true, recurses := true, plainKeys := false, apart := false, narrowed := true }
def RelationSplitsUptoSaid : Prop := relationSplitsUptoRow.holds Try.pinned (OpenSpec.upto relationSplitsSpec)

/-- 'pedigreelaw10.RelationPicks', WHERE WHAT IT READS IS OF BULK AT MOST 1048576: true; the input reads as it did. -/
def relationPicksUptoRow : OpenClaim := { program := "ytcekphjcmippoaa", sum := "c363f6c5e41f2f8a9b4aabec92471ede350115f50b19a4dd543c54a62f7fc46e", func := "pedigree/pedigreelaw10.RelationPicks", spec := "relationPicks", unfollowed := true, recurses := true, plainKeys := false, apart := false, narrowed := true }
def RelationPicksUptoSaid : Prop := relationPicksUptoRow.holds Try.pinned (OpenSpec.upto relationPicksSpec)

/-- 'pedigreelaw10.RelationKeeps', WHERE WHAT IT READS IS OF BULK AT MOST 1048576: true; the input reads as it did. -/
def relationKeepsUptoRow : OpenClaim := { program := "ytcekphjcmippoaa", sum := "c363f6c5e41f2f8a9b4aabec92471ede350115f50b19a4dd543c54a62f7fc46e", func := "pedigree/pedigreelaw10.RelationKeeps", spec := "relationKeeps", unfollowed := true, recurses := true, plainKeys := false, apart := false, narrowed := true }
def RelationKeepsUptoSaid : Prop := relationKeepsUptoRow.holds Try.pinned (OpenSpec.upto relationKeepsSpec)

/-- 'pedigreelaw10.RelationPlays', WHERE WHAT IT READS IS OF BULK AT MOST 1048576: true; the input reads as it did. -/
def relationPlaysUptoRow : OpenClaim := { program := "ytcekphjcmippoaa", sum := "c363f6c5e41f2f8a9b4aabec92471ede350115f50b19a4dd543c54a62f7fc46e", func := "pedigree/pedigreelaw10.RelationPlays", spec := "relationPlays", unfollowed := true, recurses := true, plainKeys := false, apart := false, narrowed := true }
def RelationPlaysUptoSaid : Prop := relationPlaysUptoRow.holds Try.pinned (OpenSpec.upto relationPlaysSpec)

/-- 'pedigreelaw10.RelationNone', WHERE WHAT IT READS IS OF BULK AT MOST 1048576: true; the input reads as it did. -/
def relationNoneUptoRow : OpenClaim := { program := "ytcekphjcmippoaa", sum := "c363f6c5e41f2f8a9b4aabec92471ede350115f50b19a4dd543c54a62f7fc46e", func := "pedigree/pedigreelaw10.RelationNone", spec := "relationNone", unfollowed := true, recurses := true, plainKeys := false, apart := false, narrowed := true }
def RelationNoneUptoSaid : Prop := relationNoneUptoRow.holds Try.pinned (OpenSpec.upto relationNoneSpec)

end Rows
end Go.Proofs.Ytcekphjcmippoaa
