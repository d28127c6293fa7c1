/-
  NARROWER THAN 'FOR EVERY INPUT', by the rows' own cells (each row's printed sentence says how): DependLeast: loops · DependWays: loops.
  DERIVED. THE GIVEN ROWS OF THIS SEAT. 2 by the template 'for every input the law returns true; each argument reads behind the call as it read before'; 0 by the template 'total and deterministic' (their statements: YtackadhamghblaaGreatTotals.lean).
  GIVEN WITH THE SEED: the statements are not yours to turn. If you find one false, say at which input.
  Laid BY PROGRAM, IN A SANDBOX (cutbox-rows.mjs): the forced cells as the released guide's own fill.sh prints them over the translation 7b6f48602adcc7c6… (all of the seat's roots in one cut). By AI agents, Wed Nov 11 2026. No macro, syntax, notation, axiom, sorry.
-/
import Derived.Test.YtackadhamghblaaGreatChecked
import GoSem.Claim
import GoSem.ClaimJoined
import GoSem.ClaimMapViews
import Derived.JoinedTies
import Derived.KernelRfl
namespace Go.Proofs.YtackadhamghblaaGreat
/- THE CELL 'sum', in the pinned program and in every row, IS THE sha256 OF THE DUMP (.gsa) THAT YtackadhamghblaaGreatProg.lean LOADS. Nothing in Lean hashes anything: it is a label: what it is worth is what the hold of that sum in a sandbox is worth. -/
noncomputable def Tryz.pinned : Pinned := { name := "ytackadhamghblaagreat", sum := "7b6f48602adcc7c64cf02b997da2638da87a167c0460ea16bd11ed4722684e42", checked := Tryz.checked }
namespace Rows
def none {H : Type} : Left H := { results := [], args := [] }

/-- 'pedigreelaw09.DependLeast': WHATEVER THE INPUT: true; the input reads as it did. -/
def dependLeastSpec : ChangeSpec := { name := "dependLeast", fn := fun _ => fun
  | [d] => { results := [.lit (.bool true)], args := [d] }
  | _ => none }
def dependLeastRow : OpenClaim := { program := "ytackadhamghblaagreat", sum := "7b6f48602adcc7c64cf02b997da2638da87a167c0460ea16bd11ed4722684e42", func := "pedigree/pedigreelaw09.DependLeast", spec := "dependLeast", inPlace := ["internal/bytealg.abigen_runtime_cmpstring"], unfollowed := true, recurses := true, loops := true, apart := false }
def DependLeastSaid : Prop := dependLeastRow.holds Tryz.pinned (OpenSpec.ofChange dependLeastSpec)

/-- ITS FALSE NEIGHBOUR: 'it returns false'. Refute it at one input. -/
def dependLeastWrong : ChangeSpec := { name := "dependLeast", fn := fun _ => fun
  | [d] => { results := [.lit (.bool false)], args := [d] }
  | _ => none }
def DependLeastWrongFalsely : Prop := dependLeastRow.holds Tryz.pinned (OpenSpec.ofChange dependLeastWrong)

/-- 'pedigreelaw09.DependWays': WHATEVER THE INPUT: true; the input reads as it did. -/
def dependWaysSpec : ChangeSpec := { name := "dependWays", fn := fun _ => fun
  | [d1, d2] => { results := [.lit (.bool true)], args := [d1, d2] }
  | _ => none }
def dependWaysRow : OpenClaim := { program := "ytackadhamghblaagreat", sum := "7b6f48602adcc7c64cf02b997da2638da87a167c0460ea16bd11ed4722684e42", func := "pedigree/pedigreelaw09.DependWays", spec := "dependWays", inPlace := ["internal/bytealg.abigen_runtime_cmpstring"], unfollowed := true, recurses := true, loops := true, apart := false }
def DependWaysSaid : Prop := dependWaysRow.holds Tryz.pinned (OpenSpec.ofChange dependWaysSpec)

/-- ITS FALSE NEIGHBOUR: 'it returns false'. Refute it at one input. -/
def dependWaysWrong : ChangeSpec := { name := "dependWays", fn := fun _ => fun
  | [d1, d2] => { results := [.lit (.bool false)], args := [d1, d2] }
  | _ => none }
def DependWaysWrongFalsely : Prop := dependWaysRow.holds Tryz.pinned (OpenSpec.ofChange dependWaysWrong)

/- THE SECOND FORM. 'bulk': how many values and letters a reading holds, each counted each time it is reached (what is shared counts as often as it is met; a slice's spare places count too). A statement '..UptoSaid' is the law's where the arguments, and the package variables that the reading takes, are together of bulk at most 1048576: NARROWER than '..Said'. Prove '..Said' where nothing that the law and all that it calls make is longer than what came in: it says more and counts as full. Else prove '..UptoSaid'. A law counts once. -/
mutual
def uptoBulk {H : Type} : DataW H → Nat
  | .lit (.string bytes) => bytes.length + 1
  | .lit _ => 1
  | .nil => 1
  | .ptr d => uptoBulk d + 1
  | .slice elems spare => uptoBulkAll elems + uptoBulkAll spare + 1
  | .agg parts => uptoBulkAll parts + 1
  | .iface _ d => uptoBulk d + 1
  | .map entries => uptoBulkEntries entries + 1
  | .held _ => 1
def uptoBulkAll {H : Type} : List (DataW H) → Nat
  | [] => 0
  | d :: r => uptoBulk d + uptoBulkAll r
def uptoBulkEntries {H : Type} : List (Lit × DataW H) → Nat
  | [] => 0
  | x :: r => uptoBulkEntry x + uptoBulkEntries r
def uptoBulkEntry {H : Type} : Lit × DataW H → Nat
  | (.string bytes, d) => bytes.length + uptoBulk d + 1
  | (_, d) => uptoBulk d + 1
 end
def uptoSmall : (H : Type) → List (DataW H) → Bool := fun _ ds => decide (uptoBulkAll ds ≤ 1048576)
def OpenSpec.upto (s : _root_.Go.ChangeSpec) : _root_.Go.OpenSpec := { _root_.Go.OpenSpec.ofChange s with cond := some uptoSmall }

/-- 'pedigreelaw09.DependLeast', WHERE WHAT IT READS IS OF BULK AT MOST 1048576: true; the input reads as it did. -/
def dependLeastUptoRow : OpenClaim := { program := "ytackadhamghblaagreat", sum := "7b6f48602adcc7c64cf02b997da2638da87a167c0460ea16bd11ed4722684e42", func := "pedigree/pedigreelaw09.DependLeast", spec := "dependLeast", inPlace := ["internal/bytealg.abigen_runtime_cmpstring"], unfollowed := true, recurses := true, loops := true, apart := false, narrowed := true }
def DependLeastUptoSaid : Prop := dependLeastUptoRow.holds Tryz.pinned (OpenSpec.upto dependLeastSpec)

/-- 'pedigreelaw09.DependWays', WHERE WHAT IT READS IS OF BULK AT MOST 1048576: true; the input reads as it did. -/
def dependWaysUptoRow : OpenClaim := { program := "ytackadhamghblaagreat", sum := "7b6f48602adcc7c64cf02b997da2638da87a167c0460ea16bd11ed4722684e42", func := "pedigree/pedigreelaw09.DependWays", spec := "dependWays", inPlace := ["internal/bytealg.abigen_runtime_cmpstring"], unfollowed := true, recurses := true, loops := true, apart := false, narrowed := true }
def DependWaysUptoSaid : Prop := dependWaysUptoRow.holds Tryz.pinned (OpenSpec.upto dependWaysSpec)

end Rows
end Go.Proofs.YtackadhamghblaaGreat
