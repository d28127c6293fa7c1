/- RelationPicks: Select by no column tells all numbers, by all columns the one row that is the same, by some columns just the rows that are the same there, by more columns fewer. -/
import Derived.Test.YtcekphjcmippoaaRelTurns
import Derived.Test.YtcekphjcmippoaaRelPicks
namespace Go.Proofs.Ytcekphjcmippoaa
open Go.RowKit Go.WideMaps Go.ChangeShapes Go.WideShapes Go.ChangeAt Go.Deep
set_option linter.unusedSimpArgs false
set_option linter.unusedVariables false
set_option maxRecDepth 100000

structure Pk where
  turns : List Tn
  mask : Nat
  more : Nat
  row : Rw
def RPk (w : World) (cs : List Value) (p : Pk) : Prop := ∃ v, cs = pickCells v p.mask p.more p.row ∧ SlRep 25 1407374883512 RTn w v p.turns ∧ p.mask < 2 ^ 32 ∧ p.more < 2 ^ 32 ∧ Rw.ok p.row
theorem wf_u32 {a : Int} (h : (Lit.int .u32 a).wf = true) : 0 ≤ a ∧ a ≤ 4294967295 := by simpa [Lit.wf, IntKind.min, IntKind.max, IntKind.signed, IntKind.bits] using h
theorem rPk : Reads Try.prog 45 RPk := by
  intro H enc w base held fuel cs x h hn
  have hl := (reads_len Try.underlying45 h).trans (show Try.prog.cellsOf 45 = 27 by kernel_rfl)
  obtain ⟨l, v, e0, hv⟩ := reads_field Try.underlying45 h hn 0 rfl rTns
  obtain ⟨m, e1, w1⟩ := reads_field Try.underlying45 h hn 1 rfl (reads_int Try.underlying43)
  obtain ⟨n, e2, w2⟩ := reads_field Try.underlying45 h hn 2 rfl (reads_int Try.underlying43)
  obtain ⟨r, e3, hr⟩ := reads_field Try.underlying45 h hn 3 rfl (reads_row rowTy)
  have c0 : Try.prog.cellsOf 22 = 1 := by kernel_rfl
  have c1 : Try.prog.cellsOf 43 = 1 := by kernel_rfl
  have c3 : Try.prog.cellsOf 32 = 24 := by kernel_rfl
  have g0 : (cs.drop 0).take 1 = [v] := by rw [← c0]; exact e0
  have g1 : (cs.drop 1).take 1 = [Value.int .u32 m] := by rw [← c1]; exact e1
  have g2 : (cs.drop 2).take 1 = [Value.int .u32 n] := by rw [← c1]; exact e2
  have g3 : (cs.drop 3).take 24 = r.cells := by rw [← c3]; exact e3
  clear e0 e1 e2 e3
  have w1 := wf_u32 w1
  have w2 := wf_u32 w2
  refine ⟨⟨l, m.toNat, n.toNat, r⟩, v, ?_, hv, by simp only; omega, by simp only; omega, hr⟩
  match cs, hl, g0, g1, g2, g3 with
  | a :: b :: c :: cs, hl, g0, g1, g2, g3 =>
    simp at g0 g1 g2 g3 hl
    subst g0 g1 g2
    rw [List.take_of_length_le (by omega)] at g3
    show a :: Value.int .u32 m :: Value.int .u32 n :: cs = a :: .int .u32 (m.toNat : Int) :: .int .u32 (n.toNat : Int) :: Rw.cells r
    rw [Int.toNat_of_nonneg w1.1, Int.toNat_of_nonneg w2.1, g3]
theorem RelationPicks_own : ownKnob Try.prog.godebug = none := by kernel_rfl
theorem RelationPicks_laidOut : laidOutB Try.prog = true := by kernel_rfl
theorem RelationPicks_row_walk {H : Type} {enc : TypeId × Value → H} (W : World) (base : Nat) (args : Array Value) (ds : List (DataW H)) (p : List MemPlace)
    (hval : ∀ (j : Nat) t v, (#[45] : Array Nat)[j]? = some t → args[j]? = some v → Value.okWide Try.prog W .any base t v)
    (hA : DataW.TrodAll enc Try.prog W 0 (fun _ => true) true [45] args.toList ds p) (hS : (DataW.weightsEach Try.prog [45] ds).all (fun n => decide (n ≤ reachBytes)) = true) :
    Calls Try.prog 4 args W fun e W' => e = .returned (.bool true) ∧ Fut W W' := by
  obtain ⟨v0, vs0, d0, ds0, p0, q0, hargs, rfl, rfl, h0, r0⟩ := trodAll_cons hA
  obtain ⟨rfl, rfl, rfl⟩ := trodAll_nil r0
  obtain rfl : args = #[v0] := by cases args; simp_all
  have k0 := hval 0 45 v0 rfl rfl
  have s0 := weights_arg hS 0 rfl rfl
  clear hval hA hS
  obtain ⟨x, v, e, hv, hm, hn, hr⟩ := reads_arg rPk h0 s0
  obtain ⟨cs, rfl⟩ := arg_struct Try.underlying45 k0
  obtain ⟨cs⟩ := cs
  have e' : cs = pickCells v x.mask x.more x.row := by simpa [Value.cells] using e
  subst e'
  exact picks_walk v x.turns x.mask x.more hm hn x.row hr W _ hv hv.len
set_option maxRecDepth 100000 in
theorem RelationPicks_lifted (os : Os) (started : os.Started) (H : Type) (enc : TypeId × Value → H) :
    ReturnsInHanded {} Try.checked os 4 .any (Rows.relationPicksSpec.pre6 enc Try.prog Try.f4 Rows.relationPicksRow.domain false) (Rows.relationPicksSpec.post enc Try.prog Try.f4 false true false false) := by
  refine returnsInHanded_of_change_sized (C := Try.checked) RelationPicks_own started (by kernel_rfl) Try.func4
    (ChangeSpec.witness6 (enc := enc) (C := Try.checked) false ⟨#[], #[.agg (pickCells (.slice none 0 0) 0 0 zeroRow).toArray], []⟩ 8 (by kernel_rfl) (by kernel_rfl) (by kernel_rfl) (by kernel_rfl)) ?_
  intro W base args ds gs before hval0 hW _ hsz _
  have hW' := hW
  obtain ⟨p, q, hA0, hV, rfl, _, _⟩ := hW
  have hA : DataW.TrodAll enc Try.prog W 0 (fun _ => true) true [45] args.toList ds p := hA0
  obtain ⟨rfl, rfl⟩ := trodVars_none hV
  rw [List.append_nil] at hsz
  refine (RelationPicks_row_walk W base args ds p hval0 hA hsz).mono fun e W' ⟨he, hf⟩ => ?_
  subst he
  obtain ⟨v0, vs0, d0, ds0, p0, q0, _, rfl, _, _, r0⟩ := trodAll_cons hA
  obtain ⟨_, rfl, _⟩ := trodAll_nil r0
  exact ⟨_, rfl, law_post (tb := 4) RelationPicks_laidOut hW' rfl (by kernel_rfl) rfl Try.underlying4 rfl rfl rfl hf⟩
theorem RelationPicks_holds : Rows.RelationPicksSaid :=
  OpenClaim.holds_of_wide 4 Try.f4 rfl rfl rfl rfl rfl rfl rfl ⟨rfl, rfl, rfl, rfl, rfl⟩ rfl rfl rfl rfl rfl (by kernel_rfl) Try.func4 (by kernel_rfl)
    (of_decide_eq_true (by kernel_rfl)) (by unfold Func.isWrapper; first | (rw [if_pos (by decide +kernel)]; kernel_rfl) | (rw [if_neg (by decide +kernel)]; exact ⟨rfl, rfl⟩))
    (fun os started H enc _ => RelationPicks_lifted os started H enc)
#print axioms RelationPicks_holds
end Go.Proofs.Ytcekphjcmippoaa
