/- RelationSplits: a Clone and its first one go their own ways: WHERE WHAT COMES IN IS OF BULK AT MOST 1048576. -/
import Derived.Test.YtcekphjcmippoaaRelReads
namespace Go.Proofs.Ytcekphjcmippoaa
open Go.RowKit Go.WideMaps Go.ChangeShapes Go.WideShapes Go.ChangeAt Go.Deep
set_option linter.unusedSimpArgs false
set_option linter.unusedVariables false
set_option maxRecDepth 100000

theorem rTn : Reads Try.prog 34 RTn := by
  intro H enc w base held fuel cs x h hn
  have hl := (reads_len Try.underlying34 h).trans (show Try.prog.cellsOf 34 = 25 by kernel_rfl)
  obtain ⟨b, e0⟩ := reads_field Try.underlying34 h hn 0 rfl (reads_bool Try.underlying4)
  obtain ⟨r, e1, hr⟩ := reads_field Try.underlying34 h hn 1 rfl (reads_row rowTy)
  have c0 : Try.prog.cellsOf 4 = 1 := by kernel_rfl
  have c1 : Try.prog.cellsOf 32 = 24 := by kernel_rfl
  have g0 : (cs.drop 0).take 1 = [Value.bool b] := by rw [← c0]; exact e0
  have g1 : (cs.drop 1).take 24 = r.cells := by rw [← c1]; exact e1
  clear e0 e1
  refine ⟨⟨b, r⟩, ?_, hr⟩
  cases cs with
  | nil => simp at hl
  | cons c cs =>
    simp at g0 g1 hl
    subst g0
    rw [← g1, List.take_of_length_le (by omega)]
theorem rTns : Reads Try.prog 22 (SlR 25 1407374883512 RTn) :=
  reads_slice Try.underlying22 (by kernel_rfl) (by omega) (fun c h => by
    have hb : Try.prog.bytesOf 34 = 100 := by kernel_rfl
    rw [hb] at h; unfold reachBytes at h; omega) rTn

theorem bulk_one {H : Type} (d : DataW H) : 1 ≤ Rows.uptoBulk d := by
  cases d with
  | lit l => cases l <;> simp [Rows.uptoBulk]
  | nil => simp [Rows.uptoBulk]
  | ptr d => simp [Rows.uptoBulk]
  | slice elems spare => simp [Rows.uptoBulk]
  | agg parts => simp [Rows.uptoBulk]
  | iface t d => simp [Rows.uptoBulk]
  | map entries => simp [Rows.uptoBulk]
  | held h => simp [Rows.uptoBulk]
theorem bulk_len {H : Type} (l : List (DataW H)) : l.length ≤ Rows.uptoBulkAll l := by
  induction l with
  | nil => simp [Rows.uptoBulkAll]
  | cons x r ih => have := bulk_one x; simp only [Rows.uptoBulkAll, List.length_cons]; omega
theorem bulk_slice {H : Type} {enc : TypeId × Value → H} {P : Program} {w : World} {t e : TypeId} {α : Type} {sz M : Nat} {R : World → List Value → α → Prop} {v : Value} {xs : List α} {d : DataW H} {ps : List MemPlace}
    (ht : P.underlying t = some (.slice e)) (h : DataW.Trod enc P w 0 (fun _ => true) true t v d ps) (hv : SlRep sz M R w v xs) : xs.length ≤ Rows.uptoBulk d := by
  obtain ⟨fuel, hf⟩ := h
  obtain ⟨A, cap, rfl, _⟩ := hv
  rcases open_slice ht hf with ⟨h1, _⟩ | ⟨a, len, cap', m, n, D, Pl, hcs, _, _, _, _, hx, _⟩
  · simp [Value.cells] at h1
    omega
  · simp [Value.cells] at hcs
    injection hx with hx1 _
    subst hx1
    have := bulk_len ((List.range len).map D)
    simp only [List.length_map, List.length_range] at this
    simp only [Rows.uptoBulk]
    omega
theorem RelationSplits_own : ownKnob Try.prog.godebug = none := by kernel_rfl
theorem RelationSplits_laidOut : laidOutB Try.prog = true := by kernel_rfl
theorem RelationSplits_row_walk {H : Type} {enc : TypeId × Value → H} (W : World) (base : Nat) (args : Array Value) (ds : List (DataW H)) (p : List MemPlace)
    (hval : ∀ (j : Nat) t v, (#[22, 22, 22] : Array Nat)[j]? = some t → args[j]? = some v → Value.okWide Try.prog W .any base t v)
    (hA : DataW.TrodAll enc Try.prog W 0 (fun _ => true) true [22, 22, 22] args.toList ds p) (hS : (DataW.weightsEach Try.prog [22, 22, 22] ds).all (fun n => decide (n ≤ reachBytes)) = true) (hk : Rows.uptoSmall H ds = true) :
    Calls Try.prog 3 args W fun e W' => e = .returned (.bool true) ∧ Fut W W' := by
  obtain ⟨v0, vs0, d0, ds0, p0, q0, hargs, rfl, rfl, h0, r0⟩ := trodAll_cons hA
  obtain ⟨v1, vs1, d1, ds1, p1, q1, rfl, rfl, rfl, h1, r1⟩ := trodAll_cons r0
  obtain ⟨v2, vs2, d2, ds2, p2, q2, rfl, rfl, rfl, h2, r2⟩ := trodAll_cons r1
  obtain ⟨rfl, rfl, rfl⟩ := trodAll_nil r2
  obtain rfl : args = #[v0, v1, v2] := Array.ext' (by simpa using hargs)
  have k0 := hval 0 22 v0 rfl rfl
  have k1 := hval 1 22 v1 rfl rfl
  have k2 := hval 2 22 v2 rfl rfl
  have s0 := weights_arg hS 0 rfl rfl
  have s1 := weights_arg hS 1 rfl rfl
  have s2 := weights_arg hS 2 rfl rfl
  clear hval hA hS
  obtain ⟨l, hl⟩ := reads_arg rTns h0 s0
  have hl := arg_slice hl Try.underlying22 k0
  obtain ⟨m, hm⟩ := reads_arg rTns h1 s1
  have hm := arg_slice hm Try.underlying22 k1
  obtain ⟨n, hn⟩ := reads_arg rTns h2 s2
  have hn := arg_slice hn Try.underlying22 k2
  have hb : Rows.uptoBulkAll [d0, d1, d2] ≤ 1048576 := of_decide_eq_true hk
  simp only [Rows.uptoBulkAll] at hb
  have b0 := bulk_slice Try.underlying22 h0 hl
  have b1 := bulk_slice Try.underlying22 h1 hm
  have b2 := bulk_slice Try.underlying22 h2 hn
  exact splits_walk v0 v1 v2 l m n W _ hl hm hn (by omega) (by omega) (by omega)
set_option maxRecDepth 100000 in
theorem RelationSplits_lifted (os : Os) (started : os.Started) (H : Type) (enc : TypeId × Value → H) (F : Stop.Interp) :
    ReturnsInHanded {} Try.checked os 3 .any ((Rows.OpenSpec.upto Rows.relationSplitsSpec).pre6 enc Try.prog Try.f3 Rows.relationSplitsUptoRow.domain false) (((Rows.OpenSpec.upto Rows.relationSplitsSpec).at F).post enc Try.prog Try.f3 false true false false) := by
  refine returnsInHanded_of_cond_sized (C := Try.checked) (s := Rows.OpenSpec.upto Rows.relationSplitsSpec) (k := Rows.uptoSmall) rfl RelationSplits_own started (by kernel_rfl) Try.func3
    (OpenSpec.witness (enc := enc) (C := Try.checked) (s := Rows.OpenSpec.upto Rows.relationSplitsSpec) (k := Rows.uptoSmall) rfl false ⟨#[], #[.slice none 0 0, .slice none 0 0, .slice none 0 0], []⟩ 8 (by kernel_rfl) (by kernel_rfl) (by kernel_rfl)
      (x := ([.nil,.nil,.nil],[],[])) (by kernel_rfl) rfl (by kernel_rfl)) ?_
  intro W base args ds gs before hval0 hW _ hk hsz _
  have hW' := hW
  obtain ⟨p, q, hA0, hV, rfl, _, _⟩ := hW
  have hA : DataW.TrodAll enc Try.prog W 0 (fun _ => true) true [22, 22, 22] args.toList ds p := hA0
  obtain ⟨rfl, rfl⟩ := trodVars_none hV
  rw [List.append_nil] at hsz hk
  refine (RelationSplits_row_walk W base args ds p hval0 hA hsz hk).mono fun e W' ⟨he, hf⟩ => ?_
  subst he
  obtain ⟨v0, vs0, d0, ds0, p0, q0, _, rfl, _, _, r0⟩ := trodAll_cons hA
  obtain ⟨v1, vs1, d1, ds1, p1, q1, _, rfl, _, _, r1⟩ := trodAll_cons r0
  obtain ⟨v2, vs2, d2, ds2, p2, q2, _, rfl, _, _, r2⟩ := trodAll_cons r1
  obtain ⟨_, rfl, _⟩ := trodAll_nil r2
  exact ⟨_, rfl, law_post (tb := 4) RelationSplits_laidOut hW' rfl (by kernel_rfl) rfl Try.underlying4 rfl rfl rfl hf⟩
theorem RelationSplits_holds : Rows.RelationSplitsUptoSaid :=
  OpenClaim.holds_of_cond 3 Try.f3 rfl rfl rfl rfl rfl rfl rfl ⟨rfl, rfl, rfl, rfl, rfl⟩ rfl rfl rfl rfl rfl (by kernel_rfl) Try.func3 (by kernel_rfl)
    (of_decide_eq_true (by kernel_rfl)) (by unfold Func.isWrapper; first | (rw [if_pos (by decide +kernel)]; kernel_rfl) | (rw [if_neg (by decide +kernel)]; exact ⟨rfl, rfl⟩))
    (fun os started H enc _ F => RelationSplits_lifted os started H enc F)
#print axioms RelationSplits_holds
end Go.Proofs.Ytcekphjcmippoaa
