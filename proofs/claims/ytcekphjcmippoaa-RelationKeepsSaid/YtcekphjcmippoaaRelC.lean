/- slices.Grow of nothing, slices.Concat, of rows. -/
import Derived.Test.YtcekphjcmippoaaRelP
import Derived.Lib.AppendZerosOnto
namespace Go.Proofs.Ytcekphjcmippoaa
open Go.RowKit Go.WideMaps
set_option linter.unusedSimpArgs false
set_option linter.unusedVariables false

theorem wpList_growz {P : Program} {ops : Array Oper} {rest : List Oper} {o : Oper} {a : Act} {Q : Exit → Act → World → Prop} {t tn e : TypeId} {w : World} {k : Nat} {z : Value} {kn : IntKind} (hgd : Region.wanted o (yielded ops a.tmps) = true) (s y : Operand)
    (ho : o.op = .call { callee := .builtin .append, args := #[s, y], argTypes := #[t, tn] }) (ht : P.underlying t = some (.slice e)) (htn : P.underlying tn = some (.int kn))
    (hinfo : (P.info? e).map (fun i => (i.zero, i.size, i.bytes)) = some (some z, 24, 96)) (hz : z.cells.size = 24)
    (hs : a.eval s = .slice none 0 0) (hy : a.eval y = .int .i64 k) (h0 : 0 < k) (hk : k ≤ 1407374883512)
    (h : ∀ cap cur, k ≤ cap → cap ≤ maxLen → cur.size = cap * 24 → wpList P ops Q rest (a.put o.dst (.slice (some ⟨w.heap.size, 0, none⟩) k cap)) (w.drew.alloc (.cells cur e))) : wpList P ops Q (o :: rest) a w := by
  obtain ⟨i, hi, hz', hs', hb⟩ := info_parts hinfo
  have hnext : Builtin.nextslicecap (0 + k) 0 = k := by
    unfold Builtin.nextslicecap
    rw [if_pos (by omega)]; omega
  have hr := Lib.run_append_grow_zeros (P := P) w t tn o.type e i z .i64 kn ht htn hi hz' none 0 0 [] (by simp [run_firstCells_none]) k h0 (by omega) (by omega) (by omega) (by rw [hb]; omega) (by rw [hnext, hb]; omega)
  rw [Nat.zero_add] at hr
  have hg1 := grownCap_ge w k 0 e
  have hg2 := grownCap_le_maxLen w k 0 e (by unfold maxLen; omega)
  have hsz : (([] : List Value).toArray ++ Builtin.zeroCells z.cells k ++ Builtin.zeroCells z.cells (grownCap w k 0 e - k)).size = grownCap w k 0 e * 24 := by
    simp [Builtin.zeroCells, hz]
    rw [← Nat.add_mul]
    congr 1
    omega
  obtain ⟨cur, hcur⟩ : ∃ cur, ([] : List Value).toArray ++ Builtin.zeroCells z.cells k ++ Builtin.zeroCells z.cells (grownCap w k 0 e - k) = cur := ⟨_, rfl⟩
  rw [hcur] at hr hsz
  refine wpList_of_run hgd ?_ (h _ cur hg1 hg2 hsz)
  unfold execOp
  simp only [ho, resolve, invoke, builtin, Sem.run_bind, Sem.run_pure, Result.andThen_ok, List.map_toArray, List.map_cons, List.map_nil, hs, hy, hr]
set_option maxHeartbeats 800000 in
set_option maxRecDepth 100000 in
theorem grow_any (n : Nat) (hn : n ≤ 1407374883512) (B : Nat) (w : World) (hB : B ≤ w.heap.size) :
    Calls Try.prog 67 #[.slice none 0 0, .int .i64 n] w fun e w' => ∃ v, e = .returned v ∧ OwnL 24 B 32 RR w' v [] ∧ Fut w w' := by
  have h1 : ¬ (n : Int) < 0 := by omega
  have h2 : IntKind.i64.wrap (n : Int) = n := by rw [IntKind.wrap_i64]; omega
  by_cases h0 : n = 0
  · subst h0
    go_enter Try.func67, Try.ntmps67
    go_wp2
    go_ret
    exact ⟨_, rfl, OwnL.nil, Fut.refl _⟩
  · have h3 : (0 : Int) < n := by omega
    have h3' : 0 < n := by omega
    go_enter Try.func67, Try.ntmps67
    go_wp2_with (first | (refine wpList_growz (wanted_none rfl _) _ _ rfl Try.underlying25 Try.underlying3 infoR rfl rfl rfl h3' hn ?_; intro cap cur hc1 hc2 hc3))
    go_ret
    have hc4 := hc2
    unfold maxLen at hc4
    refine ⟨_, rfl, ⟨[], rfl, fun i cs x hi => by simp at hi, rfl, .inr ⟨w.heap.size, cap, cur, rfl, hB, heap_alloc_new w.drew _, Nat.zero_le _, hc2, hc3, by simp⟩⟩, (Fut.drew w).trans (Fut.alloc _ _)⟩
/-- Rows of any make. -/
abbrev Rws : World → Value → List Rw → Prop := SlRep 24 9223372036854775807 RR
def RRs (w : World) (cs : List Value) (xs : List Rw) : Prop := ∃ u, cs = [u] ∧ Rws w u xs
theorem RRs.stays : Stays RRs := fun _ _ _ _ hf ⟨v, h1, h2⟩ => ⟨v, h1, h2.fut RR.stays hf⟩
theorem rws_at {w : World} {A : Option Addr} {n cap M : Nat} {ss : List (List Rw)} (h : SlRep 1 M RRs w (.slice A n cap) ss) {k : Nat} (hk : k < ss.length) :
    ∃ b off A' cap', A = some ⟨b, off, none⟩ ∧ w.cell? ⟨b, off + k, none⟩ = some (.slice A' (ss[k]).length cap') ∧ (ss[k]).length ≤ cap' ∧ cap' ≤ 9223372036854775807 ∧ Rws w (.slice A' (ss[k]).length cap') ss[k] := by
  obtain ⟨A1, cap1, hv, _, _, h3⟩ := h
  obtain ⟨b, off, cs, hA, hl, hc, u, hr, hu⟩ := h3 k _ (List.getElem?_eq_getElem hk)
  injection hv with hv _ _
  subst hr
  obtain ⟨A', cap', rfl, h4, h5⟩ := SlRep.form hu
  exact ⟨b, off, A', cap', hv.trans hA, by have := hc 0 _ rfl; simpa using this, h4, h5, hu⟩
def sumL (ss : List (List Rw)) : Nat := ss.flatten.length
theorem sumL_take (ss : List (List Rw)) (k : Nat) (hk : k < ss.length) : sumL (ss.take (k + 1)) = sumL (ss.take k) + (ss[k]).length := by
  unfold sumL
  rw [List.take_succ_eq_append_getElem hk, List.flatten_append, List.length_append]; simp
theorem sumL_le (ss : List (List Rw)) (k : Nat) : sumL (ss.take k) ≤ sumL ss := by
  conv => rhs; rw [← List.take_append_drop k ss]
  unfold sumL
  rw [List.flatten_append, List.length_append]; omega
set_option maxHeartbeats 1600000 in
set_option maxRecDepth 100000 in
theorem concat_any (v : Value) (ss : List (List Rw)) (w : World) (h : SlRep 1 1000 RRs w v ss) (hl : sumL ss ≤ 1407374883512) (B : Nat) (hB : B ≤ w.heap.size) :
    Calls Try.prog 56 #[v] w fun e w' => ∃ u, e = .returned u ∧ OwnL 24 B 32 RR w' u ss.flatten ∧ Fut w w' := by
  have H := Lib.hid h
  obtain ⟨A, cap, rfl, hc1, hc2⟩ := h.form
  clear h
  go_enter Try.func56, Try.ntmps56
  go_wp2
  go_loopw [3, 11] (fun sz i wr => ∃ k : Nat, k ≤ ss.length ∧ i = .int .i64 k ∧ sz = .int .i64 (sumL (ss.take k)) ∧ wr = w) (fun _ i _ => ss.length - (intOf i).toNat)
  case atStart => exact ⟨0, Nat.zero_le _, rfl, by simp [sumL], by trivial⟩
  case round =>
    obtain ⟨k, hk, rfl, rfl, hwr⟩ := hrel
    have hwr' := hwr.symm
    subst hwr'
    by_cases hlt : k < ss.length
    · obtain ⟨b, off, A', cp, rfl, x0, _, _, _⟩ := rws_at H.out hlt
      have hle := sumL_le ss (k + 1)
      have hs := sumL_take ss k hlt
      have e1 : (0 : Int) ≤ k ∧ (k : Int) < ss.length := by omega
      have e2 : IntKind.i64.wrap ((sumL (ss.take k) : Int) + (ss[k]).length) = (sumL (ss.take (k + 1)) : Nat) := by rw [IntKind.wrap_i64]; omega
      have e3 : ¬ ((sumL (ss.take (k + 1)) : Nat) : Int) < 0 := by omega
      go_wp2
      go_roundw
      case rel => exact ⟨k + 1, by omega, by go_num, by rw [hs, Int.natCast_add], by trivial⟩
      case measure => simp [intOf] <;> omega
    · obtain rfl : k = ss.length := by omega
      rw [List.take_length]
      go_wp2_with fail
      refine (grow_any _ hl w.heap.size _ (Nat.le_refl _)).mono ?_
      rintro e w1 ⟨v1, rfl, hO1, f1⟩
      have HO1 := Lib.hid hO1
      have F1 := Lib.hid f1
      clear hO1 f1
      go_wp2
      go_loopw [6, 27] (fun s i wr => ∃ k : Nat, k ≤ ss.length ∧ i = .int .i64 k ∧ Hid (OwnL 24 w.heap.size 32 RR wr s (ss.take k).flatten) ∧ Hid (Fut w wr)) (fun _ i _ => ss.length - (intOf i).toNat)
      case atStart => exact ⟨0, Nat.zero_le _, rfl, Lib.hid (by simpa using HO1.out), F1⟩
      case round =>
        obtain ⟨k, hk, rfl, hO, hF⟩ := hrel
        by_cases hlt : k < ss.length
        · obtain ⟨b, off, A', cp, rfl, x0, _, _, hu⟩ := rws_at (H.out.fut RRs.stays hF.out) hlt
          have hle := sumL_le ss (k + 1)
          have hs := sumL_take ss k hlt
          have e1 : (0 : Int) ≤ k ∧ (k : Int) < ss.length := by omega
          have hOk := hO.out
          have hBq : w.heap.size ≤ wr.heap.size := hF.out.size
          have hlen : (ss.take k).flatten.length + (ss[k]).length ≤ 1407374883512 := by unfold sumL at hs hle hl; omega
          go_wp2_with (first | (refine wpList_append_R (wanted_none rfl _) _ _ rfl Try.underlying25 infoR rfl rfl hOk hu hlen hBq ?_; intro v7 w7 hO7 hG7 hB7))
          go_roundw
          case rel =>
            refine ⟨k + 1, by omega, by go_num, Lib.hid ?_, Lib.hid (hF.out.grown hG7 fun j hj => ?_)⟩
            · rw [List.take_succ_eq_append_getElem hlt, List.flatten_append]
              simpa using hO7
            · exact (hOk.block j hj).1
          case measure => simp [intOf] <;> omega
        · obtain rfl : k = ss.length := by omega
          go_wp2
          go_ret
          have hO2 := hO.out
          rw [List.take_length] at hO2
          exact ⟨_, rfl, hO2.base hB, hF.out⟩
end Go.Proofs.Ytcekphjcmippoaa
