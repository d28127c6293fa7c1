/- The document's Right. -/
import Derived.Test.YtcekphjcmippoaaRelL
namespace Go.Proofs.Ytcekphjcmippoaa
open Go.RowKit Go.WideMaps
set_option linter.unusedSimpArgs false
set_option linter.unusedVariables false

/-- Are the columns below k what they must be? -/
def rightK (n : Nat) (x : Rw) (k : Nat) : Prop := ∀ i (h : i < x.length), i < k → 0 ≤ x[i] ∧ (n ≤ i → x[i] = 0)
theorem right_iff {n : Nat} {x : Rw} : rightP n x = true ↔ rightK n x x.length := by
  unfold rightP rightK
  simp only [Bool.and_eq_true, List.all_eq_true, decide_eq_true_eq]
  constructor
  · rintro ⟨h1, h2⟩ i hi _
    refine ⟨h1 _ (List.getElem_mem hi), fun hn => h2 _ ?_⟩
    rw [List.mem_iff_getElem]
    exact ⟨i - n, by simp; omega, by rw [List.getElem_drop]; congr 1; omega⟩
  · intro h
    refine ⟨fun a ha => ?_, fun a ha => ?_⟩
    · obtain ⟨i, hi, rfl⟩ := List.getElem_of_mem ha
      exact (h i hi hi).1
    · obtain ⟨i, hi, rfl⟩ := List.getElem_of_mem ha
      rw [List.length_drop] at hi
      rw [List.getElem_drop]
      exact (h (n + i) (by omega) (by omega)).2 (by omega)
set_option maxHeartbeats 1600000 in
set_option maxRecDepth 100000 in
theorem right10_any (n : Nat) (x : Rw) (hx : Rw.ok x) (w : World) :
    Calls Try.prog 29 #[Rw.val x, .int .i64 n] w fun e w' => e = .returned (.bool (rightP n x)) ∧ Fut w w' := by
  have X := Lib.hid hx
  have hxl := hx.1
  clear hx
  unfold Rw.val
  go_enter Try.func29, Try.ntmps29
  go_wp2
  have hr := RowAt.new w 32 X.out
  have F1 := Fut.alloc w (.cells (Rw.cells x).toArray 32)
  obtain ⟨W1, hW⟩ : ∃ W1, w.alloc (.cells (Rw.cells x).toArray 32) = W1 := ⟨_, rfl⟩
  rw [hW] at hr F1 ⊢
  clear hW
  have HC := Lib.hid (show ∀ k (h : k < x.length), W1.cell? ⟨w.heap.size, 0 + k, none⟩ = some (.int .i32 x[k]) from fun k hk => hr.2 k _ (by simp [Rw.cells, hk]))
  clear hr
  go_loopw [5] (fun i wr => ∃ k : Nat, k ≤ 24 ∧ i = .int .i64 k ∧ Hid (rightK n x k) ∧ wr = W1) (fun i _ => 24 - (intOf i).toNat)
  case atStart => exact ⟨0, Nat.zero_le _, rfl, Lib.hid (fun i _ h => by omega), by trivial⟩
  case round =>
    obtain ⟨k, hk, rfl, hK, hwr⟩ := hrel
    have hwr' := hwr.symm
    subst hwr'
    by_cases hlt : k < 24
    · have ck := HC.out k (by omega)
      rw [Nat.zero_add] at ck
      have e1 : (0 : Int) ≤ k ∧ (k : Int) < 24 := by omega
      have hlt' : (k : Int) < 24 := by omega
      by_cases h1 : x[k] < 0
      · have hf : rightP n x = false := by
          cases hp : rightP n x with
          | false => rfl
          | true => have := (right_iff.1 hp k (by omega) (by omega)).1; omega
        go_wp2
        go_ret
        exact ⟨by first | rfl | (rw [hf]; rfl), F1⟩
      · by_cases h2 : (n : Int) ≤ k ∧ x[k] ≠ 0
        · have hf : rightP n x = false := by
            cases hp : rightP n x with
            | false => rfl
            | true => have := (right_iff.1 hp k (by omega) (by omega)).2 (by omega); exact absurd this h2.2
          have h3 := h2.1
          have h4 := h2.2
          go_wp2
          go_ret
          exact ⟨by first | rfl | (rw [hf]; rfl), F1⟩
        · have h3 : rightK n x (k + 1) := fun i hi hik => by
            by_cases hik' : i < k
            · exact hK.out i hi hik'
            · obtain rfl : i = k := by omega
              refine ⟨by omega, fun hn => ?_⟩
              by_cases h0 : x[i] = 0
              · exact h0
              · exact absurd ⟨by omega, h0⟩ h2
          by_cases h5 : (n : Int) ≤ k
          · have h6 : x[k] = 0 := by
              by_cases h0 : x[k] = 0
              · exact h0
              · exact absurd ⟨h5, h0⟩ h2
            rw [h6] at ck h1
            go_wp2
            go_roundw
            case rel => exact ⟨k + 1, by omega, by go_num, Lib.hid h3, by trivial⟩
            case measure => simp [intOf] <;> omega
          · go_wp2
            go_roundw
            case rel => exact ⟨k + 1, by omega, by go_num, Lib.hid h3, by trivial⟩
            case measure => simp [intOf] <;> omega
    · obtain rfl : k = 24 := by omega
      have ht : rightP n x = true := right_iff.2 (by rw [hxl]; exact hK.out)
      go_wp2
      go_ret
      exact ⟨by first | rfl | (rw [ht]; rfl), F1⟩
end Go.Proofs.Ytcekphjcmippoaa
