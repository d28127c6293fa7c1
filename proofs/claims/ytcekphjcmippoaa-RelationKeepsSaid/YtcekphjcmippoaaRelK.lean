/- slices.Clone of rows; Range: its iterator. -/
import Derived.Test.YtcekphjcmippoaaRelU
import Derived.Lib.SliceRun
namespace Go.Proofs.Ytcekphjcmippoaa
open Go.RowKit Go.WideMaps
set_option linter.unusedSimpArgs false
set_option linter.unusedVariables false

theorem SlRep.empty0 {α : Type} {sz M : Nat} {R : World → List Value → α → Prop} {w : World} {n cap : Nat} {xs : List α} (h : SlRep sz M R w (.slice none n cap) xs) : xs = [] := by
  obtain ⟨A, cap', hv, _, _, hx⟩ := h
  cases xs with
  | nil => rfl
  | cons y r =>
    obtain ⟨_, _, _, hA, _⟩ := hx 0 y rfl
    injection hv with e1
    rw [← e1] at hA; cases hA
theorem own_made0 {B : Nat} {e : TypeId} (w : World) (hB : B ≤ w.heap.size) : OwnL 24 B e RR (w.alloc (.cells #[] e)) (.slice (some ⟨w.heap.size, 0, none⟩) 0 0) [] :=
  ⟨[], rfl, fun i cs x hi => by simp at hi, World.ownsRow_made w #[] 0 hB (Nat.zero_le _) (by simp)⟩
set_option maxHeartbeats 800000 in
set_option maxRecDepth 100000 in
theorem clone_R (v : Value) (xs : List Rw) (w : World) (h : Rws w v xs) (hl : xs.length ≤ 1407374883512) :
    Calls Try.prog 36 #[v] w fun e w' => ∃ u, e = .returned u ∧ OwnL 24 w.heap.size 32 RR w' u xs ∧ Fut w w' := by
  have H := Lib.hid h
  obtain ⟨A, cap, rfl, hc1, hc2⟩ := h.form
  clear h
  have q22 : ∀ (w : World) (a : Option Addr) (n c n' c' : Nat), (binOp .eql 25 (.slice a n c) (.slice none n' c')).run Try.prog w = .ok (.bool a.isNone) w := fun w a n c n' c' => Lib.run_eql_slice_nil w _ _ a n c n' c' Try.underlying25
  cases A with
  | none =>
    have hx := H.out.empty0
    subst hx
    go_enter Try.func36, Try.ntmps36
    go_wp2
    go_ret
    exact ⟨_, rfl, OwnL.nil, Fut.refl _⟩
  | some a =>
    go_enter Try.func36, Try.ntmps36
    have hO := own_made0 (e := 32) w (Nat.le_refl _)
    have hu := H.out.fut RR.stays (Fut.alloc w (.cells #[] 32))
    have hs : w.heap.size ≤ (w.alloc (.cells #[] 32)).heap.size := by simp
    go_wp2_with (first | (refine wpList_append_R (wanted_none rfl _) _ _ rfl Try.underlying25 infoR rfl rfl hO hu (by simpa using hl) hs ?_; intro v7 w7 hO7 hG7 hB7))
    go_ret
    refine ⟨_, rfl, hO7, (Fut.alloc w (.cells #[] 32)).grown hG7 fun j hj => ?_⟩
    cases hj; exact Nat.le_refl _
end Go.Proofs.Ytcekphjcmippoaa
