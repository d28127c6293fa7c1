/- Relation.Add. -/
import Derived.Test.YtcekphjcmippoaaRelP
namespace Go.Proofs.Ytcekphjcmippoaa
open Go.RowKit Go.WideMaps
set_option linter.unusedSimpArgs false
set_option linter.unusedVariables false

def addL (ar : Nat) (xs : List Rw) (x : Rw) : List Rw := if (rightP ar x && !decide (x ∈ xs)) = true then xs ++ [x] else xs
def rowErr : Bool → Int
  | true => 0
  | false => 100
set_option maxHeartbeats 1600000 in
set_option maxRecDepth 100000 in
theorem add_any {B : Nat} {w : World} {b pb mb : Nat} {lv : Value} {ar gone : Nat} {xs : List Rw} (h : RelI B w b pb mb lv ar gone xs) (hB : B ≤ w.heap.size) (x : Rw) (hx : Rw.ok x) (hl : xs.length < 1407374883512) :
    Calls Try.prog 15 #[.pointer (some ⟨b, 0, none⟩), Rw.val x] w fun e w' => e = .returned (.tuple #[.bool (rightP ar x && !decide (x ∈ xs)), .int .i64 (rowErr (rightP ar x))]) ∧
      ∃ lv', RelI B w' b pb mb lv' ar gone (addL ar xs x) ∧ Only (pfoot pb mb lv) w w' ∧ ∀ k, lv'.ownBlock = some k → pfoot pb mb lv k ∨ w.heap.size ≤ k := by
  have H := Lib.hid h
  have X := Lib.hid hx
  clear h hx
  unfold Rw.val
  go_enter Try.func15, Try.ntmps15
  go_wp2_with fail
  have hr := RowAt.new w 32 X.out
  have F1 := Fut.alloc w (.cells (Rw.cells x).toArray 32)
  obtain ⟨W1, hW⟩ : ∃ W1, w.alloc (.cells (Rw.cells x).toArray 32) = W1 := ⟨_, rfl⟩
  rw [hW] at hr F1 ⊢
  clear hW
  refine (there_any (H.out.fut F1)).mono ?_
  rintro e w1 ⟨rfl, hw1⟩
  have hw2 := hw1.symm
  subst hw2
  go_wp2_with (first | (refine wpList_load_R rowTy (wanted_none rfl _) _ rfl rfl hr ?_))
  have hRA := right_any (H.out.fut F1).blk H.out.wide x X.out
  obtain ⟨rp, hR⟩ : ∃ r, rightP ar x = r := ⟨_, rfl⟩
  rw [hR] at hRA
  refine hRA.mono ?_
  clear hRA
  rintro e w2 ⟨rfl, f2⟩
  have F2 := F1.trans f2
  cases rp with
  | false =>
    go_wp2
    go_ret2
    have e1 : addL ar xs x = xs := by unfold addL; rw [hR]; rfl
    rw [e1]
    exact ⟨by rw [hR]; rfl, _, H.out.fut F2, Only.fut F2, fun k hk => .inl (.inr (.inr hk))⟩
  | true =>
    have hr2 := hr.fut f2
    have c2 := F2.cell (cell_at H.out.blk 2 _ rfl)
    go_wp2_with fail
    refine wp_graph 5 [.d, .d, .d, .d, .d] (by kernel_rfl) (by kernel_rfl) (by kernel_rfl) ?_
    simp only [List.take_succ_cons, List.take_zero, List.drop_succ_cons, List.drop_zero, Exs]
    iterate 5 apply Exists.intro
    apply Run.valG (wanted_none rfl _)
    · intro w1 h1 hk
      have q2 := h1.cell c2; have hg := (Fut.drew _).trans h1
      have hcw := fun b o => Below.cell (p := ⟨b, o, none⟩) h1
      go_simp; rfl
    simp only [Act.put, List.setIfInBounds_toArray, List.set_cons_succ, List.set_cons_zero, List.nil_append, List.cons_append]
    apply Run.valG (wanted_none rfl _)
    · intro w1 h1 hk
      have q2 := h1.cell c2; have hg := (Fut.drew _).trans h1
      have hcw := fun b o => Below.cell (p := ⟨b, o, none⟩) h1
      go_simp; rfl
    simp only [Act.put, List.setIfInBounds_toArray, List.set_cons_succ, List.set_cons_zero, List.nil_append, List.cons_append]
    apply Run.valG (wanted_none rfl _)
    · intro w1 h1 hk
      have q2 := h1.cell c2; have hg := (Fut.drew _).trans h1
      have hcw := fun b o => Below.cell (p := ⟨b, o, none⟩) h1
      go_simp; rfl
    simp only [Act.put, List.setIfInBounds_toArray, List.set_cons_succ, List.set_cons_zero, List.nil_append, List.cons_append]
    apply Run.valG (wanted_none rfl _)
    · intro w1 h1 hk
      have q2 := h1.cell c2; have hg := (Fut.drew _).trans h1
      have hcw := fun b o => Below.cell (p := ⟨b, o, none⟩) h1
      go_simp; rfl
    simp only [Act.put, List.setIfInBounds_toArray, List.set_cons_succ, List.set_cons_zero, List.nil_append, List.cons_append]
    apply Run.valG (wanted_none rfl _)
    · intro w1 h1 hk
      have q2 := h1.cell c2; have hg := (Fut.drew _).trans h1
      have hcw := fun b o => Below.cell (p := ⟨b, o, none⟩) h1
      exact exec_load_R rowTy _ rfl rfl (hr2.fut hg)
    simp only [Act.put, List.setIfInBounds_toArray, List.set_cons_succ, List.set_cons_zero, List.nil_append, List.cons_append]
    apply Run.done
    intro w3 h3 hk
    clear hk
    have F3 := F2.trans ((Fut.drew _).trans h3)
    go_wp2_with fail
    refine (put_any (H.out.fut F3).pl (by have := F3.size; omega) x X.out hl).mono ?_
    rintro e w4 ⟨lv', rfl, hP, hO, hV⟩
    go_wp2
    go_ret2
    have e1 : addL ar xs x = if x ∈ xs then xs else xs ++ [x] := by
      unfold addL; rw [hR]
      by_cases hin : x ∈ xs <;> simp [hin]
    have hbm : b ≠ mb := fun e => by
      obtain ⟨es, c, hm, _⟩ := H.out.pl.map
      subst e; have := H.out.blk; rw [hm] at this; cases this
    have hbp : b ≠ pb := fun e => by
      subst e
      have := H.out.blk; rw [H.out.pl.blk] at this
      injection this with h2; injection h2 with _ h3
      revert h3; decide
    have hbl : lv.ownBlock ≠ some b := fun e => by
      obtain ⟨arr, h1⟩ := H.out.pl.list.typed _ e
      have := H.out.blk; rw [h1] at this
      injection this with h2; injection h2 with _ h3
      revert h3; decide
    refine ⟨by rw [hR]; rfl, lv', ⟨hO.keeps (H.out.fut F3).blk (fun h => by rcases h with h | h | h; exact hbp h; exact hbm h; exact hbl h), by rw [e1]; exact hP, H.out.base, H.out.wide⟩, (Only.fut F3).trans hO, fun k hk => ?_⟩
    rcases hV k hk with h | h
    · exact .inl h
    · exact .inr (Nat.le_trans F3.size h)
end Go.Proofs.Ytcekphjcmippoaa
