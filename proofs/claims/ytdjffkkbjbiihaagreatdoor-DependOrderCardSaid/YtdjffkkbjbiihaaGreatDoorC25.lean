/- SameLv, DPlain, DLiveP, DLives, AheadP, OrderW -/
import Derived.Test.YtdjffkkbjbiihaaGreatDoorC24
/- SameLevels, SameTexts, SameTextLists of two lists of the same. -/
namespace Go.Proofs.YtdjffkkbjbiihaaGreatDoor
open Go.RowKit Go.WideMaps Go.Maps
set_option linter.unusedSimpArgs false
set_option linter.unusedVariables false

theorem lv9_at {M : Nat} {w : World} {A : Option Addr} {n cap : Nat} {xs : List (ByteArray × Nat)} (h : SlRep 2 M RLv w (.slice A n cap) xs) {k : Nat} (hk : k < xs.length) :
    ∃ b off, A = some ⟨b, off, none⟩ ∧ w.cell? ⟨b, off + k * 2, none⟩ = some (.string (xs[k]).1) ∧ w.cell? ⟨b, off + k * 2 + 1, none⟩ = some (.int .i32 ((xs[k]).2 : Nat)) := by
  obtain ⟨A1, cap1, hv, _, _, h3⟩ := h
  obtain ⟨b, off, cs, hA, hl, hc, hr⟩ := h3 k _ (List.getElem?_eq_getElem hk)
  injection hv with hv _ _
  obtain rfl : cs = _ := hr
  exact ⟨b, off, hv.trans hA, hc 0 _ rfl, hc 1 _ rfl⟩
set_option maxHeartbeats 1000000 in
theorem sameLv_any {M M' : Nat} (a b : Value) (xs : List (ByteArray × Nat)) (w : World) (ha : SlRep 2 M RLv w a xs) (hb : SlRep 2 M' RLv w b xs) (hM : M ≤ 9223372036854775807) :
    Calls Tryz.prog 9 #[a, b] w fun e w' => e = .returned (.bool true) ∧ Fut w w' := by
  have HA := Lib.hid ha
  have HB := Lib.hid hb
  obtain ⟨A, ca, rfl, hl1, hl2⟩ := ha.form
  obtain ⟨A', cb, rfl, _, _⟩ := hb.form
  have hxl : xs.length ≤ 9223372036854775807 := by omega
  clear ha hb hl1 hl2
  go_enter Tryz.func9, Tryz.ntmps9
  go_wp2_with fail
  go_loopw [5] (fun i wr => ∃ k : Nat, k ≤ xs.length ∧ i = .int .i64 k ∧ Hid (Fut w wr)) (fun i _ => xs.length - (intOf i).toNat)
  case atStart => exact ⟨0, Nat.zero_le _, rfl, Lib.hid (Fut.refl _)⟩
  case round =>
    obtain ⟨k, hk, rfl, hG⟩ := hrel
    by_cases hlt : k < xs.length
    · obtain ⟨b1, o1, rfl, x0, x1⟩ := lv9_at (HA.out.fut RLv.stays hG.out) hlt
      obtain ⟨b2, o2, rfl, y0, y1⟩ := lv9_at (HB.out.fut RLv.stays hG.out) hlt
      generalize xs[k] = z at *
      have hltI : (k : Int) < xs.length := by omega
      have e0 : (0 : Int) ≤ k ∧ (k : Int) < xs.length := by omega
      go_wp2_with fail
      refine wp_graph 9 [.d, .d, .d, .d, .d, .d, .d, .d, .d] (by kernel_rfl) (by kernel_rfl) (by kernel_rfl) ?_
      simp only [List.take_succ_cons, List.take_zero, List.drop_succ_cons, List.drop_zero, Exs]
      iterate 9 apply Exists.intro
      apply Run.valG (wanted_none rfl _)
      · intro w1 h1 hk
        have q1 := h1.cell x0; have q2 := h1.cell y0; have q3 := h1.cell x1; have q4 := h1.cell y1
        have hcw := fun b o => Below.cell (p := ⟨b, o, none⟩) h1
        go_simp; rfl
      simp only [Act.put, List.setIfInBounds_toArray, List.set_cons_succ, List.set_cons_zero, List.nil_append, List.cons_append]
      apply Run.valG (wanted_none rfl _)
      · intro w1 h1 hk
        have q1 := h1.cell x0; have q2 := h1.cell y0; have q3 := h1.cell x1; have q4 := h1.cell y1
        have hcw := fun b o => Below.cell (p := ⟨b, o, none⟩) h1
        go_simp; rfl
      simp only [Act.put, List.setIfInBounds_toArray, List.set_cons_succ, List.set_cons_zero, List.nil_append, List.cons_append]
      apply Run.valG (wanted_none rfl _)
      · intro w1 h1 hk
        have q1 := h1.cell x0; have q2 := h1.cell y0; have q3 := h1.cell x1; have q4 := h1.cell y1
        have hcw := fun b o => Below.cell (p := ⟨b, o, none⟩) h1
        go_simp; rfl
      simp only [Act.put, List.setIfInBounds_toArray, List.set_cons_succ, List.set_cons_zero, List.nil_append, List.cons_append]
      apply Run.valG (wanted_none rfl _)
      · intro w1 h1 hk
        have q1 := h1.cell x0; have q2 := h1.cell y0; have q3 := h1.cell x1; have q4 := h1.cell y1
        have hcw := fun b o => Below.cell (p := ⟨b, o, none⟩) h1
        go_simp; rfl
      simp only [Act.put, List.setIfInBounds_toArray, List.set_cons_succ, List.set_cons_zero, List.nil_append, List.cons_append]
      apply Run.valG (wanted_none rfl _)
      · intro w1 h1 hk
        have q1 := h1.cell x0; have q2 := h1.cell y0; have q3 := h1.cell x1; have q4 := h1.cell y1
        have hcw := fun b o => Below.cell (p := ⟨b, o, none⟩) h1
        go_simp; rfl
      simp only [Act.put, List.setIfInBounds_toArray, List.set_cons_succ, List.set_cons_zero, List.nil_append, List.cons_append]
      apply Run.valG (wanted_none rfl _)
      · intro w1 h1 hk
        have q1 := h1.cell x0; have q2 := h1.cell y0; have q3 := h1.cell x1; have q4 := h1.cell y1
        have hcw := fun b o => Below.cell (p := ⟨b, o, none⟩) h1
        go_simp; rfl
      simp only [Act.put, List.setIfInBounds_toArray, List.set_cons_succ, List.set_cons_zero, List.nil_append, List.cons_append]
      apply Run.valG (wanted_none rfl _)
      · intro w1 h1 hk
        have q1 := h1.cell x0; have q2 := h1.cell y0; have q3 := h1.cell x1; have q4 := h1.cell y1
        have hcw := fun b o => Below.cell (p := ⟨b, o, none⟩) h1
        go_simp; rfl
      simp only [Act.put, List.setIfInBounds_toArray, List.set_cons_succ, List.set_cons_zero, List.nil_append, List.cons_append]
      apply Run.valG (wanted_none rfl _)
      · intro w1 h1 hk
        have q1 := h1.cell x0; have q2 := h1.cell y0; have q3 := h1.cell x1; have q4 := h1.cell y1
        have hcw := fun b o => Below.cell (p := ⟨b, o, none⟩) h1
        go_simp; rfl
      simp only [Act.put, List.setIfInBounds_toArray, List.set_cons_succ, List.set_cons_zero, List.nil_append, List.cons_append]
      apply Run.valG (wanted_none rfl _)
      · intro w1 h1 hk
        have q1 := h1.cell x0; have q2 := h1.cell y0; have q3 := h1.cell x1; have q4 := h1.cell y1
        have hcw := fun b o => Below.cell (p := ⟨b, o, none⟩) h1
        go_simp; rfl
      simp only [Act.put, List.setIfInBounds_toArray, List.set_cons_succ, List.set_cons_zero, List.nil_append, List.cons_append]
      apply Run.done
      intro w2 h2 hk
      clear hk
      have hGn := Lib.hid (hG.out.trans ((Fut.drew _).trans h2))
      clear h2
      go_wp2
      go_roundw
      case rel => exact ⟨k + 1, by omega, by go_num, hGn⟩
      case measure => simp [intOf] <;> omega
    · obtain rfl : k = xs.length := by omega
      go_wp2
      go_ret
      exact ⟨rfl, hG.out⟩
set_option maxHeartbeats 1000000 in
theorem sameTx_any {M M' : Nat} (a b : Value) (xs : List ByteArray) (w : World) (ha : SlRep 1 M RNm w a xs) (hb : SlRep 1 M' RNm w b xs) (hM : M ≤ 9223372036854775807) :
    Calls Tryz.prog 26 #[a, b] w fun e w' => e = .returned (.bool true) ∧ Fut w w' := by
  have HA := Lib.hid ha
  have HB := Lib.hid hb
  obtain ⟨A, ca, rfl, hl1, hl2⟩ := ha.form
  obtain ⟨A', cb, rfl, _, _⟩ := hb.form
  have hxl : xs.length ≤ 9223372036854775807 := by omega
  clear ha hb hl1 hl2
  go_enter Tryz.func26, Tryz.ntmps26
  go_wp2_with fail
  go_loopw [5] (fun i wr => ∃ k : Nat, k ≤ xs.length ∧ i = .int .i64 k ∧ Hid (Fut w wr)) (fun i _ => xs.length - (intOf i).toNat)
  case atStart => exact ⟨0, Nat.zero_le _, rfl, Lib.hid (Fut.refl _)⟩
  case round =>
    obtain ⟨k, hk, rfl, hG⟩ := hrel
    by_cases hlt : k < xs.length
    · obtain ⟨b1, o1, rfl, x0⟩ := nm_at (HA.out.fut RNm.stays hG.out) hlt
      obtain ⟨b2, o2, rfl, y0⟩ := nm_at (HB.out.fut RNm.stays hG.out) hlt
      generalize xs[k] = z at *
      have hltI : (k : Int) < xs.length := by omega
      have e0 : (0 : Int) ≤ k ∧ (k : Int) < xs.length := by omega
      go_wp2_with fail
      refine wp_graph 9 [.d, .d, .d, .d, .d, .d, .d, .d, .d] (by kernel_rfl) (by kernel_rfl) (by kernel_rfl) ?_
      simp only [List.take_succ_cons, List.take_zero, List.drop_succ_cons, List.drop_zero, Exs]
      iterate 9 apply Exists.intro
      apply Run.valG (wanted_none rfl _)
      · intro w1 h1 hk
        have q1 := h1.cell x0; have q2 := h1.cell y0
        have hcw := fun b o => Below.cell (p := ⟨b, o, none⟩) h1
        go_simp; rfl
      simp only [Act.put, List.setIfInBounds_toArray, List.set_cons_succ, List.set_cons_zero, List.nil_append, List.cons_append]
      apply Run.valG (wanted_none rfl _)
      · intro w1 h1 hk
        have q1 := h1.cell x0; have q2 := h1.cell y0
        have hcw := fun b o => Below.cell (p := ⟨b, o, none⟩) h1
        go_simp; rfl
      simp only [Act.put, List.setIfInBounds_toArray, List.set_cons_succ, List.set_cons_zero, List.nil_append, List.cons_append]
      apply Run.valG (wanted_none rfl _)
      · intro w1 h1 hk
        have q1 := h1.cell x0; have q2 := h1.cell y0
        have hcw := fun b o => Below.cell (p := ⟨b, o, none⟩) h1
        go_simp; rfl
      simp only [Act.put, List.setIfInBounds_toArray, List.set_cons_succ, List.set_cons_zero, List.nil_append, List.cons_append]
      apply Run.valG (wanted_none rfl _)
      · intro w1 h1 hk
        have q1 := h1.cell x0; have q2 := h1.cell y0
        have hcw := fun b o => Below.cell (p := ⟨b, o, none⟩) h1
        go_simp; rfl
      simp only [Act.put, List.setIfInBounds_toArray, List.set_cons_succ, List.set_cons_zero, List.nil_append, List.cons_append]
      apply Run.valG (wanted_none rfl _)
      · intro w1 h1 hk
        have q1 := h1.cell x0; have q2 := h1.cell y0
        have hcw := fun b o => Below.cell (p := ⟨b, o, none⟩) h1
        go_simp; rfl
      simp only [Act.put, List.setIfInBounds_toArray, List.set_cons_succ, List.set_cons_zero, List.nil_append, List.cons_append]
      apply Run.valG (wanted_none rfl _)
      · intro w1 h1 hk
        have q1 := h1.cell x0; have q2 := h1.cell y0
        have hcw := fun b o => Below.cell (p := ⟨b, o, none⟩) h1
        go_simp; rfl
      simp only [Act.put, List.setIfInBounds_toArray, List.set_cons_succ, List.set_cons_zero, List.nil_append, List.cons_append]
      apply Run.valG (wanted_none rfl _)
      · intro w1 h1 hk
        have q1 := h1.cell x0; have q2 := h1.cell y0
        have hcw := fun b o => Below.cell (p := ⟨b, o, none⟩) h1
        go_simp; rfl
      simp only [Act.put, List.setIfInBounds_toArray, List.set_cons_succ, List.set_cons_zero, List.nil_append, List.cons_append]
      apply Run.valG (wanted_none rfl _)
      · intro w1 h1 hk
        have q1 := h1.cell x0; have q2 := h1.cell y0
        have hcw := fun b o => Below.cell (p := ⟨b, o, none⟩) h1
        go_simp; rfl
      simp only [Act.put, List.setIfInBounds_toArray, List.set_cons_succ, List.set_cons_zero, List.nil_append, List.cons_append]
      apply Run.valG (wanted_none rfl _)
      · intro w1 h1 hk
        have q1 := h1.cell x0; have q2 := h1.cell y0
        have hcw := fun b o => Below.cell (p := ⟨b, o, none⟩) h1
        go_simp; rfl
      simp only [Act.put, List.setIfInBounds_toArray, List.set_cons_succ, List.set_cons_zero, List.nil_append, List.cons_append]
      apply Run.done
      intro w2 h2 hk
      clear hk
      have hGn := Lib.hid (hG.out.trans ((Fut.drew _).trans h2))
      clear h2
      go_wp2
      go_roundw
      case rel => exact ⟨k + 1, by omega, by go_num, hGn⟩
      case measure => simp [intOf] <;> omega
    · obtain rfl : k = xs.length := by omega
      go_wp2
      go_ret
      exact ⟨rfl, hG.out⟩
set_option maxHeartbeats 1000000 in
theorem sameTl_any {M M' : Nat} {s s' : Value} (a b : Value) (xs : List (List ByteArray)) (w : World) (ha : SlRep 1 M (RLs s) w a xs) (hb : SlRep 1 M' (RLs s') w b xs) (hM : M ≤ 9223372036854775807) :
    Calls Tryz.prog 11 #[a, b] w fun e w' => e = .returned (.bool true) ∧ Fut w w' := by
  have HA := Lib.hid ha
  have HB := Lib.hid hb
  obtain ⟨A, ca, rfl, hl1, hl2⟩ := ha.form
  obtain ⟨A', cb, rfl, _, _⟩ := hb.form
  have hxl : xs.length ≤ 9223372036854775807 := by omega
  clear ha hb hl1 hl2
  go_enter Tryz.func11, Tryz.ntmps11
  go_wp2_with fail
  go_loopw [5] (fun i wr => ∃ k : Nat, k ≤ xs.length ∧ i = .int .i64 k ∧ Hid (Fut w wr)) (fun i _ => xs.length - (intOf i).toNat)
  case atStart => exact ⟨0, Nat.zero_le _, rfl, Lib.hid (Fut.refl _)⟩
  case round =>
    obtain ⟨k, hk, rfl, hG⟩ := hrel
    by_cases hlt : k < xs.length
    · obtain ⟨b1, o1, v1, rfl, x0, g1⟩ := ls_at (HA.out.fut RLs.stays hG.out) hlt
      obtain ⟨b2, o2, v2, rfl, y0, g2⟩ := ls_at (HB.out.fut RLs.stays hG.out) hlt
      generalize xs[k] = z at *
      have hltI : (k : Int) < xs.length := by omega
      have e0 : (0 : Int) ≤ k ∧ (k : Int) < xs.length := by omega
      have HS := Lib.hid (fun W (hW : Fut wr W) => sameTx_any v1 v2 z W (g1.rep.fut RNm.stays hW) (g2.rep.fut RNm.stays hW) (by decide))
      go_wp2_with fail
      refine wp_graph 10 [.d, .d, .d, .d, .d, .d, .d, .d, .d, .d] (by kernel_rfl) (by kernel_rfl) (by kernel_rfl) ?_
      simp only [List.take_succ_cons, List.take_zero, List.drop_succ_cons, List.drop_zero, Exs]
      iterate 10 apply Exists.intro
      apply Run.valG (wanted_none rfl _)
      · intro w1 h1 hk
        have q1 := h1.cell x0; have q2 := h1.cell y0; have hg := (Fut.drew _).trans h1
        have hcw := fun b o => Below.cell (p := ⟨b, o, none⟩) h1
        go_simp; rfl
      simp only [Act.put, List.setIfInBounds_toArray, List.set_cons_succ, List.set_cons_zero, List.nil_append, List.cons_append]
      apply Run.valG (wanted_none rfl _)
      · intro w1 h1 hk
        have q1 := h1.cell x0; have q2 := h1.cell y0; have hg := (Fut.drew _).trans h1
        have hcw := fun b o => Below.cell (p := ⟨b, o, none⟩) h1
        go_simp; rfl
      simp only [Act.put, List.setIfInBounds_toArray, List.set_cons_succ, List.set_cons_zero, List.nil_append, List.cons_append]
      apply Run.valG (wanted_none rfl _)
      · intro w1 h1 hk
        have q1 := h1.cell x0; have q2 := h1.cell y0; have hg := (Fut.drew _).trans h1
        have hcw := fun b o => Below.cell (p := ⟨b, o, none⟩) h1
        go_simp; rfl
      simp only [Act.put, List.setIfInBounds_toArray, List.set_cons_succ, List.set_cons_zero, List.nil_append, List.cons_append]
      apply Run.valG (wanted_none rfl _)
      · intro w1 h1 hk
        have q1 := h1.cell x0; have q2 := h1.cell y0; have hg := (Fut.drew _).trans h1
        have hcw := fun b o => Below.cell (p := ⟨b, o, none⟩) h1
        go_simp; rfl
      simp only [Act.put, List.setIfInBounds_toArray, List.set_cons_succ, List.set_cons_zero, List.nil_append, List.cons_append]
      apply Run.valG (wanted_none rfl _)
      · intro w1 h1 hk
        have q1 := h1.cell x0; have q2 := h1.cell y0; have hg := (Fut.drew _).trans h1
        have hcw := fun b o => Below.cell (p := ⟨b, o, none⟩) h1
        go_simp; rfl
      simp only [Act.put, List.setIfInBounds_toArray, List.set_cons_succ, List.set_cons_zero, List.nil_append, List.cons_append]
      apply Run.valG (wanted_none rfl _)
      · intro w1 h1 hk
        have q1 := h1.cell x0; have q2 := h1.cell y0; have hg := (Fut.drew _).trans h1
        have hcw := fun b o => Below.cell (p := ⟨b, o, none⟩) h1
        go_simp; rfl
      simp only [Act.put, List.setIfInBounds_toArray, List.set_cons_succ, List.set_cons_zero, List.nil_append, List.cons_append]
      apply Run.valG (wanted_none rfl _)
      · intro w1 h1 hk
        have q1 := h1.cell x0; have q2 := h1.cell y0; have hg := (Fut.drew _).trans h1
        have hcw := fun b o => Below.cell (p := ⟨b, o, none⟩) h1
        go_simp; rfl
      simp only [Act.put, List.setIfInBounds_toArray, List.set_cons_succ, List.set_cons_zero, List.nil_append, List.cons_append]
      apply Run.valG (wanted_none rfl _)
      · intro w1 h1 hk
        have q1 := h1.cell x0; have q2 := h1.cell y0; have hg := (Fut.drew _).trans h1
        have hcw := fun b o => Below.cell (p := ⟨b, o, none⟩) h1
        go_simp; rfl
      simp only [Act.put, List.setIfInBounds_toArray, List.set_cons_succ, List.set_cons_zero, List.nil_append, List.cons_append]
      apply Run.call (wanted_none rfl _) (fun _ _ => by go_simp; exact ⟨rfl, rfl⟩)
      · intro w1 h1 hk
        have q1 := h1.cell x0; have q2 := h1.cell y0; have hg := (Fut.drew _).trans h1
        exact HS.out _ hg
      simp only [Act.put, List.setIfInBounds_toArray, List.set_cons_succ, List.set_cons_zero, List.nil_append, List.cons_append]
      apply Run.valG (wanted_none rfl _)
      · intro w1 h1 hk
        have q1 := h1.cell x0; have q2 := h1.cell y0; have hg := (Fut.drew _).trans h1
        have hcw := fun b o => Below.cell (p := ⟨b, o, none⟩) h1
        go_simp; rfl
      simp only [Act.put, List.setIfInBounds_toArray, List.set_cons_succ, List.set_cons_zero, List.nil_append, List.cons_append]
      apply Run.done
      intro w2 h2 hk
      clear hk
      have hGn := Lib.hid (hG.out.trans ((Fut.drew _).trans h2))
      clear h2 HS
      go_wp2
      go_roundw
      case rel => exact ⟨k + 1, by omega, by go_num, hGn⟩
      case measure => simp [intOf] <;> omega
    · obtain rfl : k = xs.length := by omega
      go_wp2
      go_ret
      exact ⟨rfl, hG.out⟩
end Go.Proofs.YtdjffkkbjbiihaaGreatDoor
/- depend.Plain. -/
namespace Go.Proofs.YtdjffkkbjbiihaaGreatDoor
open Go.RowKit
set_option linter.unusedSimpArgs false
set_option linter.unusedVariables false

def plainP (rs : List Ru) : Bool := !rs.any Ru.makes && oneP rs
set_option maxHeartbeats 1600000 in
set_option maxRecDepth 100000 in
theorem idxR_any {M : Nat} (A : Option Addr) (c : Nat) (rs : List Ru) (w : World) (h : SlRep 3 M RRu w (.slice A rs.length c) rs) (hM : M ≤ 9223372036854775807) (hS : Small rs) :
    Calls Tryz.prog 196 #[.slice A rs.length c, .func (.func 33) #[] #[]] w fun e w' => ∃ r : Int, e = .returned (.int .i64 r) ∧ decide (0 ≤ r) = rs.any Ru.makes ∧ Fut w w' := by
  have H := Lib.hid h
  have HS := Lib.hid hS
  obtain ⟨_, _, hv, hl1, hl2⟩ := h.form
  have hxl : rs.length ≤ 9223372036854775807 := by omega
  clear h hv hl1 hl2 hS
  go_enter Tryz.func196, Tryz.ntmps196
  go_wp2_with fail
  go_loopw [8] (fun i wr => ∃ k : Nat, k ≤ rs.length ∧ i = .int .i64 k ∧ Hid (∀ x ∈ rs.take k, x.makes = false) ∧ Hid (Fut w wr)) (fun i _ => rs.length - (intOf i).toNat)
  case atStart => exact ⟨0, Nat.zero_le _, rfl, Lib.hid (fun x hx => by simp at hx), Lib.hid (Fut.refl _)⟩
  case round =>
    obtain ⟨k, hk, rfl, hI, hF⟩ := hrel
    by_cases hlt : k < rs.length
    · have hltI : (k : Int) < rs.length := by omega
      have e0 : (0 : Int) ≤ k ∧ (k : Int) < rs.length := by omega
      obtain ⟨b, off, Ah, ch, Ab, cb, rfl, u0, u1, u2, hp, hh1, hh2⟩ := ru_at H.out hlt
      have y0 := hF.out.cell u0
      have y1 := hF.out.cell u1
      have y2 := hF.out.cell u2
      have hnx : Hid (rs.take (k + 1) = rs.take k ++ [rs[k]]) := Lib.hid (List.take_succ_eq_append_getElem hlt)
      have hmem : rs[k] ∈ rs := List.getElem_mem hlt
      have hbd := (HS.out.mem hmem).1
      generalize rs[k] = r at *
      have HD := Lib.hid (makes_any r Ah Ab ch cb wr hp (hh1.fut RAr.stays hF.out) (hh2.fut RLt.stays hF.out) (by omega))
      obtain ⟨d, hd⟩ : ∃ d, r.makes = d := ⟨_, rfl⟩
      have hd' := Lib.hid hd
      rw [hd] at HD
      clear hd u0 u1 u2 hh1 hh2
      cases d
      · go_wp2_with fail
        refine HD.out.mono ?_
        rintro e w3 ⟨rfl, f3⟩
        have F3 := Lib.hid (hF.out.trans f3)
        have hI2 : Hid (∀ x ∈ rs.take (k + 1), x.makes = false) := Lib.hid fun x hx => by
          rw [hnx.out, List.mem_append] at hx
          rcases hx with hx | hx
          · exact hI.out x hx
          · rw [List.mem_singleton] at hx; subst hx; exact hd'.out
        clear f3
        go_wp2
        go_roundw
        case rel => exact ⟨k + 1, by omega, by go_num, hI2, F3⟩
        case measure => simp [intOf] <;> omega
      · go_wp2_with fail
        refine HD.out.mono ?_
        rintro e w3 ⟨rfl, f3⟩
        go_wp2
        go_ret
        exact ⟨k, rfl, by
          have h9 : rs.any Ru.makes = true := List.any_eq_true.2 ⟨_, hmem, hd'.out⟩
          rw [h9]; simp, hF.out.trans f3⟩
    · obtain rfl : k = rs.length := by omega
      rw [List.take_length] at hI
      go_wp2
      go_ret
      exact ⟨-1, rfl, by
        have h9 : rs.any Ru.makes = false := List.any_eq_false.2 fun x hx => by rw [hI.out x hx]; decide
        rw [h9]; decide, hF.out⟩
set_option maxHeartbeats 1600000 in
theorem contR_any {M : Nat} (A : Option Addr) (c : Nat) (rs : List Ru) (w : World) (h : SlRep 3 M RRu w (.slice A rs.length c) rs) (hM : M ≤ 9223372036854775807) (hS : Small rs) :
    Calls Tryz.prog 84 #[.slice A rs.length c, .func (.func 33) #[] #[]] w fun e w' => e = .returned (.bool (rs.any Ru.makes)) ∧ Fut w w' := by
  have HI := Lib.hid (idxR_any A c rs w h hM hS)
  obtain ⟨b, hb⟩ : ∃ b, (rs.any Ru.makes) = b := ⟨_, rfl⟩
  rw [hb] at HI ⊢
  clear h hb
  go_enter Tryz.func84, Tryz.ntmps84
  go_wp2_with fail
  refine HI.out.mono ?_
  rintro e w1 ⟨r, rfl, hr, f1⟩
  by_cases h0 : 0 ≤ r
  · obtain rfl : b = true := by rw [← hr]; simp [h0]
    have h0' : r ≥ 0 := h0
    go_wp2
    go_ret
    exact ⟨by first | rfl | simp, f1⟩
  · obtain rfl : b = false := by rw [← hr]; simp [h0]
    have h0' : ¬ r ≥ 0 := h0
    go_wp2
    go_ret
    exact ⟨by first | rfl | simp, f1⟩
set_option maxHeartbeats 1600000 in
theorem plain_any {M : Nat} (A : Option Addr) (c : Nat) (rs : List Ru) (w : World) (h : SlRep 3 M RRu w (.slice A rs.length c) rs) (hM : M ≤ 9223372036854775807) (hS : Small rs) :
    Calls Tryz.prog 27 #[.slice A rs.length c] w fun e w' => e = .returned (.bool (plainP rs)) ∧ Fut w w' := by
  have HC := Lib.hid (contR_any A c rs w h hM hS)
  have HO := Lib.hid (fun W (hW : Fut w W) => one_any A c rs W (h.fut RRu.stays hW) hM hS)
  unfold plainP
  obtain ⟨a, ha⟩ : ∃ b, (rs.any Ru.makes) = b := ⟨_, rfl⟩
  obtain ⟨b, hb⟩ : ∃ b, oneP rs = b := ⟨_, rfl⟩
  rw [ha] at HC ⊢
  rw [hb] at HO ⊢
  clear h ha hb
  cases a
  · go_enter Tryz.func27, Tryz.ntmps27
    go_wp2_with fail
    refine HC.out.mono ?_
    rintro e w1 ⟨rfl, f1⟩
    go_wp2_with fail
    refine (HO.out _ f1).mono ?_
    rintro e w2 ⟨rfl, f2⟩
    go_wp2
    go_ret
    exact ⟨by first | rfl | simp, f1.trans f2⟩
  · go_enter Tryz.func27, Tryz.ntmps27
    go_wp2_with fail
    refine HC.out.mono ?_
    rintro e w1 ⟨rfl, f1⟩
    go_wp2
    go_ret
    exact ⟨by first | rfl | simp, f1⟩
end Go.Proofs.YtdjffkkbjbiihaaGreatDoor
/- What the example program comes to, plainly. -/
namespace Go.Proofs.YtdjffkkbjbiihaaGreatDoor
open Go.RowKit Go.WideMaps Go.Maps
set_option linter.unusedSimpArgs false
set_option linter.unusedVariables false

def liveT : TS := ⟨[(xB, 1), (yB, 2), (zB, 3)], [], [(xB, 0), (yB, 1), (zB, 2)], [[xB], [yB], [zB]]⟩
theorem live_small : Small otherP := by unfold Small; decide +kernel
theorem live_smallY : Small [ruY] := by unfold Small; decide +kernel
theorem live_len : (drawP otherP).length ≤ 100000000 := by decide +kernel
theorem live_tarj : tarjT (drawP otherP) 10 = some liveT := by kernel_rfl
theorem live_blame : blameE liveT.inn (edgesP otherP) = none := by kernel_rfl
theorem live_raise : raiseR (edgesP otherP) 5 [] = some [(zB, 1)] := by kernel_rfl
theorem live_levels : ((drawP otherP).sorted.map fun s => (s, lk0 [(zB, 1)] s)) = [(xB, 0), (yB, 0), (zB, 1)] := by kernel_rfl
theorem live_parts : partsP (drawP otherP) liveT = some [[xB], [yB], [zB]] := by kernel_rfl
theorem live_sound : SoundT liveT := ⟨by decide +kernel, by decide +kernel, by decide⟩
theorem live_pz : ∀ p ∈ liveT.out, ∀ x ∈ p, x.size ≤ 140737488351232 := by decide +kernel
theorem live_plain : plainP [ruY] = true := by kernel_rfl
theorem live_one : oneP otherP = false := by kernel_rfl
end Go.Proofs.YtdjffkkbjbiihaaGreatDoor
/- pedigreelaw09.lives. -/
namespace Go.Proofs.YtdjffkkbjbiihaaGreatDoor
open Go.RowKit Go.WideMaps Go.Maps
set_option linter.unusedSimpArgs false
set_option linter.unusedVariables false

theorem lv_at {M : Nat} {w : World} {A : Option Addr} {n cap : Nat} {xs : List (ByteArray × Nat)} (h : SlRep 2 M RLv w (.slice A n cap) xs) {k : Nat} (hk : k < xs.length) :
    ∃ b off, A = some ⟨b, off, none⟩ ∧ w.cell? ⟨b, off + k * 2, none⟩ = some (.string (xs[k]).1) ∧ w.cell? ⟨b, off + k * 2 + 1, none⟩ = some (.int .i32 ((xs[k]).2 : Nat)) := by
  obtain ⟨A1, cap1, hv, _, _, h3⟩ := h
  obtain ⟨b, off, cs, hA, hl, hc, hr⟩ := h3 k _ (List.getElem?_eq_getElem hk)
  injection hv with hv _ _
  obtain rfl : cs = _ := hr
  exact ⟨b, off, hv.trans hA, hc 0 _ rfl, hc 1 _ rfl⟩
theorem sl_tail {α : Type} {sz M : Nat} {R : World → List Value → α → Prop} {w : World} {A : Option Addr} {n cap : Nat} {x : α} {xs : List α} (h : SlRep sz M R w (.slice A n cap) (x :: xs)) :
    ∃ b off, A = some ⟨b, off, none⟩ ∧ n = xs.length + 1 ∧ SlRep sz M R w (.slice (some ⟨b, off + sz, none⟩) xs.length (cap - 1)) xs := by
  obtain ⟨A1, cap1, hv, h1, h2, h3⟩ := h
  obtain ⟨b, off, cs, hA, hl, hc, hr⟩ := h3 0 x rfl
  injection hv with e1 e2 e3
  subst e3
  rw [List.length_cons] at e2 h1
  refine ⟨b, off, e1.trans hA, e2, _, _, rfl, by omega, by omega, fun i y hy => ?_⟩
  obtain ⟨b', off', cs', hA', hl', hc', hr'⟩ := h3 (i + 1) y hy
  rw [hA] at hA'
  injection hA' with hA'
  injection hA' with e4 e5 _
  subst e4; subst e5
  refine ⟨b, off + sz, cs', rfl, hl', fun j c hj => ?_, hr'⟩
  rw [← hc' j c hj, Nat.add_mul, Nat.one_mul]
  congr 2
  omega
theorem field_prog (A : Option Addr) (n c : Nat) (W : World) : (Instr.field 31 (.agg #[.slice A n c]) 0).run Tryz.prog W = .ok (.slice A n c) W := by kernel_rfl
set_option maxHeartbeats 4000000 in
set_option maxRecDepth 100000 in
theorem lives9_any (w : World) : Calls Tryz.prog 12 #[] w fun e w' => e = .returned (.bool true) ∧ Fut w w' := by
  have HOt := Lib.hid other_any
  have HL := Lib.hid (fun A W (h : SlRep 3 2199023255552 RRu W (.slice A 2 2) otherP) => levelsG_any A 2 otherP W h (by decide) live_small 10 liveT live_tarj live_len live_blame _ 5 live_raise)
  have HP := Lib.hid (fun A W (h : SlRep 3 2199023255552 RRu W (.slice A 2 2) otherP) => partsR_any A 2 otherP W h (by decide) live_small 10 liveT live_tarj live_len live_sound live_pz _ live_parts)
  have HPl := Lib.hid (fun A c W (h : SlRep 3 2199023255552 RRu W (.slice A 1 c) [ruY]) => plain_any A c [ruY] W h (by decide) live_smallY)
  have HOn := Lib.hid (fun A W (h : SlRep 3 2199023255552 RRu W (.slice A 2 2) otherP) => one_any A 2 otherP W h (by decide) live_small)
  go_enter Tryz.func12, Tryz.ntmps12
  go_wp2_with fail
  refine (HOt.out _).mono ?_
  rintro e w1 ⟨A1, rfl, r1, f1⟩
  have R1 := Lib.hid r1
  have F1 := Lib.hid f1
  clear r1 f1
  go_wp2_with fail
  refine (HL.out A1 w1 R1.out).mono ?_
  rintro e w2 ⟨lv, rfl, hlv, f2⟩
  rw [live_levels] at hlv
  obtain ⟨Al, cl, rfl, hl1, hl2⟩ := hlv.rep.form
  have HLv := Lib.hid hlv
  have F2 := Lib.hid (F1.out.trans f2)
  clear hlv f2 R1 hl1 hl2
  go_wp2_with fail
  refine (HOt.out _).mono ?_
  rintro e w3 ⟨A3, rfl, r3, f3⟩
  have R3 := Lib.hid r3
  have HL3 := Lib.hid (HLv.out.fut RLv.stays f3)
  have F3 := Lib.hid (F2.out.trans f3)
  clear r3 f3
  go_wp2_with fail
  refine (HP.out A3 w3 R3.out).mono ?_
  rintro e w4 ⟨pv, rfl, hpv, f4⟩
  obtain ⟨Ap, cp, rfl, hp1, hp2⟩ := hpv.rep.form
  have F4 := Lib.hid (F3.out.trans f4)
  have hL4 := (HL3.out.fut RLv.stays f4).rep
  obtain ⟨bl, ol, rfl, c0, c1⟩ := lv_at hL4 (k := 0) (by decide)
  obtain ⟨bl2, ol2, hA2, c2, c3⟩ := lv_at hL4 (k := 2) (by decide)
  injection hA2 with hA2
  injection hA2 with e3 e4 _
  subst e3; subst e4
  have d0 : w4.cell? ⟨bl, ol, none⟩ = some (.string ⟨#[120]⟩) := c0
  have d1 : w4.cell? ⟨bl, ol + 1, none⟩ = some (.int .i32 0) := c1
  have d2 : w4.cell? ⟨bl, ol + 4, none⟩ = some (.string ⟨#[122]⟩) := c2
  have d3 : w4.cell? ⟨bl, ol + 5, none⟩ = some (.int .i32 1) := c3
  obtain ⟨bp, op, v0, rfl, z0, hv0⟩ := ls_at hpv.rep (k := 0) (by decide)
  obtain ⟨A0, cc0, rfl, _, _⟩ := hv0.rep.form
  obtain ⟨b0, o0, rfl, z1⟩ := nm_at hv0.rep (k := 0) (by decide)
  have d4 : w4.cell? ⟨bp, op, none⟩ = some (.slice (some ⟨b0, o0, none⟩) 1 cc0) := z0
  have d5 : w4.cell? ⟨b0, o0, none⟩ = some (.string ⟨#[120]⟩) := z1
  clear c0 c1 c2 c3 z0 z1 hv0 hpv hL4 hp1 hp2 f4 HL3 HLv R3 HL HP
  simp only [List.length_cons, List.length_nil, Nat.zero_add, Nat.reduceAdd]
  go_wp2_with fail
  refine (HOt.out _).mono ?_
  rintro e w5 ⟨A5, rfl, r5, f5⟩
  obtain ⟨b5, o5, rfl, _, r6⟩ := sl_tail r5
  have F5 := Lib.hid (F4.out.trans f5)
  have hfp := field_prog
  have R6 := Lib.hid r6
  clear r5 r6 f5 d0 d1 d2 d3 d4 d5
  go_wp2_with fail
  refine (HPl.out _ _ _ R6.out).mono ?_
  rintro e w6 ⟨rfl, f6⟩
  rw [live_plain]
  have F6 := Lib.hid (F5.out.trans f6)
  clear f6
  go_wp2_with fail
  refine (HOt.out _).mono ?_
  rintro e w7 ⟨A7, rfl, r7, f7⟩
  have F7 := Lib.hid (F6.out.trans f7)
  have R7 := Lib.hid r7
  clear r7 f7
  go_wp2_with fail
  refine (HOn.out _ _ R7.out).mono ?_
  rintro e w8 ⟨rfl, f8⟩
  rw [live_one]
  have F8 := F7.out.trans f8
  clear f8
  go_wp2
  go_ret
  exact ⟨rfl, F8⟩
end Go.Proofs.YtdjffkkbjbiihaaGreatDoor
/- What is worked out ahead, and the rest: the plain law of Split. No program. -/
namespace Go.Proofs.YtdjffkkbjbiihaaGreatDoor
open Go.RowKit
set_option linter.unusedSimpArgs false
set_option linter.unusedVariables false

/-- What a rule puts ahead. -/
def Ru.seeds (r : Ru) : List ByteArray := (if r.agg = true ∨ r.makes = true then [r.p] else []) ++ (r.b.filter fun l => decide (l.k = 2)).map (·.p)
def seedsP (rs : List Ru) : List ByteArray := rs.flatMap Ru.seeds
/-- A list of the names that are ahead. -/
def AheadL (rs : List Ru) (L : List ByteArray) : Prop := ∀ x, x ∈ L ↔ ∃ f ∈ seedsP rs, Rch (drawP rs) f x
def aheadP (rs : List Ru) (L : List ByteArray) : List Ru := rs.filter fun r => decide (r.p ∈ L)
def restP (rs : List Ru) (L : List ByteArray) : List Ru := rs.filter fun r => !decide (r.p ∈ L)
theorem tri_of {rs : List Ru} {e : Ed} (he : e ∈ edgesP rs) : ∃ r ∈ rs, ∃ l ∈ r.b, l.isA = true ∧ e.f = r.p ∧ e.t = l.p ∧ e.k = if l.k = 2 then 2 else r.kind := by
  obtain ⟨r, hr, hx⟩ := edge_tri.1 ⟨e, he, rfl⟩
  obtain ⟨l, hl, hq⟩ := List.mem_map.1 hx
  obtain ⟨h1, h2⟩ := List.mem_filter.1 hl
  unfold Ed.tri at hq
  injection hq with q1 q2
  injection q2 with q2 q3
  exact ⟨r, hr, l, h1, h2, q1.symm, q2.symm, q3.symm⟩
theorem tri_to {rs : List Ru} {r : Ru} (hr : r ∈ rs) {l : Lt} (hl : l ∈ r.b) (ha : l.isA = true) : ∃ e ∈ edgesP rs, e.f = r.p ∧ e.t = l.p ∧ e.k = if l.k = 2 then 2 else r.kind := by
  obtain ⟨e, he, hq⟩ := edge_tri.2 ⟨r, hr, List.mem_map.2 ⟨l, List.mem_filter.2 ⟨hl, ha⟩, rfl⟩⟩
  unfold Ed.tri at hq
  injection hq with q1 q2
  injection q2 with q2 q3
  exact ⟨e, he, q1, q2, q3⟩
section
variable {rs : List Ru} {L : List ByteArray}
theorem AheadL.closed (h : AheadL rs L) {e : Ed} (he : e ∈ edgesP rs) (hf : e.f ∈ L) : e.t ∈ L := by
  obtain ⟨f, h1, h2⟩ := (h _).1 hf
  exact (h _).2 ⟨f, h1, h2.trans (.one (edge_suc.2 ⟨e, he, rfl, rfl⟩))⟩
theorem AheadL.seed (h : AheadL rs L) {x : ByteArray} (hx : x ∈ seedsP rs) : x ∈ L := (h x).2 ⟨x, hx, .refl x⟩
theorem AheadL.rest (h : AheadL rs L) {r : Ru} (hr : r ∈ restP rs L) : r ∈ rs ∧ r.p ∉ L ∧ r.agg = false ∧ r.makes = false ∧ ∀ l ∈ r.b, l.k = 2 → l.p ∈ L := by
  obtain ⟨h1, h2⟩ := List.mem_filter.1 hr
  have h3 : r.p ∉ L := by simpa using h2
  have hs : ∀ x ∈ r.seeds, x ∈ L := fun x hx => h.seed (List.mem_flatMap.2 ⟨r, h1, hx⟩)
  have h4 : ¬ (r.agg = true ∨ r.makes = true) := fun h9 => h3 (hs _ (by unfold Ru.seeds; rw [if_pos h9]; simp))
  refine ⟨h1, h3, by cases h9 : r.agg <;> simp_all, by cases h9 : r.makes <;> simp_all, fun l hl hk => hs _ ?_⟩
  unfold Ru.seeds
  exact List.mem_append_right _ (List.mem_map.2 ⟨l, List.mem_filter.2 ⟨hl, decide_eq_true hk⟩, rfl⟩)
/-- The rest is plain. -/
theorem AheadL.plain (h : AheadL rs L) : plainP (restP rs L) = true := by
  have h1 : (restP rs L).any Ru.makes = false := List.any_eq_false.2 fun r hr => by rw [(h.rest hr).2.2.2.1]; decide
  have h2 : (restP rs L).any Ru.agg = false := List.any_eq_false.2 fun r hr => by rw [(h.rest hr).2.2.1]; decide
  have h3 : ((edgesP (restP rs L)).any fun e => e.strictIn (headsP (restP rs L))) = false := List.any_eq_false.2 fun e he hst => by
    unfold Ed.strictIn at hst
    rw [Bool.and_eq_true] at hst
    obtain ⟨g1, g2⟩ := hst
    obtain ⟨r, hr, l, hl, ha, e1, e2, e3⟩ := tri_of he
    obtain ⟨c1, c2, c3, c4, c5⟩ := h.rest hr
    have hkd : r.kind = 1 := by unfold Ru.kind; rw [c3, c4]; rfl
    have hk2 : l.k = 2 := by
      refine Decidable.byContradiction fun hne => ?_
      rw [if_neg hne, hkd] at e3
      rw [e3] at g2
      exact absurd g2 (by decide)
    have ht := c5 l hl hk2
    have hh : e.t ∈ headsP (restP rs L) := of_decide_eq_true g1
    unfold headsP at hh
    rcases (foldF_mem _ _ _).1 hh with q | q
    · cases q
    · obtain ⟨r2, hr2, q2⟩ := List.mem_map.1 q
      rw [e2] at q2
      exact (h.rest hr2).2.1 (q2 ▸ ht)
  unfold plainP oneP
  rw [h1, h2, h3]
  rfl
/-- No rule of the first leans on one of the rest. -/
theorem AheadL.edge (h : AheadL rs L) {e : Ed} (he : e ∈ edgesP (aheadP rs L)) : e.f ∈ L ∧ e.t ∈ L := by
  obtain ⟨r, hr, l, hl, ha, e1, e2, e3⟩ := tri_of he
  obtain ⟨h1, h2⟩ := List.mem_filter.1 hr
  obtain ⟨e', he', q1, q2, _⟩ := tri_to h1 hl ha
  have hf : r.p ∈ L := of_decide_eq_true h2
  refine ⟨e1 ▸ hf, ?_⟩
  have := h.closed he' (by rw [q1]; exact hf)
  rw [q2] at this
  rw [e2]; exact this
theorem AheadL.name (h : AheadL rs L) {s : ByteArray} (hs : s ∈ (drawP (aheadP rs L)).names) : s ∈ L := by
  rw [(draw_ok _).nm] at hs
  obtain ⟨r, hr, hx⟩ := List.mem_flatMap.1 hs
  obtain ⟨h1, h2⟩ := List.mem_filter.1 hr
  have hf : r.p ∈ L := of_decide_eq_true h2
  unfold Ru.nN at hx
  rcases List.mem_cons.1 hx with rfl | hx
  · exact hf
  · obtain ⟨l, hl, rfl⟩ := List.mem_map.1 hx
    obtain ⟨l1, l2⟩ := List.mem_filter.1 hl
    obtain ⟨e', he', q1, q2, _⟩ := tri_to h1 l1 l2
    have := h.closed he' (by rw [q1]; exact hf)
    rw [q2] at this
    exact this
/-- An edge of the whole that begins ahead is one of the first. -/
theorem AheadL.back (h : AheadL rs L) {e : Ed} (he : e ∈ edgesP rs) (hf : e.f ∈ L) : ∃ e' ∈ edgesP (aheadP rs L), e'.f = e.f ∧ e'.t = e.t ∧ e'.k = e.k := by
  obtain ⟨r, hr, l, hl, ha, e1, e2, e3⟩ := tri_of he
  obtain ⟨e', he', q1, q2, q3⟩ := tri_to (List.mem_filter.2 ⟨hr, decide_eq_true (e1 ▸ hf)⟩ : r ∈ aheadP rs L) hl ha
  exact ⟨e', he', q1.trans e1.symm, q2.trans e2.symm, q3.trans e3.symm⟩
theorem ahead_in {r : Ru} (hr : r ∈ aheadP rs L) : r ∈ rs := (List.mem_filter.1 hr).1
/-- The first program's names have the levels that they have in the whole. -/
theorem AheadL.levels (h : AheadL rs L) {nf nf' : ByteArray → Nat} (h1 : LeastL (edgesP rs) nf) (h2 : LeastL (edgesP (aheadP rs L)) nf') {s : ByteArray} (hs : s ∈ L) : nf s = nf' s := by
  have hle := fun s => h2.2 nf (holds_move (fun r hr => ahead_in hr) h1.1) s
  refine Nat.le_antisymm ?_ (hle s)
  have hv : Holds (edgesP rs) (fun x => if x ∈ L then nf' x else nf x) := fun e he => by
    show (if e.t ∈ L then nf' e.t else nf e.t) + e.up ≤ if e.f ∈ L then nf' e.f else nf e.f
    by_cases hf : e.f ∈ L
    · have ht := h.closed he hf
      rw [if_pos hf, if_pos ht]
      obtain ⟨e', he', q1, q2, q3⟩ := h.back he hf
      have := h2.1 e' he'
      rwa [q1, q2, up_k q3] at this
    · rw [if_neg hf]
      have h3 := h1.1 e he
      split
      · have := hle e.t; omega
      · exact h3
  have := h1.2 _ hv s
  simp only [if_pos hs] at this
  exact this
end
end Go.Proofs.YtdjffkkbjbiihaaGreatDoor
/- Levels of any rules, told as one list: rules in another order, or twice, have the same. -/
namespace Go.Proofs.YtdjffkkbjbiihaaGreatDoor
open Go.RowKit Go.WideMaps Go.Maps
set_option linter.unusedSimpArgs false
set_option linter.unusedVariables false
def NoRound (rs : List Ru) : Prop := ∀ e ∈ edgesP rs, ¬ RoundE rs e
/-- The levels that are told: none where a strict edge lies on a way round. -/
def LvIs (rs : List Ru) (l : List (ByteArray × Nat)) : Prop := (¬ NoRound rs ∧ l = []) ∨ (NoRound rs ∧ ∃ nf, LeastL (edgesP rs) nf ∧ l = (drawP rs).sorted.map fun s => (s, nf s))
theorem noRound_move {rs rs' : List Ru} (hm : ∀ r, r ∈ rs ↔ r ∈ rs') : NoRound rs ↔ NoRound rs' := by
  constructor
  · intro h e he hr
    obtain ⟨e', q1, q2⟩ := round_move (fun r => (hm r).2) ⟨e, he, hr⟩
    exact h e' q1 q2
  · intro h e he hr
    obtain ⟨e', q1, q2⟩ := round_move (fun r => (hm r).1) ⟨e, he, hr⟩
    exact h e' q1 q2
theorem LvIs.move {rs rs' : List Ru} {l l' : List (ByteArray × Nat)} (hm : ∀ r, r ∈ rs ↔ r ∈ rs') (h : LvIs rs l) (h' : LvIs rs' l') : l = l' := by
  rcases h with ⟨h1, h2⟩ | ⟨h1, nf, h2, h3⟩
  · rcases h' with ⟨k1, k2⟩ | ⟨k1, _⟩
    · rw [h2, k2]
    · exact absurd ((noRound_move hm).2 k1) h1
  · rcases h' with ⟨k1, _⟩ | ⟨k1, nf', k2, k3⟩
    · exact absurd ((noRound_move hm).1 h1) k1
    · rw [h3, k3]
      exact levels_move hm h2 k2
/-- A strict edge's kind. -/
theorem kind_ofW {rs : List Ru} {e : Ed} (he : e ∈ edgesP rs) (hs : e.strict = true) : e.k = 2 ∨ e.k = 3 ∨ e.k = 4 := by
  obtain ⟨r, hr, l, hl, ha, e1, e2, e3⟩ := tri_of he
  have h1 : e.k ≠ 1 := fun h9 => by
    unfold Ed.strict at hs
    rw [h9] at hs
    exact absurd hs (by decide)
  by_cases h2 : l.k = 2
  · rw [if_pos h2] at e3
    exact .inl e3
  · rw [if_neg h2] at e3
    unfold Ru.kind at e3
    split at e3
    · exact .inr (.inl e3)
    · split at e3
      · exact .inr (.inr e3)
      · exact absurd e3 h1
theorem errno_ne {rs : List Ru} {e : Ed} (he : e ∈ edgesP rs) (hs : e.strict = true) : e.errno ≠ 0 := by
  unfold Ed.errno
  rcases kind_ofW he hs with h | h | h <;> rw [h] <;> decide
theorem levelsL_any {M : Nat} (A : Option Addr) (c : Nat) (rs : List Ru) (w : World) (h : SlRep 3 M RRu w (.slice A rs.length c) rs) (hM : M ≤ 9223372036854775807) (hS : Small rs) :
    Calls Tryz.prog 8 #[.agg #[.slice A rs.length c]] w fun e w' => ∃ lv n ee l, e = .returned (.tuple #[lv, .int .i64 n, .int .i64 ee]) ∧ OwnL 2 w.heap.size tLev RLv w' lv l ∧ LvIs rs l ∧ (NoRound rs → ee = 0) ∧ (¬ NoRound rs → ee ≠ 0) ∧ Fut w w' := by
  refine (levelsAll_any A c rs w h hM hS).mono ?_
  rintro e w' ⟨hres, hf⟩
  rcases hres with ⟨a, x, b, hes, hx, ha, rfl⟩ | ⟨hno, nf, v, hnf, rfl, hO⟩
  · have hxm : x ∈ edgesP rs := by rw [hes]; simp
    have hn : ¬ NoRound rs := fun h9 => h9 x hxm hx
    exact ⟨_, _, _, [], rfl, OwnL.nil, .inl ⟨hn, rfl⟩, fun h9 => absurd h9 hn, fun _ => errno_ne hxm hx.1, hf⟩
  · exact ⟨_, _, _, _, rfl, hO, .inr ⟨hno, nf, hnf, rfl⟩, fun _ => rfl, fun h9 => absurd hno h9, hf⟩
#print axioms levelsL_any
end Go.Proofs.YtdjffkkbjbiihaaGreatDoor
