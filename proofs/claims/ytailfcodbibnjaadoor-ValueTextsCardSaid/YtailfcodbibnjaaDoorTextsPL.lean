/- The law ValueTexts: the walk, one case. -/
import Derived.Test.YtailfcodbibnjaaDoorText
namespace Go.Proofs.YtailfcodbibnjaaDoor
open Go.RowKit
set_option linter.unusedSimpArgs false
set_option linter.unusedVariables false

set_option maxHeartbeats 4000000 in
set_option maxRecDepth 100000 in
theorem textsPL (s t : ByteArray) (w : World) (hT : Takes w) (hs : s.size ≤ 200) (ht : t.size ≤ 200) (hp : points s.data.toList = true) (hd : 200 < s.size + t.size) :
    Calls Tryd.prog 5 #[.string s, .string t] w fun e w' => e = .returned (.bool true) ∧ Fut w w' := by
  have n1 := (nch_le s).1; have n2 := (nch_le s).2; have n3 := (nch_le t).1; have b0 := bk_size s
  have HT := Lib.hid hT; have HS := Lib.hid hs; have HU := Lib.hid ht
  have bb : Hid (bk (bk s) = s) := Lib.hid (bk_bk s hp)
  have bn : Hid (nch (bk s) = nch s) := Lib.hid (bk_nch s hp)
  have hh : Hid (heads s.data.toList = nch s) := Lib.hid (points_heads hp)
  have hl : Hid (s.data.toList.length = s.size) := Lib.hid (Lib.size_eq s).symm
  have HP := Lib.hid hp
  clear hT hp
  go_enter Tryd.func5, Tryd.ntmps5
  go_wp2_with fail
  refine (lives_any _ HT.out).mono ?_
  rintro e w1 ⟨rfl, F1⟩
  go_wp2_with fail
  refine (one_len s _ (HT.out.fut F1) HS.out).mono ?_
  rintro e w2 ⟨rfl, h2⟩
  have F2 := F1.trans h2
  go_wp2_with fail
  refine (one_chars s _ (HT.out.fut F2) HS.out).mono ?_
  rintro e w3 ⟨rfl, h3⟩
  have F3 := F2.trans h3
  go_wp2_with fail
  refine (one_chars t _ (HT.out.fut F3) HU.out).mono ?_
  rintro e w4 ⟨rfl, h4⟩
  have F4 := F3.trans h4
  go_wp2_with fail
  refine (word_any s _).mono ?_
  rintro e w5 ⟨rfl, h5⟩
  have F5 := F4.trans h5
  have V5 := Lib.hid (fun e => (own_one w5 (txtV s) (txt_ok s HS.out) e 0 (Nat.zero_le _)).vals)
  simp only [txtV, V.val]
  go_wp2_with fail
  refine (arith10_any _ s _ (HT.out.fut (F5.trans (Fut.alloc _ _))) (V5.out _) HS.out (good_txt s HS.out)).mono ?_
  rintro e w6 ⟨rfl, h6⟩
  have F6 := F5.trans ((Fut.alloc _ _).trans h6)
  clear V5
  simp only [pairV, txtV, V.val]
  go_wp2_with fail
  refine (points_any s _ (by have := HS.out; omega)).mono ?_
  rintro e w7 ⟨rfl, hw7⟩
  rw [HP.out]
  have F7 : Fut w w7 := hw7 ▸ F6.trans (Fut.alloc _ _)
  have k7_0 : w7.cell? ⟨w6.heap.size, 0, none⟩ = some (.int .i8 2) := by rw [hw7]; go_simp
  have k7_1 : w7.cell? ⟨w6.heap.size, 1, none⟩ = some (.int .i64 0) := by rw [hw7]; go_simp
  have k7_2 : w7.cell? ⟨w6.heap.size, 2, none⟩ = some (.string (bk s)) := by rw [hw7]; go_simp
  have l7 : w6.heap.size < w7.heap.size := lt_of_cell k7_0
  clear hw7
  go_wp2
  go_loop [15, 16] (fun f i => ∃ k c : Nat, i = .int .i64 k ∧ f = .int .i64 c ∧ k ≤ s.size ∧ c ≤ k ∧ Hid (c = heads (s.data.toList.take k))) (fun _ i => s.size - (intOf i).toNat)
  case atStart => exact ⟨0, 0, rfl, rfl, Nat.zero_le _, Nat.le_refl _, Lib.hid (by simp [heads])⟩
  case round =>
    obtain ⟨k, c, rfl, rfl, hk, hck, hc⟩ := hrel
    by_cases hlt : k < s.size
    · have hst := Lib.hid (heads_step s k hlt)
      have hb := s[k].toNat_lt
      have hct := Lib.hid (show ct s[k] = decide (128 ≤ s[k].toNat ∧ s[k].toNat < 192) from rfl)
      generalize hcc : s[k].toNat = b at hct hb
      by_cases g1 : b < 128
      · have f1 : (b : Int) < 128 := by omega
        have hn := Lib.hid (show c + 1 = heads (s.data.toList.take (k + 1)) by rw [hst.out, hct.out, ← hc.out, if_neg (by simp; omega)])
        clear hst hct hc
        go_wp2
        exact ⟨⟨k + 1, c + 1, by go_num, by go_num, by omega, by omega, hn⟩, by simp [intOf]; omega⟩
      · have f1 : ¬ (b : Int) < 128 := by omega
        by_cases g2 : 192 ≤ b
        · have f2 : (192 : Int) ≤ b := by omega
          have hn := Lib.hid (show c + 1 = heads (s.data.toList.take (k + 1)) by rw [hst.out, hct.out, ← hc.out, if_neg (by simp; omega)])
          clear hst hct hc
          go_wp2
          exact ⟨⟨k + 1, c + 1, by go_num, by go_num, by omega, by omega, hn⟩, by simp [intOf]; omega⟩
        · have f2 : ¬ (192 : Int) ≤ b := by omega
          have hn := Lib.hid (show c = heads (s.data.toList.take (k + 1)) by rw [hst.out, hct.out, ← hc.out, if_pos (by simp; omega)])
          clear hst hct hc
          go_wp2
          exact ⟨⟨k + 1, c, by go_num, rfl, by omega, by omega, hn⟩, by simp [intOf]; omega⟩
    · obtain rfl : k = s.size := by omega
      have e5 := hc.out
      rw [← hl.out, List.take_length, hh.out] at e5
      subst e5
      clear hc hh
      have V7 := Lib.hid (fun e => (own_one w7 (txtV (bk s)) (txt_ok (bk s) (by have := HS.out; omega)) e 0 (Nat.zero_le _)).vals)
      simp only [txtV] at V7
      go_wp2_with fail
      refine (arith10_to _ (bk s) s _ (HT.out.fut (F7.trans (Fut.alloc _ _))) (V7.out _) (by have := HS.out; omega) bb.out).mono ?_
      rintro e w8 ⟨rfl, h8⟩
      have F8 := F7.trans ((Fut.alloc _ _).trans h8)
      clear V7
      have k8_0 := fun o => (Fut.alloc w8 o).cell (((Fut.alloc _ _).trans h8).cell k7_0)
      have k8_1 := fun o => (Fut.alloc w8 o).cell (((Fut.alloc _ _).trans h8).cell k7_1)
      have k8_2 := fun o => (Fut.alloc w8 o).cell (((Fut.alloc _ _).trans h8).cell k7_2)
      simp only [pairV, txtV, V.val]
      go_wp2_with fail
      refine (one_chars_to (bk s) (nch s) _ (HT.out.fut (F8.trans (Fut.alloc _ _))) (by have := HS.out; omega) bn.out).mono ?_
      rintro e w9 ⟨rfl, h9⟩
      have F9 := F8.trans ((Fut.alloc _ _).trans h9)
      have k9_0 : w9.cell? ⟨w8.heap.size, 0, none⟩ = some (.int .i8 2) := h9.cell (by go_simp)
      have k9_1 : w9.cell? ⟨w8.heap.size, 1, none⟩ = some (.int .i64 0) := h9.cell (by go_simp)
      have k9_2 : w9.cell? ⟨w8.heap.size, 2, none⟩ = some (.string s) := h9.cell (by go_simp)
      clear k8_0 k8_1 k8_2 h8 h9
      go_wp2
      refine wp_graph 17 [.d, .d, .d, .d, .d, .d, .d, .d, .d, .d, .d, .d, .d, .d, .d, .d, .d] (by kernel_rfl) (by kernel_rfl) (by kernel_rfl) ?_
      simp only [List.take_succ_cons, List.take_zero, List.drop_succ_cons, List.drop_zero, Exs]
      iterate 17 apply Exists.intro
      apply Run.valG (wanted_none rfl _)
      · intro w1 h1 hk
        have q0 := ((Fut.drew _).trans h1).cell k9_0; have q1 := ((Fut.drew _).trans h1).cell k9_1; have q2 := ((Fut.drew _).trans h1).cell k9_2
        have hcw := fun b o => Below.cell (p := ⟨b, o, none⟩) h1
        go_simp; rfl
      simp only [Act.put, List.setIfInBounds_toArray, List.set_cons_succ, List.set_cons_zero, List.nil_append, List.cons_append]
      apply Run.valG (wanted_none rfl _)
      · intro w1 h1 hk
        have q0 := ((Fut.drew _).trans h1).cell k9_0; have q1 := ((Fut.drew _).trans h1).cell k9_1; have q2 := ((Fut.drew _).trans h1).cell k9_2
        have hcw := fun b o => Below.cell (p := ⟨b, o, none⟩) h1
        go_simp; rfl
      simp only [Act.put, List.setIfInBounds_toArray, List.set_cons_succ, List.set_cons_zero, List.nil_append, List.cons_append]
      apply Run.valG (wanted_none rfl _)
      · intro w1 h1 hk
        have q0 := ((Fut.drew _).trans h1).cell k9_0; have q1 := ((Fut.drew _).trans h1).cell k9_1; have q2 := ((Fut.drew _).trans h1).cell k9_2
        have hcw := fun b o => Below.cell (p := ⟨b, o, none⟩) h1
        go_simp; rfl
      simp only [Act.put, List.setIfInBounds_toArray, List.set_cons_succ, List.set_cons_zero, List.nil_append, List.cons_append]
      apply Run.valG (by go_simp)
      · intro w1 h1 hk
        have q0 := ((Fut.drew _).trans h1).cell k9_0; have q1 := ((Fut.drew _).trans h1).cell k9_1; have q2 := ((Fut.drew _).trans h1).cell k9_2
        have hcw := fun b o => Below.cell (p := ⟨b, o, none⟩) h1
        go_simp; rfl
      simp only [Act.put, List.setIfInBounds_toArray, List.set_cons_succ, List.set_cons_zero, List.nil_append, List.cons_append]
      apply Run.valG (by go_simp)
      · intro w1 h1 hk
        have q0 := ((Fut.drew _).trans h1).cell k9_0; have q1 := ((Fut.drew _).trans h1).cell k9_1; have q2 := ((Fut.drew _).trans h1).cell k9_2
        have hcw := fun b o => Below.cell (p := ⟨b, o, none⟩) h1
        go_simp; rfl
      simp only [Act.put, List.setIfInBounds_toArray, List.set_cons_succ, List.set_cons_zero, List.nil_append, List.cons_append]
      apply Run.valG (wanted_none rfl _)
      · intro w1 h1 hk
        have q0 := ((Fut.drew _).trans h1).cell k9_0; have q1 := ((Fut.drew _).trans h1).cell k9_1; have q2 := ((Fut.drew _).trans h1).cell k9_2
        have hcw := fun b o => Below.cell (p := ⟨b, o, none⟩) h1
        go_simp; rfl
      simp only [Act.put, List.setIfInBounds_toArray, List.set_cons_succ, List.set_cons_zero, List.nil_append, List.cons_append]
      apply Run.valG (wanted_none rfl _)
      · intro w1 h1 hk
        have q0 := ((Fut.drew _).trans h1).cell k9_0; have q1 := ((Fut.drew _).trans h1).cell k9_1; have q2 := ((Fut.drew _).trans h1).cell k9_2
        have hcw := fun b o => Below.cell (p := ⟨b, o, none⟩) h1
        go_simp; rfl
      simp only [Act.put, List.setIfInBounds_toArray, List.set_cons_succ, List.set_cons_zero, List.nil_append, List.cons_append]
      apply Run.valG (by go_simp)
      · intro w1 h1 hk
        have q0 := ((Fut.drew _).trans h1).cell k9_0; have q1 := ((Fut.drew _).trans h1).cell k9_1; have q2 := ((Fut.drew _).trans h1).cell k9_2
        have hcw := fun b o => Below.cell (p := ⟨b, o, none⟩) h1
        go_simp; rfl
      simp only [Act.put, List.setIfInBounds_toArray, List.set_cons_succ, List.set_cons_zero, List.nil_append, List.cons_append]
      apply Run.valG (by go_simp)
      · intro w1 h1 hk
        have q0 := ((Fut.drew _).trans h1).cell k9_0; have q1 := ((Fut.drew _).trans h1).cell k9_1; have q2 := ((Fut.drew _).trans h1).cell k9_2
        have hcw := fun b o => Below.cell (p := ⟨b, o, none⟩) h1
        go_simp; rfl
      simp only [Act.put, List.setIfInBounds_toArray, List.set_cons_succ, List.set_cons_zero, List.nil_append, List.cons_append]
      apply Run.call (by go_simp) (fun _ _ => by go_simp; exact ⟨rfl, rfl⟩)
      · intro w1 h1 hk
        have q0 := ((Fut.drew _).trans h1).cell k9_0; have q1 := ((Fut.drew _).trans h1).cell k9_1; have q2 := ((Fut.drew _).trans h1).cell k9_2
        exact word_any s _
      simp only [Act.put, List.setIfInBounds_toArray, List.set_cons_succ, List.set_cons_zero, List.nil_append, List.cons_append]
      apply Run.valG (by go_simp)
      · intro w1 h1 hk
        have q0 := ((Fut.drew _).trans h1).cell k9_0; have q1 := ((Fut.drew _).trans h1).cell k9_1; have q2 := ((Fut.drew _).trans h1).cell k9_2
        have hcw := fun b o => Below.cell (p := ⟨b, o, none⟩) h1
        exact (exec_neV rfl (txtV s) (txtV s) rfl rfl w1).trans (by rw [decide_eq_true rfl, Bool.not_true])
      simp only [Act.put, List.setIfInBounds_toArray, List.set_cons_succ, List.set_cons_zero, List.nil_append, List.cons_append]
      apply Run.valG (wanted_none rfl _)
      · intro w1 h1 hk
        have q0 := ((Fut.drew _).trans h1).cell k9_0; have q1 := ((Fut.drew _).trans h1).cell k9_1; have q2 := ((Fut.drew _).trans h1).cell k9_2
        have hcw := fun b o => Below.cell (p := ⟨b, o, none⟩) h1
        go_simp; rfl
      simp only [Act.put, List.setIfInBounds_toArray, List.set_cons_succ, List.set_cons_zero, List.nil_append, List.cons_append]
      apply Run.valG (wanted_none rfl _)
      · intro w1 h1 hk
        have q0 := ((Fut.drew _).trans h1).cell k9_0; have q1 := ((Fut.drew _).trans h1).cell k9_1; have q2 := ((Fut.drew _).trans h1).cell k9_2
        have hcw := fun b o => Below.cell (p := ⟨b, o, none⟩) h1
        go_simp; rfl
      simp only [Act.put, List.setIfInBounds_toArray, List.set_cons_succ, List.set_cons_zero, List.nil_append, List.cons_append]
      apply Run.valG (by go_simp)
      · intro w1 h1 hk
        have q0 := ((Fut.drew _).trans h1).cell k9_0; have q1 := ((Fut.drew _).trans h1).cell k9_1; have q2 := ((Fut.drew _).trans h1).cell k9_2
        have hcw := fun b o => Below.cell (p := ⟨b, o, none⟩) h1
        go_simp; rfl
      simp only [Act.put, List.setIfInBounds_toArray, List.set_cons_succ, List.set_cons_zero, List.nil_append, List.cons_append]
      apply Run.valG (by go_simp)
      · intro w1 h1 hk
        have q0 := ((Fut.drew _).trans h1).cell k9_0; have q1 := ((Fut.drew _).trans h1).cell k9_1; have q2 := ((Fut.drew _).trans h1).cell k9_2
        have hcw := fun b o => Below.cell (p := ⟨b, o, none⟩) h1
        go_simp; rfl
      simp only [Act.put, List.setIfInBounds_toArray, List.set_cons_succ, List.set_cons_zero, List.nil_append, List.cons_append]
      apply Run.valG (by go_simp)
      · intro w1 h1 hk
        have q0 := ((Fut.drew _).trans h1).cell k9_0; have q1 := ((Fut.drew _).trans h1).cell k9_1; have q2 := ((Fut.drew _).trans h1).cell k9_2
        have hcw := fun b o => Below.cell (p := ⟨b, o, none⟩) h1
        go_simp; rfl
      simp only [Act.put, List.setIfInBounds_toArray, List.set_cons_succ, List.set_cons_zero, List.nil_append, List.cons_append]
      apply Run.valG (wanted_none rfl _)
      · intro w1 h1 hk
        have q0 := ((Fut.drew _).trans h1).cell k9_0; have q1 := ((Fut.drew _).trans h1).cell k9_1; have q2 := ((Fut.drew _).trans h1).cell k9_2
        have hcw := fun b o => Below.cell (p := ⟨b, o, none⟩) h1
        go_simp; rfl
      simp only [Act.put, List.setIfInBounds_toArray, List.set_cons_succ, List.set_cons_zero, List.nil_append, List.cons_append]
      apply Run.done
      intro w10 h10 hk
      clear hk
      have F10 := F9.trans ((Fut.drew _).trans h10)
      clear k9_0 k9_1 k9_2
      go_wp2_with fail
      refine (word_any s _).mono ?_
      rintro e w11 ⟨rfl, h11⟩
      have F11 := F10.trans h11
      go_wp2_with fail
      refine (word_any t _).mono ?_
      rintro e w12 ⟨rfl, h12⟩
      have F12 := F11.trans h12
      have V12 := Lib.hid (fun e => vals_two w12 (txtV s) (txtV t) (txt_ok s HS.out) (txt_ok t HU.out) e)
      simp only [txtV] at V12
      simp only [txtV, V.val]
      go_wp2_with fail
      refine (arith7n_any _ (txtV s) (txtV t) _ (HT.out.fut (F12.trans (Fut.alloc _ _))) (V12.out _) (good_txt s HS.out) (good_txt t HU.out) (by have := HS.out; have := HU.out; simp only [txtV]; omega) (by simp only [txtV]; rw [ByteArray.size_append]; omega)).mono ?_
      rintro e w13 ⟨rfl, h13⟩
      have F13 := F12.trans ((Fut.alloc _ _).trans h13)
      clear V12
      simp only [pairV, noV, txtV, V.val]
      go_wp2
      all_goals go_ret
      all_goals exact ⟨by first | rfl | simp, F13.trans (Fut.alloc _ _)⟩

end Go.Proofs.YtailfcodbibnjaaDoor
