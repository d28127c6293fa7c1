/- The law ValueTexts: the walk, one case. -/
import Derived.Test.YtailfcodbibnjaaDoorText
namespace Go.Proofs.YtailfcodbibnjaaDoor
open Go.RowKit
set_option linter.unusedSimpArgs false
set_option linter.unusedVariables false

set_option maxHeartbeats 4000000 in
set_option maxRecDepth 100000 in
theorem textsQL (s t : ByteArray) (w : World) (hT : Takes w) (hs : s.size ≤ 200) (ht : t.size ≤ 200) (hp : points s.data.toList = false) (hd : 200 < s.size + t.size) :
    Calls Tryd.prog 5 #[.string s, .string t] w fun e w' => e = .returned (.bool true) ∧ Fut w w' := by
  have n1 := (nch_le s).1; have n2 := (nch_le s).2; have n3 := (nch_le t).1; have b0 := bk_size s
  have HT := Lib.hid hT; have HS := Lib.hid hs; have HU := Lib.hid ht
  have hl : Hid (s.data.toList.length = s.size) := Lib.hid (Lib.size_eq s).symm
  have HP := Lib.hid hp
  clear hT hp
  go_enter Tryd.func5, Tryd.ntmps5
  go_wp2_with fail
  refine (lives_any _ HT.out).mono ?_
  rintro e w1 ⟨rfl, F1⟩
  go_wp2_with fail
  refine (one_len s _ (HT.out.fut F1) HS.out).mono ?_
  rintro e w2 ⟨rfl, h2⟩
  have F2 := F1.trans h2
  go_wp2_with fail
  refine (one_chars s _ (HT.out.fut F2) HS.out).mono ?_
  rintro e w3 ⟨rfl, h3⟩
  have F3 := F2.trans h3
  go_wp2_with fail
  refine (one_chars t _ (HT.out.fut F3) HU.out).mono ?_
  rintro e w4 ⟨rfl, h4⟩
  have F4 := F3.trans h4
  go_wp2_with fail
  refine (word_any s _).mono ?_
  rintro e w5 ⟨rfl, h5⟩
  have F5 := F4.trans h5
  have V5 := Lib.hid (fun e => (own_one w5 (txtV s) (txt_ok s HS.out) e 0 (Nat.zero_le _)).vals)
  simp only [txtV, V.val]
  go_wp2_with fail
  refine (arith10_any _ s _ (HT.out.fut (F5.trans (Fut.alloc _ _))) (V5.out _) HS.out (good_txt s HS.out)).mono ?_
  rintro e w6 ⟨rfl, h6⟩
  have F6 := F5.trans ((Fut.alloc _ _).trans h6)
  clear V5
  simp only [pairV, txtV, V.val]
  go_wp2_with fail
  refine (points_any s _ (by have := HS.out; omega)).mono ?_
  rintro e w7 ⟨rfl, hw7⟩
  rw [HP.out]
  have F7 : Fut w w7 := hw7 ▸ F6.trans (Fut.alloc _ _)
  have k7_0 : w7.cell? ⟨w6.heap.size, 0, none⟩ = some (.int .i8 2) := by rw [hw7]; go_simp
  have k7_1 : w7.cell? ⟨w6.heap.size, 1, none⟩ = some (.int .i64 0) := by rw [hw7]; go_simp
  have k7_2 : w7.cell? ⟨w6.heap.size, 2, none⟩ = some (.string (bk s)) := by rw [hw7]; go_simp
  have l7 : w6.heap.size < w7.heap.size := lt_of_cell k7_0
  clear hw7
  go_wp2_with fail
  refine (word_any s _).mono ?_
  rintro e w11 ⟨rfl, h11⟩
  have F11 := F7.trans h11
  go_wp2_with fail
  refine (word_any t _).mono ?_
  rintro e w12 ⟨rfl, h12⟩
  have F12 := F11.trans h12
  have V12 := Lib.hid (fun e => vals_two w12 (txtV s) (txtV t) (txt_ok s HS.out) (txt_ok t HU.out) e)
  simp only [txtV] at V12
  simp only [txtV, V.val]
  go_wp2_with fail
  refine (arith7n_any _ (txtV s) (txtV t) _ (HT.out.fut (F12.trans (Fut.alloc _ _))) (V12.out _) (good_txt s HS.out) (good_txt t HU.out) (by have := HS.out; have := HU.out; simp only [txtV]; omega) (by simp only [txtV]; rw [ByteArray.size_append]; omega)).mono ?_
  rintro e w13 ⟨rfl, h13⟩
  have F13 := F12.trans ((Fut.alloc _ _).trans h13)
  clear V12
  simp only [pairV, noV, txtV, V.val]
  go_wp2
  all_goals go_ret
  all_goals exact ⟨by first | rfl | simp, F13.trans (Fut.alloc _ _)⟩

end Go.Proofs.YtailfcodbibnjaaDoor
