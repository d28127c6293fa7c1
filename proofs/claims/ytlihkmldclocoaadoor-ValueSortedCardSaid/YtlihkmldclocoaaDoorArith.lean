/- value.Arith, case by case; num, word1, number, text, fits. -/
import Derived.Test.YtlihkmldclocoaaDoorOrd
namespace Go.Proofs.YtlihkmldclocoaaDoor
open Go.RowKit
set_option linter.unusedSimpArgs false
set_option linter.unusedVariables false

def numV (n : Int) : V := ⟨1, n, ⟨#[]⟩⟩
def txtV (s : ByteArray) : V := ⟨2, 0, s⟩
def noV : V := ⟨0, 0, ⟨#[]⟩⟩
def pairV (x : V) (b : Bool) : Value := .tuple #[x.val, .bool b]

set_option maxHeartbeats 400000 in
theorem num_any (n : Int) (w : World) : Calls Tryd.prog 48 #[.int .i64 n] w fun e w' => e = .returned (numV n).val ∧ Fut w w' := by
  go_enter Tryd.func48, Tryd.ntmps48
  go_wp2
  exact bodyPost_ret (v := (numV n).val) (by simp [results, Tryd.results48, go_sem, numV, V.val]) rfl ⟨rfl, (Fut.alloc _ _)⟩
set_option maxHeartbeats 400000 in
theorem word_any (s : ByteArray) (w : World) : Calls Tryd.prog 49 #[.string s] w fun e w' => e = .returned (txtV s).val ∧ Fut w w' := by
  go_enter Tryd.func49, Tryd.ntmps49
  go_wp2
  exact bodyPost_ret (v := (txtV s).val) (by simp [results, Tryd.results49, go_sem, txtV, V.val]) rfl ⟨rfl, (Fut.alloc _ _)⟩
set_option maxHeartbeats 400000 in
theorem number_any (n : Int) (w : World) : Calls Tryd.prog 38 #[.int .i64 n] w fun e w' => e = .returned (pairV (numV n) true) ∧ Fut w w' := by
  go_enter Tryd.func38, Tryd.ntmps38
  go_wp2
  exact bodyPost_ret (v := pairV (numV n) true) (by simp [results, Tryd.results38, go_sem, numV, V.val, pairV]) rfl ⟨rfl, (Fut.alloc _ _)⟩

set_option maxHeartbeats 400000 in
theorem text_any (s : ByteArray) (w : World) (hs : s.size ≤ 140737488351232) : Calls Tryd.prog 40 #[.string s] w fun e w' => e = .returned (if s.size ≤ 200 then pairV (txtV s) true else pairV noV false) ∧ Fut w w' := by
  by_cases h : s.size ≤ 200
  · rw [if_pos h]
    go_enter Tryd.func40, Tryd.ntmps40
    go_wp2
    exact bodyPost_ret (v := pairV (txtV s) true) (by simp [results, Tryd.results40, go_sem, txtV, V.val, pairV]) rfl ⟨rfl, (Fut.alloc _ _)⟩
  · rw [if_neg h]
    go_enter Tryd.func40, Tryd.ntmps40
    go_wp2
    exact bodyPost_ret (v := pairV noV false) (by simp [results, Tryd.results40, go_sem, noV, V.val, pairV]) rfl ⟨rfl, (Fut.alloc _ _)⟩

def good (K : Int) (x : V) : Bool := x.k == K && chk x.k x.n x.s == 0
def fitsV (n : Nat) (K : Int) (xs : List V) : Bool := decide (xs.length = n) && xs.all (good K)

set_option maxHeartbeats 400000 in
theorem fits1_any (a : Value) (xs : List V) (w : World) (ha : Vals w a xs) :
    Calls Tryd.prog 37 #[.int .i8 1, a] w fun e w' => e = .returned (.bool (fitsV 1 1 xs)) ∧ Fut w w' := by
  obtain ⟨A, cap, rfl, hl, hm⟩ := SlRep.form ha
  by_cases hn : xs.length = 1
  · have hlen : ((xs.length : Int) != 1) = false := by simp [hn]
    have HN := Lib.hid hn
    clear hn
    go_enter Tryd.func37, Tryd.ntmps37
    go_wp2
    go_loopw [24] (fun i wr => ∃ k : Nat, k ≤ xs.length ∧ i = .int .i64 k ∧ Hid ((xs.take k).all (good 1) = true) ∧ Hid (Fut w wr)) (fun i _ => xs.length - (intOf i).toNat)
    case atStart => exact ⟨0, Nat.zero_le _, rfl, Lib.hid (by simp), Lib.hid (Fut.refl _)⟩
    case round =>
      obtain ⟨k, hk, rfl, hg, hf⟩ := hrel
      by_cases hlt : k < xs.length
      · obtain ⟨b, off, rfl, hok, x0, x1, x2⟩ := Vals.at_ (ha.fut RV.stays hf.out) hlt
        have hstep := Lib.hid (show (xs.take (k + 1)).all (good 1) = good 1 (xs[k]) by rw [List.take_add_one, List.all_append, hg.out]; simp [hlt])
        have hall := Lib.hid (fun h : good 1 (xs[k]) = false => (show xs.all (good 1) = false by rw [List.all_eq_false]; exact ⟨_, List.getElem_mem hlt, by simp [h]⟩))
        generalize hx : xs[k] = x at *
        obtain ⟨kk, nn, ss⟩ := x
        by_cases h1 : kk = 1
        · have d1 : (kk != 1) = false := by simp [h1]
          by_cases h2 : chk kk nn ss = 0
          · have hgd := Lib.hid (show good 1 ⟨kk, nn, ss⟩ = true by simp [good, h1]; rw [← h1]; exact h2)
            have H1 := Lib.hid h1
            clear h1
            have H2 := Lib.hid h2
            clear h2
            go_wp2_with fail
            refine (check_any _ _ _ _ hok.2.2).mono ?_
            rintro e w1 ⟨rfl, h1⟩
            rw [H2.out]
            go_wp2
            exact ⟨⟨k + 1, by omega, by go_num, Lib.hid (by rw [hstep.out]; exact hgd.out), Lib.hid ((hf.out.trans (Fut.alloc _ _)).trans h1)⟩, by simp [intOf]; omega⟩
          · have d2 : (chk kk nn ss != 0) = true := by simpa using h2
            have hgd := Lib.hid (hall.out (show good 1 ⟨kk, nn, ss⟩ = false by simp [good, h2]))
            have H1 := Lib.hid h1
            clear h1
            clear h2
            go_wp2_with fail
            refine (check_any _ _ _ _ hok.2.2).mono ?_
            rintro e w1 ⟨rfl, h1⟩
            go_wp2
            go_ret
            exact ⟨by rw [fitsV, hgd.out, Bool.and_false]; rfl, (hf.out.trans (Fut.alloc _ _)).trans h1⟩
        · have d1 : (kk != 1) = true := by simpa using h1
          have hgd := Lib.hid (hall.out (show good 1 ⟨kk, nn, ss⟩ = false by simp [good, h1]))
          clear h1
          go_wp2
          go_ret
          exact ⟨by rw [fitsV, hgd.out, Bool.and_false]; rfl, (hf.out.trans (Fut.alloc _ _))⟩
      · obtain rfl : k = xs.length := by omega
        go_wp2
        go_ret
        refine ⟨?_, hf.out⟩
        have h1 := hg.out
        rw [List.take_length] at h1
        rw [fitsV, h1, HN.out]
        rfl
  · have hlen : ((xs.length : Int) != 1) = true := by simp; omega
    have HN := Lib.hid hn
    clear hn
    go_enter Tryd.func37, Tryd.ntmps37
    go_wp2
    go_ret
    exact ⟨by have := HN.out; simp [fitsV, this], Fut.refl _⟩
set_option maxHeartbeats 400000 in
theorem fits2_any (a : Value) (xs : List V) (w : World) (ha : Vals w a xs) :
    Calls Tryd.prog 37 #[.int .i8 2, a] w fun e w' => e = .returned (.bool (fitsV 2 1 xs)) ∧ Fut w w' := by
  obtain ⟨A, cap, rfl, hl, hm⟩ := SlRep.form ha
  by_cases hn : xs.length = 2
  · have hlen : ((xs.length : Int) != 2) = false := by simp [hn]
    have HN := Lib.hid hn
    clear hn
    go_enter Tryd.func37, Tryd.ntmps37
    go_wp2
    go_loopw [24] (fun i wr => ∃ k : Nat, k ≤ xs.length ∧ i = .int .i64 k ∧ Hid ((xs.take k).all (good 1) = true) ∧ Hid (Fut w wr)) (fun i _ => xs.length - (intOf i).toNat)
    case atStart => exact ⟨0, Nat.zero_le _, rfl, Lib.hid (by simp), Lib.hid (Fut.refl _)⟩
    case round =>
      obtain ⟨k, hk, rfl, hg, hf⟩ := hrel
      by_cases hlt : k < xs.length
      · obtain ⟨b, off, rfl, hok, x0, x1, x2⟩ := Vals.at_ (ha.fut RV.stays hf.out) hlt
        have hstep := Lib.hid (show (xs.take (k + 1)).all (good 1) = good 1 (xs[k]) by rw [List.take_add_one, List.all_append, hg.out]; simp [hlt])
        have hall := Lib.hid (fun h : good 1 (xs[k]) = false => (show xs.all (good 1) = false by rw [List.all_eq_false]; exact ⟨_, List.getElem_mem hlt, by simp [h]⟩))
        generalize hx : xs[k] = x at *
        obtain ⟨kk, nn, ss⟩ := x
        by_cases h1 : kk = 1
        · have d1 : (kk != 1) = false := by simp [h1]
          by_cases h2 : chk kk nn ss = 0
          · have hgd := Lib.hid (show good 1 ⟨kk, nn, ss⟩ = true by simp [good, h1]; rw [← h1]; exact h2)
            have H1 := Lib.hid h1
            clear h1
            have H2 := Lib.hid h2
            clear h2
            go_wp2_with fail
            refine (check_any _ _ _ _ hok.2.2).mono ?_
            rintro e w1 ⟨rfl, h1⟩
            rw [H2.out]
            go_wp2
            exact ⟨⟨k + 1, by omega, by go_num, Lib.hid (by rw [hstep.out]; exact hgd.out), Lib.hid ((hf.out.trans (Fut.alloc _ _)).trans h1)⟩, by simp [intOf]; omega⟩
          · have d2 : (chk kk nn ss != 0) = true := by simpa using h2
            have hgd := Lib.hid (hall.out (show good 1 ⟨kk, nn, ss⟩ = false by simp [good, h2]))
            have H1 := Lib.hid h1
            clear h1
            clear h2
            go_wp2_with fail
            refine (check_any _ _ _ _ hok.2.2).mono ?_
            rintro e w1 ⟨rfl, h1⟩
            go_wp2
            go_ret
            exact ⟨by rw [fitsV, hgd.out, Bool.and_false]; rfl, (hf.out.trans (Fut.alloc _ _)).trans h1⟩
        · have d1 : (kk != 1) = true := by simpa using h1
          have hgd := Lib.hid (hall.out (show good 1 ⟨kk, nn, ss⟩ = false by simp [good, h1]))
          clear h1
          go_wp2
          go_ret
          exact ⟨by rw [fitsV, hgd.out, Bool.and_false]; rfl, (hf.out.trans (Fut.alloc _ _))⟩
      · obtain rfl : k = xs.length := by omega
        go_wp2
        go_ret
        refine ⟨?_, hf.out⟩
        have h1 := hg.out
        rw [List.take_length] at h1
        rw [fitsV, h1, HN.out]
        rfl
  · have hlen : ((xs.length : Int) != 2) = true := by simp; omega
    have HN := Lib.hid hn
    clear hn
    go_enter Tryd.func37, Tryd.ntmps37
    go_wp2
    go_ret
    exact ⟨by have := HN.out; simp [fitsV, this], Fut.refl _⟩
set_option maxHeartbeats 400000 in
theorem fits3_any (a : Value) (xs : List V) (w : World) (ha : Vals w a xs) :
    Calls Tryd.prog 37 #[.int .i8 3, a] w fun e w' => e = .returned (.bool (fitsV 1 2 xs)) ∧ Fut w w' := by
  obtain ⟨A, cap, rfl, hl, hm⟩ := SlRep.form ha
  by_cases hn : xs.length = 1
  · have hlen : ((xs.length : Int) != 1) = false := by simp [hn]
    have HN := Lib.hid hn
    clear hn
    go_enter Tryd.func37, Tryd.ntmps37
    go_wp2
    go_loopw [24] (fun i wr => ∃ k : Nat, k ≤ xs.length ∧ i = .int .i64 k ∧ Hid ((xs.take k).all (good 2) = true) ∧ Hid (Fut w wr)) (fun i _ => xs.length - (intOf i).toNat)
    case atStart => exact ⟨0, Nat.zero_le _, rfl, Lib.hid (by simp), Lib.hid (Fut.refl _)⟩
    case round =>
      obtain ⟨k, hk, rfl, hg, hf⟩ := hrel
      by_cases hlt : k < xs.length
      · obtain ⟨b, off, rfl, hok, x0, x1, x2⟩ := Vals.at_ (ha.fut RV.stays hf.out) hlt
        have hstep := Lib.hid (show (xs.take (k + 1)).all (good 2) = good 2 (xs[k]) by rw [List.take_add_one, List.all_append, hg.out]; simp [hlt])
        have hall := Lib.hid (fun h : good 2 (xs[k]) = false => (show xs.all (good 2) = false by rw [List.all_eq_false]; exact ⟨_, List.getElem_mem hlt, by simp [h]⟩))
        generalize hx : xs[k] = x at *
        obtain ⟨kk, nn, ss⟩ := x
        by_cases h1 : kk = 2
        · have d1 : (kk != 2) = false := by simp [h1]
          by_cases h2 : chk kk nn ss = 0
          · have hgd := Lib.hid (show good 2 ⟨kk, nn, ss⟩ = true by simp [good, h1]; rw [← h1]; exact h2)
            have H1 := Lib.hid h1
            clear h1
            have H2 := Lib.hid h2
            clear h2
            go_wp2_with fail
            refine (check_any _ _ _ _ hok.2.2).mono ?_
            rintro e w1 ⟨rfl, h1⟩
            rw [H2.out]
            go_wp2
            exact ⟨⟨k + 1, by omega, by go_num, Lib.hid (by rw [hstep.out]; exact hgd.out), Lib.hid ((hf.out.trans (Fut.alloc _ _)).trans h1)⟩, by simp [intOf]; omega⟩
          · have d2 : (chk kk nn ss != 0) = true := by simpa using h2
            have hgd := Lib.hid (hall.out (show good 2 ⟨kk, nn, ss⟩ = false by simp [good, h2]))
            have H1 := Lib.hid h1
            clear h1
            clear h2
            go_wp2_with fail
            refine (check_any _ _ _ _ hok.2.2).mono ?_
            rintro e w1 ⟨rfl, h1⟩
            go_wp2
            go_ret
            exact ⟨by rw [fitsV, hgd.out, Bool.and_false]; rfl, (hf.out.trans (Fut.alloc _ _)).trans h1⟩
        · have d1 : (kk != 2) = true := by simpa using h1
          have hgd := Lib.hid (hall.out (show good 2 ⟨kk, nn, ss⟩ = false by simp [good, h1]))
          clear h1
          go_wp2
          go_ret
          exact ⟨by rw [fitsV, hgd.out, Bool.and_false]; rfl, (hf.out.trans (Fut.alloc _ _))⟩
      · obtain rfl : k = xs.length := by omega
        go_wp2
        go_ret
        refine ⟨?_, hf.out⟩
        have h1 := hg.out
        rw [List.take_length] at h1
        rw [fitsV, h1, HN.out]
        rfl
  · have hlen : ((xs.length : Int) != 1) = true := by simp; omega
    have HN := Lib.hid hn
    clear hn
    go_enter Tryd.func37, Tryd.ntmps37
    go_wp2
    go_ret
    exact ⟨by have := HN.out; simp [fitsV, this], Fut.refl _⟩
set_option maxHeartbeats 400000 in
theorem fits4_any (a : Value) (xs : List V) (w : World) (ha : Vals w a xs) :
    Calls Tryd.prog 37 #[.int .i8 4, a] w fun e w' => e = .returned (.bool (fitsV 2 2 xs)) ∧ Fut w w' := by
  obtain ⟨A, cap, rfl, hl, hm⟩ := SlRep.form ha
  by_cases hn : xs.length = 2
  · have hlen : ((xs.length : Int) != 2) = false := by simp [hn]
    have HN := Lib.hid hn
    clear hn
    go_enter Tryd.func37, Tryd.ntmps37
    go_wp2
    go_loopw [24] (fun i wr => ∃ k : Nat, k ≤ xs.length ∧ i = .int .i64 k ∧ Hid ((xs.take k).all (good 2) = true) ∧ Hid (Fut w wr)) (fun i _ => xs.length - (intOf i).toNat)
    case atStart => exact ⟨0, Nat.zero_le _, rfl, Lib.hid (by simp), Lib.hid (Fut.refl _)⟩
    case round =>
      obtain ⟨k, hk, rfl, hg, hf⟩ := hrel
      by_cases hlt : k < xs.length
      · obtain ⟨b, off, rfl, hok, x0, x1, x2⟩ := Vals.at_ (ha.fut RV.stays hf.out) hlt
        have hstep := Lib.hid (show (xs.take (k + 1)).all (good 2) = good 2 (xs[k]) by rw [List.take_add_one, List.all_append, hg.out]; simp [hlt])
        have hall := Lib.hid (fun h : good 2 (xs[k]) = false => (show xs.all (good 2) = false by rw [List.all_eq_false]; exact ⟨_, List.getElem_mem hlt, by simp [h]⟩))
        generalize hx : xs[k] = x at *
        obtain ⟨kk, nn, ss⟩ := x
        by_cases h1 : kk = 2
        · have d1 : (kk != 2) = false := by simp [h1]
          by_cases h2 : chk kk nn ss = 0
          · have hgd := Lib.hid (show good 2 ⟨kk, nn, ss⟩ = true by simp [good, h1]; rw [← h1]; exact h2)
            have H1 := Lib.hid h1
            clear h1
            have H2 := Lib.hid h2
            clear h2
            go_wp2_with fail
            refine (check_any _ _ _ _ hok.2.2).mono ?_
            rintro e w1 ⟨rfl, h1⟩
            rw [H2.out]
            go_wp2
            exact ⟨⟨k + 1, by omega, by go_num, Lib.hid (by rw [hstep.out]; exact hgd.out), Lib.hid ((hf.out.trans (Fut.alloc _ _)).trans h1)⟩, by simp [intOf]; omega⟩
          · have d2 : (chk kk nn ss != 0) = true := by simpa using h2
            have hgd := Lib.hid (hall.out (show good 2 ⟨kk, nn, ss⟩ = false by simp [good, h2]))
            have H1 := Lib.hid h1
            clear h1
            clear h2
            go_wp2_with fail
            refine (check_any _ _ _ _ hok.2.2).mono ?_
            rintro e w1 ⟨rfl, h1⟩
            go_wp2
            go_ret
            exact ⟨by rw [fitsV, hgd.out, Bool.and_false]; rfl, (hf.out.trans (Fut.alloc _ _)).trans h1⟩
        · have d1 : (kk != 2) = true := by simpa using h1
          have hgd := Lib.hid (hall.out (show good 2 ⟨kk, nn, ss⟩ = false by simp [good, h1]))
          clear h1
          go_wp2
          go_ret
          exact ⟨by rw [fitsV, hgd.out, Bool.and_false]; rfl, (hf.out.trans (Fut.alloc _ _))⟩
      · obtain rfl : k = xs.length := by omega
        go_wp2
        go_ret
        refine ⟨?_, hf.out⟩
        have h1 := hg.out
        rw [List.take_length] at h1
        rw [fitsV, h1, HN.out]
        rfl
  · have hlen : ((xs.length : Int) != 2) = true := by simp; omega
    have HN := Lib.hid hn
    clear hn
    go_enter Tryd.func37, Tryd.ntmps37
    go_wp2
    go_ret
    exact ⟨by have := HN.out; simp [fitsV, this], Fut.refl _⟩

/-- The table of what the operations take is laid. -/
def Takes (w : World) : Prop := ∀ i, i < 11 → w.cell? ⟨0, i, none⟩ = some (.int .i8 (([0, 1, 2, 2, 2, 2, 2, 4, 3, 3, 3] : List Int).getD i 0))
theorem Takes.fut {w w' : World} (h : Takes w) (hf : Fut w w') : Takes w' := fun i hi => hf.cell (h i hi)

set_option maxHeartbeats 800000 in
theorem arith2_any (a : Value) (x y : V) (w : World) (hT : Takes w) (ha : Vals w a [x, y]) (hx : good 1 x = true) (hy : good 1 y = true) :
    Calls Tryd.prog 10 #[.int .i8 2, a] w fun e w' => e = .returned (pairV (numV (wrap64 (x.n + y.n))) true) ∧ Fut w w' := by
  obtain ⟨A, cap, rfl, hl, hm⟩ := SlRep.form ha
  obtain ⟨b, off, rfl, _, _, x1, _⟩ := Vals.at_ ha (k := 0) (by simp)
  obtain ⟨b', off', he, _, _, y1, _⟩ := Vals.at_ ha (k := 1) (by simp)
  injection he with he
  injection he with he1 he2
  subst he1; subst he2
  have t0 : ∀ o, (w.alloc o).cell? ⟨0, 2, none⟩ = some (.int .i8 2) := fun o => (Fut.alloc w o).cell (hT 2 (by omega))
  simp only [List.getElem_cons_zero, List.getElem_cons_succ, Nat.zero_mul, Nat.one_mul, Nat.add_zero, List.length_cons, List.length_nil, Nat.zero_add, List.getD_cons_succ, List.getD_cons_zero] at *
  go_enter Tryd.func10, Tryd.ntmps10
  go_wp2_with fail
  refine (fits2_any _ [x, y] _ (ha.fut RV.stays (Fut.alloc _ _))).mono ?_
  rintro e w1 ⟨rfl, h1⟩
  rw [show fitsV 2 1 [x, y] = true by simp [fitsV, hx, hy]]
  have hF : Fut w w1 := (Fut.alloc _ _).trans h1
  have x1' := hF.cell x1
  have y1' := hF.cell y1
  have hsz : w.heap.size < w1.heap.size := by have := h1.size; simp at this; omega
  have c1_0_0 : w1.cell? ⟨w.heap.size, 0, none⟩ = some (.int .i8 0) := h1.cell (by go_simp)
  have c1_0_1 : w1.cell? ⟨w.heap.size, 1, none⟩ = some (.int .i64 0) := h1.cell (by go_simp)
  have c1_0_2 : w1.cell? ⟨w.heap.size, 2, none⟩ = some (.string ⟨#[]⟩) := h1.cell (by go_simp)
  have z1_0 : w1.frozen? ⟨w.heap.size, 0, none⟩ = false := h1.free (by simp) (by go_simp)
  have z1_1 : w1.frozen? ⟨w.heap.size, 1, none⟩ = false := h1.free (by simp) (by go_simp)
  have z1_2 : w1.frozen? ⟨w.heap.size, 2, none⟩ = false := h1.free (by simp) (by go_simp)
  go_wp2
  refine wp_graph 12 [.d, .d, .d, .d, .d, .d, .d, .d, .d, .d, .d, .d] (by kernel_rfl) (by kernel_rfl) (by kernel_rfl) ?_
  simp only [List.take_succ_cons, List.take_zero, List.drop_succ_cons, List.drop_zero, Exs]
  iterate 12 apply Exists.intro
  apply Run.valG (wanted_none rfl _)
  · intro w1 h1 hk
    have cx_0_0 : w1.cell? ⟨w.heap.size, 0, none⟩ = some (.int .i8 0) := Fut.cell h1 (by first | exact c1_0_0 | go_simp)
    have cx_0_1 : w1.cell? ⟨w.heap.size, 1, none⟩ = some (.int .i64 0) := Fut.cell h1 (by first | exact c1_0_1 | go_simp)
    have cx_0_2 : w1.cell? ⟨w.heap.size, 2, none⟩ = some (.string ⟨#[]⟩) := Fut.cell h1 (by first | exact c1_0_2 | go_simp)
    have x1w := h1.cell x1'; have y1w := h1.cell y1'
    go_simp; rfl
  simp only [Act.put, List.setIfInBounds_toArray, List.set_cons_succ, List.set_cons_zero, List.nil_append, List.cons_append]
  apply Run.valG (wanted_none rfl _)
  · intro w1 h1 hk
    have cx_0_0 : w1.cell? ⟨w.heap.size, 0, none⟩ = some (.int .i8 0) := Fut.cell h1 (by first | exact c1_0_0 | go_simp)
    have cx_0_1 : w1.cell? ⟨w.heap.size, 1, none⟩ = some (.int .i64 0) := Fut.cell h1 (by first | exact c1_0_1 | go_simp)
    have cx_0_2 : w1.cell? ⟨w.heap.size, 2, none⟩ = some (.string ⟨#[]⟩) := Fut.cell h1 (by first | exact c1_0_2 | go_simp)
    have x1w := h1.cell x1'; have y1w := h1.cell y1'
    go_simp; rfl
  simp only [Act.put, List.setIfInBounds_toArray, List.set_cons_succ, List.set_cons_zero, List.nil_append, List.cons_append]
  apply Run.valG (wanted_none rfl _)
  · intro w1 h1 hk
    have cx_0_0 : w1.cell? ⟨w.heap.size, 0, none⟩ = some (.int .i8 0) := Fut.cell h1 (by first | exact c1_0_0 | go_simp)
    have cx_0_1 : w1.cell? ⟨w.heap.size, 1, none⟩ = some (.int .i64 0) := Fut.cell h1 (by first | exact c1_0_1 | go_simp)
    have cx_0_2 : w1.cell? ⟨w.heap.size, 2, none⟩ = some (.string ⟨#[]⟩) := Fut.cell h1 (by first | exact c1_0_2 | go_simp)
    have x1w := h1.cell x1'; have y1w := h1.cell y1'
    go_simp; rfl
  simp only [Act.put, List.setIfInBounds_toArray, List.set_cons_succ, List.set_cons_zero, List.nil_append, List.cons_append]
  apply Run.valG (wanted_none rfl _)
  · intro w1 h1 hk
    have cx_0_0 : w1.cell? ⟨w.heap.size, 0, none⟩ = some (.int .i8 0) := Fut.cell h1 (by first | exact c1_0_0 | go_simp)
    have cx_0_1 : w1.cell? ⟨w.heap.size, 1, none⟩ = some (.int .i64 0) := Fut.cell h1 (by first | exact c1_0_1 | go_simp)
    have cx_0_2 : w1.cell? ⟨w.heap.size, 2, none⟩ = some (.string ⟨#[]⟩) := Fut.cell h1 (by first | exact c1_0_2 | go_simp)
    have x1w := h1.cell x1'; have y1w := h1.cell y1'
    go_simp; rfl
  simp only [Act.put, List.setIfInBounds_toArray, List.set_cons_succ, List.set_cons_zero, List.nil_append, List.cons_append]
  apply Run.valG (wanted_none rfl _)
  · intro w1 h1 hk
    have cx_0_0 : w1.cell? ⟨w.heap.size, 0, none⟩ = some (.int .i8 0) := Fut.cell h1 (by first | exact c1_0_0 | go_simp)
    have cx_0_1 : w1.cell? ⟨w.heap.size, 1, none⟩ = some (.int .i64 0) := Fut.cell h1 (by first | exact c1_0_1 | go_simp)
    have cx_0_2 : w1.cell? ⟨w.heap.size, 2, none⟩ = some (.string ⟨#[]⟩) := Fut.cell h1 (by first | exact c1_0_2 | go_simp)
    have x1w := h1.cell x1'; have y1w := h1.cell y1'
    go_simp; rfl
  simp only [Act.put, List.setIfInBounds_toArray, List.set_cons_succ, List.set_cons_zero, List.nil_append, List.cons_append]
  apply Run.valG (wanted_none rfl _)
  · intro w1 h1 hk
    have cx_0_0 : w1.cell? ⟨w.heap.size, 0, none⟩ = some (.int .i8 0) := Fut.cell h1 (by first | exact c1_0_0 | go_simp)
    have cx_0_1 : w1.cell? ⟨w.heap.size, 1, none⟩ = some (.int .i64 0) := Fut.cell h1 (by first | exact c1_0_1 | go_simp)
    have cx_0_2 : w1.cell? ⟨w.heap.size, 2, none⟩ = some (.string ⟨#[]⟩) := Fut.cell h1 (by first | exact c1_0_2 | go_simp)
    have x1w := h1.cell x1'; have y1w := h1.cell y1'
    go_simp; rfl
  simp only [Act.put, List.setIfInBounds_toArray, List.set_cons_succ, List.set_cons_zero, List.nil_append, List.cons_append]
  apply Run.valG (wanted_none rfl _)
  · intro w1 h1 hk
    have cx_0_0 : w1.cell? ⟨w.heap.size, 0, none⟩ = some (.int .i8 0) := Fut.cell h1 (by first | exact c1_0_0 | go_simp)
    have cx_0_1 : w1.cell? ⟨w.heap.size, 1, none⟩ = some (.int .i64 0) := Fut.cell h1 (by first | exact c1_0_1 | go_simp)
    have cx_0_2 : w1.cell? ⟨w.heap.size, 2, none⟩ = some (.string ⟨#[]⟩) := Fut.cell h1 (by first | exact c1_0_2 | go_simp)
    have x1w := h1.cell x1'; have y1w := h1.cell y1'
    go_simp; rfl
  simp only [Act.put, List.setIfInBounds_toArray, List.set_cons_succ, List.set_cons_zero, List.nil_append, List.cons_append]
  apply Run.valG (wanted_none rfl _)
  · intro w1 h1 hk
    have cx_0_0 : w1.cell? ⟨w.heap.size, 0, none⟩ = some (.int .i8 0) := Fut.cell h1 (by first | exact c1_0_0 | go_simp)
    have cx_0_1 : w1.cell? ⟨w.heap.size, 1, none⟩ = some (.int .i64 0) := Fut.cell h1 (by first | exact c1_0_1 | go_simp)
    have cx_0_2 : w1.cell? ⟨w.heap.size, 2, none⟩ = some (.string ⟨#[]⟩) := Fut.cell h1 (by first | exact c1_0_2 | go_simp)
    have x1w := h1.cell x1'; have y1w := h1.cell y1'
    go_simp; rfl
  simp only [Act.put, List.setIfInBounds_toArray, List.set_cons_succ, List.set_cons_zero, List.nil_append, List.cons_append]
  apply Run.valG (wanted_none rfl _)
  · intro w1 h1 hk
    have cx_0_0 : w1.cell? ⟨w.heap.size, 0, none⟩ = some (.int .i8 0) := Fut.cell h1 (by first | exact c1_0_0 | go_simp)
    have cx_0_1 : w1.cell? ⟨w.heap.size, 1, none⟩ = some (.int .i64 0) := Fut.cell h1 (by first | exact c1_0_1 | go_simp)
    have cx_0_2 : w1.cell? ⟨w.heap.size, 2, none⟩ = some (.string ⟨#[]⟩) := Fut.cell h1 (by first | exact c1_0_2 | go_simp)
    have x1w := h1.cell x1'; have y1w := h1.cell y1'
    go_simp; rfl
  simp only [Act.put, List.setIfInBounds_toArray, List.set_cons_succ, List.set_cons_zero, List.nil_append, List.cons_append]
  apply Run.call (wanted_none rfl _) (fun _ _ => by go_simp; exact ⟨rfl, rfl⟩)
  · intro w1 h1 hk
    have cx_0_0 : w1.cell? ⟨w.heap.size, 0, none⟩ = some (.int .i8 0) := Fut.cell h1 (by first | exact c1_0_0 | go_simp)
    have cx_0_1 : w1.cell? ⟨w.heap.size, 1, none⟩ = some (.int .i64 0) := Fut.cell h1 (by first | exact c1_0_1 | go_simp)
    have cx_0_2 : w1.cell? ⟨w.heap.size, 2, none⟩ = some (.string ⟨#[]⟩) := Fut.cell h1 (by first | exact c1_0_2 | go_simp)
    have x1w := h1.cell x1'; have y1w := h1.cell y1'
    exact number_any _ _
  simp only [Act.put, List.setIfInBounds_toArray, List.set_cons_succ, List.set_cons_zero, List.nil_append, List.cons_append]
  apply Run.valG (wanted_none rfl _)
  · intro w1 h1 hk
    have cx_0_0 : w1.cell? ⟨w.heap.size, 0, none⟩ = some (.int .i8 0) := Fut.cell h1 (by first | exact c1_0_0 | go_simp)
    have cx_0_1 : w1.cell? ⟨w.heap.size, 1, none⟩ = some (.int .i64 0) := Fut.cell h1 (by first | exact c1_0_1 | go_simp)
    have cx_0_2 : w1.cell? ⟨w.heap.size, 2, none⟩ = some (.string ⟨#[]⟩) := Fut.cell h1 (by first | exact c1_0_2 | go_simp)
    have x1w := h1.cell x1'; have y1w := h1.cell y1'
    go_simp; rfl
  simp only [Act.put, List.setIfInBounds_toArray, List.set_cons_succ, List.set_cons_zero, List.nil_append, List.cons_append]
  apply Run.valG (wanted_none rfl _)
  · intro w1 h1 hk
    have cx_0_0 : w1.cell? ⟨w.heap.size, 0, none⟩ = some (.int .i8 0) := Fut.cell h1 (by first | exact c1_0_0 | go_simp)
    have cx_0_1 : w1.cell? ⟨w.heap.size, 1, none⟩ = some (.int .i64 0) := Fut.cell h1 (by first | exact c1_0_1 | go_simp)
    have cx_0_2 : w1.cell? ⟨w.heap.size, 2, none⟩ = some (.string ⟨#[]⟩) := Fut.cell h1 (by first | exact c1_0_2 | go_simp)
    have x1w := h1.cell x1'; have y1w := h1.cell y1'
    go_simp; rfl
  simp only [Act.put, List.setIfInBounds_toArray, List.set_cons_succ, List.set_cons_zero, List.nil_append, List.cons_append]
  apply Run.done
  intro w2 h2 hk
  have c2_0_0 : w2.cell? ⟨w.heap.size, 0, none⟩ = some (.int .i8 0) := Fut.cell h2 (by first | exact c1_0_0 | go_simp)
  have c2_0_1 : w2.cell? ⟨w.heap.size, 1, none⟩ = some (.int .i64 0) := Fut.cell h2 (by first | exact c1_0_1 | go_simp)
  have c2_0_2 : w2.cell? ⟨w.heap.size, 2, none⟩ = some (.string ⟨#[]⟩) := Fut.cell h2 (by first | exact c1_0_2 | go_simp)
  clear hk
  have z2_0 : w2.frozen? ⟨w.heap.size, 0, none⟩ = false := h2.free hsz z1_0
  have z2_1 : w2.frozen? ⟨w.heap.size, 1, none⟩ = false := h2.free hsz z1_1
  have z2_2 : w2.frozen? ⟨w.heap.size, 2, none⟩ = false := h2.free hsz z1_2
  simp only [pairV, numV, V.val]
  go_wp2
  exact bodyPost_ret (v := pairV (numV (wrap64 (x.n + y.n))) true) (by simp [results, Tryd.results10, go_sem, pairV, numV, V.val, z2_0, z2_1, z2_2, c2_0_0, c2_0_1, c2_0_2]) rfl ⟨rfl, (((hF.trans ((Fut.drew _).trans h2)).set (Nat.le_refl _) _).set (Nat.le_refl _) _).set (Nat.le_refl _) _⟩
set_option maxHeartbeats 800000 in
theorem arith3_any (a : Value) (x y : V) (w : World) (hT : Takes w) (ha : Vals w a [x, y]) (hx : good 1 x = true) (hy : good 1 y = true) :
    Calls Tryd.prog 10 #[.int .i8 3, a] w fun e w' => e = .returned (pairV (numV (wrap64 (x.n - y.n))) true) ∧ Fut w w' := by
  obtain ⟨A, cap, rfl, hl, hm⟩ := SlRep.form ha
  obtain ⟨b, off, rfl, _, _, x1, _⟩ := Vals.at_ ha (k := 0) (by simp)
  obtain ⟨b', off', he, _, _, y1, _⟩ := Vals.at_ ha (k := 1) (by simp)
  injection he with he
  injection he with he1 he2
  subst he1; subst he2
  have t0 : ∀ o, (w.alloc o).cell? ⟨0, 3, none⟩ = some (.int .i8 2) := fun o => (Fut.alloc w o).cell (hT 3 (by omega))
  simp only [List.getElem_cons_zero, List.getElem_cons_succ, Nat.zero_mul, Nat.one_mul, Nat.add_zero, List.length_cons, List.length_nil, Nat.zero_add, List.getD_cons_succ, List.getD_cons_zero] at *
  go_enter Tryd.func10, Tryd.ntmps10
  go_wp2_with fail
  refine (fits2_any _ [x, y] _ (ha.fut RV.stays (Fut.alloc _ _))).mono ?_
  rintro e w1 ⟨rfl, h1⟩
  rw [show fitsV 2 1 [x, y] = true by simp [fitsV, hx, hy]]
  have hF : Fut w w1 := (Fut.alloc _ _).trans h1
  have x1' := hF.cell x1
  have y1' := hF.cell y1
  have hsz : w.heap.size < w1.heap.size := by have := h1.size; simp at this; omega
  have c1_0_0 : w1.cell? ⟨w.heap.size, 0, none⟩ = some (.int .i8 0) := h1.cell (by go_simp)
  have c1_0_1 : w1.cell? ⟨w.heap.size, 1, none⟩ = some (.int .i64 0) := h1.cell (by go_simp)
  have c1_0_2 : w1.cell? ⟨w.heap.size, 2, none⟩ = some (.string ⟨#[]⟩) := h1.cell (by go_simp)
  have z1_0 : w1.frozen? ⟨w.heap.size, 0, none⟩ = false := h1.free (by simp) (by go_simp)
  have z1_1 : w1.frozen? ⟨w.heap.size, 1, none⟩ = false := h1.free (by simp) (by go_simp)
  have z1_2 : w1.frozen? ⟨w.heap.size, 2, none⟩ = false := h1.free (by simp) (by go_simp)
  go_wp2
  refine wp_graph 12 [.d, .d, .d, .d, .d, .d, .d, .d, .d, .d, .d, .d] (by kernel_rfl) (by kernel_rfl) (by kernel_rfl) ?_
  simp only [List.take_succ_cons, List.take_zero, List.drop_succ_cons, List.drop_zero, Exs]
  iterate 12 apply Exists.intro
  apply Run.valG (wanted_none rfl _)
  · intro w1 h1 hk
    have cx_0_0 : w1.cell? ⟨w.heap.size, 0, none⟩ = some (.int .i8 0) := Fut.cell h1 (by first | exact c1_0_0 | go_simp)
    have cx_0_1 : w1.cell? ⟨w.heap.size, 1, none⟩ = some (.int .i64 0) := Fut.cell h1 (by first | exact c1_0_1 | go_simp)
    have cx_0_2 : w1.cell? ⟨w.heap.size, 2, none⟩ = some (.string ⟨#[]⟩) := Fut.cell h1 (by first | exact c1_0_2 | go_simp)
    have x1w := h1.cell x1'; have y1w := h1.cell y1'
    go_simp; rfl
  simp only [Act.put, List.setIfInBounds_toArray, List.set_cons_succ, List.set_cons_zero, List.nil_append, List.cons_append]
  apply Run.valG (wanted_none rfl _)
  · intro w1 h1 hk
    have cx_0_0 : w1.cell? ⟨w.heap.size, 0, none⟩ = some (.int .i8 0) := Fut.cell h1 (by first | exact c1_0_0 | go_simp)
    have cx_0_1 : w1.cell? ⟨w.heap.size, 1, none⟩ = some (.int .i64 0) := Fut.cell h1 (by first | exact c1_0_1 | go_simp)
    have cx_0_2 : w1.cell? ⟨w.heap.size, 2, none⟩ = some (.string ⟨#[]⟩) := Fut.cell h1 (by first | exact c1_0_2 | go_simp)
    have x1w := h1.cell x1'; have y1w := h1.cell y1'
    go_simp; rfl
  simp only [Act.put, List.setIfInBounds_toArray, List.set_cons_succ, List.set_cons_zero, List.nil_append, List.cons_append]
  apply Run.valG (wanted_none rfl _)
  · intro w1 h1 hk
    have cx_0_0 : w1.cell? ⟨w.heap.size, 0, none⟩ = some (.int .i8 0) := Fut.cell h1 (by first | exact c1_0_0 | go_simp)
    have cx_0_1 : w1.cell? ⟨w.heap.size, 1, none⟩ = some (.int .i64 0) := Fut.cell h1 (by first | exact c1_0_1 | go_simp)
    have cx_0_2 : w1.cell? ⟨w.heap.size, 2, none⟩ = some (.string ⟨#[]⟩) := Fut.cell h1 (by first | exact c1_0_2 | go_simp)
    have x1w := h1.cell x1'; have y1w := h1.cell y1'
    go_simp; rfl
  simp only [Act.put, List.setIfInBounds_toArray, List.set_cons_succ, List.set_cons_zero, List.nil_append, List.cons_append]
  apply Run.valG (wanted_none rfl _)
  · intro w1 h1 hk
    have cx_0_0 : w1.cell? ⟨w.heap.size, 0, none⟩ = some (.int .i8 0) := Fut.cell h1 (by first | exact c1_0_0 | go_simp)
    have cx_0_1 : w1.cell? ⟨w.heap.size, 1, none⟩ = some (.int .i64 0) := Fut.cell h1 (by first | exact c1_0_1 | go_simp)
    have cx_0_2 : w1.cell? ⟨w.heap.size, 2, none⟩ = some (.string ⟨#[]⟩) := Fut.cell h1 (by first | exact c1_0_2 | go_simp)
    have x1w := h1.cell x1'; have y1w := h1.cell y1'
    go_simp; rfl
  simp only [Act.put, List.setIfInBounds_toArray, List.set_cons_succ, List.set_cons_zero, List.nil_append, List.cons_append]
  apply Run.valG (wanted_none rfl _)
  · intro w1 h1 hk
    have cx_0_0 : w1.cell? ⟨w.heap.size, 0, none⟩ = some (.int .i8 0) := Fut.cell h1 (by first | exact c1_0_0 | go_simp)
    have cx_0_1 : w1.cell? ⟨w.heap.size, 1, none⟩ = some (.int .i64 0) := Fut.cell h1 (by first | exact c1_0_1 | go_simp)
    have cx_0_2 : w1.cell? ⟨w.heap.size, 2, none⟩ = some (.string ⟨#[]⟩) := Fut.cell h1 (by first | exact c1_0_2 | go_simp)
    have x1w := h1.cell x1'; have y1w := h1.cell y1'
    go_simp; rfl
  simp only [Act.put, List.setIfInBounds_toArray, List.set_cons_succ, List.set_cons_zero, List.nil_append, List.cons_append]
  apply Run.valG (wanted_none rfl _)
  · intro w1 h1 hk
    have cx_0_0 : w1.cell? ⟨w.heap.size, 0, none⟩ = some (.int .i8 0) := Fut.cell h1 (by first | exact c1_0_0 | go_simp)
    have cx_0_1 : w1.cell? ⟨w.heap.size, 1, none⟩ = some (.int .i64 0) := Fut.cell h1 (by first | exact c1_0_1 | go_simp)
    have cx_0_2 : w1.cell? ⟨w.heap.size, 2, none⟩ = some (.string ⟨#[]⟩) := Fut.cell h1 (by first | exact c1_0_2 | go_simp)
    have x1w := h1.cell x1'; have y1w := h1.cell y1'
    go_simp; rfl
  simp only [Act.put, List.setIfInBounds_toArray, List.set_cons_succ, List.set_cons_zero, List.nil_append, List.cons_append]
  apply Run.valG (wanted_none rfl _)
  · intro w1 h1 hk
    have cx_0_0 : w1.cell? ⟨w.heap.size, 0, none⟩ = some (.int .i8 0) := Fut.cell h1 (by first | exact c1_0_0 | go_simp)
    have cx_0_1 : w1.cell? ⟨w.heap.size, 1, none⟩ = some (.int .i64 0) := Fut.cell h1 (by first | exact c1_0_1 | go_simp)
    have cx_0_2 : w1.cell? ⟨w.heap.size, 2, none⟩ = some (.string ⟨#[]⟩) := Fut.cell h1 (by first | exact c1_0_2 | go_simp)
    have x1w := h1.cell x1'; have y1w := h1.cell y1'
    go_simp; rfl
  simp only [Act.put, List.setIfInBounds_toArray, List.set_cons_succ, List.set_cons_zero, List.nil_append, List.cons_append]
  apply Run.valG (wanted_none rfl _)
  · intro w1 h1 hk
    have cx_0_0 : w1.cell? ⟨w.heap.size, 0, none⟩ = some (.int .i8 0) := Fut.cell h1 (by first | exact c1_0_0 | go_simp)
    have cx_0_1 : w1.cell? ⟨w.heap.size, 1, none⟩ = some (.int .i64 0) := Fut.cell h1 (by first | exact c1_0_1 | go_simp)
    have cx_0_2 : w1.cell? ⟨w.heap.size, 2, none⟩ = some (.string ⟨#[]⟩) := Fut.cell h1 (by first | exact c1_0_2 | go_simp)
    have x1w := h1.cell x1'; have y1w := h1.cell y1'
    go_simp; rfl
  simp only [Act.put, List.setIfInBounds_toArray, List.set_cons_succ, List.set_cons_zero, List.nil_append, List.cons_append]
  apply Run.valG (wanted_none rfl _)
  · intro w1 h1 hk
    have cx_0_0 : w1.cell? ⟨w.heap.size, 0, none⟩ = some (.int .i8 0) := Fut.cell h1 (by first | exact c1_0_0 | go_simp)
    have cx_0_1 : w1.cell? ⟨w.heap.size, 1, none⟩ = some (.int .i64 0) := Fut.cell h1 (by first | exact c1_0_1 | go_simp)
    have cx_0_2 : w1.cell? ⟨w.heap.size, 2, none⟩ = some (.string ⟨#[]⟩) := Fut.cell h1 (by first | exact c1_0_2 | go_simp)
    have x1w := h1.cell x1'; have y1w := h1.cell y1'
    go_simp; rfl
  simp only [Act.put, List.setIfInBounds_toArray, List.set_cons_succ, List.set_cons_zero, List.nil_append, List.cons_append]
  apply Run.call (wanted_none rfl _) (fun _ _ => by go_simp; exact ⟨rfl, rfl⟩)
  · intro w1 h1 hk
    have cx_0_0 : w1.cell? ⟨w.heap.size, 0, none⟩ = some (.int .i8 0) := Fut.cell h1 (by first | exact c1_0_0 | go_simp)
    have cx_0_1 : w1.cell? ⟨w.heap.size, 1, none⟩ = some (.int .i64 0) := Fut.cell h1 (by first | exact c1_0_1 | go_simp)
    have cx_0_2 : w1.cell? ⟨w.heap.size, 2, none⟩ = some (.string ⟨#[]⟩) := Fut.cell h1 (by first | exact c1_0_2 | go_simp)
    have x1w := h1.cell x1'; have y1w := h1.cell y1'
    exact number_any _ _
  simp only [Act.put, List.setIfInBounds_toArray, List.set_cons_succ, List.set_cons_zero, List.nil_append, List.cons_append]
  apply Run.valG (wanted_none rfl _)
  · intro w1 h1 hk
    have cx_0_0 : w1.cell? ⟨w.heap.size, 0, none⟩ = some (.int .i8 0) := Fut.cell h1 (by first | exact c1_0_0 | go_simp)
    have cx_0_1 : w1.cell? ⟨w.heap.size, 1, none⟩ = some (.int .i64 0) := Fut.cell h1 (by first | exact c1_0_1 | go_simp)
    have cx_0_2 : w1.cell? ⟨w.heap.size, 2, none⟩ = some (.string ⟨#[]⟩) := Fut.cell h1 (by first | exact c1_0_2 | go_simp)
    have x1w := h1.cell x1'; have y1w := h1.cell y1'
    go_simp; rfl
  simp only [Act.put, List.setIfInBounds_toArray, List.set_cons_succ, List.set_cons_zero, List.nil_append, List.cons_append]
  apply Run.valG (wanted_none rfl _)
  · intro w1 h1 hk
    have cx_0_0 : w1.cell? ⟨w.heap.size, 0, none⟩ = some (.int .i8 0) := Fut.cell h1 (by first | exact c1_0_0 | go_simp)
    have cx_0_1 : w1.cell? ⟨w.heap.size, 1, none⟩ = some (.int .i64 0) := Fut.cell h1 (by first | exact c1_0_1 | go_simp)
    have cx_0_2 : w1.cell? ⟨w.heap.size, 2, none⟩ = some (.string ⟨#[]⟩) := Fut.cell h1 (by first | exact c1_0_2 | go_simp)
    have x1w := h1.cell x1'; have y1w := h1.cell y1'
    go_simp; rfl
  simp only [Act.put, List.setIfInBounds_toArray, List.set_cons_succ, List.set_cons_zero, List.nil_append, List.cons_append]
  apply Run.done
  intro w2 h2 hk
  have c2_0_0 : w2.cell? ⟨w.heap.size, 0, none⟩ = some (.int .i8 0) := Fut.cell h2 (by first | exact c1_0_0 | go_simp)
  have c2_0_1 : w2.cell? ⟨w.heap.size, 1, none⟩ = some (.int .i64 0) := Fut.cell h2 (by first | exact c1_0_1 | go_simp)
  have c2_0_2 : w2.cell? ⟨w.heap.size, 2, none⟩ = some (.string ⟨#[]⟩) := Fut.cell h2 (by first | exact c1_0_2 | go_simp)
  clear hk
  have z2_0 : w2.frozen? ⟨w.heap.size, 0, none⟩ = false := h2.free hsz z1_0
  have z2_1 : w2.frozen? ⟨w.heap.size, 1, none⟩ = false := h2.free hsz z1_1
  have z2_2 : w2.frozen? ⟨w.heap.size, 2, none⟩ = false := h2.free hsz z1_2
  simp only [pairV, numV, V.val]
  go_wp2
  exact bodyPost_ret (v := pairV (numV (wrap64 (x.n - y.n))) true) (by simp [results, Tryd.results10, go_sem, pairV, numV, V.val, z2_0, z2_1, z2_2, c2_0_0, c2_0_1, c2_0_2]) rfl ⟨rfl, (((hF.trans ((Fut.drew _).trans h2)).set (Nat.le_refl _) _).set (Nat.le_refl _) _).set (Nat.le_refl _) _⟩
set_option maxHeartbeats 800000 in
theorem arith4_any (a : Value) (x y : V) (w : World) (hT : Takes w) (ha : Vals w a [x, y]) (hx : good 1 x = true) (hy : good 1 y = true) :
    Calls Tryd.prog 10 #[.int .i8 4, a] w fun e w' => e = .returned (pairV (numV (wrap64 (x.n * y.n))) true) ∧ Fut w w' := by
  obtain ⟨A, cap, rfl, hl, hm⟩ := SlRep.form ha
  obtain ⟨b, off, rfl, _, _, x1, _⟩ := Vals.at_ ha (k := 0) (by simp)
  obtain ⟨b', off', he, _, _, y1, _⟩ := Vals.at_ ha (k := 1) (by simp)
  injection he with he
  injection he with he1 he2
  subst he1; subst he2
  have t0 : ∀ o, (w.alloc o).cell? ⟨0, 4, none⟩ = some (.int .i8 2) := fun o => (Fut.alloc w o).cell (hT 4 (by omega))
  simp only [List.getElem_cons_zero, List.getElem_cons_succ, Nat.zero_mul, Nat.one_mul, Nat.add_zero, List.length_cons, List.length_nil, Nat.zero_add, List.getD_cons_succ, List.getD_cons_zero] at *
  go_enter Tryd.func10, Tryd.ntmps10
  go_wp2_with fail
  refine (fits2_any _ [x, y] _ (ha.fut RV.stays (Fut.alloc _ _))).mono ?_
  rintro e w1 ⟨rfl, h1⟩
  rw [show fitsV 2 1 [x, y] = true by simp [fitsV, hx, hy]]
  have hF : Fut w w1 := (Fut.alloc _ _).trans h1
  have x1' := hF.cell x1
  have y1' := hF.cell y1
  have hsz : w.heap.size < w1.heap.size := by have := h1.size; simp at this; omega
  have c1_0_0 : w1.cell? ⟨w.heap.size, 0, none⟩ = some (.int .i8 0) := h1.cell (by go_simp)
  have c1_0_1 : w1.cell? ⟨w.heap.size, 1, none⟩ = some (.int .i64 0) := h1.cell (by go_simp)
  have c1_0_2 : w1.cell? ⟨w.heap.size, 2, none⟩ = some (.string ⟨#[]⟩) := h1.cell (by go_simp)
  have z1_0 : w1.frozen? ⟨w.heap.size, 0, none⟩ = false := h1.free (by simp) (by go_simp)
  have z1_1 : w1.frozen? ⟨w.heap.size, 1, none⟩ = false := h1.free (by simp) (by go_simp)
  have z1_2 : w1.frozen? ⟨w.heap.size, 2, none⟩ = false := h1.free (by simp) (by go_simp)
  go_wp2
  refine wp_graph 12 [.d, .d, .d, .d, .d, .d, .d, .d, .d, .d, .d, .d] (by kernel_rfl) (by kernel_rfl) (by kernel_rfl) ?_
  simp only [List.take_succ_cons, List.take_zero, List.drop_succ_cons, List.drop_zero, Exs]
  iterate 12 apply Exists.intro
  apply Run.valG (wanted_none rfl _)
  · intro w1 h1 hk
    have cx_0_0 : w1.cell? ⟨w.heap.size, 0, none⟩ = some (.int .i8 0) := Fut.cell h1 (by first | exact c1_0_0 | go_simp)
    have cx_0_1 : w1.cell? ⟨w.heap.size, 1, none⟩ = some (.int .i64 0) := Fut.cell h1 (by first | exact c1_0_1 | go_simp)
    have cx_0_2 : w1.cell? ⟨w.heap.size, 2, none⟩ = some (.string ⟨#[]⟩) := Fut.cell h1 (by first | exact c1_0_2 | go_simp)
    have x1w := h1.cell x1'; have y1w := h1.cell y1'
    go_simp; rfl
  simp only [Act.put, List.setIfInBounds_toArray, List.set_cons_succ, List.set_cons_zero, List.nil_append, List.cons_append]
  apply Run.valG (wanted_none rfl _)
  · intro w1 h1 hk
    have cx_0_0 : w1.cell? ⟨w.heap.size, 0, none⟩ = some (.int .i8 0) := Fut.cell h1 (by first | exact c1_0_0 | go_simp)
    have cx_0_1 : w1.cell? ⟨w.heap.size, 1, none⟩ = some (.int .i64 0) := Fut.cell h1 (by first | exact c1_0_1 | go_simp)
    have cx_0_2 : w1.cell? ⟨w.heap.size, 2, none⟩ = some (.string ⟨#[]⟩) := Fut.cell h1 (by first | exact c1_0_2 | go_simp)
    have x1w := h1.cell x1'; have y1w := h1.cell y1'
    go_simp; rfl
  simp only [Act.put, List.setIfInBounds_toArray, List.set_cons_succ, List.set_cons_zero, List.nil_append, List.cons_append]
  apply Run.valG (wanted_none rfl _)
  · intro w1 h1 hk
    have cx_0_0 : w1.cell? ⟨w.heap.size, 0, none⟩ = some (.int .i8 0) := Fut.cell h1 (by first | exact c1_0_0 | go_simp)
    have cx_0_1 : w1.cell? ⟨w.heap.size, 1, none⟩ = some (.int .i64 0) := Fut.cell h1 (by first | exact c1_0_1 | go_simp)
    have cx_0_2 : w1.cell? ⟨w.heap.size, 2, none⟩ = some (.string ⟨#[]⟩) := Fut.cell h1 (by first | exact c1_0_2 | go_simp)
    have x1w := h1.cell x1'; have y1w := h1.cell y1'
    go_simp; rfl
  simp only [Act.put, List.setIfInBounds_toArray, List.set_cons_succ, List.set_cons_zero, List.nil_append, List.cons_append]
  apply Run.valG (wanted_none rfl _)
  · intro w1 h1 hk
    have cx_0_0 : w1.cell? ⟨w.heap.size, 0, none⟩ = some (.int .i8 0) := Fut.cell h1 (by first | exact c1_0_0 | go_simp)
    have cx_0_1 : w1.cell? ⟨w.heap.size, 1, none⟩ = some (.int .i64 0) := Fut.cell h1 (by first | exact c1_0_1 | go_simp)
    have cx_0_2 : w1.cell? ⟨w.heap.size, 2, none⟩ = some (.string ⟨#[]⟩) := Fut.cell h1 (by first | exact c1_0_2 | go_simp)
    have x1w := h1.cell x1'; have y1w := h1.cell y1'
    go_simp; rfl
  simp only [Act.put, List.setIfInBounds_toArray, List.set_cons_succ, List.set_cons_zero, List.nil_append, List.cons_append]
  apply Run.valG (wanted_none rfl _)
  · intro w1 h1 hk
    have cx_0_0 : w1.cell? ⟨w.heap.size, 0, none⟩ = some (.int .i8 0) := Fut.cell h1 (by first | exact c1_0_0 | go_simp)
    have cx_0_1 : w1.cell? ⟨w.heap.size, 1, none⟩ = some (.int .i64 0) := Fut.cell h1 (by first | exact c1_0_1 | go_simp)
    have cx_0_2 : w1.cell? ⟨w.heap.size, 2, none⟩ = some (.string ⟨#[]⟩) := Fut.cell h1 (by first | exact c1_0_2 | go_simp)
    have x1w := h1.cell x1'; have y1w := h1.cell y1'
    go_simp; rfl
  simp only [Act.put, List.setIfInBounds_toArray, List.set_cons_succ, List.set_cons_zero, List.nil_append, List.cons_append]
  apply Run.valG (wanted_none rfl _)
  · intro w1 h1 hk
    have cx_0_0 : w1.cell? ⟨w.heap.size, 0, none⟩ = some (.int .i8 0) := Fut.cell h1 (by first | exact c1_0_0 | go_simp)
    have cx_0_1 : w1.cell? ⟨w.heap.size, 1, none⟩ = some (.int .i64 0) := Fut.cell h1 (by first | exact c1_0_1 | go_simp)
    have cx_0_2 : w1.cell? ⟨w.heap.size, 2, none⟩ = some (.string ⟨#[]⟩) := Fut.cell h1 (by first | exact c1_0_2 | go_simp)
    have x1w := h1.cell x1'; have y1w := h1.cell y1'
    go_simp; rfl
  simp only [Act.put, List.setIfInBounds_toArray, List.set_cons_succ, List.set_cons_zero, List.nil_append, List.cons_append]
  apply Run.valG (wanted_none rfl _)
  · intro w1 h1 hk
    have cx_0_0 : w1.cell? ⟨w.heap.size, 0, none⟩ = some (.int .i8 0) := Fut.cell h1 (by first | exact c1_0_0 | go_simp)
    have cx_0_1 : w1.cell? ⟨w.heap.size, 1, none⟩ = some (.int .i64 0) := Fut.cell h1 (by first | exact c1_0_1 | go_simp)
    have cx_0_2 : w1.cell? ⟨w.heap.size, 2, none⟩ = some (.string ⟨#[]⟩) := Fut.cell h1 (by first | exact c1_0_2 | go_simp)
    have x1w := h1.cell x1'; have y1w := h1.cell y1'
    go_simp; rfl
  simp only [Act.put, List.setIfInBounds_toArray, List.set_cons_succ, List.set_cons_zero, List.nil_append, List.cons_append]
  apply Run.valG (wanted_none rfl _)
  · intro w1 h1 hk
    have cx_0_0 : w1.cell? ⟨w.heap.size, 0, none⟩ = some (.int .i8 0) := Fut.cell h1 (by first | exact c1_0_0 | go_simp)
    have cx_0_1 : w1.cell? ⟨w.heap.size, 1, none⟩ = some (.int .i64 0) := Fut.cell h1 (by first | exact c1_0_1 | go_simp)
    have cx_0_2 : w1.cell? ⟨w.heap.size, 2, none⟩ = some (.string ⟨#[]⟩) := Fut.cell h1 (by first | exact c1_0_2 | go_simp)
    have x1w := h1.cell x1'; have y1w := h1.cell y1'
    go_simp; rfl
  simp only [Act.put, List.setIfInBounds_toArray, List.set_cons_succ, List.set_cons_zero, List.nil_append, List.cons_append]
  apply Run.valG (wanted_none rfl _)
  · intro w1 h1 hk
    have cx_0_0 : w1.cell? ⟨w.heap.size, 0, none⟩ = some (.int .i8 0) := Fut.cell h1 (by first | exact c1_0_0 | go_simp)
    have cx_0_1 : w1.cell? ⟨w.heap.size, 1, none⟩ = some (.int .i64 0) := Fut.cell h1 (by first | exact c1_0_1 | go_simp)
    have cx_0_2 : w1.cell? ⟨w.heap.size, 2, none⟩ = some (.string ⟨#[]⟩) := Fut.cell h1 (by first | exact c1_0_2 | go_simp)
    have x1w := h1.cell x1'; have y1w := h1.cell y1'
    go_simp; rfl
  simp only [Act.put, List.setIfInBounds_toArray, List.set_cons_succ, List.set_cons_zero, List.nil_append, List.cons_append]
  apply Run.call (wanted_none rfl _) (fun _ _ => by go_simp; exact ⟨rfl, rfl⟩)
  · intro w1 h1 hk
    have cx_0_0 : w1.cell? ⟨w.heap.size, 0, none⟩ = some (.int .i8 0) := Fut.cell h1 (by first | exact c1_0_0 | go_simp)
    have cx_0_1 : w1.cell? ⟨w.heap.size, 1, none⟩ = some (.int .i64 0) := Fut.cell h1 (by first | exact c1_0_1 | go_simp)
    have cx_0_2 : w1.cell? ⟨w.heap.size, 2, none⟩ = some (.string ⟨#[]⟩) := Fut.cell h1 (by first | exact c1_0_2 | go_simp)
    have x1w := h1.cell x1'; have y1w := h1.cell y1'
    exact number_any _ _
  simp only [Act.put, List.setIfInBounds_toArray, List.set_cons_succ, List.set_cons_zero, List.nil_append, List.cons_append]
  apply Run.valG (wanted_none rfl _)
  · intro w1 h1 hk
    have cx_0_0 : w1.cell? ⟨w.heap.size, 0, none⟩ = some (.int .i8 0) := Fut.cell h1 (by first | exact c1_0_0 | go_simp)
    have cx_0_1 : w1.cell? ⟨w.heap.size, 1, none⟩ = some (.int .i64 0) := Fut.cell h1 (by first | exact c1_0_1 | go_simp)
    have cx_0_2 : w1.cell? ⟨w.heap.size, 2, none⟩ = some (.string ⟨#[]⟩) := Fut.cell h1 (by first | exact c1_0_2 | go_simp)
    have x1w := h1.cell x1'; have y1w := h1.cell y1'
    go_simp; rfl
  simp only [Act.put, List.setIfInBounds_toArray, List.set_cons_succ, List.set_cons_zero, List.nil_append, List.cons_append]
  apply Run.valG (wanted_none rfl _)
  · intro w1 h1 hk
    have cx_0_0 : w1.cell? ⟨w.heap.size, 0, none⟩ = some (.int .i8 0) := Fut.cell h1 (by first | exact c1_0_0 | go_simp)
    have cx_0_1 : w1.cell? ⟨w.heap.size, 1, none⟩ = some (.int .i64 0) := Fut.cell h1 (by first | exact c1_0_1 | go_simp)
    have cx_0_2 : w1.cell? ⟨w.heap.size, 2, none⟩ = some (.string ⟨#[]⟩) := Fut.cell h1 (by first | exact c1_0_2 | go_simp)
    have x1w := h1.cell x1'; have y1w := h1.cell y1'
    go_simp; rfl
  simp only [Act.put, List.setIfInBounds_toArray, List.set_cons_succ, List.set_cons_zero, List.nil_append, List.cons_append]
  apply Run.done
  intro w2 h2 hk
  have c2_0_0 : w2.cell? ⟨w.heap.size, 0, none⟩ = some (.int .i8 0) := Fut.cell h2 (by first | exact c1_0_0 | go_simp)
  have c2_0_1 : w2.cell? ⟨w.heap.size, 1, none⟩ = some (.int .i64 0) := Fut.cell h2 (by first | exact c1_0_1 | go_simp)
  have c2_0_2 : w2.cell? ⟨w.heap.size, 2, none⟩ = some (.string ⟨#[]⟩) := Fut.cell h2 (by first | exact c1_0_2 | go_simp)
  clear hk
  have z2_0 : w2.frozen? ⟨w.heap.size, 0, none⟩ = false := h2.free hsz z1_0
  have z2_1 : w2.frozen? ⟨w.heap.size, 1, none⟩ = false := h2.free hsz z1_1
  have z2_2 : w2.frozen? ⟨w.heap.size, 2, none⟩ = false := h2.free hsz z1_2
  simp only [pairV, numV, V.val]
  go_wp2
  exact bodyPost_ret (v := pairV (numV (wrap64 (x.n * y.n))) true) (by simp [results, Tryd.results10, go_sem, pairV, numV, V.val, z2_0, z2_1, z2_2, c2_0_0, c2_0_1, c2_0_2]) rfl ⟨rfl, (((hF.trans ((Fut.drew _).trans h2)).set (Nat.le_refl _) _).set (Nat.le_refl _) _).set (Nat.le_refl _) _⟩

set_option maxHeartbeats 800000 in
theorem arith7y_any (a : Value) (x y : V) (w : World) (hT : Takes w) (ha : Vals w a [x, y]) (hx : good 2 x = true) (hy : good 2 y = true) (hs : x.s.size + y.s.size ≤ 140737488351232) (h200 : (x.s ++ y.s).size ≤ 200) :
    Calls Tryd.prog 10 #[.int .i8 7, a] w fun e w' => e = .returned (pairV (txtV (x.s ++ y.s)) true) ∧ Fut w w' := by
  obtain ⟨A, cap, rfl, hl, hm⟩ := SlRep.form ha
  obtain ⟨b, off, rfl, _, _, _, x1⟩ := Vals.at_ ha (k := 0) (by simp)
  obtain ⟨b', off', he, _, _, _, y1⟩ := Vals.at_ ha (k := 1) (by simp)
  injection he with he
  injection he with he1 he2
  subst he1; subst he2
  have t0 : ∀ o, (w.alloc o).cell? ⟨0, 7, none⟩ = some (.int .i8 4) := fun o => (Fut.alloc w o).cell (hT 7 (by omega))
  simp only [List.getElem_cons_zero, List.getElem_cons_succ, Nat.zero_mul, Nat.one_mul, Nat.add_zero, List.length_cons, List.length_nil, Nat.zero_add, List.getD_cons_succ, List.getD_cons_zero] at *
  go_enter Tryd.func10, Tryd.ntmps10
  go_wp2_with fail
  refine (fits4_any _ [x, y] _ (ha.fut RV.stays (Fut.alloc _ _))).mono ?_
  rintro e w1 ⟨rfl, h1⟩
  rw [show fitsV 2 2 [x, y] = true by simp [fitsV, hx, hy]]
  have hF : Fut w w1 := (Fut.alloc _ _).trans h1
  have x1' := hF.cell x1
  have y1' := hF.cell y1
  have hsz : w.heap.size < w1.heap.size := by have := h1.size; simp at this; omega
  have c1_0_0 : w1.cell? ⟨w.heap.size, 0, none⟩ = some (.int .i8 0) := h1.cell (by go_simp)
  have c1_0_1 : w1.cell? ⟨w.heap.size, 1, none⟩ = some (.int .i64 0) := h1.cell (by go_simp)
  have c1_0_2 : w1.cell? ⟨w.heap.size, 2, none⟩ = some (.string ⟨#[]⟩) := h1.cell (by go_simp)
  have z1_0 : w1.frozen? ⟨w.heap.size, 0, none⟩ = false := h1.free (by simp) (by go_simp)
  have z1_1 : w1.frozen? ⟨w.heap.size, 1, none⟩ = false := h1.free (by simp) (by go_simp)
  have z1_2 : w1.frozen? ⟨w.heap.size, 2, none⟩ = false := h1.free (by simp) (by go_simp)
  go_wp2
  refine wp_graph 12 [.d, .d, .d, .d, .d, .d, .d, .d, .d, .d, .d, .d] (by kernel_rfl) (by kernel_rfl) (by kernel_rfl) ?_
  simp only [List.take_succ_cons, List.take_zero, List.drop_succ_cons, List.drop_zero, Exs]
  iterate 12 apply Exists.intro
  apply Run.valG (wanted_none rfl _)
  · intro w1 h1 hk
    have cx_0_0 : w1.cell? ⟨w.heap.size, 0, none⟩ = some (.int .i8 0) := Fut.cell h1 (by first | exact c1_0_0 | go_simp)
    have cx_0_1 : w1.cell? ⟨w.heap.size, 1, none⟩ = some (.int .i64 0) := Fut.cell h1 (by first | exact c1_0_1 | go_simp)
    have cx_0_2 : w1.cell? ⟨w.heap.size, 2, none⟩ = some (.string ⟨#[]⟩) := Fut.cell h1 (by first | exact c1_0_2 | go_simp)
    have x1w := h1.cell x1'; have y1w := h1.cell y1'
    go_simp; rfl
  simp only [Act.put, List.setIfInBounds_toArray, List.set_cons_succ, List.set_cons_zero, List.nil_append, List.cons_append]
  apply Run.valG (wanted_none rfl _)
  · intro w1 h1 hk
    have cx_0_0 : w1.cell? ⟨w.heap.size, 0, none⟩ = some (.int .i8 0) := Fut.cell h1 (by first | exact c1_0_0 | go_simp)
    have cx_0_1 : w1.cell? ⟨w.heap.size, 1, none⟩ = some (.int .i64 0) := Fut.cell h1 (by first | exact c1_0_1 | go_simp)
    have cx_0_2 : w1.cell? ⟨w.heap.size, 2, none⟩ = some (.string ⟨#[]⟩) := Fut.cell h1 (by first | exact c1_0_2 | go_simp)
    have x1w := h1.cell x1'; have y1w := h1.cell y1'
    go_simp; rfl
  simp only [Act.put, List.setIfInBounds_toArray, List.set_cons_succ, List.set_cons_zero, List.nil_append, List.cons_append]
  apply Run.valG (wanted_none rfl _)
  · intro w1 h1 hk
    have cx_0_0 : w1.cell? ⟨w.heap.size, 0, none⟩ = some (.int .i8 0) := Fut.cell h1 (by first | exact c1_0_0 | go_simp)
    have cx_0_1 : w1.cell? ⟨w.heap.size, 1, none⟩ = some (.int .i64 0) := Fut.cell h1 (by first | exact c1_0_1 | go_simp)
    have cx_0_2 : w1.cell? ⟨w.heap.size, 2, none⟩ = some (.string ⟨#[]⟩) := Fut.cell h1 (by first | exact c1_0_2 | go_simp)
    have x1w := h1.cell x1'; have y1w := h1.cell y1'
    go_simp; rfl
  simp only [Act.put, List.setIfInBounds_toArray, List.set_cons_succ, List.set_cons_zero, List.nil_append, List.cons_append]
  apply Run.valG (wanted_none rfl _)
  · intro w1 h1 hk
    have cx_0_0 : w1.cell? ⟨w.heap.size, 0, none⟩ = some (.int .i8 0) := Fut.cell h1 (by first | exact c1_0_0 | go_simp)
    have cx_0_1 : w1.cell? ⟨w.heap.size, 1, none⟩ = some (.int .i64 0) := Fut.cell h1 (by first | exact c1_0_1 | go_simp)
    have cx_0_2 : w1.cell? ⟨w.heap.size, 2, none⟩ = some (.string ⟨#[]⟩) := Fut.cell h1 (by first | exact c1_0_2 | go_simp)
    have x1w := h1.cell x1'; have y1w := h1.cell y1'
    go_simp; rfl
  simp only [Act.put, List.setIfInBounds_toArray, List.set_cons_succ, List.set_cons_zero, List.nil_append, List.cons_append]
  apply Run.valG (wanted_none rfl _)
  · intro w1 h1 hk
    have cx_0_0 : w1.cell? ⟨w.heap.size, 0, none⟩ = some (.int .i8 0) := Fut.cell h1 (by first | exact c1_0_0 | go_simp)
    have cx_0_1 : w1.cell? ⟨w.heap.size, 1, none⟩ = some (.int .i64 0) := Fut.cell h1 (by first | exact c1_0_1 | go_simp)
    have cx_0_2 : w1.cell? ⟨w.heap.size, 2, none⟩ = some (.string ⟨#[]⟩) := Fut.cell h1 (by first | exact c1_0_2 | go_simp)
    have x1w := h1.cell x1'; have y1w := h1.cell y1'
    go_simp; rfl
  simp only [Act.put, List.setIfInBounds_toArray, List.set_cons_succ, List.set_cons_zero, List.nil_append, List.cons_append]
  apply Run.valG (wanted_none rfl _)
  · intro w1 h1 hk
    have cx_0_0 : w1.cell? ⟨w.heap.size, 0, none⟩ = some (.int .i8 0) := Fut.cell h1 (by first | exact c1_0_0 | go_simp)
    have cx_0_1 : w1.cell? ⟨w.heap.size, 1, none⟩ = some (.int .i64 0) := Fut.cell h1 (by first | exact c1_0_1 | go_simp)
    have cx_0_2 : w1.cell? ⟨w.heap.size, 2, none⟩ = some (.string ⟨#[]⟩) := Fut.cell h1 (by first | exact c1_0_2 | go_simp)
    have x1w := h1.cell x1'; have y1w := h1.cell y1'
    go_simp; rfl
  simp only [Act.put, List.setIfInBounds_toArray, List.set_cons_succ, List.set_cons_zero, List.nil_append, List.cons_append]
  apply Run.valG (wanted_none rfl _)
  · intro w1 h1 hk
    have cx_0_0 : w1.cell? ⟨w.heap.size, 0, none⟩ = some (.int .i8 0) := Fut.cell h1 (by first | exact c1_0_0 | go_simp)
    have cx_0_1 : w1.cell? ⟨w.heap.size, 1, none⟩ = some (.int .i64 0) := Fut.cell h1 (by first | exact c1_0_1 | go_simp)
    have cx_0_2 : w1.cell? ⟨w.heap.size, 2, none⟩ = some (.string ⟨#[]⟩) := Fut.cell h1 (by first | exact c1_0_2 | go_simp)
    have x1w := h1.cell x1'; have y1w := h1.cell y1'
    go_simp; rfl
  simp only [Act.put, List.setIfInBounds_toArray, List.set_cons_succ, List.set_cons_zero, List.nil_append, List.cons_append]
  apply Run.valG (wanted_none rfl _)
  · intro w1 h1 hk
    have cx_0_0 : w1.cell? ⟨w.heap.size, 0, none⟩ = some (.int .i8 0) := Fut.cell h1 (by first | exact c1_0_0 | go_simp)
    have cx_0_1 : w1.cell? ⟨w.heap.size, 1, none⟩ = some (.int .i64 0) := Fut.cell h1 (by first | exact c1_0_1 | go_simp)
    have cx_0_2 : w1.cell? ⟨w.heap.size, 2, none⟩ = some (.string ⟨#[]⟩) := Fut.cell h1 (by first | exact c1_0_2 | go_simp)
    have x1w := h1.cell x1'; have y1w := h1.cell y1'
    go_simp; rfl
  simp only [Act.put, List.setIfInBounds_toArray, List.set_cons_succ, List.set_cons_zero, List.nil_append, List.cons_append]
  apply Run.valG (wanted_none rfl _)
  · intro w1 h1 hk
    have cx_0_0 : w1.cell? ⟨w.heap.size, 0, none⟩ = some (.int .i8 0) := Fut.cell h1 (by first | exact c1_0_0 | go_simp)
    have cx_0_1 : w1.cell? ⟨w.heap.size, 1, none⟩ = some (.int .i64 0) := Fut.cell h1 (by first | exact c1_0_1 | go_simp)
    have cx_0_2 : w1.cell? ⟨w.heap.size, 2, none⟩ = some (.string ⟨#[]⟩) := Fut.cell h1 (by first | exact c1_0_2 | go_simp)
    have x1w := h1.cell x1'; have y1w := h1.cell y1'
    go_simp; rw [if_neg (by omega)]
  simp only [Act.put, List.setIfInBounds_toArray, List.set_cons_succ, List.set_cons_zero, List.nil_append, List.cons_append]
  apply Run.call (wanted_none rfl _) (fun _ _ => by go_simp; exact ⟨rfl, rfl⟩)
  · intro w1 h1 hk
    have cx_0_0 : w1.cell? ⟨w.heap.size, 0, none⟩ = some (.int .i8 0) := Fut.cell h1 (by first | exact c1_0_0 | go_simp)
    have cx_0_1 : w1.cell? ⟨w.heap.size, 1, none⟩ = some (.int .i64 0) := Fut.cell h1 (by first | exact c1_0_1 | go_simp)
    have cx_0_2 : w1.cell? ⟨w.heap.size, 2, none⟩ = some (.string ⟨#[]⟩) := Fut.cell h1 (by first | exact c1_0_2 | go_simp)
    have x1w := h1.cell x1'; have y1w := h1.cell y1'
    have := text_any (x.s ++ y.s) w1 (by rw [ByteArray.size_append]; exact hs); rw [if_pos h200] at this; exact this
  simp only [Act.put, List.setIfInBounds_toArray, List.set_cons_succ, List.set_cons_zero, List.nil_append, List.cons_append]
  apply Run.valG (wanted_none rfl _)
  · intro w1 h1 hk
    have cx_0_0 : w1.cell? ⟨w.heap.size, 0, none⟩ = some (.int .i8 0) := Fut.cell h1 (by first | exact c1_0_0 | go_simp)
    have cx_0_1 : w1.cell? ⟨w.heap.size, 1, none⟩ = some (.int .i64 0) := Fut.cell h1 (by first | exact c1_0_1 | go_simp)
    have cx_0_2 : w1.cell? ⟨w.heap.size, 2, none⟩ = some (.string ⟨#[]⟩) := Fut.cell h1 (by first | exact c1_0_2 | go_simp)
    have x1w := h1.cell x1'; have y1w := h1.cell y1'
    go_simp; rfl
  simp only [Act.put, List.setIfInBounds_toArray, List.set_cons_succ, List.set_cons_zero, List.nil_append, List.cons_append]
  apply Run.valG (wanted_none rfl _)
  · intro w1 h1 hk
    have cx_0_0 : w1.cell? ⟨w.heap.size, 0, none⟩ = some (.int .i8 0) := Fut.cell h1 (by first | exact c1_0_0 | go_simp)
    have cx_0_1 : w1.cell? ⟨w.heap.size, 1, none⟩ = some (.int .i64 0) := Fut.cell h1 (by first | exact c1_0_1 | go_simp)
    have cx_0_2 : w1.cell? ⟨w.heap.size, 2, none⟩ = some (.string ⟨#[]⟩) := Fut.cell h1 (by first | exact c1_0_2 | go_simp)
    have x1w := h1.cell x1'; have y1w := h1.cell y1'
    go_simp; rfl
  simp only [Act.put, List.setIfInBounds_toArray, List.set_cons_succ, List.set_cons_zero, List.nil_append, List.cons_append]
  apply Run.done
  intro w2 h2 hk
  have c2_0_0 : w2.cell? ⟨w.heap.size, 0, none⟩ = some (.int .i8 0) := Fut.cell h2 (by first | exact c1_0_0 | go_simp)
  have c2_0_1 : w2.cell? ⟨w.heap.size, 1, none⟩ = some (.int .i64 0) := Fut.cell h2 (by first | exact c1_0_1 | go_simp)
  have c2_0_2 : w2.cell? ⟨w.heap.size, 2, none⟩ = some (.string ⟨#[]⟩) := Fut.cell h2 (by first | exact c1_0_2 | go_simp)
  clear hk
  have z2_0 : w2.frozen? ⟨w.heap.size, 0, none⟩ = false := h2.free hsz z1_0
  have z2_1 : w2.frozen? ⟨w.heap.size, 1, none⟩ = false := h2.free hsz z1_1
  have z2_2 : w2.frozen? ⟨w.heap.size, 2, none⟩ = false := h2.free hsz z1_2
  simp only [pairV, txtV, noV, V.val]
  go_wp2
  exact bodyPost_ret (v := pairV (txtV (x.s ++ y.s)) true) (by simp [results, Tryd.results10, go_sem, pairV, txtV, noV, V.val, z2_0, z2_1, z2_2, c2_0_0, c2_0_1, c2_0_2]) rfl ⟨rfl, (((hF.trans ((Fut.drew _).trans h2)).set (Nat.le_refl _) _).set (Nat.le_refl _) _).set (Nat.le_refl _) _⟩
set_option maxHeartbeats 800000 in
theorem arith7n_any (a : Value) (x y : V) (w : World) (hT : Takes w) (ha : Vals w a [x, y]) (hx : good 2 x = true) (hy : good 2 y = true) (hs : x.s.size + y.s.size ≤ 140737488351232) (h200 : ¬ (x.s ++ y.s).size ≤ 200) :
    Calls Tryd.prog 10 #[.int .i8 7, a] w fun e w' => e = .returned (pairV noV false) ∧ Fut w w' := by
  obtain ⟨A, cap, rfl, hl, hm⟩ := SlRep.form ha
  obtain ⟨b, off, rfl, _, _, _, x1⟩ := Vals.at_ ha (k := 0) (by simp)
  obtain ⟨b', off', he, _, _, _, y1⟩ := Vals.at_ ha (k := 1) (by simp)
  injection he with he
  injection he with he1 he2
  subst he1; subst he2
  have t0 : ∀ o, (w.alloc o).cell? ⟨0, 7, none⟩ = some (.int .i8 4) := fun o => (Fut.alloc w o).cell (hT 7 (by omega))
  simp only [List.getElem_cons_zero, List.getElem_cons_succ, Nat.zero_mul, Nat.one_mul, Nat.add_zero, List.length_cons, List.length_nil, Nat.zero_add, List.getD_cons_succ, List.getD_cons_zero] at *
  go_enter Tryd.func10, Tryd.ntmps10
  go_wp2_with fail
  refine (fits4_any _ [x, y] _ (ha.fut RV.stays (Fut.alloc _ _))).mono ?_
  rintro e w1 ⟨rfl, h1⟩
  rw [show fitsV 2 2 [x, y] = true by simp [fitsV, hx, hy]]
  have hF : Fut w w1 := (Fut.alloc _ _).trans h1
  have x1' := hF.cell x1
  have y1' := hF.cell y1
  have hsz : w.heap.size < w1.heap.size := by have := h1.size; simp at this; omega
  have c1_0_0 : w1.cell? ⟨w.heap.size, 0, none⟩ = some (.int .i8 0) := h1.cell (by go_simp)
  have c1_0_1 : w1.cell? ⟨w.heap.size, 1, none⟩ = some (.int .i64 0) := h1.cell (by go_simp)
  have c1_0_2 : w1.cell? ⟨w.heap.size, 2, none⟩ = some (.string ⟨#[]⟩) := h1.cell (by go_simp)
  have z1_0 : w1.frozen? ⟨w.heap.size, 0, none⟩ = false := h1.free (by simp) (by go_simp)
  have z1_1 : w1.frozen? ⟨w.heap.size, 1, none⟩ = false := h1.free (by simp) (by go_simp)
  have z1_2 : w1.frozen? ⟨w.heap.size, 2, none⟩ = false := h1.free (by simp) (by go_simp)
  go_wp2
  refine wp_graph 12 [.d, .d, .d, .d, .d, .d, .d, .d, .d, .d, .d, .d] (by kernel_rfl) (by kernel_rfl) (by kernel_rfl) ?_
  simp only [List.take_succ_cons, List.take_zero, List.drop_succ_cons, List.drop_zero, Exs]
  iterate 12 apply Exists.intro
  apply Run.valG (wanted_none rfl _)
  · intro w1 h1 hk
    have cx_0_0 : w1.cell? ⟨w.heap.size, 0, none⟩ = some (.int .i8 0) := Fut.cell h1 (by first | exact c1_0_0 | go_simp)
    have cx_0_1 : w1.cell? ⟨w.heap.size, 1, none⟩ = some (.int .i64 0) := Fut.cell h1 (by first | exact c1_0_1 | go_simp)
    have cx_0_2 : w1.cell? ⟨w.heap.size, 2, none⟩ = some (.string ⟨#[]⟩) := Fut.cell h1 (by first | exact c1_0_2 | go_simp)
    have x1w := h1.cell x1'; have y1w := h1.cell y1'
    go_simp; rfl
  simp only [Act.put, List.setIfInBounds_toArray, List.set_cons_succ, List.set_cons_zero, List.nil_append, List.cons_append]
  apply Run.valG (wanted_none rfl _)
  · intro w1 h1 hk
    have cx_0_0 : w1.cell? ⟨w.heap.size, 0, none⟩ = some (.int .i8 0) := Fut.cell h1 (by first | exact c1_0_0 | go_simp)
    have cx_0_1 : w1.cell? ⟨w.heap.size, 1, none⟩ = some (.int .i64 0) := Fut.cell h1 (by first | exact c1_0_1 | go_simp)
    have cx_0_2 : w1.cell? ⟨w.heap.size, 2, none⟩ = some (.string ⟨#[]⟩) := Fut.cell h1 (by first | exact c1_0_2 | go_simp)
    have x1w := h1.cell x1'; have y1w := h1.cell y1'
    go_simp; rfl
  simp only [Act.put, List.setIfInBounds_toArray, List.set_cons_succ, List.set_cons_zero, List.nil_append, List.cons_append]
  apply Run.valG (wanted_none rfl _)
  · intro w1 h1 hk
    have cx_0_0 : w1.cell? ⟨w.heap.size, 0, none⟩ = some (.int .i8 0) := Fut.cell h1 (by first | exact c1_0_0 | go_simp)
    have cx_0_1 : w1.cell? ⟨w.heap.size, 1, none⟩ = some (.int .i64 0) := Fut.cell h1 (by first | exact c1_0_1 | go_simp)
    have cx_0_2 : w1.cell? ⟨w.heap.size, 2, none⟩ = some (.string ⟨#[]⟩) := Fut.cell h1 (by first | exact c1_0_2 | go_simp)
    have x1w := h1.cell x1'; have y1w := h1.cell y1'
    go_simp; rfl
  simp only [Act.put, List.setIfInBounds_toArray, List.set_cons_succ, List.set_cons_zero, List.nil_append, List.cons_append]
  apply Run.valG (wanted_none rfl _)
  · intro w1 h1 hk
    have cx_0_0 : w1.cell? ⟨w.heap.size, 0, none⟩ = some (.int .i8 0) := Fut.cell h1 (by first | exact c1_0_0 | go_simp)
    have cx_0_1 : w1.cell? ⟨w.heap.size, 1, none⟩ = some (.int .i64 0) := Fut.cell h1 (by first | exact c1_0_1 | go_simp)
    have cx_0_2 : w1.cell? ⟨w.heap.size, 2, none⟩ = some (.string ⟨#[]⟩) := Fut.cell h1 (by first | exact c1_0_2 | go_simp)
    have x1w := h1.cell x1'; have y1w := h1.cell y1'
    go_simp; rfl
  simp only [Act.put, List.setIfInBounds_toArray, List.set_cons_succ, List.set_cons_zero, List.nil_append, List.cons_append]
  apply Run.valG (wanted_none rfl _)
  · intro w1 h1 hk
    have cx_0_0 : w1.cell? ⟨w.heap.size, 0, none⟩ = some (.int .i8 0) := Fut.cell h1 (by first | exact c1_0_0 | go_simp)
    have cx_0_1 : w1.cell? ⟨w.heap.size, 1, none⟩ = some (.int .i64 0) := Fut.cell h1 (by first | exact c1_0_1 | go_simp)
    have cx_0_2 : w1.cell? ⟨w.heap.size, 2, none⟩ = some (.string ⟨#[]⟩) := Fut.cell h1 (by first | exact c1_0_2 | go_simp)
    have x1w := h1.cell x1'; have y1w := h1.cell y1'
    go_simp; rfl
  simp only [Act.put, List.setIfInBounds_toArray, List.set_cons_succ, List.set_cons_zero, List.nil_append, List.cons_append]
  apply Run.valG (wanted_none rfl _)
  · intro w1 h1 hk
    have cx_0_0 : w1.cell? ⟨w.heap.size, 0, none⟩ = some (.int .i8 0) := Fut.cell h1 (by first | exact c1_0_0 | go_simp)
    have cx_0_1 : w1.cell? ⟨w.heap.size, 1, none⟩ = some (.int .i64 0) := Fut.cell h1 (by first | exact c1_0_1 | go_simp)
    have cx_0_2 : w1.cell? ⟨w.heap.size, 2, none⟩ = some (.string ⟨#[]⟩) := Fut.cell h1 (by first | exact c1_0_2 | go_simp)
    have x1w := h1.cell x1'; have y1w := h1.cell y1'
    go_simp; rfl
  simp only [Act.put, List.setIfInBounds_toArray, List.set_cons_succ, List.set_cons_zero, List.nil_append, List.cons_append]
  apply Run.valG (wanted_none rfl _)
  · intro w1 h1 hk
    have cx_0_0 : w1.cell? ⟨w.heap.size, 0, none⟩ = some (.int .i8 0) := Fut.cell h1 (by first | exact c1_0_0 | go_simp)
    have cx_0_1 : w1.cell? ⟨w.heap.size, 1, none⟩ = some (.int .i64 0) := Fut.cell h1 (by first | exact c1_0_1 | go_simp)
    have cx_0_2 : w1.cell? ⟨w.heap.size, 2, none⟩ = some (.string ⟨#[]⟩) := Fut.cell h1 (by first | exact c1_0_2 | go_simp)
    have x1w := h1.cell x1'; have y1w := h1.cell y1'
    go_simp; rfl
  simp only [Act.put, List.setIfInBounds_toArray, List.set_cons_succ, List.set_cons_zero, List.nil_append, List.cons_append]
  apply Run.valG (wanted_none rfl _)
  · intro w1 h1 hk
    have cx_0_0 : w1.cell? ⟨w.heap.size, 0, none⟩ = some (.int .i8 0) := Fut.cell h1 (by first | exact c1_0_0 | go_simp)
    have cx_0_1 : w1.cell? ⟨w.heap.size, 1, none⟩ = some (.int .i64 0) := Fut.cell h1 (by first | exact c1_0_1 | go_simp)
    have cx_0_2 : w1.cell? ⟨w.heap.size, 2, none⟩ = some (.string ⟨#[]⟩) := Fut.cell h1 (by first | exact c1_0_2 | go_simp)
    have x1w := h1.cell x1'; have y1w := h1.cell y1'
    go_simp; rfl
  simp only [Act.put, List.setIfInBounds_toArray, List.set_cons_succ, List.set_cons_zero, List.nil_append, List.cons_append]
  apply Run.valG (wanted_none rfl _)
  · intro w1 h1 hk
    have cx_0_0 : w1.cell? ⟨w.heap.size, 0, none⟩ = some (.int .i8 0) := Fut.cell h1 (by first | exact c1_0_0 | go_simp)
    have cx_0_1 : w1.cell? ⟨w.heap.size, 1, none⟩ = some (.int .i64 0) := Fut.cell h1 (by first | exact c1_0_1 | go_simp)
    have cx_0_2 : w1.cell? ⟨w.heap.size, 2, none⟩ = some (.string ⟨#[]⟩) := Fut.cell h1 (by first | exact c1_0_2 | go_simp)
    have x1w := h1.cell x1'; have y1w := h1.cell y1'
    go_simp; rw [if_neg (by omega)]
  simp only [Act.put, List.setIfInBounds_toArray, List.set_cons_succ, List.set_cons_zero, List.nil_append, List.cons_append]
  apply Run.call (wanted_none rfl _) (fun _ _ => by go_simp; exact ⟨rfl, rfl⟩)
  · intro w1 h1 hk
    have cx_0_0 : w1.cell? ⟨w.heap.size, 0, none⟩ = some (.int .i8 0) := Fut.cell h1 (by first | exact c1_0_0 | go_simp)
    have cx_0_1 : w1.cell? ⟨w.heap.size, 1, none⟩ = some (.int .i64 0) := Fut.cell h1 (by first | exact c1_0_1 | go_simp)
    have cx_0_2 : w1.cell? ⟨w.heap.size, 2, none⟩ = some (.string ⟨#[]⟩) := Fut.cell h1 (by first | exact c1_0_2 | go_simp)
    have x1w := h1.cell x1'; have y1w := h1.cell y1'
    have := text_any (x.s ++ y.s) w1 (by rw [ByteArray.size_append]; exact hs); rw [if_neg h200] at this; exact this
  simp only [Act.put, List.setIfInBounds_toArray, List.set_cons_succ, List.set_cons_zero, List.nil_append, List.cons_append]
  apply Run.valG (wanted_none rfl _)
  · intro w1 h1 hk
    have cx_0_0 : w1.cell? ⟨w.heap.size, 0, none⟩ = some (.int .i8 0) := Fut.cell h1 (by first | exact c1_0_0 | go_simp)
    have cx_0_1 : w1.cell? ⟨w.heap.size, 1, none⟩ = some (.int .i64 0) := Fut.cell h1 (by first | exact c1_0_1 | go_simp)
    have cx_0_2 : w1.cell? ⟨w.heap.size, 2, none⟩ = some (.string ⟨#[]⟩) := Fut.cell h1 (by first | exact c1_0_2 | go_simp)
    have x1w := h1.cell x1'; have y1w := h1.cell y1'
    go_simp; rfl
  simp only [Act.put, List.setIfInBounds_toArray, List.set_cons_succ, List.set_cons_zero, List.nil_append, List.cons_append]
  apply Run.valG (wanted_none rfl _)
  · intro w1 h1 hk
    have cx_0_0 : w1.cell? ⟨w.heap.size, 0, none⟩ = some (.int .i8 0) := Fut.cell h1 (by first | exact c1_0_0 | go_simp)
    have cx_0_1 : w1.cell? ⟨w.heap.size, 1, none⟩ = some (.int .i64 0) := Fut.cell h1 (by first | exact c1_0_1 | go_simp)
    have cx_0_2 : w1.cell? ⟨w.heap.size, 2, none⟩ = some (.string ⟨#[]⟩) := Fut.cell h1 (by first | exact c1_0_2 | go_simp)
    have x1w := h1.cell x1'; have y1w := h1.cell y1'
    go_simp; rfl
  simp only [Act.put, List.setIfInBounds_toArray, List.set_cons_succ, List.set_cons_zero, List.nil_append, List.cons_append]
  apply Run.done
  intro w2 h2 hk
  have c2_0_0 : w2.cell? ⟨w.heap.size, 0, none⟩ = some (.int .i8 0) := Fut.cell h2 (by first | exact c1_0_0 | go_simp)
  have c2_0_1 : w2.cell? ⟨w.heap.size, 1, none⟩ = some (.int .i64 0) := Fut.cell h2 (by first | exact c1_0_1 | go_simp)
  have c2_0_2 : w2.cell? ⟨w.heap.size, 2, none⟩ = some (.string ⟨#[]⟩) := Fut.cell h2 (by first | exact c1_0_2 | go_simp)
  clear hk
  have z2_0 : w2.frozen? ⟨w.heap.size, 0, none⟩ = false := h2.free hsz z1_0
  have z2_1 : w2.frozen? ⟨w.heap.size, 1, none⟩ = false := h2.free hsz z1_1
  have z2_2 : w2.frozen? ⟨w.heap.size, 2, none⟩ = false := h2.free hsz z1_2
  simp only [pairV, txtV, noV, V.val]
  go_wp2
  exact bodyPost_ret (v := pairV noV false) (by simp [results, Tryd.results10, go_sem, pairV, txtV, noV, V.val, z2_0, z2_1, z2_2, c2_0_0, c2_0_1, c2_0_2]) rfl ⟨rfl, (((hF.trans ((Fut.drew _).trans h2)).set (Nat.le_refl _) _).set (Nat.le_refl _) _).set (Nat.le_refl _) _⟩


set_option maxHeartbeats 800000 in
theorem arith1_any (a : Value) (x : V) (w : World) (hT : Takes w) (ha : Vals w a [x]) (hx : good 1 x = true) :
    Calls Tryd.prog 10 #[.int .i8 1, a] w fun e w' => e = .returned (pairV (numV (wrap64 (-x.n))) true) ∧ Fut w w' := by
  obtain ⟨A, cap, rfl, hl, hm⟩ := SlRep.form ha
  obtain ⟨b, off, rfl, hok, _, x1, x2⟩ := Vals.at_ ha (k := 0) (by simp)
  have hsm := hok.2.2
  have t0 : ∀ o, (w.alloc o).cell? ⟨0, 1, none⟩ = some (.int .i8 1) := fun o => (Fut.alloc w o).cell (hT 1 (by omega))
  simp only [List.getElem_cons_zero, Nat.zero_mul, Nat.add_zero, List.length_cons, List.length_nil, Nat.zero_add] at *
  go_enter Tryd.func10, Tryd.ntmps10
  go_wp2_with fail
  refine (fits1_any _ [x] _ (ha.fut RV.stays (Fut.alloc _ _))).mono ?_
  rintro e w1 ⟨rfl, h1⟩
  rw [show fitsV 1 1 [x] = true by simp [fitsV, hx]]
  have hF : Fut w w1 := (Fut.alloc _ _).trans h1
  have x1' := hF.cell x1
  have hsz : w.heap.size < w1.heap.size := by have := h1.size; simp at this; omega
  have c1_0_0 : w1.cell? ⟨w.heap.size, 0, none⟩ = some (.int .i8 0) := h1.cell (by go_simp)
  have c1_0_1 : w1.cell? ⟨w.heap.size, 1, none⟩ = some (.int .i64 0) := h1.cell (by go_simp)
  have c1_0_2 : w1.cell? ⟨w.heap.size, 2, none⟩ = some (.string ⟨#[]⟩) := h1.cell (by go_simp)
  have z1_0 : w1.frozen? ⟨w.heap.size, 0, none⟩ = false := h1.free (by simp) (by go_simp)
  have z1_1 : w1.frozen? ⟨w.heap.size, 1, none⟩ = false := h1.free (by simp) (by go_simp)
  have z1_2 : w1.frozen? ⟨w.heap.size, 2, none⟩ = false := h1.free (by simp) (by go_simp)
  go_wp2_with fail
  refine (number_any _ _).mono ?_
  rintro e w2 ⟨rfl, h2⟩
  have c2_0_0 := h2.cell c1_0_0
  have c2_0_1 := h2.cell c1_0_1
  have c2_0_2 := h2.cell c1_0_2
  have z2_0 : w2.frozen? ⟨w.heap.size, 0, none⟩ = false := h2.free hsz z1_0
  have z2_1 : w2.frozen? ⟨w.heap.size, 1, none⟩ = false := h2.free hsz z1_1
  have z2_2 : w2.frozen? ⟨w.heap.size, 2, none⟩ = false := h2.free hsz z1_2
  simp only [pairV, numV, V.val]
  go_wp2
  exact bodyPost_ret (v := pairV (numV (wrap64 (-x.n))) true) (by simp [results, Tryd.results10, go_sem, pairV, numV, V.val, z2_0, z2_1, z2_2, c2_0_0, c2_0_1, c2_0_2]) rfl ⟨rfl, (((hF.trans h2).set (Nat.le_refl _) _).set (Nat.le_refl _) _).set (Nat.le_refl _) _⟩
set_option maxHeartbeats 800000 in
theorem arith8_any (a : Value) (x : V) (w : World) (hT : Takes w) (ha : Vals w a [x]) (hx : good 2 x = true) :
    Calls Tryd.prog 10 #[.int .i8 8, a] w fun e w' => e = .returned (pairV (numV x.s.size) true) ∧ Fut w w' := by
  obtain ⟨A, cap, rfl, hl, hm⟩ := SlRep.form ha
  obtain ⟨b, off, rfl, hok, _, x1, x2⟩ := Vals.at_ ha (k := 0) (by simp)
  have hsm := hok.2.2
  have t0 : ∀ o, (w.alloc o).cell? ⟨0, 8, none⟩ = some (.int .i8 3) := fun o => (Fut.alloc w o).cell (hT 8 (by omega))
  simp only [List.getElem_cons_zero, Nat.zero_mul, Nat.add_zero, List.length_cons, List.length_nil, Nat.zero_add] at *
  go_enter Tryd.func10, Tryd.ntmps10
  go_wp2_with fail
  refine (fits3_any _ [x] _ (ha.fut RV.stays (Fut.alloc _ _))).mono ?_
  rintro e w1 ⟨rfl, h1⟩
  rw [show fitsV 1 2 [x] = true by simp [fitsV, hx]]
  have hF : Fut w w1 := (Fut.alloc _ _).trans h1
  have x1' := hF.cell x2
  have hsz : w.heap.size < w1.heap.size := by have := h1.size; simp at this; omega
  have c1_0_0 : w1.cell? ⟨w.heap.size, 0, none⟩ = some (.int .i8 0) := h1.cell (by go_simp)
  have c1_0_1 : w1.cell? ⟨w.heap.size, 1, none⟩ = some (.int .i64 0) := h1.cell (by go_simp)
  have c1_0_2 : w1.cell? ⟨w.heap.size, 2, none⟩ = some (.string ⟨#[]⟩) := h1.cell (by go_simp)
  have z1_0 : w1.frozen? ⟨w.heap.size, 0, none⟩ = false := h1.free (by simp) (by go_simp)
  have z1_1 : w1.frozen? ⟨w.heap.size, 1, none⟩ = false := h1.free (by simp) (by go_simp)
  have z1_2 : w1.frozen? ⟨w.heap.size, 2, none⟩ = false := h1.free (by simp) (by go_simp)
  go_wp2_with fail
  refine (number_any _ _).mono ?_
  rintro e w2 ⟨rfl, h2⟩
  have c2_0_0 := h2.cell c1_0_0
  have c2_0_1 := h2.cell c1_0_1
  have c2_0_2 := h2.cell c1_0_2
  have z2_0 : w2.frozen? ⟨w.heap.size, 0, none⟩ = false := h2.free hsz z1_0
  have z2_1 : w2.frozen? ⟨w.heap.size, 1, none⟩ = false := h2.free hsz z1_1
  have z2_2 : w2.frozen? ⟨w.heap.size, 2, none⟩ = false := h2.free hsz z1_2
  simp only [pairV, numV, V.val]
  go_wp2
  exact bodyPost_ret (v := pairV (numV x.s.size) true) (by simp [results, Tryd.results10, go_sem, pairV, numV, V.val, z2_0, z2_1, z2_2, c2_0_0, c2_0_1, c2_0_2]) rfl ⟨rfl, (((hF.trans h2).set (Nat.le_refl _) _).set (Nat.le_refl _) _).set (Nat.le_refl _) _⟩

/-! ### What does not fit gives nothing. -/
set_option maxHeartbeats 800000 in
theorem arith_no1 (O : Int) (a : Value) (xs : List V) (w : World) (h0 : 0 ≤ O) (h11 : O < 11) (ht : ∀ o, (w.alloc o).cell? ⟨0, O.toNat, none⟩ = some (.int .i8 1)) (ha : Vals w a xs) (hx : fitsV 1 1 xs = false) :
    Calls Tryd.prog 10 #[.int .i8 O, a] w fun e w' => e = .returned (pairV noV false) ∧ Fut w w' := by
  obtain ⟨A, cap, rfl, hl, hm⟩ := SlRep.form ha
  obtain ⟨o, rfl⟩ : ∃ o : Nat, O = o := ⟨O.toNat, by omega⟩
  simp only [Int.toNat_natCast] at ht
  go_enter Tryd.func10, Tryd.ntmps10
  go_wp2_with fail
  refine (fits1_any _ xs _ (ha.fut RV.stays (Fut.alloc _ _))).mono ?_
  rintro e w1 ⟨rfl, h1⟩
  rw [hx]
  have hF : Fut w w1 := (Fut.alloc _ _).trans h1
  have hsz : w.heap.size < w1.heap.size := by have := h1.size; simp at this; omega
  have c1_0_0 : w1.cell? ⟨w.heap.size, 0, none⟩ = some (.int .i8 0) := h1.cell (by go_simp)
  have c1_0_1 : w1.cell? ⟨w.heap.size, 1, none⟩ = some (.int .i64 0) := h1.cell (by go_simp)
  have c1_0_2 : w1.cell? ⟨w.heap.size, 2, none⟩ = some (.string ⟨#[]⟩) := h1.cell (by go_simp)
  have z1_0 : w1.frozen? ⟨w.heap.size, 0, none⟩ = false := h1.free (by simp) (by go_simp)
  have z1_1 : w1.frozen? ⟨w.heap.size, 1, none⟩ = false := h1.free (by simp) (by go_simp)
  have z1_2 : w1.frozen? ⟨w.heap.size, 2, none⟩ = false := h1.free (by simp) (by go_simp)
  go_wp2
  exact bodyPost_ret (v := pairV noV false) (by simp [results, Tryd.results10, go_sem, pairV, noV, V.val, z1_0, z1_1, z1_2, c1_0_0, c1_0_1, c1_0_2]) rfl ⟨rfl, ((hF.set (Nat.le_refl _) _).set (Nat.le_refl _) _).set (Nat.le_refl _) _⟩
set_option maxHeartbeats 800000 in
theorem arith_no2 (O : Int) (a : Value) (xs : List V) (w : World) (h0 : 0 ≤ O) (h11 : O < 11) (ht : ∀ o, (w.alloc o).cell? ⟨0, O.toNat, none⟩ = some (.int .i8 2)) (ha : Vals w a xs) (hx : fitsV 2 1 xs = false) :
    Calls Tryd.prog 10 #[.int .i8 O, a] w fun e w' => e = .returned (pairV noV false) ∧ Fut w w' := by
  obtain ⟨A, cap, rfl, hl, hm⟩ := SlRep.form ha
  obtain ⟨o, rfl⟩ : ∃ o : Nat, O = o := ⟨O.toNat, by omega⟩
  simp only [Int.toNat_natCast] at ht
  go_enter Tryd.func10, Tryd.ntmps10
  go_wp2_with fail
  refine (fits2_any _ xs _ (ha.fut RV.stays (Fut.alloc _ _))).mono ?_
  rintro e w1 ⟨rfl, h1⟩
  rw [hx]
  have hF : Fut w w1 := (Fut.alloc _ _).trans h1
  have hsz : w.heap.size < w1.heap.size := by have := h1.size; simp at this; omega
  have c1_0_0 : w1.cell? ⟨w.heap.size, 0, none⟩ = some (.int .i8 0) := h1.cell (by go_simp)
  have c1_0_1 : w1.cell? ⟨w.heap.size, 1, none⟩ = some (.int .i64 0) := h1.cell (by go_simp)
  have c1_0_2 : w1.cell? ⟨w.heap.size, 2, none⟩ = some (.string ⟨#[]⟩) := h1.cell (by go_simp)
  have z1_0 : w1.frozen? ⟨w.heap.size, 0, none⟩ = false := h1.free (by simp) (by go_simp)
  have z1_1 : w1.frozen? ⟨w.heap.size, 1, none⟩ = false := h1.free (by simp) (by go_simp)
  have z1_2 : w1.frozen? ⟨w.heap.size, 2, none⟩ = false := h1.free (by simp) (by go_simp)
  go_wp2
  exact bodyPost_ret (v := pairV noV false) (by simp [results, Tryd.results10, go_sem, pairV, noV, V.val, z1_0, z1_1, z1_2, c1_0_0, c1_0_1, c1_0_2]) rfl ⟨rfl, ((hF.set (Nat.le_refl _) _).set (Nat.le_refl _) _).set (Nat.le_refl _) _⟩
set_option maxHeartbeats 800000 in
theorem arith_no3 (O : Int) (a : Value) (xs : List V) (w : World) (h0 : 0 ≤ O) (h11 : O < 11) (ht : ∀ o, (w.alloc o).cell? ⟨0, O.toNat, none⟩ = some (.int .i8 3)) (ha : Vals w a xs) (hx : fitsV 1 2 xs = false) :
    Calls Tryd.prog 10 #[.int .i8 O, a] w fun e w' => e = .returned (pairV noV false) ∧ Fut w w' := by
  obtain ⟨A, cap, rfl, hl, hm⟩ := SlRep.form ha
  obtain ⟨o, rfl⟩ : ∃ o : Nat, O = o := ⟨O.toNat, by omega⟩
  simp only [Int.toNat_natCast] at ht
  go_enter Tryd.func10, Tryd.ntmps10
  go_wp2_with fail
  refine (fits3_any _ xs _ (ha.fut RV.stays (Fut.alloc _ _))).mono ?_
  rintro e w1 ⟨rfl, h1⟩
  rw [hx]
  have hF : Fut w w1 := (Fut.alloc _ _).trans h1
  have hsz : w.heap.size < w1.heap.size := by have := h1.size; simp at this; omega
  have c1_0_0 : w1.cell? ⟨w.heap.size, 0, none⟩ = some (.int .i8 0) := h1.cell (by go_simp)
  have c1_0_1 : w1.cell? ⟨w.heap.size, 1, none⟩ = some (.int .i64 0) := h1.cell (by go_simp)
  have c1_0_2 : w1.cell? ⟨w.heap.size, 2, none⟩ = some (.string ⟨#[]⟩) := h1.cell (by go_simp)
  have z1_0 : w1.frozen? ⟨w.heap.size, 0, none⟩ = false := h1.free (by simp) (by go_simp)
  have z1_1 : w1.frozen? ⟨w.heap.size, 1, none⟩ = false := h1.free (by simp) (by go_simp)
  have z1_2 : w1.frozen? ⟨w.heap.size, 2, none⟩ = false := h1.free (by simp) (by go_simp)
  go_wp2
  exact bodyPost_ret (v := pairV noV false) (by simp [results, Tryd.results10, go_sem, pairV, noV, V.val, z1_0, z1_1, z1_2, c1_0_0, c1_0_1, c1_0_2]) rfl ⟨rfl, ((hF.set (Nat.le_refl _) _).set (Nat.le_refl _) _).set (Nat.le_refl _) _⟩
set_option maxHeartbeats 800000 in
theorem arith_no4 (O : Int) (a : Value) (xs : List V) (w : World) (h0 : 0 ≤ O) (h11 : O < 11) (ht : ∀ o, (w.alloc o).cell? ⟨0, O.toNat, none⟩ = some (.int .i8 4)) (ha : Vals w a xs) (hx : fitsV 2 2 xs = false) :
    Calls Tryd.prog 10 #[.int .i8 O, a] w fun e w' => e = .returned (pairV noV false) ∧ Fut w w' := by
  obtain ⟨A, cap, rfl, hl, hm⟩ := SlRep.form ha
  obtain ⟨o, rfl⟩ : ∃ o : Nat, O = o := ⟨O.toNat, by omega⟩
  simp only [Int.toNat_natCast] at ht
  go_enter Tryd.func10, Tryd.ntmps10
  go_wp2_with fail
  refine (fits4_any _ xs _ (ha.fut RV.stays (Fut.alloc _ _))).mono ?_
  rintro e w1 ⟨rfl, h1⟩
  rw [hx]
  have hF : Fut w w1 := (Fut.alloc _ _).trans h1
  have hsz : w.heap.size < w1.heap.size := by have := h1.size; simp at this; omega
  have c1_0_0 : w1.cell? ⟨w.heap.size, 0, none⟩ = some (.int .i8 0) := h1.cell (by go_simp)
  have c1_0_1 : w1.cell? ⟨w.heap.size, 1, none⟩ = some (.int .i64 0) := h1.cell (by go_simp)
  have c1_0_2 : w1.cell? ⟨w.heap.size, 2, none⟩ = some (.string ⟨#[]⟩) := h1.cell (by go_simp)
  have z1_0 : w1.frozen? ⟨w.heap.size, 0, none⟩ = false := h1.free (by simp) (by go_simp)
  have z1_1 : w1.frozen? ⟨w.heap.size, 1, none⟩ = false := h1.free (by simp) (by go_simp)
  have z1_2 : w1.frozen? ⟨w.heap.size, 2, none⟩ = false := h1.free (by simp) (by go_simp)
  go_wp2
  exact bodyPost_ret (v := pairV noV false) (by simp [results, Tryd.results10, go_sem, pairV, noV, V.val, z1_0, z1_1, z1_2, c1_0_0, c1_0_1, c1_0_2]) rfl ⟨rfl, ((hF.set (Nat.le_refl _) _).set (Nat.le_refl _) _).set (Nat.le_refl _) _⟩

end Go.Proofs.YtlihkmldclocoaaDoor
