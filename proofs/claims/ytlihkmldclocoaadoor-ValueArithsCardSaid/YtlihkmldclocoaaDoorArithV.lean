/- P1.4: what an operation gives of any values; value.Arith answers by it. -/
import Derived.Test.YtlihkmldclocoaaDoorText
import Derived.Test.YtlihkmldclocoaaDoorDivide
import Derived.Test.YtlihkmldclocoaaDoorLives
namespace Go.Proofs.YtlihkmldclocoaaDoor
open Go.RowKit
set_option linter.unusedSimpArgs false
set_option linter.unusedVariables false

def numsV (op a b : Int) : V × Bool :=
  if op = 2 then (numV (wrap64 (a + b)), true)
  else if op = 3 then (numV (wrap64 (a - b)), true)
  else if op = 4 then (numV (wrap64 (a * b)), true)
  else if b = 0 then (noV, false)
  else if op = 5 then (numV (wrap64 (a.tdiv b)), true)
  else (numV (a.tmod b), true)
def catV (s t : ByteArray) : V × Bool := if (s ++ t).size ≤ 200 then (txtV (s ++ t), true) else (noV, false)
def textsV (op : Int) (s : ByteArray) : V × Bool :=
  if op = 8 then (numV s.size, true) else if op = 9 then (numV (nch s), true) else (txtV (bk s), true)
def arithV (op : Int) (xs : List V) : V × Bool :=
  if op = 1 ∧ fitsV 1 1 xs = true then (numV (wrap64 (-(xs.getD 0 noV).n)), true)
  else if (2 ≤ op ∧ op ≤ 6) ∧ fitsV 2 1 xs = true then numsV op (xs.getD 0 noV).n (xs.getD 1 noV).n
  else if op = 7 ∧ fitsV 2 2 xs = true then catV (xs.getD 0 noV).s (xs.getD 1 noV).s
  else if (8 ≤ op ∧ op ≤ 10) ∧ fitsV 1 2 xs = true then textsV op (xs.getD 0 noV).s
  else (noV, false)
def pairR (r : V × Bool) : Value := pairV r.1 r.2

theorem fits_one {K : Int} {xs : List V} (h : fitsV 1 K xs = true) : ∃ x, xs = [x] ∧ good K x = true := by
  unfold fitsV at h
  simp only [Bool.and_eq_true, decide_eq_true_eq] at h
  match xs, h with
  | [x], h => exact ⟨x, rfl, by simpa using h.2⟩
theorem fits_two {K : Int} {xs : List V} (h : fitsV 2 K xs = true) : ∃ x y, xs = [x, y] ∧ good K x = true ∧ good K y = true := by
  unfold fitsV at h
  simp only [Bool.and_eq_true, decide_eq_true_eq] at h
  match xs, h with
  | [x, y], h => exact ⟨x, y, rfl, by simpa using h.2⟩
theorem good_text {x : V} (h : good 2 x = true) : x = txtV x.s ∧ x.s.size ≤ 200 := by
  obtain ⟨k, n, s⟩ := x
  unfold good at h
  simp only [Bool.and_eq_true, beq_iff_eq] at h
  obtain ⟨rfl, h⟩ := h
  unfold chk at h
  simp at h
  exact ⟨by rw [h.1]; rfl, h.2⟩

set_option maxHeartbeats 800000 in
theorem arith_low (O : Int) (a : Value) (w : World) (h0 : O < 0) :
    Calls Tryd.prog 10 #[.int .i8 O, a] w fun e w' => e = .returned (pairV noV false) ∧ Fut w w' := by
  have hF : Fut w (w.alloc (.cells #[.int .i8 0, .int .i64 0, .string ⟨#[]⟩] 27)) := Fut.alloc _ _
  go_enter Tryd.func10, Tryd.ntmps10
  go_wp2
  exact bodyPost_ret (v := pairV noV false) (by simp [results, Tryd.results10, go_sem, pairV, noV, V.val]) rfl ⟨rfl, by first | exact hF | exact ((hF.set (Nat.le_refl _) _).set (Nat.le_refl _) _).set (Nat.le_refl _) _⟩
set_option maxHeartbeats 800000 in
theorem arith_high (O : Int) (a : Value) (w : World) (h0 : 11 ≤ O) (h127 : O ≤ 127) :
    Calls Tryd.prog 10 #[.int .i8 O, a] w fun e w' => e = .returned (pairV noV false) ∧ Fut w w' := by
  have hF : Fut w (w.alloc (.cells #[.int .i8 0, .int .i64 0, .string ⟨#[]⟩] 27)) := Fut.alloc _ _
  obtain ⟨o, rfl⟩ : ∃ o : Nat, O = o := ⟨O.toNat, by omega⟩
  have h0n : 11 ≤ o := by omega
  have h0m : ¬ o < 11 := by omega
  have h0z : ¬ (o : Int) < 0 := by omega
  go_enter Tryd.func10, Tryd.ntmps10
  go_wp2
  exact bodyPost_ret (v := pairV noV false) (by simp [results, Tryd.results10, go_sem, pairV, noV, V.val]) rfl ⟨rfl, by first | exact hF | exact ((hF.set (Nat.le_refl _) _).set (Nat.le_refl _) _).set (Nat.le_refl _) _⟩
set_option maxHeartbeats 800000 in
theorem fits0_any (a : Value) (w : World) :
    Calls Tryd.prog 37 #[.int .i8 0, a] w fun e w' => e = .returned (.bool false) ∧ w' = w := by
  go_enter Tryd.func37, Tryd.ntmps37
  go_wp2
  go_ret
  exact ⟨rfl, rfl⟩
set_option maxHeartbeats 800000 in
theorem arith_zero (a : Value) (w : World) (hT : Takes w) :
    Calls Tryd.prog 10 #[.int .i8 0, a] w fun e w' => e = .returned (pairV noV false) ∧ Fut w w' := by
  have t0 : ∀ o, (w.alloc o).cell? ⟨0, 0, none⟩ = some (.int .i8 0) := fun o => (Fut.alloc w o).cell (hT 0 (by omega))
  have hF : Fut w (w.alloc (.cells #[.int .i8 0, .int .i64 0, .string ⟨#[]⟩] 27)) := Fut.alloc _ _
  go_enter Tryd.func10, Tryd.ntmps10
  go_wp2_with fail
  refine (fits0_any _ _).mono ?_
  rintro e w1 ⟨rfl, rfl⟩
  go_wp2
  exact bodyPost_ret (v := pairV noV false) (by simp [results, Tryd.results10, go_sem, pairV, noV, V.val]) rfl ⟨rfl, by first | exact hF | exact ((hF.set (Nat.le_refl _) _).set (Nat.le_refl _) _).set (Nat.le_refl _) _⟩

theorem noFit {op : Int} {xs : List V} (h : arithV op xs = (noV, false)) : pairR (arithV op xs) = pairV noV false := by rw [h]; rfl
set_option maxHeartbeats 800000 in
theorem arith_all (O : Int) (a : Value) (xs : List V) (w : World) (h127 : O ≤ 127) (hT : Takes w) (ha : Vals w a xs) :
    Calls Tryd.prog 10 #[.int .i8 O, a] w fun e w' => e = .returned (pairR (arithV O xs)) ∧ Fut w w' := by
  rcases (by omega : O < 0 ∨ O = 0 ∨ O = 1 ∨ (2 ≤ O ∧ O ≤ 6) ∨ O = 7 ∨ (8 ≤ O ∧ O ≤ 10) ∨ 11 ≤ O) with h | rfl | rfl | h | rfl | h | h
  · rw [noFit (by unfold arithV; rw [if_neg (by omega), if_neg (by omega), if_neg (by omega), if_neg (by omega)])]
    exact arith_low O a w h
  · rw [noFit (by unfold arithV; rw [if_neg (by omega), if_neg (by omega), if_neg (by omega), if_neg (by omega)])]
    exact arith_zero a w hT
  · cases hx : fitsV 1 1 xs with
    | true =>
      obtain ⟨x, rfl, hg⟩ := fits_one hx
      rw [show arithV 1 [x] = (numV (wrap64 (-x.n)), true) by unfold arithV; rw [if_pos ⟨rfl, hx⟩]; rfl]
      exact arith1_any a x w hT ha hg
    | false =>
      rw [noFit (by unfold arithV; rw [if_neg (by simp [hx]), if_neg (by omega), if_neg (by omega), if_neg (by omega)])]
      exact arith_no1 1 a xs w (by omega) (by omega) (fun o => (Fut.alloc w o).cell (hT 1 (by omega))) ha hx
  · cases hx : fitsV 2 1 xs with
    | true =>
      obtain ⟨x, y, rfl, hg, hg'⟩ := fits_two hx
      rw [show arithV O [x, y] = numsV O x.n y.n by unfold arithV; rw [if_neg (by omega), if_pos ⟨h, hx⟩]; rfl]
      rcases (by omega : O = 2 ∨ O = 3 ∨ O = 4 ∨ O = 5 ∨ O = 6) with rfl | rfl | rfl | rfl | rfl
      · exact arith2_any a x y w hT ha hg hg'
      · exact arith3_any a x y w hT ha hg hg'
      · exact arith4_any a x y w hT ha hg hg'
      · by_cases h0 : y.n = 0
        · rw [show numsV 5 x.n y.n = (noV, false) by simp [numsV, h0]]
          exact arith5n_any a x y w hT ha hg hg' h0
        · rw [show numsV 5 x.n y.n = (numV (wrap64 (x.n.tdiv y.n)), true) by simp [numsV, h0]]
          exact arith5y_any a x y w hT ha hg hg' h0
      · by_cases h0 : y.n = 0
        · rw [show numsV 6 x.n y.n = (noV, false) by simp [numsV, h0]]
          exact arith6n_any a x y w hT ha hg hg' h0
        · rw [show numsV 6 x.n y.n = (numV (x.n.tmod y.n), true) by simp [numsV, h0]]
          exact arith6y_any a x y w hT ha hg hg' h0
    | false =>
      rw [noFit (by unfold arithV; rw [if_neg (by omega), if_neg (by simp [hx]), if_neg (by omega), if_neg (by omega)])]
      refine arith_no2 O a xs w (by omega) (by omega) (fun o => (Fut.alloc w o).cell ?_) ha hx
      rcases (by omega : O = 2 ∨ O = 3 ∨ O = 4 ∨ O = 5 ∨ O = 6) with rfl | rfl | rfl | rfl | rfl
      · exact hT 2 (by omega)
      · exact hT 3 (by omega)
      · exact hT 4 (by omega)
      · exact hT 5 (by omega)
      · exact hT 6 (by omega)
  · cases hx : fitsV 2 2 xs with
    | true =>
      obtain ⟨x, y, rfl, hg, hg'⟩ := fits_two hx
      rw [show arithV 7 [x, y] = catV x.s y.s by unfold arithV; rw [if_neg (by omega), if_neg (by omega), if_pos ⟨rfl, hx⟩]; rfl]
      have h1 := (good_text hg).2
      have h2 := (good_text hg').2
      by_cases h0 : (x.s ++ y.s).size ≤ 200
      · rw [show catV x.s y.s = (txtV (x.s ++ y.s), true) by unfold catV; rw [if_pos h0]]
        exact arith7y_any a x y w hT ha hg hg' (by omega) h0
      · rw [show catV x.s y.s = (noV, false) by unfold catV; rw [if_neg h0]]
        exact arith7n_any a x y w hT ha hg hg' (by omega) h0
    | false =>
      rw [noFit (by unfold arithV; rw [if_neg (by omega), if_neg (by omega), if_neg (by simp [hx]), if_neg (by omega)])]
      exact arith_no4 7 a xs w (by omega) (by omega) (fun o => (Fut.alloc w o).cell (hT 7 (by omega))) ha hx
  · cases hx : fitsV 1 2 xs with
    | true =>
      obtain ⟨x, rfl, hg⟩ := fits_one hx
      rw [show arithV O [x] = textsV O x.s by unfold arithV; rw [if_neg (by omega), if_neg (by omega), if_neg (by omega), if_pos ⟨h, hx⟩]; rfl]
      obtain ⟨h1, h2⟩ := good_text hg
      rw [h1] at ha hg
      rcases (by omega : O = 8 ∨ O = 9 ∨ O = 10) with rfl | rfl | rfl
      · exact arith8_t a x.s w hT ha h2
      · exact arith9_t a x.s w hT ha h2
      · exact arith10_any a x.s w hT ha h2 hg
    | false =>
      rw [noFit (by unfold arithV; rw [if_neg (by omega), if_neg (by omega), if_neg (by omega), if_neg (by simp [hx])])]
      refine arith_no3 O a xs w (by omega) (by omega) (fun o => (Fut.alloc w o).cell ?_) ha hx
      rcases (by omega : O = 8 ∨ O = 9 ∨ O = 10) with rfl | rfl | rfl
      · exact hT 8 (by omega)
      · exact hT 9 (by omega)
      · exact hT 10 (by omega)
  · rw [noFit (by unfold arithV; rw [if_neg (by omega), if_neg (by omega), if_neg (by omega), if_neg (by omega)])]
    exact arith_high O a w h h127
end Go.Proofs.YtlihkmldclocoaaDoor
