/- Cmp -/
import Derived.Test.YtkdnplebgmmclaaDoorRows
import Derived.WalkKit
import Derived.WalkSpells
import Derived.WalkLawsBesides
import Derived.ProofKit
import Derived.Lib.Hide
import Derived.Deep.RegionWith
import Derived.Test.YtkdnplebgmmclaaDoorC03
/- Comparisons: cmp.Compare, cmp.Or, value.Compare, the reference's Compare; value.Holds, the reference's Holds. -/
namespace Go.Proofs.YtkdnplebgmmclaaDoor
open Go.RowKit
set_option linter.unusedSimpArgs false
set_option linter.unusedVariables false

theorem cellsV : Tryd.prog.cellsOf 52 = 3 := by kernel_rfl
theorem bytesV : Tryd.prog.bytesOf 52 = 32 := by kernel_rfl
/-- What an api.Value reads as; a list of them. -/
theorem rV : Reads Tryd.prog 52 RV := reads_V Tryd.underlying52 (by kernel_rfl) Tryd.underlying50 Tryd.underlying2 Tryd.underlying9 rfl rfl rfl (by kernel_rfl) (by kernel_rfl) (by kernel_rfl)
theorem rVs : Reads Tryd.prog 29 (SlR 3 4398046510976 RV) := reads_slice Tryd.underlying29 cellsV (by omega) (fun c h => by rw [bytesV] at h; unfold reachBytes at h; omega) rV

/-- What a Check answers. -/
def chk (k n : Int) (s : ByteArray) : Int := if (k == 1) = true ∧ s.toList.isEmpty = true then 0 else if (k == 2) = true ∧ n = 0 ∧ s.size ≤ 200 then 0 else 10

set_option maxHeartbeats 400000 in
theorem check_any (k n : Int) (s : ByteArray) (w : World) (hs : s.size ≤ 140737488351232) :
    Calls Tryd.prog 27 #[.agg #[.int .i8 k, .int .i64 n, .string s]] w fun e w' => e = .returned (.int .i64 (chk k n s)) ∧ Fut w w' := by
  go_enter Tryd.func27, Tryd.ntmps27
  go_wp2
  all_goals go_ret
  all_goals refine ⟨?_, Fut.alloc _ _⟩
  all_goals (congr 2; unfold chk)
  all_goals simp_all
  all_goals omega
set_option maxHeartbeats 400000 in
theorem rcheck_any (k n : Int) (s : ByteArray) (w : World) (hs : s.size ≤ 140737488351232) :
    Calls Tryd.prog 26 #[.agg #[.int .i8 k, .int .i64 n, .string s]] w fun e w' => e = .returned (.int .i64 (chk k n s)) ∧ Fut w w' := by
  go_enter Tryd.func26, Tryd.ntmps26
  go_wp2
  all_goals go_ret
  all_goals refine ⟨?_, Fut.alloc _ _⟩
  all_goals (congr 2; unfold chk)
  all_goals simp_all
  all_goals omega


set_option maxHeartbeats 400000 in
theorem cmpKind_any (a b : Int) (w : World) : Calls Tryd.prog 83 #[.int .i8 a, .int .i8 b] w fun e w' => e = .returned (.int .i64 (cmpI a b)) ∧ w' = w := by
  rcases Int.lt_trichotomy a b with h | h | h
  · go_enter Tryd.func83, Tryd.ntmps83
    go_wp2
    go_ret
    exact ⟨by unfold cmpI; rw [if_pos h]; rfl, rfl⟩
  · subst h
    go_enter Tryd.func83, Tryd.ntmps83
    go_wp2
    go_ret
    exact ⟨by unfold cmpI; rw [if_neg (by omega), if_neg (by omega)]; rfl, rfl⟩
  · go_enter Tryd.func83, Tryd.ntmps83
    go_wp2
    go_ret
    exact ⟨by unfold cmpI; rw [if_neg (by omega), if_pos h]; rfl, rfl⟩
set_option maxHeartbeats 400000 in
theorem cmpI64_any (a b : Int) (w : World) : Calls Tryd.prog 84 #[.int .i64 a, .int .i64 b] w fun e w' => e = .returned (.int .i64 (cmpI a b)) ∧ w' = w := by
  rcases Int.lt_trichotomy a b with h | h | h
  · go_enter Tryd.func84, Tryd.ntmps84
    go_wp2
    go_ret
    exact ⟨by unfold cmpI; rw [if_pos h]; rfl, rfl⟩
  · subst h
    go_enter Tryd.func84, Tryd.ntmps84
    go_wp2
    go_ret
    exact ⟨by unfold cmpI; rw [if_neg (by omega), if_neg (by omega)]; rfl, rfl⟩
  · go_enter Tryd.func84, Tryd.ntmps84
    go_wp2
    go_ret
    exact ⟨by unfold cmpI; rw [if_neg (by omega), if_pos h]; rfl, rfl⟩

def firstNZ : List Int → Int
  | [] => 0
  | a :: r => if a ≠ 0 then a else firstNZ r
theorem firstNZ_drop (xs : List Int) (k : Nat) (h : ∀ i, i < k → xs.getD i 0 = 0) : firstNZ xs = firstNZ (xs.drop k) := by
  induction k generalizing xs with
  | zero => rfl
  | succ k ih =>
    cases xs with
    | nil => rfl
    | cons a r =>
      have h0 : a = 0 := by simpa using h 0 (by omega)
      rw [firstNZ, if_neg (by simpa using h0), List.drop_succ_cons]
      exact ih r fun i hi => by simpa using h (i + 1) (by omega)

set_option maxHeartbeats 400000 in
theorem or_any (v : Value) (xs : List Int) (w : World) (h : SlRep 1 17592186044416 RI w v xs) : Calls Tryd.prog 45 #[v] w fun e w' => e = .returned (.int .i64 (firstNZ xs)) ∧ w' = w := by
  obtain ⟨A, cap, rfl, hl, hm, hx⟩ := h
  go_enter Tryd.func45, Tryd.ntmps45
  go_wp2
  go_loop [8] (fun i => ∃ k : Nat, k ≤ xs.length ∧ i = .int .i64 k ∧ Hid (∀ i, i < k → xs.getD i 0 = 0)) (fun i => xs.length - (intOf i).toNat)
  case atStart => exact ⟨0, Nat.zero_le _, rfl, fun i hi => absurd hi (by omega)⟩
  case round =>
    obtain ⟨k, hk, rfl, hz⟩ := hrel
    by_cases hlt : k < xs.length
    · obtain ⟨b, off, cs, rfl, hcl, hc, rfl⟩ := hx k xs[k] (List.getElem?_eq_getElem hlt)
      have hcell := hc 0 _ rfl
      simp only [Nat.mul_one, Nat.add_zero] at hcell
      clear hc hx
      by_cases h0 : xs[k] = 0
      · have H0 := Lib.hid h0
        have h0' : (xs[k] != 0) = false := by simpa using h0
        clear h0
        go_wp2
        go_round
        case rel => exact ⟨k + 1, by omega, by go_num, fun i hi => by
          rcases Nat.lt_or_ge i k with h' | h'
          · exact hz.out i h'
          · obtain rfl : i = k := by omega
            simpa [List.getD, hlt] using H0.out⟩
        case measure => simp [intOf]; omega
      · have h0' : (xs[k] != 0) = true := by simpa using h0
        have H0 := Lib.hid h0
        clear h0
        go_wp2
        go_ret
        refine ⟨?_, rfl⟩
        rw [firstNZ_drop xs k hz.out, List.drop_eq_getElem_cons hlt, firstNZ, if_pos H0.out]
        rfl
    · obtain rfl : k = xs.length := by omega
      go_wp2
      go_ret
      refine ⟨?_, rfl⟩
      rw [firstNZ_drop xs _ hz.out, List.drop_length]; rfl

/-! ### The order of values -/
theorem cmpBytes_swap : ∀ a b : List UInt8, Lib.compareBytes b a = - Lib.compareBytes a b
  | [], [] => rfl
  | [], _ :: _ => rfl
  | _ :: _, [] => rfl
  | a :: r, b :: q => by
    simp only [Lib.compareBytes]
    by_cases h1 : a < b
    · have h2 : ¬ b < a := UInt8.not_lt.2 (UInt8.le_of_lt h1)
      simp [h1, h2]
    · by_cases h2 : b < a
      · simp [h1, h2]
      · simp only [h1, h2, if_false]; exact cmpBytes_swap r q
theorem cmpBytes_less : ∀ a b : List UInt8, Op.bytesLess a b = decide (Lib.compareBytes a b < 0)
  | [], [] => rfl
  | [], _ :: _ => rfl
  | _ :: _, [] => rfl
  | a :: r, b :: q => by
    simp only [Lib.compareBytes, Op.bytesLess]
    by_cases h1 : a < b
    · simp [h1]
    · by_cases h2 : b < a
      · have hne : ¬ a = b := fun e => by subst e; exact absurd h2 (UInt8.lt_irrefl _)
        simp [h1, h2, hne]
      · have he : a = b := UInt8.le_antisymm (UInt8.not_lt.1 h2) (UInt8.not_lt.1 h1)
        subst he
        simp [h1, cmpBytes_less r q]
theorem cmpBytes_zero : ∀ a b : List UInt8, Lib.compareBytes a b = 0 ↔ a = b
  | [], [] => by simp [Lib.compareBytes]
  | [], _ :: _ => by simp [Lib.compareBytes]
  | _ :: _, [] => by simp [Lib.compareBytes]
  | a :: r, b :: q => by
    simp only [Lib.compareBytes]
    by_cases h1 : a < b
    · have hne : ¬ a = b := fun e => by subst e; exact absurd h1 (UInt8.lt_irrefl _)
      simp [h1, hne]
    · by_cases h2 : b < a
      · have hne : ¬ a = b := fun e => by subst e; exact absurd h2 (UInt8.lt_irrefl _)
        simp [h1, h2, hne]
      · have he : a = b := UInt8.le_antisymm (UInt8.not_lt.1 h2) (UInt8.not_lt.1 h1)
        subst he
        simp [h1, cmpBytes_zero r q]
theorem cmpBytes_range : ∀ a b : List UInt8, Lib.compareBytes a b = -1 ∨ Lib.compareBytes a b = 0 ∨ Lib.compareBytes a b = 1
  | [], [] => by simp [Lib.compareBytes]
  | [], _ :: _ => by simp [Lib.compareBytes]
  | _ :: _, [] => by simp [Lib.compareBytes]
  | a :: r, b :: q => by
    simp only [Lib.compareBytes]
    by_cases h1 : a < b
    · simp [h1]
    · by_cases h2 : b < a
      · simp [h1, h2]
      · simp only [h1, h2, if_false]; exact cmpBytes_range r q

theorem bytesLess_irrefl (a : List UInt8) : Op.bytesLess a a = false := by rw [cmpBytes_less, (cmpBytes_zero a a).2 rfl]; rfl
def cmpS (a b : ByteArray) : Int := Lib.compareBytes a.data.toList b.data.toList
def cmpV (x y : V) : Int := firstNZ [cmpI x.k y.k, cmpI x.n y.n, cmpS x.s y.s]

set_option maxHeartbeats 400000 in
theorem compare_any (x y : V) (w : World) :
    Calls Tryd.prog 66 #[x.val, y.val] w fun e w' => e = .returned (.int .i64 (cmpV x y)) ∧ Fut w w' := by
  obtain ⟨k, n, s⟩ := x
  obtain ⟨k', n', s'⟩ := y
  unfold V.val
  go_enter Tryd.func66, Tryd.ntmps66
  go_wp2
  refine wp_graph 18 [.d, .d, .d, .d, .d, .d, .d, .d, .d, .d, .d, .d, .d, .d, .d, .r (fun v w => SlRep 1 17592186044416 RI w v [cmpI k k', cmpI n n', cmpS s s']), .d, .d] (by kernel_rfl) (by kernel_rfl) (by kernel_rfl) ?_
  simp only [List.take_succ_cons, List.take_zero, List.drop_succ_cons, List.drop_zero, Exs]
  iterate 17 apply Exists.intro
  apply Run.valG (wanted_none rfl _)
  · intro w1 h1 hk
    have cx_0_0 : w1.cell? ⟨w.heap.size, 0, none⟩ = some (.int .i8 k) := Fut.cell h1 (by first | exact c0_0_0 | go_simp)
    have cx_0_1 : w1.cell? ⟨w.heap.size, 1, none⟩ = some (.int .i64 n) := Fut.cell h1 (by first | exact c0_0_1 | go_simp)
    have cx_0_2 : w1.cell? ⟨w.heap.size, 2, none⟩ = some (.string s) := Fut.cell h1 (by first | exact c0_0_2 | go_simp)
    have cx_1_0 : w1.cell? ⟨w.heap.size + 1, 0, none⟩ = some (.int .i8 k') := Fut.cell h1 (by first | exact c0_1_0 | go_simp)
    have cx_1_1 : w1.cell? ⟨w.heap.size + 1, 1, none⟩ = some (.int .i64 n') := Fut.cell h1 (by first | exact c0_1_1 | go_simp)
    have cx_1_2 : w1.cell? ⟨w.heap.size + 1, 2, none⟩ = some (.string s') := Fut.cell h1 (by first | exact c0_1_2 | go_simp)
    go_simp; rfl
  simp only [Act.put, List.setIfInBounds_toArray, List.set_cons_succ, List.set_cons_zero, List.nil_append, List.cons_append]
  apply Run.valG (wanted_none rfl _)
  · intro w1 h1 hk
    have cx_0_0 : w1.cell? ⟨w.heap.size, 0, none⟩ = some (.int .i8 k) := Fut.cell h1 (by first | exact c0_0_0 | go_simp)
    have cx_0_1 : w1.cell? ⟨w.heap.size, 1, none⟩ = some (.int .i64 n) := Fut.cell h1 (by first | exact c0_0_1 | go_simp)
    have cx_0_2 : w1.cell? ⟨w.heap.size, 2, none⟩ = some (.string s) := Fut.cell h1 (by first | exact c0_0_2 | go_simp)
    have cx_1_0 : w1.cell? ⟨w.heap.size + 1, 0, none⟩ = some (.int .i8 k') := Fut.cell h1 (by first | exact c0_1_0 | go_simp)
    have cx_1_1 : w1.cell? ⟨w.heap.size + 1, 1, none⟩ = some (.int .i64 n') := Fut.cell h1 (by first | exact c0_1_1 | go_simp)
    have cx_1_2 : w1.cell? ⟨w.heap.size + 1, 2, none⟩ = some (.string s') := Fut.cell h1 (by first | exact c0_1_2 | go_simp)
    go_simp; rfl
  simp only [Act.put, List.setIfInBounds_toArray, List.set_cons_succ, List.set_cons_zero, List.nil_append, List.cons_append]
  apply Run.valG (wanted_none rfl _)
  · intro w1 h1 hk
    have cx_0_0 : w1.cell? ⟨w.heap.size, 0, none⟩ = some (.int .i8 k) := Fut.cell h1 (by first | exact c0_0_0 | go_simp)
    have cx_0_1 : w1.cell? ⟨w.heap.size, 1, none⟩ = some (.int .i64 n) := Fut.cell h1 (by first | exact c0_0_1 | go_simp)
    have cx_0_2 : w1.cell? ⟨w.heap.size, 2, none⟩ = some (.string s) := Fut.cell h1 (by first | exact c0_0_2 | go_simp)
    have cx_1_0 : w1.cell? ⟨w.heap.size + 1, 0, none⟩ = some (.int .i8 k') := Fut.cell h1 (by first | exact c0_1_0 | go_simp)
    have cx_1_1 : w1.cell? ⟨w.heap.size + 1, 1, none⟩ = some (.int .i64 n') := Fut.cell h1 (by first | exact c0_1_1 | go_simp)
    have cx_1_2 : w1.cell? ⟨w.heap.size + 1, 2, none⟩ = some (.string s') := Fut.cell h1 (by first | exact c0_1_2 | go_simp)
    go_simp; rfl
  simp only [Act.put, List.setIfInBounds_toArray, List.set_cons_succ, List.set_cons_zero, List.nil_append, List.cons_append]
  apply Run.valG (wanted_none rfl _)
  · intro w1 h1 hk
    have cx_0_0 : w1.cell? ⟨w.heap.size, 0, none⟩ = some (.int .i8 k) := Fut.cell h1 (by first | exact c0_0_0 | go_simp)
    have cx_0_1 : w1.cell? ⟨w.heap.size, 1, none⟩ = some (.int .i64 n) := Fut.cell h1 (by first | exact c0_0_1 | go_simp)
    have cx_0_2 : w1.cell? ⟨w.heap.size, 2, none⟩ = some (.string s) := Fut.cell h1 (by first | exact c0_0_2 | go_simp)
    have cx_1_0 : w1.cell? ⟨w.heap.size + 1, 0, none⟩ = some (.int .i8 k') := Fut.cell h1 (by first | exact c0_1_0 | go_simp)
    have cx_1_1 : w1.cell? ⟨w.heap.size + 1, 1, none⟩ = some (.int .i64 n') := Fut.cell h1 (by first | exact c0_1_1 | go_simp)
    have cx_1_2 : w1.cell? ⟨w.heap.size + 1, 2, none⟩ = some (.string s') := Fut.cell h1 (by first | exact c0_1_2 | go_simp)
    go_simp; rfl
  simp only [Act.put, List.setIfInBounds_toArray, List.set_cons_succ, List.set_cons_zero, List.nil_append, List.cons_append]
  apply Run.call (wanted_none rfl _) (fun _ _ => by go_simp; exact ⟨rfl, rfl⟩)
  · intro w1 h1 hk
    have cx_0_0 : w1.cell? ⟨w.heap.size, 0, none⟩ = some (.int .i8 k) := Fut.cell h1 (by first | exact c0_0_0 | go_simp)
    have cx_0_1 : w1.cell? ⟨w.heap.size, 1, none⟩ = some (.int .i64 n) := Fut.cell h1 (by first | exact c0_0_1 | go_simp)
    have cx_0_2 : w1.cell? ⟨w.heap.size, 2, none⟩ = some (.string s) := Fut.cell h1 (by first | exact c0_0_2 | go_simp)
    have cx_1_0 : w1.cell? ⟨w.heap.size + 1, 0, none⟩ = some (.int .i8 k') := Fut.cell h1 (by first | exact c0_1_0 | go_simp)
    have cx_1_1 : w1.cell? ⟨w.heap.size + 1, 1, none⟩ = some (.int .i64 n') := Fut.cell h1 (by first | exact c0_1_1 | go_simp)
    have cx_1_2 : w1.cell? ⟨w.heap.size + 1, 2, none⟩ = some (.string s') := Fut.cell h1 (by first | exact c0_1_2 | go_simp)
    exact (cmpKind_any _ _ _).mono fun e w' ⟨h, hw⟩ => ⟨h, hw ▸ Fut.refl _⟩
  simp only [Act.put, List.setIfInBounds_toArray, List.set_cons_succ, List.set_cons_zero, List.nil_append, List.cons_append]
  apply Run.valG (wanted_none rfl _)
  · intro w1 h1 hk
    have cx_0_0 : w1.cell? ⟨w.heap.size, 0, none⟩ = some (.int .i8 k) := Fut.cell h1 (by first | exact c0_0_0 | go_simp)
    have cx_0_1 : w1.cell? ⟨w.heap.size, 1, none⟩ = some (.int .i64 n) := Fut.cell h1 (by first | exact c0_0_1 | go_simp)
    have cx_0_2 : w1.cell? ⟨w.heap.size, 2, none⟩ = some (.string s) := Fut.cell h1 (by first | exact c0_0_2 | go_simp)
    have cx_1_0 : w1.cell? ⟨w.heap.size + 1, 0, none⟩ = some (.int .i8 k') := Fut.cell h1 (by first | exact c0_1_0 | go_simp)
    have cx_1_1 : w1.cell? ⟨w.heap.size + 1, 1, none⟩ = some (.int .i64 n') := Fut.cell h1 (by first | exact c0_1_1 | go_simp)
    have cx_1_2 : w1.cell? ⟨w.heap.size + 1, 2, none⟩ = some (.string s') := Fut.cell h1 (by first | exact c0_1_2 | go_simp)
    go_simp; rfl
  simp only [Act.put, List.setIfInBounds_toArray, List.set_cons_succ, List.set_cons_zero, List.nil_append, List.cons_append]
  apply Run.valG (wanted_none rfl _)
  · intro w1 h1 hk
    have cx_0_0 : w1.cell? ⟨w.heap.size, 0, none⟩ = some (.int .i8 k) := Fut.cell h1 (by first | exact c0_0_0 | go_simp)
    have cx_0_1 : w1.cell? ⟨w.heap.size, 1, none⟩ = some (.int .i64 n) := Fut.cell h1 (by first | exact c0_0_1 | go_simp)
    have cx_0_2 : w1.cell? ⟨w.heap.size, 2, none⟩ = some (.string s) := Fut.cell h1 (by first | exact c0_0_2 | go_simp)
    have cx_1_0 : w1.cell? ⟨w.heap.size + 1, 0, none⟩ = some (.int .i8 k') := Fut.cell h1 (by first | exact c0_1_0 | go_simp)
    have cx_1_1 : w1.cell? ⟨w.heap.size + 1, 1, none⟩ = some (.int .i64 n') := Fut.cell h1 (by first | exact c0_1_1 | go_simp)
    have cx_1_2 : w1.cell? ⟨w.heap.size + 1, 2, none⟩ = some (.string s') := Fut.cell h1 (by first | exact c0_1_2 | go_simp)
    go_simp; rfl
  simp only [Act.put, List.setIfInBounds_toArray, List.set_cons_succ, List.set_cons_zero, List.nil_append, List.cons_append]
  apply Run.valG (wanted_none rfl _)
  · intro w1 h1 hk
    have cx_0_0 : w1.cell? ⟨w.heap.size, 0, none⟩ = some (.int .i8 k) := Fut.cell h1 (by first | exact c0_0_0 | go_simp)
    have cx_0_1 : w1.cell? ⟨w.heap.size, 1, none⟩ = some (.int .i64 n) := Fut.cell h1 (by first | exact c0_0_1 | go_simp)
    have cx_0_2 : w1.cell? ⟨w.heap.size, 2, none⟩ = some (.string s) := Fut.cell h1 (by first | exact c0_0_2 | go_simp)
    have cx_1_0 : w1.cell? ⟨w.heap.size + 1, 0, none⟩ = some (.int .i8 k') := Fut.cell h1 (by first | exact c0_1_0 | go_simp)
    have cx_1_1 : w1.cell? ⟨w.heap.size + 1, 1, none⟩ = some (.int .i64 n') := Fut.cell h1 (by first | exact c0_1_1 | go_simp)
    have cx_1_2 : w1.cell? ⟨w.heap.size + 1, 2, none⟩ = some (.string s') := Fut.cell h1 (by first | exact c0_1_2 | go_simp)
    go_simp; rfl
  simp only [Act.put, List.setIfInBounds_toArray, List.set_cons_succ, List.set_cons_zero, List.nil_append, List.cons_append]
  apply Run.valG (wanted_none rfl _)
  · intro w1 h1 hk
    have cx_0_0 : w1.cell? ⟨w.heap.size, 0, none⟩ = some (.int .i8 k) := Fut.cell h1 (by first | exact c0_0_0 | go_simp)
    have cx_0_1 : w1.cell? ⟨w.heap.size, 1, none⟩ = some (.int .i64 n) := Fut.cell h1 (by first | exact c0_0_1 | go_simp)
    have cx_0_2 : w1.cell? ⟨w.heap.size, 2, none⟩ = some (.string s) := Fut.cell h1 (by first | exact c0_0_2 | go_simp)
    have cx_1_0 : w1.cell? ⟨w.heap.size + 1, 0, none⟩ = some (.int .i8 k') := Fut.cell h1 (by first | exact c0_1_0 | go_simp)
    have cx_1_1 : w1.cell? ⟨w.heap.size + 1, 1, none⟩ = some (.int .i64 n') := Fut.cell h1 (by first | exact c0_1_1 | go_simp)
    have cx_1_2 : w1.cell? ⟨w.heap.size + 1, 2, none⟩ = some (.string s') := Fut.cell h1 (by first | exact c0_1_2 | go_simp)
    go_simp; rfl
  simp only [Act.put, List.setIfInBounds_toArray, List.set_cons_succ, List.set_cons_zero, List.nil_append, List.cons_append]
  apply Run.call (wanted_none rfl _) (fun _ _ => by go_simp; exact ⟨rfl, rfl⟩)
  · intro w1 h1 hk
    have cx_0_0 : w1.cell? ⟨w.heap.size, 0, none⟩ = some (.int .i8 k) := Fut.cell h1 (by first | exact c0_0_0 | go_simp)
    have cx_0_1 : w1.cell? ⟨w.heap.size, 1, none⟩ = some (.int .i64 n) := Fut.cell h1 (by first | exact c0_0_1 | go_simp)
    have cx_0_2 : w1.cell? ⟨w.heap.size, 2, none⟩ = some (.string s) := Fut.cell h1 (by first | exact c0_0_2 | go_simp)
    have cx_1_0 : w1.cell? ⟨w.heap.size + 1, 0, none⟩ = some (.int .i8 k') := Fut.cell h1 (by first | exact c0_1_0 | go_simp)
    have cx_1_1 : w1.cell? ⟨w.heap.size + 1, 1, none⟩ = some (.int .i64 n') := Fut.cell h1 (by first | exact c0_1_1 | go_simp)
    have cx_1_2 : w1.cell? ⟨w.heap.size + 1, 2, none⟩ = some (.string s') := Fut.cell h1 (by first | exact c0_1_2 | go_simp)
    exact (cmpI64_any _ _ _).mono fun e w' ⟨h, hw⟩ => ⟨h, hw ▸ Fut.refl _⟩
  simp only [Act.put, List.setIfInBounds_toArray, List.set_cons_succ, List.set_cons_zero, List.nil_append, List.cons_append]
  apply Run.valG (wanted_none rfl _)
  · intro w1 h1 hk
    have cx_0_0 : w1.cell? ⟨w.heap.size, 0, none⟩ = some (.int .i8 k) := Fut.cell h1 (by first | exact c0_0_0 | go_simp)
    have cx_0_1 : w1.cell? ⟨w.heap.size, 1, none⟩ = some (.int .i64 n) := Fut.cell h1 (by first | exact c0_0_1 | go_simp)
    have cx_0_2 : w1.cell? ⟨w.heap.size, 2, none⟩ = some (.string s) := Fut.cell h1 (by first | exact c0_0_2 | go_simp)
    have cx_1_0 : w1.cell? ⟨w.heap.size + 1, 0, none⟩ = some (.int .i8 k') := Fut.cell h1 (by first | exact c0_1_0 | go_simp)
    have cx_1_1 : w1.cell? ⟨w.heap.size + 1, 1, none⟩ = some (.int .i64 n') := Fut.cell h1 (by first | exact c0_1_1 | go_simp)
    have cx_1_2 : w1.cell? ⟨w.heap.size + 1, 2, none⟩ = some (.string s') := Fut.cell h1 (by first | exact c0_1_2 | go_simp)
    go_simp; rfl
  simp only [Act.put, List.setIfInBounds_toArray, List.set_cons_succ, List.set_cons_zero, List.nil_append, List.cons_append]
  apply Run.valG (wanted_none rfl _)
  · intro w1 h1 hk
    have cx_0_0 : w1.cell? ⟨w.heap.size, 0, none⟩ = some (.int .i8 k) := Fut.cell h1 (by first | exact c0_0_0 | go_simp)
    have cx_0_1 : w1.cell? ⟨w.heap.size, 1, none⟩ = some (.int .i64 n) := Fut.cell h1 (by first | exact c0_0_1 | go_simp)
    have cx_0_2 : w1.cell? ⟨w.heap.size, 2, none⟩ = some (.string s) := Fut.cell h1 (by first | exact c0_0_2 | go_simp)
    have cx_1_0 : w1.cell? ⟨w.heap.size + 1, 0, none⟩ = some (.int .i8 k') := Fut.cell h1 (by first | exact c0_1_0 | go_simp)
    have cx_1_1 : w1.cell? ⟨w.heap.size + 1, 1, none⟩ = some (.int .i64 n') := Fut.cell h1 (by first | exact c0_1_1 | go_simp)
    have cx_1_2 : w1.cell? ⟨w.heap.size + 1, 2, none⟩ = some (.string s') := Fut.cell h1 (by first | exact c0_1_2 | go_simp)
    go_simp; rfl
  simp only [Act.put, List.setIfInBounds_toArray, List.set_cons_succ, List.set_cons_zero, List.nil_append, List.cons_append]
  apply Run.valG (wanted_none rfl _)
  · intro w1 h1 hk
    have cx_0_0 : w1.cell? ⟨w.heap.size, 0, none⟩ = some (.int .i8 k) := Fut.cell h1 (by first | exact c0_0_0 | go_simp)
    have cx_0_1 : w1.cell? ⟨w.heap.size, 1, none⟩ = some (.int .i64 n) := Fut.cell h1 (by first | exact c0_0_1 | go_simp)
    have cx_0_2 : w1.cell? ⟨w.heap.size, 2, none⟩ = some (.string s) := Fut.cell h1 (by first | exact c0_0_2 | go_simp)
    have cx_1_0 : w1.cell? ⟨w.heap.size + 1, 0, none⟩ = some (.int .i8 k') := Fut.cell h1 (by first | exact c0_1_0 | go_simp)
    have cx_1_1 : w1.cell? ⟨w.heap.size + 1, 1, none⟩ = some (.int .i64 n') := Fut.cell h1 (by first | exact c0_1_1 | go_simp)
    have cx_1_2 : w1.cell? ⟨w.heap.size + 1, 2, none⟩ = some (.string s') := Fut.cell h1 (by first | exact c0_1_2 | go_simp)
    go_simp; rfl
  simp only [Act.put, List.setIfInBounds_toArray, List.set_cons_succ, List.set_cons_zero, List.nil_append, List.cons_append]
  apply Run.valG (wanted_none rfl _)
  · intro w1 h1 hk
    have cx_0_0 : w1.cell? ⟨w.heap.size, 0, none⟩ = some (.int .i8 k) := Fut.cell h1 (by first | exact c0_0_0 | go_simp)
    have cx_0_1 : w1.cell? ⟨w.heap.size, 1, none⟩ = some (.int .i64 n) := Fut.cell h1 (by first | exact c0_0_1 | go_simp)
    have cx_0_2 : w1.cell? ⟨w.heap.size, 2, none⟩ = some (.string s) := Fut.cell h1 (by first | exact c0_0_2 | go_simp)
    have cx_1_0 : w1.cell? ⟨w.heap.size + 1, 0, none⟩ = some (.int .i8 k') := Fut.cell h1 (by first | exact c0_1_0 | go_simp)
    have cx_1_1 : w1.cell? ⟨w.heap.size + 1, 1, none⟩ = some (.int .i64 n') := Fut.cell h1 (by first | exact c0_1_1 | go_simp)
    have cx_1_2 : w1.cell? ⟨w.heap.size + 1, 2, none⟩ = some (.string s') := Fut.cell h1 (by first | exact c0_1_2 | go_simp)
    go_simp; rfl
  simp only [Act.put, List.setIfInBounds_toArray, List.set_cons_succ, List.set_cons_zero, List.nil_append, List.cons_append]
  apply Run.call (wanted_none rfl _) (fun _ _ => by go_simp; exact ⟨rfl, rfl⟩)
  · intro w1 h1 hk
    have cx_0_0 : w1.cell? ⟨w.heap.size, 0, none⟩ = some (.int .i8 k) := Fut.cell h1 (by first | exact c0_0_0 | go_simp)
    have cx_0_1 : w1.cell? ⟨w.heap.size, 1, none⟩ = some (.int .i64 n) := Fut.cell h1 (by first | exact c0_0_1 | go_simp)
    have cx_0_2 : w1.cell? ⟨w.heap.size, 2, none⟩ = some (.string s) := Fut.cell h1 (by first | exact c0_0_2 | go_simp)
    have cx_1_0 : w1.cell? ⟨w.heap.size + 1, 0, none⟩ = some (.int .i8 k') := Fut.cell h1 (by first | exact c0_1_0 | go_simp)
    have cx_1_1 : w1.cell? ⟨w.heap.size + 1, 1, none⟩ = some (.int .i64 n') := Fut.cell h1 (by first | exact c0_1_1 | go_simp)
    have cx_1_2 : w1.cell? ⟨w.heap.size + 1, 2, none⟩ = some (.string s') := Fut.cell h1 (by first | exact c0_1_2 | go_simp)
    exact (Tryd.strings_Compare _ _ _).mono fun e w' ⟨h, hw⟩ => ⟨h, hw ▸ Fut.refl _⟩
  simp only [Act.put, List.setIfInBounds_toArray, List.set_cons_succ, List.set_cons_zero, List.nil_append, List.cons_append]
  apply Run.valR (wanted_none rfl _) (by intro v w w' hf hs; exact hs.fut RI.stays hf)
  · intro w1 h1 hk
    have cx_0_0 : w1.cell? ⟨w.heap.size, 0, none⟩ = some (.int .i8 k) := Fut.cell h1 (by first | exact c0_0_0 | go_simp)
    have cx_0_1 : w1.cell? ⟨w.heap.size, 1, none⟩ = some (.int .i64 n) := Fut.cell h1 (by first | exact c0_0_1 | go_simp)
    have cx_0_2 : w1.cell? ⟨w.heap.size, 2, none⟩ = some (.string s) := Fut.cell h1 (by first | exact c0_0_2 | go_simp)
    have cx_1_0 : w1.cell? ⟨w.heap.size + 1, 0, none⟩ = some (.int .i8 k') := Fut.cell h1 (by first | exact c0_1_0 | go_simp)
    have cx_1_1 : w1.cell? ⟨w.heap.size + 1, 1, none⟩ = some (.int .i64 n') := Fut.cell h1 (by first | exact c0_1_1 | go_simp)
    have cx_1_2 : w1.cell? ⟨w.heap.size + 1, 2, none⟩ = some (.string s') := Fut.cell h1 (by first | exact c0_1_2 | go_simp)
    go_simp; exact ⟨_, _, ⟨rfl, rfl⟩, Fut.alloc _ _, ints_new w1 _ [cmpI k k', cmpI n n', cmpS s s'] (by simp)⟩
  intro v15
  simp only [Act.put, List.setIfInBounds_toArray, List.set_cons_succ, List.set_cons_zero, List.nil_append, List.cons_append]
  apply Run.call (wanted_none rfl _) (fun _ _ => by go_simp; exact ⟨rfl, rfl⟩)
  · intro w1 h1 hk
    have f15 := Facts.get hk 0 rfl (by kernel_rfl)
    have cx_0_0 : w1.cell? ⟨w.heap.size, 0, none⟩ = some (.int .i8 k) := Fut.cell h1 (by first | exact c0_0_0 | go_simp)
    have cx_0_1 : w1.cell? ⟨w.heap.size, 1, none⟩ = some (.int .i64 n) := Fut.cell h1 (by first | exact c0_0_1 | go_simp)
    have cx_0_2 : w1.cell? ⟨w.heap.size, 2, none⟩ = some (.string s) := Fut.cell h1 (by first | exact c0_0_2 | go_simp)
    have cx_1_0 : w1.cell? ⟨w.heap.size + 1, 0, none⟩ = some (.int .i8 k') := Fut.cell h1 (by first | exact c0_1_0 | go_simp)
    have cx_1_1 : w1.cell? ⟨w.heap.size + 1, 1, none⟩ = some (.int .i64 n') := Fut.cell h1 (by first | exact c0_1_1 | go_simp)
    have cx_1_2 : w1.cell? ⟨w.heap.size + 1, 2, none⟩ = some (.string s') := Fut.cell h1 (by first | exact c0_1_2 | go_simp)
    exact (or_any _ _ _ f15).mono fun e w' ⟨h, hw⟩ => ⟨h, hw ▸ Fut.refl _⟩
  simp only [Act.put, List.setIfInBounds_toArray, List.set_cons_succ, List.set_cons_zero, List.nil_append, List.cons_append]
  apply Run.valG (wanted_none rfl _)
  · intro w1 h1 hk
    have cx_0_0 : w1.cell? ⟨w.heap.size, 0, none⟩ = some (.int .i8 k) := Fut.cell h1 (by first | exact c0_0_0 | go_simp)
    have cx_0_1 : w1.cell? ⟨w.heap.size, 1, none⟩ = some (.int .i64 n) := Fut.cell h1 (by first | exact c0_0_1 | go_simp)
    have cx_0_2 : w1.cell? ⟨w.heap.size, 2, none⟩ = some (.string s) := Fut.cell h1 (by first | exact c0_0_2 | go_simp)
    have cx_1_0 : w1.cell? ⟨w.heap.size + 1, 0, none⟩ = some (.int .i8 k') := Fut.cell h1 (by first | exact c0_1_0 | go_simp)
    have cx_1_1 : w1.cell? ⟨w.heap.size + 1, 1, none⟩ = some (.int .i64 n') := Fut.cell h1 (by first | exact c0_1_1 | go_simp)
    have cx_1_2 : w1.cell? ⟨w.heap.size + 1, 2, none⟩ = some (.string s') := Fut.cell h1 (by first | exact c0_1_2 | go_simp)
    go_simp; rfl
  simp only [Act.put, List.setIfInBounds_toArray, List.set_cons_succ, List.set_cons_zero, List.nil_append, List.cons_append]
  apply Run.done
  intro w2 h2 hk
  have c2_0_0 : w2.cell? ⟨w.heap.size, 0, none⟩ = some (.int .i8 k) := Fut.cell h2 (by first | exact c0_0_0 | go_simp)
  have c2_0_1 : w2.cell? ⟨w.heap.size, 1, none⟩ = some (.int .i64 n) := Fut.cell h2 (by first | exact c0_0_1 | go_simp)
  have c2_0_2 : w2.cell? ⟨w.heap.size, 2, none⟩ = some (.string s) := Fut.cell h2 (by first | exact c0_0_2 | go_simp)
  have c2_1_0 : w2.cell? ⟨w.heap.size + 1, 0, none⟩ = some (.int .i8 k') := Fut.cell h2 (by first | exact c0_1_0 | go_simp)
  have c2_1_1 : w2.cell? ⟨w.heap.size + 1, 1, none⟩ = some (.int .i64 n') := Fut.cell h2 (by first | exact c0_1_1 | go_simp)
  have c2_1_2 : w2.cell? ⟨w.heap.size + 1, 2, none⟩ = some (.string s') := Fut.cell h2 (by first | exact c0_1_2 | go_simp)
  obtain ⟨f15, _⟩ := hk
  go_wp2
  go_ret
  exact ⟨rfl, ((Fut.alloc _ _).trans (Fut.alloc _ _)).trans ((Fut.drew _).trans h2)⟩


theorem cmpV_spec (k n : Int) (s : ByteArray) (k' n' : Int) (s' : ByteArray) : cmpV ⟨k, n, s⟩ ⟨k', n', s'⟩ =
    if k < k' then -1 else if k' < k then 1 else if n < n' then -1 else if n' < n then 1 else if Op.bytesLess s.toList s'.toList = true then -1 else if s.toList = s'.toList then 0 else 1 := by
  rw [cmpBytes_less, ByteArray.toList_eq, ByteArray.toList_eq]
  unfold cmpV cmpI cmpS
  simp only [decide_eq_true_eq, firstNZ]
  by_cases h1 : k < k'
  · simp [h1]
  · by_cases h2 : k' < k
    · simp [h1, h2]
    · by_cases h3 : n < n'
      · simp [h1, h2, h3]
      · by_cases h4 : n' < n
        · simp [h1, h2, h3, h4]
        · simp only [h1, h2, h3, h4, if_false, ne_eq, not_true_eq_false, ite_self]
          rcases cmpBytes_range s.data.toList s'.data.toList with h | h | h
          · simp [h]
          · rw [(cmpBytes_zero _ _).1 h]; simp [(cmpBytes_zero s'.data.toList s'.data.toList).2 rfl]
          · have hne : ¬ s.data.toList = s'.data.toList := fun e => by rw [(cmpBytes_zero _ _).2 e] at h; cases h
            simp [h, hne]
set_option maxHeartbeats 400000 in
theorem rcompare_any (x y : V) (w : World) :
    Calls Tryd.prog 52 #[x.val, y.val] w fun e w' => e = .returned (.int .i64 (cmpV x y)) ∧ Fut w w' := by
  obtain ⟨k, n, s⟩ := x
  obtain ⟨k', n', s'⟩ := y
  rw [cmpV_spec]
  unfold V.val
  go_enter Tryd.func52, Tryd.ntmps52
  go_wp2
  all_goals go_ret
  all_goals refine ⟨?_, (Fut.alloc _ _).trans (Fut.alloc _ _)⟩
  all_goals congr 2
  all_goals (repeat' split)
  all_goals first | rfl | (simp_all; done) | omega | (simp_all [bytesLess_irrefl]; done)

def holdsV (r : Int) (x y : V) : Bool :=
  chk x.k x.n x.s == 0 && chk y.k y.n y.s == 0 && (if r = 1 then cmpV x y == 0 else if r = 2 then cmpV x y != 0 else if r = 3 then decide (cmpV x y < 0) else if r = 4 then decide (cmpV x y ≤ 0) else if r = 5 then decide (cmpV x y > 0) else if r = 6 then decide (cmpV x y ≥ 0) else false)

end Go.Proofs.YtkdnplebgmmclaaDoor
