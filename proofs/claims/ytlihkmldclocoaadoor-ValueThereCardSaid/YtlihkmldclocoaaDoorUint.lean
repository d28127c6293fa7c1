/- strconv.ParseUint of two bytes, base 16. -/
import Derived.Test.YtlihkmldclocoaaDoorRead0
import Derived.Test.YtlihkmldclocoaaDoorShelfB
namespace Go.Proofs.YtlihkmldclocoaaDoor
open Go.RowKit
set_option linter.unusedSimpArgs false
set_option linter.unusedVariables false

/-- A byte with its 32 set: what it is of a hexadecimal letter, and of no digit. -/
theorem lower_at : ∀ c : Fin 256, (if 97 ≤ c.val ∧ c.val ≤ 102 then bits .or .u8 (c.val : Int) 32 = c.val else if 65 ≤ c.val ∧ c.val ≤ 70 then bits .or .u8 (c.val : Int) 32 = c.val + 32 else if 48 ≤ c.val ∧ c.val ≤ 57 then True else (0 ≤ bits .or .u8 (c.val : Int) 32 ∧ bits .or .u8 (c.val : Int) 32 < 256 ∧ (bits .or .u8 (c.val : Int) 32 < 97 ∨ 102 < bits .or .u8 (c.val : Int) 32))) := by
  decide +kernel
theorem lower_hex (c : UInt8) (x : Nat) (hd : ¬ (48 ≤ c.toNat ∧ c.toNat ≤ 57)) (h : hexv c = some x) : bits .or .u8 (c.toNat : Int) 32 = (x : Int) + 87 ∧ 10 ≤ x ∧ x ≤ 15 := by
  have := lower_at ⟨c.toNat, c.toNat_lt⟩
  simp only at this
  unfold hexv at h
  rw [if_neg hd] at h
  by_cases h1 : 97 ≤ c.toNat ∧ c.toNat ≤ 102
  · rw [if_pos h1] at h this
    injection h with h
    rw [this]; omega
  · rw [if_neg h1] at h this
    by_cases h2 : 65 ≤ c.toNat ∧ c.toNat ≤ 70
    · rw [if_pos h2] at h this
      injection h with h
      rw [this]; omega
    · rw [if_neg h2] at h; cases h
theorem lower_not (c : UInt8) (h : hexv c = none) : ¬ (48 ≤ c.toNat ∧ c.toNat ≤ 57) ∧ 0 ≤ bits .or .u8 (c.toNat : Int) 32 ∧ bits .or .u8 (c.toNat : Int) 32 < 256 ∧ (bits .or .u8 (c.toNat : Int) 32 < 97 ∨ 102 < bits .or .u8 (c.toNat : Int) 32) := by
  have := lower_at ⟨c.toNat, c.toNat_lt⟩
  simp only at this
  unfold hexv at h
  by_cases h0 : 48 ≤ c.toNat ∧ c.toNat ≤ 57
  · rw [if_pos h0] at h; cases h
  · rw [if_neg h0] at h
    by_cases h1 : 97 ≤ c.toNat ∧ c.toNat ≤ 102
    · rw [if_pos h1] at h; cases h
    · rw [if_neg h1] at h this
      by_cases h2 : 65 ≤ c.toNat ∧ c.toNat ≤ 70
      · rw [if_pos h2] at h; cases h
      · rw [if_neg h2, if_neg h0] at this
        exact ⟨h0, this⟩
theorem hexv_le (c : UInt8) (x : Nat) (h : hexv c = some x) : x ≤ 15 := by
  unfold hexv at h
  (repeat' split at h) <;> first | (injection h with h; omega) | cases h

set_option maxHeartbeats 4000000 in
set_option maxRecDepth 100000 in
theorem iuint_any (t : ByteArray) (w : World) (h2 : t.size = 2) :
    Calls Tryd.prog 99 #[.string t, .int .i64 16, .int .i64 8] w fun e w' =>
      ((∃ x y, hexv (t[0]'(by omega)) = some x ∧ hexv (t[1]'(by omega)) = some y ∧ e = .returned (.tuple #[.int .u64 (16 * x + y : Nat), .nilIface])) ∨ ((hexv (t[0]'(by omega)) = none ∨ hexv (t[1]'(by omega)) = none) ∧ e = .returned (.tuple #[.int .u64 0, .iface 121 (.int .i64 2)]))) ∧ Fut w w' := by
  have kc := fun w => run_bytes_of_string (P := Tryd.prog) w 9 93 5 t Tryd.underlying9 Tryd.underlying93 Tryd.underlying5
  have hne : (t.toList == []) = false := by
    rw [ByteArray.toList_eq, beq_eq_false_iff_ne]
    intro e
    have h0 : t.size = 0 := by rw [Lib.size_eq, e]; rfl
    omega
  have hz : (t.size : Int) = 2 := by omega
  go_enter Tryd.func99, Tryd.ntmps99
  have hcell : Hid (∀ cap fr k (hk : k < t.size), (w.alloc (.cells (bytesRow t cap) 5 fr)).cell? ⟨w.heap.size, k, none⟩ = some (.int .u8 (t[k]).toNat)) :=
    Lib.hid fun cap fr k hk => (World.cell?_alloc_mark _ _ _ _ _).trans (bytesRow_at t cap k hk)
  have hF := Lib.hid (fun o => (Fut.alloc w o).trans (Fut.drew _))
  go_wp2
  go_loop [12, 13, 101] (fun u n i => ∃ k z : Nat, i = .int .i64 k ∧ n = .int .u64 z ∧ u = .bool false ∧ k ≤ 2 ∧ z ≤ 255 ∧ Hid ((k = 0 → z = 0) ∧ (k = 1 → hexv (t[0]'(by omega)) = some z ∧ z ≤ 15) ∧ (k = 2 → ∃ x y, hexv (t[0]'(by omega)) = some x ∧ hexv (t[1]'(by omega)) = some y ∧ z = 16 * x + y))) (fun _ _ i => 2 - (intOf i).toNat)
  case atStart => exact ⟨0, 0, rfl, rfl, rfl, by omega, by omega, Lib.hid ⟨fun _ => rfl, fun h => by omega, fun h => by omega⟩⟩
  case round =>
    obtain ⟨k, z, rfl, rfl, rfl, hk, hz255, hinv⟩ := hrel
    by_cases hlt : k < 2
    · have hkt : k < t.size := by omega
      have x0 := fun cap fr => hcell.out cap fr k hkt
      have hb := (t[k]).toNat_lt
      have i1 : (k : Int) < 2 := by omega
      have hz15 : z ≤ 15 := by
        have := hinv.out
        rcases (by omega : k = 0 ∨ k = 1) with rfl | rfl
        · have := this.1 rfl; omega
        · exact (this.2.1 rfl).2
      have g1 : ¬ (1152921504606846976 : Int) ≤ z := by omega
      have g2 : ¬ (1152921504606846976 : Nat) ≤ z := by omega
      have g3 : decide ((1152921504606846976 : Int) ≤ z) = false := decide_eq_false g1
      have g4 : decide ((1152921504606846976 : Nat) ≤ z) = false := decide_eq_false g2
      cases hv : hexv t[k] with
      | some v =>
        have hv15 := hexv_le _ _ hv
        have hnew : Hid ((k + 1 = 0 → 16 * z + v = 0) ∧ (k + 1 = 1 → hexv (t[0]'(by omega)) = some (16 * z + v) ∧ 16 * z + v ≤ 15) ∧ (k + 1 = 2 → ∃ x y, hexv (t[0]'(by omega)) = some x ∧ hexv (t[1]'(by omega)) = some y ∧ 16 * z + v = 16 * x + y)) := Lib.hid (by
          have h := hinv.out
          rcases (by omega : k = 0 ∨ k = 1) with rfl | rfl
          · have e := h.1 rfl
            subst e
            exact ⟨fun h => by omega, fun _ => by simpa using ⟨hv, hv15⟩, fun h => by omega⟩
          · exact ⟨fun h => by omega, fun h => by omega, fun _ => ⟨z, v, (h.2.1 rfl).1, hv, rfl⟩⟩)
        by_cases hd : 48 ≤ (t[k]).toNat ∧ (t[k]).toNat ≤ 57
        · have hvv : v = (t[k]).toNat - 48 := by
            unfold hexv at hv
            rw [if_pos hd] at hv
            injection hv with hv; omega
          have j1 : (48 : Int) ≤ (t[k]).toNat := by omega
          have j2 : ((t[k]).toNat : Int) ≤ 57 := by omega
          have j3 : (((t[k]).toNat : Int) == 95) = false := by simp; omega
          have hcv : (t[k]).toNat = v + 48 := by omega
          have v9 : v ≤ 9 := by omega
          have v9' : (v : Int) ≤ 9 := by omega
          clear hv hinv hvv hd j1 j2 j3
          rw [hcv] at x0
          clear hcv hb
          have j3 : ((v : Int) + 48 == 95) = false := by simp; omega
          have j1 : (48 : Int) ≤ (v : Int) + 48 := by omega
          have j2 : (v : Int) + 48 ≤ 57 := by omega
          simp only [Int.natCast_add, Int.cast_ofNat_Int] at x0
          go_wp2
          exact ⟨⟨k + 1, 16 * z + v, by go_num, by go_num, rfl, by omega, by omega, hnew⟩, by simp [intOf]; omega⟩
        · obtain ⟨hlo, hv1, _⟩ := lower_hex _ _ hd hv
          have hL := Lib.hid (fun w => Tryd.internal_strconv_lower ((t[k]).toNat : Int) w)
          obtain ⟨L, hLv⟩ : ∃ L : Int, L = (v : Int) + 87 := ⟨_, rfl⟩
          obtain ⟨m, hm⟩ : ∃ m : Int, m = L - 97 := ⟨_, rfl⟩
          rw [← hLv] at hlo
          have j3 : (((t[k]).toNat : Int) == 95) = false := by
            simp; intro e
            have e' : (t[k]).toNat = 95 := by omega
            unfold hexv at hv; rw [e'] at hv; simp at hv
          have j4 : 97 ≤ L := by omega
          have j5 : L ≤ 122 := by omega
          have f1 : L - 97 = m := hm.symm
          have f2 : m + 10 = (v : Int) := by omega
          have f3 : 0 ≤ m := by omega
          have f4 : m ≤ 5 := by omega
          have f5 : (v : Int) ≤ 15 := by omega
          have hd' : ¬ (48 : Int) ≤ (t[k]).toNat ∨ ¬ ((t[k]).toNat : Int) ≤ 57 := by omega
          have HS := Lib.hid (And.intro hb (And.intro hz15 (And.intro hv15 hz255)))
          clear hv hinv hd hm hLv hv1 hL
          generalize (t[k]).toNat = c at *
          rcases hd' with hd' | hd'
          all_goals
            go_wp2_with go_in
            exact ⟨⟨k + 1, 16 * z + v, by go_num, by go_num, rfl, by omega, by omega, hnew⟩, by simp [intOf]; omega⟩
      | none =>
        obtain ⟨hnd, q1, q2, q3⟩ := lower_not _ hv
        have hpost : Hid (hexv (t[0]'(by omega)) = none ∨ hexv (t[1]'(by omega)) = none) := Lib.hid (by
          rcases (by omega : k = 0 ∨ k = 1) with rfl | rfl
          · exact .inl hv
          · exact .inr hv)
        obtain ⟨L, hlo⟩ : ∃ L, bits .or .u8 ((t[k]).toNat : Int) 32 = L := ⟨_, rfl⟩
        rw [hlo] at q1 q2 q3
        by_cases c95 : (t[k]).toNat = 95
        · have h127 : L = 127 := by rw [← hlo, c95]; decide
          subst h127
          rw [c95] at x0 hlo
          clear hv hinv hnd c95 hb q1 q2 q3
          go_wp2_with go_in
          (exact bodyPost_ret (v := .tuple #[.int .u64 0, .iface 121 (.int .i64 2)]) (by simp [results, Tryd.results99, go_sem]) rfl ⟨.inr ⟨hpost.out, rfl⟩, hF.out _⟩)
        · have j3 : (((t[k]).toNat : Int) == 95) = false := by simp; omega
          have hd' : ¬ (48 : Int) ≤ (t[k]).toNat ∨ ¬ ((t[k]).toNat : Int) ≤ 57 := by omega
          clear hv hinv hnd c95
          generalize (t[k]).toNat = c at *
          rcases (show L < 97 ∨ 122 < L ∨ (102 < L ∧ L ≤ 122) by omega) with hl1 | hl1 | ⟨hl1, hl2⟩
          · have j4 : ¬ 97 ≤ L := by omega
            rcases hd' with hd' | hd'
            all_goals
              go_wp2_with go_in
              (exact bodyPost_ret (v := .tuple #[.int .u64 0, .iface 121 (.int .i64 2)]) (by simp [results, Tryd.results99, go_sem]) rfl ⟨.inr ⟨hpost.out, rfl⟩, hF.out _⟩)
          · have j4 : 97 ≤ L := by omega
            have j5 : ¬ L ≤ 122 := by omega
            rcases hd' with hd' | hd'
            all_goals
              go_wp2_with go_in
              (exact bodyPost_ret (v := .tuple #[.int .u64 0, .iface 121 (.int .i64 2)]) (by simp [results, Tryd.results99, go_sem]) rfl ⟨.inr ⟨hpost.out, rfl⟩, hF.out _⟩)
          · have j4 : 97 ≤ L := by omega
            obtain ⟨m, hm⟩ : ∃ m : Int, m = L - 97 := ⟨_, rfl⟩
            have f1 : L - 97 = m := hm.symm
            have f3 : 0 ≤ m := by omega
            have f4 : m ≤ 25 := by omega
            have f6 : (16 : Int) ≤ m + 10 := by omega
            clear hm
            rcases hd' with hd' | hd'
            all_goals
              go_wp2_with go_in
              (exact bodyPost_ret (v := .tuple #[.int .u64 0, .iface 121 (.int .i64 2)]) (by simp [results, Tryd.results99, go_sem]) rfl ⟨.inr ⟨hpost.out, rfl⟩, hF.out _⟩)
    · obtain rfl : k = 2 := by omega
      obtain ⟨x, y, hx, hy, hxy⟩ := hinv.out.2.2 rfl
      have HX := Lib.hid (And.intro hx (And.intro hy hxy))
      clear hx hy hxy hinv
      go_wp2
      exact bodyPost_ret (v := .tuple #[.int .u64 z, .nilIface]) (by simp [results, Tryd.results99, go_sem]) rfl ⟨.inl ⟨x, HX.out.1, y, HX.out.2.1, by rw [HX.out.2.2]; simp⟩, hF.out _⟩
end Go.Proofs.YtlihkmldclocoaaDoor
