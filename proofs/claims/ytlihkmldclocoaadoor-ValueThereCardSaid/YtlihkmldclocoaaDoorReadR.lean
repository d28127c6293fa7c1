/- The document's number, half, unquoted. -/
import Derived.Test.YtlihkmldclocoaaDoorRead0
namespace Go.Proofs.YtlihkmldclocoaaDoor
open Go.RowKit
set_option linter.unusedSimpArgs false
set_option linter.unusedVariables false

theorem getD0 (s : ByteArray) (h : 0 < s.size) : s.data.toList.getD 0 0 = s[0] := by
  have h' : 0 < s.data.size := h
  simp only [List.getD, Array.getElem?_toList, Array.getElem?_eq_getElem h']
  rfl
theorem numF_take (s : ByteArray) (k : Nat) (h : k < s.size) : numF (s.data.toList.take (k + 1)) 0 = if s[k].toNat = 45 then numF (s.data.toList.take k) 0 else wrap64 (wrap64 (wrap64 (10 * numF (s.data.toList.take k) 0) + s[k].toNat) - 48) := by
  have h' : k < s.data.size := h
  have e : s.data.toList[k]? = some s[k] := by rw [Array.getElem?_toList, Array.getElem?_eq_getElem h']; rfl
  rw [List.take_add_one, e, numF_append]
  rfl
set_option maxHeartbeats 1000000 in
theorem rnumber_any (s : ByteArray) (w : World) (hs : s.size ≤ 140737488351232) :
    Calls Tryd.prog 43 #[.string s] w fun e w' => e = .returned (.int .i64 (numL s.data.toList)) ∧ w' = w := by
  have hl := Lib.hid (Lib.size_eq s).symm
  obtain ⟨R, hR0⟩ : ∃ R, numL s.data.toList = R := ⟨_, rfl⟩
  rw [hR0]
  have HR := Lib.hid hR0
  clear hR0
  have hz : Hid (∀ (h : 0 < s.size), (s.data.toList.getD 0 0) = s[0]) := Lib.hid fun h => getD0 s h
  go_enter Tryd.func43, Tryd.ntmps43
  go_wp2
  go_loop [3, 4] (fun n i => ∃ (k : Nat) (z : Int), i = .int .i64 k ∧ n = .int .i64 z ∧ k ≤ s.size ∧ Hid (z = numF (s.data.toList.take k) 0)) (fun _ i => s.size - (intOf i).toNat)
  case atStart => exact ⟨0, 0, rfl, rfl, Nat.zero_le _, Lib.hid rfl⟩
  case round =>
    obtain ⟨k, z, rfl, rfl, hk, hz2⟩ := hrel
    by_cases hlt : k < s.size
    · have hst := Lib.hid (numF_take s k hlt)
      have hb := s[k].toNat_lt
      generalize hc : s[k].toNat = c at hst hb
      rw [← hz2.out] at hst
      by_cases c45 : c = 45
      · have d : ((c : Int) != 45) = false := by simp [c45]
        have hn := Lib.hid (show z = numF (s.data.toList.take (k + 1)) 0 by rw [hst.out, if_pos c45])
        clear hst c45 hz2
        go_wp2
        exact ⟨⟨k + 1, z, by go_num, rfl, by omega, hn⟩, by simp [intOf]; omega⟩
      · have d : ((c : Int) != 45) = true := by simp; omega
        have hn := Lib.hid (show wrap64 (wrap64 (wrap64 (10 * z) + c) - 48) = numF (s.data.toList.take (k + 1)) 0 by rw [hst.out, if_neg c45])
        clear hst c45 hz2
        go_wp2
        exact ⟨⟨k + 1, _, by go_num, rfl, by omega, hn⟩, by simp [intOf]; omega⟩
    · obtain rfl : k = s.size := by omega
      have hz3 := hz2.out
      rw [← hl.out, List.take_length] at hz3
      have hz4 := Lib.hid hz3
      clear hz2 hz3
      have hnl := Lib.hid (show numL s.data.toList = if (s.data.toList.getD 0 0).toNat = 45 then wrap64 (-(numF s.data.toList 0)) else numF s.data.toList 0 from rfl)
      by_cases h0 : 0 < s.size
      · have hi0 : (0 : Int) < s.size := by omega
        rw [hz.out h0, ← hz4.out] at hnl
        rw [HR.out] at hnl
        by_cases c45 : s[0].toNat = 45
        · have d : ((s[0].toNat : Int) == 45) = true := by simp [c45]
          have hr := Lib.hid (show R = wrap64 (-z) by rw [hnl.out, if_pos c45])
          clear c45 hnl hz4
          go_wp2
          go_ret
          exact ⟨by rw [hr.out]; first | done | rfl, rfl⟩
        · have d : ((s[0].toNat : Int) == 45) = false := by simp; omega
          have hr := Lib.hid (show R = z by rw [hnl.out, if_neg c45])
          clear c45 hnl hz4
          go_wp2
          go_ret
          exact ⟨by rw [hr.out]; first | done | rfl, rfl⟩
      · have hi0 : ¬ (0 : Int) < s.size := by omega
        have e : s.data.toList = [] := List.eq_nil_of_length_eq_zero (by have := hl.out; omega)
        rw [e] at hnl hz4
        have hr := Lib.hid (show R = z by rw [← HR.out, e, hnl.out, hz4.out]; rfl)
        clear hnl hz4 e
        go_wp2
        go_ret
        exact ⟨by rw [hr.out]; first | done | rfl, rfl⟩

set_option maxHeartbeats 1000000 in
theorem half_any (c : Nat) (hc : c < 256) (w : World) : Calls Tryd.prog 75 #[.int .u8 c] w fun e w' => e = .returned (.int .i64 (halfN c)) ∧ w' = w := by
  by_cases h1 : 48 ≤ c ∧ c ≤ 57
  · have i1 : (48 : Int) ≤ c := by omega
    have i2 : (c : Int) ≤ 57 := by omega
    have hr := Lib.hid (show halfN c = (c : Int) - 48 by unfold halfN; rw [if_pos h1])
    go_enter Tryd.func75, Tryd.ntmps75
    go_wp2
    go_ret
    exact ⟨by rw [hr.out]; rfl, rfl⟩
  · by_cases h2 : 97 ≤ c ∧ c ≤ 102
    · have i1 : (48 : Int) ≤ c := by omega
      have i2 : ¬ (c : Int) ≤ 57 := by omega
      have i3 : (97 : Int) ≤ c := by omega
      have i4 : (c : Int) ≤ 102 := by omega
      have hr := Lib.hid (show halfN c = (c : Int) - 97 + 10 by unfold halfN; rw [if_neg h1, if_pos h2])
      go_enter Tryd.func75, Tryd.ntmps75
      go_wp2
      go_ret
      exact ⟨by rw [hr.out]; rfl, rfl⟩
    · have hr := Lib.hid (show halfN c = -1 by unfold halfN; rw [if_neg h1, if_neg h2])
      go_enter Tryd.func75, Tryd.ntmps75
      go_wp2
      all_goals first
        | (exfalso; omega)
        | (go_ret; exact ⟨by rw [hr.out]; rfl, rfl⟩)
end Go.Proofs.YtlihkmldclocoaaDoor
