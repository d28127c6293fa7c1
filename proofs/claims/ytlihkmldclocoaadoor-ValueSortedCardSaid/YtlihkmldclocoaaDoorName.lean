/- value.name. -/
import Derived.Test.YtlihkmldclocoaaDoorArith
namespace Go.Proofs.YtlihkmldclocoaaDoor
open Go.RowKit
set_option linter.unusedSimpArgs false
set_option linter.unusedVariables false

def letterN (c : Nat) : Bool := (decide (97 ≤ c) && decide (c ≤ 122)) || (decide (65 ≤ c) && decide (c ≤ 90)) || (decide (48 ≤ c) && decide (c ≤ 57)) || c == 95
def keyB (l : List UInt8) : Bool := l == [110, 111, 116] || l == [99, 111, 117, 110, 116] || l == [115, 117, 109] || l == [109, 105, 110] || l == [109, 97, 120] || l == [108, 101, 110] || l == [99, 104, 97, 114, 115] || l == [98, 97, 99, 107]
def nameV (s : ByteArray) : Bool := decide (0 < s.size) && decide (s.size ≤ 120) && (decide (97 ≤ (s.data.getD 0 0).toNat) && decide ((s.data.getD 0 0).toNat ≤ 122)) && s.data.toList.all (fun b => letterN b.toNat) && !keyB s.toList

theorem head_at (s : ByteArray) (h : 0 < s.size) : s.data[0]?.getD 0 = s[0] := by
  have : 0 < s.data.size := h
  rw [Array.getElem?_eq_getElem this]
  rfl

set_option maxHeartbeats 1600000 in
set_option maxRecDepth 100000 in
theorem name_any (s : ByteArray) (w : World) (hs : s.size ≤ 140737488351232) : Calls Tryd.prog 52 #[.string s] w fun e w' => e = .returned (.bool (nameV s)) ∧ Fut w w' := by
  have kc := fun w => run_bytes_of_string (P := Tryd.prog) w 9 93 5 s Tryd.underlying9 Tryd.underlying93 Tryd.underlying5
  have hlow : Hid (∀ (h : 0 < s.size), nameV s = true → 97 ≤ s[0].toNat ∧ s[0].toNat ≤ 122 ∧ s.size ≤ 120) := Lib.hid fun h hn => by
    simp [nameV] at hn
    rw [show s.data[0]?.getD 0 = s[0] from head_at s h] at hn
    omega
  have hmk : Hid (∀ (h : 0 < s.size), 97 ≤ s[0].toNat → s[0].toNat ≤ 122 → s.size ≤ 120 → s.data.toList.all (fun b => letterN b.toNat) = true → nameV s = !keyB s.toList) := Lib.hid fun h h1 h2 h3 h4 => by
    unfold nameV
    rw [h4]
    simp [h, h3, head_at s h]
    exact fun _ => ⟨h1, h2⟩
  have hnil : Hid (s.size = 0 → nameV s = false) := Lib.hid fun h => by simp [nameV, h]
  have hall : Hid (∀ k (hk : k < s.size), letterN s[k].toNat = false → nameV s = false) := Lib.hid fun k hk h => by
    have : s.data.toList.all (fun b => letterN b.toNat) = false := by
      rw [List.all_eq_false]
      exact ⟨s[k], Array.mem_toList_iff.2 (Array.getElem_mem (xs := s.data) hk), by simp [h]⟩
    unfold nameV
    rw [this]; simp
  by_cases c0 : s.size = 0
  · have e0 : ((s.size : Int) == 0) = true := by simp [c0]
    have hr := Lib.hid (hnil.out c0)
    clear c0
    go_enter Tryd.func52, Tryd.ntmps52
    go_wp2
    go_ret
    exact ⟨by rw [hr.out]; rfl, Fut.refl _⟩
  · have hpos : 0 < s.size := by omega
    have e0 : ((s.size : Int) == 0) = false := by simp; intro e; subst e; simp at hpos
    clear c0
    by_cases c1 : (120 : Int) < s.size
    · have hr := Lib.hid (show nameV s = false by
        cases hn : nameV s with
        | false => rfl
        | true => have := hlow.out hpos hn; omega)
      go_enter Tryd.func52, Tryd.ntmps52
      go_wp2
      go_ret
      exact ⟨by rw [hr.out]; rfl, Fut.refl _⟩
    · by_cases c2 : ((s[0]).toNat : Int) < 97
      · have hr := Lib.hid (show nameV s = false by
          cases hn : nameV s with
          | false => rfl
          | true => have := hlow.out hpos hn; omega)
        go_enter Tryd.func52, Tryd.ntmps52
        go_wp2
        go_ret
        exact ⟨by rw [hr.out]; rfl, Fut.refl _⟩
      · by_cases c3 : (122 : Int) < (s[0]).toNat
        · have hr := Lib.hid (show nameV s = false by
            cases hn : nameV s with
            | false => rfl
            | true => have := hlow.out hpos hn; omega)
          go_enter Tryd.func52, Tryd.ntmps52
          go_wp2
          go_ret
          exact ⟨by rw [hr.out]; rfl, Fut.refl _⟩
        · have hmk' := Lib.hid (hmk.out hpos (by omega) (by omega) (by omega))
          have b0 : decide ((120 : Int) < s.size) = false := by simpa using c1
          have b1 : decide (((s[0]).toNat : Int) < 97) = false := by simpa using c2
          have b2 : decide ((122 : Int) < (s[0]).toNat) = false := by simpa using c3
          clear hmk hlow hnil c1 c2 c3
          go_enter Tryd.func52, Tryd.ntmps52
          have hcell : Hid (∀ cap fr k (hk : k < s.size), (w.alloc (.cells (bytesRow s cap) 5 fr)).cell? ⟨w.heap.size, k, none⟩ = some (.int .u8 (s[k]).toNat)) :=
            Lib.hid fun cap fr k hk => (World.cell?_alloc_mark _ _ _ _ _).trans (bytesRow_at s cap k hk)
          have hF := Lib.hid (fun o => (Fut.alloc w o).trans (Fut.drew _))
          go_wp2
          go_loop [26] (fun i => ∃ k : Nat, k ≤ s.size ∧ i = .int .i64 k ∧ Hid (∀ j (hj : j < s.size), j < k → letterN (s[j]).toNat = true)) (fun i => s.size - (intOf i).toNat)
          case atStart => exact ⟨0, Nat.zero_le _, rfl, Lib.hid (fun j _ h => absurd h (by omega))⟩
          case round =>
            obtain ⟨k, hk, rfl, hg⟩ := hrel
            by_cases hlt : k < s.size
            · have x0 := fun cap fr => hcell.out cap fr k hlt
              have hb : Hid ((s[k]).toNat < 256) := Lib.hid (UInt8.toNat_lt _)
              have hs1 := Lib.hid (fun h : letterN (s[k]).toNat = true => (fun j hj hjk => by
                rcases Nat.lt_or_ge j k with h' | h'
                · exact hg.out j hj h'
                · obtain rfl : j = k := by omega
                  exact h : ∀ j (hj : j < s.size), j < k + 1 → letterN (s[j]).toNat = true))
              have hs2 := Lib.hid (hall.out k hlt)
              generalize s[k].toNat = c at *
              go_wp2
              all_goals first
                | (go_ret; exact ⟨by rw [hs2.out (by (try simp only [bne_iff_ne, ne_eq, bne_eq_false_iff_eq] at *); simp [letterN]; omega)]; rfl, hF.out _⟩)
                | exact ⟨⟨k + 1, by omega, by go_num, Lib.hid (hs1.out (by (try simp only [bne_iff_ne, ne_eq, bne_eq_false_iff_eq] at *); simp [letterN]; omega))⟩, by simp [intOf]; omega⟩
            · obtain rfl : k = s.size := by omega
              have hr := Lib.hid (hmk'.out (by
                rw [List.all_eq_true]
                intro b hb
                obtain ⟨j, hj⟩ := List.getElem?_of_mem hb
                have hjl := (List.getElem?_eq_some_iff.1 hj).1
                have := hg.out j (by simpa using hjl) (by simpa using hjl)
                have e : b = s[j]'(by simpa using hjl) := by
                  have := (List.getElem?_eq_some_iff.1 hj).2
                  rw [← this]; rfl
                rw [e]; exact this))
              go_wp2
              all_goals go_ret
              all_goals refine ⟨?_, hF.out _⟩
              all_goals rw [hr.out]
              all_goals unfold keyB
              all_goals simp_all


end Go.Proofs.YtlihkmldclocoaaDoor
