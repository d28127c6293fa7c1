/- A number in decimal: the document's digits. -/
import Derived.Test.YtlihkmldclocoaaDoorBytes
import Derived.Test.YtlihkmldclocoaaDoorCmp
import Derived.Lib.ItoaNum
namespace Go.Proofs.YtlihkmldclocoaaDoor
open Go.RowKit
set_option linter.unusedSimpArgs false
set_option linter.unusedVariables false

def one8 (c : UInt8) : ByteArray := ⟨#[c]⟩
theorem conv_one (W : World) (z : Int) (c : UInt8) (hz : z = c.toNat) :
    (convert 93 9 (.slice (some ⟨W.heap.size, 0, none⟩) 1 1)).run Tryd.prog (W.alloc (.cells #[.int .u8 z] 5)) = .ok (.string (one8 c)) (W.alloc (.cells #[.int .u8 z] 5)) := by
  subst hz
  exact conv_bytes (P := Tryd.prog) _ 93 9 5 _ [c] Tryd.underlying93 Tryd.underlying5 Tryd.underlying9 (bytes_new W [c] _ _ 1 rfl rfl (by decide)) (by simp)
theorem one8_app (c : UInt8) (t : ByteArray) : (one8 c ++ t).data.toList = c :: t.data.toList := by simp [one8]
theorem one8_size (c : UInt8) (t : ByteArray) : (one8 c ++ t).size = t.size + 1 := by
  rw [ByteArray.size_append, show (one8 c).size = 1 from rfl, Nat.add_comm]

set_option maxHeartbeats 1000000 in
set_option maxRecDepth 100000 in
theorem digits_any (n : Nat) (w : World) (hn : n < 18446744073709551616) :
    Calls Tryd.prog 96 #[.int .u64 n] w fun e w' => e = .returned (.string ⟨(Lib.decDigits n).toArray⟩) ∧ Fut w w' := by
  go_enter Tryd.func96, Tryd.ntmps96
  go_wp2
  go_loopw [0, 3] (fun nn ss wr => ∃ (m : Nat) (t : ByteArray), nn = .int .u64 m ∧ ss = .string t ∧ m < 18446744073709551616 ∧ t.size ≤ 40 ∧ Hid (m * 10 ^ t.size < 10 ^ 20) ∧ Hid (Lib.decDigits m ++ t.data.toList = Lib.decDigits n) ∧ Hid (Fut w wr)) (fun nn _ _ => (intOf nn).toNat)
  case atStart => exact ⟨n, ⟨#[]⟩, rfl, rfl, hn, by decide, Lib.hid (by simp [ByteArray.size]; omega), Lib.hid (by simp), Lib.hid (Fut.refl _)⟩
  case round =>
    obtain ⟨m, t, rfl, rfl, hm, ht, hp, hd, hF⟩ := hrel
    by_cases h10 : 10 ≤ m
    · have i1 : (10 : Int) ≤ m := by omega
      have hts : t.size + 1 ≤ 20 := by
        have h1 : 10 ^ (t.size + 1) < 10 ^ 20 := by
          refine Nat.lt_of_le_of_lt ?_ hp.out
          rw [Nat.pow_succ, Nat.mul_comm]; exact Nat.mul_le_mul_right _ h10
        have := (Nat.pow_lt_pow_iff_right (by decide : 1 < 10)).1 h1
        omega
      have hp' : Hid (m / 10 * 10 ^ (one8 (UInt8.ofNat (48 + m % 10)) ++ t).size < 10 ^ 20) := Lib.hid (by
        rw [one8_size, Nat.pow_succ, Nat.mul_comm (10 ^ t.size), ← Nat.mul_assoc]
        exact Nat.lt_of_le_of_lt (Nat.mul_le_mul_right _ (Nat.div_mul_le_self m 10)) hp.out)
      have hd' : Hid (Lib.decDigits (m / 10) ++ (one8 (UInt8.ofNat (48 + m % 10)) ++ t).data.toList = Lib.decDigits n) := Lib.hid (by
        rw [one8_app, ← hd.out]
        conv => rhs; rw [Lib.decDigits, dif_neg (by omega)]
        simp)
      have hsz := one8_size (UInt8.ofNat (48 + m % 10)) t
      have hs1 : (one8 (UInt8.ofNat (48 + m % 10))).size = 1 := rfl
      have hcv := conv_one wr (48 + (m : Int) % 10) (UInt8.ofNat (48 + m % 10)) (by simp; omega)
      have HP := Lib.hid (And.intro hp'.out hd'.out)
      clear hp hd hp' hd'
      generalize one8 (UInt8.ofNat (48 + m % 10)) = d at *
      go_wp2
      refine ⟨⟨m / 10, d ++ t, by go_num, rfl, by omega, by omega, Lib.hid HP.out.1, Lib.hid HP.out.2, Lib.hid (hF.out.trans (Fut.alloc _ _))⟩, by simp [intOf]; omega⟩
    · have i1 : ¬ (10 : Int) ≤ m := by omega
      have hd' : Hid ((one8 (UInt8.ofNat (48 + m)) ++ t).data.toList = Lib.decDigits n) := Lib.hid (by
        rw [one8_app, ← hd.out, Lib.decDigits, dif_pos (by omega)]; rfl)
      have hs1 : (one8 (UInt8.ofNat (48 + m))).size = 1 := rfl
      have hcv := conv_one wr (48 + (m : Int)) (UInt8.ofNat (48 + m)) (by simp; omega)
      clear hp hd
      generalize one8 (UInt8.ofNat (48 + m)) = d at *
      go_wp2
      go_ret
      refine ⟨?_, hF.out.trans (Fut.alloc _ _)⟩
      rw [← hd'.out]
      rfl
end Go.Proofs.YtlihkmldclocoaaDoor
