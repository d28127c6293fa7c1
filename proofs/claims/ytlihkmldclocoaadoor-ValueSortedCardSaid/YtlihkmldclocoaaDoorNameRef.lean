/- The document's names: letter, written, Keyword, Name; Digits. -/
import Derived.Test.YtlihkmldclocoaaDoorName
import Derived.Test.YtlihkmldclocoaaDoorDigits
import Derived.Test.YtlihkmldclocoaaDoorLetter
namespace Go.Proofs.YtlihkmldclocoaaDoor
open Go.RowKit
set_option linter.unusedSimpArgs false
set_option linter.unusedVariables false

theorem decDigits_len : ∀ (k n : Nat), n < 10 ^ (k + 1) → (Lib.decDigits n).length ≤ k + 1
  | 0, n, h => by rw [Lib.decDigits, dif_pos (by simpa using h)]; simp
  | k + 1, n, h => by
    by_cases h1 : n < 10
    · rw [Lib.decDigits, dif_pos h1]; simp
    · rw [Lib.decDigits, dif_neg h1, List.length_append]
      have := decDigits_len k (n / 10) (by rw [Nat.pow_succ] at h; omega)
      simp; omega
set_option maxHeartbeats 1000000 in
set_option maxRecDepth 100000 in
theorem rdigits_any (n : Int) (w : World) (h1 : -9223372036854775808 ≤ n) (h2 : n ≤ 9223372036854775807) :
    Calls Tryd.prog 76 #[.int .i64 n] w fun e w' => e = .returned (.string ⟨(Lib.itoa n).toArray⟩) ∧ Fut w w' := by
  by_cases hn : n < 0
  · have e1 : IntKind.u64.wrap (-(IntKind.u64.wrap n)) = (n.natAbs : Int) := by
      simp [IntKind.wrap, IntKind.signed, IntKind.bits]; omega
    have hd := Lib.hid (digits_any n.natAbs)
    have hsz : (⟨(Lib.decDigits n.natAbs).toArray⟩ : ByteArray).size ≤ 20 := by
      have := decDigits_len 19 n.natAbs (by omega)
      simpa [ByteArray.size] using this
    have hr := Lib.hid (show (⟨(Lib.itoa n).toArray⟩ : ByteArray) = ⟨#[45]⟩ ++ ⟨(Lib.decDigits n.natAbs).toArray⟩ by
      rw [Lib.itoa, if_pos hn]
      apply WideShapes.bytes_inj
      simp)
    have hb := Lib.hid (show n.natAbs < 18446744073709551616 by omega)
    have hs1 : (⟨#[45]⟩ : ByteArray).size = 1 := rfl
    clear h1 h2
    generalize (⟨(Lib.decDigits n.natAbs).toArray⟩ : ByteArray) = d at hd hsz hr
    generalize (⟨(Lib.itoa n).toArray⟩ : ByteArray) = d2 at hr ⊢
    go_enter Tryd.func76, Tryd.ntmps76
    go_wp2_with fail
    refine (hd.out _ hb.out).mono ?_
    rintro e w1 ⟨rfl, F1⟩
    go_wp2
    go_ret
    exact ⟨by rw [hr.out]; rfl, F1⟩
  · obtain ⟨m, rfl⟩ : ∃ m : Nat, n = m := ⟨n.toNat, by omega⟩
    have e1 : IntKind.u64.wrap (m : Int) = (m : Int) := by
      simp [IntKind.wrap, IntKind.signed, IntKind.bits]; omega
    have hd := Lib.hid (digits_any m)
    have hr := Lib.hid (show (⟨(Lib.itoa (m : Int)).toArray⟩ : ByteArray) = ⟨(Lib.decDigits m).toArray⟩ by rw [Lib.itoa, if_neg hn]; rfl)
    have hb := Lib.hid (show m < 18446744073709551616 by omega)
    have i0 : ¬ (m : Int) < 0 := hn
    clear h1 h2
    generalize (⟨(Lib.decDigits m).toArray⟩ : ByteArray) = d at hd hr
    generalize (⟨(Lib.itoa (m : Int)).toArray⟩ : ByteArray) = d2 at hr ⊢
    go_enter Tryd.func76, Tryd.ntmps76
    go_wp2_with fail
    refine (hd.out _ hb.out).mono ?_
    rintro e w1 ⟨rfl, F1⟩
    go_wp2
    go_ret
    exact ⟨by rw [hr.out]; rfl, F1⟩
end Go.Proofs.YtlihkmldclocoaaDoor
