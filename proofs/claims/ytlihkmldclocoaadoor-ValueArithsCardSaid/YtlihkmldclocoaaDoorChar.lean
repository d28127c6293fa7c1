/- The document's decoder: follows, Char, Points. -/
import Derived.Test.YtlihkmldclocoaaDoorName
import Derived.Test.YtlihkmldclocoaaDoorUtf
namespace Go.Proofs.YtlihkmldclocoaaDoor
open Go.RowKit
set_option linter.unusedSimpArgs false
set_option linter.unusedVariables false

set_option maxHeartbeats 1000000 in
theorem follows_any (c : Nat) (hc : c < 256) (w : World) : Calls Tryd.prog 131 #[.int .u8 c] w fun e w' => e = .returned (.tuple #[.int .i64 (foll c).1, .int .i64 (foll c).2.1, .int .i64 (foll c).2.2]) ∧ w' = w := by
  by_cases h1 : c < 128
  · have i1 : (c : Int) < 128 := by omega
    rw [show foll c = (0, 0, (c : Int)) by unfold foll; rw [if_pos h1]]
    go_enter Tryd.func131, Tryd.ntmps131
    go_wp2
    exact bodyPost_ret (v := .tuple #[.int .i64 0, .int .i64 0, .int .i64 c]) (by simp [results, Tryd.results131, go_sem]) rfl ⟨rfl, rfl⟩
  · have i1 : ¬ (c : Int) < 128 := by omega
    by_cases h2 : 192 ≤ c ∧ c < 224
    · have i2 : (192 : Int) ≤ c := by omega
      have i3 : (c : Int) < 224 := by omega
      rw [show foll c = (1, 128, (c : Int) - 192) by unfold foll; rw [if_neg h1, if_pos h2]]
      go_enter Tryd.func131, Tryd.ntmps131
      go_wp2
      exact bodyPost_ret (v := .tuple #[.int .i64 1, .int .i64 128, .int .i64 (c - 192)]) (by simp [results, Tryd.results131, go_sem]) rfl ⟨rfl, rfl⟩
    · by_cases h3 : 224 ≤ c ∧ c < 240
      · have i2 : (192 : Int) ≤ c := by omega
        have i3 : ¬ (c : Int) < 224 := by omega
        have i4 : (224 : Int) ≤ c := by omega
        have i5 : (c : Int) < 240 := by omega
        rw [show foll c = (2, 2048, (c : Int) - 224) by unfold foll; rw [if_neg h1, if_neg h2, if_pos h3]]
        go_enter Tryd.func131, Tryd.ntmps131
        go_wp2
        exact bodyPost_ret (v := .tuple #[.int .i64 2, .int .i64 2048, .int .i64 (c - 224)]) (by simp [results, Tryd.results131, go_sem]) rfl ⟨rfl, rfl⟩
      · by_cases h4 : 240 ≤ c ∧ c < 248
        · have i2 : (192 : Int) ≤ c := by omega
          have i3 : ¬ (c : Int) < 224 := by omega
          have i4 : (224 : Int) ≤ c := by omega
          have i5 : ¬ (c : Int) < 240 := by omega
          have i6 : (240 : Int) ≤ c := by omega
          have i7 : (c : Int) < 248 := by omega
          rw [show foll c = (3, 65536, (c : Int) - 240) by unfold foll; rw [if_neg h1, if_neg h2, if_neg h3, if_pos h4]]
          go_enter Tryd.func131, Tryd.ntmps131
          go_wp2
          exact bodyPost_ret (v := .tuple #[.int .i64 3, .int .i64 65536, .int .i64 (c - 240)]) (by simp [results, Tryd.results131, go_sem]) rfl ⟨rfl, rfl⟩
        · rw [show foll c = (-1, 0, 0) by unfold foll; rw [if_neg h1, if_neg h2, if_neg h3, if_neg h4]]
          by_cases k1 : c < 192
          · have j1 : ¬ (192 : Int) ≤ c := by omega
            have j2 : ¬ (224 : Int) ≤ c := by omega
            have j3 : ¬ (240 : Int) ≤ c := by omega
            go_enter Tryd.func131, Tryd.ntmps131
            go_wp2
            exact bodyPost_ret (v := .tuple #[.int .i64 (-1), .int .i64 0, .int .i64 0]) (by simp [results, Tryd.results131, go_sem]) rfl ⟨rfl, rfl⟩
          · have j1 : (192 : Int) ≤ c := by omega
            have j2 : (224 : Int) ≤ c := by omega
            have j3 : (240 : Int) ≤ c := by omega
            have j4 : ¬ (c : Int) < 224 := by omega
            have j5 : ¬ (c : Int) < 240 := by omega
            have j6 : ¬ (c : Int) < 248 := by omega
            go_enter Tryd.func131, Tryd.ntmps131
            go_wp2
            exact bodyPost_ret (v := .tuple #[.int .i64 (-1), .int .i64 0, .int .i64 0]) (by simp [results, Tryd.results131, go_sem]) rfl ⟨rfl, rfl⟩

theorem foll_pt (c : Nat) (hc : c < 256) : 0 ≤ (foll c).2.2 ∧ (foll c).2.2 ≤ 127 ∧ 0 ≤ (foll c).2.1 ∧ (foll c).2.1 ≤ 65536 := by
  unfold foll
  (repeat' split) <;> simp <;> omega
theorem drop_getD (s : ByteArray) (i j : Nat) (h : i + j < s.size) : (s.data.toList.drop i).getD j 0 = s[i + j]'h := by
  have h' : i + j < s.data.size := h
  simp only [List.getD, List.getElem?_drop, Array.getElem?_toList, Array.getElem?_eq_getElem h']
  rfl
def tupC (r : Nat × Bool) : Value := .tuple #[.int .i64 r.1, .bool r.2]
set_option maxHeartbeats 1000000 in
set_option maxRecDepth 100000 in
theorem char_any (s : ByteArray) (i : Nat) (w : World) (hi : i < s.size) (hs : s.size ≤ 140737488351232) :
    Calls Tryd.prog 95 #[.string s, .int .i64 i] w fun e w' => e = .returned (tupC (charV (s.data.toList.drop i))) ∧ w' = w := by
  have hl : (s.data.toList.drop i).length = s.size - i := by rw [List.length_drop, ← Lib.size_eq]
  have h0 : (s.data.toList.drop i).getD 0 0 = s[i] := drop_getD s i 0 hi
  have hc := s[i].toNat_lt
  have hb1 := foll_le s[i].toNat
  have hb2 := foll_pt s[i].toNat hc
  obtain ⟨n, hn⟩ : ∃ n, (foll s[i].toNat).1 = n := ⟨_, rfl⟩
  obtain ⟨least, hle⟩ : ∃ n, (foll s[i].toNat).2.1 = n := ⟨_, rfl⟩
  obtain ⟨pt0, hpt⟩ : ∃ n, (foll s[i].toNat).2.2 = n := ⟨_, rfl⟩
  have hbyte : Hid (∀ k (hk : i + k < s.size), (s.data.toList.drop i).getD k 0 = s[i + k]) := Lib.hid fun k hk => drop_getD s i k hk
  have hv : charV (s.data.toList.drop i) = if n < 0 ∨ ((s.size - i : Nat) : Int) ≤ n then (1, false) else match tailP (s.data.toList.drop i) n.toNat 1 pt0 with | none => (1, false) | some pt => if inP least pt then (1 + n.toNat, true) else (1, false) := by
    unfold charV; rw [h0, hl, hn, hle, hpt]; rfl
  have hfl := Lib.hid (follows_any s[i].toNat hc)
  rw [hn, hle, hpt] at hfl
  rw [hn] at hb1
  rw [hle, hpt] at hb2
  generalize charV (s.data.toList.drop i) = R at hv ⊢
  generalize s.data.toList.drop i = l at hbyte hv
  clear hn hle hpt h0 hl hc
  by_cases c1 : n < 0
  · have hR := Lib.hid (show R = (1, false) by rw [hv, if_pos (.inl c1)])
    clear hv
    go_enter Tryd.func95, Tryd.ntmps95
    go_wp2_with fail
    refine (hfl.out _).mono ?_
    rintro e w1 ⟨rfl, rfl⟩
    go_wp2
    exact bodyPost_ret (v := tupC (1, false)) (by simp [results, Tryd.results95, go_sem, tupC]) rfl ⟨by rw [hR.out], rfl⟩
  · obtain ⟨m, rfl⟩ : ∃ m : Nat, n = m := ⟨n.toNat, by omega⟩
    have c1' : ¬ ((m : Int) < 0) := by omega
    by_cases c2 : s.size ≤ i + m
    · have hR := Lib.hid (show R = (1, false) by rw [hv, if_pos (.inr (by omega))])
      have d2 : (s.size : Int) ≤ i + m := by omega
      clear hv
      go_enter Tryd.func95, Tryd.ntmps95
      go_wp2_with fail
      refine (hfl.out _).mono ?_
      rintro e w1 ⟨rfl, rfl⟩
      go_wp2
      exact bodyPost_ret (v := tupC (1, false)) (by simp [results, Tryd.results95, go_sem, tupC]) rfl ⟨by rw [hR.out], rfl⟩
    · have d2 : ¬ (s.size : Int) ≤ i + m := by omega
      rw [if_neg (by omega), Int.toNat_natCast] at hv
      have HV := Lib.hid hv
      clear hv
      go_enter Tryd.func95, Tryd.ntmps95
      go_wp2_with fail
      refine (hfl.out _).mono ?_
      rintro e w1 ⟨rfl, rfl⟩
      go_wp2
      go_loop [8, 9] (fun p k => ∃ (kk : Nat) (pt : Int), k = .int .i64 kk ∧ p = .int .i64 pt ∧ 1 ≤ kk ∧ kk ≤ m + 1 ∧ 0 ≤ pt ∧ pt ≤ 33554431 ∧ Hid ((kk = 1 → pt ≤ 127) ∧ (kk = 2 → pt ≤ 8191) ∧ (kk = 3 → pt ≤ 524287)) ∧ Hid (tailP l (m + 1 - kk) kk pt = tailP l m 1 pt0)) (fun _ k => m + 1 - (intOf k).toNat)
      case atStart => exact ⟨1, pt0, rfl, rfl, Nat.le_refl _, by omega, by omega, by omega, Lib.hid ⟨by omega, by omega, by omega⟩, Lib.hid (by simp)⟩
      case round =>
        obtain ⟨kk, pt, rfl, rfl, k1, k2, p1, p2, pb, ht⟩ := hrel
        by_cases hlt : kk ≤ m
        · have e1 : (kk : Int) ≤ m := by omega
          have e2 : i + kk < s.size := by omega
          have p3 : pt ≤ 524287 := by have := pb.out; omega
          have hg := Lib.hid (hbyte.out kk e2)
          have hst := Lib.hid (show tailP l (m + 1 - kk) kk pt = if ct (l.getD kk 0) then tailP l (m + 1 - (kk + 1)) (kk + 1) (pt * 64 + (l.getD kk 0).toNat - 128) else none by rw [show m + 1 - kk = (m + 1 - (kk + 1)) + 1 by omega, tailP])
          rw [hg.out] at hst
          have hb := s[i + kk].toNat_lt
          have hct := Lib.hid (show ct s[i + kk] = decide (128 ≤ s[i + kk].toNat ∧ s[i + kk].toNat < 192) from rfl)
          clear hg
          have hidx : ∀ (t : TypeId), s[i + kk]? = some s[i + kk] := fun _ => by simp [e2]
          generalize hcc : s[i + kk].toNat = c at hst hct hb
          by_cases hc : 128 ≤ c ∧ c < 192
          · have f1 : ¬ (c : Int) < 128 := by omega
            have f2 : ¬ (192 : Int) ≤ c := by omega
            have hnew := Lib.hid (show tailP l (m + 1 - (kk + 1)) (kk + 1) (pt * 64 + c - 128) = tailP l m 1 pt0 by rw [← ht.out, hst.out, hct.out, if_pos (by simpa using hc)])
            clear hst hct ht
            have pb' : Hid ((kk + 1 = 1 → pt * 64 + c - 128 ≤ 127) ∧ (kk + 1 = 2 → pt * 64 + c - 128 ≤ 8191) ∧ (kk + 1 = 3 → pt * 64 + c - 128 ≤ 524287)) := Lib.hid (by have := pb.out; omega)
            clear pb
            go_wp2
            exact ⟨⟨kk + 1, pt * 64 + c - 128, by go_num, by first | rfl | go_num, by omega, by omega, by omega, by omega, pb', hnew⟩, by simp [intOf]; omega⟩
          · have hR := Lib.hid (show R = (1, false) by rw [HV.out, ← ht.out, hst.out, hct.out, if_neg (by simpa using hc)])
            clear hst hct ht
            by_cases g1 : c < 128
            · have f1 : (c : Int) < 128 := by omega
              go_wp2
              exact bodyPost_ret (v := tupC (1, false)) (by simp [results, Tryd.results95, go_sem, tupC]) rfl ⟨by rw [hR.out], rfl⟩
            · have f1 : ¬ (c : Int) < 128 := by omega
              have f2 : (192 : Int) ≤ c := by omega
              go_wp2
              exact bodyPost_ret (v := tupC (1, false)) (by simp [results, Tryd.results95, go_sem, tupC]) rfl ⟨by rw [hR.out], rfl⟩
        · obtain rfl : kk = m + 1 := by omega
          have e1 : ¬ ((m + 1 : Nat) : Int) ≤ m := by omega
          have e1' : ¬ (m : Int) + 1 ≤ m := by omega
          have hv2 := Lib.hid (show R = if inP least pt then (1 + m, true) else (1, false) by rw [HV.out, ← ht.out, Nat.sub_self, tailP])
          clear HV ht hbyte
          by_cases g1 : pt < least
          · have hR := Lib.hid (show R = (1, false) by rw [hv2.out, if_neg (by simp [inP, g1])])
            go_wp2
            exact bodyPost_ret (v := tupC (1, false)) (by simp [results, Tryd.results95, go_sem, tupC]) rfl ⟨by rw [hR.out], rfl⟩
          · by_cases g2 : 1114111 < pt
            · have hR := Lib.hid (show R = (1, false) by rw [hv2.out, if_neg (by simp [inP, g2])])
              go_wp2
              exact bodyPost_ret (v := tupC (1, false)) (by simp [results, Tryd.results95, go_sem, tupC]) rfl ⟨by rw [hR.out], rfl⟩
            · by_cases g3 : 55296 ≤ pt
              · by_cases g4 : pt ≤ 57343
                · have hR := Lib.hid (show R = (1, false) by rw [hv2.out, if_neg (by simp [inP, g3, g4])])
                  go_wp2
                  exact bodyPost_ret (v := tupC (1, false)) (by simp [results, Tryd.results95, go_sem, tupC]) rfl ⟨by rw [hR.out], rfl⟩
                · have hR := Lib.hid (show R = (1 + m, true) by rw [hv2.out, if_pos (by simp [inP, g1, g2, g4]; try omega)])
                  go_wp2
                  exact bodyPost_ret (v := tupC (1 + m, true)) (by simp [results, Tryd.results95, go_sem, tupC]) rfl ⟨by rw [hR.out], rfl⟩
              · have hR := Lib.hid (show R = (1 + m, true) by rw [hv2.out, if_pos (by simp [inP, g1, g2, g3]; try omega)])
                go_wp2
                exact bodyPost_ret (v := tupC (1 + m, true)) (by simp [results, Tryd.results95, go_sem, tupC]) rfl ⟨by rw [hR.out], rfl⟩
end Go.Proofs.YtlihkmldclocoaaDoor
