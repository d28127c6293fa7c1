/- ValueThere, walked: v is a value or is none; s is a value's text or is none. Printed by there.py. -/
import Derived.Test.YtlihkmldclocoaaDoorRead3
import Derived.Test.YtlihkmldclocoaaDoorThere0
import Derived.Test.YtlihkmldclocoaaDoorErrs
import Derived.Test.YtlihkmldclocoaaDoorLives
namespace Go.Proofs.YtlihkmldclocoaaDoor
open Go.RowKit
set_option linter.unusedSimpArgs false
set_option linter.unusedVariables false

theorem rread_to (s : ByteArray) (R : V × Int) (hs : s.size ≤ 140737488351232) (hR : readR s = R) (w : World) (hP : Pows w) (hE : Errs w) :
    Calls Tryd.prog 13 #[.string s] w fun e w' => e = .returned (tupR R) ∧ Fut w w' := by
  have := read_any s w hs hP hE
  rw [read_eq s (numL_in _), hR] at this
  exact this
theorem readR_ok (s : ByteArray) (hs : s.size ≤ 140737488351232) : (readR s).1.ok := by
  have hn : noV.ok := ⟨show (Lit.int .i8 0).wf = true by decide, show (Lit.int .i64 0).wf = true by decide, Nat.zero_le _⟩
  unfold readR
  split
  · exact numV_ok _ (in_wf (numL_in _))
  · split
    · exact txt_okM s hs
    · split
      · exact txt_okM _ (by have := unqL_size s; omega)
      · exact hn
theorem mem_at (s : ByteArray) (k : Nat) (h : k < s.size) : s[k] ∈ s.data.toList := by
  have h' : k < s.data.size := h
  exact Array.mem_toList_iff.2 (Array.getElem_mem h')
set_option maxHeartbeats 1000000 in
set_option maxRecDepth 100000 in
theorem there11 (x : V) (s : ByteArray) (w : World) (hT : Takes w) (hP : Pows w) (hE : Errs w) (hx : x.ok) (hs : s.size ≤ 140737488351232) (t : ByteArray) (hc : chk x.k x.n x.s = 0) (hsh : showV x = (t, 0)) (hrd : readR t = (x, 0)) (ht0 : 0 < t.size) (ht1 : t.size ≤ 1000) (hpr : ∀ b ∈ t.data.toList, 32 ≤ b.toNat ∧ b.toNat ≤ 126) (y : V) (hr : readR s = (y, 0)) (hy : showV y = (s, 0)) (hcy : chk y.k y.n y.s = 0) :
    Calls Tryd.prog 5 #[x.val, .string s] w fun e w' => e = .returned (.bool true) ∧ Fut w w' := by
  have HT := Lib.hid hT
  have HP := Lib.hid hP
  have HE := Lib.hid hE
  have HSX := Lib.hid (fun w hP => show_any x w hx hP)
  rw [hsh] at HSX
  have HCX := Lib.hid (fun w => rcheck_any x.k x.n x.s w hx.2.2)
  rw [hc] at HCX
  have HRX := Lib.hid (fun w hP hE => rread_to t (x, 0) (by omega) hrd w hP hE)
  have HPR := Lib.hid (fun k (h : k < t.size) => hpr _ (mem_at t k h))
  have HR := Lib.hid (fun w hP hE => rread_to s (y, 0) hs hr w hP hE)
  have hyo : y.ok := by have := readR_ok s hs; rw [hr] at this; exact this
  have HS := Lib.hid (fun w hP => show_any y w hyo hP)
  rw [hy] at HS
  have HC := Lib.hid (fun w => check_any y.k y.n y.s w hyo.2.2)
  rw [hcy] at HC
  obtain ⟨k', n', s'⟩ := y
  simp only [tupR, tupS, V.val] at HR HS HC
  clear hyo hy hcy hr
  obtain ⟨k, n, u⟩ := x
  simp only [tupR, tupS, V.val] at HSX HCX HRX ⊢
  clear hT hP hE hx hs hc hsh hrd hpr
  go_enter Tryd.func5, Tryd.ntmps5
  go_wp2_with fail
  refine (lives_any _ (HT.out.fut (Fut.alloc _ _))).mono ?_
  rintro e w1 ⟨rfl, h1⟩
  have F1 := Lib.hid ((Fut.alloc w (.cells #[.int .i8 k, .int .i64 n, .string u] 27)).trans h1)
  obtain ⟨b0, b1, b2⟩ := boxV_at w k n u 27
  replace b0 := h1.cell b0
  replace b1 := h1.cell b1
  replace b2 := h1.cell b2
  go_wp2_with fail
  refine (HSX.out _ (HP.out.fut F1.out)).mono ?_
  rintro e w2 ⟨rfl, h2⟩
  have F2 := Lib.hid (F1.out.trans h2)
  replace b0 := h2.cell b0
  replace b1 := h2.cell b1
  replace b2 := h2.cell b2
  go_wp2_with fail
  refine (HCX.out _).mono ?_
  rintro e w3 ⟨rfl, h3⟩
  have F3 := Lib.hid (F2.out.trans h3)
  replace b0 := h3.cell b0
  replace b1 := h3.cell b1
  replace b2 := h3.cell b2
  go_wp2_with fail
  refine (HRX.out _ (HP.out.fut F3.out) (HE.out.fut F3.out)).mono ?_
  rintro e w4 ⟨rfl, h4⟩
  have F4 := Lib.hid (F3.out.trans (h4.trans (Fut.alloc w4 (.cells #[.int .i8 k, .int .i64 n, .string u] 27))))
  obtain ⟨p0, p1, p2⟩ := boxV_at w4 k n u 27
  have FB := h4.trans (Fut.alloc w4 (.cells #[.int .i8 k, .int .i64 n, .string u] 27))
  have q0 := FB.cell b0
  have q1 := FB.cell b1
  have q2 := FB.cell b2
  have hts : ((t.size : Int) == 0) = false := by rw [beq_eq_false_iff_ne]; omega
  clear FB
  go_wp2
  clear p0 p1 p2 q0 q1 q2 b0 b1 b2
  go_loopw [9] (fun i wr => ∃ k : Nat, k ≤ t.size ∧ i = .int .i64 k ∧ Hid (Fut w wr)) (fun i _ => t.size - (intOf i).toNat)
  case atStart => exact ⟨0, Nat.zero_le _, rfl, F4⟩
  case round =>
    obtain ⟨j, hj, rfl, hF⟩ := hrel
    by_cases hlt : j < t.size
    · have hb := HPR.out j hlt
      have e1 : ¬ (t[j].toNat : Int) < 32 := by omega
      have e2 : ¬ (126 : Int) < t[j].toNat := by omega
      have e3 : ¬ t[j].toNat < 32 := by omega
      have e4 : ¬ 126 < t[j].toNat := by omega
      go_wp2
      exact ⟨⟨j + 1, by omega, by go_num, hF⟩, by simp [intOf]; omega⟩
    · obtain rfl : j = t.size := by omega
      go_wp2_with fail
      refine (HR.out _ (HP.out.fut hF.out) (HE.out.fut hF.out)).mono ?_
      rintro e wa ⟨rfl, ha⟩
      have FA := Lib.hid (hF.out.trans (ha.trans (Fut.alloc wa (.cells #[.int .i8 (k'), .int .i64 (n'), .string (s')] 27))))
      go_wp2_with fail
      refine (HS.out _ (HP.out.fut FA.out)).mono ?_
      rintro e wb ⟨rfl, hb⟩
      obtain ⟨p0, p1, p2⟩ := boxV_at wa k' n' s' 27
      replace p0 := hb.cell p0
      replace p1 := hb.cell p1
      replace p2 := hb.cell p2
      go_wp2_with fail
      refine (HC.out _).mono ?_
      rintro e wc ⟨rfl, hc⟩
      go_wp2
      go_ret
      exact ⟨by first | rfl | simp, FA.out.trans (hb.trans hc)⟩
set_option maxHeartbeats 1000000 in
set_option maxRecDepth 100000 in
theorem there10 (x : V) (s : ByteArray) (w : World) (hT : Takes w) (hP : Pows w) (hE : Errs w) (hx : x.ok) (hs : s.size ≤ 140737488351232) (t : ByteArray) (hc : chk x.k x.n x.s = 0) (hsh : showV x = (t, 0)) (hrd : readR t = (x, 0)) (ht0 : 0 < t.size) (ht1 : t.size ≤ 1000) (hpr : ∀ b ∈ t.data.toList, 32 ≤ b.toNat ∧ b.toNat ≤ 126) (hr : readR s = (noV, 10)) :
    Calls Tryd.prog 5 #[x.val, .string s] w fun e w' => e = .returned (.bool true) ∧ Fut w w' := by
  have HT := Lib.hid hT
  have HP := Lib.hid hP
  have HE := Lib.hid hE
  have HSX := Lib.hid (fun w hP => show_any x w hx hP)
  rw [hsh] at HSX
  have HCX := Lib.hid (fun w => rcheck_any x.k x.n x.s w hx.2.2)
  rw [hc] at HCX
  have HRX := Lib.hid (fun w hP hE => rread_to t (x, 0) (by omega) hrd w hP hE)
  have HPR := Lib.hid (fun k (h : k < t.size) => hpr _ (mem_at t k h))
  have HR := Lib.hid (fun w hP hE => rread_to s (noV, 10) hs hr w hP hE)
  simp only [tupR, noV, V.val] at HR
  clear hr
  obtain ⟨k, n, u⟩ := x
  simp only [tupR, tupS, V.val] at HSX HCX HRX ⊢
  clear hT hP hE hx hs hc hsh hrd hpr
  go_enter Tryd.func5, Tryd.ntmps5
  go_wp2_with fail
  refine (lives_any _ (HT.out.fut (Fut.alloc _ _))).mono ?_
  rintro e w1 ⟨rfl, h1⟩
  have F1 := Lib.hid ((Fut.alloc w (.cells #[.int .i8 k, .int .i64 n, .string u] 27)).trans h1)
  obtain ⟨b0, b1, b2⟩ := boxV_at w k n u 27
  replace b0 := h1.cell b0
  replace b1 := h1.cell b1
  replace b2 := h1.cell b2
  go_wp2_with fail
  refine (HSX.out _ (HP.out.fut F1.out)).mono ?_
  rintro e w2 ⟨rfl, h2⟩
  have F2 := Lib.hid (F1.out.trans h2)
  replace b0 := h2.cell b0
  replace b1 := h2.cell b1
  replace b2 := h2.cell b2
  go_wp2_with fail
  refine (HCX.out _).mono ?_
  rintro e w3 ⟨rfl, h3⟩
  have F3 := Lib.hid (F2.out.trans h3)
  replace b0 := h3.cell b0
  replace b1 := h3.cell b1
  replace b2 := h3.cell b2
  go_wp2_with fail
  refine (HRX.out _ (HP.out.fut F3.out) (HE.out.fut F3.out)).mono ?_
  rintro e w4 ⟨rfl, h4⟩
  have F4 := Lib.hid (F3.out.trans (h4.trans (Fut.alloc w4 (.cells #[.int .i8 k, .int .i64 n, .string u] 27))))
  obtain ⟨p0, p1, p2⟩ := boxV_at w4 k n u 27
  have FB := h4.trans (Fut.alloc w4 (.cells #[.int .i8 k, .int .i64 n, .string u] 27))
  have q0 := FB.cell b0
  have q1 := FB.cell b1
  have q2 := FB.cell b2
  have hts : ((t.size : Int) == 0) = false := by rw [beq_eq_false_iff_ne]; omega
  clear FB
  go_wp2
  clear p0 p1 p2 q0 q1 q2 b0 b1 b2
  go_loopw [9] (fun i wr => ∃ k : Nat, k ≤ t.size ∧ i = .int .i64 k ∧ Hid (Fut w wr)) (fun i _ => t.size - (intOf i).toNat)
  case atStart => exact ⟨0, Nat.zero_le _, rfl, F4⟩
  case round =>
    obtain ⟨j, hj, rfl, hF⟩ := hrel
    by_cases hlt : j < t.size
    · have hb := HPR.out j hlt
      have e1 : ¬ (t[j].toNat : Int) < 32 := by omega
      have e2 : ¬ (126 : Int) < t[j].toNat := by omega
      have e3 : ¬ t[j].toNat < 32 := by omega
      have e4 : ¬ 126 < t[j].toNat := by omega
      go_wp2
      exact ⟨⟨j + 1, by omega, by go_num, hF⟩, by simp [intOf]; omega⟩
    · obtain rfl : j = t.size := by omega
      go_wp2_with fail
      refine (HR.out _ (HP.out.fut hF.out) (HE.out.fut hF.out)).mono ?_
      rintro e wa ⟨rfl, ha⟩
      have FA := Lib.hid (hF.out.trans (ha.trans (Fut.alloc wa (.cells #[.int .i8 (0), .int .i64 (0), .string (⟨#[]⟩)] 27))))
      go_wp2
      go_ret
      exact ⟨by first | rfl | simp, FA.out⟩
set_option maxHeartbeats 1000000 in
set_option maxRecDepth 100000 in
theorem there01 (x : V) (s : ByteArray) (w : World) (hT : Takes w) (hP : Pows w) (hE : Errs w) (hx : x.ok) (hs : s.size ≤ 140737488351232) (hc : chk x.k x.n x.s = 10) (hsh : showV x = (⟨#[]⟩, 10)) (y : V) (hr : readR s = (y, 0)) (hy : showV y = (s, 0)) (hcy : chk y.k y.n y.s = 0) :
    Calls Tryd.prog 5 #[x.val, .string s] w fun e w' => e = .returned (.bool true) ∧ Fut w w' := by
  have HT := Lib.hid hT
  have HP := Lib.hid hP
  have HE := Lib.hid hE
  have HSX := Lib.hid (fun w hP => show_any x w hx hP)
  rw [hsh] at HSX
  have HCX := Lib.hid (fun w => rcheck_any x.k x.n x.s w hx.2.2)
  rw [hc] at HCX
  have HR := Lib.hid (fun w hP hE => rread_to s (y, 0) hs hr w hP hE)
  have hyo : y.ok := by have := readR_ok s hs; rw [hr] at this; exact this
  have HS := Lib.hid (fun w hP => show_any y w hyo hP)
  rw [hy] at HS
  have HC := Lib.hid (fun w => check_any y.k y.n y.s w hyo.2.2)
  rw [hcy] at HC
  obtain ⟨k', n', s'⟩ := y
  simp only [tupR, tupS, V.val] at HR HS HC
  clear hyo hy hcy hr
  obtain ⟨k, n, u⟩ := x
  simp only [tupR, tupS, V.val] at HSX HCX ⊢
  clear hT hP hE hx hs hc hsh 
  go_enter Tryd.func5, Tryd.ntmps5
  go_wp2_with fail
  refine (lives_any _ (HT.out.fut (Fut.alloc _ _))).mono ?_
  rintro e w1 ⟨rfl, h1⟩
  have F1 := Lib.hid ((Fut.alloc w (.cells #[.int .i8 k, .int .i64 n, .string u] 27)).trans h1)
  obtain ⟨b0, b1, b2⟩ := boxV_at w k n u 27
  replace b0 := h1.cell b0
  replace b1 := h1.cell b1
  replace b2 := h1.cell b2
  go_wp2_with fail
  refine (HSX.out _ (HP.out.fut F1.out)).mono ?_
  rintro e w2 ⟨rfl, h2⟩
  have F2 := Lib.hid (F1.out.trans h2)
  replace b0 := h2.cell b0
  replace b1 := h2.cell b1
  replace b2 := h2.cell b2
  go_wp2_with fail
  refine (HCX.out _).mono ?_
  rintro e w3 ⟨rfl, h3⟩
  have F3 := Lib.hid (F2.out.trans h3)
  replace b0 := h3.cell b0
  replace b1 := h3.cell b1
  replace b2 := h3.cell b2
  go_wp2_with fail
  refine (HR.out _ (HP.out.fut F3.out) (HE.out.fut F3.out)).mono ?_
  rintro e wa ⟨rfl, ha⟩
  have FA := Lib.hid (F3.out.trans (ha.trans (Fut.alloc wa (.cells #[.int .i8 (k'), .int .i64 (n'), .string (s')] 27))))
  go_wp2_with fail
  refine (HS.out _ (HP.out.fut FA.out)).mono ?_
  rintro e wb ⟨rfl, hb⟩
  obtain ⟨p0, p1, p2⟩ := boxV_at wa k' n' s' 27
  replace p0 := hb.cell p0
  replace p1 := hb.cell p1
  replace p2 := hb.cell p2
  go_wp2_with fail
  refine (HC.out _).mono ?_
  rintro e wc ⟨rfl, hc⟩
  go_wp2
  go_ret
  exact ⟨by first | rfl | simp, FA.out.trans (hb.trans hc)⟩
set_option maxHeartbeats 1000000 in
set_option maxRecDepth 100000 in
theorem there00 (x : V) (s : ByteArray) (w : World) (hT : Takes w) (hP : Pows w) (hE : Errs w) (hx : x.ok) (hs : s.size ≤ 140737488351232) (hc : chk x.k x.n x.s = 10) (hsh : showV x = (⟨#[]⟩, 10)) (hr : readR s = (noV, 10)) :
    Calls Tryd.prog 5 #[x.val, .string s] w fun e w' => e = .returned (.bool true) ∧ Fut w w' := by
  have HT := Lib.hid hT
  have HP := Lib.hid hP
  have HE := Lib.hid hE
  have HSX := Lib.hid (fun w hP => show_any x w hx hP)
  rw [hsh] at HSX
  have HCX := Lib.hid (fun w => rcheck_any x.k x.n x.s w hx.2.2)
  rw [hc] at HCX
  have HR := Lib.hid (fun w hP hE => rread_to s (noV, 10) hs hr w hP hE)
  simp only [tupR, noV, V.val] at HR
  clear hr
  obtain ⟨k, n, u⟩ := x
  simp only [tupR, tupS, V.val] at HSX HCX ⊢
  clear hT hP hE hx hs hc hsh 
  go_enter Tryd.func5, Tryd.ntmps5
  go_wp2_with fail
  refine (lives_any _ (HT.out.fut (Fut.alloc _ _))).mono ?_
  rintro e w1 ⟨rfl, h1⟩
  have F1 := Lib.hid ((Fut.alloc w (.cells #[.int .i8 k, .int .i64 n, .string u] 27)).trans h1)
  obtain ⟨b0, b1, b2⟩ := boxV_at w k n u 27
  replace b0 := h1.cell b0
  replace b1 := h1.cell b1
  replace b2 := h1.cell b2
  go_wp2_with fail
  refine (HSX.out _ (HP.out.fut F1.out)).mono ?_
  rintro e w2 ⟨rfl, h2⟩
  have F2 := Lib.hid (F1.out.trans h2)
  replace b0 := h2.cell b0
  replace b1 := h2.cell b1
  replace b2 := h2.cell b2
  go_wp2_with fail
  refine (HCX.out _).mono ?_
  rintro e w3 ⟨rfl, h3⟩
  have F3 := Lib.hid (F2.out.trans h3)
  replace b0 := h3.cell b0
  replace b1 := h3.cell b1
  replace b2 := h3.cell b2
  go_wp2_with fail
  refine (HR.out _ (HP.out.fut F3.out) (HE.out.fut F3.out)).mono ?_
  rintro e wa ⟨rfl, ha⟩
  have FA := Lib.hid (F3.out.trans (ha.trans (Fut.alloc wa (.cells #[.int .i8 (0), .int .i64 (0), .string (⟨#[]⟩)] 27))))
  go_wp2
  go_ret
  exact ⟨by first | rfl | simp, FA.out⟩
end Go.Proofs.YtlihkmldclocoaaDoor
