/- P1.4: the document's Arith answers by the same function. -/
import Derived.Test.YtlihkmldclocoaaDoorArithV
import Derived.Test.YtlihkmldclocoaaDoorTwinE
import Derived.Test.YtlihkmldclocoaaDoorRead0
namespace Go.Proofs.YtlihkmldclocoaaDoor
open Go.RowKit
set_option linter.unusedSimpArgs false
set_option linter.unusedVariables false

set_option maxHeartbeats 800000 in
theorem rkinds_any (n : Nat) (K : Int) (a : Value) (xs : List V) (w : World) (ha : Vals w a xs) :
    Calls Tryd.prog 33 #[a, .int .i64 n, .int .i8 K] w fun e w' => e = .returned (.bool (fitsV n K xs)) ∧ Fut w w' := by
  obtain ⟨A, cap, rfl, hl, hm⟩ := SlRep.form ha
  by_cases hn : xs.length = n
  · subst hn
    have hlen : ((xs.length : Int) != xs.length) = false := by simp
    go_enter Tryd.func33, Tryd.ntmps33
    go_wp2
    go_loopw [7] (fun i wr => ∃ k : Nat, k ≤ xs.length ∧ i = .int .i64 k ∧ Hid ((xs.take k).all (good K) = true) ∧ Hid (Fut w wr)) (fun i _ => xs.length - (intOf i).toNat)
    case atStart => exact ⟨0, Nat.zero_le _, rfl, Lib.hid (by simp), Lib.hid (Fut.refl _)⟩
    case round =>
      obtain ⟨k, hk, rfl, hg, hf⟩ := hrel
      by_cases hlt : k < xs.length
      · obtain ⟨b, off, rfl, hok, x0, x1, x2⟩ := Vals.at_ (ha.fut RV.stays hf.out) hlt
        have hstep := Lib.hid (show (xs.take (k + 1)).all (good K) = good K (xs[k]) by rw [List.take_add_one, List.all_append, hg.out]; simp [hlt])
        have hall := Lib.hid (fun h : good K (xs[k]) = false => (show xs.all (good K) = false by rw [List.all_eq_false]; exact ⟨_, List.getElem_mem hlt, by simp [h]⟩))
        generalize hx : xs[k] = x at *
        obtain ⟨kk, nn, ss⟩ := x
        by_cases h1 : kk = K
        · have d1 : (kk != K) = false := by simp [h1]
          by_cases h2 : chk kk nn ss = 0
          · have hgd := Lib.hid (show good K ⟨kk, nn, ss⟩ = true by simp [good, h1]; rw [← h1]; exact h2)
            have H1 := Lib.hid h1
            clear h1
            have H2 := Lib.hid h2
            clear h2
            go_wp2_with fail
            refine (rcheck_any _ _ _ _ hok.2.2).mono ?_
            rintro e w1 ⟨rfl, h1⟩
            rw [H2.out]
            go_wp2
            exact ⟨⟨k + 1, by omega, by go_num, Lib.hid (by rw [hstep.out]; exact hgd.out), Lib.hid (hf.out.trans h1)⟩, by simp [intOf]; omega⟩
          · have d2 : (chk kk nn ss != 0) = true := by simpa using h2
            have hgd := Lib.hid (hall.out (show good K ⟨kk, nn, ss⟩ = false by simp [good, h2]))
            have H1 := Lib.hid h1
            clear h1
            clear h2
            go_wp2_with fail
            refine (rcheck_any _ _ _ _ hok.2.2).mono ?_
            rintro e w1 ⟨rfl, h1⟩
            go_wp2
            go_ret
            exact ⟨by rw [fitsV, hgd.out, Bool.and_false]; rfl, hf.out.trans h1⟩
        · have d1 : (kk != K) = true := by simpa using h1
          have hgd := Lib.hid (hall.out (show good K ⟨kk, nn, ss⟩ = false by simp [good, h1]))
          clear h1
          go_wp2
          go_ret
          exact ⟨by rw [fitsV, hgd.out, Bool.and_false]; rfl, hf.out⟩
      · obtain rfl : k = xs.length := by omega
        go_wp2
        go_ret
        refine ⟨?_, hf.out⟩
        have h1 := hg.out
        rw [List.take_length] at h1
        rw [fitsV, h1]
        simp
  · have hlen : ((xs.length : Int) != n) = true := by simp; omega
    have HN := Lib.hid hn
    clear hn
    go_enter Tryd.func33, Tryd.ntmps33
    go_wp2
    go_ret
    exact ⟨by have := HN.out; simp [fitsV, this], Fut.refl _⟩

set_option maxHeartbeats 400000 in
theorem rquot_any (a b : Int) (w : World) (hb : ¬ b = 0) :
    Calls Tryd.prog 71 #[.int .i64 a, .int .i64 b] w fun e w' => e = .returned (.int .i64 (wrap64 (a.tdiv b))) ∧ w' = w := by
  by_cases h1 : b = -1
  · have d1 : (b == -1) = true := by simpa using h1
    have hr := Lib.hid (show wrap64 (a.tdiv b) = wrap64 (-a) by rw [h1, Int.tdiv_neg, Int.tdiv_one])
    clear h1 hb
    go_enter Tryd.func71, Tryd.ntmps71
    go_wp2
    go_ret
    exact ⟨by rw [hr.out]; rfl, rfl⟩
  · have d1 : (b == -1) = false := by simpa using h1
    have d0 : (b == 0) = false := by simpa using hb
    clear h1
    go_enter Tryd.func71, Tryd.ntmps71
    go_wp2
    go_ret
    exact ⟨rfl, rfl⟩
theorem rest_eq (a b : Int) (h : -9223372036854775808 ≤ a ∧ a ≤ 9223372036854775807) : wrap64 (a - wrap64 (wrap64 (a.tdiv b) * b)) = a.tmod b := by
  obtain ⟨k, hk⟩ := wr_k (a.tdiv b)
  obtain ⟨j, hj⟩ := wr_k (wrap64 (a.tdiv b) * b)
  have h1 := Int.mul_tdiv_add_tmod a b
  have e : a - wrap64 (wrap64 (a.tdiv b) * b) = a.tmod b + (-(k * b) - j) * 18446744073709551616 := by
    rw [hj, hk, Int.add_mul, Int.sub_mul, Int.neg_mul, Int.mul_right_comm k]
    rw [Int.mul_comm] at h1
    omega
  rw [wr_eq _ e]
  apply wr_in
  have h2 : (a.tmod b).natAbs ≤ a.natAbs := by
    rw [Int.natAbs_tmod]; exact Nat.mod_le _ _
  have h3 : 0 ≤ a → 0 ≤ a.tmod b := fun h0 => Int.tmod_nonneg b h0
  have h4 : a < 0 → a.tmod b ≤ 0 := fun h0 => by
    have := Int.tmod_nonneg b (show 0 ≤ -a by omega)
    rw [Int.neg_tmod] at this; omega
  omega

set_option maxHeartbeats 800000 in
theorem rnum2_any (a b : Int) (w : World) (h : True) :
    Calls Tryd.prog 34 #[.int .i8 2, .int .i64 a, .int .i64 b] w fun e w' => e = .returned (pairR (numV (wrap64 (a + b)), true)) ∧ Fut w w' := by
  have hF : Fut w (w.alloc (.cells #[.int .i8 0, .int .i64 0, .string ⟨#[]⟩] 27)) := Fut.alloc _ _
  try subst h
  go_enter Tryd.func34, Tryd.ntmps34
  go_wp2
  exact bodyPost_ret (v := pairR (numV (wrap64 (a + b)), true)) (by simp [results, Tryd.results34, go_sem, pairR, pairV, noV, numV, V.val]) rfl ⟨rfl, by first | exact Fut.alloc _ _ | exact hF | exact ((hF.set (Nat.le_refl _) _).set (Nat.le_refl _) _).set (Nat.le_refl _) _⟩
set_option maxHeartbeats 800000 in
theorem rnum3_any (a b : Int) (w : World) (h : True) :
    Calls Tryd.prog 34 #[.int .i8 3, .int .i64 a, .int .i64 b] w fun e w' => e = .returned (pairR (numV (wrap64 (a - b)), true)) ∧ Fut w w' := by
  have hF : Fut w (w.alloc (.cells #[.int .i8 0, .int .i64 0, .string ⟨#[]⟩] 27)) := Fut.alloc _ _
  try subst h
  go_enter Tryd.func34, Tryd.ntmps34
  go_wp2
  exact bodyPost_ret (v := pairR (numV (wrap64 (a - b)), true)) (by simp [results, Tryd.results34, go_sem, pairR, pairV, noV, numV, V.val]) rfl ⟨rfl, by first | exact Fut.alloc _ _ | exact hF | exact ((hF.set (Nat.le_refl _) _).set (Nat.le_refl _) _).set (Nat.le_refl _) _⟩
set_option maxHeartbeats 800000 in
theorem rnum4_any (a b : Int) (w : World) (h : True) :
    Calls Tryd.prog 34 #[.int .i8 4, .int .i64 a, .int .i64 b] w fun e w' => e = .returned (pairR (numV (wrap64 (a * b)), true)) ∧ Fut w w' := by
  have hF : Fut w (w.alloc (.cells #[.int .i8 0, .int .i64 0, .string ⟨#[]⟩] 27)) := Fut.alloc _ _
  try subst h
  go_enter Tryd.func34, Tryd.ntmps34
  go_wp2
  exact bodyPost_ret (v := pairR (numV (wrap64 (a * b)), true)) (by simp [results, Tryd.results34, go_sem, pairR, pairV, noV, numV, V.val]) rfl ⟨rfl, by first | exact Fut.alloc _ _ | exact hF | exact ((hF.set (Nat.le_refl _) _).set (Nat.le_refl _) _).set (Nat.le_refl _) _⟩
set_option maxHeartbeats 800000 in
theorem rnum5n_any (a b : Int) (w : World) (h : b = 0) :
    Calls Tryd.prog 34 #[.int .i8 5, .int .i64 a, .int .i64 b] w fun e w' => e = .returned (pairR (noV, false)) ∧ Fut w w' := by
  have hF : Fut w (w.alloc (.cells #[.int .i8 0, .int .i64 0, .string ⟨#[]⟩] 27)) := Fut.alloc _ _
  try subst h
  go_enter Tryd.func34, Tryd.ntmps34
  go_wp2
  exact bodyPost_ret (v := pairR (noV, false)) (by simp [results, Tryd.results34, go_sem, pairR, pairV, noV, numV, V.val]) rfl ⟨rfl, by first | exact Fut.alloc _ _ | exact hF | exact ((hF.set (Nat.le_refl _) _).set (Nat.le_refl _) _).set (Nat.le_refl _) _⟩
set_option maxHeartbeats 800000 in
theorem rnum6n_any (a b : Int) (w : World) (h : b = 0) :
    Calls Tryd.prog 34 #[.int .i8 6, .int .i64 a, .int .i64 b] w fun e w' => e = .returned (pairR (noV, false)) ∧ Fut w w' := by
  have hF : Fut w (w.alloc (.cells #[.int .i8 0, .int .i64 0, .string ⟨#[]⟩] 27)) := Fut.alloc _ _
  try subst h
  go_enter Tryd.func34, Tryd.ntmps34
  go_wp2
  exact bodyPost_ret (v := pairR (noV, false)) (by simp [results, Tryd.results34, go_sem, pairR, pairV, noV, numV, V.val]) rfl ⟨rfl, by first | exact Fut.alloc _ _ | exact hF | exact ((hF.set (Nat.le_refl _) _).set (Nat.le_refl _) _).set (Nat.le_refl _) _⟩
set_option maxHeartbeats 800000 in
theorem rnum5y_any (a b : Int) (w : World) (hi : -9223372036854775808 ≤ a ∧ a ≤ 9223372036854775807) (hb : ¬ b = 0) :
    Calls Tryd.prog 34 #[.int .i8 5, .int .i64 a, .int .i64 b] w fun e w' => e = .returned (pairR (numV (wrap64 (a.tdiv b)), true)) ∧ Fut w w' := by
  have hF : Fut w (w.alloc (.cells #[.int .i8 0, .int .i64 0, .string ⟨#[]⟩] 27)) := Fut.alloc _ _
  have d0 : (b == 0) = false := by simpa using hb
  skip
  have HQ := Lib.hid (fun w => rquot_any a b w hb)
  generalize wrap64 (a.tdiv b) = q at HQ ⊢
  clear hb hi
  go_enter Tryd.func34, Tryd.ntmps34
  go_wp2_with fail
  refine (HQ.out _).mono ?_
  rintro e w1 ⟨rfl, rfl⟩
  go_wp2
  exact bodyPost_ret (v := pairR (numV q, true)) (by simp [results, Tryd.results34, go_sem, pairR, pairV, numV, V.val]) rfl ⟨rfl, by first | exact Fut.alloc _ _ | exact hF | exact ((hF.set (Nat.le_refl _) _).set (Nat.le_refl _) _).set (Nat.le_refl _) _⟩
set_option maxHeartbeats 800000 in
theorem rnum6y_any (a b : Int) (w : World) (hi : -9223372036854775808 ≤ a ∧ a ≤ 9223372036854775807) (hb : ¬ b = 0) :
    Calls Tryd.prog 34 #[.int .i8 6, .int .i64 a, .int .i64 b] w fun e w' => e = .returned (pairR (numV (a.tmod b), true)) ∧ Fut w w' := by
  have hF : Fut w (w.alloc (.cells #[.int .i8 0, .int .i64 0, .string ⟨#[]⟩] 27)) := Fut.alloc _ _
  have d0 : (b == 0) = false := by simpa using hb
  rw [← rest_eq a b hi]
  have HQ := Lib.hid (fun w => rquot_any a b w hb)
  generalize wrap64 (a.tdiv b) = q at HQ ⊢
  clear hb hi
  go_enter Tryd.func34, Tryd.ntmps34
  go_wp2_with fail
  refine (HQ.out _).mono ?_
  rintro e w1 ⟨rfl, rfl⟩
  go_wp2
  exact bodyPost_ret (v := pairR (numV (wrap64 (a - wrap64 (q * b))), true)) (by simp [results, Tryd.results34, go_sem, pairR, pairV, numV, V.val]) rfl ⟨rfl, by first | exact Fut.alloc _ _ | exact hF | exact ((hF.set (Nat.le_refl _) _).set (Nat.le_refl _) _).set (Nat.le_refl _) _⟩
theorem rnums_any (O a b : Int) (w : World) (hO : 2 ≤ O ∧ O ≤ 6) (hi : -9223372036854775808 ≤ a ∧ a ≤ 9223372036854775807) :
    Calls Tryd.prog 34 #[.int .i8 O, .int .i64 a, .int .i64 b] w fun e w' => e = .returned (pairR (numsV O a b)) ∧ Fut w w' := by
  rcases (by omega : O = 2 ∨ O = 3 ∨ O = 4 ∨ O = 5 ∨ O = 6) with rfl | rfl | rfl | rfl | rfl
  · exact rnum2_any a b w trivial
  · exact rnum3_any a b w trivial
  · exact rnum4_any a b w trivial
  · by_cases h0 : b = 0
    · rw [show numsV 5 a b = (noV, false) by simp [numsV, h0]]; exact rnum5n_any a b w h0
    · rw [show numsV 5 a b = (numV (wrap64 (a.tdiv b)), true) by simp [numsV, h0]]; exact rnum5y_any a b w hi h0
  · by_cases h0 : b = 0
    · rw [show numsV 6 a b = (noV, false) by simp [numsV, h0]]; exact rnum6n_any a b w h0
    · rw [show numsV 6 a b = (numV (a.tmod b), true) by simp [numsV, h0]]; exact rnum6y_any a b w hi h0

/-! ### Texts -/
def RS (_ : World) (cs : List Value) (x : List UInt8) : Prop := cs = [.string ⟨x.toArray⟩]
theorem RS.stays : Stays RS := fun _ _ _ _ _ h => h
theorem RS.one : ∀ (w : World) cs x, RS w cs x → ∀ u ∈ cs, u.oneCell' = true := fun w cs x h u hu => by
  rw [h] at hu; simp only [List.mem_singleton] at hu; subst hu; rfl
theorem RS.keeps {e : TypeId} : Keeps e RS := fun _ _ _ _ _ h _ _ => h
theorem infoS : (Tryd.prog.info? 9).map (fun i => (i.zero, i.size, i.bytes)) = some (some (.string ⟨#[]⟩), 1, 16) := by kernel_rfl
theorem strs_one (w : World) (t : ByteArray) (x : List UInt8) (e : TypeId) (ht : t.data.toList = x) : SlRep 1 1 RS (w.alloc (.cells #[.string t] e)) (.slice (some ⟨w.heap.size, 0, none⟩) 1 1) [x] := by
  refine ⟨_, 1, rfl, Nat.le_refl _, Nat.le_refl _, fun i y hy => ⟨w.heap.size, 0, [.string t], rfl, rfl, fun j c hj => ?_, ?_⟩⟩
  · have hil : i < 1 := (List.getElem?_eq_some_iff.1 hy).1
    have hjl : j < 1 := (List.getElem?_eq_some_iff.1 hj).1
    obtain rfl : i = 0 := by omega
    obtain rfl : j = 0 := by omega
    refine (World.cell?_alloc_mark w _ _ (0, 0) _).trans ?_
    simpa using hj
  · have hil : i < 1 := (List.getElem?_eq_some_iff.1 hy).1
    obtain rfl : i = 0 := by omega
    simp only [List.getElem?_cons_zero, Option.some.injEq] at hy
    subst hy
    show [Value.string t] = [.string ⟨x.toArray⟩]
    rw [← ht]
theorem cut_list (s : ByteArray) (a b : Nat) : (s.extract a b).data.toList = (s.data.toList.drop a).take (b - a) := by
  simp [ByteArray.data_extract]
set_option maxHeartbeats 1000000 in
theorem rchars_any (s : ByteArray) (w : World) (hs : s.size ≤ 200) :
    Calls Tryd.prog 72 #[.string s] w fun e w' => ∃ v, e = .returned v ∧ OwnL 1 w.heap.size 9 RS w' v (chars s.data.toList) ∧ Fut w w' := by
  have HL := Lib.hid (Lib.size_eq s).symm
  go_enter Tryd.func72, Tryd.ntmps72
  go_wp2
  go_loopw [3, 4] (fun o i wr => ∃ (pos : Nat) (acc : List (List UInt8)), i = .int .i64 pos ∧ pos ≤ s.size ∧ Hid (acc.length ≤ pos) ∧ Hid (chars s.data.toList = acc ++ chars (s.data.toList.drop pos)) ∧ Hid (OwnL 1 w.heap.size 9 RS wr o acc) ∧ Hid (Fut w wr)) (fun _ i _ => s.size - (intOf i).toNat)
  case atStart => exact ⟨0, [], rfl, Nat.zero_le _, Lib.hid (by simp), Lib.hid (by simp), Lib.hid OwnL.nil, Lib.hid (Fut.refl _)⟩
  case round =>
    obtain ⟨pos, acc, rfl, hps, hal, hc, hO, hF⟩ := hrel
    by_cases hp : pos < s.size
    · have hne : s.data.toList.drop pos ≠ [] := fun e => by have := congrArg List.length e; have h2 := HL.out; simp at this; simp at h2; omega
      have hch := Lib.hid (fun w => char_any s pos w hp (by omega))
      rw [charV_eq _ hne] at hch
      have hcc := Lib.hid (chars_cons _ hne)
      have hlw := Lib.hid (wd_le _ hne)
      have hpw := Lib.hid (wd_pos (s.data.toList.drop pos))
      have hdr : Hid ((s.data.toList.drop pos).drop (wd (s.data.toList.drop pos)) = s.data.toList.drop (pos + wd (s.data.toList.drop pos))) := Lib.hid (by rw [List.drop_drop])
      rw [hdr.out] at hcc
      obtain ⟨n, hn⟩ : ∃ n, wd (s.data.toList.drop pos) = n := ⟨_, rfl⟩
      rw [hn] at hch hcc hlw hpw
      have e3 : pos + n ≤ s.size := by have := hlw.out; rw [List.length_drop, HL.out] at this; omega
      have e4 : 1 ≤ n := hpw.out
      have hn2 := Lib.hid (show chars s.data.toList = (acc ++ [(s.data.toList.drop pos).take n]) ++ chars (s.data.toList.drop (pos + n)) by rw [hc.out, hcc.out]; simp)
      have hcut := Lib.hid (show (s.extract pos (pos + n)).data.toList = (s.data.toList.drop pos).take n by rw [cut_list, Nat.add_sub_cancel_left])
      obtain ⟨ok, hok⟩ : ∃ ok, okc ((s.data.toList.drop pos).take n) = ok := ⟨_, rfl⟩
      rw [hok] at hch
      generalize (s.data.toList.drop pos).take n = c at hn2 hcut
      clear hdr hn hlw hpw hne hok hcc hc
      go_wp2_with fail
      refine (hch.out _).mono ?_
      rintro e w1 ⟨rfl, rfl⟩
      simp only [tupC]
      have e5 : (pos : Int) + n ≤ s.size := by omega
      go_wp2_with (at_builtin; refine wpList_append_L (R := RS) (B := w.heap.size) (xs := acc) (ys := [c]) (e := 9) (by go_simp) _ _ 91 rfl Tryd.underlying91 (.string ⟨#[]⟩) 16 infoS rfl (by decide) RS.one RS.keeps rfl rfl (hO.out.fut RS.stays (Fut.alloc _ _)) (strs_one _ _ c _ hcut.out) ?l1 ?l2 ?b1 ?k1)
      case l1 => have := hal.out; simp [maxLen]; omega
      case l2 => have := hal.out; simp; omega
      case b1 => have := (hF.out).size; simp; omega
      case k1 =>
      intro v' w' o' g'
      have F' := Lib.hid (Fut.grown ((hF.out).trans (Fut.alloc _ _)) g' (fun k hk => (hO.out.block k hk).1))
      have O' := Lib.hid o'
      have A' := Lib.hid (show (acc ++ [c]).length ≤ pos + n by have := hal.out; simp; omega)
      clear g' o'
      go_wp2
      exact ⟨⟨pos + n, _, by go_num, e3, A', hn2, O', F'⟩, by simp [intOf]; omega⟩
    · obtain rfl : pos = s.size := by omega
      have hn2 := Lib.hid (show chars s.data.toList = acc by rw [hc.out, List.drop_of_length_le (by have := HL.out; omega), chars_nil, List.append_nil])
      clear hc
      go_wp2
      go_ret
      exact ⟨_, rfl, by rw [hn2.out]; exact hO.out, hF.out⟩

theorem list_str (s : ByteArray) (l : List UInt8) : s = ⟨l.toArray⟩ ↔ s.data.toList = l :=
  ⟨fun h => by rw [h], fun h => by rw [← h]⟩
theorem rs_at {w : World} {A : Option Addr} {n cap M : Nat} {xs : List (List UInt8)} (h : SlRep 1 M RS w (.slice A n cap) xs) {k : Nat} (hk : k < xs.length) :
    ∃ b off, A = some ⟨b, off, none⟩ ∧ w.cell? ⟨b, off + k, none⟩ = some (.string ⟨(xs[k]).toArray⟩) := by
  obtain ⟨A', cap', hv, _, _, h3⟩ := h
  obtain ⟨b, off, cs, hA, hl, hc, hr⟩ := h3 k _ (List.getElem?_eq_getElem hk)
  injection hv with hv _ _
  have hr : cs = [.string ⟨(xs[k]).toArray⟩] := hr
  subst hr
  exact ⟨b, off, hv.trans hA, by have := hc 0 _ rfl; simpa using this⟩
theorem rev_flat {α : Type} (l : List (List α)) : l.reverse.flatten.length = l.flatten.length := by
  induction l with
  | nil => rfl
  | cons a r ih => simp only [List.reverse_cons, List.flatten_append, List.length_append, List.flatten_cons, List.flatten_nil, List.length_nil, ih]; omega
theorem drop_flat {α : Type} (l : List (List α)) (k : Nat) : ((l.drop k).reverse).flatten.length ≤ l.flatten.length := by
  rw [rev_flat]
  have : l.flatten.length = (l.take k).flatten.length + (l.drop k).flatten.length := by rw [← List.length_append, ← List.flatten_append, List.take_append_drop]
  omega
set_option maxHeartbeats 800000 in
theorem rtext8 (s : ByteArray) (w : World) (hs : s.size ≤ 200) :
    Calls Tryd.prog 35 #[.int .i8 8, .string s] w fun e w' => e = .returned (pairR (numV s.size, true)) ∧ Fut w w' := by
  go_enter Tryd.func35, Tryd.ntmps35
  go_wp2
  exact bodyPost_ret (v := pairR (numV s.size, true)) (by simp [results, Tryd.results35, go_sem, pairR, pairV, numV, V.val]) rfl ⟨rfl, Fut.alloc _ _⟩
set_option maxHeartbeats 800000 in
theorem rtext9 (s : ByteArray) (w : World) (hs : s.size ≤ 200) :
    Calls Tryd.prog 35 #[.int .i8 9, .string s] w fun e w' => e = .returned (pairR (numV (nch s), true)) ∧ Fut w w' := by
  unfold nch
  have HC := Lib.hid (fun w => rchars_any s w hs)
  generalize chars s.data.toList = l at HC ⊢
  go_enter Tryd.func35, Tryd.ntmps35
  go_wp2_with fail
  refine (HC.out _).mono ?_
  rintro e w1 ⟨v, rfl, hO, h1⟩
  obtain ⟨A, cap, rfl, _, _⟩ := hO.rep.form
  clear hO
  have c0 : w1.cell? ⟨w.heap.size, 0, none⟩ = some (.int .i8 0) := h1.cell (by go_simp)
  have c1 : w1.cell? ⟨w.heap.size, 1, none⟩ = some (.int .i64 0) := h1.cell (by go_simp)
  have c2 : w1.cell? ⟨w.heap.size, 2, none⟩ = some (.string ⟨#[]⟩) := h1.cell (by go_simp)
  have z0 : w1.frozen? ⟨w.heap.size, 0, none⟩ = false := h1.free (by simp) (by go_simp)
  have z1 : w1.frozen? ⟨w.heap.size, 1, none⟩ = false := h1.free (by simp) (by go_simp)
  have z2 : w1.frozen? ⟨w.heap.size, 2, none⟩ = false := h1.free (by simp) (by go_simp)
  go_wp2
  exact bodyPost_ret (v := pairR (numV l.length, true)) (by simp [results, Tryd.results35, go_sem, pairR, pairV, numV, V.val, z0, z1, z2, c0, c1, c2]) rfl ⟨rfl, ((((Fut.alloc _ _).trans h1).set (Nat.le_refl _) _).set (Nat.le_refl _) _).set (Nat.le_refl _) _⟩
set_option maxHeartbeats 1000000 in
theorem rtext10 (s : ByteArray) (w : World) (hs : s.size ≤ 200) :
    Calls Tryd.prog 35 #[.int .i8 10, .string s] w fun e w' => e = .returned (pairR (txtV (bk s), true)) ∧ Fut w w' := by
  unfold bk backL
  have HC := Lib.hid (fun w => rchars_any s w hs)
  have hfl : (chars s.data.toList).flatten.length ≤ 200 := by rw [chars_flat, ← Lib.size_eq]; exact hs
  generalize chars s.data.toList = l at HC hfl ⊢
  have HL := Lib.hid hfl
  clear hfl
  go_enter Tryd.func35, Tryd.ntmps35
  go_wp2_with fail
  refine (HC.out _).mono ?_
  rintro e w1 ⟨v, rfl, hO, h1⟩
  have hr := hO.rep
  obtain ⟨A, cap, rfl, hl1, hl2⟩ := hr.form
  clear hO
  have c0 : w1.cell? ⟨w.heap.size, 0, none⟩ = some (.int .i8 0) := h1.cell (by go_simp)
  have c1 : w1.cell? ⟨w.heap.size, 1, none⟩ = some (.int .i64 0) := h1.cell (by go_simp)
  have c2 : w1.cell? ⟨w.heap.size, 2, none⟩ = some (.string ⟨#[]⟩) := h1.cell (by go_simp)
  have z0 : w1.frozen? ⟨w.heap.size, 0, none⟩ = false := h1.free (by simp) (by go_simp)
  have z1 : w1.frozen? ⟨w.heap.size, 1, none⟩ = false := h1.free (by simp) (by go_simp)
  have z2 : w1.frozen? ⟨w.heap.size, 2, none⟩ = false := h1.free (by simp) (by go_simp)
  have hlm : l.length ≤ 9223372036854775807 := by unfold maxLen at hl2; omega
  clear hl1 hl2
  go_wp2
  go_loopw [7, 8] (fun b i wr => ∃ (k : Nat) (t : ByteArray), k ≤ l.length ∧ ((k = 0 ∧ i = .int .i64 (-1)) ∨ ∃ m, k = m + 1 ∧ i = .int .i64 (m : Nat)) ∧ b = .string t ∧ Hid (t.data.toList = ((l.drop k).reverse).flatten) ∧ wr = w1) (fun _ i _ => (intOf i + 1).toNat)
  case atStart =>
    cases hll : l.length with
    | zero => exact ⟨0, ⟨#[]⟩, by omega, .inl ⟨rfl, by simp⟩, rfl, Lib.hid (by rw [List.eq_nil_of_length_eq_zero hll]; rfl), rfl⟩
    | succ m => exact ⟨m + 1, ⟨#[]⟩, by omega, .inr ⟨m, rfl, by go_num⟩, rfl, Lib.hid (by rw [List.drop_of_length_le (by omega)]; rfl), rfl⟩
  case round =>
    obtain ⟨k, t, hk, hi, rfl, ht, rfl⟩ := hrel
    rcases hi with ⟨rfl, rfl⟩ | ⟨m, rfl, rfl⟩
    · have hres := Lib.hid (show t = ⟨(l.reverse.flatten).toArray⟩ from (list_str _ _).2 (by rw [ht.out, List.drop_zero]))
      go_wp2
      exact bodyPost_ret (v := pairR (txtV t, true)) (by simp [results, Tryd.results35, go_sem, pairR, pairV, txtV, V.val, z0, z1, z2, c0, c1, c2]) rfl ⟨by rw [← hres.out], ((((Fut.alloc _ _).trans h1).set (Nat.le_refl _) _).set (Nat.le_refl _) _).set (Nat.le_refl _) _⟩
    · obtain ⟨b, off, rfl, x0⟩ := rs_at hr (show m < l.length by omega)
      have hn := Lib.hid (show (t ++ ⟨(l[m]'(by omega)).toArray⟩ : ByteArray).data.toList = ((l.drop m).reverse).flatten by
        rw [List.drop_eq_getElem_cons (show m < l.length by omega), List.reverse_cons, List.flatten_append, ← ht.out]; simp)
      have hsz : (t ++ ⟨(l[m]'(by omega)).toArray⟩ : ByteArray).size ≤ 200 := by rw [Lib.size_eq, hn.out]; exact Nat.le_trans (drop_flat l m) HL.out
      obtain ⟨u, hu⟩ : ∃ u : ByteArray, ⟨(l[m]'(by omega)).toArray⟩ = u := ⟨_, rfl⟩
      rw [hu] at hn hsz x0
      rw [ByteArray.size_append] at hsz
      clear hu ht
      go_wp2
      refine ⟨⟨m, _, by omega, ?_, rfl, hn, by first | exact trivial | rfl⟩, by simp [intOf] <;> omega⟩
      cases m with
      | zero => exact .inl ⟨rfl, by simp⟩
      | succ j => exact .inr ⟨j, rfl, by go_num⟩
theorem rtexts_any (O : Int) (s : ByteArray) (w : World) (hO : 8 ≤ O ∧ O ≤ 10) (hs : s.size ≤ 200) :
    Calls Tryd.prog 35 #[.int .i8 O, .string s] w fun e w' => e = .returned (pairR (textsV O s)) ∧ Fut w w' := by
  rcases (by omega : O = 8 ∨ O = 9 ∨ O = 10) with rfl | rfl | rfl
  · exact rtext8 s w hs
  · exact rtext9 s w hs
  · exact rtext10 s w hs
end Go.Proofs.YtlihkmldclocoaaDoor
