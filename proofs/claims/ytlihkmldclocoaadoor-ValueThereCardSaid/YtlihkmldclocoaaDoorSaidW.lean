/- value.said. -/
import Derived.Test.YtlihkmldclocoaaDoorSaid
namespace Go.Proofs.YtlihkmldclocoaaDoor
open Go.RowKit
set_option linter.unusedSimpArgs false
set_option linter.unusedVariables false

def saidV : Option (List UInt8) → Value
  | some t => .tuple #[.string ⟨t.toArray⟩, .bool true]
  | none => .tuple #[.string ⟨#[]⟩, .bool false]
theorem drop_one (s : ByteArray) (k : Nat) (h : k < s.size) : s.data.toList.drop k = s[k] :: s.data.toList.drop (k + 1) := by
  have h' : k < s.data.toList.length := by rw [← Lib.size_eq]; exact h
  rw [List.drop_eq_getElem_cons h']
  rfl
theorem saidS_plain (c : UInt8) (r : List UInt8) (h : c.toNat ≠ 92) : saidS (c :: r) = (saidS r).map (c :: ·) := by
  rw [saidS.eq_def]; simp [h]
theorem saidS_stop : saidS [92] = none := by rw [saidS.eq_def]; simp
theorem saidS_n (r : List UInt8) : saidS (92 :: 110 :: r) = (saidS r).map (10 :: ·) := by rw [saidS.eq_def]; simp
theorem saidS_two (d : UInt8) (r : List UInt8) (h : d.toNat ≠ 110) (h' : d.toNat ≠ 120) : saidS (92 :: d :: r) = (saidS r).map (d :: ·) := by rw [saidS.eq_def]; simp [h, h']
theorem saidS_short (r : List UInt8) (h : r.length < 2) : saidS (92 :: 120 :: r) = none := by
  rw [saidS.eq_def]
  match r, h with
  | [], _ => simp
  | [_], _ => simp
theorem saidS_hex (a b : UInt8) (r : List UInt8) (x y : Nat) (hx : hexv a = some x) (hy : hexv b = some y) : saidS (92 :: 120 :: a :: b :: r) = (saidS r).map (UInt8.ofNat (16 * x + y) :: ·) := by rw [saidS.eq_def]; simp [hx, hy]
theorem saidS_bad (a b : UInt8) (r : List UInt8) (h : hexv a = none ∨ hexv b = none) : saidS (92 :: 120 :: a :: b :: r) = none := by
  rw [saidS.eq_def]
  rcases h with h | h
  · simp [h]
  · cases hexv a <;> simp [h]
theorem map_app (o : Option (List UInt8)) (acc : List UInt8) (y : UInt8) : (o.map (y :: ·)).map (acc ++ ·) = o.map ((acc ++ [y]) ++ ·) := by
  cases o <;> simp
theorem ext_at (s : ByteArray) (k : Nat) (h : k + 1 < s.size) : ∃ h0 h1, (s.extract k (k + 2))[0]'h0 = s[k] ∧ (s.extract k (k + 2))[1]'h1 = s[k + 1] := by
  have hsz : (s.extract k (k + 2)).size = 2 := by rw [ByteArray.size_extract]; omega
  have h' : k + 1 < s.data.size := h
  refine ⟨by omega, by omega, ?_, ?_⟩
  · have e : (s.extract k (k + 2)).data.toList[0]? = s.data.toList[k]? := by rw [Lib.extract_data]; simp
    have e1 : (s.extract k (k + 2)).data.toList[0]? = some ((s.extract k (k + 2))[0]'(by omega)) := by
      have : 0 < (s.extract k (k + 2)).data.size := by show 0 < (s.extract k (k + 2)).size; omega
      rw [Array.getElem?_toList, Array.getElem?_eq_getElem this]; rfl
    have e2 : s.data.toList[k]? = some s[k] := by
      have : k < s.data.size := by omega
      rw [Array.getElem?_toList, Array.getElem?_eq_getElem this]; rfl
    rw [e1, e2] at e
    exact Option.some.inj e
  · have e : (s.extract k (k + 2)).data.toList[1]? = s.data.toList[k + 1]? := by rw [Lib.extract_data]; simp
    have e1 : (s.extract k (k + 2)).data.toList[1]? = some ((s.extract k (k + 2))[1]'(by omega)) := by
      have : 1 < (s.extract k (k + 2)).data.size := by show 1 < (s.extract k (k + 2)).size; omega
      rw [Array.getElem?_toList, Array.getElem?_eq_getElem this]; rfl
    have e2 : s.data.toList[k + 1]? = some s[k + 1] := by
      rw [Array.getElem?_toList, Array.getElem?_eq_getElem h']; rfl
    rw [e1, e2] at e
    exact Option.some.inj e
theorem puint_sub (s : ByteArray) (k : Nat) (w : World) (h : k + 1 < s.size) (hE : Errs w) :
    Calls Tryd.prog 81 #[.string (s.extract k (k + 2)), .int .i64 16, .int .i64 8] w fun e w' =>
      ((∃ x y, hexv (s[k]'(by omega)) = some x ∧ hexv s[k + 1] = some y ∧ e = .returned (.tuple #[.int .u64 (16 * x + y : Nat), .nilIface])) ∨ ((hexv (s[k]'(by omega)) = none ∨ hexv s[k + 1] = none) ∧ ∃ te pe, e = .returned (.tuple #[.int .u64 0, .iface te pe]))) ∧ Fut w w' := by
  obtain ⟨h0, h1, e0, e1⟩ := ext_at s k h
  have := puint_any (s.extract k (k + 2)) w (by rw [ByteArray.size_extract]; omega) hE
  rw [e0, e1] at this
  exact this

set_option maxHeartbeats 4000000 in
set_option maxRecDepth 100000 in
theorem said_any (s : ByteArray) (w : World) (hs : s.size ≤ 140737488351232) (hE : Errs w) :
    Calls Tryd.prog 47 #[.string s] w fun e w' => e = .returned (saidV (saidS s.data.toList)) ∧ Fut w w' := by
  have hl := Lib.hid (Lib.size_eq s).symm
  have HE := Lib.hid hE
  clear hE
  obtain ⟨R, hR⟩ : ∃ R, saidS s.data.toList = R := ⟨_, rfl⟩
  rw [hR]
  have HR := Lib.hid hR
  clear hR
  go_enter Tryd.func47, Tryd.ntmps47
  go_wp2
  go_loopw [4, 5] (fun o i wr => ∃ (k : Nat) (acc : List UInt8), i = .int .i64 k ∧ k ≤ s.size ∧ Hid (acc.length ≤ k) ∧ Hid ((saidS (s.data.toList.drop k)).map (acc ++ ·) = R) ∧ Hid (OwnB w.heap.size 5 wr o acc) ∧ Hid (Fut w wr)) (fun _ i _ => s.size - (intOf i).toNat)
  case atStart => exact ⟨0, [], rfl, Nat.zero_le _, Lib.hid (by simp), Lib.hid (by rw [List.drop_zero, HR.out]; cases R <;> simp), Lib.hid OwnL.nil, Lib.hid (Fut.refl _)⟩
  case round =>
    obtain ⟨k, acc, rfl, hk, hal, hinv, hO, hF⟩ := hrel
    by_cases hlt : k < s.size
    · have hd1 := Lib.hid (drop_one s k hlt)
      have hb0 := s[k].toNat_lt
      by_cases c1 : s[k].toNat = 92
      · have d1 : ((s[k].toNat : Int) != 92) = false := by simp [c1]
        have hc92 : s[k] = 92 := UInt8.toNat_inj.1 c1
        rw [hc92] at hd1
        by_cases c2 : k + 1 < s.size
        · have i2 : ((k : Int) + 1 == s.size) = false := by simp; omega
          have hd2 := Lib.hid (drop_one s (k + 1) c2)
          have hb1 := s[k + 1].toNat_lt
          by_cases c3 : s[k + 1].toNat = 110
          · have d3 : ((s[k + 1].toNat : Int) == 110) = true := by simp [c3]
            have hc : s[k + 1] = 110 := UInt8.toNat_inj.1 c3
            rw [hc] at hd2
            clear c1 hc92 c3 hc
            have hn := Lib.hid (show (saidS (s.data.toList.drop (k + 2))).map ((acc ++ [10]) ++ ·) = R by rw [← hinv.out, hd1.out, hd2.out, saidS_n, map_app])
            go_wp2_with (at_builtin; refine wpList_append_B (by go_simp) _ _ 93 5 rfl Tryd.underlying93 infoB w.heap.size _ _ acc [10] rfl rfl (hO.out.fut RB.stays (Fut.alloc _ _)) (bytes_new _ [10] _ _ _ rfl (by first | rfl | simp) (by decide)) ?l1 ?b1 ?k1)
            case l1 => have := hal.out; simp; omega
            case b1 => have := (hF.out).size; simp; omega
            case k1 =>
            intro v' w' o' g'
            have F' := Lib.hid (Fut.grown ((hF.out).trans (Fut.alloc _ _)) g' (fun k hk => (hO.out.block k hk).1))
            have O' := Lib.hid o'
            have A' := Lib.hid (show (acc ++ [10]).length ≤ k + 2 by have := hal.out; simp; omega)
            clear g' o'
            go_wp2
            exact ⟨⟨k + 2, _, by go_num, by omega, A', hn, O', F'⟩, by simp [intOf]; omega⟩
          · have d3 : ((s[k + 1].toNat : Int) == 110) = false := by simp; omega
            by_cases c4 : s[k + 1].toNat = 120
            · have d4 : ((s[k + 1].toNat : Int) != 120) = false := by simp [c4]
              have hc : s[k + 1] = 120 := UInt8.toNat_inj.1 c4
              rw [hc] at hd2
              by_cases c5 : k + 3 < s.size
              · have i5 : (k : Int) + 3 < s.size := by omega
                have hd3 := Lib.hid (drop_two s (k + 2) c5)
                have HP := Lib.hid (fun w hE => puint_sub s (k + 2) w c5 hE)
                clear c1 hc92 c3 c4 hc
                go_wp2_with fail
                refine (HP.out _ (HE.out.fut hF.out)).mono ?_
                rintro e w1 ⟨⟨x, y, hx, hy, rfl⟩ | ⟨hbad, te, pe, rfl⟩, F1⟩
                · have hx15 := hexv_le _ _ hx; have hy15 := hexv_le _ _ hy
                  have hu8 : IntKind.u8.wrap ((16 * x + y : Nat) : Int) = ((UInt8.ofNat (16 * x + y)).toNat : Int) := by simp [IntKind.wrap, IntKind.signed, IntKind.bits] <;> omega
                  have hn' := Lib.hid (show (saidS (s.data.toList.drop (k + 4))).map ((acc ++ [UInt8.ofNat (16 * x + y)]) ++ ·) = R by rw [← hinv.out, hd1.out, hd2.out, hd3.out, saidS_hex _ _ _ _ _ hx hy, map_app])
                  obtain ⟨z, hz⟩ : ∃ z, 16 * x + y = z := ⟨_, rfl⟩
                  rw [hz] at hu8 hn' ⊢
                  have hz255 : z ≤ 255 := by omega
                  generalize UInt8.ofNat z = q at hu8 hn'
                  have O1 := Lib.hid (hO.out.fut RB.stays F1)
                  have FF := Lib.hid (hF.out.trans F1)
                  clear hx hy hz hx15 hy15 hd1 hd2 hd3 HP
                  have hn := Lib.hid (show (saidS (s.data.toList.drop (k + 4))).map ((acc ++ [q]) ++ ·) = R by exact hn'.out)
                  go_wp2_with (at_builtin; refine wpList_append_B (by go_simp) _ _ 93 5 rfl Tryd.underlying93 infoB w.heap.size _ _ acc [q] rfl rfl (O1.out.fut RB.stays (Fut.alloc _ _)) (bytes_new _ [q] _ _ _ rfl (by first | rfl | simp) (by decide)) ?l1 ?b1 ?k1)
                  case l1 => have := hal.out; simp; omega
                  case b1 => have := (FF.out).size; simp; omega
                  case k1 =>
                  intro v' w' o' g'
                  have F' := Lib.hid (Fut.grown ((FF.out).trans (Fut.alloc _ _)) g' (fun k hk => (hO.out.block k hk).1))
                  have O' := Lib.hid o'
                  have A' := Lib.hid (show (acc ++ [q]).length ≤ k + 4 by have := hal.out; simp; omega)
                  clear g' o'
                  go_wp2
                  exact ⟨⟨k + 4, _, by go_num, by omega, A', hn, O', F'⟩, by simp [intOf]; omega⟩
                · have HB := Lib.hid hbad
                  clear hbad
                  have hr := Lib.hid (show R = none by rw [← hinv.out, hd1.out, hd2.out, hd3.out, saidS_bad _ _ _ HB.out]; rfl)
                  clear hinv
                  go_wp2
                  exact bodyPost_ret (v := saidV none) (by simp [results, Tryd.results47, go_sem, saidV]) rfl ⟨by rw [hr.out], hF.out.trans F1⟩
              · have i5 : ¬ (k : Int) + 3 < s.size := by omega
                have i6 : (s.size : Int) ≤ (k : Int) + 3 := by omega
                have hln := Lib.hid (show (s.data.toList.drop (k + 1 + 1)).length < 2 by rw [List.length_drop, hl.out]; omega)
                clear c1 hc92 c3 c4 hc
                have hr := Lib.hid (show R = none by rw [← hinv.out, hd1.out, hd2.out, saidS_short _ hln.out]; rfl)
                clear hinv
                go_wp2
                exact bodyPost_ret (v := saidV none) (by simp [results, Tryd.results47, go_sem, saidV]) rfl ⟨by rw [hr.out], hF.out⟩
            · have d4 : ((s[k + 1].toNat : Int) != 120) = true := by simp; omega
              have hst := Lib.hid (saidS_two s[k + 1] (s.data.toList.drop (k + 1 + 1)) c3 c4)
              clear c1 hc92 c3 c4
              have hn := Lib.hid (show (saidS (s.data.toList.drop (k + 2))).map ((acc ++ [s[k + 1]]) ++ ·) = R by rw [← hinv.out, hd1.out, hd2.out, hst.out, map_app])
              go_wp2_with (at_builtin; refine wpList_append_B (by go_simp) _ _ 93 5 rfl Tryd.underlying93 infoB w.heap.size _ _ acc [s[k + 1]] rfl rfl (hO.out.fut RB.stays (Fut.alloc _ _)) (bytes_new _ [s[k + 1]] _ _ _ rfl (by first | rfl | simp) (by decide)) ?l1 ?b1 ?k1)
              case l1 => have := hal.out; simp; omega
              case b1 => have := (hF.out).size; simp; omega
              case k1 =>
              intro v' w' o' g'
              have F' := Lib.hid (Fut.grown ((hF.out).trans (Fut.alloc _ _)) g' (fun k hk => (hO.out.block k hk).1))
              have O' := Lib.hid o'
              have A' := Lib.hid (show (acc ++ [s[k + 1]]).length ≤ k + 2 by have := hal.out; simp; omega)
              clear g' o'
              go_wp2
              exact ⟨⟨k + 2, _, by go_num, by omega, A', hn, O', F'⟩, by simp [intOf]; omega⟩
        · have i2 : ((k : Int) + 1 == s.size) = true := by simp; omega
          have hdn := Lib.hid (show s.data.toList.drop (k + 1) = [] from List.drop_of_length_le (by rw [hl.out]; omega))
          clear c1 hc92
          have hr := Lib.hid (show R = none by rw [← hinv.out, hd1.out, hdn.out, saidS_stop]; rfl)
          clear hinv
          go_wp2
          exact bodyPost_ret (v := saidV none) (by simp [results, Tryd.results47, go_sem, saidV]) rfl ⟨by rw [hr.out], hF.out⟩
      · have d1 : ((s[k].toNat : Int) != 92) = true := by simp; omega
        have hst := Lib.hid (saidS_plain s[k] (s.data.toList.drop (k + 1)) c1)
        clear c1
        have hn := Lib.hid (show (saidS (s.data.toList.drop (k + 1))).map ((acc ++ [s[k]]) ++ ·) = R by rw [← hinv.out, hd1.out, hst.out, map_app])
        go_wp2_with (at_builtin; refine wpList_append_B (by go_simp) _ _ 93 5 rfl Tryd.underlying93 infoB w.heap.size _ _ acc [s[k]] rfl rfl (hO.out.fut RB.stays (Fut.alloc _ _)) (bytes_new _ [s[k]] _ _ _ rfl (by first | rfl | simp) (by decide)) ?l1 ?b1 ?k1)
        case l1 => have := hal.out; simp; omega
        case b1 => have := (hF.out).size; simp; omega
        case k1 =>
        intro v' w' o' g'
        have F' := Lib.hid (Fut.grown ((hF.out).trans (Fut.alloc _ _)) g' (fun k hk => (hO.out.block k hk).1))
        have O' := Lib.hid o'
        have A' := Lib.hid (show (acc ++ [s[k]]).length ≤ k + 1 by have := hal.out; simp; omega)
        clear g' o'
        go_wp2
        exact ⟨⟨k + 1, _, by go_num, by omega, A', hn, O', F'⟩, by simp [intOf]; omega⟩
    · obtain rfl : k = s.size := by omega
      have hr := hinv.out
      rw [List.drop_of_length_le (by rw [hl.out]; omega), saidS] at hr
      have hr2 := Lib.hid (show R = some acc by rw [← hr]; simp)
      clear hr hinv
      have hcv := conv_own (P := Tryd.prog) wr 93 9 5 _ _ w.heap.size Tryd.underlying93 Tryd.underlying5 Tryd.underlying9 hO.out
      go_wp2
      exact bodyPost_ret (v := saidV (some acc)) (by simp [results, Tryd.results47, go_sem, saidV]) rfl ⟨by rw [hr2.out], hF.out⟩
end Go.Proofs.YtlihkmldclocoaaDoor
