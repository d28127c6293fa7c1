/- The document's unquoted. -/
import Derived.Test.YtlihkmldclocoaaDoorReadR
import Derived.Laws.BytesArg
namespace Go.Proofs.YtlihkmldclocoaaDoor
open Go.RowKit
set_option linter.unusedSimpArgs false
set_option linter.unusedVariables false

/-- A list of the call's own as a text. -/
theorem conv_own {P : Program} (w : World) (src dst e : TypeId) (v : Value) (l : List UInt8) (B : Nat) (hs : P.underlying src = some (.slice e)) (he : P.underlying e = some (.int .u8)) (hd : P.underlying dst = some .string)
    (h : OwnB B e w v l) : (convert src dst v).run P w = .ok (.string ⟨l.toArray⟩) w := by
  by_cases hl : l = []
  · subst hl
    obtain ⟨css, h1, h2, h3, h4⟩ := h
    rcases h4 with ⟨rfl, _⟩ | ⟨g, cap, cur, rfl, _⟩
    · exact run_convert_bytes_nil (P := P) w src e hs he 0 0 dst hd
    · exact run_convert_bytes_back w src dst e ⟨g, 0, none⟩ cap [] hs he hd (fun j hj => by simp at hj)
  · exact conv_bytes w src dst e v l hs he hd h.rep hl
theorem drop_two (s : ByteArray) (k : Nat) (h : k + 1 < s.size) : s.data.toList.drop k = s[k] :: s[k + 1] :: s.data.toList.drop (k + 2) := by
  have h' : k + 1 < s.data.toList.length := by rw [← Lib.size_eq]; exact h
  rw [List.drop_eq_getElem_cons (by omega), List.drop_eq_getElem_cons h']
  rfl
theorem unqS_short (d : UInt8) (r : List UInt8) (h : r.length < 2) : unqS (92 :: d :: r) = (if d.toNat = 110 then 10 else d) :: unqS r := by
  rw [unqS.eq_def]
  match r, h with
  | [], _ => simp; split <;> simp
  | [a], _ => simp; split <;> simp
theorem halfN_le (c : Nat) : -1 ≤ halfN c ∧ halfN c ≤ 15 := by unfold halfN; (repeat' split) <;> omega
theorem unhex_nat (x y : UInt8) : IntKind.u8.wrap (16 * halfN x.toNat + halfN y.toNat) = ((unhex x y).toNat : Int) := by
  have h1 := halfN_le x.toNat; have h2 := halfN_le y.toNat
  unfold unhex
  simp [IntKind.wrap, IntKind.signed, IntKind.bits]; omega

set_option maxHeartbeats 4000000 in
set_option maxRecDepth 100000 in
theorem runq_any (s : ByteArray) (w : World) (hs : s.size ≤ 140737488351232) :
    Calls Tryd.prog 44 #[.string s] w fun e w' => e = .returned (.string (unqL s)) ∧ Fut w w' := by
  have hl := Lib.hid (Lib.size_eq s).symm
  go_enter Tryd.func44, Tryd.ntmps44
  go_wp2
  go_loopw [3, 4] (fun o i wr => ∃ (k : Nat) (acc : List UInt8), i = .int .i64 k ∧ 1 ≤ k ∧ k ≤ s.size + 1 ∧ Hid (acc.length ≤ k) ∧ Hid (acc ++ unqS (s.data.toList.drop k) = unqS (s.data.toList.drop 1)) ∧ Hid (OwnB w.heap.size 5 wr o acc) ∧ Hid (Fut w wr)) (fun _ i _ => s.size + 1 - (intOf i).toNat)
  case atStart => exact ⟨1, [], rfl, Nat.le_refl _, by omega, Lib.hid (by simp), Lib.hid (by simp), Lib.hid OwnL.nil, Lib.hid (Fut.refl _)⟩
  case round =>
    obtain ⟨k, acc, rfl, hk1, hk, hal, hinv, hO, hF⟩ := hrel
    by_cases hlt : k + 1 < s.size
    · have i1 : (k : Int) < (s.size : Int) - 1 := by omega
      have hd2 := Lib.hid (drop_two s k hlt)
      have hlen := Lib.hid (show (s.data.toList.drop (k + 2)).length = s.size - (k + 2) by rw [List.length_drop, hl.out])
      have hb0 := s[k].toNat_lt
      have hb1 := s[k + 1].toNat_lt
      by_cases c1 : s[k].toNat = 92
      · have d1 : ((s[k].toNat : Int) != 92) = false := by simp [c1]
        have hc92 : s[k] = 92 := UInt8.toNat_inj.1 c1
        rw [hc92] at hd2
        by_cases c3 : k + 3 < s.size
        · have i3 : (k : Int) + 3 < s.size := by omega
          by_cases c4 : s[k + 1].toNat = 120
          · have d4 : ((s[k + 1].toNat : Int) == 120) = true := by simp [c4]
            have hc120 : s[k + 1] = 120 := UInt8.toNat_inj.1 c4
            rw [hc120] at hd2
            have hd3 := Lib.hid (drop_two s (k + 2) c3)
            have hn := Lib.hid (show (acc ++ [unhex s[k + 2] s[k + 3]]) ++ unqS (s.data.toList.drop (k + 4)) = unqS (s.data.toList.drop 1) by rw [← hinv.out, hd2.out, hd3.out, unqS_hex]; simp)
            have hbx := s[k + 2].toNat_lt; have hby := s[k + 3].toNat_lt
            have hu := unhex_nat s[k + 2] s[k + 3]
            have q1 := halfN_le s[k + 2].toNat; have q2 := halfN_le s[k + 3].toNat
            have H1 := Lib.hid (half_any s[k + 2].toNat hbx); have H2 := Lib.hid (half_any s[k + 3].toNat hby)
            generalize unhex s[k + 2] s[k + 3] = y at hu hn
            obtain ⟨ha, eha⟩ : ∃ z, halfN s[k + 2].toNat = z := ⟨_, rfl⟩
            obtain ⟨hb, ehb⟩ : ∃ z, halfN s[k + 3].toNat = z := ⟨_, rfl⟩
            rw [eha] at hu q1 H1; rw [ehb] at hu q2 H2
            have z16 : IntKind.i64.wrap (16 * ha) = 16 * ha := by rw [IntKind.wrap_i64]; omega
            have z17 : IntKind.i64.wrap (16 * ha + hb) = 16 * ha + hb := by rw [IntKind.wrap_i64]; omega
            have z2 : IntKind.i64.wrap ((k : Int) + 2) = (k : Int) + 2 := by rw [IntKind.wrap_i64]; omega
            have z3 : IntKind.i64.wrap ((k : Int) + 3) = (k : Int) + 3 := by rw [IntKind.wrap_i64]; omega
            have y2 : (0 : Int) ≤ (k : Int) + 2 := by omega
            have y3 : (0 : Int) ≤ (k : Int) + 3 := by omega
            have x2 : (k : Int) + 2 < s.size := by omega
            have t2 : ((k : Int) + 2).toNat = k + 2 := by omega
            have t3 : ((k : Int) + 3).toNat = k + 3 := by omega
            clear c1 c4 hc92 hc120 hd2 hd3 eha ehb
            go_wp2
            refine wp_graph 15 [.d, .d, .d, .d, .d, .d, .d, .d, .d, .d, .d, .d, .d, .d, .r (fun u ww => SlRep 1 4398046511104 RB ww u [y])] (by kernel_rfl) (by kernel_rfl) (by kernel_rfl) ?_
            simp only [List.take_succ_cons, List.take_zero, List.drop_succ_cons, List.drop_zero, Exs]
            iterate 14 apply Exists.intro
            apply Run.valG (wanted_none rfl _)
            · intro w1 h1 hk
              have hcw := fun b o => Below.cell (p := ⟨b, o, none⟩) h1
              go_simp; rfl
            simp only [Act.put, List.setIfInBounds_toArray, List.set_cons_succ, List.set_cons_zero, List.nil_append, List.cons_append]
            apply Run.valG (wanted_none rfl _)
            · intro w1 h1 hk
              have hcw := fun b o => Below.cell (p := ⟨b, o, none⟩) h1
              go_simp; rfl
            simp only [Act.put, List.setIfInBounds_toArray, List.set_cons_succ, List.set_cons_zero, List.nil_append, List.cons_append]
            apply Run.valG (wanted_none rfl _)
            · intro w1 h1 hk
              have hcw := fun b o => Below.cell (p := ⟨b, o, none⟩) h1
              go_simp; rfl
            simp only [Act.put, List.setIfInBounds_toArray, List.set_cons_succ, List.set_cons_zero, List.nil_append, List.cons_append]
            apply Run.valG (wanted_none rfl _)
            · intro w1 h1 hk
              have hcw := fun b o => Below.cell (p := ⟨b, o, none⟩) h1
              go_simp; rfl
            simp only [Act.put, List.setIfInBounds_toArray, List.set_cons_succ, List.set_cons_zero, List.nil_append, List.cons_append]
            apply Run.valG (wanted_none rfl _)
            · intro w1 h1 hk
              have hcw := fun b o => Below.cell (p := ⟨b, o, none⟩) h1
              go_simp; rfl
            simp only [Act.put, List.setIfInBounds_toArray, List.set_cons_succ, List.set_cons_zero, List.nil_append, List.cons_append]
            apply Run.call (wanted_none rfl _) (fun _ _ => by go_simp; exact ⟨rfl, rfl⟩)
            · intro w1 h1 hk
              exact (H1.out _).mono (fun e w' ⟨h, h'⟩ => ⟨h, h' ▸ Fut.refl _⟩)
            simp only [Act.put, List.setIfInBounds_toArray, List.set_cons_succ, List.set_cons_zero, List.nil_append, List.cons_append]
            apply Run.valG (wanted_none rfl _)
            · intro w1 h1 hk
              have hcw := fun b o => Below.cell (p := ⟨b, o, none⟩) h1
              go_simp; rfl
            simp only [Act.put, List.setIfInBounds_toArray, List.set_cons_succ, List.set_cons_zero, List.nil_append, List.cons_append]
            apply Run.valG (wanted_none rfl _)
            · intro w1 h1 hk
              have hcw := fun b o => Below.cell (p := ⟨b, o, none⟩) h1
              go_simp; rfl
            simp only [Act.put, List.setIfInBounds_toArray, List.set_cons_succ, List.set_cons_zero, List.nil_append, List.cons_append]
            apply Run.valG (wanted_none rfl _)
            · intro w1 h1 hk
              have hcw := fun b o => Below.cell (p := ⟨b, o, none⟩) h1
              go_simp; rfl
            simp only [Act.put, List.setIfInBounds_toArray, List.set_cons_succ, List.set_cons_zero, List.nil_append, List.cons_append]
            apply Run.valG (wanted_none rfl _)
            · intro w1 h1 hk
              have hcw := fun b o => Below.cell (p := ⟨b, o, none⟩) h1
              go_simp; rfl
            simp only [Act.put, List.setIfInBounds_toArray, List.set_cons_succ, List.set_cons_zero, List.nil_append, List.cons_append]
            apply Run.valG (wanted_none rfl _)
            · intro w1 h1 hk
              have hcw := fun b o => Below.cell (p := ⟨b, o, none⟩) h1
              go_simp; rfl
            simp only [Act.put, List.setIfInBounds_toArray, List.set_cons_succ, List.set_cons_zero, List.nil_append, List.cons_append]
            apply Run.call (wanted_none rfl _) (fun _ _ => by go_simp; exact ⟨rfl, rfl⟩)
            · intro w1 h1 hk
              exact (H2.out _).mono (fun e w' ⟨h, h'⟩ => ⟨h, h' ▸ Fut.refl _⟩)
            simp only [Act.put, List.setIfInBounds_toArray, List.set_cons_succ, List.set_cons_zero, List.nil_append, List.cons_append]
            apply Run.valG (wanted_none rfl _)
            · intro w1 h1 hk
              have hcw := fun b o => Below.cell (p := ⟨b, o, none⟩) h1
              go_simp; rfl
            simp only [Act.put, List.setIfInBounds_toArray, List.set_cons_succ, List.set_cons_zero, List.nil_append, List.cons_append]
            apply Run.valG (wanted_none rfl _)
            · intro w1 h1 hk
              have hcw := fun b o => Below.cell (p := ⟨b, o, none⟩) h1
              go_simp; rfl
            simp only [Act.put, List.setIfInBounds_toArray, List.set_cons_succ, List.set_cons_zero, List.nil_append, List.cons_append]
            apply Run.valR (wanted_none rfl _) (by intro v w w' hf hs; exact hs.fut RB.stays hf)
            · intro w1 h1 hk
              go_simp; exact ⟨_, _, ⟨rfl, rfl⟩, Fut.alloc _ _, bytes_new _ [y] _ _ _ rfl (by first | rfl | simp) (by decide)⟩
            intro v14
            simp only [Act.put, List.setIfInBounds_toArray, List.set_cons_succ, List.set_cons_zero, List.nil_append, List.cons_append]
            apply Run.done
            intro w2 h2 hk
            obtain ⟨f14, _⟩ := hk
            have W2 := (Fut.drew _).trans h2
            refine wpList_append_B (by go_simp) _ _ 93 5 rfl Tryd.underlying93 infoB w.heap.size _ _ acc [y] rfl rfl (hO.out.fut RB.stays W2) f14 ?l1 ?b1 ?k1
            case l1 => have := hal.out; simp; omega
            case b1 => have := hF.out.size; have := W2.size; omega
            case k1 =>
            intro v' w' o' g'
            have F' := Lib.hid (Fut.grown (hF.out.trans W2) g' (fun k hk => (hO.out.block k hk).1))
            have O' := Lib.hid o'
            have A' := Lib.hid (show (acc ++ [y]).length ≤ k + 4 by have := hal.out; simp; omega)
            clear g' o'
            go_wp2
            exact ⟨⟨k + 4, _, by go_num, by omega, by omega, A', hn, O', F'⟩, by simp [intOf]; omega⟩
          · have d4 : ((s[k + 1].toNat : Int) == 120) = false := by simp; omega
            by_cases c5 : s[k + 1].toNat = 110
            · have d5 : ((s[k + 1].toNat : Int) == 110) = true := by simp [c5]
              have hn := Lib.hid (show (acc ++ [10]) ++ unqS (s.data.toList.drop (k + 2)) = unqS (s.data.toList.drop 1) by rw [← hinv.out, hd2.out, unqS_two _ _ c4, if_pos c5]; simp)
              clear c5 c1 hd2 hc92
              go_wp2_with (at_builtin; refine wpList_append_B (by go_simp) _ _ 93 5 rfl Tryd.underlying93 infoB w.heap.size _ _ acc [10] rfl rfl (hO.out.fut RB.stays (Fut.alloc _ _)) (bytes_new _ [10] _ _ _ rfl (by first | rfl | simp) (by decide)) ?l1 ?b1 ?k1)
              case l1 => have := hal.out; simp; omega
              case b1 => have := hF.out.size; simp; omega
              case k1 =>
              intro v' w' o' g'
              have F' := Lib.hid (Fut.grown (hF.out.trans (Fut.alloc _ _)) g' (fun k hk => (hO.out.block k hk).1))
              have O' := Lib.hid o'
              have A' := Lib.hid (show (acc ++ [10]).length ≤ k + 2 by have := hal.out; simp; omega)
              clear g' o'
              go_wp2
              exact ⟨⟨k + 2, _, by go_num, by omega, by omega, A', hn, O', F'⟩, by simp [intOf]; omega⟩
            · have d5 : ((s[k + 1].toNat : Int) == 110) = false := by simp; omega
              have hn := Lib.hid (show (acc ++ [s[k + 1]]) ++ unqS (s.data.toList.drop (k + 2)) = unqS (s.data.toList.drop 1) by rw [← hinv.out, hd2.out, unqS_two _ _ c4, if_neg c5]; simp)
              clear c5 c1 hd2 hc92
              go_wp2_with (at_builtin; refine wpList_append_B (by go_simp) _ _ 93 5 rfl Tryd.underlying93 infoB w.heap.size _ _ acc [s[k + 1]] rfl rfl (hO.out.fut RB.stays (Fut.alloc _ _)) (bytes_new _ [s[k + 1]] _ _ _ rfl (by first | rfl | simp) (by decide)) ?l1 ?b1 ?k1)
              case l1 => have := hal.out; simp; omega
              case b1 => have := hF.out.size; simp; omega
              case k1 =>
              intro v' w' o' g'
              have F' := Lib.hid (Fut.grown (hF.out.trans (Fut.alloc _ _)) g' (fun k hk => (hO.out.block k hk).1))
              have O' := Lib.hid o'
              have A' := Lib.hid (show (acc ++ [s[k + 1]]).length ≤ k + 2 by have := hal.out; simp; omega)
              clear g' o'
              go_wp2
              exact ⟨⟨k + 2, _, by go_num, by omega, by omega, A', hn, O', F'⟩, by simp [intOf]; omega⟩
        · have i3 : ¬ (k : Int) + 3 < s.size := by omega
          by_cases c5 : s[k + 1].toNat = 110
          · have d5 : ((s[k + 1].toNat : Int) == 110) = true := by simp [c5]
            have hn := Lib.hid (show (acc ++ [10]) ++ unqS (s.data.toList.drop (k + 2)) = unqS (s.data.toList.drop 1) by rw [← hinv.out, hd2.out, unqS_short _ _ (by rw [hlen.out]; omega), if_pos c5]; simp)
            clear c5 c1 hd2 hc92
            go_wp2_with (at_builtin; refine wpList_append_B (by go_simp) _ _ 93 5 rfl Tryd.underlying93 infoB w.heap.size _ _ acc [10] rfl rfl (hO.out.fut RB.stays (Fut.alloc _ _)) (bytes_new _ [10] _ _ _ rfl (by first | rfl | simp) (by decide)) ?l1 ?b1 ?k1)
            case l1 => have := hal.out; simp; omega
            case b1 => have := hF.out.size; simp; omega
            case k1 =>
            intro v' w' o' g'
            have F' := Lib.hid (Fut.grown (hF.out.trans (Fut.alloc _ _)) g' (fun k hk => (hO.out.block k hk).1))
            have O' := Lib.hid o'
            have A' := Lib.hid (show (acc ++ [10]).length ≤ k + 2 by have := hal.out; simp; omega)
            clear g' o'
            go_wp2
            exact ⟨⟨k + 2, _, by go_num, by omega, by omega, A', hn, O', F'⟩, by simp [intOf]; omega⟩
          · have d5 : ((s[k + 1].toNat : Int) == 110) = false := by simp; omega
            have hn := Lib.hid (show (acc ++ [s[k + 1]]) ++ unqS (s.data.toList.drop (k + 2)) = unqS (s.data.toList.drop 1) by rw [← hinv.out, hd2.out, unqS_short _ _ (by rw [hlen.out]; omega), if_neg c5]; simp)
            clear c5 c1 hd2 hc92
            go_wp2_with (at_builtin; refine wpList_append_B (by go_simp) _ _ 93 5 rfl Tryd.underlying93 infoB w.heap.size _ _ acc [s[k + 1]] rfl rfl (hO.out.fut RB.stays (Fut.alloc _ _)) (bytes_new _ [s[k + 1]] _ _ _ rfl (by first | rfl | simp) (by decide)) ?l1 ?b1 ?k1)
            case l1 => have := hal.out; simp; omega
            case b1 => have := hF.out.size; simp; omega
            case k1 =>
            intro v' w' o' g'
            have F' := Lib.hid (Fut.grown (hF.out.trans (Fut.alloc _ _)) g' (fun k hk => (hO.out.block k hk).1))
            have O' := Lib.hid o'
            have A' := Lib.hid (show (acc ++ [s[k + 1]]).length ≤ k + 2 by have := hal.out; simp; omega)
            clear g' o'
            go_wp2
            exact ⟨⟨k + 2, _, by go_num, by omega, by omega, A', hn, O', F'⟩, by simp [intOf]; omega⟩
      · have d1 : ((s[k].toNat : Int) != 92) = true := by simp; omega
        have hn := Lib.hid (show (acc ++ [s[k]]) ++ unqS (s.data.toList.drop (k + 1)) = unqS (s.data.toList.drop 1) by rw [← hinv.out, hd2.out, unqS_plain _ _ _ c1, List.drop_eq_getElem_cons (show k + 1 < s.data.toList.length by rw [hl.out]; exact hlt)]; simp; rfl)
        clear c1 hd2
        go_wp2_with (at_builtin; refine wpList_append_B (by go_simp) _ _ 93 5 rfl Tryd.underlying93 infoB w.heap.size _ _ acc [s[k]] rfl rfl (hO.out.fut RB.stays (Fut.alloc _ _)) (bytes_new _ [s[k]] _ _ _ rfl (by first | rfl | simp) (by decide)) ?l1 ?b1 ?k1)
        case l1 => have := hal.out; simp; omega
        case b1 => have := hF.out.size; simp; omega
        case k1 =>
        intro v' w' o' g'
        have F' := Lib.hid (Fut.grown (hF.out.trans (Fut.alloc _ _)) g' (fun k hk => (hO.out.block k hk).1))
        have O' := Lib.hid o'
        have A' := Lib.hid (show (acc ++ [s[k]]).length ≤ k + 1 by have := hal.out; simp; omega)
        clear g' o'
        go_wp2
        exact ⟨⟨k + 1, _, by go_num, by omega, by omega, A', hn, O', F'⟩, by simp [intOf]; omega⟩
    · have i1 : ¬ (k : Int) < (s.size : Int) - 1 := by omega
      have hsh : unqS (s.data.toList.drop k) = [] := by
        have : (s.data.toList.drop k).length ≤ 1 := by rw [List.length_drop, hl.out]; omega
        match s.data.toList.drop k, this with
        | [], _ => rw [unqS]
        | [_], _ => rw [unqS]
      have he := hinv.out
      rw [hsh, List.append_nil] at he
      subst he
      have hcv := conv_own (P := Tryd.prog) wr 93 9 5 _ _ w.heap.size Tryd.underlying93 Tryd.underlying5 Tryd.underlying9 hO.out
      go_wp2
      go_ret
      refine ⟨?_, hF.out⟩
      rw [show unqL s = ⟨(unqS s.data.toList.tail).toArray⟩ by simp [unqL]]
      rfl
end Go.Proofs.YtlihkmldclocoaaDoor
