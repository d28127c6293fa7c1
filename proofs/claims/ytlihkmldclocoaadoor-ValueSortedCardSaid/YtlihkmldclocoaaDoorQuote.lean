/- A text between quotes: the document's Quoted. -/
import Derived.Test.YtlihkmldclocoaaDoorBytes
import Derived.Test.YtlihkmldclocoaaDoorName
namespace Go.Proofs.YtlihkmldclocoaaDoor
open Go.RowKit
set_option linter.unusedSimpArgs false
set_option linter.unusedVariables false

def hx (n : Nat) : UInt8 := if n < 10 then UInt8.ofNat (48 + n) else UInt8.ofNat (87 + n)
def esc (c : UInt8) : List UInt8 := if c.toNat = 10 then [92, 110] else if c.toNat = 34 ∨ c.toNat = 92 then [92, c] else if 32 ≤ c.toNat ∧ c.toNat ≤ 126 then [c] else [92, 120, hx (c.toNat / 16), hx (c.toNat % 16)]
def quoteL (l : List UInt8) : List UInt8 := 34 :: (l.flatMap esc ++ [34])
theorem esc_len (c : UInt8) : (esc c).length ≤ 4 := by unfold esc; (repeat' split) <;> simp
theorem flat_len (l : List UInt8) : (l.flatMap esc).length ≤ 4 * l.length := by
  induction l with
  | nil => simp
  | cons a r ih => rw [List.flatMap_cons, List.length_append, List.length_cons]; have := esc_len a; omega
theorem infoB : (Tryd.prog.info? 5).map (fun i => (i.zero, i.size, i.bytes)) = some (some (.int .u8 0), 1, 1) := by kernel_rfl
theorem take_flat (s : ByteArray) (k : Nat) (h : k < s.size) : (s.data.toList.take (k + 1)).flatMap esc = (s.data.toList.take k).flatMap esc ++ esc s[k] := by
  have h' : k < s.data.size := h
  have e : s.data.toList[k]? = some s[k] := by rw [Array.getElem?_toList, Array.getElem?_eq_getElem h']; rfl
  rw [List.take_add_one, e, List.flatMap_append]
  simp

theorem hx_lit (a : Nat) (ha : a < 16) : ∀ h, (⟨#[48, 49, 50, 51, 52, 53, 54, 55, 56, 57, 97, 98, 99, 100, 101, 102]⟩ : ByteArray)[a]'h = hx a := by
  intro h
  rcases (by omega : a = 0 ∨ a = 1 ∨ a = 2 ∨ a = 3 ∨ a = 4 ∨ a = 5 ∨ a = 6 ∨ a = 7 ∨ a = 8 ∨ a = 9 ∨ a = 10 ∨ a = 11 ∨ a = 12 ∨ a = 13 ∨ a = 14 ∨ a = 15) with rfl | rfl | rfl | rfl | rfl | rfl | rfl | rfl | rfl | rfl | rfl | rfl | rfl | rfl | rfl | rfl <;> rfl
theorem quo16 (c : Nat) (h : c < 256) : IntKind.u8.wrap ((c : Int) / 16) = ((c / 16 : Nat) : Int) := by
  rw [show (c : Int) / 16 = ((c / 16 : Nat) : Int) by omega]
  simp [IntKind.wrap, IntKind.signed, IntKind.bits]; omega
theorem rem16 (c : Nat) : (c : Int).tmod 16 = ((c % 16 : Nat) : Int) := (Int.ofNat_tmod c 16).symm

set_option maxHeartbeats 1000000 in
set_option maxRecDepth 100000 in
theorem rquoted_any (s : ByteArray) (w : World) (hs : s.size ≤ 200) :
    Calls Tryd.prog 78 #[.string s] w fun e w' => e = .returned (.string ⟨(quoteL s.data.toList).toArray⟩) ∧ Fut w w' := by
  have hl := Lib.hid (Lib.size_eq s).symm
  go_enter Tryd.func78, Tryd.ntmps78
  go_wp2
  go_loopw [4, 5] (fun o i wr => ∃ k : Nat, i = .int .i64 k ∧ k ≤ s.size ∧ Hid (OwnB w.heap.size 5 wr o (34 :: (s.data.toList.take k).flatMap esc)) ∧ Hid (Fut w wr)) (fun _ i _ => s.size - (intOf i).toNat)
  case atStart => exact ⟨0, rfl, Nat.zero_le _, Lib.hid (own_new w [34] _ _ _ _ rfl rfl (Nat.le_refl _) (by decide)), Lib.hid (Fut.alloc _ _)⟩
  case round =>
    obtain ⟨k, rfl, hk, hO, hF⟩ := hrel
    have hlen := Lib.hid (flat_len (s.data.toList.take k))
    have hln : Hid ((34 :: (s.data.toList.take k).flatMap esc).length ≤ 801) := Lib.hid (by have := hlen.out; rw [List.length_take] at this; simp only [List.length_cons]; omega)
    clear hlen
    by_cases hlt : k < s.size
    · have htk := Lib.hid (take_flat s k hlt)
      have hb := s[k].toNat_lt
      have hidx : s[k]? = some s[k] := by simp [hlt]
      generalize hx0 : s[k] = x at htk hb
      by_cases c1 : x.toNat = 10
      · have d1 : ((x.toNat : Int) == 10) = true := by simp [c1]
        have hesc := Lib.hid (show esc x = [92, 110] by unfold esc; rw [if_pos c1])
        clear c1
        have he := Lib.hid (show 34 :: (s.data.toList.take (k + 1)).flatMap esc = (34 :: (s.data.toList.take k).flatMap esc) ++ [92, 110] by rw [htk.out, hesc.out]; rfl)
        clear htk hesc
        go_wp2_with (at_builtin; refine wpList_append_B (by go_simp) _ _ 93 5 rfl Tryd.underlying93 infoB w.heap.size _ _ (34 :: (s.data.toList.take k).flatMap esc) [92, 110] rfl rfl (hO.out.fut RB.stays (Fut.alloc _ _)) (bytes_new _ [92, 110] _ _ _ rfl (by first | rfl | simp) (by decide)) ?l1 ?b1 ?k1)
        case l1 => have := hln.out; simp only [List.length_cons, List.length_nil] at *; omega
        case b1 => have := hF.out.size; simp; omega
        case k1 =>
        intro v' w' o' g'
        have F' := Lib.hid (Fut.grown (hF.out.trans (Fut.alloc _ _)) g' (fun k hk => (hO.out.block k hk).1))
        have O' : Hid (OwnB w.heap.size 5 w' v' (34 :: (s.data.toList.take (k + 1)).flatMap esc)) := Lib.hid (by rw [he.out]; exact o')
        clear g' o' he
        go_wp2
        exact ⟨⟨k + 1, by go_num, by omega, O', F'⟩, by simp [intOf]; omega⟩
      · have d1 : ((x.toNat : Int) == 10) = false := by simp; omega
        by_cases c2 : x.toNat = 34
        · have d2 : ((x.toNat : Int) == 34) = true := by simp [c2]
          have hesc := Lib.hid (show esc x = [92, x] by unfold esc; rw [if_neg c1, if_pos (.inl c2)])
          clear c1 c2
          have he := Lib.hid (show 34 :: (s.data.toList.take (k + 1)).flatMap esc = (34 :: (s.data.toList.take k).flatMap esc) ++ [92, x] by rw [htk.out, hesc.out]; rfl)
          clear htk hesc
          go_wp2_with (at_builtin; refine wpList_append_B (by go_simp) _ _ 93 5 rfl Tryd.underlying93 infoB w.heap.size _ _ (34 :: (s.data.toList.take k).flatMap esc) [92, x] rfl rfl (hO.out.fut RB.stays (Fut.alloc _ _)) (bytes_new _ [92, x] _ _ _ rfl (by first | rfl | simp) (by decide)) ?l1 ?b1 ?k1)
          case l1 => have := hln.out; simp only [List.length_cons, List.length_nil] at *; omega
          case b1 => have := hF.out.size; simp; omega
          case k1 =>
          intro v' w' o' g'
          have F' := Lib.hid (Fut.grown (hF.out.trans (Fut.alloc _ _)) g' (fun k hk => (hO.out.block k hk).1))
          have O' : Hid (OwnB w.heap.size 5 w' v' (34 :: (s.data.toList.take (k + 1)).flatMap esc)) := Lib.hid (by rw [he.out]; exact o')
          clear g' o' he
          go_wp2
          exact ⟨⟨k + 1, by go_num, by omega, O', F'⟩, by simp [intOf]; omega⟩
        · have d2 : ((x.toNat : Int) == 34) = false := by simp; omega
          by_cases c3 : x.toNat = 92
          · have d3 : ((x.toNat : Int) == 92) = true := by simp [c3]
            have hesc := Lib.hid (show esc x = [92, x] by unfold esc; rw [if_neg c1, if_pos (.inr c3)])
            clear c1 c2 c3
            have he := Lib.hid (show 34 :: (s.data.toList.take (k + 1)).flatMap esc = (34 :: (s.data.toList.take k).flatMap esc) ++ [92, x] by rw [htk.out, hesc.out]; rfl)
            clear htk hesc
            go_wp2_with (at_builtin; refine wpList_append_B (by go_simp) _ _ 93 5 rfl Tryd.underlying93 infoB w.heap.size _ _ (34 :: (s.data.toList.take k).flatMap esc) [92, x] rfl rfl (hO.out.fut RB.stays (Fut.alloc _ _)) (bytes_new _ [92, x] _ _ _ rfl (by first | rfl | simp) (by decide)) ?l1 ?b1 ?k1)
            case l1 => have := hln.out; simp only [List.length_cons, List.length_nil] at *; omega
            case b1 => have := hF.out.size; simp; omega
            case k1 =>
            intro v' w' o' g'
            have F' := Lib.hid (Fut.grown (hF.out.trans (Fut.alloc _ _)) g' (fun k hk => (hO.out.block k hk).1))
            have O' : Hid (OwnB w.heap.size 5 w' v' (34 :: (s.data.toList.take (k + 1)).flatMap esc)) := Lib.hid (by rw [he.out]; exact o')
            clear g' o' he
            go_wp2
            exact ⟨⟨k + 1, by go_num, by omega, O', F'⟩, by simp [intOf]; omega⟩
          · have d3 : ((x.toNat : Int) == 92) = false := by simp; omega
            by_cases c4 : 32 ≤ x.toNat ∧ x.toNat ≤ 126
            · have d4 : (32 : Int) ≤ x.toNat := by omega
              have d5 : (x.toNat : Int) ≤ 126 := by omega
              have hesc := Lib.hid (show esc x = [x] by unfold esc; rw [if_neg c1, if_neg (by omega), if_pos c4])
              clear c1 c2 c3 c4
              have he := Lib.hid (show 34 :: (s.data.toList.take (k + 1)).flatMap esc = (34 :: (s.data.toList.take k).flatMap esc) ++ [x] by rw [htk.out, hesc.out]; rfl)
              clear htk hesc
              go_wp2_with (at_builtin; refine wpList_append_B (by go_simp) _ _ 93 5 rfl Tryd.underlying93 infoB w.heap.size _ _ (34 :: (s.data.toList.take k).flatMap esc) [x] rfl rfl (hO.out.fut RB.stays (Fut.alloc _ _)) (bytes_new _ [x] _ _ _ rfl (by first | rfl | simp) (by decide)) ?l1 ?b1 ?k1)
              case l1 => have := hln.out; simp only [List.length_cons, List.length_nil] at *; omega
              case b1 => have := hF.out.size; simp; omega
              case k1 =>
              intro v' w' o' g'
              have F' := Lib.hid (Fut.grown (hF.out.trans (Fut.alloc _ _)) g' (fun k hk => (hO.out.block k hk).1))
              have O' : Hid (OwnB w.heap.size 5 w' v' (34 :: (s.data.toList.take (k + 1)).flatMap esc)) := Lib.hid (by rw [he.out]; exact o')
              clear g' o' he
              go_wp2
              exact ⟨⟨k + 1, by go_num, by omega, O', F'⟩, by simp [intOf]; omega⟩
            · have hesc := Lib.hid (show esc x = [92, 120, hx (x.toNat / 16), hx (x.toNat % 16)] by unfold esc; rw [if_neg c1, if_neg (by omega), if_neg c4])
              have he := Lib.hid (show 34 :: (s.data.toList.take (k + 1)).flatMap esc = (34 :: (s.data.toList.take k).flatMap esc) ++ [92, 120, hx (x.toNat / 16), hx (x.toNat % 16)] by rw [htk.out, hesc.out]; rfl)
              clear htk hesc c1 c2 c3
              obtain ⟨a, ha⟩ : ∃ a, x.toNat / 16 = a := ⟨_, rfl⟩
              obtain ⟨b, hb'⟩ : ∃ b, x.toNat % 16 = b := ⟨_, rfl⟩
              have e1 : IntKind.u8.wrap ((x.toNat : Int) / 16) = (a : Int) := by rw [quo16 _ (by omega), ha]
              have e2 : (x.toNat : Int).tmod 16 = (b : Int) := by rw [rem16, hb']
              rw [ha, hb'] at he
              have i1 : (a : Int) < 16 := by omega
              have i2 : (b : Int) < 16 := by omega
              have i3 := hx_lit a (by omega)
              have i4 := hx_lit b (by omega)
              clear ha hb'
              by_cases c5 : 32 ≤ x.toNat
              · have d4 : (32 : Int) ≤ x.toNat := by omega
                have d5 : ¬ (x.toNat : Int) ≤ 126 := by omega
                clear c4 c5
                go_wp2
                refine wp_graph 10 [.d, .d, .d, .d, .d, .d, .d, .d, .d, .r (fun u ww => SlRep 1 4398046511104 RB ww u [92, 120, hx a, hx b])] (by kernel_rfl) (by kernel_rfl) (by kernel_rfl) ?_
                simp only [List.take_succ_cons, List.take_zero, List.drop_succ_cons, List.drop_zero, Exs]
                iterate 9 apply Exists.intro
                apply Run.valG (wanted_none rfl _)
                · intro w1 h1 hk
                  have hcw := fun b o => Below.cell (p := ⟨b, o, none⟩) h1
                  go_simp; rfl
                simp only [Act.put, List.setIfInBounds_toArray, List.set_cons_succ, List.set_cons_zero, List.nil_append, List.cons_append]
                apply Run.valG (wanted_none rfl _)
                · intro w1 h1 hk
                  have hcw := fun b o => Below.cell (p := ⟨b, o, none⟩) h1
                  go_simp; rfl
                simp only [Act.put, List.setIfInBounds_toArray, List.set_cons_succ, List.set_cons_zero, List.nil_append, List.cons_append]
                apply Run.valG (wanted_none rfl _)
                · intro w1 h1 hk
                  have hcw := fun b o => Below.cell (p := ⟨b, o, none⟩) h1
                  go_simp; rfl
                simp only [Act.put, List.setIfInBounds_toArray, List.set_cons_succ, List.set_cons_zero, List.nil_append, List.cons_append]
                apply Run.valG (wanted_none rfl _)
                · intro w1 h1 hk
                  have hcw := fun b o => Below.cell (p := ⟨b, o, none⟩) h1
                  go_simp; rfl
                simp only [Act.put, List.setIfInBounds_toArray, List.set_cons_succ, List.set_cons_zero, List.nil_append, List.cons_append]
                apply Run.valG (wanted_none rfl _)
                · intro w1 h1 hk
                  have hcw := fun b o => Below.cell (p := ⟨b, o, none⟩) h1
                  go_simp; rfl
                simp only [Act.put, List.setIfInBounds_toArray, List.set_cons_succ, List.set_cons_zero, List.nil_append, List.cons_append]
                apply Run.valG (wanted_none rfl _)
                · intro w1 h1 hk
                  have hcw := fun b o => Below.cell (p := ⟨b, o, none⟩) h1
                  go_simp; rfl
                simp only [Act.put, List.setIfInBounds_toArray, List.set_cons_succ, List.set_cons_zero, List.nil_append, List.cons_append]
                apply Run.valG (wanted_none rfl _)
                · intro w1 h1 hk
                  have hcw := fun b o => Below.cell (p := ⟨b, o, none⟩) h1
                  go_simp; rfl
                simp only [Act.put, List.setIfInBounds_toArray, List.set_cons_succ, List.set_cons_zero, List.nil_append, List.cons_append]
                apply Run.valG (wanted_none rfl _)
                · intro w1 h1 hk
                  have hcw := fun b o => Below.cell (p := ⟨b, o, none⟩) h1
                  go_simp; rfl
                simp only [Act.put, List.setIfInBounds_toArray, List.set_cons_succ, List.set_cons_zero, List.nil_append, List.cons_append]
                apply Run.valG (wanted_none rfl _)
                · intro w1 h1 hk
                  have hcw := fun b o => Below.cell (p := ⟨b, o, none⟩) h1
                  go_simp; rfl
                simp only [Act.put, List.setIfInBounds_toArray, List.set_cons_succ, List.set_cons_zero, List.nil_append, List.cons_append]
                apply Run.valR (wanted_none rfl _) (by intro v w w' hf hs; exact hs.fut RB.stays hf)
                · intro w1 h1 hk
                  go_simp; exact ⟨_, _, ⟨rfl, rfl⟩, Fut.alloc _ _, bytes_new _ [92, 120, hx a, hx b] _ _ _ rfl (by first | rfl | simp) (by decide)⟩
                intro v9
                simp only [Act.put, List.setIfInBounds_toArray, List.set_cons_succ, List.set_cons_zero, List.nil_append, List.cons_append]
                apply Run.done
                intro w2 h2 hk
                obtain ⟨f9, _⟩ := hk
                have W2 := (Fut.drew _).trans h2
                refine wpList_append_B (by go_simp) _ _ 93 5 rfl Tryd.underlying93 infoB w.heap.size _ _ (34 :: (s.data.toList.take k).flatMap esc) [92, 120, hx a, hx b] rfl rfl (hO.out.fut RB.stays W2) f9 ?l1 ?b1 ?k1
                case l1 => have := hln.out; simp only [List.length_cons, List.length_nil] at *; omega
                case b1 => have := hF.out.size; have := W2.size; omega
                case k1 =>
                intro v' w' o' g'
                have F' := Lib.hid (Fut.grown (hF.out.trans W2) g' (fun k hk => (hO.out.block k hk).1))
                have O' : Hid (OwnB w.heap.size 5 w' v' (34 :: (s.data.toList.take (k + 1)).flatMap esc)) := Lib.hid (by rw [he.out]; exact o')
                clear g' o' he
                go_wp2
                exact ⟨⟨k + 1, by go_num, by omega, O', F'⟩, by simp [intOf]; omega⟩
              · have d4 : ¬ (32 : Int) ≤ x.toNat := by omega
                clear c4 c5
                go_wp2
                refine wp_graph 10 [.d, .d, .d, .d, .d, .d, .d, .d, .d, .r (fun u ww => SlRep 1 4398046511104 RB ww u [92, 120, hx a, hx b])] (by kernel_rfl) (by kernel_rfl) (by kernel_rfl) ?_
                simp only [List.take_succ_cons, List.take_zero, List.drop_succ_cons, List.drop_zero, Exs]
                iterate 9 apply Exists.intro
                apply Run.valG (wanted_none rfl _)
                · intro w1 h1 hk
                  have hcw := fun b o => Below.cell (p := ⟨b, o, none⟩) h1
                  go_simp; rfl
                simp only [Act.put, List.setIfInBounds_toArray, List.set_cons_succ, List.set_cons_zero, List.nil_append, List.cons_append]
                apply Run.valG (wanted_none rfl _)
                · intro w1 h1 hk
                  have hcw := fun b o => Below.cell (p := ⟨b, o, none⟩) h1
                  go_simp; rfl
                simp only [Act.put, List.setIfInBounds_toArray, List.set_cons_succ, List.set_cons_zero, List.nil_append, List.cons_append]
                apply Run.valG (wanted_none rfl _)
                · intro w1 h1 hk
                  have hcw := fun b o => Below.cell (p := ⟨b, o, none⟩) h1
                  go_simp; rfl
                simp only [Act.put, List.setIfInBounds_toArray, List.set_cons_succ, List.set_cons_zero, List.nil_append, List.cons_append]
                apply Run.valG (wanted_none rfl _)
                · intro w1 h1 hk
                  have hcw := fun b o => Below.cell (p := ⟨b, o, none⟩) h1
                  go_simp; rfl
                simp only [Act.put, List.setIfInBounds_toArray, List.set_cons_succ, List.set_cons_zero, List.nil_append, List.cons_append]
                apply Run.valG (wanted_none rfl _)
                · intro w1 h1 hk
                  have hcw := fun b o => Below.cell (p := ⟨b, o, none⟩) h1
                  go_simp; rfl
                simp only [Act.put, List.setIfInBounds_toArray, List.set_cons_succ, List.set_cons_zero, List.nil_append, List.cons_append]
                apply Run.valG (wanted_none rfl _)
                · intro w1 h1 hk
                  have hcw := fun b o => Below.cell (p := ⟨b, o, none⟩) h1
                  go_simp; rfl
                simp only [Act.put, List.setIfInBounds_toArray, List.set_cons_succ, List.set_cons_zero, List.nil_append, List.cons_append]
                apply Run.valG (wanted_none rfl _)
                · intro w1 h1 hk
                  have hcw := fun b o => Below.cell (p := ⟨b, o, none⟩) h1
                  go_simp; rfl
                simp only [Act.put, List.setIfInBounds_toArray, List.set_cons_succ, List.set_cons_zero, List.nil_append, List.cons_append]
                apply Run.valG (wanted_none rfl _)
                · intro w1 h1 hk
                  have hcw := fun b o => Below.cell (p := ⟨b, o, none⟩) h1
                  go_simp; rfl
                simp only [Act.put, List.setIfInBounds_toArray, List.set_cons_succ, List.set_cons_zero, List.nil_append, List.cons_append]
                apply Run.valG (wanted_none rfl _)
                · intro w1 h1 hk
                  have hcw := fun b o => Below.cell (p := ⟨b, o, none⟩) h1
                  go_simp; rfl
                simp only [Act.put, List.setIfInBounds_toArray, List.set_cons_succ, List.set_cons_zero, List.nil_append, List.cons_append]
                apply Run.valR (wanted_none rfl _) (by intro v w w' hf hs; exact hs.fut RB.stays hf)
                · intro w1 h1 hk
                  go_simp; exact ⟨_, _, ⟨rfl, rfl⟩, Fut.alloc _ _, bytes_new _ [92, 120, hx a, hx b] _ _ _ rfl (by first | rfl | simp) (by decide)⟩
                intro v9
                simp only [Act.put, List.setIfInBounds_toArray, List.set_cons_succ, List.set_cons_zero, List.nil_append, List.cons_append]
                apply Run.done
                intro w2 h2 hk
                obtain ⟨f9, _⟩ := hk
                have W2 := (Fut.drew _).trans h2
                refine wpList_append_B (by go_simp) _ _ 93 5 rfl Tryd.underlying93 infoB w.heap.size _ _ (34 :: (s.data.toList.take k).flatMap esc) [92, 120, hx a, hx b] rfl rfl (hO.out.fut RB.stays W2) f9 ?l1 ?b1 ?k1
                case l1 => have := hln.out; simp only [List.length_cons, List.length_nil] at *; omega
                case b1 => have := hF.out.size; have := W2.size; omega
                case k1 =>
                intro v' w' o' g'
                have F' := Lib.hid (Fut.grown (hF.out.trans W2) g' (fun k hk => (hO.out.block k hk).1))
                have O' : Hid (OwnB w.heap.size 5 w' v' (34 :: (s.data.toList.take (k + 1)).flatMap esc)) := Lib.hid (by rw [he.out]; exact o')
                clear g' o' he
                go_wp2
                exact ⟨⟨k + 1, by go_num, by omega, O', F'⟩, by simp [intOf]; omega⟩
    · obtain rfl : k = s.size := by omega
      have O0 := Lib.hid hO.out
      rw [← hl.out, List.take_length] at O0
      have hl2 : Hid ((34 :: s.data.toList.flatMap esc).length ≤ 801) := Lib.hid (by have := hln.out; rw [← hl.out, List.take_length] at this; exact this)
      clear hO hln
      go_wp2_with (at_builtin; refine wpList_append_B (by go_simp) _ _ 93 5 rfl Tryd.underlying93 infoB w.heap.size _ _ (34 :: s.data.toList.flatMap esc) [34] rfl rfl (O0.out.fut RB.stays (Fut.alloc _ _)) (bytes_new _ [34] _ _ _ rfl (by first | rfl | simp) (by decide)) ?l1 ?b1 ?k1)
      case l1 => have := hl2.out; simp only [List.length_cons, List.length_nil] at *; omega
      case b1 => have := hF.out.size; simp; omega
      case k1 =>
      intro v' w' o' g'
      have F' := Lib.hid (Fut.grown (hF.out.trans (Fut.alloc _ _)) g' (fun k hk => (O0.out.block k hk).1))
      have hcv := conv_bytes (P := Tryd.prog) w' 93 9 5 v' (quoteL s.data.toList) Tryd.underlying93 Tryd.underlying5 Tryd.underlying9 (OwnL.rep o') (by simp [quoteL])
      clear o' g'
      go_wp2
      go_ret
      exact ⟨rfl, F'.out⟩
end Go.Proofs.YtlihkmldclocoaaDoor
