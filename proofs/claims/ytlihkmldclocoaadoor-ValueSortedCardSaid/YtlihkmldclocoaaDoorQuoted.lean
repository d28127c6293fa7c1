/- A text between quotes: value.quoted. -/
import Derived.Test.YtlihkmldclocoaaDoorBuild
import Derived.Test.YtlihkmldclocoaaDoorQuote
namespace Go.Proofs.YtlihkmldclocoaaDoor
open Go.RowKit
set_option linter.unusedSimpArgs false
set_option linter.unusedVariables false

theorem fresh_builder (w : World) : Lib.IsBuilder TB TE w.heap.size w.heap.size (Lib.byteCells []) (w.alloc (.cells #[.pointer none, .slice none 0 0] TB)) :=
  .inl ⟨Nat.le_refl _, .slice none 0 0, heap_alloc_new w _, ⟨rfl, .inl ⟨rfl, rfl⟩⟩, by simp [Value.ownBlock]⟩

theorem isB_fut {B b : Nat} {l : List Value} {w w' : World} (h : Lib.IsBuilder TB TE B b l w) (hf : Fut w w') : Lib.IsBuilder TB TE B b l w' := by
  have key : ∀ p, Lib.BuilderAt TB TE B b p l w → Lib.BuilderAt TB TE B b p l w' := fun p ⟨h1, v, h2, ⟨h3, h4⟩, h5⟩ => by
    refine ⟨h1, v, Fut.block hf h2, ⟨h3, ?_⟩, h5⟩
    rcases h4 with h4 | ⟨g, cap, cur, a1, a2, a3, a4⟩
    · exact .inl h4
    · exact .inr ⟨g, cap, cur, a1, a2, Fut.block hf a3, a4⟩
  exact h.elim (fun x => .inl (key _ x)) (fun x => .inr (key _ x))

set_option maxHeartbeats 4000000 in
set_option maxRecDepth 100000 in
theorem quoted_any (s : ByteArray) (w : World) (hs : s.size ≤ 200) :
    Calls Tryd.prog 53 #[.string s] w fun e w' => e = .returned (.string ⟨(quoteL s.data.toList).toArray⟩) ∧ Fut w w' := by
  have kc := fun w => run_bytes_of_string (P := Tryd.prog) w 9 93 5 s Tryd.underlying9 Tryd.underlying93 Tryd.underlying5
  have hl := Lib.hid (Lib.size_eq s).symm
  go_enter Tryd.func53, Tryd.ntmps53
  go_wp2_with fail
  refine (wbyte_any w.heap.size w.heap.size [] 34 _ (fresh_builder w) (by simp) (by simp)).mono ?_
  rintro e w1 ⟨rfl, b1, l1, m1⟩
  have F1 : Fut w w1 := ((Below.refl _ _).alloc (Nat.le_refl _) _).trans l1
  have hlt0 : w.heap.size < w1.heap.size := by have := l1.size; simp at this; omega
  go_wp2
  obtain ⟨cap, hcap⟩ : ∃ cap, grownCap w1 s.size 0 5 = cap := ⟨_, rfl⟩
  rw [hcap]
  obtain ⟨W, hW⟩ : ∃ W, W = (w1.alloc (.cells (bytesRow s cap) 5 ((bytesRow s cap).size, (bytesRow s cap).size + 1))).drew := ⟨_, rfl⟩
  rw [← hW]
  have r0 : Hid (W.heap[w1.heap.size]? = some (.cells (bytesRow s cap) 5 ((bytesRow s cap).size, (bytesRow s cap).size + 1))) := Lib.hid (by rw [hW]; exact heap_alloc_new w1 _)
  have FW : Fut w1 W := hW ▸ (Fut.alloc w1 _).trans (Fut.drew _)
  have r1 : Hid (Lib.IsBuilder TB TE w.heap.size w.heap.size (Lib.byteCells (34 :: (s.data.toList.take 0).flatMap esc)) W) := Lib.hid (isB_fut b1 FW)
  have r2 := Lib.hid (F1.trans FW)
  obtain ⟨r, hr⟩ : ∃ r, r = w1.heap.size := ⟨_, rfl⟩
  rw [← hr] at r0 hlt0 ⊢
  clear hW FW F1 b1 l1 m1 hcap hr kc
  go_loopw [10] (fun i wr => ∃ k : Nat, i = .int .i64 k ∧ k ≤ s.size ∧ Hid (Lib.IsBuilder TB TE w.heap.size w.heap.size (Lib.byteCells (34 :: (s.data.toList.take k).flatMap esc)) wr) ∧ Hid (wr.heap[r]? = some (.cells (bytesRow s cap) 5 ((bytesRow s cap).size, (bytesRow s cap).size + 1))) ∧ Hid (Fut w wr)) (fun i _ => s.size - (intOf i).toNat)
  case atStart => exact ⟨0, rfl, Nat.zero_le _, r1, r0, r2⟩
  case round =>
    obtain ⟨k, rfl, hk, hB, hR, hF⟩ := hrel
    have hln : Hid ((34 :: (s.data.toList.take k).flatMap esc).length ≤ 801) := Lib.hid (by have := flat_len (s.data.toList.take k); rw [List.length_take] at this; simp only [List.length_cons]; omega)
    by_cases hlt : k < s.size
    · have htk := Lib.hid (take_flat s k hlt)
      have hb := s[k].toNat_lt
      have hx1 : wr.cell? ⟨r, k, none⟩ = some (.int .u8 s[k].toNat) := by
        have := bytesRow_at s cap k hlt
        simp [World.cell?, hR.out, this]; rfl
      generalize hx0 : s[k] = x at htk hb hx1
      clear hx0
      by_cases c1 : x.toNat = 10
      · have d1 : ((x.toNat : Int) == 10) = true := by simp [c1]
        have hesc := Lib.hid (show esc x = [92, 110] by unfold esc; rw [if_pos c1])
        clear c1
        go_wp2_with fail
        refine (wstr_any w.heap.size w.heap.size _ ⟨#[92, 110]⟩ _ hB.out (by have := hln.out; have q1 : (⟨#[92, 110]⟩ : ByteArray).size = 2 := rfl; have q2 : (⟨#[92, 120]⟩ : ByteArray).size = 2 := rfl; have q3 : (⟨#[92, 120]⟩ : ByteArray).data.toList.length = 2 := rfl; simp only [List.length_append, List.length_cons, List.length_nil] at this ⊢; omega) hF.out.size).mono ?_
        rintro e w2 ⟨rfl, b2, l2, m2⟩
        have F2 : Fut w w2 := Below.trans hF.out l2
        have R2 := m2 r _ _ _ hR.out (by omega) (fun _ h => by simp at h)
        have O' : Hid (Lib.IsBuilder TB TE w.heap.size w.heap.size (Lib.byteCells (34 :: (s.data.toList.take (k + 1)).flatMap esc)) w2) := Lib.hid (by rw [htk.out, hesc.out]; first | exact b2 | simpa using b2)
        have R' := Lib.hid R2; have F' := Lib.hid F2
        clear b2 l2 m2 F2 R2
        go_wp2
        exact ⟨⟨k + 1, by go_num, by omega, O', R', F'⟩, by simp [intOf]; omega⟩
      · have d1 : ((x.toNat : Int) == 10) = false := by simp; omega
        by_cases c2 : x.toNat = 34
        · have d2 : ((x.toNat : Int) == 34) = true := by simp [c2]
          have hesc := Lib.hid (show esc x = [92, x] by unfold esc; rw [if_neg c1, if_pos (.inl c2)])
          clear c1 c2
          go_wp2_with fail
          refine (wbyte_any w.heap.size w.heap.size _ 92 _ hB.out (by have := hln.out; have q1 : (⟨#[92, 110]⟩ : ByteArray).size = 2 := rfl; have q2 : (⟨#[92, 120]⟩ : ByteArray).size = 2 := rfl; have q3 : (⟨#[92, 120]⟩ : ByteArray).data.toList.length = 2 := rfl; simp only [List.length_append, List.length_cons, List.length_nil] at this ⊢; omega) hF.out.size).mono ?_
          rintro e w2 ⟨rfl, b2, l2, m2⟩
          have F2 : Fut w w2 := Below.trans hF.out l2
          have R2 := m2 r _ _ _ hR.out (by omega) (fun _ h => by simp at h)
          go_wp2_with fail
          refine (wbyte_any w.heap.size w.heap.size _ x _ b2 (by have := hln.out; have q1 : (⟨#[92, 110]⟩ : ByteArray).size = 2 := rfl; have q2 : (⟨#[92, 120]⟩ : ByteArray).size = 2 := rfl; have q3 : (⟨#[92, 120]⟩ : ByteArray).data.toList.length = 2 := rfl; simp only [List.length_append, List.length_cons, List.length_nil] at this ⊢; omega) F2.size).mono ?_
          rintro e w3 ⟨rfl, b3, l3, m3⟩
          have F3 : Fut w w3 := Below.trans F2 l3
          have R3 := m3 r _ _ _ R2 (by omega) (fun _ h => by simp at h)
          have O' : Hid (Lib.IsBuilder TB TE w.heap.size w.heap.size (Lib.byteCells (34 :: (s.data.toList.take (k + 1)).flatMap esc)) w3) := Lib.hid (by rw [htk.out, hesc.out]; first | exact b3 | simpa using b3)
          have R' := Lib.hid R3; have F' := Lib.hid F3
          clear b2 l2 m2 F2 R2 b3 l3 m3 F3 R3
          go_wp2
          exact ⟨⟨k + 1, by go_num, by omega, O', R', F'⟩, by simp [intOf]; omega⟩
        · have d2 : ((x.toNat : Int) == 34) = false := by simp; omega
          by_cases c3 : x.toNat = 92
          · have d3 : ((x.toNat : Int) == 92) = true := by simp [c3]
            have hesc := Lib.hid (show esc x = [92, x] by unfold esc; rw [if_neg c1, if_pos (.inr c3)])
            clear c1 c2 c3
            go_wp2_with fail
            refine (wbyte_any w.heap.size w.heap.size _ 92 _ hB.out (by have := hln.out; have q1 : (⟨#[92, 110]⟩ : ByteArray).size = 2 := rfl; have q2 : (⟨#[92, 120]⟩ : ByteArray).size = 2 := rfl; have q3 : (⟨#[92, 120]⟩ : ByteArray).data.toList.length = 2 := rfl; simp only [List.length_append, List.length_cons, List.length_nil] at this ⊢; omega) hF.out.size).mono ?_
            rintro e w2 ⟨rfl, b2, l2, m2⟩
            have F2 : Fut w w2 := Below.trans hF.out l2
            have R2 := m2 r _ _ _ hR.out (by omega) (fun _ h => by simp at h)
            go_wp2_with fail
            refine (wbyte_any w.heap.size w.heap.size _ x _ b2 (by have := hln.out; have q1 : (⟨#[92, 110]⟩ : ByteArray).size = 2 := rfl; have q2 : (⟨#[92, 120]⟩ : ByteArray).size = 2 := rfl; have q3 : (⟨#[92, 120]⟩ : ByteArray).data.toList.length = 2 := rfl; simp only [List.length_append, List.length_cons, List.length_nil] at this ⊢; omega) F2.size).mono ?_
            rintro e w3 ⟨rfl, b3, l3, m3⟩
            have F3 : Fut w w3 := Below.trans F2 l3
            have R3 := m3 r _ _ _ R2 (by omega) (fun _ h => by simp at h)
            have O' : Hid (Lib.IsBuilder TB TE w.heap.size w.heap.size (Lib.byteCells (34 :: (s.data.toList.take (k + 1)).flatMap esc)) w3) := Lib.hid (by rw [htk.out, hesc.out]; first | exact b3 | simpa using b3)
            have R' := Lib.hid R3; have F' := Lib.hid F3
            clear b2 l2 m2 F2 R2 b3 l3 m3 F3 R3
            go_wp2
            exact ⟨⟨k + 1, by go_num, by omega, O', R', F'⟩, by simp [intOf]; omega⟩
          · have d3 : ((x.toNat : Int) == 92) = false := by simp; omega
            by_cases c4 : 32 ≤ x.toNat ∧ x.toNat ≤ 126
            · have d4 : ¬ (x.toNat : Int) < 32 := by omega
              have d5 : ¬ (126 : Int) < x.toNat := by omega
              have hesc := Lib.hid (show esc x = [x] by unfold esc; rw [if_neg c1, if_neg (by omega), if_pos c4])
              clear c1 c2 c3 c4
              go_wp2_with fail
              refine (wbyte_any w.heap.size w.heap.size _ x _ hB.out (by have := hln.out; have q1 : (⟨#[92, 110]⟩ : ByteArray).size = 2 := rfl; have q2 : (⟨#[92, 120]⟩ : ByteArray).size = 2 := rfl; have q3 : (⟨#[92, 120]⟩ : ByteArray).data.toList.length = 2 := rfl; simp only [List.length_append, List.length_cons, List.length_nil] at this ⊢; omega) hF.out.size).mono ?_
              rintro e w2 ⟨rfl, b2, l2, m2⟩
              have F2 : Fut w w2 := Below.trans hF.out l2
              have R2 := m2 r _ _ _ hR.out (by omega) (fun _ h => by simp at h)
              have O' : Hid (Lib.IsBuilder TB TE w.heap.size w.heap.size (Lib.byteCells (34 :: (s.data.toList.take (k + 1)).flatMap esc)) w2) := Lib.hid (by rw [htk.out, hesc.out]; first | exact b2 | simpa using b2)
              have R' := Lib.hid R2; have F' := Lib.hid F2
              clear b2 l2 m2 F2 R2
              go_wp2
              exact ⟨⟨k + 1, by go_num, by omega, O', R', F'⟩, by simp [intOf]; omega⟩
            · have hesc := Lib.hid (show esc x = [92, 120, hx (x.toNat / 16), hx (x.toNat % 16)] by unfold esc; rw [if_neg c1, if_neg (by omega), if_neg c4])
              clear c1 c2 c3
              have i3 := hx_lit (x.toNat / 16) (by omega)
              have i4 := hx_lit (x.toNat % 16) (by omega)
              by_cases c5 : x.toNat < 32
              · have d4 : (x.toNat : Int) < 32 := by omega
                clear c4 c5
                go_wp2_with fail
                refine (wstr_any w.heap.size w.heap.size _ ⟨#[92, 120]⟩ _ hB.out (by have := hln.out; have q1 : (⟨#[92, 110]⟩ : ByteArray).size = 2 := rfl; have q2 : (⟨#[92, 120]⟩ : ByteArray).size = 2 := rfl; have q3 : (⟨#[92, 120]⟩ : ByteArray).data.toList.length = 2 := rfl; simp only [List.length_append, List.length_cons, List.length_nil] at this ⊢; omega) hF.out.size).mono ?_
                rintro e w2 ⟨rfl, b2, l2, m2⟩
                have F2 : Fut w w2 := Below.trans hF.out l2
                have R2 := m2 r _ _ _ hR.out (by omega) (fun _ h => by simp at h)
                go_wp2_with fail
                refine (wbyte_any w.heap.size w.heap.size _ (hx (x.toNat / 16)) _ b2 (by have := hln.out; have q1 : (⟨#[92, 110]⟩ : ByteArray).size = 2 := rfl; have q2 : (⟨#[92, 120]⟩ : ByteArray).size = 2 := rfl; have q3 : (⟨#[92, 120]⟩ : ByteArray).data.toList.length = 2 := rfl; simp only [List.length_append, List.length_cons, List.length_nil] at this ⊢; omega) F2.size).mono ?_
                rintro e w3 ⟨rfl, b3, l3, m3⟩
                have F3 : Fut w w3 := Below.trans F2 l3
                have R3 := m3 r _ _ _ R2 (by omega) (fun _ h => by simp at h)
                go_wp2_with fail
                refine (wbyte_any w.heap.size w.heap.size _ (hx (x.toNat % 16)) _ b3 (by have := hln.out; have q1 : (⟨#[92, 110]⟩ : ByteArray).size = 2 := rfl; have q2 : (⟨#[92, 120]⟩ : ByteArray).size = 2 := rfl; have q3 : (⟨#[92, 120]⟩ : ByteArray).data.toList.length = 2 := rfl; simp only [List.length_append, List.length_cons, List.length_nil] at this ⊢; omega) F3.size).mono ?_
                rintro e w4 ⟨rfl, b4, l4, m4⟩
                have F4 : Fut w w4 := Below.trans F3 l4
                have R4 := m4 r _ _ _ R3 (by omega) (fun _ h => by simp at h)
                have O' : Hid (Lib.IsBuilder TB TE w.heap.size w.heap.size (Lib.byteCells (34 :: (s.data.toList.take (k + 1)).flatMap esc)) w4) := Lib.hid (by rw [htk.out, hesc.out]; first | exact b4 | simpa using b4)
                have R' := Lib.hid R4; have F' := Lib.hid F4
                clear b2 l2 m2 F2 R2 b3 l3 m3 F3 R3 b4 l4 m4 F4 R4
                go_wp2
                exact ⟨⟨k + 1, by go_num, by omega, O', R', F'⟩, by simp [intOf]; omega⟩
              · have d4 : ¬ (x.toNat : Int) < 32 := by omega
                have d5 : (126 : Int) < x.toNat := by omega
                clear c4 c5
                go_wp2_with fail
                refine (wstr_any w.heap.size w.heap.size _ ⟨#[92, 120]⟩ _ hB.out (by have := hln.out; have q1 : (⟨#[92, 110]⟩ : ByteArray).size = 2 := rfl; have q2 : (⟨#[92, 120]⟩ : ByteArray).size = 2 := rfl; have q3 : (⟨#[92, 120]⟩ : ByteArray).data.toList.length = 2 := rfl; simp only [List.length_append, List.length_cons, List.length_nil] at this ⊢; omega) hF.out.size).mono ?_
                rintro e w2 ⟨rfl, b2, l2, m2⟩
                have F2 : Fut w w2 := Below.trans hF.out l2
                have R2 := m2 r _ _ _ hR.out (by omega) (fun _ h => by simp at h)
                go_wp2_with fail
                refine (wbyte_any w.heap.size w.heap.size _ (hx (x.toNat / 16)) _ b2 (by have := hln.out; have q1 : (⟨#[92, 110]⟩ : ByteArray).size = 2 := rfl; have q2 : (⟨#[92, 120]⟩ : ByteArray).size = 2 := rfl; have q3 : (⟨#[92, 120]⟩ : ByteArray).data.toList.length = 2 := rfl; simp only [List.length_append, List.length_cons, List.length_nil] at this ⊢; omega) F2.size).mono ?_
                rintro e w3 ⟨rfl, b3, l3, m3⟩
                have F3 : Fut w w3 := Below.trans F2 l3
                have R3 := m3 r _ _ _ R2 (by omega) (fun _ h => by simp at h)
                go_wp2_with fail
                refine (wbyte_any w.heap.size w.heap.size _ (hx (x.toNat % 16)) _ b3 (by have := hln.out; have q1 : (⟨#[92, 110]⟩ : ByteArray).size = 2 := rfl; have q2 : (⟨#[92, 120]⟩ : ByteArray).size = 2 := rfl; have q3 : (⟨#[92, 120]⟩ : ByteArray).data.toList.length = 2 := rfl; simp only [List.length_append, List.length_cons, List.length_nil] at this ⊢; omega) F3.size).mono ?_
                rintro e w4 ⟨rfl, b4, l4, m4⟩
                have F4 : Fut w w4 := Below.trans F3 l4
                have R4 := m4 r _ _ _ R3 (by omega) (fun _ h => by simp at h)
                have O' : Hid (Lib.IsBuilder TB TE w.heap.size w.heap.size (Lib.byteCells (34 :: (s.data.toList.take (k + 1)).flatMap esc)) w4) := Lib.hid (by rw [htk.out, hesc.out]; first | exact b4 | simpa using b4)
                have R' := Lib.hid R4; have F' := Lib.hid F4
                clear b2 l2 m2 F2 R2 b3 l3 m3 F3 R3 b4 l4 m4 F4 R4
                go_wp2
                exact ⟨⟨k + 1, by go_num, by omega, O', R', F'⟩, by simp [intOf]; omega⟩
    · obtain rfl : k = s.size := by omega
      have B0 := Lib.hid hB.out
      rw [← hl.out, List.take_length] at B0
      have hl2 : Hid ((34 :: s.data.toList.flatMap esc).length ≤ 801) := Lib.hid (by have := hln.out; rw [← hl.out, List.take_length] at this; exact this)
      clear hB hln
      go_wp2_with fail
      refine (wbyte_any w.heap.size w.heap.size _ 34 _ B0.out (by have := hl2.out; omega) hF.out.size).mono ?_
      rintro e w2 ⟨rfl, b2, l2, m2⟩
      have F2 : Fut w w2 := Below.trans hF.out l2
      go_wp2_with fail
      refine (Tryd.Builder_String w.heap.size w.heap.size (quoteL s.data.toList) w2 b2 (by simp [quoteL])).mono ?_
      rintro e w3 ⟨rfl, l3⟩
      go_wp2
      go_ret
      exact ⟨rfl, Below.trans F2 l3⟩
end Go.Proofs.YtlihkmldclocoaaDoor

