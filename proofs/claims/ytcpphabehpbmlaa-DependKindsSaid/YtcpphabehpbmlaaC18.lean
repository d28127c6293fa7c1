/- DLaw, DOther, DOtherW, DLiveP -/
import Derived.Test.YtcpphabehpbmlaaC17
/- pedigreelaw09.nots, atoms. -/
namespace Go.Proofs.Ytcpphabehpbmlaa
open Go.RowKit Go.WideMaps
set_option linter.unusedSimpArgs false
set_option linter.unusedVariables false

def RBo (_ : World) (cs : List Value) (b : Bool) : Prop := cs = [.bool b]
theorem RBo.stays : Stays RBo := fun _ _ _ _ _ h => h
theorem RBo.keeps {e : TypeId} : Keeps e RBo := fun _ _ _ _ _ h _ _ => h
theorem RBo.one : ∀ (w : World) cs x, RBo w cs x → ∀ u ∈ cs, u.oneCell' = true := fun w cs x h u hu => by
  obtain rfl : cs = _ := h
  simp only [List.mem_singleton] at hu
  subst hu; rfl
theorem infoBo : (Try.prog.info? 4).map (fun i => (i.zero, i.size, i.bytes)) = some (some (.bool false), 1, 1) := by kernel_rfl
theorem boOne (w : World) (b : Bool) (e : TypeId) : SlRep 1 1 RBo (w.alloc (.cells #[.bool b] e)) (.slice (some ⟨w.heap.size, 0, none⟩) 1 1) [b] := slOne w [.bool b] b e rfl rfl
theorem filt_takeG {α : Type} {l : List Lt} {k : Nat} (hk : k < l.length) (g : Lt → α) : ((l.take (k + 1)).filter Lt.isA).map g = ((l.take k).filter Lt.isA).map g ++ (if l[k].isA = true then [g l[k]] else []) := by
  rw [List.take_succ_eq_append_getElem hk, List.filter_append, List.map_append]
  cases h : l[k].isA <;> simp [h]
def notG (l : Lt) : Bool := decide (l.k = 2)
set_option maxHeartbeats 2000000 in
set_option maxRecDepth 100000 in
theorem nots_any (r : Ru) (Ah Ab : Option Addr) (ch cb : Nat) (w : World) (h2 : SlRep 16 651562446089 RLt w (.slice Ab r.b.length cb) r.b) (hl : r.b.length ≤ 100000000) :
    Calls Try.prog 8 #[.agg #[.string r.p, .slice Ah r.h.length ch, .slice Ab r.b.length cb]] w fun e w' => ∃ v, e = .returned v ∧ OwnL 1 w.heap.size 4 RBo w' v ((r.b.filter Lt.isA).map notG) ∧ Fut w w' := by
  obtain ⟨p, xh, xb⟩ := r
  dsimp only at *
  have H2 := Lib.hid h2
  have hbx := heap_alloc_new w (.cells #[.string p, .slice Ah xh.length ch, .slice Ab xb.length cb] 31)
  have f0 := Lib.hid (Fut.alloc w (.cells #[.string p, .slice Ah xh.length ch, .slice Ab xb.length cb] 31))
  have c2 := Lib.hid (cell_at hbx 2 (.slice Ab xb.length cb) rfl)
  generalize xh.length = n at *
  clear h2 hbx
  go_enter Try.func8, Try.ntmps8
  go_wp2_with fail
  go_loopw [3, 4] (fun u i wr => ∃ k : Nat, k ≤ xb.length ∧ i = .int .i64 k ∧ Hid (OwnL 1 (w.heap.size + 1) 4 RBo wr u (((xb.take k).filter Lt.isA).map notG)) ∧ Hid (Fut (w.alloc (.cells #[.string p, .slice Ah n ch, .slice Ab xb.length cb] 31)) wr)) (fun _ i _ => xb.length - (intOf i).toNat)
  case atStart => exact ⟨0, Nat.zero_le _, rfl, Lib.hid OwnL.nil, Lib.hid (Fut.refl _)⟩
  case round =>
    obtain ⟨k, hk, rfl, hI, hF⟩ := hrel
    have y2 := hF.out.cell c2.out
    have FW := f0.out.trans hF.out
    have hsz := FW.size
    by_cases hlt : k < xb.length
    · have hltI : (k : Int) < xb.length := by omega
      have e0 : (0 : Int) ≤ k ∧ (k : Int) < xb.length := by omega
      obtain ⟨b', off, A', c', Al, l', cl, Ad, d', cd, rfl, hcs, _, _, g3⟩ := lt_at (H2.out.fut RLt.stays FW) hlt
      have u0 : wr.cell? ⟨b', off + k * 16, none⟩ = some (.int .i8 (xb[k]).k) := hcs 0 _ rfl
      have hnx := Lib.hid (filt_takeG hlt notG)
      have hfl := List.length_filter_le Lt.isA (xb.take k)
      rw [List.length_take] at hfl
      obtain ⟨G, hG⟩ : ∃ G, ((xb.take k).filter Lt.isA).map notG = G := ⟨_, rfl⟩
      have hGl : G.length ≤ 100000000 := by rw [← hG, List.length_map]; omega
      rw [hG] at hnx hI
      generalize xb[k] = z at *
      replace FW := Lib.hid FW
      clear hcs g3 hfl hG
      have hsz1 : w.heap.size + 1 ≤ wr.heap.size := by
        have := hF.out.size
        simpa using this
      by_cases ha : z.isA = true
      · rw [if_pos ha] at hnx
        have hk12 : z.k = 1 ∨ z.k = 2 := by
          unfold Lt.isA at ha
          simpa using ha
        obtain ⟨Au, cu, rfl, _, _⟩ := hI.out.rep.form
        clear ha
        rcases hk12 with e1 | e1
        · have hno : notG z = false := by unfold notG; rw [e1]; rfl
          rw [hno] at hnx
          go_wp2_with (first | (at_builtin; refine wpList_append_LB (R := RBo) (B := w.heap.size + 1) (M := 1) (xs := G) (ys := [false]) (e := 4) (by go_simp) _ _ 43 rfl Try.underlying43 (.bool false) 1 infoBo rfl (by decide) RBo.one RBo.keeps rfl rfl (hI.out.fut RBo.stays (Fut.alloc _ _)) (boOne _ _ _) ?l3 ?m3 ?b3 ?k3))
          case l3 => simp [maxLen]; omega
          case m3 => simp; omega
          case b3 => simp; omega
          case k3 =>
          intro v' w' o' g' sn'
          have HI := Lib.hid (show OwnL 1 (w.heap.size + 1) 4 RBo w' v' (((xb.take (k + 1)).filter Lt.isA).map notG) by rw [hnx.out]; exact o')
          have HF := Lib.hid ((hF.out.trans (Fut.alloc _ _)).grown g' (fun k hk => by
            have := (hI.out.block k hk).1
            simpa using this))
          clear o' g' sn'
          go_wp2
          go_roundw
          case rel => exact ⟨k + 1, by omega, by go_num, HI, HF⟩
          case measure => simp [intOf] <;> omega
        · have hno : notG z = true := by unfold notG; rw [e1]; rfl
          rw [hno] at hnx
          have e2 : ¬ z.k = 1 := by omega
          go_wp2_with (first | (at_builtin; refine wpList_append_LB (R := RBo) (B := w.heap.size + 1) (M := 1) (xs := G) (ys := [true]) (e := 4) (by go_simp) _ _ 43 rfl Try.underlying43 (.bool false) 1 infoBo rfl (by decide) RBo.one RBo.keeps rfl rfl (hI.out.fut RBo.stays (Fut.alloc _ _)) (boOne _ _ _) ?l3 ?m3 ?b3 ?k3))
          case l3 => simp [maxLen]; omega
          case m3 => simp; omega
          case b3 => simp; omega
          case k3 =>
          intro v' w' o' g' sn'
          have HI := Lib.hid (show OwnL 1 (w.heap.size + 1) 4 RBo w' v' (((xb.take (k + 1)).filter Lt.isA).map notG) by rw [hnx.out]; exact o')
          have HF := Lib.hid ((hF.out.trans (Fut.alloc _ _)).grown g' (fun k hk => by
            have := (hI.out.block k hk).1
            simpa using this))
          clear o' g' sn'
          go_wp2
          go_roundw
          case rel => exact ⟨k + 1, by omega, by go_num, HI, HF⟩
          case measure => simp [intOf] <;> omega
      · have e1 : ¬ z.k = 1 := fun h => ha (by unfold Lt.isA; rw [h]; rfl)
        have e2 : ¬ z.k = 2 := fun h => ha (by unfold Lt.isA; rw [h]; rfl)
        have e3 : (z.k == 1) = false := by rw [beq_eq_false_iff_ne]; exact e1
        have e4 : (z.k == 2) = false := by rw [beq_eq_false_iff_ne]; exact e2
        rw [if_neg ha, List.append_nil] at hnx
        have HI := Lib.hid (show OwnL 1 (w.heap.size + 1) 4 RBo wr u3 (((xb.take (k + 1)).filter Lt.isA).map notG) by rw [hnx.out]; exact hI.out)
        clear ha
        go_wp2
        go_roundw
        case rel => exact ⟨k + 1, by omega, by go_num, HI, hF⟩
        case measure => simp [intOf] <;> omega
    · obtain rfl : k = xb.length := by omega
      rw [List.take_length] at hI
      go_wp2
      go_ret
      exact ⟨_, rfl, hI.out.base (Nat.le_succ _), FW⟩
def lawEd (p : ByteArray) (m : Int) (l : Lt) : Ed := ⟨p, l.p, 0, m⟩
set_option maxHeartbeats 2000000 in
set_option maxRecDepth 100000 in
theorem lawAtoms_any (r : Ru) (m : Int) (Ah Ab : Option Addr) (ch cb : Nat) (w : World) (h2 : SlRep 16 651562446089 RLt w (.slice Ab r.b.length cb) r.b) (hl : r.b.length ≤ 100000000) :
    Calls Try.prog 7 #[.agg #[.string r.p, .slice Ah r.h.length ch, .slice Ab r.b.length cb], .int .i64 m] w fun e w' => ∃ v, e = .returned v ∧ OwnL 4 w.heap.size tEdge REd w' v ((r.b.filter Lt.isA).map (lawEd r.p m)) ∧ Fut w w' := by
  obtain ⟨p, xh, xb⟩ := r
  dsimp only at *
  have H2 := Lib.hid h2
  have hbx := heap_alloc_new w (.cells #[.string p, .slice Ah xh.length ch, .slice Ab xb.length cb] 31)
  have f0 := Lib.hid (Fut.alloc w (.cells #[.string p, .slice Ah xh.length ch, .slice Ab xb.length cb] 31))
  have c0 := Lib.hid (cell_at hbx 0 (.string p) rfl)
  have c2 := Lib.hid (cell_at hbx 2 (.slice Ab xb.length cb) rfl)
  generalize xh.length = n at *
  clear h2 hbx
  go_enter Try.func7, Try.ntmps7
  go_wp2_with fail
  go_loopw [5, 6] (fun u i wr => ∃ k : Nat, k ≤ xb.length ∧ i = .int .i64 k ∧ Hid (OwnL 4 (w.heap.size + 1) tEdge REd wr u (((xb.take k).filter Lt.isA).map (lawEd p m))) ∧ Hid (Fut (w.alloc (.cells #[.string p, .slice Ah n ch, .slice Ab xb.length cb] 31)) wr)) (fun _ i _ => xb.length - (intOf i).toNat)
  case atStart => exact ⟨0, Nat.zero_le _, rfl, Lib.hid OwnL.nil, Lib.hid (Fut.refl _)⟩
  case round =>
    obtain ⟨k, hk, rfl, hI, hF⟩ := hrel
    have y0 := hF.out.cell c0.out
    have y2 := hF.out.cell c2.out
    have FW := f0.out.trans hF.out
    have hsz := FW.size
    by_cases hlt : k < xb.length
    · have hltI : (k : Int) < xb.length := by omega
      have e0 : (0 : Int) ≤ k ∧ (k : Int) < xb.length := by omega
      obtain ⟨b', off, A', c', Al, l', cl, Ad, d', cd, rfl, hcs, _, _, g3⟩ := lt_at (H2.out.fut RLt.stays FW) hlt
      have u0 : wr.cell? ⟨b', off + k * 16, none⟩ = some (.int .i8 (xb[k]).k) := hcs 0 _ rfl
      have u1 : wr.cell? ⟨b', off + k * 16 + 1, none⟩ = some (.string (xb[k]).p) := hcs 1 _ rfl
      have hnx := Lib.hid (filt_takeG hlt (lawEd p m))
      have hfl := List.length_filter_le Lt.isA (xb.take k)
      rw [List.length_take] at hfl
      obtain ⟨G, hG⟩ : ∃ G, ((xb.take k).filter Lt.isA).map (lawEd p m) = G := ⟨_, rfl⟩
      have hGl : G.length ≤ 100000000 := by rw [← hG, List.length_map]; omega
      rw [hG] at hnx hI
      generalize xb[k] = z at *
      replace FW := Lib.hid FW
      clear hcs g3 hfl hG
      have hsz1 : w.heap.size + 1 ≤ wr.heap.size := by
        have := hF.out.size
        simpa using this
      by_cases ha : z.isA = true
      · rw [if_pos ha] at hnx
        have hk12 : z.k = 1 ∨ z.k = 2 := by
          unfold Lt.isA at ha
          simpa using ha
        obtain ⟨Au, cu, rfl, _, _⟩ := hI.out.rep.form
        clear ha
        rcases hk12 with e1 | e1
        · go_wp2_with fail
          refine wp_graph 13 [.d, .d, .d, .d, .d, .d, .d, .d, .d, .d, .d, .d, .r (fun u W => (∃ A, u = .slice A 1 1) ∧ SlRep 4 1 REd W u [⟨p, z.p, 0, m⟩])] (by kernel_rfl) (by kernel_rfl) (by kernel_rfl) ?_
          simp only [List.take_succ_cons, List.take_zero, List.drop_succ_cons, List.drop_zero, Exs]
          iterate 12 apply Exists.intro
          apply Run.valG (wanted_none rfl _)
          · intro w1 h1 hk
            have q0 := h1.cell y0; have q2 := h1.cell y2; have q3 := h1.cell u1
            have hcw := fun b o => Below.cell (p := ⟨b, o, none⟩) h1
            go_simp; rfl
          simp only [Act.put, List.setIfInBounds_toArray, List.set_cons_succ, List.set_cons_zero, List.nil_append, List.cons_append]
          apply Run.valG (wanted_none rfl _)
          · intro w1 h1 hk
            have q0 := h1.cell y0; have q2 := h1.cell y2; have q3 := h1.cell u1
            have hcw := fun b o => Below.cell (p := ⟨b, o, none⟩) h1
            go_simp; rfl
          simp only [Act.put, List.setIfInBounds_toArray, List.set_cons_succ, List.set_cons_zero, List.nil_append, List.cons_append]
          apply Run.valG (wanted_none rfl _)
          · intro w1 h1 hk
            have q0 := h1.cell y0; have q2 := h1.cell y2; have q3 := h1.cell u1
            have hcw := fun b o => Below.cell (p := ⟨b, o, none⟩) h1
            go_simp; rfl
          simp only [Act.put, List.setIfInBounds_toArray, List.set_cons_succ, List.set_cons_zero, List.nil_append, List.cons_append]
          apply Run.valG (wanted_none rfl _)
          · intro w1 h1 hk
            have q0 := h1.cell y0; have q2 := h1.cell y2; have q3 := h1.cell u1
            have hcw := fun b o => Below.cell (p := ⟨b, o, none⟩) h1
            go_simp; rfl
          simp only [Act.put, List.setIfInBounds_toArray, List.set_cons_succ, List.set_cons_zero, List.nil_append, List.cons_append]
          apply Run.valG (wanted_none rfl _)
          · intro w1 h1 hk
            have q0 := h1.cell y0; have q2 := h1.cell y2; have q3 := h1.cell u1
            have hcw := fun b o => Below.cell (p := ⟨b, o, none⟩) h1
            go_simp; rfl
          simp only [Act.put, List.setIfInBounds_toArray, List.set_cons_succ, List.set_cons_zero, List.nil_append, List.cons_append]
          apply Run.valG (wanted_none rfl _)
          · intro w1 h1 hk
            have q0 := h1.cell y0; have q2 := h1.cell y2; have q3 := h1.cell u1
            have hcw := fun b o => Below.cell (p := ⟨b, o, none⟩) h1
            go_simp; rfl
          simp only [Act.put, List.setIfInBounds_toArray, List.set_cons_succ, List.set_cons_zero, List.nil_append, List.cons_append]
          apply Run.valG (wanted_none rfl _)
          · intro w1 h1 hk
            have q0 := h1.cell y0; have q2 := h1.cell y2; have q3 := h1.cell u1
            have hcw := fun b o => Below.cell (p := ⟨b, o, none⟩) h1
            go_simp; rfl
          simp only [Act.put, List.setIfInBounds_toArray, List.set_cons_succ, List.set_cons_zero, List.nil_append, List.cons_append]
          apply Run.valG (wanted_none rfl _)
          · intro w1 h1 hk
            have q0 := h1.cell y0; have q2 := h1.cell y2; have q3 := h1.cell u1
            have hcw := fun b o => Below.cell (p := ⟨b, o, none⟩) h1
            go_simp; rfl
          simp only [Act.put, List.setIfInBounds_toArray, List.set_cons_succ, List.set_cons_zero, List.nil_append, List.cons_append]
          apply Run.valG (wanted_none rfl _)
          · intro w1 h1 hk
            have q0 := h1.cell y0; have q2 := h1.cell y2; have q3 := h1.cell u1
            have hcw := fun b o => Below.cell (p := ⟨b, o, none⟩) h1
            go_simp; rfl
          simp only [Act.put, List.setIfInBounds_toArray, List.set_cons_succ, List.set_cons_zero, List.nil_append, List.cons_append]
          apply Run.valG (wanted_none rfl _)
          · intro w1 h1 hk
            have q0 := h1.cell y0; have q2 := h1.cell y2; have q3 := h1.cell u1
            have hcw := fun b o => Below.cell (p := ⟨b, o, none⟩) h1
            go_simp; rfl
          simp only [Act.put, List.setIfInBounds_toArray, List.set_cons_succ, List.set_cons_zero, List.nil_append, List.cons_append]
          apply Run.valG (wanted_none rfl _)
          · intro w1 h1 hk
            have q0 := h1.cell y0; have q2 := h1.cell y2; have q3 := h1.cell u1
            have hcw := fun b o => Below.cell (p := ⟨b, o, none⟩) h1
            go_simp; rfl
          simp only [Act.put, List.setIfInBounds_toArray, List.set_cons_succ, List.set_cons_zero, List.nil_append, List.cons_append]
          apply Run.valG (wanted_none rfl _)
          · intro w1 h1 hk
            have q0 := h1.cell y0; have q2 := h1.cell y2; have q3 := h1.cell u1
            have hcw := fun b o => Below.cell (p := ⟨b, o, none⟩) h1
            go_simp; rfl
          simp only [Act.put, List.setIfInBounds_toArray, List.set_cons_succ, List.set_cons_zero, List.nil_append, List.cons_append]
          apply Run.valR (wanted_none rfl _) (by intro v w w' hf hs; exact ⟨hs.1, hs.2.fut REd.stays hf⟩)
          · intro w1 h1 hk
            have q0 := h1.cell y0; have q2 := h1.cell y2; have q3 := h1.cell u1
            go_simp; exact ⟨_, _, ⟨rfl, rfl⟩, Fut.alloc _ _, ⟨_, rfl⟩, edOne _ _ _ _ _ _⟩
          intro v12
          simp only [Act.put, List.setIfInBounds_toArray, List.set_cons_succ, List.set_cons_zero, List.nil_append, List.cons_append]
          apply Run.done
          intro w2 h2 hk
          obtain ⟨f12, _⟩ := hk
          obtain ⟨⟨A5, rfl⟩, hS5⟩ := f12
          have F2 := (Fut.drew _).trans h2
          have hz2 := F2.size
          replace hS5 := Lib.hid hS5
          replace F2 := Lib.hid F2
          clear h2
          go_wp2_with (first | (at_builtin; refine wpList_append_LB (R := REd) (B := w.heap.size + 1) (M := 1) (xs := G) (ys := [⟨p, z.p, 0, m⟩]) (e := 47) (by go_simp) _ _ tEdges rfl Try.underlying24 (.agg #[.string ⟨#[]⟩, .string ⟨#[]⟩, .int .i8 0, .int .i64 0]) 48 infoEd rfl (by decide) REd.one REd.keeps rfl rfl (hI.out.fut REd.stays F2.out) hS5.out ?l3 ?m3 ?b3 ?k3))
          case l3 => simp [maxLen]; omega
          case m3 => simp; omega
          case b3 => omega
          case k3 =>
          intro v' w' o' g' sn'
          have HI := Lib.hid (show OwnL 4 (w.heap.size + 1) 47 REd w' v' (((xb.take (k + 1)).filter Lt.isA).map (lawEd p m)) by rw [hnx.out]; exact o')
          have HF := Lib.hid ((hF.out.trans F2.out).grown g' (fun k hk => by
            have := (hI.out.block k hk).1
            simpa using this))
          clear o' g' sn'
          go_wp2
          go_roundw
          case rel => exact ⟨k + 1, by omega, by go_num, HI, HF⟩
          case measure => simp [intOf] <;> omega
        · have e2 : ¬ z.k = 1 := by omega
          go_wp2_with fail
          refine wp_graph 13 [.d, .d, .d, .d, .d, .d, .d, .d, .d, .d, .d, .d, .r (fun u W => (∃ A, u = .slice A 1 1) ∧ SlRep 4 1 REd W u [⟨p, z.p, 0, m⟩])] (by kernel_rfl) (by kernel_rfl) (by kernel_rfl) ?_
          simp only [List.take_succ_cons, List.take_zero, List.drop_succ_cons, List.drop_zero, Exs]
          iterate 12 apply Exists.intro
          apply Run.valG (wanted_none rfl _)
          · intro w1 h1 hk
            have q0 := h1.cell y0; have q2 := h1.cell y2; have q3 := h1.cell u1
            have hcw := fun b o => Below.cell (p := ⟨b, o, none⟩) h1
            go_simp; rfl
          simp only [Act.put, List.setIfInBounds_toArray, List.set_cons_succ, List.set_cons_zero, List.nil_append, List.cons_append]
          apply Run.valG (wanted_none rfl _)
          · intro w1 h1 hk
            have q0 := h1.cell y0; have q2 := h1.cell y2; have q3 := h1.cell u1
            have hcw := fun b o => Below.cell (p := ⟨b, o, none⟩) h1
            go_simp; rfl
          simp only [Act.put, List.setIfInBounds_toArray, List.set_cons_succ, List.set_cons_zero, List.nil_append, List.cons_append]
          apply Run.valG (wanted_none rfl _)
          · intro w1 h1 hk
            have q0 := h1.cell y0; have q2 := h1.cell y2; have q3 := h1.cell u1
            have hcw := fun b o => Below.cell (p := ⟨b, o, none⟩) h1
            go_simp; rfl
          simp only [Act.put, List.setIfInBounds_toArray, List.set_cons_succ, List.set_cons_zero, List.nil_append, List.cons_append]
          apply Run.valG (wanted_none rfl _)
          · intro w1 h1 hk
            have q0 := h1.cell y0; have q2 := h1.cell y2; have q3 := h1.cell u1
            have hcw := fun b o => Below.cell (p := ⟨b, o, none⟩) h1
            go_simp; rfl
          simp only [Act.put, List.setIfInBounds_toArray, List.set_cons_succ, List.set_cons_zero, List.nil_append, List.cons_append]
          apply Run.valG (wanted_none rfl _)
          · intro w1 h1 hk
            have q0 := h1.cell y0; have q2 := h1.cell y2; have q3 := h1.cell u1
            have hcw := fun b o => Below.cell (p := ⟨b, o, none⟩) h1
            go_simp; rfl
          simp only [Act.put, List.setIfInBounds_toArray, List.set_cons_succ, List.set_cons_zero, List.nil_append, List.cons_append]
          apply Run.valG (wanted_none rfl _)
          · intro w1 h1 hk
            have q0 := h1.cell y0; have q2 := h1.cell y2; have q3 := h1.cell u1
            have hcw := fun b o => Below.cell (p := ⟨b, o, none⟩) h1
            go_simp; rfl
          simp only [Act.put, List.setIfInBounds_toArray, List.set_cons_succ, List.set_cons_zero, List.nil_append, List.cons_append]
          apply Run.valG (wanted_none rfl _)
          · intro w1 h1 hk
            have q0 := h1.cell y0; have q2 := h1.cell y2; have q3 := h1.cell u1
            have hcw := fun b o => Below.cell (p := ⟨b, o, none⟩) h1
            go_simp; rfl
          simp only [Act.put, List.setIfInBounds_toArray, List.set_cons_succ, List.set_cons_zero, List.nil_append, List.cons_append]
          apply Run.valG (wanted_none rfl _)
          · intro w1 h1 hk
            have q0 := h1.cell y0; have q2 := h1.cell y2; have q3 := h1.cell u1
            have hcw := fun b o => Below.cell (p := ⟨b, o, none⟩) h1
            go_simp; rfl
          simp only [Act.put, List.setIfInBounds_toArray, List.set_cons_succ, List.set_cons_zero, List.nil_append, List.cons_append]
          apply Run.valG (wanted_none rfl _)
          · intro w1 h1 hk
            have q0 := h1.cell y0; have q2 := h1.cell y2; have q3 := h1.cell u1
            have hcw := fun b o => Below.cell (p := ⟨b, o, none⟩) h1
            go_simp; rfl
          simp only [Act.put, List.setIfInBounds_toArray, List.set_cons_succ, List.set_cons_zero, List.nil_append, List.cons_append]
          apply Run.valG (wanted_none rfl _)
          · intro w1 h1 hk
            have q0 := h1.cell y0; have q2 := h1.cell y2; have q3 := h1.cell u1
            have hcw := fun b o => Below.cell (p := ⟨b, o, none⟩) h1
            go_simp; rfl
          simp only [Act.put, List.setIfInBounds_toArray, List.set_cons_succ, List.set_cons_zero, List.nil_append, List.cons_append]
          apply Run.valG (wanted_none rfl _)
          · intro w1 h1 hk
            have q0 := h1.cell y0; have q2 := h1.cell y2; have q3 := h1.cell u1
            have hcw := fun b o => Below.cell (p := ⟨b, o, none⟩) h1
            go_simp; rfl
          simp only [Act.put, List.setIfInBounds_toArray, List.set_cons_succ, List.set_cons_zero, List.nil_append, List.cons_append]
          apply Run.valG (wanted_none rfl _)
          · intro w1 h1 hk
            have q0 := h1.cell y0; have q2 := h1.cell y2; have q3 := h1.cell u1
            have hcw := fun b o => Below.cell (p := ⟨b, o, none⟩) h1
            go_simp; rfl
          simp only [Act.put, List.setIfInBounds_toArray, List.set_cons_succ, List.set_cons_zero, List.nil_append, List.cons_append]
          apply Run.valR (wanted_none rfl _) (by intro v w w' hf hs; exact ⟨hs.1, hs.2.fut REd.stays hf⟩)
          · intro w1 h1 hk
            have q0 := h1.cell y0; have q2 := h1.cell y2; have q3 := h1.cell u1
            go_simp; exact ⟨_, _, ⟨rfl, rfl⟩, Fut.alloc _ _, ⟨_, rfl⟩, edOne _ _ _ _ _ _⟩
          intro v12
          simp only [Act.put, List.setIfInBounds_toArray, List.set_cons_succ, List.set_cons_zero, List.nil_append, List.cons_append]
          apply Run.done
          intro w2 h2 hk
          obtain ⟨f12, _⟩ := hk
          obtain ⟨⟨A5, rfl⟩, hS5⟩ := f12
          have F2 := (Fut.drew _).trans h2
          have hz2 := F2.size
          replace hS5 := Lib.hid hS5
          replace F2 := Lib.hid F2
          clear h2
          go_wp2_with (first | (at_builtin; refine wpList_append_LB (R := REd) (B := w.heap.size + 1) (M := 1) (xs := G) (ys := [⟨p, z.p, 0, m⟩]) (e := 47) (by go_simp) _ _ tEdges rfl Try.underlying24 (.agg #[.string ⟨#[]⟩, .string ⟨#[]⟩, .int .i8 0, .int .i64 0]) 48 infoEd rfl (by decide) REd.one REd.keeps rfl rfl (hI.out.fut REd.stays F2.out) hS5.out ?l3 ?m3 ?b3 ?k3))
          case l3 => simp [maxLen]; omega
          case m3 => simp; omega
          case b3 => omega
          case k3 =>
          intro v' w' o' g' sn'
          have HI := Lib.hid (show OwnL 4 (w.heap.size + 1) 47 REd w' v' (((xb.take (k + 1)).filter Lt.isA).map (lawEd p m)) by rw [hnx.out]; exact o')
          have HF := Lib.hid ((hF.out.trans F2.out).grown g' (fun k hk => by
            have := (hI.out.block k hk).1
            simpa using this))
          clear o' g' sn'
          go_wp2
          go_roundw
          case rel => exact ⟨k + 1, by omega, by go_num, HI, HF⟩
          case measure => simp [intOf] <;> omega
      · have e1 : ¬ z.k = 1 := fun h => ha (by unfold Lt.isA; rw [h]; rfl)
        have e2 : ¬ z.k = 2 := fun h => ha (by unfold Lt.isA; rw [h]; rfl)
        have e3 : (z.k == 1) = false := by rw [beq_eq_false_iff_ne]; exact e1
        have e4 : (z.k == 2) = false := by rw [beq_eq_false_iff_ne]; exact e2
        rw [if_neg ha, List.append_nil] at hnx
        have HI := Lib.hid (show OwnL 4 (w.heap.size + 1) tEdge REd wr u5 (((xb.take (k + 1)).filter Lt.isA).map (lawEd p m)) by rw [hnx.out]; exact hI.out)
        clear ha
        go_wp2
        go_roundw
        case rel => exact ⟨k + 1, by omega, by go_num, HI, hF⟩
        case measure => simp [intOf] <;> omega
    · obtain rfl : k = xb.length := by omega
      rw [List.take_length] at hI
      go_wp2
      go_ret
      exact ⟨_, rfl, hI.out.base (Nat.le_succ _), FW⟩
end Go.Proofs.Ytcpphabehpbmlaa
/- pedigreelaw09.atom, other. -/
namespace Go.Proofs.Ytcpphabehpbmlaa
open Go.RowKit Go.WideMaps
set_option linter.unusedSimpArgs false
set_option linter.unusedVariables false

def exZ : Ex := .mk 0 ⟨⟨#[]⟩, ⟨0, 0, ⟨#[]⟩⟩⟩ []
def ltZ (k : Int) (p : ByteArray) : Lt := ⟨k, p, [], 0, exZ, exZ⟩
def nilV : Value := .slice none 0 0
theorem exZ_re (w : World) : RE 1 w (exZ.cs (.slice none 0 0)) exZ := ⟨_, rfl, by decide, ⟨by decide, by decide, by decide, by decide⟩, SlRep.nil⟩
theorem ltZ_c (w : World) (k : Int) (p : ByteArray) (hk : (Lit.int .i8 k).wf = true) (hp : p.size ≤ 140737488351232) : LtC w (ltZ k p) (.slice none 0 0) (.slice none 0 0) (.slice none 0 0) :=
  ⟨SlRep.nil, ⟨1, exZ_re w⟩, ⟨1, exZ_re w⟩, hk, (by show (Lit.int .i8 0).wf = true; decide), hp⟩
abbrev ltZs (k : Int) (p : ByteArray) : List Value := [.int .i8 k, .string p, .slice none 0 0, .int .i8 0, .int .i8 0, .string ⟨#[]⟩, .int .i8 0, .int .i64 0, .string ⟨#[]⟩, .slice none 0 0, .int .i8 0, .string ⟨#[]⟩, .int .i8 0, .int .i64 0, .string ⟨#[]⟩, .slice none 0 0]
set_option maxHeartbeats 2000000 in
set_option maxRecDepth 100000 in
theorem lawAtom_any (k : Int) (p : ByteArray) (w : World) :
    Calls Try.prog 38 #[.int .i8 k, .string p] w fun e w' => e = .returned (.agg (ltZs k p).toArray) ∧ Fut w w' := by
  go_enter Try.func38, Try.ntmps38
  go_wp2
  have hb := heap_alloc_new w (.cells (ltZs k p).toArray 61)
  refine bodyPost_ret (v := .agg (ltZs k p).toArray) (results_cell_row rfl _ _ w.heap.size _ (ltZs k p).toArray _ _ rfl hb Try.underlying61 rfl infoLtS) rfl ?_
  exact ⟨rfl, Fut.alloc _ _⟩
end Go.Proofs.Ytcpphabehpbmlaa
/- pedigreelaw09.other. -/
namespace Go.Proofs.Ytcpphabehpbmlaa
open Go.RowKit Go.WideMaps
set_option linter.unusedSimpArgs false
set_option linter.unusedVariables false

def xB : ByteArray := ⟨#[120]⟩
def yB : ByteArray := ⟨#[121]⟩
def zB : ByteArray := ⟨#[122]⟩
def ruZ : Ru := ⟨zB, [], [ltZ 2 yB, ltZ 1 zB]⟩
def ruY : Ru := ⟨yB, [], [ltZ 1 xB]⟩
def otherP : List Ru := [ruZ, ruY]
theorem set_foldO : ∀ (l : List Value) (off k : Nat) (arr : Array Value), off + k + l.length ≤ arr.size → (l.zipIdx k).foldl (fun cs (x : Value × Nat) => cs.setIfInBounds (off + x.2) x.1) arr = (arr.toList.take (off + k) ++ l ++ arr.toList.drop (off + k + l.length)).toArray
  | [], off, k, arr, h => by simp
  | v :: r, off, k, arr, h => by
    rw [List.length_cons] at h
    rw [List.zipIdx_cons, List.foldl_cons, set_foldO r off (k + 1) _ (by simp; omega)]
    congr 1
    have hk : off + k < arr.toList.length := by simp; omega
    rw [Array.toList_setIfInBounds, List.take_set, List.drop_set]
    have hz0 : off + (k + 1) - (off + k + 1) = 0 := by omega
    simp only [show ¬ off + (k + 1) + r.length ≤ off + k by omega, if_false]
    rw [List.set_eq_take_append_cons_drop]
    simp only [List.length_take, show off + k < min (off + (k + 1)) arr.toList.length by omega, if_true]
    rw [List.take_take, show min (off + k) (off + (k + 1)) = off + k by omega, List.drop_take]
    simp [List.length_cons, hz0, show off + (k + 1) + r.length = off + k + (r.length + 1) by omega]
/-- A slice of two structs. -/
theorem run_slice2 {P : Program} {t e : TypeId} {c1 c2 : List Value} {z : Value} {n m : Nat} (ht : P.underlying t = some (.slice e)) (hi : (P.info? e).map (fun i => (i.zero, i.size, i.bytes)) = some (some z, n, m)) (h1 : c1.length = n) (h2 : c2.length = n) (hp : 0 < n) (hsm : n ≤ 2 ^ 20) (w : World) :
    (Instr.buildSlice t 2 #[(0, .agg c1.toArray), (1, .agg c2.toArray)]).run P w = .ok (.slice (some ⟨w.heap.size, 0, none⟩) 2 2) (w.alloc (.cells (c1 ++ c2).toArray e)) := by
  obtain ⟨i, hq, hz, hs, _⟩ := info_parts hi
  refine run_buildSlice w t e 2 _ _ i z ht hq hz (by rw [hs]; omega) (by rw [hs]; omega) ?_
  rw [hs]
  have e1 : ∀ c : List Value, (Value.agg c.toArray).cells = c.toArray := fun c => rfl
  obtain ⟨arr, harr⟩ : ∃ a, ((Array.range (2 * n)).map (z.cells[· % z.cells.size]!)) = a := ⟨_, rfl⟩
  have hsz : arr.size = 2 * n := by rw [← harr]; simp
  rw [harr]
  have f1 := set_foldO c1 0 0 arr (by omega)
  have f2 : ∀ a2 : Array Value, a2.size = 2 * n → (c2.zipIdx 0).foldl (fun cs (x : Value × Nat) => cs.setIfInBounds (n + x.2) x.1) a2 = (a2.toList.take n ++ c2).toArray := fun a2 ha => by
    rw [set_foldO c2 n 0 a2 (by omega)]
    have : a2.toList.drop (n + 0 + c2.length) = [] := List.drop_eq_nil_of_le (by simp; omega)
    rw [this, List.append_nil, Nat.add_zero]
  unfold Instr.fill Instr.fill Instr.fill
  simp only [Nat.zero_mul, Nat.one_mul, e1]
  rw [if_neg (by simp; omega)]
  rw [← Array.foldl_toList, Array.toList_zipIdx]
  simp only [List.toList_toArray]
  rw [f1, if_neg (by simp; omega), ← Array.foldl_toList, Array.toList_zipIdx]
  simp only [List.toList_toArray]
  rw [f2 _ (by simp; omega)]
  simp
  rw [← h1, List.take_left]
theorem wpList_slice2 {P : Program} {ops : Array Oper} {rest : List Oper} {o : Oper} {a : Act} {w : World} {Q : Exit → Act → World → Prop} {t e : TypeId} {c1 c2 : List Value} {z : Value} {n m : Nat} (hg : o.guard = none) (x y : Operand) (ho : o.op = .buildSlice t 2 #[(0, x), (1, y)]) (hx : a.eval x = .agg c1.toArray) (hy : a.eval y = .agg c2.toArray)
    (ht : P.underlying t = some (.slice e)) (hi : (P.info? e).map (fun i => (i.zero, i.size, i.bytes)) = some (some z, n, m)) (h1 : c1.length = n) (h2 : c2.length = n) (hp : 0 < n) (hsm : n ≤ 2 ^ 20)
    (h : wpList P ops Q rest (a.put o.dst (.slice (some ⟨w.heap.size, 0, none⟩) 2 2)) (w.alloc (.cells (c1 ++ c2).toArray e))) : wpList P ops Q (o :: rest) a w := by
  refine wpList_of_run (wanted_none hg _) (v := .slice (some ⟨w.heap.size, 0, none⟩) 2 2) (w' := w.alloc (.cells (c1 ++ c2).toArray e)) ?_ h
  unfold execOp
  have h1' : (#[((0 : Nat), x), ((1 : Nat), y)].map fun (i, x) => (i, a.eval x)) = #[(0, .agg c1.toArray), (1, .agg c2.toArray)] := by simp [hx, hy]
  simp only [ho, h1', Sem.run_bind, Sem.run_pure, Result.andThen_ok, run_slice2 ht hi h1 h2 hp hsm]
/-- A list that lies in a block, from its first cell on. -/
theorem slBlk {α : Type} {sz b : Nat} {R : World → List Value → α → Prop} {W : World} {t : TypeId} {css : List (List Value)} {xs : List α} (h : W.heap[b]? = some (.cells css.flatten.toArray t (0, 0))) (hl : css.length = xs.length) (hs : ∀ (i : Nat) (cs : List Value), css[i]? = some cs → cs.length = sz) (hR : ∀ (i : Nat) (cs : List Value) (x : α), css[i]? = some cs → xs[i]? = some x → R W cs x) :
    SlRep sz xs.length R W (.slice (some ⟨b, 0, none⟩) xs.length xs.length) xs :=
  ⟨_, _, rfl, Nat.le_refl _, Nat.le_refl _, fun i x hx => by
    have hi : i < css.length := by have := (List.getElem?_eq_some_iff.1 hx).1; omega
    refine ⟨b, 0, css[i], rfl, hs i _ (List.getElem?_eq_getElem hi), fun j c hj => ?_, hR i _ x (List.getElem?_eq_getElem hi) hx⟩
    have := flatten_at hs i j _ c (List.getElem?_eq_getElem hi) hj
    rw [Nat.zero_add]
    exact cell_at h _ c (by simpa using this)⟩
theorem ltZ_rlt (W : World) (k : Int) (p : ByteArray) (hk : (Lit.int .i8 k).wf = true) (hp : p.size ≤ 140737488351232) : RLt W (ltZs k p) (ltZ k p) := (ltZ_c W k p hk hp).rlt
theorem lits2 {W : World} {b : Nat} {t : TypeId} {k1 k2 : Int} {p1 p2 : ByteArray} (h : W.heap[b]? = some (.cells (ltZs k1 p1 ++ ltZs k2 p2).toArray t (0, 0))) (a1 : (Lit.int .i8 k1).wf = true) (a2 : (Lit.int .i8 k2).wf = true) (b1 : p1.size ≤ 140737488351232) (b2 : p2.size ≤ 140737488351232) :
    SlRep 16 651562446089 RLt W (.slice (some ⟨b, 0, none⟩) 2 2) [ltZ k1 p1, ltZ k2 p2] :=
  (slBlk (css := [ltZs k1 p1, ltZs k2 p2]) (xs := [ltZ k1 p1, ltZ k2 p2]) (by simpa using h) rfl (fun i cs hi => by
    match i, hi with
    | 0, hi => injection hi with hi; subst hi; rfl
    | 1, hi => injection hi with hi; subst hi; rfl) (fun i cs x hi hx => by
    match i, hi, hx with
    | 0, hi, hx => injection hi with hi; injection hx with hx; subst hi; subst hx; exact ltZ_rlt W _ _ a1 b1
    | 1, hi, hx => injection hi with hi; injection hx with hx; subst hi; subst hx; exact ltZ_rlt W _ _ a2 b2)).more (by show (2 : Nat) ≤ _; decide)
theorem lits1 {W : World} {b : Nat} {t : TypeId} {k1 : Int} {p1 : ByteArray} (h : W.heap[b]? = some (.cells (ltZs k1 p1).toArray t (0, 0))) (a1 : (Lit.int .i8 k1).wf = true) (b1 : p1.size ≤ 140737488351232) :
    SlRep 16 651562446089 RLt W (.slice (some ⟨b, 0, none⟩) 1 1) [ltZ k1 p1] :=
  (slBlk (css := [ltZs k1 p1]) (xs := [ltZ k1 p1]) (by simpa using h) rfl (fun i cs hi => by
    match i, hi with
    | 0, hi => injection hi with hi; subst hi; rfl) (fun i cs x hi hx => by
    match i, hi, hx with
    | 0, hi, hx => injection hi with hi; injection hx with hx; subst hi; subst hx; exact ltZ_rlt W _ _ a1 b1)).more (by show (1 : Nat) ≤ _; decide)
theorem rules2 {W : World} {b g1 g2 : Nat} {t : TypeId} (h : W.heap[b]? = some (.cells #[.string zB, .slice none 0 0, .slice (some ⟨g1, 0, none⟩) 2 2, .string yB, .slice none 0 0, .slice (some ⟨g2, 0, none⟩) 1 1] t (0, 0))) (h1 : SlRep 16 651562446089 RLt W (.slice (some ⟨g1, 0, none⟩) 2 2) ruZ.b) (h2 : SlRep 16 651562446089 RLt W (.slice (some ⟨g2, 0, none⟩) 1 1) ruY.b) :
    SlRep 3 2199023255552 RRu W (.slice (some ⟨b, 0, none⟩) 2 2) otherP :=
  (slBlk (css := [[.string zB, .slice none 0 0, .slice (some ⟨g1, 0, none⟩) 2 2], [.string yB, .slice none 0 0, .slice (some ⟨g2, 0, none⟩) 1 1]]) (xs := otherP) (by simpa using h) rfl (fun i cs hi => by
    match i, hi with
    | 0, hi => injection hi with hi; subst hi; rfl
    | 1, hi => injection hi with hi; subst hi; rfl) (fun i cs x hi hx => by
    match i, hi, hx with
    | 0, hi, hx => injection hi with hi; injection hx with hx; subst hi; subst hx; exact ⟨_, _, rfl, by decide, SlRep.nil, h1⟩
    | 1, hi, hx => injection hi with hi; injection hx with hx; subst hi; subst hx; exact ⟨_, _, rfl, by decide, SlRep.nil, h2⟩)).more (by decide)
theorem infoPg : (Try.prog.info? 27).map (·.size) = some 1 := by kernel_rfl
set_option maxHeartbeats 4000000 in
set_option maxRecDepth 100000 in
theorem other_any (w : World) : Calls Try.prog 19 #[] w fun e w' => ∃ A, e = .returned (.agg #[.slice A 2 2]) ∧ SlRep 3 2199023255552 RRu w' (.slice A 2 2) otherP ∧ Fut w w' := by
  have hc := fun (k : Int) (p : ByteArray) W => lawAtom_any k p W
  go_enter Try.func19, Try.ntmps19
  go_wp2_with fail
  refine (hc 2 yB _).mono ?_
  rintro e w1 ⟨rfl, f1⟩
  go_wp2_with fail
  refine (hc 1 zB _).mono ?_
  rintro e w2 ⟨rfl, f2⟩
  go_wp2_with (first | (refine wpList_slice2 (c1 := ltZs 2 yB) (c2 := ltZs 1 zB) rfl _ _ rfl rfl rfl Try.underlying29 infoLtF rfl rfl (by decide) (by decide) ?_))
  refine (hc 1 xB _).mono ?_
  rintro e w3 ⟨rfl, f3⟩
  have f12 := Fut.alloc w2 (.cells (ltZs 2 yB ++ ltZs 1 zB).toArray 61)
  have bl := f3.block (heap_alloc_new w2 (.cells (ltZs 2 yB ++ ltZs 1 zB).toArray 61))
  have f34 := Fut.alloc w3 (.cells (ltZs 1 xB).toArray 61)
  have f45 := Fut.alloc (w3.alloc (.cells (ltZs 1 xB).toArray 61)) (.cells #[.string ⟨#[122]⟩, .slice none 0 0, .slice (some ⟨w2.heap.size, 0, none⟩) 2 2, .string ⟨#[121]⟩, .slice none 0 0, .slice (some ⟨w3.heap.size, 0, none⟩) 1 1] 31)
  have b0 := f45.block (f34.block (f3.block (f12.block (f2.block (f1.block (heap_alloc_new w (.cells #[.slice none 0 0] 27)))))))
  have b1 := f45.block (f34.block bl)
  have b2 := f45.block (heap_alloc_new w3 (.cells (ltZs 1 xB).toArray 61))
  have b3 := heap_alloc_new (w3.alloc (.cells (ltZs 1 xB).toArray 61)) (.cells #[.string ⟨#[122]⟩, .slice none 0 0, .slice (some ⟨w2.heap.size, 0, none⟩) 2 2, .string ⟨#[121]⟩, .slice none 0 0, .slice (some ⟨w3.heap.size, 0, none⟩) 1 1] 31)
  have z4 : (w3.alloc (.cells (ltZs 1 xB).toArray 61)).heap.size = w3.heap.size + 1 := by simp
  rw [z4] at b3
  have k0 := cell_at b0 0 (.slice none 0 0) rfl
  have k1 := free_at b0 0
  have F0 := Lib.hid (((((Fut.alloc w (.cells #[.slice none 0 0] 27)).trans f1).trans f2).trans f12).trans ((f3.trans f34).trans f45))
  have n2 : w.heap.size < w2.heap.size := by
    have h9 := (f1.trans f2).size
    rw [show (w.alloc (.cells #[.slice none 0 0] 27)).heap.size = w.heap.size + 1 from by simp] at h9
    omega
  have n3 : w.heap.size < w3.heap.size := by
    have h9 := (f12.trans f3).size
    omega
  have HB := Lib.hid (And.intro b0 (And.intro b1 (And.intro b2 b3)))
  have HN := Lib.hid (And.intro n2 n3)
  clear bl b0 b1 b2 b3 f12 f34 f45 f1 f2 f3 z4 n2 n3
  go_wp2_with (first | (refine wpList_slice1 (cs := ltZs 1 xB) rfl _ rfl rfl Try.underlying29 infoLtF rfl rfl (by decide) (by decide) ?_))
  obtain ⟨b0, b1, b2, b3⟩ := HB.out
  obtain ⟨n2, n3⟩ := HN.out
  obtain ⟨w5, hw5⟩ : ∃ W, ((w3.alloc (.cells (ltZs 1 xB).toArray 61)).alloc (.cells #[.string ⟨#[122]⟩, .slice none 0 0, .slice (some ⟨w2.heap.size, 0, none⟩) 2 2, .string ⟨#[121]⟩, .slice none 0 0, .slice (some ⟨w3.heap.size, 0, none⟩) 1 1] 31)).setCell ⟨w.heap.size, 0, none⟩ (.slice (some ⟨w3.heap.size + 1, 0, none⟩) 2 2) = W := ⟨_, rfl⟩
  have O2 : Only (fun k => k = w.heap.size) ((w3.alloc (.cells (ltZs 1 xB).toArray 61)).alloc (.cells #[.string ⟨#[122]⟩, .slice none 0 0, .slice (some ⟨w2.heap.size, 0, none⟩) 2 2, .string ⟨#[121]⟩, .slice none 0 0, .slice (some ⟨w3.heap.size, 0, none⟩) 1 1] 31)) w5 := by rw [← hw5]; exact Only.set _ _ rfl
  have hb := set_block (j := 0) (v := .slice (some ⟨w3.heap.size + 1, 0, none⟩) 2 2) b0
  rw [hw5] at hb
  rw [hw5]
  have LR := rules2 (O2.keeps b3 (by omega)) (lits2 (O2.keeps b1 (by omega)) (by decide) (by decide) (by decide) (by decide)) (lits1 (O2.keeps b2 (by omega)) (by decide) (by decide))
  have OW : Only (fun k => w.heap.size ≤ k) w w5 := (Only.fut F0.out).trans (O2.mono fun k _ hk => by omega)
  refine bodyPost_ret (v := .agg #[.slice (some ⟨w3.heap.size + 1, 0, none⟩) 2 2]) (results_cell_row rfl _ _ w.heap.size _ #[.slice (some ⟨w3.heap.size + 1, 0, none⟩) 2 2] _ _ rfl hb Try.underlying27 rfl infoPg) rfl ?_
  exact ⟨_, rfl, LR, OW.toFut fun k hk => hk⟩
end Go.Proofs.Ytcpphabehpbmlaa
/- What the example program comes to, plainly. -/
namespace Go.Proofs.Ytcpphabehpbmlaa
open Go.RowKit Go.WideMaps Go.Maps
set_option linter.unusedSimpArgs false
set_option linter.unusedVariables false

def liveT : TS := ⟨[(xB, 1), (yB, 2), (zB, 3)], [], [(xB, 0), (yB, 1), (zB, 2)], [[xB], [yB], [zB]]⟩
theorem live_small : Small otherP := by unfold Small; decide +kernel
theorem live_smallY : Small [ruY] := by unfold Small; decide +kernel
theorem live_len : (drawP otherP).length ≤ 100000000 := by decide +kernel
theorem live_tarj : tarjT (drawP otherP) 10 = some liveT := by kernel_rfl
theorem live_blame : blameE liveT.inn (edgesP otherP) = none := by kernel_rfl
theorem live_raise : raiseR (edgesP otherP) 5 [] = some [(zB, 1)] := by kernel_rfl
theorem live_levels : ((drawP otherP).sorted.map fun s => (s, lk0 [(zB, 1)] s)) = [(xB, 0), (yB, 0), (zB, 1)] := by kernel_rfl
theorem live_parts : partsP (drawP otherP) liveT = some [[xB], [yB], [zB]] := by kernel_rfl
theorem live_sound : SoundT liveT := ⟨by decide +kernel, by decide +kernel, by decide⟩
theorem live_pz : ∀ p ∈ liveT.out, ∀ x ∈ p, x.size ≤ 140737488351232 := by decide +kernel
theorem live_plain : plainP [ruY] = true := by kernel_rfl
theorem live_one : oneP otherP = false := by kernel_rfl
end Go.Proofs.Ytcpphabehpbmlaa
