/- Rising, WaysP, Parted, Ways, DependWays -/
import Derived.Test.YtackadhamghblaaGreatRows
import Derived.SevenTiedAt
import Derived.Lay
import Derived.LaidOnce
import Derived.ChangeMaps5
import Derived.Test.YtackadhamghblaaGreatC25
/- The law's rising: a list in rising order, each name once. -/
namespace Go.Proofs.YtackadhamghblaaGreat
open Go.RowKit Go.WideMaps Go.Maps
set_option linter.unusedSimpArgs false
set_option linter.unusedVariables false
theorem rise_at {L : List ByteArray} (hu : Up cmpS L) (m k : Nat) (hk : k = m + 1) (h : k < L.length) : Op.bytesLess (L[m]'(by omega)).toList (L[k]'h).toList = true := by
  rw [less_cmpS]
  exact decide_eq_true (List.pairwise_iff_getElem.1 hu m k (by omega) h (by omega))
set_option maxHeartbeats 1600000 in
set_option maxRecDepth 100000 in
theorem rising_any {M : Nat} (A : Option Addr) (c : Nat) (L : List ByteArray) (w : World) (h : SlRep 1 M RNm w (.slice A L.length c) L) (hM : M ≤ 9223372036854775807) (hu : Up cmpS L) :
    Calls Tryz.prog 13 #[.slice A L.length c] w fun e w' => e = .returned (.bool true) ∧ Fut w w' := by
  have H := Lib.hid h
  have HU := Lib.hid (rise_at hu)
  obtain ⟨_, _, hv, hl1, hl2⟩ := h.form
  have hxl : L.length ≤ 9223372036854775807 := by omega
  clear h hv hl1 hl2 hu
  go_enter Tryz.func13, Tryz.ntmps13
  go_wp2_with fail
  go_loopw [3] (fun i W => ∃ k m : Nat, i = .int .i64 k ∧ k = m + 1 ∧ Hid (Fut w W)) (fun i _ => L.length - (intOf i).toNat)
  case atStart => exact ⟨1, 0, rfl, rfl, Lib.hid (Fut.refl _)⟩
  case round =>
    obtain ⟨k, m, rfl, hkm, hF⟩ := hrel
    obtain ⟨wq, rfl⟩ : ∃ x, x = wr := ⟨_, rfl⟩
    by_cases hlt : k < L.length
    · have hltI : (k : Int) < L.length := by omega
      have hml : m < L.length := by omega
      have e0 : (0 : Int) ≤ k ∧ (k : Int) < L.length := by omega
      have e1 : (0 : Int) ≤ m ∧ (m : Int) < L.length := by omega
      have e64 : IntKind.i64.wrap ((k : Int) - 1) = (m : Int) := by rw [IntKind.wrap_i64]; omega
      obtain ⟨b, off, rfl, u0⟩ := nm_at (H.out.fut RNm.stays hF.out) hlt
      obtain ⟨b2, off2, hA2, u1⟩ := nm_at (H.out.fut RNm.stays hF.out) hml
      have hbo : b2 = b ∧ off2 = off := by
        injection hA2 with hA2
        injection hA2 with h1 h2
        exact ⟨h1.symm, h2.symm⟩
      obtain ⟨rfl, rfl⟩ := hbo
      have hless := HU.out m k hkm hlt
      generalize L[k] = y at *
      generalize L[m] = x at *
      clear hA2
      replace hkm := Lib.hid hkm
      go_wp2_with fail
      refine wp_graph 10 [.d, .d, .d, .d, .d, .d, .d, .d, .d, .d] (by kernel_rfl) (by kernel_rfl) (by kernel_rfl) ?_
      simp only [List.take_succ_cons, List.take_zero, List.drop_succ_cons, List.drop_zero, Exs]
      iterate 10 apply Exists.intro
      apply Run.valG (wanted_none rfl _)
      · intro w1 h1 hk
        have q0 := h1.cell u0; have q1 := h1.cell u1
        have hcw := fun b o => Below.cell (p := ⟨b, o, none⟩) h1
        go_simp; rfl
      simp only [Act.put, List.setIfInBounds_toArray, List.set_cons_succ, List.set_cons_zero, List.nil_append, List.cons_append]
      apply Run.valG (wanted_none rfl _)
      · intro w1 h1 hk
        have q0 := h1.cell u0; have q1 := h1.cell u1
        have hcw := fun b o => Below.cell (p := ⟨b, o, none⟩) h1
        go_simp; rfl
      simp only [Act.put, List.setIfInBounds_toArray, List.set_cons_succ, List.set_cons_zero, List.nil_append, List.cons_append]
      apply Run.valG (wanted_none rfl _)
      · intro w1 h1 hk
        have q0 := h1.cell u0; have q1 := h1.cell u1
        have hcw := fun b o => Below.cell (p := ⟨b, o, none⟩) h1
        go_simp; rfl
      simp only [Act.put, List.setIfInBounds_toArray, List.set_cons_succ, List.set_cons_zero, List.nil_append, List.cons_append]
      apply Run.valG (wanted_none rfl _)
      · intro w1 h1 hk
        have q0 := h1.cell u0; have q1 := h1.cell u1
        have hcw := fun b o => Below.cell (p := ⟨b, o, none⟩) h1
        go_simp; rfl
      simp only [Act.put, List.setIfInBounds_toArray, List.set_cons_succ, List.set_cons_zero, List.nil_append, List.cons_append]
      apply Run.valG (wanted_none rfl _)
      · intro w1 h1 hk
        have q0 := h1.cell u0; have q1 := h1.cell u1
        have hcw := fun b o => Below.cell (p := ⟨b, o, none⟩) h1
        go_simp; rfl
      simp only [Act.put, List.setIfInBounds_toArray, List.set_cons_succ, List.set_cons_zero, List.nil_append, List.cons_append]
      apply Run.valG (wanted_none rfl _)
      · intro w1 h1 hk
        have q0 := h1.cell u0; have q1 := h1.cell u1
        have hcw := fun b o => Below.cell (p := ⟨b, o, none⟩) h1
        go_simp; rfl
      simp only [Act.put, List.setIfInBounds_toArray, List.set_cons_succ, List.set_cons_zero, List.nil_append, List.cons_append]
      apply Run.valG (wanted_none rfl _)
      · intro w1 h1 hk
        have q0 := h1.cell u0; have q1 := h1.cell u1
        have hcw := fun b o => Below.cell (p := ⟨b, o, none⟩) h1
        go_simp; rfl
      simp only [Act.put, List.setIfInBounds_toArray, List.set_cons_succ, List.set_cons_zero, List.nil_append, List.cons_append]
      apply Run.valG (wanted_none rfl _)
      · intro w1 h1 hk
        have q0 := h1.cell u0; have q1 := h1.cell u1
        have hcw := fun b o => Below.cell (p := ⟨b, o, none⟩) h1
        go_simp; rfl
      simp only [Act.put, List.setIfInBounds_toArray, List.set_cons_succ, List.set_cons_zero, List.nil_append, List.cons_append]
      apply Run.valG (wanted_none rfl _)
      · intro w1 h1 hk
        have q0 := h1.cell u0; have q1 := h1.cell u1
        have hcw := fun b o => Below.cell (p := ⟨b, o, none⟩) h1
        go_simp; rfl
      simp only [Act.put, List.setIfInBounds_toArray, List.set_cons_succ, List.set_cons_zero, List.nil_append, List.cons_append]
      apply Run.valG (wanted_none rfl _)
      · intro w1 h1 hk
        have q0 := h1.cell u0; have q1 := h1.cell u1
        have hcw := fun b o => Below.cell (p := ⟨b, o, none⟩) h1
        go_simp; rfl
      simp only [Act.put, List.setIfInBounds_toArray, List.set_cons_succ, List.set_cons_zero, List.nil_append, List.cons_append]
      apply Run.done
      intro w2 h2 hk
      clear hk
      have HF2 := Lib.hid (hF.out.trans ((Fut.drew _).trans h2))
      clear h2
      go_wp2
      go_roundw
      case rel => exact ⟨k + 1, k, by go_num, rfl, HF2⟩
      case measure => simp [intOf] <;> omega
    · have hltI : ¬ (k : Int) < L.length := by omega
      go_wp2
      go_ret
      exact ⟨rfl, hF.out⟩
#print axioms rising_any
end Go.Proofs.YtackadhamghblaaGreat
/- Parts one behind the other, plainly. -/
namespace Go.Proofs.YtackadhamghblaaGreat
open Go.RowKit Go.WideMaps Go.Maps
set_option linter.unusedSimpArgs false
set_option linter.unusedVariables false
theorem PSpec.nodup {N : ByteArray → Prop} {R : ByteArray → ByteArray → Prop} : ∀ {l : List (List ByteArray)} {D : List ByteArray}, PSpec N R D l → D.Nodup → (D ++ l.flatten).Nodup
  | [], D, h, hd => by simpa using hd
  | p :: l, D, h, hd => by
    have h2 : (D ++ p).Nodup := List.nodup_append.2 ⟨hd, up9_nodup h.1.2.1, fun a ha b hb e => h.2.1 b hb (e ▸ ha)⟩
    have := PSpec.nodup h.2.2.2.2 h2
    simpa [List.append_assoc] using this
theorem PSpec.inN {N : ByteArray → Prop} {R : ByteArray → ByteArray → Prop} {l : List (List ByteArray)} {D : List ByteArray} (h : PSpec N R D l) : ∀ u ∈ l.flatten, N u := fun u hu => by
  obtain ⟨p, hp, hup⟩ := List.mem_flatten.1 hu
  obtain ⟨i, hi⟩ := List.getElem?_of_mem hp
  exact (h.at_ i p hi).1.2.2.1 u hup
theorem parts_len {rs : List Ru} (h : Small rs) {out : List (List ByteArray)} (hp : PSpec (· ∈ (drawP rs).names) (Rch (drawP rs)) [] out) (k : Nat) : (out.take k).flatten.length ≤ 10000000 := by
  have h1 := draw_len h
  have hn := hp.nodup List.nodup_nil
  rw [List.nil_append] at hn
  have h2 : out.flatten.length ≤ (drawP rs).names.length := nodup_le hn fun x hx => hp.inN x hx
  have h3 : (out.take k).flatten.length ≤ out.flatten.length := by
    conv => rhs; rw [← List.take_append_drop k out, List.flatten_append, List.length_append]
    omega
  omega
theorem part_len {rs : List Ru} (h : Small rs) {out : List (List ByteArray)} (hp : PSpec (· ∈ (drawP rs).names) (Rch (drawP rs)) [] out) {k : Nat} {p : List ByteArray} (hk : out[k]? = some p) : p.length ≤ 10000000 := by
  have h1 := parts_len h hp (k + 1)
  obtain ⟨hl, rfl⟩ := List.getElem?_eq_some_iff.1 hk
  rw [List.take_succ_eq_append_getElem hl, List.flatten_append, List.length_append] at h1
  simp at h1
  omega
/-- What the law asks of a part. -/
structure PartAt (rs : List Ru) (D p : List ByteArray) : Prop where
  ne : p ≠ []
  up : Up cmpS p
  nm : ∀ u ∈ p, u ∈ (drawP rs).names
  ap : ∀ u ∈ p, u ∉ D
  rd : ∀ u ∈ p, ∀ r, ReachOf rs u r → ∀ v ∈ r, v ∉ D → v ∈ p
  all : ∀ u ∈ p, ∀ r, ReachOf rs u r → ∀ v ∈ p, v ∈ r
  back : ∀ u ∈ p, ∀ r, ReachOf rs u r → ∀ x ∈ D, x ∈ r → ∀ r', ReachOf rs x r' → u ∉ r'
theorem PSpec.part {rs : List Ru} {out : List (List ByteArray)} (h : PSpec (· ∈ (drawP rs).names) (Rch (drawP rs)) [] out) {k : Nat} {p : List ByteArray} (hk : out[k]? = some p) : PartAt rs (out.take k).flatten p := by
  obtain ⟨⟨c1, c2, c3, c4⟩, h2, h3⟩ := h.at_ k p hk
  rw [List.nil_append] at h2 h3
  refine ⟨c1, c2, c3, h2, fun u hu r hr v hv hd => ?_, fun u hu r hr v hv => ?_, fun u hu r hr x hx hxr r' hr' hur => ?_⟩
  · exact (h3 u hu v ((hr.2 v).1 hv)).resolve_right hd
  · exact (hr.2 v).2 ((c4 u hu v).1 hv).1
  · exact h2 x ((c4 u hu x).2 ⟨(hr.2 x).1 hxr, (hr'.2 u).1 hur⟩) hx
theorem PSpec.every {rs : List Ru} {out : List (List ByteArray)} (h : PSpec (· ∈ (drawP rs).names) (Rch (drawP rs)) [] out) : ∀ u ∈ (drawP rs).names, u ∈ out.flatten := fun u hu => by
  have := h.all_ u hu
  simpa using this
#print axioms PSpec.part
end Go.Proofs.YtackadhamghblaaGreat
/- The law's parted. -/
namespace Go.Proofs.YtackadhamghblaaGreat
open Go.RowKit Go.WideMaps Go.Maps
set_option linter.unusedSimpArgs false
set_option linter.unusedVariables false
theorem lhasT {M : Nat} (s : ByteArray) (A : Option Addr) (c : Nat) (L : List ByteArray) (w : World) (h : SlRep 1 M RNm w (.slice A L.length c) L) (hM : M ≤ 9223372036854775807) (hs : s ∈ L) :
    Calls Tryz.prog 8 #[.slice A L.length c, .string s] w fun e w' => e = .returned (.bool true) ∧ w' = w := by
  have := lhas_any s A c L w h hM
  rwa [decide_eq_true hs] at this
theorem lhasN {M : Nat} (s : ByteArray) (A : Option Addr) (c : Nat) (L : List ByteArray) (w : World) (h : SlRep 1 M RNm w (.slice A L.length c) L) (hM : M ≤ 9223372036854775807) (hs : s ∉ L) :
    Calls Tryz.prog 8 #[.slice A L.length c, .string s] w fun e w' => e = .returned (.bool false) ∧ w' = w := by
  have := lhas_any s A c L w h hM
  rwa [decide_eq_false hs] at this
theorem rule_name {rs : List Ru} {r : Ru} (hr : r ∈ rs) : r.p ∈ (drawP rs).names := by
  rw [(draw_ok rs).nm]
  exact List.mem_flatMap.2 ⟨r, hr, by unfold Ru.nN; exact List.mem_cons_self⟩
theorem take_flat {out : List (List ByteArray)} {i : Nat} {x : ByteArray} (hx : x ∈ (out.take i).flatten) : x ∈ out.flatten := by
  rw [← List.take_append_drop i out, List.flatten_append]
  exact List.mem_append_left _ hx
set_option maxHeartbeats 8000000 in
set_option maxRecDepth 100000 in
theorem parted_any {M M' : Nat} (A Ae : Option Addr) (c ce : Nat) (rs : List Ru) (es : List Ed) (w : World) (h : SlRep 3 M RRu w (.slice A rs.length c) rs) (hM : M ≤ 9223372036854775807) (hS : Small rs) (hes : edgesP rs = es) (he : SlRep 4 M' REd w (.slice Ae es.length ce) es) (hM' : M' ≤ 9223372036854775807) :
    Calls Tryz.prog 14 #[.agg #[.slice A rs.length c], .slice Ae es.length ce] w fun e w' => e = .returned (.bool true) ∧ Fut w w' := by
  have H := Lib.hid h
  have HEs := Lib.hid he
  have HS := Lib.hid hS
  have hel : es.length ≤ 10000000 := hes ▸ hS.edges
  have hen := Lib.hid (fun e (he : e ∈ es) => edge_names (rs := rs) (hes ▸ he))
  have hns := Lib.hid (names_ok h)
  have hxl : rs.length ≤ 9223372036854775807 := by
    obtain ⟨_, _, _, _, _⟩ := h.form
    omega
  obtain ⟨wp, hwp⟩ : ∃ W, w.alloc (.cells #[.slice A rs.length c] 25) = W := ⟨_, rfl⟩
  have hpb : wp.heap[w.heap.size]? = some (.cells #[.slice A rs.length c] 25 (0, 0)) := by rw [← hwp]; exact heap_alloc_new w _
  have FP : Fut w wp := by rw [← hwp]; exact Fut.alloc _ _
  have y0 := cell_at hpb 0 _ rfl
  have HP := Lib.hid (partsAll_any A c rs wp (h.fut RRu.stays FP) hM hS)
  have HPB := Lib.hid hpb
  have HFP := Lib.hid FP
  obtain ⟨pb, hpbe⟩ : ∃ q, w.heap.size = q := ⟨_, rfl⟩
  rw [hpbe] at HPB y0
  clear h he hS hes hpb FP
  go_enter Tryz.func14, Tryz.ntmps14
  try rw [hwp]
  try rw [hpbe]
  go_wp2_with fail
  try rw [hwp]
  try rw [hpbe]
  clear hwp hpbe
  refine HP.out.mono ?_
  rintro e w2 ⟨pv, out, rfl, hps, hO, f2⟩
  have F2 := Lib.hid (HFP.out.trans f2)
  have HBox := Lib.hid (f2.block HPB.out)
  have Hps := Lib.hid hps
  have HOut := Lib.hid hO.rep
  obtain ⟨Ap, cp, rfl, hp1, hp2⟩ := hO.rep.form
  have hpm : out.length ≤ 9223372036854775807 := by unfold maxLen at hp2; omega
  have HRe := Lib.hid (fun s (hs : s ∈ (drawP rs).names) W (hW : Fut w2 W) => reachW_any A c rs s W (H.out.fut RRu.stays (F2.out.trans hW)) hM HS.out (hns.out s hs))
  clear hps hO f2 HP y0 hp1 hp2 HFP
  go_wp2_with fail
  go_loopw [6, 7, 8, 9, 10, 11, 12] (fun u i _ _ _ _ _ W => ∃ k : Nat, i = .int .i64 k ∧ k ≤ out.length ∧ Hid (Nms w2.heap.size W u (out.take k).flatten) ∧ Hid (Fut w2 W)) (fun _ i _ _ _ _ _ _ => out.length - (intOf i).toNat)
  case atStart => exact ⟨0, rfl, Nat.zero_le _, Lib.hid (by rw [List.take_zero]; exact OwnL.nil), Lib.hid (Fut.refl _)⟩
  case round =>
    obtain ⟨i, rfl, hi, hB, hF⟩ := hrel
    obtain ⟨wq, rfl⟩ : ∃ x, x = wr := ⟨_, rfl⟩
    by_cases hlt : i < out.length
    · have hltI : (i : Int) < out.length := by omega
      have e0 : (0 : Int) ≤ i ∧ (i : Int) < out.length := by omega
      obtain ⟨D, p, hDe, hnx, hPt, hDl, hpl, hDn, bp, op, pv, rfl, v0, hN⟩ : ∃ D p, (out.take i).flatten = D ∧ (out.take (i + 1)).flatten = D ++ p ∧ PartAt rs D p ∧ D.length ≤ 10000000 ∧ p.length ≤ 10000000 ∧ (∀ x ∈ D, x ∈ (drawP rs).names) ∧ ∃ b off v, Ap = some ⟨b, off, none⟩ ∧ wq.cell? ⟨b, off + i, none⟩ = some v ∧ Nms 0 wq v p :=
        ⟨_, out[i], rfl, by rw [List.take_succ_eq_append_getElem hlt, List.flatten_append]; simp, Hps.out.part (List.getElem?_eq_getElem hlt), parts_len HS.out Hps.out i, part_len HS.out Hps.out (List.getElem?_eq_getElem hlt), fun x hx => Hps.out.inN x (take_flat hx), ls_at (HOut.out.fut RLs.stays hF.out) hlt⟩
      rw [hDe] at hB
      have HNx := Lib.hid hnx
      have HPt := Lib.hid hPt
      have HDn := Lib.hid hDn
      obtain ⟨Aq, cq, rfl, hq1, hq2⟩ := hN.rep.form
      obtain ⟨Ad, cd, rfl, hd1, hd2⟩ := hB.out.rep.form
      have HNp := Lib.hid hN.rep
      have HV := Lib.hid (fun W (hW : Fut wq W) => hW.cell v0)
      have hp0 : 0 < p.length := List.length_pos_iff.2 hPt.ne
      have hlen0 : ((p.length : Int) == 0) = false := by rw [beq_eq_false_iff_ne]; omega
      have hlen1 : ¬ (p.length : Int) = 0 := by omega
      have HRis := Lib.hid (rising_any Aq cq p wq hN.rep (by decide) hPt.up)
      clear hnx hPt hDn hN hDe hq1 hq2 hd1 hd2
      go_wp2_with fail
      refine HRis.out.mono ?_
      rintro e3 w3 ⟨rfl, f3⟩
      have F3 := Lib.hid f3
      clear f3 HRis v0 hp0 hlen0 hlen1
      go_wp2_with fail
      go_loopw [8, 9, 10, 11, 12] (fun j _ _ _ _ W => ∃ k : Nat, j = .int .i64 k ∧ k ≤ p.length ∧ Hid (Fut wq W)) (fun j _ _ _ _ _ => p.length - (intOf j).toNat)
      case atStart => exact ⟨0, rfl, Nat.zero_le _, F3⟩
      case round =>
        clear F3
        obtain ⟨k, rfl, hk, hG⟩ := hrel
        obtain ⟨wz, rfl⟩ : ∃ x, x = wr := ⟨_, rfl⟩
        have c0 := HV.out _ hG.out
        by_cases hkl : k < p.length
        · have hkI : (k : Int) < p.length := by omega
          have e1 : (0 : Int) ≤ k ∧ (k : Int) < p.length := by omega
          obtain ⟨bq, oq, rfl, x0⟩ := nm_at (HNp.out.fut RNm.stays hG.out) hkl
          have hmem := Lib.hid (List.getElem_mem hkl)
          have y0 := cell_at ((hF.out.trans hG.out).block HBox.out) 0 _ rfl
          have HX := Lib.hid (show ∀ W, Fut wq W → W.cell? ⟨bq, oq + k, none⟩ = some (.string p[k]) from fun W hW => by
            obtain ⟨b', o', hA', z⟩ := nm_at (HNp.out.fut RNm.stays hW) hkl
            injection hA' with hA'
            injection hA' with g1 g2
            rw [g1, g2]
            exact z)
          generalize p[k] = u at *
          have HReU := Lib.hid (fun W (hW : Fut wq W) => HRe.out u (HPt.out.nm _ hmem.out) W (hF.out.trans hW))
          have HH := Lib.hid (lhasN u Ad cd D wz (hB.out.rep.fut RNm.stays hG.out) (by decide) (HPt.out.ap _ hmem.out))
          go_wp2_with fail
          refine HH.out.mono ?_
          rintro e4 w4 ⟨rfl, rfl⟩
          clear HH
          go_wp2_with fail
          refine wp_graph 9 [.d, .d, .d, .d, .d, .d, .d, .d, .r (fun v W => ∃ L, ReachOf rs u L ∧ Nms wq.heap.size W v L)] (by kernel_rfl) (by kernel_rfl) (by kernel_rfl) ?_
          simp only [List.take_succ_cons, List.take_zero, List.drop_succ_cons, List.drop_zero, Exs]
          iterate 8 apply Exists.intro
          apply Run.valG (wanted_none rfl _)
          · intro w1 h1 hk
            have q0 := h1.cell c0; have q1 := h1.cell x0; have qp := h1.cell y0; have hg := (hG.out.trans (Fut.drew _)).trans h1
            have hcw := fun b o => Below.cell (p := ⟨b, o, none⟩) h1
            go_simp; rfl
          simp only [Act.put, List.setIfInBounds_toArray, List.set_cons_succ, List.set_cons_zero, List.nil_append, List.cons_append]
          apply Run.valG (wanted_none rfl _)
          · intro w1 h1 hk
            have q0 := h1.cell c0; have q1 := h1.cell x0; have qp := h1.cell y0; have hg := (hG.out.trans (Fut.drew _)).trans h1
            have hcw := fun b o => Below.cell (p := ⟨b, o, none⟩) h1
            go_simp; rfl
          simp only [Act.put, List.setIfInBounds_toArray, List.set_cons_succ, List.set_cons_zero, List.nil_append, List.cons_append]
          apply Run.valG (wanted_none rfl _)
          · intro w1 h1 hk
            have q0 := h1.cell c0; have q1 := h1.cell x0; have qp := h1.cell y0; have hg := (hG.out.trans (Fut.drew _)).trans h1
            have hcw := fun b o => Below.cell (p := ⟨b, o, none⟩) h1
            go_simp; rfl
          simp only [Act.put, List.setIfInBounds_toArray, List.set_cons_succ, List.set_cons_zero, List.nil_append, List.cons_append]
          apply Run.valG (wanted_none rfl _)
          · intro w1 h1 hk
            have q0 := h1.cell c0; have q1 := h1.cell x0; have qp := h1.cell y0; have hg := (hG.out.trans (Fut.drew _)).trans h1
            have hcw := fun b o => Below.cell (p := ⟨b, o, none⟩) h1
            go_simp; rfl
          simp only [Act.put, List.setIfInBounds_toArray, List.set_cons_succ, List.set_cons_zero, List.nil_append, List.cons_append]
          apply Run.valG (wanted_none rfl _)
          · intro w1 h1 hk
            have q0 := h1.cell c0; have q1 := h1.cell x0; have qp := h1.cell y0; have hg := (hG.out.trans (Fut.drew _)).trans h1
            have hcw := fun b o => Below.cell (p := ⟨b, o, none⟩) h1
            go_simp; rfl
          simp only [Act.put, List.setIfInBounds_toArray, List.set_cons_succ, List.set_cons_zero, List.nil_append, List.cons_append]
          apply Run.valG (wanted_none rfl _)
          · intro w1 h1 hk
            have q0 := h1.cell c0; have q1 := h1.cell x0; have qp := h1.cell y0; have hg := (hG.out.trans (Fut.drew _)).trans h1
            have hcw := fun b o => Below.cell (p := ⟨b, o, none⟩) h1
            go_simp; rfl
          simp only [Act.put, List.setIfInBounds_toArray, List.set_cons_succ, List.set_cons_zero, List.nil_append, List.cons_append]
          apply Run.valG (wanted_none rfl _)
          · intro w1 h1 hk
            have q0 := h1.cell c0; have q1 := h1.cell x0; have qp := h1.cell y0; have hg := (hG.out.trans (Fut.drew _)).trans h1
            have hcw := fun b o => Below.cell (p := ⟨b, o, none⟩) h1
            go_simp; rfl
          simp only [Act.put, List.setIfInBounds_toArray, List.set_cons_succ, List.set_cons_zero, List.nil_append, List.cons_append]
          apply Run.valG (wanted_none rfl _)
          · intro w1 h1 hk
            have q0 := h1.cell c0; have q1 := h1.cell x0; have qp := h1.cell y0; have hg := (hG.out.trans (Fut.drew _)).trans h1
            have hcw := fun b o => Below.cell (p := ⟨b, o, none⟩) h1
            go_simp; rfl
          simp only [Act.put, List.setIfInBounds_toArray, List.set_cons_succ, List.set_cons_zero, List.nil_append, List.cons_append]
          apply Run.callR (wanted_none rfl _) (by intro v w w' hf hs; exact (by obtain ⟨L, q1, q2⟩ := hs; exact ⟨L, q1, q2.fut RNm.stays hf⟩)) (fun _ _ => by go_simp; exact ⟨rfl, rfl⟩)
          · intro w1 h1 hk
            have q0 := h1.cell c0; have q1 := h1.cell x0; have qp := h1.cell y0; have hg := (hG.out.trans (Fut.drew _)).trans h1
            refine (HReU.out _ hg).mono ?_; rintro e9 w9 ⟨v, L, rfl, q1, q2, q3⟩; exact ⟨_, rfl, q3, L, q1, q2.base hg.size⟩
          intro v8
          simp only [Act.put, List.setIfInBounds_toArray, List.set_cons_succ, List.set_cons_zero, List.nil_append, List.cons_append]
          apply Run.done
          intro w2 h2 hk
          obtain ⟨f8, _⟩ := hk
          have HG2 := Lib.hid (hG.out.trans ((Fut.drew _).trans h2))
          obtain ⟨L, qL, qO⟩ := f8
          obtain ⟨AL, cL, rfl, hL1, hL2⟩ := qO.rep.form
          have hLm : L.length ≤ 9223372036854775807 := by unfold maxLen at hL2; omega
          have HL := Lib.hid qL
          have HLO := Lib.hid qO.rep
          clear h2 qL qO hL1 hL2 c0 x0 y0 HReU
          go_wp2_with fail
          go_loopw [10] (fun j W => ∃ m : Nat, j = .int .i64 m ∧ m ≤ L.length ∧ Hid (Fut wq W) ∧ Hid (SlRep 1 maxLen RNm W (.slice AL L.length cL) L)) (fun j _ => L.length - (intOf j).toNat)
          case atStart => exact ⟨0, rfl, Nat.zero_le _, HG2, HLO⟩
          case round =>
            clear HG2 HLO
            obtain ⟨m, rfl, hm, hI, hLO⟩ := hrel
            obtain ⟨wy, rfl⟩ : ∃ x, x = wr := ⟨_, rfl⟩
            by_cases hml : m < L.length
            · have hmI : (m : Int) < L.length := by omega
              have e2 : (0 : Int) ≤ m ∧ (m : Int) < L.length := by omega
              obtain ⟨bl, ol, rfl, l0⟩ := nm_at hLO.out hml
              have hym := Lib.hid (List.getElem_mem hml)
              have c1 := HV.out _ hI.out
              generalize L[m] = y at *
              by_cases hyD : y ∈ D
              · have HH := Lib.hid (fun W (hW : Fut wq W) => lhasT y Ad cd D W (hB.out.rep.fut RNm.stays hW) (by decide) hyD)
                go_wp2_with fail
                refine wp_graph 19 [.d, .d, .d, .d, .d, .d, .d, .d, .d, .d, .d, .d, .d, .d, .d, .d, .d, .d, .d] (by kernel_rfl) (by kernel_rfl) (by kernel_rfl) ?_
                simp only [List.take_succ_cons, List.take_zero, List.drop_succ_cons, List.drop_zero, Exs]
                iterate 19 apply Exists.intro
                apply Run.valG (wanted_none rfl _)
                · intro w1 h1 hk
                  have q0 := h1.cell l0; have q1 := h1.cell c1; have hg := (hI.out.trans (Fut.drew _)).trans h1
                  have hcw := fun b o => Below.cell (p := ⟨b, o, none⟩) h1
                  go_simp; rfl
                simp only [Act.put, List.setIfInBounds_toArray, List.set_cons_succ, List.set_cons_zero, List.nil_append, List.cons_append]
                apply Run.valG (wanted_none rfl _)
                · intro w1 h1 hk
                  have q0 := h1.cell l0; have q1 := h1.cell c1; have hg := (hI.out.trans (Fut.drew _)).trans h1
                  have hcw := fun b o => Below.cell (p := ⟨b, o, none⟩) h1
                  go_simp; rfl
                simp only [Act.put, List.setIfInBounds_toArray, List.set_cons_succ, List.set_cons_zero, List.nil_append, List.cons_append]
                apply Run.valG (wanted_none rfl _)
                · intro w1 h1 hk
                  have q0 := h1.cell l0; have q1 := h1.cell c1; have hg := (hI.out.trans (Fut.drew _)).trans h1
                  have hcw := fun b o => Below.cell (p := ⟨b, o, none⟩) h1
                  go_simp; rfl
                simp only [Act.put, List.setIfInBounds_toArray, List.set_cons_succ, List.set_cons_zero, List.nil_append, List.cons_append]
                apply Run.valG (wanted_none rfl _)
                · intro w1 h1 hk
                  have q0 := h1.cell l0; have q1 := h1.cell c1; have hg := (hI.out.trans (Fut.drew _)).trans h1
                  have hcw := fun b o => Below.cell (p := ⟨b, o, none⟩) h1
                  go_simp; rfl
                simp only [Act.put, List.setIfInBounds_toArray, List.set_cons_succ, List.set_cons_zero, List.nil_append, List.cons_append]
                apply Run.valG (wanted_none rfl _)
                · intro w1 h1 hk
                  have q0 := h1.cell l0; have q1 := h1.cell c1; have hg := (hI.out.trans (Fut.drew _)).trans h1
                  have hcw := fun b o => Below.cell (p := ⟨b, o, none⟩) h1
                  go_simp; rfl
                simp only [Act.put, List.setIfInBounds_toArray, List.set_cons_succ, List.set_cons_zero, List.nil_append, List.cons_append]
                apply Run.call (wanted_none rfl _) (fun _ _ => by go_simp; exact ⟨rfl, rfl⟩)
                · intro w1 h1 hk
                  have q0 := h1.cell l0; have q1 := h1.cell c1; have hg := (hI.out.trans (Fut.drew _)).trans h1
                  refine (HH.out _ hg).mono ?_; rintro e9 w9 ⟨rfl, rfl⟩; exact ⟨rfl, Fut.refl _⟩
                simp only [Act.put, List.setIfInBounds_toArray, List.set_cons_succ, List.set_cons_zero, List.nil_append, List.cons_append]
                apply Run.valG (wanted_none rfl _)
                · intro w1 h1 hk
                  have q0 := h1.cell l0; have q1 := h1.cell c1; have hg := (hI.out.trans (Fut.drew _)).trans h1
                  have hcw := fun b o => Below.cell (p := ⟨b, o, none⟩) h1
                  go_simp; rfl
                simp only [Act.put, List.setIfInBounds_toArray, List.set_cons_succ, List.set_cons_zero, List.nil_append, List.cons_append]
                apply Run.valG (wanted_none rfl _)
                · intro w1 h1 hk
                  have q0 := h1.cell l0; have q1 := h1.cell c1; have hg := (hI.out.trans (Fut.drew _)).trans h1
                  have hcw := fun b o => Below.cell (p := ⟨b, o, none⟩) h1
                  go_simp; rfl
                simp only [Act.put, List.setIfInBounds_toArray, List.set_cons_succ, List.set_cons_zero, List.nil_append, List.cons_append]
                apply Run.skip (by first | (go_simp; done) | (go_simp; exact fun h => nomatch h))
                simp only [Act.put, List.setIfInBounds_toArray, List.set_cons_succ, List.set_cons_zero, List.nil_append, List.cons_append]
                apply Run.skip (by first | (go_simp; done) | (go_simp; exact fun h => nomatch h))
                simp only [Act.put, List.setIfInBounds_toArray, List.set_cons_succ, List.set_cons_zero, List.nil_append, List.cons_append]
                apply Run.skip (by first | (go_simp; done) | (go_simp; exact fun h => nomatch h))
                simp only [Act.put, List.setIfInBounds_toArray, List.set_cons_succ, List.set_cons_zero, List.nil_append, List.cons_append]
                apply Run.skip (by first | (go_simp; done) | (go_simp; exact fun h => nomatch h))
                simp only [Act.put, List.setIfInBounds_toArray, List.set_cons_succ, List.set_cons_zero, List.nil_append, List.cons_append]
                apply Run.skip (by first | (go_simp; done) | (go_simp; exact fun h => nomatch h))
                simp only [Act.put, List.setIfInBounds_toArray, List.set_cons_succ, List.set_cons_zero, List.nil_append, List.cons_append]
                apply Run.skip (by first | (go_simp; done) | (go_simp; exact fun h => nomatch h))
                simp only [Act.put, List.setIfInBounds_toArray, List.set_cons_succ, List.set_cons_zero, List.nil_append, List.cons_append]
                apply Run.skip (by first | (go_simp; done) | (go_simp; exact fun h => nomatch h))
                simp only [Act.put, List.setIfInBounds_toArray, List.set_cons_succ, List.set_cons_zero, List.nil_append, List.cons_append]
                apply Run.skip (by first | (go_simp; done) | (go_simp; exact fun h => nomatch h))
                simp only [Act.put, List.setIfInBounds_toArray, List.set_cons_succ, List.set_cons_zero, List.nil_append, List.cons_append]
                apply Run.skip (by first | (go_simp; done) | (go_simp; exact fun h => nomatch h))
                simp only [Act.put, List.setIfInBounds_toArray, List.set_cons_succ, List.set_cons_zero, List.nil_append, List.cons_append]
                apply Run.skip (by first | (go_simp; done) | (go_simp; exact fun h => nomatch h))
                simp only [Act.put, List.setIfInBounds_toArray, List.set_cons_succ, List.set_cons_zero, List.nil_append, List.cons_append]
                apply Run.valG (wanted_none rfl _)
                · intro w1 h1 hk
                  have q0 := h1.cell l0; have q1 := h1.cell c1; have hg := (hI.out.trans (Fut.drew _)).trans h1
                  have hcw := fun b o => Below.cell (p := ⟨b, o, none⟩) h1
                  go_simp; rfl
                simp only [Act.put, List.setIfInBounds_toArray, List.set_cons_succ, List.set_cons_zero, List.nil_append, List.cons_append]
                apply Run.done
                intro w2 h2 hk
                clear hk
                have HI2 := Lib.hid (hI.out.trans ((Fut.drew _).trans h2))
                have HLO2 := Lib.hid (hLO.out.fut RNm.stays ((Fut.drew _).trans h2))
                clear h2 HH
                go_wp2
                go_roundw
                case rel => exact ⟨m + 1, by go_num, by omega, HI2, HLO2⟩
                case measure => simp [intOf] <;> omega
              · have HH := Lib.hid (fun W (hW : Fut wq W) => lhasN y Ad cd D W (hB.out.rep.fut RNm.stays hW) (by decide) hyD)
                have HH2 := Lib.hid (fun W (hW : Fut wq W) => lhasT y (some ⟨bq, oq, none⟩) cq p W (HNp.out.fut RNm.stays hW) (by decide) (HPt.out.rd _ hmem.out _ HL.out _ hym.out hyD))
                go_wp2_with fail
                refine wp_graph 19 [.d, .d, .d, .d, .d, .d, .d, .d, .d, .d, .d, .d, .d, .d, .d, .d, .d, .d, .d] (by kernel_rfl) (by kernel_rfl) (by kernel_rfl) ?_
                simp only [List.take_succ_cons, List.take_zero, List.drop_succ_cons, List.drop_zero, Exs]
                iterate 19 apply Exists.intro
                apply Run.valG (wanted_none rfl _)
                · intro w1 h1 hk
                  have q0 := h1.cell l0; have q1 := h1.cell c1; have hg := (hI.out.trans (Fut.drew _)).trans h1
                  have hcw := fun b o => Below.cell (p := ⟨b, o, none⟩) h1
                  go_simp; rfl
                simp only [Act.put, List.setIfInBounds_toArray, List.set_cons_succ, List.set_cons_zero, List.nil_append, List.cons_append]
                apply Run.valG (wanted_none rfl _)
                · intro w1 h1 hk
                  have q0 := h1.cell l0; have q1 := h1.cell c1; have hg := (hI.out.trans (Fut.drew _)).trans h1
                  have hcw := fun b o => Below.cell (p := ⟨b, o, none⟩) h1
                  go_simp; rfl
                simp only [Act.put, List.setIfInBounds_toArray, List.set_cons_succ, List.set_cons_zero, List.nil_append, List.cons_append]
                apply Run.valG (wanted_none rfl _)
                · intro w1 h1 hk
                  have q0 := h1.cell l0; have q1 := h1.cell c1; have hg := (hI.out.trans (Fut.drew _)).trans h1
                  have hcw := fun b o => Below.cell (p := ⟨b, o, none⟩) h1
                  go_simp; rfl
                simp only [Act.put, List.setIfInBounds_toArray, List.set_cons_succ, List.set_cons_zero, List.nil_append, List.cons_append]
                apply Run.valG (wanted_none rfl _)
                · intro w1 h1 hk
                  have q0 := h1.cell l0; have q1 := h1.cell c1; have hg := (hI.out.trans (Fut.drew _)).trans h1
                  have hcw := fun b o => Below.cell (p := ⟨b, o, none⟩) h1
                  go_simp; rfl
                simp only [Act.put, List.setIfInBounds_toArray, List.set_cons_succ, List.set_cons_zero, List.nil_append, List.cons_append]
                apply Run.valG (wanted_none rfl _)
                · intro w1 h1 hk
                  have q0 := h1.cell l0; have q1 := h1.cell c1; have hg := (hI.out.trans (Fut.drew _)).trans h1
                  have hcw := fun b o => Below.cell (p := ⟨b, o, none⟩) h1
                  go_simp; rfl
                simp only [Act.put, List.setIfInBounds_toArray, List.set_cons_succ, List.set_cons_zero, List.nil_append, List.cons_append]
                apply Run.call (wanted_none rfl _) (fun _ _ => by go_simp; exact ⟨rfl, rfl⟩)
                · intro w1 h1 hk
                  have q0 := h1.cell l0; have q1 := h1.cell c1; have hg := (hI.out.trans (Fut.drew _)).trans h1
                  refine (HH.out _ hg).mono ?_; rintro e9 w9 ⟨rfl, rfl⟩; exact ⟨rfl, Fut.refl _⟩
                simp only [Act.put, List.setIfInBounds_toArray, List.set_cons_succ, List.set_cons_zero, List.nil_append, List.cons_append]
                apply Run.valG (wanted_none rfl _)
                · intro w1 h1 hk
                  have q0 := h1.cell l0; have q1 := h1.cell c1; have hg := (hI.out.trans (Fut.drew _)).trans h1
                  have hcw := fun b o => Below.cell (p := ⟨b, o, none⟩) h1
                  go_simp; rfl
                simp only [Act.put, List.setIfInBounds_toArray, List.set_cons_succ, List.set_cons_zero, List.nil_append, List.cons_append]
                apply Run.valG (wanted_none rfl _)
                · intro w1 h1 hk
                  have q0 := h1.cell l0; have q1 := h1.cell c1; have hg := (hI.out.trans (Fut.drew _)).trans h1
                  have hcw := fun b o => Below.cell (p := ⟨b, o, none⟩) h1
                  go_simp; rfl
                simp only [Act.put, List.setIfInBounds_toArray, List.set_cons_succ, List.set_cons_zero, List.nil_append, List.cons_append]
                apply Run.valG (by go_simp)
                · intro w1 h1 hk
                  have q0 := h1.cell l0; have q1 := h1.cell c1; have hg := (hI.out.trans (Fut.drew _)).trans h1
                  have hcw := fun b o => Below.cell (p := ⟨b, o, none⟩) h1
                  go_simp; rfl
                simp only [Act.put, List.setIfInBounds_toArray, List.set_cons_succ, List.set_cons_zero, List.nil_append, List.cons_append]
                apply Run.valG (by go_simp)
                · intro w1 h1 hk
                  have q0 := h1.cell l0; have q1 := h1.cell c1; have hg := (hI.out.trans (Fut.drew _)).trans h1
                  have hcw := fun b o => Below.cell (p := ⟨b, o, none⟩) h1
                  go_simp; rfl
                simp only [Act.put, List.setIfInBounds_toArray, List.set_cons_succ, List.set_cons_zero, List.nil_append, List.cons_append]
                apply Run.valG (by go_simp)
                · intro w1 h1 hk
                  have q0 := h1.cell l0; have q1 := h1.cell c1; have hg := (hI.out.trans (Fut.drew _)).trans h1
                  have hcw := fun b o => Below.cell (p := ⟨b, o, none⟩) h1
                  go_simp; rfl
                simp only [Act.put, List.setIfInBounds_toArray, List.set_cons_succ, List.set_cons_zero, List.nil_append, List.cons_append]
                apply Run.valG (by go_simp)
                · intro w1 h1 hk
                  have q0 := h1.cell l0; have q1 := h1.cell c1; have hg := (hI.out.trans (Fut.drew _)).trans h1
                  have hcw := fun b o => Below.cell (p := ⟨b, o, none⟩) h1
                  go_simp; rfl
                simp only [Act.put, List.setIfInBounds_toArray, List.set_cons_succ, List.set_cons_zero, List.nil_append, List.cons_append]
                apply Run.valG (by go_simp)
                · intro w1 h1 hk
                  have q0 := h1.cell l0; have q1 := h1.cell c1; have hg := (hI.out.trans (Fut.drew _)).trans h1
                  have hcw := fun b o => Below.cell (p := ⟨b, o, none⟩) h1
                  go_simp; rfl
                simp only [Act.put, List.setIfInBounds_toArray, List.set_cons_succ, List.set_cons_zero, List.nil_append, List.cons_append]
                apply Run.valG (by go_simp)
                · intro w1 h1 hk
                  have q0 := h1.cell l0; have q1 := h1.cell c1; have hg := (hI.out.trans (Fut.drew _)).trans h1
                  have hcw := fun b o => Below.cell (p := ⟨b, o, none⟩) h1
                  go_simp; rfl
                simp only [Act.put, List.setIfInBounds_toArray, List.set_cons_succ, List.set_cons_zero, List.nil_append, List.cons_append]
                apply Run.valG (by go_simp)
                · intro w1 h1 hk
                  have q0 := h1.cell l0; have q1 := h1.cell c1; have hg := (hI.out.trans (Fut.drew _)).trans h1
                  have hcw := fun b o => Below.cell (p := ⟨b, o, none⟩) h1
                  go_simp; rfl
                simp only [Act.put, List.setIfInBounds_toArray, List.set_cons_succ, List.set_cons_zero, List.nil_append, List.cons_append]
                apply Run.valG (by go_simp)
                · intro w1 h1 hk
                  have q0 := h1.cell l0; have q1 := h1.cell c1; have hg := (hI.out.trans (Fut.drew _)).trans h1
                  have hcw := fun b o => Below.cell (p := ⟨b, o, none⟩) h1
                  go_simp; rfl
                simp only [Act.put, List.setIfInBounds_toArray, List.set_cons_succ, List.set_cons_zero, List.nil_append, List.cons_append]
                apply Run.call (by go_simp) (fun _ _ => by go_simp; exact ⟨rfl, rfl⟩)
                · intro w1 h1 hk
                  have q0 := h1.cell l0; have q1 := h1.cell c1; have hg := (hI.out.trans (Fut.drew _)).trans h1
                  refine (HH2.out _ hg).mono ?_; rintro e9 w9 ⟨rfl, rfl⟩; exact ⟨rfl, Fut.refl _⟩
                simp only [Act.put, List.setIfInBounds_toArray, List.set_cons_succ, List.set_cons_zero, List.nil_append, List.cons_append]
                apply Run.valG (by go_simp)
                · intro w1 h1 hk
                  have q0 := h1.cell l0; have q1 := h1.cell c1; have hg := (hI.out.trans (Fut.drew _)).trans h1
                  have hcw := fun b o => Below.cell (p := ⟨b, o, none⟩) h1
                  go_simp; rfl
                simp only [Act.put, List.setIfInBounds_toArray, List.set_cons_succ, List.set_cons_zero, List.nil_append, List.cons_append]
                apply Run.valG (wanted_none rfl _)
                · intro w1 h1 hk
                  have q0 := h1.cell l0; have q1 := h1.cell c1; have hg := (hI.out.trans (Fut.drew _)).trans h1
                  have hcw := fun b o => Below.cell (p := ⟨b, o, none⟩) h1
                  go_simp; rfl
                simp only [Act.put, List.setIfInBounds_toArray, List.set_cons_succ, List.set_cons_zero, List.nil_append, List.cons_append]
                apply Run.done
                intro w2 h2 hk
                clear hk
                have HI2 := Lib.hid (hI.out.trans ((Fut.drew _).trans h2))
                have HLO2 := Lib.hid (hLO.out.fut RNm.stays ((Fut.drew _).trans h2))
                clear h2 HH HH2
                go_wp2
                go_roundw
                case rel => exact ⟨m + 1, by go_num, by omega, HI2, HLO2⟩
                case measure => simp [intOf] <;> omega
            · obtain rfl : m = L.length := by omega
              go_wp2_with fail
              go_loopw [11] (fun j W => ∃ m : Nat, j = .int .i64 m ∧ m ≤ p.length ∧ Hid (W = wy)) (fun j _ => p.length - (intOf j).toNat)
              case atStart => exact ⟨0, rfl, Nat.zero_le _, Lib.hid rfl⟩
              case round =>
                obtain ⟨m, rfl, hm, hW⟩ := hrel
                obtain rfl := hW.out
                have c1 := HV.out _ hI.out
                by_cases hml : m < p.length
                · have hmI : (m : Int) < p.length := by omega
                  have e2 : (0 : Int) ≤ m ∧ (m : Int) < p.length := by omega
                  obtain ⟨bx, ox, hA9, l0⟩ := nm_at (HNp.out.fut RNm.stays hI.out) hml
                  have hbo : bx = bq ∧ ox = oq := by
                    injection hA9 with hA9
                    injection hA9 with g1 g2
                    exact ⟨g1.symm, g2.symm⟩
                  obtain ⟨rfl, rfl⟩ := hbo
                  have hym := Lib.hid (List.getElem_mem hml)
                  generalize p[m] = y at *
                  have HH := Lib.hid (lhasT y AL cL L wr hLO.out (by decide) (HPt.out.all _ hmem.out _ HL.out _ hym.out))
                  clear hA9
                  go_wp2_with fail
                  refine HH.out.mono ?_
                  rintro e8 w8 ⟨rfl, rfl⟩
                  clear HH
                  go_wp2
                  go_roundw
                  case rel => exact ⟨m + 1, by go_num, by omega, (by first | exact Lib.hid trivial | exact Lib.hid rfl)⟩
                  case measure => simp [intOf] <;> omega
                · obtain rfl : m = p.length := by omega
                  go_wp2_with fail
                  go_loopw [12] (fun j W => ∃ m : Nat, j = .int .i64 m ∧ m ≤ D.length ∧ Hid (Fut wq W) ∧ Hid (SlRep 1 maxLen RNm W (.slice AL L.length cL) L)) (fun j _ => D.length - (intOf j).toNat)
                  case atStart => exact ⟨0, rfl, Nat.zero_le _, hI, hLO⟩
                  case round =>
                    clear hI hLO c1
                    obtain ⟨m, rfl, hm, hI, hLO⟩ := hrel
                    obtain ⟨wx, rfl⟩ : ∃ x, x = wr := ⟨_, rfl⟩
                    have c1 := HV.out _ hI.out
                    by_cases hml : m < D.length
                    · have hmI : (m : Int) < D.length := by omega
                      have e2 : (0 : Int) ≤ m ∧ (m : Int) < D.length := by omega
                      obtain ⟨bx, ox, rfl, l0⟩ := nm_at (hB.out.rep.fut RNm.stays hI.out) hml
                      have hym := Lib.hid (List.getElem_mem hml)
                      have y0 := cell_at ((hF.out.trans hI.out).block HBox.out) 0 _ rfl
                      have x0 := HX.out _ hI.out
                      generalize D[m] = x at *
                      by_cases hxL : x ∈ L
                      · have HH := Lib.hid (fun W (hW : Fut wx W) => lhasT x AL cL L W (hLO.out.fut RNm.stays hW) (by decide) hxL)
                        have HReX := Lib.hid (fun W (hW : Fut wq W) => HRe.out x (HDn.out _ hym.out) W (hF.out.trans hW))
                        have HBk := Lib.hid (fun r' hr' => HPt.out.back _ hmem.out _ HL.out _ hym.out hxL r' hr')
                        go_wp2_with fail
                        refine wp_graph 22 [.d, .d, .d, .d, .d, .d, .d, .d, .d, .d, .d, .d, .r (fun v W => ∃ L', ReachOf rs x L' ∧ Nms wq.heap.size W v L'), .d, .d, .d, .d, .d, .d, .d, .d, .d] (by kernel_rfl) (by kernel_rfl) (by kernel_rfl) ?_
                        simp only [List.take_succ_cons, List.take_zero, List.drop_succ_cons, List.drop_zero, Exs]
                        iterate 21 apply Exists.intro
                        apply Run.valG (wanted_none rfl _)
                        · intro w1 h1 hk
                          have q0 := h1.cell l0; have q1 := h1.cell x0; have q2 := h1.cell c1; have qp := h1.cell y0; have hg := (Fut.drew _).trans h1; have hh := hI.out.trans hg
                          have hcw := fun b o => Below.cell (p := ⟨b, o, none⟩) h1
                          go_simp; rfl
                        simp only [Act.put, List.setIfInBounds_toArray, List.set_cons_succ, List.set_cons_zero, List.nil_append, List.cons_append]
                        apply Run.valG (wanted_none rfl _)
                        · intro w1 h1 hk
                          have q0 := h1.cell l0; have q1 := h1.cell x0; have q2 := h1.cell c1; have qp := h1.cell y0; have hg := (Fut.drew _).trans h1; have hh := hI.out.trans hg
                          have hcw := fun b o => Below.cell (p := ⟨b, o, none⟩) h1
                          go_simp; rfl
                        simp only [Act.put, List.setIfInBounds_toArray, List.set_cons_succ, List.set_cons_zero, List.nil_append, List.cons_append]
                        apply Run.valG (wanted_none rfl _)
                        · intro w1 h1 hk
                          have q0 := h1.cell l0; have q1 := h1.cell x0; have q2 := h1.cell c1; have qp := h1.cell y0; have hg := (Fut.drew _).trans h1; have hh := hI.out.trans hg
                          have hcw := fun b o => Below.cell (p := ⟨b, o, none⟩) h1
                          go_simp; rfl
                        simp only [Act.put, List.setIfInBounds_toArray, List.set_cons_succ, List.set_cons_zero, List.nil_append, List.cons_append]
                        apply Run.valG (wanted_none rfl _)
                        · intro w1 h1 hk
                          have q0 := h1.cell l0; have q1 := h1.cell x0; have q2 := h1.cell c1; have qp := h1.cell y0; have hg := (Fut.drew _).trans h1; have hh := hI.out.trans hg
                          have hcw := fun b o => Below.cell (p := ⟨b, o, none⟩) h1
                          go_simp; rfl
                        simp only [Act.put, List.setIfInBounds_toArray, List.set_cons_succ, List.set_cons_zero, List.nil_append, List.cons_append]
                        apply Run.valG (wanted_none rfl _)
                        · intro w1 h1 hk
                          have q0 := h1.cell l0; have q1 := h1.cell x0; have q2 := h1.cell c1; have qp := h1.cell y0; have hg := (Fut.drew _).trans h1; have hh := hI.out.trans hg
                          have hcw := fun b o => Below.cell (p := ⟨b, o, none⟩) h1
                          go_simp; rfl
                        simp only [Act.put, List.setIfInBounds_toArray, List.set_cons_succ, List.set_cons_zero, List.nil_append, List.cons_append]
                        apply Run.call (wanted_none rfl _) (fun _ _ => by go_simp; exact ⟨rfl, rfl⟩)
                        · intro w1 h1 hk
                          have q0 := h1.cell l0; have q1 := h1.cell x0; have q2 := h1.cell c1; have qp := h1.cell y0; have hg := (Fut.drew _).trans h1; have hh := hI.out.trans hg
                          refine (HH.out _ hg).mono ?_; rintro e9 w9 ⟨rfl, rfl⟩; exact ⟨rfl, Fut.refl _⟩
                        simp only [Act.put, List.setIfInBounds_toArray, List.set_cons_succ, List.set_cons_zero, List.nil_append, List.cons_append]
                        apply Run.valG (wanted_none rfl _)
                        · intro w1 h1 hk
                          have q0 := h1.cell l0; have q1 := h1.cell x0; have q2 := h1.cell c1; have qp := h1.cell y0; have hg := (Fut.drew _).trans h1; have hh := hI.out.trans hg
                          have hcw := fun b o => Below.cell (p := ⟨b, o, none⟩) h1
                          go_simp; rfl
                        simp only [Act.put, List.setIfInBounds_toArray, List.set_cons_succ, List.set_cons_zero, List.nil_append, List.cons_append]
                        apply Run.valG (by go_simp)
                        · intro w1 h1 hk
                          have q0 := h1.cell l0; have q1 := h1.cell x0; have q2 := h1.cell c1; have qp := h1.cell y0; have hg := (Fut.drew _).trans h1; have hh := hI.out.trans hg
                          have hcw := fun b o => Below.cell (p := ⟨b, o, none⟩) h1
                          go_simp; rfl
                        simp only [Act.put, List.setIfInBounds_toArray, List.set_cons_succ, List.set_cons_zero, List.nil_append, List.cons_append]
                        apply Run.valG (by go_simp)
                        · intro w1 h1 hk
                          have q0 := h1.cell l0; have q1 := h1.cell x0; have q2 := h1.cell c1; have qp := h1.cell y0; have hg := (Fut.drew _).trans h1; have hh := hI.out.trans hg
                          have hcw := fun b o => Below.cell (p := ⟨b, o, none⟩) h1
                          go_simp; rfl
                        simp only [Act.put, List.setIfInBounds_toArray, List.set_cons_succ, List.set_cons_zero, List.nil_append, List.cons_append]
                        apply Run.valG (by go_simp)
                        · intro w1 h1 hk
                          have q0 := h1.cell l0; have q1 := h1.cell x0; have q2 := h1.cell c1; have qp := h1.cell y0; have hg := (Fut.drew _).trans h1; have hh := hI.out.trans hg
                          have hcw := fun b o => Below.cell (p := ⟨b, o, none⟩) h1
                          go_simp; rfl
                        simp only [Act.put, List.setIfInBounds_toArray, List.set_cons_succ, List.set_cons_zero, List.nil_append, List.cons_append]
                        apply Run.valG (by go_simp)
                        · intro w1 h1 hk
                          have q0 := h1.cell l0; have q1 := h1.cell x0; have q2 := h1.cell c1; have qp := h1.cell y0; have hg := (Fut.drew _).trans h1; have hh := hI.out.trans hg
                          have hcw := fun b o => Below.cell (p := ⟨b, o, none⟩) h1
                          go_simp; rfl
                        simp only [Act.put, List.setIfInBounds_toArray, List.set_cons_succ, List.set_cons_zero, List.nil_append, List.cons_append]
                        apply Run.valG (by go_simp)
                        · intro w1 h1 hk
                          have q0 := h1.cell l0; have q1 := h1.cell x0; have q2 := h1.cell c1; have qp := h1.cell y0; have hg := (Fut.drew _).trans h1; have hh := hI.out.trans hg
                          have hcw := fun b o => Below.cell (p := ⟨b, o, none⟩) h1
                          go_simp; rfl
                        simp only [Act.put, List.setIfInBounds_toArray, List.set_cons_succ, List.set_cons_zero, List.nil_append, List.cons_append]
                        apply Run.callR (by go_simp) (by intro v w w' hf hs; exact (by obtain ⟨L', q1, q2⟩ := hs; exact ⟨L', q1, q2.fut RNm.stays hf⟩)) (fun _ _ => by go_simp; exact ⟨rfl, rfl⟩)
                        · intro w1 h1 hk
                          have q0 := h1.cell l0; have q1 := h1.cell x0; have q2 := h1.cell c1; have qp := h1.cell y0; have hg := (Fut.drew _).trans h1; have hh := hI.out.trans hg
                          refine (HReX.out _ hh).mono ?_; rintro e9 w9 ⟨v, L', rfl, q1, q2, q3⟩; exact ⟨_, rfl, q3, L', q1, q2.base hh.size⟩
                        intro v12
                        simp only [Act.put, List.setIfInBounds_toArray, List.set_cons_succ, List.set_cons_zero, List.nil_append, List.cons_append]
                        apply Run.valG (by go_simp)
                        · intro w1 h1 hk
                          have q0 := h1.cell l0; have q1 := h1.cell x0; have q2 := h1.cell c1; have qp := h1.cell y0; have hg := (Fut.drew _).trans h1; have hh := hI.out.trans hg
                          have hcw := fun b o => Below.cell (p := ⟨b, o, none⟩) h1
                          go_simp; rfl
                        simp only [Act.put, List.setIfInBounds_toArray, List.set_cons_succ, List.set_cons_zero, List.nil_append, List.cons_append]
                        apply Run.valG (by go_simp)
                        · intro w1 h1 hk
                          have q0 := h1.cell l0; have q1 := h1.cell x0; have q2 := h1.cell c1; have qp := h1.cell y0; have hg := (Fut.drew _).trans h1; have hh := hI.out.trans hg
                          have hcw := fun b o => Below.cell (p := ⟨b, o, none⟩) h1
                          go_simp; rfl
                        simp only [Act.put, List.setIfInBounds_toArray, List.set_cons_succ, List.set_cons_zero, List.nil_append, List.cons_append]
                        apply Run.valG (by go_simp)
                        · intro w1 h1 hk
                          have q0 := h1.cell l0; have q1 := h1.cell x0; have q2 := h1.cell c1; have qp := h1.cell y0; have hg := (Fut.drew _).trans h1; have hh := hI.out.trans hg
                          have hcw := fun b o => Below.cell (p := ⟨b, o, none⟩) h1
                          go_simp; rfl
                        simp only [Act.put, List.setIfInBounds_toArray, List.set_cons_succ, List.set_cons_zero, List.nil_append, List.cons_append]
                        apply Run.valG (by go_simp)
                        · intro w1 h1 hk
                          have q0 := h1.cell l0; have q1 := h1.cell x0; have q2 := h1.cell c1; have qp := h1.cell y0; have hg := (Fut.drew _).trans h1; have hh := hI.out.trans hg
                          have hcw := fun b o => Below.cell (p := ⟨b, o, none⟩) h1
                          go_simp; rfl
                        simp only [Act.put, List.setIfInBounds_toArray, List.set_cons_succ, List.set_cons_zero, List.nil_append, List.cons_append]
                        apply Run.valG (by go_simp)
                        · intro w1 h1 hk
                          have q0 := h1.cell l0; have q1 := h1.cell x0; have q2 := h1.cell c1; have qp := h1.cell y0; have hg := (Fut.drew _).trans h1; have hh := hI.out.trans hg
                          have hcw := fun b o => Below.cell (p := ⟨b, o, none⟩) h1
                          go_simp; rfl
                        simp only [Act.put, List.setIfInBounds_toArray, List.set_cons_succ, List.set_cons_zero, List.nil_append, List.cons_append]
                        apply Run.valG (by go_simp)
                        · intro w1 h1 hk
                          have q0 := h1.cell l0; have q1 := h1.cell x0; have q2 := h1.cell c1; have qp := h1.cell y0; have hg := (Fut.drew _).trans h1; have hh := hI.out.trans hg
                          have hcw := fun b o => Below.cell (p := ⟨b, o, none⟩) h1
                          go_simp; rfl
                        simp only [Act.put, List.setIfInBounds_toArray, List.set_cons_succ, List.set_cons_zero, List.nil_append, List.cons_append]
                        apply Run.valG (by go_simp)
                        · intro w1 h1 hk
                          have q0 := h1.cell l0; have q1 := h1.cell x0; have q2 := h1.cell c1; have qp := h1.cell y0; have hg := (Fut.drew _).trans h1; have hh := hI.out.trans hg
                          have hcw := fun b o => Below.cell (p := ⟨b, o, none⟩) h1
                          go_simp; rfl
                        simp only [Act.put, List.setIfInBounds_toArray, List.set_cons_succ, List.set_cons_zero, List.nil_append, List.cons_append]
                        apply Run.call (by go_simp) (fun _ _ => by go_simp; exact ⟨rfl, rfl⟩)
                        · intro w1 h1 hk
                          have f12 := Facts.get hk 0 rfl (by kernel_rfl)
                          have q0 := h1.cell l0; have q1 := h1.cell x0; have q2 := h1.cell c1; have qp := h1.cell y0; have hg := (Fut.drew _).trans h1; have hh := hI.out.trans hg
                          obtain ⟨L9, qL, qO⟩ := f12; obtain ⟨A9, c9, rfl, _, _⟩ := qO.rep.form; refine (lhasN u A9 c9 L9 _ qO.rep (by decide) (HBk.out L9 qL)).mono ?_; rintro e9 w9 ⟨rfl, rfl⟩; exact ⟨rfl, Fut.refl _⟩
                        simp only [Act.put, List.setIfInBounds_toArray, List.set_cons_succ, List.set_cons_zero, List.nil_append, List.cons_append]
                        apply Run.valG (wanted_none rfl _)
                        · intro w1 h1 hk
                          have q0 := h1.cell l0; have q1 := h1.cell x0; have q2 := h1.cell c1; have qp := h1.cell y0; have hg := (Fut.drew _).trans h1; have hh := hI.out.trans hg
                          have hcw := fun b o => Below.cell (p := ⟨b, o, none⟩) h1
                          go_simp; rfl
                        simp only [Act.put, List.setIfInBounds_toArray, List.set_cons_succ, List.set_cons_zero, List.nil_append, List.cons_append]
                        apply Run.done
                        intro w2 h2 hk
                        obtain ⟨f12, _⟩ := hk
                        have HI2 := Lib.hid (hI.out.trans ((Fut.drew _).trans h2))
                        have HLO2 := Lib.hid (hLO.out.fut RNm.stays ((Fut.drew _).trans h2))
                        clear h2 HH f12
                        go_wp2
                        go_roundw
                        case rel => exact ⟨m + 1, by go_num, by omega, HI2, HLO2⟩
                        case measure => simp [intOf] <;> omega
                      · have HH := Lib.hid (fun W (hW : Fut wx W) => lhasN x AL cL L W (hLO.out.fut RNm.stays hW) (by decide) hxL)
                        clear x0
                        go_wp2_with fail
                        refine wp_graph 22 [.d, .d, .d, .d, .d, .d, .d, .d, .d, .d, .d, .d, .d, .d, .d, .d, .d, .d, .d, .d, .d, .d] (by kernel_rfl) (by kernel_rfl) (by kernel_rfl) ?_
                        simp only [List.take_succ_cons, List.take_zero, List.drop_succ_cons, List.drop_zero, Exs]
                        iterate 22 apply Exists.intro
                        apply Run.valG (wanted_none rfl _)
                        · intro w1 h1 hk
                          have q0 := h1.cell l0; have hg := (Fut.drew _).trans h1
                          have hcw := fun b o => Below.cell (p := ⟨b, o, none⟩) h1
                          go_simp; rfl
                        simp only [Act.put, List.setIfInBounds_toArray, List.set_cons_succ, List.set_cons_zero, List.nil_append, List.cons_append]
                        apply Run.valG (wanted_none rfl _)
                        · intro w1 h1 hk
                          have q0 := h1.cell l0; have hg := (Fut.drew _).trans h1
                          have hcw := fun b o => Below.cell (p := ⟨b, o, none⟩) h1
                          go_simp; rfl
                        simp only [Act.put, List.setIfInBounds_toArray, List.set_cons_succ, List.set_cons_zero, List.nil_append, List.cons_append]
                        apply Run.valG (wanted_none rfl _)
                        · intro w1 h1 hk
                          have q0 := h1.cell l0; have hg := (Fut.drew _).trans h1
                          have hcw := fun b o => Below.cell (p := ⟨b, o, none⟩) h1
                          go_simp; rfl
                        simp only [Act.put, List.setIfInBounds_toArray, List.set_cons_succ, List.set_cons_zero, List.nil_append, List.cons_append]
                        apply Run.valG (wanted_none rfl _)
                        · intro w1 h1 hk
                          have q0 := h1.cell l0; have hg := (Fut.drew _).trans h1
                          have hcw := fun b o => Below.cell (p := ⟨b, o, none⟩) h1
                          go_simp; rfl
                        simp only [Act.put, List.setIfInBounds_toArray, List.set_cons_succ, List.set_cons_zero, List.nil_append, List.cons_append]
                        apply Run.valG (wanted_none rfl _)
                        · intro w1 h1 hk
                          have q0 := h1.cell l0; have hg := (Fut.drew _).trans h1
                          have hcw := fun b o => Below.cell (p := ⟨b, o, none⟩) h1
                          go_simp; rfl
                        simp only [Act.put, List.setIfInBounds_toArray, List.set_cons_succ, List.set_cons_zero, List.nil_append, List.cons_append]
                        apply Run.call (wanted_none rfl _) (fun _ _ => by go_simp; exact ⟨rfl, rfl⟩)
                        · intro w1 h1 hk
                          have q0 := h1.cell l0; have hg := (Fut.drew _).trans h1
                          refine (HH.out _ hg).mono ?_; rintro e9 w9 ⟨rfl, rfl⟩; exact ⟨rfl, Fut.refl _⟩
                        simp only [Act.put, List.setIfInBounds_toArray, List.set_cons_succ, List.set_cons_zero, List.nil_append, List.cons_append]
                        apply Run.valG (wanted_none rfl _)
                        · intro w1 h1 hk
                          have q0 := h1.cell l0; have hg := (Fut.drew _).trans h1
                          have hcw := fun b o => Below.cell (p := ⟨b, o, none⟩) h1
                          go_simp; rfl
                        simp only [Act.put, List.setIfInBounds_toArray, List.set_cons_succ, List.set_cons_zero, List.nil_append, List.cons_append]
                        apply Run.skip (by first | (go_simp; done) | (go_simp; exact fun h => nomatch h))
                        simp only [Act.put, List.setIfInBounds_toArray, List.set_cons_succ, List.set_cons_zero, List.nil_append, List.cons_append]
                        apply Run.skip (by first | (go_simp; done) | (go_simp; exact fun h => nomatch h))
                        simp only [Act.put, List.setIfInBounds_toArray, List.set_cons_succ, List.set_cons_zero, List.nil_append, List.cons_append]
                        apply Run.skip (by first | (go_simp; done) | (go_simp; exact fun h => nomatch h))
                        simp only [Act.put, List.setIfInBounds_toArray, List.set_cons_succ, List.set_cons_zero, List.nil_append, List.cons_append]
                        apply Run.skip (by first | (go_simp; done) | (go_simp; exact fun h => nomatch h))
                        simp only [Act.put, List.setIfInBounds_toArray, List.set_cons_succ, List.set_cons_zero, List.nil_append, List.cons_append]
                        apply Run.skip (by first | (go_simp; done) | (go_simp; exact fun h => nomatch h))
                        simp only [Act.put, List.setIfInBounds_toArray, List.set_cons_succ, List.set_cons_zero, List.nil_append, List.cons_append]
                        apply Run.skip (by first | (go_simp; done) | (go_simp; exact fun h => nomatch h))
                        simp only [Act.put, List.setIfInBounds_toArray, List.set_cons_succ, List.set_cons_zero, List.nil_append, List.cons_append]
                        apply Run.skip (by first | (go_simp; done) | (go_simp; exact fun h => nomatch h))
                        simp only [Act.put, List.setIfInBounds_toArray, List.set_cons_succ, List.set_cons_zero, List.nil_append, List.cons_append]
                        apply Run.skip (by first | (go_simp; done) | (go_simp; exact fun h => nomatch h))
                        simp only [Act.put, List.setIfInBounds_toArray, List.set_cons_succ, List.set_cons_zero, List.nil_append, List.cons_append]
                        apply Run.skip (by first | (go_simp; done) | (go_simp; exact fun h => nomatch h))
                        simp only [Act.put, List.setIfInBounds_toArray, List.set_cons_succ, List.set_cons_zero, List.nil_append, List.cons_append]
                        apply Run.skip (by first | (go_simp; done) | (go_simp; exact fun h => nomatch h))
                        simp only [Act.put, List.setIfInBounds_toArray, List.set_cons_succ, List.set_cons_zero, List.nil_append, List.cons_append]
                        apply Run.skip (by first | (go_simp; done) | (go_simp; exact fun h => nomatch h))
                        simp only [Act.put, List.setIfInBounds_toArray, List.set_cons_succ, List.set_cons_zero, List.nil_append, List.cons_append]
                        apply Run.skip (by first | (go_simp; done) | (go_simp; exact fun h => nomatch h))
                        simp only [Act.put, List.setIfInBounds_toArray, List.set_cons_succ, List.set_cons_zero, List.nil_append, List.cons_append]
                        apply Run.skip (by first | (go_simp; done) | (go_simp; exact fun h => nomatch h))
                        simp only [Act.put, List.setIfInBounds_toArray, List.set_cons_succ, List.set_cons_zero, List.nil_append, List.cons_append]
                        apply Run.skip (by first | (go_simp; done) | (go_simp; exact fun h => nomatch h))
                        simp only [Act.put, List.setIfInBounds_toArray, List.set_cons_succ, List.set_cons_zero, List.nil_append, List.cons_append]
                        apply Run.valG (wanted_none rfl _)
                        · intro w1 h1 hk
                          have q0 := h1.cell l0; have hg := (Fut.drew _).trans h1
                          have hcw := fun b o => Below.cell (p := ⟨b, o, none⟩) h1
                          go_simp; rfl
                        simp only [Act.put, List.setIfInBounds_toArray, List.set_cons_succ, List.set_cons_zero, List.nil_append, List.cons_append]
                        apply Run.done
                        intro w2 h2 hk
                        clear hk
                        have HI2 := Lib.hid (hI.out.trans ((Fut.drew _).trans h2))
                        have HLO2 := Lib.hid (hLO.out.fut RNm.stays ((Fut.drew _).trans h2))
                        clear h2 HH
                        go_wp2
                        go_roundw
                        case rel => exact ⟨m + 1, by go_num, by omega, HI2, HLO2⟩
                        case measure => simp [intOf] <;> omega
                    · obtain rfl : m = D.length := by omega
                      go_wp2
                      go_roundw
                      case rel => exact ⟨k + 1, by go_num, by omega, hI⟩
                      case measure => simp [intOf] <;> omega
        · obtain rfl : k = p.length := by omega
          have HB2 := Lib.hid (hB.out.fut RNm.stays hG.out)
          have HF2 := Lib.hid (hF.out.trans hG.out)
          have hz2 := HF2.out.size
          go_wp2_with (first | (at_builtin; refine wpList_append_LB (R := RNm) (B := w2.heap.size) (M := maxLen) (xs := D) (ys := p) (e := 9) (by go_simp) _ _ tVl' rfl Tryz.underlying37 (.string ⟨#[]⟩) 16 infoNm rfl (by decide) RNm.one RNm.keeps rfl rfl HB2.out (HNp.out.fut RNm.stays hG.out) ?l3 ?m3 ?b3 ?k3))
          case l3 => simp [maxLen]; omega
          case m3 => omega
          case b3 => exact hz2
          case k3 =>
          intro v' w' o' g' sn'
          rw [← HNx.out] at o'
          have HO4 := Lib.hid o'
          have HF4 := Lib.hid (HF2.out.grown g' (fun k hk => (HB2.out.block k hk).1))
          clear o' g' sn'
          go_wp2
          go_roundw
          case rel => exact ⟨i + 1, by go_num, by omega, HO4, HF4⟩
          case measure => simp [intOf] <;> omega
    · obtain rfl : i = out.length := by omega
      rw [List.take_length] at hB
      have HEv := Lib.hid Hps.out.every
      obtain ⟨Ad, cd, rfl, hd1, hd2⟩ := hB.out.rep.form
      have HB := Lib.hid hB.out.rep
      have hdm : out.flatten.length ≤ 9223372036854775807 := by unfold maxLen at hd2; omega
      clear hB hd1 hd2
      generalize out.flatten = D at *
      go_wp2_with fail
      go_loopw [13] (fun j W => ∃ m : Nat, j = .int .i64 m ∧ m ≤ es.length ∧ Hid (W = wq)) (fun j _ => es.length - (intOf j).toNat)
      case atStart => exact ⟨0, rfl, Nat.zero_le _, Lib.hid rfl⟩
      case round =>
        obtain ⟨m, rfl, hm, hW⟩ := hrel
        obtain rfl := hW.out
        by_cases hml : m < es.length
        · have hmI : (m : Int) < es.length := by omega
          have e2 : (0 : Int) ≤ m ∧ (m : Int) < es.length := by omega
          obtain ⟨be, oe, rfl, hce⟩ := ed_at (HEs.out.fut REd.stays (F2.out.trans hF.out)) hml
          have hmem := List.getElem_mem hml
          generalize es[m] = e at *
          have u0 : wr.cell? ⟨be, oe + m * 4, none⟩ = some (.string e.f) := hce 0 _ rfl
          have u1 := hce 1 _ rfl
          have HH1 := Lib.hid (lhasT e.f Ad cd D wr HB.out (by decide) (HEv.out _ (hen.out e hmem).1))
          have HH2 := Lib.hid (lhasT e.t Ad cd D wr HB.out (by decide) (HEv.out _ (hen.out e hmem).2))
          clear hce hmem
          go_wp2_with fail
          refine HH1.out.mono ?_
          rintro e8 w8 ⟨rfl, rfl⟩
          go_wp2_with fail
          refine HH2.out.mono ?_
          rintro e8 w8 ⟨rfl, rfl⟩
          go_wp2
          go_roundw
          case rel => exact ⟨m + 1, by go_num, by omega, (by first | exact Lib.hid trivial | exact Lib.hid rfl)⟩
          case measure => simp [intOf] <;> omega
        · obtain rfl : m = es.length := by omega
          have y0 := cell_at (hF.out.block HBox.out) 0 _ rfl
          go_wp2_with fail
          go_loopw [14] (fun j W => ∃ m : Nat, j = .int .i64 m ∧ m ≤ rs.length ∧ Hid (W = wr)) (fun j _ => rs.length - (intOf j).toNat)
          case atStart => exact ⟨0, rfl, Nat.zero_le _, Lib.hid rfl⟩
          case round =>
            obtain ⟨m, rfl, hm, hW⟩ := hrel
            obtain rfl := hW.out
            by_cases hml : m < rs.length
            · have hmI : (m : Int) < rs.length := by omega
              have e2 : (0 : Int) ≤ m ∧ (m : Int) < rs.length := by omega
              obtain ⟨br, or, Ah, ch, Ab, cb, rfl, r0, _⟩ := ru_at (H.out.fut RRu.stays (F2.out.trans hF.out)) hml
              have hmem := List.getElem_mem hml
              generalize rs[m] = r at *
              have HH1 := Lib.hid (lhasT r.p Ad cd D _ HB.out (by decide) (HEv.out _ (rule_name hmem)))
              clear hmem
              go_wp2_with fail
              refine HH1.out.mono ?_
              rintro e8 w8 ⟨rfl, rfl⟩
              go_wp2
              go_roundw
              case rel => exact ⟨m + 1, by go_num, by omega, (by first | exact Lib.hid trivial | exact Lib.hid rfl)⟩
              case measure => simp [intOf] <;> omega
            · obtain rfl : m = rs.length := by omega
              go_wp2
              go_ret
              exact ⟨rfl, F2.out.trans hF.out⟩
#print axioms parted_any
end Go.Proofs.YtackadhamghblaaGreat
/- DependWays' walk. -/
namespace Go.Proofs.YtackadhamghblaaGreat
open Go.RowKit Go.WideMaps Go.Maps
set_option linter.unusedSimpArgs false
set_option linter.unusedVariables false
theorem small_ofW {rs : List Ru} (h : Within rs) : Small rs := by
  unfold Small
  have := h.1
  omega
set_option maxHeartbeats 8000000 in
set_option maxRecDepth 100000 in
theorem ways_any {M : Nat} (a : Value) (rs : List Ru) (p : ByteArray) (w : World) (h : SlRep 3 M RRu w a rs) (hM : M ≤ 9223372036854775807) (hp : p.size ≤ 140737488351232) :
    Calls Tryz.prog 4 #[a, .string p] w fun e w' => e = .returned (.bool true) ∧ Fut w w' := by
  have HB := Lib.hid (beyondR_any a rs w h hM)
  obtain ⟨A, c, rfl, hl1, hl2⟩ := h.form
  have hxl : rs.length ≤ 9223372036854775807 := by omega
  have H := Lib.hid h
  clear hl1 hl2 h
  go_enter Tryz.func4, Tryz.ntmps4
  go_wp2_with fail
  refine HB.out.mono ?_
  rintro e w1 ⟨b, rfl, hb, f1⟩
  cases b
  rotate_left
  · go_wp2
    go_ret
    exact ⟨rfl, f1⟩
  have hS := small_ofW (hb rfl)
  obtain ⟨wp, hwp⟩ : ∃ W, w1.alloc (.cells #[.slice A rs.length c] 25) = W := ⟨_, rfl⟩
  have hpb : wp.heap[w1.heap.size]? = some (.cells #[.slice A rs.length c] 25 (0, 0)) := by rw [← hwp]; exact heap_alloc_new w1 _
  have FP : Fut w wp := f1.trans (by rw [← hwp]; exact Fut.alloc _ _)
  have y0 := cell_at hpb 0 _ rfl
  have HE := Lib.hid (edges_any A c rs wp (H.out.fut RRu.stays FP) hM hS)
  have HPB := Lib.hid hpb
  have HFP := Lib.hid FP
  have HS := Lib.hid hS
  obtain ⟨pb, hpbe⟩ : ∃ q, w1.heap.size = q := ⟨_, rfl⟩
  rw [hpbe] at HPB y0
  clear hb HB f1 hpb FP hS
  go_wp2_with fail
  try rw [hwp]
  try rw [hpbe]
  clear hwp hpbe
  refine HE.out.mono ?_
  rintro e w2 ⟨ev, rfl, hev, f2⟩
  have F2 := Lib.hid (HFP.out.trans f2)
  obtain ⟨Ae, ce, rfl, he1, he2⟩ := hev.rep.form
  have HEv := Lib.hid hev.rep
  have hel : (edgesP rs).length ≤ 10000000 := HS.out.edges
  have y2 := cell_at (f2.block HPB.out) 0 _ rfl
  have HPB2 := Lib.hid (f2.block HPB.out)
  have HRe := Lib.hid (reachW_any A c rs p w2 (H.out.fut RRu.stays F2.out) hM HS.out hp)
  clear hev f2 HE y0
  obtain ⟨es, hes⟩ : ∃ es, edgesP rs = es := ⟨_, rfl⟩
  have Hes := Lib.hid hes
  rw [hes] at HEv hel he1 ⊢
  clear hes
  go_wp2_with fail
  refine HRe.out.mono ?_
  rintro e w3 ⟨lv, L, rfl, hL, hO, f3⟩
  have HL := Lib.hid hL
  obtain ⟨Al, cl, rfl, hL1, hL2⟩ := hO.rep.form
  have hLm : L.length ≤ 9223372036854775807 := by unfold maxLen at hL2; omega
  have HRis := Lib.hid (rising_any Al cl L w3 hO.rep (by decide) hL.1)
  have HLO := Lib.hid hO.rep
  have F3 := Lib.hid f3
  clear hL hO f3 HRe y2 hL1 hL2
  go_wp2_with fail
  refine HRis.out.mono ?_
  rintro e w4 ⟨rfl, f4⟩
  have F4 := Lib.hid (F2.out.trans (F3.out.trans f4))
  have G4 := Lib.hid (F3.out.trans f4)
  have HL4 := Lib.hid (HLO.out.fut RNm.stays f4)
  have HHp := Lib.hid (lhasT p Al cl L w4 HL4.out (by decide) ((HL.out.2 p).2 (.refl p)))
  have HE4 := Lib.hid (HEv.out.fut REd.stays G4.out)
  clear f4 HRis HLO
  go_wp2_with fail
  refine HHp.out.mono ?_
  rintro e5 w5 ⟨rfl, rfl⟩
  clear HHp
  have hcl := Lib.hid (fun e (he : e ∈ es) (hf : e.f ∈ L) => (HL.out.2 e.t).2 (((HL.out.2 e.f).1 hf).trans (.one (edge_suc.2 ⟨e, Hes.out ▸ he, rfl, rfl⟩))))
  obtain ⟨wn, hwn⟩ : ∃ x, x = w5 := ⟨_, rfl⟩
  subst hwn
  go_wp2_with fail
  go_loopw [8] (fun i W => ∃ k : Nat, i = .int .i64 k ∧ k ≤ es.length ∧ Hid (W = wn)) (fun i _ => es.length - (intOf i).toNat)
  case atStart => exact ⟨0, rfl, Nat.zero_le _, Lib.hid rfl⟩
  case round =>
    obtain ⟨k, rfl, hk, hW⟩ := hrel
    obtain rfl := hW.out
    by_cases hlt : k < es.length
    · have hltI : (k : Int) < es.length := by omega
      have e0 : (0 : Int) ≤ k ∧ (k : Int) < es.length := by omega
      obtain ⟨be, oe, rfl, hce⟩ := ed_at HE4.out hlt
      have hmem := Lib.hid (List.getElem_mem hlt)
      generalize es[k] = e at *
      have u0 : wr.cell? ⟨be, oe + k * 4, none⟩ = some (.string e.f) := hce 0 _ rfl
      have u1 := hce 1 _ rfl
      clear hce
      by_cases hf : e.f ∈ L
      · have HH1 := Lib.hid (lhasT e.f Al cl L _ HL4.out (by decide) hf)
        have HH2 := Lib.hid (lhasT e.t Al cl L _ HL4.out (by decide) (hcl.out e hmem.out hf))
        go_wp2_with fail
        refine HH1.out.mono ?_
        rintro e8 w8 ⟨rfl, rfl⟩
        go_wp2_with fail
        refine HH2.out.mono ?_
        rintro e8 w8 ⟨rfl, rfl⟩
        clear HH1 HH2
        go_wp2
        go_roundw
        case rel => exact ⟨k + 1, by go_num, by omega, (by first | exact Lib.hid trivial | exact Lib.hid rfl)⟩
        case measure => simp [intOf] <;> omega
      · have HH1 := Lib.hid (lhasN e.f Al cl L _ HL4.out (by decide) hf)
        go_wp2_with fail
        refine HH1.out.mono ?_
        rintro e8 w8 ⟨rfl, rfl⟩
        clear HH1
        go_wp2
        go_roundw
        case rel => exact ⟨k + 1, by go_num, by omega, (by first | exact Lib.hid trivial | exact Lib.hid rfl)⟩
        case measure => simp [intOf] <;> omega
    · obtain rfl : k = es.length := by omega
      obtain ⟨wn, rfl⟩ : ∃ x, x = wr := ⟨_, rfl⟩
      have F0 := Fut.alloc wn (.cells #[.string p] 9)
      have hO0 : OwnL 1 wn.heap.size 9 RNm (wn.alloc (.cells #[.string p] 9)) (.slice (some ⟨wn.heap.size, 0, none⟩) [p].length 1) [p] :=
        ⟨[[.string p]], rfl, fun i cs x hi hx => by
          match i, hi, hx with
          | 0, hi, hx => injection hi with hi; injection hx with hx; subst hi; subst hx; exact ⟨rfl, rfl⟩
          | i + 1, hi, hx => simp at hx, rfl, .inr ⟨wn.heap.size, 1, #[.string p], rfl, Nat.le_refl _, heap_alloc_new wn _, Nat.le_refl _, by unfold maxLen; omega, rfl, rfl⟩⟩
      have HO0 := Lib.hid hO0
      have F0h := Lib.hid F0
      clear F0 hO0 hW
      go_wp2_with fail
      go_loopw [9, 10, 11] (fun u i _ W => ∃ (seen : List ByteArray) (j : Nat), i = .int .i64 j ∧ j ≤ seen.length ∧ Hid (Bf es (fun _ => True) p seen j 0) ∧ Hid (Nms wn.heap.size W u seen) ∧ Hid (Fut wn W)) (fun _ i _ _ => es.length + 2 - (intOf i).toNat)
      case atStart => exact ⟨[p], 0, rfl, Nat.zero_le _, Lib.hid (Bf.start es _ p), HO0, F0h⟩
      case round =>
        clear HO0 F0h
        obtain ⟨seen, j, rfl, hj, hR, hO, hF⟩ := hrel
        obtain ⟨wq, hwq⟩ : ∃ x, x = wr := ⟨_, rfl⟩
        subst hwq
        have hsl := hR.out.len
        obtain ⟨Au, cu, rfl, hu1, hu2⟩ := hO.out.rep.form
        by_cases hlt : j < seen.length
        · have hltI : (j : Int) < seen.length := by omega
          have hR0 := Lib.hid (show ∃ seen', seen'[j]? = some seen[j] ∧ Bf es (fun _ => True) p seen' j 0 ∧ Nms _ wq (.slice Au seen.length cu) seen' from ⟨seen, List.getElem?_eq_getElem hlt, hR.out, hO.out⟩)
          obtain ⟨x, hx⟩ : ∃ x, seen[j] = x := ⟨_, rfl⟩
          rw [hx] at hR0
          clear hR hO hx
          go_wp2_with fail
          go_loopw [9, 11] (fun u i W => ∃ (seen : List ByteArray) (k : Nat), i = .int .i64 k ∧ k ≤ es.length ∧ Hid (seen[j]? = some x) ∧ Hid (Bf es (fun _ => True) p seen j k) ∧ Hid (Nms wn.heap.size W u seen) ∧ Hid (Fut wn W)) (fun _ i _ => es.length - (intOf i).toNat)
          case atStart =>
            obtain ⟨seen', q1, q2, q3⟩ := hR0.out
            exact ⟨seen', 0, rfl, Nat.zero_le _, Lib.hid q1, Lib.hid q2, Lib.hid q3, hF⟩
          case round =>
            clear hR0 hF
            obtain ⟨sn, k, rfl, hk, hX, hR, hO, hF⟩ := hrel
            obtain ⟨wz, hwz⟩ : ∃ x, x = wr := ⟨_, rfl⟩
            subst hwz
            have hsl2 := hR.out.len
            obtain ⟨Av, cv, rfl, hv1, hv2⟩ := hO.out.rep.form
            by_cases hkl : k < es.length
            · have hkI : (k : Int) < es.length := by omega
              have e0 : (0 : Int) ≤ k ∧ (k : Int) < es.length := by omega
              obtain ⟨be, oe, rfl, hce⟩ := ed_at (HE4.out.fut REd.stays hF.out) hkl
              have hjl : j < sn.length := (List.getElem?_eq_some_iff.1 hX.out).1
              obtain ⟨bs, os, rfl, xs0⟩ := nm_at hO.out.rep hjl
              have hxj : sn[j] = x := by
                have h9 := hX.out
                rw [List.getElem?_eq_getElem hjl] at h9
                exact Option.some.inj h9
              rw [hxj] at xs0
              have hjI : (j : Int) < sn.length := by omega
              have e1 : (0 : Int) ≤ j ∧ (j : Int) < sn.length := by omega
              have HSk := Lib.hid (fun hx => hR.out.skip hkl hx)
              have HPu := Lib.hid (fun hf hn => hR.out.push (x := x) hkl hX.out trivial hf hn)
              generalize es[k] = e at *
              have u0 : wz.cell? ⟨be, oe + k * 4, none⟩ = some (.string e.f) := hce 0 _ rfl
              have u1 := hce 1 _ rfl
              clear hce hxj
              by_cases hf : e.f = x
              rotate_left
              · have hfb := ba_ne hf
                have HR2 := Lib.hid (HSk.out fun y hy _ hfy => absurd (hfy.trans (Option.some.inj (hy.symm.trans hX.out))) hf)
                clear HSk HPu
                go_wp2_with fail
                refine wp_graph 20 [.d, .d, .d, .d, .d, .d, .d, .d, .d, .d, .d, .d, .d, .d, .d, .d, .d, .d, .d, .d] (by kernel_rfl) (by kernel_rfl) (by kernel_rfl) ?_
                simp only [List.take_succ_cons, List.take_zero, List.drop_succ_cons, List.drop_zero, Exs]
                iterate 20 apply Exists.intro
                apply Run.valG (wanted_none rfl _)
                · intro w1 h1 hk
                  have q0 := h1.cell u0; have q1 := h1.cell xs0
                  have hcw := fun b o => Below.cell (p := ⟨b, o, none⟩) h1
                  go_simp; rfl
                simp only [Act.put, List.setIfInBounds_toArray, List.set_cons_succ, List.set_cons_zero, List.nil_append, List.cons_append]
                apply Run.valG (wanted_none rfl _)
                · intro w1 h1 hk
                  have q0 := h1.cell u0; have q1 := h1.cell xs0
                  have hcw := fun b o => Below.cell (p := ⟨b, o, none⟩) h1
                  go_simp; rfl
                simp only [Act.put, List.setIfInBounds_toArray, List.set_cons_succ, List.set_cons_zero, List.nil_append, List.cons_append]
                apply Run.valG (wanted_none rfl _)
                · intro w1 h1 hk
                  have q0 := h1.cell u0; have q1 := h1.cell xs0
                  have hcw := fun b o => Below.cell (p := ⟨b, o, none⟩) h1
                  go_simp; rfl
                simp only [Act.put, List.setIfInBounds_toArray, List.set_cons_succ, List.set_cons_zero, List.nil_append, List.cons_append]
                apply Run.valG (wanted_none rfl _)
                · intro w1 h1 hk
                  have q0 := h1.cell u0; have q1 := h1.cell xs0
                  have hcw := fun b o => Below.cell (p := ⟨b, o, none⟩) h1
                  go_simp; rfl
                simp only [Act.put, List.setIfInBounds_toArray, List.set_cons_succ, List.set_cons_zero, List.nil_append, List.cons_append]
                apply Run.valG (wanted_none rfl _)
                · intro w1 h1 hk
                  have q0 := h1.cell u0; have q1 := h1.cell xs0
                  have hcw := fun b o => Below.cell (p := ⟨b, o, none⟩) h1
                  go_simp; rfl
                simp only [Act.put, List.setIfInBounds_toArray, List.set_cons_succ, List.set_cons_zero, List.nil_append, List.cons_append]
                apply Run.valG (wanted_none rfl _)
                · intro w1 h1 hk
                  have q0 := h1.cell u0; have q1 := h1.cell xs0
                  have hcw := fun b o => Below.cell (p := ⟨b, o, none⟩) h1
                  go_simp; rfl
                simp only [Act.put, List.setIfInBounds_toArray, List.set_cons_succ, List.set_cons_zero, List.nil_append, List.cons_append]
                apply Run.valG (wanted_none rfl _)
                · intro w1 h1 hk
                  have q0 := h1.cell u0; have q1 := h1.cell xs0
                  have hcw := fun b o => Below.cell (p := ⟨b, o, none⟩) h1
                  go_simp; rfl
                simp only [Act.put, List.setIfInBounds_toArray, List.set_cons_succ, List.set_cons_zero, List.nil_append, List.cons_append]
                apply Run.valG (wanted_none rfl _)
                · intro w1 h1 hk
                  have q0 := h1.cell u0; have q1 := h1.cell xs0
                  have hcw := fun b o => Below.cell (p := ⟨b, o, none⟩) h1
                  go_simp; rfl
                simp only [Act.put, List.setIfInBounds_toArray, List.set_cons_succ, List.set_cons_zero, List.nil_append, List.cons_append]
                apply Run.valG (wanted_none rfl _)
                · intro w1 h1 hk
                  have q0 := h1.cell u0; have q1 := h1.cell xs0
                  have hcw := fun b o => Below.cell (p := ⟨b, o, none⟩) h1
                  go_simp; rfl
                simp only [Act.put, List.setIfInBounds_toArray, List.set_cons_succ, List.set_cons_zero, List.nil_append, List.cons_append]
                apply Run.valG (wanted_none rfl _)
                · intro w1 h1 hk
                  have q0 := h1.cell u0; have q1 := h1.cell xs0
                  have hcw := fun b o => Below.cell (p := ⟨b, o, none⟩) h1
                  go_simp; rfl
                simp only [Act.put, List.setIfInBounds_toArray, List.set_cons_succ, List.set_cons_zero, List.nil_append, List.cons_append]
                apply Run.valG (wanted_none rfl _)
                · intro w1 h1 hk
                  have q0 := h1.cell u0; have q1 := h1.cell xs0
                  have hcw := fun b o => Below.cell (p := ⟨b, o, none⟩) h1
                  go_simp; rfl
                simp only [Act.put, List.setIfInBounds_toArray, List.set_cons_succ, List.set_cons_zero, List.nil_append, List.cons_append]
                apply Run.skip (by first | (go_simp; done) | (go_simp; exact fun h => nomatch h))
                simp only [Act.put, List.setIfInBounds_toArray, List.set_cons_succ, List.set_cons_zero, List.nil_append, List.cons_append]
                apply Run.skip (by first | (go_simp; done) | (go_simp; exact fun h => nomatch h))
                simp only [Act.put, List.setIfInBounds_toArray, List.set_cons_succ, List.set_cons_zero, List.nil_append, List.cons_append]
                apply Run.skip (by first | (go_simp; done) | (go_simp; exact fun h => nomatch h))
                simp only [Act.put, List.setIfInBounds_toArray, List.set_cons_succ, List.set_cons_zero, List.nil_append, List.cons_append]
                apply Run.skip (by first | (go_simp; done) | (go_simp; exact fun h => nomatch h))
                simp only [Act.put, List.setIfInBounds_toArray, List.set_cons_succ, List.set_cons_zero, List.nil_append, List.cons_append]
                apply Run.skip (by first | (go_simp; done) | (go_simp; exact fun h => nomatch h))
                simp only [Act.put, List.setIfInBounds_toArray, List.set_cons_succ, List.set_cons_zero, List.nil_append, List.cons_append]
                apply Run.skip (by first | (go_simp; done) | (go_simp; exact fun h => nomatch h))
                simp only [Act.put, List.setIfInBounds_toArray, List.set_cons_succ, List.set_cons_zero, List.nil_append, List.cons_append]
                apply Run.skip (by first | (go_simp; done) | (go_simp; exact fun h => nomatch h))
                simp only [Act.put, List.setIfInBounds_toArray, List.set_cons_succ, List.set_cons_zero, List.nil_append, List.cons_append]
                apply Run.skip (by first | (go_simp; done) | (go_simp; exact fun h => nomatch h))
                simp only [Act.put, List.setIfInBounds_toArray, List.set_cons_succ, List.set_cons_zero, List.nil_append, List.cons_append]
                apply Run.valG (wanted_none rfl _)
                · intro w1 h1 hk
                  have q0 := h1.cell u0; have q1 := h1.cell xs0
                  have hcw := fun b o => Below.cell (p := ⟨b, o, none⟩) h1
                  go_simp; rfl
                simp only [Act.put, List.setIfInBounds_toArray, List.set_cons_succ, List.set_cons_zero, List.nil_append, List.cons_append]
                apply Run.done
                intro w2 h2 hk
                clear hk
                have f2 := (Fut.drew _).trans h2
                have HF2 := Lib.hid (hF.out.trans f2)
                have HO2 := Lib.hid (hO.out.fut RNm.stays f2)
                clear f2 h2
                go_wp2
                go_roundw
                case rel => exact ⟨sn, k + 1, by go_num, by omega, hX, HR2, HO2, HF2⟩
                case measure => simp [intOf] <;> omega
              · rw [hf] at u0
                have hfb : (x.toList == x.toList) = true := by simp
                by_cases hin : e.t ∈ sn
                · have HH := Lib.hid (fun W (hW : Fut wz W) => lhasT e.t (some ⟨bs, os, none⟩) cv sn W (hO.out.rep.fut RNm.stays hW) (by decide) hin)
                  have HR2 := Lib.hid (HSk.out fun y hy _ hfy => hin)
                  clear HSk HPu
                  go_wp2_with fail
                  refine wp_graph 20 [.d, .d, .d, .d, .d, .d, .d, .d, .d, .d, .d, .d, .d, .d, .d, .d, .d, .d, .d, .d] (by kernel_rfl) (by kernel_rfl) (by kernel_rfl) ?_
                  simp only [List.take_succ_cons, List.take_zero, List.drop_succ_cons, List.drop_zero, Exs]
                  iterate 20 apply Exists.intro
                  apply Run.valG (wanted_none rfl _)
                  · intro w1 h1 hk
                    have q0 := h1.cell u0; have q1 := h1.cell xs0; have q2 := h1.cell u1; have hg := (Fut.drew _).trans h1
                    have hcw := fun b o => Below.cell (p := ⟨b, o, none⟩) h1
                    go_simp; rfl
                  simp only [Act.put, List.setIfInBounds_toArray, List.set_cons_succ, List.set_cons_zero, List.nil_append, List.cons_append]
                  apply Run.valG (wanted_none rfl _)
                  · intro w1 h1 hk
                    have q0 := h1.cell u0; have q1 := h1.cell xs0; have q2 := h1.cell u1; have hg := (Fut.drew _).trans h1
                    have hcw := fun b o => Below.cell (p := ⟨b, o, none⟩) h1
                    go_simp; rfl
                  simp only [Act.put, List.setIfInBounds_toArray, List.set_cons_succ, List.set_cons_zero, List.nil_append, List.cons_append]
                  apply Run.valG (wanted_none rfl _)
                  · intro w1 h1 hk
                    have q0 := h1.cell u0; have q1 := h1.cell xs0; have q2 := h1.cell u1; have hg := (Fut.drew _).trans h1
                    have hcw := fun b o => Below.cell (p := ⟨b, o, none⟩) h1
                    go_simp; rfl
                  simp only [Act.put, List.setIfInBounds_toArray, List.set_cons_succ, List.set_cons_zero, List.nil_append, List.cons_append]
                  apply Run.valG (wanted_none rfl _)
                  · intro w1 h1 hk
                    have q0 := h1.cell u0; have q1 := h1.cell xs0; have q2 := h1.cell u1; have hg := (Fut.drew _).trans h1
                    have hcw := fun b o => Below.cell (p := ⟨b, o, none⟩) h1
                    go_simp; rfl
                  simp only [Act.put, List.setIfInBounds_toArray, List.set_cons_succ, List.set_cons_zero, List.nil_append, List.cons_append]
                  apply Run.valG (wanted_none rfl _)
                  · intro w1 h1 hk
                    have q0 := h1.cell u0; have q1 := h1.cell xs0; have q2 := h1.cell u1; have hg := (Fut.drew _).trans h1
                    have hcw := fun b o => Below.cell (p := ⟨b, o, none⟩) h1
                    go_simp; rfl
                  simp only [Act.put, List.setIfInBounds_toArray, List.set_cons_succ, List.set_cons_zero, List.nil_append, List.cons_append]
                  apply Run.valG (wanted_none rfl _)
                  · intro w1 h1 hk
                    have q0 := h1.cell u0; have q1 := h1.cell xs0; have q2 := h1.cell u1; have hg := (Fut.drew _).trans h1
                    have hcw := fun b o => Below.cell (p := ⟨b, o, none⟩) h1
                    go_simp; rfl
                  simp only [Act.put, List.setIfInBounds_toArray, List.set_cons_succ, List.set_cons_zero, List.nil_append, List.cons_append]
                  apply Run.valG (wanted_none rfl _)
                  · intro w1 h1 hk
                    have q0 := h1.cell u0; have q1 := h1.cell xs0; have q2 := h1.cell u1; have hg := (Fut.drew _).trans h1
                    have hcw := fun b o => Below.cell (p := ⟨b, o, none⟩) h1
                    go_simp; rfl
                  simp only [Act.put, List.setIfInBounds_toArray, List.set_cons_succ, List.set_cons_zero, List.nil_append, List.cons_append]
                  apply Run.valG (wanted_none rfl _)
                  · intro w1 h1 hk
                    have q0 := h1.cell u0; have q1 := h1.cell xs0; have q2 := h1.cell u1; have hg := (Fut.drew _).trans h1
                    have hcw := fun b o => Below.cell (p := ⟨b, o, none⟩) h1
                    go_simp; rfl
                  simp only [Act.put, List.setIfInBounds_toArray, List.set_cons_succ, List.set_cons_zero, List.nil_append, List.cons_append]
                  apply Run.valG (wanted_none rfl _)
                  · intro w1 h1 hk
                    have q0 := h1.cell u0; have q1 := h1.cell xs0; have q2 := h1.cell u1; have hg := (Fut.drew _).trans h1
                    have hcw := fun b o => Below.cell (p := ⟨b, o, none⟩) h1
                    go_simp; rfl
                  simp only [Act.put, List.setIfInBounds_toArray, List.set_cons_succ, List.set_cons_zero, List.nil_append, List.cons_append]
                  apply Run.valG (wanted_none rfl _)
                  · intro w1 h1 hk
                    have q0 := h1.cell u0; have q1 := h1.cell xs0; have q2 := h1.cell u1; have hg := (Fut.drew _).trans h1
                    have hcw := fun b o => Below.cell (p := ⟨b, o, none⟩) h1
                    go_simp; rfl
                  simp only [Act.put, List.setIfInBounds_toArray, List.set_cons_succ, List.set_cons_zero, List.nil_append, List.cons_append]
                  apply Run.valG (wanted_none rfl _)
                  · intro w1 h1 hk
                    have q0 := h1.cell u0; have q1 := h1.cell xs0; have q2 := h1.cell u1; have hg := (Fut.drew _).trans h1
                    have hcw := fun b o => Below.cell (p := ⟨b, o, none⟩) h1
                    go_simp; rfl
                  simp only [Act.put, List.setIfInBounds_toArray, List.set_cons_succ, List.set_cons_zero, List.nil_append, List.cons_append]
                  apply Run.valG (by go_simp)
                  · intro w1 h1 hk
                    have q0 := h1.cell u0; have q1 := h1.cell xs0; have q2 := h1.cell u1; have hg := (Fut.drew _).trans h1
                    have hcw := fun b o => Below.cell (p := ⟨b, o, none⟩) h1
                    go_simp; rfl
                  simp only [Act.put, List.setIfInBounds_toArray, List.set_cons_succ, List.set_cons_zero, List.nil_append, List.cons_append]
                  apply Run.valG (by go_simp)
                  · intro w1 h1 hk
                    have q0 := h1.cell u0; have q1 := h1.cell xs0; have q2 := h1.cell u1; have hg := (Fut.drew _).trans h1
                    have hcw := fun b o => Below.cell (p := ⟨b, o, none⟩) h1
                    go_simp; rfl
                  simp only [Act.put, List.setIfInBounds_toArray, List.set_cons_succ, List.set_cons_zero, List.nil_append, List.cons_append]
                  apply Run.valG (by go_simp)
                  · intro w1 h1 hk
                    have q0 := h1.cell u0; have q1 := h1.cell xs0; have q2 := h1.cell u1; have hg := (Fut.drew _).trans h1
                    have hcw := fun b o => Below.cell (p := ⟨b, o, none⟩) h1
                    go_simp; rfl
                  simp only [Act.put, List.setIfInBounds_toArray, List.set_cons_succ, List.set_cons_zero, List.nil_append, List.cons_append]
                  apply Run.valG (by go_simp)
                  · intro w1 h1 hk
                    have q0 := h1.cell u0; have q1 := h1.cell xs0; have q2 := h1.cell u1; have hg := (Fut.drew _).trans h1
                    have hcw := fun b o => Below.cell (p := ⟨b, o, none⟩) h1
                    go_simp; rfl
                  simp only [Act.put, List.setIfInBounds_toArray, List.set_cons_succ, List.set_cons_zero, List.nil_append, List.cons_append]
                  apply Run.valG (by go_simp)
                  · intro w1 h1 hk
                    have q0 := h1.cell u0; have q1 := h1.cell xs0; have q2 := h1.cell u1; have hg := (Fut.drew _).trans h1
                    have hcw := fun b o => Below.cell (p := ⟨b, o, none⟩) h1
                    go_simp; rfl
                  simp only [Act.put, List.setIfInBounds_toArray, List.set_cons_succ, List.set_cons_zero, List.nil_append, List.cons_append]
                  apply Run.valG (by go_simp)
                  · intro w1 h1 hk
                    have q0 := h1.cell u0; have q1 := h1.cell xs0; have q2 := h1.cell u1; have hg := (Fut.drew _).trans h1
                    have hcw := fun b o => Below.cell (p := ⟨b, o, none⟩) h1
                    go_simp; rfl
                  simp only [Act.put, List.setIfInBounds_toArray, List.set_cons_succ, List.set_cons_zero, List.nil_append, List.cons_append]
                  apply Run.call (by go_simp) (fun _ _ => by go_simp; exact ⟨rfl, rfl⟩)
                  · intro w1 h1 hk
                    have q0 := h1.cell u0; have q1 := h1.cell xs0; have q2 := h1.cell u1; have hg := (Fut.drew _).trans h1
                    refine (HH.out _ hg).mono ?_; rintro e9 w9 ⟨rfl, rfl⟩; exact ⟨rfl, Fut.refl _⟩
                  simp only [Act.put, List.setIfInBounds_toArray, List.set_cons_succ, List.set_cons_zero, List.nil_append, List.cons_append]
                  apply Run.valG (by go_simp)
                  · intro w1 h1 hk
                    have q0 := h1.cell u0; have q1 := h1.cell xs0; have q2 := h1.cell u1; have hg := (Fut.drew _).trans h1
                    have hcw := fun b o => Below.cell (p := ⟨b, o, none⟩) h1
                    go_simp; rfl
                  simp only [Act.put, List.setIfInBounds_toArray, List.set_cons_succ, List.set_cons_zero, List.nil_append, List.cons_append]
                  apply Run.valG (wanted_none rfl _)
                  · intro w1 h1 hk
                    have q0 := h1.cell u0; have q1 := h1.cell xs0; have q2 := h1.cell u1; have hg := (Fut.drew _).trans h1
                    have hcw := fun b o => Below.cell (p := ⟨b, o, none⟩) h1
                    go_simp; rfl
                  simp only [Act.put, List.setIfInBounds_toArray, List.set_cons_succ, List.set_cons_zero, List.nil_append, List.cons_append]
                  apply Run.done
                  intro w2 h2 hk
                  clear hk
                  have f2 := (Fut.drew _).trans h2
                  have HF2 := Lib.hid (hF.out.trans f2)
                  have HO2 := Lib.hid (hO.out.fut RNm.stays f2)
                  clear f2 h2 HH
                  go_wp2
                  go_roundw
                  case rel => exact ⟨sn, k + 1, by go_num, by omega, hX, HR2, HO2, HF2⟩
                  case measure => simp [intOf] <;> omega
                · have HH := Lib.hid (fun W (hW : Fut wz W) => lhasN e.t (some ⟨bs, os, none⟩) cv sn W (hO.out.rep.fut RNm.stays hW) (by decide) hin)
                  have HR2 := Lib.hid (HPu.out hf hin)
                  have HX2 := Lib.hid (show (sn ++ [e.t])[j]? = some x from by rw [List.getElem?_append_left hjl]; exact hX.out)
                  clear HSk HPu hX
                  go_wp2_with fail
                  refine wp_graph 20 [.d, .d, .d, .d, .d, .d, .d, .d, .d, .d, .d, .d, .d, .d, .d, .d, .d, .d, .d, .d] (by kernel_rfl) (by kernel_rfl) (by kernel_rfl) ?_
                  simp only [List.take_succ_cons, List.take_zero, List.drop_succ_cons, List.drop_zero, Exs]
                  iterate 20 apply Exists.intro
                  apply Run.valG (wanted_none rfl _)
                  · intro w1 h1 hk
                    have q0 := h1.cell u0; have q1 := h1.cell xs0; have q2 := h1.cell u1; have hg := (Fut.drew _).trans h1
                    have hcw := fun b o => Below.cell (p := ⟨b, o, none⟩) h1
                    go_simp; rfl
                  simp only [Act.put, List.setIfInBounds_toArray, List.set_cons_succ, List.set_cons_zero, List.nil_append, List.cons_append]
                  apply Run.valG (wanted_none rfl _)
                  · intro w1 h1 hk
                    have q0 := h1.cell u0; have q1 := h1.cell xs0; have q2 := h1.cell u1; have hg := (Fut.drew _).trans h1
                    have hcw := fun b o => Below.cell (p := ⟨b, o, none⟩) h1
                    go_simp; rfl
                  simp only [Act.put, List.setIfInBounds_toArray, List.set_cons_succ, List.set_cons_zero, List.nil_append, List.cons_append]
                  apply Run.valG (wanted_none rfl _)
                  · intro w1 h1 hk
                    have q0 := h1.cell u0; have q1 := h1.cell xs0; have q2 := h1.cell u1; have hg := (Fut.drew _).trans h1
                    have hcw := fun b o => Below.cell (p := ⟨b, o, none⟩) h1
                    go_simp; rfl
                  simp only [Act.put, List.setIfInBounds_toArray, List.set_cons_succ, List.set_cons_zero, List.nil_append, List.cons_append]
                  apply Run.valG (wanted_none rfl _)
                  · intro w1 h1 hk
                    have q0 := h1.cell u0; have q1 := h1.cell xs0; have q2 := h1.cell u1; have hg := (Fut.drew _).trans h1
                    have hcw := fun b o => Below.cell (p := ⟨b, o, none⟩) h1
                    go_simp; rfl
                  simp only [Act.put, List.setIfInBounds_toArray, List.set_cons_succ, List.set_cons_zero, List.nil_append, List.cons_append]
                  apply Run.valG (wanted_none rfl _)
                  · intro w1 h1 hk
                    have q0 := h1.cell u0; have q1 := h1.cell xs0; have q2 := h1.cell u1; have hg := (Fut.drew _).trans h1
                    have hcw := fun b o => Below.cell (p := ⟨b, o, none⟩) h1
                    go_simp; rfl
                  simp only [Act.put, List.setIfInBounds_toArray, List.set_cons_succ, List.set_cons_zero, List.nil_append, List.cons_append]
                  apply Run.valG (wanted_none rfl _)
                  · intro w1 h1 hk
                    have q0 := h1.cell u0; have q1 := h1.cell xs0; have q2 := h1.cell u1; have hg := (Fut.drew _).trans h1
                    have hcw := fun b o => Below.cell (p := ⟨b, o, none⟩) h1
                    go_simp; rfl
                  simp only [Act.put, List.setIfInBounds_toArray, List.set_cons_succ, List.set_cons_zero, List.nil_append, List.cons_append]
                  apply Run.valG (wanted_none rfl _)
                  · intro w1 h1 hk
                    have q0 := h1.cell u0; have q1 := h1.cell xs0; have q2 := h1.cell u1; have hg := (Fut.drew _).trans h1
                    have hcw := fun b o => Below.cell (p := ⟨b, o, none⟩) h1
                    go_simp; rfl
                  simp only [Act.put, List.setIfInBounds_toArray, List.set_cons_succ, List.set_cons_zero, List.nil_append, List.cons_append]
                  apply Run.valG (wanted_none rfl _)
                  · intro w1 h1 hk
                    have q0 := h1.cell u0; have q1 := h1.cell xs0; have q2 := h1.cell u1; have hg := (Fut.drew _).trans h1
                    have hcw := fun b o => Below.cell (p := ⟨b, o, none⟩) h1
                    go_simp; rfl
                  simp only [Act.put, List.setIfInBounds_toArray, List.set_cons_succ, List.set_cons_zero, List.nil_append, List.cons_append]
                  apply Run.valG (wanted_none rfl _)
                  · intro w1 h1 hk
                    have q0 := h1.cell u0; have q1 := h1.cell xs0; have q2 := h1.cell u1; have hg := (Fut.drew _).trans h1
                    have hcw := fun b o => Below.cell (p := ⟨b, o, none⟩) h1
                    go_simp; rfl
                  simp only [Act.put, List.setIfInBounds_toArray, List.set_cons_succ, List.set_cons_zero, List.nil_append, List.cons_append]
                  apply Run.valG (wanted_none rfl _)
                  · intro w1 h1 hk
                    have q0 := h1.cell u0; have q1 := h1.cell xs0; have q2 := h1.cell u1; have hg := (Fut.drew _).trans h1
                    have hcw := fun b o => Below.cell (p := ⟨b, o, none⟩) h1
                    go_simp; rfl
                  simp only [Act.put, List.setIfInBounds_toArray, List.set_cons_succ, List.set_cons_zero, List.nil_append, List.cons_append]
                  apply Run.valG (wanted_none rfl _)
                  · intro w1 h1 hk
                    have q0 := h1.cell u0; have q1 := h1.cell xs0; have q2 := h1.cell u1; have hg := (Fut.drew _).trans h1
                    have hcw := fun b o => Below.cell (p := ⟨b, o, none⟩) h1
                    go_simp; rfl
                  simp only [Act.put, List.setIfInBounds_toArray, List.set_cons_succ, List.set_cons_zero, List.nil_append, List.cons_append]
                  apply Run.valG (by go_simp)
                  · intro w1 h1 hk
                    have q0 := h1.cell u0; have q1 := h1.cell xs0; have q2 := h1.cell u1; have hg := (Fut.drew _).trans h1
                    have hcw := fun b o => Below.cell (p := ⟨b, o, none⟩) h1
                    go_simp; rfl
                  simp only [Act.put, List.setIfInBounds_toArray, List.set_cons_succ, List.set_cons_zero, List.nil_append, List.cons_append]
                  apply Run.valG (by go_simp)
                  · intro w1 h1 hk
                    have q0 := h1.cell u0; have q1 := h1.cell xs0; have q2 := h1.cell u1; have hg := (Fut.drew _).trans h1
                    have hcw := fun b o => Below.cell (p := ⟨b, o, none⟩) h1
                    go_simp; rfl
                  simp only [Act.put, List.setIfInBounds_toArray, List.set_cons_succ, List.set_cons_zero, List.nil_append, List.cons_append]
                  apply Run.valG (by go_simp)
                  · intro w1 h1 hk
                    have q0 := h1.cell u0; have q1 := h1.cell xs0; have q2 := h1.cell u1; have hg := (Fut.drew _).trans h1
                    have hcw := fun b o => Below.cell (p := ⟨b, o, none⟩) h1
                    go_simp; rfl
                  simp only [Act.put, List.setIfInBounds_toArray, List.set_cons_succ, List.set_cons_zero, List.nil_append, List.cons_append]
                  apply Run.valG (by go_simp)
                  · intro w1 h1 hk
                    have q0 := h1.cell u0; have q1 := h1.cell xs0; have q2 := h1.cell u1; have hg := (Fut.drew _).trans h1
                    have hcw := fun b o => Below.cell (p := ⟨b, o, none⟩) h1
                    go_simp; rfl
                  simp only [Act.put, List.setIfInBounds_toArray, List.set_cons_succ, List.set_cons_zero, List.nil_append, List.cons_append]
                  apply Run.valG (by go_simp)
                  · intro w1 h1 hk
                    have q0 := h1.cell u0; have q1 := h1.cell xs0; have q2 := h1.cell u1; have hg := (Fut.drew _).trans h1
                    have hcw := fun b o => Below.cell (p := ⟨b, o, none⟩) h1
                    go_simp; rfl
                  simp only [Act.put, List.setIfInBounds_toArray, List.set_cons_succ, List.set_cons_zero, List.nil_append, List.cons_append]
                  apply Run.valG (by go_simp)
                  · intro w1 h1 hk
                    have q0 := h1.cell u0; have q1 := h1.cell xs0; have q2 := h1.cell u1; have hg := (Fut.drew _).trans h1
                    have hcw := fun b o => Below.cell (p := ⟨b, o, none⟩) h1
                    go_simp; rfl
                  simp only [Act.put, List.setIfInBounds_toArray, List.set_cons_succ, List.set_cons_zero, List.nil_append, List.cons_append]
                  apply Run.call (by go_simp) (fun _ _ => by go_simp; exact ⟨rfl, rfl⟩)
                  · intro w1 h1 hk
                    have q0 := h1.cell u0; have q1 := h1.cell xs0; have q2 := h1.cell u1; have hg := (Fut.drew _).trans h1
                    refine (HH.out _ hg).mono ?_; rintro e9 w9 ⟨rfl, rfl⟩; exact ⟨rfl, Fut.refl _⟩
                  simp only [Act.put, List.setIfInBounds_toArray, List.set_cons_succ, List.set_cons_zero, List.nil_append, List.cons_append]
                  apply Run.valG (by go_simp)
                  · intro w1 h1 hk
                    have q0 := h1.cell u0; have q1 := h1.cell xs0; have q2 := h1.cell u1; have hg := (Fut.drew _).trans h1
                    have hcw := fun b o => Below.cell (p := ⟨b, o, none⟩) h1
                    go_simp; rfl
                  simp only [Act.put, List.setIfInBounds_toArray, List.set_cons_succ, List.set_cons_zero, List.nil_append, List.cons_append]
                  apply Run.valG (wanted_none rfl _)
                  · intro w1 h1 hk
                    have q0 := h1.cell u0; have q1 := h1.cell xs0; have q2 := h1.cell u1; have hg := (Fut.drew _).trans h1
                    have hcw := fun b o => Below.cell (p := ⟨b, o, none⟩) h1
                    go_simp; rfl
                  simp only [Act.put, List.setIfInBounds_toArray, List.set_cons_succ, List.set_cons_zero, List.nil_append, List.cons_append]
                  apply Run.done
                  intro w2 h2 hk
                  clear hk
                  have f2 := (Fut.drew _).trans h2
                  have v1 := f2.cell u1
                  have HF2 := Lib.hid (hF.out.trans f2)
                  have HO2 := Lib.hid (hO.out.fut RNm.stays f2)
                  have hsz2 := HF2.out.size
                  clear f2 h2 HH u0 u1 xs0
                  go_wp2_with (first | (at_builtin; refine wpList_append_LB (R := RNm) (B := wn.heap.size) (M := 1) (xs := sn) (ys := [e.t]) (e := 9) (by go_simp) _ _ tVl' rfl Tryz.underlying37 (.string ⟨#[]⟩) 16 infoNm rfl (by decide) RNm.one RNm.keeps rfl rfl (HO2.out.fut RNm.stays (Fut.alloc _ _)) (nmOne _ _ _) ?l3 ?m3 ?b3 ?k3))
                  case l3 => simp [maxLen]; omega
                  case m3 => simp; omega
                  case b3 => simp; omega
                  case k3 =>
                  intro v' w' o' g' sn'
                  have HO4 := Lib.hid o'
                  have HF4 := Lib.hid ((HF2.out.trans (Fut.alloc _ _)).grown g' (fun k hk => (HO2.out.block k hk).1))
                  clear o' g' sn'
                  go_wp2
                  go_roundw
                  case rel => exact ⟨sn ++ [e.t], k + 1, by go_num, by omega, HX2, HR2, HO4, HF4⟩
                  case measure => simp [intOf] <;> omega
            · obtain rfl : k = es.length := by omega
              have hjl : j < sn.length := (List.getElem?_eq_some_iff.1 hX.out).1
              have HR2 := Lib.hid (hR.out.next hjl)
              clear hR
              go_wp2
              go_roundw
              case rel => exact ⟨sn, j + 1, by go_num, by omega, HR2, hO, hF⟩
              case measure => simp [intOf] <;> omega
        · obtain rfl : j = seen.length := by omega
          have hlen : seen.length = L.length := HL.out.len (k := 0) (by rw [Hes.out]; exact hR.out)
          have heq : ((seen.length : Int) == (L.length : Int)) = true := by rw [hlen]; simp
          have y4 := cell_at ((G4.out.trans hF.out).block HPB2.out) 0 _ rfl
          have HPt := Lib.hid (parted_any A Ae c ce rs es wq (H.out.fut RRu.stays (F4.out.trans hF.out)) hM HS.out Hes.out (HE4.out.fut REd.stays hF.out) (by decide))
          have HF5 := Lib.hid (F4.out.trans hF.out)
          replace hlen := Lib.hid hlen
          go_wp2_with fail
          refine HPt.out.mono ?_
          rintro e8 w8 ⟨rfl, f8⟩
          go_wp2_with fail
          refine (lives9_any _).mono ?_
          rintro e9 w9 ⟨rfl, f9⟩
          go_wp2
          go_ret
          exact ⟨rfl, HF5.out.trans (f8.trans f9)⟩
#print axioms ways_any
end Go.Proofs.YtackadhamghblaaGreat
/- The law DependWays holds: the rules that a name comes to, and the parts. No condition. -/
namespace Go.Proofs.YtackadhamghblaaGreat
open Go.RowKit Go.ChangeShapes Go.WideShapes Go.ChangeAt Go.ChangeMaps
set_option linter.unusedSimpArgs false
set_option linter.unusedVariables false
set_option maxRecDepth 100000

theorem DependWays_own : ownKnob Tryz.prog.godebug = none := by kernel_rfl
theorem DependWays_laidOut : laidOutB Tryz.prog = true := by kernel_rfl
theorem DependWays_row_walk {H : Type} {enc : TypeId × Value → H} (W : World) (base : Nat) (args : Array Value) (ds : List (DataW H)) (p : List MemPlace)
    (hval : ∀ (j : Nat) t v, (#[22, 9] : Array Nat)[j]? = some t → args[j]? = some v → Value.okWide Tryz.prog W .any base t v)
    (hA : DataW.TrodAll enc Tryz.prog W 0 (fun _ => true) true [22, 9] args.toList ds p) (hS : (DataW.weightsEach Tryz.prog [22, 9] ds).all (fun n => decide (n ≤ reachBytes)) = true) :
    Calls Tryz.prog 4 args W fun e W' => e = .returned (.bool true) ∧ Fut W W' := by
  obtain ⟨v0, vs0, d0, ds0, p0, q0, hargs, rfl, rfl, h0, r0⟩ := trodAll_cons hA
  obtain ⟨v1, vs1, d1, ds1, p1, q1, rfl, rfl, rfl, h1, r1⟩ := trodAll_cons r0
  obtain ⟨rfl, rfl, rfl⟩ := trodAll_nil r1
  obtain rfl : args = #[v0, v1] := by cases args; simp_all
  have k0 := hval 0 22 v0 rfl rfl
  have k1 := hval 1 9 v1 rfl rfl
  have s0 := weights_arg hS 0 rfl rfl
  have s1 := weights_arg hS 1 rfl rfl
  clear hval hA hS
  obtain ⟨l, hl⟩ := reads_arg rRus h0 s0
  have hl := arg_slice hl Tryz.underlying22 k0
  obtain ⟨s, q0⟩ := reads_arg (reads_string Tryz.underlying9) h1 s1
  obtain ⟨s', rfl, _⟩ := open_string Tryz.underlying9 k1 h1
  obtain rfl : s' = s := by simpa [Value.cells] using q0.1
  exact ways_any _ l s' W hl (by decide) q0.2
set_option maxRecDepth 100000 in
theorem DependWays_lifted (os : Os) (started : os.Started) (H : Type) (enc : TypeId × Value → H) :
    ReturnsInHanded {} Tryz.checked os 4 .any (Rows.dependWaysSpec.pre6 enc Tryz.prog Tryz.f4 Rows.dependWaysRow.domain false) (Rows.dependWaysSpec.post enc Tryz.prog Tryz.f4 false true false false) := by
  refine returnsInHanded_of_change_sized (C := Tryz.checked) DependWays_own started (by kernel_rfl) Tryz.func4
    (ChangeSpec.witness6 (enc := enc) (C := Tryz.checked) false ⟨#[], #[.slice none 0 0, .string ⟨#[]⟩], []⟩ 8 (by kernel_rfl) (by kernel_rfl) (by kernel_rfl) (by kernel_rfl)) ?_
  intro W base args ds gs before hval0 hW _ hsz _
  have hW' := hW
  obtain ⟨p, q, hA0, hV, rfl, _, _⟩ := hW
  have hA : DataW.TrodAll enc Tryz.prog W 0 (fun _ => true) true [22, 9] args.toList ds p := hA0
  obtain ⟨rfl, rfl⟩ := trodVars_none hV
  rw [List.append_nil] at hsz
  refine (DependWays_row_walk W base args ds p hval0 hA hsz).mono fun e W' ⟨he, hf⟩ => ?_
  subst he
  obtain ⟨v0, vs0, d0, ds0, p0, q0, _, rfl, _, _, r0⟩ := trodAll_cons hA
  obtain ⟨v1, vs1, d1, ds1, p1, q1, _, rfl, _, _, r1⟩ := trodAll_cons r0
  obtain ⟨_, rfl, _⟩ := trodAll_nil r1
  exact ⟨_, rfl, law_post (tb := 4) DependWays_laidOut hW' rfl (by kernel_rfl) rfl Tryz.underlying4 rfl rfl rfl hf⟩
theorem DependWays_holds : Rows.DependWaysSaid :=
  OpenClaim.holds_of_wide 4 Tryz.f4 rfl rfl rfl rfl rfl rfl rfl ⟨rfl, rfl, rfl, rfl, rfl⟩ rfl rfl rfl rfl rfl (by kernel_rfl) Tryz.func4 (by kernel_rfl)
    (of_decide_eq_true (by kernel_rfl)) (by unfold Func.isWrapper; first | (rw [if_pos (by decide +kernel)]; kernel_rfl) | (rw [if_neg (by decide +kernel)]; exact ⟨rfl, rfl⟩))
    (fun os started H enc _ => DependWays_lifted os started H enc)
#print axioms DependWays_holds
end Go.Proofs.YtackadhamghblaaGreat
