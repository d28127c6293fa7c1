/- EstimateSizes -/
import Derived.Test.YtkdnplebgmmclaaDoorCards
import Derived.Test.YtkdnplebgmmclaaDoorTie
import Derived.SevenTiedAt
import Derived.Lay
import Derived.LaidOnce
import Derived.ChangeMaps5
import Derived.Test.YtkdnplebgmmclaaDoorC20
/- The law EstimateSizes holds: the sizes of any facts, which are left as they were; asked again of the same list written over. No condition. -/
namespace Go.Proofs.YtkdnplebgmmclaaDoor
open Go.RowKit Go.ChangeShapes Go.WideShapes Go.ChangeAt Go.ChangeMaps
set_option linter.unusedSimpArgs false
set_option linter.unusedVariables false

theorem parts_len (fs : List Fc) : fs.length ≤ parts fs := by
  induction fs with
  | nil => simp
  | cons f r ih => simp only [List.length_cons, parts]; omega
theorem parts_mem {fs : List Fc} {f : Fc} (h : f ∈ fs) : f.a.length ≤ parts fs := by
  induction fs with
  | nil => simp at h
  | cons g r ih =>
    simp only [parts]
    rcases List.mem_cons.1 h with rfl | h
    · omega
    · have := ih h; omega
/-- The first k written over. -/
def mix (ts ms : List Fc) (k : Nat) : List Fc := ms.take k ++ ts.drop k
theorem mix_at {ts ms : List Fc} {k : Nat} (h1 : k < ts.length) (h2 : k < ms.length) (i : Nat) : (mix ts ms (k + 1))[i]? = if i = k then some ms[k] else (mix ts ms k)[i]? := by
  unfold mix
  rw [List.getElem?_append, List.getElem?_append, List.length_take, List.length_take, Nat.min_eq_left (by omega), Nat.min_eq_left (by omega), List.getElem?_take, List.getElem?_take, List.getElem?_drop, List.getElem?_drop]
  by_cases hi : i = k
  · subst hi
    rw [if_pos rfl, if_pos (by omega), if_pos (by omega), List.getElem?_eq_getElem h2]
  · rw [if_neg hi]
    by_cases hl : i < k
    · rw [if_pos (by omega), if_pos (by omega), if_pos hl, if_pos hl]
    · rw [if_neg (by omega), if_neg hl]
      congr 1
      omega
theorem mix_len {ts ms : List Fc} {k : Nat} (h1 : k ≤ ts.length) (h2 : k ≤ ms.length) : (mix ts ms k).length = ts.length := by
  unfold mix; rw [List.length_append, List.length_take, List.length_drop]; omega
theorem mix_mem {ts ms : List Fc} {k : Nat} {f : Fc} (h : f ∈ mix ts ms k) : f ∈ ts ∨ f ∈ ms := by
  unfold mix at h
  rcases List.mem_append.1 h with h | h
  · exact .inr (List.mem_of_mem_take h)
  · exact .inl (List.mem_of_mem_drop h)
def MixG (w : World) (g : Nat) (F : Nat → Value) (Y : List Fc) : Prop := ∀ (i : Nat) (f : Fc), Y[i]? = some f → F (i * 2) = .string f.p ∧ TwinR (g + 1) w (F (i * 2 + 1)) f.a
theorem MixG.facs {w : World} {g n : Nat} {F : Nat → Value} {Y : List Fc} (h : MixG w g F Y) (hB : BlkF w g 31 ((n + 1) * 2) F) (hn : Y.length = n) (hok : ∀ t ∈ Y, t.p.size ≤ 140737488351232 ∧ ∀ x ∈ t.a, x.ok) (hl : ∀ t ∈ Y, t.a.length < 4398046511104) (hm : n < 4398046511104) : FacsG w (.slice (some ⟨g, 0, none⟩) n (n + 1)) Y := by
  subst hn
  refine ⟨_, _, rfl, Nat.le_succ _, by omega, fun i x hx => ?_⟩
  have hil : i < Y.length := (List.getElem?_eq_some_iff.1 hx).1
  have hmem := List.mem_of_getElem? hx
  obtain ⟨e1, e2⟩ := h i x hx
  refine ⟨g, 0, [.string x.p, F (i * 2 + 1)], rfl, rfl, fun j c hj => ?_, _, rfl, (hok x hmem).1, e2.vals (hok x hmem).2 (hl x hmem)⟩
  have hjl : j < 2 := (List.getElem?_eq_some_iff.1 hj).1
  rw [Nat.zero_add, hB.cell (by omega)]
  rcases (by omega : j = 0 ∨ j = 1) with rfl | rfl
  · simp at hj; subst hj; rw [Nat.add_zero, e1]
  · simp at hj; subst hj; rfl
theorem MixG.step {w : World} {g k : Nat} {F : Nat → Value} {ts ms : List Fc} (h : MixG w g F (mix ts ms k)) (h1 : k < ts.length) (h2 : k < ms.length) {v : Value} (hv : TwinR (g + 1) w v (ms[k]).a) :
    MixG ((w.setCell ⟨g, k * 2, none⟩ (.string (ms[k]).p)).setCell ⟨g, k * 2 + 1, none⟩ v) g (fun j => if j = k * 2 + 1 then v else if j = k * 2 then .string (ms[k]).p else F j) (mix ts ms (k + 1)) := fun i f hf => by
  rw [mix_at h1 h2] at hf
  by_cases hi : i = k
  · subst hi
    rw [if_pos rfl] at hf
    injection hf with hf
    subst hf
    refine ⟨?_, ?_⟩
    · show (if i * 2 = i * 2 + 1 then v else if i * 2 = i * 2 then _ else _) = _
      rw [if_neg (by omega), if_pos rfl]
    · show TwinR _ _ (if i * 2 + 1 = i * 2 + 1 then v else _) _
      rw [if_pos rfl]
      exact (hv.far (Nat.lt_succ_self _) _).far (Nat.lt_succ_self _) _
  · rw [if_neg hi] at hf
    obtain ⟨e1, e2⟩ := h i f hf
    refine ⟨?_, ?_⟩
    · show (if i * 2 = k * 2 + 1 then v else if i * 2 = k * 2 then _ else F (i * 2)) = _
      rw [if_neg (by omega), if_neg (by omega)]; exact e1
    · show TwinR _ _ (if i * 2 + 1 = k * 2 + 1 then v else if i * 2 + 1 = k * 2 then _ else F (i * 2 + 1)) _
      rw [if_neg (by omega), if_neg (by omega)]
      exact (e2.far (Nat.lt_succ_self _) _).far (Nat.lt_succ_self _) _
theorem MixG.fut {w w' : World} {g : Nat} {F : Nat → Value} {Y : List Fc} (h : MixG w g F Y) (hf : Fut w w') : MixG w' g F Y := fun i f hi => ⟨(h i f hi).1, (h i f hi).2.fut hf⟩
set_option maxHeartbeats 2000000 in
set_option maxRecDepth 100000 in
theorem esizes_any (a b : Value) (ts ms : List Fc) (w : World) (hP : Pows w) (ha : Facs w a ts) (hb : Facs w b ms) :
    Calls Tryd.prog 3 #[a, b] w fun e w' => e = .returned (.bool true) ∧ Fut w w' := by
  have HP := Lib.hid hP
  have HA := Lib.hid ha.g
  have HB := Lib.hid hb.g
  have HBA := Lib.hid (fun w' (f : Fut w w') => beyondF_any a ts w' (ha.fut RF.stays f))
  have HBB := Lib.hid (fun w' (f : Fut w w') => beyondF_any b ms w' (hb.fut RF.stays f))
  obtain ⟨Ab, cb, rfl, hcb1, hcb2⟩ := SlRep.form hb.g
  clear hP ha hb
  by_cases h1 : 1048576 < parts ts
  · rw [decide_eq_true h1] at HBA
    go_enter Tryd.func3, Tryd.ntmps3
    go_wp2_with fail
    refine (HBA.out _ (Fut.refl _)).mono ?_
    rintro e w1 ⟨rfl, rfl⟩
    go_wp2
    go_ret
    exact ⟨rfl, Fut.refl _⟩
  · rw [decide_eq_false h1] at HBA
    by_cases h2 : 1048576 < parts ms
    · rw [decide_eq_true h2] at HBB
      go_enter Tryd.func3, Tryd.ntmps3
      go_wp2_with fail
      refine (HBA.out _ (Fut.refl _)).mono ?_
      rintro e w1 ⟨rfl, rfl⟩
      go_wp2_with fail
      refine (HBB.out _ (Fut.refl _)).mono ?_
      rintro e w1 ⟨rfl, rfl⟩
      go_wp2
      go_ret
      exact ⟨rfl, Fut.refl _⟩
    · rw [decide_eq_false h2] at HBB
      have lt := parts_len ts
      have lf := parts_len ms
      have LT := Lib.hid (show ts.length ≤ 1048576 by omega)
      have LM := Lib.hid (show ms.length ≤ 1048576 by omega)
      have MT := Lib.hid (show ∀ t ∈ ts, t.a.length ≤ 1048576 from fun t ht => by have := parts_mem ht; omega)
      have MM := Lib.hid (show ∀ t ∈ ms, t.a.length ≤ 1048576 from fun t ht => by have := parts_mem ht; omega)
      clear h1 h2 lt lf
      go_enter Tryd.func3, Tryd.ntmps3
      go_wp2_with fail
      refine (HBA.out _ (Fut.refl _)).mono ?_
      rintro e w1 ⟨rfl, rfl⟩
      go_wp2_with fail
      refine (HBB.out _ (Fut.refl _)).mono ?_
      rintro e w1 ⟨rfl, rfl⟩
      go_wp2_with fail
      refine (rsizes_any _ ts _ HA.out LT.out (fun t ht => by have := MT.out t ht; omega)).mono ?_
      rintro e w2 ⟨vw, rfl, hW, f2⟩
      have HW := Lib.hid hW
      have F2 := Lib.hid f2
      clear hW f2
      go_wp2_with fail
      refine (twinG_any _ ts _ (HP.out.fut F2.out) (HA.out.fut RG.stays F2.out) (by have := LT.out; omega) (fun t ht => by have := MT.out t ht; omega)).mono ?_
      rintro e w3 ⟨vt, rfl, hG, f3⟩
      have HG := Lib.hid hG
      have F3 := Lib.hid f3
      clear hG f3
      go_wp2_with fail
      refine (sizes_any _ ts _ (HG.out.facs HA.out.oks (fun t ht => by have := MT.out t ht; omega) (by have := LT.out; omega)) LT.out (fun t ht => by have := MT.out t ht; omega)).mono ?_
      rintro e w4 ⟨v4, rfl, h4, f4⟩
      have H4 := Lib.hid h4
      have F4 := Lib.hid f4
      clear h4 f4
      go_wp2_with fail
      refine (sameSzs_any _ _ _ _ H4.out (HW.out.fut RSz.stays (F3.out.trans F4.out))).mono ?_
      rintro e w5 ⟨rfl, f5⟩
      have F5 := Lib.hid (F4.out.trans f5)
      clear f5 H4 F4
      go_wp2_with fail
      refine (leftG_any _ _ _ ts _ (HP.out.fut ((F2.out.trans F3.out).trans F5.out)) (HG.out.keep F5.out) (HA.out.fut RG.stays ((F2.out.trans F3.out).trans F5.out)) (by have := LT.out; omega) (fun t ht => by have := MT.out t ht; omega)).mono ?_
      rintro e w6 ⟨rfl, f6⟩
      have F6 := Lib.hid (F5.out.trans f6)
      clear f6 F5
      go_wp2_with fail
      refine (sizes_any _ ts _ ((HG.out.keep F6.out).facs HA.out.oks (fun t ht => by have := MT.out t ht; omega) (by have := LT.out; omega)) LT.out (fun t ht => by have := MT.out t ht; omega)).mono ?_
      rintro e w7 ⟨v7, rfl, h7, f7⟩
      have H7 := Lib.hid h7
      have F7 := Lib.hid (F6.out.trans f7)
      clear h7 f7
      go_wp2_with fail
      refine (sameSzs_any _ _ _ _ H7.out (HW.out.fut RSz.stays (F3.out.trans F7.out))).mono ?_
      rintro e w8 ⟨rfl, f8⟩
      have F8 := Lib.hid (F7.out.trans f8)
      clear f8 H7 F7 F6
      have hG8 := HG.out.keep F8.out
      have hgB : w2.heap.size ≤ (match vt with | .slice (some p) _ _ => p.block | _ => 0) := by
        obtain ⟨g, css, h9, rfl, _⟩ := HG.out
        exact h9
      obtain ⟨g, css, _, rfl, hcl, hblk, hel, _⟩ := hG8
      replace hgB : w2.heap.size ≤ g := hgB
      have hM0 : MixG w8 g (cellsAt css [.string ⟨#[]⟩, .slice none 0 0] 2) (mix ts ms 0) := fun i f hf => by
        have hf' : ts[i]? = some f := by simpa [mix] using hf
        have hil := (List.getElem?_eq_some_iff.1 hf').1
        have hc : css[i]? = some (css[i]'(by omega)) := List.getElem?_eq_getElem (by omega)
        obtain ⟨_, u, hcs, hu⟩ := hel i f _ hf' hc
        rw [hcs] at hc
        refine ⟨?_, ?_⟩
        · have := cellsAt_get (z := [.string ⟨#[]⟩, .slice none 0 0]) (sz := 2) (j := 0) hc rfl (by omega)
          rwa [Nat.add_zero] at this
        · rw [cellsAt_get (z := [.string ⟨#[]⟩, .slice none 0 0]) (sz := 2) (j := 1) hc rfl (by omega)]
          exact hu
      have HM0 := Lib.hid hM0
      have HB0 := Lib.hid hblk
      have FW := Lib.hid ((F2.out.trans F3.out).trans F8.out)
      have hsF := F2.out.size
      have hls := LT.out
      have hlm := LM.out
      clear hM0 hblk hel hcl HG
      go_wp2_with fail
      go_loopw [7] (fun i wr => ∃ (k : Nat) (F : Nat → Value), k ≤ ts.length ∧ k ≤ ms.length ∧ i = .int .i64 k ∧ Hid (BlkF wr g 31 ((ts.length + 1) * 2) F) ∧ Hid (MixG wr g F (mix ts ms k)) ∧ Hid (Fut w1 wr)) (fun i _ => ts.length - (intOf i).toNat)
      case atStart => exact ⟨0, _, Nat.zero_le _, Nat.zero_le _, rfl, HB0, HM0, FW⟩
      case round =>
        obtain ⟨k, F, hk, hk', rfl, hB, hM, hF⟩ := hrel
        have hgz := hB.out.lt
        by_cases hlt : k < ts.length ∧ k < ms.length
        · obtain ⟨hlt1, hlt2⟩ := hlt
          obtain ⟨b', off, A', cp, rfl, _, x0, x1, _, _, hv⟩ := FacsG.at_ (HB.out.fut RG.stays hF.out) hlt2
          have hlk := MM.out _ (List.getElem_mem hlt2)
          have HV := Lib.hid hv
          have hI1 : (k : Int) < ts.length := by omega
          have hI2 : (k : Int) < ms.length := by omega
          have e8 : (0 : Int) ≤ k ∧ (k : Int) < ts.length := by omega
          have e9 : (0 : Int) ≤ k ∧ (k : Int) < ms.length := by omega
          clear hv
          go_wp2_with fail
          refine (twinF_any ms[k] _ _ HV.out (by omega)).mono ?_
          rintro e wn ⟨v, rfl, htw, h1⟩
          have HT := Lib.hid (htw.low (show g + 1 ≤ wr.heap.size by omega))
          obtain ⟨g1, hg1, rfl, _⟩ := htw
          have hB1 := Lib.hid (hB.out.fut h1)
          have d0 := hB1.out.cell (j := k * 2) (by omega)
          have d1 := hB1.out.cell (j := k * 2 + 1) (by omega)
          have z0 := hB1.out.free (k * 2)
          have z1 := hB1.out.free (k * 2 + 1)
          have hF1 := Lib.hid (hF.out.trans h1)
          have hMn := Lib.hid (MixG.step (hM.out.fut h1) hlt1 hlt2 HT.out)
          have hgw : w1.heap.size ≤ g := by omega
          clear HT hg1
          go_wp2
          go_roundw
          case rel => exact ⟨k + 1, _, by omega, by omega, by go_num, Lib.hid ((hB1.out.set _ _).set _ _), hMn, Lib.hid ((hF1.out.set hgw _).set hgw _)⟩
          case measure => simp [intOf] <;> omega
        · have hml := mix_len hk hk'
          have hoks : ∀ t ∈ mix ts ms k, t.p.size ≤ 140737488351232 ∧ ∀ x ∈ t.a, x.ok := fun t ht => (mix_mem ht).elim (FacsG.oks HA.out t) (FacsG.oks HB.out t)
          have hlen : ∀ t ∈ mix ts ms k, t.a.length ≤ 1048576 := fun t ht => (mix_mem ht).elim (MT.out t) (MM.out t)
          have hMf := hM.out.facs hB.out hml hoks (fun t ht => by have := hlen t ht; omega) (by omega)
          by_cases hl1 : k < ts.length
          · have hI1 : (k : Int) < ts.length := by omega
            have hI2 : ¬ (k : Int) < ms.length := fun h => hlt ⟨hl1, by omega⟩
            go_wp2_with fail
            refine (twinG_any _ (mix ts ms k) _ (HP.out.fut hF.out) hMf (by rw [hml]; omega) (fun t ht => by have := hlen t ht; omega)).mono ?_
            rintro e w9 ⟨v9, rfl, h9, f9⟩
            have H9 := Lib.hid (h9.facs hoks (fun t ht => by have := hlen t ht; omega) (by rw [hml]; omega))
            have F9 := Lib.hid f9
            clear h9 f9
            go_wp2_with fail
            refine (rsizes_any _ (mix ts ms k) _ H9.out (by rw [hml]; omega) (fun t ht => by have := hlen t ht; omega)).mono ?_
            rintro e w10 ⟨v10, rfl, h10, f10⟩
            have H10 := Lib.hid h10
            have F10 := Lib.hid (F9.out.trans f10)
            clear h10 f10
            go_wp2_with fail
            refine (sizes_any _ (mix ts ms k) _ (hMf.fut RG.stays F10.out) (by rw [hml]; omega) (fun t ht => by have := hlen t ht; omega)).mono ?_
            rintro e w11 ⟨v11, rfl, h11, f11⟩
            have H11 := Lib.hid h11
            have F11 := Lib.hid f11
            clear h11 f11
            go_wp2_with fail
            refine (sameSzs_any _ _ _ _ H11.out (H10.out.fut RSz.stays F11.out)).mono ?_
            rintro e w12 ⟨rfl, f12⟩
            have F12 := Lib.hid ((F10.out.trans F11.out).trans f12)
            clear f12
            go_wp2_with fail
            refine (lives25_any _).mono ?_
            rintro e w13 ⟨rfl, f13⟩
            go_wp2
            go_ret
            exact ⟨rfl, (hF.out.trans F12.out).trans f13⟩
          · have hI1 : ¬ (k : Int) < ts.length := by omega
            go_wp2_with fail
            refine (twinG_any _ (mix ts ms k) _ (HP.out.fut hF.out) hMf (by rw [hml]; omega) (fun t ht => by have := hlen t ht; omega)).mono ?_
            rintro e w9 ⟨v9, rfl, h9, f9⟩
            have H9 := Lib.hid (h9.facs hoks (fun t ht => by have := hlen t ht; omega) (by rw [hml]; omega))
            have F9 := Lib.hid f9
            clear h9 f9
            go_wp2_with fail
            refine (rsizes_any _ (mix ts ms k) _ H9.out (by rw [hml]; omega) (fun t ht => by have := hlen t ht; omega)).mono ?_
            rintro e w10 ⟨v10, rfl, h10, f10⟩
            have H10 := Lib.hid h10
            have F10 := Lib.hid (F9.out.trans f10)
            clear h10 f10
            go_wp2_with fail
            refine (sizes_any _ (mix ts ms k) _ (hMf.fut RG.stays F10.out) (by rw [hml]; omega) (fun t ht => by have := hlen t ht; omega)).mono ?_
            rintro e w11 ⟨v11, rfl, h11, f11⟩
            have H11 := Lib.hid h11
            have F11 := Lib.hid f11
            clear h11 f11
            go_wp2_with fail
            refine (sameSzs_any _ _ _ _ H11.out (H10.out.fut RSz.stays F11.out)).mono ?_
            rintro e w12 ⟨rfl, f12⟩
            have F12 := Lib.hid ((F10.out.trans F11.out).trans f12)
            clear f12
            go_wp2_with fail
            refine (lives25_any _).mono ?_
            rintro e w13 ⟨rfl, f13⟩
            go_wp2
            go_ret
            exact ⟨rfl, (hF.out.trans F12.out).trans f13⟩
theorem cellsG1 : Tryd.prog.cellsOf 31 = 2 := by kernel_rfl
theorem bytesG1 : Tryd.prog.bytesOf 31 = 40 := by kernel_rfl
theorem rG1 : Reads Tryd.prog 22 (SlR 2 3518437208883 RF) :=
  reads_slice Tryd.underlying22 cellsG1 (by omega) (fun c h => by rw [bytesG1] at h; unfold reachBytes at h; omega)
    (reads_F Tryd.underlying31 (by kernel_rfl) Tryd.underlying9 (rVs.imp fun w cs d ⟨v, h1, h2⟩ => ⟨v, h1, h2.more (by omega)⟩) rfl rfl (by kernel_rfl) (by kernel_rfl))
theorem EstimateSizes_own : ownKnob Tryd.prog.godebug = none := by kernel_rfl
theorem EstimateSizes_laidOut : laidOutB Tryd.prog = true := by kernel_rfl
set_option maxRecDepth 100000 in
theorem EstimateSizes_row_walk {H : Type} {enc : TypeId × Value → H} (W : World) (base : Nat) (args : Array Value) (ds : List (DataW H)) (p : List MemPlace)
    (hval : ∀ (j : Nat) t v, (#[22, 22] : Array Nat)[j]? = some t → args[j]? = some v → Value.okWide Tryd.prog W .any base t v)
    (hA : DataW.TrodAll enc Tryd.prog W 0 (fun _ => true) true [22, 22] args.toList ds p) (hS : (DataW.weightsEach Tryd.prog [22, 22] ds).all (fun n => decide (n ≤ reachBytes)) = true)
    (hL : laidMet Tryd.prog Rows.estimateSizesRow.laid W) :
    Calls Tryd.prog 3 args W fun e W' => e = .returned (.bool true) ∧ Fut W W' := by
  obtain ⟨v0, vs0, d0, ds0, p0, q0, hargs, rfl, rfl, h0, r0⟩ := trodAll_cons hA
  obtain ⟨v1, vs1, d1, ds1, p1, q1, rfl, rfl, rfl, h1, r1⟩ := trodAll_cons r0
  obtain ⟨rfl, rfl, rfl⟩ := trodAll_nil r1
  obtain rfl : args = #[v0, v1] := Array.toList_inj.1 hargs
  have k0 := hval 0 22 v0 rfl rfl
  have k1 := hval 1 22 v1 rfl rfl
  have s0 := weights_arg hS 0 rfl rfl
  have s1 := weights_arg hS 1 rfl rfl
  clear hval hA hS
  obtain ⟨xs, hx⟩ := reads_arg rG1 h0 s0
  have hs := arg_slice hx Tryd.underlying22 k0
  obtain ⟨ys, hy⟩ := reads_arg rG1 h1 s1
  have ht := arg_slice hy Tryd.underlying22 k1
  exact esizes_any _ _ xs ys W (pows_of_laid hL (by simp [Rows.estimateSizesRow])) hs ht
set_option maxRecDepth 100000 in
theorem EstimateSizes_lifted (os : Os) (started : os.Started) (H : Type) (enc : TypeId × Value → H) :
    ReturnsInHanded {} Tryd.checked os 3 .any (fun w args => (Rows.estimateSizesSpec.pre enc Tryd.prog Tryd.f3 [] false w args ∧ laidMetH Tryd.prog Rows.estimateSizesRow.laid w) ∧ sizedMet enc Tryd.prog Tryd.f3 (OpenSpec.ofChange Rows.estimateSizesSpec) false w args)
      (Rows.estimateSizesSpec.post enc Tryd.prog Tryd.f3 false true false false) := by
  refine returnsInHanded_of_change_and (C := Tryd.checked) (X := (fun w _ => laidMetH Tryd.prog Rows.estimateSizesRow.laid w)) (fun _ _ _ hh h => h.of_heap hh) EstimateSizes_own started (by kernel_rfl) Tryd.func3
    (ChangeSpec.witness_shaped (enc := enc) (C := Tryd.checked) (os := os) (X := (fun w _ => laidMetH Tryd.prog Rows.estimateSizesRow.laid w)) false (World.laidAll Tryd.prog os Rows.estimateSizesRow.laid) #[.slice none 0 0, .slice none 0 0] 8 (World.laidAll_os _ _ _)
      (World.shaped_of_ZipB (by kernel_rfl) (by kernel_rfl)) (by kernel_rfl) (by kernel_rfl) (by kernel_rfl)
      (by rw [MakeChecks.laidMetH_plain _ _ _ (by kernel_rfl)]; exact laidMet_laidAll _ (by kernel_rfl) (by kernel_rfl))) ?_
  intro W base args ds gs before hval0 hW _ hsz hL _
  have hW' := hW
  obtain ⟨p, q, hA0, hV, rfl, _, _⟩ := hW
  have hA : DataW.TrodAll enc Tryd.prog W 0 (fun _ => true) true [22, 22] args.toList ds p := hA0
  obtain ⟨rfl, rfl⟩ := trodVars_none hV
  rw [List.append_nil] at hsz
  rw [MakeChecks.laidMetH_plain _ _ _ (by kernel_rfl)] at hL
  refine (EstimateSizes_row_walk W base args ds p hval0 hA hsz hL).mono fun e W' ⟨he, hf⟩ => ?_
  subst he
  obtain ⟨v0, vs0, d0, ds0, p0, q0, _, rfl, _, _, r0⟩ := trodAll_cons hA
  obtain ⟨v1, vs1, d1, ds1, p1, q1, _, rfl, _, _, r1⟩ := trodAll_cons r0
  obtain ⟨_, rfl, _⟩ := trodAll_nil r1
  exact ⟨_, rfl, law_post (tb := 4) EstimateSizes_laidOut hW' rfl (by kernel_rfl) rfl Tryd.underlying4 rfl rfl rfl hf⟩
theorem EstimateSizes_said : Rows.EstimateSizesSaid :=
  OpenClaim.holds_of_wide 3 Tryd.f3 rfl rfl rfl rfl rfl rfl rfl ⟨rfl, rfl, rfl, rfl, rfl⟩ rfl rfl rfl rfl rfl (by kernel_rfl) Tryd.func3 (by kernel_rfl)
    (of_decide_eq_true (by kernel_rfl)) (by unfold Func.isWrapper; first | (rw [if_pos (by decide +kernel)]; kernel_rfl) | (rw [if_neg (by decide +kernel)]; exact ⟨rfl, rfl⟩))
    (fun os started H enc _ => EstimateSizes_lifted os started H enc)
theorem EstimateSizes_plain (f : FuncId) (fn : Func) (hf : Tryd.pinned.checked.prog.funcNamed "pedigree/pedigreelaw25.EstimateSizes" = some f) (hfn : Tryd.pinned.checked.prog.funcs[f]? = some fn) :
    Rows.estimateSizesCard.stood.looks = Tryd.pinned.checked.prog.looks [] ∧ ∀ (j : Nat) t, fn.params[j]? = some t → Tryd.pinned.checked.prog.wantsStandIn t = false := by
  obtain rfl : f = 3 := Option.some.inj ((show Tryd.prog.funcNamed "pedigree/pedigreelaw25.EstimateSizes" = some 3 by kernel_rfl).symm.trans hf) |>.symm
  obtain rfl : fn = Tryd.f3 := (Option.some.inj (Tryd.func3.symm.trans hfn)).symm
  refine ⟨by kernel_rfl, fun j t ht => ?_⟩
  have hall : (Tryd.f3.params.toList.all fun t => !Tryd.prog.wantsStandIn t) = true := by kernel_rfl
  have := List.all_eq_true.1 hall t (by simpa using Array.mem_of_getElem? ht)
  exact (by simpa using this : Tryd.prog.wantsStandIn t = false)
theorem EstimateSizes_holds : Rows.EstimateSizesCardSaid :=
  Claim7.holds_tied_plain_at .later [] _ _ _ _ EstimateSizes_said (fun _ h => by cases h) (by kernel_rfl) (fun _ h => by cases h) estimateSizes_row_tie rfl ⟨rfl, rfl⟩ (by kernel_rfl) rfl EstimateSizes_plain (by kernel_rfl)
end Go.Proofs.YtkdnplebgmmclaaDoor
