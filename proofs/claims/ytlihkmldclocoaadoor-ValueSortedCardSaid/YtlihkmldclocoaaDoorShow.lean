/- A value as a source has it: the document's Show, value.Show. -/
import Derived.Test.YtlihkmldclocoaaDoorNameRef
import Derived.Test.YtlihkmldclocoaaDoorQuoted
import Derived.Lib.LaidTab
import Derived.Lib.LaidU8
import Derived.Lay
namespace Go.Proofs.YtlihkmldclocoaaDoor
open Go.RowKit
set_option linter.unusedSimpArgs false
set_option linter.unusedVariables false

def wroteV (lo hi : Nat) (s : ByteArray) : Bool := decide (0 < s.size) && decide (s.size ≤ 120) && (decide (lo ≤ (s.data.getD 0 0).toNat) && decide ((s.data.getD 0 0).toNat ≤ hi)) && s.data.toList.all (fun b => letterN b.toNat)
theorem nameV_eq (s : ByteArray) : nameV s = (wroteV 97 122 s && !keyB s.toList) := rfl

set_option maxHeartbeats 1600000 in
set_option maxRecDepth 100000 in
theorem written_any (s : ByteArray) (lo hi : Nat) (w : World) (hs : s.size ≤ 140737488351232) (hlo : ∀ c, lo ≤ c → c ≤ hi → letterN c = true) (h256 : lo < 256 ∧ hi < 256) :
    Calls Tryd.prog 97 #[.string s, .int .u8 lo, .int .u8 hi] w fun e w' => e = .returned (.bool (wroteV lo hi s)) ∧ w' = w := by
  have hlow : Hid (∀ (h : 0 < s.size), wroteV lo hi s = true → lo ≤ s[0].toNat ∧ s[0].toNat ≤ hi ∧ s.size ≤ 120) := Lib.hid fun h hn => by
    simp [wroteV] at hn
    rw [show s.data[0]?.getD 0 = s[0] from head_at s h] at hn
    omega
  have hmk : Hid (∀ (h : 0 < s.size), lo ≤ s[0].toNat → s[0].toNat ≤ hi → s.size ≤ 120 → s.data.toList.all (fun b => letterN b.toNat) = true → wroteV lo hi s = true) := Lib.hid fun h h1 h2 h3 h4 => by
    unfold wroteV
    rw [h4]
    simp [h, h3, head_at s h]
    exact ⟨h1, h2⟩
  have hnil : Hid (s.size = 0 → wroteV lo hi s = false) := Lib.hid fun h => by simp [wroteV, h]
  have hall : Hid (∀ k (hk : k < s.size), letterN s[k].toNat = false → wroteV lo hi s = false) := Lib.hid fun k hk h => by
    have : s.data.toList.all (fun b => letterN b.toNat) = false := by
      rw [List.all_eq_false]
      exact ⟨s[k], Array.mem_toList_iff.2 (Array.getElem_mem (xs := s.data) hk), by simp [h]⟩
    unfold wroteV
    rw [this]; simp
  have HLO := Lib.hid hlo
  clear hlo
  generalize wroteV lo hi s = R at *
  by_cases c0 : s.size = 0
  · have e0 : (s.size : Int) < 1 := by omega
    have hr := Lib.hid (hnil.out c0)
    clear c0
    go_enter Tryd.func97, Tryd.ntmps97
    go_wp2
    go_ret
    exact ⟨by rw [hr.out]; rfl, rfl⟩
  · have hpos : 0 < s.size := by omega
    have e0 : ¬ (s.size : Int) < 1 := by omega
    clear c0
    by_cases c1 : (120 : Int) < s.size
    · have hr := Lib.hid (show R = false by
        cases hn : R with
        | false => rfl
        | true => have := hlow.out hpos hn; omega)
      go_enter Tryd.func97, Tryd.ntmps97
      go_wp2
      go_ret
      exact ⟨by rw [hr.out]; rfl, rfl⟩
    · by_cases c2 : ((s[0]).toNat : Int) < lo
      · have hr := Lib.hid (show R = false by
          cases hn : R with
          | false => rfl
          | true => have := hlow.out hpos hn; omega)
        go_enter Tryd.func97, Tryd.ntmps97
        go_wp2
        go_ret
        exact ⟨by rw [hr.out]; rfl, rfl⟩
      · by_cases c3 : (hi : Int) < (s[0]).toNat
        · have hr := Lib.hid (show R = false by
            cases hn : R with
            | false => rfl
            | true => have := hlow.out hpos hn; omega)
          go_enter Tryd.func97, Tryd.ntmps97
          go_wp2
          go_ret
          exact ⟨by rw [hr.out]; rfl, rfl⟩
        · have hmk' := Lib.hid (hmk.out hpos (by omega) (by omega) (by omega))
          have hg0 := Lib.hid (HLO.out s[0].toNat (by omega) (by omega))
          clear hmk hlow hnil
          go_enter Tryd.func97, Tryd.ntmps97
          go_wp2
          go_loop [7] (fun i => ∃ k : Nat, 1 ≤ k ∧ k ≤ s.size ∧ i = .int .i64 k ∧ Hid (∀ j (hj : j < s.size), j < k → letterN (s[j]).toNat = true)) (fun i => s.size - (intOf i).toNat)
          case atStart =>
            have h1' : ∀ j (hj : j < s.size), j < 1 → letterN (s[j]).toNat = true := by
              intro j hj h
              have e : j = 0 := by omega
              subst e
              exact hg0.out
            exact ⟨1, Nat.le_refl _, hpos, rfl, Lib.hid h1'⟩
          case round =>
            obtain ⟨k, hk1, hk, rfl, hg⟩ := hrel
            by_cases hlt : k < s.size
            · have hc := letter_any s[k].toNat (UInt8.toNat_lt _) w
              have hs1 := Lib.hid (fun h : letterN (s[k]).toNat = true => (fun j hj hjk => by
                rcases Nat.lt_or_ge j k with h' | h'
                · exact hg.out j hj h'
                · obtain rfl : j = k := by omega
                  exact h : ∀ j (hj : j < s.size), j < k + 1 → letterN (s[j]).toNat = true))
              have hs2 := Lib.hid (hall.out k hlt)
              cases hl2 : letterN s[k].toNat with
              | true =>
                rw [hl2] at hc
                have HC := Lib.hid hc
                have hs3 := Lib.hid (hs1.out hl2)
                clear hc hl2 hs1 hs2
                go_wp2_with fail
                refine HC.out.mono ?_
                rintro e w1 ⟨rfl, rfl⟩
                go_wp2
                exact ⟨⟨k + 1, by omega, by omega, by go_num, hs3⟩, by simp [intOf]; omega⟩
              | false =>
                rw [hl2] at hc
                have HC := Lib.hid hc
                have hr := Lib.hid (hs2.out hl2)
                clear hc hl2 hs1 hs2
                go_wp2_with fail
                refine HC.out.mono ?_
                rintro e w1 ⟨rfl, rfl⟩
                go_wp2
                go_ret
                exact ⟨by rw [hr.out]; rfl, rfl⟩
            · obtain rfl : k = s.size := by omega
              have hr := Lib.hid (hmk'.out (by
                rw [List.all_eq_true]
                intro b hb
                obtain ⟨j, hj⟩ := List.getElem?_of_mem hb
                have hjl := (List.getElem?_eq_some_iff.1 hj).1
                have := hg.out j (by simpa using hjl) (by simpa using hjl)
                have e : b = s[j]'(by simpa using hjl) := by
                  have := (List.getElem?_eq_some_iff.1 hj).2
                  rw [← this]; rfl
                rw [e]; exact this))
              go_wp2
              go_ret
              exact ⟨by rw [hr.out]; rfl, rfl⟩

set_option maxHeartbeats 1000000 in
theorem rname_any (s : ByteArray) (w : World) (hs : s.size ≤ 140737488351232) :
    Calls Tryd.prog 77 #[.string s] w fun e w' => e = .returned (.bool (nameV s)) ∧ Fut w w' := by
  have hw := written_any s 97 122 w hs (fun c h1 h2 => by simp [letterN, h1, h2]) (by omega)
  have hk := Lib.hid (keyword_any s)
  have hr := Lib.hid (nameV_eq s)
  cases h : wroteV 97 122 s with
  | true =>
    rw [h] at hw hr
    have HW := Lib.hid hw
    clear hw h
    generalize nameV s = R at hr ⊢
    generalize keyB s.toList = K at hk hr
    go_enter Tryd.func77, Tryd.ntmps77
    go_wp2_with fail
    refine HW.out.mono ?_
    rintro e w1 ⟨rfl, rfl⟩
    go_wp2_with fail
    refine (hk.out _).mono ?_
    rintro e w1 ⟨rfl, rfl⟩
    go_wp2
    all_goals go_ret
    all_goals exact ⟨by rw [hr.out]; simp, Fut.refl _⟩
  | false =>
    rw [h] at hw hr
    have HW := Lib.hid hw
    clear hw h
    generalize nameV s = R at hr ⊢
    go_enter Tryd.func77, Tryd.ntmps77
    go_wp2_with fail
    refine HW.out.mono ?_
    rintro e w1 ⟨rfl, rfl⟩
    go_wp2
    go_ret
    exact ⟨by rw [hr.out]; rfl, Fut.refl _⟩

/-- What is shown, and the error. -/
def showV (x : V) : ByteArray × Int :=
  if chk x.k x.n x.s ≠ 0 then (⟨#[]⟩, 10) else if x.k = 1 then (⟨(Lib.itoa x.n).toArray⟩, 0) else if nameV x.s = true then (x.s, 0) else (⟨(quoteL x.s.data.toList).toArray⟩, 0)
def tupS (r : ByteArray × Int) : Value := .tuple #[.string r.1, .int .i64 r.2]
/-- The table of the powers of ten is laid. -/
def Pows (w : World) : Prop := Lib.TabIs Tryd.prog w "internal/strconv.uint64pow10" .u64 Lib.pow10Tab
theorem var_fut {P : Program} {w w' : World} {n : String} {cs : Array Value} (h : w.var? P n = some cs) (hf : Fut w w') : w'.var? P n = some cs := by
  unfold World.var? at h ⊢
  cases hg : P.globalNamed n with
  | none => simp [hg] at h
  | some g =>
    simp only [hg, Option.bind_some] at h ⊢
    have hlt : g < w.heap.size := by
      rcases Nat.lt_or_ge g w.heap.size with h' | h'
      · exact h'
      · simp [Array.getElem?_eq_none h'] at h
    rw [Below.block hf g hlt]
    exact h
theorem Pows.fut {w w' : World} (h : Pows w) (hf : Fut w w') : Pows w' := var_fut (P := Tryd.prog) h hf
theorem fut_grow (w : World) (k : Nat) (os : Array Obj) : Fut w (Sort.grow (w.drewN k) os) :=
  ⟨rfl, rfl, rfl, by simp [Sort.grow, World.drewN], fun j hj => by
    show (w.heap ++ os)[j]? = _
    rw [Array.getElem?_append_left hj]⟩
theorem fmt_any (n : Int) (w : World) (h1 : -9223372036854775808 ≤ n) (h2 : n ≤ 9223372036854775807) (hP : Pows w) :
    Calls Tryd.prog 51 #[.int .i64 n, .int .i64 10] w fun e w' => e = .returned (.string ⟨(Lib.itoa n).toArray⟩) ∧ Fut w w' :=
  (Tryd.strconv_FormatInt_10 n h1 h2 w hP).mono fun e w' ⟨h, k, os, hw⟩ => ⟨h, hw ▸ fut_grow w k os⟩

set_option maxHeartbeats 1000000 in
theorem show_any (x : V) (w : World) (hx : x.ok) (hP : Pows w) :
    Calls Tryd.prog 15 #[x.val] w fun e w' => e = .returned (tupS (showV x)) ∧ Fut w w' := by
  obtain ⟨k, n, s⟩ := x
  obtain ⟨_, hn, hs⟩ := hx
  have HP := Lib.hid hP
  have HS := Lib.hid hs
  have HN := Lib.hid (show -9223372036854775808 ≤ n ∧ n ≤ 9223372036854775807 by simpa [Lit.wf, IntKind.min, IntKind.max, IntKind.signed, IntKind.bits] using hn)
  have hsv := Lib.hid (show showV ⟨k, n, s⟩ = if chk k n s ≠ 0 then (⟨#[]⟩, 10) else if k = 1 then (⟨(Lib.itoa n).toArray⟩, 0) else if nameV s = true then (s, 0) else (⟨(quoteL s.data.toList).toArray⟩, 0) from rfl)
  have h200 : Hid (chk k n s = 0 → k ≠ 1 → s.size ≤ 200) := Lib.hid fun h h' => by
    unfold chk at h
    by_cases c1 : (k == 1) = true ∧ s.toList.isEmpty = true
    · exact absurd (by simpa using c1.1) h'
    · rw [if_neg c1] at h
      by_cases c2 : (k == 2) = true ∧ n = 0 ∧ s.size ≤ 200
      · exact c2.2.2
      · rw [if_neg c2] at h; cases h
  have hr10 : Hid (chk k n s ≠ 0 → chk k n s = 10) := Lib.hid fun h => by
    unfold chk at h ⊢
    (repeat' split) <;> simp_all
  clear hP hs hn
  generalize showV ⟨k, n, s⟩ = R at hsv ⊢
  simp only [V.val]
  generalize hch : chk k n s = c at hsv h200 hr10
  by_cases c0 : c = 0
  · subst c0
    by_cases k1 : k = 1
    · have hR := Lib.hid (show R = (⟨(Lib.itoa n).toArray⟩, 0) by rw [hsv.out, if_neg (by decide), if_pos k1])
      have HC := Lib.hid hch
      subst k1
      clear hch hsv h200 hr10
      go_enter Tryd.func15, Tryd.ntmps15
      go_wp2_with fail
      refine (check_any _ _ _ _ HS.out).mono ?_
      rintro e w1 ⟨rfl, h1⟩
      rw [HC.out]
      have k0 : w1.cell? ⟨w.heap.size, 0, none⟩ = some (.int .i8 1) := h1.cell (by go_simp)
      have k1 : w1.cell? ⟨w.heap.size, 1, none⟩ = some (.int .i64 n) := h1.cell (by go_simp)
      go_wp2_with fail
      refine (fmt_any n _ HN.out.1 HN.out.2 (HP.out.fut ((Fut.alloc _ _).trans h1))).mono ?_
      rintro e w2 ⟨rfl, h2⟩
      generalize (⟨(Lib.itoa n).toArray⟩ : ByteArray) = d at hR ⊢
      go_wp2
      exact bodyPost_ret (v := tupS (d, 0)) (by simp [results, Tryd.results15, go_sem, tupS]) rfl ⟨by rw [hR.out], (Fut.alloc _ _).trans (h1.trans h2)⟩
    · have d1 : (k == 1) = false := by simpa using k1
      have H2 := Lib.hid (h200.out rfl k1)
      cases hnm : nameV s with
      | true =>
        have hR := Lib.hid (show R = (s, 0) by rw [hsv.out, if_neg (by decide), if_neg k1, if_pos hnm])
        have HC := Lib.hid hch
        have HM := Lib.hid hnm
        clear hch hsv h200 hr10 k1 hnm
        go_enter Tryd.func15, Tryd.ntmps15
        go_wp2_with fail
        refine (check_any _ _ _ _ HS.out).mono ?_
        rintro e w1 ⟨rfl, h1⟩
        rw [HC.out]
        have k0 : w1.cell? ⟨w.heap.size, 0, none⟩ = some (.int .i8 k) := h1.cell (by go_simp)
        have k2 : w1.cell? ⟨w.heap.size, 2, none⟩ = some (.string s) := h1.cell (by go_simp)
        go_wp2_with fail
        refine (name_any s _ HS.out).mono ?_
        rintro e w2 ⟨rfl, h2⟩
        rw [HM.out]
        have j2 := h2.cell k2
        go_wp2
        exact bodyPost_ret (v := tupS (s, 0)) (by simp [results, Tryd.results15, go_sem, tupS]) rfl ⟨by rw [hR.out], (Fut.alloc _ _).trans (h1.trans h2)⟩
      | false =>
        have hR := Lib.hid (show R = (⟨(quoteL s.data.toList).toArray⟩, 0) by rw [hsv.out, if_neg (by decide), if_neg k1, if_neg (by rw [hnm]; decide)])
        have HC := Lib.hid hch
        have HM := Lib.hid hnm
        clear hch hsv h200 hr10 k1 hnm
        go_enter Tryd.func15, Tryd.ntmps15
        go_wp2_with fail
        refine (check_any _ _ _ _ HS.out).mono ?_
        rintro e w1 ⟨rfl, h1⟩
        rw [HC.out]
        have k0 : w1.cell? ⟨w.heap.size, 0, none⟩ = some (.int .i8 k) := h1.cell (by go_simp)
        have k2 : w1.cell? ⟨w.heap.size, 2, none⟩ = some (.string s) := h1.cell (by go_simp)
        go_wp2_with fail
        refine (name_any s _ HS.out).mono ?_
        rintro e w2 ⟨rfl, h2⟩
        rw [HM.out]
        have j2 := h2.cell k2
        go_wp2_with fail
        refine (quoted_any s _ H2.out).mono ?_
        rintro e w3 ⟨rfl, h3⟩
        generalize (⟨(quoteL s.data.toList).toArray⟩ : ByteArray) = d at hR ⊢
        go_wp2
        exact bodyPost_ret (v := tupS (d, 0)) (by simp [results, Tryd.results15, go_sem, tupS]) rfl ⟨by rw [hR.out], (Fut.alloc _ _).trans (h1.trans (h2.trans h3))⟩
  · have hR := Lib.hid (show R = (⟨#[]⟩, 10) by rw [hsv.out, if_pos c0])
    have HC := Lib.hid hch
    have e10 := hr10.out c0
    subst e10
    clear hch hsv h200 hr10 c0
    go_enter Tryd.func15, Tryd.ntmps15
    go_wp2_with fail
    refine (check_any _ _ _ _ HS.out).mono ?_
    rintro e w1 ⟨rfl, h1⟩
    rw [HC.out]
    go_wp2
    exact bodyPost_ret (v := tupS (⟨#[]⟩, 10)) (by simp [results, Tryd.results15, go_sem, tupS]) rfl ⟨by rw [hR.out], (Fut.alloc _ _).trans h1⟩
set_option maxHeartbeats 1000000 in
theorem rshow_any (x : V) (w : World) (hx : x.ok) (hP : Pows w) :
    Calls Tryd.prog 45 #[x.val] w fun e w' => e = .returned (tupS (showV x)) ∧ Fut w w' := by
  obtain ⟨k, n, s⟩ := x
  obtain ⟨_, hn, hs⟩ := hx
  have HP := Lib.hid hP
  have HS := Lib.hid hs
  have HN := Lib.hid (show -9223372036854775808 ≤ n ∧ n ≤ 9223372036854775807 by simpa [Lit.wf, IntKind.min, IntKind.max, IntKind.signed, IntKind.bits] using hn)
  have hsv := Lib.hid (show showV ⟨k, n, s⟩ = if chk k n s ≠ 0 then (⟨#[]⟩, 10) else if k = 1 then (⟨(Lib.itoa n).toArray⟩, 0) else if nameV s = true then (s, 0) else (⟨(quoteL s.data.toList).toArray⟩, 0) from rfl)
  have h200 : Hid (chk k n s = 0 → k ≠ 1 → s.size ≤ 200) := Lib.hid fun h h' => by
    unfold chk at h
    by_cases c1 : (k == 1) = true ∧ s.toList.isEmpty = true
    · exact absurd (by simpa using c1.1) h'
    · rw [if_neg c1] at h
      by_cases c2 : (k == 2) = true ∧ n = 0 ∧ s.size ≤ 200
      · exact c2.2.2
      · rw [if_neg c2] at h; cases h
  have hr10 : Hid (chk k n s ≠ 0 → chk k n s = 10) := Lib.hid fun h => by
    unfold chk at h ⊢
    (repeat' split) <;> simp_all
  clear hP hs hn
  generalize showV ⟨k, n, s⟩ = R at hsv ⊢
  simp only [V.val]
  generalize hch : chk k n s = c at hsv h200 hr10
  by_cases c0 : c = 0
  · subst c0
    by_cases k1 : k = 1
    · have hR := Lib.hid (show R = (⟨(Lib.itoa n).toArray⟩, 0) by rw [hsv.out, if_neg (by decide), if_pos k1])
      have HC := Lib.hid hch
      subst k1
      clear hch hsv h200 hr10
      go_enter Tryd.func45, Tryd.ntmps45
      go_wp2_with fail
      refine (rcheck_any _ _ _ _ HS.out).mono ?_
      rintro e w1 ⟨rfl, h1⟩
      rw [HC.out]
      have k0 : w1.cell? ⟨w.heap.size, 0, none⟩ = some (.int .i8 1) := h1.cell (by go_simp)
      have k1 : w1.cell? ⟨w.heap.size, 1, none⟩ = some (.int .i64 n) := h1.cell (by go_simp)
      go_wp2_with fail
      refine (rdigits_any n _ HN.out.1 HN.out.2 ).mono ?_
      rintro e w2 ⟨rfl, h2⟩
      generalize (⟨(Lib.itoa n).toArray⟩ : ByteArray) = d at hR ⊢
      go_wp2
      exact bodyPost_ret (v := tupS (d, 0)) (by simp [results, Tryd.results45, go_sem, tupS]) rfl ⟨by rw [hR.out], (Fut.alloc _ _).trans (h1.trans h2)⟩
    · have d1 : (k == 1) = false := by simpa using k1
      have H2 := Lib.hid (h200.out rfl k1)
      cases hnm : nameV s with
      | true =>
        have hR := Lib.hid (show R = (s, 0) by rw [hsv.out, if_neg (by decide), if_neg k1, if_pos hnm])
        have HC := Lib.hid hch
        have HM := Lib.hid hnm
        clear hch hsv h200 hr10 k1 hnm
        go_enter Tryd.func45, Tryd.ntmps45
        go_wp2_with fail
        refine (rcheck_any _ _ _ _ HS.out).mono ?_
        rintro e w1 ⟨rfl, h1⟩
        rw [HC.out]
        have k0 : w1.cell? ⟨w.heap.size, 0, none⟩ = some (.int .i8 k) := h1.cell (by go_simp)
        have k2 : w1.cell? ⟨w.heap.size, 2, none⟩ = some (.string s) := h1.cell (by go_simp)
        go_wp2_with fail
        refine (rname_any s _ HS.out).mono ?_
        rintro e w2 ⟨rfl, h2⟩
        rw [HM.out]
        have j2 := h2.cell k2
        go_wp2
        exact bodyPost_ret (v := tupS (s, 0)) (by simp [results, Tryd.results45, go_sem, tupS]) rfl ⟨by rw [hR.out], (Fut.alloc _ _).trans (h1.trans h2)⟩
      | false =>
        have hR := Lib.hid (show R = (⟨(quoteL s.data.toList).toArray⟩, 0) by rw [hsv.out, if_neg (by decide), if_neg k1, if_neg (by rw [hnm]; decide)])
        have HC := Lib.hid hch
        have HM := Lib.hid hnm
        clear hch hsv h200 hr10 k1 hnm
        go_enter Tryd.func45, Tryd.ntmps45
        go_wp2_with fail
        refine (rcheck_any _ _ _ _ HS.out).mono ?_
        rintro e w1 ⟨rfl, h1⟩
        rw [HC.out]
        have k0 : w1.cell? ⟨w.heap.size, 0, none⟩ = some (.int .i8 k) := h1.cell (by go_simp)
        have k2 : w1.cell? ⟨w.heap.size, 2, none⟩ = some (.string s) := h1.cell (by go_simp)
        go_wp2_with fail
        refine (rname_any s _ HS.out).mono ?_
        rintro e w2 ⟨rfl, h2⟩
        rw [HM.out]
        have j2 := h2.cell k2
        go_wp2_with fail
        refine (rquoted_any s _ H2.out).mono ?_
        rintro e w3 ⟨rfl, h3⟩
        generalize (⟨(quoteL s.data.toList).toArray⟩ : ByteArray) = d at hR ⊢
        go_wp2
        exact bodyPost_ret (v := tupS (d, 0)) (by simp [results, Tryd.results45, go_sem, tupS]) rfl ⟨by rw [hR.out], (Fut.alloc _ _).trans (h1.trans (h2.trans h3))⟩
  · have hR := Lib.hid (show R = (⟨#[]⟩, 10) by rw [hsv.out, if_pos c0])
    have HC := Lib.hid hch
    have e10 := hr10.out c0
    subst e10
    clear hch hsv h200 hr10 c0
    go_enter Tryd.func45, Tryd.ntmps45
    go_wp2_with fail
    refine (rcheck_any _ _ _ _ HS.out).mono ?_
    rintro e w1 ⟨rfl, h1⟩
    rw [HC.out]
    go_wp2
    exact bodyPost_ret (v := tupS (⟨#[]⟩, 10)) (by simp [results, Tryd.results45, go_sem, tupS]) rfl ⟨by rw [hR.out], (Fut.alloc _ _).trans h1⟩
theorem pows_of_laid {W : World} {l : List (String × DataW Unit)} (h : laidMet Tryd.prog l W) (hm : ("internal/strconv.uint64pow10", Rows.laid_internal_strconv_uint64pow10) ∈ l) : Pows W := by
  obtain ⟨g, t, cs, fuel, p, hg, ht, hvar, hd⟩ := Lib.laidMet.reads h hm
  obtain rfl := Option.some.inj ((show Tryd.prog.globalNamed "internal/strconv.uint64pow10" = some 4 by kernel_rfl).symm.trans hg)
  obtain rfl := Option.some.inj ((show (Tryd.prog.globals[4]?).map (·.type) = some 156 by kernel_rfl).symm.trans ht)
  have hcs : cs.toList = Lib.pow10Tab.map fun z => Value.int .u64 z :=
    Lib.cells_of_tab (k := .u64) (zs := Lib.pow10Tab) Tryd.underlying156 Tryd.underlying98 (by kernel_rfl) (by kernel_rfl) hd
  unfold Pows Lib.TabIs
  rw [hvar, ← hcs]
end Go.Proofs.YtlihkmldclocoaaDoor
