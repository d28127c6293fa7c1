/- Parts3, Parts4, TWord, TName, TTerm, TArg, TIdx -/
import Derived.Test.YtdjffkkbjbiihaaGreatDoorC06
/- RuleParts, BeyondRules. -/
namespace Go.Proofs.YtdjffkkbjbiihaaGreatDoor
open Go.RowKit
set_option linter.unusedSimpArgs false
set_option linter.unusedVariables false

theorem lt_at {M : Nat} {w : World} {A : Option Addr} {n cap : Nat} {xs : List Lt} (h : SlRep 16 M RLt w (.slice A n cap) xs) {k : Nat} (hk : k < xs.length) :
    ∃ b off A' c Al l cl Ad d cd, A = some ⟨b, off, none⟩ ∧ (∀ j v, ((xs[k]).cs (.slice A' (xs[k]).a.length c) (.slice Al l cl) (.slice Ad d cd))[j]? = some v → w.cell? ⟨b, off + k * 16 + j, none⟩ = some v) ∧ (xs[k]).a.length ≤ c ∧ c ≤ 2932031007402 ∧
      LtC w xs[k] (.slice A' (xs[k]).a.length c) (.slice Al l cl) (.slice Ad d cd) := by
  obtain ⟨A1, cap1, hv, _, _, h3⟩ := h
  obtain ⟨b, off, cs, hA, hl, hc, hr⟩ := h3 k _ (List.getElem?_eq_getElem hk)
  injection hv with hv _ _
  obtain ⟨A', c, Al, l, cl, Ad, d, cd, rfl, g1, g2, g3⟩ := lt_cs hr
  exact ⟨b, off, A', c, Al, l, cl, Ad, d, cd, hv.trans hA, fun j v hj => by rw [Nat.add_assoc]; exact hc j v hj, g1, g2, g3⟩
theorem sum_take {α : Type} (f : α → Nat) {l : List α} {k : Nat} (hk : k < l.length) : ((l.take (k + 1)).map f).sum = ((l.take k).map f).sum + f l[k] := by
  rw [List.take_succ_eq_append_getElem hk, List.map_append, List.sum_append]; simp
set_option maxHeartbeats 2000000 in
set_option maxRecDepth 100000 in
theorem ruleParts_any (x : Ru) (hv bv : Value) (w : World) (h1 : SlRep 5 2513169434916 RAr w hv x.h) (h2 : SlRep 16 651562446089 RLt w bv x.b) :
    Calls Tryz.prog 20 #[.agg #[.string x.p, hv, bv], .int .i64 1048576] w fun e w' => ∃ r : Nat, e = .returned (.int .i64 r) ∧ (r ≤ 1048576 → r = x.parts ∧ x.flat) ∧ r ≤ 2600000000000 ∧ Fut w w' := by
  have hP : Hid (x.parts = 1 + x.h.length + (x.b.map Lt.parts).sum) := Lib.hid rfl
  have hFl : Hid (x.flat = ∀ y ∈ x.b, y.flat) := Lib.hid rfl
  obtain ⟨Ah, ch, rfl, hh1, hh2⟩ := h1.form
  have H2 := Lib.hid h2
  obtain ⟨Ab, cb, rfl, hb1, hb2⟩ := h2.form
  clear h1 h2
  go_enter Tryz.func20, Tryz.ntmps20
  have hw0 : IntKind.i64.wrap (1 + (x.h.length : Int)) = ((1 + x.h.length : Nat) : Int) := by rw [IntKind.wrap_i64]; omega
  go_wp2_with fail
  have hbx := heap_alloc_new w (.cells #[.string x.p, .slice Ah x.h.length ch, .slice Ab x.b.length cb] 80)
  have hF0 := Fut.alloc w (.cells #[.string x.p, .slice Ah x.h.length ch, .slice Ab x.b.length cb] 80)
  obtain ⟨w1, hw1⟩ : ∃ W, w.alloc (.cells #[.string x.p, .slice Ah x.h.length ch, .slice Ab x.b.length cb] 80) = W := ⟨_, rfl⟩
  rw [hw1] at hbx hF0 ⊢
  clear hw1
  have F0 := Lib.hid hF0
  have HB := Lib.hid (cell_at hbx 2 (.slice Ab x.b.length cb) rfl)
  clear hbx hF0
  obtain ⟨q0, hq0⟩ : ∃ q0, q0 = 1 + x.h.length := ⟨_, rfl⟩
  have hq0c : (1 + (x.h.length : Int)) = (q0 : Int) := by omega
  try rw [hq0c]
  clear hw0 hq0c
  replace hq0 := Lib.hid hq0
  have hq0b : q0 ≤ 2600000000000 := by have := hq0.out; omega
  go_loopw [5, 6] (fun nn i wr => ∃ q k : Nat, k ≤ x.b.length ∧ nn = .int .i64 q ∧ i = .int .i64 k ∧ q ≤ 2600000000000 ∧ Hid (q ≤ 1048576 → q = q0 + ((x.b.take k).map Lt.parts).sum ∧ ∀ y ∈ x.b.take k, y.flat) ∧ Hid (Fut w1 wr)) (fun _ i _ => x.b.length - (intOf i).toNat)
  case atStart => exact ⟨q0, 0, Nat.zero_le _, rfl, rfl, hq0b, Lib.hid (fun _ => ⟨by simp, fun y hy => by simp at hy⟩), Lib.hid (Fut.refl _)⟩
  case round =>
    obtain ⟨q, k, hk, rfl, rfl, hqb, hI, hF⟩ := hrel
    have c2 := hF.out.cell HB.out
    by_cases hlt : k < x.b.length
    · have hltI : (k : Int) < x.b.length := by omega
      have e0 : (0 : Int) ≤ k ∧ (k : Int) < x.b.length := by omega
      by_cases hq : q ≤ 1048576
      · have hqI : (q : Int) ≤ 1048576 := by omega
        obtain ⟨b, off, A', c, Al, l', cl, Ad, d', cd, rfl, hcs, g1, g2, g3⟩ := lt_at H2.out hlt
        have hst := sum_take Lt.parts hlt
        have hnx : x.b.take (k + 1) = x.b.take k ++ [x.b[k]] := List.take_succ_eq_append_getElem hlt
        have hIq := hI.out hq
        generalize x.b[k] = z at *
        have HC := Lib.hid (g3.fut (F0.out.trans hF.out))
        have hF9 := Lib.hid (F0.out.trans hF.out)
        have y0 : wr.cell? ⟨b, off + k * 16, none⟩ = some (.int .i8 z.k) := hF9.out.cell (hcs 0 _ rfl)
        have y1 := hF9.out.cell (hcs 1 _ rfl)
        have y2 := hF9.out.cell (hcs 2 _ rfl)
        have y3 := hF9.out.cell (hcs 3 _ rfl)
        have y4 := hF9.out.cell (hcs 4 _ rfl)
        have y5 := hF9.out.cell (hcs 5 _ rfl)
        have y6 := hF9.out.cell (hcs 6 _ rfl)
        have y7 := hF9.out.cell (hcs 7 _ rfl)
        have y8 := hF9.out.cell (hcs 8 _ rfl)
        have y9 := hF9.out.cell (hcs 9 _ rfl)
        have y10 := hF9.out.cell (hcs 10 _ rfl)
        have y11 := hF9.out.cell (hcs 11 _ rfl)
        have y12 := hF9.out.cell (hcs 12 _ rfl)
        have y13 := hF9.out.cell (hcs 13 _ rfl)
        have y14 := hF9.out.cell (hcs 14 _ rfl)
        have y15 := hF9.out.cell (hcs 15 _ rfl)
        clear hcs g3
        obtain ⟨zk, zp, za, zr, zl, zd⟩ := z
        have hsub : ((1048576 : Int) - q) = ((1048576 - q : Nat) : Int) := by omega
        have HW := Lib.hid (fun W (hW : Fut wr W) => literalParts_any ⟨zk, zp, za, zr, zl, zd⟩ A' c (.slice Al l' cl) (.slice Ad d' cd) (1048576 - q) W (HC.out.fut hW) g2 g1 (by omega))
        dsimp only [Lt.cs] at y0 y1 y2 y3 y4 y5 y6 y7 y8 y9 y10 y11 y12 y13 y14 y15
        replace hst := Lib.hid hst
        replace hnx := Lib.hid hnx
        replace hIq := Lib.hid hIq
        go_wp2_with fail
        try rw [hsub]
        refine (HW.out _ (Fut.refl _)).mono ?_
        rintro e w3 ⟨r, rfl, hr, f3⟩
        have hrl : r ≤ 1048576 - q + 1 := by rcases hr with h | h <;> omega
        have hwr : IntKind.i64.wrap ((q : Int) + r) = ((q + r : Nat) : Int) := by rw [IntKind.wrap_i64]; omega
        have hI2 : Hid (q + r ≤ 1048576 → q + r = q0 + ((x.b.take (k + 1)).map Lt.parts).sum ∧ ∀ y ∈ x.b.take (k + 1), y.flat) := Lib.hid fun h => by
          have h8 := hr.resolve_left (by omega)
          have h9 := hIq.out
          rw [hst.out, hnx.out]
          refine ⟨by omega, fun y hy => ?_⟩
          rcases List.mem_append.1 hy with hy | hy
          · exact h9.2 y hy
          · rw [List.mem_singleton] at hy; subst hy; exact h8.2.2
        have F3 := Lib.hid (hF.out.trans f3)
        clear f3 hr
        go_wp2
        go_roundw
        case rel => exact ⟨q + r, k + 1, by omega, by first | rfl | go_num, by go_num, by omega, hI2, F3⟩
        case measure => simp [intOf] <;> omega
      · have hqI : ¬ (q : Int) ≤ 1048576 := by omega
        go_wp2
        go_ret
        exact ⟨q, rfl, fun h => absurd h hq, hqb, F0.out.trans hF.out⟩
    · obtain rfl : k = x.b.length := by omega
      have hres : Hid (q ≤ 1048576 → q = x.parts ∧ x.flat) := Lib.hid fun h => by
        have := hI.out h
        rw [List.take_length] at this
        exact ⟨by rw [hP.out, ← hq0.out]; exact this.1, by rw [hFl.out]; exact this.2⟩
      go_wp2
      go_ret
      exact ⟨q, rfl, hres.out, hqb, F0.out.trans hF.out⟩
end Go.Proofs.YtdjffkkbjbiihaaGreatDoor
/- BeyondRules. -/
namespace Go.Proofs.YtdjffkkbjbiihaaGreatDoor
open Go.RowKit
set_option linter.unusedSimpArgs false
set_option linter.unusedVariables false

theorem ru_at {M : Nat} {w : World} {A : Option Addr} {n cap : Nat} {xs : List Ru} (h : SlRep 3 M RRu w (.slice A n cap) xs) {k : Nat} (hk : k < xs.length) :
    ∃ b off Ah ch Ab cb, A = some ⟨b, off, none⟩ ∧ w.cell? ⟨b, off + k * 3, none⟩ = some (.string (xs[k]).p) ∧ w.cell? ⟨b, off + k * 3 + 1, none⟩ = some (.slice Ah (xs[k]).h.length ch) ∧ w.cell? ⟨b, off + k * 3 + 2, none⟩ = some (.slice Ab (xs[k]).b.length cb) ∧
      (xs[k]).p.size ≤ 140737488351232 ∧ SlRep 5 2513169434916 RAr w (.slice Ah (xs[k]).h.length ch) (xs[k]).h ∧ SlRep 16 651562446089 RLt w (.slice Ab (xs[k]).b.length cb) (xs[k]).b := by
  obtain ⟨A1, cap1, hv, _, _, h3⟩ := h
  obtain ⟨b, off, cs, hA, hl, hc, hr⟩ := h3 k _ (List.getElem?_eq_getElem hk)
  injection hv with hv _ _
  obtain ⟨hv', bv, rfl, g1, g2, g3⟩ := hr
  obtain ⟨Ah, ch, rfl, _, _⟩ := g2.form
  obtain ⟨Ab, cb, rfl, _, _⟩ := g3.form
  exact ⟨b, off, Ah, ch, Ab, cb, hv.trans hA, hc 0 _ rfl, hc 1 _ rfl, hc 2 _ rfl, g1, g2, g3⟩
/-- Rules within the bound. -/
def Within (l : List Ru) : Prop := (l.map Ru.parts).sum ≤ 1048576 ∧ ∀ r ∈ l, r.flat
set_option maxHeartbeats 2000000 in
set_option maxRecDepth 100000 in
theorem beyondR_any {M : Nat} (a : Value) (l : List Ru) (w : World) (h : SlRep 3 M RRu w a l) (hM : M ≤ 9223372036854775807) :
    Calls Tryz.prog 5 #[a] w fun e w' => ∃ b, e = .returned (.bool b) ∧ (b = false → Within l) ∧ Fut w w' := by
  have H := Lib.hid h
  obtain ⟨A, c, rfl, hc1, hc2⟩ := h.form
  clear h
  go_enter Tryz.func5, Tryz.ntmps5
  go_wp2_with fail
  go_loopw [3, 4] (fun nn i wr => ∃ q k : Nat, k ≤ l.length ∧ nn = .int .i64 q ∧ i = .int .i64 k ∧ q ≤ 1048576 ∧ Hid (q = ((l.take k).map Ru.parts).sum ∧ ∀ r ∈ l.take k, r.flat) ∧ Hid (Fut w wr)) (fun _ i _ => l.length - (intOf i).toNat)
  case atStart => exact ⟨0, 0, Nat.zero_le _, rfl, rfl, Nat.zero_le _, Lib.hid ⟨by simp, fun r hr => by simp at hr⟩, Lib.hid (Fut.refl _)⟩
  case round =>
    obtain ⟨q, k, hk, rfl, rfl, hqb, hI, hF⟩ := hrel
    by_cases hlt : k < l.length
    · have hltI : (k : Int) < l.length := by omega
      have e0 : (0 : Int) ≤ k ∧ (k : Int) < l.length := by omega
      obtain ⟨b, off, Ah, ch, Ab, cb, rfl, y0, y1, y2, _, g1, g2⟩ := ru_at (H.out.fut RRu.stays hF.out) hlt
      have hst := Lib.hid (sum_take Ru.parts hlt)
      have hnx : Hid (l.take (k + 1) = l.take k ++ [l[k]]) := Lib.hid (List.take_succ_eq_append_getElem hlt)
      generalize l[k] = z at *
      have HW := Lib.hid (ruleParts_any z (.slice Ah z.h.length ch) (.slice Ab z.b.length cb) wr g1 g2)
      clear g1 g2
      go_wp2_with fail
      refine HW.out.mono ?_
      rintro e w3 ⟨r, rfl, hr, hrb, f3⟩
      have hwr : IntKind.i64.wrap ((q : Int) + r) = ((q + r : Nat) : Int) := by rw [IntKind.wrap_i64]; omega
      have F3 := Lib.hid (hF.out.trans f3)
      clear f3
      by_cases hov : q + r > 1048576
      · have hovI : ((q : Int) + r) > 1048576 := by omega
        clear hr
        go_wp2
        go_ret
        exact ⟨true, by first | rfl | simp, (fun h => absurd h (by decide)), F3.out⟩
      · have hovI : ¬ ((q : Int) + r) > 1048576 := by omega
        have hr' := hr (by omega)
        have hI2 : Hid (q + r = ((l.take (k + 1)).map Ru.parts).sum ∧ ∀ y ∈ l.take (k + 1), y.flat) := Lib.hid (by
          have h9 := hI.out
          rw [hst.out, hnx.out]
          refine ⟨by omega, fun y hy => ?_⟩
          rcases List.mem_append.1 hy with hy | hy
          · exact h9.2 y hy
          · rw [List.mem_singleton] at hy; subst hy; exact hr'.2)
        clear hr hr'
        go_wp2
        go_roundw
        case rel => exact ⟨q + r, k + 1, by omega, by first | rfl | go_num, by go_num, by omega, hI2, F3⟩
        case measure => simp [intOf] <;> omega
    · obtain rfl : k = l.length := by omega
      have hres : Within l := by
        have := hI.out
        rw [List.take_length] at this
        exact ⟨by omega, this.2⟩
      go_wp2
      go_ret
      exact ⟨false, rfl, fun _ => hres, hF.out⟩
end Go.Proofs.YtdjffkkbjbiihaaGreatDoor
/- term.word, term.name, term.none and what stands on them. -/
namespace Go.Proofs.YtdjffkkbjbiihaaGreatDoor
open Go.RowKit
set_option linter.unusedSimpArgs false
set_option linter.unusedVariables false

def wordT (lo hi : Nat) (s : ByteArray) : Bool := decide (0 < s.size) && decide (s.size ≤ 120) && (decide (lo ≤ (s.data.getD 0 0).toNat) && decide ((s.data.getD 0 0).toNat ≤ hi)) && s.data.toList.all (fun b => letterN b.toNat)
set_option maxHeartbeats 1600000 in
set_option maxRecDepth 100000 in
theorem wordT_any (s : ByteArray) (lo hi : Nat) (w : World) (hs : s.size ≤ 140737488351232) : Calls Tryz.prog 283 #[.string s, .int .u8 lo, .int .u8 hi] w fun e w' => e = .returned (.bool (wordT lo hi s)) ∧ Fut w w' := by
  have kc := fun w => run_bytes_of_string (P := Tryz.prog) w 9 405 5 s Tryz.underlying9 Tryz.underlying405 Tryz.underlying5
  have hlow : Hid (∀ (h : 0 < s.size), wordT lo hi s = true → lo ≤ s[0].toNat ∧ s[0].toNat ≤ hi ∧ s.size ≤ 120) := Lib.hid fun h hn => by
    simp [wordT] at hn
    rw [show s.data[0]?.getD 0 = s[0] from head_at s h] at hn
    omega
  have hmk : Hid (∀ (h : 0 < s.size), lo ≤ s[0].toNat → s[0].toNat ≤ hi → s.size ≤ 120 → s.data.toList.all (fun b => letterN b.toNat) = true → wordT lo hi s = true) := Lib.hid fun h h1 h2 h3 h4 => by
    unfold wordT
    rw [h4]
    simp [h, h3, head_at s h]
    first | exact ⟨h1, h2⟩ | exact fun _ => ⟨h1, h2⟩
  have hnil : Hid (s.size = 0 → wordT lo hi s = false) := Lib.hid fun h => by simp [wordT, h]
  have hall : Hid (∀ k (hk : k < s.size), letterN s[k].toNat = false → wordT lo hi s = false) := Lib.hid fun k hk h => by
    have : s.data.toList.all (fun b => letterN b.toNat) = false := by
      rw [List.all_eq_false]
      exact ⟨s[k], Array.mem_toList_iff.2 (Array.getElem_mem (xs := s.data) hk), by simp [h]⟩
    unfold wordT
    rw [this]; simp
  by_cases c0 : s.size = 0
  · have e0 : ((s.size : Int) == 0) = true := by simp [c0]
    have hr := Lib.hid (hnil.out c0)
    clear c0
    go_enter Tryz.func283, Tryz.ntmps283
    go_wp2
    go_ret
    exact ⟨by rw [hr.out]; rfl, Fut.refl _⟩
  · have hpos : 0 < s.size := by omega
    have e0 : ((s.size : Int) == 0) = false := by simp; intro e; subst e; simp at hpos
    clear c0
    by_cases c1 : (120 : Int) < s.size
    · have hr := Lib.hid (show wordT lo hi s = false by
        cases hn : wordT lo hi s with
        | false => rfl
        | true => have := hlow.out hpos hn; omega)
      go_enter Tryz.func283, Tryz.ntmps283
      go_wp2
      go_ret
      exact ⟨by rw [hr.out]; rfl, Fut.refl _⟩
    · by_cases c2 : ((s[0]).toNat : Int) < lo
      · have hr := Lib.hid (show wordT lo hi s = false by
          cases hn : wordT lo hi s with
          | false => rfl
          | true => have := hlow.out hpos hn; omega)
        have c2n : s[0].toNat < lo := by omega
        go_enter Tryz.func283, Tryz.ntmps283
        go_wp2
        go_ret
        exact ⟨by rw [hr.out]; rfl, Fut.refl _⟩
      · by_cases c3 : (hi : Int) < (s[0]).toNat
        · have hr := Lib.hid (show wordT lo hi s = false by
            cases hn : wordT lo hi s with
            | false => rfl
            | true => have := hlow.out hpos hn; omega)
          have c3n : hi < s[0].toNat := by omega
          have c3m : ¬ s[0].toNat < lo := by omega
          go_enter Tryz.func283, Tryz.ntmps283
          go_wp2
          go_ret
          exact ⟨by rw [hr.out]; rfl, Fut.refl _⟩
        · have hmk' := Lib.hid (hmk.out hpos (by omega) (by omega) (by omega))
          have b1n : ¬ s[0].toNat < lo := by omega
          have b2n : ¬ hi < s[0].toNat := by omega
          have b0 : decide ((120 : Int) < s.size) = false := by simpa using c1
          have b1 : decide (((s[0]).toNat : Int) < lo) = false := by simpa using c2
          have b2 : decide ((hi : Int) < (s[0]).toNat) = false := by simpa using c3
          clear hmk hlow hnil c1 c2 c3
          go_enter Tryz.func283, Tryz.ntmps283
          have hcell : Hid (∀ cap fr k (hk : k < s.size), (w.alloc (.cells (bytesRow s cap) 5 fr)).cell? ⟨w.heap.size, k, none⟩ = some (.int .u8 (s[k]).toNat)) :=
            Lib.hid fun cap fr k hk => (World.cell?_alloc_mark _ _ _ _ _).trans (bytesRow_at s cap k hk)
          have hF := Lib.hid (fun o => (Fut.alloc w o).trans (Fut.drew _))
          go_wp2
          go_loop [32] (fun i => ∃ k : Nat, k ≤ s.size ∧ i = .int .i64 k ∧ Hid (∀ j (hj : j < s.size), j < k → letterN (s[j]).toNat = true)) (fun i => s.size - (intOf i).toNat)
          case atStart => exact ⟨0, Nat.zero_le _, rfl, Lib.hid (fun j _ h => absurd h (by omega))⟩
          case round =>
            obtain ⟨k, hk, rfl, hg⟩ := hrel
            by_cases hlt : k < s.size
            · have x0 := fun cap fr => hcell.out cap fr k hlt
              have hb : Hid ((s[k]).toNat < 256) := Lib.hid (UInt8.toNat_lt _)
              have hs1 := Lib.hid (fun h : letterN (s[k]).toNat = true => (fun j hj hjk => by
                rcases Nat.lt_or_ge j k with h' | h'
                · exact hg.out j hj h'
                · obtain rfl : j = k := by omega
                  exact h : ∀ j (hj : j < s.size), j < k + 1 → letterN (s[j]).toNat = true))
              have hs2 := Lib.hid (hall.out k hlt)
              generalize s[k].toNat = c at *
              go_wp2
              all_goals first
                | (go_ret; exact ⟨by rw [hs2.out (by (try simp only [bne_iff_ne, ne_eq, bne_eq_false_iff_eq] at *); simp [letterN]; omega)]; rfl, hF.out _⟩)
                | exact ⟨⟨k + 1, by omega, by go_num, Lib.hid (hs1.out (by (try simp only [bne_iff_ne, ne_eq, bne_eq_false_iff_eq] at *); simp [letterN]; omega))⟩, by simp [intOf]; omega⟩
            · obtain rfl : k = s.size := by omega
              have hr := Lib.hid (hmk'.out (by
                rw [List.all_eq_true]
                intro b hb
                obtain ⟨j, hj⟩ := List.getElem?_of_mem hb
                have hjl := (List.getElem?_eq_some_iff.1 hj).1
                have := hg.out j (by simpa using hjl) (by simpa using hjl)
                have e : b = s[j]'(by simpa using hjl) := by
                  have := (List.getElem?_eq_some_iff.1 hj).2
                  rw [← this]; rfl
                rw [e]; exact this))
              go_wp2
              all_goals go_ret
              all_goals exact ⟨by rw [hr.out]; first | rfl | simp, hF.out _⟩
end Go.Proofs.YtdjffkkbjbiihaaGreatDoor
/- term.name, none, code, CheckTerm, solid, empty, argument. -/
namespace Go.Proofs.YtdjffkkbjbiihaaGreatDoor
open Go.RowKit
set_option linter.unusedSimpArgs false
set_option linter.unusedVariables false

def nameT (s : ByteArray) : Bool := !keyB s.toList && wordT 97 122 s
set_option maxHeartbeats 1600000 in
set_option maxRecDepth 100000 in
theorem nameT_any (s : ByteArray) (w : World) (hs : s.size ≤ 140737488351232) : Calls Tryz.prog 255 #[.string s] w fun e w' => e = .returned (.bool (nameT s)) ∧ Fut w w' := by
  have HW := Lib.hid (wordT_any s 97 122 w hs)
  obtain ⟨b, hb⟩ : ∃ b, nameT s = b := ⟨_, rfl⟩
  rw [hb]
  replace hb := Lib.hid hb
  go_enter Tryz.func255, Tryz.ntmps255
  go_wp2_with fail
  all_goals first
    | (go_ret; refine ⟨?_, Fut.refl _⟩; rw [← hb.out]; unfold nameT keyB; simp_all; done)
    | (refine HW.out.mono ?_; rintro e w1 ⟨rfl, f1⟩; obtain ⟨c, hc⟩ : ∃ c, wordT 97 122 s = c := ⟨_, rfl⟩; rw [hc]; have hbc : c = b := (by rw [← hb.out, ← hc]; unfold nameT keyB; simp_all); subst hbc; clear hb hc; go_wp2; go_ret; exact ⟨rfl, f1⟩)
def Tm.zero (t : Tm) : Bool := decide (t.v.toList = []) && decide (t.x.k = 0) && decide (t.x.n = 0) && decide (t.x.s.toList = [])
set_option maxHeartbeats 400000 in
theorem codeT_any (b : Bool) (w : World) : Calls Tryz.prog 258 #[.bool b] w fun e w' => e = .returned (.int .i64 (if b then 0 else 40)) ∧ w' = w := by
  cases b
  · go_enter Tryz.func258, Tryz.ntmps258
    go_wp2
    go_ret
    exact ⟨rfl, rfl⟩
  · go_enter Tryz.func258, Tryz.ntmps258
    go_wp2
    go_ret
    exact ⟨rfl, rfl⟩
end Go.Proofs.YtdjffkkbjbiihaaGreatDoor
/- term.none, CheckTerm, solid, empty, argument. -/
namespace Go.Proofs.YtdjffkkbjbiihaaGreatDoor
open Go.RowKit
set_option linter.unusedSimpArgs false
set_option linter.unusedVariables false

set_option maxHeartbeats 800000 in
theorem noneT_any (t : Tm) (w : World) : Calls Tryz.prog 285 #[.agg #[.string t.v, .int .i8 t.x.k, .int .i64 t.x.n, .string t.x.s]] w fun e w' => e = .returned (.bool t.zero) ∧ Fut w w' := by
  obtain ⟨b, hb⟩ : ∃ b, t.zero = b := ⟨_, rfl⟩
  rw [hb]
  replace hb := Lib.hid hb
  obtain ⟨v, k, n, s⟩ := t
  go_enter Tryz.func285, Tryz.ntmps285
  go_wp2
  all_goals (go_ret; refine ⟨?_, Fut.alloc _ _⟩; have h9 := hb.out; simp_all [Tm.zero])
theorem chk_or (k n : Int) (s : ByteArray) : chk k n s = 0 ∨ chk k n s = 10 := by
  unfold chk
  split
  · exact .inl rfl
  · split
    · exact .inl rfl
    · exact .inr rfl
def Tm.good (t : Tm) : Bool := if t.v.toList = [] then decide (chk t.x.k t.x.n t.x.s = 0) else (decide (t.x.k = 0) && decide (t.x.n = 0) && decide (t.x.s.toList = [])) && (decide (t.v.toList = [95]) || wordT 65 90 t.v)
set_option maxHeartbeats 1600000 in
set_option maxRecDepth 100000 in
theorem checkT_any (t : Tm) (w : World) (ht : t.ok) : Calls Tryz.prog 307 #[.agg #[.string t.v, .int .i8 t.x.k, .int .i64 t.x.n, .string t.x.s]] w fun e w' => e = .returned (.int .i64 (if t.good = true then 0 else 40)) ∧ Fut w w' := by
  have HW := Lib.hid (fun W => wordT_any t.v 65 90 W ht.1)
  have HC := Lib.hid (fun W => check_any t.x.k t.x.n t.x.s W ht.2.2.2)
  have hchk := Lib.hid (chk_or t.x.k t.x.n t.x.s)
  obtain ⟨b, hb⟩ : ∃ b, t.good = b := ⟨_, rfl⟩
  rw [hb]
  replace hb := Lib.hid hb
  obtain ⟨v, k, n, s⟩ := t
  clear ht
  by_cases hv : v.toList = []
  · by_cases hc : chk k n s = 0
    · obtain rfl : b = true := by rw [← hb.out]; simp [Tm.good, hv, hc]
      go_enter Tryz.func307, Tryz.ntmps307
      go_wp2_with fail
      refine (HC.out _).mono ?_
      rintro e w1 ⟨rfl, f1⟩
      dsimp only
      rw [hc]
      go_wp2_with fail
      refine (codeT_any _ _).mono ?_
      rintro e w2 ⟨rfl, rfl⟩
      go_wp2
      go_ret
      exact ⟨rfl, (Fut.alloc _ _).trans f1⟩
    · have hc10 : chk k n s = 10 := hchk.out.resolve_left hc
      obtain rfl : b = false := by rw [← hb.out]; simp [Tm.good, hv, hc]
      go_enter Tryz.func307, Tryz.ntmps307
      go_wp2_with fail
      refine (HC.out _).mono ?_
      rintro e w1 ⟨rfl, f1⟩
      dsimp only
      rw [hc10]
      go_wp2_with fail
      refine (codeT_any _ _).mono ?_
      rintro e w2 ⟨rfl, rfl⟩
      go_wp2
      go_ret
      exact ⟨rfl, (Fut.alloc _ _).trans f1⟩
  · have hvb : (v.toList == []) = false := by rw [beq_eq_false_iff_ne]; exact hv
    by_cases hx : k = 0 ∧ n = 0 ∧ s.toList = []
    · obtain ⟨rfl, rfl, hs0⟩ := hx
      by_cases hu : v.toList = [95]
      · obtain rfl : b = true := by rw [← hb.out]; simp [Tm.good, hs0, hu]
        go_enter Tryz.func307, Tryz.ntmps307
        go_wp2_with fail
        refine (codeT_any _ _).mono ?_
        rintro e w2 ⟨rfl, rfl⟩
        go_wp2
        go_ret
        exact ⟨rfl, Fut.alloc _ _⟩
      · have hub : (v.toList == [95]) = false := by rw [beq_eq_false_iff_ne]; exact hu
        have hbw : wordT 65 90 v = b := by rw [← hb.out]; simp [Tm.good, hs0, hu, hv]
        dsimp only at HW
        rw [hbw] at HW
        clear hb hbw
        cases b
        · go_enter Tryz.func307, Tryz.ntmps307
          go_wp2_with fail
          refine (HW.out _).mono ?_
          rintro e w1 ⟨rfl, f1⟩
          go_wp2_with fail
          refine (codeT_any _ _).mono ?_
          rintro e w2 ⟨rfl, rfl⟩
          go_wp2
          go_ret
          exact ⟨rfl, (Fut.alloc _ _).trans f1⟩
        · go_enter Tryz.func307, Tryz.ntmps307
          go_wp2_with fail
          refine (HW.out _).mono ?_
          rintro e w1 ⟨rfl, f1⟩
          go_wp2_with fail
          refine (codeT_any _ _).mono ?_
          rintro e w2 ⟨rfl, rfl⟩
          go_wp2
          go_ret
          exact ⟨rfl, (Fut.alloc _ _).trans f1⟩
    · have hxb : (decide (k = 0) && decide (n = 0) && decide (s.toList = [])) = false := by
        rw [Bool.eq_false_iff]
        intro h
        simp at h
        exact hx ⟨h.1.1, h.1.2, h.2⟩
      obtain rfl : b = false := by rw [← hb.out]; unfold Tm.good; rw [if_neg hv]; dsimp only; rw [hxb]; rfl
      go_enter Tryz.func307, Tryz.ntmps307
      go_wp2_with fail
      all_goals first
        | (exfalso; apply hx; refine ⟨?_, ?_, ?_⟩ <;> first | rfl | assumption)
        | (refine (codeT_any _ _).mono ?_; rintro e w2 ⟨rfl, rfl⟩; go_wp2; go_ret; exact ⟨rfl, Fut.alloc _ _⟩)
def Tm.solid (t : Tm) : Bool := !decide (t.v.toList = [95]) && t.good
set_option maxHeartbeats 1600000 in
set_option maxRecDepth 100000 in
theorem solidT_any (t : Tm) (w : World) (ht : t.ok) : Calls Tryz.prog 284 #[.agg #[.string t.v, .int .i8 t.x.k, .int .i64 t.x.n, .string t.x.s]] w fun e w' => e = .returned (.bool t.solid) ∧ Fut w w' := by
  have HC := Lib.hid (fun W => checkT_any t W ht)
  obtain ⟨b, hb⟩ : ∃ b, t.solid = b := ⟨_, rfl⟩
  rw [hb]
  obtain ⟨g, hg⟩ : ∃ g, t.good = g := ⟨_, rfl⟩
  rw [hg] at HC
  unfold Tm.solid at hb
  rw [hg] at hb
  obtain ⟨v, k, n, s⟩ := t
  dsimp only at hb HC
  clear hg ht
  by_cases hu : v.toList = [95]
  · obtain rfl : b = false := by rw [← hb]; simp [hu]
    clear hb
    go_enter Tryz.func284, Tryz.ntmps284
    go_wp2
    go_ret
    exact ⟨by first | rfl | simp, Fut.alloc _ _⟩
  · have hub : (v.toList == [95]) = false := by rw [beq_eq_false_iff_ne]; exact hu
    obtain rfl : b = g := by rw [← hb]; simp [hu]
    clear hb
    cases b
    · go_enter Tryz.func284, Tryz.ntmps284
      go_wp2_with fail
      refine (HC.out _).mono ?_
      rintro e w1 ⟨rfl, f1⟩
      go_wp2
      go_ret
      exact ⟨by first | rfl | simp, (Fut.alloc _ _).trans f1⟩
    · go_enter Tryz.func284, Tryz.ntmps284
      go_wp2_with fail
      refine (HC.out _).mono ?_
      rintro e w1 ⟨rfl, f1⟩
      go_wp2
      go_ret
      exact ⟨by first | rfl | simp, (Fut.alloc _ _).trans f1⟩
end Go.Proofs.YtdjffkkbjbiihaaGreatDoor
/- term.empty, argument. -/
namespace Go.Proofs.YtdjffkkbjbiihaaGreatDoor
open Go.RowKit
set_option linter.unusedSimpArgs false
set_option linter.unusedVariables false

def Ex.empty (x : Ex) : Bool := decide (x.op = 0) && x.t.zero && decide (x.kids.length = 0)
set_option maxHeartbeats 1600000 in
set_option maxRecDepth 100000 in
theorem emptyT_any (x : Ex) (A : Option Addr) (c : Nat) (w : World) : Calls Tryz.prog 286 #[.agg (x.cs (.slice A x.kids.length c)).toArray] w fun e w' => e = .returned (.bool x.empty) ∧ Fut w w' := by
  have HN := Lib.hid (fun W => noneT_any x.t W)
  obtain ⟨b, hb⟩ : ∃ b, x.empty = b := ⟨_, rfl⟩
  rw [hb]
  unfold Ex.empty at hb
  unfold Ex.cs
  generalize x.t.zero = z at *
  generalize x.kids.length = n at *
  generalize x.op = o at *
  generalize x.t = t at *
  replace hb := Lib.hid hb
  by_cases ho : o = 0
  · subst ho
    cases z
    · obtain rfl : b = false := by rw [← hb.out]; simp
      go_enter Tryz.func286, Tryz.ntmps286
      go_wp2_with fail
      refine (HN.out _).mono ?_
      rintro e w1 ⟨rfl, f1⟩
      go_wp2
      go_ret
      exact ⟨by first | rfl | simp, (Fut.alloc _ _).trans f1⟩
    · by_cases hn : n = 0
      · subst hn
        obtain rfl : b = true := by rw [← hb.out]; simp
        go_enter Tryz.func286, Tryz.ntmps286
        go_wp2_with fail
        have hbx := heap_alloc_new w (.cells #[.int .i8 0, .string t.v, .int .i8 t.x.k, .int .i64 t.x.n, .string t.x.s, .slice A 0 c] 117)
        refine (HN.out _).mono ?_
        rintro e w1 ⟨rfl, f1⟩
        have y5 := cell_at (f1.block hbx) 5 (.slice A 0 c) rfl
        go_wp2
        go_ret
        exact ⟨by first | rfl | simp, (Fut.alloc _ _).trans f1⟩
      · obtain rfl : b = false := by rw [← hb.out]; simp [hn]
        have hnI : ((n : Int) == 0) = false := by rw [beq_eq_false_iff_ne]; omega
        have hnJ : ¬ (n : Int) = 0 := by omega
        go_enter Tryz.func286, Tryz.ntmps286
        go_wp2_with fail
        have hbx := heap_alloc_new w (.cells #[.int .i8 0, .string t.v, .int .i8 t.x.k, .int .i64 t.x.n, .string t.x.s, .slice A n c] 117)
        refine (HN.out _).mono ?_
        rintro e w1 ⟨rfl, f1⟩
        have y5 := cell_at (f1.block hbx) 5 (.slice A n c) rfl
        go_wp2
        go_ret
        exact ⟨by first | rfl | simp, (Fut.alloc _ _).trans f1⟩
  · obtain rfl : b = false := by rw [← hb.out]; simp [ho]
    have hoI : (o == 0) = false := by rw [beq_eq_false_iff_ne]; exact ho
    go_enter Tryz.func286, Tryz.ntmps286
    go_wp2
    go_ret
    exact ⟨by first | rfl | simp, Fut.alloc _ _⟩
def Ar.good (a : Ar) : Bool := if a.g = 0 then a.t.solid else if a.g = 1 then a.t.zero else if a.g = 2 ∨ a.g = 3 ∨ a.g = 4 then !decide (a.t.v.toList = []) && a.t.solid else false
set_option maxHeartbeats 1600000 in
set_option maxRecDepth 100000 in
theorem argT_any (a : Ar) (w : World) (ht : a.t.ok) : Calls Tryz.prog 256 #[.agg #[.int .i8 a.g, .string a.t.v, .int .i8 a.t.x.k, .int .i64 a.t.x.n, .string a.t.x.s]] w fun e w' => e = .returned (.bool a.good) ∧ Fut w w' := by
  have HN := Lib.hid (fun W => noneT_any a.t W)
  have HS := Lib.hid (fun W => solidT_any a.t W ht)
  obtain ⟨b, hb⟩ : ∃ b, a.good = b := ⟨_, rfl⟩
  rw [hb]
  unfold Ar.good at hb
  generalize a.t.zero = z at *
  generalize a.t.solid = s at *
  replace hb := Lib.hid hb
  obtain ⟨g, t⟩ := a
  dsimp only at hb HN HS ⊢
  clear ht
  by_cases h0 : g = 0
  · subst h0
    obtain rfl : b = s := by rw [← hb.out]; simp
    go_enter Tryz.func256, Tryz.ntmps256
    go_wp2_with fail
    refine (HS.out _).mono ?_
    rintro e w1 ⟨rfl, f1⟩
    go_wp2
    go_ret
    exact ⟨by first | rfl | simp, (Fut.alloc _ _).trans f1⟩
  by_cases h1 : g = 1
  · subst h1
    obtain rfl : b = z := by rw [← hb.out]; simp
    go_enter Tryz.func256, Tryz.ntmps256
    go_wp2_with fail
    refine (HN.out _).mono ?_
    rintro e w1 ⟨rfl, f1⟩
    go_wp2
    go_ret
    exact ⟨by first | rfl | simp, (Fut.alloc _ _).trans f1⟩
  by_cases hg : g = 2 ∨ g = 3 ∨ g = 4
  · by_cases hv : t.v.toList = []
    · obtain rfl : b = false := by rw [← hb.out]; rcases hg with rfl | rfl | rfl <;> simp [hv]
      rcases hg with rfl | rfl | rfl
      all_goals
        go_enter Tryz.func256, Tryz.ntmps256
        go_wp2
        go_ret
        exact ⟨by first | rfl | simp, Fut.alloc _ _⟩
    · have hvb : (t.v.toList == []) = false := by rw [beq_eq_false_iff_ne]; exact hv
      obtain rfl : b = s := by rw [← hb.out]; rcases hg with rfl | rfl | rfl <;> simp [hv]
      clear hb
      rcases hg with rfl | rfl | rfl <;> cases b
      all_goals
        go_enter Tryz.func256, Tryz.ntmps256
        go_wp2_with fail
        refine (HS.out _).mono ?_
        rintro e w1 ⟨rfl, f1⟩
        go_wp2
        go_ret
        exact ⟨by first | rfl | simp, (Fut.alloc _ _).trans f1⟩
  · obtain rfl : b = false := by rw [← hb.out, if_neg h0, if_neg h1, if_neg hg]
    have g2 : ¬ g = 2 := fun h => hg (.inl h)
    have g3 : ¬ g = 3 := fun h => hg (.inr (.inl h))
    have g4 : ¬ g = 4 := fun h => hg (.inr (.inr h))
    go_enter Tryz.func256, Tryz.ntmps256
    go_wp2
    go_ret
    exact ⟨by first | rfl | simp, Fut.alloc _ _⟩
end Go.Proofs.YtdjffkkbjbiihaaGreatDoor
/- term.deep, CheckExpr. -/
namespace Go.Proofs.YtdjffkkbjbiihaaGreatDoor
open Go.RowKit
set_option linter.unusedSimpArgs false
set_option linter.unusedVariables false

def arityE (op : Int) : Int := if op = 1 ∨ op = 8 ∨ op = 9 ∨ op = 10 then 1 else if op = 2 ∨ op = 3 ∨ op = 4 ∨ op = 5 ∨ op = 6 ∨ op = 7 then 2 else -1
set_option maxHeartbeats 1600000 in
theorem arityT_any (op : Int) (w : World) : Calls Tryz.prog 323 #[.int .i8 op] w fun e w' => e = .returned (.int .i64 (arityE op)) ∧ w' = w := by
  obtain ⟨r, hr⟩ : ∃ r, arityE op = r := ⟨_, rfl⟩
  rw [hr]
  replace hr := Lib.hid hr
  go_enter Tryz.func323, Tryz.ntmps323
  go_wp2
  all_goals (go_ret; refine ⟨?_, rfl⟩; have h9 := hr.out; unfold arityE at h9; simp_all)
def deepE : Nat → Ex → Bool
  | 0, _ => false
  | n + 1, x => if x.op = 0 then decide (x.kids.length = 0) && x.t.solid else x.t.zero && decide ((x.kids.length : Int) = arityE x.op) && x.kids.all (deepE n)
/-- What term.deep does one storey down. -/
def DeepOk (n : Nat) : Prop := ∀ (x : Ex) (A : Option Addr) (c m : Nat) (W : World), RE m W (x.cs (.slice A x.kids.length c)) x → Calls Tryz.prog 310 #[.agg (x.cs (.slice A x.kids.length c)).toArray, .int .i64 n] W fun e w' => e = .returned (.bool (deepE n x)) ∧ Fut W w'
set_option maxHeartbeats 1600000 in
theorem deep1_any {n : Nat} (IH : DeepOk n) (hn : n < 1000) (x : Ex) (A : Option Addr) (c m : Nat) (p : Nat) (w : World) (h : RE m w (x.cs (.slice A x.kids.length c)) x) (hp : w.cell? ⟨p, 0, none⟩ = some (.int .i64 ((n + 1 : Nat) : Int))) :
    Calls Tryz.prog 325 #[.agg (x.cs (.slice A x.kids.length c)).toArray, .pointer (some ⟨p, 0, none⟩)] w fun e w' => e = .returned (.bool (!deepE n x)) ∧ Fut w w' := by
  have HI := Lib.hid (fun W (hW : Fut w W) => IH x A c m W (RE.stays m _ _ _ _ hW h))
  obtain ⟨b, hb⟩ : ∃ b, deepE n x = b := ⟨_, rfl⟩
  rw [hb] at HI ⊢
  clear IH h hb
  unfold Ex.cs at HI ⊢
  generalize x.kids.length = l at *
  generalize x.op = o at *
  generalize x.t = t at *
  have hsub : (((n + 1 : Nat) : Int) - 1) = (n : Int) := by omega
  have hwr : IntKind.i64.wrap (n : Int) = n := by rw [IntKind.wrap_i64]; omega
  cases b
  · go_enter Tryz.func325, Tryz.ntmps325
    have hp1 := fun o => (Fut.alloc w o).cell hp
    go_wp2_with fail
    refine (HI.out _ (Fut.alloc _ _)).mono ?_
    rintro e w1 ⟨rfl, f1⟩
    go_wp2
    go_ret
    exact ⟨by first | rfl | simp, (Fut.alloc _ _).trans f1⟩
  · go_enter Tryz.func325, Tryz.ntmps325
    have hp1 := fun o => (Fut.alloc w o).cell hp
    go_wp2_with fail
    refine (HI.out _ (Fut.alloc _ _)).mono ?_
    rintro e w1 ⟨rfl, f1⟩
    go_wp2
    go_ret
    exact ⟨by first | rfl | simp, (Fut.alloc _ _).trans f1⟩
set_option maxHeartbeats 1600000 in
set_option maxRecDepth 100000 in
theorem idxE_any {n m M : Nat} (IH : DeepOk n) (hn : n < 1000) (A : Option Addr) (c : Nat) (xs : List Ex) (p : Nat) (w : World) (h : SlRep 6 M (RX0 m w) w (.slice A xs.length c) xs) (hM : M ≤ 9223372036854775807) (hp : w.cell? ⟨p, 0, none⟩ = some (.int .i64 ((n + 1 : Nat) : Int))) :
    Calls Tryz.prog 328 #[.slice A xs.length c, .func (.func 325) #[] #[.pointer (some ⟨p, 0, none⟩)]] w fun e w' => ∃ r : Int, e = .returned (.int .i64 r) ∧ decide (0 ≤ r) = !xs.all (deepE n) ∧ Fut w w' := by
  have H := Lib.hid h
  obtain ⟨_, _, hv, hl1, hl2⟩ := h.form
  have hxl : xs.length ≤ 9223372036854775807 := by omega
  clear h hv hl1 hl2
  go_enter Tryz.func328, Tryz.ntmps328
  go_wp2_with fail
  go_loopw [8] (fun i wr => ∃ k : Nat, k ≤ xs.length ∧ i = .int .i64 k ∧ Hid (∀ x ∈ xs.take k, deepE n x = true) ∧ Hid (Fut w wr)) (fun i _ => xs.length - (intOf i).toNat)
  case atStart => exact ⟨0, Nat.zero_le _, rfl, Lib.hid (fun x hx => by simp at hx), Lib.hid (Fut.refl _)⟩
  case round =>
    obtain ⟨k, hk, rfl, hI, hF⟩ := hrel
    by_cases hlt : k < xs.length
    · have hltI : (k : Int) < xs.length := by omega
      have e0 : (0 : Int) ≤ k ∧ (k : Int) < xs.length := by omega
      obtain ⟨b, off, m', op, t, ks, A', c', rfl, hm', hxk, y0, y1, y2, y3, y4, y5, hc1, hc2, hks, hre⟩ := ex_at (H.out.fut RX0.stays hF.out) hlt
      have hnx : Hid (xs.take (k + 1) = xs.take k ++ [xs[k]]) := Lib.hid (List.take_succ_eq_append_getElem hlt)
      have hmem : xs[k] ∈ xs := List.getElem_mem hlt
      have HD := Lib.hid (fun W (hW : Fut w W) => deep1_any IH hn (Ex.mk op t ks) A' c' m p W (RE.stays m _ _ _ _ hW (by have h9 := hre; rw [hxk] at h9; exact h9)) (hW.cell hp))
      rw [hxk] at hnx hmem
      clear hm' hxk hre hks
      obtain ⟨d, hd⟩ : ∃ d, deepE n (Ex.mk op t ks) = d := ⟨_, rfl⟩
      have hd' := Lib.hid hd
      simp only [hd] at HD
      clear hd
      cases d
      · go_wp2_with fail
        refine (HD.out _ hF.out).mono ?_
        rintro e w3 ⟨rfl, f3⟩
        go_wp2
        go_ret
        exact ⟨k, rfl, by
          have h9 : xs.all (deepE n) = false := by
            rw [List.all_eq_false]
            exact ⟨_, hmem, by rw [hd'.out]; decide⟩
          rw [h9]; simp, hF.out.trans f3⟩
      · go_wp2_with fail
        refine (HD.out _ hF.out).mono ?_
        rintro e w3 ⟨rfl, f3⟩
        have F3 := Lib.hid (hF.out.trans f3)
        have hI2 : Hid (∀ x ∈ xs.take (k + 1), deepE n x = true) := Lib.hid fun x hx => by
          rw [hnx.out, List.mem_append] at hx
          rcases hx with hx | hx
          · exact hI.out x hx
          · rw [List.mem_singleton] at hx; subst hx; exact hd'.out
        clear f3
        go_wp2
        go_roundw
        case rel => exact ⟨k + 1, by omega, by go_num, hI2, F3⟩
        case measure => simp [intOf] <;> omega
    · obtain rfl : k = xs.length := by omega
      rw [List.take_length] at hI
      go_wp2
      go_ret
      exact ⟨-1, rfl, by
        have h9 : xs.all (deepE n) = true := List.all_eq_true.2 hI.out
        rw [h9]; decide, hF.out⟩
end Go.Proofs.YtdjffkkbjbiihaaGreatDoor
