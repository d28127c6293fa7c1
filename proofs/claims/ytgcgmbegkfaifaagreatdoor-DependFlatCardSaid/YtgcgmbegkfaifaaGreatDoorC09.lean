/- TWord, TName, TTerm, TArg, TIdx, TDeep -/
import Derived.Test.YtgcgmbegkfaifaaGreatDoorC08
/- term.word, term.name, term.none and what stands on them. -/
namespace Go.Proofs.YtgcgmbegkfaifaaGreatDoor
open Go.RowKit
set_option linter.unusedSimpArgs false
set_option linter.unusedVariables false

def wordT (lo hi : Nat) (s : ByteArray) : Bool := decide (0 < s.size) && decide (s.size ≤ 120) && (decide (lo ≤ (s.data.getD 0 0).toNat) && decide ((s.data.getD 0 0).toNat ≤ hi)) && s.data.toList.all (fun b => letterN b.toNat)
set_option maxHeartbeats 1600000 in
set_option maxRecDepth 100000 in
theorem wordT_any (s : ByteArray) (lo hi : Nat) (w : World) (hs : s.size ≤ 140737488351232) : Calls Tryz.prog 106 #[.string s, .int .u8 lo, .int .u8 hi] w fun e w' => e = .returned (.bool (wordT lo hi s)) ∧ Fut w w' := by
  have kc := fun w => run_bytes_of_string (P := Tryz.prog) w 9 186 5 s Tryz.underlying9 Tryz.underlying186 Tryz.underlying5
  have hlow : Hid (∀ (h : 0 < s.size), wordT lo hi s = true → lo ≤ s[0].toNat ∧ s[0].toNat ≤ hi ∧ s.size ≤ 120) := Lib.hid fun h hn => by
    simp [wordT] at hn
    rw [show s.data[0]?.getD 0 = s[0] from head_at s h] at hn
    omega
  have hmk : Hid (∀ (h : 0 < s.size), lo ≤ s[0].toNat → s[0].toNat ≤ hi → s.size ≤ 120 → s.data.toList.all (fun b => letterN b.toNat) = true → wordT lo hi s = true) := Lib.hid fun h h1 h2 h3 h4 => by
    unfold wordT
    rw [h4]
    simp [h, h3, head_at s h]
    first | exact ⟨h1, h2⟩ | exact fun _ => ⟨h1, h2⟩
  have hnil : Hid (s.size = 0 → wordT lo hi s = false) := Lib.hid fun h => by simp [wordT, h]
  have hall : Hid (∀ k (hk : k < s.size), letterN s[k].toNat = false → wordT lo hi s = false) := Lib.hid fun k hk h => by
    have : s.data.toList.all (fun b => letterN b.toNat) = false := by
      rw [List.all_eq_false]
      exact ⟨s[k], Array.mem_toList_iff.2 (Array.getElem_mem (xs := s.data) hk), by simp [h]⟩
    unfold wordT
    rw [this]; simp
  by_cases c0 : s.size = 0
  · have e0 : ((s.size : Int) == 0) = true := by simp [c0]
    have hr := Lib.hid (hnil.out c0)
    clear c0
    go_enter Tryz.func106, Tryz.ntmps106
    go_wp2
    go_ret
    exact ⟨by rw [hr.out]; rfl, Fut.refl _⟩
  · have hpos : 0 < s.size := by omega
    have e0 : ((s.size : Int) == 0) = false := by simp; intro e; subst e; simp at hpos
    clear c0
    by_cases c1 : (120 : Int) < s.size
    · have hr := Lib.hid (show wordT lo hi s = false by
        cases hn : wordT lo hi s with
        | false => rfl
        | true => have := hlow.out hpos hn; omega)
      go_enter Tryz.func106, Tryz.ntmps106
      go_wp2
      go_ret
      exact ⟨by rw [hr.out]; rfl, Fut.refl _⟩
    · by_cases c2 : ((s[0]).toNat : Int) < lo
      · have hr := Lib.hid (show wordT lo hi s = false by
          cases hn : wordT lo hi s with
          | false => rfl
          | true => have := hlow.out hpos hn; omega)
        have c2n : s[0].toNat < lo := by omega
        go_enter Tryz.func106, Tryz.ntmps106
        go_wp2
        go_ret
        exact ⟨by rw [hr.out]; rfl, Fut.refl _⟩
      · by_cases c3 : (hi : Int) < (s[0]).toNat
        · have hr := Lib.hid (show wordT lo hi s = false by
            cases hn : wordT lo hi s with
            | false => rfl
            | true => have := hlow.out hpos hn; omega)
          have c3n : hi < s[0].toNat := by omega
          have c3m : ¬ s[0].toNat < lo := by omega
          go_enter Tryz.func106, Tryz.ntmps106
          go_wp2
          go_ret
          exact ⟨by rw [hr.out]; rfl, Fut.refl _⟩
        · have hmk' := Lib.hid (hmk.out hpos (by omega) (by omega) (by omega))
          have b1n : ¬ s[0].toNat < lo := by omega
          have b2n : ¬ hi < s[0].toNat := by omega
          have b0 : decide ((120 : Int) < s.size) = false := by simpa using c1
          have b1 : decide (((s[0]).toNat : Int) < lo) = false := by simpa using c2
          have b2 : decide ((hi : Int) < (s[0]).toNat) = false := by simpa using c3
          clear hmk hlow hnil c1 c2 c3
          go_enter Tryz.func106, Tryz.ntmps106
          have hcell : Hid (∀ cap fr k (hk : k < s.size), (w.alloc (.cells (bytesRow s cap) 5 fr)).cell? ⟨w.heap.size, k, none⟩ = some (.int .u8 (s[k]).toNat)) :=
            Lib.hid fun cap fr k hk => (World.cell?_alloc_mark _ _ _ _ _).trans (bytesRow_at s cap k hk)
          have hF := Lib.hid (fun o => (Fut.alloc w o).trans (Fut.drew _))
          go_wp2
          go_loop [32] (fun i => ∃ k : Nat, k ≤ s.size ∧ i = .int .i64 k ∧ Hid (∀ j (hj : j < s.size), j < k → letterN (s[j]).toNat = true)) (fun i => s.size - (intOf i).toNat)
          case atStart => exact ⟨0, Nat.zero_le _, rfl, Lib.hid (fun j _ h => absurd h (by omega))⟩
          case round =>
            obtain ⟨k, hk, rfl, hg⟩ := hrel
            by_cases hlt : k < s.size
            · have x0 := fun cap fr => hcell.out cap fr k hlt
              have hb : Hid ((s[k]).toNat < 256) := Lib.hid (UInt8.toNat_lt _)
              have hs1 := Lib.hid (fun h : letterN (s[k]).toNat = true => (fun j hj hjk => by
                rcases Nat.lt_or_ge j k with h' | h'
                · exact hg.out j hj h'
                · obtain rfl : j = k := by omega
                  exact h : ∀ j (hj : j < s.size), j < k + 1 → letterN (s[j]).toNat = true))
              have hs2 := Lib.hid (hall.out k hlt)
              generalize s[k].toNat = c at *
              go_wp2
              all_goals first
                | (go_ret; exact ⟨by rw [hs2.out (by (try simp only [bne_iff_ne, ne_eq, bne_eq_false_iff_eq] at *); simp [letterN]; omega)]; rfl, hF.out _⟩)
                | exact ⟨⟨k + 1, by omega, by go_num, Lib.hid (hs1.out (by (try simp only [bne_iff_ne, ne_eq, bne_eq_false_iff_eq] at *); simp [letterN]; omega))⟩, by simp [intOf]; omega⟩
            · obtain rfl : k = s.size := by omega
              have hr := Lib.hid (hmk'.out (by
                rw [List.all_eq_true]
                intro b hb
                obtain ⟨j, hj⟩ := List.getElem?_of_mem hb
                have hjl := (List.getElem?_eq_some_iff.1 hj).1
                have := hg.out j (by simpa using hjl) (by simpa using hjl)
                have e : b = s[j]'(by simpa using hjl) := by
                  have := (List.getElem?_eq_some_iff.1 hj).2
                  rw [← this]; rfl
                rw [e]; exact this))
              go_wp2
              all_goals go_ret
              all_goals exact ⟨by rw [hr.out]; first | rfl | simp, hF.out _⟩
end Go.Proofs.YtgcgmbegkfaifaaGreatDoor
/- term.name, none, code, CheckTerm, solid, empty, argument. -/
namespace Go.Proofs.YtgcgmbegkfaifaaGreatDoor
open Go.RowKit
set_option linter.unusedSimpArgs false
set_option linter.unusedVariables false

def nameT (s : ByteArray) : Bool := !keyB s.toList && wordT 97 122 s
set_option maxHeartbeats 1600000 in
set_option maxRecDepth 100000 in
theorem nameT_any (s : ByteArray) (w : World) (hs : s.size ≤ 140737488351232) : Calls Tryz.prog 87 #[.string s] w fun e w' => e = .returned (.bool (nameT s)) ∧ Fut w w' := by
  have HW := Lib.hid (wordT_any s 97 122 w hs)
  obtain ⟨b, hb⟩ : ∃ b, nameT s = b := ⟨_, rfl⟩
  rw [hb]
  replace hb := Lib.hid hb
  go_enter Tryz.func87, Tryz.ntmps87
  go_wp2_with fail
  all_goals first
    | (go_ret; refine ⟨?_, Fut.refl _⟩; rw [← hb.out]; unfold nameT keyB; simp_all; done)
    | (refine HW.out.mono ?_; rintro e w1 ⟨rfl, f1⟩; obtain ⟨c, hc⟩ : ∃ c, wordT 97 122 s = c := ⟨_, rfl⟩; rw [hc]; have hbc : c = b := (by rw [← hb.out, ← hc]; unfold nameT keyB; simp_all); subst hbc; clear hb hc; go_wp2; go_ret; exact ⟨rfl, f1⟩)
def Tm.zero (t : Tm) : Bool := decide (t.v.toList = []) && decide (t.x.k = 0) && decide (t.x.n = 0) && decide (t.x.s.toList = [])
set_option maxHeartbeats 400000 in
theorem codeT_any (b : Bool) (w : World) : Calls Tryz.prog 90 #[.bool b] w fun e w' => e = .returned (.int .i64 (if b then 0 else 40)) ∧ w' = w := by
  cases b
  · go_enter Tryz.func90, Tryz.ntmps90
    go_wp2
    go_ret
    exact ⟨rfl, rfl⟩
  · go_enter Tryz.func90, Tryz.ntmps90
    go_wp2
    go_ret
    exact ⟨rfl, rfl⟩
end Go.Proofs.YtgcgmbegkfaifaaGreatDoor
/- term.none, CheckTerm, solid, empty, argument. -/
namespace Go.Proofs.YtgcgmbegkfaifaaGreatDoor
open Go.RowKit
set_option linter.unusedSimpArgs false
set_option linter.unusedVariables false

set_option maxHeartbeats 800000 in
theorem noneT_any (t : Tm) (w : World) : Calls Tryz.prog 108 #[.agg #[.string t.v, .int .i8 t.x.k, .int .i64 t.x.n, .string t.x.s]] w fun e w' => e = .returned (.bool t.zero) ∧ Fut w w' := by
  obtain ⟨b, hb⟩ : ∃ b, t.zero = b := ⟨_, rfl⟩
  rw [hb]
  replace hb := Lib.hid hb
  obtain ⟨v, k, n, s⟩ := t
  go_enter Tryz.func108, Tryz.ntmps108
  go_wp2
  all_goals (go_ret; refine ⟨?_, Fut.alloc _ _⟩; have h9 := hb.out; simp_all [Tm.zero])
theorem chk_or (k n : Int) (s : ByteArray) : chk k n s = 0 ∨ chk k n s = 10 := by
  unfold chk
  split
  · exact .inl rfl
  · split
    · exact .inl rfl
    · exact .inr rfl
def Tm.good (t : Tm) : Bool := if t.v.toList = [] then decide (chk t.x.k t.x.n t.x.s = 0) else (decide (t.x.k = 0) && decide (t.x.n = 0) && decide (t.x.s.toList = [])) && (decide (t.v.toList = [95]) || wordT 65 90 t.v)
set_option maxHeartbeats 1600000 in
set_option maxRecDepth 100000 in
theorem checkT_any (t : Tm) (w : World) (ht : t.ok) : Calls Tryz.prog 129 #[.agg #[.string t.v, .int .i8 t.x.k, .int .i64 t.x.n, .string t.x.s]] w fun e w' => e = .returned (.int .i64 (if t.good = true then 0 else 40)) ∧ Fut w w' := by
  have HW := Lib.hid (fun W => wordT_any t.v 65 90 W ht.1)
  have HC := Lib.hid (fun W => check_any t.x.k t.x.n t.x.s W ht.2.2.2)
  have hchk := Lib.hid (chk_or t.x.k t.x.n t.x.s)
  obtain ⟨b, hb⟩ : ∃ b, t.good = b := ⟨_, rfl⟩
  rw [hb]
  replace hb := Lib.hid hb
  obtain ⟨v, k, n, s⟩ := t
  clear ht
  by_cases hv : v.toList = []
  · by_cases hc : chk k n s = 0
    · obtain rfl : b = true := by rw [← hb.out]; simp [Tm.good, hv, hc]
      go_enter Tryz.func129, Tryz.ntmps129
      go_wp2_with fail
      refine (HC.out _).mono ?_
      rintro e w1 ⟨rfl, f1⟩
      dsimp only
      rw [hc]
      go_wp2_with fail
      refine (codeT_any _ _).mono ?_
      rintro e w2 ⟨rfl, rfl⟩
      go_wp2
      go_ret
      exact ⟨rfl, (Fut.alloc _ _).trans f1⟩
    · have hc10 : chk k n s = 10 := hchk.out.resolve_left hc
      obtain rfl : b = false := by rw [← hb.out]; simp [Tm.good, hv, hc]
      go_enter Tryz.func129, Tryz.ntmps129
      go_wp2_with fail
      refine (HC.out _).mono ?_
      rintro e w1 ⟨rfl, f1⟩
      dsimp only
      rw [hc10]
      go_wp2_with fail
      refine (codeT_any _ _).mono ?_
      rintro e w2 ⟨rfl, rfl⟩
      go_wp2
      go_ret
      exact ⟨rfl, (Fut.alloc _ _).trans f1⟩
  · have hvb : (v.toList == []) = false := by rw [beq_eq_false_iff_ne]; exact hv
    by_cases hx : k = 0 ∧ n = 0 ∧ s.toList = []
    · obtain ⟨rfl, rfl, hs0⟩ := hx
      by_cases hu : v.toList = [95]
      · obtain rfl : b = true := by rw [← hb.out]; simp [Tm.good, hs0, hu]
        go_enter Tryz.func129, Tryz.ntmps129
        go_wp2_with fail
        refine (codeT_any _ _).mono ?_
        rintro e w2 ⟨rfl, rfl⟩
        go_wp2
        go_ret
        exact ⟨rfl, Fut.alloc _ _⟩
      · have hub : (v.toList == [95]) = false := by rw [beq_eq_false_iff_ne]; exact hu
        have hbw : wordT 65 90 v = b := by rw [← hb.out]; simp [Tm.good, hs0, hu, hv]
        dsimp only at HW
        rw [hbw] at HW
        clear hb hbw
        cases b
        · go_enter Tryz.func129, Tryz.ntmps129
          go_wp2_with fail
          refine (HW.out _).mono ?_
          rintro e w1 ⟨rfl, f1⟩
          go_wp2_with fail
          refine (codeT_any _ _).mono ?_
          rintro e w2 ⟨rfl, rfl⟩
          go_wp2
          go_ret
          exact ⟨rfl, (Fut.alloc _ _).trans f1⟩
        · go_enter Tryz.func129, Tryz.ntmps129
          go_wp2_with fail
          refine (HW.out _).mono ?_
          rintro e w1 ⟨rfl, f1⟩
          go_wp2_with fail
          refine (codeT_any _ _).mono ?_
          rintro e w2 ⟨rfl, rfl⟩
          go_wp2
          go_ret
          exact ⟨rfl, (Fut.alloc _ _).trans f1⟩
    · have hxb : (decide (k = 0) && decide (n = 0) && decide (s.toList = [])) = false := by
        rw [Bool.eq_false_iff]
        intro h
        simp at h
        exact hx ⟨h.1.1, h.1.2, h.2⟩
      obtain rfl : b = false := by rw [← hb.out]; unfold Tm.good; rw [if_neg hv]; dsimp only; rw [hxb]; rfl
      go_enter Tryz.func129, Tryz.ntmps129
      go_wp2_with fail
      all_goals first
        | (exfalso; apply hx; refine ⟨?_, ?_, ?_⟩ <;> first | rfl | assumption)
        | (refine (codeT_any _ _).mono ?_; rintro e w2 ⟨rfl, rfl⟩; go_wp2; go_ret; exact ⟨rfl, Fut.alloc _ _⟩)
def Tm.solid (t : Tm) : Bool := !decide (t.v.toList = [95]) && t.good
set_option maxHeartbeats 1600000 in
set_option maxRecDepth 100000 in
theorem solidT_any (t : Tm) (w : World) (ht : t.ok) : Calls Tryz.prog 107 #[.agg #[.string t.v, .int .i8 t.x.k, .int .i64 t.x.n, .string t.x.s]] w fun e w' => e = .returned (.bool t.solid) ∧ Fut w w' := by
  have HC := Lib.hid (fun W => checkT_any t W ht)
  obtain ⟨b, hb⟩ : ∃ b, t.solid = b := ⟨_, rfl⟩
  rw [hb]
  obtain ⟨g, hg⟩ : ∃ g, t.good = g := ⟨_, rfl⟩
  rw [hg] at HC
  unfold Tm.solid at hb
  rw [hg] at hb
  obtain ⟨v, k, n, s⟩ := t
  dsimp only at hb HC
  clear hg ht
  by_cases hu : v.toList = [95]
  · obtain rfl : b = false := by rw [← hb]; simp [hu]
    clear hb
    go_enter Tryz.func107, Tryz.ntmps107
    go_wp2
    go_ret
    exact ⟨by first | rfl | simp, Fut.alloc _ _⟩
  · have hub : (v.toList == [95]) = false := by rw [beq_eq_false_iff_ne]; exact hu
    obtain rfl : b = g := by rw [← hb]; simp [hu]
    clear hb
    cases b
    · go_enter Tryz.func107, Tryz.ntmps107
      go_wp2_with fail
      refine (HC.out _).mono ?_
      rintro e w1 ⟨rfl, f1⟩
      go_wp2
      go_ret
      exact ⟨by first | rfl | simp, (Fut.alloc _ _).trans f1⟩
    · go_enter Tryz.func107, Tryz.ntmps107
      go_wp2_with fail
      refine (HC.out _).mono ?_
      rintro e w1 ⟨rfl, f1⟩
      go_wp2
      go_ret
      exact ⟨by first | rfl | simp, (Fut.alloc _ _).trans f1⟩
end Go.Proofs.YtgcgmbegkfaifaaGreatDoor
/- term.empty, argument. -/
namespace Go.Proofs.YtgcgmbegkfaifaaGreatDoor
open Go.RowKit
set_option linter.unusedSimpArgs false
set_option linter.unusedVariables false

def Ex.empty (x : Ex) : Bool := decide (x.op = 0) && x.t.zero && decide (x.kids.length = 0)
set_option maxHeartbeats 1600000 in
set_option maxRecDepth 100000 in
theorem emptyT_any (x : Ex) (A : Option Addr) (c : Nat) (w : World) : Calls Tryz.prog 109 #[.agg (x.cs (.slice A x.kids.length c)).toArray] w fun e w' => e = .returned (.bool x.empty) ∧ Fut w w' := by
  have HN := Lib.hid (fun W => noneT_any x.t W)
  obtain ⟨b, hb⟩ : ∃ b, x.empty = b := ⟨_, rfl⟩
  rw [hb]
  unfold Ex.empty at hb
  unfold Ex.cs
  generalize x.t.zero = z at *
  generalize x.kids.length = n at *
  generalize x.op = o at *
  generalize x.t = t at *
  replace hb := Lib.hid hb
  by_cases ho : o = 0
  · subst ho
    cases z
    · obtain rfl : b = false := by rw [← hb.out]; simp
      go_enter Tryz.func109, Tryz.ntmps109
      go_wp2_with fail
      refine (HN.out _).mono ?_
      rintro e w1 ⟨rfl, f1⟩
      go_wp2
      go_ret
      exact ⟨by first | rfl | simp, (Fut.alloc _ _).trans f1⟩
    · by_cases hn : n = 0
      · subst hn
        obtain rfl : b = true := by rw [← hb.out]; simp
        go_enter Tryz.func109, Tryz.ntmps109
        go_wp2_with fail
        have hbx := heap_alloc_new w (.cells #[.int .i8 0, .string t.v, .int .i8 t.x.k, .int .i64 t.x.n, .string t.x.s, .slice A 0 c] 66)
        refine (HN.out _).mono ?_
        rintro e w1 ⟨rfl, f1⟩
        have y5 := cell_at (f1.block hbx) 5 (.slice A 0 c) rfl
        go_wp2
        go_ret
        exact ⟨by first | rfl | simp, (Fut.alloc _ _).trans f1⟩
      · obtain rfl : b = false := by rw [← hb.out]; simp [hn]
        have hnI : ((n : Int) == 0) = false := by rw [beq_eq_false_iff_ne]; omega
        have hnJ : ¬ (n : Int) = 0 := by omega
        go_enter Tryz.func109, Tryz.ntmps109
        go_wp2_with fail
        have hbx := heap_alloc_new w (.cells #[.int .i8 0, .string t.v, .int .i8 t.x.k, .int .i64 t.x.n, .string t.x.s, .slice A n c] 66)
        refine (HN.out _).mono ?_
        rintro e w1 ⟨rfl, f1⟩
        have y5 := cell_at (f1.block hbx) 5 (.slice A n c) rfl
        go_wp2
        go_ret
        exact ⟨by first | rfl | simp, (Fut.alloc _ _).trans f1⟩
  · obtain rfl : b = false := by rw [← hb.out]; simp [ho]
    have hoI : (o == 0) = false := by rw [beq_eq_false_iff_ne]; exact ho
    go_enter Tryz.func109, Tryz.ntmps109
    go_wp2
    go_ret
    exact ⟨by first | rfl | simp, Fut.alloc _ _⟩
def Ar.good (a : Ar) : Bool := if a.g = 0 then a.t.solid else if a.g = 1 then a.t.zero else if a.g = 2 ∨ a.g = 3 ∨ a.g = 4 then !decide (a.t.v.toList = []) && a.t.solid else false
set_option maxHeartbeats 1600000 in
set_option maxRecDepth 100000 in
theorem argT_any (a : Ar) (w : World) (ht : a.t.ok) : Calls Tryz.prog 88 #[.agg #[.int .i8 a.g, .string a.t.v, .int .i8 a.t.x.k, .int .i64 a.t.x.n, .string a.t.x.s]] w fun e w' => e = .returned (.bool a.good) ∧ Fut w w' := by
  have HN := Lib.hid (fun W => noneT_any a.t W)
  have HS := Lib.hid (fun W => solidT_any a.t W ht)
  obtain ⟨b, hb⟩ : ∃ b, a.good = b := ⟨_, rfl⟩
  rw [hb]
  unfold Ar.good at hb
  generalize a.t.zero = z at *
  generalize a.t.solid = s at *
  replace hb := Lib.hid hb
  obtain ⟨g, t⟩ := a
  dsimp only at hb HN HS ⊢
  clear ht
  by_cases h0 : g = 0
  · subst h0
    obtain rfl : b = s := by rw [← hb.out]; simp
    go_enter Tryz.func88, Tryz.ntmps88
    go_wp2_with fail
    refine (HS.out _).mono ?_
    rintro e w1 ⟨rfl, f1⟩
    go_wp2
    go_ret
    exact ⟨by first | rfl | simp, (Fut.alloc _ _).trans f1⟩
  by_cases h1 : g = 1
  · subst h1
    obtain rfl : b = z := by rw [← hb.out]; simp
    go_enter Tryz.func88, Tryz.ntmps88
    go_wp2_with fail
    refine (HN.out _).mono ?_
    rintro e w1 ⟨rfl, f1⟩
    go_wp2
    go_ret
    exact ⟨by first | rfl | simp, (Fut.alloc _ _).trans f1⟩
  by_cases hg : g = 2 ∨ g = 3 ∨ g = 4
  · by_cases hv : t.v.toList = []
    · obtain rfl : b = false := by rw [← hb.out]; rcases hg with rfl | rfl | rfl <;> simp [hv]
      rcases hg with rfl | rfl | rfl
      all_goals
        go_enter Tryz.func88, Tryz.ntmps88
        go_wp2
        go_ret
        exact ⟨by first | rfl | simp, Fut.alloc _ _⟩
    · have hvb : (t.v.toList == []) = false := by rw [beq_eq_false_iff_ne]; exact hv
      obtain rfl : b = s := by rw [← hb.out]; rcases hg with rfl | rfl | rfl <;> simp [hv]
      clear hb
      rcases hg with rfl | rfl | rfl <;> cases b
      all_goals
        go_enter Tryz.func88, Tryz.ntmps88
        go_wp2_with fail
        refine (HS.out _).mono ?_
        rintro e w1 ⟨rfl, f1⟩
        go_wp2
        go_ret
        exact ⟨by first | rfl | simp, (Fut.alloc _ _).trans f1⟩
  · obtain rfl : b = false := by rw [← hb.out, if_neg h0, if_neg h1, if_neg hg]
    have g2 : ¬ g = 2 := fun h => hg (.inl h)
    have g3 : ¬ g = 3 := fun h => hg (.inr (.inl h))
    have g4 : ¬ g = 4 := fun h => hg (.inr (.inr h))
    go_enter Tryz.func88, Tryz.ntmps88
    go_wp2
    go_ret
    exact ⟨by first | rfl | simp, Fut.alloc _ _⟩
end Go.Proofs.YtgcgmbegkfaifaaGreatDoor
/- term.deep, CheckExpr. -/
namespace Go.Proofs.YtgcgmbegkfaifaaGreatDoor
open Go.RowKit
set_option linter.unusedSimpArgs false
set_option linter.unusedVariables false

def arityE (op : Int) : Int := if op = 1 ∨ op = 8 ∨ op = 9 ∨ op = 10 then 1 else if op = 2 ∨ op = 3 ∨ op = 4 ∨ op = 5 ∨ op = 6 ∨ op = 7 then 2 else -1
set_option maxHeartbeats 1600000 in
theorem arityT_any (op : Int) (w : World) : Calls Tryz.prog 159 #[.int .i8 op] w fun e w' => e = .returned (.int .i64 (arityE op)) ∧ w' = w := by
  obtain ⟨r, hr⟩ : ∃ r, arityE op = r := ⟨_, rfl⟩
  rw [hr]
  replace hr := Lib.hid hr
  go_enter Tryz.func159, Tryz.ntmps159
  go_wp2
  all_goals (go_ret; refine ⟨?_, rfl⟩; have h9 := hr.out; unfold arityE at h9; simp_all)
def deepE : Nat → Ex → Bool
  | 0, _ => false
  | n + 1, x => if x.op = 0 then decide (x.kids.length = 0) && x.t.solid else x.t.zero && decide ((x.kids.length : Int) = arityE x.op) && x.kids.all (deepE n)
/-- What term.deep does one storey down. -/
def DeepOk (n : Nat) : Prop := ∀ (x : Ex) (A : Option Addr) (c m : Nat) (W : World), RE m W (x.cs (.slice A x.kids.length c)) x → Calls Tryz.prog 132 #[.agg (x.cs (.slice A x.kids.length c)).toArray, .int .i64 n] W fun e w' => e = .returned (.bool (deepE n x)) ∧ Fut W w'
set_option maxHeartbeats 1600000 in
theorem deep1_any {n : Nat} (IH : DeepOk n) (hn : n < 1000) (x : Ex) (A : Option Addr) (c m : Nat) (p : Nat) (w : World) (h : RE m w (x.cs (.slice A x.kids.length c)) x) (hp : w.cell? ⟨p, 0, none⟩ = some (.int .i64 ((n + 1 : Nat) : Int))) :
    Calls Tryz.prog 161 #[.agg (x.cs (.slice A x.kids.length c)).toArray, .pointer (some ⟨p, 0, none⟩)] w fun e w' => e = .returned (.bool (!deepE n x)) ∧ Fut w w' := by
  have HI := Lib.hid (fun W (hW : Fut w W) => IH x A c m W (RE.stays m _ _ _ _ hW h))
  obtain ⟨b, hb⟩ : ∃ b, deepE n x = b := ⟨_, rfl⟩
  rw [hb] at HI ⊢
  clear IH h hb
  unfold Ex.cs at HI ⊢
  generalize x.kids.length = l at *
  generalize x.op = o at *
  generalize x.t = t at *
  have hsub : (((n + 1 : Nat) : Int) - 1) = (n : Int) := by omega
  have hwr : IntKind.i64.wrap (n : Int) = n := by rw [IntKind.wrap_i64]; omega
  cases b
  · go_enter Tryz.func161, Tryz.ntmps161
    have hp1 := fun o => (Fut.alloc w o).cell hp
    go_wp2_with fail
    refine (HI.out _ (Fut.alloc _ _)).mono ?_
    rintro e w1 ⟨rfl, f1⟩
    go_wp2
    go_ret
    exact ⟨by first | rfl | simp, (Fut.alloc _ _).trans f1⟩
  · go_enter Tryz.func161, Tryz.ntmps161
    have hp1 := fun o => (Fut.alloc w o).cell hp
    go_wp2_with fail
    refine (HI.out _ (Fut.alloc _ _)).mono ?_
    rintro e w1 ⟨rfl, f1⟩
    go_wp2
    go_ret
    exact ⟨by first | rfl | simp, (Fut.alloc _ _).trans f1⟩
set_option maxHeartbeats 1600000 in
set_option maxRecDepth 100000 in
theorem idxE_any {n m M : Nat} (IH : DeepOk n) (hn : n < 1000) (A : Option Addr) (c : Nat) (xs : List Ex) (p : Nat) (w : World) (h : SlRep 6 M (RX0 m w) w (.slice A xs.length c) xs) (hM : M ≤ 9223372036854775807) (hp : w.cell? ⟨p, 0, none⟩ = some (.int .i64 ((n + 1 : Nat) : Int))) :
    Calls Tryz.prog 174 #[.slice A xs.length c, .func (.func 161) #[] #[.pointer (some ⟨p, 0, none⟩)]] w fun e w' => ∃ r : Int, e = .returned (.int .i64 r) ∧ decide (0 ≤ r) = !xs.all (deepE n) ∧ Fut w w' := by
  have H := Lib.hid h
  obtain ⟨_, _, hv, hl1, hl2⟩ := h.form
  have hxl : xs.length ≤ 9223372036854775807 := by omega
  clear h hv hl1 hl2
  go_enter Tryz.func174, Tryz.ntmps174
  go_wp2_with fail
  go_loopw [8] (fun i wr => ∃ k : Nat, k ≤ xs.length ∧ i = .int .i64 k ∧ Hid (∀ x ∈ xs.take k, deepE n x = true) ∧ Hid (Fut w wr)) (fun i _ => xs.length - (intOf i).toNat)
  case atStart => exact ⟨0, Nat.zero_le _, rfl, Lib.hid (fun x hx => by simp at hx), Lib.hid (Fut.refl _)⟩
  case round =>
    obtain ⟨k, hk, rfl, hI, hF⟩ := hrel
    by_cases hlt : k < xs.length
    · have hltI : (k : Int) < xs.length := by omega
      have e0 : (0 : Int) ≤ k ∧ (k : Int) < xs.length := by omega
      obtain ⟨b, off, m', op, t, ks, A', c', rfl, hm', hxk, y0, y1, y2, y3, y4, y5, hc1, hc2, hks, hre⟩ := ex_at (H.out.fut RX0.stays hF.out) hlt
      have hnx : Hid (xs.take (k + 1) = xs.take k ++ [xs[k]]) := Lib.hid (List.take_succ_eq_append_getElem hlt)
      have hmem : xs[k] ∈ xs := List.getElem_mem hlt
      have HD := Lib.hid (fun W (hW : Fut w W) => deep1_any IH hn (Ex.mk op t ks) A' c' m p W (RE.stays m _ _ _ _ hW (by have h9 := hre; rw [hxk] at h9; exact h9)) (hW.cell hp))
      rw [hxk] at hnx hmem
      clear hm' hxk hre hks
      obtain ⟨d, hd⟩ : ∃ d, deepE n (Ex.mk op t ks) = d := ⟨_, rfl⟩
      have hd' := Lib.hid hd
      simp only [hd] at HD
      clear hd
      cases d
      · go_wp2_with fail
        refine (HD.out _ hF.out).mono ?_
        rintro e w3 ⟨rfl, f3⟩
        go_wp2
        go_ret
        exact ⟨k, rfl, by
          have h9 : xs.all (deepE n) = false := by
            rw [List.all_eq_false]
            exact ⟨_, hmem, by rw [hd'.out]; decide⟩
          rw [h9]; simp, hF.out.trans f3⟩
      · go_wp2_with fail
        refine (HD.out _ hF.out).mono ?_
        rintro e w3 ⟨rfl, f3⟩
        have F3 := Lib.hid (hF.out.trans f3)
        have hI2 : Hid (∀ x ∈ xs.take (k + 1), deepE n x = true) := Lib.hid fun x hx => by
          rw [hnx.out, List.mem_append] at hx
          rcases hx with hx | hx
          · exact hI.out x hx
          · rw [List.mem_singleton] at hx; subst hx; exact hd'.out
        clear f3
        go_wp2
        go_roundw
        case rel => exact ⟨k + 1, by omega, by go_num, hI2, F3⟩
        case measure => simp [intOf] <;> omega
    · obtain rfl : k = xs.length := by omega
      rw [List.take_length] at hI
      go_wp2
      go_ret
      exact ⟨-1, rfl, by
        have h9 : xs.all (deepE n) = true := List.all_eq_true.2 hI.out
        rw [h9]; decide, hF.out⟩
end Go.Proofs.YtgcgmbegkfaifaaGreatDoor
/- term.deep, CheckExpr. -/
namespace Go.Proofs.YtgcgmbegkfaifaaGreatDoor
open Go.RowKit
set_option linter.unusedSimpArgs false
set_option linter.unusedVariables false

set_option maxHeartbeats 1600000 in
theorem contE_any {n m M : Nat} (IH : DeepOk n) (hn : n < 1000) (A : Option Addr) (c : Nat) (xs : List Ex) (p : Nat) (w : World) (h : SlRep 6 M (RX0 m w) w (.slice A xs.length c) xs) (hM : M ≤ 9223372036854775807) (hp : w.cell? ⟨p, 0, none⟩ = some (.int .i64 ((n + 1 : Nat) : Int))) :
    Calls Tryz.prog 160 #[.slice A xs.length c, .func (.func 161) #[] #[.pointer (some ⟨p, 0, none⟩)]] w fun e w' => e = .returned (.bool (!xs.all (deepE n))) ∧ Fut w w' := by
  have HI := Lib.hid (idxE_any IH hn A c xs p w h hM hp)
  obtain ⟨b, hb⟩ : ∃ b, (!xs.all (deepE n)) = b := ⟨_, rfl⟩
  rw [hb] at HI ⊢
  clear h hp IH hb
  go_enter Tryz.func160, Tryz.ntmps160
  go_wp2_with fail
  refine HI.out.mono ?_
  rintro e w1 ⟨r, rfl, hr, f1⟩
  by_cases h0 : 0 ≤ r
  · obtain rfl : b = true := by rw [← hr]; simp [h0]
    have h0' : r ≥ 0 := h0
    go_wp2
    go_ret
    exact ⟨by first | rfl | simp, f1⟩
  · obtain rfl : b = false := by rw [← hr]; simp [h0]
    have h0' : ¬ r ≥ 0 := h0
    go_wp2
    go_ret
    exact ⟨by first | rfl | simp, f1⟩
set_option maxHeartbeats 2000000 in
set_option maxRecDepth 100000 in
theorem deep_any : ∀ n, n < 1000 → DeepOk n
  | 0, _ => fun x A c m w h => by
    unfold Ex.cs
    generalize x.kids.length = l at *
    go_enter Tryz.func132, Tryz.ntmps132
    go_wp2
    go_ret
    exact ⟨rfl, (Fut.alloc _ _).trans (Fut.alloc _ _)⟩
  | n + 1, hn => fun x A c m w h => by
    have IH := Lib.hid (deep_any n (by omega))
    obtain ⟨m', op, t, ks, A', c', hm, rfl, hcs, hk1, hk2, hks⟩ := ex_form h
    obtain ⟨kv', hcs', hw1, ht, _⟩ : ∃ kv, (Ex.mk op t ks).cs (.slice A ks.length c) = [.int .i8 op, .string t.v, .int .i8 t.x.k, .int .i64 t.x.n, .string t.x.s, kv] ∧ (Lit.int .i8 op).wf = true ∧ t.ok ∧ SlRep 6 1759218604441 (RE m') w kv ks := by subst hm; exact h
    have eA : A = A' ∧ c = c' := by
      unfold Ex.cs at hcs
      injection hcs with _ hcs; injection hcs with _ hcs; injection hcs with _ hcs; injection hcs with _ hcs; injection hcs with _ hcs; injection hcs with hcs _
      injection hcs with q1 _ q2
      exact ⟨q1, q2⟩
    obtain ⟨rfl, rfl⟩ := eA
    have HK := Lib.hid ((hks.imp fun cs x h => (h : RX0 m' w w cs x)))
    have HS := Lib.hid (fun W => solidT_any t W ht)
    have HN := Lib.hid (fun W => noneT_any t W)
    have HC := Lib.hid (fun (W : World) (hW : Fut w W) (p : Nat) (hp : W.cell? ⟨p, 0, none⟩ = some (.int .i64 ((n + 1 : Nat) : Int))) => contE_any (M := 1759218604441) IH.out (by omega) A c ks p W ((hks.fut (RE.stays m') hW).imp fun cs x h => (h : RX0 m' W W cs x)) (by omega) hp)
    obtain ⟨b, hb⟩ : ∃ b, deepE (n + 1) (Ex.mk op t ks) = b := ⟨_, rfl⟩
    rw [hb]
    replace hb : (if op = 0 then decide (ks.length = 0) && t.solid else t.zero && decide ((ks.length : Int) = arityE op) && ks.all (deepE n)) = b := hb
    show Calls _ _ #[.agg #[.int .i8 op, .string t.v, .int .i8 t.x.k, .int .i64 t.x.n, .string t.x.s, .slice A ks.length c], .int .i64 ((n + 1 : Nat) : Int)] w _
    clear h hcs hcs' hks hw1 ht HK
    replace hb := Lib.hid hb
    obtain ⟨s, hs⟩ : ∃ s, t.solid = s := ⟨_, rfl⟩
    obtain ⟨z, hz⟩ : ∃ z, t.zero = z := ⟨_, rfl⟩
    obtain ⟨al, hal⟩ : ∃ al, ks.all (deepE n) = al := ⟨_, rfl⟩
    obtain ⟨l, hlk⟩ : ∃ l, ks.length = l := ⟨_, rfl⟩
    rw [hs] at HS hb
    rw [hz] at HN hb
    rw [hal] at HC hb
    rw [hlk] at HC hb ⊢
    clear hs hz hal hlk hk1
    have hnz : ¬ ((n : Int) + 1 = 0) := by omega
    by_cases ho : op = 0
    · subst ho
      by_cases hl : l = 0
      · subst hl
        obtain rfl : b = s := by rw [← hb.out]; simp
        cases b
        all_goals
          go_enter Tryz.func132, Tryz.ntmps132
          go_wp2_with fail
          refine (HS.out _).mono ?_
          rintro e w1 ⟨rfl, f1⟩
          go_wp2
          go_ret
          exact ⟨by first | rfl | simp, ((Fut.alloc _ _).trans (Fut.alloc _ _)).trans f1⟩
      · obtain rfl : b = false := by rw [← hb.out]; simp [hl]
        have hlI : ((l : Int) == 0) = false := by rw [beq_eq_false_iff_ne]; omega
        have hlJ : ¬ (l : Int) = 0 := by omega
        go_enter Tryz.func132, Tryz.ntmps132
        go_wp2
        go_ret
        exact ⟨by first | rfl | simp, (Fut.alloc _ _).trans (Fut.alloc _ _)⟩
    · have hoI : (op == 0) = false := by rw [beq_eq_false_iff_ne]; exact ho
      have hbo := Lib.hid (show (z && decide ((l : Int) = arityE op) && al) = b by rw [← hb.out, if_neg ho])
      clear hb
      cases z
      · obtain rfl : b = false := by rw [← hbo.out]; simp
        have hB0 := heap_alloc_new w (.cells #[.int .i8 op, .string t.v, .int .i8 t.x.k, .int .i64 t.x.n, .string t.x.s, .slice A l c] 66)
        have hB1 := (Fut.alloc (w.alloc (.cells #[.int .i8 op, .string t.v, .int .i8 t.x.k, .int .i64 t.x.n, .string t.x.s, .slice A l c] 66)) (.cells #[.int .i64 ((n + 1 : Nat) : Int)] 3)).block hB0
        have hB2 := heap_alloc_new (w.alloc (.cells #[.int .i8 op, .string t.v, .int .i8 t.x.k, .int .i64 t.x.n, .string t.x.s, .slice A l c] 66)) (.cells #[.int .i64 ((n + 1 : Nat) : Int)] 3)
        have hsz : (w.alloc (.cells #[.int .i8 op, .string t.v, .int .i8 t.x.k, .int .i64 t.x.n, .string t.x.s, .slice A l c] 66)).heap.size = w.heap.size + 1 := by simp
        rw [hsz] at hB2
        have FB := Lib.hid ((Fut.alloc w (.cells #[.int .i8 op, .string t.v, .int .i8 t.x.k, .int .i64 t.x.n, .string t.x.s, .slice A l c] 66)).trans (Fut.alloc (w.alloc (.cells #[.int .i8 op, .string t.v, .int .i8 t.x.k, .int .i64 t.x.n, .string t.x.s, .slice A l c] 66)) (.cells #[.int .i64 ((n + 1 : Nat) : Int)] 3)))
        have y0 := cell_at hB1 0 (.int .i8 op) rfl
        have y1 := cell_at hB1 1 (.string t.v) rfl
        have y2 := cell_at hB1 2 (.int .i8 t.x.k) rfl
        have y3 := cell_at hB1 3 (.int .i64 t.x.n) rfl
        have y4 := cell_at hB1 4 (.string t.x.s) rfl
        have y5 := cell_at hB1 5 (.slice A l c) rfl
        have yl := cell_at hB2 0 (.int .i64 ((n + 1 : Nat) : Int)) rfl
        clear hB0 hB1 hB2 hsz
        go_enter Tryz.func132, Tryz.ntmps132
        go_wp2_with fail
        refine wp_graph 13 [.d, .d, .d, .d, .d, .d, .d, .d, .d, .d, .d, .d, .d] (by kernel_rfl) (by kernel_rfl) (by kernel_rfl) ?_
        simp only [List.take_succ_cons, List.take_zero, List.drop_succ_cons, List.drop_zero, Exs]
        iterate 13 apply Exists.intro
        apply Run.valG (wanted_none rfl _)
        · intro w1 h1 hk
          have q1 := h1.cell y1; have q2 := h1.cell y2; have q3 := h1.cell y3; have q4 := h1.cell y4
          have hcw := fun b o => Below.cell (p := ⟨b, o, none⟩) h1
          go_simp; rfl
        simp only [Act.put, List.setIfInBounds_toArray, List.set_cons_succ, List.set_cons_zero, List.nil_append, List.cons_append]
        apply Run.valG (wanted_none rfl _)
        · intro w1 h1 hk
          have q1 := h1.cell y1; have q2 := h1.cell y2; have q3 := h1.cell y3; have q4 := h1.cell y4
          have hcw := fun b o => Below.cell (p := ⟨b, o, none⟩) h1
          go_simp; rfl
        simp only [Act.put, List.setIfInBounds_toArray, List.set_cons_succ, List.set_cons_zero, List.nil_append, List.cons_append]
        apply Run.call (wanted_none rfl _) (fun _ _ => by go_simp; exact ⟨rfl, rfl⟩)
        · intro w1 h1 hk
          have q1 := h1.cell y1; have q2 := h1.cell y2; have q3 := h1.cell y3; have q4 := h1.cell y4
          exact HN.out _
        simp only [Act.put, List.setIfInBounds_toArray, List.set_cons_succ, List.set_cons_zero, List.nil_append, List.cons_append]
        apply Run.valG (wanted_none rfl _)
        · intro w1 h1 hk
          have q1 := h1.cell y1; have q2 := h1.cell y2; have q3 := h1.cell y3; have q4 := h1.cell y4
          have hcw := fun b o => Below.cell (p := ⟨b, o, none⟩) h1
          go_simp; rfl
        simp only [Act.put, List.setIfInBounds_toArray, List.set_cons_succ, List.set_cons_zero, List.nil_append, List.cons_append]
        apply Run.valG (wanted_none rfl _)
        · intro w1 h1 hk
          have q1 := h1.cell y1; have q2 := h1.cell y2; have q3 := h1.cell y3; have q4 := h1.cell y4
          have hcw := fun b o => Below.cell (p := ⟨b, o, none⟩) h1
          go_simp; rfl
        simp only [Act.put, List.setIfInBounds_toArray, List.set_cons_succ, List.set_cons_zero, List.nil_append, List.cons_append]
        apply Run.skip (by first | (go_simp; done) | (go_simp; exact fun h => nomatch h))
        simp only [Act.put, List.setIfInBounds_toArray, List.set_cons_succ, List.set_cons_zero, List.nil_append, List.cons_append]
        apply Run.skip (by first | (go_simp; done) | (go_simp; exact fun h => nomatch h))
        simp only [Act.put, List.setIfInBounds_toArray, List.set_cons_succ, List.set_cons_zero, List.nil_append, List.cons_append]
        apply Run.skip (by first | (go_simp; done) | (go_simp; exact fun h => nomatch h))
        simp only [Act.put, List.setIfInBounds_toArray, List.set_cons_succ, List.set_cons_zero, List.nil_append, List.cons_append]
        apply Run.skip (by first | (go_simp; done) | (go_simp; exact fun h => nomatch h))
        simp only [Act.put, List.setIfInBounds_toArray, List.set_cons_succ, List.set_cons_zero, List.nil_append, List.cons_append]
        apply Run.skip (by first | (go_simp; done) | (go_simp; exact fun h => nomatch h))
        simp only [Act.put, List.setIfInBounds_toArray, List.set_cons_succ, List.set_cons_zero, List.nil_append, List.cons_append]
        apply Run.skip (by first | (go_simp; done) | (go_simp; exact fun h => nomatch h))
        simp only [Act.put, List.setIfInBounds_toArray, List.set_cons_succ, List.set_cons_zero, List.nil_append, List.cons_append]
        apply Run.skip (by first | (go_simp; done) | (go_simp; exact fun h => nomatch h))
        simp only [Act.put, List.setIfInBounds_toArray, List.set_cons_succ, List.set_cons_zero, List.nil_append, List.cons_append]
        apply Run.valG (wanted_none rfl _)
        · intro w1 h1 hk
          have q1 := h1.cell y1; have q2 := h1.cell y2; have q3 := h1.cell y3; have q4 := h1.cell y4
          have hcw := fun b o => Below.cell (p := ⟨b, o, none⟩) h1
          go_simp; rfl
        simp only [Act.put, List.setIfInBounds_toArray, List.set_cons_succ, List.set_cons_zero, List.nil_append, List.cons_append]
        apply Run.done
        intro w2 h2 hk
        clear hk
        have F2 := Lib.hid (FB.out.trans ((Fut.drew _).trans h2))
        clear h2
        go_wp2
        go_ret
        exact ⟨by first | rfl | simp, F2.out⟩
      · by_cases hla : (l : Int) = arityE op
        · obtain rfl : b = al := by rw [← hbo.out]; simp [hla]
          have hB0 := heap_alloc_new w (.cells #[.int .i8 op, .string t.v, .int .i8 t.x.k, .int .i64 t.x.n, .string t.x.s, .slice A l c] 66)
          have hB1 := (Fut.alloc (w.alloc (.cells #[.int .i8 op, .string t.v, .int .i8 t.x.k, .int .i64 t.x.n, .string t.x.s, .slice A l c] 66)) (.cells #[.int .i64 ((n + 1 : Nat) : Int)] 3)).block hB0
          have hB2 := heap_alloc_new (w.alloc (.cells #[.int .i8 op, .string t.v, .int .i8 t.x.k, .int .i64 t.x.n, .string t.x.s, .slice A l c] 66)) (.cells #[.int .i64 ((n + 1 : Nat) : Int)] 3)
          have hsz : (w.alloc (.cells #[.int .i8 op, .string t.v, .int .i8 t.x.k, .int .i64 t.x.n, .string t.x.s, .slice A l c] 66)).heap.size = w.heap.size + 1 := by simp
          rw [hsz] at hB2
          have FB := Lib.hid ((Fut.alloc w (.cells #[.int .i8 op, .string t.v, .int .i8 t.x.k, .int .i64 t.x.n, .string t.x.s, .slice A l c] 66)).trans (Fut.alloc (w.alloc (.cells #[.int .i8 op, .string t.v, .int .i8 t.x.k, .int .i64 t.x.n, .string t.x.s, .slice A l c] 66)) (.cells #[.int .i64 ((n + 1 : Nat) : Int)] 3)))
          have y0 := cell_at hB1 0 (.int .i8 op) rfl
          have y1 := cell_at hB1 1 (.string t.v) rfl
          have y2 := cell_at hB1 2 (.int .i8 t.x.k) rfl
          have y3 := cell_at hB1 3 (.int .i64 t.x.n) rfl
          have y4 := cell_at hB1 4 (.string t.x.s) rfl
          have y5 := cell_at hB1 5 (.slice A l c) rfl
          have yl := cell_at hB2 0 (.int .i64 ((n + 1 : Nat) : Int)) rfl
          clear hB0 hB1 hB2 hsz
          go_enter Tryz.func132, Tryz.ntmps132
          go_wp2_with fail
          have hlb : ((l : Int) == arityE op) = true := by rw [hla]; simp
          refine wp_graph 13 [.d, .d, .d, .d, .d, .d, .d, .d, .d, .d, .d, .d, .d] (by kernel_rfl) (by kernel_rfl) (by kernel_rfl) ?_
          simp only [List.take_succ_cons, List.take_zero, List.drop_succ_cons, List.drop_zero, Exs]
          iterate 13 apply Exists.intro
          apply Run.valG (wanted_none rfl _)
          · intro w1 h1 hk
            have q0 := h1.cell y0; have q1 := h1.cell y1; have q2 := h1.cell y2; have q3 := h1.cell y3; have q4 := h1.cell y4; have q5 := h1.cell y5
            have hcw := fun b o => Below.cell (p := ⟨b, o, none⟩) h1
            go_simp; rfl
          simp only [Act.put, List.setIfInBounds_toArray, List.set_cons_succ, List.set_cons_zero, List.nil_append, List.cons_append]
          apply Run.valG (wanted_none rfl _)
          · intro w1 h1 hk
            have q0 := h1.cell y0; have q1 := h1.cell y1; have q2 := h1.cell y2; have q3 := h1.cell y3; have q4 := h1.cell y4; have q5 := h1.cell y5
            have hcw := fun b o => Below.cell (p := ⟨b, o, none⟩) h1
            go_simp; rfl
          simp only [Act.put, List.setIfInBounds_toArray, List.set_cons_succ, List.set_cons_zero, List.nil_append, List.cons_append]
          apply Run.call (wanted_none rfl _) (fun _ _ => by go_simp; exact ⟨rfl, rfl⟩)
          · intro w1 h1 hk
            have q0 := h1.cell y0; have q1 := h1.cell y1; have q2 := h1.cell y2; have q3 := h1.cell y3; have q4 := h1.cell y4; have q5 := h1.cell y5
            exact HN.out _
          simp only [Act.put, List.setIfInBounds_toArray, List.set_cons_succ, List.set_cons_zero, List.nil_append, List.cons_append]
          apply Run.valG (wanted_none rfl _)
          · intro w1 h1 hk
            have q0 := h1.cell y0; have q1 := h1.cell y1; have q2 := h1.cell y2; have q3 := h1.cell y3; have q4 := h1.cell y4; have q5 := h1.cell y5
            have hcw := fun b o => Below.cell (p := ⟨b, o, none⟩) h1
            go_simp; rfl
          simp only [Act.put, List.setIfInBounds_toArray, List.set_cons_succ, List.set_cons_zero, List.nil_append, List.cons_append]
          apply Run.valG (wanted_none rfl _)
          · intro w1 h1 hk
            have q0 := h1.cell y0; have q1 := h1.cell y1; have q2 := h1.cell y2; have q3 := h1.cell y3; have q4 := h1.cell y4; have q5 := h1.cell y5
            have hcw := fun b o => Below.cell (p := ⟨b, o, none⟩) h1
            go_simp; rfl
          simp only [Act.put, List.setIfInBounds_toArray, List.set_cons_succ, List.set_cons_zero, List.nil_append, List.cons_append]
          apply Run.valG (by go_simp)
          · intro w1 h1 hk
            have q0 := h1.cell y0; have q1 := h1.cell y1; have q2 := h1.cell y2; have q3 := h1.cell y3; have q4 := h1.cell y4; have q5 := h1.cell y5
            have hcw := fun b o => Below.cell (p := ⟨b, o, none⟩) h1
            go_simp; rfl
          simp only [Act.put, List.setIfInBounds_toArray, List.set_cons_succ, List.set_cons_zero, List.nil_append, List.cons_append]
          apply Run.valG (by go_simp)
          · intro w1 h1 hk
            have q0 := h1.cell y0; have q1 := h1.cell y1; have q2 := h1.cell y2; have q3 := h1.cell y3; have q4 := h1.cell y4; have q5 := h1.cell y5
            have hcw := fun b o => Below.cell (p := ⟨b, o, none⟩) h1
            go_simp; rfl
          simp only [Act.put, List.setIfInBounds_toArray, List.set_cons_succ, List.set_cons_zero, List.nil_append, List.cons_append]
          apply Run.valG (by go_simp)
          · intro w1 h1 hk
            have q0 := h1.cell y0; have q1 := h1.cell y1; have q2 := h1.cell y2; have q3 := h1.cell y3; have q4 := h1.cell y4; have q5 := h1.cell y5
            have hcw := fun b o => Below.cell (p := ⟨b, o, none⟩) h1
            go_simp; rfl
          simp only [Act.put, List.setIfInBounds_toArray, List.set_cons_succ, List.set_cons_zero, List.nil_append, List.cons_append]
          apply Run.valG (by go_simp)
          · intro w1 h1 hk
            have q0 := h1.cell y0; have q1 := h1.cell y1; have q2 := h1.cell y2; have q3 := h1.cell y3; have q4 := h1.cell y4; have q5 := h1.cell y5
            have hcw := fun b o => Below.cell (p := ⟨b, o, none⟩) h1
            go_simp; rfl
          simp only [Act.put, List.setIfInBounds_toArray, List.set_cons_succ, List.set_cons_zero, List.nil_append, List.cons_append]
          apply Run.valG (by go_simp)
          · intro w1 h1 hk
            have q0 := h1.cell y0; have q1 := h1.cell y1; have q2 := h1.cell y2; have q3 := h1.cell y3; have q4 := h1.cell y4; have q5 := h1.cell y5
            have hcw := fun b o => Below.cell (p := ⟨b, o, none⟩) h1
            go_simp; rfl
          simp only [Act.put, List.setIfInBounds_toArray, List.set_cons_succ, List.set_cons_zero, List.nil_append, List.cons_append]
          apply Run.call (by go_simp) (fun _ _ => by go_simp; exact ⟨rfl, rfl⟩)
          · intro w1 h1 hk
            have q0 := h1.cell y0; have q1 := h1.cell y1; have q2 := h1.cell y2; have q3 := h1.cell y3; have q4 := h1.cell y4; have q5 := h1.cell y5
            exact (arityT_any op _).mono fun e w' ⟨h, hw⟩ => ⟨h, hw ▸ Fut.refl _⟩
          simp only [Act.put, List.setIfInBounds_toArray, List.set_cons_succ, List.set_cons_zero, List.nil_append, List.cons_append]
          apply Run.valG (by go_simp)
          · intro w1 h1 hk
            have q0 := h1.cell y0; have q1 := h1.cell y1; have q2 := h1.cell y2; have q3 := h1.cell y3; have q4 := h1.cell y4; have q5 := h1.cell y5
            have hcw := fun b o => Below.cell (p := ⟨b, o, none⟩) h1
            go_simp; rfl
          simp only [Act.put, List.setIfInBounds_toArray, List.set_cons_succ, List.set_cons_zero, List.nil_append, List.cons_append]
          apply Run.valG (wanted_none rfl _)
          · intro w1 h1 hk
            have q0 := h1.cell y0; have q1 := h1.cell y1; have q2 := h1.cell y2; have q3 := h1.cell y3; have q4 := h1.cell y4; have q5 := h1.cell y5
            have hcw := fun b o => Below.cell (p := ⟨b, o, none⟩) h1
            go_simp; rfl
          simp only [Act.put, List.setIfInBounds_toArray, List.set_cons_succ, List.set_cons_zero, List.nil_append, List.cons_append]
          apply Run.done
          intro w2 h2 hk
          clear hk
          have F2 := (Fut.drew _).trans h2
          have x5 := F2.cell y5
          have xl := F2.cell yl
          have FW := Lib.hid (FB.out.trans F2)
          clear h2 F2 y0 y1 y2 y3 y4 y5 yl
          cases b
          all_goals
            go_wp2_with fail
            refine (HC.out _ FW.out _ xl).mono ?_
            rintro e w3 ⟨rfl, f3⟩
            go_wp2
            go_ret
            exact ⟨by first | rfl | simp, FW.out.trans f3⟩
        · obtain rfl : b = false := by rw [← hbo.out]; simp [hla]
          have hB0 := heap_alloc_new w (.cells #[.int .i8 op, .string t.v, .int .i8 t.x.k, .int .i64 t.x.n, .string t.x.s, .slice A l c] 66)
          have hB1 := (Fut.alloc (w.alloc (.cells #[.int .i8 op, .string t.v, .int .i8 t.x.k, .int .i64 t.x.n, .string t.x.s, .slice A l c] 66)) (.cells #[.int .i64 ((n + 1 : Nat) : Int)] 3)).block hB0
          have hB2 := heap_alloc_new (w.alloc (.cells #[.int .i8 op, .string t.v, .int .i8 t.x.k, .int .i64 t.x.n, .string t.x.s, .slice A l c] 66)) (.cells #[.int .i64 ((n + 1 : Nat) : Int)] 3)
          have hsz : (w.alloc (.cells #[.int .i8 op, .string t.v, .int .i8 t.x.k, .int .i64 t.x.n, .string t.x.s, .slice A l c] 66)).heap.size = w.heap.size + 1 := by simp
          rw [hsz] at hB2
          have FB := Lib.hid ((Fut.alloc w (.cells #[.int .i8 op, .string t.v, .int .i8 t.x.k, .int .i64 t.x.n, .string t.x.s, .slice A l c] 66)).trans (Fut.alloc (w.alloc (.cells #[.int .i8 op, .string t.v, .int .i8 t.x.k, .int .i64 t.x.n, .string t.x.s, .slice A l c] 66)) (.cells #[.int .i64 ((n + 1 : Nat) : Int)] 3)))
          have y0 := cell_at hB1 0 (.int .i8 op) rfl
          have y1 := cell_at hB1 1 (.string t.v) rfl
          have y2 := cell_at hB1 2 (.int .i8 t.x.k) rfl
          have y3 := cell_at hB1 3 (.int .i64 t.x.n) rfl
          have y4 := cell_at hB1 4 (.string t.x.s) rfl
          have y5 := cell_at hB1 5 (.slice A l c) rfl
          have yl := cell_at hB2 0 (.int .i64 ((n + 1 : Nat) : Int)) rfl
          clear hB0 hB1 hB2 hsz
          go_enter Tryz.func132, Tryz.ntmps132
          go_wp2_with fail
          have hlb : ((l : Int) == arityE op) = false := by rw [beq_eq_false_iff_ne]; exact hla
          refine wp_graph 13 [.d, .d, .d, .d, .d, .d, .d, .d, .d, .d, .d, .d, .d] (by kernel_rfl) (by kernel_rfl) (by kernel_rfl) ?_
          simp only [List.take_succ_cons, List.take_zero, List.drop_succ_cons, List.drop_zero, Exs]
          iterate 13 apply Exists.intro
          apply Run.valG (wanted_none rfl _)
          · intro w1 h1 hk
            have q0 := h1.cell y0; have q1 := h1.cell y1; have q2 := h1.cell y2; have q3 := h1.cell y3; have q4 := h1.cell y4; have q5 := h1.cell y5
            have hcw := fun b o => Below.cell (p := ⟨b, o, none⟩) h1
            go_simp; rfl
          simp only [Act.put, List.setIfInBounds_toArray, List.set_cons_succ, List.set_cons_zero, List.nil_append, List.cons_append]
          apply Run.valG (wanted_none rfl _)
          · intro w1 h1 hk
            have q0 := h1.cell y0; have q1 := h1.cell y1; have q2 := h1.cell y2; have q3 := h1.cell y3; have q4 := h1.cell y4; have q5 := h1.cell y5
            have hcw := fun b o => Below.cell (p := ⟨b, o, none⟩) h1
            go_simp; rfl
          simp only [Act.put, List.setIfInBounds_toArray, List.set_cons_succ, List.set_cons_zero, List.nil_append, List.cons_append]
          apply Run.call (wanted_none rfl _) (fun _ _ => by go_simp; exact ⟨rfl, rfl⟩)
          · intro w1 h1 hk
            have q0 := h1.cell y0; have q1 := h1.cell y1; have q2 := h1.cell y2; have q3 := h1.cell y3; have q4 := h1.cell y4; have q5 := h1.cell y5
            exact HN.out _
          simp only [Act.put, List.setIfInBounds_toArray, List.set_cons_succ, List.set_cons_zero, List.nil_append, List.cons_append]
          apply Run.valG (wanted_none rfl _)
          · intro w1 h1 hk
            have q0 := h1.cell y0; have q1 := h1.cell y1; have q2 := h1.cell y2; have q3 := h1.cell y3; have q4 := h1.cell y4; have q5 := h1.cell y5
            have hcw := fun b o => Below.cell (p := ⟨b, o, none⟩) h1
            go_simp; rfl
          simp only [Act.put, List.setIfInBounds_toArray, List.set_cons_succ, List.set_cons_zero, List.nil_append, List.cons_append]
          apply Run.valG (wanted_none rfl _)
          · intro w1 h1 hk
            have q0 := h1.cell y0; have q1 := h1.cell y1; have q2 := h1.cell y2; have q3 := h1.cell y3; have q4 := h1.cell y4; have q5 := h1.cell y5
            have hcw := fun b o => Below.cell (p := ⟨b, o, none⟩) h1
            go_simp; rfl
          simp only [Act.put, List.setIfInBounds_toArray, List.set_cons_succ, List.set_cons_zero, List.nil_append, List.cons_append]
          apply Run.valG (by go_simp)
          · intro w1 h1 hk
            have q0 := h1.cell y0; have q1 := h1.cell y1; have q2 := h1.cell y2; have q3 := h1.cell y3; have q4 := h1.cell y4; have q5 := h1.cell y5
            have hcw := fun b o => Below.cell (p := ⟨b, o, none⟩) h1
            go_simp; rfl
          simp only [Act.put, List.setIfInBounds_toArray, List.set_cons_succ, List.set_cons_zero, List.nil_append, List.cons_append]
          apply Run.valG (by go_simp)
          · intro w1 h1 hk
            have q0 := h1.cell y0; have q1 := h1.cell y1; have q2 := h1.cell y2; have q3 := h1.cell y3; have q4 := h1.cell y4; have q5 := h1.cell y5
            have hcw := fun b o => Below.cell (p := ⟨b, o, none⟩) h1
            go_simp; rfl
          simp only [Act.put, List.setIfInBounds_toArray, List.set_cons_succ, List.set_cons_zero, List.nil_append, List.cons_append]
          apply Run.valG (by go_simp)
          · intro w1 h1 hk
            have q0 := h1.cell y0; have q1 := h1.cell y1; have q2 := h1.cell y2; have q3 := h1.cell y3; have q4 := h1.cell y4; have q5 := h1.cell y5
            have hcw := fun b o => Below.cell (p := ⟨b, o, none⟩) h1
            go_simp; rfl
          simp only [Act.put, List.setIfInBounds_toArray, List.set_cons_succ, List.set_cons_zero, List.nil_append, List.cons_append]
          apply Run.valG (by go_simp)
          · intro w1 h1 hk
            have q0 := h1.cell y0; have q1 := h1.cell y1; have q2 := h1.cell y2; have q3 := h1.cell y3; have q4 := h1.cell y4; have q5 := h1.cell y5
            have hcw := fun b o => Below.cell (p := ⟨b, o, none⟩) h1
            go_simp; rfl
          simp only [Act.put, List.setIfInBounds_toArray, List.set_cons_succ, List.set_cons_zero, List.nil_append, List.cons_append]
          apply Run.valG (by go_simp)
          · intro w1 h1 hk
            have q0 := h1.cell y0; have q1 := h1.cell y1; have q2 := h1.cell y2; have q3 := h1.cell y3; have q4 := h1.cell y4; have q5 := h1.cell y5
            have hcw := fun b o => Below.cell (p := ⟨b, o, none⟩) h1
            go_simp; rfl
          simp only [Act.put, List.setIfInBounds_toArray, List.set_cons_succ, List.set_cons_zero, List.nil_append, List.cons_append]
          apply Run.call (by go_simp) (fun _ _ => by go_simp; exact ⟨rfl, rfl⟩)
          · intro w1 h1 hk
            have q0 := h1.cell y0; have q1 := h1.cell y1; have q2 := h1.cell y2; have q3 := h1.cell y3; have q4 := h1.cell y4; have q5 := h1.cell y5
            exact (arityT_any op _).mono fun e w' ⟨h, hw⟩ => ⟨h, hw ▸ Fut.refl _⟩
          simp only [Act.put, List.setIfInBounds_toArray, List.set_cons_succ, List.set_cons_zero, List.nil_append, List.cons_append]
          apply Run.valG (by go_simp)
          · intro w1 h1 hk
            have q0 := h1.cell y0; have q1 := h1.cell y1; have q2 := h1.cell y2; have q3 := h1.cell y3; have q4 := h1.cell y4; have q5 := h1.cell y5
            have hcw := fun b o => Below.cell (p := ⟨b, o, none⟩) h1
            go_simp; rfl
          simp only [Act.put, List.setIfInBounds_toArray, List.set_cons_succ, List.set_cons_zero, List.nil_append, List.cons_append]
          apply Run.valG (wanted_none rfl _)
          · intro w1 h1 hk
            have q0 := h1.cell y0; have q1 := h1.cell y1; have q2 := h1.cell y2; have q3 := h1.cell y3; have q4 := h1.cell y4; have q5 := h1.cell y5
            have hcw := fun b o => Below.cell (p := ⟨b, o, none⟩) h1
            go_simp; rfl
          simp only [Act.put, List.setIfInBounds_toArray, List.set_cons_succ, List.set_cons_zero, List.nil_append, List.cons_append]
          apply Run.done
          intro w2 h2 hk
          clear hk
          have F2 := Lib.hid (FB.out.trans ((Fut.drew _).trans h2))
          clear h2 y0 y1 y2 y3 y4 y5 yl
          go_wp2
          go_ret
          exact ⟨by first | rfl | simp, F2.out⟩
end Go.Proofs.YtgcgmbegkfaifaaGreatDoor
