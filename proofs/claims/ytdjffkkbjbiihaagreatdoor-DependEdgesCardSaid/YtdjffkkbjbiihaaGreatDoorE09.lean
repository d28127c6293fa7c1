/- Parts. -/
import Derived.Test.YtdjffkkbjbiihaaGreatDoorE08
set_option linter.unusedSimpArgs false
set_option linter.unusedVariables false
namespace Go.Proofs.YtdjffkkbjbiihaaGreatDoor
open Go.RowKit
set_option maxHeartbeats 800000 in
theorem noneT_any (t : Tm) (w : World) : Calls Tryz.prog 285 #[.agg #[.string t.v, .int .i8 t.x.k, .int .i64 t.x.n, .string t.x.s]] w fun e w' => e = .returned (.bool t.zero) ∧ Fut w w' := by
 obtain ⟨b, hb⟩ : ∃ b, t.zero = b := ⟨_, rfl⟩
 rw [hb]
 replace hb := Lib.hid hb
 obtain ⟨v, k, n, s⟩ := t
 go_enter Tryz.func285, Tryz.ntmps285
 go_wp2
 all_goals (go_ret; refine ⟨?_, Fut.alloc _ _⟩; have h9 := hb.out; simp_all [Tm.zero])
theorem chk_or (k n : Int) (s : ByteArray) : chk k n s = 0 ∨ chk k n s = 10 := by
 unfold chk
 split
 ·exact .inl rfl
 ·split
  ·exact .inl rfl
  ·exact .inr rfl
def Tm.good (t : Tm) : Bool := if t.v.toList = [] then decide (chk t.x.k t.x.n t.x.s = 0) else (decide (t.x.k = 0) && decide (t.x.n = 0) && decide (t.x.s.toList = [])) && (decide (t.v.toList = [95]) || wordT 65 90 t.v)
set_option maxHeartbeats 1600000 in
set_option maxRecDepth 100000 in
theorem checkT_any (t : Tm) (w : World) (ht : t.ok) : Calls Tryz.prog 307 #[.agg #[.string t.v, .int .i8 t.x.k, .int .i64 t.x.n, .string t.x.s]] w fun e w' => e = .returned (.int .i64 (if t.good = true then 0 else 40)) ∧ Fut w w' := by
 have HW := Lib.hid (fun W => wordT_any t.v 65 90 W ht.1)
 have HC := Lib.hid (fun W => check_any t.x.k t.x.n t.x.s W ht.2.2.2)
 have hchk := Lib.hid (chk_or t.x.k t.x.n t.x.s)
 obtain ⟨b, hb⟩ : ∃ b, t.good = b := ⟨_, rfl⟩
 rw [hb]
 replace hb := Lib.hid hb
 obtain ⟨v, k, n, s⟩ := t
 clear ht
 by_cases hv : v.toList = []
 ·by_cases hc : chk k n s = 0
  ·obtain rfl : b = true := by rw [← hb.out]; simp [Tm.good, hv, hc]
   go_enter Tryz.func307, Tryz.ntmps307
   go_wp2_with fail
   refine (HC.out _).mono ?_
   rintro e w1 ⟨rfl, f1⟩
   dsimp only
   rw [hc]
   go_wp2_with fail
   refine (codeT_any _ _).mono ?_
   rintro e w2 ⟨rfl, rfl⟩
   go_wp2
   go_ret
   exact ⟨rfl, (Fut.alloc _ _).trans f1⟩
  ·have hc10 : chk k n s = 10 := hchk.out.resolve_left hc
   obtain rfl : b = false := by rw [← hb.out]; simp [Tm.good, hv, hc]
   go_enter Tryz.func307, Tryz.ntmps307
   go_wp2_with fail
   refine (HC.out _).mono ?_
   rintro e w1 ⟨rfl, f1⟩
   dsimp only
   rw [hc10]
   go_wp2_with fail
   refine (codeT_any _ _).mono ?_
   rintro e w2 ⟨rfl, rfl⟩
   go_wp2
   go_ret
   exact ⟨rfl, (Fut.alloc _ _).trans f1⟩
 ·have hvb : (v.toList == []) = false := by rw [beq_eq_false_iff_ne]; exact hv
  by_cases hx : k = 0 ∧ n = 0 ∧ s.toList = []
  ·obtain ⟨rfl, rfl, hs0⟩ := hx
   by_cases hu : v.toList = [95]
   ·obtain rfl : b = true := by rw [← hb.out]; simp [Tm.good, hs0, hu]
    go_enter Tryz.func307, Tryz.ntmps307
    go_wp2_with fail
    refine (codeT_any _ _).mono ?_
    rintro e w2 ⟨rfl, rfl⟩
    go_wp2
    go_ret
    exact ⟨rfl, Fut.alloc _ _⟩
   ·have hub : (v.toList == [95]) = false := by rw [beq_eq_false_iff_ne]; exact hu
    have hbw : wordT 65 90 v = b := by rw [← hb.out]; simp [Tm.good, hs0, hu, hv]
    dsimp only at HW
    rw [hbw] at HW
    clear hb hbw
    cases b
    ·go_enter Tryz.func307, Tryz.ntmps307
     go_wp2_with fail
     refine (HW.out _).mono ?_
     rintro e w1 ⟨rfl, f1⟩
     go_wp2_with fail
     refine (codeT_any _ _).mono ?_
     rintro e w2 ⟨rfl, rfl⟩
     go_wp2
     go_ret
     exact ⟨rfl, (Fut.alloc _ _).trans f1⟩
    ·go_enter Tryz.func307, Tryz.ntmps307
     go_wp2_with fail
     refine (HW.out _).mono ?_
     rintro e w1 ⟨rfl, f1⟩
     go_wp2_with fail
     refine (codeT_any _ _).mono ?_
     rintro e w2 ⟨rfl, rfl⟩
     go_wp2
     go_ret
     exact ⟨rfl, (Fut.alloc _ _).trans f1⟩
  ·have hxb : (decide (k = 0) && decide (n = 0) && decide (s.toList = [])) = false := by
    rw [Bool.eq_false_iff]
    intro h
    simp at h
    exact hx ⟨h.1.1, h.1.2, h.2⟩
   obtain rfl : b = false := by rw [← hb.out]; unfold Tm.good; rw [if_neg hv]; dsimp only; rw [hxb]; rfl
   go_enter Tryz.func307, Tryz.ntmps307
   go_wp2_with fail
   all_goals first
    | (exfalso; apply hx; refine ⟨?_, ?_, ?_⟩ <;> first | rfl | assumption)
    | (refine (codeT_any _ _).mono ?_; rintro e w2 ⟨rfl, rfl⟩; go_wp2; go_ret; exact ⟨rfl, Fut.alloc _ _⟩)
def Tm.solid (t : Tm) : Bool := !decide (t.v.toList = [95]) && t.good
set_option maxHeartbeats 1600000 in
set_option maxRecDepth 100000 in
theorem solidT_any (t : Tm) (w : World) (ht : t.ok) : Calls Tryz.prog 284 #[.agg #[.string t.v, .int .i8 t.x.k, .int .i64 t.x.n, .string t.x.s]] w fun e w' => e = .returned (.bool t.solid) ∧ Fut w w' := by
 have HC := Lib.hid (fun W => checkT_any t W ht)
 obtain ⟨b, hb⟩ : ∃ b, t.solid = b := ⟨_, rfl⟩
 rw [hb]
 obtain ⟨g, hg⟩ : ∃ g, t.good = g := ⟨_, rfl⟩
 rw [hg] at HC
 unfold Tm.solid at hb
 rw [hg] at hb
 obtain ⟨v, k, n, s⟩ := t
 dsimp only at hb HC
 clear hg ht
 by_cases hu : v.toList = [95]
 ·obtain rfl : b = false := by rw [← hb]; simp [hu]
  clear hb
  go_enter Tryz.func284, Tryz.ntmps284
  go_wp2
  go_ret
  exact ⟨by first | rfl | simp, Fut.alloc _ _⟩
 ·have hub : (v.toList == [95]) = false := by rw [beq_eq_false_iff_ne]; exact hu
  obtain rfl : b = g := by rw [← hb]; simp [hu]
  clear hb
  cases b
  ·go_enter Tryz.func284, Tryz.ntmps284
   go_wp2_with fail
   refine (HC.out _).mono ?_
   rintro e w1 ⟨rfl, f1⟩
   go_wp2
   go_ret
   exact ⟨by first | rfl | simp, (Fut.alloc _ _).trans f1⟩
  ·go_enter Tryz.func284, Tryz.ntmps284
   go_wp2_with fail
   refine (HC.out _).mono ?_
   rintro e w1 ⟨rfl, f1⟩
   go_wp2
   go_ret
   exact ⟨by first | rfl | simp, (Fut.alloc _ _).trans f1⟩
end Go.Proofs.YtdjffkkbjbiihaaGreatDoor
namespace Go.Proofs.YtdjffkkbjbiihaaGreatDoor
open Go.RowKit
def Ex.empty (x : Ex) : Bool := decide (x.op = 0) && x.t.zero && decide (x.kids.length = 0)
set_option maxHeartbeats 1600000 in
set_option maxRecDepth 100000 in
theorem emptyT_any (x : Ex) (A : Option Addr) (c : Nat) (w : World) : Calls Tryz.prog 286 #[.agg (x.cs (.slice A x.kids.length c)).toArray] w fun e w' => e = .returned (.bool x.empty) ∧ Fut w w' := by
 have HN := Lib.hid (fun W => noneT_any x.t W)
 obtain ⟨b, hb⟩ : ∃ b, x.empty = b := ⟨_, rfl⟩
 rw [hb]
 unfold Ex.empty at hb
 unfold Ex.cs
 generalize x.t.zero = z at *
 generalize x.kids.length = n at *
 generalize x.op = o at *
 generalize x.t = t at *
 replace hb := Lib.hid hb
 by_cases ho : o = 0
 ·subst ho
  cases z
  ·obtain rfl : b = false := by rw [← hb.out]; simp
   go_enter Tryz.func286, Tryz.ntmps286
   go_wp2_with fail
   refine (HN.out _).mono ?_
   rintro e w1 ⟨rfl, f1⟩
   go_wp2
   go_ret
   exact ⟨by first | rfl | simp, (Fut.alloc _ _).trans f1⟩
  ·by_cases hn : n = 0
   ·subst hn
    obtain rfl : b = true := by rw [← hb.out]; simp
    go_enter Tryz.func286, Tryz.ntmps286
    go_wp2_with fail
    have hbx := heap_alloc_new w (.cells #[.int .i8 0, .string t.v, .int .i8 t.x.k, .int .i64 t.x.n, .string t.x.s, .slice A 0 c] 117)
    refine (HN.out _).mono ?_
    rintro e w1 ⟨rfl, f1⟩
    have y5 := cell_at (f1.block hbx) 5 (.slice A 0 c) rfl
    go_wp2
    go_ret
    exact ⟨by first | rfl | simp, (Fut.alloc _ _).trans f1⟩
   ·obtain rfl : b = false := by rw [← hb.out]; simp [hn]
    have hnI : ((n : Int) == 0) = false := by rw [beq_eq_false_iff_ne]; omega
    have hnJ : ¬ (n : Int) = 0 := by omega
    go_enter Tryz.func286, Tryz.ntmps286
    go_wp2_with fail
    have hbx := heap_alloc_new w (.cells #[.int .i8 0, .string t.v, .int .i8 t.x.k, .int .i64 t.x.n, .string t.x.s, .slice A n c] 117)
    refine (HN.out _).mono ?_
    rintro e w1 ⟨rfl, f1⟩
    have y5 := cell_at (f1.block hbx) 5 (.slice A n c) rfl
    go_wp2
    go_ret
    exact ⟨by first | rfl | simp, (Fut.alloc _ _).trans f1⟩
 ·obtain rfl : b = false := by rw [← hb.out]; simp [ho]
  have hoI : (o == 0) = false := by rw [beq_eq_false_iff_ne]; exact ho
  go_enter Tryz.func286, Tryz.ntmps286
  go_wp2
  go_ret
  exact ⟨by first | rfl | simp, Fut.alloc _ _⟩
def Ar.good (a : Ar) : Bool := if a.g = 0 then a.t.solid else if a.g = 1 then a.t.zero else if a.g = 2 ∨ a.g = 3 ∨ a.g = 4 then !decide (a.t.v.toList = []) && a.t.solid else false
set_option maxHeartbeats 1600000 in
set_option maxRecDepth 100000 in
theorem argT_any (a : Ar) (w : World) (ht : a.t.ok) : Calls Tryz.prog 256 #[.agg #[.int .i8 a.g, .string a.t.v, .int .i8 a.t.x.k, .int .i64 a.t.x.n, .string a.t.x.s]] w fun e w' => e = .returned (.bool a.good) ∧ Fut w w' := by
 have HN := Lib.hid (fun W => noneT_any a.t W)
 have HS := Lib.hid (fun W => solidT_any a.t W ht)
 obtain ⟨b, hb⟩ : ∃ b, a.good = b := ⟨_, rfl⟩
 rw [hb]
 unfold Ar.good at hb
 generalize a.t.zero = z at *
 generalize a.t.solid = s at *
 replace hb := Lib.hid hb
 obtain ⟨g, t⟩ := a
 dsimp only at hb HN HS ⊢
 clear ht
 by_cases h0 : g = 0
 ·subst h0
  obtain rfl : b = s := by rw [← hb.out]; simp
  go_enter Tryz.func256, Tryz.ntmps256
  go_wp2_with fail
  refine (HS.out _).mono ?_
  rintro e w1 ⟨rfl, f1⟩
  go_wp2
  go_ret
  exact ⟨by first | rfl | simp, (Fut.alloc _ _).trans f1⟩
 by_cases h1 : g = 1
 ·subst h1
  obtain rfl : b = z := by rw [← hb.out]; simp
  go_enter Tryz.func256, Tryz.ntmps256
  go_wp2_with fail
  refine (HN.out _).mono ?_
  rintro e w1 ⟨rfl, f1⟩
  go_wp2
  go_ret
  exact ⟨by first | rfl | simp, (Fut.alloc _ _).trans f1⟩
 by_cases hg : g = 2 ∨ g = 3 ∨ g = 4
 ·by_cases hv : t.v.toList = []
  ·obtain rfl : b = false := by rw [← hb.out]; rcases hg with rfl | rfl | rfl <;> simp [hv]
   rcases hg with rfl | rfl | rfl
   all_goals
    go_enter Tryz.func256, Tryz.ntmps256
    go_wp2
    go_ret
    exact ⟨by first | rfl | simp, Fut.alloc _ _⟩
  ·have hvb : (t.v.toList == []) = false := by rw [beq_eq_false_iff_ne]; exact hv
   obtain rfl : b = s := by rw [← hb.out]; rcases hg with rfl | rfl | rfl <;> simp [hv]
   clear hb
   rcases hg with rfl | rfl | rfl <;> cases b
   all_goals
    go_enter Tryz.func256, Tryz.ntmps256
    go_wp2_with fail
    refine (HS.out _).mono ?_
    rintro e w1 ⟨rfl, f1⟩
    go_wp2
    go_ret
    exact ⟨by first | rfl | simp, (Fut.alloc _ _).trans f1⟩
 ·obtain rfl : b = false := by rw [← hb.out, if_neg h0, if_neg h1, if_neg hg]
  have g2 : ¬ g = 2 := fun h => hg (.inl h)
  have g3 : ¬ g = 3 := fun h => hg (.inr (.inl h))
  have g4 : ¬ g = 4 := fun h => hg (.inr (.inr h))
  go_enter Tryz.func256, Tryz.ntmps256
  go_wp2
  go_ret
  exact ⟨by first | rfl | simp, Fut.alloc _ _⟩
end Go.Proofs.YtdjffkkbjbiihaaGreatDoor
namespace Go.Proofs.YtdjffkkbjbiihaaGreatDoor
open Go.RowKit
def arityE (op : Int) : Int := if op = 1 ∨ op = 8 ∨ op = 9 ∨ op = 10 then 1 else if op = 2 ∨ op = 3 ∨ op = 4 ∨ op = 5 ∨ op = 6 ∨ op = 7 then 2 else -1
set_option maxHeartbeats 1600000 in
theorem arityT_any (op : Int) (w : World) : Calls Tryz.prog 323 #[.int .i8 op] w fun e w' => e = .returned (.int .i64 (arityE op)) ∧ w' = w := by
 obtain ⟨r, hr⟩ : ∃ r, arityE op = r := ⟨_, rfl⟩
 rw [hr]
 replace hr := Lib.hid hr
 go_enter Tryz.func323, Tryz.ntmps323
 go_wp2
 all_goals (go_ret; refine ⟨?_, rfl⟩; have h9 := hr.out; unfold arityE at h9; simp_all)
def deepE : Nat → Ex → Bool
 | 0, _ => false
 | n + 1, x => if x.op = 0 then decide (x.kids.length = 0) && x.t.solid else x.t.zero && decide ((x.kids.length : Int) = arityE x.op) && x.kids.all (deepE n)
def DeepOk (n : Nat) : Prop := ∀ (x : Ex) (A : Option Addr) (c m : Nat) (W : World), RE m W (x.cs (.slice A x.kids.length c)) x → Calls Tryz.prog 310 #[.agg (x.cs (.slice A x.kids.length c)).toArray, .int .i64 n] W fun e w' => e = .returned (.bool (deepE n x)) ∧ Fut W w'
set_option maxHeartbeats 1600000 in
theorem deep1_any {n : Nat} (IH : DeepOk n) (hn : n < 1000) (x : Ex) (A : Option Addr) (c m : Nat) (p : Nat) (w : World) (h : RE m w (x.cs (.slice A x.kids.length c)) x) (hp : w.cell? ⟨p, 0, none⟩ = some (.int .i64 ((n + 1 : Nat) : Int))) :
  Calls Tryz.prog 325 #[.agg (x.cs (.slice A x.kids.length c)).toArray, .pointer (some ⟨p, 0, none⟩)] w fun e w' => e = .returned (.bool (!deepE n x)) ∧ Fut w w' := by
 have HI := Lib.hid (fun W (hW : Fut w W) => IH x A c m W (RE.stays m _ _ _ _ hW h))
 obtain ⟨b, hb⟩ : ∃ b, deepE n x = b := ⟨_, rfl⟩
 rw [hb] at HI ⊢
 clear IH h hb
 unfold Ex.cs at HI ⊢
 generalize x.kids.length = l at *
 generalize x.op = o at *
 generalize x.t = t at *
 have hsub : (((n + 1 : Nat) : Int) - 1) = (n : Int) := by omega
 have hwr : IntKind.i64.wrap (n : Int) = n := by rw [IntKind.wrap_i64]; omega
 cases b
 ·go_enter Tryz.func325, Tryz.ntmps325
  have hp1 := fun o => (Fut.alloc w o).cell hp
  go_wp2_with fail
  refine (HI.out _ (Fut.alloc _ _)).mono ?_
  rintro e w1 ⟨rfl, f1⟩
  go_wp2
  go_ret
  exact ⟨by first | rfl | simp, (Fut.alloc _ _).trans f1⟩
 ·go_enter Tryz.func325, Tryz.ntmps325
  have hp1 := fun o => (Fut.alloc w o).cell hp
  go_wp2_with fail
  refine (HI.out _ (Fut.alloc _ _)).mono ?_
  rintro e w1 ⟨rfl, f1⟩
  go_wp2
  go_ret
  exact ⟨by first | rfl | simp, (Fut.alloc _ _).trans f1⟩
set_option maxHeartbeats 1600000 in
set_option maxRecDepth 100000 in
theorem idxE_any {n m M : Nat} (IH : DeepOk n) (hn : n < 1000) (A : Option Addr) (c : Nat) (xs : List Ex) (p : Nat) (w : World) (h : SlRep 6 M (RX0 m w) w (.slice A xs.length c) xs) (hM : M ≤ 9223372036854775807) (hp : w.cell? ⟨p, 0, none⟩ = some (.int .i64 ((n + 1 : Nat) : Int))) :
  Calls Tryz.prog 328 #[.slice A xs.length c, .func (.func 325) #[] #[.pointer (some ⟨p, 0, none⟩)]] w fun e w' => ∃ r : Int, e = .returned (.int .i64 r) ∧ decide (0 ≤ r) = !xs.all (deepE n) ∧ Fut w w' := by
 have H := Lib.hid h
 obtain ⟨_, _, hv, hl1, hl2⟩ := h.form
 have hxl : xs.length ≤ 9223372036854775807 := by omega
 clear h hv hl1 hl2
 go_enter Tryz.func328, Tryz.ntmps328
 go_wp2_with fail
 go_loopw [8] (fun i wr => ∃ k : Nat, k ≤ xs.length ∧ i = .int .i64 k ∧ Hid (∀ x ∈ xs.take k, deepE n x = true) ∧ Hid (Fut w wr)) (fun i _ => xs.length - (intOf i).toNat)
 case atStart => exact ⟨0, Nat.zero_le _, rfl, Lib.hid (fun x hx => by simp at hx), Lib.hid (Fut.refl _)⟩
 case round =>
  obtain ⟨k, hk, rfl, hI, hF⟩ := hrel
  by_cases hlt : k < xs.length
  ·have hltI : (k : Int) < xs.length := by omega
   have e0 : (0 : Int) ≤ k ∧ (k : Int) < xs.length := by omega
   obtain ⟨b, off, m', op, t, ks, A', c', rfl, hm', hxk, y0, y1, y2, y3, y4, y5, hc1, hc2, hks, hre⟩ := ex_at (H.out.fut RX0.stays hF.out) hlt
   have hnx : Hid (xs.take (k + 1) = xs.take k ++ [xs[k]]) := Lib.hid (List.take_succ_eq_append_getElem hlt)
   have hmem : xs[k] ∈ xs := List.getElem_mem hlt
   have HD := Lib.hid (fun W (hW : Fut w W) => deep1_any IH hn (Ex.mk op t ks) A' c' m p W (RE.stays m _ _ _ _ hW (by have h9 := hre; rw [hxk] at h9; exact h9)) (hW.cell hp))
   rw [hxk] at hnx hmem
   clear hm' hxk hre hks
   obtain ⟨d, hd⟩ : ∃ d, deepE n (Ex.mk op t ks) = d := ⟨_, rfl⟩
   have hd' := Lib.hid hd
   simp only [hd] at HD
   clear hd
   cases d
   ·go_wp2_with fail
    refine (HD.out _ hF.out).mono ?_
    rintro e w3 ⟨rfl, f3⟩
    go_wp2
    go_ret
    exact ⟨k, rfl, by
     have h9 : xs.all (deepE n) = false := by
      rw [List.all_eq_false]
      exact ⟨_, hmem, by rw [hd'.out]; decide⟩
     rw [h9]; simp, hF.out.trans f3⟩
   ·go_wp2_with fail
    refine (HD.out _ hF.out).mono ?_
    rintro e w3 ⟨rfl, f3⟩
    have F3 := Lib.hid (hF.out.trans f3)
    have hI2 : Hid (∀ x ∈ xs.take (k + 1), deepE n x = true) := Lib.hid fun x hx => by
     rw [hnx.out, List.mem_append] at hx
     rcases hx with hx | hx
     ·exact hI.out x hx
     ·rw [List.mem_singleton] at hx; subst hx; exact hd'.out
    clear f3
    go_wp2
    go_roundw
    case rel => exact ⟨k + 1, by omega, by go_num, hI2, F3⟩
    case measure => simp [intOf] <;> omega
  ·obtain rfl : k = xs.length := by omega
   rw [List.take_length] at hI
   go_wp2
   go_ret
   exact ⟨-1, rfl, by
    have h9 : xs.all (deepE n) = true := List.all_eq_true.2 hI.out
    rw [h9]; decide, hF.out⟩
end Go.Proofs.YtdjffkkbjbiihaaGreatDoor
namespace Go.Proofs.YtdjffkkbjbiihaaGreatDoor
open Go.RowKit
set_option maxHeartbeats 1600000 in
theorem contE_any {n m M : Nat} (IH : DeepOk n) (hn : n < 1000) (A : Option Addr) (c : Nat) (xs : List Ex) (p : Nat) (w : World) (h : SlRep 6 M (RX0 m w) w (.slice A xs.length c) xs) (hM : M ≤ 9223372036854775807) (hp : w.cell? ⟨p, 0, none⟩ = some (.int .i64 ((n + 1 : Nat) : Int))) :
  Calls Tryz.prog 324 #[.slice A xs.length c, .func (.func 325) #[] #[.pointer (some ⟨p, 0, none⟩)]] w fun e w' => e = .returned (.bool (!xs.all (deepE n))) ∧ Fut w w' := by
 have HI := Lib.hid (idxE_any IH hn A c xs p w h hM hp)
 obtain ⟨b, hb⟩ : ∃ b, (!xs.all (deepE n)) = b := ⟨_, rfl⟩
 rw [hb] at HI ⊢
 clear h hp IH hb
 go_enter Tryz.func324, Tryz.ntmps324
 go_wp2_with fail
 refine HI.out.mono ?_
 rintro e w1 ⟨r, rfl, hr, f1⟩
 by_cases h0 : 0 ≤ r
 ·obtain rfl : b = true := by rw [← hr]; simp [h0]
  have h0' : r ≥ 0 := h0
  go_wp2
  go_ret
  exact ⟨by first | rfl | simp, f1⟩
 ·obtain rfl : b = false := by rw [← hr]; simp [h0]
  have h0' : ¬ r ≥ 0 := h0
  go_wp2
  go_ret
  exact ⟨by first | rfl | simp, f1⟩
set_option maxHeartbeats 2000000 in
set_option maxRecDepth 100000 in
theorem deep_any : ∀ n, n < 1000 → DeepOk n
 | 0, _ => fun x A c m w h => by
  unfold Ex.cs
  generalize x.kids.length = l at *
  go_enter Tryz.func310, Tryz.ntmps310
  go_wp2
  go_ret
  exact ⟨rfl, (Fut.alloc _ _).trans (Fut.alloc _ _)⟩
 | n + 1, hn => fun x A c m w h => by
  have IH := Lib.hid (deep_any n (by omega))
  obtain ⟨m', op, t, ks, A', c', hm, rfl, hcs, hk1, hk2, hks⟩ := ex_form h
  obtain ⟨kv', hcs', hw1, ht, _⟩ : ∃ kv, (Ex.mk op t ks).cs (.slice A ks.length c) = [.int .i8 op, .string t.v, .int .i8 t.x.k, .int .i64 t.x.n, .string t.x.s, kv] ∧ (Lit.int .i8 op).wf = true ∧ t.ok ∧ SlRep 6 1759218604441 (RE m') w kv ks := by subst hm; exact h
  have eA : A = A' ∧ c = c' := by
   unfold Ex.cs at hcs
   injection hcs with _ hcs; injection hcs with _ hcs; injection hcs with _ hcs; injection hcs with _ hcs; injection hcs with _ hcs; injection hcs with hcs _
   injection hcs with q1 _ q2
   exact ⟨q1, q2⟩
  obtain ⟨rfl, rfl⟩ := eA
  have HK := Lib.hid ((hks.imp fun cs x h => (h : RX0 m' w w cs x)))
  have HS := Lib.hid (fun W => solidT_any t W ht)
  have HN := Lib.hid (fun W => noneT_any t W)
  have HC := Lib.hid (fun (W : World) (hW : Fut w W) (p : Nat) (hp : W.cell? ⟨p, 0, none⟩ = some (.int .i64 ((n + 1 : Nat) : Int))) => contE_any (M := 1759218604441) IH.out (by omega) A c ks p W ((hks.fut (RE.stays m') hW).imp fun cs x h => (h : RX0 m' W W cs x)) (by omega) hp)
  obtain ⟨b, hb⟩ : ∃ b, deepE (n + 1) (Ex.mk op t ks) = b := ⟨_, rfl⟩
  rw [hb]
  replace hb : (if op = 0 then decide (ks.length = 0) && t.solid else t.zero && decide ((ks.length : Int) = arityE op) && ks.all (deepE n)) = b := hb
  show Calls _ _ #[.agg #[.int .i8 op, .string t.v, .int .i8 t.x.k, .int .i64 t.x.n, .string t.x.s, .slice A ks.length c], .int .i64 ((n + 1 : Nat) : Int)] w _
  clear h hcs hcs' hks hw1 ht HK
  replace hb := Lib.hid hb
  obtain ⟨s, hs⟩ : ∃ s, t.solid = s := ⟨_, rfl⟩
  obtain ⟨z, hz⟩ : ∃ z, t.zero = z := ⟨_, rfl⟩
  obtain ⟨al, hal⟩ : ∃ al, ks.all (deepE n) = al := ⟨_, rfl⟩
  obtain ⟨l, hlk⟩ : ∃ l, ks.length = l := ⟨_, rfl⟩
  rw [hs] at HS hb
  rw [hz] at HN hb
  rw [hal] at HC hb
  rw [hlk] at HC hb ⊢
  clear hs hz hal hlk hk1
  have hnz : ¬ ((n : Int) + 1 = 0) := by omega
  by_cases ho : op = 0
  ·subst ho
   by_cases hl : l = 0
   ·subst hl
    obtain rfl : b = s := by rw [← hb.out]; simp
    cases b
    all_goals
     go_enter Tryz.func310, Tryz.ntmps310
     go_wp2_with fail
     refine (HS.out _).mono ?_
     rintro e w1 ⟨rfl, f1⟩
     go_wp2
     go_ret
     exact ⟨by first | rfl | simp, ((Fut.alloc _ _).trans (Fut.alloc _ _)).trans f1⟩
   ·obtain rfl : b = false := by rw [← hb.out]; simp [hl]
    have hlI : ((l : Int) == 0) = false := by rw [beq_eq_false_iff_ne]; omega
    have hlJ : ¬ (l : Int) = 0 := by omega
    go_enter Tryz.func310, Tryz.ntmps310
    go_wp2
    go_ret
    exact ⟨by first | rfl | simp, (Fut.alloc _ _).trans (Fut.alloc _ _)⟩
  ·have hoI : (op == 0) = false := by rw [beq_eq_false_iff_ne]; exact ho
   have hbo := Lib.hid (show (z && decide ((l : Int) = arityE op) && al) = b by rw [← hb.out, if_neg ho])
   clear hb
   cases z
   ·obtain rfl : b = false := by rw [← hbo.out]; simp
    have hB0 := heap_alloc_new w (.cells #[.int .i8 op, .string t.v, .int .i8 t.x.k, .int .i64 t.x.n, .string t.x.s, .slice A l c] 117)
    have hB1 := (Fut.alloc (w.alloc (.cells #[.int .i8 op, .string t.v, .int .i8 t.x.k, .int .i64 t.x.n, .string t.x.s, .slice A l c] 117)) (.cells #[.int .i64 ((n + 1 : Nat) : Int)] 3)).block hB0
    have hB2 := heap_alloc_new (w.alloc (.cells #[.int .i8 op, .string t.v, .int .i8 t.x.k, .int .i64 t.x.n, .string t.x.s, .slice A l c] 117)) (.cells #[.int .i64 ((n + 1 : Nat) : Int)] 3)
    have hsz : (w.alloc (.cells #[.int .i8 op, .string t.v, .int .i8 t.x.k, .int .i64 t.x.n, .string t.x.s, .slice A l c] 117)).heap.size = w.heap.size + 1 := by simp
    rw [hsz] at hB2
    have FB := Lib.hid ((Fut.alloc w (.cells #[.int .i8 op, .string t.v, .int .i8 t.x.k, .int .i64 t.x.n, .string t.x.s, .slice A l c] 117)).trans (Fut.alloc (w.alloc (.cells #[.int .i8 op, .string t.v, .int .i8 t.x.k, .int .i64 t.x.n, .string t.x.s, .slice A l c] 117)) (.cells #[.int .i64 ((n + 1 : Nat) : Int)] 3)))
    have y0 := cell_at hB1 0 (.int .i8 op) rfl
    have y1 := cell_at hB1 1 (.string t.v) rfl
    have y2 := cell_at hB1 2 (.int .i8 t.x.k) rfl
    have y3 := cell_at hB1 3 (.int .i64 t.x.n) rfl
    have y4 := cell_at hB1 4 (.string t.x.s) rfl
    have y5 := cell_at hB1 5 (.slice A l c) rfl
    have yl := cell_at hB2 0 (.int .i64 ((n + 1 : Nat) : Int)) rfl
    clear hB0 hB1 hB2 hsz
    go_enter Tryz.func310, Tryz.ntmps310
    go_wp2_with fail
    refine wp_graph 13 [.d, .d, .d, .d, .d, .d, .d, .d, .d, .d, .d, .d, .d] (by kernel_rfl) (by kernel_rfl) (by kernel_rfl) ?_
    simp only [takS, Exs]
    iterate 13 apply Exists.intro
    apply Run.valG (wanted_none rfl _)
    ·intro w1 h1 hk
     have q1 := h1.cell y1; have q2 := h1.cell y2; have q3 := h1.cell y3; have q4 := h1.cell y4
     have hcw := fun b o => Below.cell (p := ⟨b, o, none⟩) h1
     go_simp; rfl
    simp only [actS]
    apply Run.valG (wanted_none rfl _)
    ·intro w1 h1 hk
     have q1 := h1.cell y1; have q2 := h1.cell y2; have q3 := h1.cell y3; have q4 := h1.cell y4
     have hcw := fun b o => Below.cell (p := ⟨b, o, none⟩) h1
     go_simp; rfl
    simp only [actS]
    apply Run.call (wanted_none rfl _) (fun _ _ => by go_simp; exact ⟨rfl, rfl⟩)
    ·intro w1 h1 hk
     have q1 := h1.cell y1; have q2 := h1.cell y2; have q3 := h1.cell y3; have q4 := h1.cell y4
     exact HN.out _
    simp only [actS]
    apply Run.valG (wanted_none rfl _)
    ·intro w1 h1 hk
     have q1 := h1.cell y1; have q2 := h1.cell y2; have q3 := h1.cell y3; have q4 := h1.cell y4
     have hcw := fun b o => Below.cell (p := ⟨b, o, none⟩) h1
     go_simp; rfl
    simp only [actS]
    apply Run.valG (wanted_none rfl _)
    ·intro w1 h1 hk
     have q1 := h1.cell y1; have q2 := h1.cell y2; have q3 := h1.cell y3; have q4 := h1.cell y4
     have hcw := fun b o => Below.cell (p := ⟨b, o, none⟩) h1
     go_simp; rfl
    simp only [actS]
    apply Run.skip (by first | (go_simp; done) | (go_simp; exact fun h => nomatch h))
    simp only [actS]
    apply Run.skip (by first | (go_simp; done) | (go_simp; exact fun h => nomatch h))
    simp only [actS]
    apply Run.skip (by first | (go_simp; done) | (go_simp; exact fun h => nomatch h))
    simp only [actS]
    apply Run.skip (by first | (go_simp; done) | (go_simp; exact fun h => nomatch h))
    simp only [actS]
    apply Run.skip (by first | (go_simp; done) | (go_simp; exact fun h => nomatch h))
    simp only [actS]
    apply Run.skip (by first | (go_simp; done) | (go_simp; exact fun h => nomatch h))
    simp only [actS]
    apply Run.skip (by first | (go_simp; done) | (go_simp; exact fun h => nomatch h))
    simp only [actS]
    apply Run.valG (wanted_none rfl _)
    ·intro w1 h1 hk
     have q1 := h1.cell y1; have q2 := h1.cell y2; have q3 := h1.cell y3; have q4 := h1.cell y4
     have hcw := fun b o => Below.cell (p := ⟨b, o, none⟩) h1
     go_simp; rfl
    simp only [actS]
    apply Run.done
    intro w2 h2 hk
    clear hk
    have F2 := Lib.hid (FB.out.trans ((Fut.drew _).trans h2))
    clear h2
    go_wp2
    go_ret
    exact ⟨by first | rfl | simp, F2.out⟩
   ·by_cases hla : (l : Int) = arityE op
    ·obtain rfl : b = al := by rw [← hbo.out]; simp [hla]
     have hB0 := heap_alloc_new w (.cells #[.int .i8 op, .string t.v, .int .i8 t.x.k, .int .i64 t.x.n, .string t.x.s, .slice A l c] 117)
     have hB1 := (Fut.alloc (w.alloc (.cells #[.int .i8 op, .string t.v, .int .i8 t.x.k, .int .i64 t.x.n, .string t.x.s, .slice A l c] 117)) (.cells #[.int .i64 ((n + 1 : Nat) : Int)] 3)).block hB0
     have hB2 := heap_alloc_new (w.alloc (.cells #[.int .i8 op, .string t.v, .int .i8 t.x.k, .int .i64 t.x.n, .string t.x.s, .slice A l c] 117)) (.cells #[.int .i64 ((n + 1 : Nat) : Int)] 3)
     have hsz : (w.alloc (.cells #[.int .i8 op, .string t.v, .int .i8 t.x.k, .int .i64 t.x.n, .string t.x.s, .slice A l c] 117)).heap.size = w.heap.size + 1 := by simp
     rw [hsz] at hB2
     have FB := Lib.hid ((Fut.alloc w (.cells #[.int .i8 op, .string t.v, .int .i8 t.x.k, .int .i64 t.x.n, .string t.x.s, .slice A l c] 117)).trans (Fut.alloc (w.alloc (.cells #[.int .i8 op, .string t.v, .int .i8 t.x.k, .int .i64 t.x.n, .string t.x.s, .slice A l c] 117)) (.cells #[.int .i64 ((n + 1 : Nat) : Int)] 3)))
     have y0 := cell_at hB1 0 (.int .i8 op) rfl
     have y1 := cell_at hB1 1 (.string t.v) rfl
     have y2 := cell_at hB1 2 (.int .i8 t.x.k) rfl
     have y3 := cell_at hB1 3 (.int .i64 t.x.n) rfl
     have y4 := cell_at hB1 4 (.string t.x.s) rfl
     have y5 := cell_at hB1 5 (.slice A l c) rfl
     have yl := cell_at hB2 0 (.int .i64 ((n + 1 : Nat) : Int)) rfl
     clear hB0 hB1 hB2 hsz
     go_enter Tryz.func310, Tryz.ntmps310
     go_wp2_with fail
     have hlb : ((l : Int) == arityE op) = true := by rw [hla]; simp
     refine wp_graph 13 [.d, .d, .d, .d, .d, .d, .d, .d, .d, .d, .d, .d, .d] (by kernel_rfl) (by kernel_rfl) (by kernel_rfl) ?_
     simp only [takS, Exs]
     iterate 13 apply Exists.intro
     apply Run.valG (wanted_none rfl _)
     ·intro w1 h1 hk
      have q0 := h1.cell y0; have q1 := h1.cell y1; have q2 := h1.cell y2; have q3 := h1.cell y3; have q4 := h1.cell y4; have q5 := h1.cell y5
      have hcw := fun b o => Below.cell (p := ⟨b, o, none⟩) h1
      go_simp; rfl
     simp only [actS]
     apply Run.valG (wanted_none rfl _)
     ·intro w1 h1 hk
      have q0 := h1.cell y0; have q1 := h1.cell y1; have q2 := h1.cell y2; have q3 := h1.cell y3; have q4 := h1.cell y4; have q5 := h1.cell y5
      have hcw := fun b o => Below.cell (p := ⟨b, o, none⟩) h1
      go_simp; rfl
     simp only [actS]
     apply Run.call (wanted_none rfl _) (fun _ _ => by go_simp; exact ⟨rfl, rfl⟩)
     ·intro w1 h1 hk
      have q0 := h1.cell y0; have q1 := h1.cell y1; have q2 := h1.cell y2; have q3 := h1.cell y3; have q4 := h1.cell y4; have q5 := h1.cell y5
      exact HN.out _
     simp only [actS]
     apply Run.valG (wanted_none rfl _)
     ·intro w1 h1 hk
      have q0 := h1.cell y0; have q1 := h1.cell y1; have q2 := h1.cell y2; have q3 := h1.cell y3; have q4 := h1.cell y4; have q5 := h1.cell y5
      have hcw := fun b o => Below.cell (p := ⟨b, o, none⟩) h1
      go_simp; rfl
     simp only [actS]
     apply Run.valG (wanted_none rfl _)
     ·intro w1 h1 hk
      have q0 := h1.cell y0; have q1 := h1.cell y1; have q2 := h1.cell y2; have q3 := h1.cell y3; have q4 := h1.cell y4; have q5 := h1.cell y5
      have hcw := fun b o => Below.cell (p := ⟨b, o, none⟩) h1
      go_simp; rfl
     simp only [actS]
     apply Run.valG (by go_simp)
     ·intro w1 h1 hk
      have q0 := h1.cell y0; have q1 := h1.cell y1; have q2 := h1.cell y2; have q3 := h1.cell y3; have q4 := h1.cell y4; have q5 := h1.cell y5
      have hcw := fun b o => Below.cell (p := ⟨b, o, none⟩) h1
      go_simp; rfl
     simp only [actS]
     apply Run.valG (by go_simp)
     ·intro w1 h1 hk
      have q0 := h1.cell y0; have q1 := h1.cell y1; have q2 := h1.cell y2; have q3 := h1.cell y3; have q4 := h1.cell y4; have q5 := h1.cell y5
      have hcw := fun b o => Below.cell (p := ⟨b, o, none⟩) h1
      go_simp; rfl
     simp only [actS]
     apply Run.valG (by go_simp)
     ·intro w1 h1 hk
      have q0 := h1.cell y0; have q1 := h1.cell y1; have q2 := h1.cell y2; have q3 := h1.cell y3; have q4 := h1.cell y4; have q5 := h1.cell y5
      have hcw := fun b o => Below.cell (p := ⟨b, o, none⟩) h1
      go_simp; rfl
     simp only [actS]
     apply Run.valG (by go_simp)
     ·intro w1 h1 hk
      have q0 := h1.cell y0; have q1 := h1.cell y1; have q2 := h1.cell y2; have q3 := h1.cell y3; have q4 := h1.cell y4; have q5 := h1.cell y5
      have hcw := fun b o => Below.cell (p := ⟨b, o, none⟩) h1
      go_simp; rfl
     simp only [actS]
     apply Run.valG (by go_simp)
     ·intro w1 h1 hk
      have q0 := h1.cell y0; have q1 := h1.cell y1; have q2 := h1.cell y2; have q3 := h1.cell y3; have q4 := h1.cell y4; have q5 := h1.cell y5
      have hcw := fun b o => Below.cell (p := ⟨b, o, none⟩) h1
      go_simp; rfl
     simp only [actS]
     apply Run.call (by go_simp) (fun _ _ => by go_simp; exact ⟨rfl, rfl⟩)
     ·intro w1 h1 hk
      have q0 := h1.cell y0; have q1 := h1.cell y1; have q2 := h1.cell y2; have q3 := h1.cell y3; have q4 := h1.cell y4; have q5 := h1.cell y5
      exact (arityT_any op _).mono fun e w' ⟨h, hw⟩ => ⟨h, hw ▸ Fut.refl _⟩
     simp only [actS]
     apply Run.valG (by go_simp)
     ·intro w1 h1 hk
      have q0 := h1.cell y0; have q1 := h1.cell y1; have q2 := h1.cell y2; have q3 := h1.cell y3; have q4 := h1.cell y4; have q5 := h1.cell y5
      have hcw := fun b o => Below.cell (p := ⟨b, o, none⟩) h1
      go_simp; rfl
     simp only [actS]
     apply Run.valG (wanted_none rfl _)
     ·intro w1 h1 hk
      have q0 := h1.cell y0; have q1 := h1.cell y1; have q2 := h1.cell y2; have q3 := h1.cell y3; have q4 := h1.cell y4; have q5 := h1.cell y5
      have hcw := fun b o => Below.cell (p := ⟨b, o, none⟩) h1
      go_simp; rfl
     simp only [actS]
     apply Run.done
     intro w2 h2 hk
     clear hk
     have F2 := (Fut.drew _).trans h2
     have x5 := F2.cell y5
     have xl := F2.cell yl
     have FW := Lib.hid (FB.out.trans F2)
     clear h2 F2 y0 y1 y2 y3 y4 y5 yl
     cases b
     all_goals
      go_wp2_with fail
      refine (HC.out _ FW.out _ xl).mono ?_
      rintro e w3 ⟨rfl, f3⟩
      go_wp2
      go_ret
      exact ⟨by first | rfl | simp, FW.out.trans f3⟩
    ·obtain rfl : b = false := by rw [← hbo.out]; simp [hla]
     have hB0 := heap_alloc_new w (.cells #[.int .i8 op, .string t.v, .int .i8 t.x.k, .int .i64 t.x.n, .string t.x.s, .slice A l c] 117)
     have hB1 := (Fut.alloc (w.alloc (.cells #[.int .i8 op, .string t.v, .int .i8 t.x.k, .int .i64 t.x.n, .string t.x.s, .slice A l c] 117)) (.cells #[.int .i64 ((n + 1 : Nat) : Int)] 3)).block hB0
     have hB2 := heap_alloc_new (w.alloc (.cells #[.int .i8 op, .string t.v, .int .i8 t.x.k, .int .i64 t.x.n, .string t.x.s, .slice A l c] 117)) (.cells #[.int .i64 ((n + 1 : Nat) : Int)] 3)
     have hsz : (w.alloc (.cells #[.int .i8 op, .string t.v, .int .i8 t.x.k, .int .i64 t.x.n, .string t.x.s, .slice A l c] 117)).heap.size = w.heap.size + 1 := by simp
     rw [hsz] at hB2
     have FB := Lib.hid ((Fut.alloc w (.cells #[.int .i8 op, .string t.v, .int .i8 t.x.k, .int .i64 t.x.n, .string t.x.s, .slice A l c] 117)).trans (Fut.alloc (w.alloc (.cells #[.int .i8 op, .string t.v, .int .i8 t.x.k, .int .i64 t.x.n, .string t.x.s, .slice A l c] 117)) (.cells #[.int .i64 ((n + 1 : Nat) : Int)] 3)))
     have y0 := cell_at hB1 0 (.int .i8 op) rfl
     have y1 := cell_at hB1 1 (.string t.v) rfl
     have y2 := cell_at hB1 2 (.int .i8 t.x.k) rfl
     have y3 := cell_at hB1 3 (.int .i64 t.x.n) rfl
     have y4 := cell_at hB1 4 (.string t.x.s) rfl
     have y5 := cell_at hB1 5 (.slice A l c) rfl
     have yl := cell_at hB2 0 (.int .i64 ((n + 1 : Nat) : Int)) rfl
     clear hB0 hB1 hB2 hsz
     go_enter Tryz.func310, Tryz.ntmps310
     go_wp2_with fail
     have hlb : ((l : Int) == arityE op) = false := by rw [beq_eq_false_iff_ne]; exact hla
     refine wp_graph 13 [.d, .d, .d, .d, .d, .d, .d, .d, .d, .d, .d, .d, .d] (by kernel_rfl) (by kernel_rfl) (by kernel_rfl) ?_
     simp only [takS, Exs]
     iterate 13 apply Exists.intro
     apply Run.valG (wanted_none rfl _)
     ·intro w1 h1 hk
      have q0 := h1.cell y0; have q1 := h1.cell y1; have q2 := h1.cell y2; have q3 := h1.cell y3; have q4 := h1.cell y4; have q5 := h1.cell y5
      have hcw := fun b o => Below.cell (p := ⟨b, o, none⟩) h1
      go_simp; rfl
     simp only [actS]
     apply Run.valG (wanted_none rfl _)
     ·intro w1 h1 hk
      have q0 := h1.cell y0; have q1 := h1.cell y1; have q2 := h1.cell y2; have q3 := h1.cell y3; have q4 := h1.cell y4; have q5 := h1.cell y5
      have hcw := fun b o => Below.cell (p := ⟨b, o, none⟩) h1
      go_simp; rfl
     simp only [actS]
     apply Run.call (wanted_none rfl _) (fun _ _ => by go_simp; exact ⟨rfl, rfl⟩)
     ·intro w1 h1 hk
      have q0 := h1.cell y0; have q1 := h1.cell y1; have q2 := h1.cell y2; have q3 := h1.cell y3; have q4 := h1.cell y4; have q5 := h1.cell y5
      exact HN.out _
     simp only [actS]
     apply Run.valG (wanted_none rfl _)
     ·intro w1 h1 hk
      have q0 := h1.cell y0; have q1 := h1.cell y1; have q2 := h1.cell y2; have q3 := h1.cell y3; have q4 := h1.cell y4; have q5 := h1.cell y5
      have hcw := fun b o => Below.cell (p := ⟨b, o, none⟩) h1
      go_simp; rfl
     simp only [actS]
     apply Run.valG (wanted_none rfl _)
     ·intro w1 h1 hk
      have q0 := h1.cell y0; have q1 := h1.cell y1; have q2 := h1.cell y2; have q3 := h1.cell y3; have q4 := h1.cell y4; have q5 := h1.cell y5
      have hcw := fun b o => Below.cell (p := ⟨b, o, none⟩) h1
      go_simp; rfl
     simp only [actS]
     apply Run.valG (by go_simp)
     ·intro w1 h1 hk
      have q0 := h1.cell y0; have q1 := h1.cell y1; have q2 := h1.cell y2; have q3 := h1.cell y3; have q4 := h1.cell y4; have q5 := h1.cell y5
      have hcw := fun b o => Below.cell (p := ⟨b, o, none⟩) h1
      go_simp; rfl
     simp only [actS]
     apply Run.valG (by go_simp)
     ·intro w1 h1 hk
      have q0 := h1.cell y0; have q1 := h1.cell y1; have q2 := h1.cell y2; have q3 := h1.cell y3; have q4 := h1.cell y4; have q5 := h1.cell y5
      have hcw := fun b o => Below.cell (p := ⟨b, o, none⟩) h1
      go_simp; rfl
     simp only [actS]
     apply Run.valG (by go_simp)
     ·intro w1 h1 hk
      have q0 := h1.cell y0; have q1 := h1.cell y1; have q2 := h1.cell y2; have q3 := h1.cell y3; have q4 := h1.cell y4; have q5 := h1.cell y5
      have hcw := fun b o => Below.cell (p := ⟨b, o, none⟩) h1
      go_simp; rfl
     simp only [actS]
     apply Run.valG (by go_simp)
     ·intro w1 h1 hk
      have q0 := h1.cell y0; have q1 := h1.cell y1; have q2 := h1.cell y2; have q3 := h1.cell y3; have q4 := h1.cell y4; have q5 := h1.cell y5
      have hcw := fun b o => Below.cell (p := ⟨b, o, none⟩) h1
      go_simp; rfl
     simp only [actS]
     apply Run.valG (by go_simp)
     ·intro w1 h1 hk
      have q0 := h1.cell y0; have q1 := h1.cell y1; have q2 := h1.cell y2; have q3 := h1.cell y3; have q4 := h1.cell y4; have q5 := h1.cell y5
      have hcw := fun b o => Below.cell (p := ⟨b, o, none⟩) h1
      go_simp; rfl
     simp only [actS]
     apply Run.call (by go_simp) (fun _ _ => by go_simp; exact ⟨rfl, rfl⟩)
     ·intro w1 h1 hk
      have q0 := h1.cell y0; have q1 := h1.cell y1; have q2 := h1.cell y2; have q3 := h1.cell y3; have q4 := h1.cell y4; have q5 := h1.cell y5
      exact (arityT_any op _).mono fun e w' ⟨h, hw⟩ => ⟨h, hw ▸ Fut.refl _⟩
     simp only [actS]
     apply Run.valG (by go_simp)
     ·intro w1 h1 hk
      have q0 := h1.cell y0; have q1 := h1.cell y1; have q2 := h1.cell y2; have q3 := h1.cell y3; have q4 := h1.cell y4; have q5 := h1.cell y5
      have hcw := fun b o => Below.cell (p := ⟨b, o, none⟩) h1
      go_simp; rfl
     simp only [actS]
     apply Run.valG (wanted_none rfl _)
     ·intro w1 h1 hk
      have q0 := h1.cell y0; have q1 := h1.cell y1; have q2 := h1.cell y2; have q3 := h1.cell y3; have q4 := h1.cell y4; have q5 := h1.cell y5
      have hcw := fun b o => Below.cell (p := ⟨b, o, none⟩) h1
      go_simp; rfl
     simp only [actS]
     apply Run.done
     intro w2 h2 hk
     clear hk
     have F2 := Lib.hid (FB.out.trans ((Fut.drew _).trans h2))
     clear h2 y0 y1 y2 y3 y4 y5 yl
     go_wp2
     go_ret
     exact ⟨by first | rfl | simp, F2.out⟩
end Go.Proofs.YtdjffkkbjbiihaaGreatDoor
namespace Go.Proofs.YtdjffkkbjbiihaaGreatDoor
open Go.RowKit
set_option maxHeartbeats 1600000 in
theorem checkE_any (x : Ex) (A : Option Addr) (c m : Nat) (w : World) (h : RE m w (x.cs (.slice A x.kids.length c)) x) : Calls Tryz.prog 288 #[.agg (x.cs (.slice A x.kids.length c)).toArray] w fun e w' => e = .returned (.int .i64 (if deepE 8 x = true then 0 else 40)) ∧ Fut w w' := by
 have HD := Lib.hid (fun W (hW : Fut w W) => deep_any 8 (by decide) x A c m W (RE.stays m _ _ _ _ hW h))
 obtain ⟨b, hb⟩ : ∃ b, deepE 8 x = b := ⟨_, rfl⟩
 rw [hb] at HD ⊢
 clear h hb
 unfold Ex.cs at HD ⊢
 generalize x.kids.length = l at *
 generalize x.op = o at *
 generalize x.t = t at *
 go_enter Tryz.func288, Tryz.ntmps288
 go_wp2_with fail
 refine (HD.out _ (Fut.alloc _ _)).mono ?_
 rintro e w1 ⟨rfl, f1⟩
 go_wp2_with fail
 refine (codeT_any _ _).mono ?_
 rintro e w2 ⟨rfl, rfl⟩
 cases b
 all_goals
  go_wp2
  go_ret
  exact ⟨by first | rfl | simp, (Fut.alloc _ _).trans f1⟩
theorem tm_at {M : Nat} {w : World} {A : Option Addr} {n cap : Nat} {xs : List Tm} (h : SlRep 4 M RTm w (.slice A n cap) xs) {k : Nat} (hk : k < xs.length) :
  ∃ b off, A = some ⟨b, off, none⟩ ∧ (xs[k]).ok ∧ w.cell? ⟨b, off + k * 4, none⟩ = some (.string (xs[k]).v) ∧ w.cell? ⟨b, off + k * 4 + 1, none⟩ = some (.int .i8 (xs[k]).x.k) ∧ w.cell? ⟨b, off + k * 4 + 2, none⟩ = some (.int .i64 (xs[k]).x.n) ∧ w.cell? ⟨b, off + k * 4 + 3, none⟩ = some (.string (xs[k]).x.s) := by
 obtain ⟨A1, cap1, hv, _, _, h3⟩ := h
 obtain ⟨b, off, cs, hA, hl, hc, hr, hok⟩ := h3 k _ (List.getElem?_eq_getElem hk)
 injection hv with hv _ _
 subst hr
 exact ⟨b, off, hv.trans hA, hok, hc 0 _ rfl, hc 1 _ rfl, hc 2 _ rfl, hc 3 _ rfl⟩
set_option maxHeartbeats 1600000 in
theorem atom1_any (t : Tm) (w : World) (ht : t.ok) : Calls Tryz.prog 309 #[.agg #[.string t.v, .int .i8 t.x.k, .int .i64 t.x.n, .string t.x.s]] w fun e w' => e = .returned (.bool (!t.good)) ∧ Fut w w' := by
 have HC := Lib.hid (fun W => checkT_any t W ht)
 obtain ⟨b, hb⟩ : ∃ b, t.good = b := ⟨_, rfl⟩
 rw [hb] at HC ⊢
 clear hb ht
 cases b
 all_goals
  go_enter Tryz.func309, Tryz.ntmps309
  go_wp2_with fail
  refine (HC.out _).mono ?_
  rintro e w1 ⟨rfl, f1⟩
  go_wp2
  go_ret
  exact ⟨by first | rfl | simp, (Fut.alloc _ _).trans f1⟩
set_option maxHeartbeats 1600000 in
set_option maxRecDepth 100000 in
theorem idxT_any {M : Nat} (A : Option Addr) (c : Nat) (xs : List Tm) (w : World) (h : SlRep 4 M RTm w (.slice A xs.length c) xs) (hM : M ≤ 9223372036854775807) :
  Calls Tryz.prog 322 #[.slice A xs.length c, .func (.func 309) #[] #[]] w fun e w' => ∃ r : Int, e = .returned (.int .i64 r) ∧ decide (0 ≤ r) = !xs.all Tm.good ∧ Fut w w' := by
 have H := Lib.hid h
 obtain ⟨_, _, hv, hl1, hl2⟩ := h.form
 have hxl : xs.length ≤ 9223372036854775807 := by omega
 clear h hv hl1 hl2
 go_enter Tryz.func322, Tryz.ntmps322
 go_wp2_with fail
 go_loopw [8] (fun i wr => ∃ k : Nat, k ≤ xs.length ∧ i = .int .i64 k ∧ Hid (∀ x ∈ xs.take k, x.good = true) ∧ Hid (Fut w wr)) (fun i _ => xs.length - (intOf i).toNat)
 case atStart => exact ⟨0, Nat.zero_le _, rfl, Lib.hid (fun x hx => by simp at hx), Lib.hid (Fut.refl _)⟩
 case round =>
  obtain ⟨k, hk, rfl, hI, hF⟩ := hrel
  by_cases hlt : k < xs.length
  ·have hltI : (k : Int) < xs.length := by omega
   have e0 : (0 : Int) ≤ k ∧ (k : Int) < xs.length := by omega
   obtain ⟨b, off, rfl, hok, y0, y1, y2, y3⟩ := tm_at (H.out.fut RTm.stays hF.out) hlt
   have hnx : Hid (xs.take (k + 1) = xs.take k ++ [xs[k]]) := Lib.hid (List.take_succ_eq_append_getElem hlt)
   have hmem : xs[k] ∈ xs := List.getElem_mem hlt
   generalize xs[k] = t at *
   have HD := Lib.hid (fun W => atom1_any t W hok)
   obtain ⟨d, hd⟩ : ∃ d, t.good = d := ⟨_, rfl⟩
   have hd' := Lib.hid hd
   rw [hd] at HD
   clear hd
   cases d
   ·go_wp2_with fail
    refine (HD.out _).mono ?_
    rintro e w3 ⟨rfl, f3⟩
    go_wp2
    go_ret
    exact ⟨k, rfl, by
     have h9 : xs.all Tm.good = false := by
      rw [List.all_eq_false]
      exact ⟨_, hmem, by rw [hd'.out]; decide⟩
     rw [h9]; simp, hF.out.trans f3⟩
   ·go_wp2_with fail
    refine (HD.out _).mono ?_
    rintro e w3 ⟨rfl, f3⟩
    have F3 := Lib.hid (hF.out.trans f3)
    have hI2 : Hid (∀ x ∈ xs.take (k + 1), x.good = true) := Lib.hid fun x hx => by
     rw [hnx.out, List.mem_append] at hx
     rcases hx with hx | hx
     ·exact hI.out x hx
     ·rw [List.mem_singleton] at hx; subst hx; exact hd'.out
    clear f3
    go_wp2
    go_roundw
    case rel => exact ⟨k + 1, by omega, by go_num, hI2, F3⟩
    case measure => simp [intOf] <;> omega
  ·obtain rfl : k = xs.length := by omega
   rw [List.take_length] at hI
   go_wp2
   go_ret
   exact ⟨-1, rfl, by
    have h9 : xs.all Tm.good = true := List.all_eq_true.2 hI.out
    rw [h9]; decide, hF.out⟩
set_option maxHeartbeats 1600000 in
theorem contT_any {M : Nat} (A : Option Addr) (c : Nat) (xs : List Tm) (w : World) (h : SlRep 4 M RTm w (.slice A xs.length c) xs) (hM : M ≤ 9223372036854775807) :
  Calls Tryz.prog 308 #[.slice A xs.length c, .func (.func 309) #[] #[]] w fun e w' => e = .returned (.bool (!xs.all Tm.good)) ∧ Fut w w' := by
 have HI := Lib.hid (idxT_any A c xs w h hM)
 obtain ⟨b, hb⟩ : ∃ b, (!xs.all Tm.good) = b := ⟨_, rfl⟩
 rw [hb] at HI ⊢
 clear h hb
 go_enter Tryz.func308, Tryz.ntmps308
 go_wp2_with fail
 refine HI.out.mono ?_
 rintro e w1 ⟨r, rfl, hr, f1⟩
 by_cases h0 : 0 ≤ r
 ·obtain rfl : b = true := by rw [← hr]; simp [h0]
  have h0' : r ≥ 0 := h0
  go_wp2
  go_ret
  exact ⟨by first | rfl | simp, f1⟩
 ·obtain rfl : b = false := by rw [← hr]; simp [h0]
  have h0' : ¬ r ≥ 0 := h0
  go_wp2
  go_ret
  exact ⟨by first | rfl | simp, f1⟩
def atomG (p : ByteArray) (a : List Tm) : Bool := nameT p && decide (a.length ≤ 24) && a.all Tm.good
set_option maxHeartbeats 1600000 in
set_option maxRecDepth 100000 in
theorem checkA_any {M : Nat} (p : ByteArray) (A : Option Addr) (c : Nat) (xs : List Tm) (w : World) (h : SlRep 4 M RTm w (.slice A xs.length c) xs) (hM : M ≤ 9223372036854775807) (hp : p.size ≤ 140737488351232) :
  Calls Tryz.prog 287 #[.agg #[.string p, .slice A xs.length c]] w fun e w' => e = .returned (.int .i64 (if atomG p xs = true then 0 else 40)) ∧ Fut w w' := by
 have HN := Lib.hid (fun W => nameT_any p W hp)
 have HC := Lib.hid (fun W (hW : Fut w W) => contT_any A c xs W (h.fut RTm.stays hW) hM)
 obtain ⟨b, hb⟩ : ∃ b, atomG p xs = b := ⟨_, rfl⟩
 rw [hb]
 unfold atomG at hb
 obtain ⟨n, hn⟩ : ∃ n, nameT p = n := ⟨_, rfl⟩
 obtain ⟨al, hal⟩ : ∃ al, xs.all Tm.good = al := ⟨_, rfl⟩
 rw [hn] at HN hb
 rw [hal] at HC hb
 clear hn hal h
 replace hb := Lib.hid hb
 have hbx := heap_alloc_new w (.cells #[.string p, .slice A xs.length c] 107)
 cases n
 ·obtain rfl : b = false := by rw [← hb.out]; simp
  go_enter Tryz.func287, Tryz.ntmps287
  go_wp2_with fail
  refine (HN.out _).mono ?_
  rintro e w1 ⟨rfl, f1⟩
  go_wp2_with fail
  refine (codeT_any _ _).mono ?_
  rintro e w2 ⟨rfl, rfl⟩
  go_wp2
  go_ret
  exact ⟨by first | rfl | simp, (Fut.alloc _ _).trans f1⟩
 ·by_cases hl : xs.length ≤ 24
  ·have hlI : (xs.length : Int) ≤ 24 := by omega
   obtain rfl : b = al := by rw [← hb.out]; simp [hl]
   clear hb
   cases b
   all_goals
    go_enter Tryz.func287, Tryz.ntmps287
    go_wp2_with fail
    refine (HN.out _).mono ?_
    rintro e w1 ⟨rfl, f1⟩
    have y1 := cell_at (f1.block hbx) 1 (.slice A xs.length c) rfl
    have F1 := Lib.hid ((Fut.alloc _ _).trans f1)
    clear f1
    go_wp2_with fail
    refine (HC.out _ F1.out).mono ?_
    rintro e w2 ⟨rfl, f2⟩
    go_wp2_with fail
    refine (codeT_any _ _).mono ?_
    rintro e w3 ⟨rfl, rfl⟩
    go_wp2
    go_ret
    exact ⟨by first | rfl | simp, F1.out.trans f2⟩
  ·have hlI : ¬ (xs.length : Int) ≤ 24 := by omega
   obtain rfl : b = false := by rw [← hb.out]; simp [hl]
   go_enter Tryz.func287, Tryz.ntmps287
   go_wp2_with fail
   refine (HN.out _).mono ?_
   rintro e w1 ⟨rfl, f1⟩
   have y1 := cell_at (f1.block hbx) 1 (.slice A xs.length c) rfl
   go_wp2_with fail
   refine (codeT_any _ _).mono ?_
   rintro e w2 ⟨rfl, rfl⟩
   go_wp2
   go_ret
   exact ⟨by first | rfl | simp, (Fut.alloc _ _).trans f1⟩
end Go.Proofs.YtdjffkkbjbiihaaGreatDoor
namespace Go.Proofs.YtdjffkkbjbiihaaGreatDoor
open Go.RowKit
theorem ex_kv {n : Nat} {w : World} {x : Ex} {kv : Value} (h : RE n w (x.cs kv) x) : ∃ A c, kv = .slice A x.kids.length c := by
 obtain ⟨m, op, t, ks, A, c, _, rfl, hcs, _⟩ := ex_form h
 unfold Ex.cs at hcs
 injection hcs with _ hcs; injection hcs with _ hcs; injection hcs with _ hcs; injection hcs with _ hcs; injection hcs with _ hcs; injection hcs with hcs _
 exact ⟨A, c, hcs⟩
def Lt.good (x : Lt) : Bool :=
 if x.k = 1 ∨ x.k = 2 then decide (x.r = 0) && x.l.empty && x.d.empty && atomG x.p x.a
 else if x.k = 3 then decide (x.p.toList = []) && decide (x.a.length = 0) && decide (1 ≤ x.r) && decide (x.r ≤ 6) && deepE 8 x.l && deepE 8 x.d else false
set_option maxHeartbeats 4000000 in
set_option maxRecDepth 100000 in
theorem checkL_any (x : Lt) (A : Option Addr) (c : Nat) (kl kd : Value) (w : World) (h : LtC w x (.slice A x.a.length c) kl kd) :
  Calls Tryz.prog 257 #[.agg (x.cs (.slice A x.a.length c) kl kd).toArray] w fun e w' => e = .returned (.int .i64 (if x.good = true then 0 else 40)) ∧ Fut w w' := by
 obtain ⟨n1, h1⟩ := h.left
 obtain ⟨n2, h2⟩ := h.right
 obtain ⟨Al, cl, rfl⟩ := ex_kv h1
 obtain ⟨Ad, cd, rfl⟩ := ex_kv h2
 have EL := Lib.hid (fun W => emptyT_any x.l Al cl W)
 have ED := Lib.hid (fun W => emptyT_any x.d Ad cd W)
 have XL := Lib.hid (fun W (hW : Fut w W) => checkE_any x.l Al cl n1 W (RE.stays n1 _ _ _ _ hW h1))
 have XD := Lib.hid (fun W (hW : Fut w W) => checkE_any x.d Ad cd n2 W (RE.stays n2 _ _ _ _ hW h2))
 have CA := Lib.hid (fun W (hW : Fut w W) => checkA_any x.p A c x.a W (h.args.fut RTm.stays hW) (by omega) h.pw)
 obtain ⟨b, hb⟩ : ∃ b, x.good = b := ⟨_, rfl⟩
 rw [hb]
 clear h h1 h2
 unfold Lt.good at hb
 unfold Lt.cs
 unfold Ex.cs at EL ED XL XD
 obtain ⟨el, hel⟩ : ∃ el, x.l.empty = el := ⟨_, rfl⟩
 obtain ⟨ed, hed⟩ : ∃ ed, x.d.empty = ed := ⟨_, rfl⟩
 obtain ⟨xl, hxl⟩ : ∃ xl, deepE 8 x.l = xl := ⟨_, rfl⟩
 obtain ⟨xd, hxd⟩ : ∃ xd, deepE 8 x.d = xd := ⟨_, rfl⟩
 obtain ⟨ag, hag⟩ : ∃ ag, atomG x.p x.a = ag := ⟨_, rfl⟩
 rw [hel] at EL hb
 rw [hed] at ED hb
 rw [hxl] at XL hb
 rw [hxd] at XD hb
 rw [hag] at CA hb
 clear hel hed hxl hxd hag
 generalize x.l.kids.length = nl at *
 generalize x.d.kids.length = nd at *
 generalize x.l.op = lo at *
 generalize x.d.op = do' at *
 generalize x.l.t = lt at *
 generalize x.d.t = dt at *
 generalize x.a.length = na at *
 generalize x.k = xk at *
 generalize x.p = xp at *
 generalize x.r = xr at *
 replace hb := Lib.hid hb
 have hbx := heap_alloc_new w (.cells #[.int .i8 xk, .string xp, .slice A na c, .int .i8 xr, .int .i8 lo, .string lt.v, .int .i8 lt.x.k, .int .i64 lt.x.n, .string lt.x.s, .slice Al nl cl, .int .i8 do', .string dt.v, .int .i8 dt.x.k, .int .i64 dt.x.n, .string dt.x.s, .slice Ad nd cd] 119)
 have FB := Lib.hid (Fut.alloc w (.cells #[.int .i8 xk, .string xp, .slice A na c, .int .i8 xr, .int .i8 lo, .string lt.v, .int .i8 lt.x.k, .int .i64 lt.x.n, .string lt.x.s, .slice Al nl cl, .int .i8 do', .string dt.v, .int .i8 dt.x.k, .int .i64 dt.x.n, .string dt.x.s, .slice Ad nd cd] 119))
 by_cases hk : xk = 1 ∨ xk = 2
 ·have hb2 := Lib.hid (show (decide (xr = 0) && el && ed && ag) = b by rw [← hb.out, if_pos hk])
  clear hb
  by_cases hr : xr = 0
  ·subst hr
   cases el
   ·obtain rfl : b = false := by rw [← hb2.out]; simp
    rcases hk with rfl | rfl
    all_goals
     go_enter Tryz.func257, Tryz.ntmps257
     go_wp2_with fail
     refine (EL.out _).mono ?_
     rintro e w1 ⟨rfl, f1⟩
     go_wp2
     go_ret
     exact ⟨by first | rfl | simp, FB.out.trans f1⟩
   ·cases ed
    ·obtain rfl : b = false := by rw [← hb2.out]; simp
     rcases hk with rfl | rfl
     all_goals
      go_enter Tryz.func257, Tryz.ntmps257
      go_wp2_with fail
      refine (EL.out _).mono ?_
      rintro e w1 ⟨rfl, f1⟩
      have y1 := cell_at (f1.block hbx) 1 (.string xp) rfl
      have y2 := cell_at (f1.block hbx) 2 (.slice A na c) rfl
      have y4 := cell_at (f1.block hbx) 4 (.int .i8 lo) rfl
      have y5 := cell_at (f1.block hbx) 5 (.string lt.v) rfl
      have y6 := cell_at (f1.block hbx) 6 (.int .i8 lt.x.k) rfl
      have y7 := cell_at (f1.block hbx) 7 (.int .i64 lt.x.n) rfl
      have y8 := cell_at (f1.block hbx) 8 (.string lt.x.s) rfl
      have y9 := cell_at (f1.block hbx) 9 (.slice Al nl cl) rfl
      have y10 := cell_at (f1.block hbx) 10 (.int .i8 do') rfl
      have y11 := cell_at (f1.block hbx) 11 (.string dt.v) rfl
      have y12 := cell_at (f1.block hbx) 12 (.int .i8 dt.x.k) rfl
      have y13 := cell_at (f1.block hbx) 13 (.int .i64 dt.x.n) rfl
      have y14 := cell_at (f1.block hbx) 14 (.string dt.x.s) rfl
      have y15 := cell_at (f1.block hbx) 15 (.slice Ad nd cd) rfl
      go_wp2_with fail
      refine (ED.out _).mono ?_
      rintro e w2 ⟨rfl, f2⟩
      go_wp2
      go_ret
      exact ⟨by first | rfl | simp, (FB.out.trans f1).trans f2⟩
    ·obtain rfl : b = ag := by rw [← hb2.out]; simp
     clear hb2
     rcases hk with rfl | rfl <;> cases b
     all_goals
      go_enter Tryz.func257, Tryz.ntmps257
      go_wp2_with fail
      refine (EL.out _).mono ?_
      rintro e w1 ⟨rfl, f1⟩
      have y1 := cell_at (f1.block hbx) 1 (.string xp) rfl
      have y2 := cell_at (f1.block hbx) 2 (.slice A na c) rfl
      have y4 := cell_at (f1.block hbx) 4 (.int .i8 lo) rfl
      have y5 := cell_at (f1.block hbx) 5 (.string lt.v) rfl
      have y6 := cell_at (f1.block hbx) 6 (.int .i8 lt.x.k) rfl
      have y7 := cell_at (f1.block hbx) 7 (.int .i64 lt.x.n) rfl
      have y8 := cell_at (f1.block hbx) 8 (.string lt.x.s) rfl
      have y9 := cell_at (f1.block hbx) 9 (.slice Al nl cl) rfl
      have y10 := cell_at (f1.block hbx) 10 (.int .i8 do') rfl
      have y11 := cell_at (f1.block hbx) 11 (.string dt.v) rfl
      have y12 := cell_at (f1.block hbx) 12 (.int .i8 dt.x.k) rfl
      have y13 := cell_at (f1.block hbx) 13 (.int .i64 dt.x.n) rfl
      have y14 := cell_at (f1.block hbx) 14 (.string dt.x.s) rfl
      have y15 := cell_at (f1.block hbx) 15 (.slice Ad nd cd) rfl
      go_wp2_with fail
      refine (ED.out _).mono ?_
      rintro e w2 ⟨rfl, f2⟩
      have u1 := cell_at ((f1.trans f2).block hbx) 1 (.string xp) rfl
      have u2 := cell_at ((f1.trans f2).block hbx) 2 (.slice A na c) rfl
      have F2 := Lib.hid ((FB.out.trans f1).trans f2)
      go_wp2_with fail
      refine (CA.out _ F2.out).mono ?_
      rintro e w3 ⟨rfl, f3⟩
      go_wp2
      go_ret
      exact ⟨by first | rfl | simp, F2.out.trans f3⟩
  ·obtain rfl : b = false := by rw [← hb2.out]; simp [hr]
   have hrb : (xr == 0) = false := by rw [beq_eq_false_iff_ne]; exact hr
   rcases hk with rfl | rfl
   all_goals
    go_enter Tryz.func257, Tryz.ntmps257
    go_wp2
    go_ret
    exact ⟨by first | rfl | simp, FB.out⟩
 ·have hk1 : ¬ xk = 1 := fun h => hk (.inl h)
  have hk2 : ¬ xk = 2 := fun h => hk (.inr h)
  by_cases hk3 : xk = 3
  ·subst hk3
   have hb2 := Lib.hid (show (decide (xp.toList = []) && decide (na = 0) && decide (1 ≤ xr) && decide (xr ≤ 6) && xl && xd) = b by rw [← hb.out, if_neg hk, if_pos rfl])
   clear hb hk hk1 hk2
   by_cases hp : xp.toList = []
   ·by_cases hn : na = 0
    ·subst hn
     by_cases hr1 : 1 ≤ xr
     ·have hr1' : ¬ xr < 1 := by omega
      by_cases hr6 : xr ≤ 6
      ·have hr6' : ¬ xr > 6 := by omega
       cases xl
       ·obtain rfl : b = false := by rw [← hb2.out]; simp
        go_enter Tryz.func257, Tryz.ntmps257
        go_wp2_with fail
        refine (XL.out _ FB.out).mono ?_
        rintro e w1 ⟨rfl, f1⟩
        go_wp2
        go_ret
        exact ⟨by first | rfl | simp, FB.out.trans f1⟩
       ·obtain rfl : b = xd := by rw [← hb2.out]; simp [hp, hr1, hr6]
        clear hb2
        cases b
        all_goals
         go_enter Tryz.func257, Tryz.ntmps257
         go_wp2_with fail
         refine (XL.out _ FB.out).mono ?_
         rintro e w1 ⟨rfl, f1⟩
         have y10 := cell_at (f1.block hbx) 10 (.int .i8 do') rfl
         have y11 := cell_at (f1.block hbx) 11 (.string dt.v) rfl
         have y12 := cell_at (f1.block hbx) 12 (.int .i8 dt.x.k) rfl
         have y13 := cell_at (f1.block hbx) 13 (.int .i64 dt.x.n) rfl
         have y14 := cell_at (f1.block hbx) 14 (.string dt.x.s) rfl
         have y15 := cell_at (f1.block hbx) 15 (.slice Ad nd cd) rfl
         have F1 := Lib.hid (FB.out.trans f1)
         go_wp2_with fail
         refine (XD.out _ F1.out).mono ?_
         rintro e w2 ⟨rfl, f2⟩
         go_wp2
         go_ret
         exact ⟨by first | rfl | simp, F1.out.trans f2⟩
      ·have hr6' : xr > 6 := by omega
       obtain rfl : b = false := by rw [← hb2.out]; simp [hr6]
       go_enter Tryz.func257, Tryz.ntmps257
       go_wp2
       go_ret
       exact ⟨by first | rfl | simp, FB.out⟩
     ·have hr1' : xr < 1 := by omega
      obtain rfl : b = false := by rw [← hb2.out]; simp [hr1]
      go_enter Tryz.func257, Tryz.ntmps257
      go_wp2
      go_ret
      exact ⟨by first | rfl | simp, FB.out⟩
    ·obtain rfl : b = false := by rw [← hb2.out]; simp [hn]
     have hnI : (na : Int) > 0 := by omega
     have hnN : 0 < na := by omega
     go_enter Tryz.func257, Tryz.ntmps257
     go_wp2
     go_ret
     exact ⟨by first | rfl | simp, FB.out⟩
   ·obtain rfl : b = false := by rw [← hb2.out]; simp [hp]
    have hpb : (xp.toList == []) = false := by rw [beq_eq_false_iff_ne]; exact hp
    go_enter Tryz.func257, Tryz.ntmps257
    go_wp2
    go_ret
    exact ⟨by first | rfl | simp, FB.out⟩
  ·obtain rfl : b = false := by rw [← hb.out, if_neg hk, if_neg hk3]
   go_enter Tryz.func257, Tryz.ntmps257
   go_wp2
   go_ret
   exact ⟨by first | rfl | simp, FB.out⟩
end Go.Proofs.YtdjffkkbjbiihaaGreatDoor
